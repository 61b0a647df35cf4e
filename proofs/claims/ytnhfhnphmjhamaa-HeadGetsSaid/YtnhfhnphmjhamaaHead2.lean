/- What kinds of packets bear: contracts of package head and of the reference anabranchref09, on. No conditions. -/
import Derived.Test.YtnhfhnphmjhamaaHead
namespace Go.Proofs.Ytnhfhnphmjhamaa
set_option linter.unusedVariables false
set_option linter.unusedSimpArgs false
open Go.RowKit

theorem field_traits (a b c d e : Bool) (w : World) : (Instr.field 105 (.agg #[.bool a, .bool b, .bool c, .bool d, .bool e]) 1).run Try.prog w = .ok (.bool b) w ∧ (Instr.field 105 (.agg #[.bool a, .bool b, .bool c, .bool d, .bool e]) 2).run Try.prog w = .ok (.bool c) w :=
  ⟨by kernel_rfl, by kernel_rfl⟩
theorem head_acks (k : Int) (w : World) : Calls Try.prog 45 #[.int .i64 k] w fun e w' => e = .returned (.bool (Head.acks k)) ∧ Below w.heap.size w w' := by
  have F := fun a b c d e w => (field_traits a b c d e w).1
  go_enter Try.func45, Try.ntmps45
  go_wp2_with (go_at_call 81; refine (head_of _ _).mono ?_; rintro e w1 ⟨rfl, hb⟩; have hz := hb.size; (try simp only [World.size_alloc, World.size_setCell, World.size_drew, size_drewN] at hz))
  go_returns
  exact ⟨rfl, hb⟩
theorem head_bears (k : Int) (w : World) : Calls Try.prog 47 #[.int .i64 k] w fun e w' => e = .returned (.bool (Head.bears k)) ∧ Below w.heap.size w w' := by
  have F := fun a b c d e w => (field_traits a b c d e w).2
  go_enter Try.func47, Try.ntmps47
  go_wp2_with (go_at_call 81; refine (head_of _ _).mono ?_; rintro e w1 ⟨rfl, hb⟩; have hz := hb.size; (try simp only [World.size_alloc, World.size_setCell, World.size_drew, size_drewN] at hz))
  go_returns
  exact ⟨rfl, hb⟩
theorem head_within (n m : Int) (w : World) : Calls Try.prog 82 #[.int .i64 n, .int .i64 m] w fun e w' => e = .returned (.bool (Head.wi n m)) ∧ w = w' := by
  by_cases h1 : 0 ≤ n
  · have e1 : decide (0 ≤ n) = true := by simpa using h1
    go_enter Try.func82, Try.ntmps82
    go_wp2
    go_ret
    exact ⟨ret_b (by simp [Head.wi, h1]), rfl⟩
  · have e1 : decide (0 ≤ n) = false := by simpa using h1
    go_enter Try.func82, Try.ntmps82
    go_wp2
    go_ret
    exact ⟨ret_b (by simp [Head.wi]; omega), rfl⟩
theorem head_pick (b : Bool) (x y : Int) (w : World) : Calls Try.prog 83 #[.bool b, .int .i64 x, .int .i64 y] w fun e w' => e = .returned (.int .i64 (if b = true then x else y)) ∧ w = w' := by
  cases b
  · go_enter Try.func83, Try.ntmps83
    go_wp2
    go_ret
    exact ⟨rfl, rfl⟩
  · go_enter Try.func83, Try.ntmps83
    go_wp2
    go_ret
    exact ⟨rfl, rfl⟩
theorem head_size (k : Int) (long : Bool) (w : World) : Calls Try.prog 49 #[.int .i64 k, .bool long] w fun e w' => e = .returned (.int .i64 (Head.size k long)) ∧ Below w.heap.size w w' := by
  have HS : Hid (∀ r, (if Head.known k = false ∨ (long = false ∧ Head.brief k = false) then 0 else (if long then 16 else 12) + (if Head.acks k then (if long then 8 else 4) else 0) + (if Head.more k then 4 else 0)) = r → Head.size k long = r) := fun r h => h
  generalize Head.size k long = r at *
  go_enter Try.func49, Try.ntmps49
  go_wp2_with fail
  refine (head_of _ _).mono ?_
  generalize Head.known k = a at *
  generalize Head.acks k = b at *
  generalize Head.bears k = c at *
  generalize Head.more k = d at *
  generalize Head.brief k = e at *
  rintro e' w1 ⟨rfl, hb⟩
  have hz := hb.size
  cases a
  · go_wp2
    all_goals (go_returns; go_light)
    all_goals exact ⟨ret_i (by rw [HS.out 0 (by simp)]), by (repeat' (first | (with_reducible exact Below.refl _ _) | (with_reducible refine below_alloc ?_ _) | (with_reducible refine Below.drew ?_) | (with_reducible refine below_drewN ?_ _) | (with_reducible refine Below.setCell ?_ ?_ _) | (with_reducible assumption) | (with_reducible refine below_of ?_ (by assumption)) | omega | (simp only [World.size_alloc, World.size_setCell, World.size_drew, size_drewN] at *; omega) | (simp; omega)))⟩
  · cases long
    · cases e
      · go_wp2
        all_goals (go_returns; go_light)
        all_goals exact ⟨ret_i (by rw [HS.out 0 (by simp)]), by (repeat' (first | (with_reducible exact Below.refl _ _) | (with_reducible refine below_alloc ?_ _) | (with_reducible refine Below.drew ?_) | (with_reducible refine below_drewN ?_ _) | (with_reducible refine Below.setCell ?_ ?_ _) | (with_reducible assumption) | (with_reducible refine below_of ?_ (by assumption)) | omega | (simp only [World.size_alloc, World.size_setCell, World.size_drew, size_drewN] at *; omega) | (simp; omega)))⟩
      · go_wp2_with (go_at_call 83; refine (head_pick _ _ _ _).mono ?_; rintro e w1 ⟨rfl, rfl⟩)
        all_goals (go_returns; go_light)
        all_goals exact ⟨ret_i (by rw [HS.out _ (by simp [*]; rfl)]), by (repeat' (first | (with_reducible exact Below.refl _ _) | (with_reducible refine below_alloc ?_ _) | (with_reducible refine Below.drew ?_) | (with_reducible refine below_drewN ?_ _) | (with_reducible refine Below.setCell ?_ ?_ _) | (with_reducible assumption) | (with_reducible refine below_of ?_ (by assumption)) | omega | (simp only [World.size_alloc, World.size_setCell, World.size_drew, size_drewN] at *; omega) | (simp; omega)))⟩
    · go_wp2_with (go_at_call 83; refine (head_pick _ _ _ _).mono ?_; rintro e w1 ⟨rfl, rfl⟩)
      all_goals (go_returns; go_light)
      all_goals exact ⟨ret_i (by rw [HS.out _ (by simp [*]; rfl)]), by (repeat' (first | (with_reducible exact Below.refl _ _) | (with_reducible refine below_alloc ?_ _) | (with_reducible refine Below.drew ?_) | (with_reducible refine below_drewN ?_ _) | (with_reducible refine Below.setCell ?_ ?_ _) | (with_reducible assumption) | (with_reducible refine below_of ?_ (by assumption)) | omega | (simp only [World.size_alloc, World.size_setCell, World.size_drew, size_drewN] at *; omega) | (simp; omega)))⟩
end Go.Proofs.Ytnhfhnphmjhamaa
