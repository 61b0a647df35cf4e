/- How long things may last (package bound): contracts of its functions, and of the law BoundReckons. No conditions. -/
import Derived.Test.YtnhfhnphmjhamaaBackoff
namespace Go.Proofs.Ytnhfhnphmjhamaa
open Go.RowKit Go.ChangeShapes Go.WideShapes

theorem opens_any (w : World) : Calls Try.prog 16 #[] w fun e w' => e = .returned (.int .i64 4) ∧ w = w' := by
  go_enter Try.func16, Try.ntmps16
  go_wp2
  go_ret
  exact ⟨rfl, rfl⟩
theorem held_any (w : World) : Calls Try.prog 18 #[] w fun e w' => e = .returned (.int .i64 60) ∧ w = w' := by
  go_enter Try.func18, Try.ntmps18
  go_wp2
  go_ret
  exact ⟨rfl, rfl⟩
theorem closes_any (w : World) : Calls Try.prog 19 #[] w fun e w' => e = .returned (.int .i64 528) ∧ w = w' := by
  go_enter Try.func19, Try.ntmps19
  go_wp2
  go_ret
  exact ⟨rfl, rfl⟩
theorem tries_any (w : World) : Calls Try.prog 17 #[] w fun e w' => e = .returned (.int .i64 312) ∧ Below w.heap.size w w' := by
  go_enter Try.func17, Try.ntmps17
  go_wp2_with (go_at_call 60; refine (longest_8 _).mono ?_; rintro e w1 ⟨rfl, hb⟩)
  go_ret
  exact ⟨rfl, hb⟩
theorem silent_any (w : World) : Calls Try.prog 20 #[] w fun e w' => e = .returned (.int .i64 1240) ∧ Below w.heap.size w w' := by
  go_enter Try.func20, Try.ntmps20
  go_wp2_with (go_at_call 17; refine (tries_any _).mono ?_; rintro e w1 ⟨rfl, hb⟩)
  go_ret
  exact ⟨rfl, hb⟩
def left (s : Int) : Int := if s = 2 then 312 else if s = 3 then 1240 else if s = 4 then 528 else 0
theorem left_any (s : Int) (c1 c2 c3 c4 c5 c6 c7 c8 c9 c10 c11 c12 c13 c14 c15 : Value) (w : World) :
    Calls Try.prog 15 #[.agg #[.int .i64 s, c1, c2, c3, c4, c5, c6, c7, c8, c9, c10, c11, c12, c13, c14, c15]] w fun e w' => e = .returned (.int .i64 (left s)) ∧ Below w.heap.size w w' := by
  go_enter Try.func15, Try.ntmps15
  go_wp2_with (first | (go_at_call 17; refine (tries_any _).mono ?_; rintro e w1 ⟨rfl, hb⟩; have hz := hb.size; try simp only [World.size_alloc, World.size_setCell, World.size_drew] at hz) | (go_at_call 20; refine (silent_any _).mono ?_; rintro e w1 ⟨rfl, hb⟩; have hz := hb.size; try simp only [World.size_alloc, World.size_setCell, World.size_drew] at hz) | (go_at_call 19; refine (closes_any _).mono ?_; rintro e w1 ⟨rfl, rfl⟩))
  all_goals (go_returns; go_light)
  all_goals refine ⟨?_, by (repeat' (first | (with_reducible exact Below.refl _ _) | (with_reducible refine below_alloc ?_ _) | (with_reducible refine Below.drew ?_) | (with_reducible refine Below.setCell ?_ ?_ _) | (with_reducible assumption) | (with_reducible refine below_of ?_ (by assumption)) | omega | (simp only [World.size_alloc, World.size_setCell, World.size_drew] at *; omega) | (simp; omega)))⟩
  all_goals simp_all [left]
theorem reckons_any (s : Int) (c1 c2 c3 c4 c5 c6 c7 c8 c9 c10 c11 c12 c13 c14 c15 : Value) (w : World) :
    Calls Try.prog 3 #[.agg #[.int .i64 s, c1, c2, c3, c4, c5, c6, c7, c8, c9, c10, c11, c12, c13, c14, c15]] w fun e w' => e = .returned (.bool true) ∧ Below w.heap.size w w' := by
  by_cases h2 : s = 2
  · subst h2
    go_enter Try.func3, Try.ntmps3
    go_wp2_with fail
    refine (left_any _ _ _ _ _ _ _ _ _ _ _ _ _ _ _ _ _).mono ?_
    rw [show left 2 = 312 from rfl]
    rintro e w1 ⟨rfl, hb⟩
    have hz := hb.size
    obtain ⟨hc, hf⟩ := bcell hb
    simp only [World.size_alloc] at hz
    go_wp2_with (first | (go_at_call 16; refine (opens_any _).mono ?_; rintro e w1 ⟨rfl, rfl⟩) | (go_at_call 18; refine (held_any _).mono ?_; rintro e w1 ⟨rfl, rfl⟩) | (go_at_call 19; refine (closes_any _).mono ?_; rintro e w1 ⟨rfl, rfl⟩) | (go_at_call 17; refine (tries_any _).mono ?_; rintro e w1 ⟨rfl, hb⟩; have hz := hb.size; try simp only [World.size_alloc, World.size_setCell, World.size_drew] at hz) | (go_at_call 20; refine (silent_any _).mono ?_; rintro e w1 ⟨rfl, hb⟩; have hz := hb.size; try simp only [World.size_alloc, World.size_setCell, World.size_drew] at hz))
    all_goals (go_returns; go_light; exact ⟨by simp_all, by (repeat' (first | (with_reducible exact Below.refl _ _) | (with_reducible refine below_alloc ?_ _) | (with_reducible refine Below.drew ?_) | (with_reducible refine Below.setCell ?_ ?_ _) | (with_reducible assumption) | (with_reducible refine below_of ?_ (by assumption)) | omega | (simp only [World.size_alloc, World.size_setCell, World.size_drew] at *; omega) | (simp; omega)))⟩)
  · by_cases h3 : s = 3
    · subst h3
      go_enter Try.func3, Try.ntmps3
      go_wp2_with fail
      refine (left_any _ _ _ _ _ _ _ _ _ _ _ _ _ _ _ _ _).mono ?_
      rw [show left 3 = 1240 from rfl]
      rintro e w1 ⟨rfl, hb⟩
      have hz := hb.size
      obtain ⟨hc, hf⟩ := bcell hb
      simp only [World.size_alloc] at hz
      go_wp2_with (first | (go_at_call 16; refine (opens_any _).mono ?_; rintro e w1 ⟨rfl, rfl⟩) | (go_at_call 18; refine (held_any _).mono ?_; rintro e w1 ⟨rfl, rfl⟩) | (go_at_call 19; refine (closes_any _).mono ?_; rintro e w1 ⟨rfl, rfl⟩) | (go_at_call 17; refine (tries_any _).mono ?_; rintro e w1 ⟨rfl, hb⟩; have hz := hb.size; try simp only [World.size_alloc, World.size_setCell, World.size_drew] at hz) | (go_at_call 20; refine (silent_any _).mono ?_; rintro e w1 ⟨rfl, hb⟩; have hz := hb.size; try simp only [World.size_alloc, World.size_setCell, World.size_drew] at hz))
      all_goals (go_returns; go_light; exact ⟨by simp_all, by (repeat' (first | (with_reducible exact Below.refl _ _) | (with_reducible refine below_alloc ?_ _) | (with_reducible refine Below.drew ?_) | (with_reducible refine Below.setCell ?_ ?_ _) | (with_reducible assumption) | (with_reducible refine below_of ?_ (by assumption)) | omega | (simp only [World.size_alloc, World.size_setCell, World.size_drew] at *; omega) | (simp; omega)))⟩)
    · by_cases h4 : s = 4
      · subst h4
        go_enter Try.func3, Try.ntmps3
        go_wp2_with fail
        refine (left_any _ _ _ _ _ _ _ _ _ _ _ _ _ _ _ _ _).mono ?_
        rw [show left 4 = 528 from rfl]
        rintro e w1 ⟨rfl, hb⟩
        have hz := hb.size
        obtain ⟨hc, hf⟩ := bcell hb
        simp only [World.size_alloc] at hz
        go_wp2_with (first | (go_at_call 16; refine (opens_any _).mono ?_; rintro e w1 ⟨rfl, rfl⟩) | (go_at_call 18; refine (held_any _).mono ?_; rintro e w1 ⟨rfl, rfl⟩) | (go_at_call 19; refine (closes_any _).mono ?_; rintro e w1 ⟨rfl, rfl⟩) | (go_at_call 17; refine (tries_any _).mono ?_; rintro e w1 ⟨rfl, hb⟩; have hz := hb.size; try simp only [World.size_alloc, World.size_setCell, World.size_drew] at hz) | (go_at_call 20; refine (silent_any _).mono ?_; rintro e w1 ⟨rfl, hb⟩; have hz := hb.size; try simp only [World.size_alloc, World.size_setCell, World.size_drew] at hz))
        all_goals (go_returns; go_light; exact ⟨by simp_all, by (repeat' (first | (with_reducible exact Below.refl _ _) | (with_reducible refine below_alloc ?_ _) | (with_reducible refine Below.drew ?_) | (with_reducible refine Below.setCell ?_ ?_ _) | (with_reducible assumption) | (with_reducible refine below_of ?_ (by assumption)) | omega | (simp only [World.size_alloc, World.size_setCell, World.size_drew] at *; omega) | (simp; omega)))⟩)
      · have e2 : (s == 2) = false := by simp [h2]
        have e3 : (s == 3) = false := by simp [h3]
        have e4 : (s == 4) = false := by simp [h4]
        have HL : Hid (left s = 0) := by show left s = 0; simp [left, h2, h3, h4]
        clear h2 h3 h4
        go_enter Try.func3, Try.ntmps3
        go_wp2_with fail
        refine (left_any _ _ _ _ _ _ _ _ _ _ _ _ _ _ _ _ _).mono ?_
        rw [HL.out]
        rintro e w1 ⟨rfl, hb⟩
        have hz := hb.size
        obtain ⟨hc, hf⟩ := bcell hb
        simp only [World.size_alloc] at hz
        go_wp2_with (first | (go_at_call 16; refine (opens_any _).mono ?_; rintro e w1 ⟨rfl, rfl⟩) | (go_at_call 18; refine (held_any _).mono ?_; rintro e w1 ⟨rfl, rfl⟩) | (go_at_call 19; refine (closes_any _).mono ?_; rintro e w1 ⟨rfl, rfl⟩) | (go_at_call 17; refine (tries_any _).mono ?_; rintro e w1 ⟨rfl, hb⟩; have hz := hb.size; try simp only [World.size_alloc, World.size_setCell, World.size_drew] at hz) | (go_at_call 20; refine (silent_any _).mono ?_; rintro e w1 ⟨rfl, hb⟩; have hz := hb.size; try simp only [World.size_alloc, World.size_setCell, World.size_drew] at hz))
        all_goals (go_returns; go_light; exact ⟨by simp_all, by (repeat' (first | (with_reducible exact Below.refl _ _) | (with_reducible refine below_alloc ?_ _) | (with_reducible refine Below.drew ?_) | (with_reducible refine Below.setCell ?_ ?_ _) | (with_reducible assumption) | (with_reducible refine below_of ?_ (by assumption)) | omega | (simp only [World.size_alloc, World.size_setCell, World.size_drew] at *; omega) | (simp; omega)))⟩)
end Go.Proofs.Ytnhfhnphmjhamaa
