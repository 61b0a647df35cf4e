/- What is said again, ever more seldom (package backoff): contracts of its functions. No conditions. -/
import Derived.Test.YtnhfhnphmjhamaaBase
namespace Go.Proofs.Ytnhfhnphmjhamaa
open Go.RowKit

theorem begin_any (n : Int) (w : World) : Calls Try.prog 100 #[.int .i64 n] w fun e w' => e = .returned (.agg #[.int .i64 (min (max n 1) 64), .int .i64 (min (max n 1) 64), .int .i64 0]) ∧ Below w.heap.size w w' := by
  by_cases h1 : n < 1
  · have e1 : min (max n 1) 64 = 1 := by omega
    rw [e1]; clear e1
    go_enter Try.func100, Try.ntmps100
    go_wp2
    go_returns
    exact ⟨rfl, by go_grown⟩
  · by_cases h2 : 64 < n
    · have e1 : min (max n 1) 64 = 64 := by omega
      rw [e1]; clear e1
      go_enter Try.func100, Try.ntmps100
      go_wp2
      go_returns
      exact ⟨rfl, by go_grown⟩
    · have e1 : min (max n 1) 64 = n := by omega
      rw [e1]; clear e1
      go_enter Try.func100, Try.ntmps100
      go_wp2
      go_returns
      exact ⟨rfl, by go_grown⟩

theorem waits_any (a b c : Int) (w : World) : Calls Try.prog 122 #[.agg #[.int .i64 a, .int .i64 b, .int .i64 c]] w fun e w' => e = .returned (.bool (!(a == 0 && b == 0))) ∧ Below w.heap.size w w' := by
  go_enter Try.func122, Try.ntmps122
  go_wp2
  all_goals (go_returns; exact ⟨by simp [*], by go_grown⟩)

/-- (next, say, over) -/
def tick (s : Int × Int × Int) : (Int × Int × Int) × Bool × Bool :=
  if s.1 = 0 ∧ s.2.1 = 0 then (s, false, false)
  else if 0 < wrap64 (s.2.1 - 1) then ((s.1, wrap64 (s.2.1 - 1), s.2.2), false, false)
  else if 6 ≤ s.2.2 then ((0, 0, s.2.2), false, true)
  else ((min (wrap64 (2 * s.1)) 64, min (wrap64 (2 * s.1)) 64, wrap64 (s.2.2 + 1)), true, false)
theorem tick_any (a b c : Int) (w : World) : Calls Try.prog 101 #[.agg #[.int .i64 a, .int .i64 b, .int .i64 c]] w fun e w' => e = .returned (.tuple #[.agg #[.int .i64 (tick (a, b, c)).1.1, .int .i64 (tick (a, b, c)).1.2.1, .int .i64 (tick (a, b, c)).1.2.2], .bool (tick (a, b, c)).2.1, .bool (tick (a, b, c)).2.2]) ∧ Below w.heap.size w w' := by
  go_enter Try.func101, Try.ntmps101
  go_wp2
  all_goals (go_returns; refine ⟨?_, by go_grown⟩)
  all_goals go_light
  all_goals have w0 : wrap64 0 = 0 := by unfold wrap64; decide
  all_goals (simp (disch := omega) [tick, if_pos, if_neg, *])
  all_goals omega
def st : Nat → Int × Int × Int
  | 0 => (8, 8, 0)
  | k + 1 => (tick (st k)).1
theorem st_tick : ∀ k, k < 312 → (tick (st k)).2.2 = decide (k = 311) := by decide +kernel
set_option maxHeartbeats 1000000 in
theorem longest_8 (w : World) : Calls Try.prog 60 #[.int .i64 8] w fun e w' => e = .returned (.int .i64 312) ∧ Below w.heap.size w w' := by
  go_enter Try.func60, Try.ntmps60
  go_wp2_with (go_at_call 100; refine (begin_any _ _).mono ?_; rw [show min (max (8 : Int) 1) 64 = 8 from by decide]; rintro e w1 ⟨rfl, hb⟩)
  go_loopw [3, 4, 5] (fun n over p wr => ∃ (k : Nat) (B : Nat), k ≤ 312 ∧ n = .int .i64 k ∧ over = .bool (decide (k = 312)) ∧ p = .pointer (some ⟨B, 0, none⟩) ∧ w.heap.size ≤ B ∧ B < wr.heap.size ∧
      wr.cell? ⟨B, 0, none⟩ = some (.int .i64 (st k).1) ∧ wr.cell? ⟨B, 1, none⟩ = some (.int .i64 (st k).2.1) ∧ wr.cell? ⟨B, 2, none⟩ = some (.int .i64 (st k).2.2) ∧ (∀ o, wr.frozen? ⟨B, o, none⟩ = false) ∧ Below w.heap.size w wr)
    (fun n _ _ _ => 312 - (intOf n).toNat)
  case atStart =>
    exact ⟨0, w1.heap.size, by omega, rfl, rfl, rfl, hb.size, by simp, by simp [st], by simp [st], by simp [st], by simp, by have := hb.size; go_grown⟩
  case round =>
    obtain ⟨k, B, hk, rfl, rfl, rfl, hB, hBl, h0, h1, h2, hfr, hbl⟩ := hrel
    have hst : Hid (st (k + 1) = (tick (st k)).1) := rfl
    have hov := st_tick k
    generalize st k = s at *
    obtain ⟨a, b, c⟩ := s
    by_cases hlt : k < 312
    · have hd : decide (k = 312) = false := by simp; omega
      have hov := hov hlt
      go_wp2_with (go_at_call 101; refine (tick_any _ _ _ _).mono ?_; rintro e w2 ⟨rfl, hb2⟩; obtain ⟨hc, hf⟩ := bcell hb2; have hz := hb2.size)
      go_roundw
      case rel =>
        go_light
        refine ⟨k + 1, w2.heap.size, by omega, by go_num, ?_, rfl, by omega, by simp, ?_, ?_, ?_, ?_, ?_⟩
        · congr 1; rw [decide_eq_decide]; omega
        · rw [hst.out]; simp [go_sem]
        · rw [hst.out]; simp [go_sem]
        · rw [hst.out]; simp [go_sem]
        · simp [go_sem]
        · have := hbl.trans (hb2.mono (by omega)); go_grown
      case measure => go_light; simp [intOf]; omega
    · obtain rfl : k = 312 := by omega
      go_wp2
      go_ret
      exact ⟨rfl, hbl⟩
end Go.Proofs.Ytnhfhnphmjhamaa
