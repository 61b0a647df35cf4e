/- What is said again, ever more seldom (package backoff): contracts of its functions. No conditions. -/
import Derived.Test.YtodfcalaggfldaaBase
namespace Go.Proofs.Ytodfcalaggfldaa
set_option linter.unusedVariables false
set_option linter.unusedSimpArgs false
open Go.RowKit

theorem begin_any (n : Int) (w : World) : Calls Try.prog 71 #[.int .i64 n] w fun e w' => e = .returned (.agg #[.int .i64 (min (max n 1) 64), .int .i64 (min (max n 1) 64), .int .i64 0]) ∧ Below w.heap.size w w' := by
  by_cases h1 : n < 1
  · have e1 : min (max n 1) 64 = 1 := by omega
    rw [e1]; clear e1
    go_enter Try.func71, Try.ntmps71
    go_wp2
    go_returns
    exact ⟨rfl, by go_grown⟩
  · by_cases h2 : 64 < n
    · have e1 : min (max n 1) 64 = 64 := by omega
      rw [e1]; clear e1
      go_enter Try.func71, Try.ntmps71
      go_wp2
      go_returns
      exact ⟨rfl, by go_grown⟩
    · have e1 : min (max n 1) 64 = n := by omega
      rw [e1]; clear e1
      go_enter Try.func71, Try.ntmps71
      go_wp2
      go_returns
      exact ⟨rfl, by go_grown⟩

theorem waits_any (a b c : Int) (w : World) : Calls Try.prog 82 #[.agg #[.int .i64 a, .int .i64 b, .int .i64 c]] w fun e w' => e = .returned (.bool (!(a == 0 && b == 0))) ∧ Below w.heap.size w w' := by
  go_enter Try.func82, Try.ntmps82
  go_wp2
  all_goals (go_returns; exact ⟨by simp [*], by go_grown⟩)

/-- (next, say, over) -/
def tick (s : Int × Int × Int) : (Int × Int × Int) × Bool × Bool :=
  if s.1 = 0 ∧ s.2.1 = 0 then (s, false, false)
  else if 0 < wrap64 (s.2.1 - 1) then ((s.1, wrap64 (s.2.1 - 1), s.2.2), false, false)
  else if 6 ≤ s.2.2 then ((0, 0, s.2.2), false, true)
  else ((min (wrap64 (2 * s.1)) 64, min (wrap64 (2 * s.1)) 64, wrap64 (s.2.2 + 1)), true, false)
theorem tick_any (a b c : Int) (w : World) : Calls Try.prog 42 #[.agg #[.int .i64 a, .int .i64 b, .int .i64 c]] w fun e w' => e = .returned (.tuple #[.agg #[.int .i64 (tick (a, b, c)).1.1, .int .i64 (tick (a, b, c)).1.2.1, .int .i64 (tick (a, b, c)).1.2.2], .bool (tick (a, b, c)).2.1, .bool (tick (a, b, c)).2.2]) ∧ Below w.heap.size w w' := by
  go_enter Try.func42, Try.ntmps42
  go_wp2
  all_goals (go_returns; refine ⟨?_, by go_grown⟩)
  all_goals go_light
  all_goals have w0 : wrap64 0 = 0 := by unfold wrap64; decide
  all_goals (simp (disch := omega) [tick, if_pos, if_neg, *])
  all_goals omega
def st : Nat → Int × Int × Int
  | 0 => (8, 8, 0)
  | k + 1 => (tick (st k)).1
theorem st_tick : ∀ k, k < 312 → (tick (st k)).2.2 = decide (k = 311) := by decide +kernel
end Go.Proofs.Ytodfcalaggfldaa
