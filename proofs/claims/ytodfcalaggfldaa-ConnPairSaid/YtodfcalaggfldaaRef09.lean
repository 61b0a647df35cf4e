/- What kinds of packets bear: contracts of the reference anabranchref09. No conditions. -/
import Derived.Test.YtodfcalaggfldaaBase
import Derived.Test.YtodfcalaggfldaaHdA
namespace Go.Proofs.Ytodfcalaggfldaa
set_option linter.unusedVariables false
set_option linter.unusedSimpArgs false
open Go.RowKit

theorem ref09_acks (k : Int) (w : World) : Calls Try.prog 61 #[.int .i64 k] w fun e w' => e = .returned (.bool (Head.acks k)) ∧ w = w' := by
  go_enter Try.func61, Try.ntmps61
  go_wp2
  all_goals (go_returns; go_light)
  all_goals exact ⟨ret_b (by (first | rfl | (rw [Bool.eq_iff_iff]; simp [Head.acks]; done) | (rw [Bool.eq_iff_iff]; simp [Head.acks]; omega))), rfl⟩
theorem ref09_bears (k : Int) (w : World) : Calls Try.prog 113 #[.int .i64 k] w fun e w' => e = .returned (.bool (Head.bears k)) ∧ w = w' := by
  go_enter Try.func113, Try.ntmps113
  go_wp2
  all_goals (go_returns; go_light)
  all_goals exact ⟨ret_b (by (first | rfl | (rw [Bool.eq_iff_iff]; simp [Head.bears]; done) | (rw [Bool.eq_iff_iff]; simp [Head.bears]; omega))), rfl⟩
theorem ref09_off (n m : Int) (w : World) : Calls Try.prog 111 #[.int .i64 n, .int .i64 m] w fun e w' => e = .returned (.bool (!decide (0 ≤ n ∧ n < m))) ∧ w = w' := by
  go_enter Try.func111, Try.ntmps111
  go_wp2
  all_goals (go_returns; go_light)
  all_goals exact ⟨ret_b (by (first | rfl | (rw [Bool.eq_iff_iff]; simp [decide_eq_true_eq]; done) | (rw [Bool.eq_iff_iff]; simp [decide_eq_true_eq]; omega))), rfl⟩
set_option maxHeartbeats 1000000 in
theorem ref09_size (k : Int) (long : Bool) (w : World) : Calls Try.prog 110 #[.int .i64 k, .bool long] w fun e w' => e = .returned (.int .i64 (Head.size k long)) ∧ w = w' := by
  go_enter Try.func110, Try.ntmps110
  go_wp2_with (go_at_call 61; refine (ref09_acks _ _).mono ?_; rintro e w1 ⟨rfl, rfl⟩)
  all_goals (go_returns; go_light)
  all_goals refine ⟨ret_i ?_, rfl⟩
  all_goals simp only [Head.size, Head.known, Head.acks, Head.more, Head.brief, Bool.false_eq_true, ↓reduceIte, decide_eq_true_eq, decide_eq_false_iff_not, Bool.true_eq_false, true_and, false_and, or_false, beq_iff_eq, beq_eq_false_iff_ne, ne_eq, Bool.not_eq_true] at *
  all_goals (repeat' split)
  all_goals first | rfl | omega | (simp_all; done) | (simp_all; omega) | skip
end Go.Proofs.Ytodfcalaggfldaa
