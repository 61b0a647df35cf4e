/- What kinds of packets bear: contracts of package head and of the reference anabranchref09. No conditions. -/
import Derived.Test.YtnhfhnphmjhamaaBase
import Derived.Test.YtnhfhnphmjhamaaPlHead
namespace Go.Proofs.Ytnhfhnphmjhamaa
set_option linter.unusedVariables false
set_option linter.unusedSimpArgs false
open Go.RowKit

theorem head_tab (a b c d e : Bool) (k : Int) (h : (a, b, c, d, e) = Head.of5 k) : Ending.returned (.agg #[.bool a, .bool b, .bool c, .bool d, .bool e]) = Ending.returned (.agg #[.bool (Head.known k), .bool (Head.acks k), .bool (Head.bears k), .bool (Head.more k), .bool (Head.brief k)]) := by
  rw [Head.of5_eq] at h
  simp only [Prod.mk.injEq] at h
  rw [h.1, h.2.1, h.2.2.1, h.2.2.2.1, h.2.2.2.2]
set_option maxHeartbeats 1000000 in
set_option maxRecDepth 100000 in
theorem head_of (k : Int) (w : World) : Calls Try.prog 81 #[.int .i64 k] w fun e w' => e = .returned (.agg #[.bool (Head.known k), .bool (Head.acks k), .bool (Head.bears k), .bool (Head.more k), .bool (Head.brief k)]) ∧ Below w.heap.size w w' := by
  go_enter Try.func81, Try.ntmps81
  go_wp2
  all_goals (go_returns; go_light)
  all_goals refine ⟨?_, by (repeat' (first | (with_reducible exact Below.refl _ _) | (with_reducible refine below_alloc ?_ _) | (with_reducible refine Below.drew ?_) | (with_reducible refine below_drewN ?_ _) | (with_reducible refine Below.setCell ?_ ?_ _) | (with_reducible assumption) | (with_reducible refine below_of ?_ (by assumption)) | omega | (simp only [World.size_alloc, World.size_setCell, World.size_drew, size_drewN] at *; omega) | (simp; omega)))⟩
  all_goals refine head_tab _ _ _ _ _ k ?_
  all_goals simp only [Head.of5, *, ↓reduceIte, Bool.false_eq_true]
end Go.Proofs.Ytnhfhnphmjhamaa
