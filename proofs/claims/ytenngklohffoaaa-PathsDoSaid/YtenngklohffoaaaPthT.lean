/- Paths: a place's number and back; trees. No conditions. -/
import Derived.Test.YtenngklohffoaaaPthC
namespace Go.Proofs.Ytenngklohffoaaa
set_option linter.unusedVariables false
set_option linter.unusedSimpArgs false
open Go.RowKit Sym
set_option maxRecDepth 100000 in
theorem id23_run  : runV Try.prog (onlyS Try.prog (SPt0 Try.prog ⟨Try.f8, Try.f7, Try.f6, Try.f9, Try.f10, Try.f11, Try.f12, Try.f14, Try.f15, Try.f26⟩)) noL Try.f14 [.agg #[.int .i64 2, .int .i64 3]] = .leaf (Value.int IntKind.i64 35) := by kernel_rfl
set_option maxRecDepth 100000 in
theorem pl35_run  : runV Try.prog (onlyS Try.prog noS) noL Try.f15 [.int .i64 35] = .leaf (Value.agg (Array.mk [Value.int IntKind.i64 2, Value.int IntKind.i64 3])) := by kernel_rfl
theorem id23 (w : World) : Calls Try.prog 14 #[.agg #[.int .i64 2, .int .i64 3]] w fun e w' => e = .returned (.int .i64 35) ∧ Below w.heap.size w w' := by
  refine calls_runV (onlyS_ok SPt0_ok) follows Try.func14 (by kernel_rfl) (by kernel_rfl) (noloops (by kernel_rfl)) id23_run ?_ w
  first | exact t_leaf rfl | (repeat' (first | (refine t_need ?_ ?_) | (refine t_ite ?_ ?_ <;> intro h) | (refine t_leaf ?_))) <;> first | rfl | (cases h)
theorem pl35 (w : World) : Calls Try.prog 15 #[.int .i64 35] w fun e w' => e = .returned (.agg #[.int .i64 2, .int .i64 3]) ∧ Below w.heap.size w w' := by
  refine calls_runV (onlyS_ok noS_ok) follows Try.func15 (by kernel_rfl) (by kernel_rfl) (noloops (by kernel_rfl)) pl35_run ?_ w
  first | exact t_leaf rfl | (repeat' (first | (refine t_need ?_ ?_) | (refine t_ite ?_ ?_ <;> intro h) | (refine t_leaf ?_))) <;> first | rfl | (cases h)
end Go.Proofs.Ytenngklohffoaaa
