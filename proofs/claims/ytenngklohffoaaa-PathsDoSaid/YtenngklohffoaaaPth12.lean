/- Paths: a pointer is itself. No conditions. -/
import Derived.Test.YtenngklohffoaaaPthP
import Derived.LaidEql
namespace Go.Proofs.Ytenngklohffoaaa
set_option linter.unusedVariables false
set_option linter.unusedSimpArgs false
open Go.RowKit Sym

theorem path_infoP : (Try.prog.info? 34).map (fun i => i.size) = some 16 := by kernel_rfl
theorem ptr_neq (a : Addr) (W : World) : (binOp .neq 28 (.pointer (some a)) (.pointer (some a))).run Try.prog W = .ok (.bool false) W := by
  have hs : (sizeOf 34).run Try.prog W = .ok 16 W := by kernel_rfl
  have hq : (Op.equalIn (9999 + 1) 28 (.pointer (some a)) (.pointer (some a))).run Try.prog W = .ok true W := by
    unfold Op.equalIn
    simp [run_underlying Try.underlying28, hs, run_sameAddr_same, Result.andThen]
  show ((Op.equalIn (9999 + 1) 28 (.pointer (some a)) (.pointer (some a))) >>= fun b => pure (Value.bool (!b))).run Try.prog W = _
  rw [Sem.run_bind, hq]
  rfl
end Go.Proofs.Ytenngklohffoaaa
