/- Paths: a sort of one element: no call. No conditions. -/
import Derived.Test.YtenngklohffoaaaPthC
import Derived.Test.YtenngklohffoaaaStrs
namespace Go.Proofs.Ytenngklohffoaaa
set_option linter.unusedVariables false
set_option linter.unusedSimpArgs false
open Go.RowKit Sym

structure SoFn where
  pdq : Func
  ins : Func
  len : Func
  len64 : Func
def SSo0 (P : Program) (N : SoFn) : Tab := addI 54 P (onlyS P noS) noL N.len64 noS
def SSo (P : Program) (N : SoFn) : Tab := addI 35 P (onlyS P (SSo0 P N)) noL N.len (SSo0 P N)
def FSo0 (P : Program) (N : SoFn) : LTab := addT 45 (inl P (onlyS P noS) (LUn P (onlyS P noS) N.ins 1) N.ins) noF
abbrev CSo0 (P : Program) (N : SoFn) : Cfg := both P noS (FSo0 P N) []
def FSo1 (P : Program) (N : SoFn) : LTab := addT 34 (inl P (CSo0 P N) (LUn P (CSo0 P N) N.pdq 1) N.pdq) noF
abbrev CSo1 (P : Program) (N : SoFn) : Cfg := both P (SSo P N) (FSo1 P N) []
set_option maxRecDepth 100000 in
theorem sort1_run (f : Nat → Nat → Value) (c : Value) : runO Try.prog (CSo1 Try.prog ⟨Try.f34, Try.f45, Try.f35, Try.f54⟩) noL Try.f20 [.ref 0, .v c] [.row 1 1 f] = .ite false (.ite false (.ite false (.need ((0 : Int) ≤ (0 : Int) ∧ (0 : Int) < (256 : Int)) (.ite true (.ite false (T.stuck 3002) (.leaf (Value.tuple (Array.mk [])))) (.ite false (T.stuck 2046) (T.stuck 2048)))) (.need ((0 : Int) ≤ (0 : Int) ∧ (0 : Int) < (256 : Int)) (.ite true (.ite false (T.stuck 3002) (.leaf (Value.tuple (Array.mk [])))) (.ite false (T.stuck 2046) (T.stuck 2048))))) (.ite false (.need ((0 : Int) ≤ (0 : Int) ∧ (0 : Int) < (256 : Int)) (.ite true (.ite false (T.stuck 3002) (.leaf (Value.tuple (Array.mk [])))) (.ite false (T.stuck 2046) (T.stuck 2048)))) (.need ((0 : Int) ≤ (0 : Int) ∧ (0 : Int) < (256 : Int)) (.ite true (.ite false (T.stuck 3002) (.leaf (Value.tuple (Array.mk [])))) (.ite false (T.stuck 2046) (T.stuck 2048)))))) (.ite false (.ite false (.need ((0 : Int) ≤ (0 : Int) ∧ (0 : Int) < (256 : Int)) (.ite true (.ite false (T.stuck 3002) (.leaf (Value.tuple (Array.mk [])))) (.ite false (T.stuck 2046) (T.stuck 2048)))) (.need ((0 : Int) ≤ (0 : Int) ∧ (0 : Int) < (256 : Int)) (.ite true (.ite false (T.stuck 3002) (.leaf (Value.tuple (Array.mk [])))) (.ite false (T.stuck 2046) (T.stuck 2048))))) (.ite false (.need ((0 : Int) ≤ (0 : Int) ∧ (0 : Int) < (256 : Int)) (.ite true (.ite false (T.stuck 3002) (.leaf (Value.tuple (Array.mk [])))) (.ite false (T.stuck 2046) (T.stuck 2048)))) (.need ((0 : Int) ≤ (1 : Int) ∧ (1 : Int) < (256 : Int)) (.ite true (.ite false (T.stuck 3002) (.leaf (Value.tuple (Array.mk [])))) (.ite false (T.stuck 2046) (T.stuck 2048)))))) := by kernel_rfl
theorem SSo0_ok : TabOk Try.prog (SSo0 Try.prog ⟨Try.f34, Try.f45, Try.f35, Try.f54⟩) := addI_ok noS_ok (onlyS_ok noS_ok) follows Try.func54 (by kernel_rfl) (by kernel_rfl) (lexAllF_ok (by kernel_rfl)) (noloops (by kernel_rfl))
theorem SSo_ok : TabOk Try.prog (SSo Try.prog ⟨Try.f34, Try.f45, Try.f35, Try.f54⟩) := addI_ok SSo0_ok (onlyS_ok SSo0_ok) follows Try.func35 (by kernel_rfl) (by kernel_rfl) (lexAllF_ok (by kernel_rfl)) (noloops (by kernel_rfl))
theorem one_un' {C : Cfg} (hC : CfgOk Try.prog C) {fn : Func} (hl : loopsOf (fn.body.getD .skip) = [(0, loopAt fn 0)]) (hll : lexAll C (loopAt fn 0) = true) : ∀ id body, (id, body) ∈ loopsOf (fn.body.getD .skip) → ∀ st t, LUn Try.prog C fn 1 id st = some t → RunOk Try.prog fn.ntmps (.block id (.loop body)) st t :=
  one_loop hl fun st t h => by
    rw [addL_same h]; exact unroll_ok hC follows hll noL_ok 1 st
theorem FSo0_ok : LOk Try.prog (FSo0 Try.prog ⟨Try.f34, Try.f45, Try.f35, Try.f54⟩) := addT_ok noF_ok (by kernel_rfl) (inl_ok (onlyS_ok noS_ok) follows Try.func45 (by kernel_rfl) (lexAllF_ok (by kernel_rfl)) (one_un' (onlyS_ok noS_ok) (by kernel_rfl) (lexAllF_ok (by kernel_rfl))))
theorem CSo0_ok : CfgOk Try.prog (CSo0 Try.prog ⟨Try.f34, Try.f45, Try.f35, Try.f54⟩) := both_ok noS_ok FSo0_ok
theorem FSo1_ok : LOk Try.prog (FSo1 Try.prog ⟨Try.f34, Try.f45, Try.f35, Try.f54⟩) := addT_ok noF_ok (by kernel_rfl) (inl_ok CSo0_ok follows Try.func34 (by kernel_rfl) (lexAllF_ok (by kernel_rfl)) (one_un' CSo0_ok (by kernel_rfl) (lexAllF_ok (by kernel_rfl))))
/-- a sort of one element changes nothing -/
theorem sort1 (f : Nat → Nat → Value) (c u : Value) (w : World) (hu : ∀ B, BlkSat B w u (.row 1 1 f)) : Calls Try.prog 20 #[u, c] w fun e w' => e = .returned (.tuple #[]) ∧ Below w.heap.size w w' := by
  refine calls_runO (v := .tuple #[]) (both_ok SSo_ok FSo1_ok) follows Try.func20 (by kernel_rfl) (lexAllF_ok (by kernel_rfl)) (noloops (by kernel_rfl)) (sort1_run f c) ?_ (mem_row (hu _)) rfl
  repeat' (first | (with_reducible refine t_need ?_ ?_) | (with_reducible refine t_ite ?_ ?_; all_goals intro h; all_goals (first | (cases h; done) | skip)) | (with_reducible refine t_leaf ?_))
  all_goals first | rfl | omega | contradiction
end Go.Proofs.Ytenngklohffoaaa
