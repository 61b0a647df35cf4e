/- Paths: PathsNumbers, but for the anchor. No conditions. -/
import Derived.Test.YtenngklohffoaaaPthB
namespace Go.Proofs.Ytenngklohffoaaa
set_option linter.unusedVariables false
set_option linter.unusedSimpArgs false
open Go.RowKit Sym Go.ChangeShapes Go.WideShapes Go.ChangeMaps

theorem SPt0_ok : TabOk Try.prog (SPt0 Try.prog ⟨Try.f8, Try.f7, Try.f6, Try.f9, Try.f10, Try.f11, Try.f12, Try.f14, Try.f15, Try.f26⟩) := addI_ok noS_ok (onlyS_ok noS_ok) follows Try.func26 (by kernel_rfl) (by kernel_rfl) (lexAllF_ok (by kernel_rfl)) (noloops (by kernel_rfl))
theorem SPt1_ok : TabOk Try.prog (SPt1 Try.prog ⟨Try.f8, Try.f7, Try.f6, Try.f9, Try.f10, Try.f11, Try.f12, Try.f14, Try.f15, Try.f26⟩) :=
  addI_ok (addI_ok SPt0_ok (onlyS_ok noS_ok) follows Try.func15 (by kernel_rfl) (by kernel_rfl) (lexAllF_ok (by kernel_rfl)) (noloops (by kernel_rfl))) (onlyS_ok SPt0_ok) follows Try.func14 (by kernel_rfl) (by kernel_rfl) (lexAllF_ok (by kernel_rfl)) (noloops (by kernel_rfl))
theorem FPt0_ok : LOk Try.prog (FPt0 Try.prog ⟨Try.f8, Try.f7, Try.f6, Try.f9, Try.f10, Try.f11, Try.f12, Try.f14, Try.f15, Try.f26⟩) := addT_ok noF_ok (by kernel_rfl) (inl_ok (onlyS_ok noS_ok) follows Try.func8 (by kernel_rfl) (lexAllF_ok (by kernel_rfl)) noL_ok)
theorem CPt0_ok : CfgOk Try.prog (CPt0 Try.prog ⟨Try.f8, Try.f7, Try.f6, Try.f9, Try.f10, Try.f11, Try.f12, Try.f14, Try.f15, Try.f26⟩) := both_ok noS_ok FPt0_ok
theorem one_un {C : Cfg} (hC : CfgOk Try.prog C) {fn : Func} (hl : loopsOf (fn.body.getD .skip) = [(0, loopAt fn 0)]) (hll : lexAll C (loopAt fn 0) = true) (hn : loopsOf (loopAt fn 0) = []) : ∀ id body, (id, body) ∈ loopsOf (fn.body.getD .skip) → ∀ st t, LUn Try.prog C fn 1 id st = some t → RunOk Try.prog fn.ntmps (.block id (.loop body)) st t :=
  one_loop hl fun st t h => by
    rw [addL_same h]; exact unroll_ok hC follows hll (fun _ _ h => by rw [hn] at h; simp at h) 1 st
theorem FPt1_ok : LOk Try.prog (FPt1 Try.prog ⟨Try.f8, Try.f7, Try.f6, Try.f9, Try.f10, Try.f11, Try.f12, Try.f14, Try.f15, Try.f26⟩) :=
  addT_ok (addT_ok (addT_ok (addT_ok (addT_ok FPt0_ok
    (by kernel_rfl) (inl_ok (onlyS_ok noS_ok) follows Try.func7 (by kernel_rfl) (lexAllF_ok (by kernel_rfl)) (noloops (by kernel_rfl))))
    (by kernel_rfl) (inl_ok (onlyS_ok SPt1_ok) follows Try.func6 (by kernel_rfl) (lexAllF_ok (by kernel_rfl)) (noloops (by kernel_rfl))))
    (by kernel_rfl) (inl_ok CPt0_ok follows Try.func11 (by kernel_rfl) (lexAllF_ok (by kernel_rfl)) (one_un CPt0_ok (by kernel_rfl) (lexAllF_ok (by kernel_rfl)) (by kernel_rfl))))
    (by kernel_rfl) (inl_ok CPt0_ok follows Try.func10 (by kernel_rfl) (lexAllF_ok (by kernel_rfl)) (one_un CPt0_ok (by kernel_rfl) (lexAllF_ok (by kernel_rfl)) (by kernel_rfl))))
    (by kernel_rfl) (inl_ok CPt0_ok follows Try.func9 (by kernel_rfl) (lexAllF_ok (by kernel_rfl)) (one_un CPt0_ok (by kernel_rfl) (lexAllF_ok (by kernel_rfl)) (by kernel_rfl)))
theorem CPt1_ok : CfgOk Try.prog (CPt1 Try.prog ⟨Try.f8, Try.f7, Try.f6, Try.f9, Try.f10, Try.f11, Try.f12, Try.f14, Try.f15, Try.f26⟩) := both_ok noS_ok FPt1_ok
theorem FPt2_ok : LOk Try.prog (FPt2 Try.prog ⟨Try.f8, Try.f7, Try.f6, Try.f9, Try.f10, Try.f11, Try.f12, Try.f14, Try.f15, Try.f26⟩) := addT_ok (addT_ok FPt1_ok (by kernel_rfl) fNewPt_ok) (by kernel_rfl) (inl_ok CPt1_ok follows Try.func12 (by kernel_rfl) (lexAllF_ok (by kernel_rfl)) (noloops (by kernel_rfl)))
/-- what the anchor comes to -/
def Works30 : Prop := ∀ w, Calls Try.prog 5 #[] w fun e w' => e = .returned (.bool true) ∧ Below w.heap.size w w'
theorem CPt2_ok (hw : Works30) : CfgOk Try.prog (CPt2 Try.prog ⟨Try.f8, Try.f7, Try.f6, Try.f9, Try.f10, Try.f11, Try.f12, Try.f14, Try.f15, Try.f26⟩) := by
  refine both_ok (addS_ok SPt1_ok (by kernel_rfl) ?_) FPt2_ok
  intro xs p v h hp w
  cases xs with
  | nil =>
    simp only [Option.some.injEq, Prod.mk.injEq] at h
    obtain ⟨-, rfl⟩ := h
    exact hw w
  | cons => cases h
theorem mem_nilQ (w : World) : Mem w [] [] [] w :=
  ⟨⟨rfl, fun k x y h => by simp at h, fun k j b h => by obtain ⟨x, y, g, -⟩ := h; simp at g, fun k j b h => by obtain ⟨x, y, g, -⟩ := h; simp at g⟩, .refl _ _, fun k b h => by obtain ⟨x, y, g, -⟩ := h; simp at g⟩
theorem pn_any (hw : Works30) (a b id : Int) (w : World) : Calls Try.prog 3 #[.agg #[.int .i64 a, .int .i64 b], .int .i64 id] w fun e w' => e = .returned (.bool true) ∧ Below w.heap.size w w' :=
  calls_runO (CPt2_ok hw) follows Try.func3 (by kernel_rfl) (lexAllF_ok (by kernel_rfl)) (noloops (by kernel_rfl)) rfl (pn_ok a b id rfl) (mem_nilQ w) rfl
end Go.Proofs.Ytenngklohffoaaa
