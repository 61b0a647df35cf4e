/- The laws of layer 5 (sha), walked. No conditions. -/
import Derived.Test.YtapogkodlempkaaShaQ
namespace Go.Proofs.Ytapogkodlempkaa
set_option linter.unusedVariables false
set_option linter.unusedSimpArgs false
open Go.RowKit Sym Sha Go.ChangeShapes Go.WideShapes Go.ChangeMaps

def tShaOf : List Value → Option (List Prop × Value) | [.string s] => some ([s.size ≤ 1000000000000], .string (shaOf s)) | _ => none
def SSha9 : Tab := addS 23 tShaOf (addS 24 tShaOf SSha8)
theorem SSha9_ok : TabOk Try.prog SSha9 := addS_ok (addS_ok SSha8_ok (by kernel_rfl) (by (intro xs p v h hp w; unfold tShaOf at h; (split at h) <;> first | (cases h; done) | (simp only [Option.some.injEq, Prod.mk.injEq] at h; obtain ⟨rfl, rfl⟩ := h; exact ref05_Of _ (hp _ (List.mem_cons_self ..)) w)))) (by kernel_rfl) (by (intro xs p v h hp w; unfold tShaOf at h; (split at h) <;> first | (cases h; done) | (simp only [Option.some.injEq, Prod.mk.injEq] at h; obtain ⟨rfl, rfl⟩ := h; exact sha_Of _ (Nat.le_trans (hp _ (List.mem_cons_self ..)) (by decide)) w)))
theorem shaOf_abc : shaOf ⟨#[97, 98, 99]⟩ = ba [186, 120, 22, 191, 143, 1, 207, 234, 65, 65, 64, 222, 93, 174, 34, 35, 176, 3, 97, 163, 150, 23, 122, 156, 180, 16, 255, 97, 242, 0, 21, 173] := congrArg ba sha_abc
set_option maxRecDepth 100000 in
theorem works05_run  : runV Try.prog (onlyS Try.prog SSha9) noL Try.f19 [] = T.need ((3 : Nat) ≤ (1000000000000 : Nat)) (T.ite true (T.need ((0 : Int) ≤ (0 : Int) ∧ (0 : Int) ≤ (4 : Int) ∧ (4 : Int) ≤ (↑(shaOf (ByteArray.mk #[(97 : UInt8), (98 : UInt8), (99 : UInt8)])).size : Int)) (T.ite true (T.need ((0 : Int) ≤ (28 : Int) ∧ (28 : Int) ≤ (↑(shaOf (ByteArray.mk #[(97 : UInt8), (98 : UInt8), (99 : UInt8)])).size : Int) ∧ (↑(shaOf (ByteArray.mk #[(97 : UInt8), (98 : UInt8), (99 : UInt8)])).size : Int) ≤ (↑(shaOf (ByteArray.mk #[(97 : UInt8), (98 : UInt8), (99 : UInt8)])).size : Int)) (T.leaf (Value.bool true))) (T.leaf (Value.bool false)))) (T.leaf (Value.bool false))) := by kernel_rfl
theorem works05 (w : World) : Calls Try.prog 19 #[] w fun e w' => e = .returned (.bool true) ∧ Below w.heap.size w w' := by
  refine calls_runV (onlyS_ok SSha9_ok) follows Try.func19 (by kernel_rfl) (by kernel_rfl) noL_ok (works05_run) ?_ w
  simp only [shaOf_abc]
  exact ⟨by decide, fun _ => ⟨by decide, fun _ => ⟨by decide, rfl⟩, (fun h => by cases h)⟩, fun h => by cases h⟩
def tTrue : List Value → Option (List Prop × Value) | [] => some ([], .bool true) | _ => none
def SSha10 : Tab := addS 19 tTrue SSha9
theorem SSha10_ok : TabOk Try.prog SSha10 := addS_ok SSha9_ok (by kernel_rfl) (by (intro xs p v h hp w; unfold tTrue at h; (split at h) <;> first | (cases h; done) | (simp only [Option.some.injEq, Prod.mk.injEq] at h; obtain ⟨rfl, rfl⟩ := h; exact works05 w)))

end Go.Proofs.Ytapogkodlempkaa
