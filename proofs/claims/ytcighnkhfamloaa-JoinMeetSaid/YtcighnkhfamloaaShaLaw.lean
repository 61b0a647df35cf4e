/- The laws of layer 5 (sha), walked. No conditions. -/
import Derived.Test.YtcighnkhfamloaaShaQ
namespace Go.Proofs.Ytcighnkhfamloaa
set_option linter.unusedVariables false
set_option linter.unusedSimpArgs false
open Go.RowKit Sym Sha Go.ChangeShapes Go.WideShapes Go.ChangeMaps

def tShaOf : List Value → Option (List Prop × Value) | [.string s] => some ([s.size ≤ 1000000000000], .string (shaOf s)) | _ => none
def SSha9  : Tab := addS 151 tShaOf <| SSha8
theorem SSha9_ok : TabOk Try.prog (SSha9) := by
  refine addS_ok (SSha8_ok) (by kernel_rfl) ?_
  · (intro xs p v h hp w; unfold tShaOf at h; (split at h) <;> first | (cases h; done) | (simp only [Option.some.injEq, Prod.mk.injEq] at h; obtain ⟨rfl, rfl⟩ := h; exact sha_Of _ (Nat.le_trans (hp _ (List.mem_cons_self ..)) (by decide)) w))
theorem shaOf_abc : shaOf ⟨#[97, 98, 99]⟩ = ba [186, 120, 22, 191, 143, 1, 207, 234, 65, 65, 64, 222, 93, 174, 34, 35, 176, 3, 97, 163, 150, 23, 122, 156, 180, 16, 255, 97, 242, 0, 21, 173] := congrArg ba sha_abc

def tTrue : List Value → Option (List Prop × Value) | [] => some ([], .bool true) | _ => none
def SSha10  : Tab := SSha9
theorem SSha10_ok : TabOk Try.prog (SSha10) := SSha9_ok

end Go.Proofs.Ytcighnkhfamloaa
