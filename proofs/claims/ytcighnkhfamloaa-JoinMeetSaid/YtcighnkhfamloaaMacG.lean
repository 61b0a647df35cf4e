/- Sums with a key: names of keys, what they give, the laws. No conditions. -/
import Derived.Test.YtcighnkhfamloaaMacF
namespace Go.Proofs.Ytcighnkhfamloaa
set_option linter.unusedVariables false
set_option linter.unusedSimpArgs false
open Go.RowKit Sym Sha Go.ChangeShapes Go.WideShapes Go.ChangeMaps

def FMac : LTab := addF 231 fMacV noF
theorem FMac_ok : LOk Try.prog FMac := addF_ok noF_ok (by kernel_rfl) fMacV_ok
abbrev CL (P : Program) (S : Tab) : Cfg := both P S FMac [231]
theorem CL_ok {S : Tab} (h : TabOk Try.prog S) : CfgOk Try.prog (CL Try.prog S) := both_ok h FMac_ok
set_option maxRecDepth 100000 in
theorem token_run (k : ByteArray) : runV Try.prog (onlyS Try.prog SMac2) noL Try.f90 [.string k] = T.need (k.size ≤ (1000000000000 : Nat)) (T.need ((0 : Int) ≤ (0 : Int) ∧ (0 : Int) ≤ (4 : Int) ∧ (4 : Int) ≤ (↑(shaOf k).size : Int)) (T.need (((shaOf k).extract (0 : Nat) (4 : Nat)).size ≤ (9223372036854775807 : Nat)) (T.leaf (Value.int IntKind.i64 (wrap64 (valU ((shaOf k).extract (0 : Nat) (4 : Nat)))))))) := by kernel_rfl




def tokenOf (k : ByteArray) : Int := valU ((shaOf k).extract 0 4)
def span (size : Int) : Int := if 7 < if 1 > size then 1 else size then 7 else if 1 > size then 1 else size
def drawOf (k : ByteArray) (a size : Int) : Int := valU ((macOf k (Oct.put ⟨⟨[]⟩⟩ a 8)).extract 0 (span size).toNat)
theorem span_in (size : Int) : 1 ≤ span size ∧ span size ≤ 7 := by unfold span; split <;> split <;> (try split at *) <;> omega
theorem mac_Token (k : ByteArray) (hk : k.size ≤ 1000000000000) (w : World) : Calls Try.prog 90 #[.string k] w fun e w' => e = .returned (.int .i64 (tokenOf k)) ∧ Below w.heap.size w w' := by
  refine calls_runV (onlyS_ok SMac2_ok) follows Try.func90 (by kernel_rfl) (by kernel_rfl) noL_ok (token_run k) ?_ w
  have hs := shaOf_size k
  have he : ((shaOf k).extract 0 4).size = 4 := by rw [ByteArray.size_extract, hs]; omega
  refine ⟨hk, by omega, by omega, ?_⟩
  rw [(wrap_valU _ 4 (by omega) (by omega)).1]; rfl
def tToken : List Value → Option (List Prop × Value) | [.string k] => some ([k.size ≤ 1000000000000], .int .i64 (tokenOf k)) | _ => none
def tDraw : List Value → Option (List Prop × Value) | [.string k, .int .i64 a, .int .i64 z] => some ([k.size ≤ 1000000000000], .int .i64 (drawOf k a z)) | _ => none
def SMac3  : Tab := addS 90 tToken <| SMac2
theorem SMac3_ok : TabOk Try.prog (SMac3) := by
  refine addS_ok (SMac2_ok) (by kernel_rfl) ?_
  · (intro xs p v h hp w; unfold tToken at h; (split at h) <;> first | (cases h; done) | (simp only [Option.some.injEq, Prod.mk.injEq] at h; obtain ⟨rfl, rfl⟩ := h; exact mac_Token _ (hp _ (List.mem_cons_self ..)) w))
end Go.Proofs.Ytcighnkhfamloaa
