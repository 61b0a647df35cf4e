/- Sums with a key: names of keys, what they give, the laws. No conditions. -/
import Derived.Test.YtjlgcfcejdeecaaMacF
namespace Go.Proofs.Ytjlgcfcejdeecaa
set_option linter.unusedVariables false
set_option linter.unusedSimpArgs false
open Go.RowKit Sym Sha Go.ChangeShapes Go.WideShapes Go.ChangeMaps

def FMac : LTab := addF 235 fMacV noF
theorem FMac_ok : LOk Try.prog FMac := addF_ok noF_ok (by kernel_rfl) fMacV_ok
abbrev CL (P : Program) (S : Tab) : Cfg := both P S FMac [235]
theorem CL_ok {S : Tab} (h : TabOk Try.prog S) : CfgOk Try.prog (CL Try.prog S) := both_ok h FMac_ok
set_option maxRecDepth 100000 in
theorem token_run (k : ByteArray) : runV Try.prog (onlyS Try.prog SMac2) noL Try.f96 [.string k] = T.need (k.size ≤ (1000000000000 : Nat)) (T.need ((0 : Int) ≤ (0 : Int) ∧ (0 : Int) ≤ (4 : Int) ∧ (4 : Int) ≤ (↑(shaOf k).size : Int)) (T.need (((shaOf k).extract (0 : Nat) (4 : Nat)).size ≤ (9223372036854775807 : Nat)) (T.leaf (Value.int IntKind.i64 (wrap64 (valU ((shaOf k).extract (0 : Nat) (4 : Nat)))))))) := by kernel_rfl




def tokenOf (k : ByteArray) : Int := valU ((shaOf k).extract 0 4)
def span (size : Int) : Int := if 7 < if 1 > size then 1 else size then 7 else if 1 > size then 1 else size
def drawOf (k : ByteArray) (a size : Int) : Int := valU ((macOf k (Oct.put ⟨⟨[]⟩⟩ a 8)).extract 0 (span size).toNat)
theorem span_in (size : Int) : 1 ≤ span size ∧ span size ≤ 7 := by unfold span; split <;> split <;> (try split at *) <;> omega
theorem valU_lt (s : ByteArray) (n : Nat) (h : s.size ≤ n) (hn : n ≤ 7) : 0 ≤ valU s ∧ valU s < 72057594037927936 := by
  unfold valU
  have h1 := Oct.val_lt s.data.toList
  have h2 : s.data.toList.length ≤ 7 := by rw [show s.data.toList.length = s.size by simp]; omega
  have h3 : (256 : Nat) ^ s.data.toList.length ≤ 256 ^ 7 := Nat.pow_le_pow_right (by omega) h2
  have h4 : (256 : Nat) ^ 7 = 72057594037927936 := by decide
  omega
theorem wrap_valU (s : ByteArray) (n : Nat) (h : s.size ≤ n) (hn : n ≤ 7) : wrap64 (valU s) = valU s ∧ IntKind.i64.wrap (valU s) = valU s := by
  have := valU_lt s n h hn
  refine ⟨?_, w64 _ (by omega) (by omega)⟩
  unfold wrap64; omega
theorem mac_Token (k : ByteArray) (hk : k.size ≤ 1000000000000) (w : World) : Calls Try.prog 96 #[.string k] w fun e w' => e = .returned (.int .i64 (tokenOf k)) ∧ Below w.heap.size w w' := by
  refine calls_runV (onlyS_ok SMac2_ok) follows Try.func96 (by kernel_rfl) (by kernel_rfl) noL_ok (token_run k) ?_ w
  have hs := shaOf_size k
  have he : ((shaOf k).extract 0 4).size = 4 := by rw [ByteArray.size_extract, hs]; omega
  refine ⟨hk, by omega, by omega, ?_⟩
  rw [(wrap_valU _ 4 (by omega) (by omega)).1]; rfl
theorem put_u64 (s : ByteArray) (z k : Int) : Oct.put s (IntKind.u64.wrap z) k = Oct.put s z k := by unfold Oct.put; rw [u64_wrap]
theorem put_size (s : ByteArray) (z : Int) (k : Nat) : (Oct.put s z (k : Nat)).size = s.size + k := by rw [Oct.put_size]; omega
def tToken : List Value → Option (List Prop × Value) | [.string k] => some ([k.size ≤ 1000000000000], .int .i64 (tokenOf k)) | _ => none
def tDraw : List Value → Option (List Prop × Value) | [.string k, .int .i64 a, .int .i64 z] => some ([k.size ≤ 1000000000000], .int .i64 (drawOf k a z)) | _ => none
def SMac3  : Tab := addS 96 tToken <| SMac2
theorem SMac3_ok : TabOk Try.prog (SMac3) := by
  refine addS_ok (SMac2_ok) (by kernel_rfl) ?_
  · (intro xs p v h hp w; unfold tToken at h; (split at h) <;> first | (cases h; done) | (simp only [Option.some.injEq, Prod.mk.injEq] at h; obtain ⟨rfl, rfl⟩ := h; exact mac_Token _ (hp _ (List.mem_cons_self ..)) w))
end Go.Proofs.Ytjlgcfcejdeecaa
