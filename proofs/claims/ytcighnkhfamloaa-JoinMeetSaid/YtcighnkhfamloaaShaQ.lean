/- The reference's sum of bytes, whole. Conditions: texts shorter than 2 to the 40. -/
import Derived.Test.YtcighnkhfamloaaShaR
namespace Go.Proofs.Ytcighnkhfamloaa
set_option linter.unusedVariables false
set_option linter.unusedSimpArgs false
open Go.RowKit Sym Sha

def padI (s : ByteArray) (i : Nat) : ByteArray := ba (s.data.toList ++ 128 :: List.replicate i 0)
theorem wrap_u64 (n : Int) (h0 : 0 ≤ n) (h1 : n < 18446744073709551616) : IntKind.u64.wrap n = n := by simp only [IntKind.wrap, IntKind.bits, IntKind.signed]; simp; omega
theorem padI_size (s : ByteArray) (i : Nat) : (padI s i).size = s.size + 1 + i := by unfold padI; rw [ba_len]; simp; omega
def nought (n : Nat) : Nat := (119 - n % 64) % 64
def LPad (P : Program) (S : Tab) (fn : Func) : Nat → St → Option (T (Ex × St)) :=
  addL 0 (fun st => withStr st 0 fun s => .need (s.size ≤ 1000000000000) (.need (st.H.length = 0) (.need (st.tidy 0 [0, 3] [] [] = stPad s (padI s 0)) ((roundM P (onlyS P S) noL 18 0 (loopAt fn 0) 0 [0, 3] [] [] (closeAt [] (stPad s (padI s (nought s.size))))).bind (lastX 0))))) noL

def LOf (P : Program) (S : Tab) (fn : Func) : Nat → St → Option (T (Ex × St)) :=
  addL 0 (fun st => withStr st 4 fun p => .need (p.size % 64 = 0 ∧ p.size ≤ 2199023255552) (.need (st.H.length = 1) (.need (st.tidy 1 [3, 4, 5] [] [0] = stR p (foldB 0 H0 p.data.toList) ((64 * 0 : Nat) : Int)) (.leaf (.normal, stR p (foldB (p.size / 64) H0 p.data.toList) ((64 * (p.size / 64) : Nat) : Int))))))
  (addL 8 (unrollB (runC P (onlyS P S) noL 217 (loopAt fn 1)) 8 9) noL)
def tPad : List Value → Option (List Prop × Value) | [.string s] => some ([s.size ≤ 1000000000000], .string (ba (s.data.toList ++ tail s.size s.size))) | _ => none
def SSha8  : Tab := SSha7
theorem SSha8_ok : TabOk Try.prog (SSha8) := SSha7_ok

theorem tail_length (r n : Nat) : (tail r n).length = 9 + (119 - r % 64) % 64 := by simp [tail, Oct.be_length]; omega
theorem padded (s : ByteArray) : (ba (s.data.toList ++ tail s.size s.size)).size = s.size + 9 + (119 - s.size % 64) % 64 := by rw [ba_len, List.length_append, tail_length]; simp; omega
end Go.Proofs.Ytcighnkhfamloaa
