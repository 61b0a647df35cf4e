/- Keys: the texts that are summed. No conditions. -/
import Derived.Test.YtjjnolpkifhbnaaGreatMacD
namespace Go.Proofs.YtjjnolpkifhbnaaGreat
set_option linter.unusedVariables false
set_option linter.unusedSimpArgs false
open Go.RowKit Sym Sha Go.ChangeShapes Go.WideShapes Go.ChangeMaps


def SKey1  : Tab := SMac3
theorem SKey1_ok : TabOk Tryz.prog (SKey1) := SMac3_ok





/-- tag, where it stands -/
def LTag (P : Program) (C : Cfg) (fn : Func) : Nat → St → Option (T (Ex × St)) := addL 0 (unrollB (runC P C noL fn.ntmps (loopAt fn 0)) 0 6) noL
end Go.Proofs.YtjjnolpkifhbnaaGreat
namespace Go.Proofs.YtjjnolpkifhbnaaGreat
set_option linter.unusedVariables false
set_option linter.unusedSimpArgs false
open Go.RowKit Sym Sha Go.ChangeShapes Go.WideShapes Go.ChangeMaps

theorem put_split (s : ByteArray) (n : Int) (k : Int) : Oct.put s n k = s ++ Oct.put ⟨⟨[]⟩⟩ n k := by
  apply ByteArray.ext
  apply Array.toList_inj.1
  rw [ByteArray.data_append]
  simp [Oct.put]
theorem put_sz (s : ByteArray) (n k : Int) : (Oct.put s n k).size = s.size + k.toNat := Oct.put_size s n k
def dataText (side num trip : Int) (data : ByteArray) : ByteArray := Oct.put (Oct.put (Oct.put (ba [1]) side 1) num 6) trip 2 ++ data
def ctlText (side num kind addr prio : Int) : ByteArray := Oct.put (Oct.put (Oct.put (Oct.put (Oct.put (ba [2]) side 1) num 4) kind 1) addr 1) prio 1
def cfmText (side num : Int) : ByteArray := Oct.put (Oct.put (ba [3]) side 1) num 4
def joinText (side f t a b : Int) : ByteArray := Oct.put (Oct.put (Oct.put (Oct.put (Oct.put (ba [4]) side 1) f 4) t 4) a 4) b 4
theorem dataText_size (side num trip : Int) (data : ByteArray) : (dataText side num trip data).size = 10 + data.size := by unfold dataText; rw [ByteArray.size_append, put_sz, put_sz, put_sz, ba_len]; rfl
theorem ctlText_size (side num kind addr prio : Int) : (ctlText side num kind addr prio).size = 9 := by unfold ctlText; rw [put_sz, put_sz, put_sz, put_sz, put_sz, ba_len]; rfl
theorem cfmText_size (side num : Int) : (cfmText side num).size = 6 := by unfold cfmText; rw [put_sz, put_sz, ba_len]; rfl
theorem joinText_size (side f t a b : Int) : (joinText side f t a b).size = 18 := by unfold joinText; rw [put_sz, put_sz, put_sz, put_sz, put_sz, ba_len]; rfl
theorem b1 (k : List UInt8) : (ByteArray.mk ⟨k⟩).size = k.length := ba_len k
def nilB : ByteArray := ⟨⟨[]⟩⟩
/-- a tag of a text, by two keys: of the program, and of the reference -/
def tagP (a b x : ByteArray) : ByteArray := if a = nilB ∧ b = nilB then nilB else macOf (a ++ b) x
def tagR (a b x : ByteArray) : ByteArray := if a = nilB then nilB else macOf (a ++ b) x
theorem wr1 : IntKind.i64.wrap (0 + 1) = 1 := by decide
theorem wr2 : IntKind.i64.wrap (1 + 1) = 2 := by decide
theorem wr3 : IntKind.i64.wrap (2 + 1) = 3 := by decide
theorem wr4 : IntKind.i64.wrap (3 + 1) = 4 := by decide
theorem known_if {a b x : ByteArray} (hb : (!!(decide (a = ByteArray.mk (Array.mk [])) && (decide (b = ByteArray.mk (Array.mk [])) && true))) = true) : Value.string nilB = Value.string (tagP a b x) := by
  have h : a = nilB ∧ b = nilB := by simpa [nilB] using hb
  unfold tagP; rw [if_pos h]
theorem known_not {a b x : ByteArray} (hb : (!!(decide (a = ByteArray.mk (Array.mk [])) && (decide (b = ByteArray.mk (Array.mk [])) && true))) = false) : Value.string (macOf (a ++ b) x) = Value.string (tagP a b x) := by
  have h : ¬ (a = nilB ∧ b = nilB) := by simpa [nilB] using hb
  unfold tagP; rw [if_neg h]
end Go.Proofs.YtjjnolpkifhbnaaGreat
