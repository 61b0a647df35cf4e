/- The law of pieces (5.2, 5.3): texts that come in pieces. No conditions. -/
import Derived.Test.YtcighnkhfamloaaShaLaw
import Derived.Test.YtcighnkhfamloaaStrs
import Derived.Test.YtcighnkhfamloaaSymD
namespace Go.Proofs.Ytcighnkhfamloaa
set_option linter.unusedVariables false
set_option linter.unusedSimpArgs false
open Go.RowKit Sym Sha Go.ChangeShapes Go.WideShapes Go.ChangeMaps

abbrev CS (P : Program) (S : Tab) (fAdd fNew : Func) : Cfg := both P S (FSha2 P fAdd fNew) [228, 203, 204, 202]
theorem CS_ok {S : Tab} (h : TabOk Try.prog S) : CfgOk Try.prog (CS Try.prog S Try.f203 Try.f202) := both_ok h FSha2_ok
def stP (n : Nat) (g : Nat → ByteArray) (all : ByteArray) (h : H8) (r : ByteArray) (m : Int) (i : Int) : St := ⟨[(0, some (.ref 0)), (3, some (.ptr 1 0)), (4, some (.v (.pointer none))), (5, some (.v (.string all))), (6, some (.v (.int .i64 i)))], [.row n 1 (fun i _ => .string (g i)), .own (stC h r m)]⟩

theorem ndt {p : Prop} [Decidable p] (h : (!decide p) = true) (k : p) : False := by simp [k] at h
theorem ndf {p : Prop} [Decidable p] (h : (!decide p) = false) : p := by simpa using h
def early (g : Nat → ByteArray) (i : Nat) : Bool := Nat.ble 20 i || (Nat.blt 500 (g i).size || Nat.blt 1000 (catR g i).size)
theorem early_no {g : Nat → ByteArray} {i : Nat} (h : early g i = false) : i < 20 ∧ (g i).size ≤ 500 ∧ (catR g i).size ≤ 1000 := by
  unfold early at h
  simp only [Bool.or_eq_false_iff] at h
  obtain ⟨h1, h2, h3⟩ := h
  refine ⟨?_, ?_, ?_⟩
  · rw [← Bool.not_eq_true, Nat.ble_eq] at h1; omega
  · rw [← Bool.not_eq_true, Nat.blt_eq] at h2; omega
  · rw [← Bool.not_eq_true, Nat.blt_eq] at h3; omega
theorem early_yes {g : Nat → ByteArray} {i : Nat} (h : early g i = true) : ¬ (i < 20 ∧ (g i).size ≤ 500 ∧ (catR g i).size ≤ 1000) := by
  unfold early at h
  simp only [Bool.or_eq_true, Nat.ble_eq, Nat.blt_eq] at h
  omega
/-- behind i texts -/
def stPI (n : Nat) (g : Nat → ByteArray) (i : Nat) : St := stP n g (catR g i) (foldA H0 (catR g i).data.toList) (ba (restA (catR g i).data.toList)) ((catR g i).size : Int) (i : Int)
theorem cat_data (g : Nat → ByteArray) (i : Nat) : (catR g (i + 1)).data.toList = (catR g i).data.toList ++ (g i).data.toList := by
  show (catR g i ++ g i).data.toList = _
  rw [ByteArray.data_append]; simp
theorem fold_cat (g : Nat → ByteArray) (i : Nat) : foldA (foldA H0 (catR g i).data.toList) (restA (catR g i).data.toList ++ (g i).data.toList) = foldA H0 (catR g (i + 1)).data.toList := by rw [foldA_append, cat_data]
theorem rest_cat (g : Nat → ByteArray) (i : Nat) : restA (restA (catR g i).data.toList ++ (g i).data.toList) = restA (catR g (i + 1)).data.toList := by rw [restA_append, cat_data]
theorem sum_cat (g : Nat → ByteArray) (i : Nat) (z : Int) (hz : z = ((catR g (i + 1)).size : Int)) : ba (txt (foldA (foldA (foldA H0 (catR g i).data.toList) (restA (catR g i).data.toList ++ (g i).data.toList)) (restA (restA (catR g i).data.toList ++ (g i).data.toList) ++ tail (ba (restA (restA (catR g i).data.toList ++ (g i).data.toList))).size z.toNat))) = shaOf (catR g i ++ g i) := by
  rw [fold_cat, rest_cat, ba_len, hz, Int.toNat_natCast, show (catR g (i + 1)).size = (catR g (i + 1)).data.toList.length by simp, sum_pieces]
  rfl
def LPieces (P : Program) (C : Cfg) (fn : Func) (n : Nat) (g : Nat → ByteArray) (e : Nat) : Nat → St → Option (T (Ex × St)) :=
  addL 0 (fun st => .need (st.H.length = 2) (.need (st.tidy 2 [0, 3, 4, 5, 6] [] [] = stPI n g 0) ((roundM P C noL 71 0 (loopAt fn 0) 2 [0, 3, 4, 5, 6] [] [] (closeAt [] (stPI n g e))).bind (lastX 0)))) noL

end Go.Proofs.Ytcighnkhfamloaa
