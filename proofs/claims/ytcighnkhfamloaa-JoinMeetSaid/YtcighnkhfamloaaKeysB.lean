/- Keys: tags. No conditions. -/
import Derived.Test.YtcighnkhfamloaaKeysA
namespace Go.Proofs.Ytcighnkhfamloaa
set_option linter.unusedVariables false
set_option linter.unusedSimpArgs false
open Go.RowKit Sym Sha Go.ChangeShapes Go.WideShapes Go.ChangeMaps

theorem put_split (s : ByteArray) (n : Int) (k : Int) : Oct.put s n k = s ++ Oct.put ⟨⟨[]⟩⟩ n k := by
  apply ByteArray.ext
  apply Array.toList_inj.1
  rw [ByteArray.data_append]
  simp [Oct.put]
theorem put_sz (s : ByteArray) (n k : Int) : (Oct.put s n k).size = s.size + k.toNat := Oct.put_size s n k
def dataText (side num trip : Int) (data : ByteArray) : ByteArray := Oct.put (Oct.put (Oct.put (ba [1]) side 1) num 6) trip 2 ++ data
def ctlText (side num kind addr prio : Int) : ByteArray := Oct.put (Oct.put (Oct.put (Oct.put (Oct.put (ba [2]) side 1) num 4) kind 1) addr 1) prio 1
def cfmText (side num : Int) : ByteArray := Oct.put (Oct.put (ba [3]) side 1) num 4
def joinText (side f t a b : Int) : ByteArray := Oct.put (Oct.put (Oct.put (Oct.put (Oct.put (ba [4]) side 1) f 4) t 4) a 4) b 4
theorem dataText_size (side num trip : Int) (data : ByteArray) : (dataText side num trip data).size = 10 + data.size := by unfold dataText; rw [ByteArray.size_append, put_sz, put_sz, put_sz, ba_len]; rfl
theorem ctlText_size (side num kind addr prio : Int) : (ctlText side num kind addr prio).size = 9 := by unfold ctlText; rw [put_sz, put_sz, put_sz, put_sz, put_sz, ba_len]; rfl
theorem cfmText_size (side num : Int) : (cfmText side num).size = 6 := by unfold cfmText; rw [put_sz, put_sz, ba_len]; rfl
theorem joinText_size (side f t a b : Int) : (joinText side f t a b).size = 18 := by unfold joinText; rw [put_sz, put_sz, put_sz, put_sz, put_sz, ba_len]; rfl
theorem b1 (k : List UInt8) : (ByteArray.mk ⟨k⟩).size = k.length := ba_len k
def nilB : ByteArray := ⟨⟨[]⟩⟩
/-- a tag of a text, by two keys: of the program, and of the reference -/
def tagP (a b x : ByteArray) : ByteArray := if a = nilB ∧ b = nilB then nilB else macOf (a ++ b) x
def tagR (a b x : ByteArray) : ByteArray := if a = nilB then nilB else macOf (a ++ b) x
theorem wr1 : IntKind.i64.wrap (0 + 1) = 1 := by decide
theorem wr2 : IntKind.i64.wrap (1 + 1) = 2 := by decide
theorem wr3 : IntKind.i64.wrap (2 + 1) = 3 := by decide
theorem wr4 : IntKind.i64.wrap (3 + 1) = 4 := by decide
theorem known_if {a b x : ByteArray} (hb : (!!(decide (a = ByteArray.mk (Array.mk [])) && (decide (b = ByteArray.mk (Array.mk [])) && true))) = true) : Value.string nilB = Value.string (tagP a b x) := by
  have h : a = nilB ∧ b = nilB := by simpa [nilB] using hb
  unfold tagP; rw [if_pos h]
theorem known_not {a b x : ByteArray} (hb : (!!(decide (a = ByteArray.mk (Array.mk [])) && (decide (b = ByteArray.mk (Array.mk [])) && true))) = false) : Value.string (macOf (a ++ b) x) = Value.string (tagP a b x) := by
  have h : ¬ (a = nilB ∧ b = nilB) := by simpa [nilB] using hb
  unfold tagP; rw [if_neg h]
set_option maxHeartbeats 800000 in
theorem keys_Join (a b : ByteArray) (side f t x y : Int) (h : a.size ≤ 1000 ∧ b.size ≤ 1000) (w : World) : Calls Try.prog 152 #[.agg #[.string a, .string b], .int .i64 side, .agg #[.int .i64 f, .int .i64 t], .int .i64 x, .int .i64 y] w fun e w' => e = .returned (.string (tagP a b (joinText side f t x y))) ∧ Below w.heap.size w w' := by
  refine calls_runV (CK_ok SKey2_ok) follows Try.func152 (by kernel_rfl) (by kernel_rfl) (one_loop (b := loopAt Try.f152 0) (id := 0) (by kernel_rfl) fun st t h => by rw [addL_same h]; exact unroll_ok (CK_ok SKey2_ok) follows (by kernel_rfl) (noloops (by kernel_rfl)) 6 st) (join_run a b side f t x y) ?_ w
  have et : Oct.put (ByteArray.mk ⟨[] ++ Oct.be 4 1⟩) side 1 ++ Oct.put (Oct.put (Oct.put (Oct.put ⟨⟨[]⟩⟩ f 4) t 4) x 4) y 4 = joinText side f t x y := by
    unfold joinText
    rw [put_split (Oct.put (Oct.put (Oct.put ⟨⟨[]⟩⟩ f 4) t 4) x 4), put_split (Oct.put (Oct.put ⟨⟨[]⟩⟩ f 4) t 4), put_split (Oct.put ⟨⟨[]⟩⟩ f 4), ← ByteArray.append_assoc, ← ByteArray.append_assoc, ← ByteArray.append_assoc, ← put_split, ← put_split, ← put_split, ← put_split]; rfl
  have es := joinText_size side f t x y
  have hc : (catL [Oct.put (ByteArray.mk ⟨[] ++ Oct.be 4 1⟩) side 1 ++ Oct.put (Oct.put (Oct.put (Oct.put ⟨⟨[]⟩⟩ f 4) t 4) x 4) y 4]).size ≤ 100000000000 := by
    show (Oct.put (ByteArray.mk ⟨[] ++ Oct.be 4 1⟩) side 1 ++ Oct.put (Oct.put (Oct.put (Oct.put ⟨⟨[]⟩⟩ f 4) t 4) x 4) y 4).size ≤ _
    rw [et, es]; omega
  have hm : 1 ≤ maxLen := by decide
  have hv : ¬ (a = nilB ∧ b = nilB) → Value.string (macOf (a ++ b) (Oct.put (ByteArray.mk ⟨[] ++ Oct.be 4 1⟩) side 1 ++ Oct.put (Oct.put (Oct.put (Oct.put ⟨⟨[]⟩⟩ f 4) t 4) x 4) y 4)) = Value.string (tagP a b (joinText side f t x y)) := fun hn => by rw [et]; unfold tagP; rw [if_neg hn]
  have kf : (!!(decide (a = ByteArray.mk (Array.mk [])) && (decide (b = ByteArray.mk (Array.mk [])) && true))) = false → ¬ (a = nilB ∧ b = nilB) := fun hb => by simpa [nilB] using hb
  simp only [T.ok, wr1, wr2, wr3, wr4, put_sz, b1, ByteArray.size_append, List.length_cons, List.length_nil, List.length_append, Oct.be_length, Bool.true_eq_false, Bool.false_eq_true, reduceCtorEq, false_implies, true_implies, and_true, true_and]
  repeat' (first | refine And.intro ?_ ?_ | intro _)
  all_goals first | omega | contradiction | exact hm | exact hc | exact hv (kf (by assumption)) | exact known_if (by assumption) | skip
end Go.Proofs.Ytcighnkhfamloaa
