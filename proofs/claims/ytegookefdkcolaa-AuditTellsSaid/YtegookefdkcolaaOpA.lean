/- Options, plainly: how many bytes they have, what is wrong with them, their bytes; rows of them as letters; functions that read one row. No conditions. -/
import Derived.Test.YtegookefdkcolaaTabOct
import Derived.Test.YtegookefdkcolaaStrs
import Derived.Test.YtegookefdkcolaaPlA
import Derived.Test.YtegookefdkcolaaSymH
namespace Go.Proofs.Ytegookefdkcolaa
set_option linter.unusedVariables false
set_option linter.unusedSimpArgs false
open Go.RowKit Sym Go.ChangeShapes Go.WideShapes Go.ChangeMaps Go.Deep

structure Op where
  kind : Int
  val : ByteArray
def Op.c (o : Op) : Nat → Value
  | 0 => .int .i64 o.kind
  | 1 => .string o.val
  | _ => undef
def opF (f : Nat → Nat → Value) (i : Nat) : Op := ⟨intV (f i 0), strV (f i 1)⟩
def AllOp (n : Nat) (f : Nat → Nat → Value) : Prop := ∀ i, i < n → ∀ j, j < 2 → f i j = (opF f i).c j
/-- neither too many nor too long -/
def Few (n : Nat) (g : Nat → Op) : Prop := n ≤ 1000 ∧ ∀ i, i < n → (g i).val.size ≤ 1000000
def sizeO (o : Op) : Int := if o.kind ≤ 31 then 1 else 2 + (o.val.size : Int)
def sizeL (g : Nat → Op) : Nat → Int
  | 0 => 0
  | i + 1 => sizeL g i + sizeO (g i)
theorem sizeO_bd (o : Op) : 1 ≤ sizeO o ∧ sizeO o ≤ 2 + (o.val.size : Int) := by unfold sizeO; split <;> omega
theorem sizeL_bd (g : Nat → Op) : ∀ i, (∀ j, j < i → (g j).val.size ≤ 1000000) → 0 ≤ sizeL g i ∧ sizeL g i ≤ 1000002 * (i : Int)
  | 0, _ => ⟨Int.le_refl _, by simp [sizeL]⟩
  | i + 1, h => by
    have h1 := sizeL_bd g i (fun j hj => h j (by omega))
    have h2 := sizeO_bd (g i)
    have h3 := h i (by omega)
    simp only [sizeL]
    omega
def rightO (o : Op) : Int := if o.kind ≤ 0 then 7 else if o.kind > 255 then 7 else if o.kind ≤ 31 ∧ ¬ o.val.size = 0 then 11 else if o.val.size > 253 then 11 else 0
def badO (g : Nat → Op) (i : Nat) : Bool := !decide (rightO (g i) = 0)
def mandO (n : Nat) (g : Nat → Op) (i : Nat) : Bool := decide ((g i).kind = 1) && (decide (i + 1 = n) || decide ((g (i + 1)).kind = 1))
def badE (n : Nat) (g : Nat → Op) : Nat := firstOf (badO g) n 0
def mandE (n : Nat) (g : Nat → Op) : Nat := firstOf (mandO n g) n 0
def chkO (n : Nat) (g : Nat → Op) : Int := if badE n g < n then rightO (g (badE n g)) else if mandE n g < n then 4 else if sizeL g n > 400 then 11 else 0
def greatO (g : Nat → Op) (i : Nat) : Bool := Nat.ble 60 i || Nat.blt 600 (g i).val.size
def greatE (n : Nat) (g : Nat → Op) : Nat := firstOf (greatO g) n 0
def greatL (n : Nat) (g : Nat → Op) : Bool := Nat.blt (greatE n g) n
theorem firstOf_le (p : Nat → Bool) (n : Nat) : firstOf p n 0 ≤ n ∧ (∀ j, j < firstOf p n 0 → p j = false) ∧ (firstOf p n 0 < n → p (firstOf p n 0) = true) := by
  obtain ⟨-, he, h1, h2⟩ := firstOf_spec p n 0
  rw [Nat.zero_add] at he h2
  exact ⟨he, fun j hj => h1 j (Nat.zero_le _) hj, h2⟩
theorem greatL_few {n : Nat} {g : Nat → Op} (h : greatL n g = false) : n ≤ 60 ∧ ∀ i, i < n → (g i).val.size ≤ 600 := by
  unfold greatL at h
  obtain ⟨he, h1, -⟩ := firstOf_le (greatO g) n
  have hE : firstOf (greatO g) n 0 = greatE n g := rfl
  rw [hE] at he h1
  have hn : ¬ greatE n g < n := by rw [← Nat.blt_eq, h]; decide
  have e : greatE n g = n := by omega
  have hno : ∀ j, j < n → j < 60 ∧ (g j).val.size ≤ 600 := fun j hj => by
    have := h1 j (by omega)
    unfold greatO at this
    simp only [Bool.or_eq_false_iff] at this
    obtain ⟨a, b⟩ := this
    rw [← Bool.not_eq_true, Nat.ble_eq] at a
    rw [← Bool.not_eq_true, Nat.blt_eq] at b
    omega
  refine ⟨?_, fun i hi => (hno i hi).2⟩
  by_cases h0 : n = 0
  · omega
  · have := (hno (n - 1) (by omega)).1; omega
theorem Few.of {n : Nat} {g : Nat → Op} (h : greatL n g = false) : Few n g := by
  obtain ⟨a, b⟩ := greatL_few h
  exact ⟨by omega, fun i hi => Nat.le_trans (b i hi) (by omega)⟩
/-- a function of one row -/
def rd1 (sz : Nat) (p : Nat → (Nat → Nat → Value) → Prop) (r : Nat → (Nat → Nat → Value) → Value) : List SV → List Blk → Option (List Prop × Value)
  | [s], H => match rowIn sz H s with
    | some (n, fr) => some ([p n fr], r n fr)
    | none => none
  | _, _ => none
theorem rd1_ok {P : Program} {f : FuncId} {sz : Nat} {p : Nat → (Nat → Nat → Value) → Prop} {r : Nat → (Nat → Nat → Value) → Value} (hc : ∀ (n : Nat) (fr : Nat → Nat → Value) (v : Value) (w : World), (∀ B, BlkSat B w v (.row n sz fr)) → p n fr → Calls P f #[v] w fun e w' => e = .returned (r n fr) ∧ Below w.heap.size w w') : ReadOk P f (rd1 sz p r) := by
  intro ss H q v h bs B w vs hm hv hp
  unfold rd1 at h
  split at h
  · split at h
    · rename_i n fr hr
      simp only [Option.some.injEq, Prod.mk.injEq] at h
      obtain ⟨rfl, rfl⟩ := h
      obtain ⟨x0, r0, e0, v0, rfl⟩ := tos_cons hv
      obtain rfl := tos_nil v0
      exact hc n fr x0 w (fun B' => rowIn_ok hm e0 hr B') (hp _ (List.mem_cons_self ..))
    · cases h
  · cases h
def OpP (n : Nat) (f : Nat → Nat → Value) : Prop := AllOp n f ∧ Few n (opF f)
theorem op_row {w : World} {v : Value} {n : Nat} {f : Nat → Nat → Value} (h : ∀ B, BlkSat B w v (.row n 2 f)) (ho : AllOp n f) : ∀ B, BlkSat B w v (.row n 2 fun i j => (opF f i).c j) := fun B => row_congr (h B) fun i j hi hj => ho i hi j hj
theorem allOp_c (n : Nat) (g : Nat → Op) : AllOp n fun i j => (g i).c j := fun i _ j hj => by
  match j, hj with
  | 0, _ => rfl
  | 1, _ => rfl
theorem opF_c (g : Nat → Op) : (opF fun i j => (g i).c j) = g := rfl
end Go.Proofs.Ytegookefdkcolaa
namespace Go.Proofs.Ytegookefdkcolaa
set_option linter.unusedVariables false
set_option linter.unusedSimpArgs false
open Go.RowKit Sym Go.ChangeShapes Go.WideShapes Go.ChangeMaps

theorem w64i {z : Int} (h0 : -9223372036854775808 ≤ z) (h1 : z < 9223372036854775808) : IntKind.i64.wrap z = z := IntWalk.i64_in _ (by omega)
/-! great -/
def oG_st (n : Nat) (g : Nat → Op) (i : Int) : St := ⟨[(0, some (.ref 0)), (3, some (.v (.int .i64 i)))], [.row n 2 fun i j => (g i).c j]⟩

def LoG (P : Program) (fn : Func) (n : Nat) (g : Nat → Op) (e : Nat) : Nat → St → Option (T (Ex × St)) :=
  addL 0 (fun st => .need (st.H.length = 1) (.need (st.tidy 1 [0, 3] [] [] = oG_st n g (0 : Nat)) ((roundM P (onlyS P noS) noL fn.ntmps 0 (loopAt fn 0) 1 [0, 3] [] [] (closeAt [] (oG_st n g (e : Nat)))).bind (lastX 0)))) noL

theorem greatO_no {g : Nat → Op} {i : Nat} (h : greatO g i = false) : i < 60 ∧ (g i).val.size ≤ 600 := by
  unfold greatO at h
  simp only [Bool.or_eq_false_iff] at h
  obtain ⟨a, b⟩ := h
  rw [← Bool.not_eq_true, Nat.ble_eq] at a
  rw [← Bool.not_eq_true, Nat.blt_eq] at b
  omega
theorem greatO_yes {g : Nat → Op} {i : Nat} (h : greatO g i = true) : ¬ (i < 60 ∧ (g i).val.size ≤ 600) := by
  unfold greatO at h
  simp only [Bool.or_eq_true, Nat.ble_eq, Nat.blt_eq] at h
  omega
/-! how many bytes -/
def oS_st (n : Nat) (g : Nat → Op) (a i : Int) : St := ⟨[(3, some (.v (.int .i64 a))), (6, some (.ref 0)), (7, some (.v (.int .i64 n))), (8, some (.v (.int .i64 i)))], [.row n 2 fun i j => (g i).c j]⟩

def LoS (P : Program) (C : Cfg) (fn : Func) (n : Nat) (g : Nat → Op) : Nat → St → Option (T (Ex × St)) :=
  addL 0 (fun st => .need (st.H.length = 1) (.need (st.tidy 1 [3, 6, 7, 8] [] [] = oS_st n g (sizeL g 0) (0 : Nat)) ((roundM P C noL fn.ntmps 0 (loopAt fn 0) 1 [3, 6, 7, 8] [] [] (closeAt [] (oS_st n g (sizeL g n) (n : Nat)))).bind (lastX 0)))) noL

def oR_st (n : Nat) (g : Nat → Op) (a i : Int) : St := ⟨[(0, some (.ref 0)), (3, some (.v (.int .i64 a))), (4, some (.v (.int .i64 i)))], [.row n 2 fun i j => (g i).c j]⟩

def LoR (P : Program) (C : Cfg) (fn : Func) (n : Nat) (g : Nat → Op) : Nat → St → Option (T (Ex × St)) :=
  addL 0 (fun st => .need (st.H.length = 1) (.need (st.tidy 1 [0, 3, 4] [] [] = oR_st n g (sizeL g 0) (0 : Nat)) ((roundM P C noL fn.ntmps 0 (loopAt fn 0) 1 [0, 3, 4] [] [] (closeAt [] (oR_st n g (sizeL g n) (n : Nat)))).bind (lastX 0)))) noL

theorem sizeO_lo {o : Op} (h : o.kind ≤ 31) : sizeO o = 1 := by unfold sizeO; rw [if_pos h]
theorem sizeO_hi {o : Op} (h : ¬ o.kind ≤ 31) : sizeO o = 2 + (o.val.size : Int) := by unfold sizeO; rw [if_neg h]
end Go.Proofs.Ytegookefdkcolaa
namespace Go.Proofs.Ytegookefdkcolaa
set_option linter.unusedVariables false
set_option linter.unusedSimpArgs false
open Go.RowKit Sym Go.ChangeShapes Go.WideShapes Go.ChangeMaps

/-! the program's -/
def oC_st (n : Nat) (g : Nat → Op) (i : Int) : St := ⟨[(0, some (.ref 0)), (8, some (.ref 0)), (9, some (.v (.int .i64 n))), (10, some (.v (.int .i64 i)))], [.row n 2 fun i j => (g i).c j]⟩
def oD_st (n : Nat) (g : Nat → Op) (i : Int) : St := ⟨[(0, some (.ref 0)), (20, some (.ref 0)), (21, some (.v (.int .i64 n))), (22, some (.v (.int .i64 i)))], [.row n 2 fun i j => (g i).c j]⟩


def LoC (P : Program) (C : Cfg) (fn : Func) (n : Nat) (g : Nat → Op) (e1 e2 : Nat) : Nat → St → Option (T (Ex × St)) :=
  addL 2 (fun st => .need (st.H.length = 1) (.need (st.tidy 1 [0, 20, 21, 22] [] [] = oD_st n g (0 : Nat)) ((roundM P C noL fn.ntmps 2 (loopAt fn 1) 1 [0, 20, 21, 22] [] [] (closeAt [] (oD_st n g (e2 : Nat)))).bind (lastX 2)))) <|
  addL 0 (fun st => .need (st.H.length = 1) (.need (st.tidy 1 [0, 8, 9, 10] [] [] = oC_st n g (0 : Nat)) ((roundM P C noL fn.ntmps 0 (loopAt fn 0) 1 [0, 8, 9, 10] [] [] (closeAt [] (oC_st n g (e1 : Nat)))).bind (lastX 0)))) noL

/-! the reference's -/
def rC_st (n : Nat) (g : Nat → Op) (i : Int) : St := ⟨[(0, some (.ref 0)), (3, some (.v (.int .i64 i)))], [.row n 2 fun i j => (g i).c j]⟩
def rD_st (n : Nat) (g : Nat → Op) (i : Int) : St := ⟨[(0, some (.ref 0)), (5, some (.v (.int .i64 i)))], [.row n 2 fun i j => (g i).c j]⟩


def LrC (P : Program) (C : Cfg) (fn : Func) (n : Nat) (g : Nat → Op) (e1 e2 : Nat) : Nat → St → Option (T (Ex × St)) :=
  addL 2 (fun st => .need (st.H.length = 1) (.need (st.tidy 1 [0, 5] [] [] = rD_st n g (0 : Nat)) ((roundM P C noL fn.ntmps 2 (loopAt fn 1) 1 [0, 5] [] [] (closeAt [] (rD_st n g (e2 : Nat)))).bind (lastX 2)))) <|
  addL 0 (fun st => .need (st.H.length = 1) (.need (st.tidy 1 [0, 3] [] [] = rC_st n g (0 : Nat)) ((roundM P C noL fn.ntmps 0 (loopAt fn 0) 1 [0, 3] [] [] (closeAt [] (rC_st n g (e1 : Nat)))).bind (lastX 0)))) noL

end Go.Proofs.Ytegookefdkcolaa
namespace Go.Proofs.Ytegookefdkcolaa
set_option linter.unusedVariables false
set_option linter.unusedSimpArgs false
open Go.RowKit Sym Go.ChangeShapes Go.WideShapes Go.ChangeMaps

theorem ba_empty (s : ByteArray) : s = ByteArray.mk (Array.mk []) ↔ s.size = 0 := by
  constructor
  · rintro rfl; rfl
  · intro h
    have : s.data.toList = [] := List.length_eq_zero_iff.1 (by simpa using h)
    cases s with
    | mk d => simp at this; subst this; rfl
theorem rightO_ok {o : Op} (h : rightO o = 0) : 0 < o.kind ∧ o.kind ≤ 255 ∧ (o.kind ≤ 31 → o.val.size = 0) ∧ o.val.size ≤ 253 := by
  unfold rightO at h
  split at h
  · cases h
  · split at h
    · cases h
    · split at h
      · cases h
      · split at h
        · cases h
        · rename_i a b c d
          refine ⟨by omega, by omega, fun hk => ?_, by omega⟩
          by_cases e : o.val.size = 0
          · exact e
          · exact absurd ⟨hk, e⟩ c
theorem badE_spec (n : Nat) (g : Nat → Op) : badE n g ≤ n ∧ (∀ j, j < badE n g → rightO (g j) = 0) ∧ (badE n g < n → ¬ rightO (g (badE n g)) = 0) := by
  obtain ⟨h1, h2, h3⟩ := firstOf_le (badO g) n
  refine ⟨h1, fun j hj => by simpa [badO] using h2 j hj, fun h => by have := h3 h; simpa [badO, badE] using this⟩
theorem mandE_spec (n : Nat) (g : Nat → Op) : mandE n g ≤ n ∧ (∀ j, j < mandE n g → (g j).kind = 1 → ¬ j + 1 = n ∧ ¬ (g (j + 1)).kind = 1) ∧ (mandE n g < n → (g (mandE n g)).kind = 1 ∧ (mandE n g + 1 = n ∨ (g (mandE n g + 1)).kind = 1)) := by
  obtain ⟨h1, h2, h3⟩ := firstOf_le (mandO n g) n
  refine ⟨h1, fun j hj hk => ?_, fun h => ?_⟩
  · have := h2 j hj
    simp only [mandO, hk, decide_true, Bool.true_and, Bool.or_eq_false_iff, decide_eq_false_iff_not] at this
    exact this
  · have := h3 h
    simpa [mandO, mandE] using this
end Go.Proofs.Ytegookefdkcolaa
namespace Go.Proofs.Ytegookefdkcolaa
set_option linter.unusedVariables false
set_option linter.unusedSimpArgs false
open Go.RowKit Sym Go.ChangeShapes Go.WideShapes Go.ChangeMaps

end Go.Proofs.Ytegookefdkcolaa
