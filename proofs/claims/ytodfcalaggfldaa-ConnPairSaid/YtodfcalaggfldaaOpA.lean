/- Options, plainly: how many bytes they have, what is wrong with them, their bytes; rows of them as letters; functions that read one row. No conditions. -/
import Derived.Test.YtodfcalaggfldaaTabOct
import Derived.Test.YtodfcalaggfldaaStrs
import Derived.Test.YtodfcalaggfldaaPlA
import Derived.Test.YtodfcalaggfldaaSymH
namespace Go.Proofs.Ytodfcalaggfldaa
set_option linter.unusedVariables false
set_option linter.unusedSimpArgs false
open Go.RowKit Sym Go.ChangeShapes Go.WideShapes Go.ChangeMaps Go.Deep

structure Op where
  kind : Int
  val : ByteArray
def Op.c (o : Op) : Nat → Value
  | 0 => .int .i64 o.kind
  | 1 => .string o.val
  | _ => undef
def opF (f : Nat → Nat → Value) (i : Nat) : Op := ⟨intV (f i 0), strV (f i 1)⟩
def AllOp (n : Nat) (f : Nat → Nat → Value) : Prop := ∀ i, i < n → ∀ j, j < 2 → f i j = (opF f i).c j
/-- neither too many nor too long -/
def Few (n : Nat) (g : Nat → Op) : Prop := n ≤ 1000 ∧ ∀ i, i < n → (g i).val.size ≤ 1000000
def sizeO (o : Op) : Int := if o.kind ≤ 31 then 1 else 2 + (o.val.size : Int)
def sizeL (g : Nat → Op) : Nat → Int
  | 0 => 0
  | i + 1 => sizeL g i + sizeO (g i)
theorem sizeO_bd (o : Op) : 1 ≤ sizeO o ∧ sizeO o ≤ 2 + (o.val.size : Int) := by unfold sizeO; split <;> omega
theorem sizeL_bd (g : Nat → Op) : ∀ i, (∀ j, j < i → (g j).val.size ≤ 1000000) → 0 ≤ sizeL g i ∧ sizeL g i ≤ 1000002 * (i : Int)
  | 0, _ => ⟨Int.le_refl _, by simp [sizeL]⟩
  | i + 1, h => by
    have h1 := sizeL_bd g i (fun j hj => h j (by omega))
    have h2 := sizeO_bd (g i)
    have h3 := h i (by omega)
    simp only [sizeL]
    omega
def rightO (o : Op) : Int := if o.kind ≤ 0 then 7 else if o.kind > 255 then 7 else if o.kind ≤ 31 ∧ ¬ o.val.size = 0 then 11 else if o.val.size > 253 then 11 else 0
def badO (g : Nat → Op) (i : Nat) : Bool := !decide (rightO (g i) = 0)
def mandO (n : Nat) (g : Nat → Op) (i : Nat) : Bool := decide ((g i).kind = 1) && (decide (i + 1 = n) || decide ((g (i + 1)).kind = 1))
def badE (n : Nat) (g : Nat → Op) : Nat := firstOf (badO g) n 0
def mandE (n : Nat) (g : Nat → Op) : Nat := firstOf (mandO n g) n 0
def chkO (n : Nat) (g : Nat → Op) : Int := if badE n g < n then rightO (g (badE n g)) else if mandE n g < n then 4 else if sizeL g n > 400 then 11 else 0
def greatO (g : Nat → Op) (i : Nat) : Bool := Nat.ble 60 i || Nat.blt 600 (g i).val.size
def greatE (n : Nat) (g : Nat → Op) : Nat := firstOf (greatO g) n 0
def greatL (n : Nat) (g : Nat → Op) : Bool := Nat.blt (greatE n g) n
theorem firstOf_le (p : Nat → Bool) (n : Nat) : firstOf p n 0 ≤ n ∧ (∀ j, j < firstOf p n 0 → p j = false) ∧ (firstOf p n 0 < n → p (firstOf p n 0) = true) := by
  obtain ⟨-, he, h1, h2⟩ := firstOf_spec p n 0
  rw [Nat.zero_add] at he h2
  exact ⟨he, fun j hj => h1 j (Nat.zero_le _) hj, h2⟩
theorem greatL_few {n : Nat} {g : Nat → Op} (h : greatL n g = false) : n ≤ 60 ∧ ∀ i, i < n → (g i).val.size ≤ 600 := by
  unfold greatL at h
  obtain ⟨he, h1, -⟩ := firstOf_le (greatO g) n
  have hE : firstOf (greatO g) n 0 = greatE n g := rfl
  rw [hE] at he h1
  have hn : ¬ greatE n g < n := by rw [← Nat.blt_eq, h]; decide
  have e : greatE n g = n := by omega
  have hno : ∀ j, j < n → j < 60 ∧ (g j).val.size ≤ 600 := fun j hj => by
    have := h1 j (by omega)
    unfold greatO at this
    simp only [Bool.or_eq_false_iff] at this
    obtain ⟨a, b⟩ := this
    rw [← Bool.not_eq_true, Nat.ble_eq] at a
    rw [← Bool.not_eq_true, Nat.blt_eq] at b
    omega
  refine ⟨?_, fun i hi => (hno i hi).2⟩
  by_cases h0 : n = 0
  · omega
  · have := (hno (n - 1) (by omega)).1; omega
theorem Few.of {n : Nat} {g : Nat → Op} (h : greatL n g = false) : Few n g := by
  obtain ⟨a, b⟩ := greatL_few h
  exact ⟨by omega, fun i hi => Nat.le_trans (b i hi) (by omega)⟩
set_option maxRecDepth 100000 in
theorem open_opts_of {H : Type} {enc : TypeId × Value → H} {W : World} {base : Nat} {v : Value} {d : DataW H} {p : List MemPlace} {sp : Nat → Bool} (hv : ∃ a len cap, v = .slice a len cap) (h : DataW.Trod enc Try.prog W base sp true 35 v d p) :
    ∃ (n : Nat) (g : Nat → Op), n ≤ maxLen ∧ (∀ i, (g i).val.size ≤ maxLen) ∧ ∀ B, BlkSat B W v (.row n 2 fun i j => (g i).c j) := by
  obtain ⟨len, f, h1, h2, h3⟩ := open_rows_of 2 (by kernel_rfl) (by omega) Try.underlying35 hv h
  have hs : ∀ i, i < len → (∀ j, j < 2 → f i j = (opF f i).c j) ∧ (opF f i).val.size ≤ maxLen := by
    intro i hi
    obtain ⟨fuel, x, hx⟩ := h3 i hi
    obtain ⟨xs, n, _, _, _, hlen, hg⟩ := DataW.trod_struct Try.underlying55 hx
    have ci : Try.prog.cellsOf 3 = 1 := by kernel_rfl
    have cst : Try.prog.cellsOf 9 = 1 := by kernel_rfl
    obtain ⟨u0, hu0⟩ : ∃ u, xs[0]? = some u := ⟨_, List.getElem?_eq_getElem (by rw [hlen]; decide)⟩
    obtain ⟨u1, hu1⟩ : ∃ u, xs[1]? = some u := ⟨_, List.getElem?_eq_getElem (by rw [hlen]; decide)⟩
    rw [← hg 0 _ rfl] at hu0
    rw [← hg 1 _ rfl] at hu1
    simp [List.range_succ, ci, cst] at hu0 hu1
    obtain ⟨z, e0, _, _⟩ := DataW.trod_int Try.underlying3 hu0
    obtain ⟨s, e1, _, hz⟩ := DataW.trod_string Try.underlying9 hu1
    simp at e0 e1
    refine ⟨fun j hj => ?_, ?_⟩
    · match j, hj with
      | 0, _ => show f i 0 = .int .i64 (intV (f i 0)); rw [e0]; rfl
      | 1, _ => show f i 1 = .string (strV (f i 1)); rw [e1]; rfl
    · show (strV (f i 1)).size ≤ maxLen
      rw [e1]; exact hz
  refine ⟨len, fun i => if i < len then opF f i else ⟨0, ⟨#[]⟩⟩, h2, fun i => ?_, fun B => row_congr (row_of h1 B) fun i j hi hj => ?_⟩
  · by_cases hi : i < len
    · simp only [if_pos hi]; exact (hs i hi).2
    · simp only [if_neg hi]; exact Nat.zero_le _
  · simp only [if_pos hi]; exact (hs i hi).1 j hj
set_option maxRecDepth 100000 in
theorem open_opts {H : Type} {enc : TypeId × Value → H} {W : World} {base b0 : Nat} {r : Reach} {v : Value} {d : DataW H} {p : List MemPlace} {sp : Nat → Bool} (hv : Value.okWide Try.prog W r b0 35 v) (h : DataW.Trod enc Try.prog W base sp true 35 v d p) :
    ∃ (n : Nat) (g : Nat → Op), n ≤ maxLen ∧ (∀ i, (g i).val.size ≤ maxLen) ∧ ∀ B, BlkSat B W v (.row n 2 fun i j => (g i).c j) := open_opts_of (okWide_slice Try.underlying35 hv) h
/-- a function of one row -/
def rd1 (sz : Nat) (p : Nat → (Nat → Nat → Value) → Prop) (r : Nat → (Nat → Nat → Value) → Value) : List SV → List Blk → Option (List Prop × Value)
  | [s], H => match rowIn sz H s with
    | some (n, fr) => some ([p n fr], r n fr)
    | none => none
  | _, _ => none
theorem rd1_ok {P : Program} {f : FuncId} {sz : Nat} {p : Nat → (Nat → Nat → Value) → Prop} {r : Nat → (Nat → Nat → Value) → Value} (hc : ∀ (n : Nat) (fr : Nat → Nat → Value) (v : Value) (w : World), (∀ B, BlkSat B w v (.row n sz fr)) → p n fr → Calls P f #[v] w fun e w' => e = .returned (r n fr) ∧ Below w.heap.size w w') : ReadOk P f (rd1 sz p r) := by
  intro ss H q v h bs B w vs hm hv hp
  unfold rd1 at h
  split at h
  · split at h
    · rename_i n fr hr
      simp only [Option.some.injEq, Prod.mk.injEq] at h
      obtain ⟨rfl, rfl⟩ := h
      obtain ⟨x0, r0, e0, v0, rfl⟩ := tos_cons hv
      obtain rfl := tos_nil v0
      exact hc n fr x0 w (fun B' => rowIn_ok hm e0 hr B') (hp _ (List.mem_cons_self ..))
    · cases h
  · cases h
def OpP (n : Nat) (f : Nat → Nat → Value) : Prop := AllOp n f ∧ Few n (opF f)
theorem op_row {w : World} {v : Value} {n : Nat} {f : Nat → Nat → Value} (h : ∀ B, BlkSat B w v (.row n 2 f)) (ho : AllOp n f) : ∀ B, BlkSat B w v (.row n 2 fun i j => (opF f i).c j) := fun B => row_congr (h B) fun i j hi hj => ho i hi j hj
theorem allOp_c (n : Nat) (g : Nat → Op) : AllOp n fun i j => (g i).c j := fun i _ j hj => by
  match j, hj with
  | 0, _ => rfl
  | 1, _ => rfl
theorem opF_c (g : Nat → Op) : (opF fun i j => (g i).c j) = g := rfl
end Go.Proofs.Ytodfcalaggfldaa
namespace Go.Proofs.Ytodfcalaggfldaa
set_option linter.unusedVariables false
set_option linter.unusedSimpArgs false
open Go.RowKit Sym Go.ChangeShapes Go.WideShapes Go.ChangeMaps

theorem w64i {z : Int} (h0 : -9223372036854775808 ≤ z) (h1 : z < 9223372036854775808) : IntKind.i64.wrap z = z := IntWalk.i64_in _ (by omega)
/-! great -/
def oG_st (n : Nat) (g : Nat → Op) (i : Int) : St := ⟨[(0, some (.ref 0)), (3, some (.v (.int .i64 i)))], [.row n 2 fun i j => (g i).c j]⟩
set_option maxRecDepth 100000 in
theorem oG_round (n : Nat) (g : Nat → Op) (i : Int) : roundM Try.prog (onlyS Try.prog noS) noL Try.f46.ntmps 0 (loopAt Try.f46 0) 1 [0, 3] [] [] (oG_st n g i) = .ite (decide (i < (↑n : Int))) (.ite (decide (i ≥ (60 : Int))) (.leaf (Ex.ret, St.mk [(2, some SV.tt), (20, some SV.tt), (19, some (SV.v (Value.tuple (Array.mk [])))), (18, some (SV.v (Value.tuple (Array.mk [])))), (17, some (SV.v (Value.tuple (Array.mk [])))), (16, some (SV.v (Value.tuple (Array.mk [])))), (15, some (SV.v (Value.tuple (Array.mk [])))), (14, some (SV.v (Value.tuple (Array.mk [])))), (13, some (SV.v (Value.tuple (Array.mk [])))), (12, some SV.tt), (11, some (SV.v (Value.bool (decide (i ≥ (60 : Int)))))), (10, some (.v (.int .i64 i))), (7, some SV.tt), (7, some (SV.v (Value.bool (decide (i < (↑n : Int)))))), (6, some (.v (.int .i64 (↑n : Int)))), (5, some (SV.ref 0)), (4, some (.v (.int .i64 i))), (0, some (SV.ref 0)), (3, some (.v (.int .i64 i)))] [Blk.row n 2 fun i j => (g i).c j])) (.need ((0 : Int) ≤ i ∧ i < (↑n : Int)) (.need (i.toNat < n) (.ite (decide ((↑(g i.toNat).2.size : Int) > (600 : Int))) (.leaf (Ex.ret, St.mk [(2, some SV.tt), (20, some SV.tt), (20, some (SV.v (Value.bool (decide ((↑(g i.toNat).2.size : Int) > (600 : Int)))))), (19, some (SV.v (Value.bool (decide ((↑(g i.toNat).2.size : Int) > (600 : Int)))))), (18, some (.v (.int .i64 (↑(g i.toNat).2.size : Int)))), (17, some (.v (.string (g i.toNat).2))), (16, some (SV.elt 0 2 i.toNat 1)), (15, some (SV.elt 0 2 i.toNat 0)), (14, some (.v (.int .i64 i))), (13, some (SV.ref 0)), (12, some SV.ff), (11, some (SV.v (Value.bool (decide (i ≥ (60 : Int)))))), (10, some (.v (.int .i64 i))), (7, some SV.tt), (7, some (SV.v (Value.bool (decide (i < (↑n : Int)))))), (6, some (.v (.int .i64 (↑n : Int)))), (5, some (SV.ref 0)), (4, some (.v (.int .i64 i))), (0, some (SV.ref 0)), (3, some (.v (.int .i64 i)))] [Blk.row n 2 fun i j => (g i).c j])) (.leaf (Ex.normal, St.mk [(0, some (SV.ref 0)), (3, some (.v (.int .i64 (IntKind.i64.wrap (i + (1 : Int))))))] [Blk.row n 2 fun i j => (g i).c j])))))) (.leaf (Ex.exit 0, St.mk [(0, some (SV.ref 0)), (3, some (.v (.int .i64 i)))] [Blk.row n 2 fun i j => (g i).c j])) := by kernel_rfl
def LoG (P : Program) (fn : Func) (n : Nat) (g : Nat → Op) (e : Nat) : Nat → St → Option (T (Ex × St)) :=
  addL 0 (fun st => .need (st.H.length = 1) (.need (st.tidy 1 [0, 3] [] [] = oG_st n g (0 : Nat)) ((roundM P (onlyS P noS) noL fn.ntmps 0 (loopAt fn 0) 1 [0, 3] [] [] (closeAt [] (oG_st n g (e : Nat)))).bind (lastX 0)))) noL
set_option maxRecDepth 100000 in
theorem oG_run (n : Nat) (g : Nat → Op) (e : Nat) : runO Try.prog (onlyS Try.prog noS) (LoG Try.prog Try.f46 n g e) Try.f46 [.ref 0] [.row n 2 fun i j => (g i).c j] = .need (1 = 1) (.need (St.mk [(0, some (SV.ref 0)), (3, some (.v (.int .i64 0)))] [Blk.row n 2 fun i j => (g i).c j] = oG_st n g (0 : Int)) (.ite (decide ((↑e : Int) < (↑n : Int))) (.ite (decide ((↑e : Int) ≥ (60 : Int))) (.leaf (Value.bool true)) (.need ((0 : Int) ≤ (↑e : Int) ∧ (↑e : Int) < (↑n : Int)) (.need ((↑e : Int).toNat < n) (.ite (decide ((↑(g (↑e : Int).toNat).2.size : Int) > (600 : Int))) (.leaf (Value.bool true)) (T.stuck 39))))) (.leaf (Value.bool false)))) := by kernel_rfl
theorem greatO_no {g : Nat → Op} {i : Nat} (h : greatO g i = false) : i < 60 ∧ (g i).val.size ≤ 600 := by
  unfold greatO at h
  simp only [Bool.or_eq_false_iff] at h
  obtain ⟨a, b⟩ := h
  rw [← Bool.not_eq_true, Nat.ble_eq] at a
  rw [← Bool.not_eq_true, Nat.blt_eq] at b
  omega
theorem greatO_yes {g : Nat → Op} {i : Nat} (h : greatO g i = true) : ¬ (i < 60 ∧ (g i).val.size ≤ 600) := by
  unfold greatO at h
  simp only [Bool.or_eq_true, Nat.ble_eq, Nat.blt_eq] at h
  omega
set_option maxRecDepth 100000 in
theorem oG_step (n : Nat) (g : Nat → Op) : ∀ i : Nat, i ≤ greatE n g → i ≠ greatE n g → (roundM Try.prog (onlyS Try.prog noS) noL Try.f46.ntmps 0 (loopAt Try.f46 0) 1 [0, 3] [] [] (oG_st n g (i : Nat))).ok fun r => r.1 = .normal ∧ ∃ j, j ≤ greatE n g ∧ greatE n g - j < greatE n g - i ∧ r.2 = oG_st n g (j : Nat) := by
  intro i hi hne
  have hlt : i < greatE n g := by omega
  obtain ⟨he, h1, -⟩ := firstOf_le (greatO g) n
  have hE : firstOf (greatO g) n 0 = greatE n g := rfl
  rw [hE] at he h1
  have hi2 := greatO_no (h1 i hlt)
  have hw : IntKind.i64.wrap ((i : Int) + 1) = ((i + 1 : Nat) : Int) := by rw [w64i (by omega) (by omega)]; rfl
  rw [oG_round]
  simp only [Int.toNat_natCast, hw, T.ok, decide_eq_true_eq, decide_eq_false_iff_not, Op.c]
  have fin : ∃ j, j ≤ greatE n g ∧ greatE n g - j < greatE n g - i ∧ oG_st n g ((i + 1 : Nat) : Int) = oG_st n g (j : Nat) := ⟨i + 1, by omega, by omega, rfl⟩
  repeat' (first | refine And.intro ?_ ?_ | intro _)
  all_goals first | omega | exact ⟨rfl, fin⟩ | rfl | exact fin | trivial
set_option maxRecDepth 100000 in
theorem law07_great (n : Nat) (g : Nat → Op) (hn : n ≤ maxLen) (v : Value) (w : World) (hv : ∀ B, BlkSat B w v (.row n 2 fun i j => (g i).c j)) : Calls Try.prog 46 #[v] w fun e w' => e = .returned (.bool (greatL n g)) ∧ Below w.heap.size w w' := by
  obtain ⟨he, h1, h2⟩ := firstOf_le (greatO g) n
  have hE : firstOf (greatO g) n 0 = greatE n g := rfl
  rw [hE] at he h1 h2
  refine calls_runO (onlyS_ok noS_ok) follows Try.func46 (by kernel_rfl) (by kernel_rfl) (one_loop (b := loopAt Try.f46 0) (id := 0) (by kernel_rfl) fun st t h => ?_) (oG_run n g (greatE n g)) ?_ (mem_row (hv [v])) rfl
  · rw [addL_same h]
    exact loop_cnt (onlyS_ok noS_ok) follows (by kernel_rfl) (noloops (by kernel_rfl)) (fun i => i ≤ greatE n g) (fun i => oG_st n g (i : Nat)) (fun i => greatE n g - i) 1 [0, 3] [] [] (greatE n g) [] (oG_step n g) (Nat.zero_le _)
  · unfold maxLen at hn
    simp only [Int.toNat_natCast, T.ok, decide_eq_true_eq, decide_eq_false_iff_not, Bool.not_eq_true', Bool.not_eq_false', Bool.and_eq_true, Op.c]
    by_cases hlt : greatE n g < n
    · have hb : greatL n g = true := by unfold greatL; rw [Nat.blt_eq]; exact hlt
      have hy := greatO_yes (h2 hlt)
      rw [hb]
      repeat' (first | refine And.intro ?_ ?_ | intro _)
      all_goals first | omega | rfl | trivial
    · have hb : greatL n g = false := by unfold greatL; rw [← Bool.not_eq_true, Nat.blt_eq]; exact hlt
      rw [hb]
      repeat' (first | refine And.intro ?_ ?_ | intro _)
      all_goals first | omega | rfl | trivial
/-! how many bytes -/
def SOpt0 (P : Program) (fSize fRight : Func) : Tab := addI 92 P (onlyS P noS) noL fSize <| addI 68 P (onlyS P noS) noL fRight noS
theorem SOpt0_ok : TabOk Try.prog (SOpt0 Try.prog Try.f92 Try.f68) := addI_ok (addI_ok noS_ok (onlyS_ok noS_ok) follows Try.func68 (by kernel_rfl) (by kernel_rfl) (by kernel_rfl) (noloops (by kernel_rfl))) (onlyS_ok noS_ok) follows Try.func92 (by kernel_rfl) (by kernel_rfl) (by kernel_rfl) (noloops (by kernel_rfl))
def oS_st (n : Nat) (g : Nat → Op) (a i : Int) : St := ⟨[(3, some (.v (.int .i64 a))), (6, some (.ref 0)), (7, some (.v (.int .i64 n))), (8, some (.v (.int .i64 i)))], [.row n 2 fun i j => (g i).c j]⟩
set_option maxRecDepth 100000 in
theorem oS_round (n : Nat) (g : Nat → Op) (a i : Int) : roundM Try.prog (onlyS Try.prog (SOpt0 Try.prog Try.f92 Try.f68)) noL Try.f69.ntmps 0 (loopAt Try.f69 0) 1 [3, 6, 7, 8] [] [] (oS_st n g a i) = .ite (decide (i < (↑n : Int))) (.need ((0 : Int) ≤ i ∧ i < (↑n : Int)) (.need (i.toNat < n) (.ite (decide ((g i.toNat).1 ≤ (31 : Int))) (.leaf (Ex.normal, St.mk [(3, some (.v (.int .i64 (IntKind.i64.wrap (a + (1 : Int)))))), (6, some (SV.ref 0)), (7, some (.v (.int .i64 (↑n : Int)))), (8, some (.v (.int .i64 (IntKind.i64.wrap (i + (1 : Int))))))] [Blk.row n 2 fun i j => (g i).c j])) (.leaf (Ex.normal, St.mk [(3, some (.v (.int .i64 (IntKind.i64.wrap (a + IntKind.i64.wrap ((2 : Int) + (↑(g i.toNat).2.size : Int))))))), (6, some (SV.ref 0)), (7, some (.v (.int .i64 (↑n : Int)))), (8, some (.v (.int .i64 (IntKind.i64.wrap (i + (1 : Int))))))] [Blk.row n 2 fun i j => (g i).c j]))))) (.leaf (Ex.exit 0, St.mk [(3, some (.v (.int .i64 a))), (6, some (SV.ref 0)), (7, some (.v (.int .i64 (↑n : Int)))), (8, some (.v (.int .i64 i)))] [Blk.row n 2 fun i j => (g i).c j])) := by kernel_rfl
def LoS (P : Program) (C : Cfg) (fn : Func) (n : Nat) (g : Nat → Op) : Nat → St → Option (T (Ex × St)) :=
  addL 0 (fun st => .need (st.H.length = 1) (.need (st.tidy 1 [3, 6, 7, 8] [] [] = oS_st n g (sizeL g 0) (0 : Nat)) ((roundM P C noL fn.ntmps 0 (loopAt fn 0) 1 [3, 6, 7, 8] [] [] (closeAt [] (oS_st n g (sizeL g n) (n : Nat)))).bind (lastX 0)))) noL
set_option maxRecDepth 100000 in
theorem oS_run (n : Nat) (g : Nat → Op) : runO Try.prog (onlyS Try.prog (SOpt0 Try.prog Try.f92 Try.f68)) (LoS Try.prog (onlyS Try.prog (SOpt0 Try.prog Try.f92 Try.f68)) Try.f69 n g) Try.f69 [.ref 0] [.row n 2 fun i j => (g i).c j] = .need (1 = 1) (.need (St.mk [(3, some (.v (.int .i64 0))), (6, some (SV.ref 0)), (7, some (.v (.int .i64 (↑n : Int)))), (8, some (.v (.int .i64 0)))] [Blk.row n 2 fun i j => (g i).c j] = oS_st n g (sizeL g 0) (0 : Int)) (.ite (decide ((↑n : Int) < (↑n : Int))) (.need ((0 : Int) ≤ (↑n : Int) ∧ (↑n : Int) < (↑n : Int)) (.need ((↑n : Int).toNat < n) (.ite (decide ((g (↑n : Int).toNat).1 ≤ (31 : Int))) (T.stuck 39) (T.stuck 39)))) (.leaf (Value.int IntKind.i64 (sizeL g n))))) := by kernel_rfl
def oR_st (n : Nat) (g : Nat → Op) (a i : Int) : St := ⟨[(0, some (.ref 0)), (3, some (.v (.int .i64 a))), (4, some (.v (.int .i64 i)))], [.row n 2 fun i j => (g i).c j]⟩
set_option maxRecDepth 100000 in
theorem oR_round (n : Nat) (g : Nat → Op) (a i : Int) : roundM Try.prog (onlyS Try.prog noS) noL Try.f112.ntmps 0 (loopAt Try.f112 0) 1 [0, 3, 4] [] [] (oR_st n g a i) = .ite (decide (i < (↑n : Int))) (.need ((0 : Int) ≤ i ∧ i < (↑n : Int)) (.need (i.toNat < n) (.ite (decide ((g i.toNat).1 > (31 : Int))) (.need ((0 : Int) ≤ i ∧ i < (↑n : Int)) (.need (i.toNat < n) (.leaf (Ex.normal, St.mk [(0, some (SV.ref 0)), (3, some (.v (.int .i64 (IntKind.i64.wrap (IntKind.i64.wrap (IntKind.i64.wrap (a + (1 : Int)) + (1 : Int)) + (↑(g i.toNat).2.size : Int)))))), (4, some (.v (.int .i64 (IntKind.i64.wrap (i + (1 : Int))))))] [Blk.row n 2 fun i j => (g i).c j])))) (.leaf (Ex.normal, St.mk [(0, some (SV.ref 0)), (3, some (.v (.int .i64 (IntKind.i64.wrap (a + (1 : Int)))))), (4, some (.v (.int .i64 (IntKind.i64.wrap (i + (1 : Int))))))] [Blk.row n 2 fun i j => (g i).c j]))))) (.leaf (Ex.exit 0, St.mk [(0, some (SV.ref 0)), (3, some (.v (.int .i64 a))), (4, some (.v (.int .i64 i)))] [Blk.row n 2 fun i j => (g i).c j])) := by kernel_rfl
def LoR (P : Program) (C : Cfg) (fn : Func) (n : Nat) (g : Nat → Op) : Nat → St → Option (T (Ex × St)) :=
  addL 0 (fun st => .need (st.H.length = 1) (.need (st.tidy 1 [0, 3, 4] [] [] = oR_st n g (sizeL g 0) (0 : Nat)) ((roundM P C noL fn.ntmps 0 (loopAt fn 0) 1 [0, 3, 4] [] [] (closeAt [] (oR_st n g (sizeL g n) (n : Nat)))).bind (lastX 0)))) noL
set_option maxRecDepth 100000 in
theorem oR_run (n : Nat) (g : Nat → Op) : runO Try.prog (onlyS Try.prog noS) (LoR Try.prog (onlyS Try.prog noS) Try.f112 n g) Try.f112 [.ref 0] [.row n 2 fun i j => (g i).c j] = .need (1 = 1) (.need (St.mk [(0, some (SV.ref 0)), (3, some (.v (.int .i64 0))), (4, some (.v (.int .i64 0)))] [Blk.row n 2 fun i j => (g i).c j] = oR_st n g (sizeL g 0) (0 : Int)) (.ite (decide ((↑n : Int) < (↑n : Int))) (.need ((0 : Int) ≤ (↑n : Int) ∧ (↑n : Int) < (↑n : Int)) (.need ((↑n : Int).toNat < n) (.ite (decide ((g (↑n : Int).toNat).1 > (31 : Int))) (.need ((0 : Int) ≤ (↑n : Int) ∧ (↑n : Int) < (↑n : Int)) (.need ((↑n : Int).toNat < n) (T.stuck 39))) (T.stuck 39)))) (.leaf (Value.int IntKind.i64 (sizeL g n))))) := by kernel_rfl
theorem sizeO_lo {o : Op} (h : o.kind ≤ 31) : sizeO o = 1 := by unfold sizeO; rw [if_pos h]
theorem sizeO_hi {o : Op} (h : ¬ o.kind ≤ 31) : sizeO o = 2 + (o.val.size : Int) := by unfold sizeO; rw [if_neg h]
set_option maxRecDepth 100000 in
theorem oS_step (n : Nat) (g : Nat → Op) (hf : Few n g) : ∀ i : Nat, i ≤ n → i ≠ n → (roundM Try.prog (onlyS Try.prog (SOpt0 Try.prog Try.f92 Try.f68)) noL Try.f69.ntmps 0 (loopAt Try.f69 0) 1 [3, 6, 7, 8] [] [] (oS_st n g (sizeL g i) (i : Nat))).ok fun r => r.1 = .normal ∧ ∃ j, j ≤ n ∧ n - j < n - i ∧ r.2 = oS_st n g (sizeL g j) (j : Nat) := by
  intro i hi hne
  obtain ⟨f1, f2⟩ := hf
  have hb := sizeL_bd g i (fun j hj => f2 j (by omega))
  have hz := f2 i (by omega)
  have hw : IntKind.i64.wrap ((i : Int) + 1) = ((i + 1 : Nat) : Int) := by rw [w64i (by omega) (by omega)]; rfl
  have h2 : IntKind.i64.wrap (2 + ((g i).val.size : Int)) = 2 + ((g i).val.size : Int) := w64i (by omega) (by omega)
  have h3 : IntKind.i64.wrap (sizeL g i + 1) = sizeL g i + 1 := w64i (by omega) (by omega)
  have h4 : IntKind.i64.wrap (sizeL g i + (2 + ((g i).val.size : Int))) = sizeL g i + (2 + ((g i).val.size : Int)) := w64i (by omega) (by omega)
  have fin : ∀ a, a = sizeL g (i + 1) → ∃ j, j ≤ n ∧ n - j < n - i ∧ oS_st n g a ((i + 1 : Nat) : Int) = oS_st n g (sizeL g j) (j : Nat) := fun a ha => ⟨i + 1, by omega, by omega, by rw [ha]⟩
  rw [oS_round]
  simp only [Int.toNat_natCast, hw, T.ok, decide_eq_true_eq, decide_eq_false_iff_not, Op.c, h2, h3, h4]
  repeat' (first | refine And.intro ?_ ?_ | intro _)
  all_goals first | omega | rfl | trivial | skip
  · rename_i hk; exact fin _ (by simp only [sizeL]; rw [sizeO_lo hk])
  · rename_i hk; exact fin _ (by simp only [sizeL]; rw [sizeO_hi hk])
set_option maxRecDepth 100000 in
theorem oR_step (n : Nat) (g : Nat → Op) (hf : Few n g) : ∀ i : Nat, i ≤ n → i ≠ n → (roundM Try.prog (onlyS Try.prog noS) noL Try.f112.ntmps 0 (loopAt Try.f112 0) 1 [0, 3, 4] [] [] (oR_st n g (sizeL g i) (i : Nat))).ok fun r => r.1 = .normal ∧ ∃ j, j ≤ n ∧ n - j < n - i ∧ r.2 = oR_st n g (sizeL g j) (j : Nat) := by
  intro i hi hne
  obtain ⟨f1, f2⟩ := hf
  have hb := sizeL_bd g i (fun j hj => f2 j (by omega))
  have hz := f2 i (by omega)
  have hw : IntKind.i64.wrap ((i : Int) + 1) = ((i + 1 : Nat) : Int) := by rw [w64i (by omega) (by omega)]; rfl
  have h3 : IntKind.i64.wrap (sizeL g i + 1) = sizeL g i + 1 := w64i (by omega) (by omega)
  have h4 : IntKind.i64.wrap (sizeL g i + 1 + 1) = sizeL g i + 1 + 1 := w64i (by omega) (by omega)
  have h5 : IntKind.i64.wrap (sizeL g i + 1 + 1 + ((g i).val.size : Int)) = sizeL g i + 1 + 1 + ((g i).val.size : Int) := w64i (by omega) (by omega)
  have fin : ∀ a, a = sizeL g (i + 1) → ∃ j, j ≤ n ∧ n - j < n - i ∧ oR_st n g a ((i + 1 : Nat) : Int) = oR_st n g (sizeL g j) (j : Nat) := fun a ha => ⟨i + 1, by omega, by omega, by rw [ha]⟩
  rw [oR_round]
  simp only [Int.toNat_natCast, hw, T.ok, decide_eq_true_eq, decide_eq_false_iff_not, Op.c, h3, h4, h5]
  repeat' (first | refine And.intro ?_ ?_ | intro _)
  all_goals first | omega | rfl | trivial | skip
  · rename_i hk; exact fin _ (by simp only [sizeL]; rw [sizeO_hi (by omega)]; omega)
  · rename_i hk; exact fin _ (by simp only [sizeL]; rw [sizeO_lo (by omega)])
set_option maxRecDepth 100000 in
theorem opts_Size (n : Nat) (g : Nat → Op) (hf : Few n g) (v : Value) (w : World) (hv : ∀ B, BlkSat B w v (.row n 2 fun i j => (g i).c j)) : Calls Try.prog 69 #[v] w fun e w' => e = .returned (.int .i64 (sizeL g n)) ∧ Below w.heap.size w w' := by
  refine calls_runO (onlyS_ok SOpt0_ok) follows Try.func69 (by kernel_rfl) (by kernel_rfl) (one_loop (b := loopAt Try.f69 0) (id := 0) (by kernel_rfl) fun st t h => ?_) (oS_run n g) ?_ (mem_row (hv [v])) rfl
  · rw [addL_same h]
    exact loop_cnt (onlyS_ok SOpt0_ok) follows (by kernel_rfl) (noloops (by kernel_rfl)) (fun i => i ≤ n) (fun i => oS_st n g (sizeL g i) (i : Nat)) (fun i => n - i) 1 [3, 6, 7, 8] [] [] n [] (oS_step n g hf) (Nat.zero_le _)
  · simp only [T.ok, decide_eq_true_eq, decide_eq_false_iff_not]
    repeat' (first | refine And.intro ?_ ?_ | intro _)
    all_goals first | omega | rfl | trivial
set_option maxRecDepth 100000 in
theorem ref07_Size (n : Nat) (g : Nat → Op) (hf : Few n g) (v : Value) (w : World) (hv : ∀ B, BlkSat B w v (.row n 2 fun i j => (g i).c j)) : Calls Try.prog 112 #[v] w fun e w' => e = .returned (.int .i64 (sizeL g n)) ∧ Below w.heap.size w w' := by
  refine calls_runO (onlyS_ok noS_ok) follows Try.func112 (by kernel_rfl) (by kernel_rfl) (one_loop (b := loopAt Try.f112 0) (id := 0) (by kernel_rfl) fun st t h => ?_) (oR_run n g) ?_ (mem_row (hv [v])) rfl
  · rw [addL_same h]
    exact loop_cnt (onlyS_ok noS_ok) follows (by kernel_rfl) (noloops (by kernel_rfl)) (fun i => i ≤ n) (fun i => oR_st n g (sizeL g i) (i : Nat)) (fun i => n - i) 1 [0, 3, 4] [] [] n [] (oR_step n g hf) (Nat.zero_le _)
  · simp only [T.ok, decide_eq_true_eq, decide_eq_false_iff_not]
    repeat' (first | refine And.intro ?_ ?_ | intro _)
    all_goals first | omega | rfl | trivial
end Go.Proofs.Ytodfcalaggfldaa
namespace Go.Proofs.Ytodfcalaggfldaa
set_option linter.unusedVariables false
set_option linter.unusedSimpArgs false
open Go.RowKit Sym Go.ChangeShapes Go.WideShapes Go.ChangeMaps

def SOpt1 (P : Program) (fSize fRight : Func) : Tab := SOpt0 P fSize fRight
def FOpt1 : LTab := addR 69 (rd1 2 OpP fun n f => .int .i64 (sizeL (opF f) n)) <| addR 112 (rd1 2 OpP fun n f => .int .i64 (sizeL (opF f) n)) <| addR 46 (rd1 2 (fun n f => n ≤ maxLen ∧ AllOp n f) fun n f => .bool (greatL n (opF f))) noF
theorem FOpt1_ok : LOk Try.prog FOpt1 := addR_ok (addR_ok (addR_ok noF_ok (by kernel_rfl) (rd1_ok fun n f v w hv hp => law07_great n (opF f) hp.1 v w (op_row hv hp.2)))
  (by kernel_rfl) (rd1_ok fun n f v w hv hp => ref07_Size n (opF f) hp.2 v w (op_row hv hp.1))) (by kernel_rfl) (rd1_ok fun n f v w hv hp => opts_Size n (opF f) hp.2 v w (op_row hv hp.1))
abbrev CO1 (P : Program) (fSize fRight : Func) : Cfg := both P (SOpt1 P fSize fRight) FOpt1 [69, 112]
/-! the program's -/
def oC_st (n : Nat) (g : Nat → Op) (i : Int) : St := ⟨[(0, some (.ref 0)), (8, some (.ref 0)), (9, some (.v (.int .i64 n))), (10, some (.v (.int .i64 i)))], [.row n 2 fun i j => (g i).c j]⟩
def oD_st (n : Nat) (g : Nat → Op) (i : Int) : St := ⟨[(0, some (.ref 0)), (20, some (.ref 0)), (21, some (.v (.int .i64 n))), (22, some (.v (.int .i64 i)))], [.row n 2 fun i j => (g i).c j]⟩
set_option maxRecDepth 100000 in
theorem oC_round (n : Nat) (g : Nat → Op) (i : Int) : roundM Try.prog (CO1 Try.prog Try.f92 Try.f68) noL Try.f25.ntmps 0 (loopAt Try.f25 0) 1 [0, 8, 9, 10] [] [] (oC_st n g i) = .ite (decide (i < (↑n : Int))) (.need ((0 : Int) ≤ i ∧ i < (↑n : Int)) (.need (i.toNat < n) (.ite (decide ((g i.toNat).1 ≤ (0 : Int))) (.ite true (.leaf (Ex.ret, St.mk [(2, some (.v (.int .i64 7))), (18, some (.v (.int .i64 7))), (17, some SV.tt), (17, some (SV.v (Value.bool true))), (16, some (.v (.int .i64 7))), (5, some (.v (.int .i64 7))), (15, some (.v (.int .i64 7))), (14, some (SV.v (Value.agg (Array.mk [Value.int IntKind.i64 (g i.toNat).1, Value.string (g i.toNat).2])))), (4, some (.ptr 1 0)), (13, some (SV.v (Value.agg (Array.mk [Value.int IntKind.i64 (g i.toNat).1, Value.string (g i.toNat).2])))), (12, some (SV.elt 0 2 i.toNat 0)), (11, some SV.tt), (11, some (SV.v (Value.bool (decide (i < (↑n : Int)))))), (0, some (SV.ref 0)), (8, some (SV.ref 0)), (9, some (.v (.int .i64 (↑n : Int)))), (10, some (.v (.int .i64 i)))] [Blk.row n 2 fun i j => (g i).c j, .own [.v (.int .i64 (g i.toNat).1), .v (.string (g i.toNat).2)]])) (.leaf (Ex.normal, St.mk [(0, some (SV.ref 0)), (8, some (SV.ref 0)), (9, some (.v (.int .i64 (↑n : Int)))), (10, some (.v (.int .i64 (IntKind.i64.wrap (i + (1 : Int))))))] [Blk.row n 2 fun i j => (g i).c j]))) (.ite (decide ((g i.toNat).1 > (255 : Int))) (.ite true (.leaf (Ex.ret, St.mk [(2, some (.v (.int .i64 7))), (18, some (.v (.int .i64 7))), (17, some SV.tt), (17, some (SV.v (Value.bool true))), (16, some (.v (.int .i64 7))), (5, some (.v (.int .i64 7))), (15, some (.v (.int .i64 7))), (14, some (SV.v (Value.agg (Array.mk [Value.int IntKind.i64 (g i.toNat).1, Value.string (g i.toNat).2])))), (4, some (.ptr 1 0)), (13, some (SV.v (Value.agg (Array.mk [Value.int IntKind.i64 (g i.toNat).1, Value.string (g i.toNat).2])))), (12, some (SV.elt 0 2 i.toNat 0)), (11, some SV.tt), (11, some (SV.v (Value.bool (decide (i < (↑n : Int)))))), (0, some (SV.ref 0)), (8, some (SV.ref 0)), (9, some (.v (.int .i64 (↑n : Int)))), (10, some (.v (.int .i64 i)))] [Blk.row n 2 fun i j => (g i).c j, .own [.v (.int .i64 (g i.toNat).1), .v (.string (g i.toNat).2)]])) (.leaf (Ex.normal, St.mk [(0, some (SV.ref 0)), (8, some (SV.ref 0)), (9, some (.v (.int .i64 (↑n : Int)))), (10, some (.v (.int .i64 (IntKind.i64.wrap (i + (1 : Int))))))] [Blk.row n 2 fun i j => (g i).c j]))) (.ite (decide ((g i.toNat).1 ≤ (31 : Int))) (.ite (!decide ((g i.toNat).2 = ByteArray.mk (Array.mk []))) (.ite true (.leaf (Ex.ret, St.mk [(2, some (.v (.int .i64 11))), (18, some (.v (.int .i64 11))), (17, some SV.tt), (17, some (SV.v (Value.bool true))), (16, some (.v (.int .i64 11))), (5, some (.v (.int .i64 11))), (15, some (.v (.int .i64 11))), (14, some (SV.v (Value.agg (Array.mk [Value.int IntKind.i64 (g i.toNat).1, Value.string (g i.toNat).2])))), (4, some (.ptr 1 0)), (13, some (SV.v (Value.agg (Array.mk [Value.int IntKind.i64 (g i.toNat).1, Value.string (g i.toNat).2])))), (12, some (SV.elt 0 2 i.toNat 0)), (11, some SV.tt), (11, some (SV.v (Value.bool (decide (i < (↑n : Int)))))), (0, some (SV.ref 0)), (8, some (SV.ref 0)), (9, some (.v (.int .i64 (↑n : Int)))), (10, some (.v (.int .i64 i)))] [Blk.row n 2 fun i j => (g i).c j, .own [.v (.int .i64 (g i.toNat).1), .v (.string (g i.toNat).2)]])) (.leaf (Ex.normal, St.mk [(0, some (SV.ref 0)), (8, some (SV.ref 0)), (9, some (.v (.int .i64 (↑n : Int)))), (10, some (.v (.int .i64 (IntKind.i64.wrap (i + (1 : Int))))))] [Blk.row n 2 fun i j => (g i).c j]))) (.ite (decide ((↑(g i.toNat).2.size : Int) > (253 : Int))) (.ite true (.leaf (Ex.ret, St.mk [(2, some (.v (.int .i64 11))), (18, some (.v (.int .i64 11))), (17, some SV.tt), (17, some (SV.v (Value.bool true))), (16, some (.v (.int .i64 11))), (5, some (.v (.int .i64 11))), (15, some (.v (.int .i64 11))), (14, some (SV.v (Value.agg (Array.mk [Value.int IntKind.i64 (g i.toNat).1, Value.string (g i.toNat).2])))), (4, some (.ptr 1 0)), (13, some (SV.v (Value.agg (Array.mk [Value.int IntKind.i64 (g i.toNat).1, Value.string (g i.toNat).2])))), (12, some (SV.elt 0 2 i.toNat 0)), (11, some SV.tt), (11, some (SV.v (Value.bool (decide (i < (↑n : Int)))))), (0, some (SV.ref 0)), (8, some (SV.ref 0)), (9, some (.v (.int .i64 (↑n : Int)))), (10, some (.v (.int .i64 i)))] [Blk.row n 2 fun i j => (g i).c j, .own [.v (.int .i64 (g i.toNat).1), .v (.string (g i.toNat).2)]])) (.leaf (Ex.normal, St.mk [(0, some (SV.ref 0)), (8, some (SV.ref 0)), (9, some (.v (.int .i64 (↑n : Int)))), (10, some (.v (.int .i64 (IntKind.i64.wrap (i + (1 : Int))))))] [Blk.row n 2 fun i j => (g i).c j]))) (.ite false (.leaf (Ex.ret, St.mk [(2, some (.v (.int .i64 0))), (18, some (.v (.int .i64 0))), (17, some SV.tt), (17, some (SV.v (Value.bool false))), (16, some (.v (.int .i64 0))), (5, some (.v (.int .i64 0))), (15, some (.v (.int .i64 0))), (14, some (SV.v (Value.agg (Array.mk [Value.int IntKind.i64 (g i.toNat).1, Value.string (g i.toNat).2])))), (4, some (.ptr 1 0)), (13, some (SV.v (Value.agg (Array.mk [Value.int IntKind.i64 (g i.toNat).1, Value.string (g i.toNat).2])))), (12, some (SV.elt 0 2 i.toNat 0)), (11, some SV.tt), (11, some (SV.v (Value.bool (decide (i < (↑n : Int)))))), (0, some (SV.ref 0)), (8, some (SV.ref 0)), (9, some (.v (.int .i64 (↑n : Int)))), (10, some (.v (.int .i64 i)))] [Blk.row n 2 fun i j => (g i).c j, .own [.v (.int .i64 (g i.toNat).1), .v (.string (g i.toNat).2)]])) (.leaf (Ex.normal, St.mk [(0, some (SV.ref 0)), (8, some (SV.ref 0)), (9, some (.v (.int .i64 (↑n : Int)))), (10, some (.v (.int .i64 (IntKind.i64.wrap (i + (1 : Int))))))] [Blk.row n 2 fun i j => (g i).c j]))))) (.ite (decide ((↑(g i.toNat).2.size : Int) > (253 : Int))) (.ite true (.leaf (Ex.ret, St.mk [(2, some (.v (.int .i64 11))), (18, some (.v (.int .i64 11))), (17, some SV.tt), (17, some (SV.v (Value.bool true))), (16, some (.v (.int .i64 11))), (5, some (.v (.int .i64 11))), (15, some (.v (.int .i64 11))), (14, some (SV.v (Value.agg (Array.mk [Value.int IntKind.i64 (g i.toNat).1, Value.string (g i.toNat).2])))), (4, some (.ptr 1 0)), (13, some (SV.v (Value.agg (Array.mk [Value.int IntKind.i64 (g i.toNat).1, Value.string (g i.toNat).2])))), (12, some (SV.elt 0 2 i.toNat 0)), (11, some SV.tt), (11, some (SV.v (Value.bool (decide (i < (↑n : Int)))))), (0, some (SV.ref 0)), (8, some (SV.ref 0)), (9, some (.v (.int .i64 (↑n : Int)))), (10, some (.v (.int .i64 i)))] [Blk.row n 2 fun i j => (g i).c j, .own [.v (.int .i64 (g i.toNat).1), .v (.string (g i.toNat).2)]])) (.leaf (Ex.normal, St.mk [(0, some (SV.ref 0)), (8, some (SV.ref 0)), (9, some (.v (.int .i64 (↑n : Int)))), (10, some (.v (.int .i64 (IntKind.i64.wrap (i + (1 : Int))))))] [Blk.row n 2 fun i j => (g i).c j]))) (.ite false (.leaf (Ex.ret, St.mk [(2, some (.v (.int .i64 0))), (18, some (.v (.int .i64 0))), (17, some SV.tt), (17, some (SV.v (Value.bool false))), (16, some (.v (.int .i64 0))), (5, some (.v (.int .i64 0))), (15, some (.v (.int .i64 0))), (14, some (SV.v (Value.agg (Array.mk [Value.int IntKind.i64 (g i.toNat).1, Value.string (g i.toNat).2])))), (4, some (.ptr 1 0)), (13, some (SV.v (Value.agg (Array.mk [Value.int IntKind.i64 (g i.toNat).1, Value.string (g i.toNat).2])))), (12, some (SV.elt 0 2 i.toNat 0)), (11, some SV.tt), (11, some (SV.v (Value.bool (decide (i < (↑n : Int)))))), (0, some (SV.ref 0)), (8, some (SV.ref 0)), (9, some (.v (.int .i64 (↑n : Int)))), (10, some (.v (.int .i64 i)))] [Blk.row n 2 fun i j => (g i).c j, .own [.v (.int .i64 (g i.toNat).1), .v (.string (g i.toNat).2)]])) (.leaf (Ex.normal, St.mk [(0, some (SV.ref 0)), (8, some (SV.ref 0)), (9, some (.v (.int .i64 (↑n : Int)))), (10, some (.v (.int .i64 (IntKind.i64.wrap (i + (1 : Int))))))] [Blk.row n 2 fun i j => (g i).c j]))))))))) (.leaf (Ex.exit 0, St.mk [(0, some (SV.ref 0)), (8, some (SV.ref 0)), (9, some (.v (.int .i64 (↑n : Int)))), (10, some (.v (.int .i64 i)))] [Blk.row n 2 fun i j => (g i).c j])) := by kernel_rfl
set_option maxRecDepth 100000 in
theorem oD_round (n : Nat) (g : Nat → Op) (i : Int) : roundM Try.prog (CO1 Try.prog Try.f92 Try.f68) noL Try.f25.ntmps 2 (loopAt Try.f25 1) 1 [0, 20, 21, 22] [] [] (oD_st n g i) = .ite (decide (i < (↑n : Int))) (.need ((0 : Int) ≤ i ∧ i < (↑n : Int)) (.need (i.toNat < n) (.ite (decide ((g i.toNat).1 = (1 : Int))) (.ite (decide (IntKind.i64.wrap (i + (1 : Int)) = (↑n : Int))) (.leaf (Ex.ret, St.mk [(2, some (.c (.int .i64 4))), (45, some SV.tt), (44, some SV.tt), (43, some (SV.v (Value.tuple (Array.mk [])))), (42, some (SV.v (Value.tuple (Array.mk [])))), (41, some (SV.v (Value.tuple (Array.mk [])))), (40, some (SV.v (Value.tuple (Array.mk [])))), (39, some (SV.v (Value.tuple (Array.mk [])))), (38, some (SV.v (Value.tuple (Array.mk [])))), (37, some (SV.v (Value.tuple (Array.mk [])))), (36, some SV.tt), (35, some (SV.v (Value.bool (decide (IntKind.i64.wrap (i + (1 : Int)) = (↑n : Int)))))), (34, some (.v (.int .i64 (↑n : Int)))), (33, some (SV.ref 0)), (32, some (.v (.int .i64 (IntKind.i64.wrap (i + (1 : Int)))))), (31, some (.v (.int .i64 i))), (30, some SV.tt), (29, some (SV.v (Value.bool (decide ((g i.toNat).1 = (1 : Int)))))), (28, some (.v (.int .i64 (g i.toNat).1))), (27, some (.ptr 1 0)), (6, some (.v (.int .i64 i))), (7, some (.ptr 1 0)), (26, some (SV.v (Value.agg (Array.mk [Value.int IntKind.i64 (g i.toNat).1, Value.string (g i.toNat).2])))), (25, some (SV.elt 0 2 i.toNat 0)), (24, some (.v (.int .i64 i))), (23, some SV.tt), (23, some (SV.v (Value.bool (decide (i < (↑n : Int)))))), (0, some (SV.ref 0)), (20, some (SV.ref 0)), (21, some (.v (.int .i64 (↑n : Int)))), (22, some (.v (.int .i64 i)))] [Blk.row n 2 fun i j => (g i).c j, .own [.v (.int .i64 (g i.toNat).1), .v (.string (g i.toNat).2)]])) (.need ((0 : Int) ≤ IntKind.i64.wrap (i + (1 : Int)) ∧ IntKind.i64.wrap (i + (1 : Int)) < (↑n : Int)) (.need ((IntKind.i64.wrap (i + (1 : Int))).toNat < n) (.ite (decide ((g (IntKind.i64.wrap (i + (1 : Int))).toNat).1 = (1 : Int))) (.leaf (Ex.ret, St.mk [(2, some (.c (.int .i64 4))), (45, some SV.tt), (45, some (SV.v (Value.bool (decide ((g (IntKind.i64.wrap (i + (1 : Int))).toNat).1 = (1 : Int)))))), (44, some (SV.v (Value.bool (decide ((g (IntKind.i64.wrap (i + (1 : Int))).toNat).1 = (1 : Int)))))), (43, some (SV.v (Value.bool (decide ((g (IntKind.i64.wrap (i + (1 : Int))).toNat).1 = (1 : Int)))))), (42, some (.v (.int .i64 (g (IntKind.i64.wrap (i + (1 : Int))).toNat).1))), (41, some (SV.elt 0 2 (IntKind.i64.wrap (i + (1 : Int))).toNat 0)), (40, some (SV.elt 0 2 (IntKind.i64.wrap (i + (1 : Int))).toNat 0)), (39, some (.v (.int .i64 (IntKind.i64.wrap (i + (1 : Int)))))), (38, some (.v (.int .i64 i))), (37, some (SV.ref 0)), (36, some SV.ff), (35, some (SV.v (Value.bool (decide (IntKind.i64.wrap (i + (1 : Int)) = (↑n : Int)))))), (34, some (.v (.int .i64 (↑n : Int)))), (33, some (SV.ref 0)), (32, some (.v (.int .i64 (IntKind.i64.wrap (i + (1 : Int)))))), (31, some (.v (.int .i64 i))), (30, some SV.tt), (29, some (SV.v (Value.bool (decide ((g i.toNat).1 = (1 : Int)))))), (28, some (.v (.int .i64 (g i.toNat).1))), (27, some (.ptr 1 0)), (6, some (.v (.int .i64 i))), (7, some (.ptr 1 0)), (26, some (SV.v (Value.agg (Array.mk [Value.int IntKind.i64 (g i.toNat).1, Value.string (g i.toNat).2])))), (25, some (SV.elt 0 2 i.toNat 0)), (24, some (.v (.int .i64 i))), (23, some SV.tt), (23, some (SV.v (Value.bool (decide (i < (↑n : Int)))))), (0, some (SV.ref 0)), (20, some (SV.ref 0)), (21, some (.v (.int .i64 (↑n : Int)))), (22, some (.v (.int .i64 i)))] [Blk.row n 2 fun i j => (g i).c j, .own [.v (.int .i64 (g i.toNat).1), .v (.string (g i.toNat).2)]])) (.leaf (Ex.normal, St.mk [(0, some (SV.ref 0)), (20, some (SV.ref 0)), (21, some (.v (.int .i64 (↑n : Int)))), (22, some (.v (.int .i64 (IntKind.i64.wrap (i + (1 : Int))))))] [Blk.row n 2 fun i j => (g i).c j])))))) (.leaf (Ex.normal, St.mk [(0, some (SV.ref 0)), (20, some (SV.ref 0)), (21, some (.v (.int .i64 (↑n : Int)))), (22, some (.v (.int .i64 (IntKind.i64.wrap (i + (1 : Int))))))] [Blk.row n 2 fun i j => (g i).c j]))))) (.leaf (Ex.exit 2, St.mk [(0, some (SV.ref 0)), (20, some (SV.ref 0)), (21, some (.v (.int .i64 (↑n : Int)))), (22, some (.v (.int .i64 i)))] [Blk.row n 2 fun i j => (g i).c j])) := by kernel_rfl
def LoC (P : Program) (C : Cfg) (fn : Func) (n : Nat) (g : Nat → Op) (e1 e2 : Nat) : Nat → St → Option (T (Ex × St)) :=
  addL 2 (fun st => .need (st.H.length = 1) (.need (st.tidy 1 [0, 20, 21, 22] [] [] = oD_st n g (0 : Nat)) ((roundM P C noL fn.ntmps 2 (loopAt fn 1) 1 [0, 20, 21, 22] [] [] (closeAt [] (oD_st n g (e2 : Nat)))).bind (lastX 2)))) <|
  addL 0 (fun st => .need (st.H.length = 1) (.need (st.tidy 1 [0, 8, 9, 10] [] [] = oC_st n g (0 : Nat)) ((roundM P C noL fn.ntmps 0 (loopAt fn 0) 1 [0, 8, 9, 10] [] [] (closeAt [] (oC_st n g (e1 : Nat)))).bind (lastX 0)))) noL
set_option maxRecDepth 100000 in
theorem oC_run (n : Nat) (g : Nat → Op) (e1 e2 : Nat) : runO Try.prog (CO1 Try.prog Try.f92 Try.f68) (LoC Try.prog (CO1 Try.prog Try.f92 Try.f68) Try.f25 n g e1 e2) Try.f25 [.ref 0] [.row n 2 fun i j => (g i).c j] = .need (1 = 1) (.need (St.mk [(0, some (SV.ref 0)), (8, some (SV.ref 0)), (9, some (.v (.int .i64 (↑n : Int)))), (10, some (.v (.int .i64 0)))] [Blk.row n 2 fun i j => (g i).c j] = oC_st n g (0 : Int)) (.ite (decide ((↑e1 : Int) < (↑n : Int))) (.need ((0 : Int) ≤ (↑e1 : Int) ∧ (↑e1 : Int) < (↑n : Int)) (.need ((↑e1 : Int).toNat < n) (.ite (decide ((g (↑e1 : Int).toNat).1 ≤ (0 : Int))) (.ite true (.leaf (Value.int IntKind.i64 7)) (T.stuck 39)) (.ite (decide ((g (↑e1 : Int).toNat).1 > (255 : Int))) (.ite true (.leaf (Value.int IntKind.i64 7)) (T.stuck 39)) (.ite (decide ((g (↑e1 : Int).toNat).1 ≤ (31 : Int))) (.ite (!decide ((g (↑e1 : Int).toNat).2 = ByteArray.mk (Array.mk []))) (.ite true (.leaf (Value.int IntKind.i64 11)) (T.stuck 39)) (.ite (decide ((↑(g (↑e1 : Int).toNat).2.size : Int) > (253 : Int))) (.ite true (.leaf (Value.int IntKind.i64 11)) (T.stuck 39)) (.ite false (.leaf (Value.int IntKind.i64 0)) (T.stuck 39)))) (.ite (decide ((↑(g (↑e1 : Int).toNat).2.size : Int) > (253 : Int))) (.ite true (.leaf (Value.int IntKind.i64 11)) (T.stuck 39)) (.ite false (.leaf (Value.int IntKind.i64 0)) (T.stuck 39)))))))) (.need (1 = 1) (.need (St.mk [(0, some (SV.ref 0)), (20, some (SV.ref 0)), (21, some (.v (.int .i64 (↑n : Int)))), (22, some (.v (.int .i64 0)))] [Blk.row n 2 fun i j => (g i).c j] = oD_st n g (0 : Int)) (.ite (decide ((↑e2 : Int) < (↑n : Int))) (.need ((0 : Int) ≤ (↑e2 : Int) ∧ (↑e2 : Int) < (↑n : Int)) (.need ((↑e2 : Int).toNat < n) (.ite (decide ((g (↑e2 : Int).toNat).1 = (1 : Int))) (.ite (decide (IntKind.i64.wrap ((↑e2 : Int) + (1 : Int)) = (↑n : Int))) (.leaf (Value.int IntKind.i64 4)) (.need ((0 : Int) ≤ IntKind.i64.wrap ((↑e2 : Int) + (1 : Int)) ∧ IntKind.i64.wrap ((↑e2 : Int) + (1 : Int)) < (↑n : Int)) (.need ((IntKind.i64.wrap ((↑e2 : Int) + (1 : Int))).toNat < n) (.ite (decide ((g (IntKind.i64.wrap ((↑e2 : Int) + (1 : Int))).toNat).1 = (1 : Int))) (.leaf (Value.int IntKind.i64 4)) (T.stuck 39))))) (T.stuck 39)))) (.need (OpP n fun i j => (g i).c j) (.ite (decide (sizeL (opF fun i j => (g i).c j) n > (400 : Int))) (.leaf (Value.int IntKind.i64 11)) (.leaf (Value.int IntKind.i64 0))))))))) := by kernel_rfl
/-! the reference's -/
def rC_st (n : Nat) (g : Nat → Op) (i : Int) : St := ⟨[(0, some (.ref 0)), (3, some (.v (.int .i64 i)))], [.row n 2 fun i j => (g i).c j]⟩
def rD_st (n : Nat) (g : Nat → Op) (i : Int) : St := ⟨[(0, some (.ref 0)), (5, some (.v (.int .i64 i)))], [.row n 2 fun i j => (g i).c j]⟩
set_option maxRecDepth 100000 in
theorem rC_round (n : Nat) (g : Nat → Op) (i : Int) : roundM Try.prog (CO1 Try.prog Try.f92 Try.f68) noL Try.f63.ntmps 0 (loopAt Try.f63 0) 1 [0, 3] [] [] (rC_st n g i) = .ite (decide (i < (↑n : Int))) (.need ((0 : Int) ≤ i ∧ i < (↑n : Int)) (.need (i.toNat < n) (.ite (decide ((g i.toNat).1 < (1 : Int))) (.leaf (Ex.ret, St.mk [(2, some (.c (.int .i64 7))), (23, some SV.tt), (22, some (SV.v (Value.tuple (Array.mk [])))), (21, some (SV.v (Value.tuple (Array.mk [])))), (20, some (SV.v (Value.tuple (Array.mk [])))), (19, some SV.tt), (18, some (SV.v (Value.bool (decide ((g i.toNat).1 < (1 : Int)))))), (17, some (.v (.int .i64 (g i.toNat).1))), (16, some (.ptr 1 0)), (4, some (.ptr 1 0)), (15, some (SV.v (Value.agg (Array.mk [Value.int IntKind.i64 (g i.toNat).1, Value.string (g i.toNat).2])))), (14, some (SV.elt 0 2 i.toNat 0)), (13, some (.v (.int .i64 i))), (12, some (SV.ref 0)), (9, some SV.tt), (9, some (SV.v (Value.bool (decide (i < (↑n : Int)))))), (8, some (.v (.int .i64 (↑n : Int)))), (7, some (SV.ref 0)), (6, some (.v (.int .i64 i))), (0, some (SV.ref 0)), (3, some (.v (.int .i64 i)))] [Blk.row n 2 fun i j => (g i).c j, .own [.v (.int .i64 (g i.toNat).1), .v (.string (g i.toNat).2)]])) (.ite (decide ((g i.toNat).1 > (255 : Int))) (.leaf (Ex.ret, St.mk [(2, some (.c (.int .i64 7))), (23, some SV.tt), (23, some (SV.v (Value.bool (decide ((g i.toNat).1 > (255 : Int)))))), (22, some (SV.v (Value.bool (decide ((g i.toNat).1 > (255 : Int)))))), (21, some (.v (.int .i64 (g i.toNat).1))), (20, some (.ptr 1 0)), (19, some SV.ff), (18, some (SV.v (Value.bool (decide ((g i.toNat).1 < (1 : Int)))))), (17, some (.v (.int .i64 (g i.toNat).1))), (16, some (.ptr 1 0)), (4, some (.ptr 1 0)), (15, some (SV.v (Value.agg (Array.mk [Value.int IntKind.i64 (g i.toNat).1, Value.string (g i.toNat).2])))), (14, some (SV.elt 0 2 i.toNat 0)), (13, some (.v (.int .i64 i))), (12, some (SV.ref 0)), (9, some SV.tt), (9, some (SV.v (Value.bool (decide (i < (↑n : Int)))))), (8, some (.v (.int .i64 (↑n : Int)))), (7, some (SV.ref 0)), (6, some (.v (.int .i64 i))), (0, some (SV.ref 0)), (3, some (.v (.int .i64 i)))] [Blk.row n 2 fun i j => (g i).c j, .own [.v (.int .i64 (g i.toNat).1), .v (.string (g i.toNat).2)]])) (.ite (decide ((g i.toNat).1 < (32 : Int))) (.ite (decide ((↑(g i.toNat).2.size : Int) > (0 : Int))) (.leaf (Ex.ret, St.mk [(2, some (.c (.int .i64 11))), (38, some SV.tt), (37, some (SV.v (Value.tuple (Array.mk [])))), (36, some (SV.v (Value.tuple (Array.mk [])))), (35, some (SV.v (Value.tuple (Array.mk [])))), (34, some (SV.v (Value.tuple (Array.mk [])))), (33, some SV.tt), (32, some (SV.v (Value.bool (decide ((↑(g i.toNat).2.size : Int) > (0 : Int)))))), (31, some (SV.v (Value.bool (decide ((↑(g i.toNat).2.size : Int) > (0 : Int)))))), (30, some (.v (.int .i64 (↑(g i.toNat).2.size : Int)))), (29, some (.v (.string (g i.toNat).2))), (28, some (.ptr 1 1)), (27, some SV.tt), (26, some (SV.v (Value.bool (decide ((g i.toNat).1 < (32 : Int)))))), (25, some (.v (.int .i64 (g i.toNat).1))), (24, some (.ptr 1 0)), (23, some SV.ff), (23, some (SV.v (Value.bool (decide ((g i.toNat).1 > (255 : Int)))))), (22, some (SV.v (Value.bool (decide ((g i.toNat).1 > (255 : Int)))))), (21, some (.v (.int .i64 (g i.toNat).1))), (20, some (.ptr 1 0)), (19, some SV.ff), (18, some (SV.v (Value.bool (decide ((g i.toNat).1 < (1 : Int)))))), (17, some (.v (.int .i64 (g i.toNat).1))), (16, some (.ptr 1 0)), (4, some (.ptr 1 0)), (15, some (SV.v (Value.agg (Array.mk [Value.int IntKind.i64 (g i.toNat).1, Value.string (g i.toNat).2])))), (14, some (SV.elt 0 2 i.toNat 0)), (13, some (.v (.int .i64 i))), (12, some (SV.ref 0)), (9, some SV.tt), (9, some (SV.v (Value.bool (decide (i < (↑n : Int)))))), (8, some (.v (.int .i64 (↑n : Int)))), (7, some (SV.ref 0)), (6, some (.v (.int .i64 i))), (0, some (SV.ref 0)), (3, some (.v (.int .i64 i)))] [Blk.row n 2 fun i j => (g i).c j, .own [.v (.int .i64 (g i.toNat).1), .v (.string (g i.toNat).2)]])) (.ite (decide ((↑(g i.toNat).2.size : Int) > (253 : Int))) (.leaf (Ex.ret, St.mk [(2, some (.c (.int .i64 11))), (38, some SV.tt), (38, some (SV.v (Value.bool (decide ((↑(g i.toNat).2.size : Int) > (253 : Int)))))), (37, some (SV.v (Value.bool (decide ((↑(g i.toNat).2.size : Int) > (253 : Int)))))), (36, some (.v (.int .i64 (↑(g i.toNat).2.size : Int)))), (35, some (.v (.string (g i.toNat).2))), (34, some (.ptr 1 1)), (33, some SV.ff), (32, some (SV.v (Value.bool (decide ((↑(g i.toNat).2.size : Int) > (0 : Int)))))), (31, some (SV.v (Value.bool (decide ((↑(g i.toNat).2.size : Int) > (0 : Int)))))), (30, some (.v (.int .i64 (↑(g i.toNat).2.size : Int)))), (29, some (.v (.string (g i.toNat).2))), (28, some (.ptr 1 1)), (27, some SV.tt), (26, some (SV.v (Value.bool (decide ((g i.toNat).1 < (32 : Int)))))), (25, some (.v (.int .i64 (g i.toNat).1))), (24, some (.ptr 1 0)), (23, some SV.ff), (23, some (SV.v (Value.bool (decide ((g i.toNat).1 > (255 : Int)))))), (22, some (SV.v (Value.bool (decide ((g i.toNat).1 > (255 : Int)))))), (21, some (.v (.int .i64 (g i.toNat).1))), (20, some (.ptr 1 0)), (19, some SV.ff), (18, some (SV.v (Value.bool (decide ((g i.toNat).1 < (1 : Int)))))), (17, some (.v (.int .i64 (g i.toNat).1))), (16, some (.ptr 1 0)), (4, some (.ptr 1 0)), (15, some (SV.v (Value.agg (Array.mk [Value.int IntKind.i64 (g i.toNat).1, Value.string (g i.toNat).2])))), (14, some (SV.elt 0 2 i.toNat 0)), (13, some (.v (.int .i64 i))), (12, some (SV.ref 0)), (9, some SV.tt), (9, some (SV.v (Value.bool (decide (i < (↑n : Int)))))), (8, some (.v (.int .i64 (↑n : Int)))), (7, some (SV.ref 0)), (6, some (.v (.int .i64 i))), (0, some (SV.ref 0)), (3, some (.v (.int .i64 i)))] [Blk.row n 2 fun i j => (g i).c j, .own [.v (.int .i64 (g i.toNat).1), .v (.string (g i.toNat).2)]])) (.leaf (Ex.normal, St.mk [(0, some (SV.ref 0)), (3, some (.v (.int .i64 (IntKind.i64.wrap (i + (1 : Int))))))] [Blk.row n 2 fun i j => (g i).c j])))) (.ite (decide ((↑(g i.toNat).2.size : Int) > (253 : Int))) (.leaf (Ex.ret, St.mk [(2, some (.c (.int .i64 11))), (38, some SV.tt), (38, some (SV.v (Value.bool (decide ((↑(g i.toNat).2.size : Int) > (253 : Int)))))), (37, some (SV.v (Value.bool (decide ((↑(g i.toNat).2.size : Int) > (253 : Int)))))), (36, some (.v (.int .i64 (↑(g i.toNat).2.size : Int)))), (35, some (.v (.string (g i.toNat).2))), (34, some (.ptr 1 1)), (33, some SV.ff), (32, some SV.ff), (31, some (SV.v (Value.tuple (Array.mk [])))), (30, some (SV.v (Value.tuple (Array.mk [])))), (29, some (SV.v (Value.tuple (Array.mk [])))), (28, some (SV.v (Value.tuple (Array.mk [])))), (27, some SV.ff), (26, some (SV.v (Value.bool (decide ((g i.toNat).1 < (32 : Int)))))), (25, some (.v (.int .i64 (g i.toNat).1))), (24, some (.ptr 1 0)), (23, some SV.ff), (23, some (SV.v (Value.bool (decide ((g i.toNat).1 > (255 : Int)))))), (22, some (SV.v (Value.bool (decide ((g i.toNat).1 > (255 : Int)))))), (21, some (.v (.int .i64 (g i.toNat).1))), (20, some (.ptr 1 0)), (19, some SV.ff), (18, some (SV.v (Value.bool (decide ((g i.toNat).1 < (1 : Int)))))), (17, some (.v (.int .i64 (g i.toNat).1))), (16, some (.ptr 1 0)), (4, some (.ptr 1 0)), (15, some (SV.v (Value.agg (Array.mk [Value.int IntKind.i64 (g i.toNat).1, Value.string (g i.toNat).2])))), (14, some (SV.elt 0 2 i.toNat 0)), (13, some (.v (.int .i64 i))), (12, some (SV.ref 0)), (9, some SV.tt), (9, some (SV.v (Value.bool (decide (i < (↑n : Int)))))), (8, some (.v (.int .i64 (↑n : Int)))), (7, some (SV.ref 0)), (6, some (.v (.int .i64 i))), (0, some (SV.ref 0)), (3, some (.v (.int .i64 i)))] [Blk.row n 2 fun i j => (g i).c j, .own [.v (.int .i64 (g i.toNat).1), .v (.string (g i.toNat).2)]])) (.leaf (Ex.normal, St.mk [(0, some (SV.ref 0)), (3, some (.v (.int .i64 (IntKind.i64.wrap (i + (1 : Int))))))] [Blk.row n 2 fun i j => (g i).c j])))))))) (.leaf (Ex.exit 0, St.mk [(0, some (SV.ref 0)), (3, some (.v (.int .i64 i)))] [Blk.row n 2 fun i j => (g i).c j])) := by kernel_rfl
set_option maxRecDepth 100000 in
theorem rD_round (n : Nat) (g : Nat → Op) (i : Int) : roundM Try.prog (CO1 Try.prog Try.f92 Try.f68) noL Try.f63.ntmps 2 (loopAt Try.f63 1) 1 [0, 5] [] [] (rD_st n g i) = .ite (decide (i < (↑n : Int))) (.need ((0 : Int) ≤ i ∧ i < (↑n : Int)) (.need (i.toNat < n) (.ite (decide ((g i.toNat).1 = (1 : Int))) (.ite (decide (i = IntKind.i64.wrap ((↑n : Int) - (1 : Int)))) (.leaf (Ex.ret, St.mk [(2, some (.c (.int .i64 4))), (66, some SV.tt), (65, some SV.tt), (64, some (SV.v (Value.tuple (Array.mk [])))), (63, some (SV.v (Value.tuple (Array.mk [])))), (62, some (SV.v (Value.tuple (Array.mk [])))), (61, some (SV.v (Value.tuple (Array.mk [])))), (60, some (SV.v (Value.tuple (Array.mk [])))), (59, some (SV.v (Value.tuple (Array.mk [])))), (58, some (SV.v (Value.tuple (Array.mk [])))), (57, some SV.tt), (56, some (SV.v (Value.bool (decide (i = IntKind.i64.wrap ((↑n : Int) - (1 : Int))))))), (55, some (.v (.int .i64 (IntKind.i64.wrap ((↑n : Int) - (1 : Int)))))), (54, some (.v (.int .i64 (↑n : Int)))), (53, some (SV.ref 0)), (52, some (.v (.int .i64 i))), (51, some SV.tt), (50, some (SV.v (Value.bool (decide ((g i.toNat).1 = (1 : Int)))))), (49, some (.v (.int .i64 (g i.toNat).1))), (48, some (SV.elt 0 2 i.toNat 0)), (47, some (SV.elt 0 2 i.toNat 0)), (46, some (.v (.int .i64 i))), (45, some (SV.ref 0)), (42, some SV.tt), (42, some (SV.v (Value.bool (decide (i < (↑n : Int)))))), (41, some (.v (.int .i64 (↑n : Int)))), (40, some (SV.ref 0)), (39, some (.v (.int .i64 i))), (0, some (SV.ref 0)), (5, some (.v (.int .i64 i)))] [Blk.row n 2 fun i j => (g i).c j])) (.need ((0 : Int) ≤ IntKind.i64.wrap (i + (1 : Int)) ∧ IntKind.i64.wrap (i + (1 : Int)) < (↑n : Int)) (.need ((IntKind.i64.wrap (i + (1 : Int))).toNat < n) (.ite (decide ((g (IntKind.i64.wrap (i + (1 : Int))).toNat).1 = (1 : Int))) (.leaf (Ex.ret, St.mk [(2, some (.c (.int .i64 4))), (66, some SV.tt), (66, some (SV.v (Value.bool (decide ((g (IntKind.i64.wrap (i + (1 : Int))).toNat).1 = (1 : Int)))))), (65, some (SV.v (Value.bool (decide ((g (IntKind.i64.wrap (i + (1 : Int))).toNat).1 = (1 : Int)))))), (64, some (SV.v (Value.bool (decide ((g (IntKind.i64.wrap (i + (1 : Int))).toNat).1 = (1 : Int)))))), (63, some (.v (.int .i64 (g (IntKind.i64.wrap (i + (1 : Int))).toNat).1))), (62, some (SV.elt 0 2 (IntKind.i64.wrap (i + (1 : Int))).toNat 0)), (61, some (SV.elt 0 2 (IntKind.i64.wrap (i + (1 : Int))).toNat 0)), (60, some (.v (.int .i64 (IntKind.i64.wrap (i + (1 : Int)))))), (59, some (.v (.int .i64 i))), (58, some (SV.ref 0)), (57, some SV.ff), (56, some (SV.v (Value.bool (decide (i = IntKind.i64.wrap ((↑n : Int) - (1 : Int))))))), (55, some (.v (.int .i64 (IntKind.i64.wrap ((↑n : Int) - (1 : Int)))))), (54, some (.v (.int .i64 (↑n : Int)))), (53, some (SV.ref 0)), (52, some (.v (.int .i64 i))), (51, some SV.tt), (50, some (SV.v (Value.bool (decide ((g i.toNat).1 = (1 : Int)))))), (49, some (.v (.int .i64 (g i.toNat).1))), (48, some (SV.elt 0 2 i.toNat 0)), (47, some (SV.elt 0 2 i.toNat 0)), (46, some (.v (.int .i64 i))), (45, some (SV.ref 0)), (42, some SV.tt), (42, some (SV.v (Value.bool (decide (i < (↑n : Int)))))), (41, some (.v (.int .i64 (↑n : Int)))), (40, some (SV.ref 0)), (39, some (.v (.int .i64 i))), (0, some (SV.ref 0)), (5, some (.v (.int .i64 i)))] [Blk.row n 2 fun i j => (g i).c j])) (.leaf (Ex.normal, St.mk [(0, some (SV.ref 0)), (5, some (.v (.int .i64 (IntKind.i64.wrap (i + (1 : Int))))))] [Blk.row n 2 fun i j => (g i).c j])))))) (.leaf (Ex.normal, St.mk [(0, some (SV.ref 0)), (5, some (.v (.int .i64 (IntKind.i64.wrap (i + (1 : Int))))))] [Blk.row n 2 fun i j => (g i).c j]))))) (.leaf (Ex.exit 2, St.mk [(0, some (SV.ref 0)), (5, some (.v (.int .i64 i)))] [Blk.row n 2 fun i j => (g i).c j])) := by kernel_rfl
def LrC (P : Program) (C : Cfg) (fn : Func) (n : Nat) (g : Nat → Op) (e1 e2 : Nat) : Nat → St → Option (T (Ex × St)) :=
  addL 2 (fun st => .need (st.H.length = 1) (.need (st.tidy 1 [0, 5] [] [] = rD_st n g (0 : Nat)) ((roundM P C noL fn.ntmps 2 (loopAt fn 1) 1 [0, 5] [] [] (closeAt [] (rD_st n g (e2 : Nat)))).bind (lastX 2)))) <|
  addL 0 (fun st => .need (st.H.length = 1) (.need (st.tidy 1 [0, 3] [] [] = rC_st n g (0 : Nat)) ((roundM P C noL fn.ntmps 0 (loopAt fn 0) 1 [0, 3] [] [] (closeAt [] (rC_st n g (e1 : Nat)))).bind (lastX 0)))) noL
set_option maxRecDepth 100000 in
theorem rC_run (n : Nat) (g : Nat → Op) (e1 e2 : Nat) : runO Try.prog (CO1 Try.prog Try.f92 Try.f68) (LrC Try.prog (CO1 Try.prog Try.f92 Try.f68) Try.f63 n g e1 e2) Try.f63 [.ref 0] [.row n 2 fun i j => (g i).c j] = .need (1 = 1) (.need (St.mk [(0, some (SV.ref 0)), (3, some (.v (.int .i64 0)))] [Blk.row n 2 fun i j => (g i).c j] = rC_st n g (0 : Int)) (.ite (decide ((↑e1 : Int) < (↑n : Int))) (.need ((0 : Int) ≤ (↑e1 : Int) ∧ (↑e1 : Int) < (↑n : Int)) (.need ((↑e1 : Int).toNat < n) (.ite (decide ((g (↑e1 : Int).toNat).1 < (1 : Int))) (.leaf (Value.int IntKind.i64 7)) (.ite (decide ((g (↑e1 : Int).toNat).1 > (255 : Int))) (.leaf (Value.int IntKind.i64 7)) (.ite (decide ((g (↑e1 : Int).toNat).1 < (32 : Int))) (.ite (decide ((↑(g (↑e1 : Int).toNat).2.size : Int) > (0 : Int))) (.leaf (Value.int IntKind.i64 11)) (.ite (decide ((↑(g (↑e1 : Int).toNat).2.size : Int) > (253 : Int))) (.leaf (Value.int IntKind.i64 11)) (T.stuck 39))) (.ite (decide ((↑(g (↑e1 : Int).toNat).2.size : Int) > (253 : Int))) (.leaf (Value.int IntKind.i64 11)) (T.stuck 39))))))) (.need (1 = 1) (.need (St.mk [(0, some (SV.ref 0)), (5, some (.v (.int .i64 0)))] [Blk.row n 2 fun i j => (g i).c j] = rD_st n g (0 : Int)) (.ite (decide ((↑e2 : Int) < (↑n : Int))) (.need ((0 : Int) ≤ (↑e2 : Int) ∧ (↑e2 : Int) < (↑n : Int)) (.need ((↑e2 : Int).toNat < n) (.ite (decide ((g (↑e2 : Int).toNat).1 = (1 : Int))) (.ite (decide ((↑e2 : Int) = IntKind.i64.wrap ((↑n : Int) - (1 : Int)))) (.leaf (Value.int IntKind.i64 4)) (.need ((0 : Int) ≤ IntKind.i64.wrap ((↑e2 : Int) + (1 : Int)) ∧ IntKind.i64.wrap ((↑e2 : Int) + (1 : Int)) < (↑n : Int)) (.need ((IntKind.i64.wrap ((↑e2 : Int) + (1 : Int))).toNat < n) (.ite (decide ((g (IntKind.i64.wrap ((↑e2 : Int) + (1 : Int))).toNat).1 = (1 : Int))) (.leaf (Value.int IntKind.i64 4)) (T.stuck 39))))) (T.stuck 39)))) (.need (OpP n fun i j => (g i).c j) (.ite (decide (sizeL (opF fun i j => (g i).c j) n > (400 : Int))) (.leaf (Value.int IntKind.i64 11)) (.leaf (Value.int IntKind.i64 0))))))))) := by kernel_rfl
end Go.Proofs.Ytodfcalaggfldaa
namespace Go.Proofs.Ytodfcalaggfldaa
set_option linter.unusedVariables false
set_option linter.unusedSimpArgs false
open Go.RowKit Sym Go.ChangeShapes Go.WideShapes Go.ChangeMaps

theorem ba_empty (s : ByteArray) : s = ByteArray.mk (Array.mk []) ↔ s.size = 0 := by
  constructor
  · rintro rfl; rfl
  · intro h
    have : s.data.toList = [] := List.length_eq_zero_iff.1 (by simpa using h)
    cases s with
    | mk d => simp at this; subst this; rfl
theorem rightO_ok {o : Op} (h : rightO o = 0) : 0 < o.kind ∧ o.kind ≤ 255 ∧ (o.kind ≤ 31 → o.val.size = 0) ∧ o.val.size ≤ 253 := by
  unfold rightO at h
  split at h
  · cases h
  · split at h
    · cases h
    · split at h
      · cases h
      · split at h
        · cases h
        · rename_i a b c d
          refine ⟨by omega, by omega, fun hk => ?_, by omega⟩
          by_cases e : o.val.size = 0
          · exact e
          · exact absurd ⟨hk, e⟩ c
theorem badE_spec (n : Nat) (g : Nat → Op) : badE n g ≤ n ∧ (∀ j, j < badE n g → rightO (g j) = 0) ∧ (badE n g < n → ¬ rightO (g (badE n g)) = 0) := by
  obtain ⟨h1, h2, h3⟩ := firstOf_le (badO g) n
  refine ⟨h1, fun j hj => by simpa [badO] using h2 j hj, fun h => by have := h3 h; simpa [badO, badE] using this⟩
theorem mandE_spec (n : Nat) (g : Nat → Op) : mandE n g ≤ n ∧ (∀ j, j < mandE n g → (g j).kind = 1 → ¬ j + 1 = n ∧ ¬ (g (j + 1)).kind = 1) ∧ (mandE n g < n → (g (mandE n g)).kind = 1 ∧ (mandE n g + 1 = n ∨ (g (mandE n g + 1)).kind = 1)) := by
  obtain ⟨h1, h2, h3⟩ := firstOf_le (mandO n g) n
  refine ⟨h1, fun j hj hk => ?_, fun h => ?_⟩
  · have := h2 j hj
    simp only [mandO, hk, decide_true, Bool.true_and, Bool.or_eq_false_iff, decide_eq_false_iff_not] at this
    exact this
  · have := h3 h
    simpa [mandO, mandE] using this
set_option maxRecDepth 100000 in
theorem oC_step (n : Nat) (g : Nat → Op) (hf : Few n g) : ∀ i : Nat, i ≤ badE n g → i ≠ badE n g → (roundM Try.prog (CO1 Try.prog Try.f92 Try.f68) noL Try.f25.ntmps 0 (loopAt Try.f25 0) 1 [0, 8, 9, 10] [] [] (oC_st n g (i : Nat))).ok fun r => r.1 = .normal ∧ ∃ j, j ≤ badE n g ∧ badE n g - j < badE n g - i ∧ r.2 = oC_st n g (j : Nat) := by
  intro i hi hne
  obtain ⟨f1, f2⟩ := hf
  obtain ⟨he, h1, -⟩ := badE_spec n g
  obtain ⟨r1, r2, r3, r4⟩ := rightO_ok (h1 i (by omega))
  have hw : IntKind.i64.wrap ((i : Int) + 1) = ((i + 1 : Nat) : Int) := by rw [w64i (by omega) (by omega)]; rfl
  have fin : ∃ j, j ≤ badE n g ∧ badE n g - j < badE n g - i ∧ oC_st n g ((i + 1 : Nat) : Int) = oC_st n g (j : Nat) := ⟨i + 1, by omega, by omega, rfl⟩
  rw [oC_round]
  simp only [Int.toNat_natCast, hw, T.ok, decide_eq_true_eq, decide_eq_false_iff_not, Bool.not_eq_true', Bool.not_eq_false', Op.c, ba_empty]
  repeat' (first | refine And.intro ?_ ?_ | intro _)
  all_goals first | omega | exact ⟨rfl, fin⟩ | rfl | exact fin | trivial | (exfalso; grind)
set_option maxRecDepth 100000 in
theorem oD_step (n : Nat) (g : Nat → Op) (hf : Few n g) : ∀ i : Nat, i ≤ mandE n g → i ≠ mandE n g → (roundM Try.prog (CO1 Try.prog Try.f92 Try.f68) noL Try.f25.ntmps 2 (loopAt Try.f25 1) 1 [0, 20, 21, 22] [] [] (oD_st n g (i : Nat))).ok fun r => r.1 = .normal ∧ ∃ j, j ≤ mandE n g ∧ mandE n g - j < mandE n g - i ∧ r.2 = oD_st n g (j : Nat) := by
  intro i hi hne
  obtain ⟨f1, f2⟩ := hf
  obtain ⟨he, h1, -⟩ := mandE_spec n g
  have h1 := h1 i (by omega)
  have hw : IntKind.i64.wrap ((i : Int) + 1) = ((i + 1 : Nat) : Int) := by rw [w64i (by omega) (by omega)]; rfl
  have fin : ∃ j, j ≤ mandE n g ∧ mandE n g - j < mandE n g - i ∧ oD_st n g ((i + 1 : Nat) : Int) = oD_st n g (j : Nat) := ⟨i + 1, by omega, by omega, rfl⟩
  rw [oD_round]
  simp only [Int.toNat_natCast, hw, T.ok, decide_eq_true_eq, decide_eq_false_iff_not, Bool.not_eq_true', Bool.not_eq_false', Op.c, ba_empty]
  repeat' (first | refine And.intro ?_ ?_ | intro _)
  all_goals first | omega | exact ⟨rfl, fin⟩ | rfl | exact fin | trivial | (exfalso; grind)
set_option maxRecDepth 100000 in
theorem rC_step (n : Nat) (g : Nat → Op) (hf : Few n g) : ∀ i : Nat, i ≤ badE n g → i ≠ badE n g → (roundM Try.prog (CO1 Try.prog Try.f92 Try.f68) noL Try.f63.ntmps 0 (loopAt Try.f63 0) 1 [0, 3] [] [] (rC_st n g (i : Nat))).ok fun r => r.1 = .normal ∧ ∃ j, j ≤ badE n g ∧ badE n g - j < badE n g - i ∧ r.2 = rC_st n g (j : Nat) := by
  intro i hi hne
  obtain ⟨f1, f2⟩ := hf
  obtain ⟨he, h1, -⟩ := badE_spec n g
  obtain ⟨r1, r2, r3, r4⟩ := rightO_ok (h1 i (by omega))
  have hw : IntKind.i64.wrap ((i : Int) + 1) = ((i + 1 : Nat) : Int) := by rw [w64i (by omega) (by omega)]; rfl
  have fin : ∃ j, j ≤ badE n g ∧ badE n g - j < badE n g - i ∧ rC_st n g ((i + 1 : Nat) : Int) = rC_st n g (j : Nat) := ⟨i + 1, by omega, by omega, rfl⟩
  rw [rC_round]
  simp only [Int.toNat_natCast, hw, T.ok, decide_eq_true_eq, decide_eq_false_iff_not, Bool.not_eq_true', Bool.not_eq_false', Op.c, ba_empty]
  repeat' (first | refine And.intro ?_ ?_ | intro _)
  all_goals first | omega | exact ⟨rfl, fin⟩ | rfl | exact fin | trivial | (exfalso; grind)
set_option maxRecDepth 100000 in
theorem rD_step (n : Nat) (g : Nat → Op) (hf : Few n g) : ∀ i : Nat, i ≤ mandE n g → i ≠ mandE n g → (roundM Try.prog (CO1 Try.prog Try.f92 Try.f68) noL Try.f63.ntmps 2 (loopAt Try.f63 1) 1 [0, 5] [] [] (rD_st n g (i : Nat))).ok fun r => r.1 = .normal ∧ ∃ j, j ≤ mandE n g ∧ mandE n g - j < mandE n g - i ∧ r.2 = rD_st n g (j : Nat) := by
  intro i hi hne
  obtain ⟨f1, f2⟩ := hf
  obtain ⟨he, h1, -⟩ := mandE_spec n g
  have h1 := h1 i (by omega)
  have hw : IntKind.i64.wrap ((i : Int) + 1) = ((i + 1 : Nat) : Int) := by rw [w64i (by omega) (by omega)]; rfl
  have hw2 : IntKind.i64.wrap ((n : Int) - 1) = (n : Int) - 1 := w64i (by omega) (by omega)
  have fin : ∃ j, j ≤ mandE n g ∧ mandE n g - j < mandE n g - i ∧ rD_st n g ((i + 1 : Nat) : Int) = rD_st n g (j : Nat) := ⟨i + 1, by omega, by omega, rfl⟩
  rw [rD_round]
  simp only [Int.toNat_natCast, hw, hw2, T.ok, decide_eq_true_eq, decide_eq_false_iff_not, Bool.not_eq_true', Bool.not_eq_false', Op.c, ba_empty]
  repeat' (first | refine And.intro ?_ ?_ | intro _)
  all_goals first | omega | exact ⟨rfl, fin⟩ | rfl | exact fin | trivial | (exfalso; grind)
end Go.Proofs.Ytodfcalaggfldaa
namespace Go.Proofs.Ytodfcalaggfldaa
set_option linter.unusedVariables false
set_option linter.unusedSimpArgs false
open Go.RowKit Sym Go.ChangeShapes Go.WideShapes Go.ChangeMaps

theorem CO1_ok : CfgOk Try.prog (CO1 Try.prog Try.f92 Try.f68) := both_ok SOpt0_ok FOpt1_ok
set_option maxRecDepth 100000 in
theorem opts_Check (n : Nat) (g : Nat → Op) (hf : Few n g) (v : Value) (w : World) (hv : ∀ B, BlkSat B w v (.row n 2 fun i j => (g i).c j)) : Calls Try.prog 25 #[v] w fun e w' => e = .returned (.int .i64 (chkO n g)) ∧ Below w.heap.size w w' := by
  obtain ⟨b1, -, b3⟩ := badE_spec n g
  obtain ⟨m1, -, m3⟩ := mandE_spec n g
  have hS := CO1_ok
  refine calls_runO hS follows Try.func25 (by kernel_rfl) (by kernel_rfl) (two_loops (b1 := loopAt Try.f25 0) (b2 := loopAt Try.f25 1) (id1 := 0) (id2 := 2) (by kernel_rfl) (fun st t h => ?_) (fun st t h => ?_)) (oC_run n g (badE n g) (mandE n g)) ?_ (mem_row (hv [v])) rfl
  · rw [addL_same (addL_other (by decide) h)]
    exact loop_cnt hS follows (by kernel_rfl) (noloops (by kernel_rfl)) (fun i => i ≤ badE n g) (fun i => oC_st n g (i : Nat)) (fun i => badE n g - i) 1 [0, 8, 9, 10] [] [] (badE n g) [] (oC_step n g hf) (Nat.zero_le _)
  · rw [addL_same h]
    exact loop_cnt hS follows (by kernel_rfl) (noloops (by kernel_rfl)) (fun i => i ≤ mandE n g) (fun i => oD_st n g (i : Nat)) (fun i => mandE n g - i) 1 [0, 20, 21, 22] [] [] (mandE n g) [] (oD_step n g hf) (Nat.zero_le _)
  · have hp : OpP n fun i j => (g i).c j := ⟨allOp_c n g, hf⟩
    have ho : (opF fun i j => (g i).c j) = g := rfl
    obtain ⟨f1, f2⟩ := hf
    have hw : IntKind.i64.wrap ((mandE n g : Int) + 1) = ((mandE n g + 1 : Nat) : Int) := by rw [w64i (by omega) (by omega)]; rfl
    have hw2 : IntKind.i64.wrap ((n : Int) - 1) = (n : Int) - 1 := w64i (by omega) (by omega)
    simp only [ho]
    simp only [Int.toNat_natCast, hw, hw2, T.ok, decide_eq_true_eq, decide_eq_false_iff_not, Bool.not_eq_true', Bool.not_eq_false', Op.c, ba_empty, ho]
    unfold chkO
    by_cases hb : badE n g < n
    · have b3 := b3 hb
      have hz := f2 _ hb
      rw [if_pos hb]
      generalize badE n g = e at *
      unfold rightO at b3 ⊢
      repeat' (first | exact hp | refine And.intro ?_ ?_ | intro _)
      all_goals first | omega | rfl | trivial | exact hp | (exfalso; grind) | grind
    · rw [if_neg hb]
      by_cases hm : mandE n g < n
      · have m3 := m3 hm
        rw [if_pos hm]
        repeat' (first | exact hp | refine And.intro ?_ ?_ | intro _)
        all_goals first | omega | rfl | trivial | exact hp | (exfalso; grind) | grind
      · rw [if_neg hm]
        repeat' (first | exact hp | refine And.intro ?_ ?_ | intro _)
        all_goals first | omega | rfl | trivial | exact hp | (exfalso; grind) | grind
set_option maxRecDepth 100000 in
theorem ref07_Check (n : Nat) (g : Nat → Op) (hf : Few n g) (v : Value) (w : World) (hv : ∀ B, BlkSat B w v (.row n 2 fun i j => (g i).c j)) : Calls Try.prog 63 #[v] w fun e w' => e = .returned (.int .i64 (chkO n g)) ∧ Below w.heap.size w w' := by
  obtain ⟨b1, -, b3⟩ := badE_spec n g
  obtain ⟨m1, -, m3⟩ := mandE_spec n g
  have hS := CO1_ok
  refine calls_runO hS follows Try.func63 (by kernel_rfl) (by kernel_rfl) (two_loops (b1 := loopAt Try.f63 0) (b2 := loopAt Try.f63 1) (id1 := 0) (id2 := 2) (by kernel_rfl) (fun st t h => ?_) (fun st t h => ?_)) (rC_run n g (badE n g) (mandE n g)) ?_ (mem_row (hv [v])) rfl
  · rw [addL_same (addL_other (by decide) h)]
    exact loop_cnt hS follows (by kernel_rfl) (noloops (by kernel_rfl)) (fun i => i ≤ badE n g) (fun i => rC_st n g (i : Nat)) (fun i => badE n g - i) 1 [0, 3] [] [] (badE n g) [] (rC_step n g hf) (Nat.zero_le _)
  · rw [addL_same h]
    exact loop_cnt hS follows (by kernel_rfl) (noloops (by kernel_rfl)) (fun i => i ≤ mandE n g) (fun i => rD_st n g (i : Nat)) (fun i => mandE n g - i) 1 [0, 5] [] [] (mandE n g) [] (rD_step n g hf) (Nat.zero_le _)
  · have hp : OpP n fun i j => (g i).c j := ⟨allOp_c n g, hf⟩
    have ho : (opF fun i j => (g i).c j) = g := rfl
    obtain ⟨f1, f2⟩ := hf
    have hw : IntKind.i64.wrap ((mandE n g : Int) + 1) = ((mandE n g + 1 : Nat) : Int) := by rw [w64i (by omega) (by omega)]; rfl
    have hw2 : IntKind.i64.wrap ((n : Int) - 1) = (n : Int) - 1 := w64i (by omega) (by omega)
    simp only [ho]
    simp only [Int.toNat_natCast, hw, hw2, T.ok, decide_eq_true_eq, decide_eq_false_iff_not, Bool.not_eq_true', Bool.not_eq_false', Op.c, ba_empty, ho]
    unfold chkO
    by_cases hb : badE n g < n
    · have b3 := b3 hb
      have hz := f2 _ hb
      rw [if_pos hb]
      generalize badE n g = e at *
      unfold rightO at b3 ⊢
      repeat' (first | exact hp | refine And.intro ?_ ?_ | intro _)
      all_goals first | omega | rfl | trivial | exact hp | (exfalso; grind) | grind
    · rw [if_neg hb]
      by_cases hm : mandE n g < n
      · have m3 := m3 hm
        rw [if_pos hm]
        repeat' (first | exact hp | refine And.intro ?_ ?_ | intro _)
        all_goals first | omega | rfl | trivial | exact hp | (exfalso; grind) | grind
      · rw [if_neg hm]
        repeat' (first | exact hp | refine And.intro ?_ ?_ | intro _)
        all_goals first | omega | rfl | trivial | exact hp | (exfalso; grind) | grind
end Go.Proofs.Ytodfcalaggfldaa
