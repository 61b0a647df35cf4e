/- Audit: paths that have joined: contracts; numbers that are the same, and views as the document has them: trees. No conditions. -/
import Derived.Test.YtegookefdkcolaaAudK
namespace Go.Proofs.Ytegookefdkcolaa
set_option linter.unusedVariables false
set_option linter.unusedSimpArgs false
open Go.RowKit Sym Go.ChangeShapes Go.WideShapes Go.ChangeMaps

theorem joinN_yes {P : Nat → Pt} {i : Nat} (h : joinB (P i) = true) : joinN P (i + 1) = joinN P i ++ [(P i).id] := by
  show joinN P i ++ _ = _
  rw [if_pos h]
theorem joinN_no {P : Nat → Pt} {i : Nat} (h : ¬ joinB (P i) = true) : joinN P (i + 1) = joinN P i := by
  show joinN P i ++ _ = _
  rw [if_neg h, List.append_nil]
set_option maxRecDepth 100000 in
theorem jo_step (v : VwR) (P : Nat → Pt) (hn : v.n ≤ 1000) : ∀ i : Nat, i ≤ v.n → i ≠ v.n → (roundM Try.prog (onlyS Try.prog noS) noL Try.f24.ntmps 0 (loopAt Try.f24 0) 4 [1, 7, 8, 9] [(3, 3, 1)] [] (jo_st v P (joinN P i) (i : Nat))).ok fun r => r.1 = .normal ∧ ∃ j, j ≤ v.n ∧ v.n - j < v.n - i ∧ r.2 = jo_st v P (joinN P j) (j : Nat) := by
  intro i hi hne
  have e2 : IntKind.i64.wrap ((i : Int) + 1) = ((i + 1 : Nat) : Int) := by rw [w64i (by omega) (by omega)]; rfl
  have el := joinN_length P i
  rw [jo_round]
  simp only [Int.toNat_natCast, e2]
  refine t_ite (fun _ => t_need ⟨by omega, by omega⟩ (t_need (by omega) (t_ite (fun h => ?_) fun h2 => t_ite (fun h => ?_) fun h3 => ?_))) fun h => absurd (show (i : Int) < v.n by omega) (of_decide_eq_false h)
  · have hb : joinB (P i) = true := decide_eq_true (.inl (of_decide_eq_true h))
    exact t_need ⟨by omega, by omega⟩ (t_need (allOne_int _) (t_leaf ⟨rfl, i + 1, by omega, by omega, by unfold jo_st; rw [joinN_yes hb, List.length_append, intCells_append]; rfl⟩))
  · have hb : joinB (P i) = true := decide_eq_true (.inr (of_decide_eq_true h))
    exact t_need ⟨by omega, by omega⟩ (t_need (allOne_int _) (t_leaf ⟨rfl, i + 1, by omega, by omega, by unfold jo_st; rw [joinN_yes hb, List.length_append, intCells_append]; rfl⟩))
  · have hb : ¬ joinB (P i) = true := fun e => by
      rcases of_decide_eq_true e with e | e
      · exact of_decide_eq_false h2 e
      · exact of_decide_eq_false h3 e
    exact t_leaf ⟨rfl, i + 1, by omega, by omega, by unfold jo_st; rw [joinN_no hb]; rfl⟩
set_option maxRecDepth 100000 in
theorem jr_step (v : VwR) (P : Nat → Pt) (hn : v.n ≤ 1000) : ∀ i : Nat, i ≤ v.n → i ≠ v.n → (roundM Try.prog (onlyS Try.prog noS) noL Try.f7.ntmps 0 (loopAt Try.f7 0) 4 [1, 4] [(3, 3, 1)] [] (jr_st v P (joinN P i) (i : Nat))).ok fun r => r.1 = .normal ∧ ∃ j, j ≤ v.n ∧ v.n - j < v.n - i ∧ r.2 = jr_st v P (joinN P j) (j : Nat) := by
  intro i hi hne
  have e2 : IntKind.i64.wrap ((i : Int) + 1) = ((i + 1 : Nat) : Int) := by rw [w64i (by omega) (by omega)]; rfl
  have el := joinN_length P i
  have b1 : (0 : Int) ≤ (i : Int) ∧ (i : Int) < v.n := ⟨by omega, by omega⟩
  have b2 : i < v.n := by omega
  rw [jr_round]
  simp only [Int.toNat_natCast, e2]
  refine t_ite (fun _ => t_need b1 (t_need b2 (t_ite (fun h => ?_) fun h2 => t_need b1 (t_need b2 (t_ite (fun h => ?_) fun h3 => ?_))))) fun h => absurd (show (i : Int) < v.n by omega) (of_decide_eq_false h)
  · have hb : joinB (P i) = true := decide_eq_true (.inl (of_decide_eq_true h))
    exact t_need b1 (t_need b2 (t_need ⟨by omega, by omega⟩ (t_need (allOne_int _) (t_leaf ⟨rfl, i + 1, by omega, by omega, by unfold jr_st; rw [joinN_yes hb, List.length_append, intCells_append]; rfl⟩))))
  · have hb : joinB (P i) = true := decide_eq_true (.inr (of_decide_eq_true h))
    exact t_need b1 (t_need b2 (t_need ⟨by omega, by omega⟩ (t_need (allOne_int _) (t_leaf ⟨rfl, i + 1, by omega, by omega, by unfold jr_st; rw [joinN_yes hb, List.length_append, intCells_append]; rfl⟩))))
  · have hb : ¬ joinB (P i) = true := fun e => by
      rcases of_decide_eq_true e with e | e
      · exact of_decide_eq_false h2 e
      · exact of_decide_eq_false h3 e
    exact t_leaf ⟨rfl, i + 1, by omega, by omega, by unfold jr_st; rw [joinN_no hb]; rfl⟩
def fJoined : List SV → List Blk → Option (T (SV × List Blk))
  | [.agg l], [.row n 9 f, .row k 1 g, .row m 1 h] => match vwOf [.row n 9 f, .row k 1 g, .row m 1 h] l with
    | some (v, .ref 0, .ref 1, .ref 2) => some (.need (PtP v.n v.f) (.leaf (.ref 4, [.gone, .gone, .gone, v.own, .vec true 3 1 (joinN (ptF v.f) v.n).length (intCells (joinN (ptF v.f) v.n))])))
    | _ => none
  | _, _ => none
theorem vwOf_rows {n k m : Nat} {f g h : Nat → Nat → Value} {l : List SV} {v : VwR} (e : vwOf [.row n 9 f, .row k 1 g, .row m 1 h] l = some (v, .ref 0, .ref 1, .ref 2)) : SV.agg l = v.s (.ref 0) (.ref 1) (.ref 2) ∧ (n = v.n ∧ f = v.f) ∧ (k = v.k ∧ g = v.g) ∧ (m = v.l ∧ h = v.h) := by
  obtain ⟨h0, h1, h2, h3⟩ := vwOf_ok e
  have h1 : some (n, f) = some (v.n, v.f) := h1
  have h2 : some (k, g) = some (v.k, v.g) := h2
  have h3 : some (m, h) = some (v.l, v.h) := h3
  simp only [Option.some.injEq, Prod.mk.injEq] at h1 h2 h3
  exact ⟨h0, h1, h2, h3⟩
set_option maxRecDepth 100000 in
theorem fJoined_ok : EntryOk Try.prog 24 fJoined := by
  intro ss H t ht bs B w vs hm hv Qs hq
  unfold fJoined at ht
  split at ht
  · rename_i l n f k g m h
    split at ht
    · rename_i v hvw
      simp only [Option.some.injEq] at ht
      subst ht
      obtain ⟨⟨hn, hp⟩, hq⟩ := hq
      obtain ⟨hl, ⟨rfl, rfl⟩, ⟨rfl, rfl⟩, rfl, rfl⟩ := vwOf_rows hvw
      simp only [SV.agg.injEq] at hl
      subst hl
      have hm := mem_row0 hm hp
      have run := jo_run v (ptF v.f) (joinN (ptF v.f) v.n) (v.n : Int)
      refine (inl_ok (L := Ljo Try.prog Try.f24 v (ptF v.f) (joinN (ptF v.f) v.n) (v.n : Int)) (onlyS_ok noS_ok) follows Try.func24 (by kernel_rfl) (by kernel_rfl) (one_loop (b := loopAt Try.f24 0) (id := 0) (by kernel_rfl) fun st t h' => ?_) [v.s (.ref 0) (.ref 1) (.ref 2)] (v.rowsP (ptF v.f)) _ rfl bs B w vs hm hv (fun r => r.1 = .ref 4 ∧ r.2 = v.rowsP (ptF v.f) ++ [v.own, .vec true 3 1 (joinN (ptF v.f) v.n).length (intCells (joinN (ptF v.f) v.n))]) ?_).mono ?_
      · rw [addL_same h']
        exact loop_cnt (N := Try.f24.ntmps) (onlyS_ok noS_ok) follows (by kernel_rfl) (noloops (by kernel_rfl)) (fun i => i ≤ v.n) (fun i => jo_st v (ptF v.f) (joinN (ptF v.f) i) (i : Nat)) (fun i => v.n - i) 4 [1, 7, 8, 9] [(3, 3, 1)] [] v.n [] (jo_step v (ptF v.f) hn) (Nat.zero_le _)
      · rw [run]
        exact t_need rfl (t_need rfl (t_ite (fun h => absurd (of_decide_eq_true h) (Int.lt_irrefl _)) fun _ => t_leaf ⟨rfl, rfl⟩))
      · rintro e w' ⟨s1, H1, B1, x, ⟨h1, h2⟩, hpr, he', hx, hm'⟩
        dsimp only at h1 h2
        subst h1 h2
        exact ⟨_, _, B1, x, hq, hpr, he', hx, ((hm'.drop 0).drop 1).drop 2⟩
    · cases ht
  · cases ht
set_option maxRecDepth 100000 in
theorem fJoinedR_ok : EntryOk Try.prog 7 fJoined := by
  intro ss H t ht bs B w vs hm hv Qs hq
  unfold fJoined at ht
  split at ht
  · rename_i l n f k g m h
    split at ht
    · rename_i v hvw
      simp only [Option.some.injEq] at ht
      subst ht
      obtain ⟨⟨hn, hp⟩, hq⟩ := hq
      obtain ⟨hl, ⟨rfl, rfl⟩, ⟨rfl, rfl⟩, rfl, rfl⟩ := vwOf_rows hvw
      simp only [SV.agg.injEq] at hl
      subst hl
      have hm := mem_row0 hm hp
      have run := jr_run v (ptF v.f) (joinN (ptF v.f) v.n) (v.n : Int)
      refine (inl_ok (L := Ljr Try.prog Try.f7 v (ptF v.f) (joinN (ptF v.f) v.n) (v.n : Int)) (onlyS_ok noS_ok) follows Try.func7 (by kernel_rfl) (by kernel_rfl) (one_loop (b := loopAt Try.f7 0) (id := 0) (by kernel_rfl) fun st t h' => ?_) [v.s (.ref 0) (.ref 1) (.ref 2)] (v.rowsP (ptF v.f)) _ rfl bs B w vs hm hv (fun r => r.1 = .ref 4 ∧ r.2 = v.rowsP (ptF v.f) ++ [v.own, .vec true 3 1 (joinN (ptF v.f) v.n).length (intCells (joinN (ptF v.f) v.n))]) ?_).mono ?_
      · rw [addL_same h']
        exact loop_cnt (N := Try.f7.ntmps) (onlyS_ok noS_ok) follows (by kernel_rfl) (noloops (by kernel_rfl)) (fun i => i ≤ v.n) (fun i => jr_st v (ptF v.f) (joinN (ptF v.f) i) (i : Nat)) (fun i => v.n - i) 4 [1, 4] [(3, 3, 1)] [] v.n [] (jr_step v (ptF v.f) hn) (Nat.zero_le _)
      · rw [run]
        exact t_need rfl (t_need rfl (t_ite (fun h => absurd (of_decide_eq_true h) (Int.lt_irrefl _)) fun _ => t_leaf ⟨rfl, rfl⟩))
      · rintro e w' ⟨s1, H1, B1, x, ⟨h1, h2⟩, hpr, he', hx, hm'⟩
        dsimp only at h1 h2
        subst h1 h2
        exact ⟨_, _, B1, x, hq, hpr, he', hx, ((hm'.drop 0).drop 1).drop 2⟩
    · cases ht
  · cases ht
/-! numbers that are the same -/
def difI (g h : Nat → Int) (i : Nat) : Bool := !decide (g i = h i)
def eqIE (n : Nat) (g h : Nat → Int) : Nat := firstOf (difI g h) n 0
def eqI (n : Nat) (g : Nat → Int) (m : Nat) (h : Nat → Int) : Bool := decide (n = m) && !Nat.blt (eqIE n g h) n
def el_st (n m : Nat) (g h : Nat → Int) (i : Int) : St := ⟨[(0, some (.ref 0)), (1, some (.ref 1)), (12, some (.v (.int .i64 n))), (13, some (.v (.int .i64 i)))], [rowI n g, rowI m h]⟩
set_option maxRecDepth 100000 in
theorem el_round (n m : Nat) (g h : Nat → Int) (i : Int) : roundM Try.prog (onlyS Try.prog noS) noL Try.f23.ntmps 0 (loopAt Try.f23 0) 2 [0, 1, 12, 13] [] [] (el_st n m g h i) = T.ite (decide (i < (↑n : Int))) (T.need ((0 : Int) ≤ i ∧ i < (↑n : Int)) (T.need (i.toNat < n) (T.need ((0 : Int) ≤ i ∧ i < (↑m : Int)) (T.need (i.toNat < m) (T.ite (!decide (g i.toNat = h i.toNat)) (T.leaf (Ex.ret, St.mk [((4 : Nat), some SV.ff), ((24 : Nat), some SV.tt), ((24 : Nat), some (SV.v (Value.bool !decide (g i.toNat = h i.toNat)))), ((23 : Nat), some (SV.v (Value.int IntKind.i64 (h i.toNat)))), ((22 : Nat), some (SV.elt (1 : Nat) (1 : Nat) i.toNat (0 : Nat))), ((21 : Nat), some (SV.v (Value.int IntKind.i64 i))), ((20 : Nat), some (SV.ref (1 : Nat))), ((19 : Nat), some (SV.v (Value.int IntKind.i64 (g i.toNat)))), ((18 : Nat), some (SV.elt (0 : Nat) (1 : Nat) i.toNat (0 : Nat))), ((17 : Nat), some (SV.v (Value.int IntKind.i64 i))), ((16 : Nat), some (SV.ref (0 : Nat))), ((5 : Nat), some (SV.v (Value.int IntKind.i64 i))), ((15 : Nat), some (SV.v (Value.int IntKind.i64 i))), ((14 : Nat), some SV.tt), ((14 : Nat), some (SV.v (Value.bool (decide (i < (↑n : Int)))))), ((0 : Nat), some (SV.ref (0 : Nat))), ((1 : Nat), some (SV.ref (1 : Nat))), ((12 : Nat), some (SV.v (Value.int IntKind.i64 (↑n : Int)))), ((13 : Nat), some (SV.v (Value.int IntKind.i64 i)))] [Blk.row n (1 : Nat) fun i x => Value.int IntKind.i64 (g i), Blk.row m (1 : Nat) fun i x => Value.int IntKind.i64 (h i)])) (T.leaf (Ex.normal, St.mk [((0 : Nat), some (SV.ref (0 : Nat))), ((1 : Nat), some (SV.ref (1 : Nat))), ((12 : Nat), some (SV.v (Value.int IntKind.i64 (↑n : Int)))), ((13 : Nat), some (SV.v (Value.int IntKind.i64 (IntKind.i64.wrap (i + (1 : Int))))))] [Blk.row n (1 : Nat) fun i x => Value.int IntKind.i64 (g i), Blk.row m (1 : Nat) fun i x => Value.int IntKind.i64 (h i)]))))))) (T.leaf (Ex.exit (0 : Nat), St.mk [((0 : Nat), some (SV.ref (0 : Nat))), ((1 : Nat), some (SV.ref (1 : Nat))), ((12 : Nat), some (SV.v (Value.int IntKind.i64 (↑n : Int)))), ((13 : Nat), some (SV.v (Value.int IntKind.i64 i)))] [Blk.row n (1 : Nat) fun i x => Value.int IntKind.i64 (g i), Blk.row m (1 : Nat) fun i x => Value.int IntKind.i64 (h i)])) := by kernel_rfl
def Lel (P : Program) (fn : Func) (n m : Nat) (g h : Nat → Int) (e : Nat) : Nat → St → Option (T (Ex × St)) :=
  addL 0 (fun st => .need (n = m) (.need (st.H.length = 2) (.need (st.tidy 2 [0, 1, 12, 13] [] [] = el_st n m g h (0 : Nat)) ((roundM P (onlyS P noS) noL fn.ntmps 0 (loopAt fn 0) 2 [0, 1, 12, 13] [] [] (closeAt [] (el_st n m g h (e : Nat)))).bind (lastX 0))))) noL
set_option maxRecDepth 100000 in
theorem el_run (n m : Nat) (g h : Nat → Int) (e : Nat) : runO Try.prog (onlyS Try.prog noS) (Lel Try.prog Try.f23 n m g h e) Try.f23 [.ref 0, .ref 1] [rowI n g, rowI m h] = T.ite (!decide ((↑n : Int) = (↑m : Int))) (T.leaf (Value.bool false)) (T.need (n = m) (T.need ((2 : Nat) = (2 : Nat)) (T.need (St.mk [((0 : Nat), some (SV.ref (0 : Nat))), ((1 : Nat), some (SV.ref (1 : Nat))), ((12 : Nat), some (SV.v (Value.int IntKind.i64 (↑n : Int)))), ((13 : Nat), some (SV.v (Value.int IntKind.i64 (0 : Int))))] [Blk.row n (1 : Nat) fun i x => Value.int IntKind.i64 (g i), Blk.row m (1 : Nat) fun i x => Value.int IntKind.i64 (h i)] = St.mk [((0 : Nat), some (SV.ref (0 : Nat))), ((1 : Nat), some (SV.ref (1 : Nat))), ((12 : Nat), some (SV.v (Value.int IntKind.i64 (↑n : Int)))), ((13 : Nat), some (SV.v (Value.int IntKind.i64 (0 : Int))))] [Blk.row n (1 : Nat) fun i x => Value.int IntKind.i64 (g i), Blk.row m (1 : Nat) fun i x => Value.int IntKind.i64 (h i)]) (T.ite (decide ((↑e : Int) < (↑n : Int))) (T.need ((0 : Int) ≤ (↑e : Int) ∧ (↑e : Int) < (↑n : Int)) (T.need ((↑e : Int).toNat < n) (T.need ((0 : Int) ≤ (↑e : Int) ∧ (↑e : Int) < (↑m : Int)) (T.need ((↑e : Int).toNat < m) (T.ite (!decide (g (↑e : Int).toNat = h (↑e : Int).toNat)) (T.leaf (Value.bool false)) (T.stuck (39 : Nat))))))) (T.leaf (Value.bool true)))))) := by kernel_rfl
def ei_st (n m : Nat) (g h : Nat → Int) (i : Int) : St := ⟨[(0, some (.ref 0)), (1, some (.ref 1)), (5, some (.v (.int .i64 i)))], [rowI n g, rowI m h]⟩
set_option maxRecDepth 100000 in
theorem ei_round (n m : Nat) (g h : Nat → Int) (i : Int) : roundM Try.prog (onlyS Try.prog noS) noL Try.f6.ntmps 0 (loopAt Try.f6 0) 2 [0, 1, 5] [] [] (ei_st n m g h i) = T.ite (decide (i < (↑n : Int))) (T.ite (decide (i < (↑m : Int))) (T.need ((0 : Int) ≤ i ∧ i < (↑n : Int)) (T.need (i.toNat < n) (T.need ((0 : Int) ≤ i ∧ i < (↑m : Int)) (T.need (i.toNat < m) (T.ite (!decide (g i.toNat = h i.toNat)) (T.leaf (Ex.ret, St.mk [((4 : Nat), some SV.ff), ((31 : Nat), some SV.tt), ((31 : Nat), some (SV.v (Value.bool !decide (g i.toNat = h i.toNat)))), ((30 : Nat), some (SV.v (Value.int IntKind.i64 (h i.toNat)))), ((29 : Nat), some (SV.elt (1 : Nat) (1 : Nat) i.toNat (0 : Nat))), ((28 : Nat), some (SV.v (Value.int IntKind.i64 i))), ((27 : Nat), some (SV.ref (1 : Nat))), ((26 : Nat), some (SV.v (Value.int IntKind.i64 (g i.toNat)))), ((25 : Nat), some (SV.elt (0 : Nat) (1 : Nat) i.toNat (0 : Nat))), ((24 : Nat), some (SV.v (Value.int IntKind.i64 i))), ((23 : Nat), some (SV.ref (0 : Nat))), ((20 : Nat), some SV.tt), ((20 : Nat), some (SV.v (Value.bool (decide (i < (↑m : Int)))))), ((19 : Nat), some (SV.v (Value.bool (decide (i < (↑m : Int)))))), ((18 : Nat), some (SV.v (Value.int IntKind.i64 (↑m : Int)))), ((17 : Nat), some (SV.ref (1 : Nat))), ((16 : Nat), some (SV.v (Value.int IntKind.i64 i))), ((15 : Nat), some SV.tt), ((14 : Nat), some (SV.v (Value.bool (decide (i < (↑n : Int)))))), ((13 : Nat), some (SV.v (Value.int IntKind.i64 (↑n : Int)))), ((12 : Nat), some (SV.ref (0 : Nat))), ((11 : Nat), some (SV.v (Value.int IntKind.i64 i))), ((0 : Nat), some (SV.ref (0 : Nat))), ((1 : Nat), some (SV.ref (1 : Nat))), ((5 : Nat), some (SV.v (Value.int IntKind.i64 i)))] [Blk.row n (1 : Nat) fun i x => Value.int IntKind.i64 (g i), Blk.row m (1 : Nat) fun i x => Value.int IntKind.i64 (h i)])) (T.leaf (Ex.normal, St.mk [((0 : Nat), some (SV.ref (0 : Nat))), ((1 : Nat), some (SV.ref (1 : Nat))), ((5 : Nat), some (SV.v (Value.int IntKind.i64 (IntKind.i64.wrap (i + (1 : Int))))))] [Blk.row n (1 : Nat) fun i x => Value.int IntKind.i64 (g i), Blk.row m (1 : Nat) fun i x => Value.int IntKind.i64 (h i)]))))))) (T.leaf (Ex.exit (0 : Nat), St.mk [((0 : Nat), some (SV.ref (0 : Nat))), ((1 : Nat), some (SV.ref (1 : Nat))), ((5 : Nat), some (SV.v (Value.int IntKind.i64 i)))] [Blk.row n (1 : Nat) fun i x => Value.int IntKind.i64 (g i), Blk.row m (1 : Nat) fun i x => Value.int IntKind.i64 (h i)]))) (T.leaf (Ex.exit (0 : Nat), St.mk [((0 : Nat), some (SV.ref (0 : Nat))), ((1 : Nat), some (SV.ref (1 : Nat))), ((5 : Nat), some (SV.v (Value.int IntKind.i64 i)))] [Blk.row n (1 : Nat) fun i x => Value.int IntKind.i64 (g i), Blk.row m (1 : Nat) fun i x => Value.int IntKind.i64 (h i)])) := by kernel_rfl
def Lei (P : Program) (fn : Func) (n m : Nat) (g h : Nat → Int) (e : Nat) : Nat → St → Option (T (Ex × St)) :=
  addL 0 (fun st => .need (n = m) (.need (st.H.length = 2) (.need (st.tidy 2 [0, 1, 5] [] [] = ei_st n m g h (0 : Nat)) ((roundM P (onlyS P noS) noL fn.ntmps 0 (loopAt fn 0) 2 [0, 1, 5] [] [] (closeAt [] (ei_st n m g h (e : Nat)))).bind (lastX 0))))) noL
set_option maxRecDepth 100000 in
theorem ei_run (n m : Nat) (g h : Nat → Int) (e : Nat) : runO Try.prog (onlyS Try.prog noS) (Lei Try.prog Try.f6 n m g h e) Try.f6 [.ref 0, .ref 1] [rowI n g, rowI m h] = T.ite (!decide ((↑n : Int) = (↑m : Int))) (T.leaf (Value.bool false)) (T.need (n = m) (T.need ((2 : Nat) = (2 : Nat)) (T.need (St.mk [((0 : Nat), some (SV.ref (0 : Nat))), ((1 : Nat), some (SV.ref (1 : Nat))), ((5 : Nat), some (SV.v (Value.int IntKind.i64 (0 : Int))))] [Blk.row n (1 : Nat) fun i x => Value.int IntKind.i64 (g i), Blk.row m (1 : Nat) fun i x => Value.int IntKind.i64 (h i)] = St.mk [((0 : Nat), some (SV.ref (0 : Nat))), ((1 : Nat), some (SV.ref (1 : Nat))), ((5 : Nat), some (SV.v (Value.int IntKind.i64 (0 : Int))))] [Blk.row n (1 : Nat) fun i x => Value.int IntKind.i64 (g i), Blk.row m (1 : Nat) fun i x => Value.int IntKind.i64 (h i)]) (T.ite (decide ((↑e : Int) < (↑n : Int))) (T.ite (decide ((↑e : Int) < (↑m : Int))) (T.need ((0 : Int) ≤ (↑e : Int) ∧ (↑e : Int) < (↑n : Int)) (T.need ((↑e : Int).toNat < n) (T.need ((0 : Int) ≤ (↑e : Int) ∧ (↑e : Int) < (↑m : Int)) (T.need ((↑e : Int).toNat < m) (T.ite (!decide (g (↑e : Int).toNat = h (↑e : Int).toNat)) (T.leaf (Value.bool false)) (T.stuck (39 : Nat))))))) (T.leaf (Value.bool true))) (T.leaf (Value.bool true)))))) := by kernel_rfl
end Go.Proofs.Ytegookefdkcolaa
