/- Audit: what is wrong with a view, by the program: contract. No conditions. -/
import Derived.Test.YtegookefdkcolaaAudG
namespace Go.Proofs.Ytegookefdkcolaa
set_option linter.unusedVariables false
set_option linter.unusedSimpArgs false
open Go.RowKit Sym Go.ChangeShapes Go.WideShapes Go.ChangeMaps

def badP (P : Nat → Pt) (i : Nat) : Bool := !decide (pathE (P i) = 0)
def badPE (n : Nat) (P : Nat → Pt) : Nat := firstOf (badP P) n 0
theorem badPE_le (n : Nat) (P : Nat → Pt) : badPE n P ≤ n ∧ (∀ j, j < badPE n P → pathE (P j) = 0) ∧ (badPE n P < n → ¬ pathE (P (badPE n P)) = 0) := by
  obtain ⟨h1, h2, h3⟩ := firstOf_le (badP P) n
  refine ⟨h1, fun j hj => ?_, fun h => ?_⟩
  · have := h2 j hj
    unfold badP at this
    simpa using this
  · have h3 : badP P (badPE n P) = true := h3 h
    unfold badP at h3
    simpa using h3
def limAll (v : VwR) : Prop := inB v.n 6 = true ∧ inB v.k 4 = true ∧ inB v.l 4 = true ∧ inB v.queue 32 = true ∧ inB v.waits 32 = true ∧ inB v.ready 32 = true ∧ inB v.control 8 = true ∧ inB v.outs 200 = true ∧ inB v.now 1099511627776 = true
def riseAll (v : VwR) (P : Nat → Pt) (g h : Nat → Int) : Prop := riseL v.k g = true ∧ riseL v.l h = true ∧ riseL v.n (fun i => (P i).id) = true
def formV (v : VwR) : Prop := ((2 ≤ v.st ∧ v.st ≤ 4) ∧ ¬ v.n = 0) ∨ (¬ (2 ≤ v.st ∧ v.st ≤ 4) ∧ v.n = 0 ∧ v.queue = 0 ∧ v.waits = 0)
instance (v : VwR) : Decidable (limAll v) := by unfold limAll; infer_instance
instance (v : VwR) (P : Nat → Pt) (g h : Nat → Int) : Decidable (riseAll v P g h) := by unfold riseAll; infer_instance
instance (v : VwR) : Decidable (formV v) := by unfold formV; infer_instance
def chkV (v : VwR) (P : Nat → Pt) (g h : Nat → Int) : Int := if 0 ≤ v.st ∧ v.st ≤ 5 then (if v.k = 0 then 8 else if limAll v then (if riseAll v P g h then (if badPE v.n P < v.n then pathE (P (badPE v.n P)) else if sumsQ v then (if formV v then 0 else 4) else 5) else 9) else 16) else 10
theorem firstOf_congr' {p q : Nat → Bool} : ∀ {n i : Nat}, (∀ j, i ≤ j → j < i + n → p j = q j) → firstOf p n i = firstOf q n i := by
  intro n
  induction n with
  | zero => intro i _; rfl
  | succ n ih =>
    intro i h
    unfold firstOf
    rw [h i (Nat.le_refl _) (by omega), ih (i := i + 1) (fun j h1 h2 => h j (by omega) (by omega))]
theorem riseL_congr {n : Nat} {g h : Nat → Int} (e : ∀ i, i < n → g i = h i) : riseL n g = riseL n h := by
  unfold riseL riseE
  rw [firstOf_congr' (p := riseB g) (q := riseB h) fun j _ hj => by unfold riseB; rw [e j (by omega), e (j + 1) (by omega)]]
theorem cell_int (l : List Int) (i : Nat) : cellAt (intCells l) (i * 1 + 0) = (l[i]?.map (Value.int .i64)).getD undef := by
  unfold cellAt intCells
  rw [Nat.mul_one, Nat.add_zero, List.getD_eq_getElem?_getD, List.getElem?_map]
theorem cells_ids (P : Nat → Pt) (n : Nat) : ∀ i, i < n → cellAt (intCells (idsN P n)) (i * 1 + 0) = .int .i64 (P i).id := by
  intro i hi
  rw [cell_int]
  unfold idsN
  rw [List.getElem?_map, List.getElem?_range hi]
  rfl
theorem ids_P (P : Nat → Pt) (n : Nat) (hn : n ≤ maxLen) : IntP n fun i j => cellAt (intCells (idsN P n)) (i * 1 + j) := by
  refine ⟨hn, fun i hi => ?_⟩
  show cellAt (intCells (idsN P n)) (i * 1 + 0) = .int .i64 (intV (cellAt (intCells (idsN P n)) (i * 1 + 0)))
  rw [cells_ids P n i hi]; rfl
theorem ids_rise (P : Nat → Pt) (n : Nat) : riseL n (ints fun i j => cellAt (intCells (idsN P n)) (i * 1 + j)) = riseL n fun i => (P i).id := riseL_congr fun i hi => by
  show intV (cellAt (intCells (idsN P n)) (i * 1 + 0)) = (P i).id
  rw [cells_ids P n i hi]; rfl
set_option maxRecDepth 100000 in
theorem ck_step (v : VwR) (P : Nat → Pt) (g h : Nat → Int) (hn : v.n ≤ 1000) : ∀ i : Nat, i ≤ badPE v.n P → i ≠ badPE v.n P → (roundM Try.prog (CCk Try.prog Try.f28 Try.f15 P g h) noL Try.f9.ntmps 1 (loopAt Try.f9 0) 7 [1, 29, 30, 31] [] [] (ck_st v P g h (i : Nat))).ok fun r => r.1 = .normal ∧ ∃ j, j ≤ badPE v.n P ∧ badPE v.n P - j < badPE v.n P - i ∧ r.2 = ck_st v P g h (j : Nat) := by
  intro i hi hne
  obtain ⟨h1, h2, -⟩ := badPE_le v.n P
  have h3 := h2 i (by omega)
  have e2 : IntKind.i64.wrap ((i : Int) + 1) = ((i + 1 : Nat) : Int) := by rw [w64i (by omega) (by omega)]; rfl
  have fin : ∃ j, j ≤ badPE v.n P ∧ badPE v.n P - j < badPE v.n P - i ∧ ck_st v P g h ((i + 1 : Nat) : Int) = ck_st v P g h (j : Nat) := ⟨i + 1, by omega, by omega, rfl⟩
  rw [ck_round]
  simp only [Int.toNat_natCast, e2, h3]
  exact t_ite (fun _ => t_need ⟨by omega, by omega⟩ (t_need (by omega) (t_ite (fun h => by simp at h) fun _ => t_leaf ⟨rfl, fin⟩))) fun h => absurd (show (i : Int) < v.n by omega) (of_decide_eq_false h)
def VwN (v : VwR) : Prop := v.n ≤ 1000 ∧ v.k ≤ 1000 ∧ v.l ≤ 1000 ∧ InI v.came
theorem lim3 {v : VwR} {P : Nat → Pt} {g h : Nat → Int} (h1 : 0 ≤ v.st ∧ v.st ≤ 5) (h2 : ¬ v.k = 0) (h3 : ¬ limAll v) : Value.int .i64 16 = Value.int .i64 (chkV v P g h) := by
  unfold chkV; rw [if_pos h1, if_neg h2, if_neg h3]
theorem rise3 {v : VwR} {P : Nat → Pt} {g h : Nat → Int} (h1 : 0 ≤ v.st ∧ v.st ≤ 5) (h2 : ¬ v.k = 0) (h3 : limAll v) (h4 : ¬ riseAll v P g h) : Value.int .i64 9 = Value.int .i64 (chkV v P g h) := by
  unfold chkV; rw [if_pos h1, if_neg h2, if_pos h3, if_neg h4]
theorem not_b {b : Bool} (h : (!b) = true) : ¬ b = true := by cases b <;> simp_all
theorem yes_b {b : Bool} (h : (!b) = false) : b = true := by cases b <;> simp_all
set_option maxRecDepth 100000 in
set_option maxHeartbeats 2000000 in
theorem audit_Check (v : VwR) (P : Nat → Pt) (g h : Nat → Int) (hv : VwN v) (a b c : Value) (w : World) (r1 : ∀ B, BlkSat B w a (rowPt v.n P)) (r2 : ∀ B, BlkSat B w b (rowI v.k g)) (r3 : ∀ B, BlkSat B w c (rowI v.l h)) : Calls Try.prog 9 #[v.v a b c] w fun e w' => e = .returned (.int .i64 (chkV v P g h)) ∧ Below w.heap.size w w' := by
  obtain ⟨hn, hk, hl, hc⟩ := hv
  obtain ⟨b1, b2, b3⟩ := badPE_le v.n P
  refine calls_runO (CCk_ok P g h) follows Try.func9 (by kernel_rfl) (lexAllF_ok (by kernel_rfl)) (one_loop (b := loopAt Try.f9 0) (id := 1) (by kernel_rfl) fun st t h' => ?_) (ck_run v P g h (badPE v.n P)) ?_ (mem_rows3 r1 r2 r3) rfl
  · rw [addL_same h']
    exact loop_cnt (N := Try.f9.ntmps) (CCk_ok P g h) follows (lexAllF_ok (by kernel_rfl)) (noloops (by kernel_rfl)) (fun i => i ≤ badPE v.n P) (fun i => ck_st v P g h (i : Nat)) (fun i => badPE v.n P - i) 7 [1, 29, 30, 31] [] [] (badPE v.n P) [] (ck_step v P g h hn) (Nat.zero_le _)
  have mx : ∀ {m : Nat}, m ≤ 1000 → m ≤ maxLen := fun h => by unfold maxLen; omega
  have st10 : ¬ (0 ≤ v.st ∧ v.st ≤ 5) → Value.int .i64 10 = Value.int .i64 (chkV v P g h) := fun h => by unfold chkV; rw [if_neg h]
  refine t_ite (fun h => t_leaf (st10 (by have := of_decide_eq_true h; omega))) fun s1 => t_ite (fun h => t_leaf (st10 (by have := of_decide_eq_true h; omega))) fun s2 => ?_
  have s1 := of_decide_eq_false s1
  have s2 := of_decide_eq_false s2
  have st : 0 ≤ v.st ∧ v.st ≤ 5 := by omega
  refine t_ite (fun h => t_leaf ?_) fun s3 => ?_
  · have h : (v.k : Int) = 0 := of_decide_eq_true h
    unfold chkV; rw [if_pos st, if_pos (by omega)]
  have k0 : ¬ v.k = 0 := by have s3 : ¬ (v.k : Int) = 0 := of_decide_eq_false s3; omega
  clear st10
  refine t_need ⟨⟨⟨rfl, rfl, rfl⟩, rfl, rfl, rfl⟩, hn⟩ ?_
  refine t_need ⟨by decide, by decide⟩ <| t_ite (fun h => t_leaf (lim3 st k0 fun q => not_b h q.1)) fun l1 => t_need ⟨by decide, by decide⟩ <| t_ite (fun h => t_leaf (lim3 st k0 fun q => not_b h q.2.1)) fun l2 => t_need ⟨by decide, by decide⟩ <| t_ite (fun h => t_leaf (lim3 st k0 fun q => not_b h q.2.2.1)) fun l3 => t_need ⟨by decide, by decide⟩ <| t_ite (fun h => t_leaf (lim3 st k0 fun q => not_b h q.2.2.2.1)) fun l4 => t_need ⟨by decide, by decide⟩ <| t_ite (fun h => t_leaf (lim3 st k0 fun q => not_b h q.2.2.2.2.1)) fun l5 => t_need ⟨by decide, by decide⟩ <| t_ite (fun h => t_leaf (lim3 st k0 fun q => not_b h q.2.2.2.2.2.1)) fun l6 => t_need ⟨by decide, by decide⟩ <| t_ite (fun h => t_leaf (lim3 st k0 fun q => not_b h q.2.2.2.2.2.2.1)) fun l7 => t_need ⟨by decide, by decide⟩ <| t_ite (fun h => t_leaf (lim3 st k0 fun q => not_b h q.2.2.2.2.2.2.2.1)) fun l8 => t_need ⟨by decide, by decide⟩ <| t_ite (fun h => t_leaf (lim3 st k0 fun q => not_b h q.2.2.2.2.2.2.2.2)) fun l9 => ?_
  have lim : limAll v := ⟨yes_b l1, yes_b l2, yes_b l3, yes_b l4, yes_b l5, yes_b l6, yes_b l7, yes_b l8, yes_b l9⟩
  clear l1 l2 l3 l4 l5 l6 l7 l8 l9
  refine t_need ⟨by decide, by decide⟩ <| t_need ⟨mx hk, fun _ _ => rfl⟩ <| t_ite (fun h => t_leaf (rise3 st k0 lim fun q => not_b h q.1)) fun l1 => t_need ⟨by decide, by decide⟩ <| t_need ⟨mx hl, fun _ _ => rfl⟩ <| t_ite (fun h => t_leaf (rise3 st k0 lim fun q => not_b h q.2.1)) fun l2 => t_need ⟨by decide, by decide⟩ <| t_need (ids_P P v.n (mx hn)) <| t_ite (fun h => t_leaf (rise3 st k0 lim fun q => not_b h ((ids_rise P v.n).trans q.2.2))) fun l3 => ?_
  have rise : riseAll v P g h := ⟨yes_b l1, yes_b l2, (ids_rise P v.n).symm.trans (yes_b l3)⟩
  clear l1 l2 l3
  refine t_need rfl (t_need rfl ?_)
  have hE : chkV v P g h = if badPE v.n P < v.n then pathE (P (badPE v.n P)) else if sumsQ v then (if formV v then 0 else 4) else 5 := by
    unfold chkV; rw [if_pos st, if_neg k0, if_pos lim, if_pos rise]
  rw [hE]
  obtain ⟨-, -, -, q1, q2, q3, -, -, -⟩ := lim
  have q1 := of_decide_eq_true q1
  have q2 := of_decide_eq_true q2
  have q3 := of_decide_eq_true q3
  have hsp : SumP v := ⟨q3.1, q2.1, hc⟩
  simp only [Int.toNat_natCast]
  refine t_ite (fun h => ?_) fun h => ?_
  · have hlt : badPE v.n P < v.n := by have := of_decide_eq_true h; omega
    have hb := b3 hlt
    refine t_need ⟨by omega, by omega⟩ (t_need hlt (t_ite (fun _ => t_leaf ?_) fun h => ?_))
    · rw [if_pos hlt]
    · rw [decide_eq_false hb] at h; cases h
  · have hge : ¬ badPE v.n P < v.n := by have := of_decide_eq_false h; omega
    rw [if_neg hge]
    clear hE h b1 b2 b3 hge
    have sm : ∀ {t : T Value} (_ : sumsQ v → t.ok fun x => x = Value.int .i64 (if sumsQ v then (if formV v then 0 else 4) else 5)), (T.ite (!decide (sumsQ v)) (T.leaf (Value.int .i64 5)) t).ok fun x => x = Value.int .i64 (if sumsQ v then (if formV v then 0 else 4) else 5) := fun {t} ht => t_ite (fun h => t_leaf (by rw [if_neg (of_decide_eq_false (by simpa using h))])) fun h => ht (of_decide_eq_true (by simpa using h))
    have f4 : sumsQ v → ¬ formV v → Value.int .i64 4 = Value.int .i64 (if sumsQ v then (if formV v then 0 else 4) else 5) := fun h1 h2 => by rw [if_pos h1, if_neg h2]
    have f0 : sumsQ v → formV v → Value.int .i64 0 = Value.int .i64 (if sumsQ v then (if formV v then 0 else 4) else 5) := fun h1 h2 => by rw [if_pos h1, if_pos h2]
    generalize Value.int .i64 (if sumsQ v then (if formV v then 0 else 4) else 5) = R at *
    have hn0 : 0 ≤ (v.n : Int) := Int.natCast_nonneg _
    refine t_ite (fun a => t_need hsp (sm fun hs => ?_)) fun a => t_need hsp (sm fun hs => ?_)
    all_goals
      have f4 := f4 hs
      have f0 := f0 hs
      unfold formV at f4 f0
      clear sm
      first | have a := of_decide_eq_true a | have a := of_decide_eq_false a
      repeat' (first | (with_reducible refine t_ite ?_ ?_; all_goals intro x; all_goals (try simp only [Bool.not_eq_true', Bool.not_eq_false', decide_eq_true_eq, decide_eq_false_iff_not] at x)) | (with_reducible refine t_leaf ?_))
      all_goals first | (exact f4 (by omega)) | (exact f0 (by omega)) | (exfalso; omega)
end Go.Proofs.Ytegookefdkcolaa
