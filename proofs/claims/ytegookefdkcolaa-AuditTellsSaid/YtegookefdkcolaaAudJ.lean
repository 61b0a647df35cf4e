/- Audit: what is wrong with a view, by the reference: contract. No conditions. -/
import Derived.Test.YtegookefdkcolaaAudI
namespace Go.Proofs.Ytegookefdkcolaa
set_option linter.unusedVariables false
set_option linter.unusedSimpArgs false
open Go.RowKit Sym Go.ChangeShapes Go.WideShapes Go.ChangeMaps

set_option maxRecDepth 100000 in
theorem rk0_step (v : VwR) (P : Nat → Pt) (g h : Nat → Int) (hn : v.n ≤ 1000) : ∀ i : Nat, i ≤ v.n → i ≠ v.n → (roundM Try.prog (CRk Try.prog Try.f28) noL Try.f11.ntmps 0 (loopAt Try.f11 0) 4 [1, 4] [(3, 3, 1)] [] (rk0_st v P g h (idsN P i) (i : Nat))).ok fun r => r.1 = .normal ∧ ∃ j, j ≤ v.n ∧ v.n - j < v.n - i ∧ r.2 = rk0_st v P g h (idsN P j) (j : Nat) := by
  intro i hi hne
  have e2 : IntKind.i64.wrap ((i : Int) + 1) = ((i + 1 : Nat) : Int) := by rw [w64i (by omega) (by omega)]; rfl
  have el := idsN_length P i
  have fin : ∃ j, j ≤ v.n ∧ v.n - j < v.n - i ∧ (St.mk [((3 : Nat), some (SV.ref (4 : Nat))), ((1 : Nat), some (SV.ptr (3 : Nat) (0 : Nat))), ((4 : Nat), some (SV.v (Value.int IntKind.i64 ((i + 1 : Nat) : Int))))] (v.rowsN P g h ++ [v.own, Blk.vec true 3 (1 : Nat) (i + (1 : Nat)) (intCells (idsN P i) ++ [Value.int IntKind.i64 (P i).id])])) = rk0_st v P g h (idsN P j) (j : Nat) := ⟨i + 1, by omega, by omega, by unfold rk0_st; rw [idsN_length, idsN_succ, intCells_append]; rfl⟩
  rw [rk0_round]
  simp only [el, Int.toNat_natCast, e2]
  exact t_ite (fun _ => t_need ⟨by omega, by omega⟩ (t_need (by omega) (t_need ⟨by omega, by omega⟩ (t_need (allOne_int _) (t_leaf ⟨rfl, fin⟩))))) fun h => absurd (show (i : Int) < v.n by omega) (of_decide_eq_false h)
set_option maxRecDepth 100000 in
theorem rk2_step (v : VwR) (P : Nat → Pt) (g h : Nat → Int) (xs : List Int) (hn : v.n ≤ 1000) : ∀ i : Nat, i ≤ badPE v.n P → i ≠ badPE v.n P → (roundM Try.prog (CRk Try.prog Try.f28) noL Try.f11.ntmps 2 (loopAt Try.f11 1) 5 [1, 5] [] [] (rk2_st v P g h xs (i : Nat))).ok fun r => r.1 = .normal ∧ ∃ j, j ≤ badPE v.n P ∧ badPE v.n P - j < badPE v.n P - i ∧ r.2 = rk2_st v P g h xs (j : Nat) := by
  intro i hi hne
  obtain ⟨h1, h2, -⟩ := badPE_le v.n P
  have h3 := h2 i (by omega)
  have e2 : IntKind.i64.wrap ((i : Int) + 1) = ((i + 1 : Nat) : Int) := by rw [w64i (by omega) (by omega)]; rfl
  have fin : ∃ j, j ≤ badPE v.n P ∧ badPE v.n P - j < badPE v.n P - i ∧ rk2_st v P g h xs ((i + 1 : Nat) : Int) = rk2_st v P g h xs (j : Nat) := ⟨i + 1, by omega, by omega, rfl⟩
  rw [rk2_round]
  simp only [Int.toNat_natCast, e2, h3]
  exact t_ite (fun _ => t_need ⟨by omega, by omega⟩ (t_need (by omega) (t_ite (fun h => by simp at h) fun _ => t_leaf ⟨rfl, fin⟩))) fun h => absurd (show (i : Int) < v.n by omega) (of_decide_eq_false h)
theorem tog5 (a b c d e s : Int) : togQ 5 (ints fun i j => cellAt [Value.int .i64 a, .int .i64 b, .int .i64 c, .int .i64 d, .int .i64 e] (i * 1 + j)) s ↔ 0 ≤ a ∧ 0 ≤ b ∧ 0 ≤ c ∧ 0 ≤ d ∧ 0 ≤ e ∧ a + b + c + d + e = s := by
  have hs : sumI (ints fun i j => cellAt [Value.int .i64 a, .int .i64 b, .int .i64 c, .int .i64 d, .int .i64 e] (i * 1 + j)) 5 = 0 + a + b + c + d + e := rfl
  unfold togQ
  rw [hs]
  refine ⟨fun ⟨h1, h2⟩ => ?_, fun ⟨h0, h1, h2, h3, h4, h5⟩ => ⟨fun i hi => ?_, by omega⟩⟩
  · have k0 : 0 ≤ a := h1 0 (by decide)
    have k1 : 0 ≤ b := h1 1 (by decide)
    have k2 : 0 ≤ c := h1 2 (by decide)
    have k3 : 0 ≤ d := h1 3 (by decide)
    have k4 : 0 ≤ e := h1 4 (by decide)
    exact ⟨k0, k1, k2, k3, k4, by omega⟩
  · match i, hi with
    | 0, _ => exact h0
    | 1, _ => exact h1
    | 2, _ => exact h2
    | 3, _ => exact h3
    | 4, _ => exact h4
theorem tog5_P (a b c d e s : Int) (hs : InI s) : TogP s 5 fun i j => cellAt [Value.int .i64 a, .int .i64 b, .int .i64 c, .int .i64 d, .int .i64 e] (i * 1 + j) := by
  refine ⟨hs, by unfold maxLen; omega, fun i hi => ?_⟩
  match i, hi with
  | 0, _ => rfl
  | 1, _ => rfl
  | 2, _ => rfl
  | 3, _ => rfl
  | 4, _ => rfl
theorem inB_nat {n : Nat} {m : Int} (h : ¬ (n : Int) > m) : inB n m = true := decide_eq_true ⟨Int.natCast_nonneg _, by omega⟩
theorem inB_nat' {n : Nat} {m : Int} (h : (n : Int) > m) : ¬ inB n m = true := fun e => by have := of_decide_eq_true e; omega
set_option maxRecDepth 100000 in
set_option maxHeartbeats 2000000 in
theorem ref44_Check (v : VwR) (P : Nat → Pt) (g h : Nat → Int) (hv : VwN v) (a b c : Value) (w : World) (r1 : ∀ B, BlkSat B w a (rowPt v.n P)) (r2 : ∀ B, BlkSat B w b (rowI v.k g)) (r3 : ∀ B, BlkSat B w c (rowI v.l h)) : Calls Try.prog 11 #[v.v a b c] w fun e w' => e = .returned (.int .i64 (chkV v P g h)) ∧ Below w.heap.size w w' := by
  obtain ⟨hn, hk, hl, hc⟩ := hv
  obtain ⟨b1, b2, b3⟩ := badPE_le v.n P
  refine calls_runO CRk_ok follows Try.func11 (by kernel_rfl) (lexAllF_ok (by kernel_rfl)) (two_loops (b1 := loopAt Try.f11 0) (b2 := loopAt Try.f11 1) (id1 := 0) (id2 := 2) (by kernel_rfl) (fun st t h' => ?_) fun st t h' => ?_) (rk_run v P g h (idsN P v.n) v.n (badPE v.n P)) ?_ (mem_rows3 r1 r2 r3) rfl
  · rw [addL_same h']
    exact loop_cnt (N := Try.f11.ntmps) CRk_ok follows (lexAllF_ok (by kernel_rfl)) (noloops (by kernel_rfl)) (fun i => i ≤ v.n) (fun i => rk0_st v P g h (idsN P i) (i : Nat)) (fun i => v.n - i) 4 [1, 4] [(3, 3, 1)] [] v.n [] (rk0_step v P g h hn) (Nat.zero_le _)
  · rw [addL_same (addL_other (by decide) h')]
    exact loop_cnt (N := Try.f11.ntmps) CRk_ok follows (lexAllF_ok (by kernel_rfl)) (noloops (by kernel_rfl)) (fun i => i ≤ badPE v.n P) (fun i => rk2_st v P g h (idsN P v.n) (i : Nat)) (fun i => badPE v.n P - i) 5 [1, 5] [] [] (badPE v.n P) [] (rk2_step v P g h (idsN P v.n) hn) (Nat.zero_le _)
  have mx : ∀ {m : Nat}, m ≤ 1000 → m ≤ maxLen := fun h => by unfold maxLen; omega
  refine t_ite (fun h => t_leaf ?_) fun s1 => ?_
  · have h := not_b h
    unfold chkV; rw [if_neg (fun q => h (decide_eq_true q))]
  have st : 0 ≤ v.st ∧ v.st ≤ 5 := of_decide_eq_true (yes_b s1)
  refine t_ite (fun h => t_leaf ?_) fun s3 => ?_
  · have h : (v.k : Int) = 0 := of_decide_eq_true h
    unfold chkV; rw [if_pos st, if_pos (by omega)]
  have k0 : ¬ v.k = 0 := by have s3 : ¬ (v.k : Int) = 0 := of_decide_eq_false s3; omega
  refine t_ite (fun h => t_leaf (lim3 st k0 fun q => inB_nat' (of_decide_eq_true h) q.1)) fun l1 => t_ite (fun h => t_leaf (lim3 st k0 fun q => inB_nat' (of_decide_eq_true h) q.2.1)) fun l2 => t_ite (fun h => t_leaf (lim3 st k0 fun q => inB_nat' (of_decide_eq_true h) q.2.2.1)) fun l3 => t_ite (fun h => t_leaf (lim3 st k0 fun q => not_b h q.2.2.2.1)) fun l4 => t_ite (fun h => t_leaf (lim3 st k0 fun q => not_b h q.2.2.2.2.1)) fun l5 => t_ite (fun h => t_leaf (lim3 st k0 fun q => not_b h q.2.2.2.2.2.1)) fun l6 => t_ite (fun h => t_leaf (lim3 st k0 fun q => not_b h q.2.2.2.2.2.2.1)) fun l7 => t_ite (fun h => t_leaf (lim3 st k0 fun q => not_b h q.2.2.2.2.2.2.2.1)) fun l8 => t_ite (fun h => t_leaf (lim3 st k0 fun q => not_b h q.2.2.2.2.2.2.2.2)) fun l9 => ?_
  have lim : limAll v := ⟨inB_nat (of_decide_eq_false l1), inB_nat (of_decide_eq_false l2), inB_nat (of_decide_eq_false l3), yes_b l4, yes_b l5, yes_b l6, yes_b l7, yes_b l8, yes_b l9⟩
  clear l1 l2 l3 l4 l5 l6 l7 l8 l9
  refine t_need rfl (t_need rfl (t_ite (fun h => absurd (of_decide_eq_true h) (Int.lt_irrefl _)) fun _ => ?_))
  rw [idsN_length]
  refine t_need ⟨mx hk, fun _ _ => rfl⟩ <| t_ite (fun h => t_leaf (rise3 st k0 lim fun q => not_b h q.1)) fun l1 => t_need ⟨mx hl, fun _ _ => rfl⟩ <| t_ite (fun h => t_leaf (rise3 st k0 lim fun q => not_b h q.2.1)) fun l2 => t_need (ids_P P v.n (mx hn)) <| t_ite (fun h => t_leaf (rise3 st k0 lim fun q => not_b h ((ids_rise P v.n).trans q.2.2))) fun l3 => ?_
  have rise : riseAll v P g h := ⟨yes_b l1, yes_b l2, (ids_rise P v.n).symm.trans (yes_b l3)⟩
  clear l1 l2 l3
  refine t_need rfl (t_need rfl ?_)
  have hE : chkV v P g h = if badPE v.n P < v.n then pathE (P (badPE v.n P)) else if sumsQ v then (if formV v then 0 else 4) else 5 := by
    unfold chkV; rw [if_pos st, if_neg k0, if_pos lim, if_pos rise]
  rw [hE]
  obtain ⟨-, -, -, q1, q2, q3, -, -, -⟩ := lim
  have q1 := of_decide_eq_true q1
  have q2 := of_decide_eq_true q2
  have q3 := of_decide_eq_true q3
  simp only [Int.toNat_natCast]
  refine t_ite (fun h => ?_) fun h => ?_
  · have hlt : badPE v.n P < v.n := by have := of_decide_eq_true h; omega
    have hb := b3 hlt
    refine t_need ⟨by omega, by omega⟩ (t_need hlt (t_ite (fun _ => t_leaf ?_) fun h => ?_))
    · rw [if_pos hlt]
    · rw [decide_eq_false hb] at h; cases h
  · have hge : ¬ badPE v.n P < v.n := by have := of_decide_eq_false h; omega
    rw [if_neg hge]
    clear hE h b1 b2 b3 hge
    refine t_ite (fun h => t_leaf ?_) fun hsk => t_need (tog5_P _ _ _ _ _ _ hc) (t_ite (fun h => t_leaf ?_) fun hto => ?_)
    · have h := of_decide_eq_true h
      rw [if_neg (fun q => by unfold sumsQ at q; omega)]
    · have h := not_b h
      rw [if_neg (fun q => h (decide_eq_true ((tog5 _ _ _ _ _ _).2 (by unfold sumsQ at q; omega))))]
    have hsk := of_decide_eq_false hsk
    have hto := (tog5 _ _ _ _ _ _).1 (of_decide_eq_true (yes_b hto))
    have hs : sumsQ v := by unfold sumsQ; omega
    rw [if_pos hs]
    have f4 : ¬ formV v → Value.int .i64 4 = Value.int .i64 (if formV v then 0 else 4) := fun h2 => by rw [if_neg h2]
    have f0 : formV v → Value.int .i64 0 = Value.int .i64 (if formV v then 0 else 4) := fun h2 => by rw [if_pos h2]
    generalize Value.int .i64 (if formV v then 0 else 4) = R at *
    have hn0 : 0 ≤ (v.n : Int) := Int.natCast_nonneg _
    unfold formV at f4 f0
    clear hto hs mx
    repeat' (first | (with_reducible refine t_ite ?_ ?_; all_goals intro x; all_goals (try simp only [Bool.not_eq_true', Bool.not_eq_false', decide_eq_true_eq, decide_eq_false_iff_not] at x)) | (with_reducible refine t_leaf ?_))
    all_goals first | (exact f4 (by omega)) | (exact f0 (by omega)) | (exfalso; omega)
end Go.Proofs.Ytegookefdkcolaa
