/- Audit: how much may go, views as the document has them: contracts. No conditions. -/
import Derived.Test.YtegookefdkcolaaAudN
namespace Go.Proofs.Ytegookefdkcolaa
set_option linter.unusedVariables false
set_option linter.unusedSimpArgs false
open Go.RowKit Sym Go.ChangeShapes Go.WideShapes Go.ChangeMaps

def heldI (z : Int) : Int := if (16 : Int) < if (0 : Int) > z then (0 : Int) else z then (16 : Int) else if (0 : Int) > z then (0 : Int) else z
theorem heldI_bd (z : Int) : 0 ≤ heldI z ∧ heldI z ≤ 16 := by
  unfold heldI
  repeat' split
  all_goals omega
def roomS (p : Pt) : Int := if p.st = 2 then (if (0 : Int) > heldI p.window - heldI p.pipe then 0 else heldI p.window - heldI p.pipe) else 0
def roomN (P : Nat → Pt) : Nat → Int
  | 0 => 0
  | i + 1 => roomN P i + roomS (P i)
theorem roomS_bd (p : Pt) : 0 ≤ roomS p ∧ roomS p ≤ 16 := by
  have h1 := heldI_bd p.window
  have h2 := heldI_bd p.pipe
  unfold roomS
  repeat' split
  all_goals omega
theorem roomN_bd (P : Nat → Pt) : ∀ i : Nat, 0 ≤ roomN P i ∧ roomN P i ≤ 16 * (i : Int)
  | 0 => ⟨Int.le_refl _, Int.le_refl _⟩
  | i + 1 => by
    have h1 := roomN_bd P i
    have h2 := roomS_bd (P i)
    simp only [roomN]
    omega
set_option maxRecDepth 100000 in
theorem rm_step (v : VwR) (P : Nat → Pt) (hn : v.n ≤ 1000) : ∀ i : Nat, i ≤ v.n → i ≠ v.n → (roundM Try.prog (onlyS Try.prog (SRm Try.prog Try.f25)) noL Try.f13.ntmps 0 (loopAt Try.f13 0) 4 [1, 3, 7, 8, 9] [] [] (rm_st v P (roomN P i) (i : Nat))).ok fun r => r.1 = .normal ∧ ∃ j, j ≤ v.n ∧ v.n - j < v.n - i ∧ r.2 = rm_st v P (roomN P j) (j : Nat) := by
  intro i hi hne
  have e2 : IntKind.i64.wrap ((i : Int) + 1) = ((i + 1 : Nat) : Int) := by rw [w64i (by omega) (by omega)]; rfl
  have hh : ∀ z : Int, (if (16 : Int) < if (0 : Int) > z then (0 : Int) else z then (16 : Int) else if (0 : Int) > z then (0 : Int) else z) = heldI z := fun _ => rfl
  have b1 := heldI_bd (P i).window
  have b2 := heldI_bd (P i).pipe
  have b3 := roomN_bd P i
  have e3 : IntKind.i64.wrap (heldI (P i).window - heldI (P i).pipe) = heldI (P i).window - heldI (P i).pipe := w64i (by omega) (by omega)
  rw [rm_round]
  simp only [Int.toNat_natCast, e2, hh, e3]
  refine t_ite (fun _ => t_need ⟨by omega, by omega⟩ (t_need (by omega) (t_ite (fun h => t_leaf ⟨rfl, i + 1, by omega, by omega, ?_⟩) fun h => t_leaf ⟨rfl, i + 1, by omega, by omega, ?_⟩))) fun h => absurd (show (i : Int) < v.n by omega) (of_decide_eq_false h)
  · have e4 : roomS (P i) = if (0 : Int) > heldI (P i).window - heldI (P i).pipe then 0 else heldI (P i).window - heldI (P i).pipe := by unfold roomS; rw [if_pos (of_decide_eq_true h)]
    have b4 := roomS_bd (P i)
    unfold rm_st
    rw [show roomN P (i + 1) = roomN P i + roomS (P i) from rfl, ← e4, w64i (by omega) (by omega)]
    rfl
  · have e4 : roomS (P i) = 0 := by unfold roomS; rw [if_neg (of_decide_eq_false h)]
    unfold rm_st
    rw [show roomN P (i + 1) = roomN P i + roomS (P i) from rfl, e4, Int.add_zero]
    rfl
set_option maxRecDepth 100000 in
theorem rq_step (v : VwR) (P : Nat → Pt) (hn : v.n ≤ 1000) : ∀ i : Nat, i ≤ v.n → i ≠ v.n → (roundM Try.prog (onlyS Try.prog noS) noL Try.f14.ntmps 0 (loopAt Try.f14 0) 4 [1, 3, 4] [] [] (rq_st v P (roomN P i) (i : Nat))).ok fun r => r.1 = .normal ∧ ∃ j, j ≤ v.n ∧ v.n - j < v.n - i ∧ r.2 = rq_st v P (roomN P j) (j : Nat) := by
  intro i hi hne
  have e2 : IntKind.i64.wrap ((i : Int) + 1) = ((i + 1 : Nat) : Int) := by rw [w64i (by omega) (by omega)]; rfl
  have hh : ∀ z : Int, (if (16 : Int) < if (0 : Int) > z then (0 : Int) else z then (16 : Int) else if (0 : Int) > z then (0 : Int) else z) = heldI z := fun _ => rfl
  have b1 := heldI_bd (P i).window
  have b2 := heldI_bd (P i).pipe
  have b3 := roomN_bd P i
  have q1 : (0 : Int) ≤ (i : Int) ∧ (i : Int) < v.n := ⟨by omega, by omega⟩
  have q2 : i < v.n := by omega
  have e3 : IntKind.i64.wrap (IntKind.i64.wrap (roomN P i + heldI (P i).window) - heldI (P i).pipe) = roomN P i + heldI (P i).window - heldI (P i).pipe := by rw [w64i (z := roomN P i + heldI (P i).window) (by omega) (by omega), w64i (by omega) (by omega)]
  rw [rq_round]
  simp only [Int.toNat_natCast, e2, hh, e3]
  refine t_ite (fun _ => t_need q1 (t_need q2 (t_need q1 (t_need q2 (t_need q1 (t_need q2 (t_ite (fun h => t_ite (fun g => t_leaf ⟨rfl, i + 1, by omega, by omega, ?_⟩) fun g => t_leaf ⟨rfl, i + 1, by omega, by omega, ?_⟩) fun h => t_leaf ⟨rfl, i + 1, by omega, by omega, ?_⟩))))))) fun h => absurd (show (i : Int) < v.n by omega) (of_decide_eq_false h)
  · have g := of_decide_eq_true g
    have e4 : roomS (P i) = heldI (P i).window - heldI (P i).pipe := by unfold roomS; rw [if_pos (of_decide_eq_true h), if_neg (by omega)]
    unfold rq_st
    rw [show roomN P (i + 1) = roomN P i + roomS (P i) from rfl, e4, show roomN P i + (heldI (P i).window - heldI (P i).pipe) = roomN P i + heldI (P i).window - heldI (P i).pipe by omega]
    rfl
  · have g := of_decide_eq_false g
    have e4 : roomS (P i) = 0 := by unfold roomS; rw [if_pos (of_decide_eq_true h)]; split <;> omega
    unfold rq_st
    rw [show roomN P (i + 1) = roomN P i + roomS (P i) from rfl, e4, Int.add_zero]
    rfl
  · have e4 : roomS (P i) = 0 := by unfold roomS; rw [if_neg (of_decide_eq_false h)]
    unfold rq_st
    rw [show roomN P (i + 1) = roomN P i + roomS (P i) from rfl, e4, Int.add_zero]
    rfl
theorem pt_row {w : World} {v : VwR} {a : Value} (h : ∀ B, BlkSat B w a (.row v.n 9 v.f)) (hp : AllPt v.n v.f) : ∀ B, BlkSat B w a (rowPt v.n (ptF v.f)) := fun B => row_congr (h B) fun i j hi hj => hp i j hi hj
set_option maxRecDepth 100000 in
theorem audit_Room (v : VwR) (u : Value) (w : World) (hv : v.Is w u) (hp : PtP v.n v.f) : Calls Try.prog 13 #[u] w fun e w' => e = .returned (.int .i64 (roomN (ptF v.f) v.n)) ∧ Below w.heap.size w w' := by
  obtain ⟨a, b, c, rfl, r1, r2, r3⟩ := hv
  refine calls_runO (onlyS_ok SRm_ok) follows Try.func13 (by kernel_rfl) (by kernel_rfl) (one_loop (b := loopAt Try.f13 0) (id := 0) (by kernel_rfl) fun st t h' => ?_) (rm_run v (ptF v.f) (roomN (ptF v.f) v.n) (v.n : Int)) ?_ (mem_rows3 (pt_row r1 hp.2) r2 r3) rfl
  · rw [addL_same h']
    exact loop_cnt (N := Try.f13.ntmps) (onlyS_ok SRm_ok) follows (lexAllF_ok (by kernel_rfl)) (noloops (by kernel_rfl)) (fun i => i ≤ v.n) (fun i => rm_st v (ptF v.f) (roomN (ptF v.f) i) (i : Nat)) (fun i => v.n - i) 4 [1, 3, 7, 8, 9] [] [] v.n [] (rm_step v (ptF v.f) hp.1) (Nat.zero_le _)
  · exact t_need rfl (t_need rfl (t_ite (fun h => absurd (of_decide_eq_true h) (Int.lt_irrefl _)) fun _ => t_leaf rfl))
set_option maxRecDepth 100000 in
theorem ref44_Room (v : VwR) (u : Value) (w : World) (hv : v.Is w u) (hp : PtP v.n v.f) : Calls Try.prog 14 #[u] w fun e w' => e = .returned (.int .i64 (roomN (ptF v.f) v.n)) ∧ Below w.heap.size w w' := by
  obtain ⟨a, b, c, rfl, r1, r2, r3⟩ := hv
  refine calls_runO (onlyS_ok noS_ok) follows Try.func14 (by kernel_rfl) (by kernel_rfl) (one_loop (b := loopAt Try.f14 0) (id := 0) (by kernel_rfl) fun st t h' => ?_) (rq_run v (ptF v.f) (roomN (ptF v.f) v.n) (v.n : Int)) ?_ (mem_rows3 (pt_row r1 hp.2) r2 r3) rfl
  · rw [addL_same h']
    exact loop_cnt (N := Try.f14.ntmps) (onlyS_ok noS_ok) follows (lexAllF_ok (by kernel_rfl)) (noloops (by kernel_rfl)) (fun i => i ≤ v.n) (fun i => rq_st v (ptF v.f) (roomN (ptF v.f) i) (i : Nat)) (fun i => v.n - i) 4 [1, 3, 4] [] [] v.n [] (rq_step v (ptF v.f) hp.1) (Nat.zero_le _)
  · refine t_need rfl (t_need rfl (t_ite (fun h => absurd (of_decide_eq_true h) (Int.lt_irrefl _)) fun _ => t_leaf rfl))
def CkP (v : VwR) : Prop := PtP v.n v.f ∧ AllI v.k v.g ∧ AllI v.l v.h ∧ VwN v
def chkE (v : VwR) : Int := chkV v (ptF v.f) (ints v.g) (ints v.h)
theorem audit_Check_any (v : VwR) (u : Value) (w : World) (hv : v.Is w u) (hp : CkP v) : Calls Try.prog 9 #[u] w fun e w' => e = .returned (.int .i64 (chkE v)) ∧ Below w.heap.size w w' := by
  obtain ⟨a, b, c, rfl, r1, r2, r3⟩ := hv
  exact audit_Check v (ptF v.f) (ints v.g) (ints v.h) hp.2.2.2 a b c w (pt_row r1 hp.1.2) (int_row r2 hp.2.1) (int_row r3 hp.2.2.1)
theorem ref44_Check_any (v : VwR) (u : Value) (w : World) (hv : v.Is w u) (hp : CkP v) : Calls Try.prog 11 #[u] w fun e w' => e = .returned (.int .i64 (chkE v)) ∧ Below w.heap.size w w' := by
  obtain ⟨a, b, c, rfl, r1, r2, r3⟩ := hv
  exact ref44_Check v (ptF v.f) (ints v.g) (ints v.h) hp.2.2.2 a b c w (pt_row r1 hp.1.2) (int_row r2 hp.2.1) (int_row r3 hp.2.2.1)
/-! views as the document has them -/
theorem pt_one (p : Pt) : allOneP [Value.int .i64 p.id, .int .i64 p.st, .int .i64 p.prio, .int .i64 p.conn, .int .i64 p.window, .int .i64 p.pipe, .int .i64 p.trip, .int .i64 p.told, .int .i64 p.rest] := by
  intro u hu
  simp only [List.mem_cons, List.not_mem_nil, or_false] at hu
  rcases hu with rfl | rfl | rfl | rfl | rfl | rfl | rfl | rfl | rfl <;> rfl
set_option maxRecDepth 100000 in
theorem se_step (v : VwR) (P : Nat → Pt) (hn : v.n ≤ 1000) : ∀ i : Nat, i ≤ v.n → i ≠ v.n → (roundG Try.prog (onlyS Try.prog noS) noL Try.f8.ntmps 0 (loopAt Try.f8 0) tauS (se_st v P i (seenC P i) (i : Nat))).ok fun r => r.1 = .normal ∧ ∃ j, j ≤ v.n ∧ v.n - j < v.n - i ∧ r.2 = se_st v P j (seenC P j) (j : Nat) := by
  intro i hi hne
  have e2 : IntKind.i64.wrap ((i : Int) + 1) = ((i + 1 : Nat) : Int) := by rw [w64i (by omega) (by omega)]; rfl
  rw [se_round]
  simp only [Int.toNat_natCast, e2]
  exact t_ite (fun _ => t_need ⟨by omega, by omega⟩ (t_need (by omega) (t_need ⟨by omega, by omega⟩ (t_need (pt_one _) (t_leaf ⟨rfl, i + 1, by omega, by omega, rfl⟩))))) fun h => absurd (show (i : Int) < v.n by omega) (of_decide_eq_false h)
def fSeen : List SV → List Blk → Option (T (SV × List Blk))
  | [.agg l], [.row n 9 f, .row k 1 g, .row m 1 h] => match vwOf [.row n 9 f, .row k 1 g, .row m 1 h] l with
    | some (v, .ref 0, .ref 1, .ref 2) => some (.need (PtP v.n v.f) (.leaf (.agg (v.ownP (.ref 6)), [.gone, .gone, .gone, .gone, .gone, .gone, .vec true 46 9 v.n (seenC (ptF v.f) v.n)])))
    | _ => none
  | _, _ => none
set_option maxRecDepth 100000 in
theorem fSeen_ok : EntryOk Try.prog 8 fSeen := by
  intro ss H t ht bs B w vs hm hv Qs hq
  unfold fSeen at ht
  split at ht
  · rename_i l n f k g m h
    split at ht
    · rename_i v hvw
      simp only [Option.some.injEq] at ht
      subst ht
      obtain ⟨⟨hn, hp⟩, hq⟩ := hq
      obtain ⟨hl, ⟨rfl, rfl⟩, ⟨rfl, rfl⟩, rfl, rfl⟩ := vwOf_rows hvw
      simp only [SV.agg.injEq] at hl
      subst hl
      have hm := mem_row0 hm hp
      have run := se_run v (ptF v.f) v.n (seenC (ptF v.f) v.n) (v.n : Int)
      refine (inl_ok (L := Lse Try.prog Try.f8 v (ptF v.f) v.n (seenC (ptF v.f) v.n) (v.n : Int)) (onlyS_ok noS_ok) follows Try.func8 (by kernel_rfl) (by kernel_rfl) (one_loop (b := loopAt Try.f8 0) (id := 0) (by kernel_rfl) fun st t h' => ?_) [v.s (.ref 0) (.ref 1) (.ref 2)] (v.rowsP (ptF v.f)) _ rfl bs B w vs hm hv (fun r => r.1 = .agg (v.ownP (.ref 6)) ∧ r.2 = v.rowsP (ptF v.f) ++ [v.own, .own (v.ownP (.ref 6)), .own (v.ownP (.ref 6)), .vec true 46 9 v.n (seenC (ptF v.f) v.n)]) ?_).mono ?_
      · rw [addL_same h']
        exact loopG_cnt (N := Try.f8.ntmps) (onlyS_ok noS_ok) follows (by kernel_rfl) (noloops (by kernel_rfl)) (fun i => i ≤ v.n) (fun i => se_st v (ptF v.f) i (seenC (ptF v.f) i) (i : Nat)) (fun i => v.n - i) 6 (τ := tauS) (ord_ok [1, 2, 3, 4] [(.cell 5 3 [], 46, 9)] []) v.n [] (se_step v (ptF v.f) hn) (i0 := 0) (Nat.zero_le _)
      · rw [run]
        exact t_need rfl (t_need rfl (t_ite (fun h => absurd (of_decide_eq_true h) (Int.lt_irrefl _)) fun _ => t_leaf ⟨rfl, rfl⟩))
      · rintro e w' ⟨s1, H1, B1, x, ⟨h1, h2⟩, hpr, he', hx, hm'⟩
        dsimp only at h1 h2
        subst h1 h2
        exact ⟨_, _, B1, x, hq, hpr, he', hx, (((((hm'.drop 0).drop 1).drop 2).drop 3).drop 4).drop 5⟩
    · cases ht
  · cases ht
end Go.Proofs.Ytegookefdkcolaa
