/- Timers: the next one is next: the law. No conditions. -/
import Derived.Test.YtpbjknkbllcciaaWhN
import Derived.Test.YtpbjknkbllcciaaWhO
import Derived.Test.YtpbjknkbllcciaaWhY
namespace Go.Proofs.Ytpbjknkbllcciaa
set_option linter.unusedVariables false
set_option linter.unusedSimpArgs false
open Go.RowKit Sym Go.Maps Go.Sort Go.Lib Go.ChangeShapes Go.WideShapes Go.ChangeMaps

def nmS (i : Nat) : ByteArray := ByteArray.mk (Array.mk (Sym.strOf [Value.int IntKind.u8 (IntKind.u8.wrap (IntKind.i64.wrap ((65 : Int) + (i : Int))))]))
theorem nmS_def (i : Nat) : ByteArray.mk (Array.mk (Sym.strOf [Value.int IntKind.u8 (IntKind.u8.wrap (IntKind.i64.wrap ((65 : Int) + (i : Int))))])) = nmS i := rfl
theorem nm_num : ∀ i : Fin 60, IntKind.u8.wrap (IntKind.i64.wrap ((65 : Int) + ((i.val : Nat) : Int))) = ((65 + i.val : Nat) : Int) ∧ ((UInt8.ofNat (65 + i.val)).toNat : Int) = ((65 + i.val : Nat) : Int) := by decide +kernel
theorem nmS_l {i : Nat} (hi : i < 60) : (nmS i).data.toList = nmL i := by
  have h := (nm_num ⟨i, hi⟩).1
  simp only at h
  unfold nmS
  rw [h]; rfl
theorem nmS_size {i : Nat} (hi : i < 60) : (nmS i).size = 1 := by
  have h := congrArg List.length (nmS_l hi)
  rw [Array.length_toList] at h
  exact h
theorem nm_need {i : Nat} (hi : i < 60) : [Value.int IntKind.u8 (IntKind.u8.wrap (IntKind.i64.wrap ((65 : Int) + (i : Int))))] = [Value.int IntKind.u8 ((UInt8.ofNat (IntKind.u8.wrap (IntKind.i64.wrap ((65 : Int) + (i : Int)))).toNat).toNat : Int)] := by
  obtain ⟨h1, h2⟩ := nm_num ⟨i, hi⟩
  simp only at h1 h2
  rw [h1, Int.toNat_natCast, h2]
set_option maxRecDepth 100000 in
theorem wn_step {n : Nat} {p : Nat → Int} (hp : ∀ i, 0 ≤ p i ∧ p i ≤ 65535) (hn : n ≤ 60) : ∀ i : Nat, i ≤ n → i ≠ n → (roundM Try.prog (CWm Try.prog whV ⟨Try.f8, Try.f12, Try.f13⟩) noL Try.f4.ntmps 0 (loopAt Try.f4 0) 3 [0, 3, 4, 5] [] [] (stM Try.prog n p 0 (dMt p nmS i) (leastP p i) (i : Nat))).ok fun r => r.1 = .normal ∧ ∃ j, j ≤ n ∧ n - j < n - i ∧ r.2 = stM Try.prog n p 0 (dMt p nmS j) (leastP p j) (j : Nat) := by
  intro i hi hne
  have hpi := hp i
  have hi60 : i < 60 := by omega
  have hw : IntKind.i64.wrap ((i : Int) + 1) = ((i + 1 : Nat) : Int) := by rw [w64 _ (by omega) (by omega)]; rfl
  have hwp : IntKind.i64.wrap (p i) = p i := w64 _ (by omega) (by omega)
  have hW := dMt_ok hp (fun i hi => nmS_l hi) i (by omega)
  obtain ⟨-, hg, hh⟩ := wn_set hW hi60 hp (nmS i) (nmS_l hi60)
  have hk : okW 0 (dMt p nmS i) := okW_of hW.sd (by omega) (by rw [hW.sz]; omega)
  have hs := nmS_size hi60
  have hmx : (if (1 : Int) > p i then (1 : Int) else p i) = max (p i) 1 := by split <;> omega
  have hl : leastP p (i + 1) = if i = 0 ∨ max (p i) 1 < leastP p i then max (p i) 1 else leastP p i := rfl
  have hD : dMt p nmS (i + 1) = setD 0 (dMt p nmS i) (nmS i) (p i) := rfl
  have hnn := nm_need hi60
  rw [wn_round]
  simp only [Int.toNat_natCast, hwp, hw, vset, vok, nmS_def]
  generalize leastP p i = lp at *
  rw [← hD] at hg hh
  simp only [← hD]
  generalize hDd : dMt p nmS (i + 1) = D1 at *
  generalize dMt p nmS i = D at *
  have b1 : (0 : Int) ≤ (i : Int) ∧ (i : Int) < (n : Int) := by omega
  have b2 : i < n := by omega
  have hss : (nmS i).size ≤ 9223372036854775807 := by omega
  refine t_ite (fun _ => t_need hnn (t_need b1 (t_need b2 (t_need ⟨trivial, hk, hss⟩ (t_need trivial (t_need hss (t_need b1 (t_need b2 (t_ite (fun h => ?_) fun _ => t_ite (fun h => ?_) fun _ => t_ite (fun h => ?_) fun h => t_ite (fun h' => ?_) fun h' => ?_))))))))) fun h => ?_
  · rw [hg, hmx] at h; simp at h
  · rw [hh] at h; cases h
  · refine t_leaf ⟨rfl, i + 1, by omega, by omega, ?_⟩
    have h := of_decide_eq_true h
    rw [hDd, hl, if_pos (.inl (by omega)), hg]; rfl
  · refine t_leaf ⟨rfl, i + 1, by omega, by omega, ?_⟩
    have h' := of_decide_eq_true h'
    rw [hg] at h'
    rw [hDd, hl, if_pos (.inr h'), hg]; rfl
  · refine t_leaf ⟨rfl, i + 1, by omega, by omega, ?_⟩
    have h := of_decide_eq_false h
    have h' := of_decide_eq_false h'
    rw [hg] at h'
    rw [hDd, hl, if_neg (fun hc => hc.elim (fun e => h (by omega)) h')]; rfl
  · have := of_decide_eq_false h; omega
theorem take1 {xs : List Value} {i : Nat} (h : i < xs.length) : List.take 1 (List.drop i xs) = [cellAt xs i] := by
  rw [List.drop_eq_getElem_cons h]
  unfold cellAt
  rw [List.getD_eq_getElem?_getD, List.getElem?_eq_getElem h]; rfl
set_option maxRecDepth 100000 in
theorem wn_step2 {n : Nat} {p : Nat → Int} {now : Int} {D : DataW Unit} {k1 k2 : Nat} {x1 x2 : List Value} {least : Int} (hp : ∀ i, 0 ≤ p i ∧ p i ≤ 65535) (hn : n ≤ 60) (hk2 : k2 ≤ 60) (hx : x2.length = k2) (hc : ∀ i, i < k2 → ∃ j, j < n ∧ cellAt x2 i = encStr (nmL j) ∧ max (p j) 1 = least) : ∀ i : Nat, i ≤ k2 → i ≠ k2 → (roundM Try.prog (CWm Try.prog whV ⟨Try.f8, Try.f12, Try.f13⟩) noL Try.f4.ntmps 2 (loopAt Try.f4 1) 5 [0, 3, 4, 12, 13] [] [] (stN Try.prog n p now D k1 x1 k2 x2 least (i : Nat))).ok fun r => r.1 = .normal ∧ ∃ j, j ≤ k2 ∧ k2 - j < k2 - i ∧ r.2 = stN Try.prog n p now D k1 x1 k2 x2 least (j : Nat) := by
  intro i hi hne
  have hw : IntKind.i64.wrap ((i : Int) + 1) = ((i + 1 : Nat) : Int) := by rw [w64 _ (by omega) (by omega)]; rfl
  obtain ⟨j, hj, e, hl⟩ := hc i (by omega)
  have hpj := hp j
  have htk := take1 (xs := x2) (i := i) (by omega)
  have hst : strV (cellAt x2 i) = ⟨(nmL j).toArray⟩ := by rw [e]; rfl
  have hsz : (strV (cellAt x2 i)).size = 1 := by rw [hst]; rfl
  have hby : byteAt (strV (cellAt x2 i)) 0 = ((65 + j : Nat) : Int) := by
    rw [hst]
    exact (nm_num ⟨j, by omega⟩).2
  have htk : List.take 1 (List.drop i x2) = [Value.string (strV (cellAt x2 i))] := by rw [htk, e]; rfl
  have w1 : IntKind.i64.wrap ((65 + j : Nat) : Int) = ((65 + j : Nat) : Int) := w64 _ (by omega) (by omega)
  have w2 : IntKind.i64.wrap (((65 + j : Nat) : Int) - 65) = (j : Int) := by rw [w64 _ (by omega) (by omega)]; omega
  have w3 : IntKind.i64.wrap (p j) = p j := w64 _ (by omega) (by omega)
  have hmx : (if (1 : Int) > p j then (1 : Int) else p j) = max (p j) 1 := by split <;> omega
  rw [wn_round2, hw]
  simp only [Int.toNat_natCast, Nat.mul_one, Nat.add_zero, hsz, hby, w1, w2, w3]
  have b1 : (0 : Int) ≤ (i : Int) ∧ (i : Int) < (k2 : Int) := by omega
  have b2 : i < k2 := by omega
  refine t_ite (fun _ => t_need b1 (t_need b2 (t_need htk (t_ite (fun h => ?_) fun _ => t_need b1 (t_need b2 (t_need htk (t_need ?_ ?_))))))) fun h => ?_
  · simp at h
  · first | trivial | decide | omega
  · refine t_ite (fun h => ?_) fun _ => t_need b1 (t_need b2 (t_need htk (t_need ?_ ?_)))
    · have := of_decide_eq_true h; omega
    · first | trivial | decide | omega
    · refine t_ite (fun h => ?_) fun _ => t_need b1 (t_need b2 (t_need htk (t_need ?_ (t_need ?_ (t_need hj (t_ite (fun h => ?_) fun _ => t_leaf ⟨rfl, i + 1, by omega, by omega, rfl⟩))))))
      · have := of_decide_eq_true h; omega
      · first | trivial | decide | omega
      · omega
      · rw [hmx, hl] at h; simp at h
  · have := of_decide_eq_false h; omega
theorem wn_bd {p : Nat → Int} (hp : ∀ i, 0 ≤ p i ∧ p i ≤ 65535) (n : Nat) : 0 ≤ leastP p n ∧ leastP p n ≤ 65535 := by
  rcases Nat.eq_zero_or_pos n with rfl | h
  · exact ⟨Int.le_refl _, by show (0 : Int) ≤ 65535; omega⟩
  · have := leastP_bd hp n h; omega
theorem wn_t1 {least : Int} (h : 1 ≤ least ∧ least ≤ 65535) : wnT1 whV least = least - 1 ∧ wnT2 whV least = least := by
  have e1 : wnT1 whV least = least - 1 := by
    show nowT (iniT 0) (IntKind.i64.wrap (least - 1)) = _
    rw [w64 _ (by omega) (by omega), show iniT 0 = 0 from by decide]
    unfold nowT; omega
  refine ⟨e1, ?_⟩
  show nowT (wnT1 whV least) 1 = _
  rw [e1]
  unfold nowT; omega
theorem wn_facts {p : Nat → Int} {D : DataW Unit} {n : Nat} (hp : ∀ i, 0 ≤ p i ∧ p i ≤ 65535) (h : WN p D n) : dueN D (wnT1 whV (leastP p n)) = 0 ∧ wnD1 whV D (leastP p n) = D ∧ ∀ i, i < dueN D (wnT2 whV (leastP p n)) → ∃ j, j < n ∧ nameL D i = nmL j ∧ max (p j) 1 = leastP p n := by
  have key : dueN D (wnT1 whV (leastP p n)) = 0 ∧ ∀ i, i < dueN D (wnT2 whV (leastP p n)) → ∃ j, j < n ∧ nameL D i = nmL j ∧ max (p j) 1 = leastP p n := by
    rcases Nat.eq_zero_or_pos n with rfl | hn
    · have h0 : ∀ t, dueN D t = 0 := fun t => by
        have := (dueN_spec D t).1
        rw [← h.sd.olen, h.sz] at this
        omega
      exact ⟨h0 _, fun i hi => by rw [h0] at hi; omega⟩
    · obtain ⟨e1, e2⟩ := wn_t1 (leastP_bd hp n hn)
      rw [e1, e2]
      exact ⟨h.before hn (by omega), (h.then_ hn).2⟩
  refine ⟨key.1, ?_, key.2⟩
  show delN D (dueN D (wnT1 whV (leastP p n))) = D
  rw [key.1]; rfl
set_option maxRecDepth 100000 in
theorem wn_any (n : Nat) (p : Nat → Int) (hp : ∀ i, 0 ≤ p i ∧ p i ≤ 65535) (u : Value) (w : World) (hu : ∀ B, BlkSat B w u (.row n 1 fun i _ => .int .u16 (p i))) :
    Calls Try.prog 4 #[u] w fun e w' => e = .returned (.bool true) ∧ Below w.heap.size w w' := by
  by_cases hn60 : n ≤ 60
  · have hW : WN p (dMt p nmS n) n := dMt_ok (s := nmS) hp (fun i hi => nmS_l hi) n hn60
    obtain ⟨f1, f2, f3⟩ := wn_facts hp hW
    have hol := hW.sd.olen
    have hsz := hW.sz
    have hbd := wn_bd hp n
    have hkle := (dueN_spec (dMt p nmS n) (wnT2 whV (leastP p n))).1
    refine calls_runO (v := .bool true) CWm_ok follows Try.func4 (by kernel_rfl) (lexAllF_ok (by kernel_rfl)) (two_loops (b1 := loopAt Try.f4 0) (id1 := 0) (b2 := loopAt Try.f4 1) (id2 := 2) (by kernel_rfl) (fun st t hh => ?_) fun st t hh => ?_)
      (wn_run whV n p (dMt p nmS n) (leastP p n) (dueN (dMt p nmS n) (wnT2 whV (leastP p n)))) ?_ (mem_row (hu _)) rfl
    · rw [addL_same hh]
      exact loop_cnt CWm_ok follows (lexAllF_ok (by kernel_rfl)) (noloops (by kernel_rfl)) (fun i => i ≤ n) (fun i => stM Try.prog n p 0 (dMt p nmS i) (leastP p i) (i : Nat)) (fun i => n - i) 3 [0, 3, 4, 5] [] [] n [] (wn_step hp hn60) (Nat.zero_le _)
    · unfold LWn at hh
      have hh := Option.some.inj hh
      rw [← hh, f2]
      exact loop_cnt CWm_ok follows (lexAllF_ok (by kernel_rfl)) (noloops (by kernel_rfl)) (fun i => i ≤ dueN (dMt p nmS n) (wnT2 whV (leastP p n))) (fun i => stN Try.prog n p (wnT2 whV (leastP p n)) (whV.del (dMt p nmS n) (wnT2 whV (leastP p n))) (whV.due (dMt p nmS n) (wnT1 whV (leastP p n))) (whV.row (dMt p nmS n) (wnT1 whV (leastP p n))) (dueN (dMt p nmS n) (wnT2 whV (leastP p n))) (whV.row (dMt p nmS n) (wnT2 whV (leastP p n))) (leastP p n) (i : Nat)) (fun i => dueN (dMt p nmS n) (wnT2 whV (leastP p n)) - i) 5 [0, 3, 4, 12, 13] [] [] (dueN (dMt p nmS n) (wnT2 whV (leastP p n))) []
        (wn_step2 hp hn60 (by omega) (by rw [vrow, List.length_map, List.length_take]; exact Nat.min_eq_left hkle) fun i hi => by
          obtain ⟨j, hj, e, hl⟩ := f3 i hi
          refine ⟨j, hj, ?_, hl⟩
          rw [← e, vrow]
          unfold cellAt nameL
          rw [List.getD_eq_getElem?_getD, List.getElem?_map, List.getElem?_take_of_lt hi, List.getD_eq_getElem?_getD, List.getElem?_eq_getElem (by omega)]; rfl) (Nat.zero_le _)
    · have hk : okW 0 (dMt p nmS n) := okW_of hW.sd (by omega) (by omega)
      have hi0 : iniT 0 = 0 := by decide
      rcases Nat.eq_zero_or_pos n with rfl | hn
      · have hz : (ordL (dMt p nmS 0)).length = 0 := by omega
        have hI : nextI (dMt p nmS 0) = 0 := by unfold nextI; rw [if_neg (by omega)]
        have hB : nextB (dMt p nmS 0) = false := by unfold nextB; rw [decide_eq_false (by omega)]
        have hd0 : ∀ t, dueN (dMt p nmS 0) t = 0 := fun t => by have := (dueN_spec (dMt p nmS 0) t).1; omega
        generalize dMt p nmS 0 = D at *
        generalize leastP p 0 = least at *
        simp only [vini, hi0, vdel, vdue, vrow, vnow, vnxI, vnxB, vok, hI, hB, hd0]
        refine t_ite (fun h => by cases h) fun _ => t_ite (fun _ => t_leaf rfl) fun _ => t_need (by trivial) (t_need ?_ (t_ite (fun h => ?_) fun _ => t_need ⟨trivial, hk⟩ (t_ite (fun _ => t_ite (fun _ => t_ite (fun _ => t_need ⟨trivial, hk⟩ (t_leaf rfl)) fun h => ?_) fun h => ?_) fun h => ?_)))
        all_goals first | trivial | rfl | (simp at h; done) | (have := of_decide_eq_true h; omega)
      · obtain ⟨e1, e2⟩ := wn_t1 (leastP_bd hp n hn)
        obtain ⟨hI, hB⟩ := hW.next hn
        obtain ⟨hpos, -⟩ := hW.then_ hn
        have hlb := leastP_bd hp n hn
        rw [e1] at f1
        have hlen := len_at hW.sd (leastP p n)
        have hsa := (sd_at hW.sd (leastP p n)).olen
        have hwl : IntKind.i64.wrap (leastP p n - 1) = leastP p n - 1 := w64 _ (by omega) (by omega)
        have q1 : nowT 0 (leastP p n - 1) = leastP p n - 1 := by unfold nowT; omega
        have q2 : nowT (leastP p n - 1) 1 = leastP p n := by unfold nowT; omega
        have hk1 : okW (leastP p n - 1) (dMt p nmS n) := okW_of hW.sd (by omega) (by omega)
        have q3 : delN (dMt p nmS n) 0 = dMt p nmS n := rfl
        unfold atD at hlen hsa
        generalize dMt p nmS n = D at *
        generalize leastP p n = least at *
        have hkl2 := (dueN_spec D least).1
        have hws : IntKind.i64.wrap ((mSize D : Int) - (dueN D least : Int)) = (mSize D : Int) - (dueN D least : Int) := w64 _ (by omega) (by omega)
        simp only [vini, hi0, vdel, vdue, vrow, vnow, vnxI, vnxB, vok, hI, hB, hwl, q1, q2, f1, q3, hws, e2]
        refine t_ite (fun h => by cases h) fun _ => t_ite (fun _ => t_leaf rfl) fun _ => t_need (by trivial) (t_need ?_ (t_ite (fun h => ?_) fun _ => t_need ⟨trivial, hk⟩ (t_ite (fun h => ?_) fun _ => t_need trivial (t_ite (fun h => ?_) fun _ => t_ite (fun h => ?_) fun _ => t_ite (fun h => ?_) fun _ => t_need ⟨trivial, hk⟩ (t_ite (fun h => ?_) fun _ => t_ite (fun h => ?_) fun _ => t_need ⟨trivial, hk1⟩ (t_ite (fun h => ?_) fun _ => t_need trivial (t_ite (fun h => ?_) fun _ => t_need trivial (t_need ?_ (t_ite (fun h => ?_) fun _ => t_leaf rfl)))))))))
        all_goals first | trivial | rfl | (simp at h; done) | (have := of_decide_eq_true h; omega) | (simp at h; omega)
  · refine calls_runO (v := .bool true) CWm_ok follows Try.func4 (by kernel_rfl) (lexAllF_ok (by kernel_rfl)) (two_loops (b1 := loopAt Try.f4 0) (id1 := 0) (b2 := loopAt Try.f4 1) (id2 := 2) (by kernel_rfl) (fun st t hh => by cases hh) fun st t hh => by cases hh) (wn_run0 whV n p) ?_ (mem_row (hu _)) rfl
    refine t_ite (fun h => by cases h) fun _ => t_ite (fun _ => t_leaf rfl) fun h => ?_
    have := of_decide_eq_false h
    omega
theorem wheelNext_walk {H : Type} {enc : TypeId × Value → H} {base : Nat} {v0 : Value} {d0 : DataW H} {p0 : List MemPlace} {W : World} (hv0 : Value.okWide Try.prog W .any base 23 v0)
    (h0 : DataW.Trod enc Try.prog W 0 (fun _ => true) true 23 v0 d0 p0) :
    Calls Try.prog 4 #[v0] W fun e w' => e = .returned (.bool true) ∧ Below W.heap.size W w' := by
  obtain ⟨n, p, -, hp, hv⟩ := open_u16s hv0 h0
  exact wn_any n p hp v0 W hv
end Go.Proofs.Ytpbjknkbllcciaa
