/- Listening: the reference's Accept; refusals: contracts; tables for the laws. No conditions. -/
import Derived.Test.YtjjnolpkifhbnaaGreatLsC
namespace Go.Proofs.YtjjnolpkifhbnaaGreat
set_option linter.unusedVariables false
set_option linter.unusedSimpArgs false
open Go.RowKit Sym Sha Go.ChangeShapes Go.WideShapes Go.ChangeMaps Inet

theorem of_wrap (a z : Int) : Circ.of (IntKind.i64.wrap (a + z)) = Circ.add a z := by
  rw [IntKind.wrap_i64]
  unfold Circ.add Circ.of
  omega
/-! refusals -/
def lsNone : Pk := ⟨0, false, 0, 0, 0, 0, 0, 0, 0, 0, 0, ⟨⟨[]⟩⟩⟩
def clampC (c : Int) : Int := if (255 : Int) < (if (0 : Int) > c then (0 : Int) else c) then (255 : Int) else if (0 : Int) > c then (0 : Int) else c
def refPk (p : Pk) (c : Int) : Pk := ⟨7, true, p.dst, p.src, 0, 0, if Head.acks p.kind = true then Circ.add p.ack 1 else 0, p.seq, 0, clampC c, 0, ⟨⟨[]⟩⟩⟩
def refG (ck : Int) (p : Pk) (c : Int) : Value := if p.long = true ∧ ¬ p.kind = 7 ∧ ck = 0 then .tuple #[(refPk p c).v (.slice none 0 0), .bool true] else .tuple #[lsNone.v (.slice none 0 0), .bool false]
def refV (p : Pk) (n : Nat) (g : Nat → Op) (c : Int) : Value := refG (chkP p n g) p c
theorem refuse_tree (Z : LsZ) (p : Pk) (n : Nat) (f : Nat → Nat → Value) (c : Int) (hc : ChkPL p n f) {t : T Value} (ht : runO Tryz.prog (CLs0 Tryz.prog Z) noL Tryz.f19 [p.s (.ref 0), .v (.int .i64 c)] [.row n 2 f] = t) : t.ok fun v => v = refG (Z.ck p n (opF f)) p c := by
  subst ht
  rw [refuse_run]
  unfold refG refPk
  generalize Z.ck p n (opF f) = e at *
  repeat' (first | (with_reducible refine t_need ?_ ?_) | (with_reducible refine t_ite ?_ ?_; all_goals intro h) | (with_reducible refine t_leaf ?_))
  all_goals first
    | (with_reducible exact hc)
    | (simp only [Bool.not_eq_true', Bool.not_eq_false', decide_eq_true_eq, decide_eq_false_iff_not] at *; simp [*, lsNone, Pk.v, clampC]; done)
theorem rrefuse_tree (Z : LsZ) (p : Pk) (n : Nat) (f : Nat → Nat → Value) (c : Int) (hc : ChkPL p n f) {t : T Value} (ht : runO Tryz.prog (CLs0 Tryz.prog Z) noL Tryz.f20 [p.s (.ref 0), .v (.int .i64 c)] [.row n 2 f] = t) : t.ok fun v => v = refG (Z.ck p n (opF f)) p c := by
  subst ht
  rw [rrefuse_run, of_wrap]
  unfold refG refPk
  generalize Z.ck p n (opF f) = e at *
  repeat' (first | (with_reducible refine t_need ?_ ?_) | (with_reducible refine t_ite ?_ ?_; all_goals intro h) | (with_reducible refine t_leaf ?_))
  all_goals first
    | (with_reducible exact hc)
    | (simp only [Bool.not_eq_true', Bool.not_eq_false', decide_eq_true_eq, decide_eq_false_iff_not] at *; simp [*, lsNone, Pk.v, clampC]; done)
theorem listen_Refuse (p : Pk) (n : Nat) (f : Nat → Nat → Value) (c : Int) (hc : ChkPL p n f) (o : Value) (w : World) (hv : ∀ B, BlkSat B w o (.row n 2 f)) : Calls Tryz.prog 19 #[p.v o, .int .i64 c] w fun e w' => e = .returned (refV p n (opF f) c) ∧ Below w.heap.size w w' := by
  have h1 := refuse_tree lsZ p n f c hc (refuse_run lsZ p n f c)
  exact calls_runO CLs0_ok follows Tryz.func19 (by kernel_rfl) (lexAllF_ok (by kernel_rfl)) (noloops (by kernel_rfl)) (refuse_run lsZ p n f c) h1 (mem_row (hv [o])) rfl
theorem ref25_Refuse (p : Pk) (n : Nat) (f : Nat → Nat → Value) (c : Int) (hc : ChkPL p n f) (o : Value) (w : World) (hv : ∀ B, BlkSat B w o (.row n 2 f)) : Calls Tryz.prog 20 #[p.v o, .int .i64 c] w fun e w' => e = .returned (refV p n (opF f) c) ∧ Below w.heap.size w w' := by
  have h1 := rrefuse_tree lsZ p n f c hc (rrefuse_run lsZ p n f c)
  exact calls_runO CLs0_ok follows Tryz.func20 (by kernel_rfl) (lexAllF_ok (by kernel_rfl)) (noloops (by kernel_rfl)) (rrefuse_run lsZ p n f c) h1 (mem_row (hv [o])) rfl
/-! the reference's Accept -/
set_option maxRecDepth 100000 in
theorem ra_step (k : ByteArray) (svc : Int) (p : Pk) (n : Nat) (g : Nat → Op) (x y now : Int) (hn : n ≤ maxLen) : ∀ i : Nat, i ≤ findE n g 36 → i ≠ findE n g 36 → (roundM Tryz.prog (CLs0 Tryz.prog lsZ) noL Tryz.f17.ntmps 0 (loopAt Tryz.f17 0) 5 [0, 1, 4, 7, 8, 10, 12, 13] [] [] (ra_st k svc p n g x y now (i : Nat))).ok fun r => r.1 = .normal ∧ ∃ j, j ≤ findE n g 36 ∧ findE n g 36 - j < findE n g 36 - i ∧ r.2 = ra_st k svc p n g x y now (j : Nat) := by
  intro i hi hne
  obtain ⟨he, h1, -⟩ := firstOf_le (isK g 36) n
  have hE : firstOf (isK g 36) n 0 = findE n g 36 := rfl
  rw [hE] at he h1
  unfold maxLen at hn
  have hk : ¬ (g i).kind = 36 := of_decide_eq_false (h1 i (by omega))
  have hw : IntKind.i64.wrap ((i : Int) + 1) = ((i + 1 : Nat) : Int) := by rw [w64 _ (by omega) (by omega)]; rfl
  have fin : ∃ j, j ≤ findE n g 36 ∧ findE n g 36 - j < findE n g 36 - i ∧ ra_st k svc p n g x y now ((i + 1 : Nat) : Int) = ra_st k svc p n g x y now (j : Nat) := ⟨i + 1, by omega, by omega, rfl⟩
  rw [ra_round, hw]
  simp only [Int.toNat_natCast]
  refine t_ite (fun h => t_need ⟨by omega, by omega⟩ (t_need (by omega) (t_ite (fun h2 => t_leaf ⟨rfl, fin⟩) fun h2 => ?_))) fun h => ?_
  · exact absurd (by simpa using h2) hk
  · have := of_decide_eq_false h; omega
def raG (Z : LsZ) (k : ByteArray) (svc : Int) (p : Pk) (n : Nat) (g : Nat → Op) (x y now : Int) (e : Nat) : Int := accG (Z.ck p n g) p.kind p.long (Nat.blt e n) (Z.oe k x y (g e).val) (Z.on k x y (g e).val) svc now p.seq p.ack
set_option maxRecDepth 100000 in
set_option maxHeartbeats 1000000 in
theorem ra_tree (Z : LsZ) (k : ByteArray) (svc : Int) (p : Pk) (n : Nat) (g : Nat → Op) (x y now : Int) (e : Nat) (hc : ChkPL p n fun i j => (g i).c j) (hk : k.size ≤ 1000000000000) (he : e ≤ n) (hs : e < n → (g e).val.size ≤ 1000000) (h36 : e < n → (g e).kind = 36) {Q : Value → Prop} (kb : ∀ z, raG Z k svc p n g x y now e = z → z ≠ 0 → Q (Value.tuple (Array.mk [Value.agg (Array.mk [Value.int IntKind.i64 (0 : Int), Value.int IntKind.i64 (0 : Int), Value.int IntKind.i64 (0 : Int), Value.int IntKind.i64 (0 : Int), Value.string (ByteArray.mk (Array.mk []))]), Value.int IntKind.i64 z]))) (kg : raG Z k svc p n g x y now e = 0 → Q (Value.tuple (Array.mk [Value.agg (Array.mk [Value.int IntKind.i64 (Z.on k x y (g (Int.toNat (e : Int))).val).a, Value.int IntKind.i64 (Z.on k x y (g (Int.toNat (e : Int))).val).b, Value.int IntKind.i64 (Z.on k x y (g (Int.toNat (e : Int))).val).c, Value.int IntKind.i64 (Z.on k x y (g (Int.toNat (e : Int))).val).d, Value.string (Z.on k x y (g (Int.toNat (e : Int))).val).x]), Value.int IntKind.i64 (0 : Int)]))) {t : T Value} (ht : runO Tryz.prog (CLs0 Tryz.prog Z) (LrA Tryz.prog (CLs0 Tryz.prog Z) Tryz.f17 k svc p n g x y now e) Tryz.f17 [.v (.string k), .v (.int .i64 svc), p.s (.ref 0), .v (.agg #[.int .i64 x, .int .i64 y]), .v (.int .i64 now)] [.row n 2 fun i j => (g i).c j] = t) :
    t.ok Q := by
  subst ht
  rw [ra_run]
  have hg : (opF fun i j => (g i).c j) = g := rfl
  have hT : Int.toNat (e : Int) = e := rfl
  unfold raG at kb kg
  repeat' (first | (with_reducible refine t_need ?_ ?_) | (with_reducible refine t_ite ?_ ?_; all_goals intro h) | (with_reducible refine t_leaf ?_))
  all_goals first
    | (with_reducible exact hc) | (with_reducible rfl) | (unfold ra_st; rfl) | omega
    | (clear kb kg; simp only [Bool.not_eq_true', Bool.not_eq_false', decide_eq_true_eq, decide_eq_false_iff_not, hT] at *; omega)
    | (clear kb kg
       simp only [Bool.not_eq_true', Bool.not_eq_false', decide_eq_true_eq, decide_eq_false_iff_not, hT] at *
       have hlt : e < n := by omega
       exact ⟨hk, hs hlt⟩)
    | (clear kb kg
       exfalso
       simp only [Bool.not_eq_true', Bool.not_eq_false', decide_eq_true_eq, decide_eq_false_iff_not, hT] at *
       have hlt : e < n := by omega
       exact absurd (h36 hlt) (by assumption))
    | (with_reducible refine kb _ ?_ ?_
       all_goals clear kb kg
       all_goals rw [hg] at *
       all_goals simp only [Bool.not_eq_true', Bool.not_eq_false', decide_eq_true_eq, decide_eq_false_iff_not, hT, of_wrap] at *
       all_goals rcases Nat.lt_or_ge e n with hlt | hlt
       all_goals first | (exfalso; omega) | (have hb : Nat.blt e n = true := by (rw [Nat.blt_eq]; exact hlt)) | (have hb : Nat.blt e n = false := by (rw [← Bool.not_eq_true, Nat.blt_eq]; omega))
       all_goals (first
         | (simp [accG, freshB, *]; done)
         | (have e1 : ¬ ((Z.on k x y (g e).val).d ≤ now) := by omega
            simp [accG, freshB, *]; done)
         | (have e1 : ((Z.on k x y (g e).val).d ≤ now) := by omega
            have e2 : ¬ IntKind.i64.wrap (now - (Z.on k x y (g e).val).d) ≤ 256 := by omega
            simp [accG, freshB, *]; done)
         | (have e1 : ((Z.on k x y (g e).val).d ≤ now) := by omega
            have e2 : IntKind.i64.wrap (now - (Z.on k x y (g e).val).d) ≤ 256 := by omega
            simp [accG, freshB, *]; done)))
    | (with_reducible refine kg ?_
       clear kb kg
       rw [hg] at *
       simp only [Bool.not_eq_true', Bool.not_eq_false', decide_eq_true_eq, decide_eq_false_iff_not, hT, of_wrap] at *
       have hlt : e < n := by omega
       have hb : Nat.blt e n = true := by (rw [Nat.blt_eq]; exact hlt)
       (first
         | (simp [accG, freshB, *]; done)
         | (have e1 : ¬ ((Z.on k x y (g e).val).d ≤ now) := by omega
            simp [accG, freshB, *]; done)
         | (have e1 : ((Z.on k x y (g e).val).d ≤ now) := by omega
            have e2 : ¬ IntKind.i64.wrap (now - (Z.on k x y (g e).val).d) ≤ 256 := by omega
            simp [accG, freshB, *]; done)
         | (have e1 : ((Z.on k x y (g e).val).d ≤ now) := by omega
            have e2 : IntKind.i64.wrap (now - (Z.on k x y (g e).val).d) ≤ 256 := by omega
            simp [accG, freshB, *]; done)))
    | trace_state
end Go.Proofs.YtjjnolpkifhbnaaGreat
namespace Go.Proofs.YtjjnolpkifhbnaaGreat
set_option linter.unusedVariables false
set_option linter.unusedSimpArgs false
open Go.RowKit Sym Sha Go.ChangeShapes Go.WideShapes Go.ChangeMaps Inet

theorem accG_no (c kind : Int) (long : Bool) (E E' : Int) (o o' : Nt) (svc now seq ack : Int) : accG c kind long false E o svc now seq ack = accG c kind long false E' o' svc now seq ack := by
  unfold accG; simp
theorem accG_no0 (c kind : Int) (long : Bool) (E : Int) (o : Nt) (svc now seq ack : Int) : ¬ accG c kind long false E o svc now seq ack = 0 := by
  unfold accG
  split
  · decide
  · split
    · decide
    · split
      · decide
      · simp
theorem raG_eq (k : ByteArray) (svc : Int) (p : Pk) (n : Nat) (g : Nat → Op) (x y now : Int) : raG lsZ k svc p n g x y now (findE n g 36) = accE k svc p n g x y now := by
  unfold raG accE
  show accG (chkP p n g) p.kind p.long (findB n g 36) (openE k x y (g (findE n g 36)).val) (openN k x y (g (findE n g 36)).val) svc now p.seq p.ack = _
  by_cases h : findE n g 36 < n
  · have e : findV n g 36 = (g (findE n g 36)).val := by unfold findV; rw [if_pos h]
    rw [e]
  · have e : findB n g 36 = false := by unfold findB; rw [← Bool.not_eq_true, Nat.blt_eq]; exact h
    rw [e]; exact accG_no ..
theorem accE_find {k : ByteArray} {svc : Int} {p : Pk} {n : Nat} {g : Nat → Op} {x y now : Int} (h : accE k svc p n g x y now = 0) : findV n g 36 = (g (findE n g 36)).val := by
  by_cases hl : findE n g 36 < n
  · unfold findV; rw [if_pos hl]
  · have e : findB n g 36 = false := by unfold findB; rw [← Bool.not_eq_true, Nat.blt_eq]; exact hl
    unfold accE at h
    rw [e] at h
    exact absurd h (accG_no0 _ _ _ _ _ _ _ _ _)
set_option maxRecDepth 100000 in
theorem ref25_Accept (k : ByteArray) (svc : Int) (p : Pk) (n : Nat) (g : Nat → Op) (x y now : Int) (hc : ChkPL p n fun i j => (g i).c j) (hk : k.size ≤ 1000000000000) (o : Value) (w : World) (hv : ∀ B, BlkSat B w o (.row n 2 fun i j => (g i).c j)) :
    Calls Tryz.prog 17 #[.string k, .int .i64 svc, p.v o, .agg #[.int .i64 x, .int .i64 y], .int .i64 now] w fun e w' => e = .returned (accV (accN k svc p n g x y now) (accE k svc p n g x y now)) ∧ Below w.heap.size w w' := by
  have hn : n ≤ maxLen := by have := hc.1.2.1; unfold maxLen; omega
  obtain ⟨he, h1, h2⟩ := firstOf_le (isK g 36) n
  have hE : firstOf (isK g 36) n 0 = findE n g 36 := rfl
  rw [hE] at he h1 h2
  have hV : accE k svc p n g x y now = 0 → openN k x y (findV n g 36) = openN k x y (g (findE n g 36)).val := fun h => by rw [accE_find h]
  have ht := ra_tree lsZ k svc p n g x y now (findE n g 36) hc hk he (fun h => hc.1.2.2 _ h) (fun h => of_decide_eq_true (h2 h)) (Q := fun v => v = accV (accN k svc p n g x y now) (accE k svc p n g x y now))
    (fun z h hz => by rw [raG_eq] at h; rw [acc_leaf h hz]; rfl) (fun h => by rw [raG_eq] at h; rw [acc_good h, hV h]; rfl) (ra_run lsZ k svc p n g x y now (findE n g 36))
  refine calls_runO CLs0_ok follows Tryz.func17 (by kernel_rfl) (lexAllF_ok (by kernel_rfl)) (one_loop (b := loopAt Tryz.f17 0) (id := 0) (by kernel_rfl) fun st t hh => ?_) (ra_run lsZ k svc p n g x y now (findE n g 36)) ht (mem_row (hv [o])) rfl
  rw [addL_same hh]
  exact loop_cnt CLs0_ok follows (lexAllF_ok (by kernel_rfl)) (noloops (by kernel_rfl)) (fun i => i ≤ findE n g 36) (fun i => ra_st k svc p n g x y now (i : Nat)) (fun i => findE n g 36 - i) 5 [0, 1, 4, 7, 8, 10, 12, 13] [] [] (findE n g 36) [] (ra_step k svc p n g x y now hn) (Nat.zero_le _)
def fRAcc (ae : ByteArray → Int → Pk → Nat → (Nat → Op) → Int → Int → Int → Int) (an : ByteArray → Int → Pk → Nat → (Nat → Op) → Int → Int → Int → Nt) : List SV → List Blk → Option (List Prop × Value)
  | [.v (.string k), .v (.int .i64 svc), s, .v (.agg ⟨[.int .i64 x, .int .i64 y]⟩), .v (.int .i64 now)], H => (pkIn H s).bind fun q => some ([AccP k q.1 q.2.1 q.2.2], accV (an k svc q.1 q.2.1 (opF q.2.2) x y now) (ae k svc q.1 q.2.1 (opF q.2.2) x y now))
  | _, _ => none
theorem fRAcc_ok : ReadOk Tryz.prog 17 (fRAcc accE accN) := by
  intro ss H q v h bs B w vs hm hv hp
  unfold fRAcc at h
  split at h
  · simp only [Option.bind_eq_some_iff, Option.some.injEq, Prod.mk.injEq] at h
    obtain ⟨⟨p, n, f⟩, hr, rfl, rfl⟩ := h
    obtain ⟨x0, r0, e0, v0, rfl⟩ := tos_cons hv
    obtain ⟨x1, r1, e1, v1, rfl⟩ := tos_cons v0
    obtain ⟨x2, r2, e2, v2, rfl⟩ := tos_cons v1
    obtain ⟨x3, r3, e3, v3, rfl⟩ := tos_cons v2
    obtain ⟨x4, r4, e4, v4, rfl⟩ := tos_cons v3
    obtain rfl := tos_nil v4
    simp only [SV.to, Option.some.injEq] at e0 e1 e3 e4
    subst e0 e1 e3 e4
    obtain ⟨o, rfl, hb⟩ := pkIn_ok hm e2 hr
    obtain ⟨hc, hk⟩ := hp _ (List.mem_cons_self ..)
    exact ref25_Accept _ _ p n (opF f) _ _ _ ⟨⟨allOp_c n _, hc.1.2⟩, hc.2⟩ hk o w (op_row hb hc.1.1)
  · cases h
/-- refusals -/
def refP (p : Pk) (n : Nat) (g : Nat → Op) (c : Int) : Pk := if p.long = true ∧ ¬ p.kind = 7 ∧ chkP p n g = 0 then refPk p c else lsNone
def refB (p : Pk) (n : Nat) (g : Nat → Op) : Bool := decide (p.long = true ∧ ¬ p.kind = 7 ∧ chkP p n g = 0)
theorem refV_eq (p : Pk) (n : Nat) (g : Nat → Op) (c : Int) : refV p n g c = .tuple #[(refP p n g c).v (.slice none 0 0), .bool (refB p n g)] := by
  unfold refV refG refP refB
  by_cases h : p.long = true ∧ ¬ p.kind = 7 ∧ chkP p n g = 0
  · rw [if_pos h, if_pos h, decide_eq_true h]
  · rw [if_neg h, if_neg h, decide_eq_false h]
def fRef (rp : Pk → Nat → (Nat → Op) → Int → Pk) (rb : Pk → Nat → (Nat → Op) → Bool) : List SV → List Blk → Option (List Prop × Value)
  | [s, .v (.int .i64 c)], H => (pkIn H s).bind fun q => some ([ChkPL q.1 q.2.1 q.2.2], .tuple #[(rp q.1 q.2.1 (opF q.2.2) c).v (.slice none 0 0), .bool (rb q.1 q.2.1 (opF q.2.2))])
  | _, _ => none
theorem fRef_of {k : FuncId} (hc : ∀ (p : Pk) (n : Nat) (f : Nat → Nat → Value) (c : Int), ChkPL p n f → ∀ (o : Value) (w : World), (∀ B, BlkSat B w o (.row n 2 f)) → Calls Tryz.prog k #[p.v o, .int .i64 c] w fun e w' => e = .returned (refV p n (opF f) c) ∧ Below w.heap.size w w') : ReadOk Tryz.prog k (fRef refP refB) := by
  intro ss H q v h bs B w vs hm hv hp
  unfold fRef at h
  split at h
  · simp only [Option.bind_eq_some_iff, Option.some.injEq, Prod.mk.injEq] at h
    obtain ⟨⟨p, n, f⟩, hr, rfl, rfl⟩ := h
    obtain ⟨x0, r0, e0, v0, rfl⟩ := tos_cons hv
    obtain ⟨x1, r1, e1, v1, rfl⟩ := tos_cons v0
    obtain rfl := tos_nil v1
    simp only [SV.to, Option.some.injEq] at e1
    subst e1
    obtain ⟨o, rfl, hb⟩ := pkIn_ok hm e0 hr
    rw [← refV_eq]
    exact hc p n f _ (hp _ (List.mem_cons_self ..)) o w hb
  · cases h
end Go.Proofs.YtjjnolpkifhbnaaGreat
