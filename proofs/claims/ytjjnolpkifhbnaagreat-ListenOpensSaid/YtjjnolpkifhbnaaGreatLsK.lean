/- Listening: the laws, walked. No conditions. -/
import Derived.Test.YtjjnolpkifhbnaaGreatLsG
import Derived.Test.YtjjnolpkifhbnaaGreatPkArg
namespace Go.Proofs.YtjjnolpkifhbnaaGreat
set_option linter.unusedVariables false
set_option linter.unusedSimpArgs false
open Go.RowKit Sym Sha Go.ChangeShapes Go.WideShapes Go.ChangeMaps Inet Go.Deep

/-! plain facts -/
theorem sameP_self (p : Pk) (n : Nat) (g : Nat → Op) : sameP p n g p n g = true := by
  obtain ⟨h1, h2, h3⟩ := firstOf_le (difO g g) n
  have hb : Nat.blt (firstOf (difO g g) n 0) n = false := by
    rw [← Bool.not_eq_true, Nat.blt_eq]
    intro hlt
    exact difO_yes (h3 hlt) ⟨rfl, rfl⟩
  unfold sameP sameO samePk
  rw [hb]
  simp
theorem find_first {n : Nat} {g : Nat → Op} {z : Int} (hn : 0 < n) (h : (g 0).kind = z) : findV n g z = (g 0).val := by
  obtain ⟨h1, h2, h3⟩ := firstOf_le (isK g z) n
  have e : findE n g z = 0 := by
    show firstOf (isK g z) n 0 = 0
    rcases Nat.eq_zero_or_pos (firstOf (isK g z) n 0) with h4 | h4
    · exact h4
    · exact absurd h (of_decide_eq_false (h2 0 h4))
  unfold findV
  rw [e, if_pos hn]
def ackP (seq ack : Int) : Pk := ⟨3, true, 0, 0, 0, 0, seq, ack, 0, 0, 0, ⟨⟨[]⟩⟩⟩
theorem ack_chk (seq ack : Int) (h0 : 0 ≤ seq) (h1 : seq < 281474976710656) (h2 : 0 ≤ ack) (h3 : ack < 281474976710656) (s : ByteArray) (hs : s.size ≤ 253) : chkP (ackP seq ack) 1 (opF (one36 s)) = 0 := by
  have c := one36_chk s hs
  have hz : sizeL (opF (one36 s)) 1 = 2 + (s.size : Int) := by
    show 0 + sizeO (opF (one36 s) 0) = _
    rw [one36_at]
    unfold sizeO
    simp
  have hb : Head.check (begH (ackP seq ack) 1 (opF (one36 s)) 0) = 0 := by
    unfold begH wordsP
    rw [hz]
    show Head.check ⟨0, 0, min ((24 + (2 + (s.size : Int)) + 3) / 4) 255, 0, 0, 0, 3, true, seq⟩ = 0
    have hw : 0 ≤ min ((24 + (2 + (s.size : Int)) + 3) / 4) 255 ∧ min ((24 + (2 + (s.size : Int)) + 3) / 4) 255 ≤ 255 ∧ 24 ≤ 4 * min ((24 + (2 + (s.size : Int)) + 3) / 4) 255 := by omega
    generalize min ((24 + (2 + (s.size : Int)) + 3) / 4) 255 = W at hw
    have e1 : Head.wi seq (Head.most true - 1) = true := decide_eq_true (show 0 ≤ seq ∧ seq ≤ 281474976710656 - 1 from ⟨h0, by omega⟩)
    have e2 : Head.wi W 255 = true := decide_eq_true (show 0 ≤ W ∧ W ≤ 255 from ⟨hw.1, hw.2.1⟩)
    have e3 : ¬ 4 * W < Head.size 3 true := by show ¬ 4 * W < 24; omega
    unfold Head.check
    rw [if_neg (show ¬ Head.known 3 = false by decide), if_neg (show ¬ (true = false ∧ Head.brief 3 = false) by decide), if_neg (show ¬ (Head.wi 0 65535 = false ∨ Head.wi 0 65535 = false ∨ Head.wi 0 65535 = false ∨ Head.wi 0 15 = false ∨ Head.wi 0 15 = false) by decide), if_neg (by rw [e1, e2]; decide), if_neg e3]
  unfold chkP
  rw [hb, c]
  have hn : numP (ackP seq ack) = true := by
    have e1 : wn ack (Head.most true) = true := decide_eq_true (show 0 ≤ ack ∧ ack < 281474976710656 from ⟨h2, h3⟩)
    show (!(Head.acks 3 && !wn ack (Head.most true) || served 3 && !wn 0 4294967296) && (!decide ((3 : Int) = 7) || wn 0 256 && wn 0 16777216)) = true
    rw [e1]
    decide
  have hp : spareP (ackP seq ack) = false := by
    show ((!Head.acks 3 && !decide (ack = 0)) || (!served 3 && !decide ((0 : Int) = 0)) || (!decide ((3 : Int) = 7) && (!decide ((0 : Int) = 0) || !decide ((0 : Int) = 0))) || (!Head.bears 3 && !decide ((0 : Nat) = 0))) = false
    have e1 : Head.acks 3 = true := by decide
    rw [e1, Bool.not_true, Bool.false_and]
    decide
  rw [if_pos rfl, if_pos hn, if_pos rfl, hp]
  show (if (0 : Nat) > 200 then (11 : Int) else if false = true then 4 else if covOk ⟨⟨[]⟩⟩ 0 = true then 0 else 3) = 0
  decide
theorem seal_few (k : ByteArray) (f t : Int) (n : Nt) : (sealS k f t n).size ≤ 78 := by
  unfold sealS
  split
  · rename_i h
    rw [ByteArray.size_append, noteB_size, markB_size]
    omega
  · exact Nat.zero_le _
theorem within_next (a b : Int) (h0 : 0 ≤ a) (h1 : a < 281474976710656) (b0 : 0 ≤ b) (b1 : b < 256) : Circ.within (Circ.add a b) (Circ.add a 1) (Circ.add a 64) = (decide (b ≥ 1) && decide (b ≤ 64)) := by
  unfold Circ.within
  rw [← Bool.decide_and, decide_eq_decide]
  unfold Circ.up Circ.add Circ.of
  omega
theorem ansG_zero {c kind service svc E O : Int} (h : ansG c kind service svc E O = 0) : E = 0 := by
  unfold ansG at h
  split at h
  · cases h
  · split at h
    · cases h
    · split at h
      · cases h
      · split at h
        · exact absurd h (by assumption)
        · rename_i hE; exact Classical.not_not.1 hE
theorem acc_who (k : ByteArray) (p : Pk) (x y iss : Int) (ex : ByteArray) (now behind later : Int) (b0 : 0 ≤ behind) (b1 : behind < 256) (l0 : 0 ≤ later) (l1 : later < 65536) (he : sealE (ansNt p iss ex now) = 0) :
    decide (accE k p.service (ackP (Circ.add p.seq behind) (Circ.of iss)) 1 (opF (one36 (sealS k x y (ansNt p iss ex now)))) x y (IntKind.i64.wrap (now + later)) = 0) = (decide (behind ≥ 1) && decide (behind ≤ 64) && decide (later ≤ 256)) ∧
    (accE k p.service (ackP (Circ.add p.seq behind) (Circ.of iss)) 1 (opF (one36 (sealS k x y (ansNt p iss ex now)))) x y (IntKind.i64.wrap (now + later)) = 0 → accN k p.service (ackP (Circ.add p.seq behind) (Circ.of iss)) 1 (opF (one36 (sealS k x y (ansNt p iss ex now)))) x y (IntKind.i64.wrap (now + later)) = ansNt p iss ex now) := by
  obtain ⟨o1, o2⟩ := opens k x y (ansNt p iss ex now) he
  obtain ⟨⟨⟨a0, a1⟩, ⟨c0, c1⟩, ⟨d0, d1⟩, ⟨n0, n1⟩⟩, hx⟩ := sealE_zero he
  have q0 : 0 ≤ p.seq := a0
  have q1 : p.seq < 281474976710656 := a1
  have q2 : 0 ≤ now := n0
  have q3 : now < 1099511627777 := n1
  have hc := ack_chk (Circ.add p.seq behind) (Circ.of iss) (Circ.add_lo _ _) (Circ.add_hi _ _) (Circ.of_lo _) (Circ.of_hi _) (sealS k x y (ansNt p iss ex now)) (by have := seal_few k x y (ansNt p iss ex now); omega)
  have hw := within_next p.seq behind q0 q1 b0 b1
  have hn : IntKind.i64.wrap (now + later) = now + later := w64 _ (by omega) (by omega)
  have hl : IntKind.i64.wrap (now + later - now) = later := by rw [w64 _ (by omega) (by omega)]; omega
  refine ⟨?_, fun h => ?_⟩
  · unfold accE
    rw [hc, one36_val, one36_is, o1, o2, hn]
    have hf : freshB now (now + later) = decide (later ≤ 256) := by
      unfold freshB
      rw [hl, decide_eq_true (show now ≤ now + later by omega), Bool.true_and]
    show decide (accG 0 3 true true 0 (ansNt p iss ex now) p.service (now + later) (Circ.add p.seq behind) (Circ.of iss) = 0) = _
    unfold accG
    show decide ((if ¬ (0 : Int) = 0 then (4 : Int) else if ¬ ((3 : Int) = 3 ∨ (3 : Int) = 4) then 7 else if ¬ true = true then 7 else if ¬ true = true then 8 else if ¬ (0 : Int) = 0 then 0 else if ¬ p.service = p.service then 15 else
      if ¬ freshB now (now + later) = true then 16 else if ¬ Circ.within (Circ.add p.seq behind) (Circ.add p.seq 1) (Circ.add p.seq 64) = true then 12 else if ¬ Circ.of iss = Circ.of iss then 13 else 0) = 0) = _
    rw [hf, hw]
    by_cases g1 : behind ≥ 1 <;> by_cases g2 : behind ≤ 64 <;> by_cases g3 : later ≤ 256 <;> simp [g1, g2, g3]
  · unfold accN
    rw [if_pos h, one36_val, o2]
/-! the laws -/
theorem ansP_of {k : ByteArray} {p : Pk} {n m : Nat} {f h : Nat → Nat → Value} (ag : AllOp n f) (ah : AllOp m h) (h1 : greatL n (opF f) = false) (h2 : ¬ (p.data.size : Int) > 1000) (h3 : greatL m (opF h) = false) (h5 : ¬ (k.size : Int) > 200) : AnsP k p n f m h :=
  ⟨⟨⟨⟨ag, Few.of h1⟩, by omega⟩, by omega⟩, ⟨ah, Few.of h3⟩, by have := (greatL_few h3).1; omega⟩
theorem sameL_of {p q : Pk} {n m : Nat} {f h : Nat → Nat → Value} (hn : n ≤ maxLen) (a : AllOp n f) (b : AllOp m h) : SameL p n f q m h := ⟨hn, a, b⟩
set_option maxRecDepth 100000 in
theorem answers_any (k : ByteArray) (svc : Int) (p : Pk) (x y iss : Int) (ex : ByteArray) (now : Int) (n m : Nat) (g g' : Nat → Op) (hn : n ≤ maxLen) (hm : m ≤ maxLen) (o u : Value) (w : World) (hv : ∀ B, BlkSat B w o (.row n 2 fun i j => (g i).c j)) (hu : ∀ B, BlkSat B w u (.row m 2 fun i j => (g' i).c j)) :
    Calls Tryz.prog 3 #[.string k, .int .i64 svc, .agg #[.int .i64 p.kind, .bool p.long, .int .i64 p.src, .int .i64 p.dst, .int .i64 p.ccval, .int .i64 p.cover, .int .i64 p.seq, .int .i64 p.ack, .int .i64 p.service, .int .i64 p.code, .int .i64 p.detail, o, .string p.data, .int .i64 x, .int .i64 y, .int .i64 iss, .string ex, u, .int .i64 now]] w fun e w' => e = .returned (.bool true) ∧ Below w.heap.size w w' := by
  refine calls_runO (CLx25_ok _) follows Tryz.func3 (by kernel_rfl) (lexAllF_ok (by kernel_rfl)) (noloops (by kernel_rfl)) (answers_run lsX k svc p x y iss ex now n m _ _) ?_ (mem_rows hv hu) rfl
  have ag := allOp_c n g
  have ah := allOp_c m g'
  generalize (fun i j => (g i).c j) = f at *
  generalize (fun i j => (g' i).c j) = h at *
  refine t_ite (fun h => by cases h) fun _ => t_need ⟨hn, ag⟩ (t_ite (fun _ => t_leaf rfl) fun h1 => t_ite (fun _ => t_leaf rfl) fun h2 => t_need ⟨hm, ah⟩ (t_ite (fun _ => t_leaf rfl) fun h3 => t_ite (fun _ => t_leaf rfl) fun h4 => t_ite (fun _ => t_leaf rfl) fun h5 => ?_))
  have hP := ansP_of (k := k) (p := p) ag ah h1 (of_decide_eq_false h2) h3 (of_decide_eq_false h5)
  have hm1 : 1 + m ≤ maxLen := by have := hP.2.2; unfold maxLen; omega
  have hF := ansF_all (lsX.a.s k x y p iss ex now) m h ah
  have hS : ∀ q, SameL q (1 + m) (ansF (lsX.a.s k x y p iss ex now) m h) q (1 + m) (ansF (lsX.a.s k x y p iss ex now) m h) := fun q => sameL_of hm1 hF hF
  have hs0 : ∀ q n g, lsX.y.z.sm q n g q n g = true := sameP_self
  have h0 : ∀ q, SameL q 0 (fun _ _ => undef) q 0 (fun _ _ => undef) := fun q => sameL_of (Nat.zero_le _) undef_op.1 undef_op.1
  by_cases hA : lsX.a.e k svc p n f x y iss ex now m h = 0
  · refine t_need hP (t_ite (fun _ => ?_) fun h => absurd hA (of_decide_eq_false h))
    refine t_need (t_need hP (t_ite (fun _ => t_leaf rfl) fun h => absurd hA (of_decide_eq_false h))) (t_need (t_need hP (t_ite (fun _ => t_leaf rfl) fun h => absurd hA (of_decide_eq_false h))) (t_need (t_need hP (t_ite (fun _ => t_leaf rfl) fun h => absurd hA (of_decide_eq_false h))) ?_))
    refine t_need hP (t_ite (fun _ => t_need (hS _) (t_ite (fun _ => t_leaf rfl) fun h => ?_)) fun h => absurd hA (of_decide_eq_false h))
    exact absurd ((hs0 _ _ _).symm.trans h) (by decide)
  · refine t_need hP (t_ite (fun h => absurd (of_decide_eq_true h) hA) fun _ => ?_)
    refine t_need (t_need hP (t_ite (fun h => absurd (of_decide_eq_true h) hA) fun _ => t_leaf rfl)) (t_need (t_need hP (t_ite (fun h => absurd (of_decide_eq_true h) hA) fun _ => t_leaf rfl)) (t_need (t_need hP (t_ite (fun h => absurd (of_decide_eq_true h) hA) fun _ => t_leaf rfl)) ?_))
    refine t_need hP (t_ite (fun h => absurd (of_decide_eq_true h) hA) fun _ => t_need (h0 _) (t_ite (fun _ => t_ite (fun _ => t_leaf rfl) fun h => absurd rfl (of_decide_eq_false h)) fun h => ?_))
    exact absurd ((hs0 _ _ _).symm.trans h) (by decide)
set_option maxRecDepth 100000 in
theorem accepts_any (k : ByteArray) (svc : Int) (p : Pk) (x y now : Int) (n : Nat) (g : Nat → Op) (hn : n ≤ maxLen) (o : Value) (w : World) (hv : ∀ B, BlkSat B w o (.row n 2 fun i j => (g i).c j)) :
    Calls Tryz.prog 5 #[.string k, .int .i64 svc, p.v o, .agg #[.int .i64 x, .int .i64 y], .int .i64 now] w fun e w' => e = .returned (.bool true) ∧ Below w.heap.size w w' := by
  refine calls_runO (CLx25_ok _) follows Tryz.func5 (by kernel_rfl) (lexAllF_ok (by kernel_rfl)) (noloops (by kernel_rfl)) (accepts_run lsX k svc p x y now n _) ?_ (mem_row (hv [o])) rfl
  have ag := allOp_c n g
  generalize (fun i j => (g i).c j) = f at *
  refine t_ite (fun h => by cases h) fun _ => t_need ⟨hn, ag⟩ (t_ite (fun _ => t_leaf rfl) fun h1 => t_ite (fun _ => t_leaf rfl) fun h2 => t_ite (fun _ => t_leaf rfl) fun h5 => ?_)
  have h2 := of_decide_eq_false h2
  have h5 := of_decide_eq_false h5
  have hc : ChkPL p n f := ⟨⟨ag, Few.of h1⟩, by omega⟩
  have hP : AccP k p n f := ⟨hc, by omega⟩
  have hs0 : ∀ q n g, lsX.y.z.sm q n g q n g = true := sameP_self
  have h0 : ∀ q, SameL q 0 (fun _ _ => undef) q 0 (fun _ _ => undef) := fun q => sameL_of (Nat.zero_le _) undef_op.1 undef_op.1
  dsimp only
  refine t_need hP (t_need (t_need hP (t_leaf rfl)) (t_need (t_need hP (t_leaf rfl)) ?_))
  refine t_need hP (t_need hc (t_need hc (t_ite (fun _ => t_ite (fun _ => t_need (h0 _) (t_ite (fun _ => t_ite (fun _ => t_leaf rfl) fun h => absurd rfl (of_decide_eq_false h)) fun h => ?_)) fun h => absurd rfl (of_decide_eq_false h)) fun h => ?_)))
  · exact absurd ((hs0 _ _ _).symm.trans h) (by decide)
  · simp at h
set_option maxRecDepth 100000 in
theorem opens_tree (X : LsX) (k : ByteArray) (p : Pk) (x y iss : Int) (ex : ByteArray) (now : Int) (n m : Nat) (f h : Nat → Nat → Value) (behind later x2 y2 : Int) (S : ByteArray) (hz : S.size ≤ 1000000)
    (hn : n ≤ maxLen) (hm : m ≤ maxLen) (ag : AllOp n f) (ah : AllOp m h) (wb : IntKind.i64.wrap behind = behind) (wl : IntKind.i64.wrap later = later)
    (hs : X.y.z.fv (1 + m) (opF fun i j => cellAt (ansC (X.a.s k x y p iss ex now) m h) (i * 2 + j)) 36 = S)
    (hE : X.a.e k p.service p n f x y iss ex now m h = 0 → decide (X.y.ae k p.service (ackP (Circ.add p.seq behind) (Circ.of iss)) 1 (opF (one36 S)) x y (IntKind.i64.wrap (now + later)) = 0) = (decide (behind ≥ 1) && decide (behind ≤ 64) && decide (later ≤ 256)))
    (hN : X.a.e k p.service p n f x y iss ex now m h = 0 → X.y.ae k p.service (ackP (Circ.add p.seq behind) (Circ.of iss)) 1 (opF (one36 S)) x y (IntKind.i64.wrap (now + later)) = 0 → X.y.an k p.service (ackP (Circ.add p.seq behind) (Circ.of iss)) 1 (opF (one36 S)) x y (IntKind.i64.wrap (now + later)) = ⟨p.seq, Circ.of iss, p.service, now, ex⟩)
    {t : T Value} (ht : runO Tryz.prog (CLy25 Tryz.prog X (LsFn.mk Tryz.f23 Tryz.f26 Tryz.f18 Tryz.f7 Tryz.f8 Tryz.f10 Tryz.f21 Tryz.f9 Tryz.f11) [(10, [0, 2, 3, 6, 9, 11, 16])]) noL Tryz.f4 [.v (.string k), askS p (.ref 0) x y iss ex (.ref 1) now, .v (.int .u8 behind), .v (.int .u16 later), .v (.agg #[.int .i64 x2, .int .i64 y2])] [.row n 2 f, .row m 2 h] = t) : t.ok (· = .bool true) := by
  subst ht
  rw [opens_run]
  have e1 : ∀ s, (fun i j => cellAt [Value.int IntKind.i64 36, Value.string s] (i * 2 + j)) = one36 s := fun _ => rfl
  have eA : ∀ a b, Pk.mk 3 true 0 0 0 0 a b 0 0 0 (ByteArray.mk (Array.mk [])) = ackP a b := fun _ _ => rfl
  dsimp only
  rw [hs]
  simp only [e1, eA, wb, wl]
  refine t_ite (fun h => by cases h) fun _ => t_need ⟨hn, ag⟩ (t_ite (fun _ => t_leaf rfl) fun h1 => t_ite (fun _ => t_leaf rfl) fun h2 => t_need ⟨hm, ah⟩ (t_ite (fun _ => t_leaf rfl) fun h3 => t_ite (fun _ => t_leaf rfl) fun h4 => t_ite (fun _ => t_leaf rfl) fun h5 => ?_))
  have hP := ansP_of (k := k) (p := p) ag ah h1 (of_decide_eq_false h2) h3 (of_decide_eq_false h5)
  have hm1 : 1 + m ≤ maxLen := by have := hP.2.2; unfold maxLen; omega
  have hF := ansF_all (X.a.s k x y p iss ex now) m h ah
  have hk : k.size ≤ 1000000000000 := hP.1.2
  have hA : ∀ a b, AccP k (ackP a b) 1 (one36 S) := fun a b => ⟨⟨one36_op S hz, by show (0 : Nat) ≤ _; omega⟩, hk⟩
  refine t_need hP (t_ite (fun he => ?_) fun he => ?_)
  · have he := of_decide_eq_true he
    have hE := hE he
    have hN := hN he
    generalize X.y.ae k p.service (ackP (Circ.add p.seq behind) (Circ.of iss)) 1 (opF (one36 S)) x y (IntKind.i64.wrap (now + later)) = E at *
    generalize X.y.an k p.service (ackP (Circ.add p.seq behind) (Circ.of iss)) 1 (opF (one36 S)) x y (IntKind.i64.wrap (now + later)) = O at *
    refine t_need ⟨hm1, hF⟩ (t_need (t_leaf rfl) (t_need (t_leaf rfl) ?_))
    refine (t_need (hA _ _) (t_ite (fun b1 => t_ite (fun b2 => ?_) fun b2 => ?_) fun b1 => ?_))
    · rw [b1, b2, Bool.true_and, Bool.true_and] at hE
      rw [hE]
      refine t_ite (fun h => ?_) fun _ => t_ite (fun b3 => ?_) fun b3 => t_need (hA _ _) (t_need (hA _ _) (t_leaf rfl))
      · simp at h
      · have h0 : E = 0 := by rw [b3] at hE; exact of_decide_eq_true hE
        rw [hN h0]
        refine t_ite (fun h => ?_) fun _ => t_need (hA _ _) (t_need (hA _ _) (t_leaf rfl))
        simp at h
    · rw [b1, b2, Bool.and_false, Bool.false_and] at hE
      rw [hE]
      refine t_ite (fun h => by simp at h) fun _ => t_need (hA _ _) (t_need (hA _ _) (t_leaf rfl))
    · rw [b1, Bool.false_and, Bool.false_and] at hE
      rw [hE]
      refine t_ite (fun h => by simp at h) fun _ => t_need (hA _ _) (t_need (hA _ _) (t_leaf rfl))
  · rw [he]
    exact t_ite (fun _ => t_leaf rfl) fun h => by cases h
end Go.Proofs.YtjjnolpkifhbnaaGreat
namespace Go.Proofs.YtjjnolpkifhbnaaGreat
set_option linter.unusedVariables false
set_option linter.unusedSimpArgs false
open Go.RowKit Sym Sha Go.ChangeShapes Go.WideShapes Go.ChangeMaps Inet Go.Deep

set_option maxRecDepth 100000 in
theorem opens_any (k : ByteArray) (p : Pk) (x y iss : Int) (ex : ByteArray) (now : Int) (n m : Nat) (g g' : Nat → Op) (behind later x2 y2 : Int) (b0 : 0 ≤ behind) (b1 : behind < 256) (l0 : 0 ≤ later) (l1 : later < 65536) (hn : n ≤ maxLen) (hm : m ≤ maxLen) (o u : Value) (w : World) (hv : ∀ B, BlkSat B w o (.row n 2 fun i j => (g i).c j)) (hu : ∀ B, BlkSat B w u (.row m 2 fun i j => (g' i).c j)) :
    Calls Tryz.prog 4 #[.string k, .agg #[.int .i64 p.kind, .bool p.long, .int .i64 p.src, .int .i64 p.dst, .int .i64 p.ccval, .int .i64 p.cover, .int .i64 p.seq, .int .i64 p.ack, .int .i64 p.service, .int .i64 p.code, .int .i64 p.detail, o, .string p.data, .int .i64 x, .int .i64 y, .int .i64 iss, .string ex, u, .int .i64 now], .int .u8 behind, .int .u16 later, .agg #[.int .i64 x2, .int .i64 y2]] w fun e w' => e = .returned (.bool true) ∧ Below w.heap.size w w' := by
  have ag := allOp_c n g
  have ah := allOp_c m g'
  have wb : IntKind.i64.wrap behind = behind := w64 _ (by omega) (by omega)
  have wl : IntKind.i64.wrap later = later := w64 _ (by omega) (by omega)
  have he : ansE lsZ k p.service p n (fun i j => (g i).c j) x y iss ex now m (fun i j => (g' i).c j) = 0 → sealE (ansNt p iss ex now) = 0 := fun h => ansG_zero h
  have h1 := opens_tree lsX k p x y iss ex now n m _ _ behind later x2 y2 (sealS k x y (ansNt p iss ex now)) (seal_size _ _ _ _) hn hm ag ah wb wl
    (find_first (by omega) rfl) (fun h => (acc_who k p x y iss ex now behind later b0 b1 l0 l1 (he h)).1) (fun h h2 => (acc_who k p x y iss ex now behind later b0 b1 l0 l1 (he h)).2 h2)
    (opens_run lsX k p x y iss ex now n m _ _ behind later x2 y2)
  exact calls_runO (CLy25_ok _) follows Tryz.func4 (by kernel_rfl) (lexAllF_ok (by kernel_rfl)) (noloops (by kernel_rfl)) (opens_run lsX k p x y iss ex now n m _ _ behind later x2 y2) h1 (mem_rows hv hu) rfl
/-! arguments -/
set_option maxRecDepth 100000 in
theorem trod_place {H : Type} {enc : TypeId × Value → H} {W : World} {base fuel : Nat} {sp : Nat → Bool} {cs : List Value} {y0 : DataW H × List MemPlace} (hl : cs.length = 2) (hf : DataW.trod enc Tryz.prog W base sp true fuel 26 cs = some y0) :
    ∃ x y : Int, cs = [.int .i64 x, .int .i64 y] := by
  match cs, hl with
  | [a_c, b_c], _ =>
  obtain ⟨xs, n, _, _, _, hlen, hg⟩ := DataW.trod_struct Tryz.underlying26 hf
  obtain ⟨y, hy⟩ : ∃ y, xs[0]? = some y := ⟨_, List.getElem?_eq_getElem (by rw [hlen]; decide)⟩
  rw [← hg 0 _ rfl] at hy
  simp [List.range_succ, show Tryz.prog.cellsOf 3 = 1 from by kernel_rfl] at hy
  obtain ⟨a, e, _, _⟩ := DataW.trod_int Tryz.underlying3 hy
  simp at e
  subst e
  clear hy
  obtain ⟨y, hy⟩ : ∃ y, xs[1]? = some y := ⟨_, List.getElem?_eq_getElem (by rw [hlen]; decide)⟩
  rw [← hg 1 _ rfl] at hy
  simp [List.range_succ, show Tryz.prog.cellsOf 3 = 1 from by kernel_rfl] at hy
  obtain ⟨b, e, _, _⟩ := DataW.trod_int Tryz.underlying3 hy
  simp at e
  subst e
  exact ⟨a, b, rfl⟩
set_option maxRecDepth 100000 in
set_option maxHeartbeats 1000000 in
theorem open_asked {H : Type} {enc : TypeId × Value → H} {W : World} {base b0 : Nat} {r : Reach} {sp : Nat → Bool} {v : Value} {d : DataW H} {p : List MemPlace} (hv : Value.okWide Tryz.prog W r b0 28 v) (h : DataW.Trod enc Tryz.prog W base sp true 28 v d p) :
    ∃ (p : Pk) (o u : Value) (n m : Nat) (g g' : Nat → Op) (x y iss now : Int) (ex : ByteArray), v = .agg #[.int .i64 p.kind, .bool p.long, .int .i64 p.src, .int .i64 p.dst, .int .i64 p.ccval, .int .i64 p.cover, .int .i64 p.seq, .int .i64 p.ack, .int .i64 p.service, .int .i64 p.code, .int .i64 p.detail, o, .string p.data, .int .i64 x, .int .i64 y, .int .i64 iss, .string ex, u, .int .i64 now] ∧
      n ≤ maxLen ∧ m ≤ maxLen ∧ (∀ B, BlkSat B W o (.row n 2 fun i j => (g i).c j)) ∧ ∀ B, BlkSat B W u (.row m 2 fun i j => (g' i).c j) := by
  obtain ⟨cs, rfl, hsz⟩ := okWide_struct Tryz.underlying28 hv
  rw [show Tryz.prog.cellsOf 28 = 19 from by kernel_rfl] at hsz
  obtain ⟨l⟩ := cs
  obtain ⟨fuel, hf⟩ := h
  have hl : l.length = 19 := by simpa using hsz
  clear hsz hv
  match l, hl with
  | [c0, c1, c2, c3, c4, c5, c6, c7, c8, c9, c10, c11, c12, c13, c14, c15, c16, c17, c18], _ =>
  obtain ⟨xs, n, _, _, _, hlen, hg⟩ := DataW.trod_struct Tryz.underlying28 hf
  obtain ⟨y, hy⟩ : ∃ y, xs[0]? = some y := ⟨_, List.getElem?_eq_getElem (by rw [hlen]; decide)⟩
  rw [← hg 0 _ rfl] at hy
  simp [Value.cells, List.range_succ, show Tryz.prog.cellsOf 24 = 13 from by kernel_rfl] at hy
  obtain ⟨q, o, n1, g, e1, a1, -, -, a2⟩ := trod_pk rfl hy
  clear hy
  obtain ⟨y, hy⟩ : ∃ y, xs[1]? = some y := ⟨_, List.getElem?_eq_getElem (by rw [hlen]; decide)⟩
  rw [← hg 1 _ rfl] at hy
  simp [Value.cells, List.range_succ, show Tryz.prog.cellsOf 26 = 2 from by kernel_rfl] at hy
  obtain ⟨x, y', e2⟩ := trod_place rfl hy
  clear hy
  obtain ⟨y, hy⟩ : ∃ y, xs[2]? = some y := ⟨_, List.getElem?_eq_getElem (by rw [hlen]; decide)⟩
  rw [← hg 2 _ rfl] at hy
  simp [Value.cells, List.range_succ, show Tryz.prog.cellsOf 3 = 1 from by kernel_rfl] at hy
  obtain ⟨iss, e3, _, _⟩ := DataW.trod_int Tryz.underlying3 hy
  clear hy
  obtain ⟨y, hy⟩ : ∃ y, xs[3]? = some y := ⟨_, List.getElem?_eq_getElem (by rw [hlen]; decide)⟩
  rw [← hg 3 _ rfl] at hy
  simp [Value.cells, List.range_succ, show Tryz.prog.cellsOf 9 = 1 from by kernel_rfl] at hy
  obtain ⟨ex, e4, _, _⟩ := DataW.trod_string Tryz.underlying9 hy
  clear hy
  obtain ⟨y, hy⟩ : ∃ y, xs[4]? = some y := ⟨_, List.getElem?_eq_getElem (by rw [hlen]; decide)⟩
  rw [← hg 4 _ rfl] at hy
  simp [Value.cells, List.range_succ, show Tryz.prog.cellsOf 22 = 1 from by kernel_rfl] at hy
  obtain ⟨hs, ht⟩ := slice_cell Tryz.underlying22 hy
  obtain ⟨m1, g', b1, -, b2⟩ := open_opts_of hs ht
  clear hy hs ht
  obtain ⟨y, hy⟩ : ∃ y, xs[5]? = some y := ⟨_, List.getElem?_eq_getElem (by rw [hlen]; decide)⟩
  rw [← hg 5 _ rfl] at hy
  simp [Value.cells, List.range_succ, show Tryz.prog.cellsOf 3 = 1 from by kernel_rfl] at hy
  obtain ⟨now, e5, _, _⟩ := DataW.trod_int Tryz.underlying3 hy
  clear hy hg
  simp only [Pk.l, List.cons.injEq, and_true] at e1 e2 e3 e4 e5
  obtain ⟨rfl, rfl, rfl, rfl, rfl, rfl, rfl, rfl, rfl, rfl, rfl, rfl, rfl⟩ := e1
  obtain ⟨rfl, rfl⟩ := e2
  subst e3 e4 e5
  exact ⟨q, _, _, n1, m1, g, g', x, y', iss, now, ex, rfl, a1, b1, a2, b2⟩
set_option maxRecDepth 100000 in
theorem listenAnswers_walk {H : Type} {enc : TypeId × Value → H} {base : Nat} {v0 v1 v2 : Value} {d0 d1 d2 : DataW H} {p0 p1 p2 : List MemPlace} {W : World} (hv0 : Value.okWide Tryz.prog W .any base 9 v0)
    (h0 : DataW.Trod enc Tryz.prog W 0 (fun _ => true) true 9 v0 d0 p0) (hv1 : Value.okWide Tryz.prog W .any base 3 v1) (h1 : DataW.Trod enc Tryz.prog W 0 (fun _ => true) true 3 v1 d1 p1)
    (hv2 : Value.okWide Tryz.prog W .any base 28 v2) (h2 : DataW.Trod enc Tryz.prog W 0 (fun _ => true) true 28 v2 d2 p2) :
    Calls Tryz.prog 3 #[v0, v1, v2] W fun e w' => e = .returned (.bool true) ∧ Below W.heap.size W w' := by
  obtain ⟨k, rfl, rfl, rfl, wk⟩ := open_string Tryz.underlying9 hv0 h0
  obtain ⟨svc, rfl, rfl, rfl, ws⟩ := open_int Tryz.underlying3 hv1 h1
  obtain ⟨p, o, u, n, m, g, g', x, y, iss, now, ex, rfl, a1, a2, a3, a4⟩ := open_asked hv2 h2
  exact answers_any k svc p x y iss ex now n m g g' a1 a2 o u W a3 a4
set_option maxRecDepth 100000 in
theorem listenAccepts_walk {H : Type} {enc : TypeId × Value → H} {base : Nat} {v0 v1 v2 v3 v4 : Value} {d0 d1 d2 d3 d4 : DataW H} {p0 p1 p2 p3 p4 : List MemPlace} {W : World} (hv0 : Value.okWide Tryz.prog W .any base 9 v0)
    (h0 : DataW.Trod enc Tryz.prog W 0 (fun _ => true) true 9 v0 d0 p0) (hv1 : Value.okWide Tryz.prog W .any base 3 v1) (h1 : DataW.Trod enc Tryz.prog W 0 (fun _ => true) true 3 v1 d1 p1)
    (hv2 : Value.okWide Tryz.prog W .any base 24 v2) (h2 : DataW.Trod enc Tryz.prog W 0 (fun _ => true) true 24 v2 d2 p2)
    (hv3 : Value.okWide Tryz.prog W .any base 26 v3) (h3 : DataW.Trod enc Tryz.prog W 0 (fun _ => true) true 26 v3 d3 p3) (hv4 : Value.okWide Tryz.prog W .any base 3 v4) (h4 : DataW.Trod enc Tryz.prog W 0 (fun _ => true) true 3 v4 d4 p4) :
    Calls Tryz.prog 5 #[v0, v1, v2, v3, v4] W fun e w' => e = .returned (.bool true) ∧ Below W.heap.size W w' := by
  obtain ⟨k, rfl, rfl, rfl, wk⟩ := open_string Tryz.underlying9 hv0 h0
  obtain ⟨svc, rfl, rfl, rfl, ws⟩ := open_int Tryz.underlying3 hv1 h1
  obtain ⟨now, rfl, rfl, rfl, wn⟩ := open_int Tryz.underlying3 hv4 h4
  obtain ⟨cs, rfl, hsz⟩ := okWide_struct Tryz.underlying26 hv3
  rw [show Tryz.prog.cellsOf 26 = 2 from by kernel_rfl] at hsz
  obtain ⟨l⟩ := cs
  obtain ⟨f_c, t_c, rfl⟩ := list2 l (by simpa using hsz)
  obtain ⟨fuel, hf⟩ := h3
  obtain ⟨xs, n, _, _, _, hlen, hg⟩ := DataW.trod_struct Tryz.underlying26 hf
  obtain ⟨y, hy⟩ : ∃ y, xs[0]? = some y := ⟨_, List.getElem?_eq_getElem (by rw [hlen]; decide)⟩
  rw [← hg 0 _ rfl] at hy
  simp [Value.cells, show Tryz.prog.cellsOf 3 = 1 from by kernel_rfl] at hy
  obtain ⟨f, e, _, w_f⟩ := DataW.trod_int Tryz.underlying3 hy
  simp at e
  subst e
  clear hy
  obtain ⟨y, hy⟩ : ∃ y, xs[1]? = some y := ⟨_, List.getElem?_eq_getElem (by rw [hlen]; decide)⟩
  rw [← hg 1 _ rfl] at hy
  simp [Value.cells, show Tryz.prog.cellsOf 3 = 1 from by kernel_rfl] at hy
  obtain ⟨t, e, _, w_t⟩ := DataW.trod_int Tryz.underlying3 hy
  simp at e
  subst e
  clear hy
  clear hg hlen hf hsz
  obtain ⟨p, o, n, g, rfl, a1, a2, a3, a4⟩ := open_pk hv2 h2
  exact accepts_any k svc p f t now n g a1 o W a4
set_option maxRecDepth 100000 in
theorem listenOpens_walk {H : Type} {enc : TypeId × Value → H} {base : Nat} {v0 v1 v2 v3 v4 : Value} {d0 d1 d2 d3 d4 : DataW H} {p0 p1 p2 p3 p4 : List MemPlace} {W : World} (hv0 : Value.okWide Tryz.prog W .any base 9 v0)
    (h0 : DataW.Trod enc Tryz.prog W 0 (fun _ => true) true 9 v0 d0 p0) (hv1 : Value.okWide Tryz.prog W .any base 28 v1) (h1 : DataW.Trod enc Tryz.prog W 0 (fun _ => true) true 28 v1 d1 p1)
    (hv2 : Value.okWide Tryz.prog W .any base 5 v2) (h2 : DataW.Trod enc Tryz.prog W 0 (fun _ => true) true 5 v2 d2 p2)
    (hv3 : Value.okWide Tryz.prog W .any base 41 v3) (h3 : DataW.Trod enc Tryz.prog W 0 (fun _ => true) true 41 v3 d3 p3) (hv4 : Value.okWide Tryz.prog W .any base 26 v4) (h4 : DataW.Trod enc Tryz.prog W 0 (fun _ => true) true 26 v4 d4 p4) :
    Calls Tryz.prog 4 #[v0, v1, v2, v3, v4] W fun e w' => e = .returned (.bool true) ∧ Below W.heap.size W w' := by
  obtain ⟨k, rfl, rfl, rfl, wk⟩ := open_string Tryz.underlying9 hv0 h0
  obtain ⟨behind, rfl, rfl, rfl, wb⟩ := open_int Tryz.underlying5 hv2 h2
  obtain ⟨later, rfl, rfl, rfl, wl⟩ := open_int Tryz.underlying41 hv3 h3
  obtain ⟨cs, rfl, hsz⟩ := okWide_struct Tryz.underlying26 hv4
  rw [show Tryz.prog.cellsOf 26 = 2 from by kernel_rfl] at hsz
  obtain ⟨l⟩ := cs
  obtain ⟨f_c, t_c, rfl⟩ := list2 l (by simpa using hsz)
  obtain ⟨fuel, hf⟩ := h4
  obtain ⟨xs, n, _, _, _, hlen, hg⟩ := DataW.trod_struct Tryz.underlying26 hf
  obtain ⟨y, hy⟩ : ∃ y, xs[0]? = some y := ⟨_, List.getElem?_eq_getElem (by rw [hlen]; decide)⟩
  rw [← hg 0 _ rfl] at hy
  simp [Value.cells, show Tryz.prog.cellsOf 3 = 1 from by kernel_rfl] at hy
  obtain ⟨f, e, _, w_f⟩ := DataW.trod_int Tryz.underlying3 hy
  simp at e
  subst e
  clear hy
  obtain ⟨y, hy⟩ : ∃ y, xs[1]? = some y := ⟨_, List.getElem?_eq_getElem (by rw [hlen]; decide)⟩
  rw [← hg 1 _ rfl] at hy
  simp [Value.cells, show Tryz.prog.cellsOf 3 = 1 from by kernel_rfl] at hy
  obtain ⟨t, e, _, w_t⟩ := DataW.trod_int Tryz.underlying3 hy
  simp at e
  subst e
  clear hy
  clear hg hlen hf hsz
  obtain ⟨p, o, u, n, m, g, g', x, y, iss, now, ex, rfl, a1, a2, a3, a4⟩ := open_asked hv1 h1
  have hb : 0 ≤ behind ∧ behind ≤ 255 := by simp [Lit.wf, IntKind.min, IntKind.max, IntKind.bits, IntKind.signed] at wb; omega
  have hl : 0 ≤ later ∧ later ≤ 65535 := by simp [Lit.wf, IntKind.min, IntKind.max, IntKind.bits, IntKind.signed] at wl; omega
  exact opens_any k p x y iss ex now n m g g' behind later f t hb.1 (by omega) hl.1 (by omega) a1 a2 o u W a3 a4
end Go.Proofs.YtjjnolpkifhbnaaGreat
