/- The laws of layer 10 (packet), walked. No conditions. -/
import Derived.Test.YtikiieclbeiicaaPkLb
namespace Go.Proofs.Ytikiieclbeiicaa
set_option linter.unusedVariables false
set_option linter.unusedSimpArgs false
open Go.RowKit Sym Go.ChangeShapes Go.WideShapes Go.ChangeMaps Inet

/-! plain facts of packets that are the same -/
theorem sameO_iff (n : Nat) (g : Nat → Op) (m : Nat) (h : Nat → Op) : sameO n g m h = true ↔ n = m ∧ ∀ i, i < n → g i = h i := by
  obtain ⟨h1, h2, h3⟩ := firstOf_le (difO g h) n
  unfold sameO
  rw [Bool.and_eq_true, Bool.not_eq_true', decide_eq_true_eq]
  refine ⟨fun ⟨e, hb⟩ => ⟨e, fun i hi => ?_⟩, fun ⟨e, hg⟩ => ⟨e, ?_⟩⟩
  · have hn : ¬ firstOf (difO g h) n 0 < n := by rw [← Nat.blt_eq, hb]; decide
    obtain ⟨a, b⟩ := difO_no (h2 i (by omega))
    cases hgi : g i
    cases hhi : h i
    rw [hgi, hhi] at a b
    simp only at a b
    rw [a, b]
  · rw [← Bool.not_eq_true, Nat.blt_eq]
    intro hlt
    exact difO_yes (h3 hlt) (by rw [hg _ hlt]; exact ⟨rfl, rfl⟩)
theorem samePk_iff (p q : Pk) : samePk p q = true ↔ p = q := by
  unfold samePk
  simp only [Bool.and_eq_true, decide_eq_true_eq]
  refine ⟨fun h => ?_, fun h => by subst h; simp⟩
  cases p; cases q
  simp only at h
  obtain ⟨⟨⟨⟨⟨⟨⟨⟨⟨⟨⟨a, b⟩, c⟩, d⟩, e⟩, f⟩, g⟩, i⟩, j⟩, k⟩, l⟩, m⟩ := h
  subst a b c d e f g i j k l m
  rfl
theorem sameP_iff (p : Pk) (n : Nat) (g : Nat → Op) (q : Pk) (m : Nat) (h : Nat → Op) : sameP p n g q m h = true ↔ p = q ∧ n = m ∧ ∀ i, i < n → g i = h i := by
  unfold sameP
  rw [Bool.and_eq_true, samePk_iff, sameO_iff]
theorem sameP_refl (p : Pk) (n : Nat) (g : Nat → Op) : sameP p n g p n g = true := (sameP_iff ..).2 ⟨rfl, rfl, fun _ _ => rfl⟩
theorem sameP_symm (p : Pk) (n : Nat) (g : Nat → Op) (q : Pk) (m : Nat) (h : Nat → Op) : sameP p n g q m h = sameP q m h p n g := by
  rw [Bool.eq_iff_iff, sameP_iff, sameP_iff]
  exact ⟨fun ⟨a, b, c⟩ => ⟨a.symm, b.symm, fun i hi => (c i (by omega)).symm⟩, fun ⟨a, b, c⟩ => ⟨a.symm, b.symm, fun i hi => (c i (by omega)).symm⟩⟩
theorem sameP_cong {p : Pk} {n : Nat} {g : Nat → Op} {q : Pk} {m : Nat} {h : Nat → Op} (e : sameP p n g q m h = true) (r : Pk) (l : Nat) (k : Nat → Op) : sameP p n g r l k = sameP q m h r l k := by
  obtain ⟨rfl, rfl, hg⟩ := (sameP_iff ..).1 e
  rw [Bool.eq_iff_iff, sameP_iff, sameP_iff]
  exact ⟨fun ⟨a, b, c⟩ => ⟨a, b, fun i hi => (hg i hi).symm.trans (c i hi)⟩, fun ⟨a, b, c⟩ => ⟨a, b, fun i hi => (hg i hi).trans (c i hi)⟩⟩
theorem chkP_cong {p : Pk} {n : Nat} {g : Nat → Op} {q : Pk} {m : Nat} {h : Nat → Op} (e : sameP p n g q m h = true) : chkP p n g = chkP q m h := by
  obtain ⟨rfl, rfl, hg⟩ := (sameP_iff ..).1 e
  have e1 := chkO_congr hg
  have e2 : begH p n g 0 = begH p n h 0 := by unfold begH wordsP; rw [sizeL_congr hg]
  unfold chkP
  rw [e1, e2]
theorem opCells_all (l : List Op) : AllOp l.length fun i j => cellAt (opCells l) (i * 2 + j) := (opCells_row l).1
/-! the anchor -/
def P10 : Pk := ⟨3, false, 0, 0, 0, 0, 5, 9, 0, 0, 0, ⟨⟨[]⟩⟩⟩
def G10 : Nat → Op := opF fun _ _ => undef
def S10 : ByteArray := putP P10 0 G10 1 2
theorem s10_size : S10.size = 16 := by decide +kernel
theorem c10 : chkP P10 0 G10 = 0 := by decide +kernel
theorem e10 : errG S10 1 2 = 0 := by decide +kernel
theorem e10x : errG S10 1 3 = 5 := by decide +kernel
theorem m10 : sameP P10 0 G10 (pkG S10) (optsOf (optS S10)).length (opF fun i j => cellAt (opCells (optsOf (optS S10))) (i * 2 + j)) = true := by decide +kernel
theorem mem_nilP (w : World) : Mem w [] [] [] w :=
  ⟨⟨rfl, fun k x u h1 _ => by simp at h1, fun k j b h1 _ => by obtain ⟨x, u, h, -⟩ := h1; simp at h, fun k j b h1 _ => by obtain ⟨x, u, h, -⟩ := h1; simp at h⟩, .refl _ _, fun k b h1 => by obtain ⟨x, u, h, -⟩ := h1; simp at h⟩
theorem undef_all : AllOp 0 fun _ _ => undef := fun i hi => absurd hi (Nat.not_lt_zero _)
theorem undef_opP : OpP 0 fun _ _ => undef := ⟨undef_all, Nat.zero_le _, fun i hi => absurd hi (Nat.not_lt_zero _)⟩
theorem optsOf_max (s : ByteArray) (hs : s.size ≤ 1000) : (optsOf s).length ≤ maxLen := by
  have := (optsOf_P s hs).2.1
  unfold maxLen; omega
theorem s10_all : (optsOf (optS S10)).length = 0 := by decide +kernel
set_option maxRecDepth 100000 in
theorem works10 (w : World) : Calls Try.prog 7 #[] w fun e w' => e = .returned (.bool true) ∧ Below w.heap.size w w' := by
  refine calls_runO CLw0_ok follows Try.func7 (by kernel_rfl) (lexAllF_ok (by kernel_rfl)) (noloops (by kernel_rfl)) (works10_run pkF) ?_ (mem_nilP w) rfl
  have z : (S10.size : Nat) = 16 := s10_size
  have f1 : errG S10 1 2 = 0 := e10
  have f2 : errG S10 1 3 = 5 := e10x
  have f3 : chkP P10 0 G10 = 0 := c10
  have f4 := m10
  have f5 : SameQ P10 0 (fun _ _ => undef) (pkG S10) (optsOf (optS S10)).length (fun i j => cellAt (opCells (optsOf (optS S10))) (i * 2 + j)) := ⟨Nat.zero_le _, undef_all, opCells_all _⟩
  show T.ok _ (T.need _ (T.need (S10.size ≤ 4000) (T.ite (decide (errG S10 1 2 = 0)) (T.need (S10.size ≤ 4000) (T.ite (decide (errG S10 1 3 = 0)) _ (T.ite (decide ((S10.size : Int) = 16)) (T.ite (decide (chkP P10 0 G10 = 0)) (T.ite true (T.need (SameQ P10 0 (fun _ _ => undef) (pkG S10) (optsOf (optS S10)).length fun i j => cellAt (opCells (optsOf (optS S10))) (i * 2 + j)) (T.ite (sameP P10 0 G10 (pkG S10) (optsOf (optS S10)).length (opF fun i j => cellAt (opCells (optsOf (optS S10))) (i * 2 + j))) (T.leaf (Value.bool (decide (errG S10 1 3 = 5)))) _)) _) _) _))) _)))
  rw [f4]
  rw [decide_eq_true f1, decide_eq_true f3, decide_eq_true f2, decide_eq_true (show (S10.size : Int) = 16 by omega), decide_eq_false (show ¬ errG S10 1 3 = 0 by rw [f2]; decide)]
  exact t_need ⟨undef_opP, by decide⟩ (t_need (by omega) (t_ite (fun _ => t_need (by omega) (t_ite (fun h => by cases h) fun _ => t_ite (fun _ => t_ite (fun _ => t_ite (fun _ => t_need f5 (t_ite (fun _ => t_leaf rfl) fun h => by cases h)) fun h => by cases h) fun h => by cases h) fun h => by cases h)) fun h => by cases h))
theorem SLw_ok : TabOk Try.prog (SLw pkF) := addS_ok SLw0_ok (by kernel_rfl) (by (intro xs p v h hp w; unfold tTrue10 at h; (split at h) <;> first | (cases h; done) | (simp only [Option.some.injEq, Prod.mk.injEq] at h; obtain ⟨rfl, rfl⟩ := h; exact works10 w)))
theorem CLw_ok : CfgOk Try.prog (CLw Try.prog Try.f8 pkF) := both_ok SLw_ok FLw_ok
/-! any packet's bytes -/
set_option maxRecDepth 100000 in
theorem packetPuts_any (p q : Pk) (n m : Nat) (g h : Nat → Op) (x y : Int) (hn : n ≤ maxLen) (hm : m ≤ maxLen) (o u : Value) (w : World) (hv : ∀ B, BlkSat B w o (.row n 2 fun i j => (g i).c j)) (hu : ∀ B, BlkSat B w u (.row m 2 fun i j => (h i).c j)) : Calls Try.prog 3 #[p.v o, q.v u, .agg #[.int .i64 x, .int .i64 y]] w fun e w' => e = .returned (.bool true) ∧ Below w.heap.size w w' := by
  refine calls_runO CLw_ok follows Try.func3 (by kernel_rfl) (lexAllF_ok (by kernel_rfl)) (noloops (by kernel_rfl)) (packetPuts_run pkF p q n m _ _ x y) ?_ (mem_rows hv hu) rfl
  have ag := allOp_c n g
  have ah := allOp_c m h
  refine t_ite (fun h => by cases h) fun _ => t_need ⟨hn, ag⟩ (t_ite (fun _ => t_leaf rfl) fun h1 => t_ite (fun _ => t_leaf rfl) fun h2 => t_need ⟨hm, ah⟩ (t_ite (fun _ => t_leaf rfl) fun h3 => t_ite (fun _ => t_leaf rfl) fun h4 => ?_))
  have h2 := of_decide_eq_false h2
  have h4 := of_decide_eq_false h4
  have fg : Few n (opF fun i j => (g i).c j) := Few.of h1
  have hc : ChkP p n fun i j => (g i).c j := ⟨⟨ag, fg⟩, by omega⟩
  have hs : SameQ p n (fun i j => (g i).c j) q m fun i j => (h i).c j := ⟨hn, ag, ah⟩
  exact t_need hc (t_need hc (t_ite (fun _ => t_ite (fun _ => t_need hc (t_need hc (t_ite (fun _ => t_need hs (t_need hs (t_leaf (by rw [decide_eq_true rfl])))) fun h => absurd rfl (of_decide_eq_false h)))) fun h => absurd rfl (of_decide_eq_false h)) fun h => absurd rfl (of_decide_eq_false h)))
set_option maxRecDepth 100000 in
theorem packetPuts_walk {H : Type} {enc : TypeId × Value → H} {base : Nat} {v0 v1 v2 : Value} {d0 d1 d2 : DataW H} {p0 p1 p2 : List MemPlace} {W : World}
    (hv0 : Value.okWide Try.prog W .any base 24 v0) (h0 : DataW.Trod enc Try.prog W 0 (fun _ => true) true 24 v0 d0 p0)
    (hv1 : Value.okWide Try.prog W .any base 24 v1) (h1 : DataW.Trod enc Try.prog W 0 (fun _ => true) true 24 v1 d1 p1)
    (hv2 : Value.okWide Try.prog W .any base 26 v2) (h2 : DataW.Trod enc Try.prog W 0 (fun _ => true) true 26 v2 d2 p2) :
    Calls Try.prog 3 #[v0, v1, v2] W fun e w' => e = .returned (.bool true) ∧ Below W.heap.size W w' := by
  obtain ⟨cs, rfl, hsz⟩ := okWide_struct Try.underlying26 hv2
  rw [show Try.prog.cellsOf 26 = 2 from by kernel_rfl] at hsz
  obtain ⟨l⟩ := cs
  obtain ⟨f_c, t_c, rfl⟩ := list2 l (by simpa using hsz)
  obtain ⟨fuel, hf⟩ := h2
  obtain ⟨xs, n, _, _, _, hlen, hg⟩ := DataW.trod_struct Try.underlying26 hf
  obtain ⟨y, hy⟩ : ∃ y, xs[0]? = some y := ⟨_, List.getElem?_eq_getElem (by rw [hlen]; decide)⟩
  rw [← hg 0 _ rfl] at hy
  simp [Value.cells, show Try.prog.cellsOf 3 = 1 from by kernel_rfl] at hy
  obtain ⟨f, e, _, w_f⟩ := DataW.trod_int Try.underlying3 hy
  simp at e
  subst e
  clear hy
  obtain ⟨y, hy⟩ : ∃ y, xs[1]? = some y := ⟨_, List.getElem?_eq_getElem (by rw [hlen]; decide)⟩
  rw [← hg 1 _ rfl] at hy
  simp [Value.cells, show Try.prog.cellsOf 3 = 1 from by kernel_rfl] at hy
  obtain ⟨t, e, _, w_t⟩ := DataW.trod_int Try.underlying3 hy
  simp at e
  subst e
  clear hy
  clear hg hlen hf hsz
  obtain ⟨p, o, n, g, rfl, a1, a2, a3, a4⟩ := open_pk hv0 h0
  obtain ⟨q, u, m, h, rfl, b1, b2, b3, b4⟩ := open_pk hv1 h1
  exact packetPuts_any p q n m g h f t a1 b1 o u W a4 b4
/-! the packet that any bytes are -/
set_option maxRecDepth 100000 in
theorem packetGets_any (s : ByteArray) (x y : Int) (w : World) : Calls Try.prog 4 #[.string s, .agg #[.int .i64 x, .int .i64 y]] w fun e w' => e = .returned (.bool true) ∧ Below w.heap.size w w' := by
  refine calls_runO CLw_ok follows Try.func4 (by kernel_rfl) (lexAllF_ok (by kernel_rfl)) (noloops (by kernel_rfl)) (packetGets_run pkF s x y) ?_ (mem_nilP w) rfl
  refine t_ite (fun h => by cases h) fun _ => t_ite (fun _ => t_leaf rfl) fun h1 => ?_
  have h1 := of_decide_eq_false h1
  have z : s.size ≤ 4000 := by omega
  refine t_need z (t_ite (fun he => ?_) fun he => ?_)
  · have he' : errG s x y = 0 := of_decide_eq_true he
    have ho : (optS s).size ≤ 1000 := by
      have : (s.size : Int) ≤ 700 := by
        have e := he'
        unfold errG at e
        by_cases h : (s.size : Int) > 700
        · rw [if_pos h] at e; cases e
        · omega
      unfold optS
      rw [ByteArray.size_extract]
      unfold bodyS
      rw [ByteArray.size_extract]
      unfold aheadS
      split
      · rw [ByteArray.size_extract]; omega
      · have : (⟨⟨[]⟩⟩ : ByteArray).size = 0 := rfl
        omega
    have hq : SameQ (pkG s) (optsOf (optS s)).length (fun i j => cellAt (opCells (optsOf (optS s))) (i * 2 + j)) (pkG s) (optsOf (optS s)).length (fun i j => cellAt (opCells (optsOf (optS s))) (i * 2 + j)) := ⟨optsOf_max _ ho, opCells_all _, opCells_all _⟩
    refine t_need z (t_ite (fun _ => t_ite (fun _ => t_need hq (t_ite (fun _ => t_need z (t_need z (t_leaf ?_))) fun h => ?_)) fun h => by cases h) fun h => ?_)
    · rw [decide_eq_true rfl]
    · have h' := sameP_refl (pkF.pg s) (pkF.og s).length (opF fun i j => cellAt (opCells (pkF.og s)) (i * 2 + j))
      exact absurd (h'.symm.trans h) (by decide)
    · rw [he] at h; cases h
  · have hq : SameQ nonePk 0 (fun _ _ => undef) nonePk 0 (fun _ _ => undef) := ⟨Nat.zero_le _, undef_all, undef_all⟩
    refine t_need z (t_ite (fun h => ?_) fun _ => t_ite (fun _ => t_need hq (t_ite (fun _ => t_need z (t_need z (t_leaf ?_))) fun h => ?_)) fun h => absurd rfl (of_decide_eq_false h))
    · rw [he] at h; cases h
    · rw [decide_eq_true rfl]
    · have h' := sameP_refl nonePk 0 (opF fun _ _ => undef)
      exact absurd (h'.symm.trans h) (by decide)
set_option maxRecDepth 100000 in
theorem packetGets_walk {H : Type} {enc : TypeId × Value → H} {base : Nat} {v0 v1 : Value} {d0 d1 : DataW H} {p0 p1 : List MemPlace} {W : World}
    (hv0 : Value.okWide Try.prog W .any base 9 v0) (h0 : DataW.Trod enc Try.prog W 0 (fun _ => true) true 9 v0 d0 p0)
    (hv1 : Value.okWide Try.prog W .any base 26 v1) (h1 : DataW.Trod enc Try.prog W 0 (fun _ => true) true 26 v1 d1 p1) :
    Calls Try.prog 4 #[v0, v1] W fun e w' => e = .returned (.bool true) ∧ Below W.heap.size W w' := by
  obtain ⟨cs, rfl, hsz⟩ := okWide_struct Try.underlying26 hv1
  rw [show Try.prog.cellsOf 26 = 2 from by kernel_rfl] at hsz
  obtain ⟨l⟩ := cs
  obtain ⟨f_c, t_c, rfl⟩ := list2 l (by simpa using hsz)
  obtain ⟨fuel, hf⟩ := h1
  obtain ⟨xs, n, _, _, _, hlen, hg⟩ := DataW.trod_struct Try.underlying26 hf
  obtain ⟨y, hy⟩ : ∃ y, xs[0]? = some y := ⟨_, List.getElem?_eq_getElem (by rw [hlen]; decide)⟩
  rw [← hg 0 _ rfl] at hy
  simp [Value.cells, show Try.prog.cellsOf 3 = 1 from by kernel_rfl] at hy
  obtain ⟨f, e, _, w_f⟩ := DataW.trod_int Try.underlying3 hy
  simp at e
  subst e
  clear hy
  obtain ⟨y, hy⟩ : ∃ y, xs[1]? = some y := ⟨_, List.getElem?_eq_getElem (by rw [hlen]; decide)⟩
  rw [← hg 1 _ rfl] at hy
  simp [Value.cells, show Try.prog.cellsOf 3 = 1 from by kernel_rfl] at hy
  obtain ⟨t, e, _, w_t⟩ := DataW.trod_int Try.underlying3 hy
  simp at e
  subst e
  clear hy
  clear hg hlen hf hsz
  obtain ⟨s, rfl, rfl, rfl, wk⟩ := open_string Try.underlying9 hv0 h0
  exact packetGets_any s f t W
/-! each is itself, and both ways -/
theorem mem_rows3 {w : World} {u v x : Value} {n m l sz tz rz : Nat} {f g k : Nat → Nat → Value} (h : ∀ B, BlkSat B w u (.row n sz f)) (h' : ∀ B, BlkSat B w v (.row m tz g)) (h2 : ∀ B, BlkSat B w x (.row l rz k)) : Mem w [] [.row n sz f, .row m tz g, .row l rz k] [u, v, x] w := by
  have noex : ∀ i b, ¬ ExBlk [.row n sz f, .row m tz g, .row l rz k] [u, v, x] i b := by
    rintro i b ⟨x, y, g1, g2, -, -⟩
    match i with
    | 0 => simp only [List.getElem?_cons_zero, Option.some.injEq] at g1; subst g1; cases g2
    | 1 => simp only [List.getElem?_cons_succ, List.getElem?_cons_zero, Option.some.injEq] at g1; subst g1; cases g2
    | 2 => simp only [List.getElem?_cons_succ, List.getElem?_cons_zero, Option.some.injEq] at g1; subst g1; cases g2
    | i + 3 => simp at g1
  refine ⟨⟨rfl, fun i a y h1 h3 => ?_, fun i j b h1 h2 => absurd h1 (noex i b), fun i j b h1 h2 => absurd h1 (noex i b)⟩, .refl _ _, fun i b h1 => absurd h1 (noex i b)⟩
  match i with
  | 0 => simp only [List.getElem?_cons_zero, Option.some.injEq] at h1 h3; subst h1; subst h3; exact h _
  | 1 => simp only [List.getElem?_cons_succ, List.getElem?_cons_zero, Option.some.injEq] at h1 h3; subst h1; subst h3; exact h' _
  | 2 => simp only [List.getElem?_cons_succ, List.getElem?_cons_zero, Option.some.injEq] at h1 h3; subst h1; subst h3; exact h2 _
  | i + 3 => simp at h1
set_option maxRecDepth 100000 in
theorem packetAlike_any (p q r : Pk) (n m l : Nat) (g h k : Nat → Op) (hn : n ≤ maxLen) (hm : m ≤ maxLen) (hl : l ≤ maxLen) (o u z : Value) (w : World) (hv : ∀ B, BlkSat B w o (.row n 2 fun i j => (g i).c j)) (hu : ∀ B, BlkSat B w u (.row m 2 fun i j => (h i).c j)) (hz : ∀ B, BlkSat B w z (.row l 2 fun i j => (k i).c j)) : Calls Try.prog 5 #[p.v o, q.v u, r.v z] w fun e w' => e = .returned (.bool true) ∧ Below w.heap.size w w' := by
  refine calls_runO CLw_ok follows Try.func5 (by kernel_rfl) (lexAllF_ok (by kernel_rfl)) (noloops (by kernel_rfl)) (packetAlike_run pkF p q r n m l _ _ _) ?_ (mem_rows3 hv hu hz) rfl
  have ag := allOp_c n g
  have ah := allOp_c m h
  have ak := allOp_c l k
  refine t_ite (fun h => by cases h) fun _ => t_need ⟨hn, ag⟩ (t_ite (fun _ => t_leaf rfl) fun h1 => t_ite (fun _ => t_leaf rfl) fun h2 => t_need ⟨hm, ah⟩ (t_ite (fun _ => t_leaf rfl) fun h3 => t_ite (fun _ => t_leaf rfl) fun h4 => t_need ⟨hl, ak⟩ (t_ite (fun _ => t_leaf rfl) fun h5 => t_ite (fun _ => t_leaf rfl) fun h6 => ?_)))
  have h2 := of_decide_eq_false h2
  have h4 := of_decide_eq_false h4
  have fg : Few n (opF fun i j => (g i).c j) := Few.of h1
  have fh : Few m (opF fun i j => (h i).c j) := Few.of h3
  have hcp : ChkP p n fun i j => (g i).c j := ⟨⟨ag, fg⟩, by omega⟩
  have hcq : ChkP q m fun i j => (h i).c j := ⟨⟨ah, fh⟩, by omega⟩
  refine t_need ⟨hn, ag, ag⟩ (t_ite (fun e => ?_) fun _ => t_need ⟨hn, ag, ah⟩ (t_need ⟨hm, ah, ag⟩ (t_ite (fun e => ?_) fun _ => t_need ⟨hn, ag, ah⟩ (t_ite (fun _ => t_leaf rfl) fun e => t_need ⟨hn, ag, ak⟩ (t_need ⟨hm, ah, ak⟩ (t_ite (fun _ => t_need hcp (t_need hcq (t_leaf ?_))) fun e2 => ?_))))))
  · have e : (!sameP p n (opF fun i j => (g i).c j) p n (opF fun i j => (g i).c j)) = true := e
    rw [sameP_refl] at e; cases e
  · have e : (!decide (sameP p n (opF fun i j => (g i).c j) q m (opF fun i j => (h i).c j) = sameP q m (opF fun i j => (h i).c j) p n (opF fun i j => (g i).c j))) = true := e
    rw [decide_eq_true (sameP_symm ..)] at e; cases e
  · have e : (!sameP p n (opF fun i j => (g i).c j) q m (opF fun i j => (h i).c j)) = false := e
    have e : sameP p n (opF fun i j => (g i).c j) q m (opF fun i j => (h i).c j) = true := by simpa using e
    show Value.bool (decide (chkP p n (opF fun i j => (g i).c j) = chkP q m (opF fun i j => (h i).c j))) = _
    rw [decide_eq_true (chkP_cong e)]
  · have e : (!sameP p n (opF fun i j => (g i).c j) q m (opF fun i j => (h i).c j)) = false := e
    have e : sameP p n (opF fun i j => (g i).c j) q m (opF fun i j => (h i).c j) = true := by simpa using e
    exact absurd (sameP_cong e r l (opF fun i j => (k i).c j)) (of_decide_eq_false e2)
set_option maxRecDepth 100000 in
theorem packetAlike_walk {H : Type} {enc : TypeId × Value → H} {base : Nat} {v0 v1 v2 : Value} {d0 d1 d2 : DataW H} {p0 p1 p2 : List MemPlace} {W : World}
    (hv0 : Value.okWide Try.prog W .any base 24 v0) (h0 : DataW.Trod enc Try.prog W 0 (fun _ => true) true 24 v0 d0 p0)
    (hv1 : Value.okWide Try.prog W .any base 24 v1) (h1 : DataW.Trod enc Try.prog W 0 (fun _ => true) true 24 v1 d1 p1)
    (hv2 : Value.okWide Try.prog W .any base 24 v2) (h2 : DataW.Trod enc Try.prog W 0 (fun _ => true) true 24 v2 d2 p2) :
    Calls Try.prog 5 #[v0, v1, v2] W fun e w' => e = .returned (.bool true) ∧ Below W.heap.size W w' := by
  obtain ⟨p, o, n, g, rfl, a1, a2, a3, a4⟩ := open_pk hv0 h0
  obtain ⟨q, u, m, h, rfl, b1, b2, b3, b4⟩ := open_pk hv1 h1
  obtain ⟨r, z, l, k, rfl, c1, c2, c3, c4⟩ := open_pk hv2 h2
  exact packetAlike_any p q r n m l g h k a1 b1 c1 o u z W a4 b4 c4
end Go.Proofs.Ytikiieclbeiicaa
