/- The symbolic evaluator: loops that hand letters from round to round. No conditions. -/
import Derived.Test.YtapogkodlempkaaSym8
namespace Go.Proofs.Ytapogkodlempkaa.Sym
set_option linter.unusedVariables false
set_option linter.unusedSimpArgs false
open Go.RowKit

def isSome' (j : Nat) : Option Nat → Bool
  | some i => Nat.beq i j
  | none => false
theorem isSome'_iff {j : Nat} {o : Option Nat} : isSome' j o = true ↔ o = some j := by
  cases o with
  | none => simp [isSome']
  | some i => simp [isSome', Nat.beq_eq]
def distinct : List (Option Nat) → Bool
  | [] => true
  | none :: l => distinct l
  | some j :: l => !(l.any (isSome' j)) && distinct l
theorem distinct_inj : ∀ {js : List (Option Nat)}, distinct js = true → ∀ {a b j : Nat}, js[a]? = some (some j) → js[b]? = some (some j) → a = b
  | [], _, a, b, j, ha, _ => by simp at ha
  | none :: l, h, a, b, j, ha, hb => by
    cases a with
    | zero => simp at ha
    | succ a => cases b with
      | zero => simp at hb
      | succ b => have := distinct_inj (js := l) h (a := a) (b := b) (j := j) (by simpa using ha) (by simpa using hb); omega
  | some i :: l, h, a, b, j, ha, hb => by
    simp only [distinct, Bool.and_eq_true, Bool.not_eq_true'] at h
    have no : ∀ c : Nat, l[c]? = some (some i) → False := by
      intro c hc
      have := List.any_eq_false.1 h.1 _ (List.mem_of_getElem? hc)
      simp [isSome'] at this
    cases a with
    | zero =>
      simp at ha; subst ha
      cases b with
      | zero => rfl
      | succ b => exact (no b (by simpa using hb)).elim
    | succ a => cases b with
      | zero => simp at hb; subst hb; exact (no a (by simpa using ha)).elim
      | succ b => have := distinct_inj (js := l) h.2 (a := a) (b := b) (j := j) (by simpa using ha) (by simpa using hb); omega
/-- the letter that a slot holds whole -/
def srcOf : Option SV → Option Nat
  | some (.ref j) => some j
  | some (.ptr j off) => bif Nat.beq off 0 then some j else none
  | _ => none
def isNilS : Option SV → Bool
  | some (.c (.slice none 0 0)) => true
  | some (.v (.slice none 0 0)) => true
  | _ => false
def movedSV (n : Nat) : Option SV → Option SV
  | some (.ref _) => some (.ref n)
  | some (.ptr _ off) => bif Nat.beq off 0 then some (.ptr n 0) else none
  | s => bif isNilS s then some (.ref n) else none
def openVec : Blk → Blk
  | .vec _ e sz n xs => .vec true e sz n xs
  | b => b
def movedBlk (n0 : Nat) (H : List Blk) (e : TypeId) (sz : Nat) (s : Option SV) : Blk :=
  match srcOf s with
  | some j => (match H[j]? with | some b => cutBlk n0 (openVec b) | none => .gone)
  | none => bif isNilS s then .vec true e sz 0 [] else .gone
def keptBlks (n0 : Nat) (js : List (Option Nat)) : Nat → List Blk → List Blk
  | _, [] => []
  | k, b :: l => (bif js.any (isSome' k) then .gone else cutBlk n0 b) :: keptBlks n0 js (k + 1) l
theorem keptBlks_get {n0 : Nat} {js : List (Option Nat)} : ∀ {l : List Blk} {i k : Nat} {x : Blk}, (keptBlks n0 js i l)[k]? = some x → ∃ b, l[k]? = some b ∧ x = bif js.any (isSome' (i + k)) then .gone else cutBlk n0 b
  | [], _, _, _, h => by simp [keptBlks] at h
  | b :: l, i, 0, x, h => by simp only [keptBlks, List.getElem?_cons_zero, Option.some.injEq] at h; exact ⟨b, rfl, h.symm⟩
  | b :: l, i, k + 1, x, h => by
    simp only [keptBlks, List.getElem?_cons_succ] at h
    obtain ⟨b', h1, h2⟩ := keptBlks_get h
    exact ⟨b', by simpa using h1, by rw [h2, show i + 1 + k = i + (k + 1) by omega]⟩
theorem keptBlks_length {n0 : Nat} {js : List (Option Nat)} : ∀ (l : List Blk) (i : Nat), (keptBlks n0 js i l).length = l.length
  | [], _ => rfl
  | _ :: l, i => by simp [keptBlks, keptBlks_length l (i + 1)]
abbrev Mv := List (Nat × TypeId × Nat)
def srcs (mv : Mv) (fr : List (Nat × Option SV)) : List (Option Nat) := mv.map fun m => srcOf (look fr m.1)
def mvFr (n : Nat) (fr : List (Nat × Option SV)) : Mv → List (Nat × Option SV)
  | [] => []
  | m :: l => (m.1, movedSV n (look fr m.1)) :: mvFr (n + 1) fr l
/-- constants as any values -/
def openS : SV → SV
  | .c x => .v x
  | .tt => .v (.bool true)
  | .ff => .v (.bool false)
  | s => s
def openO : Option SV → Option SV
  | some s => some (openS s)
  | none => none
theorem openS_to {B : List Value} (s : SV) : (openS s).to B = s.to B := by cases s <;> rfl
theorem opens_tos {B : List Value} : ∀ (l : List SV), SV.tos B (l.map openS) = SV.tos B l
  | [] => rfl
  | s :: l => by simp only [List.map_cons, SV.tos, openS_to, opens_tos l]
def openBlk : Blk → Blk
  | .own cells => .own (cells.map openS)
  | b => b
theorem openBlk_excl (x : Blk) : (openBlk x).excl = x.excl := by cases x <;> rfl
theorem openBlk_row {x : Blk} {n sz : Nat} {f : Nat → Nat → Value} (h : openBlk x = .row n sz f) : x = .row n sz f := by cases x <;> first | exact h | cases h
theorem openBlk_sat {B : List Value} {w : World} {u : Value} {x : Blk} (h : BlkSat B w u x) : BlkSat B w u (openBlk x) := by
  cases x with
  | own cells =>
    obtain ⟨b, vs, h1, h2, h3⟩ := h
    exact ⟨b, vs, h1, by rw [opens_tos]; exact h2, h3⟩
  | _ => exact h
theorem openBlk_mem {w0 : World} {bs : List Nat} {H : List Blk} {B : List Value} {w : World} (h : Mem w0 bs H B w) : Mem w0 bs (H.map openBlk) B w := by
  have get : ∀ {k : Nat} {x : Blk}, (H.map openBlk)[k]? = some x → ∃ y, H[k]? = some y ∧ x = openBlk y := by
    intro k x hk
    rw [List.getElem?_map, Option.map_eq_some_iff] at hk
    obtain ⟨y, hy, rfl⟩ := hk
    exact ⟨y, hy, rfl⟩
  have ex : ∀ k b, ExBlk (H.map openBlk) B k b → ExBlk H B k b := by
    rintro k b ⟨x, u, h1, h2, h3, h4⟩
    obtain ⟨y, hy, rfl⟩ := get h1
    exact ⟨y, u, hy, by rw [← openBlk_excl]; exact h2, h3, h4⟩
  have rd : ∀ k b, RdBlk (H.map openBlk) B k b → RdBlk H B k b := by
    rintro k b ⟨n, sz, f, u, h1, h2, h3, h4, h5⟩
    obtain ⟨y, hy, e⟩ := get h1
    exact ⟨n, sz, f, u, by rw [hy, openBlk_row e.symm], h2, h3, h4, h5⟩
  refine ⟨⟨by simp [h.sat.len], fun k x u hk hu => ?_, fun k j b h1 h2 => h.sat.sep k j b (ex _ _ h1) (ex _ _ h2), fun k j b h1 h2 => h.sat.far k j b (ex _ _ h1) (rd _ _ h2)⟩, h.keeps, fun k b h1 => h.good k b (ex _ _ h1)⟩
  obtain ⟨y, hy, rfl⟩ := get hk
  exact openBlk_sat (h.sat.blk k y u hy hu)
/-- the outer letters as they are, and behind them what stands in the slots mv -/
def St.tidy (n0 : Nat) (keep : List Nat) (mv : Mv) (ks : List Nat) (st : St) : St :=
  ⟨mvFr n0 st.fr mv ++ keep.map (fun t => (t, openO (cutS n0 (look st.fr t)))),
   (ks.foldl softAt (keptBlks n0 (srcs mv st.fr) 0 (st.H.take n0) ++ (bif distinct (srcs mv st.fr) then mv.map fun m => movedBlk n0 st.H m.2.1 m.2.2 (look st.fr m.1) else mv.map fun _ => .gone))).map openBlk⟩
theorem look_append {a b : List (Nat × Option SV)} {t : Nat} {s : SV} (h : look (a ++ b) t = some s) : look a t = some s ∨ look b t = some s := by
  induction a with
  | nil => exact .inr h
  | cons p l ih =>
    obtain ⟨u, o⟩ := p
    simp only [List.cons_append, look] at h ⊢
    cases hb : Nat.beq u t
    · rw [hb, cond_false] at h; exact ih h
    · rw [hb, cond_true] at h; exact .inl h
theorem look_mvFr {fr : List (Nat × Option SV)} {t : Nat} {s : SV} : ∀ {mv : Mv} {n : Nat}, look (mvFr n fr mv) t = some s → ∃ i m, mv[i]? = some m ∧ m.1 = t ∧ movedSV (n + i) (look fr t) = some s
  | [], _, h => by simp [mvFr, look] at h
  | m :: l, n, h => by
    simp only [mvFr, look] at h
    cases hb : Nat.beq m.1 t
    · rw [hb, cond_false] at h
      obtain ⟨i, m', h1, h2, h3⟩ := look_mvFr h
      exact ⟨i + 1, m', by simpa using h1, h2, by rw [show n + (i + 1) = n + 1 + i by omega]; exact h3⟩
    · rw [hb, cond_true] at h
      have e := Nat.eq_of_beq_eq_true hb
      exact ⟨0, m, rfl, e, by rw [← e]; exact h⟩
def mvVals (a : Act) (mv : Mv) : List Value := mv.map fun m => a.tmps.getD m.1 undef
theorem tidy_slots {N n0 : Nat} {st : St} {B : List Value} {a : Act} (h : Slots N st.fr B a) (hn : n0 ≤ B.length) (keep : List Nat) (mv : Mv) (ks : List Nat) : Slots N (st.tidy n0 keep mv ks).fr (B.take n0 ++ mvVals a mv) a := by
  refine ⟨h.size, h.defers, fun t s e => ?_⟩
  have hlt : (B.take n0).length = n0 := by simp; omega
  rcases look_append e with e | e
  · obtain ⟨i, m, h1, h2, h3⟩ := look_mvFr e
    have hu : (B.take n0 ++ mvVals a mv)[n0 + i]? = some (a.tmps.getD t undef) := by
      rw [List.getElem?_append_right (by omega), hlt, Nat.add_sub_cancel_left]
      simp [mvVals, h1, h2]
    unfold movedSV at h3
    split at h3
    · simp only [Option.some.injEq] at h3; subst h3; exact hu
    · rename_i j off hl
      cases hb : Nat.beq off 0
      · rw [hb] at h3; cases h3
      · rw [hb, cond_true, Option.some.injEq] at h3
        subst h3
        have e0 := Nat.eq_of_beq_eq_true hb
        subst e0
        have h4 := h.slot t _ hl
        simp only [SV.to] at h4
        split at h4
        · simp only [Option.some.injEq] at h4
          simp only [SV.to, hu, ← h4]
        · cases h4
    · cases hb : isNilS (look st.fr t)
      · rw [hb] at h3; cases h3
      · rw [hb, cond_true, Option.some.injEq] at h3
        subst h3; exact hu
  · have e := look_only e
    have e : ∃ s0, cutS n0 (look st.fr t) = some s0 ∧ s = openS s0 := by
      cases hc : cutS n0 (look st.fr t) with
      | none => rw [hc] at e; cases e
      | some s0 => rw [hc] at e; simp only [openO, Option.some.injEq] at e; exact ⟨s0, rfl, e.symm⟩
    obtain ⟨s0, e9, rfl⟩ := e
    rw [openS_to]
    unfold cutS at e9
    split at e9
    · rename_i s' hs
      cases hb : s'.under n0
      · rw [hb] at e9; cases e9
      · rw [hb, cond_true, Option.some.injEq] at e9
        subst e9
        have h1 := h.slot t s' hs
        have h2 : s'.to (B.take n0) = s'.to B := SV.under_to (List.take_prefix _ _) (by rw [hlt]; exact hb)
        rw [← h2] at h1
        exact SV.to_mono (List.prefix_append _ _) h1
    · cases e9
theorem openVec_excl (x : Blk) : (openVec x).excl = x.excl := by cases x <;> rfl
theorem openVec_sat {B : List Value} {w : World} {u : Value} {x : Blk} (h : BlkSat B w u x) : BlkSat B w u (openVec x) := by cases x <;> exact h
theorem openVec_row {x : Blk} {m sz : Nat} {f : Nat → Nat → Value} (h : openVec x = .row m sz f) : x = .row m sz f := by
  cases x <;> first | exact h | cases h
/-- letters renamed -/
theorem remap_mem {w0 : World} {bs : List Nat} {H H' : List Blk} {B B' : List Value} {w : World} (h : Mem w0 bs H B w) (n0 : Nat) (hn : n0 ≤ B.length) (hlen : B'.length = H'.length) (hpre : B.take n0 <+: B') (σ : Nat → Option Nat)
    (hs : ∀ k x u, H'[k]? = some x → B'[k]? = some u → x = .gone ∨ (blockOf u = none ∧ BlkSat B' w u x) ∨ ∃ j y y', σ k = some j ∧ H[j]? = some y ∧ B[j]? = some u ∧ x = cutBlk n0 y' ∧ (y' = y ∨ y' = openVec y))
    (hinj : ∀ k k' j, σ k = some j → σ k' = some j → k = k') : Mem w0 bs H' B' w := by
  have hlt : (B.take n0).length = n0 := by simp; omega
  have ex : ∀ k b, ExBlk H' B' k b → ∃ j, σ k = some j ∧ ExBlk H B j b := by
    rintro k b ⟨x, u, h1, h2, h3, h4⟩
    rcases hs k x u h1 h3 with rfl | ⟨g, _⟩ | ⟨j, y, y', g1, g2, g3, rfl, hy⟩
    · cases h2
    · rw [g] at h4; cases h4
    · refine ⟨j, g1, y, u, g2, ?_, g3, h4⟩
      rcases hy with rfl | rfl
      · exact cutBlk_excl h2
      · rw [← openVec_excl]; exact cutBlk_excl h2
  have rd : ∀ k b, RdBlk H' B' k b → ∃ j, σ k = some j ∧ RdBlk H B j b := by
    rintro k b ⟨m, sz, f, u, h1, h2, h3, h4, h5⟩
    rcases hs k _ u h1 h4 with e | ⟨g, _⟩ | ⟨j, y, y', g1, g2, g3, e, hy⟩
    · cases e
    · rw [g] at h5; cases h5
    · refine ⟨j, g1, m, sz, f, u, ?_, h2, h3, g3, h5⟩
      rcases hy with rfl | rfl
      · rw [g2, cutBlk_row e.symm]
      · rw [g2, openVec_row (cutBlk_row e.symm)]
  refine ⟨⟨hlen, fun k x u hk hu => ?_, fun k j b h1 h2 => ?_, fun k j b h1 h2 => ?_⟩, h.keeps, fun k b h1 => ?_⟩
  · rcases hs k x u hk hu with rfl | ⟨_, g⟩ | ⟨j, y, y', g1, g2, g3, rfl, hy⟩
    · exact trivial
    · exact g
    · have hb : BlkSat B w u y' := by
        have hb := h.sat.blk j y u g2 g3
        rcases hy with rfl | rfl
        · exact hb
        · exact openVec_sat hb
      cases y' with
      | own cells =>
        simp only [cutBlk]
        cases hbl : SV.unders n0 cells
        · exact trivial
        · rw [cond_true]
          obtain ⟨b, vs, e1, e2, e3⟩ := hb
          refine ⟨b, vs, e1, ?_, e3⟩
          have := SV.unders_tos (List.take_prefix n0 B) (l := cells) (by rw [hlt]; exact hbl)
          rw [← this] at e2
          exact SV.tos_mono hpre e2
      | _ => exact hb
  · obtain ⟨a, a1, a2⟩ := ex _ _ h1
    obtain ⟨c, c1, c2⟩ := ex _ _ h2
    have := h.sat.sep _ _ _ a2 c2
    subst this
    exact hinj _ _ _ a1 c1
  · obtain ⟨a, a1, a2⟩ := ex _ _ h1
    obtain ⟨c, c1, c2⟩ := rd _ _ h2
    exact h.sat.far _ _ _ a2 c2
  · obtain ⟨a, a1, a2⟩ := ex _ _ h1
    exact h.good _ _ a2
theorem src_val {N : Nat} {fr : List (Nat × Option SV)} {B : List Value} {a : Act} (h : Slots N fr B a) {t j : Nat} (e : srcOf (look fr t) = some j) : B[j]? = some (a.tmps.getD t undef) := by
  unfold srcOf at e
  split at e
  · rename_i k hl
    simp only [Option.some.injEq] at e; subst e
    exact h.slot t _ hl
  · rename_i k off hl
    cases hb : Nat.beq off 0
    · rw [hb] at e; cases e
    · rw [hb, cond_true, Option.some.injEq] at e
      subst e
      have e0 := Nat.eq_of_beq_eq_true hb
      subst e0
      have h4 := h.slot t _ hl
      simp only [SV.to] at h4
      split at h4
      · rename_i b hb'
        simp only [Option.some.injEq] at h4
        rw [hb', h4]
      · cases h4
  · cases e
theorem nil_val {N : Nat} {fr : List (Nat × Option SV)} {B : List Value} {a : Act} (h : Slots N fr B a) {t : Nat} (e : isNilS (look fr t) = true) : a.tmps.getD t undef = .slice none 0 0 := by
  unfold isNilS at e
  split at e
  · rename_i hl
    have := h.slot t _ hl
    simp only [SV.to, Option.some.injEq] at this
    exact this.symm
  · rename_i hl
    have := h.slot t _ hl
    simp only [SV.to, Option.some.injEq] at this
    exact this.symm
  · cases e
theorem tidy_mem {N : Nat} {w0 : World} {bs : List Nat} {st : St} {B : List Value} {a : Act} {w : World} (hsl : Slots N st.fr B a) (h : Mem w0 bs st.H B w) {n0 : Nat} (hn : n0 ≤ B.length) (keep : List Nat) (mv : Mv) (ks : List Nat) :
    Mem w0 bs (st.tidy n0 keep mv ks).H (B.take n0 ++ mvVals a mv) w := by
  refine openBlk_mem (softs_mem ks ?_)
  have hlt : (B.take n0).length = n0 := by simp; omega
  have hkl : (keptBlks n0 (srcs mv st.fr) 0 (st.H.take n0)).length = n0 := by rw [keptBlks_length, List.length_take, ← h.sat.len]; omega
  let σ : Nat → Option Nat := fun k => if k < n0 then (if (srcs mv st.fr).any (isSome' k) then none else some k) else (if distinct (srcs mv st.fr) then ((srcs mv st.fr)[k - n0]?).join else none)
  have σ_lo : ∀ {k j}, k < n0 → σ k = some j → j = k ∧ (srcs mv st.fr).any (isSome' k) = false := by
    intro k j hk e
    simp only [σ, if_pos hk] at e
    split at e
    · cases e
    · rename_i hc
      simp only [Option.some.injEq] at e
      exact ⟨e.symm, by simpa using hc⟩
  have σ_hi : ∀ {k j}, ¬ k < n0 → σ k = some j → distinct (srcs mv st.fr) = true ∧ (srcs mv st.fr)[k - n0]? = some (some j) := by
    intro k j hk e
    simp only [σ, if_neg hk] at e
    split at e
    · rename_i hd
      refine ⟨hd, ?_⟩
      cases hg : (srcs mv st.fr)[k - n0]? with
      | none => rw [hg] at e; cases e
      | some o => rw [hg] at e; rw [show o = some j from e]
    · cases e
  refine remap_mem h n0 hn ?_ (List.prefix_append _ _) σ ?_ ?_
  · rw [List.length_append, List.length_append, hlt, hkl]
    cases distinct (srcs mv st.fr) <;> simp [mvVals]
  · intro k x u hk hu
    by_cases hkn : k < n0
    · rw [List.getElem?_append_left (by rw [hkl]; exact hkn)] at hk
      rw [List.getElem?_append_left (by rw [hlt]; exact hkn)] at hu
      obtain ⟨b, h1, h2⟩ := keptBlks_get hk
      rw [Nat.zero_add] at h2
      cases hc : (srcs mv st.fr).any (isSome' k)
      · rw [hc, cond_false] at h2
        refine .inr (.inr ⟨k, b, b, ?_, ?_, ?_, h2, .inl rfl⟩)
        · simp only [σ, if_pos hkn, hc]; rfl
        · rw [List.getElem?_take, if_pos hkn] at h1; exact h1
        · rw [List.getElem?_take, if_pos hkn] at hu; exact hu
      · rw [hc, cond_true] at h2; exact .inl h2
    · rw [List.getElem?_append_right (by rw [hkl]; omega), hkl] at hk
      rw [List.getElem?_append_right (by rw [hlt]; omega), hlt] at hu
      cases hd : distinct (srcs mv st.fr)
      · rw [hd, cond_false, List.getElem?_map, Option.map_eq_some_iff] at hk
        obtain ⟨_, _, rfl⟩ := hk
        exact .inl rfl
      · rw [hd, cond_true, List.getElem?_map, Option.map_eq_some_iff] at hk
        obtain ⟨m, hm, rfl⟩ := hk
        have hu : u = a.tmps.getD m.1 undef := by
          simp only [mvVals, List.getElem?_map, hm, Option.map_some, Option.some.injEq] at hu
          exact hu.symm
        unfold movedBlk
        split
        · rename_i j hj
          have hbv := src_val hsl hj
          split
          · rename_i b hb
            refine .inr (.inr ⟨j, b, openVec b, ?_, hb, by rw [hu]; exact hbv, rfl, .inr rfl⟩)
            simp only [σ, if_neg hkn, hd, if_true]
            simp [srcs, hm, hj]
          · exact .inl rfl
        · cases hnil : isNilS (look st.fr m.1)
          · exact .inl rfl
          · rw [cond_true]
            have := nil_val hsl hnil
            rw [this] at hu
            subst hu
            exact .inr (.inl ⟨rfl, by simp [BlkSat, VecSat, World.ownsRow]⟩)
  · intro k k' j e1 e2
    by_cases hk : k < n0
    · obtain ⟨rfl, hno⟩ := σ_lo hk e1
      by_cases hk' : k' < n0
      · exact (σ_lo hk' e2).1
      · obtain ⟨_, g⟩ := σ_hi hk' e2
        have := List.any_eq_false.1 hno _ (List.mem_of_getElem? g)
        simp [isSome'] at this
    · obtain ⟨hd, g⟩ := σ_hi hk e1
      by_cases hk' : k' < n0
      · obtain ⟨rfl, hno⟩ := σ_lo hk' e2
        have := List.any_eq_false.1 hno _ (List.mem_of_getElem? g)
        simp [isSome'] at this
      · obtain ⟨_, g'⟩ := σ_hi hk' e2
        have := distinct_inj hd g g'
        omega
section
variable {P : Program} {C : Cfg} {N : Nat}
/-- a round: what is kept behind it -/
def roundM (P : Program) (C : Cfg) (Lb : Nat → St → Option (T (Ex × St))) (N : Nat) (id : Nat) (body : Code) (n0 : Nat) (keep : List Nat) (mv : Mv) (ks : List Nat) (st : St) : T (Ex × St) :=
  (runC P C Lb N body st).bind fun r => match r.1 with
    | .normal => .leaf (.normal, r.2.tidy n0 keep mv ks)
    | .exit k => bif Nat.beq k id then .leaf (.exit id, r.2.tidy n0 keep mv ks) else .leaf r
    | .ret => .leaf r
/-- the same state, in other words -/
def Alt (st st' : St) : Prop := st'.H = st.H ∧ ∀ N B a, Slots N st.fr B a → Slots N st'.fr B a
theorem Alt.refl (st : St) : Alt st st := ⟨rfl, fun _ _ _ h => h⟩
def closeS : SV → SV
  | .v (.bool true) => .tt
  | .v (.bool false) => .ff
  | .v x => .c x
  | s => s
theorem closeS_to {B : List Value} (s : SV) : (closeS s).to B = s.to B := by unfold closeS; split <;> rfl
/-- what stands in these slots is known -/
def closeAt (cs : List Nat) (st : St) : St := ⟨st.fr.map fun p => (p.1, bif cs.any (Nat.beq p.1) then (match p.2 with | some s => some (closeS s) | none => none) else p.2), st.H⟩
theorem closeAt_look {cs : List Nat} : ∀ {l : List (Nat × Option SV)} {t : Nat} {s : SV}, look (l.map fun p => (p.1, bif cs.any (Nat.beq p.1) then (match p.2 with | some s => some (closeS s) | none => none) else p.2)) t = some s → ∃ s0, look l t = some s0 ∧ (s = s0 ∨ s = closeS s0)
  | [], _, _, h => by simp [look] at h
  | (u, o) :: l, t, s, h => by
    simp only [List.map_cons, look] at h ⊢
    cases hb : Nat.beq u t
    · rw [hb, cond_false] at h
      obtain ⟨s0, h1, h2⟩ := closeAt_look h
      exact ⟨s0, by rw [cond_false]; exact h1, h2⟩
    · rw [hb, cond_true] at h
      rw [cond_true]
      cases hc : cs.any (Nat.beq u)
      · rw [hc, cond_false] at h; exact ⟨s, h, .inl rfl⟩
      · rw [hc, cond_true] at h
        cases o with
        | none => cases h
        | some s0 => simp only [Option.some.injEq] at h; exact ⟨s0, rfl, .inr h.symm⟩
theorem closeAt_alt (cs : List Nat) (st : St) : Alt st (closeAt cs st) := by
  refine ⟨rfl, fun N B a h => ⟨h.size, h.defers, fun t s e => ?_⟩⟩
  obtain ⟨s0, h1, h2⟩ := closeAt_look e
  have := h.slot t s0 h1
  rcases h2 with rfl | rfl
  · exact this
  · rw [closeS_to]; exact this
/-- loops that hand letters on -/
theorem loop_mv (hC : CfgOk P C) (hP : P.follows .mixedOrders = true) {Lb : Nat → St → Option (T (Ex × St))} {id : Nat} {body : Code} (hlex : lexAll C.E body = true)
    (hL : ∀ id' b, (id', b) ∈ loopsOf body → ∀ st t, Lb id' st = some t → RunOk P N (.block id' (.loop b)) st t) {ι : Type} (I : ι → Prop) (inv : ι → St) (μ : ι → Nat) (n0 : Nat) (keep : List Nat) (mv : Mv) (ks : List Nat) {t : T (Ex × St)}
    (hround : ∀ Qs, t.ok Qs → ∀ i, I i → ∃ st', Alt (inv i) st' ∧ (roundM P C Lb N id body n0 keep mv ks st').ok (Behind id I inv μ i Qs)) {st : St} {i0 : ι} (h0 : I i0) :
    RunOk P N (.block id (.loop body)) st (.need (st.H.length = n0) (.need (st.tidy n0 keep mv ks = inv i0) t)) := by
  intro w0 bs pre B a w Qs Q hp hsl hm hq hQ
  obtain ⟨hn0, hst, hq⟩ := hq
  have hlen : B.length = n0 := hm.sat.len.trans hn0
  have hB0 : B.take n0 = B := List.take_of_length_le (by omega)
  have hsl0 := tidy_slots hsl (n0 := n0) (by omega) keep mv ks
  have hm0 := tidy_mem hsl hm (n0 := n0) (by omega) keep mv ks
  rw [hst, hB0] at hsl0 hm0
  refine wp_block ?_
  refine wp_loop_idx (ι := ι) (fun i a w => I i ∧ ∃ us, Slots N (inv i).fr (B ++ us) a ∧ Mem w0 bs (inv i).H (B ++ us) w) μ (fun i a w hi => ?_) i0 a w ⟨h0, _, hsl0, hm0⟩
  obtain ⟨hI, us, hs, hmi⟩ := hi
  obtain ⟨sa, hal, hro⟩ := hround Qs hq i hI
  refine runC_ok hC hP body hlex hL sa w0 bs (B ++ us) (B ++ us) a w _ _ (List.prefix_refl _) (hal.2 _ _ _ hs) (by rw [hal.1]; exact hmi) (T.ok_bind hro) fun r B' a' w' hr hpre hs' hm' => ?_
  obtain ⟨e, st'⟩ := r
  have hpB : B <+: B' := (List.prefix_append _ _).trans hpre
  have hBt : B'.take n0 = B := by
    obtain ⟨l, rfl⟩ := hpB
    rw [← hlen, List.take_left]
  have hnB : n0 ≤ B'.length := by have := hpB.length_le; omega
  have hon := tidy_slots hs' hnB keep mv ks
  have hom := tidy_mem hs' hm' hnB keep mv ks
  rw [hBt] at hon hom
  cases e with
  | normal =>
    obtain ⟨j, hj, hlt, e⟩ := hr
    exact ⟨j, hlt, hj, _, by rw [← e]; exact hon, by rw [← e]; exact hom⟩
  | ret => exact hQ _ B' a' w' hr (hp.trans hpB) hs' hm'
  | exit k =>
    simp only [Ex.to, Exit.then, Exit.inBlock]
    by_cases e : k = id
    · subst e
      simp only [Nat.beq_refl, cond_true] at hr
      have hr : (if k = k then Qs (.normal, st'.tidy n0 keep mv ks) else Qs (.exit k, st'.tidy n0 keep mv ks)) := hr
      rw [if_pos rfl] at hr ⊢
      exact hQ _ _ a' w' hr (hp.trans (List.prefix_append _ _)) hon hom
    · simp only [nat_beq_ne e, cond_false] at hr
      have hr : (if k = id then Qs (.normal, st') else Qs (.exit k, st')) := hr
      rw [if_neg e] at hr ⊢
      exact hQ _ B' a' w' hr (hp.trans hpB) hs' hm'
/-- the last round of a loop -/
def lastX (id : Nat) (r : Ex × St) : T (Ex × St) := match r.1 with
  | .normal => .stuck 39
  | .exit k => bif Nat.beq k id then .leaf (.normal, r.2) else .leaf r
  | .ret => .leaf r
/-- loops of which it is known when they end: in the round of n, and in none ahead of it -/
theorem loop_cnt (hC : CfgOk P C) (hP : P.follows .mixedOrders = true) {Lb : Nat → St → Option (T (Ex × St))} {id : Nat} {body : Code} (hlex : lexAll C.E body = true)
    (hL : ∀ id' b, (id', b) ∈ loopsOf body → ∀ st t, Lb id' st = some t → RunOk P N (.block id' (.loop b)) st t) {ι : Type} (I : ι → Prop) (inv : ι → St) (μ : ι → Nat) (n0 : Nat) (keep : List Nat) (mv : Mv) (ks : List Nat) (n : ι) (cs : List Nat)
    (hround : ∀ i, I i → i ≠ n → (roundM P C Lb N id body n0 keep mv ks (inv i)).ok fun r => r.1 = .normal ∧ ∃ j, I j ∧ μ j < μ i ∧ r.2 = inv j) {st : St} {i0 : ι} (h0 : I i0) :
    RunOk P N (.block id (.loop body)) st (.need (st.H.length = n0) (.need (st.tidy n0 keep mv ks = inv i0) ((roundM P C Lb N id body n0 keep mv ks (closeAt cs (inv n))).bind (lastX id)))) := by
  refine loop_mv hC hP hlex hL I inv μ n0 keep mv ks (fun Qs hq i hi => ?_) h0
  by_cases e : i = n
  · subst e
    refine ⟨_, closeAt_alt cs _, T.ok_mono (fun r hr => ?_) (T.ok_bind hq)⟩
    obtain ⟨x, st'⟩ := r
    cases x with
    | normal => exact (hr : False).elim
    | ret => exact hr
    | exit k =>
      unfold Behind
      simp only [lastX] at hr ⊢
      by_cases ek : k = id
      · subst ek
        rw [Nat.beq_refl, cond_true] at hr
        rw [if_pos rfl]; exact hr
      · rw [nat_beq_ne ek, cond_false] at hr
        rw [if_neg ek]; exact hr
  · refine ⟨_, .refl _, T.ok_mono (fun r hr => ?_) (hround i hi e)⟩
    obtain ⟨x, st'⟩ := r
    obtain ⟨h1, j, h2, h3, h4⟩ := hr
    simp only at h1
    subst h1
    exact ⟨j, h2, h3, h4⟩
/-- loops of which it is known when they end, and how -/
theorem loop_fin (hC : CfgOk P C) (hP : P.follows .mixedOrders = true) {Lb : Nat → St → Option (T (Ex × St))} {id : Nat} {body : Code} (hlex : lexAll C.E body = true)
    (hL : ∀ id' b, (id', b) ∈ loopsOf body → ∀ st t, Lb id' st = some t → RunOk P N (.block id' (.loop b)) st t) {ι : Type} (I : ι → Prop) (inv : ι → St) (μ : ι → Nat) (n0 : Nat) (keep : List Nat) (mv : Mv) (ks : List Nat) (n : ι) (fin : St)
    (hround : ∀ i, I i → i ≠ n → (roundM P C Lb N id body n0 keep mv ks (inv i)).ok fun r => r.1 = .normal ∧ ∃ j, I j ∧ μ j < μ i ∧ r.2 = inv j)
    (hend : (roundM P C Lb N id body n0 keep mv ks (inv n)).ok fun r => r = (.exit id, fin)) {st : St} {i0 : ι} (h0 : I i0) :
    RunOk P N (.block id (.loop body)) st (.need (st.H.length = n0) (.need (st.tidy n0 keep mv ks = inv i0) (.leaf (.normal, fin)))) := by
  refine loop_mv hC hP hlex hL I inv μ n0 keep mv ks (fun Qs hq i hi => ?_) h0
  by_cases e : i = n
  · subst e
    refine ⟨_, .refl _, T.ok_mono (fun r hr => ?_) hend⟩
    subst hr
    show if id = id then _ else _
    rw [if_pos rfl]; exact hq
  · refine ⟨_, .refl _, T.ok_mono (fun r hr => ?_) (hround i hi e)⟩
    obtain ⟨x, st'⟩ := r
    obtain ⟨h1, j, h2, h3, h4⟩ := hr
    simp only at h1
    subst h1
    exact ⟨j, h2, h3, h4⟩
/-- a loop within another one -/
def loopIn (c : Code) (k : Nat) : Code := ((loopsOf c).getD k (0, .skip)).2
/-! What stands in a state -/
def valAt (st : St) (t : Nat) : Value := match look st.fr t with
  | some s => (match s.plain with | some x => x | none => undef)
  | none => undef
def plainCell (s : SV) : Value := match s.plain with | some x => x | none => undef
def withStr {α : Type} (st : St) (t : Nat) (k : ByteArray → T α) : T α := match valAt st t with
  | .string s => k s
  | _ => .stuck 96
def withInt {α : Type} (st : St) (t : Nat) (k : Int → T α) : T α := match valAt st t with
  | .int _ z => k z
  | _ => .stuck 97
def withArr {α : Type} (st : St) (j : Nat) (k : (Nat → Int) → T α) : T α := match st.H[j]? with
  | some (.arr _ _ h) => k h
  | _ => .stuck 98
def withRow {α : Type} (st : St) (j : Nat) (k : Nat → (Nat → Nat → Value) → T α) : T α := match st.H[j]? with
  | some (.row n _ f) => k n f
  | _ => .stuck 99
def withVec {α : Type} (st : St) (j : Nat) (k : Nat → List Value → T α) : T α := match st.H[j]? with
  | some (.vec _ _ _ n xs) => k n xs
  | _ => .stuck 160
def withOwn {α : Type} (st : St) (j : Nat) (k : List SV → T α) : T α := match st.H[j]? with
  | some (.own cells) => k cells
  | _ => .stuck 161
theorem RunOk.stuck {c : Code} {st : St} {n : Nat} : RunOk P N c st (.stuck n) := fun _ _ _ _ _ _ _ _ _ _ _ h _ => h.elim
theorem RunOk.need {c : Code} {st : St} {p : Prop} {t : T (Ex × St)} (h : p → RunOk P N c st t) : RunOk P N c st (.need p t) := fun w0 bs pre B a w Qs Q h1 h2 h3 hq hQ => h hq.1 w0 bs pre B a w Qs Q h1 h2 h3 hq.2 hQ
theorem RunOk.str {c : Code} {st : St} {t : Nat} {k : ByteArray → T (Ex × St)} (h : ∀ s, RunOk P N c st (k s)) : RunOk P N c st (withStr st t k) := by
  unfold withStr; split
  · exact h _
  · exact .stuck
theorem RunOk.int {c : Code} {st : St} {t : Nat} {k : Int → T (Ex × St)} (h : ∀ s, RunOk P N c st (k s)) : RunOk P N c st (withInt st t k) := by
  unfold withInt; split
  · exact h _
  · exact .stuck
theorem RunOk.arr {c : Code} {st : St} {t : Nat} {k : (Nat → Int) → T (Ex × St)} (h : ∀ s, RunOk P N c st (k s)) : RunOk P N c st (withArr st t k) := by
  unfold withArr; split
  · exact h _
  · exact .stuck
theorem RunOk.row {c : Code} {st : St} {t : Nat} {k : Nat → (Nat → Nat → Value) → T (Ex × St)} (h : ∀ n f, RunOk P N c st (k n f)) : RunOk P N c st (withRow st t k) := by
  unfold withRow; split
  · exact h _ _
  · exact .stuck
theorem RunOk.vec {c : Code} {st : St} {t : Nat} {k : Nat → List Value → T (Ex × St)} (h : ∀ n xs, RunOk P N c st (k n xs)) : RunOk P N c st (withVec st t k) := by
  unfold withVec; split
  · exact h _ _
  · exact .stuck
theorem RunOk.own {c : Code} {st : St} {t : Nat} {k : List SV → T (Ex × St)} (h : ∀ l, RunOk P N c st (k l)) : RunOk P N c st (withOwn st t k) := by
  unfold withOwn; split
  · exact h _
  · exact .stuck
end
end Go.Proofs.Ytapogkodlempkaa.Sym
