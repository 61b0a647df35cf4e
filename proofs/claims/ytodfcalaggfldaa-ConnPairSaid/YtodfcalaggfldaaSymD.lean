/- The symbolic evaluator: loops that hand letters from round to round. No conditions. -/
import Derived.Test.YtodfcalaggfldaaSymC
namespace Go.Proofs.Ytodfcalaggfldaa.Sym
set_option linter.unusedVariables false
set_option linter.unusedSimpArgs false
open Go.RowKit

def isSome' (j : Nat) : Option Nat → Bool
  | some i => Nat.beq i j
  | none => false
theorem isSome'_iff {j : Nat} {o : Option Nat} : isSome' j o = true ↔ o = some j := by
  cases o with
  | none => simp [isSome']
  | some i => simp [isSome', Nat.beq_eq]
def distinct : List (Option Nat) → Bool
  | [] => true
  | none :: l => distinct l
  | some j :: l => !(l.any (isSome' j)) && distinct l
theorem distinct_inj : ∀ {js : List (Option Nat)}, distinct js = true → ∀ {a b j : Nat}, js[a]? = some (some j) → js[b]? = some (some j) → a = b
  | [], _, a, b, j, ha, _ => by simp at ha
  | none :: l, h, a, b, j, ha, hb => by
    cases a with
    | zero => simp at ha
    | succ a => cases b with
      | zero => simp at hb
      | succ b => have := distinct_inj (js := l) h (a := a) (b := b) (j := j) (by simpa using ha) (by simpa using hb); omega
  | some i :: l, h, a, b, j, ha, hb => by
    simp only [distinct, Bool.and_eq_true, Bool.not_eq_true'] at h
    have no : ∀ c : Nat, l[c]? = some (some i) → False := by
      intro c hc
      have := List.any_eq_false.1 h.1 _ (List.mem_of_getElem? hc)
      simp [isSome'] at this
    cases a with
    | zero =>
      simp at ha; subst ha
      cases b with
      | zero => rfl
      | succ b => exact (no b (by simpa using hb)).elim
    | succ a => cases b with
      | zero => simp at hb; subst hb; exact (no a (by simpa using ha)).elim
      | succ b => have := distinct_inj (js := l) h.2 (a := a) (b := b) (j := j) (by simpa using ha) (by simpa using hb); omega
/-- the letter that a slot holds whole -/
def srcOf : Option SV → Option Nat
  | some (.ref j) => some j
  | some (.ptr j off) => bif Nat.beq off 0 then some j else none
  | _ => none
def isNilS : Option SV → Bool
  | some (.c (.slice none 0 0)) => true
  | some (.v (.slice none 0 0)) => true
  | _ => false
def movedSV (n : Nat) : Option SV → Option SV
  | some (.ref _) => some (.ref n)
  | some (.ptr _ off) => bif Nat.beq off 0 then some (.ptr n 0) else none
  | s => bif isNilS s then some (.ref n) else none
def openVec : Blk → Blk
  | .vec _ e sz n xs => .vec true e sz n xs
  | b => b
def movedBlk (n0 : Nat) (H : List Blk) (e : TypeId) (sz : Nat) (s : Option SV) : Blk :=
  match srcOf s with
  | some j => (match H[j]? with | some b => cutBlk n0 (openVec b) | none => .gone)
  | none => bif isNilS s then .vec true e sz 0 [] else .gone
def keptBlks (n0 : Nat) (js : List (Option Nat)) : Nat → List Blk → List Blk
  | _, [] => []
  | k, b :: l => (bif js.any (isSome' k) then .gone else cutBlk n0 b) :: keptBlks n0 js (k + 1) l
theorem keptBlks_get {n0 : Nat} {js : List (Option Nat)} : ∀ {l : List Blk} {i k : Nat} {x : Blk}, (keptBlks n0 js i l)[k]? = some x → ∃ b, l[k]? = some b ∧ x = bif js.any (isSome' (i + k)) then .gone else cutBlk n0 b
  | [], _, _, _, h => by simp [keptBlks] at h
  | b :: l, i, 0, x, h => by simp only [keptBlks, List.getElem?_cons_zero, Option.some.injEq] at h; exact ⟨b, rfl, h.symm⟩
  | b :: l, i, k + 1, x, h => by
    simp only [keptBlks, List.getElem?_cons_succ] at h
    obtain ⟨b', h1, h2⟩ := keptBlks_get h
    exact ⟨b', by simpa using h1, by rw [h2, show i + 1 + k = i + (k + 1) by omega]⟩
theorem keptBlks_length {n0 : Nat} {js : List (Option Nat)} : ∀ (l : List Blk) (i : Nat), (keptBlks n0 js i l).length = l.length
  | [], _ => rfl
  | _ :: l, i => by simp [keptBlks, keptBlks_length l (i + 1)]
abbrev Mv := List (Nat × TypeId × Nat)
def srcs (mv : Mv) (fr : List (Nat × Option SV)) : List (Option Nat) := mv.map fun m => srcOf (look fr m.1)
def mvFr (n : Nat) (fr : List (Nat × Option SV)) : Mv → List (Nat × Option SV)
  | [] => []
  | m :: l => (m.1, movedSV n (look fr m.1)) :: mvFr (n + 1) fr l
/-- constants as any values -/
def openS : SV → SV
  | .c x => .v x
  | .tt => .v (.bool true)
  | .ff => .v (.bool false)
  | s => s
def openO : Option SV → Option SV
  | some s => some (openS s)
  | none => none
theorem openS_to {B : List Value} (s : SV) : (openS s).to B = s.to B := by cases s <;> rfl
theorem opens_tos {B : List Value} : ∀ (l : List SV), SV.tos B (l.map openS) = SV.tos B l
  | [] => rfl
  | s :: l => by simp only [List.map_cons, SV.tos, openS_to, opens_tos l]
def openBlk : Blk → Blk
  | .own cells => .own (cells.map openS)
  | b => b
theorem openBlk_excl (x : Blk) : (openBlk x).excl = x.excl := by cases x <;> rfl
theorem openBlk_row {x : Blk} {n sz : Nat} {f : Nat → Nat → Value} (h : openBlk x = .row n sz f) : x = .row n sz f := by cases x <;> first | exact h | cases h
theorem openBlk_sat {B : List Value} {w : World} {u : Value} {x : Blk} (h : BlkSat B w u x) : BlkSat B w u (openBlk x) := by
  cases x with
  | own cells =>
    obtain ⟨b, vs, h1, h2, h3⟩ := h
    exact ⟨b, vs, h1, by rw [opens_tos]; exact h2, h3⟩
  | _ => exact h
theorem openBlk_mem {w0 : World} {bs : List Nat} {H : List Blk} {B : List Value} {w : World} (h : Mem w0 bs H B w) : Mem w0 bs (H.map openBlk) B w := by
  have get : ∀ {k : Nat} {x : Blk}, (H.map openBlk)[k]? = some x → ∃ y, H[k]? = some y ∧ x = openBlk y := by
    intro k x hk
    rw [List.getElem?_map, Option.map_eq_some_iff] at hk
    obtain ⟨y, hy, rfl⟩ := hk
    exact ⟨y, hy, rfl⟩
  have ex : ∀ k b, ExBlk (H.map openBlk) B k b → ExBlk H B k b := by
    rintro k b ⟨x, u, h1, h2, h3, h4⟩
    obtain ⟨y, hy, rfl⟩ := get h1
    exact ⟨y, u, hy, by rw [← openBlk_excl]; exact h2, h3, h4⟩
  have rd : ∀ k b, RdBlk (H.map openBlk) B k b → RdBlk H B k b := by
    rintro k b ⟨n, sz, f, u, h1, h2, h3, h4, h5⟩
    obtain ⟨y, hy, e⟩ := get h1
    exact ⟨n, sz, f, u, by rw [hy, openBlk_row e.symm], h2, h3, h4, h5⟩
  refine ⟨⟨by simp [h.sat.len], fun k x u hk hu => ?_, fun k j b h1 h2 => h.sat.sep k j b (ex _ _ h1) (ex _ _ h2), fun k j b h1 h2 => h.sat.far k j b (ex _ _ h1) (rd _ _ h2)⟩, h.keeps, fun k b h1 => h.good k b (ex _ _ h1)⟩
  obtain ⟨y, hy, rfl⟩ := get hk
  exact openBlk_sat (h.sat.blk k y u hy hu)
/-- the outer letters as they are, and behind them what stands in the slots mv -/
def St.tidy (n0 : Nat) (keep : List Nat) (mv : Mv) (ks : List Nat) (st : St) : St :=
  ⟨mvFr n0 st.fr mv ++ keep.map (fun t => (t, openO (cutS n0 (look st.fr t)))),
   (ks.foldl softAt (keptBlks n0 (srcs mv st.fr) 0 (st.H.take n0) ++ (bif distinct (srcs mv st.fr) then mv.map fun m => movedBlk n0 st.H m.2.1 m.2.2 (look st.fr m.1) else mv.map fun _ => .gone))).map openBlk⟩
theorem look_append {a b : List (Nat × Option SV)} {t : Nat} {s : SV} (h : look (a ++ b) t = some s) : look a t = some s ∨ look b t = some s := by
  induction a with
  | nil => exact .inr h
  | cons p l ih =>
    obtain ⟨u, o⟩ := p
    simp only [List.cons_append, look] at h ⊢
    cases hb : Nat.beq u t
    · rw [hb, cond_false] at h; exact ih h
    · rw [hb, cond_true] at h; exact .inl h
theorem look_mvFr {fr : List (Nat × Option SV)} {t : Nat} {s : SV} : ∀ {mv : Mv} {n : Nat}, look (mvFr n fr mv) t = some s → ∃ i m, mv[i]? = some m ∧ m.1 = t ∧ movedSV (n + i) (look fr t) = some s
  | [], _, h => by simp [mvFr, look] at h
  | m :: l, n, h => by
    simp only [mvFr, look] at h
    cases hb : Nat.beq m.1 t
    · rw [hb, cond_false] at h
      obtain ⟨i, m', h1, h2, h3⟩ := look_mvFr h
      exact ⟨i + 1, m', by simpa using h1, h2, by rw [show n + (i + 1) = n + 1 + i by omega]; exact h3⟩
    · rw [hb, cond_true] at h
      have e := Nat.eq_of_beq_eq_true hb
      exact ⟨0, m, rfl, e, by rw [← e]; exact h⟩
def mvVals (a : Act) (mv : Mv) : List Value := mv.map fun m => a.tmps.getD m.1 undef
theorem tidy_slots {N n0 : Nat} {st : St} {B : List Value} {a : Act} (h : Slots N st.fr B a) (hn : n0 ≤ B.length) (keep : List Nat) (mv : Mv) (ks : List Nat) : Slots N (st.tidy n0 keep mv ks).fr (B.take n0 ++ mvVals a mv) a := by
  refine ⟨h.size, h.defers, fun t s e => ?_⟩
  have hlt : (B.take n0).length = n0 := by simp; omega
  rcases look_append e with e | e
  · obtain ⟨i, m, h1, h2, h3⟩ := look_mvFr e
    have hu : (B.take n0 ++ mvVals a mv)[n0 + i]? = some (a.tmps.getD t undef) := by
      rw [List.getElem?_append_right (by omega), hlt, Nat.add_sub_cancel_left]
      simp [mvVals, h1, h2]
    unfold movedSV at h3
    split at h3
    · simp only [Option.some.injEq] at h3; subst h3; exact hu
    · rename_i j off hl
      cases hb : Nat.beq off 0
      · rw [hb] at h3; cases h3
      · rw [hb, cond_true, Option.some.injEq] at h3
        subst h3
        have e0 := Nat.eq_of_beq_eq_true hb
        subst e0
        have h4 := h.slot t _ hl
        simp only [SV.to] at h4
        split at h4
        · simp only [Option.some.injEq] at h4
          simp only [SV.to, hu, ← h4]
        · cases h4
    · cases hb : isNilS (look st.fr t)
      · rw [hb] at h3; cases h3
      · rw [hb, cond_true, Option.some.injEq] at h3
        subst h3; exact hu
  · have e := look_only e
    have e : ∃ s0, cutS n0 (look st.fr t) = some s0 ∧ s = openS s0 := by
      cases hc : cutS n0 (look st.fr t) with
      | none => rw [hc] at e; cases e
      | some s0 => rw [hc] at e; simp only [openO, Option.some.injEq] at e; exact ⟨s0, rfl, e.symm⟩
    obtain ⟨s0, e9, rfl⟩ := e
    rw [openS_to]
    unfold cutS at e9
    split at e9
    · rename_i s' hs
      cases hb : s'.under n0
      · rw [hb] at e9; cases e9
      · rw [hb, cond_true, Option.some.injEq] at e9
        subst e9
        have h1 := h.slot t s' hs
        have h2 : s'.to (B.take n0) = s'.to B := SV.under_to (List.take_prefix _ _) (by rw [hlt]; exact hb)
        rw [← h2] at h1
        exact SV.to_mono (List.prefix_append _ _) h1
    · cases e9
theorem openVec_excl (x : Blk) : (openVec x).excl = x.excl := by cases x <;> rfl
theorem openVec_sat {B : List Value} {w : World} {u : Value} {x : Blk} (h : BlkSat B w u x) : BlkSat B w u (openVec x) := by cases x <;> exact h
theorem openVec_row {x : Blk} {m sz : Nat} {f : Nat → Nat → Value} (h : openVec x = .row m sz f) : x = .row m sz f := by
  cases x <;> first | exact h | cases h
/-- letters renamed -/
theorem remap_mem {w0 : World} {bs : List Nat} {H H' : List Blk} {B B' : List Value} {w : World} (h : Mem w0 bs H B w) (n0 : Nat) (hn : n0 ≤ B.length) (hlen : B'.length = H'.length) (hpre : B.take n0 <+: B') (σ : Nat → Option Nat)
    (hs : ∀ k x u, H'[k]? = some x → B'[k]? = some u → x = .gone ∨ (blockOf u = none ∧ BlkSat B' w u x) ∨ ∃ j y y', σ k = some j ∧ H[j]? = some y ∧ B[j]? = some u ∧ x = cutBlk n0 y' ∧ (y' = y ∨ y' = openVec y))
    (hinj : ∀ k k' j, σ k = some j → σ k' = some j → k = k') : Mem w0 bs H' B' w := by
  have hlt : (B.take n0).length = n0 := by simp; omega
  have ex : ∀ k b, ExBlk H' B' k b → ∃ j, σ k = some j ∧ ExBlk H B j b := by
    rintro k b ⟨x, u, h1, h2, h3, h4⟩
    rcases hs k x u h1 h3 with rfl | ⟨g, _⟩ | ⟨j, y, y', g1, g2, g3, rfl, hy⟩
    · cases h2
    · rw [g] at h4; cases h4
    · refine ⟨j, g1, y, u, g2, ?_, g3, h4⟩
      rcases hy with rfl | rfl
      · exact cutBlk_excl h2
      · rw [← openVec_excl]; exact cutBlk_excl h2
  have rd : ∀ k b, RdBlk H' B' k b → ∃ j, σ k = some j ∧ RdBlk H B j b := by
    rintro k b ⟨m, sz, f, u, h1, h2, h3, h4, h5⟩
    rcases hs k _ u h1 h4 with e | ⟨g, _⟩ | ⟨j, y, y', g1, g2, g3, e, hy⟩
    · cases e
    · rw [g] at h5; cases h5
    · refine ⟨j, g1, m, sz, f, u, ?_, h2, h3, g3, h5⟩
      rcases hy with rfl | rfl
      · rw [g2, cutBlk_row e.symm]
      · rw [g2, openVec_row (cutBlk_row e.symm)]
  refine ⟨⟨hlen, fun k x u hk hu => ?_, fun k j b h1 h2 => ?_, fun k j b h1 h2 => ?_⟩, h.keeps, fun k b h1 => ?_⟩
  · rcases hs k x u hk hu with rfl | ⟨_, g⟩ | ⟨j, y, y', g1, g2, g3, rfl, hy⟩
    · exact trivial
    · exact g
    · have hb : BlkSat B w u y' := by
        have hb := h.sat.blk j y u g2 g3
        rcases hy with rfl | rfl
        · exact hb
        · exact openVec_sat hb
      cases y' with
      | own cells =>
        simp only [cutBlk]
        cases hbl : SV.unders n0 cells
        · exact trivial
        · rw [cond_true]
          obtain ⟨b, vs, e1, e2, e3⟩ := hb
          refine ⟨b, vs, e1, ?_, e3⟩
          have := SV.unders_tos (List.take_prefix n0 B) (l := cells) (by rw [hlt]; exact hbl)
          rw [← this] at e2
          exact SV.tos_mono hpre e2
      | lst e sz m cells =>
        simp only [cutBlk]
        cases hbl : SV.unders n0 cells
        · exact trivial
        · rw [cond_true]
          obtain ⟨xs, e1, e2⟩ := hb
          refine ⟨xs, ?_, e2⟩
          have := SV.unders_tos (List.take_prefix n0 B) (l := cells) (by rw [hlt]; exact hbl)
          rw [← this] at e1
          exact SV.tos_mono hpre e1
      | _ => exact hb
  · obtain ⟨a, a1, a2⟩ := ex _ _ h1
    obtain ⟨c, c1, c2⟩ := ex _ _ h2
    have := h.sat.sep _ _ _ a2 c2
    subst this
    exact hinj _ _ _ a1 c1
  · obtain ⟨a, a1, a2⟩ := ex _ _ h1
    obtain ⟨c, c1, c2⟩ := rd _ _ h2
    exact h.sat.far _ _ _ a2 c2
  · obtain ⟨a, a1, a2⟩ := ex _ _ h1
    exact h.good _ _ a2
theorem src_val {N : Nat} {fr : List (Nat × Option SV)} {B : List Value} {a : Act} (h : Slots N fr B a) {t j : Nat} (e : srcOf (look fr t) = some j) : B[j]? = some (a.tmps.getD t undef) := by
  unfold srcOf at e
  split at e
  · rename_i k hl
    simp only [Option.some.injEq] at e; subst e
    exact h.slot t _ hl
  · rename_i k off hl
    cases hb : Nat.beq off 0
    · rw [hb] at e; cases e
    · rw [hb, cond_true, Option.some.injEq] at e
      subst e
      have e0 := Nat.eq_of_beq_eq_true hb
      subst e0
      have h4 := h.slot t _ hl
      simp only [SV.to] at h4
      split at h4
      · rename_i b hb'
        simp only [Option.some.injEq] at h4
        rw [hb', h4]
      · cases h4
  · cases e
theorem nil_val {N : Nat} {fr : List (Nat × Option SV)} {B : List Value} {a : Act} (h : Slots N fr B a) {t : Nat} (e : isNilS (look fr t) = true) : a.tmps.getD t undef = .slice none 0 0 := by
  unfold isNilS at e
  split at e
  · rename_i hl
    have := h.slot t _ hl
    simp only [SV.to, Option.some.injEq] at this
    exact this.symm
  · rename_i hl
    have := h.slot t _ hl
    simp only [SV.to, Option.some.injEq] at this
    exact this.symm
  · cases e
theorem tidy_mem {N : Nat} {w0 : World} {bs : List Nat} {st : St} {B : List Value} {a : Act} {w : World} (hsl : Slots N st.fr B a) (h : Mem w0 bs st.H B w) {n0 : Nat} (hn : n0 ≤ B.length) (keep : List Nat) (mv : Mv) (ks : List Nat) :
    Mem w0 bs (st.tidy n0 keep mv ks).H (B.take n0 ++ mvVals a mv) w := by
  refine openBlk_mem (softs_mem ks ?_)
  have hlt : (B.take n0).length = n0 := by simp; omega
  have hkl : (keptBlks n0 (srcs mv st.fr) 0 (st.H.take n0)).length = n0 := by rw [keptBlks_length, List.length_take, ← h.sat.len]; omega
  let σ : Nat → Option Nat := fun k => if k < n0 then (if (srcs mv st.fr).any (isSome' k) then none else some k) else (if distinct (srcs mv st.fr) then ((srcs mv st.fr)[k - n0]?).join else none)
  have σ_lo : ∀ {k j}, k < n0 → σ k = some j → j = k ∧ (srcs mv st.fr).any (isSome' k) = false := by
    intro k j hk e
    simp only [σ, if_pos hk] at e
    split at e
    · cases e
    · rename_i hc
      simp only [Option.some.injEq] at e
      exact ⟨e.symm, by simpa using hc⟩
  have σ_hi : ∀ {k j}, ¬ k < n0 → σ k = some j → distinct (srcs mv st.fr) = true ∧ (srcs mv st.fr)[k - n0]? = some (some j) := by
    intro k j hk e
    simp only [σ, if_neg hk] at e
    split at e
    · rename_i hd
      refine ⟨hd, ?_⟩
      cases hg : (srcs mv st.fr)[k - n0]? with
      | none => rw [hg] at e; cases e
      | some o => rw [hg] at e; rw [show o = some j from e]
    · cases e
  refine remap_mem h n0 hn ?_ (List.prefix_append _ _) σ ?_ ?_
  · rw [List.length_append, List.length_append, hlt, hkl]
    cases distinct (srcs mv st.fr) <;> simp [mvVals]
  · intro k x u hk hu
    by_cases hkn : k < n0
    · rw [List.getElem?_append_left (by rw [hkl]; exact hkn)] at hk
      rw [List.getElem?_append_left (by rw [hlt]; exact hkn)] at hu
      obtain ⟨b, h1, h2⟩ := keptBlks_get hk
      rw [Nat.zero_add] at h2
      cases hc : (srcs mv st.fr).any (isSome' k)
      · rw [hc, cond_false] at h2
        refine .inr (.inr ⟨k, b, b, ?_, ?_, ?_, h2, .inl rfl⟩)
        · simp only [σ, if_pos hkn, hc]; rfl
        · rw [List.getElem?_take, if_pos hkn] at h1; exact h1
        · rw [List.getElem?_take, if_pos hkn] at hu; exact hu
      · rw [hc, cond_true] at h2; exact .inl h2
    · rw [List.getElem?_append_right (by rw [hkl]; omega), hkl] at hk
      rw [List.getElem?_append_right (by rw [hlt]; omega), hlt] at hu
      cases hd : distinct (srcs mv st.fr)
      · rw [hd, cond_false, List.getElem?_map, Option.map_eq_some_iff] at hk
        obtain ⟨_, _, rfl⟩ := hk
        exact .inl rfl
      · rw [hd, cond_true, List.getElem?_map, Option.map_eq_some_iff] at hk
        obtain ⟨m, hm, rfl⟩ := hk
        have hu : u = a.tmps.getD m.1 undef := by
          simp only [mvVals, List.getElem?_map, hm, Option.map_some, Option.some.injEq] at hu
          exact hu.symm
        unfold movedBlk
        split
        · rename_i j hj
          have hbv := src_val hsl hj
          split
          · rename_i b hb
            refine .inr (.inr ⟨j, b, openVec b, ?_, hb, by rw [hu]; exact hbv, rfl, .inr rfl⟩)
            simp only [σ, if_neg hkn, hd, if_true]
            simp [srcs, hm, hj]
          · exact .inl rfl
        · cases hnil : isNilS (look st.fr m.1)
          · exact .inl rfl
          · rw [cond_true]
            have := nil_val hsl hnil
            rw [this] at hu
            subst hu
            exact .inr (.inl ⟨rfl, by simp [BlkSat, VecSat, World.ownsRow]⟩)
  · intro k k' j e1 e2
    by_cases hk : k < n0
    · obtain ⟨rfl, hno⟩ := σ_lo hk e1
      by_cases hk' : k' < n0
      · exact (σ_lo hk' e2).1
      · obtain ⟨_, g⟩ := σ_hi hk' e2
        have := List.any_eq_false.1 hno _ (List.mem_of_getElem? g)
        simp [isSome'] at this
    · obtain ⟨hd, g⟩ := σ_hi hk e1
      by_cases hk' : k' < n0
      · obtain ⟨rfl, hno⟩ := σ_lo hk' e2
        have := List.any_eq_false.1 hno _ (List.mem_of_getElem? g)
        simp [isSome'] at this
      · obtain ⟨_, g'⟩ := σ_hi hk' e2
        have := distinct_inj hd g g'
        omega
section
variable {P : Program} {C : Cfg} {N : Nat}
/-- a round: what is kept behind it -/
def roundM (P : Program) (C : Cfg) (Lb : Nat → St → Option (T (Ex × St))) (N : Nat) (id : Nat) (body : Code) (n0 : Nat) (keep : List Nat) (mv : Mv) (ks : List Nat) (st : St) : T (Ex × St) :=
  (runC P C Lb N body st).bind fun r => match r.1 with
    | .normal => .leaf (.normal, r.2.tidy n0 keep mv ks)
    | .exit k => bif Nat.beq k id then .leaf (.exit id, r.2.tidy n0 keep mv ks) else .leaf r
    | .ret => .leaf r
/-- the same state, in other words -/
def Alt (st st' : St) : Prop := st'.H = st.H ∧ ∀ N B a, Slots N st.fr B a → Slots N st'.fr B a
theorem Alt.refl (st : St) : Alt st st := ⟨rfl, fun _ _ _ h => h⟩
def closeS : SV → SV
  | .v (.bool true) => .tt
  | .v (.bool false) => .ff
  | .v x => .c x
  | s => s
theorem closeS_to {B : List Value} (s : SV) : (closeS s).to B = s.to B := by unfold closeS; split <;> rfl
/-- what stands in these slots is known -/
def closeAt (cs : List Nat) (st : St) : St := ⟨st.fr.map fun p => (p.1, bif cs.any (Nat.beq p.1) then (match p.2 with | some s => some (closeS s) | none => none) else p.2), st.H⟩
theorem closeAt_look {cs : List Nat} : ∀ {l : List (Nat × Option SV)} {t : Nat} {s : SV}, look (l.map fun p => (p.1, bif cs.any (Nat.beq p.1) then (match p.2 with | some s => some (closeS s) | none => none) else p.2)) t = some s → ∃ s0, look l t = some s0 ∧ (s = s0 ∨ s = closeS s0)
  | [], _, _, h => by simp [look] at h
  | (u, o) :: l, t, s, h => by
    simp only [List.map_cons, look] at h ⊢
    cases hb : Nat.beq u t
    · rw [hb, cond_false] at h
      obtain ⟨s0, h1, h2⟩ := closeAt_look h
      exact ⟨s0, by rw [cond_false]; exact h1, h2⟩
    · rw [hb, cond_true] at h
      rw [cond_true]
      cases hc : cs.any (Nat.beq u)
      · rw [hc, cond_false] at h; exact ⟨s, h, .inl rfl⟩
      · rw [hc, cond_true] at h
        cases o with
        | none => cases h
        | some s0 => simp only [Option.some.injEq] at h; exact ⟨s0, rfl, .inr h.symm⟩
theorem closeAt_alt (cs : List Nat) (st : St) : Alt st (closeAt cs st) := by
  refine ⟨rfl, fun N B a h => ⟨h.size, h.defers, fun t s e => ?_⟩⟩
  obtain ⟨s0, h1, h2⟩ := closeAt_look e
  have := h.slot t s0 h1
  rcases h2 with rfl | rfl
  · exact this
  · rw [closeS_to]; exact this
/-- loops that hand letters on -/
theorem loop_mv (hC : CfgOk P C) (hP : P.follows .mixedOrders = true) {Lb : Nat → St → Option (T (Ex × St))} {id : Nat} {body : Code} (hlex : lexAll C body = true)
    (hL : ∀ id' b, (id', b) ∈ loopsOf body → ∀ st t, Lb id' st = some t → RunOk P N (.block id' (.loop b)) st t) {ι : Type} (I : ι → Prop) (inv : ι → St) (μ : ι → Nat) (n0 : Nat) (keep : List Nat) (mv : Mv) (ks : List Nat) {t : T (Ex × St)}
    (hround : ∀ Qs, t.ok Qs → ∀ i, I i → ∃ st', Alt (inv i) st' ∧ (roundM P C Lb N id body n0 keep mv ks st').ok (Behind id I inv μ i Qs)) {st : St} {i0 : ι} (h0 : I i0) :
    RunOk P N (.block id (.loop body)) st (.need (st.H.length = n0) (.need (st.tidy n0 keep mv ks = inv i0) t)) := by
  intro w0 bs pre B a w Qs Q hp hsl hm hq hQ
  obtain ⟨hn0, hst, hq⟩ := hq
  have hlen : B.length = n0 := hm.sat.len.trans hn0
  have hB0 : B.take n0 = B := List.take_of_length_le (by omega)
  have hsl0 := tidy_slots hsl (n0 := n0) (by omega) keep mv ks
  have hm0 := tidy_mem hsl hm (n0 := n0) (by omega) keep mv ks
  rw [hst, hB0] at hsl0 hm0
  refine wp_block ?_
  refine wp_loop_idx (ι := ι) (fun i a w => I i ∧ ∃ us, Slots N (inv i).fr (B ++ us) a ∧ Mem w0 bs (inv i).H (B ++ us) w) μ (fun i a w hi => ?_) i0 a w ⟨h0, _, hsl0, hm0⟩
  obtain ⟨hI, us, hs, hmi⟩ := hi
  obtain ⟨sa, hal, hro⟩ := hround Qs hq i hI
  refine runC_ok hC hP body hlex hL sa w0 bs (B ++ us) (B ++ us) a w _ _ (List.prefix_refl _) (hal.2 _ _ _ hs) (by rw [hal.1]; exact hmi) (T.ok_bind hro) fun r B' a' w' hr hpre hs' hm' => ?_
  obtain ⟨e, st'⟩ := r
  have hpB : B <+: B' := (List.prefix_append _ _).trans hpre
  have hBt : B'.take n0 = B := by
    obtain ⟨l, rfl⟩ := hpB
    rw [← hlen, List.take_left]
  have hnB : n0 ≤ B'.length := by have := hpB.length_le; omega
  have hon := tidy_slots hs' hnB keep mv ks
  have hom := tidy_mem hs' hm' hnB keep mv ks
  rw [hBt] at hon hom
  cases e with
  | normal =>
    obtain ⟨j, hj, hlt, e⟩ := hr
    exact ⟨j, hlt, hj, _, by rw [← e]; exact hon, by rw [← e]; exact hom⟩
  | ret => exact hQ _ B' a' w' hr (hp.trans hpB) hs' hm'
  | exit k =>
    simp only [Ex.to, Exit.then, Exit.inBlock]
    by_cases e : k = id
    · subst e
      simp only [Nat.beq_refl, cond_true] at hr
      have hr : (if k = k then Qs (.normal, st'.tidy n0 keep mv ks) else Qs (.exit k, st'.tidy n0 keep mv ks)) := hr
      rw [if_pos rfl] at hr ⊢
      exact hQ _ _ a' w' hr (hp.trans (List.prefix_append _ _)) hon hom
    · simp only [nat_beq_ne e, cond_false] at hr
      have hr : (if k = id then Qs (.normal, st') else Qs (.exit k, st')) := hr
      rw [if_neg e] at hr ⊢
      exact hQ _ B' a' w' hr (hp.trans hpB) hs' hm'
/-- the last round of a loop -/
def lastX (id : Nat) (r : Ex × St) : T (Ex × St) := match r.1 with
  | .normal => .stuck 39
  | .exit k => bif Nat.beq k id then .leaf (.normal, r.2) else .leaf r
  | .ret => .leaf r
/-- loops of which it is known when they end: in the round of n, and in none ahead of it -/
theorem loop_cnt (hC : CfgOk P C) (hP : P.follows .mixedOrders = true) {Lb : Nat → St → Option (T (Ex × St))} {id : Nat} {body : Code} (hlex : lexAll C body = true)
    (hL : ∀ id' b, (id', b) ∈ loopsOf body → ∀ st t, Lb id' st = some t → RunOk P N (.block id' (.loop b)) st t) {ι : Type} (I : ι → Prop) (inv : ι → St) (μ : ι → Nat) (n0 : Nat) (keep : List Nat) (mv : Mv) (ks : List Nat) (n : ι) (cs : List Nat)
    (hround : ∀ i, I i → i ≠ n → (roundM P C Lb N id body n0 keep mv ks (inv i)).ok fun r => r.1 = .normal ∧ ∃ j, I j ∧ μ j < μ i ∧ r.2 = inv j) {st : St} {i0 : ι} (h0 : I i0) :
    RunOk P N (.block id (.loop body)) st (.need (st.H.length = n0) (.need (st.tidy n0 keep mv ks = inv i0) ((roundM P C Lb N id body n0 keep mv ks (closeAt cs (inv n))).bind (lastX id)))) := by
  refine loop_mv hC hP hlex hL I inv μ n0 keep mv ks (fun Qs hq i hi => ?_) h0
  by_cases e : i = n
  · subst e
    refine ⟨_, closeAt_alt cs _, T.ok_mono (fun r hr => ?_) (T.ok_bind hq)⟩
    obtain ⟨x, st'⟩ := r
    cases x with
    | normal => exact (hr : False).elim
    | ret => exact hr
    | exit k =>
      unfold Behind
      simp only [lastX] at hr ⊢
      by_cases ek : k = id
      · subst ek
        rw [Nat.beq_refl, cond_true] at hr
        rw [if_pos rfl]; exact hr
      · rw [nat_beq_ne ek, cond_false] at hr
        rw [if_neg ek]; exact hr
  · refine ⟨_, .refl _, T.ok_mono (fun r hr => ?_) (hround i hi e)⟩
    obtain ⟨x, st'⟩ := r
    obtain ⟨h1, j, h2, h3, h4⟩ := hr
    simp only at h1
    subst h1
    exact ⟨j, h2, h3, h4⟩
/-- loops of which it is known when they end, and how -/
theorem loop_fin (hC : CfgOk P C) (hP : P.follows .mixedOrders = true) {Lb : Nat → St → Option (T (Ex × St))} {id : Nat} {body : Code} (hlex : lexAll C body = true)
    (hL : ∀ id' b, (id', b) ∈ loopsOf body → ∀ st t, Lb id' st = some t → RunOk P N (.block id' (.loop b)) st t) {ι : Type} (I : ι → Prop) (inv : ι → St) (μ : ι → Nat) (n0 : Nat) (keep : List Nat) (mv : Mv) (ks : List Nat) (n : ι) (fin : St)
    (hround : ∀ i, I i → i ≠ n → (roundM P C Lb N id body n0 keep mv ks (inv i)).ok fun r => r.1 = .normal ∧ ∃ j, I j ∧ μ j < μ i ∧ r.2 = inv j)
    (hend : (roundM P C Lb N id body n0 keep mv ks (inv n)).ok fun r => r = (.exit id, fin)) {st : St} {i0 : ι} (h0 : I i0) :
    RunOk P N (.block id (.loop body)) st (.need (st.H.length = n0) (.need (st.tidy n0 keep mv ks = inv i0) (.leaf (.normal, fin)))) := by
  refine loop_mv hC hP hlex hL I inv μ n0 keep mv ks (fun Qs hq i hi => ?_) h0
  by_cases e : i = n
  · subst e
    refine ⟨_, .refl _, T.ok_mono (fun r hr => ?_) hend⟩
    subst hr
    show if id = id then _ else _
    rw [if_pos rfl]; exact hq
  · refine ⟨_, .refl _, T.ok_mono (fun r hr => ?_) (hround i hi e)⟩
    obtain ⟨x, st'⟩ := r
    obtain ⟨h1, j, h2, h3, h4⟩ := hr
    simp only at h1
    subst h1
    exact ⟨j, h2, h3, h4⟩
/-- a loop within another one -/
def loopIn (c : Code) (k : Nat) : Code := ((loopsOf c).getD k (0, .skip)).2
/-! What stands in a state -/
def valAt (st : St) (t : Nat) : Value := match look st.fr t with
  | some s => (match s.plain with | some x => x | none => undef)
  | none => undef
def plainCell (s : SV) : Value := match s.plain with | some x => x | none => undef
def withStr {α : Type} (st : St) (t : Nat) (k : ByteArray → T α) : T α := match valAt st t with
  | .string s => k s
  | _ => .stuck 96
def withInt {α : Type} (st : St) (t : Nat) (k : Int → T α) : T α := match valAt st t with
  | .int _ z => k z
  | _ => .stuck 97
def withArr {α : Type} (st : St) (j : Nat) (k : (Nat → Int) → T α) : T α := match st.H[j]? with
  | some (.arr _ _ h) => k h
  | _ => .stuck 98
def withRow {α : Type} (st : St) (j : Nat) (k : Nat → (Nat → Nat → Value) → T α) : T α := match st.H[j]? with
  | some (.row n _ f) => k n f
  | _ => .stuck 99
def withVec {α : Type} (st : St) (j : Nat) (k : Nat → List Value → T α) : T α := match st.H[j]? with
  | some (.vec _ _ _ n xs) => k n xs
  | _ => .stuck 160
def withOwn {α : Type} (st : St) (j : Nat) (k : List SV → T α) : T α := match st.H[j]? with
  | some (.own cells) => k cells
  | _ => .stuck 161
theorem RunOk.stuck {c : Code} {st : St} {n : Nat} : RunOk P N c st (.stuck n) := fun _ _ _ _ _ _ _ _ _ _ _ h _ => h.elim
theorem RunOk.need {c : Code} {st : St} {p : Prop} {t : T (Ex × St)} (h : p → RunOk P N c st t) : RunOk P N c st (.need p t) := fun w0 bs pre B a w Qs Q h1 h2 h3 hq hQ => h hq.1 w0 bs pre B a w Qs Q h1 h2 h3 hq.2 hQ
theorem RunOk.str {c : Code} {st : St} {t : Nat} {k : ByteArray → T (Ex × St)} (h : ∀ s, RunOk P N c st (k s)) : RunOk P N c st (withStr st t k) := by
  unfold withStr; split
  · exact h _
  · exact .stuck
theorem RunOk.int {c : Code} {st : St} {t : Nat} {k : Int → T (Ex × St)} (h : ∀ s, RunOk P N c st (k s)) : RunOk P N c st (withInt st t k) := by
  unfold withInt; split
  · exact h _
  · exact .stuck
theorem RunOk.arr {c : Code} {st : St} {t : Nat} {k : (Nat → Int) → T (Ex × St)} (h : ∀ s, RunOk P N c st (k s)) : RunOk P N c st (withArr st t k) := by
  unfold withArr; split
  · exact h _
  · exact .stuck
theorem RunOk.row {c : Code} {st : St} {t : Nat} {k : Nat → (Nat → Nat → Value) → T (Ex × St)} (h : ∀ n f, RunOk P N c st (k n f)) : RunOk P N c st (withRow st t k) := by
  unfold withRow; split
  · exact h _ _
  · exact .stuck
theorem RunOk.vec {c : Code} {st : St} {t : Nat} {k : Nat → List Value → T (Ex × St)} (h : ∀ n xs, RunOk P N c st (k n xs)) : RunOk P N c st (withVec st t k) := by
  unfold withVec; split
  · exact h _ _
  · exact .stuck
theorem RunOk.own {c : Code} {st : St} {t : Nat} {k : List SV → T (Ex × St)} (h : ∀ l, RunOk P N c st (k l)) : RunOk P N c st (withOwn st t k) := by
  unfold withOwn; split
  · exact h _
  · exact .stuck
end
end Go.Proofs.Ytodfcalaggfldaa.Sym
namespace Go.Proofs.Ytodfcalaggfldaa.Sym
set_option linter.unusedVariables false
set_option linter.unusedSimpArgs false
open Go.RowKit

/-- what a function does in a memory of which all letters are its own -/
abbrev LTab := FuncId → List SV → List Blk → Option (T (SV × List Blk))
def LOk (P : Program) (F : LTab) : Prop := ∀ f ss H t, F f ss H = some t → isGo P f = true ∧ ∀ (bs : List Nat) (B : List Value) (w : World) (vs : List Value), Mem w bs H B w → SV.tos B ss = some vs →
  ∀ Qs : SV × List Blk → Prop, t.ok Qs → Calls P f vs.toArray w fun e w' => ∃ s H' B' x, Qs (s, H') ∧ B <+: B' ∧ e = .returned x ∧ s.to B' = some x ∧ Mem w bs H' B' w'

/-! ### Names of letters -/
mutual
/-- the letters of ks by their places -/
def SV.loc (ks : List Nat) : SV → Option SV
  | .v x => some (.v x)
  | .c x => some (.c x)
  | .tt => some .tt
  | .ff => some .ff
  | .ptr k off => (posOf k ks 0).map fun i => .ptr i off
  | .ref k => (posOf k ks 0).map .ref
  | .elt k sz j off => (posOf k ks 0).map fun i => .elt i sz j off
  | .agg l => (SV.locs ks l).map .agg
  | .tup l => (SV.locs ks l).map .tup
  | .clo fn a b => match SV.locs ks a, SV.locs ks b with | some x, some y => some (.clo fn x y) | _, _ => none
  | .ifc t s => (SV.loc ks s).map (.ifc t)
def SV.locs (ks : List Nat) : List SV → Option (List SV)
  | [] => some []
  | s :: l => match SV.loc ks s, SV.locs ks l with | some x, some xs => some (x :: xs) | _, _ => none
end
mutual
/-- letters by other names -/
def SV.ren (ρ : Nat → Nat) : SV → SV
  | .v x => .v x
  | .c x => .c x
  | .tt => .tt
  | .ff => .ff
  | .ptr k off => .ptr (ρ k) off
  | .ref k => .ref (ρ k)
  | .elt k sz i off => .elt (ρ k) sz i off
  | .agg l => .agg (SV.rens ρ l)
  | .tup l => .tup (SV.rens ρ l)
  | .clo fn a b => .clo fn (SV.rens ρ a) (SV.rens ρ b)
  | .ifc t s => .ifc t (SV.ren ρ s)
def SV.rens (ρ : Nat → Nat) : List SV → List SV
  | [] => []
  | s :: l => SV.ren ρ s :: SV.rens ρ l
end
def Blk.loc (ks : List Nat) : Blk → Option Blk
  | .own cells => (SV.locs ks cells).map .own
  | .lst e sz n cells => (SV.locs ks cells).map (.lst e sz n)
  | b => some b
def Blk.ren (ρ : Nat → Nat) : Blk → Blk
  | .own cells => .own (SV.rens ρ cells)
  | .lst e sz n cells => .lst e sz n (SV.rens ρ cells)
  | b => b
section
variable {B Bl : List Value} {ks : List Nat}
mutual
theorem SV.loc_to (h : ∀ (i k : Nat), ks[i]? = some k → Bl[i]? = B[k]?) : ∀ {s s' : SV}, s.loc ks = some s' → s'.to Bl = s.to B
  | .v x, _, e => by simp only [SV.loc, Option.some.injEq] at e; subst e; rfl
  | .c x, _, e => by simp only [SV.loc, Option.some.injEq] at e; subst e; rfl
  | .tt, _, e => by simp only [SV.loc, Option.some.injEq] at e; subst e; rfl
  | .ff, _, e => by simp only [SV.loc, Option.some.injEq] at e; subst e; rfl
  | .ptr k off, _, e => by
    simp only [SV.loc, Option.map_eq_some_iff] at e
    obtain ⟨i, hi, rfl⟩ := e
    simp only [SV.to, h i k (by simpa using (posOf_get hi).2)]
  | .ref k, _, e => by
    simp only [SV.loc, Option.map_eq_some_iff] at e
    obtain ⟨i, hi, rfl⟩ := e
    simp only [SV.to, h i k (by simpa using (posOf_get hi).2)]
  | .elt k sz j off, _, e => by
    simp only [SV.loc, Option.map_eq_some_iff] at e
    obtain ⟨i, hi, rfl⟩ := e
    simp only [SV.to, h i k (by simpa using (posOf_get hi).2)]
  | .agg l, _, e => by
    simp only [SV.loc, Option.map_eq_some_iff] at e
    obtain ⟨l', hl, rfl⟩ := e
    simp only [SV.to, SV.locs_tos h hl]
  | .tup l, _, e => by
    simp only [SV.loc, Option.map_eq_some_iff] at e
    obtain ⟨l', hl, rfl⟩ := e
    simp only [SV.to, SV.locs_tos h hl]
  | .clo fn a b, _, e => by
    simp only [SV.loc] at e
    split at e
    · rename_i x y hx hy
      simp only [Option.some.injEq] at e; subst e
      simp only [SV.to, SV.locs_tos h hx, SV.locs_tos h hy]
    · cases e
  | .ifc t s, _, e => by
    simp only [SV.loc, Option.map_eq_some_iff] at e
    obtain ⟨s', hs, rfl⟩ := e
    simp only [SV.to, SV.loc_to h hs]
theorem SV.locs_tos (h : ∀ (i k : Nat), ks[i]? = some k → Bl[i]? = B[k]?) : ∀ {l l' : List SV}, SV.locs ks l = some l' → SV.tos Bl l' = SV.tos B l
  | [], _, e => by simp only [SV.locs, Option.some.injEq] at e; subst e; rfl
  | s :: l, _, e => by
    simp only [SV.locs] at e
    split at e
    · rename_i x xs hx hxs
      simp only [Option.some.injEq] at e; subst e
      simp only [SV.tos, SV.loc_to h hx, SV.locs_tos h hxs]
    · cases e
end
mutual
theorem SV.ren_to {ρ : Nat → Nat} (h : ∀ (i : Nat) (u : Value), Bl[i]? = some u → B[ρ i]? = some u) : ∀ {s : SV} {x : Value}, s.to Bl = some x → (s.ren ρ).to B = some x
  | .v x, _, e => e
  | .c x, _, e => e
  | .tt, _, e => e
  | .ff, _, e => e
  | .ptr k off, x, e => by
    simp only [SV.ren, SV.to] at e ⊢
    split at e
    · rename_i hb; rw [h _ _ hb]; exact e
    · cases e
  | .ref k, x, e => by simp only [SV.ren, SV.to] at e ⊢; exact h _ _ e
  | .elt k sz i off, x, e => by
    simp only [SV.ren, SV.to] at e ⊢
    split at e
    · rename_i hb; rw [h _ _ hb]; exact e
    · cases e
  | .agg l, x, e => by
    simp only [SV.ren, SV.to, Option.map_eq_some_iff] at e ⊢
    obtain ⟨vs, h1, h2⟩ := e
    exact ⟨vs, SV.rens_tos h h1, h2⟩
  | .tup l, x, e => by
    simp only [SV.ren, SV.to, Option.map_eq_some_iff] at e ⊢
    obtain ⟨vs, h1, h2⟩ := e
    exact ⟨vs, SV.rens_tos h h1, h2⟩
  | .clo fn a b, x, e => by
    simp only [SV.ren, SV.to] at e ⊢
    split at e
    · rename_i xs ys h1 h2
      rw [SV.rens_tos h h1, SV.rens_tos h h2]; exact e
    · cases e
  | .ifc t s, x, e => by
    simp only [SV.ren, SV.to, Option.map_eq_some_iff] at e ⊢
    obtain ⟨v, h1, h2⟩ := e
    exact ⟨v, SV.ren_to h h1, h2⟩
theorem SV.rens_tos {ρ : Nat → Nat} (h : ∀ (i : Nat) (u : Value), Bl[i]? = some u → B[ρ i]? = some u) : ∀ {l : List SV} {xs : List Value}, SV.tos Bl l = some xs → SV.tos B (SV.rens ρ l) = some xs
  | [], _, e => e
  | s :: l, xs, e => by
    simp only [SV.rens, SV.tos] at e ⊢
    split at e
    · rename_i x ys h1 h2
      rw [SV.ren_to h h1, SV.rens_tos h h2]; exact e
    · cases e
end
end
theorem Blk.ren_sat {B Bl : List Value} {ρ : Nat → Nat} (h : ∀ (i : Nat) (u : Value), Bl[i]? = some u → B[ρ i]? = some u) {w : World} {u : Value} {x : Blk} (hs : BlkSat Bl w u x) : BlkSat B w u (x.ren ρ) := by
  cases x with
  | own cells =>
    obtain ⟨b, vs, h1, h2, h3⟩ := hs
    exact ⟨b, vs, h1, SV.rens_tos h h2, h3⟩
  | lst e sz n cells =>
    obtain ⟨xs, h1, h2⟩ := hs
    exact ⟨xs, SV.rens_tos h h1, h2⟩
  | _ => exact hs
theorem Blk.loc_sat {B Bl : List Value} {ks : List Nat} (h : ∀ (i k : Nat), ks[i]? = some k → Bl[i]? = B[k]?) {w : World} {u : Value} {x y : Blk} (hl : x.loc ks = some y) (hs : BlkSat B w u x) : BlkSat Bl w u y := by
  cases x with
  | own cells =>
    simp only [Blk.loc, Option.map_eq_some_iff] at hl
    obtain ⟨c, hc, rfl⟩ := hl
    obtain ⟨b, vs, h1, h2, h3⟩ := hs
    exact ⟨b, vs, h1, by rw [SV.locs_tos h hc]; exact h2, h3⟩
  | lst e sz n cells =>
    simp only [Blk.loc, Option.map_eq_some_iff] at hl
    obtain ⟨c, hc, rfl⟩ := hl
    obtain ⟨xs, h1, h2⟩ := hs
    exact ⟨xs, by rw [SV.locs_tos h hc]; exact h1, h2⟩
  | _ => simp only [Blk.loc, Option.some.injEq] at hl; subst hl; exact hs
theorem Blk.loc_excl {ks : List Nat} {x y : Blk} (hl : x.loc ks = some y) : y.excl = x.excl := by
  cases x with
  | own cells =>
    simp only [Blk.loc, Option.map_eq_some_iff] at hl
    obtain ⟨c, hc, rfl⟩ := hl; rfl
  | lst e sz n cells =>
    simp only [Blk.loc, Option.map_eq_some_iff] at hl
    obtain ⟨c, hc, rfl⟩ := hl; rfl
  | _ => simp only [Blk.loc, Option.some.injEq] at hl; subst hl; rfl
theorem Blk.loc_row {ks : List Nat} {x : Blk} {n sz : Nat} {f : Nat → Nat → Value} (hl : x.loc ks = some (.row n sz f)) : x = .row n sz f := by
  cases x with
  | own cells =>
    simp only [Blk.loc, Option.map_eq_some_iff] at hl
    obtain ⟨c, hc, e⟩ := hl; cases e
  | lst e sz n cells =>
    simp only [Blk.loc, Option.map_eq_some_iff] at hl
    obtain ⟨c, hc, e⟩ := hl; cases e
  | _ => simp only [Blk.loc, Option.some.injEq] at hl; exact hl
theorem Blk.ren_excl {ρ : Nat → Nat} (x : Blk) : (x.ren ρ).excl = x.excl := by cases x <;> rfl
theorem Blk.ren_row {ρ : Nat → Nat} {x : Blk} {n sz : Nat} {f : Nat → Nat → Value} (h : x.ren ρ = .row n sz f) : x = .row n sz f := by
  cases x <;> first | exact h | cases h
def blks (g : Nat → Option Blk) (ks : List Nat) : List Nat → Option (List Blk)
  | [] => some []
  | k :: l => match g k, blks g ks l with
    | some b, some bs => (match b.loc ks with | some b' => some (b' :: bs) | none => none)
    | _, _ => none
def nodupN : List Nat → Bool
  | [] => true
  | k :: l => !l.any (Nat.beq k) && nodupN l
/-- what a local letter is called outside -/
def outer (ks : List Nat) (n i : Nat) : Nat := match ks[i]? with
  | some k => k
  | none => n + (i - ks.length)
/-- letters that are only read are not handed on -/
def hideRow : Blk → Blk
  | .row .. => .gone
  | b => b
/-- a slice of one's own, only read -/
def rowBlk : Blk → Blk
  | .vec _ _ sz n xs => .row n sz (fun i j => cellAt xs (i * sz + j))
  | b => b
def outMuts (ρ : Nat → Nat) : List Nat → List Blk → List Blk → List (Nat × Blk)
  | k :: ks, x :: xs, y :: ys => bif x.excl then (k, (hideRow y).ren ρ) :: outMuts ρ ks xs ys else outMuts ρ ks xs ys
  | _, _, _ => []
def goOut (ks : List Nat) (n : Nat) (H : List Blk) (r : SV × List Blk) : T (SV × Eff) :=
  .leaf (r.1.ren (outer ks n), ⟨outMuts (outer ks n) ks H r.2, (r.2.drop ks.length).map fun b => (hideRow b).ren (outer ks n)⟩)
def liftG (F : LTab) : GTab := fun f ss g n =>
  let ks := reach g 100 (SV.letss ss) []
  match blks g ks ks, SV.locs ks ss with
  | some H, some ss' => bif nodupN ks && ks.all (fun k => Nat.blt k n) then (match F f ss' H with
    | some t => some (t.bind (goOut ks n H))
    | none => (F f ss' (H.map rowBlk)).map fun t => t.bind (goOut ks n (H.map rowBlk))) else none
  | _, _ => none
theorem hideRow_excl {y : Blk} (h : (hideRow y).excl = true) : hideRow y = y := by cases y <;> first | rfl | cases h
theorem hideRow_sat {B : List Value} {w : World} {u : Value} {y : Blk} (h : BlkSat B w u y) : BlkSat B w u (hideRow y) := by cases y <;> first | exact h | trivial
theorem hideRow_row {y : Blk} {n sz : Nat} {f : Nat → Nat → Value} (h : hideRow y = .row n sz f) : False := by cases y <;> cases h
theorem rowBlk_excl {y : Blk} (h : (rowBlk y).excl = true) : rowBlk y = y := by cases y <;> first | rfl | cases h
theorem rowBlk_sat {B : List Value} {w : World} {u : Value} {y : Blk} (h : BlkSat B w u y) : BlkSat B w u (rowBlk y) := by
  cases y with
  | vec o e sz n xs =>
    have hv : VecSat w e sz u n xs := h
    have hl := hv.view.1
    rcases hv.view.2 with ⟨rfl, rfl⟩ | ⟨g, cap, rfl, hg, h1, h2, h3⟩
    · exact ⟨none, 0, rfl, Nat.le_refl _, Nat.zero_le _, fun i j hi => by omega⟩
    · refine ⟨_, cap, rfl, h1, h2, fun i j hi hj => ⟨_, rfl, ?_⟩⟩
      have hlt : i * sz + j < n * sz := by
        calc i * sz + j < i * sz + sz := by omega
          _ = (i + 1) * sz := by rw [Nat.add_mul, Nat.one_mul]
          _ ≤ n * sz := Nat.mul_le_mul_right _ hi
      rw [add_off, Nat.zero_add, (h3 _ hlt).1]
      simp [cellAt, List.getD_eq_getElem?_getD, List.getElem?_eq_getElem (show i * sz + j < xs.length by omega)]
  | _ => exact h
theorem rowBlk_row {y : Blk} {n sz : Nat} {f : Nat → Nat → Value} (h : rowBlk y = .row n sz f) : y = .row n sz f ∨ y.excl = true := by
  cases y with
  | vec o e sz n xs => exact .inr rfl
  | _ => exact .inl h
theorem nodupN_inj : ∀ {ks : List Nat}, nodupN ks = true → ∀ {i j k : Nat}, ks[i]? = some k → ks[j]? = some k → i = j
  | [], _, i, _, _, h, _ => by simp at h
  | a :: l, hn, i, j, k, hi, hj => by
    simp only [nodupN, Bool.and_eq_true, Bool.not_eq_true'] at hn
    have hno : ∀ m, l[m]? = some a → False := fun m hm => by
      have := List.any_eq_false.1 hn.1 a (List.mem_of_getElem? hm)
      exact this (Nat.beq_refl a)
    cases i with
    | zero =>
      simp only [List.getElem?_cons_zero, Option.some.injEq] at hi
      subst hi
      cases j with
      | zero => rfl
      | succ j => exact (hno j (by simpa using hj)).elim
    | succ i =>
      cases j with
      | zero =>
        simp only [List.getElem?_cons_zero, Option.some.injEq] at hj
        subst hj
        exact (hno i (by simpa using hi)).elim
      | succ j =>
        have := nodupN_inj hn.2 (i := i) (j := j) (by simpa using hi) (by simpa using hj)
        rw [this]
theorem blks_get {g : Nat → Option Blk} {ks : List Nat} : ∀ {l : List Nat} {H : List Blk}, blks g ks l = some H → H.length = l.length ∧ ∀ (i k : Nat), l[i]? = some k → ∃ b b', g k = some b ∧ b.loc ks = some b' ∧ H[i]? = some b'
  | [], H, h => by simp only [blks, Option.some.injEq] at h; subst h; exact ⟨rfl, by simp⟩
  | a :: l, H, h => by
    simp only [blks] at h
    split at h
    · rename_i b bs hb hbs
      split at h
      · rename_i b' hb'
        simp only [Option.some.injEq] at h
        subst h
        obtain ⟨h1, h2⟩ := blks_get hbs
        refine ⟨by simp [h1], fun i k hi => ?_⟩
        cases i with
        | zero => simp only [List.getElem?_cons_zero, Option.some.injEq] at hi; subst hi; exact ⟨b, b', hb, hb', rfl⟩
        | succ i => simpa using h2 i k (by simpa using hi)
      · cases h
    · cases h
/-- what the letters outside become -/
theorem outMuts_get {ρ : Nat → Nat} : ∀ {ks : List Nat} {xs ys : List Blk}, nodupN ks = true → ks.length = xs.length → xs.length ≤ ys.length → ∀ (H : List Blk), (∀ k ∈ ks, k < H.length) → ∀ (k : Nat),
    (∃ (i : Nat) (x y : Blk), ks[i]? = some k ∧ xs[i]? = some x ∧ ys[i]? = some y ∧ x.excl = true ∧ ((outMuts ρ ks xs ys).foldl (fun H p => H.set p.1 p.2) H)[k]? = some ((hideRow y).ren ρ)) ∨
    ((∀ (i : Nat) (x : Blk), ks[i]? = some k → xs[i]? = some x → x.excl = false) ∧ ((outMuts ρ ks xs ys).foldl (fun H p => H.set p.1 p.2) H)[k]? = H[k]?)
  | [], xs, ys, _, _, _, H, _, k => .inr ⟨by simp, by simp [outMuts]⟩
  | a :: ks, [], _, _, h, _, _, _, _ => by simp at h
  | a :: ks, x :: xs, [], _, _, h, _, _, _ => by simp at h
  | a :: ks, x :: xs, y :: ys, hn, h1, h2, H, hlt, k => by
    have hn' := hn
    simp only [nodupN, Bool.and_eq_true, Bool.not_eq_true'] at hn
    have ih := fun H' (hl : ∀ k ∈ ks, k < H'.length) => outMuts_get (ρ := ρ) hn.2 (by simpa using h1) (by simpa using h2) H' hl k
    have hnot : ∀ i : Nat, ks[i]? = some a → False := fun m hm => by
      have := List.any_eq_false.1 hn.1 a (List.mem_of_getElem? hm)
      exact this (Nat.beq_refl a)
    cases he : x.excl
    · simp only [outMuts, he, cond_false]
      rcases ih H (fun k hk => hlt k (List.mem_cons_of_mem _ hk)) with ⟨i, x', y', g1, g2, g3, g4, g5⟩ | ⟨g1, g2⟩
      · exact .inl ⟨i + 1, x', y', by simpa using g1, by simpa using g2, by simpa using g3, g4, g5⟩
      · refine .inr ⟨fun i x' hi hx => ?_, g2⟩
        cases i with
        | zero => simp only [List.getElem?_cons_zero, Option.some.injEq] at hx; subst hx; exact he
        | succ i => exact g1 i x' (by simpa using hi) (by simpa using hx)
    · simp only [outMuts, he, cond_true, List.foldl_cons]
      rcases ih (H.set a ((hideRow y).ren ρ)) (fun k hk => by simpa using hlt k (List.mem_cons_of_mem _ hk)) with ⟨i, x', y', g1, g2, g3, g4, g5⟩ | ⟨g1, g2⟩
      · exact .inl ⟨i + 1, x', y', by simpa using g1, by simpa using g2, by simpa using g3, g4, g5⟩
      · by_cases hka : k = a
        · subst hka
          refine .inl ⟨0, x, y, rfl, rfl, rfl, he, ?_⟩
          rw [g2, List.getElem?_set_self (hlt k (List.mem_cons_self ..))]
        · refine .inr ⟨fun i x' hi hx => ?_, ?_⟩
          · cases i with
            | zero => simp only [List.getElem?_cons_zero, Option.some.injEq] at hi; exact absurd hi.symm hka
            | succ i => exact g1 i x' (by simpa using hi) (by simpa using hx)
          · rw [g2, List.getElem?_set_ne (fun h => hka h.symm)]
theorem lift_core {P : Program} {f : FuncId} {ss ss' : List SV} {n : Nat} {ks : List Nat} {Hl : List Blk} {t0 : T (SV × List Blk)} (hlocs : SV.locs ks ss = some ss') (hnd : nodupN ks = true) (hall : (ks.all fun k => Nat.blt k n) = true) (hHl : Hl.length = ks.length)
    (hcalls : ∀ (bs : List Nat) (B : List Value) (w : World) (vs : List Value), Mem w bs Hl B w → SV.tos B ss' = some vs → ∀ Qs : SV × List Blk → Prop, t0.ok Qs → Calls P f vs.toArray w fun e w' => ∃ s H' B' x, Qs (s, H') ∧ B <+: B' ∧ e = .returned x ∧ s.to B' = some x ∧ Mem w bs H' B' w')
    {w0 : World} {bs : List Nat} {H : List Blk} {B : List Value} {w : World} {vs : List Value} (hm : Mem w0 bs H B w) (hn : n = H.length) (hvs : SV.tos B ss = some vs)
    (up : ∀ (i : Nat) (x : Blk), Hl[i]? = some x → ∃ k y y', ks[i]? = some k ∧ H[k]? = some y ∧ y.loc ks = some y' ∧ (x = y' ∨ x = rowBlk y'))
    {Qs : SV × Eff → Prop} (hq : (t0.bind (goOut ks n Hl)).ok Qs) : Calls P f vs.toArray w fun e w' => ∃ s ef B' x, Qs (s, ef) ∧ B <+: B' ∧ e = .returned x ∧ s.to B' = some x ∧ Mem w0 bs (ef.run H) B' w' := by
  have hkn : ∀ (i k : Nat), ks[i]? = some k → k < H.length := fun i k hi => by
    have := List.all_eq_true.1 hall k (List.mem_of_getElem? hi)
    rw [hn] at this
    simpa [Nat.blt_eq] using this
  -- the small memory
  let Bl := ks.map fun k => (B[k]?).getD undef
  have hBl : ∀ (i k : Nat), ks[i]? = some k → Bl[i]? = B[k]? := fun i k hi => by
    have hk : k < B.length := by rw [hm.sat.len]; exact hkn i k hi
    simp only [Bl, List.getElem?_map, hi, Option.map_some, List.getElem?_eq_getElem hk, Option.getD_some]
  have hBll : Bl.length = ks.length := by simp [Bl]
  have exUp : ∀ i b, ExBlk Hl Bl i b → ∃ k, ks[i]? = some k ∧ ExBlk H B k b := by
    rintro i b ⟨x, u, h1, h2, h3, h4⟩
    obtain ⟨k, y, y', hk, hy, hloc, hx⟩ := up i x h1
    have e : x = y' := by
      rcases hx with rfl | rfl
      · rfl
      · exact rowBlk_excl h2
    subst e
    exact ⟨k, hk, y, u, hy, by rw [← Blk.loc_excl hloc]; exact h2, by rw [← hBl i k hk]; exact h3, h4⟩
  have rdUp : ∀ i b, RdBlk Hl Bl i b → ∃ k, ks[i]? = some k ∧ (RdBlk H B k b ∨ ExBlk H B k b) := by
    rintro i b ⟨m, sz, ff, u, h1, h2, h3, h4, h5⟩
    obtain ⟨k, y, y', hk, hy, hloc, hx⟩ := up i _ h1
    have hu : B[k]? = some u := by rw [← hBl i k hk]; exact h4
    have e : y' = .row m sz ff ∨ y'.excl = true := by
      rcases hx with h | h
      · exact .inl h.symm
      · exact rowBlk_row h.symm
    rcases e with rfl | e
    · exact ⟨k, hk, .inl ⟨m, sz, ff, u, by rw [hy, Blk.loc_row hloc], h2, h3, hu, h5⟩⟩
    · exact ⟨k, hk, .inr ⟨y, u, hy, by rw [← Blk.loc_excl hloc]; exact e, hu, h5⟩⟩
  obtain ⟨bl, hbl⟩ : ∃ bl : List Nat, ∀ b, b ∈ bl ↔ ∃ i, ExBlk Hl Bl i b := by
    classical
    refine ⟨(List.range w.heap.size).filter fun b => decide (∃ i, ExBlk Hl Bl i b), fun b => ?_⟩
    simp only [List.mem_filter, List.mem_range, decide_eq_true_eq]
    exact ⟨fun h => h.2, fun h => ⟨by obtain ⟨i, hi⟩ := h; obtain ⟨k, _, hk⟩ := exUp i b hi; exact hm.sat.ex_lt hk, h⟩⟩
  have hml : Mem w bl Hl Bl w := by
    refine ⟨⟨by rw [hBll, hHl], fun i x u hi hu => ?_, fun i j b h1 h2 => ?_, fun i j b h1 h2 => ?_⟩, .refl _ _, fun i b hi => .inl ((hbl b).2 ⟨i, hi⟩)⟩
    · obtain ⟨k, y, y', hk, hy, hloc, hx⟩ := up i x hi
      have := Blk.loc_sat hBl hloc (hm.sat.blk k y u hy (by rw [← hBl i k hk]; exact hu))
      rcases hx with rfl | rfl
      · exact this
      · exact rowBlk_sat this
    · obtain ⟨k, hk, e1⟩ := exUp i b h1
      obtain ⟨k', hk', e2⟩ := exUp j b h2
      have := hm.sat.sep _ _ _ e1 e2
      subst this
      exact nodupN_inj hnd hk hk'
    · obtain ⟨k, hk, e1⟩ := exUp i b h1
      obtain ⟨k', hk', e2 | e2⟩ := rdUp j b h2
      · exact hm.sat.far _ _ _ e1 e2
      · have := hm.sat.sep _ _ _ e1 e2
        subst this
        have := nodupN_inj hnd hk hk'
        subst this
        obtain ⟨x, u, g1, g2, -⟩ := h1
        obtain ⟨m, sz, ff, u', g3, -⟩ := h2
        rw [g1, Option.some.injEq] at g3
        subst g3
        cases g2
  have hvl : SV.tos Bl ss' = some vs := by rw [SV.locs_tos hBl hlocs]; exact hvs
  refine (hcalls bl Bl w vs hml hvl _ (T.ok_bind hq)).mono ?_
  rintro e w' ⟨s, H', Bl', x, hQ, hpre, rfl, hx, hm'⟩
  unfold goOut at hQ
  simp only at hQ
  -- names
  let B' := B ++ Bl'.drop ks.length
  have hlen' : Bl'.length = H'.length := hm'.sat.len
  have f1 : Hl.length ≤ H'.length := by rw [← hlen', hHl, ← hBll]; exact hpre.length_le
  have hlo : ∀ i, i < ks.length → Bl'[i]? = Bl[i]? := fun i hi => (getElem?_of_prefix hpre (by rw [hBll]; exact hi)).symm
  have hρ : ∀ (i : Nat) (u : Value), Bl'[i]? = some u → B'[outer ks n i]? = some u := by
    intro i u hu
    unfold outer
    split
    · rename_i k hk
      have hil := (List.getElem?_eq_some_iff.1 hk).1
      rw [hlo i hil, hBl i k hk] at hu
      have hkl := (List.getElem?_eq_some_iff.1 hu).1
      rw [List.getElem?_append_left hkl]; exact hu
    · rename_i hk
      have hil : ks.length ≤ i := by simpa using hk
      rw [hn, ← hm.sat.len, List.getElem?_append_right (by omega), List.getElem?_drop]
      rw [show ks.length + (B.length + (i - ks.length) - B.length) = i by omega]; exact hu
  -- what the letters are behind
  have hnews : ((H'.drop ks.length).map (fun b => (hideRow b).ren (outer ks n))).length = H'.length - ks.length := by simp
  let Hf := (outMuts (outer ks n) ks Hl H').foldl (fun H p => H.set p.1 p.2) H
  have hHf : Hf.length = H.length := foldl_set_length _ _
  have hrun : ∀ k : Nat, (Eff.run ⟨outMuts (outer ks n) ks Hl H', (H'.drop ks.length).map fun b => (hideRow b).ren (outer ks n)⟩ H)[k]? = (Hf ++ (H'.drop ks.length).map (fun b => (hideRow b).ren (outer ks n)))[k]? := by
    intro k
    unfold Eff.run
    split
    · rename_i h0
      simp only at h0
      rw [h0, List.append_nil]
    · rfl
  have cls : ∀ (k : Nat) (x : Blk), (Eff.run ⟨outMuts (outer ks n) ks Hl H', (H'.drop ks.length).map fun b => (hideRow b).ren (outer ks n)⟩ H)[k]? = some x →
      (∃ (i : Nat) (y : Blk), k = outer ks n i ∧ H'[i]? = some y ∧ x = (hideRow y).ren (outer ks n) ∧ B'[k]? = Bl'[i]?) ∨
      (k < H.length ∧ H[k]? = some x ∧ B'[k]? = B[k]? ∧ ∀ (i : Nat) (b : Nat), ks[i]? = some k → ¬ ExBlk Hl Bl i b) := by
    intro k x hx
    rw [hrun] at hx
    rcases Nat.lt_or_ge k H.length with hk | hk
    · rw [List.getElem?_append_left (by rw [hHf]; exact hk)] at hx
      have hBk : B'[k]? = B[k]? := by rw [List.getElem?_append_left (by rw [hm.sat.len]; exact hk)]
      rcases outMuts_get (ρ := outer ks n) hnd hHl.symm f1 H (fun k hk => by obtain ⟨i, hi⟩ := List.getElem?_of_mem hk; exact hkn i k hi) k with ⟨i, x', y, g1, g2, g3, g4, g5⟩ | ⟨g1, g2⟩
      · rw [show Hf[k]? = _ from g5, Option.some.injEq] at hx
        have hil := (List.getElem?_eq_some_iff.1 g1).1
        refine .inl ⟨i, y, ?_, g3, hx.symm, ?_⟩
        · unfold outer; rw [g1]
        · rw [hBk, hlo i hil, hBl i k g1]
      · rw [show Hf[k]? = _ from g2] at hx
        refine .inr ⟨hk, hx, hBk, fun i b hi hex => ?_⟩
        obtain ⟨x', u, e1, e2, -⟩ := hex
        rw [g1 i x' hi e1] at e2; cases e2
    · rw [List.getElem?_append_right (by rw [hHf]; exact hk), hHf, List.getElem?_map, Option.map_eq_some_iff] at hx
      obtain ⟨y, hy, rfl⟩ := hx
      rw [List.getElem?_drop] at hy
      have hil : ks.length + (k - H.length) < H'.length := (List.getElem?_eq_some_iff.1 hy).1
      refine .inl ⟨ks.length + (k - H.length), y, ?_, hy, rfl, ?_⟩
      · unfold outer
        rw [List.getElem?_eq_none (by omega)]
        simp only; omega
      · rw [List.getElem?_append_right (by rw [hm.sat.len]; exact hk), List.getElem?_drop, hm.sat.len]
  have outInj : ∀ {i j : Nat}, i < H'.length → j < H'.length → outer ks n i = outer ks n j → i = j := by
    intro i j hi hj e
    unfold outer at e
    cases ha : ks[i]? with
    | some a =>
      rw [ha] at e
      cases hb : ks[j]? with
      | some b => rw [hb] at e; simp only at e; subst e; exact nodupN_inj hnd ha hb
      | none => rw [hb] at e; simp only at e; have := hkn _ _ ha; omega
    | none =>
      rw [ha] at e
      cases hb : ks[j]? with
      | some b => rw [hb] at e; simp only at e; have := hkn _ _ hb; omega
      | none =>
        rw [hb] at e
        simp only [List.getElem?_eq_none_iff] at ha hb
        simp only at e
        omega
  have exOut : ∀ k b, ExBlk (Eff.run ⟨outMuts (outer ks n) ks Hl H', (H'.drop ks.length).map fun b => (hideRow b).ren (outer ks n)⟩ H) B' k b →
      (∃ i, k = outer ks n i ∧ i < H'.length ∧ ExBlk H' Bl' i b) ∨ (ExBlk H B k b ∧ b ∉ bl) := by
    rintro k b ⟨x, u, h1, h2, h3, h4⟩
    rcases cls k x h1 with ⟨i, y, g1, g2, rfl, g5⟩ | ⟨g1, g2, g3, g4⟩
    · rw [Blk.ren_excl] at h2
      exact .inl ⟨i, g1, (List.getElem?_eq_some_iff.1 g2).1, y, u, g2, by rw [← hideRow_excl h2]; exact h2, by rw [← g5]; exact h3, h4⟩
    · have hex : ExBlk H B k b := ⟨x, u, g2, h2, by rw [← g3]; exact h3, h4⟩
      refine .inr ⟨hex, fun hin => ?_⟩
      obtain ⟨i, hi⟩ := (hbl b).1 hin
      obtain ⟨k', hk', e2⟩ := exUp i b hi
      have := hm.sat.sep _ _ _ hex e2
      subst this
      exact g4 i b hk' hi
  have rdOut : ∀ k b, RdBlk (Eff.run ⟨outMuts (outer ks n) ks Hl H', (H'.drop ks.length).map fun b => (hideRow b).ren (outer ks n)⟩ H) B' k b → RdBlk H B k b := by
    rintro k b ⟨m, sz, ff, u, h1, h2, h3, h4, h5⟩
    rcases cls k _ h1 with ⟨i, y, g1, g2, e, g5⟩ | ⟨g1, g2, g3, g4⟩
    · exact (hideRow_row (Blk.ren_row e.symm)).elim
    · exact ⟨m, sz, ff, u, g2, h2, h3, by rw [← g3]; exact h4, h5⟩
  have hgl : ∀ i b, ExBlk H' Bl' i b → b ∈ bl ∨ w.heap.size ≤ b := fun i b h => hm'.good i b h
  have blIn : ∀ b, b ∈ bl → ∃ k, ExBlk H B k b := fun b hb => by
    obtain ⟨i, hi⟩ := (hbl b).1 hb
    obtain ⟨k, _, e⟩ := exUp i b hi
    exact ⟨k, e⟩
  refine ⟨_, _, B', x, hQ, List.prefix_append _ _, rfl, SV.ren_to hρ hx, ⟨⟨?_, fun k x u hk hu => ?_, fun k j b h1 h2 => ?_, fun k j b h1 h2 => ?_⟩, ⟨?_, ?_, ?_, ?_, fun k hk hnb => ?_⟩, fun k b hk => ?_⟩⟩
  · have : (Eff.run ⟨outMuts (outer ks n) ks Hl H', (H'.drop ks.length).map fun b => (hideRow b).ren (outer ks n)⟩ H).length = (Hf ++ (H'.drop ks.length).map (fun b => (hideRow b).ren (outer ks n))).length := by
      unfold Eff.run
      split
      · rename_i h0
        simp only at h0
        rw [h0, List.append_nil]
      · rfl
    rw [this]
    simp only [B', List.length_append, List.length_drop, List.length_map, hHf, hm.sat.len, hlen']
  · rcases cls k x hk with ⟨i, y, g1, g2, rfl, g5⟩ | ⟨g1, g2, g3, g4⟩
    · exact Blk.ren_sat hρ (hideRow_sat (hm'.sat.blk i y u g2 (by rw [← g5]; exact hu)))
    · rw [g3] at hu
      have h0 := hm.sat.blk k x u g2 hu
      have hpre' : B <+: B' := List.prefix_append _ _
      cases hxe : x.excl
      · cases x with
        | gone => trivial
        | row m sz ff =>
          obtain ⟨p, cap, rfl, e1, e2, e3⟩ := h0
          refine ⟨p, cap, rfl, e1, e2, fun i j hi hj => ?_⟩
          obtain ⟨a, rfl, hc⟩ := e3 i j hi hj
          refine ⟨a, rfl, ?_⟩
          have hlt := cell_lt hc
          rw [addr_add_block] at hlt
          refine (World.cell?_of_block ?_).trans hc
          rw [addr_add_block]
          refine hm'.keeps.block _ hlt fun hin => ?_
          obtain ⟨k', e⟩ := blIn _ hin
          exact hm.sat.far k' k _ e ⟨m, sz, ff, _, g2, by omega, by omega, hu, rfl⟩
        | own _ => cases hxe
        | arr _ _ _ => cases hxe
        | vec _ _ _ _ _ => cases hxe
        | lst _ _ _ _ => cases hxe
        | ext _ => cases hxe
      · refine (h0.mono hpre').kept hm'.keeps.size fun b hb hlt => hm'.keeps.block b hlt fun hin => ?_
        obtain ⟨i, hi⟩ := (hbl b).1 hin
        obtain ⟨k', hk', e2⟩ := exUp i b hi
        have := hm.sat.sep _ _ _ ⟨x, u, g2, hxe, hu, hb⟩ e2
        subst this
        exact g4 i b hk' hi
  · rcases exOut k b h1 with ⟨i, rfl, hi, e1⟩ | ⟨e1, n1⟩ <;> rcases exOut j b h2 with ⟨i', rfl, hi', e2⟩ | ⟨e2, n2⟩
    · rw [hm'.sat.sep _ _ _ e1 e2]
    · rcases hgl _ _ e1 with g | g
      · exact absurd g n2
      · have := hm.sat.ex_lt e2; omega
    · rcases hgl _ _ e2 with g | g
      · exact absurd g n1
      · have := hm.sat.ex_lt e1; omega
    · exact hm.sat.sep _ _ _ e1 e2
  · have h2 := rdOut _ _ h2
    rcases exOut k b h1 with ⟨i, rfl, hi, e1⟩ | ⟨e1, n1⟩
    · rcases hgl _ _ e1 with g | g
      · obtain ⟨k', e⟩ := blIn _ g
        exact hm.sat.far _ _ _ e h2
      · have := hm.sat.rd_lt h2; omega
    · exact hm.sat.far _ _ _ e1 h2
  · exact hm'.keeps.os.trans hm.keeps.os
  · exact hm'.keeps.tape.trans hm.keeps.tape
  · exact hm'.keeps.output.trans hm.keeps.output
  · exact Nat.le_trans hm.keeps.size hm'.keeps.size
  · refine (hm'.keeps.block k (Nat.lt_of_lt_of_le hk hm.keeps.size) fun hin => ?_).trans (hm.keeps.block k hk hnb)
    obtain ⟨k', e⟩ := blIn _ hin
    rcases hm.good _ _ e with g | g
    · exact hnb g
    · omega
  · rcases exOut k b hk with ⟨i, rfl, hi, e1⟩ | ⟨e1, n1⟩
    · rcases hgl _ _ e1 with g | g
      · obtain ⟨k', e⟩ := blIn _ g
        exact hm.good _ _ e
      · exact .inr (by have := hm.keeps.size; omega)
    · exact hm.good _ _ e1

/-- **what a function does in a small memory, it does in a greater one** -/
theorem liftG_ok {P : Program} {F : LTab} (hF : LOk P F) : GOk P (liftG F) := by
  intro f ss g n t ht
  unfold liftG at ht
  simp only at ht
  generalize hks : reach g 100 (SV.letss ss) [] = ks at ht
  split at ht
  case h_2 => cases ht
  rename_i Hl ss' hblks hlocs
  cases hb : (nodupN ks && ks.all fun k => Nat.blt k n)
  · rw [hb] at ht; cases ht
  rw [hb, cond_true] at ht
  simp only [Bool.and_eq_true] at hb
  obtain ⟨hnd, hall⟩ := hb
  obtain ⟨hHl, hget⟩ := blks_get hblks
  have up : ∀ (H : List Blk), (∀ k x, g k = some x → H[k]? = some x) → ∀ (i : Nat) (x : Blk), Hl[i]? = some x → ∃ k y, ks[i]? = some k ∧ H[k]? = some y ∧ y.loc ks = some x := by
    intro H hg i x hi
    have hil : i < ks.length := by rw [← hHl]; exact (List.getElem?_eq_some_iff.1 hi).1
    obtain ⟨b, b', h1, h2, h3⟩ := hget i _ (List.getElem?_eq_getElem hil)
    rw [hi, Option.some.injEq] at h3
    subst h3
    exact ⟨_, b, List.getElem?_eq_getElem hil, hg _ _ h1, h2⟩
  split at ht
  · rename_i t0 ht0
    simp only [Option.some.injEq] at ht
    subst ht
    obtain ⟨hgo, hcalls⟩ := hF f ss' Hl t0 ht0
    refine ⟨hgo, fun w0 bs H B w vs hm hg hn hvs Qs hq => lift_core hlocs hnd hall hHl hcalls hm hn hvs (fun i x hi => ?_) hq⟩
    obtain ⟨k, y, h1, h2, h3⟩ := up H hg i x hi
    exact ⟨k, y, x, h1, h2, h3, .inl rfl⟩
  · rw [Option.map_eq_some_iff] at ht
    obtain ⟨t0, ht0, rfl⟩ := ht
    obtain ⟨hgo, hcalls⟩ := hF f ss' _ t0 ht0
    refine ⟨hgo, fun w0 bs H B w vs hm hg hn hvs Qs hq => lift_core hlocs hnd hall (by simpa using hHl) hcalls hm hn hvs (fun i x hi => ?_) hq⟩
    rw [List.getElem?_map, Option.map_eq_some_iff] at hi
    obtain ⟨x', hi', rfl⟩ := hi
    obtain ⟨k, y, h1, h2, h3⟩ := up H hg i x' hi'
    exact ⟨k, y, x', h1, h2, h3, .inr rfl⟩

/-! ### Tables -/
def noF : LTab := fun _ _ _ => none
theorem noF_ok {P : Program} : LOk P noF := fun _ _ _ _ h => by cases h
/-- a contract; it sees constants as any values -/
def addF (k : FuncId) (h : List SV → List Blk → Option (T (SV × List Blk))) (F : LTab) : LTab := fun f ss H => bif Nat.beq f k then h (ss.map openS) (H.map openBlk) else F f ss H
/-- what is to be shown of an entry -/
def EntryOk (P : Program) (k : FuncId) (h : List SV → List Blk → Option (T (SV × List Blk))) : Prop :=
  ∀ ss H t, h ss H = some t → ∀ (bs : List Nat) (B : List Value) (w : World) (vs : List Value), Mem w bs H B w → SV.tos B ss = some vs → ∀ Qs : SV × List Blk → Prop, t.ok Qs →
      Calls P k vs.toArray w fun e w' => ∃ s H' B' x, Qs (s, H') ∧ B <+: B' ∧ e = .returned x ∧ s.to B' = some x ∧ Mem w bs H' B' w'
theorem addF_ok {P : Program} {k : FuncId} {h : List SV → List Blk → Option (T (SV × List Blk))} {F : LTab} (hF : LOk P F) (hg : isGo P k = true) (hh : EntryOk P k h) : LOk P (addF k h F) := by
  intro f ss H t hf
  unfold addF at hf
  cases hb : Nat.beq f k
  · rw [hb] at hf; exact hF f ss H t hf
  · rw [hb, cond_true] at hf
    obtain rfl : f = k := Nat.eq_of_beq_eq_true hb
    exact ⟨hg, fun bs B w vs hm hv => hh _ _ t hf bs B w vs (openBlk_mem hm) (by rw [opens_tos]; exact hv)⟩
/-- a function's text in its caller's place -/
def addT (k : FuncId) (h : List SV → List Blk → Option (T (SV × List Blk))) (F : LTab) : LTab := fun f ss H => bif Nat.beq f k then h ss H else F f ss H
theorem addT_ok {P : Program} {k : FuncId} {h : List SV → List Blk → Option (T (SV × List Blk))} {F : LTab} (hF : LOk P F) (hg : isGo P k = true) (hh : EntryOk P k h) : LOk P (addT k h F) := by
  intro f ss H t hf
  unfold addT at hf
  cases hb : Nat.beq f k
  · rw [hb] at hf; exact hF f ss H t hf
  · rw [hb, cond_true] at hf
    obtain rfl : f = k := Nat.eq_of_beq_eq_true hb
    exact ⟨hg, hh ss H t hf⟩
/-- functions that only compute, those that change memory, and which these are -/
def both (P : Program) (S : Tab) (F : LTab) (fs : List Nat) : Cfg := ⟨S, liftG F, effE P fs, [], []⟩
/-- as both; X: where a number is one of a few -/
def bothX (P : Program) (S : Tab) (F : LTab) (fs : List Nat) (X : List (Nat × Spot × List Int)) : Cfg := ⟨S, liftG F, effE P fs, X, []⟩
theorem bothX_ok {P : Program} {S : Tab} {F : LTab} {fs : List Nat} {X : List (Nat × Spot × List Int)} (hS : TabOk P S) (hF : LOk P F) : CfgOk P (bothX P S F fs X) := ⟨hS, liftG_ok hF⟩
/-- as bothX; M: regions of which all orders are walked -/
def bothM (P : Program) (S : Tab) (F : LTab) (fs : List Nat) (X : List (Nat × Spot × List Int)) (M : List (Nat × List Nat)) : Cfg := ⟨S, liftG F, effE P fs, X, M⟩
theorem bothM_ok {P : Program} {S : Tab} {F : LTab} {fs : List Nat} {X : List (Nat × Spot × List Int)} {M : List (Nat × List Nat)} (hS : TabOk P S) (hF : LOk P F) : CfgOk P (bothM P S F fs X M) := ⟨hS, liftG_ok hF⟩
theorem both_ok {P : Program} {S : Tab} {F : LTab} {fs : List Nat} (hS : TabOk P S) (hF : LOk P F) : CfgOk P (both P S F fs) := ⟨hS, liftG_ok hF⟩
/-- a function's text in its caller's place -/
def inl (P : Program) (C : Cfg) (L : Nat → St → Option (T (Ex × St))) (fn : Func) : List SV → List Blk → Option (T (SV × List Blk)) := fun ss H => some (runF P C L fn (fn.body.getD .skip) ss H)
theorem inl_ok {P : Program} {C : Cfg} (hC : CfgOk P C) (hP : P.follows .mixedOrders = true) {L : Nat → St → Option (T (Ex × St))} {f : FuncId} {fn : Func} (hf : P.funcs[f]? = some fn) (hb : fn.body.isSome = true) (hlex : lexAll C (fn.body.getD .skip) = true)
    (hL : ∀ id body, (id, body) ∈ loopsOf (fn.body.getD .skip) → ∀ st t, L id st = some t → RunOk P fn.ntmps (.block id (.loop body)) st t) :
    EntryOk P f (inl P C L fn) := by
  intro ss H t h bs B w vs hm hvs Qs hq
  simp only [inl, Option.some.injEq] at h
  subst h
  have hb' : fn.body = some (fn.body.getD .skip) := by
    cases h : fn.body with
    | none => rw [h] at hb; cases hb
    | some c => rfl
  refine (calls_of_runF hC hP hf hb' hlex hL hvs hm hq).mono ?_
  rintro e w' ⟨s, H', B', x, h1, h2, h3, h4, h5⟩
  exact ⟨s, H', B', x, h1, h2, h4, h3, h5⟩
/-- a contract of a function that changes memory, out of its tree -/
theorem tree_ok {P : Program} {C : Cfg} (hC : CfgOk P C) (hP : P.follows .mixedOrders = true) {L : Nat → St → Option (T (Ex × St))} {f : FuncId} {fn : Func} (hf : P.funcs[f]? = some fn) (hb : fn.body.isSome = true) (hlex : lexAll C (fn.body.getD .skip) = true)
    (hL : ∀ id body, (id, body) ∈ loopsOf (fn.body.getD .skip) → ∀ st t, L id st = some t → RunOk P fn.ntmps (.block id (.loop body)) st t)
    {ss : List SV} {H : List Blk} {t t' : T (SV × List Blk)} (ht : runF P C L fn (fn.body.getD .skip) ss H = t') (htt : ∀ Qs : SV × List Blk → Prop, t.ok Qs → t'.ok Qs) {bs : List Nat} {B : List Value} {w : World} {vs : List Value} (hm : Mem w bs H B w) (hvs : SV.tos B ss = some vs) {Qs : SV × List Blk → Prop} (hq : t.ok Qs) :
    Calls P f vs.toArray w fun e w' => ∃ s H' B' x, Qs (s, H') ∧ B <+: B' ∧ e = .returned x ∧ s.to B' = some x ∧ Mem w bs H' B' w' :=
  inl_ok hC hP hf hb hlex hL ss H _ rfl bs B w vs hm hvs Qs (ht ▸ htt Qs hq)
/-- new letters are left behind -/
def goTrim (m : Nat) (r : SV × List Blk) : T (SV × List Blk) := bif r.1.under m then .leaf (r.1, (r.2.take m).map (cutBlk m)) else .stuck 131
def trimE (h : List SV → List Blk → Option (T (SV × List Blk))) : List SV → List Blk → Option (T (SV × List Blk)) := fun ss H => (h ss H).map fun t => t.bind (goTrim H.length)
theorem trimE_ok {P : Program} {k : FuncId} {h : List SV → List Blk → Option (T (SV × List Blk))} (hh : EntryOk P k h) : EntryOk P k (trimE h) := by
  intro ss H t ht bs B w vs hm hv Qs hq
  simp only [trimE, Option.map_eq_some_iff] at ht
  obtain ⟨t0, h0, rfl⟩ := ht
  refine (hh ss H t0 h0 bs B w vs hm hv _ (T.ok_bind hq)).mono ?_
  rintro e w' ⟨s, H', B', x, hQ, hp, rfl, hx, hm'⟩
  unfold goTrim at hQ
  cases hu : SV.under H.length s
  · simp only [hu] at hQ; exact hQ.elim
  · simp only [hu, cond_true] at hQ
    have hl : B.length = H.length := hm.sat.len
    have hm2 := only_mem hm' hp
    rw [hl] at hm2
    refine ⟨s, _, B, x, hQ, List.prefix_refl _, rfl, ?_, hm2⟩
    rw [SV.under_to hp (by rw [hl]; exact hu)]; exact hx
/-- a contract, out of the tree; new letters are left behind -/
theorem treeT_ok {P : Program} {C : Cfg} (hC : CfgOk P C) (hP : P.follows .mixedOrders = true) {L : Nat → St → Option (T (Ex × St))} {f : FuncId} {fn : Func} (hf : P.funcs[f]? = some fn) (hb : fn.body.isSome = true) (hlex : lexAll C (fn.body.getD .skip) = true)
    (hL : ∀ id body, (id, body) ∈ loopsOf (fn.body.getD .skip) → ∀ st t, L id st = some t → RunOk P fn.ntmps (.block id (.loop body)) st t)
    {ss : List SV} {H : List Blk} {t t' : T (SV × List Blk)} (ht : runF P C L fn (fn.body.getD .skip) ss H = t') (htt : ∀ Qs : SV × List Blk → Prop, t.ok Qs → t'.ok fun r => (goTrim H.length r).ok Qs) {bs : List Nat} {B : List Value} {w : World} {vs : List Value} (hm : Mem w bs H B w) (hvs : SV.tos B ss = some vs) {Qs : SV × List Blk → Prop} (hq : t.ok Qs) :
    Calls P f vs.toArray w fun e w' => ∃ s H' B' x, Qs (s, H') ∧ B <+: B' ∧ e = .returned x ∧ s.to B' = some x ∧ Mem w bs H' B' w' :=
  trimE_ok (inl_ok hC hP hf hb hlex hL) ss H (t'.bind (goTrim H.length)) (by simp only [trimE, inl, ht, Option.map_some]) bs B w vs hm hvs Qs (T.bind_ok (htt Qs hq))
/-- a function's text in its caller's place, where it only computes -/
def addI (k : FuncId) (P : Program) (C : Cfg) (L : Nat → St → Option (T (Ex × St))) (fn : Func) (S : Tab) : Tab := fun f xs => bif Nat.beq f k then some (runV P C L fn xs) else S f xs
theorem addI_ok {P : Program} {C : Cfg} {S : Tab} (hS : TabOk P S) (hC : CfgOk P C) (hP : P.follows .mixedOrders = true) {L : Nat → St → Option (T (Ex × St))} {k : FuncId} {fn : Func} (hf : P.funcs[k]? = some fn) (hg : isGo P k = true) (hb : fn.body.isSome = true) (hlex : lexAll C (fn.body.getD .skip) = true)
    (hL : ∀ id body, (id, body) ∈ loopsOf (fn.body.getD .skip) → ∀ st t, L id st = some t → RunOk P fn.ntmps (.block id (.loop body)) st t) : TabOk P (addI k P C L fn S) := by
  intro f xs t h
  unfold addI at h
  cases hbq : Nat.beq f k
  · rw [hbq] at h; exact hS f xs t h
  · rw [hbq, cond_true, Option.some.injEq] at h
    obtain rfl : f = k := Nat.eq_of_beq_eq_true hbq
    subst h
    exact ⟨hg, fun v hv w => calls_runV hC hP hf hb hlex hL rfl hv w⟩
end Go.Proofs.Ytodfcalaggfldaa.Sym
namespace Go.Proofs.Ytodfcalaggfldaa.Sym
set_option linter.unusedVariables false
set_option linter.unusedSimpArgs false
open Go.RowKit
section
variable {P : Program} {C : Cfg}
/-- new letters are left behind -/
def trimT (m : Nat) (t : T (SV × List Blk)) : T (SV × List Blk) := t.bind (goTrim m)
theorem trimT_ok (hC : CfgOk P C) (hP : P.follows .mixedOrders = true) {L : Nat → St → Option (T (Ex × St))} {f : FuncId} {fn : Func} (hf : P.funcs[f]? = some fn) (hb : fn.body.isSome = true) (hlex : lexAll C (fn.body.getD .skip) = true)
    (hL : ∀ id body, (id, body) ∈ loopsOf (fn.body.getD .skip) → ∀ st t, L id st = some t → RunOk P fn.ntmps (.block id (.loop body)) st t)
    {ss : List SV} {H : List Blk} {t' : T (SV × List Blk)} (ht : trimT H.length (runF P C L fn (fn.body.getD .skip) ss H) = t') {bs : List Nat} {B : List Value} {w : World} {vs : List Value} (hm : Mem w bs H B w) (hvs : SV.tos B ss = some vs) {Qs : SV × List Blk → Prop} (hq : t'.ok Qs) :
    Calls P f vs.toArray w fun e w' => ∃ s H' B' x, Qs (s, H') ∧ B <+: B' ∧ e = .returned x ∧ s.to B' = some x ∧ Mem w bs H' B' w' :=
  trimE_ok (inl_ok hC hP hf hb hlex hL) ss H t' (by simp only [trimE, inl, Option.map_some]; rw [← ht]; rfl) bs B w vs hm hvs Qs hq
/-- what a function hands back, whatever becomes of its memory -/
def runO (P : Program) (C : Cfg) (L : Nat → St → Option (T (Ex × St))) (fn : Func) (ss : List SV) (H : List Blk) : T Value := (runF P C L fn (fn.body.getD .skip) ss H).bind onlyV
theorem calls_runO (hC : CfgOk P C) (hP : P.follows .mixedOrders = true) {L : Nat → St → Option (T (Ex × St))} {f : FuncId} {fn : Func} (hf : P.funcs[f]? = some fn) (hb : fn.body.isSome = true) (hlex : lexAll C (fn.body.getD .skip) = true)
    (hL : ∀ id body, (id, body) ∈ loopsOf (fn.body.getD .skip) → ∀ st t, L id st = some t → RunOk P fn.ntmps (.block id (.loop body)) st t)
    {ss : List SV} {H : List Blk} {t : T Value} (ht : runO P C L fn ss H = t) {v : Value} (hq : t.ok fun x => x = v) {B vs : List Value} {w : World} (hm : Mem w [] H B w) (hv : SV.tos B ss = some vs) :
    Calls P f vs.toArray w fun e w' => e = .returned v ∧ Below w.heap.size w w' := by
  obtain ⟨c, hc⟩ := Option.isSome_iff_exists.1 hb
  rw [hc, Option.getD_some] at hlex hL
  subst ht
  unfold runO at hq
  rw [hc, Option.getD_some] at hq
  refine (calls_of_runF hC hP hf hc hlex hL hv hm (T.ok_bind hq)).mono ?_
  rintro e w' ⟨s, H', B', x, h1, _, h3, rfl, hm'⟩
  refine ⟨?_, hm'.keeps.below⟩
  unfold onlyV at h1
  simp only at h1
  split at h1
  · rename_i y hy
    have h1 : y = v := h1
    have := SV.plain_to hy B'
    rw [h3] at this
    simp only [Option.some.injEq] at this
    rw [this, h1]
  · exact h1.elim
end
end Go.Proofs.Ytodfcalaggfldaa.Sym
namespace Go.Proofs.Ytodfcalaggfldaa.Sym
set_option linter.unusedVariables false
set_option linter.unusedSimpArgs false
open Go.RowKit

/-- operation o at k, and what stands behind it -/
def laterF (E : Oper → Bool) (ops : Array Oper) (k : Nat) (o : Oper) : List Oper → List Nat → Bool
  | [], _ => true
  | oj :: l, r => ((r.headD 0).testBit k || (o.apart ops oj && !(E o && E oj))) && laterF E ops k o l r.tail
def lexG (md : Region.Mode) (E : Oper → Bool) (ops : Array Oper) : Nat → List Oper → List Nat → Bool
  | _, [], _ => true
  | k, o :: l, r => (o.after.toList.all fun e => !Region.binds md e || Nat.blt e.on k) && laterF E ops k o l r.tail && lexG md E ops (k + 1) l r.tail
theorem laterF_ok {E : Oper → Bool} {ops : Array Oper} {k : Nat} {o : Oper} : ∀ {l : List Oper} {r : List Nat}, laterF E ops k o l r = true → ∀ t oj, l[t]? = some oj → (r.getD t 0).testBit k = true ∨ (o.apart ops oj = true ∧ (E o && E oj) = false)
  | [], _, _, t, oj, h => by simp at h
  | x :: l, r, h, t, oj, ht => by
    simp only [laterF, Bool.and_eq_true, Bool.or_eq_true, Bool.not_eq_true'] at h
    cases t with
    | zero =>
      simp only [List.getElem?_cons_zero, Option.some.injEq] at ht
      subst ht
      cases r <;> exact h.1
    | succ t =>
      have := laterF_ok h.2 t oj (by simpa using ht)
      cases r with
      | nil => simpa using this
      | cons a r => simpa using this
theorem lexG_ok {md : Region.Mode} {E : Oper → Bool} {ops : Array Oper} {R : List Nat} (hR : UpOk md ops R) (hsz : R.length = ops.size) : ∀ (l : List Oper) (k : Nat) (listed : Array Bool), (∀ t, l[t]? = ops[k + t]?) → k + l.length = ops.size → listed.size = ops.size → (∀ j, j < ops.size → listed[j]? = some (decide (j < k))) →
    lexG md E ops k l (R.drop k) = true → lexD md E ops l.length k listed = true
  | [], k, listed, _, hk, hls, hL, _ => by
    simp only [List.length_nil, lexD, List.isEmpty_iff]
    unfold Region.ready
    rw [List.filter_eq_nil_iff]
    intro i hi
    have hi := List.mem_range.1 hi
    have := hL i hi
    rw [Array.getD_eq_getD_getElem?, this]
    simp only [List.length_nil] at hk
    simp [show i < k by omega]
  | o :: l, k, listed, hl, hk, hls, hL, h => by
    have ho : ops[k]? = some o := by simpa using (hl 0).symm
    simp only [lexG, Bool.and_eq_true] at h
    obtain ⟨⟨h1, h2⟩, h3⟩ := h
    simp only [List.length_cons] at hk
    have hkl : k < ops.size := by omega
    simp only [List.length_cons, lexD, Bool.and_eq_true, ho]
    refine ⟨⟨?_, ?_⟩, ?_⟩
    · rw [List.contains_iff_mem]
      unfold Region.ready
      rw [List.mem_filter]
      refine ⟨List.mem_range.2 hkl, ?_⟩
      rw [Array.getD_eq_getD_getElem?, hL k hkl, ho]
      simp only [Option.getD_some, Nat.lt_irrefl, decide_false, Bool.not_false, Bool.true_and, Option.map_some]
      rw [← Array.all_toList, List.all_eq_true]
      rw [List.all_eq_true] at h1
      intro e he
      have := h1 e he
      rw [Bool.or_eq_true, Nat.blt_eq] at this
      rw [Bool.or_eq_true]
      refine this.imp id fun g => ?_
      rw [Array.getD_eq_getD_getElem?, hL e.on (by omega)]
      simp [g]
    · rw [List.all_eq_true]
      intro j hj
      have hj := List.mem_range.1 hj
      rw [Array.getD_eq_getD_getElem?, hL j hj]
      by_cases hlt : j < k
      · simp [hlt]
      by_cases he : j = k
      · subst he; simp
      obtain ⟨t, rfl⟩ : ∃ t, j = k + 1 + t := ⟨j - (k + 1), by omega⟩
      obtain ⟨oj, hoj⟩ : ∃ oj, ops[k + 1 + t]? = some oj := ⟨_, Array.getElem?_eq_getElem hj⟩
      have hlj : l[t]? = some oj := by
        have := hl (t + 1)
        rw [show k + (t + 1) = k + 1 + t by omega, hoj] at this
        simpa using this
      have hr : (List.drop k R).tail = R.drop (k + 1) := by rw [List.tail_drop]
      rw [hr] at h2
      have hd : (R.drop (k + 1)).getD t 0 = R.getD (k + 1 + t) 0 := by
        rw [List.getD_eq_getElem?_getD, List.getD_eq_getElem?_getD, List.getElem?_drop]
      have := laterF_ok h2 t oj hlj
      rw [hd] at this
      rw [hoj]
      simp only [Bool.or_eq_true, Bool.and_eq_true, Bool.not_eq_true']
      right
      rcases this with g | g
      · right
        have := hR (k + 1 + t) (by omega) k g
        rw [hsz] at this; exact this
      · exact .inl g
    · have hr : (List.drop k R).tail = R.drop (k + 1) := by rw [List.tail_drop]
      rw [hr] at h3
      refine lexG_ok hR hsz l (k + 1) _ (fun t => by have := hl (t + 1); simpa [Nat.add_assoc, Nat.add_comm 1 t] using this) (by omega) (by simp [hls]) (fun j hj => ?_) h3
      rw [Array.getElem?_setIfInBounds]
      by_cases e : k = j
      · subst e; simp [hls, hkl]
      · rw [if_neg e, hL j hj]
        congr 1
        rw [decide_eq_decide]; omega
/-- as lexAll, quickly -/
def lexAllF (C : Cfg) : Code → Bool
  | .region id ops draw => bif draw then match keepOf id C.M with | some _ => true | none => lexG .any C.E ops 0 ops.toList (ups .any ops.toList []) else true
  | .seq a b => lexAllF C a && lexAllF C b
  | .cond _ a b => lexAllF C a && lexAllF C b
  | .block _ c => bif isLoop c then true else lexAllF C c
  | _ => true
theorem lexAllF_ok {C : Cfg} : ∀ {c : Code}, lexAllF C c = true → lexAll C c = true
  | .region id ops draw, h => by
    cases draw
    · rfl
    · simp only [lexAllF, lexAll, cond_true] at h ⊢
      obtain ⟨h1, h2⟩ := ups_ok (md := .any) (ops := ops) ops.toList [] (fun t => by simp) (fun j hj => by simp at hj)
      have hsz : (ups .any ops.toList []).length = ops.size := by rw [h2]; simp
      cases hM : keepOf id C.M with
      | some _ => rfl
      | none =>
      rw [hM] at h
      simp only at h
      show lexD _ _ _ _ _ _ = true
      have := lexG_ok (E := C.E) h1 hsz ops.toList 0 (Array.replicate ops.size false) (fun t => by simp) (by simp) (by simp) (fun j hj => by simp [hj]) (by simpa using h)
      simpa using this
  | .seq a b, h => by
    simp only [lexAllF, lexAll, Bool.and_eq_true] at h ⊢
    exact ⟨lexAllF_ok h.1, lexAllF_ok h.2⟩
  | .cond _ a b, h => by
    simp only [lexAllF, lexAll, Bool.and_eq_true] at h ⊢
    exact ⟨lexAllF_ok h.1, lexAllF_ok h.2⟩
  | .block _ c, h => by
    simp only [lexAllF, lexAll] at h ⊢
    cases hb : isLoop c
    · rw [hb, cond_false] at h
      rw [cond_false]; exact lexAllF_ok h
    · rw [cond_true]
  | .skip, _ => rfl
  | .exit _, _ => rfl
  | .ret, _ => rfl
  | .loop _, _ => rfl
  | .rangeFunc .., _ => rfl
  | .scope _, _ => rfl
  | .label _, _ => rfl
  | .goto _, _ => rfl
  | .refuse _, _ => rfl
end Go.Proofs.Ytodfcalaggfldaa.Sym
