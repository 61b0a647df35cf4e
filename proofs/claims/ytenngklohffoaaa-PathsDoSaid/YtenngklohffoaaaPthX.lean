/- Paths: what a map from places to paths says. No conditions. -/
import Derived.Test.YtenngklohffoaaaPthM
import Derived.Maps.OwnSet
namespace Go.Proofs.Ytenngklohffoaaa
set_option linter.unusedVariables false
set_option linter.unusedSimpArgs false
open Go.RowKit Sym Go.Maps Go.WideMaps

/-- a path of a table: its block, place, state, order of preference, how many packets are under way, its control, the control's blocks -/
structure PRow where
  p : Nat
  x : Int
  y : Int
  st : Int
  pr : Int
  se : Nat
  ctl : Value
  F : List Nat
def wf64 (x : Int) : Prop := -9223372036854775808 ≤ x ∧ x ≤ 9223372036854775807
theorem wf64_lit {x : Int} (h : wf64 x) : (Lit.int .i64 x).wf = true := by
  unfold wf64 at h
  simp only [Lit.wf, Bool.and_eq_true, decide_eq_true_eq]
  exact ⟨h.1, h.2⟩
def litPl (x y : Int) : Lit := .string (keyBytes [.int .i64 x, .int .i64 y])
theorem kl_int (d : Nat) (x : Int) : Try.prog.keyLits (d + 1) 3 [.int .i64 x] = if IntKind.i64 = IntKind.i64 ∧ (Lit.int .i64 x).wf = true then some [Lit.int .i64 x] else none := by
  unfold Program.keyLits
  simp only [Try.underlying3]
theorem kl_pl (d : Nat) (x y : Int) (hx : (Lit.int .i64 x).wf = true) (hy : (Lit.int .i64 y).wf = true) : Try.prog.keyLits (d + 2) 23 [.int .i64 x, .int .i64 y] = some [.int .i64 x, .int .i64 y] := by
  have c2 : Try.prog.cellsOf 23 = 2 := by kernel_rfl
  have c1 : Try.prog.cellsOf 3 = 1 := by kernel_rfl
  have hi := kl_int d
  unfold Program.keyLits
  simp only [Try.underlying23]
  simp [c1, c2, hi, hx, hy]
theorem kPl_step (x y : Int) (hx : (Lit.int .i64 x).wf = true) (hy : (Lit.int .i64 y).wf = true) : kPl Try.prog x y = some (litPl x y) := by
  unfold kPl keyOf
  simp only [Try.underlying23]
  rw [show (Try.prog.keyType 23 && (Value.agg #[.int .i64 x, .int .i64 y]).formed Try.prog 23) = true by kernel_rfl]
  rw [if_pos rfl]
  have h := kl_pl (Try.prog.types.size - 1) x y hx hy
  have e : Try.prog.types.size - 1 + 2 = Try.prog.types.size + 1 := by kernel_rfl
  rw [e] at h
  show Option.map _ (Try.prog.keyLits (Try.prog.types.size + 1) 23 [.int .i64 x, .int .i64 y]) = _
  rw [h]
  rfl
theorem kPl_eq {x y : Int} (hx : wf64 x) (hy : wf64 y) : kPl Try.prog x y = some (litPl x y) := by
  exact kPl_step x y (wf64_lit hx) (wf64_lit hy)
theorem litPl_inj {x y x' y' : Int} (hx : wf64 x) (hy : wf64 y) (hx' : wf64 x') (hy' : wf64 y') (h : litPl x y = litPl x' y') : x = x' ∧ y = y' := by
  have h1 := kPl_eq hx hy
  have h2 := kPl_eq hx' hy'
  rw [← h] at h2
  have h3 := lawPlace.inj h1 h2
  simpa using h3
def ptrOf (r : PRow) : Value := .pointer (some ⟨r.p, 0, none⟩)
def InR (r : PRow) : Prop := 0 ≤ r.x ∧ r.x ≤ 15 ∧ 0 ≤ r.y ∧ r.y ≤ 15
theorem InR.wfx {r : PRow} (h : InR r) : wf64 r.x := by unfold InR at h; unfold wf64; omega
theorem InR.wfy {r : PRow} (h : InR r) : wf64 r.y := by unfold InR at h; unfold wf64; omega
def ent (r : PRow) : Lit × DataW Value := (litPl r.x r.y, .held (ptrOf r))
def DOf (D : DataW Value) (L : List PRow) : Prop := ∃ es, D = .map es ∧ es.Perm (L.map ent)
def Apart (L : List PRow) : Prop := (∀ r ∈ L, InR r) ∧ L.Pairwise fun r s => ¬ (r.x = s.x ∧ r.y = s.y)
/-- the path of a place -/
def look (L : List PRow) (x y : Int) : Option PRow := L.find? fun r => decide (r.x = x ∧ r.y = y)
theorem look_mem {L : List PRow} {x y : Int} {r : PRow} (h : look L x y = some r) : r ∈ L ∧ r.x = x ∧ r.y = y := by
  unfold look at h
  exact ⟨List.mem_of_find?_eq_some h, by simpa using List.find?_some h⟩
theorem look_none {L : List PRow} {x y : Int} (h : look L x y = none) : ∀ r ∈ L, ¬ (r.x = x ∧ r.y = y) := by
  intro r hr
  unfold look at h
  simpa using List.find?_eq_none.1 h r hr
theorem apart_unique {L : List PRow} (h : Apart L) {r s : PRow} (hr : r ∈ L) (hs : s ∈ L) (e : r.x = s.x ∧ r.y = s.y) : r = s := by
  have h2 := h.2
  clear h
  induction L with
  | nil => cases hr
  | cons a t ih =>
    rw [List.pairwise_cons] at h2
    rcases List.mem_cons.1 hr with rfl | hr' <;> rcases List.mem_cons.1 hs with rfl | hs'
    · rfl
    · exact absurd e (h2.1 _ hs')
    · exact absurd ⟨e.1.symm, e.2.symm⟩ (h2.1 _ hr')
    · exact ih hr' hs' h2.2
theorem isKey_pl (x y : Int) : WideAt.IsKeyLit (litPl x y) := trivial
theorem DOf.size {D : DataW Value} {L : List PRow} (h : DOf D L) : Maps.size D = L.length := by
  obtain ⟨es, rfl, hp⟩ := h
  rw [Maps.size_eq, hp.length_eq, List.length_map]
theorem DOf.mem {D : DataW Value} {L : List PRow} {es : List (Lit × DataW Value)} (hp : es.Perm (L.map ent)) {q : Lit × DataW Value} : q ∈ es ↔ ∃ r ∈ L, ent r = q := by
  rw [hp.mem_iff, List.mem_map]
theorem DOf.keys {L : List PRow} (hL : Apart L) {es : List (Lit × DataW Value)} (hp : es.Perm (L.map ent)) : es.Pairwise (fun p q => p.1 ≠ q.1) := by
  refine (hp.pairwise_iff (fun {a b} h => Ne.symm h)).2 (List.pairwise_map.2 (hL.2.imp_of_mem fun {r s} hr hs hne e => hne ?_))
  have h1 := hL.1 r hr
  have h2 := hL.1 s hs
  exact litPl_inj h1.wfx h1.wfy h2.wfx h2.wfy e
theorem DOf.at {D : DataW Value} {L : List PRow} (h : DOf D L) (hL : Apart L) {r : PRow} (hr : r ∈ L) (z : DataW Value) : D.atKey (litPl r.x r.y) z = .held (ptrOf r) := by
  obtain ⟨es, rfl, hp⟩ := h
  exact WideAt.atKey_mem z (isKey_pl _ _) (DOf.keys hL hp) (hp.mem_iff.2 (List.mem_map.2 ⟨r, hr, rfl⟩))
theorem DOf.absent {D : DataW Value} {L : List PRow} (h : DOf D L) (hL : Apart L) {x y : Int} (hx : wf64 x) (hy : wf64 y) (hn : look L x y = none) (z : DataW Value) : D.atKey (litPl x y) z = z := by
  obtain ⟨es, rfl, hp⟩ := h
  refine Maps.atKey_of_not_has ?_ z
  rw [Maps.has_eq, List.any_eq_false]
  intro q hq hs
  obtain ⟨r, hr, rfl⟩ := List.mem_map.1 (hp.mem_iff.1 hq)
  have e := WideAt.sameKey_eq hs
  have h1 := hL.1 r hr
  exact look_none hn r hr (litPl_inj h1.wfx h1.wfy hx hy e)
theorem DOf.held {D : DataW Value} {L : List PRow} (h : DOf D L) (hL : Apart L) {x y : Int} (hx : wf64 x) (hy : wf64 y) :
    heldV (D.atKey (litPl x y) (.held (.pointer none))) = match look L x y with | some r => ptrOf r | none => .pointer none := by
  cases hl : look L x y with
  | none => rw [h.absent hL hx hy hl]; rfl
  | some r =>
    obtain ⟨hr, rfl, rfl⟩ := look_mem hl
    rw [h.at hL hr]; rfl
theorem DOf.inv {D : DataW Value} {L : List PRow} (h : DOf D L) {kl : Lit} {v : Value} (hat : ∀ zd, D.atKey kl zd = .held v) : ∃ r ∈ L, kl = litPl r.x r.y ∧ v = ptrOf r := by
  obtain ⟨es, rfl, hp⟩ := h
  have h1 := hat .nil
  unfold DataW.atKey at h1
  simp only at h1
  cases hf : es.find? (fun p => p.1.sameKey kl) with
  | none => simp only [hf] at h1; cases h1
  | some q =>
    simp only [hf] at h1
    obtain ⟨r, hr, rfl⟩ := List.mem_map.1 (hp.mem_iff.1 (List.mem_of_find?_eq_some hf))
    have e := WideAt.sameKey_eq (by simpa using List.find?_some hf)
    refine ⟨r, hr, e.symm, ?_⟩
    simp only [ent, DataW.held.injEq] at h1
    exact h1.symm
theorem filter_keys {L : List PRow} (hL : ∀ r ∈ L, InR r) {x y : Int} (hx : wf64 x) (hy : wf64 y) : (L.map ent).filter (fun p => !p.1.sameKey (litPl x y)) = (L.filter fun r => !decide (r.x = x ∧ r.y = y)).map ent := by
  rw [List.filter_map]
  congr 1
  refine List.filter_congr fun r hr => ?_
  show (!(litPl r.x r.y).sameKey (litPl x y)) = _
  congr 1
  have h1 := hL r hr
  by_cases h : r.x = x ∧ r.y = y
  · rw [decide_eq_true h, h.1, h.2]
    exact WideAt.sameKey_self (isKey_pl _ _)
  · rw [decide_eq_false h]
    exact Maps.sameKey_ne fun e => h (litPl_inj h1.wfx h1.wfy hx hy e)
theorem DOf.del {D : DataW Value} {L : List PRow} (h : DOf D L) (hL : Apart L) {x y : Int} (hx : wf64 x) (hy : wf64 y) : DOf (D.del (litPl x y)) (L.filter fun r => !decide (r.x = x ∧ r.y = y)) := by
  obtain ⟨es, rfl, hp⟩ := h
  refine ⟨_, rfl, ?_⟩
  rw [← filter_keys hL.1 hx hy]
  exact hp.filter _
theorem insert_perm (x : Lit × DataW Value) : ∀ l : List (Lit × DataW Value), (DataW.insert x l).Perm (x :: l)
  | [] => by simp [DataW.insert]
  | y :: r => by
    unfold DataW.insert
    split
    · exact .refl _
    · exact ((insert_perm x r).cons y).trans (.swap x y r)
theorem DOf.put {D : DataW Value} {L : List PRow} (h : DOf D L) (hL : Apart L) {r : PRow} (hr : InR r) (hn : look L r.x r.y = none) : DOf (D.put (litPl r.x r.y) (.held (ptrOf r))) (L ++ [r]) := by
  obtain ⟨es, rfl, hp⟩ := h
  refine ⟨_, rfl, (insert_perm _ _).trans ?_⟩
  have h1 := hp.filter (fun p => !p.1.sameKey (litPl r.x r.y))
  rw [filter_keys hL.1 hr.wfx hr.wfy, (List.filter_eq_self (l := L)).2 (fun s hs => by have h2 := look_none hn s hs; rw [decide_eq_false h2]; rfl)] at h1
  rw [List.map_append]
  refine List.Perm.trans ?_ (List.perm_append_comm (l₁ := [ent r]) (l₂ := L.map ent))
  exact (show (es.filter fun p => !p.1.sameKey (litPl r.x r.y)).Perm (L.map ent) from h1).cons (ent r)
theorem Apart.snoc {L : List PRow} (hL : Apart L) {r : PRow} (hr : InR r) (hn : look L r.x r.y = none) : Apart (L ++ [r]) := by
  refine ⟨fun s hs => ?_, List.pairwise_append.2 ⟨hL.2, List.pairwise_singleton _ _, fun a ha b hb => ?_⟩⟩
  · rcases List.mem_append.1 hs with h | h
    · exact hL.1 s h
    · rw [List.mem_singleton.1 h]; exact hr
  · rw [List.mem_singleton.1 hb]
    exact look_none hn a ha
/-- what a walk over the map has met -/
def Met (L : List PRow) (left : Lit → Bool) (ss : List PRow) : Prop := ss.Nodup ∧ ∀ r, r ∈ ss ↔ r ∈ L ∧ left (litPl r.x r.y) = false
theorem Apart.nodup {L : List PRow} (h : Apart L) : L.Nodup := h.2.imp fun {a b} hne e => hne ⟨by rw [e], by rw [e]⟩
theorem Met.start {D : DataW Value} {L : List PRow} (h : DOf D L) : Met L (Maps.has D) [] := by
  refine ⟨List.nodup_nil, fun r => Iff.intro (fun hr => absurd hr (by simp)) (fun hr => ?_)⟩
  exfalso
  obtain ⟨es, rfl, hp⟩ := h
  have := hr.2
  rw [Maps.has_eq, List.any_eq_false] at this
  exact this (ent r) (hp.mem_iff.2 (List.mem_map.2 ⟨r, hr.1, rfl⟩)) (WideAt.sameKey_self (isKey_pl _ _))
theorem Met.step {L : List PRow} (hL : Apart L) {left : Lit → Bool} {ss : List PRow} (h : Met L left ss) {r : PRow} (hr : r ∈ L) (hl : left (litPl r.x r.y) = true) : Met L (fun z => left z && !z.sameKey (litPl r.x r.y)) (ss ++ [r]) := by
  have hnew : r ∉ ss := fun hx => by have := ((h.2 r).1 hx).2; rw [hl] at this; cases this
  refine ⟨List.nodup_append.2 ⟨h.1, by simp, fun a ha b hb e => hnew (by rw [List.mem_singleton] at hb; rw [← hb, ← e]; exact ha)⟩, fun s => ?_⟩
  have h1 := hL.1 r hr
  by_cases hs : s = r
  · subst hs; simp [hr, WideAt.sameKey_self (isKey_pl s.x s.y)]
  · simp only [List.mem_append, List.mem_singleton, hs, or_false, h.2 s, Bool.and_eq_false_iff]
    constructor
    · rintro ⟨h2, h3⟩; exact ⟨h2, .inl h3⟩
    · rintro ⟨h2, h3 | h3⟩
      · exact ⟨h2, h3⟩
      · exfalso
        have h4 := hL.1 s h2
        rw [Bool.not_eq_false'] at h3
        exact hs (apart_unique hL h2 hr (litPl_inj h4.wfx h4.wfy h1.wfx h1.wfy (WideAt.sameKey_eq h3)))
theorem Met.perm {L : List PRow} (hL : Apart L) {left : Lit → Bool} {ss : List PRow} (h : Met L left ss) (hl : ∀ kl, left kl = false) : ss.Perm L :=
  (List.perm_ext_iff_of_nodup h.1 hL.nodup).2 fun r => by rw [h.2 r]; simp [hl]
def idP (r : PRow) : Int := 16 * r.x + r.y
theorem idP_inj {L : List PRow} (hL : Apart L) {r s : PRow} (hr : r ∈ L) (hs : s ∈ L) (e : idP r = idP s) : r = s := by
  have h1 := hL.1 r hr
  have h2 := hL.1 s hs
  unfold InR at h1 h2
  unfold idP at e
  exact apart_unique hL hr hs (by omega)
/-- the paths of a table, in order -/
def InOrder (L rs : List PRow) : Prop := rs.Perm L ∧ rs.Pairwise fun r s => idP r < idP s
theorem InOrder.unique {L rs rs' : List PRow} (h : InOrder L rs) (h' : InOrder L rs') : rs = rs' :=
  (h.1.trans h'.1.symm).eq_of_pairwise (fun a b _ _ h1 h2 => by omega) h.2 h'.2
end Go.Proofs.Ytenngklohffoaaa
