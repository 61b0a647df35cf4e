/- The symbolic evaluator: what is known of a function in a small memory, in a greater one. No conditions. -/
import Derived.Test.YtapogkodlempkaaSym9
namespace Go.Proofs.Ytapogkodlempkaa.Sym
set_option linter.unusedVariables false
set_option linter.unusedSimpArgs false
open Go.RowKit

/-- what a function does in a memory of which all letters are its own -/
abbrev LTab := FuncId → List SV → List Blk → Option (T (SV × List Blk))
def LOk (P : Program) (F : LTab) : Prop := ∀ f ss H t, F f ss H = some t → isGo P f = true ∧ ∀ (bs : List Nat) (B : List Value) (w : World) (vs : List Value), Mem w bs H B w → SV.tos B ss = some vs →
  ∀ Qs : SV × List Blk → Prop, t.ok Qs → Calls P f vs.toArray w fun e w' => ∃ s H' B' x, Qs (s, H') ∧ B <+: B' ∧ e = .returned x ∧ s.to B' = some x ∧ Mem w bs H' B' w'

/-! ### Names of letters -/
def posOf (k : Nat) : List Nat → Nat → Option Nat
  | [], _ => none
  | j :: l, i => bif Nat.beq j k then some i else posOf k l (i + 1)
mutual
/-- the letters of ks by their places -/
def SV.loc (ks : List Nat) : SV → Option SV
  | .v x => some (.v x)
  | .c x => some (.c x)
  | .tt => some .tt
  | .ff => some .ff
  | .ptr k off => (posOf k ks 0).map fun i => .ptr i off
  | .ref k => (posOf k ks 0).map .ref
  | .elt k sz j off => (posOf k ks 0).map fun i => .elt i sz j off
  | .agg l => (SV.locs ks l).map .agg
  | .tup l => (SV.locs ks l).map .tup
  | .clo fn a b => match SV.locs ks a, SV.locs ks b with | some x, some y => some (.clo fn x y) | _, _ => none
  | .ifc t s => (SV.loc ks s).map (.ifc t)
def SV.locs (ks : List Nat) : List SV → Option (List SV)
  | [] => some []
  | s :: l => match SV.loc ks s, SV.locs ks l with | some x, some xs => some (x :: xs) | _, _ => none
end
mutual
/-- letters by other names -/
def SV.ren (ρ : Nat → Nat) : SV → SV
  | .v x => .v x
  | .c x => .c x
  | .tt => .tt
  | .ff => .ff
  | .ptr k off => .ptr (ρ k) off
  | .ref k => .ref (ρ k)
  | .elt k sz i off => .elt (ρ k) sz i off
  | .agg l => .agg (SV.rens ρ l)
  | .tup l => .tup (SV.rens ρ l)
  | .clo fn a b => .clo fn (SV.rens ρ a) (SV.rens ρ b)
  | .ifc t s => .ifc t (SV.ren ρ s)
def SV.rens (ρ : Nat → Nat) : List SV → List SV
  | [] => []
  | s :: l => SV.ren ρ s :: SV.rens ρ l
end
mutual
/-- the letters that occur -/
def SV.lets : SV → List Nat
  | .ptr k _ | .ref k | .elt k _ _ _ => [k]
  | .agg l | .tup l => SV.letss l
  | .clo _ a b => SV.letss a ++ SV.letss b
  | .ifc _ s => SV.lets s
  | _ => []
def SV.letss : List SV → List Nat
  | [] => []
  | s :: l => SV.lets s ++ SV.letss l
end
def Blk.loc (ks : List Nat) : Blk → Option Blk
  | .own cells => (SV.locs ks cells).map .own
  | b => some b
def Blk.ren (ρ : Nat → Nat) : Blk → Blk
  | .own cells => .own (SV.rens ρ cells)
  | b => b
def Blk.lets : Blk → List Nat
  | .own cells => SV.letss cells
  | _ => []
theorem posOf_get {k : Nat} : ∀ {ks : List Nat} {i j : Nat}, posOf k ks i = some j → i ≤ j ∧ ks[j - i]? = some k
  | [], _, _, h => by simp [posOf] at h
  | a :: l, i, j, h => by
    simp only [posOf] at h
    cases hb : Nat.beq a k
    · rw [hb, cond_false] at h
      obtain ⟨h1, h2⟩ := posOf_get h
      refine ⟨by omega, ?_⟩
      rw [show j - i = (j - (i + 1)) + 1 by omega, List.getElem?_cons_succ]; exact h2
    · rw [hb, cond_true, Option.some.injEq] at h
      subst h
      rw [Nat.eq_of_beq_eq_true hb]; simp
section
variable {B Bl : List Value} {ks : List Nat}
mutual
theorem SV.loc_to (h : ∀ (i k : Nat), ks[i]? = some k → Bl[i]? = B[k]?) : ∀ {s s' : SV}, s.loc ks = some s' → s'.to Bl = s.to B
  | .v x, _, e => by simp only [SV.loc, Option.some.injEq] at e; subst e; rfl
  | .c x, _, e => by simp only [SV.loc, Option.some.injEq] at e; subst e; rfl
  | .tt, _, e => by simp only [SV.loc, Option.some.injEq] at e; subst e; rfl
  | .ff, _, e => by simp only [SV.loc, Option.some.injEq] at e; subst e; rfl
  | .ptr k off, _, e => by
    simp only [SV.loc, Option.map_eq_some_iff] at e
    obtain ⟨i, hi, rfl⟩ := e
    simp only [SV.to, h i k (by simpa using (posOf_get hi).2)]
  | .ref k, _, e => by
    simp only [SV.loc, Option.map_eq_some_iff] at e
    obtain ⟨i, hi, rfl⟩ := e
    simp only [SV.to, h i k (by simpa using (posOf_get hi).2)]
  | .elt k sz j off, _, e => by
    simp only [SV.loc, Option.map_eq_some_iff] at e
    obtain ⟨i, hi, rfl⟩ := e
    simp only [SV.to, h i k (by simpa using (posOf_get hi).2)]
  | .agg l, _, e => by
    simp only [SV.loc, Option.map_eq_some_iff] at e
    obtain ⟨l', hl, rfl⟩ := e
    simp only [SV.to, SV.locs_tos h hl]
  | .tup l, _, e => by
    simp only [SV.loc, Option.map_eq_some_iff] at e
    obtain ⟨l', hl, rfl⟩ := e
    simp only [SV.to, SV.locs_tos h hl]
  | .clo fn a b, _, e => by
    simp only [SV.loc] at e
    split at e
    · rename_i x y hx hy
      simp only [Option.some.injEq] at e; subst e
      simp only [SV.to, SV.locs_tos h hx, SV.locs_tos h hy]
    · cases e
  | .ifc t s, _, e => by
    simp only [SV.loc, Option.map_eq_some_iff] at e
    obtain ⟨s', hs, rfl⟩ := e
    simp only [SV.to, SV.loc_to h hs]
theorem SV.locs_tos (h : ∀ (i k : Nat), ks[i]? = some k → Bl[i]? = B[k]?) : ∀ {l l' : List SV}, SV.locs ks l = some l' → SV.tos Bl l' = SV.tos B l
  | [], _, e => by simp only [SV.locs, Option.some.injEq] at e; subst e; rfl
  | s :: l, _, e => by
    simp only [SV.locs] at e
    split at e
    · rename_i x xs hx hxs
      simp only [Option.some.injEq] at e; subst e
      simp only [SV.tos, SV.loc_to h hx, SV.locs_tos h hxs]
    · cases e
end
mutual
theorem SV.ren_to {ρ : Nat → Nat} (h : ∀ (i : Nat) (u : Value), Bl[i]? = some u → B[ρ i]? = some u) : ∀ {s : SV} {x : Value}, s.to Bl = some x → (s.ren ρ).to B = some x
  | .v x, _, e => e
  | .c x, _, e => e
  | .tt, _, e => e
  | .ff, _, e => e
  | .ptr k off, x, e => by
    simp only [SV.ren, SV.to] at e ⊢
    split at e
    · rename_i hb; rw [h _ _ hb]; exact e
    · cases e
  | .ref k, x, e => by simp only [SV.ren, SV.to] at e ⊢; exact h _ _ e
  | .elt k sz i off, x, e => by
    simp only [SV.ren, SV.to] at e ⊢
    split at e
    · rename_i hb; rw [h _ _ hb]; exact e
    · cases e
  | .agg l, x, e => by
    simp only [SV.ren, SV.to, Option.map_eq_some_iff] at e ⊢
    obtain ⟨vs, h1, h2⟩ := e
    exact ⟨vs, SV.rens_tos h h1, h2⟩
  | .tup l, x, e => by
    simp only [SV.ren, SV.to, Option.map_eq_some_iff] at e ⊢
    obtain ⟨vs, h1, h2⟩ := e
    exact ⟨vs, SV.rens_tos h h1, h2⟩
  | .clo fn a b, x, e => by
    simp only [SV.ren, SV.to] at e ⊢
    split at e
    · rename_i xs ys h1 h2
      rw [SV.rens_tos h h1, SV.rens_tos h h2]; exact e
    · cases e
  | .ifc t s, x, e => by
    simp only [SV.ren, SV.to, Option.map_eq_some_iff] at e ⊢
    obtain ⟨v, h1, h2⟩ := e
    exact ⟨v, SV.ren_to h h1, h2⟩
theorem SV.rens_tos {ρ : Nat → Nat} (h : ∀ (i : Nat) (u : Value), Bl[i]? = some u → B[ρ i]? = some u) : ∀ {l : List SV} {xs : List Value}, SV.tos Bl l = some xs → SV.tos B (SV.rens ρ l) = some xs
  | [], _, e => e
  | s :: l, xs, e => by
    simp only [SV.rens, SV.tos] at e ⊢
    split at e
    · rename_i x ys h1 h2
      rw [SV.ren_to h h1, SV.rens_tos h h2]; exact e
    · cases e
end
end
theorem Blk.ren_sat {B Bl : List Value} {ρ : Nat → Nat} (h : ∀ (i : Nat) (u : Value), Bl[i]? = some u → B[ρ i]? = some u) {w : World} {u : Value} {x : Blk} (hs : BlkSat Bl w u x) : BlkSat B w u (x.ren ρ) := by
  cases x with
  | own cells =>
    obtain ⟨b, vs, h1, h2, h3⟩ := hs
    exact ⟨b, vs, h1, SV.rens_tos h h2, h3⟩
  | _ => exact hs
theorem Blk.loc_sat {B Bl : List Value} {ks : List Nat} (h : ∀ (i k : Nat), ks[i]? = some k → Bl[i]? = B[k]?) {w : World} {u : Value} {x y : Blk} (hl : x.loc ks = some y) (hs : BlkSat B w u x) : BlkSat Bl w u y := by
  cases x with
  | own cells =>
    simp only [Blk.loc, Option.map_eq_some_iff] at hl
    obtain ⟨c, hc, rfl⟩ := hl
    obtain ⟨b, vs, h1, h2, h3⟩ := hs
    exact ⟨b, vs, h1, by rw [SV.locs_tos h hc]; exact h2, h3⟩
  | _ => simp only [Blk.loc, Option.some.injEq] at hl; subst hl; exact hs
theorem Blk.loc_excl {ks : List Nat} {x y : Blk} (hl : x.loc ks = some y) : y.excl = x.excl := by
  cases x with
  | own cells =>
    simp only [Blk.loc, Option.map_eq_some_iff] at hl
    obtain ⟨c, hc, rfl⟩ := hl; rfl
  | _ => simp only [Blk.loc, Option.some.injEq] at hl; subst hl; rfl
theorem Blk.loc_row {ks : List Nat} {x : Blk} {n sz : Nat} {f : Nat → Nat → Value} (hl : x.loc ks = some (.row n sz f)) : x = .row n sz f := by
  cases x with
  | own cells =>
    simp only [Blk.loc, Option.map_eq_some_iff] at hl
    obtain ⟨c, hc, e⟩ := hl; cases e
  | _ => simp only [Blk.loc, Option.some.injEq] at hl; exact hl
theorem Blk.ren_excl {ρ : Nat → Nat} (x : Blk) : (x.ren ρ).excl = x.excl := by cases x <;> rfl
theorem Blk.ren_row {ρ : Nat → Nat} {x : Blk} {n sz : Nat} {f : Nat → Nat → Value} (h : x.ren ρ = .row n sz f) : x = .row n sz f := by
  cases x <;> first | exact h | cases h
/-- all letters that may be reached -/
def reach (g : Nat → Option Blk) : Nat → List Nat → List Nat → List Nat
  | 0, _, acc => acc
  | _ + 1, [], acc => acc
  | n + 1, k :: todo, acc => bif acc.any (Nat.beq k) then reach g n todo acc else reach g n ((match g k with | some b => b.lets | none => []) ++ todo) (acc ++ [k])
def blks (g : Nat → Option Blk) (ks : List Nat) : List Nat → Option (List Blk)
  | [] => some []
  | k :: l => match g k, blks g ks l with
    | some b, some bs => (match b.loc ks with | some b' => some (b' :: bs) | none => none)
    | _, _ => none
def nodupN : List Nat → Bool
  | [] => true
  | k :: l => !l.any (Nat.beq k) && nodupN l
/-- what a local letter is called outside -/
def outer (ks : List Nat) (n i : Nat) : Nat := match ks[i]? with
  | some k => k
  | none => n + (i - ks.length)
/-- letters that are only read are not handed on -/
def hideRow : Blk → Blk
  | .row .. => .gone
  | b => b
/-- a slice of one's own, only read -/
def rowBlk : Blk → Blk
  | .vec _ _ sz n xs => .row n sz (fun i j => cellAt xs (i * sz + j))
  | b => b
def outMuts (ρ : Nat → Nat) : List Nat → List Blk → List Blk → List (Nat × Blk)
  | k :: ks, x :: xs, y :: ys => bif x.excl then (k, (hideRow y).ren ρ) :: outMuts ρ ks xs ys else outMuts ρ ks xs ys
  | _, _, _ => []
def goOut (ks : List Nat) (n : Nat) (H : List Blk) (r : SV × List Blk) : T (SV × Eff) :=
  .leaf (r.1.ren (outer ks n), ⟨outMuts (outer ks n) ks H r.2, (r.2.drop ks.length).map fun b => (hideRow b).ren (outer ks n)⟩)
def liftG (F : LTab) : GTab := fun f ss g n =>
  let ks := reach g 100 (SV.letss ss) []
  match blks g ks ks, SV.locs ks ss with
  | some H, some ss' => bif nodupN ks && ks.all (fun k => Nat.blt k n) then (match F f ss' H with
    | some t => some (t.bind (goOut ks n H))
    | none => (F f ss' (H.map rowBlk)).map fun t => t.bind (goOut ks n (H.map rowBlk))) else none
  | _, _ => none
theorem hideRow_excl {y : Blk} (h : (hideRow y).excl = true) : hideRow y = y := by cases y <;> first | rfl | cases h
theorem hideRow_sat {B : List Value} {w : World} {u : Value} {y : Blk} (h : BlkSat B w u y) : BlkSat B w u (hideRow y) := by cases y <;> first | exact h | trivial
theorem hideRow_row {y : Blk} {n sz : Nat} {f : Nat → Nat → Value} (h : hideRow y = .row n sz f) : False := by cases y <;> cases h
theorem rowBlk_excl {y : Blk} (h : (rowBlk y).excl = true) : rowBlk y = y := by cases y <;> first | rfl | cases h
theorem rowBlk_sat {B : List Value} {w : World} {u : Value} {y : Blk} (h : BlkSat B w u y) : BlkSat B w u (rowBlk y) := by
  cases y with
  | vec o e sz n xs =>
    have hv : VecSat w e sz u n xs := h
    have hl := hv.view.1
    rcases hv.view.2 with ⟨rfl, rfl⟩ | ⟨g, cap, rfl, hg, h1, h2, h3⟩
    · exact ⟨none, 0, rfl, Nat.le_refl _, Nat.zero_le _, fun i j hi => by omega⟩
    · refine ⟨_, cap, rfl, h1, h2, fun i j hi hj => ⟨_, rfl, ?_⟩⟩
      have hlt : i * sz + j < n * sz := by
        calc i * sz + j < i * sz + sz := by omega
          _ = (i + 1) * sz := by rw [Nat.add_mul, Nat.one_mul]
          _ ≤ n * sz := Nat.mul_le_mul_right _ hi
      rw [add_off, Nat.zero_add, (h3 _ hlt).1]
      simp [cellAt, List.getD_eq_getElem?_getD, List.getElem?_eq_getElem (show i * sz + j < xs.length by omega)]
  | _ => exact h
theorem rowBlk_row {y : Blk} {n sz : Nat} {f : Nat → Nat → Value} (h : rowBlk y = .row n sz f) : y = .row n sz f ∨ y.excl = true := by
  cases y with
  | vec o e sz n xs => exact .inr rfl
  | _ => exact .inl h
theorem nodupN_inj : ∀ {ks : List Nat}, nodupN ks = true → ∀ {i j k : Nat}, ks[i]? = some k → ks[j]? = some k → i = j
  | [], _, i, _, _, h, _ => by simp at h
  | a :: l, hn, i, j, k, hi, hj => by
    simp only [nodupN, Bool.and_eq_true, Bool.not_eq_true'] at hn
    have hno : ∀ m, l[m]? = some a → False := fun m hm => by
      have := List.any_eq_false.1 hn.1 a (List.mem_of_getElem? hm)
      exact this (Nat.beq_refl a)
    cases i with
    | zero =>
      simp only [List.getElem?_cons_zero, Option.some.injEq] at hi
      subst hi
      cases j with
      | zero => rfl
      | succ j => exact (hno j (by simpa using hj)).elim
    | succ i =>
      cases j with
      | zero =>
        simp only [List.getElem?_cons_zero, Option.some.injEq] at hj
        subst hj
        exact (hno i (by simpa using hi)).elim
      | succ j =>
        have := nodupN_inj hn.2 (i := i) (j := j) (by simpa using hi) (by simpa using hj)
        rw [this]
theorem blks_get {g : Nat → Option Blk} {ks : List Nat} : ∀ {l : List Nat} {H : List Blk}, blks g ks l = some H → H.length = l.length ∧ ∀ (i k : Nat), l[i]? = some k → ∃ b b', g k = some b ∧ b.loc ks = some b' ∧ H[i]? = some b'
  | [], H, h => by simp only [blks, Option.some.injEq] at h; subst h; exact ⟨rfl, by simp⟩
  | a :: l, H, h => by
    simp only [blks] at h
    split at h
    · rename_i b bs hb hbs
      split at h
      · rename_i b' hb'
        simp only [Option.some.injEq] at h
        subst h
        obtain ⟨h1, h2⟩ := blks_get hbs
        refine ⟨by simp [h1], fun i k hi => ?_⟩
        cases i with
        | zero => simp only [List.getElem?_cons_zero, Option.some.injEq] at hi; subst hi; exact ⟨b, b', hb, hb', rfl⟩
        | succ i => simpa using h2 i k (by simpa using hi)
      · cases h
    · cases h
/-- what the letters outside become -/
theorem outMuts_get {ρ : Nat → Nat} : ∀ {ks : List Nat} {xs ys : List Blk}, nodupN ks = true → ks.length = xs.length → xs.length ≤ ys.length → ∀ (H : List Blk), (∀ k ∈ ks, k < H.length) → ∀ (k : Nat),
    (∃ (i : Nat) (x y : Blk), ks[i]? = some k ∧ xs[i]? = some x ∧ ys[i]? = some y ∧ x.excl = true ∧ ((outMuts ρ ks xs ys).foldl (fun H p => H.set p.1 p.2) H)[k]? = some ((hideRow y).ren ρ)) ∨
    ((∀ (i : Nat) (x : Blk), ks[i]? = some k → xs[i]? = some x → x.excl = false) ∧ ((outMuts ρ ks xs ys).foldl (fun H p => H.set p.1 p.2) H)[k]? = H[k]?)
  | [], xs, ys, _, _, _, H, _, k => .inr ⟨by simp, by simp [outMuts]⟩
  | a :: ks, [], _, _, h, _, _, _, _ => by simp at h
  | a :: ks, x :: xs, [], _, _, h, _, _, _ => by simp at h
  | a :: ks, x :: xs, y :: ys, hn, h1, h2, H, hlt, k => by
    have hn' := hn
    simp only [nodupN, Bool.and_eq_true, Bool.not_eq_true'] at hn
    have ih := fun H' (hl : ∀ k ∈ ks, k < H'.length) => outMuts_get (ρ := ρ) hn.2 (by simpa using h1) (by simpa using h2) H' hl k
    have hnot : ∀ i : Nat, ks[i]? = some a → False := fun m hm => by
      have := List.any_eq_false.1 hn.1 a (List.mem_of_getElem? hm)
      exact this (Nat.beq_refl a)
    cases he : x.excl
    · simp only [outMuts, he, cond_false]
      rcases ih H (fun k hk => hlt k (List.mem_cons_of_mem _ hk)) with ⟨i, x', y', g1, g2, g3, g4, g5⟩ | ⟨g1, g2⟩
      · exact .inl ⟨i + 1, x', y', by simpa using g1, by simpa using g2, by simpa using g3, g4, g5⟩
      · refine .inr ⟨fun i x' hi hx => ?_, g2⟩
        cases i with
        | zero => simp only [List.getElem?_cons_zero, Option.some.injEq] at hx; subst hx; exact he
        | succ i => exact g1 i x' (by simpa using hi) (by simpa using hx)
    · simp only [outMuts, he, cond_true, List.foldl_cons]
      rcases ih (H.set a ((hideRow y).ren ρ)) (fun k hk => by simpa using hlt k (List.mem_cons_of_mem _ hk)) with ⟨i, x', y', g1, g2, g3, g4, g5⟩ | ⟨g1, g2⟩
      · exact .inl ⟨i + 1, x', y', by simpa using g1, by simpa using g2, by simpa using g3, g4, g5⟩
      · by_cases hka : k = a
        · subst hka
          refine .inl ⟨0, x, y, rfl, rfl, rfl, he, ?_⟩
          rw [g2, List.getElem?_set_self (hlt k (List.mem_cons_self ..))]
        · refine .inr ⟨fun i x' hi hx => ?_, ?_⟩
          · cases i with
            | zero => simp only [List.getElem?_cons_zero, Option.some.injEq] at hi; exact absurd hi.symm hka
            | succ i => exact g1 i x' (by simpa using hi) (by simpa using hx)
          · rw [g2, List.getElem?_set_ne (fun h => hka h.symm)]
theorem lift_core {P : Program} {f : FuncId} {ss ss' : List SV} {n : Nat} {ks : List Nat} {Hl : List Blk} {t0 : T (SV × List Blk)} (hlocs : SV.locs ks ss = some ss') (hnd : nodupN ks = true) (hall : (ks.all fun k => Nat.blt k n) = true) (hHl : Hl.length = ks.length)
    (hcalls : ∀ (bs : List Nat) (B : List Value) (w : World) (vs : List Value), Mem w bs Hl B w → SV.tos B ss' = some vs → ∀ Qs : SV × List Blk → Prop, t0.ok Qs → Calls P f vs.toArray w fun e w' => ∃ s H' B' x, Qs (s, H') ∧ B <+: B' ∧ e = .returned x ∧ s.to B' = some x ∧ Mem w bs H' B' w')
    {w0 : World} {bs : List Nat} {H : List Blk} {B : List Value} {w : World} {vs : List Value} (hm : Mem w0 bs H B w) (hn : n = H.length) (hvs : SV.tos B ss = some vs)
    (up : ∀ (i : Nat) (x : Blk), Hl[i]? = some x → ∃ k y y', ks[i]? = some k ∧ H[k]? = some y ∧ y.loc ks = some y' ∧ (x = y' ∨ x = rowBlk y'))
    {Qs : SV × Eff → Prop} (hq : (t0.bind (goOut ks n Hl)).ok Qs) : Calls P f vs.toArray w fun e w' => ∃ s ef B' x, Qs (s, ef) ∧ B <+: B' ∧ e = .returned x ∧ s.to B' = some x ∧ Mem w0 bs (ef.run H) B' w' := by
  have hkn : ∀ (i k : Nat), ks[i]? = some k → k < H.length := fun i k hi => by
    have := List.all_eq_true.1 hall k (List.mem_of_getElem? hi)
    rw [hn] at this
    simpa [Nat.blt_eq] using this
  -- the small memory
  let Bl := ks.map fun k => (B[k]?).getD undef
  have hBl : ∀ (i k : Nat), ks[i]? = some k → Bl[i]? = B[k]? := fun i k hi => by
    have hk : k < B.length := by rw [hm.sat.len]; exact hkn i k hi
    simp only [Bl, List.getElem?_map, hi, Option.map_some, List.getElem?_eq_getElem hk, Option.getD_some]
  have hBll : Bl.length = ks.length := by simp [Bl]
  have exUp : ∀ i b, ExBlk Hl Bl i b → ∃ k, ks[i]? = some k ∧ ExBlk H B k b := by
    rintro i b ⟨x, u, h1, h2, h3, h4⟩
    obtain ⟨k, y, y', hk, hy, hloc, hx⟩ := up i x h1
    have e : x = y' := by
      rcases hx with rfl | rfl
      · rfl
      · exact rowBlk_excl h2
    subst e
    exact ⟨k, hk, y, u, hy, by rw [← Blk.loc_excl hloc]; exact h2, by rw [← hBl i k hk]; exact h3, h4⟩
  have rdUp : ∀ i b, RdBlk Hl Bl i b → ∃ k, ks[i]? = some k ∧ (RdBlk H B k b ∨ ExBlk H B k b) := by
    rintro i b ⟨m, sz, ff, u, h1, h2, h3, h4, h5⟩
    obtain ⟨k, y, y', hk, hy, hloc, hx⟩ := up i _ h1
    have hu : B[k]? = some u := by rw [← hBl i k hk]; exact h4
    have e : y' = .row m sz ff ∨ y'.excl = true := by
      rcases hx with h | h
      · exact .inl h.symm
      · exact rowBlk_row h.symm
    rcases e with rfl | e
    · exact ⟨k, hk, .inl ⟨m, sz, ff, u, by rw [hy, Blk.loc_row hloc], h2, h3, hu, h5⟩⟩
    · exact ⟨k, hk, .inr ⟨y, u, hy, by rw [← Blk.loc_excl hloc]; exact e, hu, h5⟩⟩
  obtain ⟨bl, hbl⟩ : ∃ bl : List Nat, ∀ b, b ∈ bl ↔ ∃ i, ExBlk Hl Bl i b := by
    classical
    refine ⟨(List.range w.heap.size).filter fun b => decide (∃ i, ExBlk Hl Bl i b), fun b => ?_⟩
    simp only [List.mem_filter, List.mem_range, decide_eq_true_eq]
    exact ⟨fun h => h.2, fun h => ⟨by obtain ⟨i, hi⟩ := h; obtain ⟨k, _, hk⟩ := exUp i b hi; exact hm.sat.ex_lt hk, h⟩⟩
  have hml : Mem w bl Hl Bl w := by
    refine ⟨⟨by rw [hBll, hHl], fun i x u hi hu => ?_, fun i j b h1 h2 => ?_, fun i j b h1 h2 => ?_⟩, .refl _ _, fun i b hi => .inl ((hbl b).2 ⟨i, hi⟩)⟩
    · obtain ⟨k, y, y', hk, hy, hloc, hx⟩ := up i x hi
      have := Blk.loc_sat hBl hloc (hm.sat.blk k y u hy (by rw [← hBl i k hk]; exact hu))
      rcases hx with rfl | rfl
      · exact this
      · exact rowBlk_sat this
    · obtain ⟨k, hk, e1⟩ := exUp i b h1
      obtain ⟨k', hk', e2⟩ := exUp j b h2
      have := hm.sat.sep _ _ _ e1 e2
      subst this
      exact nodupN_inj hnd hk hk'
    · obtain ⟨k, hk, e1⟩ := exUp i b h1
      obtain ⟨k', hk', e2 | e2⟩ := rdUp j b h2
      · exact hm.sat.far _ _ _ e1 e2
      · have := hm.sat.sep _ _ _ e1 e2
        subst this
        have := nodupN_inj hnd hk hk'
        subst this
        obtain ⟨x, u, g1, g2, -⟩ := h1
        obtain ⟨m, sz, ff, u', g3, -⟩ := h2
        rw [g1, Option.some.injEq] at g3
        subst g3
        cases g2
  have hvl : SV.tos Bl ss' = some vs := by rw [SV.locs_tos hBl hlocs]; exact hvs
  refine (hcalls bl Bl w vs hml hvl _ (T.ok_bind hq)).mono ?_
  rintro e w' ⟨s, H', Bl', x, hQ, hpre, rfl, hx, hm'⟩
  unfold goOut at hQ
  simp only at hQ
  -- names
  let B' := B ++ Bl'.drop ks.length
  have hlen' : Bl'.length = H'.length := hm'.sat.len
  have f1 : Hl.length ≤ H'.length := by rw [← hlen', hHl, ← hBll]; exact hpre.length_le
  have hlo : ∀ i, i < ks.length → Bl'[i]? = Bl[i]? := fun i hi => (getElem?_of_prefix hpre (by rw [hBll]; exact hi)).symm
  have hρ : ∀ (i : Nat) (u : Value), Bl'[i]? = some u → B'[outer ks n i]? = some u := by
    intro i u hu
    unfold outer
    split
    · rename_i k hk
      have hil := (List.getElem?_eq_some_iff.1 hk).1
      rw [hlo i hil, hBl i k hk] at hu
      have hkl := (List.getElem?_eq_some_iff.1 hu).1
      rw [List.getElem?_append_left hkl]; exact hu
    · rename_i hk
      have hil : ks.length ≤ i := by simpa using hk
      rw [hn, ← hm.sat.len, List.getElem?_append_right (by omega), List.getElem?_drop]
      rw [show ks.length + (B.length + (i - ks.length) - B.length) = i by omega]; exact hu
  -- what the letters are behind
  have hnews : ((H'.drop ks.length).map (fun b => (hideRow b).ren (outer ks n))).length = H'.length - ks.length := by simp
  let Hf := (outMuts (outer ks n) ks Hl H').foldl (fun H p => H.set p.1 p.2) H
  have hHf : Hf.length = H.length := foldl_set_length _ _
  have hrun : ∀ k : Nat, (Eff.run ⟨outMuts (outer ks n) ks Hl H', (H'.drop ks.length).map fun b => (hideRow b).ren (outer ks n)⟩ H)[k]? = (Hf ++ (H'.drop ks.length).map (fun b => (hideRow b).ren (outer ks n)))[k]? := by
    intro k
    unfold Eff.run
    split
    · rename_i h0
      simp only at h0
      rw [h0, List.append_nil]
    · rfl
  have cls : ∀ (k : Nat) (x : Blk), (Eff.run ⟨outMuts (outer ks n) ks Hl H', (H'.drop ks.length).map fun b => (hideRow b).ren (outer ks n)⟩ H)[k]? = some x →
      (∃ (i : Nat) (y : Blk), k = outer ks n i ∧ H'[i]? = some y ∧ x = (hideRow y).ren (outer ks n) ∧ B'[k]? = Bl'[i]?) ∨
      (k < H.length ∧ H[k]? = some x ∧ B'[k]? = B[k]? ∧ ∀ (i : Nat) (b : Nat), ks[i]? = some k → ¬ ExBlk Hl Bl i b) := by
    intro k x hx
    rw [hrun] at hx
    rcases Nat.lt_or_ge k H.length with hk | hk
    · rw [List.getElem?_append_left (by rw [hHf]; exact hk)] at hx
      have hBk : B'[k]? = B[k]? := by rw [List.getElem?_append_left (by rw [hm.sat.len]; exact hk)]
      rcases outMuts_get (ρ := outer ks n) hnd hHl.symm f1 H (fun k hk => by obtain ⟨i, hi⟩ := List.getElem?_of_mem hk; exact hkn i k hi) k with ⟨i, x', y, g1, g2, g3, g4, g5⟩ | ⟨g1, g2⟩
      · rw [show Hf[k]? = _ from g5, Option.some.injEq] at hx
        have hil := (List.getElem?_eq_some_iff.1 g1).1
        refine .inl ⟨i, y, ?_, g3, hx.symm, ?_⟩
        · unfold outer; rw [g1]
        · rw [hBk, hlo i hil, hBl i k g1]
      · rw [show Hf[k]? = _ from g2] at hx
        refine .inr ⟨hk, hx, hBk, fun i b hi hex => ?_⟩
        obtain ⟨x', u, e1, e2, -⟩ := hex
        rw [g1 i x' hi e1] at e2; cases e2
    · rw [List.getElem?_append_right (by rw [hHf]; exact hk), hHf, List.getElem?_map, Option.map_eq_some_iff] at hx
      obtain ⟨y, hy, rfl⟩ := hx
      rw [List.getElem?_drop] at hy
      have hil : ks.length + (k - H.length) < H'.length := (List.getElem?_eq_some_iff.1 hy).1
      refine .inl ⟨ks.length + (k - H.length), y, ?_, hy, rfl, ?_⟩
      · unfold outer
        rw [List.getElem?_eq_none (by omega)]
        simp only; omega
      · rw [List.getElem?_append_right (by rw [hm.sat.len]; exact hk), List.getElem?_drop, hm.sat.len]
  have outInj : ∀ {i j : Nat}, i < H'.length → j < H'.length → outer ks n i = outer ks n j → i = j := by
    intro i j hi hj e
    unfold outer at e
    cases ha : ks[i]? with
    | some a =>
      rw [ha] at e
      cases hb : ks[j]? with
      | some b => rw [hb] at e; simp only at e; subst e; exact nodupN_inj hnd ha hb
      | none => rw [hb] at e; simp only at e; have := hkn _ _ ha; omega
    | none =>
      rw [ha] at e
      cases hb : ks[j]? with
      | some b => rw [hb] at e; simp only at e; have := hkn _ _ hb; omega
      | none =>
        rw [hb] at e
        simp only [List.getElem?_eq_none_iff] at ha hb
        simp only at e
        omega
  have exOut : ∀ k b, ExBlk (Eff.run ⟨outMuts (outer ks n) ks Hl H', (H'.drop ks.length).map fun b => (hideRow b).ren (outer ks n)⟩ H) B' k b →
      (∃ i, k = outer ks n i ∧ i < H'.length ∧ ExBlk H' Bl' i b) ∨ (ExBlk H B k b ∧ b ∉ bl) := by
    rintro k b ⟨x, u, h1, h2, h3, h4⟩
    rcases cls k x h1 with ⟨i, y, g1, g2, rfl, g5⟩ | ⟨g1, g2, g3, g4⟩
    · rw [Blk.ren_excl] at h2
      exact .inl ⟨i, g1, (List.getElem?_eq_some_iff.1 g2).1, y, u, g2, by rw [← hideRow_excl h2]; exact h2, by rw [← g5]; exact h3, h4⟩
    · have hex : ExBlk H B k b := ⟨x, u, g2, h2, by rw [← g3]; exact h3, h4⟩
      refine .inr ⟨hex, fun hin => ?_⟩
      obtain ⟨i, hi⟩ := (hbl b).1 hin
      obtain ⟨k', hk', e2⟩ := exUp i b hi
      have := hm.sat.sep _ _ _ hex e2
      subst this
      exact g4 i b hk' hi
  have rdOut : ∀ k b, RdBlk (Eff.run ⟨outMuts (outer ks n) ks Hl H', (H'.drop ks.length).map fun b => (hideRow b).ren (outer ks n)⟩ H) B' k b → RdBlk H B k b := by
    rintro k b ⟨m, sz, ff, u, h1, h2, h3, h4, h5⟩
    rcases cls k _ h1 with ⟨i, y, g1, g2, e, g5⟩ | ⟨g1, g2, g3, g4⟩
    · exact (hideRow_row (Blk.ren_row e.symm)).elim
    · exact ⟨m, sz, ff, u, g2, h2, h3, by rw [← g3]; exact h4, h5⟩
  have hgl : ∀ i b, ExBlk H' Bl' i b → b ∈ bl ∨ w.heap.size ≤ b := fun i b h => hm'.good i b h
  have blIn : ∀ b, b ∈ bl → ∃ k, ExBlk H B k b := fun b hb => by
    obtain ⟨i, hi⟩ := (hbl b).1 hb
    obtain ⟨k, _, e⟩ := exUp i b hi
    exact ⟨k, e⟩
  refine ⟨_, _, B', x, hQ, List.prefix_append _ _, rfl, SV.ren_to hρ hx, ⟨⟨?_, fun k x u hk hu => ?_, fun k j b h1 h2 => ?_, fun k j b h1 h2 => ?_⟩, ⟨?_, ?_, ?_, ?_, fun k hk hnb => ?_⟩, fun k b hk => ?_⟩⟩
  · have : (Eff.run ⟨outMuts (outer ks n) ks Hl H', (H'.drop ks.length).map fun b => (hideRow b).ren (outer ks n)⟩ H).length = (Hf ++ (H'.drop ks.length).map (fun b => (hideRow b).ren (outer ks n))).length := by
      unfold Eff.run
      split
      · rename_i h0
        simp only at h0
        rw [h0, List.append_nil]
      · rfl
    rw [this]
    simp only [B', List.length_append, List.length_drop, List.length_map, hHf, hm.sat.len, hlen']
  · rcases cls k x hk with ⟨i, y, g1, g2, rfl, g5⟩ | ⟨g1, g2, g3, g4⟩
    · exact Blk.ren_sat hρ (hideRow_sat (hm'.sat.blk i y u g2 (by rw [← g5]; exact hu)))
    · rw [g3] at hu
      have h0 := hm.sat.blk k x u g2 hu
      have hpre' : B <+: B' := List.prefix_append _ _
      cases hxe : x.excl
      · cases x with
        | gone => trivial
        | row m sz ff =>
          obtain ⟨p, cap, rfl, e1, e2, e3⟩ := h0
          refine ⟨p, cap, rfl, e1, e2, fun i j hi hj => ?_⟩
          obtain ⟨a, rfl, hc⟩ := e3 i j hi hj
          refine ⟨a, rfl, ?_⟩
          have hlt := cell_lt hc
          rw [addr_add_block] at hlt
          refine (World.cell?_of_block ?_).trans hc
          rw [addr_add_block]
          refine hm'.keeps.block _ hlt fun hin => ?_
          obtain ⟨k', e⟩ := blIn _ hin
          exact hm.sat.far k' k _ e ⟨m, sz, ff, _, g2, by omega, by omega, hu, rfl⟩
        | own _ => cases hxe
        | arr _ _ _ => cases hxe
        | vec _ _ _ _ _ => cases hxe
      · refine (h0.mono hpre').kept hm'.keeps.size fun b hb hlt => hm'.keeps.block b hlt fun hin => ?_
        obtain ⟨i, hi⟩ := (hbl b).1 hin
        obtain ⟨k', hk', e2⟩ := exUp i b hi
        have := hm.sat.sep _ _ _ ⟨x, u, g2, hxe, hu, hb⟩ e2
        subst this
        exact g4 i b hk' hi
  · rcases exOut k b h1 with ⟨i, rfl, hi, e1⟩ | ⟨e1, n1⟩ <;> rcases exOut j b h2 with ⟨i', rfl, hi', e2⟩ | ⟨e2, n2⟩
    · rw [hm'.sat.sep _ _ _ e1 e2]
    · rcases hgl _ _ e1 with g | g
      · exact absurd g n2
      · have := hm.sat.ex_lt e2; omega
    · rcases hgl _ _ e2 with g | g
      · exact absurd g n1
      · have := hm.sat.ex_lt e1; omega
    · exact hm.sat.sep _ _ _ e1 e2
  · have h2 := rdOut _ _ h2
    rcases exOut k b h1 with ⟨i, rfl, hi, e1⟩ | ⟨e1, n1⟩
    · rcases hgl _ _ e1 with g | g
      · obtain ⟨k', e⟩ := blIn _ g
        exact hm.sat.far _ _ _ e h2
      · have := hm.sat.rd_lt h2; omega
    · exact hm.sat.far _ _ _ e1 h2
  · exact hm'.keeps.os.trans hm.keeps.os
  · exact hm'.keeps.tape.trans hm.keeps.tape
  · exact hm'.keeps.output.trans hm.keeps.output
  · exact Nat.le_trans hm.keeps.size hm'.keeps.size
  · refine (hm'.keeps.block k (Nat.lt_of_lt_of_le hk hm.keeps.size) fun hin => ?_).trans (hm.keeps.block k hk hnb)
    obtain ⟨k', e⟩ := blIn _ hin
    rcases hm.good _ _ e with g | g
    · exact hnb g
    · omega
  · rcases exOut k b hk with ⟨i, rfl, hi, e1⟩ | ⟨e1, n1⟩
    · rcases hgl _ _ e1 with g | g
      · obtain ⟨k', e⟩ := blIn _ g
        exact hm.good _ _ e
      · exact .inr (by have := hm.keeps.size; omega)
    · exact hm.good _ _ e1

/-- **what a function does in a small memory, it does in a greater one** -/
theorem liftG_ok {P : Program} {F : LTab} (hF : LOk P F) : GOk P (liftG F) := by
  intro f ss g n t ht
  unfold liftG at ht
  simp only at ht
  generalize hks : reach g 100 (SV.letss ss) [] = ks at ht
  split at ht
  case h_2 => cases ht
  rename_i Hl ss' hblks hlocs
  cases hb : (nodupN ks && ks.all fun k => Nat.blt k n)
  · rw [hb] at ht; cases ht
  rw [hb, cond_true] at ht
  simp only [Bool.and_eq_true] at hb
  obtain ⟨hnd, hall⟩ := hb
  obtain ⟨hHl, hget⟩ := blks_get hblks
  have up : ∀ (H : List Blk), (∀ k x, g k = some x → H[k]? = some x) → ∀ (i : Nat) (x : Blk), Hl[i]? = some x → ∃ k y, ks[i]? = some k ∧ H[k]? = some y ∧ y.loc ks = some x := by
    intro H hg i x hi
    have hil : i < ks.length := by rw [← hHl]; exact (List.getElem?_eq_some_iff.1 hi).1
    obtain ⟨b, b', h1, h2, h3⟩ := hget i _ (List.getElem?_eq_getElem hil)
    rw [hi, Option.some.injEq] at h3
    subst h3
    exact ⟨_, b, List.getElem?_eq_getElem hil, hg _ _ h1, h2⟩
  split at ht
  · rename_i t0 ht0
    simp only [Option.some.injEq] at ht
    subst ht
    obtain ⟨hgo, hcalls⟩ := hF f ss' Hl t0 ht0
    refine ⟨hgo, fun w0 bs H B w vs hm hg hn hvs Qs hq => lift_core hlocs hnd hall hHl hcalls hm hn hvs (fun i x hi => ?_) hq⟩
    obtain ⟨k, y, h1, h2, h3⟩ := up H hg i x hi
    exact ⟨k, y, x, h1, h2, h3, .inl rfl⟩
  · rw [Option.map_eq_some_iff] at ht
    obtain ⟨t0, ht0, rfl⟩ := ht
    obtain ⟨hgo, hcalls⟩ := hF f ss' _ t0 ht0
    refine ⟨hgo, fun w0 bs H B w vs hm hg hn hvs Qs hq => lift_core hlocs hnd hall (by simpa using hHl) hcalls hm hn hvs (fun i x hi => ?_) hq⟩
    rw [List.getElem?_map, Option.map_eq_some_iff] at hi
    obtain ⟨x', hi', rfl⟩ := hi
    obtain ⟨k, y, h1, h2, h3⟩ := up H hg i x' hi'
    exact ⟨k, y, x', h1, h2, h3, .inr rfl⟩

/-! ### Tables -/
def noF : LTab := fun _ _ _ => none
theorem noF_ok {P : Program} : LOk P noF := fun _ _ _ _ h => by cases h
/-- a contract; it sees constants as any values -/
def addF (k : FuncId) (h : List SV → List Blk → Option (T (SV × List Blk))) (F : LTab) : LTab := fun f ss H => bif Nat.beq f k then h (ss.map openS) (H.map openBlk) else F f ss H
/-- what is to be shown of an entry -/
def EntryOk (P : Program) (k : FuncId) (h : List SV → List Blk → Option (T (SV × List Blk))) : Prop :=
  ∀ ss H t, h ss H = some t → ∀ (bs : List Nat) (B : List Value) (w : World) (vs : List Value), Mem w bs H B w → SV.tos B ss = some vs → ∀ Qs : SV × List Blk → Prop, t.ok Qs →
      Calls P k vs.toArray w fun e w' => ∃ s H' B' x, Qs (s, H') ∧ B <+: B' ∧ e = .returned x ∧ s.to B' = some x ∧ Mem w bs H' B' w'
theorem addF_ok {P : Program} {k : FuncId} {h : List SV → List Blk → Option (T (SV × List Blk))} {F : LTab} (hF : LOk P F) (hg : isGo P k = true) (hh : EntryOk P k h) : LOk P (addF k h F) := by
  intro f ss H t hf
  unfold addF at hf
  cases hb : Nat.beq f k
  · rw [hb] at hf; exact hF f ss H t hf
  · rw [hb, cond_true] at hf
    obtain rfl : f = k := Nat.eq_of_beq_eq_true hb
    exact ⟨hg, fun bs B w vs hm hv => hh _ _ t hf bs B w vs (openBlk_mem hm) (by rw [opens_tos]; exact hv)⟩
/-- a function's text in its caller's place -/
def addT (k : FuncId) (h : List SV → List Blk → Option (T (SV × List Blk))) (F : LTab) : LTab := fun f ss H => bif Nat.beq f k then h ss H else F f ss H
theorem addT_ok {P : Program} {k : FuncId} {h : List SV → List Blk → Option (T (SV × List Blk))} {F : LTab} (hF : LOk P F) (hg : isGo P k = true) (hh : EntryOk P k h) : LOk P (addT k h F) := by
  intro f ss H t hf
  unfold addT at hf
  cases hb : Nat.beq f k
  · rw [hb] at hf; exact hF f ss H t hf
  · rw [hb, cond_true] at hf
    obtain rfl : f = k := Nat.eq_of_beq_eq_true hb
    exact ⟨hg, hh ss H t hf⟩
/-- functions that only compute, those that change memory, and which these are -/
def both (P : Program) (S : Tab) (F : LTab) (fs : List Nat) : Cfg := ⟨S, liftG F, effE P fs⟩
theorem both_ok {P : Program} {S : Tab} {F : LTab} {fs : List Nat} (hS : TabOk P S) (hF : LOk P F) : CfgOk P (both P S F fs) := ⟨hS, liftG_ok hF⟩
/-- a function's text in its caller's place -/
def inl (P : Program) (C : Cfg) (L : Nat → St → Option (T (Ex × St))) (fn : Func) : List SV → List Blk → Option (T (SV × List Blk)) := fun ss H => some (runF P C L fn (fn.body.getD .skip) ss H)
theorem inl_ok {P : Program} {C : Cfg} (hC : CfgOk P C) (hP : P.follows .mixedOrders = true) {L : Nat → St → Option (T (Ex × St))} {f : FuncId} {fn : Func} (hf : P.funcs[f]? = some fn) (hb : fn.body.isSome = true) (hlex : lexAll C.E (fn.body.getD .skip) = true)
    (hL : ∀ id body, (id, body) ∈ loopsOf (fn.body.getD .skip) → ∀ st t, L id st = some t → RunOk P fn.ntmps (.block id (.loop body)) st t) :
    EntryOk P f (inl P C L fn) := by
  intro ss H t h bs B w vs hm hvs Qs hq
  simp only [inl, Option.some.injEq] at h
  subst h
  have hb' : fn.body = some (fn.body.getD .skip) := by
    cases h : fn.body with
    | none => rw [h] at hb; cases hb
    | some c => rfl
  refine (calls_of_runF hC hP hf hb' hlex hL hvs hm hq).mono ?_
  rintro e w' ⟨s, H', B', x, h1, h2, h3, h4, h5⟩
  exact ⟨s, H', B', x, h1, h2, h4, h3, h5⟩
/-- a contract of a function that changes memory, out of its tree -/
theorem tree_ok {P : Program} {C : Cfg} (hC : CfgOk P C) (hP : P.follows .mixedOrders = true) {L : Nat → St → Option (T (Ex × St))} {f : FuncId} {fn : Func} (hf : P.funcs[f]? = some fn) (hb : fn.body.isSome = true) (hlex : lexAll C.E (fn.body.getD .skip) = true)
    (hL : ∀ id body, (id, body) ∈ loopsOf (fn.body.getD .skip) → ∀ st t, L id st = some t → RunOk P fn.ntmps (.block id (.loop body)) st t)
    {ss : List SV} {H : List Blk} {t t' : T (SV × List Blk)} (ht : runF P C L fn (fn.body.getD .skip) ss H = t') (htt : ∀ Qs : SV × List Blk → Prop, t.ok Qs → t'.ok Qs) {bs : List Nat} {B : List Value} {w : World} {vs : List Value} (hm : Mem w bs H B w) (hvs : SV.tos B ss = some vs) {Qs : SV × List Blk → Prop} (hq : t.ok Qs) :
    Calls P f vs.toArray w fun e w' => ∃ s H' B' x, Qs (s, H') ∧ B <+: B' ∧ e = .returned x ∧ s.to B' = some x ∧ Mem w bs H' B' w' :=
  inl_ok hC hP hf hb hlex hL ss H _ rfl bs B w vs hm hvs Qs (ht ▸ htt Qs hq)
/-- new letters are left behind -/
def goTrim (m : Nat) (r : SV × List Blk) : T (SV × List Blk) := bif r.1.under m then .leaf (r.1, (r.2.take m).map (cutBlk m)) else .stuck 131
def trimE (h : List SV → List Blk → Option (T (SV × List Blk))) : List SV → List Blk → Option (T (SV × List Blk)) := fun ss H => (h ss H).map fun t => t.bind (goTrim H.length)
theorem trimE_ok {P : Program} {k : FuncId} {h : List SV → List Blk → Option (T (SV × List Blk))} (hh : EntryOk P k h) : EntryOk P k (trimE h) := by
  intro ss H t ht bs B w vs hm hv Qs hq
  simp only [trimE, Option.map_eq_some_iff] at ht
  obtain ⟨t0, h0, rfl⟩ := ht
  refine (hh ss H t0 h0 bs B w vs hm hv _ (T.ok_bind hq)).mono ?_
  rintro e w' ⟨s, H', B', x, hQ, hp, rfl, hx, hm'⟩
  unfold goTrim at hQ
  cases hu : SV.under H.length s
  · simp only [hu] at hQ; exact hQ.elim
  · simp only [hu, cond_true] at hQ
    have hl : B.length = H.length := hm.sat.len
    have hm2 := only_mem hm' hp
    rw [hl] at hm2
    refine ⟨s, _, B, x, hQ, List.prefix_refl _, rfl, ?_, hm2⟩
    rw [SV.under_to hp (by rw [hl]; exact hu)]; exact hx
/-- a contract, out of the tree; new letters are left behind -/
theorem treeT_ok {P : Program} {C : Cfg} (hC : CfgOk P C) (hP : P.follows .mixedOrders = true) {L : Nat → St → Option (T (Ex × St))} {f : FuncId} {fn : Func} (hf : P.funcs[f]? = some fn) (hb : fn.body.isSome = true) (hlex : lexAll C.E (fn.body.getD .skip) = true)
    (hL : ∀ id body, (id, body) ∈ loopsOf (fn.body.getD .skip) → ∀ st t, L id st = some t → RunOk P fn.ntmps (.block id (.loop body)) st t)
    {ss : List SV} {H : List Blk} {t t' : T (SV × List Blk)} (ht : runF P C L fn (fn.body.getD .skip) ss H = t') (htt : ∀ Qs : SV × List Blk → Prop, t.ok Qs → t'.ok fun r => (goTrim H.length r).ok Qs) {bs : List Nat} {B : List Value} {w : World} {vs : List Value} (hm : Mem w bs H B w) (hvs : SV.tos B ss = some vs) {Qs : SV × List Blk → Prop} (hq : t.ok Qs) :
    Calls P f vs.toArray w fun e w' => ∃ s H' B' x, Qs (s, H') ∧ B <+: B' ∧ e = .returned x ∧ s.to B' = some x ∧ Mem w bs H' B' w' :=
  trimE_ok (inl_ok hC hP hf hb hlex hL) ss H (t'.bind (goTrim H.length)) (by simp only [trimE, inl, ht, Option.map_some]) bs B w vs hm hvs Qs (T.bind_ok (htt Qs hq))
/-- a function's text in its caller's place, where it only computes -/
def addI (k : FuncId) (P : Program) (C : Cfg) (L : Nat → St → Option (T (Ex × St))) (fn : Func) (S : Tab) : Tab := fun f xs => bif Nat.beq f k then some (runV P C L fn xs) else S f xs
theorem addI_ok {P : Program} {C : Cfg} {S : Tab} (hS : TabOk P S) (hC : CfgOk P C) (hP : P.follows .mixedOrders = true) {L : Nat → St → Option (T (Ex × St))} {k : FuncId} {fn : Func} (hf : P.funcs[k]? = some fn) (hg : isGo P k = true) (hb : fn.body.isSome = true) (hlex : lexAll C.E (fn.body.getD .skip) = true)
    (hL : ∀ id body, (id, body) ∈ loopsOf (fn.body.getD .skip) → ∀ st t, L id st = some t → RunOk P fn.ntmps (.block id (.loop body)) st t) : TabOk P (addI k P C L fn S) := by
  intro f xs t h
  unfold addI at h
  cases hbq : Nat.beq f k
  · rw [hbq] at h; exact hS f xs t h
  · rw [hbq, cond_true, Option.some.injEq] at h
    obtain rfl : f = k := Nat.eq_of_beq_eq_true hbq
    subst h
    exact ⟨hg, fun v hv w => calls_runV hC hP hf hb hlex hL rfl hv w⟩
end Go.Proofs.Ytapogkodlempkaa.Sym
