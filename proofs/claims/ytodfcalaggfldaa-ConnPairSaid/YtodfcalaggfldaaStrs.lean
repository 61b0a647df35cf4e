/- Arguments that are slices: what is read at each index. -/
import Derived.Test.YtodfcalaggfldaaBase
import Derived.Deep.Slices
import Derived.Test.YtodfcalaggfldaaSymD
import Derived.Test.YtodfcalaggfldaaPlA
namespace Go.Proofs.Ytodfcalaggfldaa
set_option linter.unusedVariables false
set_option linter.unusedSimpArgs false
open Go.RowKit Go.ChangeShapes Go.WideShapes Go.Deep

/-- a slice value of len elements of n cells each: cell j of element i holds f i j. -/
def IsRows (W : World) (n : Nat) (v : Value) (len : Nat) (f : Nat → Nat → Value) : Prop :=
  (v = .slice none 0 0 ∧ len = 0) ∨ ∃ (a : Addr) (cap : Nat), v = .slice (some a) len cap ∧ len ≤ cap ∧ cap ≤ maxLen ∧
    ∀ i, i < len → a.spot = none ∧ a.block < W.heap.size ∧ ∀ j, j < n → W.cell? ⟨a.block, a.off + i * n + j, none⟩ = some (f i j)
theorem IsRows.below {W w1 : World} {n len : Nat} {v : Value} {f : Nat → Nat → Value} (h : IsRows W n v len f) (hb : Below W.heap.size W w1) : IsRows w1 n v len f := by
  rcases h with h | ⟨a, cap, hv, h1, h2, h3⟩
  · exact .inl h
  · refine .inr ⟨a, cap, hv, h1, h2, fun i hi => ?_⟩
    obtain ⟨s, b, c⟩ := h3 i hi
    exact ⟨s, Nat.lt_of_lt_of_le b hb.size, fun j hj => (hb.cell (p := ⟨a.block, a.off + i * n + j, none⟩) b).trans (c j hj)⟩
theorem open_rows_of {H : Type} {enc : TypeId × Value → H} {P : Program} {W : World} {base : Nat} {t e : TypeId} {v : Value} {d : DataW H} {p : List MemPlace} {sp : Nat → Bool} (n : Nat) (hn : P.cellsOf e = n) (hn0 : 0 < n) (ht : P.underlying t = some (.slice e))
    (hv : ∃ a len cap, v = .slice a len cap) (h : DataW.Trod enc P W base sp true t v d p) :
    ∃ (len : Nat) (f : Nat → Nat → Value), IsRows W n v len f ∧ len ≤ maxLen ∧ ∀ i, i < len → ∃ fuel x, DataW.trod enc P W base sp true fuel e ((List.range n).map (f i)) = some x := by
  obtain ⟨a0, len0, cap0, rfl⟩ := hv
  obtain ⟨fuel, hf⟩ := h
  rcases open_slice ht hf with ⟨h0, _⟩ | ⟨a, len, cap, m, k, D, Pl, h0, hb, hl, hm, hmm, _, hi⟩
  · simp [Value.cells] at h0
    obtain ⟨rfl, rfl, rfl⟩ := h0
    exact ⟨0, fun _ _ => undef, .inl ⟨rfl, rfl⟩, Nat.zero_le _, fun i hi => absurd hi (Nat.not_lt_zero _)⟩
  · simp [Value.cells] at h0
    obtain ⟨rfl, rfl, rfl⟩ := h0
    have hlm : len0 ≤ m := by rw [hmm]; split <;> omega
    rw [hn] at hi
    have hrow : ∀ i, i < len0 → ∃ cs' : List Value, cs'.length = n ∧ (∀ j, j < n → W.cell? (a.add (i * n + j)) = cs'[j]?) ∧ DataW.trod enc P W base sp true k e cs' = some (D i, Pl i) := by
      intro i hlt
      obtain ⟨cs', hc, htr⟩ := hi i (by omega)
      obtain ⟨_, hcl, hat⟩ := World.cells?_some hc
      exact ⟨cs', hcl, fun j hj => by rw [← add_add]; exact hat j hj, htr⟩
    refine ⟨len0, fun i j => (W.cell? (a.add (i * n + j))).getD undef, .inr ⟨a, cap0, rfl, hl, hm, fun i hlt => ?_⟩, by omega, fun i hlt => ?_⟩
    · obtain ⟨cs', hcl, hat, _⟩ := hrow i hlt
      have hs : ∀ j, j < n → ∃ u, W.cell? (a.add (i * n + j)) = some u := fun j hj => ⟨_, (hat j hj).trans (List.getElem?_eq_getElem (by omega))⟩
      have hsp : a.spot = none := by
        obtain ⟨c0, hcl0, hat0, _⟩ := hrow 0 (by omega)
        have h1 := World.cell?_spot ((hat0 0 hn0).trans (List.getElem?_eq_getElem (by omega)))
        simpa [Addr.add] using h1
      have he : ∀ j, a.add (i * n + j) = ⟨a.block, a.off + i * n + j, none⟩ := by
        intro j
        obtain ⟨bb, oo, ss⟩ := a
        simp only at hsp
        subst hsp
        unfold Addr.add
        by_cases h0 : i * n + j = 0 <;> simp [h0, Nat.add_assoc]
        omega
      refine ⟨hsp, ?_, fun j hj => ?_⟩
      · obtain ⟨u, hu⟩ := hs 0 hn0
        rw [he] at hu
        exact lt_of_cell (p := ⟨a.block, a.off + i * n + 0, none⟩) hu
      · obtain ⟨u, hu⟩ := hs j hj
        show W.cell? _ = some ((W.cell? (a.add (i * n + j))).getD undef)
        rw [← he, hu]; rfl
    · obtain ⟨cs', hcl, hat, htr⟩ := hrow i hlt
      refine ⟨k, (D i, Pl i), ?_⟩
      rw [← htr]
      congr 1
      apply List.ext_getElem?
      intro j
      by_cases hj : j < n
      · simp [hj, hat j hj, hcl]
      · simp [hj, hcl]
theorem open_rows {H : Type} {enc : TypeId × Value → H} {P : Program} {W : World} {base b0 : Nat} {r : Reach} {t e : TypeId} {v : Value} {d : DataW H} {p : List MemPlace} {sp : Nat → Bool} (n : Nat) (hn : P.cellsOf e = n) (hn0 : 0 < n) (ht : P.underlying t = some (.slice e))
    (hv : Value.okWide P W r b0 t v) (h : DataW.Trod enc P W base sp true t v d p) :
    ∃ (len : Nat) (f : Nat → Nat → Value), IsRows W n v len f ∧ len ≤ maxLen ∧ ∀ i, i < len → ∃ fuel x, DataW.trod enc P W base sp true fuel e ((List.range n).map (f i)) = some x :=
  open_rows_of n hn hn0 ht (okWide_slice ht hv) h
end Go.Proofs.Ytodfcalaggfldaa
namespace Go.Proofs.Ytodfcalaggfldaa
set_option linter.unusedVariables false
set_option linter.unusedSimpArgs false
open Go.RowKit Sym Go.ChangeShapes Go.WideShapes Go.Deep

theorem row_of {W : World} {n len : Nat} {v : Value} {f : Nat → Nat → Value} (h : IsRows W n v len f) (B : List Value) : BlkSat B W v (.row len n f) := by
  rcases h with ⟨rfl, rfl⟩ | ⟨a, cap, rfl, h1, h2, h3⟩
  · exact ⟨none, 0, rfl, Nat.le_refl _, Nat.zero_le _, fun i j hi => absurd hi (Nat.not_lt_zero _)⟩
  · refine ⟨some a, cap, rfl, h1, h2, fun i j hi hj => ⟨a, rfl, ?_⟩⟩
    obtain ⟨g1, g2, g3⟩ := h3 i hi
    obtain ⟨bb, oo, ss⟩ := a
    simp only at g1
    subst g1
    have hg := g3 j hj
    have hg : W.cell? ⟨bb, oo + i * n + j, none⟩ = some (f i j) := hg
    rw [Nat.add_assoc] at hg
    rw [← hg]
    unfold Addr.add
    by_cases h0 : i * n + j = 0
    · rw [if_pos h0, h0]; rfl
    · rw [if_neg h0]
theorem row_congr {B : List Value} {w : World} {u : Value} {n sz : Nat} {f g : Nat → Nat → Value} (h : BlkSat B w u (.row n sz f)) (e : ∀ i j, i < n → j < sz → f i j = g i j) : BlkSat B w u (.row n sz g) := by
  obtain ⟨p, cap, h1, h2, h3, h4⟩ := h
  exact ⟨p, cap, h1, h2, h3, fun i j hi hj => by rw [← e i j hi hj]; exact h4 i j hi hj⟩
/-- memory of one letter that is only read -/
theorem mem_row {w : World} {u : Value} {n sz : Nat} {f : Nat → Nat → Value} (h : BlkSat [u] w u (.row n sz f)) : Mem w [] [.row n sz f] [u] w := by
  refine ⟨⟨rfl, fun k x v h1 h2 => ?_, fun k j b h1 h2 => ?_, fun k j b h1 h2 => ?_⟩, .refl _ _, fun k b h1 => ?_⟩
  · cases k with
    | zero => simp only [List.getElem?_cons_zero, Option.some.injEq] at h1 h2; subst h1; subst h2; exact h
    | succ k => simp at h1
  all_goals
    obtain ⟨x, v, g1, g2, g3, g4⟩ := h1
    cases k with
    | zero => simp only [List.getElem?_cons_zero, Option.some.injEq] at g1; subst g1; cases g2
    | succ k => simp at g1
theorem mem_row_congr {w0 w : World} {bs : List Nat} {H : List Blk} {B : List Value} {k n sz : Nat} {f g : Nat → Nat → Value} (h : Mem w0 bs H B w) (hk : H[k]? = some (.row n sz f)) (e : ∀ i j, i < n → j < sz → f i j = g i j) : Mem w0 bs (H.set k (.row n sz g)) B w := by
  have hkl : k < H.length := (List.getElem?_eq_some_iff.1 hk).1
  have ex : ∀ j b, ExBlk (H.set k (.row n sz g)) B j b → ExBlk H B j b := by
    rintro j b ⟨x, u, h1, h2, h3, h4⟩
    by_cases ej : k = j
    · subst ej
      rw [List.getElem?_set_self hkl] at h1
      simp only [Option.some.injEq] at h1
      subst h1; cases h2
    · rw [List.getElem?_set_ne ej] at h1
      exact ⟨x, u, h1, h2, h3, h4⟩
  have rd : ∀ j b, RdBlk (H.set k (.row n sz g)) B j b → RdBlk H B j b := by
    rintro j b ⟨m, z, f', u, h1, h2, h3, h4, h5⟩
    by_cases ej : k = j
    · subst ej
      rw [List.getElem?_set_self hkl] at h1
      simp only [Option.some.injEq, Blk.row.injEq] at h1
      obtain ⟨rfl, rfl, rfl⟩ := h1
      exact ⟨_, _, f, u, hk, h2, h3, h4, h5⟩
    · rw [List.getElem?_set_ne ej] at h1
      exact ⟨m, z, f', u, h1, h2, h3, h4, h5⟩
  refine ⟨⟨by rw [List.length_set]; exact h.sat.len, fun j x u h1 h2 => ?_, fun i j b h1 h2 => h.sat.sep i j b (ex _ _ h1) (ex _ _ h2), fun i j b h1 h2 => h.sat.far i j b (ex _ _ h1) (rd _ _ h2)⟩, h.keeps, fun j b h1 => h.good j b (ex _ _ h1)⟩
  by_cases ej : k = j
  · subst ej
    rw [List.getElem?_set_self hkl] at h1
    simp only [Option.some.injEq] at h1
    subst h1
    exact row_congr (h.sat.blk k _ u hk h2) e
  · rw [List.getElem?_set_ne ej] at h1
    exact h.sat.blk j x u h1 h2
/-- the texts of a slice -/
theorem open_strs {H : Type} {enc : TypeId × Value → H} {P : Program} {W : World} {base b0 : Nat} {r : Reach} {t e : TypeId} {v : Value} {d : DataW H} {p : List MemPlace} {sp : Nat → Bool} (hn : P.cellsOf e = 1) (ht : P.underlying t = some (.slice e)) (he : P.underlying e = some .string)
    (hv : Value.okWide P W r b0 t v) (h : DataW.Trod enc P W base sp true t v d p) :
    ∃ (n : Nat) (g : Nat → ByteArray), n ≤ maxLen ∧ (∀ i, (g i).size ≤ maxLen) ∧ ∀ B, BlkSat B W v (.row n 1 fun i _ => .string (g i)) := by
  obtain ⟨len, f, h1, h2, h3⟩ := open_rows 1 hn (by omega) ht hv h
  have hs : ∀ i, i < len → ∃ s, f i 0 = .string s ∧ s.size ≤ maxLen := by
    intro i hi
    obtain ⟨fuel, x, hx⟩ := h3 i hi
    obtain ⟨s, hs, _, hz⟩ := DataW.trod_string he hx
    exact ⟨s, by simpa [List.range_succ] using hs, hz⟩
  refine ⟨len, fun i => if i < len then strV (f i 0) else ⟨#[]⟩, h2, fun i => ?_, fun B => row_congr (row_of h1 B) fun i j hi hj => ?_⟩
  · by_cases hi : i < len
    · obtain ⟨s, e1, e2⟩ := hs i hi
      simp only [if_pos hi, e1]; exact e2
    · simp only [if_neg hi]; exact Nat.zero_le _
  · obtain rfl : j = 0 := by omega
    obtain ⟨s, e1, e2⟩ := hs i hi
    simp only [if_pos hi, e1]; rfl
end Go.Proofs.Ytodfcalaggfldaa
