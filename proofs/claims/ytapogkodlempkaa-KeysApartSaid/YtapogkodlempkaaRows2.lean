/- Arguments that are slices: what is read at each index. -/
import Derived.Test.YtapogkodlempkaaBase
import Derived.Deep.Slices
namespace Go.Proofs.Ytapogkodlempkaa
set_option linter.unusedVariables false
set_option linter.unusedSimpArgs false
open Go.RowKit Go.ChangeShapes Go.WideShapes Go.Deep

/-- a slice value of len elements of n cells each: cell j of element i holds f i j. -/
def IsRows (W : World) (n : Nat) (v : Value) (len : Nat) (f : Nat → Nat → Value) : Prop :=
  (v = .slice none 0 0 ∧ len = 0) ∨ ∃ (a : Addr) (cap : Nat), v = .slice (some a) len cap ∧ len ≤ cap ∧ cap ≤ maxLen ∧
    ∀ i, i < len → a.spot = none ∧ a.block < W.heap.size ∧ ∀ j, j < n → W.cell? ⟨a.block, a.off + i * n + j, none⟩ = some (f i j)
theorem IsRows.below {W w1 : World} {n len : Nat} {v : Value} {f : Nat → Nat → Value} (h : IsRows W n v len f) (hb : Below W.heap.size W w1) : IsRows w1 n v len f := by
  rcases h with h | ⟨a, cap, hv, h1, h2, h3⟩
  · exact .inl h
  · refine .inr ⟨a, cap, hv, h1, h2, fun i hi => ?_⟩
    obtain ⟨s, b, c⟩ := h3 i hi
    exact ⟨s, Nat.lt_of_lt_of_le b hb.size, fun j hj => (hb.cell (p := ⟨a.block, a.off + i * n + j, none⟩) b).trans (c j hj)⟩
theorem open_rows {H : Type} {enc : TypeId × Value → H} {P : Program} {W : World} {base b0 : Nat} {r : Reach} {t e : TypeId} {v : Value} {d : DataW H} {p : List MemPlace} {sp : Nat → Bool} (n : Nat) (hn : P.cellsOf e = n) (hn0 : 0 < n) (ht : P.underlying t = some (.slice e))
    (hv : Value.okWide P W r b0 t v) (h : DataW.Trod enc P W base sp true t v d p) :
    ∃ (len : Nat) (f : Nat → Nat → Value), IsRows W n v len f ∧ len ≤ maxLen ∧ ∀ i, i < len → ∃ fuel x, DataW.trod enc P W base sp true fuel e ((List.range n).map (f i)) = some x := by
  obtain ⟨a0, len0, cap0, rfl⟩ := okWide_slice ht hv
  obtain ⟨fuel, hf⟩ := h
  rcases open_slice ht hf with ⟨h0, _⟩ | ⟨a, len, cap, m, k, D, Pl, h0, hb, hl, hm, hmm, _, hi⟩
  · simp [Value.cells] at h0
    obtain ⟨rfl, rfl, rfl⟩ := h0
    exact ⟨0, fun _ _ => undef, .inl ⟨rfl, rfl⟩, Nat.zero_le _, fun i hi => absurd hi (Nat.not_lt_zero _)⟩
  · simp [Value.cells] at h0
    obtain ⟨rfl, rfl, rfl⟩ := h0
    have hlm : len0 ≤ m := by rw [hmm]; split <;> omega
    rw [hn] at hi
    have hrow : ∀ i, i < len0 → ∃ cs' : List Value, cs'.length = n ∧ (∀ j, j < n → W.cell? (a.add (i * n + j)) = cs'[j]?) ∧ DataW.trod enc P W base sp true k e cs' = some (D i, Pl i) := by
      intro i hlt
      obtain ⟨cs', hc, htr⟩ := hi i (by omega)
      obtain ⟨_, hcl, hat⟩ := World.cells?_some hc
      exact ⟨cs', hcl, fun j hj => by rw [← add_add]; exact hat j hj, htr⟩
    refine ⟨len0, fun i j => (W.cell? (a.add (i * n + j))).getD undef, .inr ⟨a, cap0, rfl, hl, hm, fun i hlt => ?_⟩, by omega, fun i hlt => ?_⟩
    · obtain ⟨cs', hcl, hat, _⟩ := hrow i hlt
      have hs : ∀ j, j < n → ∃ u, W.cell? (a.add (i * n + j)) = some u := fun j hj => ⟨_, (hat j hj).trans (List.getElem?_eq_getElem (by omega))⟩
      have hsp : a.spot = none := by
        obtain ⟨c0, hcl0, hat0, _⟩ := hrow 0 (by omega)
        have h1 := World.cell?_spot ((hat0 0 hn0).trans (List.getElem?_eq_getElem (by omega)))
        simpa [Addr.add] using h1
      have he : ∀ j, a.add (i * n + j) = ⟨a.block, a.off + i * n + j, none⟩ := by
        intro j
        obtain ⟨bb, oo, ss⟩ := a
        simp only at hsp
        subst hsp
        unfold Addr.add
        by_cases h0 : i * n + j = 0 <;> simp [h0, Nat.add_assoc]
        omega
      refine ⟨hsp, ?_, fun j hj => ?_⟩
      · obtain ⟨u, hu⟩ := hs 0 hn0
        rw [he] at hu
        exact lt_of_cell (p := ⟨a.block, a.off + i * n + 0, none⟩) hu
      · obtain ⟨u, hu⟩ := hs j hj
        show W.cell? _ = some ((W.cell? (a.add (i * n + j))).getD undef)
        rw [← he, hu]; rfl
    · obtain ⟨cs', hcl, hat, htr⟩ := hrow i hlt
      refine ⟨k, (D i, Pl i), ?_⟩
      rw [← htr]
      congr 1
      apply List.ext_getElem?
      intro j
      by_cases hj : j < n
      · simp [hj, hat j hj, hcl]
      · simp [hj, hcl]
end Go.Proofs.Ytapogkodlempkaa
