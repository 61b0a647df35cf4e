/- Two sides of a connection, plainly: numbers that follow each other are valid; what they send is a packet. No program here. -/
import Derived.Test.YtodfcalaggfldaaCnP
namespace Go.Proofs.Ytodfcalaggfldaa
set_option linter.unusedVariables false
set_option linter.unusedSimpArgs false
open Go.RowKit Sym

theorem add_of (a : Int) : Circ.of (Circ.add a 1) = Circ.add a 1 := Circ.of_in (Circ.add_lo _ _) (Circ.add_hi _ _)
theorem later_next (r : Int) (h0 : 0 ≤ r) (h1 : r < 281474976710656) : Circ.later r (Circ.add r 1) = Circ.add r 1 := by
  have hu : Circ.up (Circ.add r 1) r = 281474976710655 := by unfold Circ.up Circ.add Circ.of; omega
  have hl : Circ.less r (Circ.add r 1) = true := by unfold Circ.less Circ.far; rw [hu]; decide
  unfold Circ.later
  rw [if_pos hl, add_of]
theorem long_next (r : Int) (h0 : 0 ≤ r) (h1 : r < 281474976710656) : longN r (shortN (Circ.add r 1)) = Circ.add r 1 := by
  unfold longN
  have e : (shortN (shortN (Circ.add r 1)) - shortN r) % 16777216 = 1 := by unfold shortN Circ.add Circ.of; omega
  rw [e]; rfl
theorem long_same (r : Int) (h0 : 0 ≤ r) (h1 : r < 281474976710656) : longN r (shortN r) = r := by
  unfold longN
  have e : (shortN (shortN r) - shortN r) % 16777216 = 0 := by unfold shortN; omega
  rw [e]
  show Circ.add r 0 = r
  unfold Circ.add Circ.of; omega
theorem within_self (g f : Int) (h0 : 0 ≤ g) (h1 : g < 281474976710656) : Circ.within g f (Circ.of g) = true := by
  rw [Circ.of_in h0 h1]
  unfold Circ.within
  simp
theorem swl_near (r i : Int) (h0 : 0 ≤ r) (h1 : r < 281474976710656) (i0 : 0 ≤ i) (i1 : i < 281474976710656) (hd : Circ.up i r ≤ 1000) : Circ.up (Circ.later (Circ.add r (-15)) i) (Circ.add r 1) ≤ 16 := by
  have hu : Circ.up i r = (r - i) % 281474976710656 := by unfold Circ.up; rw [Circ.of_in h0 h1, Circ.of_in i0 i1]
  have hv : Circ.up i (Circ.add r (-15)) = (Circ.up i r - 15) % 281474976710656 := by unfold Circ.up Circ.add Circ.of; omega
  have hlo := Circ.up_lo i r
  unfold Circ.later
  by_cases hd' : Circ.up i r < 15
  · have hl : Circ.less (Circ.add r (-15)) i = true := by
      unfold Circ.less Circ.far
      rw [hv, decide_eq_true_eq]
      split <;> omega
    rw [if_pos hl]
    have : Circ.up (Circ.of i) (Circ.add r 1) = (Circ.up i r + 1) % 281474976710656 := by unfold Circ.up Circ.add Circ.of; omega
    omega
  · have hl : ¬ Circ.less (Circ.add r (-15)) i = true := by
      unfold Circ.less Circ.far
      rw [hv, decide_eq_true_eq]
      split <;> omega
    rw [if_neg hl]
    unfold Circ.up Circ.add Circ.of; omega
/-- the next number, and what was sent last, are valid -/
theorem valid_fwd (i1 i2 g r q k : Int) (hk : 3 ≤ k ∧ k ≤ 4) (g0 : 0 ≤ g) (g1 : g < 281474976710656) (h0 : 0 ≤ r) (h1 : r < 281474976710656) (i0 : 0 ≤ i2) (i1' : i2 < 281474976710656) (hd : Circ.up i2 r ≤ 1000) : Span.valid ⟨i1, i2, g, r, q⟩ k (Circ.add r 1) g = 0 := by
  have he : Span.ending k = false := by unfold Span.ending; rcases (show k = 3 ∨ k = 4 by omega) with rfl | rfl <;> rfl
  have hs : ¬ Head.size k true = 0 := by rw [Span.size_long]; omega
  have hn : Span.numbered ⟨i1, i2, g, r, q⟩ k (Circ.add r 1) = true := by
    unfold Span.numbered
    rw [if_neg (by omega), he, if_neg (by decide)]
    unfold Span.swl Span.swh Circ.within
    rw [decide_eq_true_eq]
    have h2 := swl_near r i2 h0 h1 i0 i1' hd
    have h3 := Circ.up_lo (Circ.later (Circ.add r (-15)) i2) (Circ.add r 1)
    have h4 : Circ.up (Circ.later (Circ.add r (-15)) i2) (Circ.add r 48) = (Circ.up (Circ.later (Circ.add r (-15)) i2) (Circ.add r 1) + 47) % 281474976710656 := by
      generalize Circ.later (Circ.add r (-15)) i2 = x
      unfold Circ.up Circ.add Circ.of; omega
    show Circ.up (Circ.later (Circ.add r (-15)) i2) (Circ.add r 1) ≤ Circ.up (Circ.later (Circ.add r (-15)) i2) (Circ.add r 48)
    omega
  have ha : Span.acks ⟨i1, i2, g, r, q⟩ k g = true := by
    unfold Span.acks Span.awh
    exact within_self g _ g0 g1
  unfold Span.valid
  rw [if_neg hs, hn, ha]
  simp
theorem valid_end (i1 i2 g r q k : Int) (hk : 5 ≤ k ∧ k ≤ 7) (g0 : 0 ≤ g) (g1 : g < 281474976710656) (h0 : 0 ≤ r) (h1 : r < 281474976710656) : Span.valid ⟨i1, i2, g, r, q⟩ k (Circ.add r 1) g = 0 := by
  have he : Span.ending k = true := by unfold Span.ending; rcases (show k = 5 ∨ k = 6 ∨ k = 7 by omega) with rfl | rfl | rfl <;> rfl
  have hs : ¬ Head.size k true = 0 := by rw [Span.size_long]; omega
  have hn : Span.numbered ⟨i1, i2, g, r, q⟩ k (Circ.add r 1) = true := by
    unfold Span.numbered
    rw [if_neg (by omega), if_pos he]
    unfold Span.swh Circ.within
    rw [decide_eq_true_eq, Span.up_self]
    exact Circ.up_lo _ _
  have ha : Span.acks ⟨i1, i2, g, r, q⟩ k g = true := by
    unfold Span.acks Span.awh
    exact within_self g _ g0 g1
  unfold Span.valid
  rw [if_neg hs, hn, ha]
  simp
theorem opP_nil : OpP 0 fun _ _ => undef := ⟨fun i hi => by omega, by unfold Few; refine ⟨?_, ?_⟩ <;> first | decide | (intro i hi; omega)⟩
/-! what they send is a packet -/
theorem chk_resp (s a : Int) (hs : 0 ≤ s ∧ s < 281474976710656) (ha : 0 ≤ a ∧ a < 281474976710656) (g : Nat → Op) : chkP ⟨1, true, 0, 0, 0, 0, s, a, 5, 0, 0, ⟨⟨[]⟩⟩⟩ 0 g = 0 := by
  have h1 : Head.check (begH ⟨1, true, 0, 0, 0, 0, s, a, 5, 0, 0, ⟨⟨[]⟩⟩⟩ 0 g 0) = 0 := by
    unfold Head.check begH wordsP
    simp [Head.known, Head.brief, Head.wi, Head.most, Head.size, Head.acks, Head.more, sizeL]
    omega
  have h2 : numP ⟨1, true, 0, 0, 0, 0, s, a, 5, 0, 0, ⟨⟨[]⟩⟩⟩ = true := by
    unfold numP
    simp [Head.acks, served, wn, Head.most]
    try omega
  have h3 : chkO 0 g = 0 := rfl
  have h5 : ¬ (⟨1, true, 0, 0, 0, 0, s, a, 5, 0, 0, ⟨⟨[]⟩⟩⟩ : Pk).data.size > 200 := by show ¬ ByteArray.size ⟨⟨[]⟩⟩ > 200; decide
  unfold chkP
  rw [if_pos h1, if_pos h2, if_pos h3, if_neg h5]
  have h4 : spareP ⟨1, true, 0, 0, 0, 0, s, a, 5, 0, 0, ⟨⟨[]⟩⟩⟩ = false := by
    unfold spareP
    simp [Head.acks, served, Head.bears]
    try rfl
  rw [if_neg (by rw [h4]; decide), if_pos (by first | rfl | decide)]
theorem chk_long3 (s a : Int) (hs : 0 ≤ s ∧ s < 281474976710656) (ha : 0 ≤ a ∧ a < 281474976710656) (g : Nat → Op) : chkP ⟨3, true, 0, 0, 0, 0, s, a, 0, 0, 0, ⟨⟨[]⟩⟩⟩ 0 g = 0 := by
  have h1 : Head.check (begH ⟨3, true, 0, 0, 0, 0, s, a, 0, 0, 0, ⟨⟨[]⟩⟩⟩ 0 g 0) = 0 := by
    unfold Head.check begH wordsP
    simp [Head.known, Head.brief, Head.wi, Head.most, Head.size, Head.acks, Head.more, sizeL]
    omega
  have h2 : numP ⟨3, true, 0, 0, 0, 0, s, a, 0, 0, 0, ⟨⟨[]⟩⟩⟩ = true := by
    unfold numP
    simp [Head.acks, served, wn, Head.most]
    try omega
  have h3 : chkO 0 g = 0 := rfl
  have h5 : ¬ (⟨3, true, 0, 0, 0, 0, s, a, 0, 0, 0, ⟨⟨[]⟩⟩⟩ : Pk).data.size > 200 := by show ¬ ByteArray.size ⟨⟨[]⟩⟩ > 200; decide
  unfold chkP
  rw [if_pos h1, if_pos h2, if_pos h3, if_neg h5]
  have h4 : spareP ⟨3, true, 0, 0, 0, 0, s, a, 0, 0, 0, ⟨⟨[]⟩⟩⟩ = false := by
    unfold spareP
    simp [Head.acks, served, Head.bears]
    try rfl
  rw [if_neg (by rw [h4]; decide), if_pos (by first | rfl | decide)]
theorem chk_long5 (s a : Int) (hs : 0 ≤ s ∧ s < 281474976710656) (ha : 0 ≤ a ∧ a < 281474976710656) (g : Nat → Op) : chkP ⟨5, true, 0, 0, 0, 0, s, a, 0, 0, 0, ⟨⟨[]⟩⟩⟩ 0 g = 0 := by
  have h1 : Head.check (begH ⟨5, true, 0, 0, 0, 0, s, a, 0, 0, 0, ⟨⟨[]⟩⟩⟩ 0 g 0) = 0 := by
    unfold Head.check begH wordsP
    simp [Head.known, Head.brief, Head.wi, Head.most, Head.size, Head.acks, Head.more, sizeL]
    omega
  have h2 : numP ⟨5, true, 0, 0, 0, 0, s, a, 0, 0, 0, ⟨⟨[]⟩⟩⟩ = true := by
    unfold numP
    simp [Head.acks, served, wn, Head.most]
    try omega
  have h3 : chkO 0 g = 0 := rfl
  have h5 : ¬ (⟨5, true, 0, 0, 0, 0, s, a, 0, 0, 0, ⟨⟨[]⟩⟩⟩ : Pk).data.size > 200 := by show ¬ ByteArray.size ⟨⟨[]⟩⟩ > 200; decide
  unfold chkP
  rw [if_pos h1, if_pos h2, if_pos h3, if_neg h5]
  have h4 : spareP ⟨5, true, 0, 0, 0, 0, s, a, 0, 0, 0, ⟨⟨[]⟩⟩⟩ = false := by
    unfold spareP
    simp [Head.acks, served, Head.bears]
    try rfl
  rw [if_neg (by rw [h4]; decide), if_pos (by first | rfl | decide)]
theorem chk_long6 (s a : Int) (hs : 0 ≤ s ∧ s < 281474976710656) (ha : 0 ≤ a ∧ a < 281474976710656) (g : Nat → Op) : chkP ⟨6, true, 0, 0, 0, 0, s, a, 0, 0, 0, ⟨⟨[]⟩⟩⟩ 0 g = 0 := by
  have h1 : Head.check (begH ⟨6, true, 0, 0, 0, 0, s, a, 0, 0, 0, ⟨⟨[]⟩⟩⟩ 0 g 0) = 0 := by
    unfold Head.check begH wordsP
    simp [Head.known, Head.brief, Head.wi, Head.most, Head.size, Head.acks, Head.more, sizeL]
    omega
  have h2 : numP ⟨6, true, 0, 0, 0, 0, s, a, 0, 0, 0, ⟨⟨[]⟩⟩⟩ = true := by
    unfold numP
    simp [Head.acks, served, wn, Head.most]
    try omega
  have h3 : chkO 0 g = 0 := rfl
  have h5 : ¬ (⟨6, true, 0, 0, 0, 0, s, a, 0, 0, 0, ⟨⟨[]⟩⟩⟩ : Pk).data.size > 200 := by show ¬ ByteArray.size ⟨⟨[]⟩⟩ > 200; decide
  unfold chkP
  rw [if_pos h1, if_pos h2, if_pos h3, if_neg h5]
  have h4 : spareP ⟨6, true, 0, 0, 0, 0, s, a, 0, 0, 0, ⟨⟨[]⟩⟩⟩ = false := by
    unfold spareP
    simp [Head.acks, served, Head.bears]
    try rfl
  rw [if_neg (by rw [h4]; decide), if_pos (by first | rfl | decide)]
theorem chk_long7 (s a : Int) (hs : 0 ≤ s ∧ s < 281474976710656) (ha : 0 ≤ a ∧ a < 281474976710656) (g : Nat → Op) : chkP ⟨7, true, 0, 0, 0, 0, s, a, 0, 1, 0, ⟨⟨[]⟩⟩⟩ 0 g = 0 := by
  have h1 : Head.check (begH ⟨7, true, 0, 0, 0, 0, s, a, 0, 1, 0, ⟨⟨[]⟩⟩⟩ 0 g 0) = 0 := by
    unfold Head.check begH wordsP
    simp [Head.known, Head.brief, Head.wi, Head.most, Head.size, Head.acks, Head.more, sizeL]
    omega
  have h2 : numP ⟨7, true, 0, 0, 0, 0, s, a, 0, 1, 0, ⟨⟨[]⟩⟩⟩ = true := by
    unfold numP
    simp [Head.acks, served, wn, Head.most]
    try omega
  have h3 : chkO 0 g = 0 := rfl
  have h5 : ¬ (⟨7, true, 0, 0, 0, 0, s, a, 0, 1, 0, ⟨⟨[]⟩⟩⟩ : Pk).data.size > 200 := by show ¬ ByteArray.size ⟨⟨[]⟩⟩ > 200; decide
  unfold chkP
  rw [if_pos h1, if_pos h2, if_pos h3, if_neg h5]
  have h4 : spareP ⟨7, true, 0, 0, 0, 0, s, a, 0, 1, 0, ⟨⟨[]⟩⟩⟩ = false := by
    unfold spareP
    simp [Head.acks, served, Head.bears]
    try rfl
  rw [if_neg (by rw [h4]; decide), if_pos (by first | rfl | decide)]
theorem chk_three (s a : Int) (hs : 0 ≤ s ∧ s < 16777216) (ha : 0 ≤ a ∧ a < 16777216) (g : Nat → Op) : chkP ⟨3, false, 0, 0, 0, 0, s, a, 0, 0, 0, ⟨⟨[]⟩⟩⟩ 0 g = 0 := by
  have h1 : Head.check (begH ⟨3, false, 0, 0, 0, 0, s, a, 0, 0, 0, ⟨⟨[]⟩⟩⟩ 0 g 0) = 0 := by
    unfold Head.check begH wordsP
    simp [Head.known, Head.brief, Head.wi, Head.most, Head.size, Head.acks, Head.more, sizeL]
    omega
  have h2 : numP ⟨3, false, 0, 0, 0, 0, s, a, 0, 0, 0, ⟨⟨[]⟩⟩⟩ = true := by
    unfold numP
    simp [Head.acks, served, wn, Head.most]
    try omega
  have h3 : chkO 0 g = 0 := rfl
  have h5 : ¬ (⟨3, false, 0, 0, 0, 0, s, a, 0, 0, 0, ⟨⟨[]⟩⟩⟩ : Pk).data.size > 200 := by show ¬ ByteArray.size ⟨⟨[]⟩⟩ > 200; decide
  unfold chkP
  rw [if_pos h1, if_pos h2, if_pos h3, if_neg h5]
  have h4 : spareP ⟨3, false, 0, 0, 0, 0, s, a, 0, 0, 0, ⟨⟨[]⟩⟩⟩ = false := by
    unfold spareP
    simp [Head.acks, served, Head.bears]
    try rfl
  rw [if_neg (by rw [h4]; decide), if_pos (by first | rfl | decide)]
theorem chk_four (s a : Int) (hs : 0 ≤ s ∧ s < 16777216) (ha : 0 ≤ a ∧ a < 16777216) (g : Nat → Op) : chkP ⟨4, false, 0, 0, 1, 0, s, a, 0, 0, 0, ⟨⟨[120]⟩⟩⟩ 0 g = 0 := by
  have h1 : Head.check (begH ⟨4, false, 0, 0, 1, 0, s, a, 0, 0, 0, ⟨⟨[120]⟩⟩⟩ 0 g 0) = 0 := by
    unfold Head.check begH wordsP
    simp [Head.known, Head.brief, Head.wi, Head.most, Head.size, Head.acks, Head.more, sizeL]
    omega
  have h2 : numP ⟨4, false, 0, 0, 1, 0, s, a, 0, 0, 0, ⟨⟨[120]⟩⟩⟩ = true := by
    unfold numP
    simp [Head.acks, served, wn, Head.most]
    try omega
  have h3 : chkO 0 g = 0 := rfl
  have h5 : ¬ (⟨4, false, 0, 0, 1, 0, s, a, 0, 0, 0, ⟨⟨[120]⟩⟩⟩ : Pk).data.size > 200 := by show ¬ ByteArray.size ⟨⟨[120]⟩⟩ > 200; decide
  unfold chkP
  rw [if_pos h1, if_pos h2, if_pos h3, if_neg h5]
  have h4 : spareP ⟨4, false, 0, 0, 1, 0, s, a, 0, 0, 0, ⟨⟨[120]⟩⟩⟩ = false := by
    unfold spareP
    simp [Head.acks, served, Head.bears]
    try rfl
  rw [if_neg (by rw [h4]; decide), if_pos (by first | rfl | decide)]
theorem ckPL_nil (p : Pk) (h : p.data.size ≤ 1000000) : CkPL p 0 (fun _ _ => undef) := ⟨opP_nil, h⟩
end Go.Proofs.Ytodfcalaggfldaa
