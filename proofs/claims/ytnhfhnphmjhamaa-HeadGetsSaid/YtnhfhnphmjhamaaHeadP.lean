/- Beginnings as bytes, and back: plain. No conditions. -/
import Derived.Test.YtnhfhnphmjhamaaHeadT
namespace Go.Proofs.Ytnhfhnphmjhamaa
set_option linter.unusedVariables false
set_option linter.unusedSimpArgs false
open Go.RowKit

theorem be_val (l : List UInt8) : Oct.be (Oct.val l) l.length = l := by
  induction l with
  | nil => rfl
  | cons x l ih =>
    have hv := Oct.val_lt l
    have hx : x.toNat < 256 := x.toNat_lt
    simp only [List.length_cons, Oct.be]
    rw [val_cons]
    have h1 : (x.toNat * 256 ^ l.length + Oct.val l) / 256 ^ l.length = x.toNat := by
      rw [Nat.mul_comm, Nat.mul_add_div (Nat.pow_pos (by decide)), Nat.div_eq_of_lt hv, Nat.add_zero]
    rw [h1]
    congr 1
    · simp
    · have key : ∀ (k a b : Nat), k ≤ l.length → Oct.be (a * 256 ^ l.length + b) k = Oct.be b k := by
        intro k
        induction k with
        | zero => intros; rfl
        | succ k ihk =>
          intro a b hk
          simp only [Oct.be]
          rw [ihk a b (by omega)]
          congr 1
          have e : a * 256 ^ l.length + b = 256 ^ k * (a * 256 ^ (l.length - k - 1) * 256) + b := by
            rw [show l.length = k + (l.length - k - 1) + 1 by omega, Nat.pow_succ, Nat.pow_add]
            have : k + (l.length - k - 1) + 1 - k - 1 = l.length - k - 1 := by omega
            rw [this]
            ac_rfl
          rw [e, Nat.mul_add_div (Nat.pow_pos (by decide))]
          apply UInt8.toNat.inj
          simp only [UInt8.toNat_ofNat']
          omega
      rw [key l.length _ _ (Nat.le_refl _), ih]
theorem be_nu (s : ByteArray) (a b k : Nat) (hk : b = a + k) (hb : b ≤ s.size) : Oct.be (nu s a b) k = (s.data.toList.take b).drop a := by
  have h1 : (s.extract a b).data.toList = (s.data.toList.take b).drop a := by simp [List.drop_take]
  have h2 : ((s.data.toList.take b).drop a).length = k := by simp; omega
  have := be_val ((s.data.toList.take b).drop a)
  rw [h2] at this
  unfold nu
  rw [h1, this]
theorem u64_nat (n : Nat) (h : n < 18446744073709551616) : Oct.u64 (n : Int) = n := by unfold Oct.u64; omega
theorem drop_join (l : List UInt8) (a b c : Nat) (h1 : a ≤ b) (h2 : b ≤ c) : (l.take b).drop a ++ (l.take c).drop b = (l.take c).drop a := by
  have e : l.take b = (l.take c).take b := by rw [List.take_take, Nat.min_eq_left h2]
  rw [e]
  have := List.take_append_drop b (l.take c)
  conv => rhs; rw [← this, List.drop_append]
  congr 1
  by_cases hl : b ≤ (l.take c).length
  · rw [show a - ((l.take c).take b).length = 0 by rw [List.length_take]; omega]; rfl
  · rw [List.drop_eq_nil_of_le (by omega)]; simp
theorem get_ok (s : ByteArray) (h0 : (get s).2.2 = 0) : Head.check (get s).1 = 0 ∧ putB (get s).1 ++ (get s).2.1 = s := by
  have hl : s.data.toList.length = s.size := by simp
  have fin : ∀ (h : Head.H) (n : Nat), n ≤ s.size → Head.check h = 0 → Head.put h = s.data.toList.take n → Head.check h = 0 ∧ putB h ++ s.extract n s.size = s := by
    intro h n hn hc hp
    refine ⟨hc, ?_⟩
    unfold putB
    rw [if_pos hc, hp]
    apply ByteArray.ext
    apply Array.toList_inj.1
    simp
    rw [← hl]
    have := List.take_append_drop n s.data.toList
    simp only [hl] at this ⊢
    conv => rhs; rw [← this]
    congr 1
    rw [List.take_of_length_le (by simp)]
  have nb : ∀ a b, b ≤ a + 7 → nu s a b < 18446744073709551616 := fun a b h => Nat.lt_trans (nu_small s a b h) (by decide)
  have n1 : ∀ a, a + 1 ≤ s.size → nu s a (a + 1) < 256 := fun a h => by have := nu_one s a h; have := byteAt_bd s a; omega
  unfold get at h0 ⊢
  by_cases h12 : s.size < 12
  · simp only [if_pos h12] at h0; cases h0
  · simp only [if_neg h12] at h0 ⊢
    have b5 := n1 5 (by omega)
    have b8 := n1 8 (by omega)
    have p02 := be_nu s 0 2 2 rfl (by omega)
    have p24 := be_nu s 2 4 2 rfl (by omega)
    have p45 := be_nu s 4 5 1 rfl (by omega)
    have p56 := be_nu s 5 6 1 rfl (by omega)
    have p68 := be_nu s 6 8 2 rfl (by omega)
    have p89 := be_nu s 8 9 1 rfl (by omega)
    have un : ∀ a b, b ≤ a + 7 → Oct.u64 (nu s a b : Int) = nu s a b := fun a b h => u64_nat _ (nb a b h)
    have c5 : (16 : Int) * ((nu s 5 6 : Int) / 16) + (nu s 5 6 : Int) % 16 = (nu s 5 6 : Nat) := by omega
    by_cases hlg : nu s 8 9 % 2 = 1
    · simp only [if_pos hlg] at h0 ⊢
      by_cases h16 : s.size < 16
      · simp only [if_pos h16] at h0; cases h0
      · simp only [if_neg h16] at h0 ⊢
        by_cases hsp : nu s 8 9 / 32 = 0 ∧ nu s 9 10 = 0
        · simp only [if_pos hsp] at h0 ⊢
          by_cases hc : Head.check (hd s true) = 0
          · simp only [if_pos hc] at h0 ⊢
            refine fin _ 16 (by omega) hc ?_
            have p9 := be_nu s 9 10 1 rfl (by omega)
            have p10 := be_nu s 10 16 6 rfl (by omega)
            have c8 : (2 : Int) * ((nu s 8 9 : Int) / 2 % 16) + 1 = (nu s 8 9 : Nat) := by omega
            rw [hsp.2] at p9
            have z : Oct.be 0 1 = [0] := rfl
            rw [z] at p9
            simp only [Head.put, hd, if_true, c5, c8, un 0 2 (by decide), un 2 4 (by decide), un 4 5 (by decide), un 5 6 (by decide), un 6 8 (by decide), un 8 9 (by decide), un 9 12 (by decide), un 10 16 (by decide), p02, p24, p45, p56, p68, p89, p9, p10]
            simp only [List.append_assoc]
            rw [drop_join _ 9 10 16 (by decide) (by decide), drop_join _ 8 9 16 (by decide) (by decide), drop_join _ 6 8 16 (by decide) (by decide), drop_join _ 5 6 16 (by decide) (by decide), drop_join _ 4 5 16 (by decide) (by decide), drop_join _ 2 4 16 (by decide) (by decide), drop_join _ 0 2 16 (by decide) (by decide)]
            rfl
          · simp only [if_neg hc] at h0; exact absurd h0 hc
        · simp only [if_neg hsp] at h0; cases h0
    · simp only [if_neg hlg] at h0 ⊢
      by_cases hsp : nu s 8 9 / 32 = 0
      · simp only [if_pos hsp] at h0 ⊢
        by_cases hc : Head.check (hd s false) = 0
        · simp only [if_pos hc] at h0 ⊢
          refine fin _ 12 (by omega) hc ?_
          have p9 := be_nu s 9 12 3 rfl (by omega)
          have c8 : (2 : Int) * ((nu s 8 9 : Int) / 2 % 16) = (nu s 8 9 : Nat) := by omega
          simp only [Head.put, hd, Bool.false_eq_true, if_false, c5, c8, un 0 2 (by decide), un 2 4 (by decide), un 4 5 (by decide), un 5 6 (by decide), un 6 8 (by decide), un 8 9 (by decide), un 9 12 (by decide), un 10 16 (by decide), p02, p24, p45, p56, p68, p89, p9]
          simp only [List.append_assoc]
          rw [drop_join _ 8 9 12 (by decide) (by decide), drop_join _ 6 8 12 (by decide) (by decide), drop_join _ 5 6 12 (by decide) (by decide), drop_join _ 4 5 12 (by decide) (by decide), drop_join _ 2 4 12 (by decide) (by decide), drop_join _ 0 2 12 (by decide) (by decide)]
          rfl
        · simp only [if_neg hc] at h0; exact absurd h0 hc
      · simp only [if_neg hsp] at h0; cases h0
theorem putB_size (h : Head.H) : (putB h).size ≤ 16 := by
  unfold putB
  split
  · show (Head.put h).toArray.size ≤ 16
    cases hl : h.long <;> simp [Head.put, hl, Oct.be_length]
  · show (0 : Nat) ≤ 16; decide
theorem extract_join (A B : ByteArray) (n : Nat) (h : A.size = n) : (A ++ B).extract n (A ++ B).size = B := by
  apply ByteArray.ext
  apply Array.toList_inj.1
  have hl : A.data.toList.length = n := by simp [h]
  have e : (A ++ B).data.toList = A.data.toList ++ B.data.toList := by simp
  have e2 : ((A ++ B).extract n (A ++ B).size).data.toList = ((A.data.toList ++ B.data.toList).drop n).take (A.size + B.size - n) := by simp [List.drop_append, List.take_append]; omega
  rw [e2, ← hl, List.drop_left, List.take_of_length_le]
  rw [hl, h]; simp
theorem six_val (x : Nat) (h : x < 281474976710656) : 256 * (256 * (256 * (256 * (256 * (x / 1099511627776 % 256) + x / 4294967296 % 256) + x / 16777216 % 256) + x / 65536 % 256) + x / 256 % 256) + x % 256 = x := by omega
theorem put_get (h : Head.H) (more : ByteArray) (hc : Head.check h = 0) : get (putB h ++ more) = (h, more, 0) := by
  obtain ⟨src, dst, words, ccval, cover, sum, kind, long, seq⟩ := h
  have hk := Head.check_ok hc
  simp only [] at hk
  obtain ⟨⟨k0, k1⟩, _, ⟨s0, s1⟩, ⟨d0, d1⟩, ⟨m0, m1⟩, ⟨v0, v1⟩, ⟨c0, c1⟩, ⟨q0, q1⟩, ⟨w0, w1'⟩, _⟩ := hk
  have nuL : ∀ (l : List UInt8) (t : ByteArray), t.data.toList = l → ∀ a b, nu t a b = Oct.val ((l.take b).drop a) := by
    intro l t e a b
    unfold nu
    rw [← e]
    congr 1
    simp [List.drop_take]
  have v1 : ∀ x : UInt8, Oct.val [x] = x.toNat := fun x => by simp [Oct.val]
  have v2 : ∀ x y : UInt8, Oct.val [x, y] = 256 * x.toNat + y.toNat := fun x y => by simp [Oct.val]
  have v3 : ∀ x y z : UInt8, Oct.val [x, y, z] = 256 * (256 * x.toNat + y.toNat) + z.toNat := fun x y z => by simp [Oct.val]
  have v6 : ∀ a b c d e f : UInt8, Oct.val [a, b, c, d, e, f] = 256 * (256 * (256 * (256 * (256 * a.toNat + b.toNat) + c.toNat) + d.toNat) + e.toNat) + f.toNat := fun a b c d e f => by simp [Oct.val]
  have u : ∀ n : Int, 0 ≤ n → n < 281474976710656 → Oct.u64 n = n.toNat := fun n h0 h1 => u64_small n h0 (by omega)
  cases long
  · have hq : seq < 16777216 := by revert q1; unfold Head.most; simp; omega
    have e : (putB ⟨src, dst, words, ccval, cover, sum, kind, false, seq⟩ ++ more).data.toList = Head.put ⟨src, dst, words, ccval, cover, sum, kind, false, seq⟩ ++ more.data.toList := by simp [putB, hc]
    have hn := nuL _ _ e
    have hsz : (putB ⟨src, dst, words, ccval, cover, sum, kind, false, seq⟩ ++ more).size = 12 + more.size := by
      have : (Head.put ⟨src, dst, words, ccval, cover, sum, kind, false, seq⟩).length = 12 := by simp [Head.put, Oct.be_length]
      rw [ByteArray.size_append]
      unfold putB; rw [if_pos hc]
      show (Head.put _).toArray.size + _ = _
      simp [this]
    simp only [Head.put, Oct.be, u src (by omega) (by omega), u dst (by omega) (by omega), u sum (by omega) (by omega), u words (by omega) (by omega), u seq (by omega) (by omega), u (16 * ccval + cover) (by omega) (by omega), u (2 * kind) (by omega) (by omega), Bool.false_eq_true, if_false, List.cons_append, List.nil_append, Nat.pow_zero, Nat.div_one, Nat.pow_one] at hn
    generalize hT : putB ⟨src, dst, words, ccval, cover, sum, kind, false, seq⟩ ++ more = t at *
    have n02 := hn 0 2; have n24 := hn 2 4; have n45 := hn 4 5; have n56 := hn 5 6; have n68 := hn 6 8; have n89 := hn 8 9; have n9 := hn 9 12
    simp [v1, v2, v3] at n02 n24 n45 n56 n68 n89 n9
    have hh : hd t false = ⟨src, dst, words, ccval, cover, sum, kind, false, seq⟩ := by
      unfold hd
      simp only [Bool.false_eq_true, if_false, Head.H.mk.injEq, true_and, and_true]
      refine ⟨?_, ?_, ?_, ?_, ?_, ?_, ?_, ?_⟩ <;> omega
    have g1 : ¬ nu t 8 9 % 2 = 1 := by omega
    have g2 : nu t 8 9 / 32 = 0 := by omega
    unfold get
    rw [if_neg (by omega), if_neg g1, if_pos g2, hh, if_pos hc]
    have hb : (putB ⟨src, dst, words, ccval, cover, sum, kind, false, seq⟩).size = 12 := by
      rw [← hT, ByteArray.size_append] at hsz; omega
    rw [← hT, extract_join _ _ 12 hb]
  · have hq : seq < 281474976710656 := by revert q1; unfold Head.most; simp; omega
    have e : (putB ⟨src, dst, words, ccval, cover, sum, kind, true, seq⟩ ++ more).data.toList = Head.put ⟨src, dst, words, ccval, cover, sum, kind, true, seq⟩ ++ more.data.toList := by simp [putB, hc]
    have hn := nuL _ _ e
    have hsz : (putB ⟨src, dst, words, ccval, cover, sum, kind, true, seq⟩ ++ more).size = 16 + more.size := by
      have : (Head.put ⟨src, dst, words, ccval, cover, sum, kind, true, seq⟩).length = 16 := by simp [Head.put, Oct.be_length]
      rw [ByteArray.size_append]
      unfold putB; rw [if_pos hc]
      show (Head.put _).toArray.size + _ = _
      simp [this]
    simp only [Head.put, Oct.be, u src (by omega) (by omega), u dst (by omega) (by omega), u sum (by omega) (by omega), u words (by omega) (by omega), u seq (by omega) (by omega), u (16 * ccval + cover) (by omega) (by omega), u (2 * kind + 1) (by omega) (by omega), if_true, List.cons_append, List.nil_append, Nat.pow_zero, Nat.div_one, Nat.pow_one] at hn
    generalize hT : putB ⟨src, dst, words, ccval, cover, sum, kind, true, seq⟩ ++ more = t at *
    have n02 := hn 0 2; have n24 := hn 2 4; have n45 := hn 4 5; have n56 := hn 5 6; have n68 := hn 6 8; have n89 := hn 8 9; have n9 := hn 9 10; have n10 := hn 10 16
    simp [v1, v2, v6] at n02 n24 n45 n56 n68 n89 n9 n10
    rw [six_val _ (by omega)] at n10
    have hh : hd t true = ⟨src, dst, words, ccval, cover, sum, kind, true, seq⟩ := by
      unfold hd
      simp only [if_true, Head.H.mk.injEq, true_and, and_true]
      refine ⟨?_, ?_, ?_, ?_, ?_, ?_, ?_, ?_⟩ <;> omega
    have g1 : nu t 8 9 % 2 = 1 := by omega
    have g2 : nu t 8 9 / 32 = 0 ∧ nu t 9 10 = 0 := by omega
    unfold get
    rw [if_neg (by omega), if_pos g1, if_neg (by omega), if_pos g2, hh, if_pos hc]
    have hb : (putB ⟨src, dst, words, ccval, cover, sum, kind, true, seq⟩).size = 16 := by
      rw [← hT, ByteArray.size_append] at hsz; omega
    rw [← hT, extract_join _ _ 16 hb]
end Go.Proofs.Ytnhfhnphmjhamaa
