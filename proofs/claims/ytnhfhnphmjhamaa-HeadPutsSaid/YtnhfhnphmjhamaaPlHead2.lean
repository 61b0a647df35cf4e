/- What a beginning that is right has; numbers joined by or: plain. No program here. -/
import Derived.Test.YtnhfhnphmjhamaaPlHead
namespace Go.Proofs.Ytnhfhnphmjhamaa.Head
set_option linter.unusedVariables false
set_option linter.unusedSimpArgs false

theorem wi_iff (n m : Int) : wi n m = true ↔ 0 ≤ n ∧ n ≤ m := by unfold wi; simp
theorem check_ok {h : H} (hc : check h = 0) : (0 ≤ h.kind ∧ h.kind ≤ 9) ∧ (h.long = true ∨ brief h.kind = true) ∧ (0 ≤ h.src ∧ h.src ≤ 65535) ∧ (0 ≤ h.dst ∧ h.dst ≤ 65535) ∧ (0 ≤ h.sum ∧ h.sum ≤ 65535) ∧ (0 ≤ h.ccval ∧ h.ccval ≤ 15) ∧ (0 ≤ h.cover ∧ h.cover ≤ 15) ∧
    (0 ≤ h.seq ∧ h.seq ≤ most h.long - 1) ∧ (0 ≤ h.words ∧ h.words ≤ 255) ∧ size h.kind h.long ≤ 4 * h.words := by
  unfold check at hc
  split at hc
  · omega
  · rename_i h1
    split at hc
    · omega
    · rename_i h2
      split at hc
      · omega
      · rename_i h3
        split at hc
        · omega
        · rename_i h4
          split at hc
          · omega
          · rename_i h5
            simp only [not_or, Bool.not_eq_false] at h1 h3 h4
            have h2' : h.long = true ∨ brief h.kind = true := by
              cases hl : h.long
              · cases hb : brief h.kind
                · exact absurd ⟨hl, hb⟩ h2
                · exact .inr rfl
              · exact .inl rfl
            have hk : 0 ≤ h.kind ∧ h.kind ≤ 9 := by unfold known at h1; simpa using h1
            refine ⟨hk, h2', (wi_iff _ _).1 h3.1, (wi_iff _ _).1 h3.2.1, (wi_iff _ _).1 h3.2.2.1, (wi_iff _ _).1 h3.2.2.2.1, (wi_iff _ _).1 h3.2.2.2.2, (wi_iff _ _).1 h4.1, (wi_iff _ _).1 h4.2, by omega⟩
theorem i64_or_join (i : Nat) (a b : Nat) (hi : i ≤ 40) (ha : a < 1048576) (hb : b < 2 ^ i) : bits .or .i64 ((a * 2 ^ i : Nat) : Int) (b : Int) = ((a * 2 ^ i + b : Nat) : Int) := by
  have hp : 2 ^ i ≤ 2 ^ 40 := Nat.pow_le_pow_right (by decide) hi
  have h2 : a * 2 ^ i ≤ 1048576 * 2 ^ 40 := Nat.mul_le_mul (by omega) hp
  have hj : a * 2 ^ i ||| b = a * 2 ^ i + b := nat_join i _ _ (by simp) hb
  have e1 : (BitVec.ofInt 64 ((a * 2 ^ i : Nat) : Int)).toNat = a * 2 ^ i := by
    rw [BitVec.ofInt_natCast, BitVec.toNat_ofNat]; exact Nat.mod_eq_of_lt (by omega)
  have e2 : (BitVec.ofInt 64 (b : Int)).toNat = b := by
    rw [BitVec.ofInt_natCast, BitVec.toNat_ofNat]; exact Nat.mod_eq_of_lt (by omega)
  show IntKind.i64.wrap ((BitVec.ofInt 64 ((a * 2 ^ i : Nat) : Int) ||| BitVec.ofInt 64 (b : Int)).toNat : Int) = _
  rw [BitVec.toNat_or, e1, e2, hj]
  exact IntWalk.i64_in _ (by omega)
theorem and15 (n : Int) : bits .and .i64 n 15 = n % 16 := by
  show IntKind.i64.wrap ((BitVec.ofInt 64 n &&& BitVec.ofInt 64 15).toNat : Int) = _
  rw [BitVec.toNat_and, show (BitVec.ofInt 64 15).toNat = 2 ^ 4 - 1 from by decide, Nat.and_two_pow_sub_one_eq_mod, BitVec.toNat_ofInt, IntKind.wrap_i64]
  omega
theorem and1 (n : Int) : bits .and .i64 n 1 = n % 2 := by
  show IntKind.i64.wrap ((BitVec.ofInt 64 n &&& BitVec.ofInt 64 1).toNat : Int) = _
  rw [BitVec.toNat_and, show (BitVec.ofInt 64 1).toNat = 2 ^ 1 - 1 from by decide, Nat.and_two_pow_sub_one_eq_mod, BitVec.toNat_ofInt, IntKind.wrap_i64]
  omega
theorem or_zero (a b : Nat) (ha : a < 1048576) (hb : b < 1048576) : (bits .or .i64 (a : Int) (b : Int) != 0) = !(a == 0 && b == 0) := by
  have e1 : (BitVec.ofInt 64 (a : Int)).toNat = a := by
    rw [BitVec.ofInt_natCast, BitVec.toNat_ofNat]; exact Nat.mod_eq_of_lt (by omega)
  have e2 : (BitVec.ofInt 64 (b : Int)).toNat = b := by
    rw [BitVec.ofInt_natCast, BitVec.toNat_ofNat]; exact Nat.mod_eq_of_lt (by omega)
  have hlt : a ||| b < 2 ^ 20 := Nat.or_lt_two_pow (by omega) (by omega)
  have e3 : bits .or .i64 (a : Int) (b : Int) = ((a ||| b : Nat) : Int) := by
    show IntKind.i64.wrap ((BitVec.ofInt 64 (a : Int) ||| BitVec.ofInt 64 (b : Int)).toNat : Int) = _
    rw [BitVec.toNat_or, e1, e2]
    exact IntWalk.i64_in _ (by omega)
  rw [e3, Bool.eq_iff_iff]
  simp only [bne_iff_ne, ne_eq, Bool.not_eq_true', Bool.and_eq_false_iff, beq_eq_false_iff_ne]
  have : ((a ||| b : Nat) : Int) = 0 ↔ a = 0 ∧ b = 0 := by rw [← Nat.or_eq_zero_iff]; omega
  rw [this]
  constructor
  · intro h
    by_cases h0 : a = 0
    · exact .inr fun h1 => h ⟨h0, h1⟩
    · exact .inl h0
  · rintro (h | h) ⟨h0, h1⟩
    · exact h h0
    · exact h h1
end Go.Proofs.Ytnhfhnphmjhamaa.Head
