/- Numbers as bytes, and back. No conditions. -/
import Derived.Test.YtapogkodlempkaaPlMac
namespace Go.Proofs.Ytapogkodlempkaa
set_option linter.unusedVariables false
set_option linter.unusedSimpArgs false
open Go.RowKit Sym

theorem foldl_be (k : Nat) : ∀ (a u : Nat), (Oct.be u k).foldl (fun n b => 256 * n + b.toNat) a = a * 256 ^ k + u % 256 ^ k := by
  induction k with
  | zero => intro a u; simp [Oct.be, Nat.mod_one]
  | succ k ih =>
    intro a u
    show (Oct.be u k).foldl _ (256 * a + (UInt8.ofNat (u / 256 ^ k)).toNat) = _
    have e : (UInt8.ofNat (u / 256 ^ k)).toNat = u / 256 ^ k % 256 := by rw [UInt8.toNat_ofNat']
    have e2 : u % 256 ^ (k + 1) = u % 256 ^ k + 256 ^ k * (u / 256 ^ k % 256) := by rw [Nat.pow_succ, Nat.mod_mul]
    have e3 : 256 * a * 256 ^ k = a * 256 ^ (k + 1) := by rw [Nat.pow_succ, Nat.mul_comm 256 a, Nat.mul_assoc, Nat.mul_comm 256]
    rw [ih, e, e2, Nat.add_mul, e3, Nat.mul_comm (u / 256 ^ k % 256)]
    omega
theorem val_be (u k : Nat) : Oct.val (Oct.be u k) = u % 256 ^ k := by
  unfold Oct.val
  rw [foldl_be, Nat.zero_mul, Nat.zero_add]
theorem be_mod (u k : Nat) : ∀ j, j ≤ k → Oct.be (u % 256 ^ k) j = Oct.be u j
  | 0, _ => rfl
  | j + 1, h => by
    show UInt8.ofNat (u % 256 ^ k / 256 ^ j) :: _ = UInt8.ofNat (u / 256 ^ j) :: _
    rw [be_mod u k j (by omega)]
    congr 1
    apply UInt8.toNat.inj
    rw [UInt8.toNat_ofNat', UInt8.toNat_ofNat']
    obtain ⟨d, rfl⟩ : ∃ d, k = j + 1 + d := ⟨k - (j + 1), by omega⟩
    rw [show (2 : Nat) ^ 8 = 256 from rfl, Nat.pow_add, Nat.pow_succ, Nat.mul_assoc, Nat.mod_mul_right_div_self, Nat.mod_mul_right_mod]
theorem foldl_val : ∀ (l : List UInt8) (a : Nat), l.foldl (fun n b => 256 * n + b.toNat) a = a * 256 ^ l.length + Oct.val l
  | [], a => by simp [Oct.val]
  | x :: l, a => by
    show l.foldl _ (256 * a + x.toNat) = _ * 256 ^ (l.length + 1) + l.foldl _ (256 * 0 + x.toNat)
    rw [foldl_val l, foldl_val l, Nat.pow_succ, Nat.add_mul, Nat.add_mul, show 256 * a * 256 ^ l.length = a * (256 ^ l.length * 256) by rw [Nat.mul_comm 256 a, Nat.mul_assoc, Nat.mul_comm 256]]
    omega
theorem be_val : ∀ l : List UInt8, Oct.be (Oct.val l) l.length = l
  | [] => rfl
  | x :: l => by
    have hv := Oct.val_lt l
    have hx := x.toNat_lt
    have e : Oct.val (x :: l) = x.toNat * 256 ^ l.length + Oct.val l := by
      show l.foldl _ (256 * 0 + x.toNat) = _
      rw [foldl_val]; simp
    have e1 : Oct.val (x :: l) / 256 ^ l.length = x.toNat := by
      rw [e, Nat.mul_comm, Nat.mul_add_div (Nat.pow_pos (by decide)), Nat.div_eq_of_lt hv, Nat.add_zero]
    have e2 : Oct.val (x :: l) % 256 ^ l.length = Oct.val l := by
      rw [e, Nat.mul_comm, Nat.mul_add_mod, Nat.mod_eq_of_lt hv]
    show UInt8.ofNat (Oct.val (x :: l) / 256 ^ l.length) :: Oct.be (Oct.val (x :: l)) l.length = _
    rw [e1, ← be_mod (Oct.val (x :: l)) l.length l.length (Nat.le_refl _), e2, be_val l]
    simp
end Go.Proofs.Ytapogkodlempkaa
