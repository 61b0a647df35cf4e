/- Numbers of 48 bits, round: plain laws of them. No program here. -/
import Derived.PlainAid
import Derived.Test.YtenngklohffoaaaBase
namespace Go.Proofs.Ytenngklohffoaaa.Circ
set_option linter.unusedVariables false
set_option linter.unusedSimpArgs false
open Go.RowKit

def of (n : Int) : Int := n % 281474976710656
def add (a n : Int) : Int := (of a + of n) % 281474976710656
def up (a b : Int) : Int := (of b - of a) % 281474976710656
def far (a b : Int) : Int := if 140737488355328 < up b a then up b a - 281474976710656 else up b a
def less (a b : Int) : Bool := decide (far a b < 0)
def later (a b : Int) : Int := if less a b = true then of b else of a
def many (a b : Int) : Int := up a b + 1
def within (n a b : Int) : Bool := decide (up a n ≤ up a b)

theorem and_mask (n : Int) : bits .and .i64 n 281474976710655 = n % 281474976710656 := by
  show IntKind.i64.wrap ((BitVec.ofInt 64 n &&& BitVec.ofInt 64 281474976710655).toNat : Int) = _
  rw [BitVec.toNat_and, show (BitVec.ofInt 64 281474976710655).toNat = 2 ^ 48 - 1 from by decide, Nat.and_two_pow_sub_one_eq_mod, BitVec.toNat_ofInt, IntKind.wrap_i64]
  omega
theorem of_lo (n : Int) : 0 ≤ of n := by unfold of; omega
theorem of_hi (n : Int) : of n < 281474976710656 := by unfold of; omega
theorem up_lo (a b : Int) : 0 ≤ up a b := by unfold up; omega
theorem up_hi (a b : Int) : up a b < 281474976710656 := by unfold up; omega
theorem add_lo (a b : Int) : 0 ≤ add a b := by unfold add; omega
theorem add_hi (a b : Int) : add a b < 281474976710656 := by unfold add; omega
theorem far_lo (a b : Int) : -140737488355328 ≤ far a b := by have := up_lo b a; have := up_hi b a; unfold far; split <;> omega
theorem far_hi (a b : Int) : far a b ≤ 140737488355328 := by have := up_lo b a; have := up_hi b a; unfold far; split <;> omega
theorem of_in {n : Int} (h0 : 0 ≤ n) (h1 : n < 281474976710656) : of n = n := by unfold of; omega
theorem of_of (n : Int) : of (of n) = of n := of_in (of_lo n) (of_hi n)
theorem tmod_lo (n : Int) : -281474976710656 < n.tmod 281474976710656 := by
  rcases Int.le_total 0 n with h | h
  · rw [Int.tmod_eq_emod_of_nonneg h]; omega
  · rw [show n = -(-n) by omega, Int.neg_tmod, Int.tmod_eq_emod_of_nonneg (by omega)]; omega
theorem tmod_hi (n : Int) : n.tmod 281474976710656 < 281474976710656 := by
  rcases Int.le_total 0 n with h | h
  · rw [Int.tmod_eq_emod_of_nonneg h]; omega
  · rw [show n = -(-n) by omega, Int.neg_tmod, Int.tmod_eq_emod_of_nonneg (by omega)]; omega
theorem tmod_neg {n : Int} (h : n.tmod 281474976710656 < 0) : n.tmod 281474976710656 + 281474976710656 = of n := by
  unfold of
  rcases Int.le_total 0 n with h0 | h0
  · rw [Int.tmod_eq_emod_of_nonneg h0] at h; omega
  · rw [show n = -(-n) by omega, Int.neg_tmod, Int.tmod_eq_emod_of_nonneg (by omega)] at h ⊢; omega
theorem tmod_pos {n : Int} (h : 0 ≤ n.tmod 281474976710656) : n.tmod 281474976710656 = of n := by
  unfold of
  rcases Int.le_total 0 n with h0 | h0
  · rw [Int.tmod_eq_emod_of_nonneg h0]
  · rw [show n = -(-n) by omega, Int.neg_tmod, Int.tmod_eq_emod_of_nonneg (by omega)] at h ⊢; omega
/-- the shorter way round, by steps of a whole turn -/
def far1 (d : Int) : Int := if 140737488355328 < d then d - 281474976710656 else d
def far2 (d : Int) : Int := if d ≤ -140737488355328 then d + 281474976710656 else d
theorem far_steps (a b : Int) : far2 (far1 (of a - of b)) = far a b := by
  have := of_lo a; have := of_hi a; have := of_lo b; have := of_hi b
  unfold far far2 far1 up
  split <;> split <;> split <;> omega
theorem many_eq (a b : Int) : (if of b < of a then of b + 281474976710656 else of b) - of a + 1 = many a b := by
  have := of_lo a; have := of_hi a; have := of_lo b; have := of_hi b
  unfold many up
  split <;> omega
theorem within_many (n a b : Int) : decide (many a n ≤ many a b) = within n a b := by
  unfold within many; rw [decide_eq_decide]; omega
end Go.Proofs.Ytenngklohffoaaa.Circ
namespace Go.Proofs.Ytenngklohffoaaa
set_option linter.unusedVariables false
set_option linter.unusedSimpArgs false
open Go.RowKit

theorem circ_of (n : Int) (w : World) : Calls Try.prog 43 #[.int .i64 n] w fun e w' => e = .returned (.int .i64 (Circ.of n)) ∧ w = w' := by
  have H : bits .and .i64 n 281474976710655 = Circ.of n := Circ.and_mask n
  go_enter Try.func43, Try.ntmps43
  go_wp2
  go_ret
  exact ⟨rfl, rfl⟩
/-! the reference -/
end Go.Proofs.Ytenngklohffoaaa
