/- Numbers of 48 bits, round: plain laws of them. No program here. -/
import Derived.PlainAid
import Derived.Test.YtodfcalaggfldaaBase
namespace Go.Proofs.Ytodfcalaggfldaa.Circ
set_option linter.unusedVariables false
set_option linter.unusedSimpArgs false
open Go.RowKit

def of (n : Int) : Int := n % 281474976710656
def add (a n : Int) : Int := (of a + of n) % 281474976710656
def up (a b : Int) : Int := (of b - of a) % 281474976710656
def far (a b : Int) : Int := if 140737488355328 < up b a then up b a - 281474976710656 else up b a
def less (a b : Int) : Bool := decide (far a b < 0)
def later (a b : Int) : Int := if less a b = true then of b else of a
def many (a b : Int) : Int := up a b + 1
def within (n a b : Int) : Bool := decide (up a n ≤ up a b)

theorem and_mask (n : Int) : bits .and .i64 n 281474976710655 = n % 281474976710656 := by
  show IntKind.i64.wrap ((BitVec.ofInt 64 n &&& BitVec.ofInt 64 281474976710655).toNat : Int) = _
  rw [BitVec.toNat_and, show (BitVec.ofInt 64 281474976710655).toNat = 2 ^ 48 - 1 from by decide, Nat.and_two_pow_sub_one_eq_mod, BitVec.toNat_ofInt, IntKind.wrap_i64]
  omega
theorem of_lo (n : Int) : 0 ≤ of n := by unfold of; omega
theorem of_hi (n : Int) : of n < 281474976710656 := by unfold of; omega
theorem up_lo (a b : Int) : 0 ≤ up a b := by unfold up; omega
theorem up_hi (a b : Int) : up a b < 281474976710656 := by unfold up; omega
theorem add_lo (a b : Int) : 0 ≤ add a b := by unfold add; omega
theorem add_hi (a b : Int) : add a b < 281474976710656 := by unfold add; omega
theorem far_lo (a b : Int) : -140737488355328 ≤ far a b := by have := up_lo b a; have := up_hi b a; unfold far; split <;> omega
theorem far_hi (a b : Int) : far a b ≤ 140737488355328 := by have := up_lo b a; have := up_hi b a; unfold far; split <;> omega
theorem of_in {n : Int} (h0 : 0 ≤ n) (h1 : n < 281474976710656) : of n = n := by unfold of; omega
theorem of_of (n : Int) : of (of n) = of n := of_in (of_lo n) (of_hi n)
theorem tmod_lo (n : Int) : -281474976710656 < n.tmod 281474976710656 := by
  rcases Int.le_total 0 n with h | h
  · rw [Int.tmod_eq_emod_of_nonneg h]; omega
  · rw [show n = -(-n) by omega, Int.neg_tmod, Int.tmod_eq_emod_of_nonneg (by omega)]; omega
theorem tmod_hi (n : Int) : n.tmod 281474976710656 < 281474976710656 := by
  rcases Int.le_total 0 n with h | h
  · rw [Int.tmod_eq_emod_of_nonneg h]; omega
  · rw [show n = -(-n) by omega, Int.neg_tmod, Int.tmod_eq_emod_of_nonneg (by omega)]; omega
theorem tmod_neg {n : Int} (h : n.tmod 281474976710656 < 0) : n.tmod 281474976710656 + 281474976710656 = of n := by
  unfold of
  rcases Int.le_total 0 n with h0 | h0
  · rw [Int.tmod_eq_emod_of_nonneg h0] at h; omega
  · rw [show n = -(-n) by omega, Int.neg_tmod, Int.tmod_eq_emod_of_nonneg (by omega)] at h ⊢; omega
theorem tmod_pos {n : Int} (h : 0 ≤ n.tmod 281474976710656) : n.tmod 281474976710656 = of n := by
  unfold of
  rcases Int.le_total 0 n with h0 | h0
  · rw [Int.tmod_eq_emod_of_nonneg h0]
  · rw [show n = -(-n) by omega, Int.neg_tmod, Int.tmod_eq_emod_of_nonneg (by omega)] at h ⊢; omega
/-- the shorter way round, by steps of a whole turn -/
def far1 (d : Int) : Int := if 140737488355328 < d then d - 281474976710656 else d
def far2 (d : Int) : Int := if d ≤ -140737488355328 then d + 281474976710656 else d
theorem far_steps (a b : Int) : far2 (far1 (of a - of b)) = far a b := by
  have := of_lo a; have := of_hi a; have := of_lo b; have := of_hi b
  unfold far far2 far1 up
  split <;> split <;> split <;> omega
theorem many_eq (a b : Int) : (if of b < of a then of b + 281474976710656 else of b) - of a + 1 = many a b := by
  have := of_lo a; have := of_hi a; have := of_lo b; have := of_hi b
  unfold many up
  split <;> omega
theorem within_many (n a b : Int) : decide (many a n ≤ many a b) = within n a b := by
  unfold within many; rw [decide_eq_decide]; omega
end Go.Proofs.Ytodfcalaggfldaa.Circ
namespace Go.Proofs.Ytodfcalaggfldaa
set_option linter.unusedVariables false
set_option linter.unusedSimpArgs false
open Go.RowKit

theorem circ_of (n : Int) (w : World) : Calls Try.prog 70 #[.int .i64 n] w fun e w' => e = .returned (.int .i64 (Circ.of n)) ∧ w = w' := by
  have H : bits .and .i64 n 281474976710655 = Circ.of n := Circ.and_mask n
  go_enter Try.func70, Try.ntmps70
  go_wp2
  go_ret
  exact ⟨rfl, rfl⟩
theorem circ_add (a n : Int) (w : World) : Calls Try.prog 28 #[.int .i64 a, .int .i64 n] w fun e w' => e = .returned (.int .i64 (Circ.add a n)) ∧ w = w' := by
  have h1 := Circ.of_lo a
  have h2 := Circ.of_hi a
  have h3 := Circ.of_lo n
  have h4 := Circ.of_hi n
  have H : bits .and .i64 (Circ.of a + Circ.of n) 281474976710655 = Circ.add a n := Circ.and_mask _
  go_enter Try.func28, Try.ntmps28
  go_wp2_with (go_at_call 70; refine (circ_of _ _).mono ?_; rintro e w1 ⟨rfl, rfl⟩)
  go_ret
  exact ⟨rfl, rfl⟩
theorem circ_up (a n : Int) (w : World) : Calls Try.prog 114 #[.int .i64 a, .int .i64 n] w fun e w' => e = .returned (.int .i64 (Circ.up a n)) ∧ w = w' := by
  have h1 := Circ.of_lo a
  have h2 := Circ.of_hi a
  have h3 := Circ.of_lo n
  have h4 := Circ.of_hi n
  have H : bits .and .i64 (Circ.of n - Circ.of a) 281474976710655 = Circ.up a n := Circ.and_mask _
  go_enter Try.func114, Try.ntmps114
  go_wp2_with (go_at_call 70; refine (circ_of _ _).mono ?_; rintro e w1 ⟨rfl, rfl⟩)
  go_ret
  exact ⟨rfl, rfl⟩
theorem circ_far (a b : Int) (w : World) : Calls Try.prog 128 #[.int .i64 a, .int .i64 b] w fun e w' => e = .returned (.int .i64 (Circ.far a b)) ∧ w = w' := by
  have h1 := Circ.up_lo b a
  have h2 := Circ.up_hi b a
  go_enter Try.func128, Try.ntmps128
  go_wp2_with (go_at_call 114; refine (circ_up _ _ _).mono ?_; rintro e w1 ⟨rfl, rfl⟩)
  all_goals (go_ret; go_light; exact ⟨ret_i (by simp (disch := omega) only [Circ.far, if_pos, if_neg]), rfl⟩)
theorem circ_less (a b : Int) (w : World) : Calls Try.prog 117 #[.int .i64 a, .int .i64 b] w fun e w' => e = .returned (.bool (Circ.less a b)) ∧ w = w' := by
  go_enter Try.func117, Try.ntmps117
  go_wp2_with (go_at_call 128; refine (circ_far _ _ _).mono ?_; rintro e w1 ⟨rfl, rfl⟩)
  go_ret
  exact ⟨rfl, rfl⟩
theorem circ_later (a b : Int) (w : World) : Calls Try.prog 76 #[.int .i64 a, .int .i64 b] w fun e w' => e = .returned (.int .i64 (Circ.later a b)) ∧ w = w' := by
  go_enter Try.func76, Try.ntmps76
  go_wp2_with (first | (go_at_call 117; refine (circ_less _ _ _).mono ?_; rintro e w1 ⟨rfl, rfl⟩) | (go_at_call 70; refine (circ_of _ _).mono ?_; rintro e w1 ⟨rfl, rfl⟩))
  all_goals (go_ret; go_light; exact ⟨by simp [Circ.later, *], rfl⟩)
theorem circ_within (n a b : Int) (w : World) : Calls Try.prog 72 #[.int .i64 n, .int .i64 a, .int .i64 b] w fun e w' => e = .returned (.bool (Circ.within n a b)) ∧ w = w' := by
  go_enter Try.func72, Try.ntmps72
  go_wp2_with (go_at_call 114; refine (circ_up _ _ _).mono ?_; rintro e w1 ⟨rfl, rfl⟩)
  go_ret
  exact ⟨rfl, rfl⟩

/-! the reference -/
theorem ref02_of (n : Int) (w : World) : Calls Try.prog 10 #[.int .i64 n] w fun e w' => e = .returned (.int .i64 (Circ.of n)) ∧ w = w' := by
  have h1 := Circ.tmod_lo n
  have h2 := Circ.tmod_hi n
  go_enter Try.func10, Try.ntmps10
  go_wp2
  all_goals (go_ret; go_light)
  · exact ⟨ret_v (by rw [← Circ.tmod_neg (by assumption)]; rfl), rfl⟩
  · exact ⟨ret_v (by rw [← Circ.tmod_pos (by omega)]; rfl), rfl⟩
end Go.Proofs.Ytodfcalaggfldaa
