/- Which numbers of packets are valid: plain laws. No program here. -/
import Derived.Test.YtodfcalaggfldaaPlSpan
namespace Go.Proofs.Ytodfcalaggfldaa.Span
set_option linter.unusedVariables false
set_option linter.unusedSimpArgs false
open Go.Proofs.Ytodfcalaggfldaa

theorem later_back (r n : Int) (h0 : 0 ≤ r) (h1 : r < 281474976710656) (hn : -1000 ≤ n) (hn' : n < 0) : Circ.later (Circ.add r n) r = r := by
  have e : Circ.less (Circ.add r n) r = true := by
    unfold Circ.less Circ.far Circ.up Circ.add Circ.of
    rw [decide_eq_true_eq]
    split <;> omega
  unfold Circ.later
  rw [if_pos e]
  exact Circ.of_in h0 h1
theorem up_self (r : Int) : Circ.up r r = 0 := by unfold Circ.up; omega
theorem up_next (r : Int) (h0 : 0 ≤ r) (h1 : r < 281474976710656) : Circ.up r (r + 1) = 1 := by unfold Circ.up Circ.of; omega
theorem size_long (k : Int) : Head.size k true = 0 ↔ ¬ (0 ≤ k ∧ k ≤ 9) := by
  unfold Head.size Head.known Head.acks Head.more
  simp only [decide_eq_false_iff_not, Bool.true_eq_false, false_and, or_false, if_true, decide_eq_true_eq]
  repeat' split
  all_goals (constructor <;> intro h <;> first | omega | contradiction)
theorem valid_next (iss isr k : Int) : ∀ x, x = valid (begin iss iss isr isr) k ((begin iss iss isr isr).gsr + 1) (begin iss iss isr isr).gss → (x = 0 ∧ 0 ≤ k ∧ k ≤ 9) ∨ (x = 7 ∧ ¬ (0 ≤ k ∧ k ≤ 9)) := by
  intro x hx
  have i0 := Circ.of_lo iss
  have i1 := Circ.of_hi iss
  have r0 := Circ.of_lo isr
  have r1 := Circ.of_hi isr
  have oi := Circ.of_of iss
  simp only [begin] at hx
  generalize Circ.of iss = i at *
  generalize Circ.of isr = r at *
  unfold valid at hx
  by_cases hk : 0 ≤ k ∧ k ≤ 9
  · left
    refine ⟨?_, hk⟩
    rw [if_neg (by rw [size_long]; omega)] at hx
    have hn : numbered ⟨i, r, i, r, i⟩ k (r + 1) = true := by
      unfold numbered swl swh
      simp only []
      rw [later_back r (-15) r0 r1 (by omega) (by omega)]
      split
      · unfold Circ.less Circ.far; rw [up_next r r0 r1]; decide
      · split
        · unfold Circ.within; rw [decide_eq_true_eq]
          have : Circ.up (Circ.add r 1) (r + 1) = 0 := by unfold Circ.up Circ.add Circ.of; omega
          rw [this]; exact Circ.up_lo _ _
        · unfold Circ.within; rw [decide_eq_true_eq, up_next r r0 r1]; unfold Circ.up Circ.add Circ.of; omega
    have ha : acks ⟨i, r, i, r, i⟩ k i = true := by
      unfold acks awl awh
      simp only []
      rw [later_back i (-63) i0 i1 (by omega) (by omega), oi, ite_self]
      unfold Circ.within
      rw [decide_eq_true_eq, up_self]
      exact Int.le_refl _
    rw [hn, ha] at hx
    simpa using hx
  · right
    rw [if_pos ((size_long k).2 hk)] at hx
    exact ⟨hx, hk⟩
end Go.Proofs.Ytodfcalaggfldaa.Span
