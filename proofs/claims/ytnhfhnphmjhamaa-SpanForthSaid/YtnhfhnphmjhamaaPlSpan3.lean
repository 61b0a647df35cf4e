/- Never back: the plain law of the marks of a connection. No program here. -/
import Derived.Test.YtnhfhnphmjhamaaPlSpan2
namespace Go.Proofs.Ytnhfhnphmjhamaa.Span
set_option linter.unusedVariables false
set_option linter.unusedSimpArgs false
open Go.Proofs.Ytnhfhnphmjhamaa

structure Inv (k : Nat) (m : Marks) : Prop where
  i0 : 0 ≤ m.iss
  i1 : m.iss < 281474976710656
  s0 : 0 ≤ m.gss
  s1 : m.gss < 281474976710656
  r0 : 0 ≤ m.gsr
  r1 : m.gsr < 281474976710656
  a0 : 0 ≤ m.gar
  a1 : m.gar < 281474976710656
  far : Circ.up m.iss m.gss ≤ k
  ack : Circ.up m.gar m.gss ≤ 63 + k
theorem inv_begin (a b : Int) : Inv 0 (begin a a b b) := by
  refine ⟨Circ.of_lo _, Circ.of_hi _, Circ.of_lo _, Circ.of_hi _, Circ.of_lo _, Circ.of_hi _, Circ.of_lo _, Circ.of_hi _, ?_, ?_⟩
  · show Circ.up (Circ.of a) (Circ.of a) ≤ _; rw [up_self]; exact Int.le_refl _
  · show Circ.up (Circ.of a) (Circ.of a) ≤ _; rw [up_self]; omega
theorem less_self (a : Int) : Circ.less a a = false := by unfold Circ.less Circ.far; rw [up_self]; decide
theorem less_small {a b : Int} (h : Circ.up b a ≤ 140737488355328) : Circ.less a b = false := by
  have := Circ.up_lo b a
  unfold Circ.less Circ.far
  rw [if_neg (by omega), decide_eq_false_iff_not]; omega
theorem later_forth (g s : Int) (h0 : 0 ≤ g) (h1 : g < 281474976710656) : Circ.less (Circ.later g s) g = false := by
  unfold Circ.later
  split
  · rename_i h
    refine less_small ?_
    unfold Circ.less Circ.far Circ.up Circ.of at *
    rw [decide_eq_true_eq] at h
    split at h <;> omega
  · rw [Circ.of_in h0 h1]; exact less_self g
theorem later_lo (g s : Int) : 0 ≤ Circ.later g s := by unfold Circ.later; split <;> exact Circ.of_lo _
theorem later_hi (g s : Int) : Circ.later g s < 281474976710656 := by unfold Circ.later; split <;> exact Circ.of_hi _
/-- What a step keeps. -/
def Keeps (m m' : Marks) : Prop := Circ.less m'.gsr m.gsr = false ∧ Circ.less m'.gar m.gar = false ∧ Circ.less m'.gss m'.gar = false ∧ m'.iss = m.iss ∧ m'.isr = m.isr
theorem keeps_same {k : Nat} {m : Marks} (h : Inv k m) (hk : k ≤ 200) : Inv (k + 1) m ∧ Keeps m m := by
  refine ⟨⟨h.i0, h.i1, h.s0, h.s1, h.r0, h.r1, h.a0, h.a1, by have := h.far; omega, by have := h.ack; omega⟩, less_self _, less_self _, ?_, rfl, rfl⟩
  have := h.ack
  exact less_small (by omega)
theorem up_sent (g s : Int) (h : Circ.up g s ≤ 1000) : Circ.up g (Circ.add s 1) = Circ.up g s + 1 := by
  unfold Circ.up Circ.add Circ.of at *; omega
theorem keeps_sent {k : Nat} {m : Marks} (h : Inv k m) (hk : k ≤ 200) : Inv (k + 1) (sent m) ∧ Keeps m (sent m) := by
  have hf := h.far
  have ha := h.ack
  have e1 : Circ.up m.iss (Circ.add m.gss 1) = Circ.up m.iss m.gss + 1 := up_sent _ _ (by omega)
  have e2 : Circ.up m.gar (Circ.add m.gss 1) = Circ.up m.gar m.gss + 1 := up_sent _ _ (by omega)
  refine ⟨⟨h.i0, h.i1, Circ.add_lo _ _, Circ.add_hi _ _, h.r0, h.r1, h.a0, h.a1, ?_, ?_⟩, less_self _, less_self _, ?_, rfl, rfl⟩
  · show Circ.up m.iss (Circ.add m.gss 1) ≤ _; omega
  · show Circ.up m.gar (Circ.add m.gss 1) ≤ _; omega
  · show Circ.less (Circ.add m.gss 1) m.gar = false; exact less_small (by omega)
theorem valid_acks {m : Marks} {k s a : Int} (h : valid m k s a = 0) (hk : Head.acks k = true) : acks m k a = true := by
  unfold valid at h
  split at h
  · omega
  · split at h
    · omega
    · split at h
      · omega
      · rename_i h3
        cases h4 : acks m k a
        · exact absurd ⟨hk, h4⟩ h3
        · rfl
theorem awl_near {k : Nat} {m : Marks} (h : Inv k m) (hk : k ≤ 200) : Circ.up (awl m) m.gss ≤ 63 + k := by
  have hf := h.far
  have s0 := h.s0
  have s1 := h.s1
  have i0 := h.i0
  have i1 := h.i1
  unfold awl Circ.later
  split
  · rw [Circ.of_in i0 i1]; omega
  · unfold Circ.up Circ.add Circ.of; omega
theorem within_near {a f g : Int} {n : Int} (h : Circ.within a f g = true) (hn : Circ.up f g ≤ n) : Circ.up (Circ.of a) g ≤ n := by
  unfold Circ.within at h
  rw [decide_eq_true_eq] at h
  unfold Circ.up Circ.of at *
  omega
theorem keeps_came {k : Nat} {m : Marks} (h : Inv k m) (hk : k ≤ 200) (kd s a : Int) (hv : valid m kd s a = 0) : Inv (k + 1) (came m kd s a) ∧ Keeps m (came m kd s a) := by
  have hf := h.far
  have ha := h.ack
  have hg : ∀ g, g = (if Head.acks kd = true then Circ.later m.gar a else m.gar) → 0 ≤ g ∧ g < 281474976710656 ∧ Circ.up g m.gss ≤ 63 + k ∧ Circ.less g m.gar = false := by
    intro g e
    by_cases hb : Head.acks kd = true
    · rw [if_pos hb] at e
      subst e
      refine ⟨later_lo _ _, later_hi _ _, ?_, later_forth _ _ h.a0 h.a1⟩
      have hw := valid_acks hv hb
      unfold acks at hw
      have hn : Circ.up (Circ.of a) (awh m) ≤ 63 + k := by
        refine within_near hw ?_
        unfold awh
        rw [Circ.of_in h.s0 h.s1]
        split
        · exact ha
        · exact awl_near h hk
      unfold awh at hn
      rw [Circ.of_in h.s0 h.s1] at hn
      unfold Circ.later
      split
      · exact hn
      · rw [Circ.of_in h.a0 h.a1]; exact ha
    · rw [if_neg hb] at e
      subst e
      exact ⟨h.a0, h.a1, ha, less_self _⟩
  obtain ⟨g0, g1, g2, g3⟩ := hg _ rfl
  refine ⟨⟨h.i0, h.i1, h.s0, h.s1, later_lo _ _, later_hi _ _, g0, g1, ?_, ?_⟩, later_forth _ _ h.r0 h.r1, g3, ?_, rfl, rfl⟩
  · show Circ.up m.iss m.gss ≤ _; omega
  · show Circ.up _ m.gss ≤ _; unfold came; simp only []; omega
  · exact less_small (by unfold came; simp only []; omega)
end Go.Proofs.Ytnhfhnphmjhamaa.Span
