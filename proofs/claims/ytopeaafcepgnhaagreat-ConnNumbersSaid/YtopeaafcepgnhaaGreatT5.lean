/- Parts of a proof: CdJ, CdK, CdP, CdQ, CdR, CdS, CdN, CdU, CdV, CdW, CfB, CfP, CfC, CnQ, CnW, CdX, CfI, CfE, CfD. No conditions. -/
import Derived.Test.YtopeaafcepgnhaaGreatT4
set_option linter.unusedVariables false
set_option linter.unusedSimpArgs false
namespace Go.Proofs.YtopeaafcepgnhaaGreat
open Go.RowKit Sym Go.ChangeShapes Go.WideShapes Go.ChangeMaps
structure WaitOk (wa le tr : Int) : Prop where
  w0 : 0 ≤ wa
  w1 : wa ≤ 64
  l0 : 0 ≤ le
  l1 : le ≤ 64
  t0 : 0 ≤ tr
  t1 : tr ≤ 6
  z : wa = 0 → le = 0
theorem ag_none {wa le tr : Int} (h : WaitOk wa le tr) (hz : wa = 0) : agSay wa le tr = false ∧ agOver wa le tr = false ∧ agWait wa le tr = wa ∧ agLeft wa le tr = le ∧ agTries wa le tr = tr := by
  have := h.z hz
  subst hz
  subst this
  unfold agSay agOver agWait agLeft agTries tick
  simp
theorem ag_left {wa le tr : Int} (h : WaitOk wa le tr) (hz : ¬ wa = 0) (hl : 0 < le - 1) : agSay wa le tr = false ∧ agOver wa le tr = false ∧ agWait wa le tr = wa ∧ agLeft wa le tr = le - 1 ∧ agTries wa le tr = tr := by
  obtain ⟨h1, h2, h3, h4, h5, h6, -⟩ := h
  have e : wrap64 (le - 1) = le - 1 := by unfold wrap64; omega
  have hl' : 1 < le := by omega
  unfold agSay agOver agWait agLeft agTries tick
  simp [hz, e, hl']
theorem ag_again {wa le tr : Int} (h : WaitOk wa le tr) (hz : ¬ wa = 0) (hl : ¬ 0 < le - 1) (ht : tr < 6) : agSay wa le tr = true ∧ agOver wa le tr = false ∧ agWait wa le tr = min (2 * wa) 64 ∧ agLeft wa le tr = min (2 * wa) 64 ∧ agTries wa le tr = tr + 1 := by
  obtain ⟨h1, h2, h3, h4, h5, h6, -⟩ := h
  have e : wrap64 (le - 1) = le - 1 := by unfold wrap64; omega
  have e2 : wrap64 (2 * wa) = 2 * wa := by unfold wrap64; omega
  have e3 : wrap64 (tr + 1) = tr + 1 := by unfold wrap64; omega
  have e4 : ¬ 6 ≤ tr := by omega
  have hl' : ¬ 1 < le := by omega
  unfold agSay agOver agWait agLeft agTries tick
  simp [hz, e, hl', e2, e3, e4]
theorem ag_over {wa le tr : Int} (h : WaitOk wa le tr) (hz : ¬ wa = 0) (hl : ¬ 0 < le - 1) (ht : ¬ tr < 6) : agSay wa le tr = false ∧ agOver wa le tr = true := by
  obtain ⟨h1, h2, h3, h4, h5, h6, -⟩ := h
  have e : wrap64 (le - 1) = le - 1 := by unfold wrap64; omega
  have e4 : 6 ≤ tr := by omega
  have hl' : ¬ 1 < le := by omega
  unfold agSay agOver tick
  simp [hz, e, hl', e4]
def TickQ (c : Cs) (xs : List Value) (ua ug : Value) (r : SV × List Blk) : Prop := ∃ c' b, c.tick = (c', b) ∧ r.1.to [] = some (.bool b) ∧ Off c xs ua ug r.2 c'
set_option maxRecDepth 100000 in
theorem tick0_tree (c : Cs) (ua ug : Value) (n : Nat) (xs : List Value) (hst : c.st = 0) (hn : n = c.outs.length) (hw : WaitOk c.wa c.le c.tr) :
    (canT 2 (runF Tryz.prog (CT Tryz.prog (CdFn.mk Tryz.f95 Tryz.f14 Tryz.f57 Tryz.f35 Tryz.f58 Tryz.f68 Tryz.f66 Tryz.f36 Tryz.f54 Tryz.f69 Tryz.f59 Tryz.f63 Tryz.f65 Tryz.f61)) noL Tryz.f24 (Tryz.f24.body.getD .skip) [.ptr 0 0] [.own (csS c (.c (.int .i64 0)) (.v ua) (.v ug) (.ref 1)), .vec false 36 13 n xs])).ok (TickQ c xs ua ug) := by
  rw [tick0_run]
  obtain ⟨cl, st, iss, isr, gss, gsr, gar, sv, asks, greets, wa, le, tr, sy, li, outs⟩ := c
  simp only at hst hn
  subst hst
  subst hn
  dsimp only at hw ⊢
  obtain ⟨rr, hr0⟩ : ∃ r, (Cs.mk cl 0 iss isr gss gsr gar sv asks greets wa le tr sy li outs).tick = r := ⟨_, rfl⟩
  have hT := hr0
  unfold Cs.tick at hT
  rw [if_neg (by show ¬ (0 : Int) = 5; decide)] at hT
  dsimp only at hT
  by_cases hz : wa = 0
  · obtain ⟨e1, e2, e3, e4, e5⟩ := ag_none hw hz
    rw [if_pos hz] at hT
    simp only [e1, e2, e3, e4, e5]
    refine t_ite (fun h => by cases h) fun _ => t_ite (fun h => by cases h) fun _ => t_leaf ?_
    refine ⟨(Cs.mk cl 0 iss isr gss gsr gar sv asks greets wa le tr false li outs), false, ?_, rfl, _, _, _, _, _, _, _, _, _, _, _, _, _, _, _, _, _, _, rfl, fun B => rfl, rfl, q_same (c0 := (Cs.mk cl 0 iss isr gss gsr gar sv asks greets wa le tr sy li outs)) (c' := (Cs.mk cl 0 iss isr gss gsr gar sv asks greets wa le tr false li outs)) rfl rfl⟩
    exact hr0.trans hT.symm
  rw [if_neg hz] at hT
  by_cases hl : 0 < le - 1
  · obtain ⟨e1, e2, e3, e4, e5⟩ := ag_left hw hz hl
    rw [if_pos hl] at hT
    simp only [e1, e2, e3, e4, e5]
    refine t_ite (fun h => by cases h) fun _ => t_ite (fun h => by cases h) fun _ => t_leaf ?_
    refine ⟨(Cs.mk cl 0 iss isr gss gsr gar sv asks greets wa (le - 1) tr false li outs), false, ?_, rfl, _, _, _, _, _, _, _, _, _, _, _, _, _, _, _, _, _, _, rfl, fun B => rfl, rfl, q_same (c0 := (Cs.mk cl 0 iss isr gss gsr gar sv asks greets wa le tr sy li outs)) (c' := (Cs.mk cl 0 iss isr gss gsr gar sv asks greets wa (le - 1) tr false li outs)) rfl rfl⟩
    exact hr0.trans hT.symm
  rw [if_neg hl] at hT
  by_cases ht : tr < 6
  · obtain ⟨e1, e2, e3, e4, e5⟩ := ag_again hw hz hl ht
    rw [if_pos ht] at hT
    simp only [e1, e2, e3, e4, e5]
    refine t_ite (fun _ => ?_) fun h => by cases h
    refine t_ite (fun h => by cases h) fun _ => t_leaf ?_
    refine ⟨(Cs.mk cl 0 iss isr gss gsr gar sv asks greets (min (2 * wa) 64) (min (2 * wa) 64) (tr + 1) false li outs), false, ?_, rfl, _, _, _, _, _, _, _, _, _, _, _, _, _, _, _, _, _, _, rfl, fun B => rfl, rfl, q_same (c0 := (Cs.mk cl 0 iss isr gss gsr gar sv asks greets wa le tr sy li outs)) (c' := (Cs.mk cl 0 iss isr gss gsr gar sv asks greets (min (2 * wa) 64) (min (2 * wa) 64) (tr + 1) false li outs)) rfl rfl⟩
    exact hr0.trans hT.symm
  · obtain ⟨e1, e2⟩ := ag_over hw hz hl ht
    rw [if_neg ht, if_neg (by show ¬ (0 : Int) = 2; decide)] at hT
    simp only [e1, e2]
    refine t_ite (fun h => by cases h) fun _ => t_ite (fun _ => t_leaf ?_) fun h => by cases h
    refine ⟨((Cs.mk cl 0 iss isr gss gsr gar sv asks greets wa le tr false li outs).fin 0), true, ?_, rfl, _, _, _, _, _, _, _, _, _, _, _, _, _, _, _, _, _, _, rfl, fun B => rfl, rfl, q_same (c0 := (Cs.mk cl 0 iss isr gss gsr gar sv asks greets wa le tr sy li outs)) (c' := ((Cs.mk cl 0 iss isr gss gsr gar sv asks greets wa le tr false li outs).fin 0)) rfl rfl⟩
    exact hr0.trans hT.symm
set_option maxRecDepth 100000 in
theorem tick3_tree (c : Cs) (ua ug : Value) (n : Nat) (xs : List Value) (hst : c.st = 3) (hn : n = c.outs.length) (hw : WaitOk c.wa c.le c.tr) :
    (canT 2 (runF Tryz.prog (CT Tryz.prog (CdFn.mk Tryz.f95 Tryz.f14 Tryz.f57 Tryz.f35 Tryz.f58 Tryz.f68 Tryz.f66 Tryz.f36 Tryz.f54 Tryz.f69 Tryz.f59 Tryz.f63 Tryz.f65 Tryz.f61)) noL Tryz.f24 (Tryz.f24.body.getD .skip) [.ptr 0 0] [.own (csS c (.c (.int .i64 3)) (.v ua) (.v ug) (.ref 1)), .vec false 36 13 n xs])).ok (TickQ c xs ua ug) := by
  rw [tick3_run]
  obtain ⟨cl, st, iss, isr, gss, gsr, gar, sv, asks, greets, wa, le, tr, sy, li, outs⟩ := c
  simp only at hst hn
  subst hst
  subst hn
  dsimp only at hw ⊢
  obtain ⟨rr, hr0⟩ : ∃ r, (Cs.mk cl 3 iss isr gss gsr gar sv asks greets wa le tr sy li outs).tick = r := ⟨_, rfl⟩
  have hT := hr0
  unfold Cs.tick at hT
  rw [if_neg (by show ¬ (3 : Int) = 5; decide)] at hT
  dsimp only at hT
  by_cases hz : wa = 0
  · obtain ⟨e1, e2, e3, e4, e5⟩ := ag_none hw hz
    rw [if_pos hz] at hT
    simp only [e1, e2, e3, e4, e5]
    refine t_ite (fun h => by cases h) fun _ => t_ite (fun h => by cases h) fun _ => t_leaf ?_
    refine ⟨(Cs.mk cl 3 iss isr gss gsr gar sv asks greets wa le tr false li outs), false, ?_, rfl, _, _, _, _, _, _, _, _, _, _, _, _, _, _, _, _, _, _, rfl, fun B => rfl, rfl, q_same (c0 := (Cs.mk cl 3 iss isr gss gsr gar sv asks greets wa le tr sy li outs)) (c' := (Cs.mk cl 3 iss isr gss gsr gar sv asks greets wa le tr false li outs)) rfl rfl⟩
    exact hr0.trans hT.symm
  rw [if_neg hz] at hT
  by_cases hl : 0 < le - 1
  · obtain ⟨e1, e2, e3, e4, e5⟩ := ag_left hw hz hl
    rw [if_pos hl] at hT
    simp only [e1, e2, e3, e4, e5]
    refine t_ite (fun h => by cases h) fun _ => t_ite (fun h => by cases h) fun _ => t_leaf ?_
    refine ⟨(Cs.mk cl 3 iss isr gss gsr gar sv asks greets wa (le - 1) tr false li outs), false, ?_, rfl, _, _, _, _, _, _, _, _, _, _, _, _, _, _, _, _, _, _, rfl, fun B => rfl, rfl, q_same (c0 := (Cs.mk cl 3 iss isr gss gsr gar sv asks greets wa le tr sy li outs)) (c' := (Cs.mk cl 3 iss isr gss gsr gar sv asks greets wa (le - 1) tr false li outs)) rfl rfl⟩
    exact hr0.trans hT.symm
  rw [if_neg hl] at hT
  by_cases ht : tr < 6
  · obtain ⟨e1, e2, e3, e4, e5⟩ := ag_again hw hz hl ht
    rw [if_pos ht] at hT
    simp only [e1, e2, e3, e4, e5]
    refine t_ite (fun _ => ?_) fun h => by cases h
    refine t_ite (fun h => by cases h) fun _ => t_leaf ?_
    refine ⟨(Cs.mk cl 3 iss isr gss gsr gar sv asks greets (min (2 * wa) 64) (min (2 * wa) 64) (tr + 1) false li outs), false, ?_, rfl, _, _, _, _, _, _, _, _, _, _, _, _, _, _, _, _, _, _, rfl, fun B => rfl, rfl, q_same (c0 := (Cs.mk cl 3 iss isr gss gsr gar sv asks greets wa le tr sy li outs)) (c' := (Cs.mk cl 3 iss isr gss gsr gar sv asks greets (min (2 * wa) 64) (min (2 * wa) 64) (tr + 1) false li outs)) rfl rfl⟩
    exact hr0.trans hT.symm
  · obtain ⟨e1, e2⟩ := ag_over hw hz hl ht
    rw [if_neg ht, if_neg (by show ¬ (3 : Int) = 2; decide)] at hT
    simp only [e1, e2]
    refine t_ite (fun h => by cases h) fun _ => t_ite (fun _ => t_leaf ?_) fun h => by cases h
    refine ⟨((Cs.mk cl 3 iss isr gss gsr gar sv asks greets wa le tr false li outs).fin 0), true, ?_, rfl, _, _, _, _, _, _, _, _, _, _, _, _, _, _, _, _, _, _, rfl, fun B => rfl, rfl, q_same (c0 := (Cs.mk cl 3 iss isr gss gsr gar sv asks greets wa le tr sy li outs)) (c' := ((Cs.mk cl 3 iss isr gss gsr gar sv asks greets wa le tr false li outs).fin 0)) rfl rfl⟩
    exact hr0.trans hT.symm
set_option maxRecDepth 100000 in
theorem tick4_tree (c : Cs) (ua ug : Value) (n : Nat) (xs : List Value) (hst : c.st = 4) (hn : n = c.outs.length) (hw : WaitOk c.wa c.le c.tr) :
    (canT 2 (runF Tryz.prog (CT Tryz.prog (CdFn.mk Tryz.f95 Tryz.f14 Tryz.f57 Tryz.f35 Tryz.f58 Tryz.f68 Tryz.f66 Tryz.f36 Tryz.f54 Tryz.f69 Tryz.f59 Tryz.f63 Tryz.f65 Tryz.f61)) noL Tryz.f24 (Tryz.f24.body.getD .skip) [.ptr 0 0] [.own (csS c (.c (.int .i64 4)) (.v ua) (.v ug) (.ref 1)), .vec false 36 13 n xs])).ok (TickQ c xs ua ug) := by
  rw [tick4_run]
  obtain ⟨cl, st, iss, isr, gss, gsr, gar, sv, asks, greets, wa, le, tr, sy, li, outs⟩ := c
  simp only at hst hn
  subst hst
  subst hn
  dsimp only at hw ⊢
  obtain ⟨rr, hr0⟩ : ∃ r, (Cs.mk cl 4 iss isr gss gsr gar sv asks greets wa le tr sy li outs).tick = r := ⟨_, rfl⟩
  have hT := hr0
  unfold Cs.tick at hT
  rw [if_neg (by show ¬ (4 : Int) = 5; decide)] at hT
  dsimp only at hT
  by_cases hz : wa = 0
  · obtain ⟨e1, e2, e3, e4, e5⟩ := ag_none hw hz
    rw [if_pos hz] at hT
    simp only [e1, e2, e3, e4, e5]
    refine t_ite (fun h => by cases h) fun _ => t_ite (fun h => by cases h) fun _ => t_leaf ?_
    refine ⟨(Cs.mk cl 4 iss isr gss gsr gar sv asks greets wa le tr false li outs), false, ?_, rfl, _, _, _, _, _, _, _, _, _, _, _, _, _, _, _, _, _, _, rfl, fun B => rfl, rfl, q_same (c0 := (Cs.mk cl 4 iss isr gss gsr gar sv asks greets wa le tr sy li outs)) (c' := (Cs.mk cl 4 iss isr gss gsr gar sv asks greets wa le tr false li outs)) rfl rfl⟩
    exact hr0.trans hT.symm
  rw [if_neg hz] at hT
  by_cases hl : 0 < le - 1
  · obtain ⟨e1, e2, e3, e4, e5⟩ := ag_left hw hz hl
    rw [if_pos hl] at hT
    simp only [e1, e2, e3, e4, e5]
    refine t_ite (fun h => by cases h) fun _ => t_ite (fun h => by cases h) fun _ => t_leaf ?_
    refine ⟨(Cs.mk cl 4 iss isr gss gsr gar sv asks greets wa (le - 1) tr false li outs), false, ?_, rfl, _, _, _, _, _, _, _, _, _, _, _, _, _, _, _, _, _, _, rfl, fun B => rfl, rfl, q_same (c0 := (Cs.mk cl 4 iss isr gss gsr gar sv asks greets wa le tr sy li outs)) (c' := (Cs.mk cl 4 iss isr gss gsr gar sv asks greets wa (le - 1) tr false li outs)) rfl rfl⟩
    exact hr0.trans hT.symm
  rw [if_neg hl] at hT
  by_cases ht : tr < 6
  · obtain ⟨e1, e2, e3, e4, e5⟩ := ag_again hw hz hl ht
    rw [if_pos ht] at hT
    simp only [e1, e2, e3, e4, e5]
    refine t_ite (fun _ => ?_) fun h => by cases h
    unfold Cs.say Cs.endK at hT
    rw [if_neg (by show ¬ (4 : Int) = 1; decide), if_neg (by show ¬ (4 : Int) = 2; decide), if_pos rfl] at hT
    refine t_ite (fun h => ?_) fun h => ?_
    · subst h
      refine t_ite (fun h => by cases h) fun _ => t_leaf ?_
      refine ⟨(Cs.send (Cs.mk true 4 iss isr gss gsr gar sv asks greets (min (2 * wa) 64) (min (2 * wa) 64) (tr + 1) false li outs) 6 OL.nil Cs.emp gsr 0 0), false, ?_, rfl, _, _, _, _, _, _, _, _, _, _, _, _, _, _, _, _, _, _, rfl, fun B => rfl, rfl, q_send (c0 := (Cs.mk true 4 iss isr gss gsr gar sv asks greets wa le tr sy li outs)) (c' := (Cs.send (Cs.mk true 4 iss isr gss gsr gar sv asks greets (min (2 * wa) 64) (min (2 * wa) 64) (tr + 1) false li outs) 6 OL.nil Cs.emp gsr 0 0)) (c1 := (Cs.mk true 4 iss isr gss gsr gar sv asks greets (min (2 * wa) 64) (min (2 * wa) 64) (tr + 1) false li outs)) 6 Cs.emp gsr 0 0 rfl rfl rfl⟩
      exact hr0.trans hT.symm
    · subst h
      refine t_ite (fun h => by cases h) fun _ => t_leaf ?_
      refine ⟨(Cs.send (Cs.mk false 4 iss isr gss gsr gar sv asks greets (min (2 * wa) 64) (min (2 * wa) 64) (tr + 1) false li outs) 5 OL.nil Cs.emp gsr 0 0), false, ?_, rfl, _, _, _, _, _, _, _, _, _, _, _, _, _, _, _, _, _, _, rfl, fun B => rfl, rfl, q_send (c0 := (Cs.mk false 4 iss isr gss gsr gar sv asks greets wa le tr sy li outs)) (c' := (Cs.send (Cs.mk false 4 iss isr gss gsr gar sv asks greets (min (2 * wa) 64) (min (2 * wa) 64) (tr + 1) false li outs) 5 OL.nil Cs.emp gsr 0 0)) (c1 := (Cs.mk false 4 iss isr gss gsr gar sv asks greets (min (2 * wa) 64) (min (2 * wa) 64) (tr + 1) false li outs)) 5 Cs.emp gsr 0 0 rfl rfl rfl⟩
      exact hr0.trans hT.symm
  · obtain ⟨e1, e2⟩ := ag_over hw hz hl ht
    rw [if_neg ht, if_neg (by show ¬ (4 : Int) = 2; decide)] at hT
    simp only [e1, e2]
    refine t_ite (fun h => by cases h) fun _ => t_ite (fun _ => t_leaf ?_) fun h => by cases h
    refine ⟨((Cs.mk cl 4 iss isr gss gsr gar sv asks greets wa le tr false li outs).fin 0), true, ?_, rfl, _, _, _, _, _, _, _, _, _, _, _, _, _, _, _, _, _, _, rfl, fun B => rfl, rfl, q_same (c0 := (Cs.mk cl 4 iss isr gss gsr gar sv asks greets wa le tr sy li outs)) (c' := ((Cs.mk cl 4 iss isr gss gsr gar sv asks greets wa le tr false li outs).fin 0)) rfl rfl⟩
    exact hr0.trans hT.symm
set_option maxRecDepth 100000 in
theorem tick5_tree (c : Cs) (ua ug : Value) (n : Nat) (xs : List Value) (hst : c.st = 5) (hn : n = c.outs.length) (hli : 0 ≤ c.li ∧ c.li ≤ 16) :
    (canT 2 (runF Tryz.prog (CT Tryz.prog (CdFn.mk Tryz.f95 Tryz.f14 Tryz.f57 Tryz.f35 Tryz.f58 Tryz.f68 Tryz.f66 Tryz.f36 Tryz.f54 Tryz.f69 Tryz.f59 Tryz.f63 Tryz.f65 Tryz.f61)) noL Tryz.f24 (Tryz.f24.body.getD .skip) [.ptr 0 0] [.own (csS c (.c (.int .i64 5)) (.v ua) (.v ug) (.ref 1)), .vec false 36 13 n xs])).ok (TickQ c xs ua ug) := by
  rw [tick5_run]
  obtain ⟨cl, st, iss, isr, gss, gsr, gar, sv, asks, greets, wa, le, tr, sy, li, outs⟩ := c
  simp only at hst hn
  subst hst
  subst hn
  dsimp only at hli ⊢
  have hw : IntKind.i64.wrap (li + 1) = li + 1 := w64 _ (by omega) (by omega)
  rw [hw]
  obtain ⟨rr, hr0⟩ : ∃ r, (Cs.mk cl 5 iss isr gss gsr gar sv asks greets wa le tr sy li outs).tick = r := ⟨_, rfl⟩
  have hT := hr0
  unfold Cs.tick at hT
  rw [if_pos rfl] at hT
  dsimp only at hT
  refine t_ite (fun h => t_leaf ?_) fun h => t_leaf ?_
  · refine ⟨((Cs.mk cl 5 iss isr gss gsr gar sv asks greets wa le tr false li outs).fin 0), false, ?_, rfl, _, _, _, _, _, _, _, _, _, _, _, _, _, _, _, _, _, _, rfl, fun B => rfl, rfl, q_same (c0 := (Cs.mk cl 5 iss isr gss gsr gar sv asks greets wa le tr sy li outs)) (c' := ((Cs.mk cl 5 iss isr gss gsr gar sv asks greets wa le tr false li outs).fin 0)) rfl rfl⟩
    rw [if_pos (by simpa using h)] at hT
    exact hr0.trans hT.symm
  · refine ⟨(Cs.mk cl 5 iss isr gss gsr gar sv asks greets wa le tr false (li + 1) outs), false, ?_, rfl, _, _, _, _, _, _, _, _, _, _, _, _, _, _, _, _, _, _, rfl, fun B => rfl, rfl, q_same (c0 := (Cs.mk cl 5 iss isr gss gsr gar sv asks greets wa le tr sy li outs)) (c' := (Cs.mk cl 5 iss isr gss gsr gar sv asks greets wa le tr false (li + 1) outs)) rfl rfl⟩
    rw [if_neg (by simpa using h)] at hT
    exact hr0.trans hT.symm
def ErrQ (s : Cs × Int) (c : Cs) (xs : List Value) (ua ug : Value) (r : SV × List Blk) : Prop := ∃ c' e, s = (c', e) ∧ r.1.to [] = some (.int .i64 e) ∧ Off c xs ua ug r.2 c'
set_option maxRecDepth 100000 in
theorem close0_tree (c : Cs) (ua ug : Value) (n : Nat) (xs : List Value) (hst : c.st = 0) (hn : n = c.outs.length) :
    (canT 2 (runF Tryz.prog (CT Tryz.prog (CdFn.mk Tryz.f95 Tryz.f14 Tryz.f57 Tryz.f35 Tryz.f58 Tryz.f68 Tryz.f66 Tryz.f36 Tryz.f54 Tryz.f69 Tryz.f59 Tryz.f63 Tryz.f65 Tryz.f61)) noL Tryz.f27 (Tryz.f27.body.getD .skip) [.ptr 0 0] [.own (csS c (.c (.int .i64 0)) (.v ua) (.v ug) (.ref 1)), .vec false 36 13 n xs])).ok (ErrQ c.close c xs ua ug) := by
  rw [close0_run]
  obtain ⟨cl, st, iss, isr, gss, gsr, gar, sv, asks, greets, wa, le, tr, sy, li, outs⟩ := c
  simp only at hst hn
  subst hst
  subst hn
  dsimp only
  refine t_leaf ?_
  refine ⟨(Cs.mk cl 0 iss isr gss gsr gar sv asks greets wa le tr sy li outs), 10, ?_, rfl, _, _, _, _, _, _, _, _, _, _, _, _, _, _, _, _, _, _, rfl, fun B => rfl, rfl, q_same (c0 := (Cs.mk cl 0 iss isr gss gsr gar sv asks greets wa le tr sy li outs)) (c' := (Cs.mk cl 0 iss isr gss gsr gar sv asks greets wa le tr sy li outs)) rfl rfl⟩
  unfold Cs.close
  rw [if_neg (by show ¬ ((0 : Int) = 3 ∨ (0 : Int) = 2); decide)]
set_option maxRecDepth 100000 in
theorem close1_tree (c : Cs) (ua ug : Value) (n : Nat) (xs : List Value) (hst : c.st = 1) (hn : n = c.outs.length) :
    (canT 2 (runF Tryz.prog (CT Tryz.prog (CdFn.mk Tryz.f95 Tryz.f14 Tryz.f57 Tryz.f35 Tryz.f58 Tryz.f68 Tryz.f66 Tryz.f36 Tryz.f54 Tryz.f69 Tryz.f59 Tryz.f63 Tryz.f65 Tryz.f61)) noL Tryz.f27 (Tryz.f27.body.getD .skip) [.ptr 0 0] [.own (csS c (.c (.int .i64 1)) (.v ua) (.v ug) (.ref 1)), .vec false 36 13 n xs])).ok (ErrQ c.close c xs ua ug) := by
  rw [close1_run]
  obtain ⟨cl, st, iss, isr, gss, gsr, gar, sv, asks, greets, wa, le, tr, sy, li, outs⟩ := c
  simp only at hst hn
  subst hst
  subst hn
  dsimp only
  refine t_leaf ?_
  refine ⟨(Cs.mk cl 1 iss isr gss gsr gar sv asks greets wa le tr sy li outs), 10, ?_, rfl, _, _, _, _, _, _, _, _, _, _, _, _, _, _, _, _, _, _, rfl, fun B => rfl, rfl, q_same (c0 := (Cs.mk cl 1 iss isr gss gsr gar sv asks greets wa le tr sy li outs)) (c' := (Cs.mk cl 1 iss isr gss gsr gar sv asks greets wa le tr sy li outs)) rfl rfl⟩
  unfold Cs.close
  rw [if_neg (by show ¬ ((1 : Int) = 3 ∨ (1 : Int) = 2); decide)]
set_option maxRecDepth 100000 in
theorem close4_tree (c : Cs) (ua ug : Value) (n : Nat) (xs : List Value) (hst : c.st = 4) (hn : n = c.outs.length) :
    (canT 2 (runF Tryz.prog (CT Tryz.prog (CdFn.mk Tryz.f95 Tryz.f14 Tryz.f57 Tryz.f35 Tryz.f58 Tryz.f68 Tryz.f66 Tryz.f36 Tryz.f54 Tryz.f69 Tryz.f59 Tryz.f63 Tryz.f65 Tryz.f61)) noL Tryz.f27 (Tryz.f27.body.getD .skip) [.ptr 0 0] [.own (csS c (.c (.int .i64 4)) (.v ua) (.v ug) (.ref 1)), .vec false 36 13 n xs])).ok (ErrQ c.close c xs ua ug) := by
  rw [close4_run]
  obtain ⟨cl, st, iss, isr, gss, gsr, gar, sv, asks, greets, wa, le, tr, sy, li, outs⟩ := c
  simp only at hst hn
  subst hst
  subst hn
  dsimp only
  refine t_leaf ?_
  refine ⟨(Cs.mk cl 4 iss isr gss gsr gar sv asks greets wa le tr sy li outs), 10, ?_, rfl, _, _, _, _, _, _, _, _, _, _, _, _, _, _, _, _, _, _, rfl, fun B => rfl, rfl, q_same (c0 := (Cs.mk cl 4 iss isr gss gsr gar sv asks greets wa le tr sy li outs)) (c' := (Cs.mk cl 4 iss isr gss gsr gar sv asks greets wa le tr sy li outs)) rfl rfl⟩
  unfold Cs.close
  rw [if_neg (by show ¬ ((4 : Int) = 3 ∨ (4 : Int) = 2); decide)]
set_option maxRecDepth 100000 in
theorem close5_tree (c : Cs) (ua ug : Value) (n : Nat) (xs : List Value) (hst : c.st = 5) (hn : n = c.outs.length) :
    (canT 2 (runF Tryz.prog (CT Tryz.prog (CdFn.mk Tryz.f95 Tryz.f14 Tryz.f57 Tryz.f35 Tryz.f58 Tryz.f68 Tryz.f66 Tryz.f36 Tryz.f54 Tryz.f69 Tryz.f59 Tryz.f63 Tryz.f65 Tryz.f61)) noL Tryz.f27 (Tryz.f27.body.getD .skip) [.ptr 0 0] [.own (csS c (.c (.int .i64 5)) (.v ua) (.v ug) (.ref 1)), .vec false 36 13 n xs])).ok (ErrQ c.close c xs ua ug) := by
  rw [close5_run]
  obtain ⟨cl, st, iss, isr, gss, gsr, gar, sv, asks, greets, wa, le, tr, sy, li, outs⟩ := c
  simp only at hst hn
  subst hst
  subst hn
  dsimp only
  refine t_leaf ?_
  refine ⟨(Cs.mk cl 5 iss isr gss gsr gar sv asks greets wa le tr sy li outs), 10, ?_, rfl, _, _, _, _, _, _, _, _, _, _, _, _, _, _, _, _, _, _, rfl, fun B => rfl, rfl, q_same (c0 := (Cs.mk cl 5 iss isr gss gsr gar sv asks greets wa le tr sy li outs)) (c' := (Cs.mk cl 5 iss isr gss gsr gar sv asks greets wa le tr sy li outs)) rfl rfl⟩
  unfold Cs.close
  rw [if_neg (by show ¬ ((5 : Int) = 3 ∨ (5 : Int) = 2); decide)]
set_option maxRecDepth 100000 in
theorem close2_tree (c : Cs) (ua ug : Value) (n : Nat) (xs : List Value) (hst : c.st = 2) (hn : n = c.outs.length) :
    (canT 2 (runF Tryz.prog (CT Tryz.prog (CdFn.mk Tryz.f95 Tryz.f14 Tryz.f57 Tryz.f35 Tryz.f58 Tryz.f68 Tryz.f66 Tryz.f36 Tryz.f54 Tryz.f69 Tryz.f59 Tryz.f63 Tryz.f65 Tryz.f61)) noL Tryz.f27 (Tryz.f27.body.getD .skip) [.ptr 0 0] [.own (csS c (.c (.int .i64 2)) (.v ua) (.v ug) (.ref 1)), .vec false 36 13 n xs])).ok (ErrQ c.close c xs ua ug) := by
  rw [close2_run]
  obtain ⟨cl, st, iss, isr, gss, gsr, gar, sv, asks, greets, wa, le, tr, sy, li, outs⟩ := c
  simp only at hst hn
  subst hst
  subst hn
  dsimp only
  obtain ⟨rr, hr0⟩ : ∃ r, (Cs.mk cl 2 iss isr gss gsr gar sv asks greets wa le tr sy li outs).close = r := ⟨_, rfl⟩
  have hT := hr0
  unfold Cs.close at hT
  rw [if_pos (by show (2 : Int) = 3 ∨ (2 : Int) = 2; decide)] at hT
  unfold Cs.say Cs.endK at hT
  rw [if_neg (by show ¬ (4 : Int) = 1; decide), if_neg (by show ¬ (4 : Int) = 2; decide), if_pos rfl] at hT
  refine t_ite (fun h => t_need rfl (t_leaf ?_)) fun h => t_need rfl (t_leaf ?_)
  · subst h
    refine ⟨(Cs.wait (Cs.send (Cs.mk true 4 iss isr gss gsr gar sv asks greets wa le tr sy li outs) 6 OL.nil Cs.emp gsr 0 0)), 0, ?_, rfl, _, _, _, _, _, _, _, _, _, _, _, _, _, _, _, _, _, _, rfl, fun B => rfl, rfl, q_send (c0 := (Cs.mk true 2 iss isr gss gsr gar sv asks greets wa le tr sy li outs)) (c' := (Cs.wait (Cs.send (Cs.mk true 4 iss isr gss gsr gar sv asks greets wa le tr sy li outs) 6 OL.nil Cs.emp gsr 0 0))) (c1 := (Cs.mk true 4 iss isr gss gsr gar sv asks greets wa le tr sy li outs)) 6 Cs.emp gsr 0 0 rfl rfl rfl⟩
    exact hr0.trans hT.symm
  · subst h
    refine ⟨(Cs.wait (Cs.send (Cs.mk false 4 iss isr gss gsr gar sv asks greets wa le tr sy li outs) 5 OL.nil Cs.emp gsr 0 0)), 0, ?_, rfl, _, _, _, _, _, _, _, _, _, _, _, _, _, _, _, _, _, _, rfl, fun B => rfl, rfl, q_send (c0 := (Cs.mk false 2 iss isr gss gsr gar sv asks greets wa le tr sy li outs)) (c' := (Cs.wait (Cs.send (Cs.mk false 4 iss isr gss gsr gar sv asks greets wa le tr sy li outs) 5 OL.nil Cs.emp gsr 0 0))) (c1 := (Cs.mk false 4 iss isr gss gsr gar sv asks greets wa le tr sy li outs)) 5 Cs.emp gsr 0 0 rfl rfl rfl⟩
    exact hr0.trans hT.symm
set_option maxRecDepth 100000 in
theorem close3_tree (c : Cs) (ua ug : Value) (n : Nat) (xs : List Value) (hst : c.st = 3) (hn : n = c.outs.length) :
    (canT 2 (runF Tryz.prog (CT Tryz.prog (CdFn.mk Tryz.f95 Tryz.f14 Tryz.f57 Tryz.f35 Tryz.f58 Tryz.f68 Tryz.f66 Tryz.f36 Tryz.f54 Tryz.f69 Tryz.f59 Tryz.f63 Tryz.f65 Tryz.f61)) noL Tryz.f27 (Tryz.f27.body.getD .skip) [.ptr 0 0] [.own (csS c (.c (.int .i64 3)) (.v ua) (.v ug) (.ref 1)), .vec false 36 13 n xs])).ok (ErrQ c.close c xs ua ug) := by
  rw [close3_run]
  obtain ⟨cl, st, iss, isr, gss, gsr, gar, sv, asks, greets, wa, le, tr, sy, li, outs⟩ := c
  simp only at hst hn
  subst hst
  subst hn
  dsimp only
  obtain ⟨rr, hr0⟩ : ∃ r, (Cs.mk cl 3 iss isr gss gsr gar sv asks greets wa le tr sy li outs).close = r := ⟨_, rfl⟩
  have hT := hr0
  unfold Cs.close at hT
  rw [if_pos (by show (3 : Int) = 3 ∨ (3 : Int) = 2; decide)] at hT
  unfold Cs.say Cs.endK at hT
  rw [if_neg (by show ¬ (4 : Int) = 1; decide), if_neg (by show ¬ (4 : Int) = 2; decide), if_pos rfl] at hT
  refine t_ite (fun h => t_need rfl (t_leaf ?_)) fun h => t_need rfl (t_leaf ?_)
  · subst h
    refine ⟨(Cs.wait (Cs.send (Cs.mk true 4 iss isr gss gsr gar sv asks greets wa le tr sy li outs) 6 OL.nil Cs.emp gsr 0 0)), 0, ?_, rfl, _, _, _, _, _, _, _, _, _, _, _, _, _, _, _, _, _, _, rfl, fun B => rfl, rfl, q_send (c0 := (Cs.mk true 3 iss isr gss gsr gar sv asks greets wa le tr sy li outs)) (c' := (Cs.wait (Cs.send (Cs.mk true 4 iss isr gss gsr gar sv asks greets wa le tr sy li outs) 6 OL.nil Cs.emp gsr 0 0))) (c1 := (Cs.mk true 4 iss isr gss gsr gar sv asks greets wa le tr sy li outs)) 6 Cs.emp gsr 0 0 rfl rfl rfl⟩
    exact hr0.trans hT.symm
  · subst h
    refine ⟨(Cs.wait (Cs.send (Cs.mk false 4 iss isr gss gsr gar sv asks greets wa le tr sy li outs) 5 OL.nil Cs.emp gsr 0 0)), 0, ?_, rfl, _, _, _, _, _, _, _, _, _, _, _, _, _, _, _, _, _, _, rfl, fun B => rfl, rfl, q_send (c0 := (Cs.mk false 3 iss isr gss gsr gar sv asks greets wa le tr sy li outs)) (c' := (Cs.wait (Cs.send (Cs.mk false 4 iss isr gss gsr gar sv asks greets wa le tr sy li outs) 5 OL.nil Cs.emp gsr 0 0))) (c1 := (Cs.mk false 4 iss isr gss gsr gar sv asks greets wa le tr sy li outs)) 5 Cs.emp gsr 0 0 rfl rfl rfl⟩
    exact hr0.trans hT.symm
theorem code_eq (code : Int) : (if 255 < if 0 > code then 0 else code then 255 else if 0 > code then 0 else code) = min (max code 0) 255 := by
  split <;> split at * <;> omega
set_option maxRecDepth 100000 in
theorem abort_tree (c : Cs) (ua ug : Value) (n : Nat) (xs : List Value) (code : Int) (hn : n = c.outs.length) :
    (canT 2 (runF Tryz.prog (CT Tryz.prog (CdFn.mk Tryz.f95 Tryz.f14 Tryz.f57 Tryz.f35 Tryz.f58 Tryz.f68 Tryz.f66 Tryz.f36 Tryz.f54 Tryz.f69 Tryz.f59 Tryz.f63 Tryz.f65 Tryz.f61)) noL Tryz.f28 (Tryz.f28.body.getD .skip) [.ptr 0 0, .v (.int .i64 code)] [.own (csS c (.v (.int .i64 c.st)) (.v ua) (.v ug) (.ref 1)), .vec false 36 13 n xs])).ok (ErrQ (c.abort code) c xs ua ug) := by
  rw [abort_run]
  obtain ⟨cl, st, iss, isr, gss, gsr, gar, sv, asks, greets, wa, le, tr, sy, li, outs⟩ := c
  simp only at hn
  subst hn
  dsimp only
  have hc := code_eq code
  generalize (if 255 < if 0 > code then 0 else code then 255 else if 0 > code then 0 else code) = cd at hc ⊢
  subst hc
  obtain ⟨rr, hr0⟩ : ∃ r, (Cs.mk cl st iss isr gss gsr gar sv asks greets wa le tr sy li outs).abort code = r := ⟨_, rfl⟩
  have hT := hr0
  unfold Cs.abort at hT
  refine t_ite (fun h => t_leaf ?_) fun h => t_ite (fun h' => t_leaf ?_) fun h' => t_ite (fun h2 => t_leaf ?_) fun h2 => t_leaf ?_
  · refine ⟨(Cs.mk cl st iss isr gss gsr gar sv asks greets wa le tr sy li outs), 10, ?_, rfl, _, _, _, _, _, _, _, _, _, _, _, _, _, _, _, _, _, _, rfl, fun B => rfl, rfl, q_same (c0 := (Cs.mk cl st iss isr gss gsr gar sv asks greets wa le tr sy li outs)) (c' := (Cs.mk cl st iss isr gss gsr gar sv asks greets wa le tr sy li outs)) rfl rfl⟩
    rw [if_pos (.inl (by simpa using h))] at hT
    exact hr0.trans hT.symm
  · refine ⟨(Cs.mk cl st iss isr gss gsr gar sv asks greets wa le tr sy li outs), 10, ?_, rfl, _, _, _, _, _, _, _, _, _, _, _, _, _, _, _, _, _, _, rfl, fun B => rfl, rfl, q_same (c0 := (Cs.mk cl st iss isr gss gsr gar sv asks greets wa le tr sy li outs)) (c' := (Cs.mk cl st iss isr gss gsr gar sv asks greets wa le tr sy li outs)) rfl rfl⟩
    rw [if_pos (.inr (by simpa using h'))] at hT
    exact hr0.trans hT.symm
  · refine ⟨((Cs.send (Cs.mk cl st iss isr gss gsr gar sv asks greets wa le tr sy li outs) 7 OL.nil Cs.emp gsr (min (max code 0) 255) 0).fin 0), 0, ?_, rfl, _, _, _, _, _, _, _, _, _, _, _, _, _, _, _, _, _, _, rfl, fun B => rfl, rfl, q_send (c0 := (Cs.mk cl st iss isr gss gsr gar sv asks greets wa le tr sy li outs)) (c' := ((Cs.send (Cs.mk cl st iss isr gss gsr gar sv asks greets wa le tr sy li outs) 7 OL.nil Cs.emp gsr (min (max code 0) 255) 0).fin 0)) (c1 := (Cs.mk cl st iss isr gss gsr gar sv asks greets wa le tr sy li outs)) 7 Cs.emp gsr (min (max code 0) 255) 0 rfl rfl rfl⟩
    rw [if_neg (by simp only [decide_eq_false_iff_not] at h h'; rintro (e | e); exact h e; exact h' e), if_neg (by simpa using h2)] at hT
    exact hr0.trans hT.symm
  · refine ⟨((Cs.mk cl st iss isr gss gsr gar sv asks greets wa le tr sy li outs).fin 0), 0, ?_, rfl, _, _, _, _, _, _, _, _, _, _, _, _, _, _, _, _, _, _, rfl, fun B => rfl, rfl, q_same (c0 := (Cs.mk cl st iss isr gss gsr gar sv asks greets wa le tr sy li outs)) (c' := ((Cs.mk cl st iss isr gss gsr gar sv asks greets wa le tr sy li outs).fin 0)) rfl rfl⟩
    rw [if_neg (by simp only [decide_eq_false_iff_not] at h h'; rintro (e | e); exact h e; exact h' e), if_pos (by simpa using h2)] at hT
    exact hr0.trans hT.symm
set_option maxRecDepth 100000 in
theorem take0_tree (c : Cs) (ua ug : Value) (n : Nat) (xs : List Value) (p : Pk) (m : Nat) (f : Nat → Nat → Value) (hst : c.st = 0) (hn : n = c.outs.length) (hck : CkPL p m f) :
    (canT 3 (runF Tryz.prog (CT Tryz.prog (CdFn.mk Tryz.f95 Tryz.f14 Tryz.f57 Tryz.f35 Tryz.f58 Tryz.f68 Tryz.f66 Tryz.f36 Tryz.f54 Tryz.f69 Tryz.f59 Tryz.f63 Tryz.f65 Tryz.f61)) noL Tryz.f25 (Tryz.f25.body.getD .skip) [.ptr 0 0, p.s (.ref 2)] [.own (csS c (.c (.int .i64 0)) (.v ua) (.v ug) (.ref 1)), .vec false 36 13 n xs, .row m 2 f])).ok (TakeQ c p ⟨m, opF f⟩ xs ua ug) := by
  rw [take0_run]
  obtain ⟨cl, st, iss, isr, gss, gsr, gar, sv, asks, greets, wa, le, tr, sy, li, outs⟩ := c
  simp only at hst hn
  subst hst
  subst hn
  dsimp only
  repeat' (first | (with_reducible refine t_need ?_ ?_) | (with_reducible refine t_ite ?_ ?_; all_goals intro h) | (with_reducible refine t_leaf ?_))
  · exact hck
  all_goals (try simp only [decide_eq_true_eq, decide_eq_false_iff_not, Bool.not_eq_true', Bool.not_eq_false'] at *)
  all_goals (try (exfalso; omega))
  all_goals first
    | (refine ⟨(Cs.mk cl 0 iss isr gss gsr gar sv asks greets wa le tr sy li outs), .no, _, ?_, rfl, _, _, _, _, _, _, _, _, _, _, _, _, _, _, _, _, _, _, rfl, fun B => rfl, rfl, q_same (c0 := (Cs.mk cl 0 iss isr gss gsr gar sv asks greets wa le tr sy li outs)) (c' := (Cs.mk cl 0 iss isr gss gsr gar sv asks greets wa le tr sy li outs)) rfl rfl⟩; simp [Cs.take, Cs.answered, *]; done)
    | (refine ⟨(Cs.fin (Cs.mk cl 0 iss isr gss gsr gar sv asks greets wa le tr sy li outs) 0), ⟨p.kind, p.seq, p.ack, false, true, false⟩, 0, ?_, rfl, _, _, _, _, _, _, _, _, _, _, _, _, _, _, _, _, _, _, rfl, fun B => rfl, rfl, q_same (c0 := (Cs.mk cl 0 iss isr gss gsr gar sv asks greets wa le tr sy li outs)) (c' := (Cs.fin (Cs.mk cl 0 iss isr gss gsr gar sv asks greets wa le tr sy li outs) 0)) rfl rfl⟩; simp [Cs.take, Cs.answered, Cs.fin, *]; done)
    | (refine ⟨(Cs.mk cl 2 (Circ.of iss) (Circ.of p.seq) (Circ.of gss) (Circ.of p.seq) p.ack sv asks greets 0 0 0 sy li outs), ⟨p.kind, p.seq, p.ack, false, false, false⟩, 0, ?_, rfl, _, _, _, _, _, _, _, _, _, _, _, _, _, _, _, _, _, _, rfl, fun B => rfl, rfl, q_same (c0 := (Cs.mk cl 0 iss isr gss gsr gar sv asks greets wa le tr sy li outs)) (c' := (Cs.mk cl 2 (Circ.of iss) (Circ.of p.seq) (Circ.of gss) (Circ.of p.seq) p.ack sv asks greets 0 0 0 sy li outs)) rfl rfl⟩; simp [Cs.take, Cs.answered, *]; done)
    | trace_state
set_option maxRecDepth 100000 in
theorem take5_tree (c : Cs) (ua ug : Value) (n : Nat) (xs : List Value) (p : Pk) (m : Nat) (f : Nat → Nat → Value) (hst : c.st = 5) (hn : n = c.outs.length) (hck : CkPL p m f) :
    (canT 3 (runF Tryz.prog (CT Tryz.prog (CdFn.mk Tryz.f95 Tryz.f14 Tryz.f57 Tryz.f35 Tryz.f58 Tryz.f68 Tryz.f66 Tryz.f36 Tryz.f54 Tryz.f69 Tryz.f59 Tryz.f63 Tryz.f65 Tryz.f61)) noL Tryz.f25 (Tryz.f25.body.getD .skip) [.ptr 0 0, p.s (.ref 2)] [.own (csS c (.c (.int .i64 5)) (.v ua) (.v ug) (.ref 1)), .vec false 36 13 n xs, .row m 2 f])).ok (TakeQ c p ⟨m, opF f⟩ xs ua ug) := by
  rw [take5_run]
  obtain ⟨cl, st, iss, isr, gss, gsr, gar, sv, asks, greets, wa, le, tr, sy, li, outs⟩ := c
  simp only at hst hn
  subst hst
  subst hn
  dsimp only
  repeat' (first | (with_reducible refine t_need ?_ ?_) | (with_reducible refine t_ite ?_ ?_; all_goals intro h) | (with_reducible refine t_leaf ?_))
  · exact hck
  all_goals (try simp only [decide_eq_true_eq, decide_eq_false_iff_not, Bool.not_eq_true', Bool.not_eq_false'] at *)
  all_goals (try (exfalso; omega))
  all_goals first
    | (refine ⟨(Cs.mk cl 5 iss isr gss gsr gar sv asks greets wa le tr sy li outs), .no, _, ?_, rfl, _, _, _, _, _, _, _, _, _, _, _, _, _, _, _, _, _, _, rfl, fun B => rfl, rfl, q_same (c0 := (Cs.mk cl 5 iss isr gss gsr gar sv asks greets wa le tr sy li outs)) (c' := (Cs.mk cl 5 iss isr gss gsr gar sv asks greets wa le tr sy li outs)) rfl rfl⟩; simp [Cs.take, Cs.answered, *]; done)
    | (refine ⟨(Cs.fin (Cs.mk cl 5 iss isr gss gsr gar sv asks greets wa le tr sy li outs) 0), ⟨p.kind, p.seq, p.ack, false, true, false⟩, 0, ?_, rfl, _, _, _, _, _, _, _, _, _, _, _, _, _, _, _, _, _, _, rfl, fun B => rfl, rfl, q_same (c0 := (Cs.mk cl 5 iss isr gss gsr gar sv asks greets wa le tr sy li outs)) (c' := (Cs.fin (Cs.mk cl 5 iss isr gss gsr gar sv asks greets wa le tr sy li outs) 0)) rfl rfl⟩; simp [Cs.take, Cs.answered, Cs.fin, *]; done)
    | (refine ⟨(Cs.mk cl 2 (Circ.of iss) (Circ.of p.seq) (Circ.of gss) (Circ.of p.seq) p.ack sv asks greets 0 0 0 sy li outs), ⟨p.kind, p.seq, p.ack, false, false, false⟩, 0, ?_, rfl, _, _, _, _, _, _, _, _, _, _, _, _, _, _, _, _, _, _, rfl, fun B => rfl, rfl, q_same (c0 := (Cs.mk cl 5 iss isr gss gsr gar sv asks greets wa le tr sy li outs)) (c' := (Cs.mk cl 2 (Circ.of iss) (Circ.of p.seq) (Circ.of gss) (Circ.of p.seq) p.ack sv asks greets 0 0 0 sy li outs)) rfl rfl⟩; simp [Cs.take, Cs.answered, *]; done)
    | trace_state
set_option maxRecDepth 100000 in
theorem take1_tree (c : Cs) (ua ug : Value) (n : Nat) (xs : List Value) (p : Pk) (m : Nat) (f : Nat → Nat → Value) (hst : c.st = 1) (hn : n = c.outs.length) (hck : CkPL p m f) :
    (canT 3 (runF Tryz.prog (CT Tryz.prog (CdFn.mk Tryz.f95 Tryz.f14 Tryz.f57 Tryz.f35 Tryz.f58 Tryz.f68 Tryz.f66 Tryz.f36 Tryz.f54 Tryz.f69 Tryz.f59 Tryz.f63 Tryz.f65 Tryz.f61)) noL Tryz.f25 (Tryz.f25.body.getD .skip) [.ptr 0 0, p.s (.ref 2)] [.own (csS c (.c (.int .i64 1)) (.v ua) (.v ug) (.ref 1)), .vec false 36 13 n xs, .row m 2 f])).ok (TakeQ c p ⟨m, opF f⟩ xs ua ug) := by
  rw [take1_run]
  obtain ⟨cl, st, iss, isr, gss, gsr, gar, sv, asks, greets, wa, le, tr, sy, li, outs⟩ := c
  simp only at hst hn
  subst hst
  subst hn
  dsimp only
  repeat' (first | (with_reducible refine t_need ?_ ?_) | (with_reducible refine t_ite ?_ ?_; all_goals intro h) | (with_reducible refine t_leaf ?_))
  · exact hck
  all_goals (try simp only [decide_eq_true_eq, decide_eq_false_iff_not, Bool.not_eq_true', Bool.not_eq_false'] at *)
  all_goals (try (exfalso; omega))
  all_goals first
    | (refine ⟨(Cs.mk cl 1 iss isr gss gsr gar sv asks greets wa le tr sy li outs), .no, _, ?_, rfl, _, _, _, _, _, _, _, _, _, _, _, _, _, _, _, _, _, _, rfl, fun B => rfl, rfl, q_same (c0 := (Cs.mk cl 1 iss isr gss gsr gar sv asks greets wa le tr sy li outs)) (c' := (Cs.mk cl 1 iss isr gss gsr gar sv asks greets wa le tr sy li outs)) rfl rfl⟩; simp [Cs.take, Cs.answered, *]; done)
    | (refine ⟨(Cs.fin (Cs.mk cl 1 iss isr gss gsr gar sv asks greets wa le tr sy li outs) 0), ⟨p.kind, p.seq, p.ack, false, true, false⟩, 0, ?_, rfl, _, _, _, _, _, _, _, _, _, _, _, _, _, _, _, _, _, _, rfl, fun B => rfl, rfl, q_same (c0 := (Cs.mk cl 1 iss isr gss gsr gar sv asks greets wa le tr sy li outs)) (c' := (Cs.fin (Cs.mk cl 1 iss isr gss gsr gar sv asks greets wa le tr sy li outs) 0)) rfl rfl⟩; simp [Cs.take, Cs.answered, Cs.fin, *]; done)
    | (refine ⟨(Cs.mk cl 2 (Circ.of iss) (Circ.of p.seq) (Circ.of gss) (Circ.of p.seq) p.ack sv asks greets 0 0 0 sy li outs), ⟨p.kind, p.seq, p.ack, false, false, false⟩, 0, ?_, rfl, _, _, _, _, _, _, _, _, _, _, _, _, _, _, _, _, _, _, rfl, fun B => rfl, rfl, q_same (c0 := (Cs.mk cl 1 iss isr gss gsr gar sv asks greets wa le tr sy li outs)) (c' := (Cs.mk cl 2 (Circ.of iss) (Circ.of p.seq) (Circ.of gss) (Circ.of p.seq) p.ack sv asks greets 0 0 0 sy li outs)) rfl rfl⟩; simp [Cs.take, Cs.answered, *]; done)
    | trace_state
def RowTells (H' : List Blk) (i : Nat) (o : OL) : Prop := ∃ f' : Nat → Nat → Value, H'[i]? = some (.vec false 64 2 o.n (rowCells o.n 2 f')) ∧ ∀ a b, a < o.n → b < 2 → f' a b = (o.g a).c b
def QueG (c0 : Cs) (xs : List Value) (H' : List Blk) (j : Nat) (c' : Cs) : Prop :=
  (∃ n' xs', H'[j]? = some (.vec false 36 13 n' xs') ∧ n' = c'.outs.length ∧ xs' = xs ++ flatN (c'.outs.drop c0.outs.length) ∧ ∃ l : List QP, c'.outs = c0.outs ++ l ∧ ∀ q ∈ l, q.o = OL.nil) ∨
  (∃ (q : QP) (cells : List SV) (i : Nat), H'[j]? = some (.que 36 13 (c0.outs.length + 1) xs cells) ∧ c'.outs = c0.outs ++ [q] ∧ (∀ (B : List Value) (u : Value), B[i]? = some u → SV.tos B cells = some (q.p.l u)) ∧ RowTells H' i q.o)
def OffG (c0 : Cs) (xs : List Value) (ua ug : Value) (E : List Value → Prop) (H' : List Blk) (c' : Cs) : Prop :=
  ∃ (a0 a1 a2 a3 a4 a5 a6 a7 a8 a9 a10 a11 a12 a13 a14 : SV) (j : Nat), H'[0]? = some (.own [a0, a1, a2, a3, a4, a5, a6, a7, a8, a9, a10, a11, a12, a13, a14, .ref j]) ∧
    ((c'.greets = c0.greets ∧ ∀ B, E B → SV.tos B [a0, a1, a2, a3, a4, a5, a6, a7, a8, a9, a10, a11, a12, a13, a14] = some (csV15 c' ua ug)) ∨ ∃ i, (∀ (B : List Value) (u : Value), B[i]? = some u → SV.tos B [a0, a1, a2, a3, a4, a5, a6, a7, a8, a9, a10, a11, a12, a13, a14] = some (csV15 c' ua u)) ∧ RowTells H' i c'.greets) ∧ QueG c0 xs H' j c'
theorem all_oneD {m : Nat} {h : Nat → Nat → Value} (ha : AllOp m h) : allOneP (rowCells m 2 h) := by
  intro u hu
  obtain ⟨k, hk, e⟩ := List.getElem_of_mem hu
  obtain ⟨h1, h2, h3⟩ := rowCells_get _ _ _ (e ▸ List.getElem?_eq_getElem hk)
  rw [h3, ha _ h1 _ h2]
  generalize k % 2 = j at *
  match j, h2 with
  | 0, _ => rfl
  | 1, _ => rfl
theorem rowCells_atD {n : Nat} (f : Nat → Nat → Value) {i j : Nat} (hi : i < n) (hj : j < 2) : cellAt (rowCells n 2 f) (i * 2 + j) = f i j := by
  have hlt : i * 2 + j < (rowCells n 2 f).length := by rw [rowCells_length]; omega
  have h := List.getElem?_eq_getElem hlt
  obtain ⟨-, -, e⟩ := rowCells_get _ _ _ h
  show (rowCells n 2 f).getD (i * 2 + j) undef = _
  rw [List.getD_eq_getElem?_getD, h, e, Option.getD_some, show (i * 2 + j) / 2 = i by omega, show (i * 2 + j) % 2 = j by omega]
theorem allOp_copy {m : Nat} {f : Nat → Nat → Value} (ha : AllOp m f) : AllOp m fun i j => cellAt (rowCells m 2 f) (i * 2 + j) := by
  intro i hi j hj
  have e : opF (fun i j => cellAt (rowCells m 2 f) (i * 2 + j)) i = opF f i := by
    show (⟨intV (cellAt (rowCells m 2 f) (i * 2 + 0)), strV (cellAt (rowCells m 2 f) (i * 2 + 1))⟩ : Op) = ⟨intV (f i 0), strV (f i 1)⟩
    rw [rowCells_atD f hi (show 0 < 2 by decide), rowCells_atD f hi (show 1 < 2 by decide)]
  rw [e]
  show cellAt (rowCells m 2 f) (i * 2 + j) = _
  rw [rowCells_atD f hi hj]
  exact ha i hi j hj
theorem tells_f {H' : List Blk} {i m : Nat} {f : Nat → Nat → Value} (ha : AllOp m f) (h : H'[i]? = some (.vec false 64 2 m (rowCells m 2 f))) : RowTells H' i ⟨m, opF f⟩ := ⟨f, h, fun a b h1 h2 => ha a h1 b h2⟩
theorem tells_g {H' : List Blk} {i m : Nat} {f : Nat → Nat → Value} (ha : AllOp m f) (h : H'[i]? = some (.vec false 64 2 m (rowCells m 2 fun i j => cellAt (rowCells m 2 f) (i * 2 + j)))) : RowTells H' i ⟨m, opF f⟩ :=
  ⟨_, h, fun a b h1 h2 => by show cellAt (rowCells m 2 f) (a * 2 + b) = _; rw [rowCells_atD f h1 h2]; exact ha a h1 b h2⟩
theorem que_same {c0 c' : Cs} {xs : List Value} {H' : List Blk} {j n : Nat} (h : H'[j]? = some (.vec false 36 13 n xs)) (ho : c'.outs = c0.outs) (hn : n = c0.outs.length) : QueG c0 xs H' j c' := .inl ⟨n, xs, h, (q_same (xs := xs) ho hn).1, (q_same ho hn).2, [], by rw [List.append_nil]; exact ho, fun q hq => by cases hq⟩
theorem send_full {c : Cs} {k : Int} {o : OL} {d : ByteArray} {ack cd cc : Int} (h : ¬ c.outs.length < 50) : (c.send k o d ack cd cc).outs = c.outs := if_neg h
theorem send_room {c : Cs} {k : Int} {o : OL} {d : ByteArray} {ack cd cc : Int} (h : c.outs.length < 50) : (c.send k o d ack cd cc).outs = c.outs ++ [⟨c.pkt k d ack cd cc, o⟩] := if_pos h
theorem ratio_eq (ra : Int) : (if 15 < if 0 > ra then 0 else ra then 15 else if 0 > ra then 0 else ra) = min (max ra 0) 15 := by
  split <;> split at * <;> omega
def ErrG (s : Cs × Int) (c : Cs) (xs : List Value) (ua ug : Value) (E : List Value → Prop) (r : SV × List Blk) : Prop := ∃ c' e, s = (c', e) ∧ r.1.to [] = some (.int .i64 e) ∧ OffG c xs ua ug E r.2 c'
def SayG (s : Cs × Int × Int) (c : Cs) (xs : List Value) (ua ug : Value) (E : List Value → Prop) (r : SV × List Blk) : Prop := ∃ c' n e, s = (c', n, e) ∧ r.1.to [] = some (.tuple #[.int .i64 n, .int .i64 e]) ∧ OffG c xs ua ug E r.2 c'
set_option maxRecDepth 100000 in
theorem greet2_tree (c : Cs) (ua ug : Value) (n : Nat) (xs : List Value) (m : Nat) (f : Nat → Nat → Value) (hst : c.st = 2) (hn : n = c.outs.length) (hop : OpP m f) :
    (canT 3 (runF Tryz.prog (CU Tryz.prog (CdFn.mk Tryz.f95 Tryz.f14 Tryz.f57 Tryz.f35 Tryz.f58 Tryz.f68 Tryz.f66 Tryz.f36 Tryz.f54 Tryz.f69 Tryz.f59 Tryz.f63 Tryz.f65 Tryz.f61)) noL Tryz.f22 (Tryz.f22.body.getD .skip) [.ptr 0 0, .ref 2] [.own (csS c (.c (.int .i64 2)) (.v ua) (.v ug) (.ref 1)), .vec false 36 13 n xs, .row m 2 f])).ok (ErrG (c.greet ⟨m, opF f⟩) c xs ua ug (fun _ => True)) := by
  rw [greet2_run]
  obtain ⟨cl, st, iss, isr, gss, gsr, gar, sv, asks, greets, wa, le, tr, sy, li, outs⟩ := c
  simp only at hst hn
  subst hst
  subst hn
  dsimp only
  have hm : m ≤ 1000 := hop.2.1
  have h24 : m * 24 ≤ 140737488355328 := by omega
  have h1p := all_oneD hop.1
  have h2p := all_oneD (allOp_copy hop.1)
  obtain ⟨rr, hr0⟩ : ∃ r, (Cs.mk cl 2 iss isr gss gsr gar sv asks greets wa le tr sy li outs).greet ⟨m, opF f⟩ = r := ⟨_, rfl⟩
  have hT := hr0
  unfold Cs.greet at hT
  rw [if_pos rfl] at hT
  refine t_need hop (t_ite (fun h => t_leaf ?_) fun h => ?_)
  · rw [if_neg (by simpa using h)] at hT
    exact ⟨(Cs.mk cl 2 iss isr gss gsr gar sv asks greets wa le tr sy li outs), _, hr0.trans hT.symm, rfl, _, _, _, _, _, _, _, _, _, _, _, _, _, _, _, 1, rfl, .inl ⟨rfl, fun B _ => rfl⟩, que_same rfl rfl rfl⟩
  · rw [if_pos (by simpa using h)] at hT
    have hT2 : (Cs.wait (Cs.send (Cs.mk cl 2 iss isr gss gsr gar sv asks ⟨m, opF f⟩ wa le tr sy li outs) 3 ⟨m, opF f⟩ Cs.emp gsr 0 0), (0 : Int)) = rr := hT
    refine t_need h24 (t_need h1p (t_need h24 (t_need h2p (t_ite (fun h' => ?_) fun h' => t_leaf ?_))))
    · have hlt : outs.length < 50 := by simp only [decide_eq_true_eq] at h'; omega
      refine t_need ⟨by omega, by omega⟩ (t_need ?_ (t_need ?_ (t_leaf ?_)))
      · exact allOne_cons' rfl allOne_nil'
      · exact allOne_cons' rfl allOne_nil'
      · refine ⟨Cs.wait (Cs.send (Cs.mk cl 2 iss isr gss gsr gar sv asks ⟨m, opF f⟩ wa le tr sy li outs) 3 ⟨m, opF f⟩ Cs.emp gsr 0 0), 0, hr0.trans hT2.symm, rfl, _, _, _, _, _, _, _, _, _, _, _, _, _, _, _, _, rfl, .inr ⟨3, fun B u hu => ?_, tells_f hop.1 rfl⟩, .inr ⟨_, _, 5, rfl, send_room hlt, fun B u hu => ?_, tells_g hop.1 rfl⟩⟩
        · simp only [SV.tos, SV.to, hu]; rfl
        · simp only [SV.tos, SV.to, hu]; rfl
    · have hlt : ¬ outs.length < 50 := by simp only [decide_eq_false_iff_not] at h'; omega
      refine ⟨Cs.wait (Cs.send (Cs.mk cl 2 iss isr gss gsr gar sv asks ⟨m, opF f⟩ wa le tr sy li outs) 3 ⟨m, opF f⟩ Cs.emp gsr 0 0), 0, hr0.trans hT2.symm, rfl, _, _, _, _, _, _, _, _, _, _, _, _, _, _, _, _, rfl, .inr ⟨3, fun B u hu => ?_, tells_f hop.1 rfl⟩, que_same rfl (send_full hlt) rfl⟩
      simp only [SV.tos, SV.to, hu]; rfl
set_option maxRecDepth 100000 in
theorem say3_2_tree (c : Cs) (ua ug : Value) (n : Nat) (xs : List Value) (m : Nat) (f : Nat → Nat → Value) (d : ByteArray) (ra : Int) (hst : c.st = 3) (hn : n = c.outs.length) (hop : OpP m f) :
    (canT 3 (runF Tryz.prog (CU Tryz.prog (CdFn.mk Tryz.f95 Tryz.f14 Tryz.f57 Tryz.f35 Tryz.f58 Tryz.f68 Tryz.f66 Tryz.f36 Tryz.f54 Tryz.f69 Tryz.f59 Tryz.f63 Tryz.f65 Tryz.f61)) noL Tryz.f26 (Tryz.f26.body.getD .skip) [.ptr 0 0, .c (.int .i64 2), .ref 2, .v (.string d), .v (.int .i64 ra)] [.own (csS c (.c (.int .i64 3)) (.v ua) (.v ug) (.ref 1)), .vec false 36 13 n xs, .row m 2 f])).ok (SayG (c.sayP 2 ⟨m, opF f⟩ d ra) c xs ua ug (fun _ => True)) := by
  rw [say3_2_run]
  obtain ⟨cl, st, iss, isr, gss, gsr, gar, sv, asks, greets, wa, le, tr, sy, li, outs⟩ := c
  simp only at hst hn
  subst hst
  subst hn
  dsimp only
  have hm : m ≤ 1000 := hop.2.1
  have h24 : m * 24 ≤ 140737488355328 := by omega
  have h1p := all_oneD hop.1
  have h2p := all_oneD (allOp_copy hop.1)
  have hra := ratio_eq ra
  generalize (if 15 < if 0 > ra then 0 else ra then 15 else if 0 > ra then 0 else ra) = rt at hra ⊢
  subst hra
  obtain ⟨rr, hr0⟩ : ∃ r, (Cs.mk cl 3 iss isr gss gsr gar sv asks greets wa le tr sy li outs).sayP 2 ⟨m, opF f⟩ d ra = r := ⟨_, rfl⟩
  have hT := hr0
  have hO : Cs.sayO (Cs.mk cl 3 iss isr gss gsr gar sv asks greets wa le tr sy li outs) ⟨m, opF f⟩ = ⟨m, opF f⟩ := if_neg (by show ¬ (3 : Int) = 2; decide)
  have hM : Cs.mayK (Cs.mk cl 3 iss isr gss gsr gar sv asks greets wa le tr sy li outs) 2 = 0 := by unfold Cs.mayK; rw [if_neg (by decide), if_pos (.inl rfl)]
  have hE : Cs.sayE (Cs.mk cl 3 iss isr gss gsr gar sv asks greets wa le tr sy li outs) 2 ⟨m, opF f⟩ d = if ¬ chkO m (opF f) = 0 then chkO m (opF f) else if d.size > 200 then 11 else if (2 : Int) = 3 ∧ ¬ d.size = 0 then 4 else 0 := by
    unfold Cs.sayE
    rw [hM, hO, if_neg (by decide)]
  unfold Cs.sayP at hT
  rw [hO] at hT
  have big : ((d.size : Int) > 200) ↔ d.size > 200 := by omega
  have emp : d = ByteArray.mk (Array.mk []) ↔ d.size = 0 := ba_empty d
  have hs : ∀ e, ¬ e = 0 → ((Cs.mk cl 3 iss isr gss gsr gar sv asks greets wa le tr sy li outs), (0 : Int), e) = rr → SayG ((Cs.mk cl 3 iss isr gss gsr gar sv asks greets wa le tr sy li outs).sayP 2 ⟨m, opF f⟩ d ra) (Cs.mk cl 3 iss isr gss gsr gar sv asks greets wa le tr sy li outs) xs ua ug (fun _ => True) (.v (.tuple #[.int .i64 0, .int .i64 e]), [.own [.v (.bool cl), .c (.int .i64 3), .v (.int .i64 iss), .v (.int .i64 isr), .v (.int .i64 gss), .v (.int .i64 gsr), .v (.int .i64 gar), .v (.int .i64 sv), .v ua, .v ug, .v (.int .i64 wa), .v (.int .i64 le), .v (.int .i64 tr), .v (.bool sy), .v (.int .i64 li), .ref 1], .vec false 36 13 outs.length xs, .row m 2 f]) := fun e _ he => ⟨(Cs.mk cl 3 iss isr gss gsr gar sv asks greets wa le tr sy li outs), 0, e, hr0.trans he.symm, rfl, _, _, _, _, _, _, _, _, _, _, _, _, _, _, _, 1, rfl, .inl ⟨rfl, fun B _ => rfl⟩, que_same rfl rfl rfl⟩
  refine t_need hop (t_ite (fun h => t_leaf ?_) fun h => ?_)
  · have h0 : ¬ chkO m (opF f) = 0 := by simpa using h
    have hv : Cs.sayE (Cs.mk cl 3 iss isr gss gsr gar sv asks greets wa le tr sy li outs) 2 ⟨m, opF f⟩ d = chkO m (opF f) := by rw [hE, if_pos h0]
    rw [if_neg (by rw [hv]; exact h0), hv] at hT
    exact hs _ h0 hT
  have h0 : chkO m (opF f) = 0 := by simpa using h
  have hE1 : Cs.sayE (Cs.mk cl 3 iss isr gss gsr gar sv asks greets wa le tr sy li outs) 2 ⟨m, opF f⟩ d = if d.size > 200 then 11 else if (2 : Int) = 3 ∧ ¬ d.size = 0 then 4 else 0 := by rw [hE, if_neg (fun e => e h0)]
  refine t_ite (fun h => t_leaf ?_) fun h => ?_
  · have hb : d.size > 200 := big.1 (by simpa using h)
    have hv : Cs.sayE (Cs.mk cl 3 iss isr gss gsr gar sv asks greets wa le tr sy li outs) 2 ⟨m, opF f⟩ d = 11 := by rw [hE1, if_pos hb]
    rw [if_neg (by rw [hv]; decide), hv] at hT
    exact hs 11 (by decide) hT
  have hb : ¬ d.size > 200 := fun e => by simp only [decide_eq_false_iff_not] at h; exact h (big.2 e)
  have hv : Cs.sayE (Cs.mk cl 3 iss isr gss gsr gar sv asks greets wa le tr sy li outs) 2 ⟨m, opF f⟩ d = 0 := by rw [hE1, if_neg hb, if_neg (fun e => absurd e.1 (by decide))]
  rw [if_pos hv] at hT
  refine t_need h24 (t_need h1p (t_need h24 (t_need h2p (t_ite (fun h' => ?_) fun h' => t_leaf ?_))))
  · have hlt : outs.length < 50 := by simp only [decide_eq_true_eq] at h'; omega
    repeat' (first | (with_reducible refine t_need ?_ ?_) | (with_reducible refine t_leaf ?_))
    all_goals first
      | (refine ⟨?_, ?_⟩ <;> omega)
      | (exact allOne_cons' rfl allOne_nil')
      | skip
    refine ⟨(Cs.send (Cs.mk cl 3 iss isr gss gsr gar sv asks greets wa le tr sy li outs) 2 ⟨m, opF f⟩ d gsr 0 (min (max ra 0) 15)), _, _, hr0.trans hT.symm, rfl, _, _, _, _, _, _, _, _, _, _, _, _, _, _, _, _, rfl, .inl ⟨rfl, fun B _ => rfl⟩, .inr ⟨_, _, 4, rfl, send_room hlt, fun B u hu => ?_, tells_g hop.1 rfl⟩⟩
    simp only [SV.tos, SV.to, hu]; rfl
  · have hlt : ¬ outs.length < 50 := by simp only [decide_eq_false_iff_not] at h'; omega
    exact ⟨(Cs.send (Cs.mk cl 3 iss isr gss gsr gar sv asks greets wa le tr sy li outs) 2 ⟨m, opF f⟩ d gsr 0 (min (max ra 0) 15)), _, _, hr0.trans hT.symm, rfl, _, _, _, _, _, _, _, _, _, _, _, _, _, _, _, _, rfl, .inl ⟨rfl, fun B _ => rfl⟩, que_same rfl (send_full hlt) rfl⟩
set_option maxRecDepth 100000 in
theorem say3_3_tree (c : Cs) (ua ug : Value) (n : Nat) (xs : List Value) (m : Nat) (f : Nat → Nat → Value) (d : ByteArray) (ra : Int) (hst : c.st = 3) (hn : n = c.outs.length) (hop : OpP m f) :
    (canT 3 (runF Tryz.prog (CU Tryz.prog (CdFn.mk Tryz.f95 Tryz.f14 Tryz.f57 Tryz.f35 Tryz.f58 Tryz.f68 Tryz.f66 Tryz.f36 Tryz.f54 Tryz.f69 Tryz.f59 Tryz.f63 Tryz.f65 Tryz.f61)) noL Tryz.f26 (Tryz.f26.body.getD .skip) [.ptr 0 0, .c (.int .i64 3), .ref 2, .v (.string d), .v (.int .i64 ra)] [.own (csS c (.c (.int .i64 3)) (.v ua) (.v ug) (.ref 1)), .vec false 36 13 n xs, .row m 2 f])).ok (SayG (c.sayP 3 ⟨m, opF f⟩ d ra) c xs ua ug (fun _ => True)) := by
  rw [say3_3_run]
  obtain ⟨cl, st, iss, isr, gss, gsr, gar, sv, asks, greets, wa, le, tr, sy, li, outs⟩ := c
  simp only at hst hn
  subst hst
  subst hn
  dsimp only
  have hm : m ≤ 1000 := hop.2.1
  have h24 : m * 24 ≤ 140737488355328 := by omega
  have h1p := all_oneD hop.1
  have h2p := all_oneD (allOp_copy hop.1)
  have hra := ratio_eq ra
  generalize (if 15 < if 0 > ra then 0 else ra then 15 else if 0 > ra then 0 else ra) = rt at hra ⊢
  subst hra
  obtain ⟨rr, hr0⟩ : ∃ r, (Cs.mk cl 3 iss isr gss gsr gar sv asks greets wa le tr sy li outs).sayP 3 ⟨m, opF f⟩ d ra = r := ⟨_, rfl⟩
  have hT := hr0
  have hO : Cs.sayO (Cs.mk cl 3 iss isr gss gsr gar sv asks greets wa le tr sy li outs) ⟨m, opF f⟩ = ⟨m, opF f⟩ := if_neg (by show ¬ (3 : Int) = 2; decide)
  have hM : Cs.mayK (Cs.mk cl 3 iss isr gss gsr gar sv asks greets wa le tr sy li outs) 3 = 0 := by unfold Cs.mayK; rw [if_neg (by decide), if_pos (.inl rfl)]
  have hE : Cs.sayE (Cs.mk cl 3 iss isr gss gsr gar sv asks greets wa le tr sy li outs) 3 ⟨m, opF f⟩ d = if ¬ chkO m (opF f) = 0 then chkO m (opF f) else if d.size > 200 then 11 else if (3 : Int) = 3 ∧ ¬ d.size = 0 then 4 else 0 := by
    unfold Cs.sayE
    rw [hM, hO, if_neg (by decide)]
  unfold Cs.sayP at hT
  rw [hO] at hT
  have big : ((d.size : Int) > 200) ↔ d.size > 200 := by omega
  have emp : d = ByteArray.mk (Array.mk []) ↔ d.size = 0 := ba_empty d
  have hs : ∀ e, ¬ e = 0 → ((Cs.mk cl 3 iss isr gss gsr gar sv asks greets wa le tr sy li outs), (0 : Int), e) = rr → SayG ((Cs.mk cl 3 iss isr gss gsr gar sv asks greets wa le tr sy li outs).sayP 3 ⟨m, opF f⟩ d ra) (Cs.mk cl 3 iss isr gss gsr gar sv asks greets wa le tr sy li outs) xs ua ug (fun _ => True) (.v (.tuple #[.int .i64 0, .int .i64 e]), [.own [.v (.bool cl), .c (.int .i64 3), .v (.int .i64 iss), .v (.int .i64 isr), .v (.int .i64 gss), .v (.int .i64 gsr), .v (.int .i64 gar), .v (.int .i64 sv), .v ua, .v ug, .v (.int .i64 wa), .v (.int .i64 le), .v (.int .i64 tr), .v (.bool sy), .v (.int .i64 li), .ref 1], .vec false 36 13 outs.length xs, .row m 2 f]) := fun e _ he => ⟨(Cs.mk cl 3 iss isr gss gsr gar sv asks greets wa le tr sy li outs), 0, e, hr0.trans he.symm, rfl, _, _, _, _, _, _, _, _, _, _, _, _, _, _, _, 1, rfl, .inl ⟨rfl, fun B _ => rfl⟩, que_same rfl rfl rfl⟩
  refine t_need hop (t_ite (fun h => t_leaf ?_) fun h => ?_)
  · have h0 : ¬ chkO m (opF f) = 0 := by simpa using h
    have hv : Cs.sayE (Cs.mk cl 3 iss isr gss gsr gar sv asks greets wa le tr sy li outs) 3 ⟨m, opF f⟩ d = chkO m (opF f) := by rw [hE, if_pos h0]
    rw [if_neg (by rw [hv]; exact h0), hv] at hT
    exact hs _ h0 hT
  have h0 : chkO m (opF f) = 0 := by simpa using h
  have hE1 : Cs.sayE (Cs.mk cl 3 iss isr gss gsr gar sv asks greets wa le tr sy li outs) 3 ⟨m, opF f⟩ d = if d.size > 200 then 11 else if (3 : Int) = 3 ∧ ¬ d.size = 0 then 4 else 0 := by rw [hE, if_neg (fun e => e h0)]
  refine t_ite (fun h => t_leaf ?_) fun h => ?_
  · have hb : d.size > 200 := big.1 (by simpa using h)
    have hv : Cs.sayE (Cs.mk cl 3 iss isr gss gsr gar sv asks greets wa le tr sy li outs) 3 ⟨m, opF f⟩ d = 11 := by rw [hE1, if_pos hb]
    rw [if_neg (by rw [hv]; decide), hv] at hT
    exact hs 11 (by decide) hT
  have hb : ¬ d.size > 200 := fun e => by simp only [decide_eq_false_iff_not] at h; exact h (big.2 e)
  refine t_ite (fun h => t_leaf ?_) fun h => ?_
  · have hd : ¬ d.size = 0 := fun e => by simp [emp.2 e] at h
    have hv : Cs.sayE (Cs.mk cl 3 iss isr gss gsr gar sv asks greets wa le tr sy li outs) 3 ⟨m, opF f⟩ d = 4 := by rw [hE1, if_neg hb, if_pos ⟨rfl, hd⟩]
    rw [if_neg (by rw [hv]; decide), hv] at hT
    exact hs 4 (by decide) hT
  have hd : d.size = 0 := emp.1 (by simpa using h)
  have hv : Cs.sayE (Cs.mk cl 3 iss isr gss gsr gar sv asks greets wa le tr sy li outs) 3 ⟨m, opF f⟩ d = 0 := by rw [hE1, if_neg hb, if_neg (fun e => e.2 hd)]
  rw [if_pos hv] at hT
  refine t_need h24 (t_need h1p (t_need h24 (t_need h2p (t_ite (fun h' => ?_) fun h' => t_leaf ?_))))
  · have hlt : outs.length < 50 := by simp only [decide_eq_true_eq] at h'; omega
    repeat' (first | (with_reducible refine t_need ?_ ?_) | (with_reducible refine t_leaf ?_))
    all_goals first
      | (refine ⟨?_, ?_⟩ <;> omega)
      | (exact allOne_cons' rfl allOne_nil')
      | skip
    refine ⟨(Cs.send (Cs.mk cl 3 iss isr gss gsr gar sv asks greets wa le tr sy li outs) 3 ⟨m, opF f⟩ d gsr 0 (min (max ra 0) 15)), _, _, hr0.trans hT.symm, rfl, _, _, _, _, _, _, _, _, _, _, _, _, _, _, _, _, rfl, .inl ⟨rfl, fun B _ => rfl⟩, .inr ⟨_, _, 4, rfl, send_room hlt, fun B u hu => ?_, tells_g hop.1 rfl⟩⟩
    simp only [SV.tos, SV.to, hu]; rfl
  · have hlt : ¬ outs.length < 50 := by simp only [decide_eq_false_iff_not] at h'; omega
    exact ⟨(Cs.send (Cs.mk cl 3 iss isr gss gsr gar sv asks greets wa le tr sy li outs) 3 ⟨m, opF f⟩ d gsr 0 (min (max ra 0) 15)), _, _, hr0.trans hT.symm, rfl, _, _, _, _, _, _, _, _, _, _, _, _, _, _, _, _, rfl, .inl ⟨rfl, fun B _ => rfl⟩, que_same rfl (send_full hlt) rfl⟩
set_option maxRecDepth 100000 in
theorem say3_4_tree (c : Cs) (ua ug : Value) (n : Nat) (xs : List Value) (m : Nat) (f : Nat → Nat → Value) (d : ByteArray) (ra : Int) (hst : c.st = 3) (hn : n = c.outs.length) (hop : OpP m f) :
    (canT 3 (runF Tryz.prog (CU Tryz.prog (CdFn.mk Tryz.f95 Tryz.f14 Tryz.f57 Tryz.f35 Tryz.f58 Tryz.f68 Tryz.f66 Tryz.f36 Tryz.f54 Tryz.f69 Tryz.f59 Tryz.f63 Tryz.f65 Tryz.f61)) noL Tryz.f26 (Tryz.f26.body.getD .skip) [.ptr 0 0, .c (.int .i64 4), .ref 2, .v (.string d), .v (.int .i64 ra)] [.own (csS c (.c (.int .i64 3)) (.v ua) (.v ug) (.ref 1)), .vec false 36 13 n xs, .row m 2 f])).ok (SayG (c.sayP 4 ⟨m, opF f⟩ d ra) c xs ua ug (fun _ => True)) := by
  rw [say3_4_run]
  obtain ⟨cl, st, iss, isr, gss, gsr, gar, sv, asks, greets, wa, le, tr, sy, li, outs⟩ := c
  simp only at hst hn
  subst hst
  subst hn
  dsimp only
  have hm : m ≤ 1000 := hop.2.1
  have h24 : m * 24 ≤ 140737488355328 := by omega
  have h1p := all_oneD hop.1
  have h2p := all_oneD (allOp_copy hop.1)
  have hra := ratio_eq ra
  generalize (if 15 < if 0 > ra then 0 else ra then 15 else if 0 > ra then 0 else ra) = rt at hra ⊢
  subst hra
  obtain ⟨rr, hr0⟩ : ∃ r, (Cs.mk cl 3 iss isr gss gsr gar sv asks greets wa le tr sy li outs).sayP 4 ⟨m, opF f⟩ d ra = r := ⟨_, rfl⟩
  have hT := hr0
  have hO : Cs.sayO (Cs.mk cl 3 iss isr gss gsr gar sv asks greets wa le tr sy li outs) ⟨m, opF f⟩ = ⟨m, opF f⟩ := if_neg (by show ¬ (3 : Int) = 2; decide)
  have hM : Cs.mayK (Cs.mk cl 3 iss isr gss gsr gar sv asks greets wa le tr sy li outs) 4 = 0 := by unfold Cs.mayK; rw [if_neg (by decide), if_pos (.inl rfl)]
  have hE : Cs.sayE (Cs.mk cl 3 iss isr gss gsr gar sv asks greets wa le tr sy li outs) 4 ⟨m, opF f⟩ d = if ¬ chkO m (opF f) = 0 then chkO m (opF f) else if d.size > 200 then 11 else if (4 : Int) = 3 ∧ ¬ d.size = 0 then 4 else 0 := by
    unfold Cs.sayE
    rw [hM, hO, if_neg (by decide)]
  unfold Cs.sayP at hT
  rw [hO] at hT
  have big : ((d.size : Int) > 200) ↔ d.size > 200 := by omega
  have emp : d = ByteArray.mk (Array.mk []) ↔ d.size = 0 := ba_empty d
  have hs : ∀ e, ¬ e = 0 → ((Cs.mk cl 3 iss isr gss gsr gar sv asks greets wa le tr sy li outs), (0 : Int), e) = rr → SayG ((Cs.mk cl 3 iss isr gss gsr gar sv asks greets wa le tr sy li outs).sayP 4 ⟨m, opF f⟩ d ra) (Cs.mk cl 3 iss isr gss gsr gar sv asks greets wa le tr sy li outs) xs ua ug (fun _ => True) (.v (.tuple #[.int .i64 0, .int .i64 e]), [.own [.v (.bool cl), .c (.int .i64 3), .v (.int .i64 iss), .v (.int .i64 isr), .v (.int .i64 gss), .v (.int .i64 gsr), .v (.int .i64 gar), .v (.int .i64 sv), .v ua, .v ug, .v (.int .i64 wa), .v (.int .i64 le), .v (.int .i64 tr), .v (.bool sy), .v (.int .i64 li), .ref 1], .vec false 36 13 outs.length xs, .row m 2 f]) := fun e _ he => ⟨(Cs.mk cl 3 iss isr gss gsr gar sv asks greets wa le tr sy li outs), 0, e, hr0.trans he.symm, rfl, _, _, _, _, _, _, _, _, _, _, _, _, _, _, _, 1, rfl, .inl ⟨rfl, fun B _ => rfl⟩, que_same rfl rfl rfl⟩
  refine t_need hop (t_ite (fun h => t_leaf ?_) fun h => ?_)
  · have h0 : ¬ chkO m (opF f) = 0 := by simpa using h
    have hv : Cs.sayE (Cs.mk cl 3 iss isr gss gsr gar sv asks greets wa le tr sy li outs) 4 ⟨m, opF f⟩ d = chkO m (opF f) := by rw [hE, if_pos h0]
    rw [if_neg (by rw [hv]; exact h0), hv] at hT
    exact hs _ h0 hT
  have h0 : chkO m (opF f) = 0 := by simpa using h
  have hE1 : Cs.sayE (Cs.mk cl 3 iss isr gss gsr gar sv asks greets wa le tr sy li outs) 4 ⟨m, opF f⟩ d = if d.size > 200 then 11 else if (4 : Int) = 3 ∧ ¬ d.size = 0 then 4 else 0 := by rw [hE, if_neg (fun e => e h0)]
  refine t_ite (fun h => t_leaf ?_) fun h => ?_
  · have hb : d.size > 200 := big.1 (by simpa using h)
    have hv : Cs.sayE (Cs.mk cl 3 iss isr gss gsr gar sv asks greets wa le tr sy li outs) 4 ⟨m, opF f⟩ d = 11 := by rw [hE1, if_pos hb]
    rw [if_neg (by rw [hv]; decide), hv] at hT
    exact hs 11 (by decide) hT
  have hb : ¬ d.size > 200 := fun e => by simp only [decide_eq_false_iff_not] at h; exact h (big.2 e)
  have hv : Cs.sayE (Cs.mk cl 3 iss isr gss gsr gar sv asks greets wa le tr sy li outs) 4 ⟨m, opF f⟩ d = 0 := by rw [hE1, if_neg hb, if_neg (fun e => absurd e.1 (by decide))]
  rw [if_pos hv] at hT
  refine t_need h24 (t_need h1p (t_need h24 (t_need h2p (t_ite (fun h' => ?_) fun h' => t_leaf ?_))))
  · have hlt : outs.length < 50 := by simp only [decide_eq_true_eq] at h'; omega
    repeat' (first | (with_reducible refine t_need ?_ ?_) | (with_reducible refine t_leaf ?_))
    all_goals first
      | (refine ⟨?_, ?_⟩ <;> omega)
      | (exact allOne_cons' rfl allOne_nil')
      | skip
    refine ⟨(Cs.send (Cs.mk cl 3 iss isr gss gsr gar sv asks greets wa le tr sy li outs) 4 ⟨m, opF f⟩ d gsr 0 (min (max ra 0) 15)), _, _, hr0.trans hT.symm, rfl, _, _, _, _, _, _, _, _, _, _, _, _, _, _, _, _, rfl, .inl ⟨rfl, fun B _ => rfl⟩, .inr ⟨_, _, 4, rfl, send_room hlt, fun B u hu => ?_, tells_g hop.1 rfl⟩⟩
    simp only [SV.tos, SV.to, hu]; rfl
  · have hlt : ¬ outs.length < 50 := by simp only [decide_eq_false_iff_not] at h'; omega
    exact ⟨(Cs.send (Cs.mk cl 3 iss isr gss gsr gar sv asks greets wa le tr sy li outs) 4 ⟨m, opF f⟩ d gsr 0 (min (max ra 0) 15)), _, _, hr0.trans hT.symm, rfl, _, _, _, _, _, _, _, _, _, _, _, _, _, _, _, _, rfl, .inl ⟨rfl, fun B _ => rfl⟩, que_same rfl (send_full hlt) rfl⟩
def TickG (c : Cs) (xs : List Value) (ua ug : Value) (E : List Value → Prop) (r : SV × List Blk) : Prop := ∃ c' b, c.tick = (c', b) ∧ r.1.to [] = some (.bool b) ∧ OffG c xs ua ug E r.2 c'
set_option maxHeartbeats 1000000 in
set_option maxRecDepth 100000 in
theorem tick1_tree (c : Cs) (ua ug : Value) (n : Nat) (xs : List Value) (m : Nat) (f : Nat → Nat → Value) (hst : c.st = 1) (hn : n = c.outs.length) (hw : WaitOk c.wa c.le c.tr) (hop : OpP m f) (ho : c.asks = ⟨m, opF f⟩) :
    (canT 3 (runF Tryz.prog (CU Tryz.prog (CdFn.mk Tryz.f95 Tryz.f14 Tryz.f57 Tryz.f35 Tryz.f58 Tryz.f68 Tryz.f66 Tryz.f36 Tryz.f54 Tryz.f69 Tryz.f59 Tryz.f63 Tryz.f65 Tryz.f61)) noL Tryz.f24 (Tryz.f24.body.getD .skip) [.ptr 0 0] [.own (csS c (.c (.int .i64 1)) (.ref 2) (.v ug) (.ref 1)), .vec false 36 13 n xs, .row m 2 f])).ok (TickG c xs ua ug (fun B => B[2]? = some ua)) := by
  rw [tick1_run c ua ug n xs m f]
  obtain ⟨cl, st, iss, isr, gss, gsr, gar, sv, asks, greets, wa, le, tr, sy, li, outs⟩ := c
  simp only at hst hn ho
  subst hst
  subst hn
  subst ho
  dsimp only at hw ⊢
  have hm : m ≤ 1000 := hop.2.1
  have h24 : m * 24 ≤ 140737488355328 := by omega
  have h1p := all_oneD hop.1
  have hcell : ∀ (B : List Value), B[2]? = some ua → (SV.ref 2).to B = some ua := fun B h => h
  obtain ⟨rr, hr0⟩ : ∃ r, (Cs.mk cl 1 iss isr gss gsr gar sv ⟨m, opF f⟩ greets wa le tr sy li outs).tick = r := ⟨_, rfl⟩
  have hT := hr0
  unfold Cs.tick at hT
  rw [if_neg (by show ¬ (1 : Int) = 5; decide)] at hT
  dsimp only at hT
  by_cases hz : wa = 0
  · obtain ⟨e1, e2, e3, e4, e5⟩ := ag_none hw hz
    rw [if_pos hz] at hT
    simp only [e1, e2, e3, e4, e5]
    refine t_ite (fun h => by cases h) fun _ => t_ite (fun h => by cases h) fun _ => t_leaf ?_
    exact ⟨(Cs.mk cl 1 iss isr gss gsr gar sv ⟨m, opF f⟩ greets wa le tr false li outs), false, hr0.trans hT.symm, rfl, _, _, _, _, _, _, _, _, _, _, _, _, _, _, _, _, rfl, .inl ⟨rfl, fun B hB => by simp only [SV.tos, SV.to, hB]; rfl⟩, que_same rfl rfl rfl⟩
  rw [if_neg hz] at hT
  by_cases hl : 0 < le - 1
  · obtain ⟨e1, e2, e3, e4, e5⟩ := ag_left hw hz hl
    rw [if_pos hl] at hT
    simp only [e1, e2, e3, e4, e5]
    refine t_ite (fun h => by cases h) fun _ => t_ite (fun h => by cases h) fun _ => t_leaf ?_
    exact ⟨(Cs.mk cl 1 iss isr gss gsr gar sv ⟨m, opF f⟩ greets wa (le - 1) tr false li outs), false, hr0.trans hT.symm, rfl, _, _, _, _, _, _, _, _, _, _, _, _, _, _, _, _, rfl, .inl ⟨rfl, fun B hB => by simp only [SV.tos, SV.to, hB]; rfl⟩, que_same rfl rfl rfl⟩
  rw [if_neg hl] at hT
  by_cases ht : tr < 6
  · obtain ⟨e1, e2, e3, e4, e5⟩ := ag_again hw hz hl ht
    rw [if_pos ht] at hT
    have hT2 : ((Cs.send (Cs.mk cl 1 iss isr gss gsr gar sv ⟨m, opF f⟩ greets (min (2 * wa) 64) (min (2 * wa) 64) (tr + 1) false li outs) 0 ⟨m, opF f⟩ Cs.emp 0 0 0), false) = rr := hT
    simp only [e1, e2, e3, e4, e5]
    refine t_ite (fun _ => ?_) fun h => by cases h
    refine t_need h24 (t_need h1p (t_ite (fun h' => ?_) fun h' => ?_))
    · have hlt : outs.length < 50 := by simp only [decide_eq_true_eq] at h'; omega
      refine t_need ⟨by omega, by omega⟩ (t_need (allOne_cons' rfl allOne_nil') (t_need (allOne_cons' rfl allOne_nil') (t_ite (fun h => by cases h) fun _ => t_leaf ?_)))
      refine ⟨(Cs.send (Cs.mk cl 1 iss isr gss gsr gar sv ⟨m, opF f⟩ greets (min (2 * wa) 64) (min (2 * wa) 64) (tr + 1) false li outs) 0 ⟨m, opF f⟩ Cs.emp 0 0 0), false, hr0.trans hT2.symm, rfl, _, _, _, _, _, _, _, _, _, _, _, _, _, _, _, _, rfl, .inl ⟨rfl, fun B hB => by simp only [SV.tos, SV.to, hB]; rfl⟩, .inr ⟨_, _, 4, rfl, send_room hlt, fun B u hu => ?_, tells_f hop.1 rfl⟩⟩
      simp only [SV.tos, SV.to, hu]; rfl
    · have hlt : ¬ outs.length < 50 := by simp only [decide_eq_false_iff_not] at h'; omega
      refine t_ite (fun h => by cases h) fun _ => t_leaf ?_
      exact ⟨(Cs.send (Cs.mk cl 1 iss isr gss gsr gar sv ⟨m, opF f⟩ greets (min (2 * wa) 64) (min (2 * wa) 64) (tr + 1) false li outs) 0 ⟨m, opF f⟩ Cs.emp 0 0 0), false, hr0.trans hT2.symm, rfl, _, _, _, _, _, _, _, _, _, _, _, _, _, _, _, _, rfl, .inl ⟨rfl, fun B hB => by simp only [SV.tos, SV.to, hB]; rfl⟩, que_same rfl (send_full hlt) rfl⟩
  · obtain ⟨e1, e2⟩ := ag_over hw hz hl ht
    rw [if_neg ht] at hT
    simp only [e1, e2]
    refine t_ite (fun h => by cases h) fun _ => t_ite (fun _ => ?_) fun h => by cases h
    rw [if_neg (by show ¬ (1 : Int) = 2; decide)] at hT
    exact t_leaf ⟨((Cs.mk cl 1 iss isr gss gsr gar sv ⟨m, opF f⟩ greets wa le tr false li outs).fin 0), true, hr0.trans hT.symm, rfl, _, _, _, _, _, _, _, _, _, _, _, _, _, _, _, _, rfl, .inl ⟨rfl, fun B hB => by simp only [SV.tos, SV.to, hB]; rfl⟩, que_same rfl rfl rfl⟩
set_option maxHeartbeats 1000000 in
set_option maxRecDepth 100000 in
theorem tick2_tree (c : Cs) (ua ug : Value) (n : Nat) (xs : List Value) (m : Nat) (f : Nat → Nat → Value) (hst : c.st = 2) (hn : n = c.outs.length) (hw : WaitOk c.wa c.le c.tr) (hop : OpP m f) (ho : c.greets = ⟨m, opF f⟩) :
    (canT 3 (runF Tryz.prog (CU Tryz.prog (CdFn.mk Tryz.f95 Tryz.f14 Tryz.f57 Tryz.f35 Tryz.f58 Tryz.f68 Tryz.f66 Tryz.f36 Tryz.f54 Tryz.f69 Tryz.f59 Tryz.f63 Tryz.f65 Tryz.f61)) noL Tryz.f24 (Tryz.f24.body.getD .skip) [.ptr 0 0] [.own (csS c (.c (.int .i64 2)) (.v ua) (.ref 2) (.ref 1)), .vec false 36 13 n xs, .row m 2 f])).ok (TickG c xs ua ug (fun B => B[2]? = some ug)) := by
  rw [tick2_run c ua ug n xs m f]
  obtain ⟨cl, st, iss, isr, gss, gsr, gar, sv, asks, greets, wa, le, tr, sy, li, outs⟩ := c
  simp only at hst hn ho
  subst hst
  subst hn
  subst ho
  dsimp only at hw ⊢
  have hm : m ≤ 1000 := hop.2.1
  have h24 : m * 24 ≤ 140737488355328 := by omega
  have h1p := all_oneD hop.1
  have hcell : ∀ (B : List Value), B[2]? = some ug → (SV.ref 2).to B = some ug := fun B h => h
  obtain ⟨rr, hr0⟩ : ∃ r, (Cs.mk cl 2 iss isr gss gsr gar sv asks ⟨m, opF f⟩ wa le tr sy li outs).tick = r := ⟨_, rfl⟩
  have hT := hr0
  unfold Cs.tick at hT
  rw [if_neg (by show ¬ (2 : Int) = 5; decide)] at hT
  dsimp only at hT
  by_cases hz : wa = 0
  · obtain ⟨e1, e2, e3, e4, e5⟩ := ag_none hw hz
    rw [if_pos hz] at hT
    simp only [e1, e2, e3, e4, e5]
    refine t_ite (fun h => by cases h) fun _ => t_ite (fun h => by cases h) fun _ => t_leaf ?_
    exact ⟨(Cs.mk cl 2 iss isr gss gsr gar sv asks ⟨m, opF f⟩ wa le tr false li outs), false, hr0.trans hT.symm, rfl, _, _, _, _, _, _, _, _, _, _, _, _, _, _, _, _, rfl, .inl ⟨rfl, fun B hB => by simp only [SV.tos, SV.to, hB]; rfl⟩, que_same rfl rfl rfl⟩
  rw [if_neg hz] at hT
  by_cases hl : 0 < le - 1
  · obtain ⟨e1, e2, e3, e4, e5⟩ := ag_left hw hz hl
    rw [if_pos hl] at hT
    simp only [e1, e2, e3, e4, e5]
    refine t_ite (fun h => by cases h) fun _ => t_ite (fun h => by cases h) fun _ => t_leaf ?_
    exact ⟨(Cs.mk cl 2 iss isr gss gsr gar sv asks ⟨m, opF f⟩ wa (le - 1) tr false li outs), false, hr0.trans hT.symm, rfl, _, _, _, _, _, _, _, _, _, _, _, _, _, _, _, _, rfl, .inl ⟨rfl, fun B hB => by simp only [SV.tos, SV.to, hB]; rfl⟩, que_same rfl rfl rfl⟩
  rw [if_neg hl] at hT
  by_cases ht : tr < 6
  · obtain ⟨e1, e2, e3, e4, e5⟩ := ag_again hw hz hl ht
    rw [if_pos ht] at hT
    have hT2 : ((Cs.send (Cs.mk cl 2 iss isr gss gsr gar sv asks ⟨m, opF f⟩ (min (2 * wa) 64) (min (2 * wa) 64) (tr + 1) false li outs) 3 ⟨m, opF f⟩ Cs.emp gsr 0 0), false) = rr := hT
    simp only [e1, e2, e3, e4, e5]
    refine t_ite (fun _ => ?_) fun h => by cases h
    refine t_need h24 (t_need h1p (t_ite (fun h' => ?_) fun h' => ?_))
    · have hlt : outs.length < 50 := by simp only [decide_eq_true_eq] at h'; omega
      refine t_need ⟨by omega, by omega⟩ (t_need (allOne_cons' rfl allOne_nil') (t_need (allOne_cons' rfl allOne_nil') (t_ite (fun h => by cases h) fun _ => t_leaf ?_)))
      refine ⟨(Cs.send (Cs.mk cl 2 iss isr gss gsr gar sv asks ⟨m, opF f⟩ (min (2 * wa) 64) (min (2 * wa) 64) (tr + 1) false li outs) 3 ⟨m, opF f⟩ Cs.emp gsr 0 0), false, hr0.trans hT2.symm, rfl, _, _, _, _, _, _, _, _, _, _, _, _, _, _, _, _, rfl, .inl ⟨rfl, fun B hB => by simp only [SV.tos, SV.to, hB]; rfl⟩, .inr ⟨_, _, 4, rfl, send_room hlt, fun B u hu => ?_, tells_f hop.1 rfl⟩⟩
      simp only [SV.tos, SV.to, hu]; rfl
    · have hlt : ¬ outs.length < 50 := by simp only [decide_eq_false_iff_not] at h'; omega
      refine t_ite (fun h => by cases h) fun _ => t_leaf ?_
      exact ⟨(Cs.send (Cs.mk cl 2 iss isr gss gsr gar sv asks ⟨m, opF f⟩ (min (2 * wa) 64) (min (2 * wa) 64) (tr + 1) false li outs) 3 ⟨m, opF f⟩ Cs.emp gsr 0 0), false, hr0.trans hT2.symm, rfl, _, _, _, _, _, _, _, _, _, _, _, _, _, _, _, _, rfl, .inl ⟨rfl, fun B hB => by simp only [SV.tos, SV.to, hB]; rfl⟩, que_same rfl (send_full hlt) rfl⟩
  · obtain ⟨e1, e2⟩ := ag_over hw hz hl ht
    rw [if_neg ht] at hT
    simp only [e1, e2]
    refine t_ite (fun h => by cases h) fun _ => t_ite (fun _ => ?_) fun h => by cases h
    rw [if_pos rfl] at hT
    have hT2 : (((Cs.send (Cs.mk cl 2 iss isr gss gsr gar sv asks ⟨m, opF f⟩ wa le tr false li outs) 7 OL.nil Cs.emp gsr 4 0).fin 0), true) = rr := hT
    refine t_ite (fun h' => ?_) fun h' => t_leaf ?_
    · have hlt : outs.length < 50 := by simp only [decide_eq_true_eq] at h'; omega
      have hq := q_send (c0 := (Cs.mk cl 2 iss isr gss gsr gar sv asks ⟨m, opF f⟩ wa le tr sy li outs)) (c' := ((Cs.send (Cs.mk cl 2 iss isr gss gsr gar sv asks ⟨m, opF f⟩ wa le tr false li outs) 7 OL.nil Cs.emp gsr 4 0).fin 0)) (c1 := (Cs.mk cl 2 iss isr gss gsr gar sv asks ⟨m, opF f⟩ wa le tr false li outs)) (n := outs.length) (xs := xs) 7 Cs.emp gsr 4 0 rfl rfl rfl
      unfold qN qX at hq
      rw [if_pos hlt, if_pos hlt] at hq
      refine t_need ⟨by omega, by omega⟩ (t_need ?_ (t_leaf ?_))
      · repeat (refine allOne_cons' rfl ?_)
        exact allOne_nil'
      · exact ⟨((Cs.send (Cs.mk cl 2 iss isr gss gsr gar sv asks ⟨m, opF f⟩ wa le tr false li outs) 7 OL.nil Cs.emp gsr 4 0).fin 0), true, hr0.trans hT2.symm, rfl, _, _, _, _, _, _, _, _, _, _, _, _, _, _, _, _, rfl, .inl ⟨rfl, fun B hB => by simp only [SV.tos, SV.to, hB]; rfl⟩, .inl ⟨_, _, rfl, hq.1, hq.2, _, send_room hlt, fun q hq => by rw [List.mem_singleton] at hq; subst hq; rfl⟩⟩
    · have hlt : ¬ outs.length < 50 := by simp only [decide_eq_false_iff_not] at h'; omega
      exact ⟨((Cs.send (Cs.mk cl 2 iss isr gss gsr gar sv asks ⟨m, opF f⟩ wa le tr false li outs) 7 OL.nil Cs.emp gsr 4 0).fin 0), true, hr0.trans hT2.symm, rfl, _, _, _, _, _, _, _, _, _, _, _, _, _, _, _, _, rfl, .inl ⟨rfl, fun B hB => by simp only [SV.tos, SV.to, hB]; rfl⟩, que_same rfl (send_full hlt) rfl⟩
abbrev CUC (P : Program) (Z : CdFn) (fCat : Func) : Cfg := ⟨SCn0, addGU 35 hWait (liftG (addT 67 (inl P (CGrow P) (LCat P fCat) fCat) (FT P Z))), effE P (67 :: 63 :: 65 :: 61 :: fsE3), [], []⟩
theorem CUC_ok : CfgOk Tryz.prog (CUC Tryz.prog (CdFn.mk Tryz.f95 Tryz.f14 Tryz.f57 Tryz.f35 Tryz.f58 Tryz.f68 Tryz.f66 Tryz.f36 Tryz.f54 Tryz.f69 Tryz.f59 Tryz.f63 Tryz.f65 Tryz.f61) Tryz.f67) := ⟨SCn0_ok, addGU_ok (liftG_ok (addT_ok FT_ok (by kernel_rfl) fCat_ok))⟩
def FXe (P : Program) (Z : CdFn) : LTab := addT 66 (inl P (CE1 P Z) noL Z.may_) <| addT 14 (inl P (CE0 P) noL Z.State_) noF
theorem FXe_ok : LOk Tryz.prog (FXe Tryz.prog (CdFn.mk Tryz.f95 Tryz.f14 Tryz.f57 Tryz.f35 Tryz.f58 Tryz.f68 Tryz.f66 Tryz.f36 Tryz.f54 Tryz.f69 Tryz.f59 Tryz.f63 Tryz.f65 Tryz.f61)) := addT_ok (addT_ok noF_ok (by kernel_rfl) ED_State) (by kernel_rfl) ED_may
abbrev CXe (P : Program) (Z : CdFn) : Cfg := both P SCn0 (FXe P Z) (32 :: 67 :: fsE3)
theorem CXe_ok : CfgOk Tryz.prog (CXe Tryz.prog (CdFn.mk Tryz.f95 Tryz.f14 Tryz.f57 Tryz.f35 Tryz.f58 Tryz.f68 Tryz.f66 Tryz.f36 Tryz.f54 Tryz.f69 Tryz.f59 Tryz.f63 Tryz.f65 Tryz.f61)) := both_ok SCn0_ok FXe_ok
set_option maxRecDepth 100000 in
theorem say2_run (c : Cs) (ua ug : Value) (n : Nat) (xs : List Value) (m1 m2 : Nat) (f1 f2 : Nat → Nat → Value) (d : ByteArray) (ra : Int) : canT 4 (runF Tryz.prog (CUC Tryz.prog (CdFn.mk Tryz.f95 Tryz.f14 Tryz.f57 Tryz.f35 Tryz.f58 Tryz.f68 Tryz.f66 Tryz.f36 Tryz.f54 Tryz.f69 Tryz.f59 Tryz.f63 Tryz.f65 Tryz.f61) Tryz.f67) noL Tryz.f26 (Tryz.f26.body.getD .skip) [.ptr 0 0, .c (.int .i64 3), .ref 3, .v (.string d), .v (.int .i64 ra)] [.own (csS c (.c (.int .i64 2)) (.v ua) (.ref 2) (.ref 1)), .vec false 36 13 n xs, .row m1 2 f1, .row m2 2 f2]) = .need ((0 : Int) ≤ (0 : Int) ∧ (0 : Int) < (2 : Int)) (.ite (decide (IntKind.i64.wrap ((0 : Int) + (↑m1 : Int)) < (0 : Int))) (T.stuck 2) (.need ((0 : Int) ≤ (1 : Int) ∧ (1 : Int) < (2 : Int)) (.ite (decide (IntKind.i64.wrap (IntKind.i64.wrap ((0 : Int) + (↑m1 : Int)) + (↑m2 : Int)) < (0 : Int))) (T.stuck 2) (.need ((0 : Int) ≤ IntKind.i64.wrap (IntKind.i64.wrap ((0 : Int) + (↑m1 : Int)) + (↑m2 : Int)) ∧ IntKind.i64.wrap (IntKind.i64.wrap ((0 : Int) + (↑m1 : Int)) + (↑m2 : Int)) * (24 : Int) ≤ (140737488355328 : Int)) (.need ((0 : Int) ≤ (0 : Int) ∧ (0 : Int) < (2 : Int)) (.need (0 + m1 ≤ 9223372036854775807 ∧ (0 + m1) * 24 ≤ 140737488355328) (.need (allOneP (rowCells m1 2 f1)) (.need ((0 : Int) ≤ (1 : Int) ∧ (1 : Int) < (2 : Int)) (.need (0 + m1 + m2 ≤ 9223372036854775807 ∧ (0 + m1 + m2) * 24 ≤ 140737488355328) (.need (allOneP (rowCells m2 2 f2)) (.need (OpP (0 + m1 + m2) fun i j => cellAt ([] ++ rowCells m1 2 f1 ++ rowCells m2 2 f2) (i * 2 + j)) (.ite (!decide (chkO (0 + m1 + m2) (opF fun i j => cellAt ([] ++ rowCells m1 2 f1 ++ rowCells m2 2 f2) (i * 2 + j)) = (0 : Int))) (.leaf (SV.v (Value.tuple (Array.mk [Value.int IntKind.i64 0, Value.int IntKind.i64 (chkO (0 + m1 + m2) (opF fun i j => cellAt ([] ++ rowCells m1 2 f1 ++ rowCells m2 2 f2) (i * 2 + j)))])), [.own [SV.v (Value.bool c.1), .c (.int .i64 2), .v (.int .i64 c.3), .v (.int .i64 c.4), .v (.int .i64 c.5), .v (.int .i64 c.6), .v (.int .i64 c.7), .v (.int .i64 c.8), SV.v ua, SV.ref 2, .v (.int .i64 c.11), .v (.int .i64 c.12), .v (.int .i64 c.13), SV.v (Value.bool c.14), .v (.int .i64 c.15), SV.ref 1], Blk.vec false 36 13 n xs, Blk.row m1 2 f1, Blk.row m2 2 f2])) (.ite (decide ((↑d.size : Int) > (200 : Int))) (.leaf (SV.v (Value.tuple (Array.mk [Value.int IntKind.i64 0, Value.int IntKind.i64 11])), [.own [SV.v (Value.bool c.1), .c (.int .i64 2), .v (.int .i64 c.3), .v (.int .i64 c.4), .v (.int .i64 c.5), .v (.int .i64 c.6), .v (.int .i64 c.7), .v (.int .i64 c.8), SV.v ua, SV.ref 2, .v (.int .i64 c.11), .v (.int .i64 c.12), .v (.int .i64 c.13), SV.v (Value.bool c.14), .v (.int .i64 c.15), SV.ref 1], Blk.vec false 36 13 n xs, Blk.row m1 2 f1, Blk.row m2 2 f2])) (.ite (!decide (d = ByteArray.mk (Array.mk []))) (.leaf (SV.v (Value.tuple (Array.mk [Value.int IntKind.i64 0, Value.int IntKind.i64 4])), [.own [SV.v (Value.bool c.1), .c (.int .i64 2), .v (.int .i64 c.3), .v (.int .i64 c.4), .v (.int .i64 c.5), .v (.int .i64 c.6), .v (.int .i64 c.7), .v (.int .i64 c.8), SV.v ua, SV.ref 2, .v (.int .i64 c.11), .v (.int .i64 c.12), .v (.int .i64 c.13), SV.v (Value.bool c.14), .v (.int .i64 c.15), SV.ref 1], Blk.vec false 36 13 n xs, Blk.row m1 2 f1, Blk.row m2 2 f2])) (.need ((0 + m1 + m2) * 24 ≤ 140737488355328) (.need (allOneP (rowCells (0 + m1 + m2) 2 fun i j => cellAt ([] ++ rowCells m1 2 f1 ++ rowCells m2 2 f2) (i * 2 + j))) (.need ((0 + m1 + m2) * 24 ≤ 140737488355328) (.need (allOneP (rowCells (0 + m1 + m2) 2 fun i j => cellAt (rowCells (0 + m1 + m2) 2 fun i j => cellAt ([] ++ rowCells m1 2 f1 ++ rowCells m2 2 f2) (i * 2 + j)) (i * 2 + j))) (.ite (decide ((↑n : Int) < (50 : Int))) (.need (n + 1 ≤ 9223372036854775807 ∧ (n + 1) * 128 ≤ 140737488355328) (.need (allOneP [Value.int IntKind.i64 (if (15 : Int) < if (0 : Int) > ra then (0 : Int) else ra then (15 : Int) else if (0 : Int) > ra then (0 : Int) else ra)]) (.need (allOneP [Value.int IntKind.i64 (Circ.add c.5 (1 : Int))]) (.need (allOneP [Value.int IntKind.i64 c.6]) (.need (allOneP [Value.string d]) (.leaf (SV.v (Value.tuple (Array.mk [Value.int IntKind.i64 (Circ.add c.5 (1 : Int)), Value.int IntKind.i64 0])), [.own [SV.v (Value.bool c.1), .c (.int .i64 2), .v (.int .i64 c.3), .v (.int .i64 c.4), .v (.int .i64 (Circ.add c.5 (1 : Int))), .v (.int .i64 c.6), .v (.int .i64 c.7), .v (.int .i64 c.8), SV.v ua, SV.ref 2, .v (.int .i64 c.11), .v (.int .i64 c.12), .v (.int .i64 c.13), SV.v (Value.bool c.14), .v (.int .i64 c.15), SV.ref 4], Blk.gone, Blk.row m1 2 f1, Blk.row m2 2 f2, Blk.que 36 13 (n + 1) xs [.c (.int .i64 3), SV.tt, .c (.int .i64 0), .c (.int .i64 0), .v (.int .i64 (if (15 : Int) < if (0 : Int) > ra then (0 : Int) else ra then (15 : Int) else if (0 : Int) > ra then (0 : Int) else ra)), .c (.int .i64 0), .v (.int .i64 (Circ.add c.5 (1 : Int))), .v (.int .i64 c.6), .c (.int .i64 0), .c (.int .i64 0), .c (.int .i64 0), SV.ref 5, .v (.string d)], Blk.vec false 64 2 (0 + m1 + m2) (rowCells (0 + m1 + m2) 2 fun i j => cellAt (rowCells (0 + m1 + m2) 2 fun i j => cellAt ([] ++ rowCells m1 2 f1 ++ rowCells m2 2 f2) (i * 2 + j)) (i * 2 + j))]))))))) (.leaf (SV.v (Value.tuple (Array.mk [Value.int IntKind.i64 (Circ.add c.5 (1 : Int)), Value.int IntKind.i64 0])), [.own [SV.v (Value.bool c.1), .c (.int .i64 2), .v (.int .i64 c.3), .v (.int .i64 c.4), .v (.int .i64 (Circ.add c.5 (1 : Int))), .v (.int .i64 c.6), .v (.int .i64 c.7), .v (.int .i64 c.8), SV.v ua, SV.ref 2, .v (.int .i64 c.11), .v (.int .i64 c.12), .v (.int .i64 c.13), SV.v (Value.bool c.14), .v (.int .i64 c.15), SV.ref 1], Blk.vec false 36 13 n xs, Blk.row m1 2 f1, Blk.row m2 2 f2]))))))))))))))))))))) := by kernel_rfl
set_option maxRecDepth 100000 in
theorem sayX_run (c : Cs) (ua ug : Value) (n : Nat) (xs : List Value) (k : Int) (m1 m2 : Nat) (f1 f2 : Nat → Nat → Value) (d : ByteArray) (ra : Int) : canT 4 (runF Tryz.prog (CXe Tryz.prog (CdFn.mk Tryz.f95 Tryz.f14 Tryz.f57 Tryz.f35 Tryz.f58 Tryz.f68 Tryz.f66 Tryz.f36 Tryz.f54 Tryz.f69 Tryz.f59 Tryz.f63 Tryz.f65 Tryz.f61)) noL Tryz.f26 (Tryz.f26.body.getD .skip) [.ptr 0 0, .v (.int .i64 k), .ref 3, .v (.string d), .v (.int .i64 ra)] [.own (csS c (.v (.int .i64 c.st)) (.v ua) (.ref 2) (.ref 1)), .vec false 36 13 n xs, .row m1 2 f1, .row m2 2 f2]) = .ite (!decide (k = (2 : Int))) (.ite (!decide (k = (3 : Int))) (.ite (!decide (k = (4 : Int))) (.leaf (SV.v (Value.tuple (Array.mk [Value.int IntKind.i64 0, Value.int IntKind.i64 7])), [.own [SV.v (Value.bool c.1), .v (.int .i64 c.2), .v (.int .i64 c.3), .v (.int .i64 c.4), .v (.int .i64 c.5), .v (.int .i64 c.6), .v (.int .i64 c.7), .v (.int .i64 c.8), SV.v ua, SV.ref 2, .v (.int .i64 c.11), .v (.int .i64 c.12), .v (.int .i64 c.13), SV.v (Value.bool c.14), .v (.int .i64 c.15), SV.ref 1], Blk.vec false 36 13 n xs, Blk.row m1 2 f1, Blk.row m2 2 f2])) (.ite (decide (c.2 = (3 : Int))) (.ite (decide (c.2 = (2 : Int))) (T.stuck 2067) (T.stuck 2032)) (.ite (decide (c.2 = (2 : Int))) (.ite (decide (k = (3 : Int))) (.ite (decide (c.2 = (2 : Int))) (T.stuck 2067) (T.stuck 2032)) (.leaf (SV.v (Value.tuple (Array.mk [Value.int IntKind.i64 0, Value.int IntKind.i64 10])), [.own [SV.v (Value.bool c.1), .v (.int .i64 c.2), .v (.int .i64 c.3), .v (.int .i64 c.4), .v (.int .i64 c.5), .v (.int .i64 c.6), .v (.int .i64 c.7), .v (.int .i64 c.8), SV.v ua, SV.ref 2, .v (.int .i64 c.11), .v (.int .i64 c.12), .v (.int .i64 c.13), SV.v (Value.bool c.14), .v (.int .i64 c.15), SV.ref 1], Blk.vec false 36 13 n xs, Blk.row m1 2 f1, Blk.row m2 2 f2]))) (.leaf (SV.v (Value.tuple (Array.mk [Value.int IntKind.i64 0, Value.int IntKind.i64 10])), [.own [SV.v (Value.bool c.1), .v (.int .i64 c.2), .v (.int .i64 c.3), .v (.int .i64 c.4), .v (.int .i64 c.5), .v (.int .i64 c.6), .v (.int .i64 c.7), .v (.int .i64 c.8), SV.v ua, SV.ref 2, .v (.int .i64 c.11), .v (.int .i64 c.12), .v (.int .i64 c.13), SV.v (Value.bool c.14), .v (.int .i64 c.15), SV.ref 1], Blk.vec false 36 13 n xs, Blk.row m1 2 f1, Blk.row m2 2 f2]))))) (.ite (decide (c.2 = (3 : Int))) (.ite (decide (c.2 = (2 : Int))) (T.stuck 2067) (T.stuck 2032)) (.ite (decide (c.2 = (2 : Int))) (.ite (decide (k = (3 : Int))) (.ite (decide (c.2 = (2 : Int))) (T.stuck 2067) (T.stuck 2032)) (.leaf (SV.v (Value.tuple (Array.mk [Value.int IntKind.i64 0, Value.int IntKind.i64 10])), [.own [SV.v (Value.bool c.1), .v (.int .i64 c.2), .v (.int .i64 c.3), .v (.int .i64 c.4), .v (.int .i64 c.5), .v (.int .i64 c.6), .v (.int .i64 c.7), .v (.int .i64 c.8), SV.v ua, SV.ref 2, .v (.int .i64 c.11), .v (.int .i64 c.12), .v (.int .i64 c.13), SV.v (Value.bool c.14), .v (.int .i64 c.15), SV.ref 1], Blk.vec false 36 13 n xs, Blk.row m1 2 f1, Blk.row m2 2 f2]))) (.leaf (SV.v (Value.tuple (Array.mk [Value.int IntKind.i64 0, Value.int IntKind.i64 10])), [.own [SV.v (Value.bool c.1), .v (.int .i64 c.2), .v (.int .i64 c.3), .v (.int .i64 c.4), .v (.int .i64 c.5), .v (.int .i64 c.6), .v (.int .i64 c.7), .v (.int .i64 c.8), SV.v ua, SV.ref 2, .v (.int .i64 c.11), .v (.int .i64 c.12), .v (.int .i64 c.13), SV.v (Value.bool c.14), .v (.int .i64 c.15), SV.ref 1], Blk.vec false 36 13 n xs, Blk.row m1 2 f1, Blk.row m2 2 f2]))))) (.ite (decide (c.2 = (3 : Int))) (.ite (decide (c.2 = (2 : Int))) (T.stuck 2067) (T.stuck 2032)) (.ite (decide (c.2 = (2 : Int))) (.ite (decide (k = (3 : Int))) (.ite (decide (c.2 = (2 : Int))) (T.stuck 2067) (T.stuck 2032)) (.leaf (SV.v (Value.tuple (Array.mk [Value.int IntKind.i64 0, Value.int IntKind.i64 10])), [.own [SV.v (Value.bool c.1), .v (.int .i64 c.2), .v (.int .i64 c.3), .v (.int .i64 c.4), .v (.int .i64 c.5), .v (.int .i64 c.6), .v (.int .i64 c.7), .v (.int .i64 c.8), SV.v ua, SV.ref 2, .v (.int .i64 c.11), .v (.int .i64 c.12), .v (.int .i64 c.13), SV.v (Value.bool c.14), .v (.int .i64 c.15), SV.ref 1], Blk.vec false 36 13 n xs, Blk.row m1 2 f1, Blk.row m2 2 f2]))) (.leaf (SV.v (Value.tuple (Array.mk [Value.int IntKind.i64 0, Value.int IntKind.i64 10])), [.own [SV.v (Value.bool c.1), .v (.int .i64 c.2), .v (.int .i64 c.3), .v (.int .i64 c.4), .v (.int .i64 c.5), .v (.int .i64 c.6), .v (.int .i64 c.7), .v (.int .i64 c.8), SV.v ua, SV.ref 2, .v (.int .i64 c.11), .v (.int .i64 c.12), .v (.int .i64 c.13), SV.v (Value.bool c.14), .v (.int .i64 c.15), SV.ref 1], Blk.vec false 36 13 n xs, Blk.row m1 2 f1, Blk.row m2 2 f2])))) := by kernel_rfl
set_option maxRecDepth 100000 in
theorem greetX_run (c : Cs) (ua ug : Value) (n : Nat) (xs : List Value) (m : Nat) (f : Nat → Nat → Value) : canT 3 (runF Tryz.prog (CXe Tryz.prog (CdFn.mk Tryz.f95 Tryz.f14 Tryz.f57 Tryz.f35 Tryz.f58 Tryz.f68 Tryz.f66 Tryz.f36 Tryz.f54 Tryz.f69 Tryz.f59 Tryz.f63 Tryz.f65 Tryz.f61)) noL Tryz.f22 (Tryz.f22.body.getD .skip) [.ptr 0 0, .ref 2] [.own (csS c (.v (.int .i64 c.st)) (.v ua) (.v ug) (.ref 1)), .vec false 36 13 n xs, .row m 2 f]) = .ite (!decide (c.2 = (2 : Int))) (.leaf (.c (.int .i64 10), [.own [SV.v (Value.bool c.1), .v (.int .i64 c.2), .v (.int .i64 c.3), .v (.int .i64 c.4), .v (.int .i64 c.5), .v (.int .i64 c.6), .v (.int .i64 c.7), .v (.int .i64 c.8), SV.v ua, SV.v ug, .v (.int .i64 c.11), .v (.int .i64 c.12), .v (.int .i64 c.13), SV.v (Value.bool c.14), .v (.int .i64 c.15), SV.ref 1], Blk.vec false 36 13 n xs, Blk.row m 2 f])) (T.stuck 2032) := by kernel_rfl
set_option maxRecDepth 100000 in
theorem dial_run (iss sv : Int) (m : Nat) (f : Nat → Nat → Value) : canT 1 (runF Tryz.prog (CU Tryz.prog (CdFn.mk Tryz.f95 Tryz.f14 Tryz.f57 Tryz.f35 Tryz.f58 Tryz.f68 Tryz.f66 Tryz.f36 Tryz.f54 Tryz.f69 Tryz.f59 Tryz.f63 Tryz.f65 Tryz.f61)) noL Tryz.f11 (Tryz.f11.body.getD .skip) [.v (.int .i64 iss), .v (.int .i64 sv), .ref 0] [.row m 2 f]) = .ite (decide (sv < (0 : Int))) (.leaf (SV.c (Value.pointer none), [Blk.row m 2 f])) (.ite (decide (sv ≥ (4294967296 : Int))) (.leaf (SV.c (Value.pointer none), [Blk.row m 2 f])) (.need (OpP m f) (.ite (!decide (chkO m (opF f) = (0 : Int))) (.leaf (SV.c (Value.pointer none), [Blk.row m 2 f])) (.need (m * 24 ≤ 140737488355328) (.need (allOneP (rowCells m 2 f)) (.need (m * 24 ≤ 140737488355328) (.need (allOneP (rowCells m 2 fun i j => cellAt (rowCells m 2 f) (i * 2 + j))) (.need (1 ≤ 9223372036854775807 ∧ 128 ≤ 140737488355328) (.need (allOneP [Value.int IntKind.i64 (Circ.add (Circ.of (Circ.add iss (-1 : Int))) (1 : Int))]) (.need (allOneP [Value.int IntKind.i64 sv]) (.leaf (.ptr 1 0, [Blk.row m 2 f, .own [SV.tt, .c (.int .i64 1), .v (.int .i64 (Circ.of iss)), .v (.int .i64 0), .v (.int .i64 (Circ.add (Circ.of (Circ.add iss (-1 : Int))) (1 : Int))), .v (.int .i64 0), .v (.int .i64 (Circ.of iss)), .v (.int .i64 sv), SV.ref 2, SV.c (Value.slice none 0 0), .c (.int .i64 8), .c (.int .i64 8), .c (.int .i64 0), SV.c (Value.bool false), .c (.int .i64 0), SV.ref 3], Blk.vec false 64 2 m (rowCells m 2 f), Blk.lst 36 13 1 [.c (.int .i64 0), SV.tt, .c (.int .i64 0), .c (.int .i64 0), .c (.int .i64 0), .c (.int .i64 0), .v (.int .i64 (Circ.add (Circ.of (Circ.add iss (-1 : Int))) (1 : Int))), .c (.int .i64 0), .v (.int .i64 sv), .c (.int .i64 0), .c (.int .i64 0), SV.ref 4, SV.c (Value.string (ByteArray.mk (Array.mk [])))], Blk.vec false 64 2 m (rowCells m 2 fun i j => cellAt (rowCells m 2 f) (i * 2 + j))])))))))))))) := by kernel_rfl
set_option maxRecDepth 100000 in
theorem adopt_run (iss isr gsr : Int) : canT 0 (runF Tryz.prog (CU Tryz.prog (CdFn.mk Tryz.f95 Tryz.f14 Tryz.f57 Tryz.f35 Tryz.f58 Tryz.f68 Tryz.f66 Tryz.f36 Tryz.f54 Tryz.f69 Tryz.f59 Tryz.f63 Tryz.f65 Tryz.f61)) noL Tryz.f9 (Tryz.f9.body.getD .skip) [.v (.int .i64 iss), .v (.int .i64 isr), .v (.int .i64 gsr)] []) = .leaf (.ptr 0 0, [.own [SV.v (Value.bool false), .v (.int .i64 3), .v (.int .i64 (Circ.of iss)), .v (.int .i64 (Circ.of isr)), .v (.int .i64 (Circ.of iss)), .v (.int .i64 (Circ.of gsr)), .v (.int .i64 (Circ.of iss)), .v (.int .i64 0), SV.v (Value.slice none 0 0), SV.v (Value.slice none 0 0), .v (.int .i64 0), .v (.int .i64 0), .v (.int .i64 0), SV.v (Value.bool false), .v (.int .i64 0), SV.v (Value.slice none 0 0)]]) := by kernel_rfl
def catF (m1 m2 : Nat) (f1 f2 : Nat → Nat → Value) : Nat → Nat → Value := fun i j => cellAt ([] ++ rowCells m1 2 f1 ++ rowCells m2 2 f2) (i * 2 + j)
theorem catF_at {m1 m2 : Nat} (f1 f2 : Nat → Nat → Value) {i j : Nat} (hi : i < m1 + m2) (hj : j < 2) : catF m1 m2 f1 f2 i j = if i < m1 then f1 i j else f2 (i - m1) j := by
  show (([] ++ rowCells m1 2 f1 ++ rowCells m2 2 f2).getD (i * 2 + j) undef) = _
  rw [List.nil_append, List.getD_eq_getElem?_getD]
  by_cases h : i < m1
  · rw [if_pos h, List.getElem?_append_left (by rw [rowCells_length]; omega), ← List.getD_eq_getElem?_getD]
    exact rowCells_atD f1 h hj
  · rw [if_neg h, List.getElem?_append_right (by rw [rowCells_length]; omega), rowCells_length, ← List.getD_eq_getElem?_getD, show i * 2 + j - m1 * 2 = (i - m1) * 2 + j by omega]
    exact rowCells_atD f2 (by omega) hj
theorem catF_op {m1 m2 : Nat} (f1 f2 : Nat → Nat → Value) {i : Nat} (hi : i < m1 + m2) : opF (catF m1 m2 f1 f2) i = ((OL.mk m1 (opF f1)).cat ⟨m2, opF f2⟩).g i := by
  show (⟨intV (catF m1 m2 f1 f2 i 0), strV (catF m1 m2 f1 f2 i 1)⟩ : Op) = if i < m1 then opF f1 i else opF f2 (i - m1)
  rw [catF_at f1 f2 hi (by decide), catF_at f1 f2 hi (by decide)]
  by_cases h : i < m1
  · rw [if_pos h, if_pos h, if_pos h]; rfl
  · rw [if_neg h, if_neg h, if_neg h]; rfl
theorem catF_all {m1 m2 : Nat} {f1 f2 : Nat → Nat → Value} (h1 : AllOp m1 f1) (h2 : AllOp m2 f2) : AllOp (m1 + m2) (catF m1 m2 f1 f2) := by
  intro i hi j hj
  rw [catF_op f1 f2 hi, catF_at f1 f2 hi hj]
  show _ = (if i < m1 then opF f1 i else opF f2 (i - m1)).c j
  by_cases h : i < m1
  · rw [if_pos h, if_pos h]; exact h1 i h j hj
  · rw [if_neg h, if_neg h]; exact h2 _ (by omega) j hj
theorem catF_opP {m1 m2 : Nat} {f1 f2 : Nat → Nat → Value} (h1 : OpP m1 f1) (h2 : OpP m2 f2) (hm : m1 + m2 ≤ 1000) : OpP (m1 + m2) (catF m1 m2 f1 f2) := by
  refine ⟨catF_all h1.1 h2.1, hm, fun i hi => ?_⟩
  rw [catF_op f1 f2 hi]
  show (if i < m1 then opF f1 i else opF f2 (i - m1)).val.size ≤ 1000000
  split
  · exact h1.2.2 i (by assumption)
  · exact h2.2.2 _ (by omega)
theorem tells_c {H' : List Blk} {i m1 m2 : Nat} {f1 f2 : Nat → Nat → Value} (h1 : OpP m1 f1) (h2 : OpP m2 f2) (h : H'[i]? = some (.vec false 64 2 (m1 + m2) (rowCells (m1 + m2) 2 fun i j => cellAt (rowCells (m1 + m2) 2 (catF m1 m2 f1 f2)) (i * 2 + j)))) : RowTells H' i ((OL.mk m1 (opF f1)).cat ⟨m2, opF f2⟩) :=
  ⟨_, h, fun a b ha hb => by have ha : a < m1 + m2 := ha; show cellAt (rowCells (m1 + m2) 2 (catF m1 m2 f1 f2)) (a * 2 + b) = _; rw [rowCells_atD _ ha hb, catF_all h1.1 h2.1 a ha b hb, catF_op f1 f2 ha]⟩
set_option maxRecDepth 100000 in
theorem say2_tree (c : Cs) (ua ug : Value) (n : Nat) (xs : List Value) (m1 m2 : Nat) (f1 f2 : Nat → Nat → Value) (d : ByteArray) (ra : Int) (hst : c.st = 2) (hn : n = c.outs.length) (hop1 : OpP m1 f1) (hop2 : OpP m2 f2) (hmm : m1 + m2 ≤ 1000) (hg : c.greets = ⟨m1, opF f1⟩) :
    (canT 4 (runF Tryz.prog (CUC Tryz.prog (CdFn.mk Tryz.f95 Tryz.f14 Tryz.f57 Tryz.f35 Tryz.f58 Tryz.f68 Tryz.f66 Tryz.f36 Tryz.f54 Tryz.f69 Tryz.f59 Tryz.f63 Tryz.f65 Tryz.f61) Tryz.f67) noL Tryz.f26 (Tryz.f26.body.getD .skip) [.ptr 0 0, .c (.int .i64 3), .ref 3, .v (.string d), .v (.int .i64 ra)] [.own (csS c (.c (.int .i64 2)) (.v ua) (.ref 2) (.ref 1)), .vec false 36 13 n xs, .row m1 2 f1, .row m2 2 f2])).ok (SayG (c.sayP 3 ⟨m2, opF f2⟩ d ra) c xs ua ug (fun B => B[2]? = some ug)) := by
  rw [say2_run c ua ug n xs m1 m2 f1 f2 d ra]
  obtain ⟨cl, st, iss, isr, gss, gsr, gar, sv, asks, greets, wa, le, tr, sy, li, outs⟩ := c
  simp only at hst hn hg
  subst hst
  subst hn
  subst hg
  dsimp only
  have hw1 : IntKind.i64.wrap (0 + (m1 : Int)) = m1 := by rw [w64 _ (by omega) (by omega)]; omega
  have hw2 : IntKind.i64.wrap ((m1 : Int) + m2) = (m1 : Int) + m2 := w64 _ (by omega) (by omega)
  have h0 : 0 + m1 = m1 := Nat.zero_add _
  rw [hw1, hw2, h0]
  have hcf : (fun i j => cellAt ([] ++ rowCells m1 2 f1 ++ rowCells m2 2 f2) (i * 2 + j)) = catF m1 m2 f1 f2 := rfl
  rw [hcf]
  have hopc := catF_opP hop1 hop2 hmm
  have h24 : (m1 + m2) * 24 ≤ 140737488355328 := by omega
  have h1p := all_oneD hopc.1
  have h2p := all_oneD (allOp_copy hopc.1)
  have hra := ratio_eq ra
  generalize (if 15 < if 0 > ra then 0 else ra then 15 else if 0 > ra then 0 else ra) = rt at hra ⊢
  subst hra
  obtain ⟨rr, hr0⟩ : ∃ r, (Cs.mk cl 2 iss isr gss gsr gar sv asks ⟨m1, opF f1⟩ wa le tr sy li outs).sayP 3 ⟨m2, opF f2⟩ d ra = r := ⟨_, rfl⟩
  have hT := hr0
  have hO : Cs.sayO (Cs.mk cl 2 iss isr gss gsr gar sv asks ⟨m1, opF f1⟩ wa le tr sy li outs) ⟨m2, opF f2⟩ = (OL.mk m1 (opF f1)).cat ⟨m2, opF f2⟩ := if_pos rfl
  have hM : Cs.mayK (Cs.mk cl 2 iss isr gss gsr gar sv asks ⟨m1, opF f1⟩ wa le tr sy li outs) 3 = 0 := by unfold Cs.mayK; rw [if_neg (by decide), if_pos (.inr ⟨rfl, rfl⟩)]
  have hC : chkO ((OL.mk m1 (opF f1)).cat ⟨m2, opF f2⟩).n ((OL.mk m1 (opF f1)).cat ⟨m2, opF f2⟩).g = chkO (m1 + m2) (opF (catF m1 m2 f1 f2)) := chkO_congr fun i hi => (catF_op f1 f2 hi).symm
  have hE : Cs.sayE (Cs.mk cl 2 iss isr gss gsr gar sv asks ⟨m1, opF f1⟩ wa le tr sy li outs) 3 ⟨m2, opF f2⟩ d = if ¬ chkO (m1 + m2) (opF (catF m1 m2 f1 f2)) = 0 then chkO (m1 + m2) (opF (catF m1 m2 f1 f2)) else if d.size > 200 then 11 else if (3 : Int) = 3 ∧ ¬ d.size = 0 then 4 else 0 := by
    unfold Cs.sayE
    rw [hM, hO, if_neg (by decide), hC]
  unfold Cs.sayP at hT
  rw [hO] at hT
  generalize hcatf : catF m1 m2 f1 f2 = cf at *
  have big : ((d.size : Int) > 200) ↔ d.size > 200 := by omega
  have emp : d = ByteArray.mk (Array.mk []) ↔ d.size = 0 := ba_empty d
  have hs : ∀ e, ¬ e = 0 → ((Cs.mk cl 2 iss isr gss gsr gar sv asks ⟨m1, opF f1⟩ wa le tr sy li outs), (0 : Int), e) = rr → SayG ((Cs.mk cl 2 iss isr gss gsr gar sv asks ⟨m1, opF f1⟩ wa le tr sy li outs).sayP 3 ⟨m2, opF f2⟩ d ra) (Cs.mk cl 2 iss isr gss gsr gar sv asks ⟨m1, opF f1⟩ wa le tr sy li outs) xs ua ug (fun B => B[2]? = some ug) (.v (.tuple #[.int .i64 0, .int .i64 e]), [.own [.v (.bool cl), .c (.int .i64 2), .v (.int .i64 iss), .v (.int .i64 isr), .v (.int .i64 gss), .v (.int .i64 gsr), .v (.int .i64 gar), .v (.int .i64 sv), .v ua, .ref 2, .v (.int .i64 wa), .v (.int .i64 le), .v (.int .i64 tr), .v (.bool sy), .v (.int .i64 li), .ref 1], .vec false 36 13 outs.length xs, .row m1 2 f1, .row m2 2 f2]) := fun e _ he => ⟨(Cs.mk cl 2 iss isr gss gsr gar sv asks ⟨m1, opF f1⟩ wa le tr sy li outs), 0, e, hr0.trans he.symm, rfl, _, _, _, _, _, _, _, _, _, _, _, _, _, _, _, 1, rfl, .inl ⟨rfl, fun B hB => by simp only [SV.tos, SV.to, hB]; rfl⟩, que_same rfl rfl rfl⟩
  refine t_need (by omega) (t_ite (fun h => absurd (of_decide_eq_true h) (by omega)) fun _ => t_need (by omega) (t_ite (fun h => absurd (of_decide_eq_true h) (by omega)) fun _ => t_need (by omega) (t_need (by omega) (t_need (by omega) (t_need (all_oneD hop1.1) (t_need (by omega) (t_need (by omega) (t_need (all_oneD hop2.1) (t_need hopc (t_ite (fun h => t_leaf ?_) fun h => ?_))))))))))
  · have h0 : ¬ chkO (m1 + m2) (opF cf) = 0 := by simpa using h
    have hv : Cs.sayE (Cs.mk cl 2 iss isr gss gsr gar sv asks ⟨m1, opF f1⟩ wa le tr sy li outs) 3 ⟨m2, opF f2⟩ d = chkO (m1 + m2) (opF cf) := by rw [hE, if_pos h0]
    rw [if_neg (by rw [hv]; exact h0), hv] at hT
    exact hs _ h0 hT
  have h0 : chkO (m1 + m2) (opF cf) = 0 := by simpa using h
  have hE1 : Cs.sayE (Cs.mk cl 2 iss isr gss gsr gar sv asks ⟨m1, opF f1⟩ wa le tr sy li outs) 3 ⟨m2, opF f2⟩ d = if d.size > 200 then 11 else if (3 : Int) = 3 ∧ ¬ d.size = 0 then 4 else 0 := by rw [hE, if_neg (fun e => e h0)]
  refine t_ite (fun h => t_leaf ?_) fun h => ?_
  · have hb : d.size > 200 := big.1 (by simpa using h)
    have hv : Cs.sayE (Cs.mk cl 2 iss isr gss gsr gar sv asks ⟨m1, opF f1⟩ wa le tr sy li outs) 3 ⟨m2, opF f2⟩ d = 11 := by rw [hE1, if_pos hb]
    rw [if_neg (by rw [hv]; decide), hv] at hT
    exact hs 11 (by decide) hT
  have hb : ¬ d.size > 200 := fun e => by simp only [decide_eq_false_iff_not] at h; exact h (big.2 e)
  refine t_ite (fun h => t_leaf ?_) fun h => ?_
  · have hd : ¬ d.size = 0 := fun e => by simp [emp.2 e] at h
    have hv : Cs.sayE (Cs.mk cl 2 iss isr gss gsr gar sv asks ⟨m1, opF f1⟩ wa le tr sy li outs) 3 ⟨m2, opF f2⟩ d = 4 := by rw [hE1, if_neg hb, if_pos ⟨rfl, hd⟩]
    rw [if_neg (by rw [hv]; decide), hv] at hT
    exact hs 4 (by decide) hT
  have hd : d.size = 0 := emp.1 (by simpa using h)
  have hv : Cs.sayE (Cs.mk cl 2 iss isr gss gsr gar sv asks ⟨m1, opF f1⟩ wa le tr sy li outs) 3 ⟨m2, opF f2⟩ d = 0 := by rw [hE1, if_neg hb, if_neg (fun e => e.2 hd)]
  rw [if_pos hv] at hT
  refine t_need h24 (t_need h1p (t_need h24 (t_need h2p (t_ite (fun h' => ?_) fun h' => t_leaf ?_))))
  · have hlt : outs.length < 50 := by simp only [decide_eq_true_eq] at h'; omega
    repeat' (first | (with_reducible refine t_need ?_ ?_) | (with_reducible refine t_leaf ?_))
    all_goals first
      | (refine ⟨?_, ?_⟩ <;> omega)
      | (exact allOne_cons' rfl allOne_nil')
      | skip
    subst hcatf
    refine ⟨(Cs.send (Cs.mk cl 2 iss isr gss gsr gar sv asks ⟨m1, opF f1⟩ wa le tr sy li outs) 3 ((OL.mk m1 (opF f1)).cat ⟨m2, opF f2⟩) d gsr 0 (min (max ra 0) 15)), _, _, hr0.trans hT.symm, rfl, _, _, _, _, _, _, _, _, _, _, _, _, _, _, _, _, rfl, .inl ⟨rfl, fun B hB => by simp only [SV.tos, SV.to, hB]; rfl⟩, .inr ⟨_, _, 5, rfl, send_room hlt, fun B u hu => ?_, tells_c hop1 hop2 rfl⟩⟩
    simp only [SV.tos, SV.to, hu]; rfl
  · have hlt : ¬ outs.length < 50 := by simp only [decide_eq_false_iff_not] at h'; omega
    exact ⟨(Cs.send (Cs.mk cl 2 iss isr gss gsr gar sv asks ⟨m1, opF f1⟩ wa le tr sy li outs) 3 ((OL.mk m1 (opF f1)).cat ⟨m2, opF f2⟩) d gsr 0 (min (max ra 0) 15)), _, _, hr0.trans hT.symm, rfl, _, _, _, _, _, _, _, _, _, _, _, _, _, _, _, _, rfl, .inl ⟨rfl, fun B hB => by simp only [SV.tos, SV.to, hB]; rfl⟩, que_same rfl (send_full hlt) rfl⟩
set_option maxRecDepth 100000 in
theorem sayX_tree (c : Cs) (ua ug : Value) (n : Nat) (xs : List Value) (k : Int) (m1 m2 : Nat) (f1 f2 : Nat → Nat → Value) (d : ByteArray) (ra : Int) (hn : n = c.outs.length) (hb : ¬ c.mayK k = 0) :
    (canT 4 (runF Tryz.prog (CXe Tryz.prog (CdFn.mk Tryz.f95 Tryz.f14 Tryz.f57 Tryz.f35 Tryz.f58 Tryz.f68 Tryz.f66 Tryz.f36 Tryz.f54 Tryz.f69 Tryz.f59 Tryz.f63 Tryz.f65 Tryz.f61)) noL Tryz.f26 (Tryz.f26.body.getD .skip) [.ptr 0 0, .v (.int .i64 k), .ref 3, .v (.string d), .v (.int .i64 ra)] [.own (csS c (.v (.int .i64 c.st)) (.v ua) (.ref 2) (.ref 1)), .vec false 36 13 n xs, .row m1 2 f1, .row m2 2 f2])).ok (SayG (c.sayP k ⟨m2, opF f2⟩ d ra) c xs ua ug (fun B => B[2]? = some ug)) := by
  rw [sayX_run c ua ug n xs k m1 m2 f1 f2 d ra]
  have hsay : ∀ e, c.mayK k = e → c.sayP k ⟨m2, opF f2⟩ d ra = (c, 0, e) := by
    intro e he
    have hv : c.sayE k ⟨m2, opF f2⟩ d = e := by unfold Cs.sayE; rw [if_pos hb, he]
    unfold Cs.sayP
    rw [if_neg (by rw [hv, ← he]; exact hb), hv]
  have hleaf : ∀ e, c.mayK k = e → SayG (c.sayP k ⟨m2, opF f2⟩ d ra) c xs ua ug (fun B => B[2]? = some ug) (.v (.tuple #[.int .i64 0, .int .i64 e]), [.own (csS c (.v (.int .i64 c.st)) (.v ua) (.ref 2) (.ref 1)), .vec false 36 13 n xs, .row m1 2 f1, .row m2 2 f2]) := fun e he =>
    ⟨c, 0, e, hsay e he, rfl, _, _, _, _, _, _, _, _, _, _, _, _, _, _, _, 1, rfl, .inl ⟨rfl, fun B hB => by simp only [SV.tos, SV.to, hB]; rfl⟩, que_same rfl rfl hn⟩
  unfold Cs.mayK at hb hleaf
  by_cases hk : k = 2 ∨ k = 3 ∨ k = 4
  · rw [if_neg (not_not_intro hk)] at hb hleaf
    by_cases ho : c.st = 3 ∨ c.st = 2 ∧ k = 3
    · rw [if_pos ho] at hb; exact absurd rfl hb
    rw [if_neg ho] at hb hleaf
    have h10 := hleaf 10 rfl
    have e3 : ¬ c.st = 3 := fun h => ho (.inl h)
    have e2 : c.st = 2 → ¬ k = 3 := fun h h' => ho (.inr ⟨h, h'⟩)
    repeat' (first | (with_reducible refine t_ite ?_ ?_; all_goals intro h) | (with_reducible refine t_leaf ?_))
    all_goals first
      | exact h10
      | (exfalso; simp only [Bool.not_eq_true', Bool.not_eq_false', decide_eq_true_eq, decide_eq_false_iff_not] at *; omega)
      | (exfalso; simp_all; done)
  · rw [if_pos hk] at hb hleaf
    have h7 := hleaf 7 rfl
    repeat' (first | (with_reducible refine t_ite ?_ ?_; all_goals intro h) | (with_reducible refine t_leaf ?_))
    all_goals first
      | exact h7
      | (exfalso; simp only [Bool.not_eq_true', Bool.not_eq_false', decide_eq_true_eq, decide_eq_false_iff_not] at *; omega)
      | (exfalso; simp_all; done)
set_option maxRecDepth 100000 in
theorem greetX_tree (c : Cs) (ua ug : Value) (n : Nat) (xs : List Value) (m : Nat) (f : Nat → Nat → Value) (hst : ¬ c.st = 2) (hn : n = c.outs.length) :
    (canT 3 (runF Tryz.prog (CXe Tryz.prog (CdFn.mk Tryz.f95 Tryz.f14 Tryz.f57 Tryz.f35 Tryz.f58 Tryz.f68 Tryz.f66 Tryz.f36 Tryz.f54 Tryz.f69 Tryz.f59 Tryz.f63 Tryz.f65 Tryz.f61)) noL Tryz.f22 (Tryz.f22.body.getD .skip) [.ptr 0 0, .ref 2] [.own (csS c (.v (.int .i64 c.st)) (.v ua) (.v ug) (.ref 1)), .vec false 36 13 n xs, .row m 2 f])).ok (ErrG (c.greet ⟨m, opF f⟩) c xs ua ug (fun _ => True)) := by
  rw [greetX_run c ua ug n xs m f]
  refine t_ite (fun _ => t_leaf ?_) fun h => absurd (by simpa using h) hst
  exact ⟨c, 10, by unfold Cs.greet; rw [if_neg hst], rfl, _, _, _, _, _, _, _, _, _, _, _, _, _, _, _, 1, rfl, .inl ⟨rfl, fun B _ => rfl⟩, que_same rfl rfl hn⟩
structure ConnW (w : World) (k : Nat) (c : Cs) (ua ug uo : Value) (xs : List Value) : Prop where
  own : Own w k (csV15 c ua ug ++ [uo]).toArray
  q : VecSat w 36 13 uo c.outs.length xs
  sep : blockOf uo ≠ some k
def bsOf (k : Nat) (uo : Value) : List Nat := k :: (blockOf uo).toList
theorem bsOf_mem {k : Nat} {uo : Value} {b : Nat} : b ∈ bsOf k uo ↔ b = k ∨ blockOf uo = some b := by
  unfold bsOf
  rw [List.mem_cons, Option.mem_toList]
theorem mem_conn {w : World} {k : Nat} {c : Cs} {ua ug uo : Value} {xs : List Value} (h : ConnW w k c ua ug uo xs) {cells : List SV} (hc : ∀ B : List Value, B[1]? = some uo → SV.tos B cells = some (csV15 c ua ug ++ [uo])) :
    Mem w (bsOf k uo) [.own cells, .vec false 36 13 c.outs.length xs] [.pointer (some ⟨k, 0, none⟩), uo] w := by
  have ex : ∀ j b, ExBlk [.own cells, .vec false 36 13 c.outs.length xs] [.pointer (some ⟨k, 0, none⟩), uo] j b → (j = 0 ∧ b = k) ∨ (j = 1 ∧ blockOf uo = some b) := by
    rintro j b ⟨x, u, h1, h2, h3, h4⟩
    match j with
    | 0 =>
      simp only [List.getElem?_cons_zero, Option.some.injEq] at h3
      subst h3
      simp only [blockOf, Option.some.injEq] at h4
      exact .inl ⟨rfl, h4.symm⟩
    | 1 =>
      simp only [List.getElem?_cons_succ, List.getElem?_cons_zero, Option.some.injEq] at h3
      subst h3
      exact .inr ⟨rfl, h4⟩
    | j + 2 => simp at h1
  refine ⟨⟨rfl, fun j x u h1 h2 => ?_, fun j j' b h1 h2 => ?_, fun j j' b h1 h2 => ?_⟩, .refl _ _, fun j b h1 => ?_⟩
  · match j with
    | 0 =>
      simp only [List.getElem?_cons_zero, Option.some.injEq] at h1 h2
      subst h1 h2
      exact ⟨k, _, rfl, hc _ rfl, h.own⟩
    | 1 =>
      simp only [List.getElem?_cons_succ, List.getElem?_cons_zero, Option.some.injEq] at h1 h2
      subst h1 h2
      exact h.q
    | j + 2 => simp at h1
  · rcases ex _ _ h1 with ⟨rfl, rfl⟩ | ⟨rfl, e1⟩ <;> rcases ex _ _ h2 with ⟨rfl, e2⟩ | ⟨rfl, e2⟩
    · rfl
    · exact absurd e2 h.sep
    · rw [e2] at e1; exact absurd e1 h.sep
    · rfl
  · obtain ⟨m, sz, f, u, g1, -⟩ := h2
    match j' with
    | 0 => simp at g1
    | 1 => simp at g1
    | j' + 2 => simp at g1
  · refine .inl (bsOf_mem.2 ?_)
    rcases ex _ _ h1 with ⟨-, rfl⟩ | ⟨-, e1⟩
    · exact .inl rfl
    · exact .inr e1
theorem mem_row3 {w : World} {bs : List Nat} {H : List Blk} {B : List Value} {m : Nat} {f : Nat → Nat → Value} {o : Value} (hm : Mem w bs H B w) (hr : ∀ B, BlkSat B w o (.row m 2 f)) (ha : 0 < m → ∀ b, blockOf o = some b → ∀ j, ¬ ExBlk H B j b) : Mem w bs (H ++ [.row m 2 f]) (B ++ [o]) w := by
  have hpre : B <+: B ++ [o] := List.prefix_append _ _
  refine ⟨⟨by simp [hm.sat.len], fun j y v hj hvj => ?_, fun i j b hi hj => ?_, fun i j b hi hj => ?_⟩, hm.keeps, fun i b hi => ?_⟩
  · rcases getElem?_concat _ _ _ hj with g | ⟨rfl, rfl⟩
    · have hkl := (List.getElem?_eq_some_iff.1 g).1
      rw [List.getElem?_append_left (by rw [hm.sat.len]; exact hkl)] at hvj
      exact (hm.sat.blk j y v g hvj).mono hpre
    · rw [← hm.sat.len, List.getElem?_concat_length, Option.some.injEq] at hvj
      subst hvj
      exact hr _
  · rcases ex_concat hm.sat.len hi with g | ⟨_, g, _⟩
    · rcases ex_concat hm.sat.len hj with g' | ⟨_, g', _⟩
      · exact hm.sat.sep i j b g g'
      · cases g'
    · cases g
  · rcases ex_concat hm.sat.len hi with g | ⟨_, g, _⟩
    · rcases rd_concat hm.sat.len hj with g' | ⟨rfl, _, g'⟩
      · exact hm.sat.far i j b g g'
      · obtain ⟨n', sz', f', u', h1', h2', h3', h4', h5'⟩ := hj
        simp only [List.getElem?_concat_length, Option.some.injEq, Blk.row.injEq] at h1'
        obtain ⟨rfl, rfl, -⟩ := h1'
        exact ha h2' b g' i g
    · cases g
  · rcases ex_concat hm.sat.len hi with g | ⟨_, g, _⟩
    · exact hm.good i b g
    · cases g
end Go.Proofs.YtopeaafcepgnhaaGreat
namespace Go.Proofs.YtopeaafcepgnhaaGreat
open Go.RowKit Sym
structure NilNew (c0 c' : Cs) : Prop where
  asks : c'.asks = c0.asks
  greets : c'.greets = c0.greets
  outs : ∃ l : List QP, c'.outs = c0.outs ++ l ∧ ∀ q ∈ l, q.o = OL.nil
namespace NilNew
theorem same {c0 c' : Cs} (h1 : c'.asks = c0.asks) (h2 : c'.greets = c0.greets) (h3 : c'.outs = c0.outs) : NilNew c0 c' := ⟨h1, h2, [], by rw [List.append_nil]; exact h3, fun q hq => by cases hq⟩
theorem refl (c : Cs) : NilNew c c := .same rfl rfl rfl
theorem trans {a b c : Cs} (h : NilNew a b) (k : NilNew b c) : NilNew a c := by
  obtain ⟨l, e1, e2⟩ := h.outs
  obtain ⟨m, e3, e4⟩ := k.outs
  refine ⟨k.asks.trans h.asks, k.greets.trans h.greets, l ++ m, by rw [e3, e1, List.append_assoc], fun q hq => ?_⟩
  rcases List.mem_append.1 hq with h | h
  · exact e2 q h
  · exact e4 q h
theorem send (c : Cs) (k : Int) (d : ByteArray) (ack cd cc : Int) : NilNew c (c.send k OL.nil d ack cd cc) := by
  by_cases h : c.outs.length < 50
  · exact ⟨rfl, rfl, [_], if_pos h, fun q hq => by rw [List.mem_singleton] at hq; subst hq; rfl⟩
  · exact .same rfl rfl (if_neg h)
theorem fin (c : Cs) (s : Int) : NilNew c (c.fin s) := .same rfl rfl rfl
theorem rest (c : Cs) (s : Int) : NilNew c (c.rest s) := .same rfl rfl rfl
theorem wait (c : Cs) : NilNew c c.wait := .same rfl rfl rfl
theorem sayN {c : Cs} (h1 : ¬ c.st = 1) (h2 : ¬ c.st = 2) : NilNew c c.say := by
  unfold Cs.say
  rw [if_neg h1, if_neg h2]
  split
  · exact .send ..
  · exact .refl _
theorem close (c : Cs) : NilNew c c.close.1 := by
  unfold Cs.close
  split
  · refine .trans (b := ({ c with st := 4 } : Cs)) (.same rfl rfl rfl) (.trans (.sayN ?_ ?_) (.wait _))
    · show ¬ (4 : Int) = 1; decide
    · show ¬ (4 : Int) = 2; decide
  · exact .refl _
theorem abort (c : Cs) (code : Int) : NilNew c (c.abort code).1 := by
  unfold Cs.abort
  split
  · exact .refl _
  · split
    · exact .fin _ _
    · exact .trans (.send ..) (.fin _ _)
theorem tick {c : Cs} (h1 : ¬ c.st = 1) (h2 : ¬ c.st = 2) : NilNew c c.tick.1 := by
  unfold Cs.tick
  dsimp only
  split
  · split
    · exact .same rfl rfl rfl
    · exact .same rfl rfl rfl
  split
  · exact .same rfl rfl rfl
  split
  · exact .same rfl rfl rfl
  split
  · refine .trans (b := ({ c with sy := false, wa := min (2 * c.wa) 64, le := min (2 * c.wa) 64, tr := c.tr + 1 } : Cs)) (.same rfl rfl rfl) (.sayN h1 h2)
  · exact .same rfl rfl rfl
theorem answered (c : Cs) (p : Pk) : NilNew c (c.answered p).1 := by
  unfold Cs.answered
  split
  · exact .refl _
  split
  · exact .refl _
  split
  · exact .fin _ _
  split
  · exact .refl _
  · exact .same rfl rfl rfl
theorem open' (c : Cs) (k : Int) : NilNew c (c.open' k) := by
  unfold Cs.open'
  split
  · exact .rest _ _
  · exact .refl _
theorem turn (c : Cs) (k s : Int) : NilNew c (c.turn k s) := by
  unfold Cs.turn
  split
  · exact .send ..
  split
  · refine .trans (b := ({ c with st := 4 } : Cs)) (.same rfl rfl rfl) (.trans (.sayN ?_ ?_) (.wait _))
    · show ¬ (4 : Int) = 1; decide
    · show ¬ (4 : Int) = 2; decide
  split
  · exact .trans (.send ..) (.fin _ _)
  split
  · exact .fin _ _
  · exact .refl _
theorem came (c : Cs) (k s a : Int) : NilNew c (c.came k s a) := .same rfl rfl rfl
theorem taken (c : Cs) (k s a : Int) : NilNew c (c.taken k s a).1 := by
  unfold Cs.taken
  split
  · exact .trans (.came c k s a) (.trans (.open' _ k) (.turn _ k s))
  · split
    · exact .trans (b := ({ c with sy := true } : Cs)) (.same rfl rfl rfl) (.send ..)
    · exact .refl _
theorem take (c : Cs) (p : Pk) (o : OL) : NilNew c (c.take p o).1 := by
  unfold Cs.take
  split
  · exact .refl _
  split
  · exact .refl _
  split
  · exact .answered c p
  · exact .taken ..
end NilNew
theorem sayP_keeps (c : Cs) (k : Int) (l : OL) (d : ByteArray) (r : Int) : (c.sayP k l d r).1.asks = c.asks ∧ (c.sayP k l d r).1.greets = c.greets := by
  unfold Cs.sayP
  split <;> exact ⟨rfl, rfl⟩
theorem say_keeps (c : Cs) : c.say.asks = c.asks ∧ c.say.greets = c.greets := by
  unfold Cs.say
  split
  · exact ⟨rfl, rfl⟩
  split
  · exact ⟨rfl, rfl⟩
  split <;> exact ⟨rfl, rfl⟩
theorem greet_keeps (c : Cs) (l : OL) : (c.greet l).1.asks = c.asks := by
  unfold Cs.greet
  split
  · split
    · exact (say_keeps _).1
    · rfl
  · rfl
theorem tick_keeps (c : Cs) : c.tick.1.asks = c.asks ∧ c.tick.1.greets = c.greets := by
  by_cases h : c.st = 1 ∨ c.st = 2
  · unfold Cs.tick
    dsimp only
    rw [if_neg (by rcases h with h | h <;> rw [h] <;> decide)]
    split
    · exact ⟨rfl, rfl⟩
    split
    · exact ⟨rfl, rfl⟩
    split
    · exact say_keeps _
    split <;> exact ⟨rfl, rfl⟩
  · have := NilNew.tick (fun e => h (.inl e)) (fun e => h (.inr e))
    exact ⟨this.asks, this.greets⟩
end Go.Proofs.YtopeaafcepgnhaaGreat
namespace Go.Proofs.YtopeaafcepgnhaaGreat
open Go.RowKit Sym Go.ChangeShapes Go.WideShapes Go.ChangeMaps
def fR (o : OL) : Nat → Nat → Value := fun i j => (o.g i).c j
theorem opF_fR (o : OL) : opF (fR o) = o.g := funext fun i => by
  show (⟨intV ((o.g i).c 0), strV ((o.g i).c 1)⟩ : Op) = o.g i
  cases o.g i; rfl
theorem allOp_fR (o : OL) : AllOp o.n (fR o) := fun i _ j hj => by rw [opF_fR]; rfl
def OL.few (o : OL) : Prop := Few o.n o.g
theorem opP_fR {o : OL} (h : o.few) : OpP o.n (fR o) := ⟨allOp_fR o, by rw [opF_fR]; exact h⟩
theorem eta_fR (o : OL) : (⟨o.n, opF (fR o)⟩ : OL) = o := by rw [opF_fR]
structure RowO (w : World) (bad : List Nat) (u : Value) (o : OL) : Prop where
  row : ∀ B, BlkSat B w u (.row o.n 2 (fR o))
  far : 0 < o.n → ∀ b, blockOf u = some b → b ∉ bad
theorem RowO.lt {w : World} {bad : List Nat} {u : Value} {o : OL} (h : RowO w bad u o) (hn : 0 < o.n) {b : Nat} (hb : blockOf u = some b) : b < w.heap.size := by
  obtain ⟨p, cap, rfl, h1, h2, h3⟩ := h.row []
  obtain ⟨a, rfl, hc⟩ := h3 0 0 hn (by decide)
  have := cell_lt hc
  rw [addr_add_block] at this
  simp only [blockOf, Option.some.injEq] at hb
  exact hb ▸ this
theorem RowO.kept {w w' : World} {bs bad bad' : List Nat} {u : Value} {o : OL} (h : RowO w bad u o) (hk : Keeps bs w w') (h1 : ∀ b ∈ bs, b ∈ bad) (h2 : ∀ b ∈ bad', b ∈ bad ∨ w.heap.size ≤ b) : RowO w' bad' u o := by
  refine ⟨fun B => ?_, fun hn b hb hm => ?_⟩
  · by_cases hn : 0 < o.n
    · exact (h.row B).kept hk.size fun b hb hl => hk.block b hl fun hm => h.far hn b hb (h1 b hm)
    · obtain ⟨p, cap, rfl, g1, g2, -⟩ := h.row B
      exact ⟨p, cap, rfl, g1, g2, fun i j hi => absurd (Nat.lt_of_le_of_lt (Nat.zero_le _) hi) hn⟩
  · rcases h2 b hm with g | g
    · exact h.far hn b hb g
    · exact absurd (h.lt hn hb) (Nat.not_lt.2 g)
theorem rowO_nil (w : World) (bad : List Nat) : RowO w bad (.slice none 0 0) OL.nil :=
  ⟨fun B => ⟨none, 0, rfl, Nat.le_refl _, Nat.zero_le _, fun i j hi => absurd hi (Nat.not_lt_zero _)⟩, fun hn => absurd hn (Nat.lt_irrefl 0)⟩
theorem rowO_vec {w : World} {bad : List Nat} {u : Value} {o : OL} {f' : Nat → Nat → Value} (h : VecSat w 64 2 u o.n (rowCells o.n 2 f')) (e : ∀ a b, a < o.n → b < 2 → f' a b = (o.g a).c b) (hb : ∀ b, blockOf u = some b → b ∉ bad) : RowO w bad u o := by
  refine ⟨fun B => ?_, fun _ => hb⟩
  rcases h.view.2 with ⟨rfl, hn⟩ | ⟨g, cap, rfl, hg, h1, h2, h3⟩
  · exact ⟨none, 0, by rw [hn], by omega, Nat.zero_le _, fun i j hi => absurd hi (by omega)⟩
  · refine ⟨some ⟨g, 0, none⟩, cap, rfl, h1, h2, fun i j hi hj => ⟨_, rfl, ?_⟩⟩
    have hij : i * 2 + j < o.n * 2 := by omega
    have hc := (h3 _ hij).1
    have ha : (Addr.mk g 0 none).add (i * 2 + j) = ⟨g, i * 2 + j, none⟩ := by simp [Addr.add]; omega
    rw [ha, hc]
    have hlt : i * 2 + j < (rowCells o.n 2 f').length := by rw [rowCells_length]; exact hij
    obtain ⟨-, -, e3⟩ := rowCells_get _ _ _ (List.getElem?_eq_getElem hlt)
    rw [List.getElem?_eq_getElem hlt, e3, show (i * 2 + j) / 2 = i by omega, show (i * 2 + j) % 2 = j by omega, e i j hi hj]
    try rfl
def flatQ (qs : List (QP × Value)) : List Value := qs.flatMap fun q => q.1.p.l q.2
structure CW (w : World) (X : List Nat) (k : Nat) (uo : Value) (c : Cs) (ua ug : Value) (qs : List (QP × Value)) : Prop where
  conn : ConnW w k c ua ug uo (flatQ qs)
  fst : qs.map (·.1) = c.outs
  asks : RowO w (bsOf k uo ++ X) ua c.asks
  greets : RowO w (bsOf k uo ++ X) ug c.greets
  opts : ∀ q ∈ qs, RowO w (bsOf k uo ++ X) q.2 q.1.o
  old : ∀ x ∈ X, x < w.heap.size ∧ x ∉ bsOf k uo
def CSat (w : World) (X : List Nat) (k : Nat) (uo : Value) (c : Cs) : Prop := ∃ ua ug qs, CW w X k uo c ua ug qs
def CPost (w : World) (X : List Nat) (k : Nat) (uo : Value) (c' : Cs) (w' : World) : Prop := ∃ uo', CSat w' X k uo' c' ∧ Keeps (bsOf k uo) w w' ∧ ∀ b, blockOf uo' = some b → blockOf uo = some b ∨ w.heap.size ≤ b
theorem off_offG {c0 c' : Cs} {xs : List Value} {ua ug : Value} {E : List Value → Prop} {H' : List Blk} (hn : NilNew c0 c') (h : Off c0 xs ua ug H' c') : OffG c0 xs ua ug E H' c' := by
  obtain ⟨a0, a1, a2, a3, a4, a5, a6, a7, a8, a9, a10, a11, a12, a13, a14, j, n', xs', h1, h2, h3, h4, h5⟩ := h
  exact ⟨a0, a1, a2, a3, a4, a5, a6, a7, a8, a9, a10, a11, a12, a13, a14, j, h1, .inl ⟨hn.greets, fun B _ => h2 B⟩, .inl ⟨n', xs', h3, h4, h5, hn.outs⟩⟩
theorem nil_cells (l : List QP) (h : ∀ q ∈ l, q.o = OL.nil) : flatN l = flatQ (l.map fun q => (q, .slice none 0 0)) := by
  induction l with
  | nil => rfl
  | cons a l ih =>
    show a.p.l _ ++ flatN l = a.p.l _ ++ flatQ _
    rw [ih fun q hq => h q (List.mem_cons_of_mem _ hq)]
theorem flatQ_append (a b : List (QP × Value)) : flatQ (a ++ b) = flatQ a ++ flatQ b := List.flatMap_append ..
theorem off_g {w w' : World} {X : List Nat} {k : Nat} {c0 c' : Cs} {ua ug uo : Value} {qs : List (QP × Value)} {E : List Value → Prop} {H' : List Blk} {B B' : List Value} (hc : CW w X k uo c0 ua ug qs) (hm : Mem w (bsOf k uo) H' B' w') (hp : B <+: B') (hb : B[0]? = some (.pointer (some ⟨k, 0, none⟩))) (hE : E B') (hA : c'.asks = c0.asks) (ho : OffG c0 (flatQ qs) ua ug E H' c') : CPost w X k uo c' w' := by
  obtain ⟨a0, a1, a2, a3, a4, a5, a6, a7, a8, a9, a10, a11, a12, a13, a14, j, h1, h2, h3⟩ := ho
  obtain ⟨b, us, g1, g2, g3⟩ := hm.own_at h1
  have hb' : B'[0]? = some (.pointer (some ⟨k, 0, none⟩)) := getElem?_prefix hp hb
  rw [g1] at hb'
  simp only [Option.some.injEq, Value.pointer.injEq, Addr.mk.injEq, and_true] at hb'
  subst hb'
  obtain ⟨y, hy, hyx⟩ : ∃ y, H'[j]? = some y ∧ y.excl = true := by
    rcases h3 with ⟨n', xs', h3, -⟩ | ⟨q, cells, i, h3, -⟩ <;> exact ⟨_, h3, rfl⟩
  obtain ⟨uq, hq⟩ := hm.sat.getB hy
  have hj : j ≠ 0 := by
    intro e
    rw [e, h1] at hy
    rcases h3 with ⟨n', xs', h3, -⟩ | ⟨q, cells, i, h3, -⟩ <;> (rw [e, h1] at h3; cases h3)
  have hne : blockOf uq ≠ some b := fun e => hj (hm.sat.sep j 0 b ⟨_, _, hy, hyx, hq, e⟩ ⟨_, _, h1, rfl, g1, rfl⟩)
  have hnew : ∀ b', blockOf uq = some b' → blockOf uo = some b' ∨ w.heap.size ≤ b' := by
    intro b' hb'
    rcases hm.good j b' ⟨_, _, hy, hyx, hq, hb'⟩ with g | g
    · rcases bsOf_mem.1 g with rfl | g
      · exact absurd hb' hne
      · exact .inl g
    · exact .inr g
  have hbad : ∀ x ∈ bsOf b uq, x ∈ bsOf b uo ∨ w.heap.size ≤ x := by
    intro x hx
    rcases bsOf_mem.1 hx with rfl | hx
    · exact .inl (bsOf_mem.2 (.inl rfl))
    · rcases hnew x hx with g | g
      · exact .inl (bsOf_mem.2 (.inr g))
      · exact .inr g
  have hbad2 : ∀ x ∈ bsOf b uq ++ X, x ∈ bsOf b uo ++ X ∨ w.heap.size ≤ x := by
    intro x hx
    rcases List.mem_append.1 hx with hx | hx
    · rcases hbad x hx with g | g
      · exact .inl (List.mem_append.2 (.inl g))
      · exact .inr g
    · exact .inl (List.mem_append.2 (.inr hx))
  have hold : ∀ x ∈ X, x < w'.heap.size ∧ x ∉ bsOf b uq := by
    intro x hx
    obtain ⟨o1, o2⟩ := hc.old x hx
    refine ⟨Nat.lt_of_lt_of_le o1 hm.keeps.size, fun g => ?_⟩
    rcases hbad x g with g | g
    · exact o2 g
    · exact absurd o1 (Nat.not_lt.2 g)
  have hkeep : ∀ {u : Value} {o : OL}, RowO w (bsOf b uo ++ X) u o → RowO w' (bsOf b uq ++ X) u o := fun h => h.kept hm.keeps (fun _ h => List.mem_append.2 (.inl h)) hbad2
  -- a letter of new options
  have hrow : ∀ {i : Nat} {o : OL}, RowTells H' i o → ∃ u, B'[i]? = some u ∧ RowO w' (bsOf b uq ++ X) u o := by
    intro i o ⟨f', hf, he⟩
    obtain ⟨u, hu⟩ := hm.sat.getB hf
    refine ⟨u, hu, rowO_vec (hm.sat.blk i _ u hf hu) he fun b' hb' hx => ?_⟩
    have hex : ExBlk H' B' i b' := ⟨_, _, hf, rfl, hu, hb'⟩
    rcases List.mem_append.1 hx with hx | hx
    rotate_left
    · obtain ⟨o1, o2⟩ := hc.old b' hx
      rcases hm.good i b' hex with g | g
      · exact o2 g
      · exact absurd o1 (Nat.not_lt.2 g)
    rcases bsOf_mem.1 hx with rfl | hx
    · have := hm.sat.sep i 0 b' hex ⟨_, _, h1, rfl, g1, rfl⟩
      rw [this, h1] at hf
      cases hf
    · have hij := hm.sat.sep i j b' hex ⟨_, _, hy, hyx, hq, hx⟩
      subst hij
      rcases h3 with ⟨n', xs', h3, -⟩ | ⟨q, cells, i', h3, -⟩ <;> (rw [hf] at h3; simp only [Option.some.injEq, Blk.vec.injEq, reduceCtorEq] at h3)
      · exact absurd h3.2.1 (by decide)
  obtain ⟨ug', hcell, hgr⟩ : ∃ ug', SV.tos B' [a0, a1, a2, a3, a4, a5, a6, a7, a8, a9, a10, a11, a12, a13, a14] = some (csV15 c' ua ug') ∧ RowO w' (bsOf b uq ++ X) ug' c'.greets := by
    rcases h2 with ⟨e, h2⟩ | ⟨i, h2, h2'⟩
    · exact ⟨ug, h2 _ hE, by rw [e]; exact hkeep hc.greets⟩
    · obtain ⟨u, hu, hr⟩ := hrow h2'
      exact ⟨u, h2 _ u hu, hr⟩
  have hcells : SV.tos B' ([a0, a1, a2, a3, a4, a5, a6, a7, a8, a9, a10, a11, a12, a13, a14] ++ [.ref j]) = some (csV15 c' ua ug' ++ [uq]) := tos_append hcell (by simp only [SV.tos, SV.to, hq])
  have hus : us = csV15 c' ua ug' ++ [uq] := by
    have : SV.tos B' [a0, a1, a2, a3, a4, a5, a6, a7, a8, a9, a10, a11, a12, a13, a14, .ref j] = some us := g2
    rw [show [a0, a1, a2, a3, a4, a5, a6, a7, a8, a9, a10, a11, a12, a13, a14, SV.ref j] = [a0, a1, a2, a3, a4, a5, a6, a7, a8, a9, a10, a11, a12, a13, a14] ++ [.ref j] from rfl, hcells, Option.some.injEq] at this
    exact this.symm
  subst hus
  refine ⟨uq, ⟨ua, ug', ?_⟩, hm.keeps, hnew⟩
  rcases h3 with ⟨n', xs', h3, rfl, rfl, l, hl, hnil⟩ | ⟨q, cells, i, h3, hl, hq1, hq2⟩
  · have hv : VecSat w' 36 13 uq c'.outs.length _ := hm.sat.blk j _ uq h3 hq
    have hfl : flatQ qs ++ flatN (c'.outs.drop c0.outs.length) = flatQ (qs ++ l.map fun q => (q, .slice none 0 0)) := by
      rw [flatQ_append, hl, List.drop_left, nil_cells l hnil]
    rw [hfl] at hv
    refine ⟨_, ⟨g3, hv, hne⟩, ?_, by rw [hA]; exact hkeep hc.asks, hgr, fun x hx => ?_, hold⟩
    · rw [List.map_append, hc.fst, hl, List.map_map]
      congr 1
      exact List.map_id l
    · rcases List.mem_append.1 hx with hx | hx
      · exact hkeep (hc.opts x hx)
      · obtain ⟨q, hq, rfl⟩ := List.mem_map.1 hx
        show RowO w' _ (.slice none 0 0) q.o
        rw [hnil q hq]
        exact rowO_nil _ _
  · obtain ⟨u, hu, hr⟩ := hrow hq2
    obtain ⟨ys, hys, hv⟩ := hm.sat.blk j _ uq h3 hq
    rw [hq1 B' u hu, Option.some.injEq] at hys
    subst hys
    have hv : VecSat w' 36 13 uq (c0.outs.length + 1) (flatQ qs ++ q.p.l u) := hv
    have hfl : flatQ qs ++ q.p.l u = flatQ (qs ++ [(q, u)]) := by
      rw [flatQ_append]
      congr 1
    rw [hfl, show c0.outs.length + 1 = c'.outs.length by rw [hl, List.length_append]; rfl] at hv
    refine ⟨_, ⟨g3, hv, hne⟩, ?_, by rw [hA]; exact hkeep hc.asks, hgr, fun x hx => ?_, hold⟩
    · rw [List.map_append, hc.fst, hl]
      try rfl
    · rcases List.mem_append.1 hx with hx | hx
      · exact hkeep (hc.opts x hx)
      · rw [List.mem_singleton] at hx
        subst hx
        exact hr
attribute [local irreducible] canT
structure CInv (c : Cs) : Prop where
  st : 0 ≤ c.st ∧ c.st ≤ 5
  wait : WaitOk c.wa c.le c.tr
  li : 0 ≤ c.li ∧ c.li ≤ 16
  asks : c.asks.few ∧ c.asks.n ≤ 100
  greets : c.greets.few ∧ c.greets.n ≤ 100
  outs : ∀ q ∈ c.outs, q.o.few
theorem val_eq {s : SV} {B' : List Value} {x v : Value} (h0 : s.to [] = some v) (hx : s.to B' = some x) : x = v := by
  have h := SV.to_mono (B2 := B') List.nil_prefix h0
  rw [hx, Option.some.injEq] at h
  exact h
theorem mem_add_row {w : World} {X : List Nat} {k : Nat} {uo u : Value} {o : OL} {H : List Blk} {B : List Value} (hm : Mem w (bsOf k uo) H B w) (hr : RowO w (bsOf k uo ++ X) u o) : Mem w (bsOf k uo) (H ++ [.row o.n 2 (fR o)]) (B ++ [u]) w :=
  mem_row3 hm hr.row fun hn b hb j hx => by
    rcases hm.good j b hx with g | g
    · exact hr.far hn b hb (List.mem_append.2 (.inl g))
    · exact absurd (hr.lt hn hb) (Nat.not_lt.2 g)
theorem mem_cells {w : World} {bs : List Nat} {cells cells' : List SV} {H : List Blk} {B : List Value} {u : Value} (hm : Mem w bs (.own cells :: H) (u :: B) w) {vs : List Value} (h : SV.tos (u :: B) cells = some vs) (h' : SV.tos (u :: B) cells' = some vs) : Mem w bs (.own cells' :: H) (u :: B) w :=
  hm.upd (k := 0) (x := .own cells) (y := .own cells') (u := u) rfl rfl rfl (w' := w) ⟨rfl, rfl, rfl, Nat.le_refl _, fun _ _ _ => rfl⟩ rfl (by
    obtain ⟨b, us, h1, h2, h3⟩ := hm.sat.blk 0 _ u rfl rfl
    rw [h, Option.some.injEq] at h2
    subst h2
    exact ⟨b, vs, h1, h', h3⟩)
abbrev ptrV (k : Nat) : Value := .pointer (some ⟨k, 0, none⟩)
theorem conn_mem {w : World} {X : List Nat} {k : Nat} {uo ua ug : Value} {c : Cs} {qs : List (QP × Value)} (hc : CW w X k uo c ua ug qs) {st : SV} (hst : st = .v (.int .i64 c.st) ∨ st = .c (.int .i64 c.st)) : Mem w (bsOf k uo) [.own (csS c st (.v ua) (.v ug) (.ref 1)), .vec false 36 13 c.outs.length (flatQ qs)] [ptrV k, uo] w :=
  mem_conn hc.conn fun B hB => by
    rcases hst with rfl | rfl <;> (simp only [SV.tos, SV.to, hB]; rfl)
theorem tick_s0 {w : World} {X : List Nat} {k : Nat} {uo ua ug : Value} {c : Cs} {qs : List (QP × Value)} (hc : CW w X k uo c ua ug qs) (hi : CInv c) (hst : c.st = 0) : Calls Tryz.prog 24 #[ptrV k] w fun e w' => e = .returned (.bool c.tick.2) ∧ CPost w X k uo c.tick.1 w' := by
  have hm := conn_mem hc (st := .c (.int .i64 0)) (.inr (by rw [hst]))
  have ht := (tick0_tree c ua ug c.outs.length (flatQ qs) hst rfl hi.wait)
  refine (canT_okn CT_ok follows Tryz.func24 (by kernel_rfl) (lexAllF_ok (by kernel_rfl)) (noloops (by kernel_rfl)) ht rfl hm rfl).mono ?_
  rintro e w' ⟨s, H', B', x, ⟨c', v, he, h0, ho⟩, hp, rfl, hx, hm'⟩
  have hN := NilNew.tick (c := c) (by rw [hst]; decide) (by rw [hst]; decide)
  rw [he] at hN
  replace ho := off_offG (E := fun _ => True) hN ho
  rw [he]
  exact ⟨by rw [val_eq h0 hx], off_g hc hm' hp rfl trivial hN.asks ho⟩
theorem tick_s3 {w : World} {X : List Nat} {k : Nat} {uo ua ug : Value} {c : Cs} {qs : List (QP × Value)} (hc : CW w X k uo c ua ug qs) (hi : CInv c) (hst : c.st = 3) : Calls Tryz.prog 24 #[ptrV k] w fun e w' => e = .returned (.bool c.tick.2) ∧ CPost w X k uo c.tick.1 w' := by
  have hm := conn_mem hc (st := .c (.int .i64 3)) (.inr (by rw [hst]))
  have ht := (tick3_tree c ua ug c.outs.length (flatQ qs) hst rfl hi.wait)
  refine (canT_okn CT_ok follows Tryz.func24 (by kernel_rfl) (lexAllF_ok (by kernel_rfl)) (noloops (by kernel_rfl)) ht rfl hm rfl).mono ?_
  rintro e w' ⟨s, H', B', x, ⟨c', v, he, h0, ho⟩, hp, rfl, hx, hm'⟩
  have hN := NilNew.tick (c := c) (by rw [hst]; decide) (by rw [hst]; decide)
  rw [he] at hN
  replace ho := off_offG (E := fun _ => True) hN ho
  rw [he]
  exact ⟨by rw [val_eq h0 hx], off_g hc hm' hp rfl trivial hN.asks ho⟩
theorem tick_s4 {w : World} {X : List Nat} {k : Nat} {uo ua ug : Value} {c : Cs} {qs : List (QP × Value)} (hc : CW w X k uo c ua ug qs) (hi : CInv c) (hst : c.st = 4) : Calls Tryz.prog 24 #[ptrV k] w fun e w' => e = .returned (.bool c.tick.2) ∧ CPost w X k uo c.tick.1 w' := by
  have hm := conn_mem hc (st := .c (.int .i64 4)) (.inr (by rw [hst]))
  have ht := (tick4_tree c ua ug c.outs.length (flatQ qs) hst rfl hi.wait)
  refine (canT_okn CT_ok follows Tryz.func24 (by kernel_rfl) (lexAllF_ok (by kernel_rfl)) (noloops (by kernel_rfl)) ht rfl hm rfl).mono ?_
  rintro e w' ⟨s, H', B', x, ⟨c', v, he, h0, ho⟩, hp, rfl, hx, hm'⟩
  have hN := NilNew.tick (c := c) (by rw [hst]; decide) (by rw [hst]; decide)
  rw [he] at hN
  replace ho := off_offG (E := fun _ => True) hN ho
  rw [he]
  exact ⟨by rw [val_eq h0 hx], off_g hc hm' hp rfl trivial hN.asks ho⟩
theorem tick_s5 {w : World} {X : List Nat} {k : Nat} {uo ua ug : Value} {c : Cs} {qs : List (QP × Value)} (hc : CW w X k uo c ua ug qs) (hi : CInv c) (hst : c.st = 5) : Calls Tryz.prog 24 #[ptrV k] w fun e w' => e = .returned (.bool c.tick.2) ∧ CPost w X k uo c.tick.1 w' := by
  have hm := conn_mem hc (st := .c (.int .i64 5)) (.inr (by rw [hst]))
  have ht := (tick5_tree c ua ug c.outs.length (flatQ qs) hst rfl hi.li)
  refine (canT_okn CT_ok follows Tryz.func24 (by kernel_rfl) (lexAllF_ok (by kernel_rfl)) (noloops (by kernel_rfl)) ht rfl hm rfl).mono ?_
  rintro e w' ⟨s, H', B', x, ⟨c', v, he, h0, ho⟩, hp, rfl, hx, hm'⟩
  have hN := NilNew.tick (c := c) (by rw [hst]; decide) (by rw [hst]; decide)
  rw [he] at hN
  replace ho := off_offG (E := fun _ => True) hN ho
  rw [he]
  exact ⟨by rw [val_eq h0 hx], off_g hc hm' hp rfl trivial hN.asks ho⟩
theorem tick_s1 {w : World} {X : List Nat} {k : Nat} {uo ua ug : Value} {c : Cs} {qs : List (QP × Value)} (hc : CW w X k uo c ua ug qs) (hi : CInv c) (hst : c.st = 1) : Calls Tryz.prog 24 #[ptrV k] w fun e w' => e = .returned (.bool c.tick.2) ∧ CPost w X k uo c.tick.1 w' := by
  have hm0 := mem_add_row (conn_mem hc (st := .c (.int .i64 1)) (.inr (by rw [hst]))) hc.asks
  have hm : Mem w (bsOf k uo) [.own (csS c (.c (.int .i64 1)) (.ref 2) (.v ug) (.ref 1)), .vec false 36 13 c.outs.length (flatQ qs), .row c.asks.n 2 (fR c.asks)] [ptrV k, uo, ua] w := mem_cells (vs := [.bool c.cl, .int .i64 1, .int .i64 c.iss, .int .i64 c.isr, .int .i64 c.gss, .int .i64 c.gsr, .int .i64 c.gar, .int .i64 c.sv, ua, ug, .int .i64 c.wa, .int .i64 c.le, .int .i64 c.tr, .bool c.sy, .int .i64 c.li, uo]) hm0 rfl rfl
  have ht := (tick1_tree c ua ug c.outs.length (flatQ qs) c.asks.n (fR c.asks) hst rfl hi.wait (opP_fR hi.asks.1) (eta_fR c.asks).symm)
  refine (canT_okn CU_ok follows Tryz.func24 (by kernel_rfl) (lexAllF_ok (by kernel_rfl)) (noloops (by kernel_rfl)) ht rfl hm rfl).mono ?_
  rintro e w' ⟨s, H', B', x, ⟨c', v, he, h0, ho⟩, hp, rfl, hx, hm'⟩
  have hA : c'.asks = c.asks := by have h := (tick_keeps c).1; rw [he] at h; exact h
  rw [he]
  exact ⟨by rw [val_eq h0 hx], off_g hc hm' hp rfl (getElem?_prefix hp rfl) hA ho⟩
theorem tick_s2 {w : World} {X : List Nat} {k : Nat} {uo ua ug : Value} {c : Cs} {qs : List (QP × Value)} (hc : CW w X k uo c ua ug qs) (hi : CInv c) (hst : c.st = 2) : Calls Tryz.prog 24 #[ptrV k] w fun e w' => e = .returned (.bool c.tick.2) ∧ CPost w X k uo c.tick.1 w' := by
  have hm0 := mem_add_row (conn_mem hc (st := .c (.int .i64 2)) (.inr (by rw [hst]))) hc.greets
  have hm : Mem w (bsOf k uo) [.own (csS c (.c (.int .i64 2)) (.v ua) (.ref 2) (.ref 1)), .vec false 36 13 c.outs.length (flatQ qs), .row c.greets.n 2 (fR c.greets)] [ptrV k, uo, ug] w := mem_cells (vs := [.bool c.cl, .int .i64 2, .int .i64 c.iss, .int .i64 c.isr, .int .i64 c.gss, .int .i64 c.gsr, .int .i64 c.gar, .int .i64 c.sv, ua, ug, .int .i64 c.wa, .int .i64 c.le, .int .i64 c.tr, .bool c.sy, .int .i64 c.li, uo]) hm0 rfl rfl
  have ht := (tick2_tree c ua ug c.outs.length (flatQ qs) c.greets.n (fR c.greets) hst rfl hi.wait (opP_fR hi.greets.1) (eta_fR c.greets).symm)
  refine (canT_okn CU_ok follows Tryz.func24 (by kernel_rfl) (lexAllF_ok (by kernel_rfl)) (noloops (by kernel_rfl)) ht rfl hm rfl).mono ?_
  rintro e w' ⟨s, H', B', x, ⟨c', v, he, h0, ho⟩, hp, rfl, hx, hm'⟩
  have hA : c'.asks = c.asks := by have h := (tick_keeps c).1; rw [he] at h; exact h
  rw [he]
  exact ⟨by rw [val_eq h0 hx], off_g hc hm' hp rfl (getElem?_prefix hp rfl) hA ho⟩
theorem ctick_any {w : World} {X : List Nat} {k : Nat} {uo : Value} {c : Cs} (hs : CSat w X k uo c) (hi : CInv c) : Calls Tryz.prog 24 #[ptrV k] w fun e w' => e = .returned (.bool c.tick.2) ∧ CPost w X k uo c.tick.1 w' := by
  obtain ⟨ua, ug, qs, hc⟩ := hs
  have h := hi.st
  rcases (by omega : c.st = 0 ∨ c.st = 1 ∨ c.st = 2 ∨ c.st = 3 ∨ c.st = 4 ∨ c.st = 5) with h | h | h | h | h | h
  · exact tick_s0 hc hi h
  · exact tick_s1 hc hi h
  · exact tick_s2 hc hi h
  · exact tick_s3 hc hi h
  · exact tick_s4 hc hi h
  · exact tick_s5 hc hi h
theorem close_s0 {w : World} {X : List Nat} {k : Nat} {uo ua ug : Value} {c : Cs} {qs : List (QP × Value)} (hc : CW w X k uo c ua ug qs) (hst : c.st = 0) : Calls Tryz.prog 27 #[ptrV k] w fun e w' => e = .returned (.int .i64 c.close.2) ∧ CPost w X k uo c.close.1 w' := by
  have hm := conn_mem hc (st := .c (.int .i64 0)) (.inr (by rw [hst]))
  have ht := (close0_tree c ua ug c.outs.length (flatQ qs) hst rfl)
  refine (canT_okn CT_ok follows Tryz.func27 (by kernel_rfl) (lexAllF_ok (by kernel_rfl)) (noloops (by kernel_rfl)) ht rfl hm rfl).mono ?_
  rintro e w' ⟨s, H', B', x, ⟨c', v, he, h0, ho⟩, hp, rfl, hx, hm'⟩
  have hN := NilNew.close c
  rw [he] at hN
  replace ho := off_offG (E := fun _ => True) hN ho
  rw [he]
  exact ⟨by rw [val_eq h0 hx], off_g hc hm' hp rfl trivial hN.asks ho⟩
theorem close_s1 {w : World} {X : List Nat} {k : Nat} {uo ua ug : Value} {c : Cs} {qs : List (QP × Value)} (hc : CW w X k uo c ua ug qs) (hst : c.st = 1) : Calls Tryz.prog 27 #[ptrV k] w fun e w' => e = .returned (.int .i64 c.close.2) ∧ CPost w X k uo c.close.1 w' := by
  have hm := conn_mem hc (st := .c (.int .i64 1)) (.inr (by rw [hst]))
  have ht := (close1_tree c ua ug c.outs.length (flatQ qs) hst rfl)
  refine (canT_okn CT_ok follows Tryz.func27 (by kernel_rfl) (lexAllF_ok (by kernel_rfl)) (noloops (by kernel_rfl)) ht rfl hm rfl).mono ?_
  rintro e w' ⟨s, H', B', x, ⟨c', v, he, h0, ho⟩, hp, rfl, hx, hm'⟩
  have hN := NilNew.close c
  rw [he] at hN
  replace ho := off_offG (E := fun _ => True) hN ho
  rw [he]
  exact ⟨by rw [val_eq h0 hx], off_g hc hm' hp rfl trivial hN.asks ho⟩
theorem close_s2 {w : World} {X : List Nat} {k : Nat} {uo ua ug : Value} {c : Cs} {qs : List (QP × Value)} (hc : CW w X k uo c ua ug qs) (hst : c.st = 2) : Calls Tryz.prog 27 #[ptrV k] w fun e w' => e = .returned (.int .i64 c.close.2) ∧ CPost w X k uo c.close.1 w' := by
  have hm := conn_mem hc (st := .c (.int .i64 2)) (.inr (by rw [hst]))
  have ht := (close2_tree c ua ug c.outs.length (flatQ qs) hst rfl)
  refine (canT_okn CT_ok follows Tryz.func27 (by kernel_rfl) (lexAllF_ok (by kernel_rfl)) (noloops (by kernel_rfl)) ht rfl hm rfl).mono ?_
  rintro e w' ⟨s, H', B', x, ⟨c', v, he, h0, ho⟩, hp, rfl, hx, hm'⟩
  have hN := NilNew.close c
  rw [he] at hN
  replace ho := off_offG (E := fun _ => True) hN ho
  rw [he]
  exact ⟨by rw [val_eq h0 hx], off_g hc hm' hp rfl trivial hN.asks ho⟩
theorem close_s3 {w : World} {X : List Nat} {k : Nat} {uo ua ug : Value} {c : Cs} {qs : List (QP × Value)} (hc : CW w X k uo c ua ug qs) (hst : c.st = 3) : Calls Tryz.prog 27 #[ptrV k] w fun e w' => e = .returned (.int .i64 c.close.2) ∧ CPost w X k uo c.close.1 w' := by
  have hm := conn_mem hc (st := .c (.int .i64 3)) (.inr (by rw [hst]))
  have ht := (close3_tree c ua ug c.outs.length (flatQ qs) hst rfl)
  refine (canT_okn CT_ok follows Tryz.func27 (by kernel_rfl) (lexAllF_ok (by kernel_rfl)) (noloops (by kernel_rfl)) ht rfl hm rfl).mono ?_
  rintro e w' ⟨s, H', B', x, ⟨c', v, he, h0, ho⟩, hp, rfl, hx, hm'⟩
  have hN := NilNew.close c
  rw [he] at hN
  replace ho := off_offG (E := fun _ => True) hN ho
  rw [he]
  exact ⟨by rw [val_eq h0 hx], off_g hc hm' hp rfl trivial hN.asks ho⟩
theorem close_s4 {w : World} {X : List Nat} {k : Nat} {uo ua ug : Value} {c : Cs} {qs : List (QP × Value)} (hc : CW w X k uo c ua ug qs) (hst : c.st = 4) : Calls Tryz.prog 27 #[ptrV k] w fun e w' => e = .returned (.int .i64 c.close.2) ∧ CPost w X k uo c.close.1 w' := by
  have hm := conn_mem hc (st := .c (.int .i64 4)) (.inr (by rw [hst]))
  have ht := (close4_tree c ua ug c.outs.length (flatQ qs) hst rfl)
  refine (canT_okn CT_ok follows Tryz.func27 (by kernel_rfl) (lexAllF_ok (by kernel_rfl)) (noloops (by kernel_rfl)) ht rfl hm rfl).mono ?_
  rintro e w' ⟨s, H', B', x, ⟨c', v, he, h0, ho⟩, hp, rfl, hx, hm'⟩
  have hN := NilNew.close c
  rw [he] at hN
  replace ho := off_offG (E := fun _ => True) hN ho
  rw [he]
  exact ⟨by rw [val_eq h0 hx], off_g hc hm' hp rfl trivial hN.asks ho⟩
theorem close_s5 {w : World} {X : List Nat} {k : Nat} {uo ua ug : Value} {c : Cs} {qs : List (QP × Value)} (hc : CW w X k uo c ua ug qs) (hst : c.st = 5) : Calls Tryz.prog 27 #[ptrV k] w fun e w' => e = .returned (.int .i64 c.close.2) ∧ CPost w X k uo c.close.1 w' := by
  have hm := conn_mem hc (st := .c (.int .i64 5)) (.inr (by rw [hst]))
  have ht := (close5_tree c ua ug c.outs.length (flatQ qs) hst rfl)
  refine (canT_okn CT_ok follows Tryz.func27 (by kernel_rfl) (lexAllF_ok (by kernel_rfl)) (noloops (by kernel_rfl)) ht rfl hm rfl).mono ?_
  rintro e w' ⟨s, H', B', x, ⟨c', v, he, h0, ho⟩, hp, rfl, hx, hm'⟩
  have hN := NilNew.close c
  rw [he] at hN
  replace ho := off_offG (E := fun _ => True) hN ho
  rw [he]
  exact ⟨by rw [val_eq h0 hx], off_g hc hm' hp rfl trivial hN.asks ho⟩
theorem close_any {w : World} {X : List Nat} {k : Nat} {uo : Value} {c : Cs} (hs : CSat w X k uo c) (hi : CInv c) : Calls Tryz.prog 27 #[ptrV k] w fun e w' => e = .returned (.int .i64 c.close.2) ∧ CPost w X k uo c.close.1 w' := by
  obtain ⟨ua, ug, qs, hc⟩ := hs
  have h := hi.st
  rcases (by omega : c.st = 0 ∨ c.st = 1 ∨ c.st = 2 ∨ c.st = 3 ∨ c.st = 4 ∨ c.st = 5) with h | h | h | h | h | h
  · exact close_s0 hc h
  · exact close_s1 hc h
  · exact close_s2 hc h
  · exact close_s3 hc h
  · exact close_s4 hc h
  · exact close_s5 hc h
theorem abort_a {w : World} {X : List Nat} {k : Nat} {uo ua ug : Value} {c : Cs} {qs : List (QP × Value)} (hc : CW w X k uo c ua ug qs) (code : Int) : Calls Tryz.prog 28 #[ptrV k, .int .i64 code] w fun e w' => e = .returned (.int .i64 (c.abort code).2) ∧ CPost w X k uo (c.abort code).1 w' := by
  have hm := conn_mem hc (st := .v (.int .i64 c.st)) (.inl rfl)
  have ht := (abort_tree c ua ug c.outs.length (flatQ qs) code rfl)
  refine (canT_okn CT_ok follows Tryz.func28 (by kernel_rfl) (lexAllF_ok (by kernel_rfl)) (noloops (by kernel_rfl)) ht rfl hm rfl).mono ?_
  rintro e w' ⟨s, H', B', x, ⟨c', v, he, h0, ho⟩, hp, rfl, hx, hm'⟩
  have hN := NilNew.abort c code
  rw [he] at hN
  replace ho := off_offG (E := fun _ => True) hN ho
  rw [he]
  exact ⟨by rw [val_eq h0 hx], off_g hc hm' hp rfl trivial hN.asks ho⟩
theorem abort_any {w : World} {X : List Nat} {k : Nat} {uo : Value} {c : Cs} (hs : CSat w X k uo c) (code : Int) : Calls Tryz.prog 28 #[ptrV k, .int .i64 code] w fun e w' => e = .returned (.int .i64 (c.abort code).2) ∧ CPost w X k uo (c.abort code).1 w' := by
  obtain ⟨ua, ug, qs, hc⟩ := hs
  exact abort_a hc code
theorem take_s0 {w : World} {X : List Nat} {k : Nat} {uo ua ug : Value} {c : Cs} {qs : List (QP × Value)} (hc : CW w X k uo c ua ug qs) (hst : c.st = 0) (p : Pk) {u : Value} {o : OL} (hr : RowO w (bsOf k uo ++ X) u o) (hf : o.few) (hd : p.data.size ≤ 1000000) : Calls Tryz.prog 25 #[ptrV k, p.v u] w fun e w' => e = .returned (nwV (c.take p o).2.1 (c.take p o).2.2) ∧ CPost w X k uo (c.take p o).1 w' := by
  have hm := mem_add_row (conn_mem hc (st := .c (.int .i64 0)) (.inr (by rw [hst]))) hr
  have ht := (take0_tree c ua ug c.outs.length (flatQ qs) p o.n (fR o) hst rfl ⟨opP_fR hf, hd⟩)
  refine (canT_okn CT_ok follows Tryz.func25 (by kernel_rfl) (lexAllF_ok (by kernel_rfl)) (noloops (by kernel_rfl)) ht rfl hm rfl).mono ?_
  rintro e w' ⟨s, H', B', x, ⟨c', v, n, he, h0, ho⟩, hp, rfl, hx, hm'⟩
  rw [eta_fR] at he
  have hN := NilNew.take c p o
  rw [he] at hN
  replace ho := off_offG (E := fun _ => True) hN ho
  replace h0 : s.to [] = some (nwV v n) := by rw [show s = .v (nwV v n) from h0]; rfl
  rw [he]
  exact ⟨by rw [val_eq h0 hx], off_g hc hm' hp rfl trivial hN.asks ho⟩
theorem take_s1 {w : World} {X : List Nat} {k : Nat} {uo ua ug : Value} {c : Cs} {qs : List (QP × Value)} (hc : CW w X k uo c ua ug qs) (hst : c.st = 1) (p : Pk) {u : Value} {o : OL} (hr : RowO w (bsOf k uo ++ X) u o) (hf : o.few) (hd : p.data.size ≤ 1000000) : Calls Tryz.prog 25 #[ptrV k, p.v u] w fun e w' => e = .returned (nwV (c.take p o).2.1 (c.take p o).2.2) ∧ CPost w X k uo (c.take p o).1 w' := by
  have hm := mem_add_row (conn_mem hc (st := .c (.int .i64 1)) (.inr (by rw [hst]))) hr
  have ht := (take1_tree c ua ug c.outs.length (flatQ qs) p o.n (fR o) hst rfl ⟨opP_fR hf, hd⟩)
  refine (canT_okn CT_ok follows Tryz.func25 (by kernel_rfl) (lexAllF_ok (by kernel_rfl)) (noloops (by kernel_rfl)) ht rfl hm rfl).mono ?_
  rintro e w' ⟨s, H', B', x, ⟨c', v, n, he, h0, ho⟩, hp, rfl, hx, hm'⟩
  rw [eta_fR] at he
  have hN := NilNew.take c p o
  rw [he] at hN
  replace ho := off_offG (E := fun _ => True) hN ho
  replace h0 : s.to [] = some (nwV v n) := by rw [show s = .v (nwV v n) from h0]; rfl
  rw [he]
  exact ⟨by rw [val_eq h0 hx], off_g hc hm' hp rfl trivial hN.asks ho⟩
theorem take_s2 {w : World} {X : List Nat} {k : Nat} {uo ua ug : Value} {c : Cs} {qs : List (QP × Value)} (hc : CW w X k uo c ua ug qs) (hst : c.st = 2) (p : Pk) {u : Value} {o : OL} (hr : RowO w (bsOf k uo ++ X) u o) (hf : o.few) (hd : p.data.size ≤ 1000000) : Calls Tryz.prog 25 #[ptrV k, p.v u] w fun e w' => e = .returned (nwV (c.take p o).2.1 (c.take p o).2.2) ∧ CPost w X k uo (c.take p o).1 w' := by
  have hm := mem_add_row (conn_mem hc (st := .c (.int .i64 2)) (.inr (by rw [hst]))) hr
  have ht := (take2_tree c ua ug c.outs.length (flatQ qs) p o.n (fR o) hst rfl ⟨opP_fR hf, hd⟩)
  refine (canT_okn CT_ok follows Tryz.func25 (by kernel_rfl) (lexAllF_ok (by kernel_rfl)) (noloops (by kernel_rfl)) ht rfl hm rfl).mono ?_
  rintro e w' ⟨s, H', B', x, ⟨c', v, n, he, h0, ho⟩, hp, rfl, hx, hm'⟩
  rw [eta_fR] at he
  have hN := NilNew.take c p o
  rw [he] at hN
  replace ho := off_offG (E := fun _ => True) hN ho
  replace h0 : s.to [] = some (nwV v n) := by rw [show s = .v (nwV v n) from h0]; rfl
  rw [he]
  exact ⟨by rw [val_eq h0 hx], off_g hc hm' hp rfl trivial hN.asks ho⟩
theorem take_s3 {w : World} {X : List Nat} {k : Nat} {uo ua ug : Value} {c : Cs} {qs : List (QP × Value)} (hc : CW w X k uo c ua ug qs) (hst : c.st = 3) (p : Pk) {u : Value} {o : OL} (hr : RowO w (bsOf k uo ++ X) u o) (hf : o.few) (hd : p.data.size ≤ 1000000) : Calls Tryz.prog 25 #[ptrV k, p.v u] w fun e w' => e = .returned (nwV (c.take p o).2.1 (c.take p o).2.2) ∧ CPost w X k uo (c.take p o).1 w' := by
  have hm := mem_add_row (conn_mem hc (st := .c (.int .i64 3)) (.inr (by rw [hst]))) hr
  have ht := (take3_tree c ua ug c.outs.length (flatQ qs) p o.n (fR o) hst rfl ⟨opP_fR hf, hd⟩)
  refine (canT_okn CT_ok follows Tryz.func25 (by kernel_rfl) (lexAllF_ok (by kernel_rfl)) (noloops (by kernel_rfl)) ht rfl hm rfl).mono ?_
  rintro e w' ⟨s, H', B', x, ⟨c', v, n, he, h0, ho⟩, hp, rfl, hx, hm'⟩
  rw [eta_fR] at he
  have hN := NilNew.take c p o
  rw [he] at hN
  replace ho := off_offG (E := fun _ => True) hN ho
  replace h0 : s.to [] = some (nwV v n) := by rw [show s = .v (nwV v n) from h0]; rfl
  rw [he]
  exact ⟨by rw [val_eq h0 hx], off_g hc hm' hp rfl trivial hN.asks ho⟩
theorem take_s4 {w : World} {X : List Nat} {k : Nat} {uo ua ug : Value} {c : Cs} {qs : List (QP × Value)} (hc : CW w X k uo c ua ug qs) (hst : c.st = 4) (p : Pk) {u : Value} {o : OL} (hr : RowO w (bsOf k uo ++ X) u o) (hf : o.few) (hd : p.data.size ≤ 1000000) : Calls Tryz.prog 25 #[ptrV k, p.v u] w fun e w' => e = .returned (nwV (c.take p o).2.1 (c.take p o).2.2) ∧ CPost w X k uo (c.take p o).1 w' := by
  have hm := mem_add_row (conn_mem hc (st := .c (.int .i64 4)) (.inr (by rw [hst]))) hr
  have ht := (take4_tree c ua ug c.outs.length (flatQ qs) p o.n (fR o) hst rfl ⟨opP_fR hf, hd⟩)
  refine (canT_okn CT_ok follows Tryz.func25 (by kernel_rfl) (lexAllF_ok (by kernel_rfl)) (noloops (by kernel_rfl)) ht rfl hm rfl).mono ?_
  rintro e w' ⟨s, H', B', x, ⟨c', v, n, he, h0, ho⟩, hp, rfl, hx, hm'⟩
  rw [eta_fR] at he
  have hN := NilNew.take c p o
  rw [he] at hN
  replace ho := off_offG (E := fun _ => True) hN ho
  replace h0 : s.to [] = some (nwV v n) := by rw [show s = .v (nwV v n) from h0]; rfl
  rw [he]
  exact ⟨by rw [val_eq h0 hx], off_g hc hm' hp rfl trivial hN.asks ho⟩
theorem take_s5 {w : World} {X : List Nat} {k : Nat} {uo ua ug : Value} {c : Cs} {qs : List (QP × Value)} (hc : CW w X k uo c ua ug qs) (hst : c.st = 5) (p : Pk) {u : Value} {o : OL} (hr : RowO w (bsOf k uo ++ X) u o) (hf : o.few) (hd : p.data.size ≤ 1000000) : Calls Tryz.prog 25 #[ptrV k, p.v u] w fun e w' => e = .returned (nwV (c.take p o).2.1 (c.take p o).2.2) ∧ CPost w X k uo (c.take p o).1 w' := by
  have hm := mem_add_row (conn_mem hc (st := .c (.int .i64 5)) (.inr (by rw [hst]))) hr
  have ht := (take5_tree c ua ug c.outs.length (flatQ qs) p o.n (fR o) hst rfl ⟨opP_fR hf, hd⟩)
  refine (canT_okn CT_ok follows Tryz.func25 (by kernel_rfl) (lexAllF_ok (by kernel_rfl)) (noloops (by kernel_rfl)) ht rfl hm rfl).mono ?_
  rintro e w' ⟨s, H', B', x, ⟨c', v, n, he, h0, ho⟩, hp, rfl, hx, hm'⟩
  rw [eta_fR] at he
  have hN := NilNew.take c p o
  rw [he] at hN
  replace ho := off_offG (E := fun _ => True) hN ho
  replace h0 : s.to [] = some (nwV v n) := by rw [show s = .v (nwV v n) from h0]; rfl
  rw [he]
  exact ⟨by rw [val_eq h0 hx], off_g hc hm' hp rfl trivial hN.asks ho⟩
theorem take_any {w : World} {X : List Nat} {k : Nat} {uo : Value} {c : Cs} (hs : CSat w X k uo c) (hi : CInv c) (p : Pk) {u : Value} {o : OL} (hr : RowO w (bsOf k uo ++ X) u o) (hf : o.few) (hd : p.data.size ≤ 1000000) : Calls Tryz.prog 25 #[ptrV k, p.v u] w fun e w' => e = .returned (nwV (c.take p o).2.1 (c.take p o).2.2) ∧ CPost w X k uo (c.take p o).1 w' := by
  obtain ⟨ua, ug, qs, hc⟩ := hs
  have h := hi.st
  rcases (by omega : c.st = 0 ∨ c.st = 1 ∨ c.st = 2 ∨ c.st = 3 ∨ c.st = 4 ∨ c.st = 5) with h | h | h | h | h | h
  · exact take_s0 hc h p hr hf hd
  · exact take_s1 hc h p hr hf hd
  · exact take_s2 hc h p hr hf hd
  · exact take_s3 hc h p hr hf hd
  · exact take_s4 hc h p hr hf hd
  · exact take_s5 hc h p hr hf hd
theorem greet_s2 {w : World} {X : List Nat} {k : Nat} {uo ua ug : Value} {c : Cs} {qs : List (QP × Value)} (hc : CW w X k uo c ua ug qs) (hst : c.st = 2) {u : Value} {o : OL} (hr : RowO w (bsOf k uo ++ X) u o) (hf : o.few) : Calls Tryz.prog 22 #[ptrV k, u] w fun e w' => e = .returned (.int .i64 (c.greet o).2) ∧ CPost w X k uo (c.greet o).1 w' := by
  have hm := mem_add_row (conn_mem hc (st := .c (.int .i64 2)) (.inr (by rw [hst]))) hr
  have ht := (greet2_tree c ua ug c.outs.length (flatQ qs) o.n (fR o) hst rfl (opP_fR hf))
  refine (canT_okn CU_ok follows Tryz.func22 (by kernel_rfl) (lexAllF_ok (by kernel_rfl)) (noloops (by kernel_rfl)) ht rfl hm rfl).mono ?_
  rintro e w' ⟨s, H', B', x, ⟨c', v, he, h0, ho⟩, hp, rfl, hx, hm'⟩
  rw [eta_fR] at he
  have hA : c'.asks = c.asks := by have h := greet_keeps c o; rw [he] at h; exact h
  rw [he]
  exact ⟨by rw [val_eq h0 hx], off_g hc hm' hp rfl trivial hA ho⟩
theorem greet_sX {w : World} {X : List Nat} {k : Nat} {uo ua ug : Value} {c : Cs} {qs : List (QP × Value)} (hc : CW w X k uo c ua ug qs) (hst : ¬ c.st = 2) {u : Value} {o : OL} (hr : RowO w (bsOf k uo ++ X) u o) : Calls Tryz.prog 22 #[ptrV k, u] w fun e w' => e = .returned (.int .i64 (c.greet o).2) ∧ CPost w X k uo (c.greet o).1 w' := by
  have hm := mem_add_row (conn_mem hc (st := .v (.int .i64 c.st)) (.inl rfl)) hr
  have ht := (greetX_tree c ua ug c.outs.length (flatQ qs) o.n (fR o) hst rfl)
  refine (canT_okn CXe_ok follows Tryz.func22 (by kernel_rfl) (lexAllF_ok (by kernel_rfl)) (noloops (by kernel_rfl)) ht rfl hm rfl).mono ?_
  rintro e w' ⟨s, H', B', x, ⟨c', v, he, h0, ho⟩, hp, rfl, hx, hm'⟩
  rw [eta_fR] at he
  have hA : c'.asks = c.asks := by have h := greet_keeps c o; rw [he] at h; exact h
  rw [he]
  exact ⟨by rw [val_eq h0 hx], off_g hc hm' hp rfl trivial hA ho⟩
theorem greet_any {w : World} {X : List Nat} {k : Nat} {uo : Value} {c : Cs} (hs : CSat w X k uo c) {u : Value} {o : OL} (hr : RowO w (bsOf k uo ++ X) u o) (hf : o.few) : Calls Tryz.prog 22 #[ptrV k, u] w fun e w' => e = .returned (.int .i64 (c.greet o).2) ∧ CPost w X k uo (c.greet o).1 w' := by
  obtain ⟨ua, ug, qs, hc⟩ := hs
  by_cases h : c.st = 2
  · exact greet_s2 hc h hr hf
  · exact greet_sX hc h hr
theorem say_s3_2 {w : World} {X : List Nat} {k : Nat} {uo ua ug : Value} {c : Cs} {qs : List (QP × Value)} (hc : CW w X k uo c ua ug qs) (hst : c.st = 3) {u : Value} {o : OL} (hr : RowO w (bsOf k uo ++ X) u o) (hf : o.few) (d : ByteArray) (ra : Int) : Calls Tryz.prog 26 #[ptrV k, .int .i64 2, u, .string d, .int .i64 ra] w fun e w' => e = .returned (.tuple #[.int .i64 (c.sayP 2 o d ra).2.1, .int .i64 (c.sayP 2 o d ra).2.2]) ∧ CPost w X k uo (c.sayP 2 o d ra).1 w' := by
  have hm := mem_add_row (conn_mem hc (st := .c (.int .i64 3)) (.inr (by rw [hst]))) hr
  have ht := (say3_2_tree c ua ug c.outs.length (flatQ qs) o.n (fR o) d ra hst rfl (opP_fR hf))
  refine (canT_okn CU_ok follows Tryz.func26 (by kernel_rfl) (lexAllF_ok (by kernel_rfl)) (noloops (by kernel_rfl)) ht rfl hm rfl).mono ?_
  rintro e w' ⟨s, H', B', x, ⟨c', v, n, he, h0, ho⟩, hp, rfl, hx, hm'⟩
  rw [eta_fR] at he
  have hA : c'.asks = c.asks := by have h := (sayP_keeps c 2 o d ra).1; rw [he] at h; exact h
  rw [he]
  exact ⟨by rw [val_eq h0 hx], off_g hc hm' hp rfl trivial hA ho⟩
theorem say_s3_3 {w : World} {X : List Nat} {k : Nat} {uo ua ug : Value} {c : Cs} {qs : List (QP × Value)} (hc : CW w X k uo c ua ug qs) (hst : c.st = 3) {u : Value} {o : OL} (hr : RowO w (bsOf k uo ++ X) u o) (hf : o.few) (d : ByteArray) (ra : Int) : Calls Tryz.prog 26 #[ptrV k, .int .i64 3, u, .string d, .int .i64 ra] w fun e w' => e = .returned (.tuple #[.int .i64 (c.sayP 3 o d ra).2.1, .int .i64 (c.sayP 3 o d ra).2.2]) ∧ CPost w X k uo (c.sayP 3 o d ra).1 w' := by
  have hm := mem_add_row (conn_mem hc (st := .c (.int .i64 3)) (.inr (by rw [hst]))) hr
  have ht := (say3_3_tree c ua ug c.outs.length (flatQ qs) o.n (fR o) d ra hst rfl (opP_fR hf))
  refine (canT_okn CU_ok follows Tryz.func26 (by kernel_rfl) (lexAllF_ok (by kernel_rfl)) (noloops (by kernel_rfl)) ht rfl hm rfl).mono ?_
  rintro e w' ⟨s, H', B', x, ⟨c', v, n, he, h0, ho⟩, hp, rfl, hx, hm'⟩
  rw [eta_fR] at he
  have hA : c'.asks = c.asks := by have h := (sayP_keeps c 3 o d ra).1; rw [he] at h; exact h
  rw [he]
  exact ⟨by rw [val_eq h0 hx], off_g hc hm' hp rfl trivial hA ho⟩
theorem say_s3_4 {w : World} {X : List Nat} {k : Nat} {uo ua ug : Value} {c : Cs} {qs : List (QP × Value)} (hc : CW w X k uo c ua ug qs) (hst : c.st = 3) {u : Value} {o : OL} (hr : RowO w (bsOf k uo ++ X) u o) (hf : o.few) (d : ByteArray) (ra : Int) : Calls Tryz.prog 26 #[ptrV k, .int .i64 4, u, .string d, .int .i64 ra] w fun e w' => e = .returned (.tuple #[.int .i64 (c.sayP 4 o d ra).2.1, .int .i64 (c.sayP 4 o d ra).2.2]) ∧ CPost w X k uo (c.sayP 4 o d ra).1 w' := by
  have hm := mem_add_row (conn_mem hc (st := .c (.int .i64 3)) (.inr (by rw [hst]))) hr
  have ht := (say3_4_tree c ua ug c.outs.length (flatQ qs) o.n (fR o) d ra hst rfl (opP_fR hf))
  refine (canT_okn CU_ok follows Tryz.func26 (by kernel_rfl) (lexAllF_ok (by kernel_rfl)) (noloops (by kernel_rfl)) ht rfl hm rfl).mono ?_
  rintro e w' ⟨s, H', B', x, ⟨c', v, n, he, h0, ho⟩, hp, rfl, hx, hm'⟩
  rw [eta_fR] at he
  have hA : c'.asks = c.asks := by have h := (sayP_keeps c 4 o d ra).1; rw [he] at h; exact h
  rw [he]
  exact ⟨by rw [val_eq h0 hx], off_g hc hm' hp rfl trivial hA ho⟩
theorem say_s2 {w : World} {X : List Nat} {k : Nat} {uo ua ug : Value} {c : Cs} {qs : List (QP × Value)} (hc : CW w X k uo c ua ug qs) (hi : CInv c) (hst : c.st = 2) {u : Value} {o : OL} (hr : RowO w (bsOf k uo ++ X) u o) (hf : o.few) (hn : o.n ≤ 100) (d : ByteArray) (ra : Int) : Calls Tryz.prog 26 #[ptrV k, .int .i64 3, u, .string d, .int .i64 ra] w fun e w' => e = .returned (.tuple #[.int .i64 (c.sayP 3 o d ra).2.1, .int .i64 (c.sayP 3 o d ra).2.2]) ∧ CPost w X k uo (c.sayP 3 o d ra).1 w' := by
  have hm0 := mem_add_row (mem_add_row (conn_mem hc (st := .c (.int .i64 2)) (.inr (by rw [hst]))) hc.greets) hr
  have hm : Mem w (bsOf k uo) [.own (csS c (.c (.int .i64 2)) (.v ua) (.ref 2) (.ref 1)), .vec false 36 13 c.outs.length (flatQ qs), .row c.greets.n 2 (fR c.greets), .row o.n 2 (fR o)] [ptrV k, uo, ug, u] w := mem_cells (vs := [.bool c.cl, .int .i64 2, .int .i64 c.iss, .int .i64 c.isr, .int .i64 c.gss, .int .i64 c.gsr, .int .i64 c.gar, .int .i64 c.sv, ua, ug, .int .i64 c.wa, .int .i64 c.le, .int .i64 c.tr, .bool c.sy, .int .i64 c.li, uo]) hm0 rfl rfl
  have ht := (say2_tree c ua ug c.outs.length (flatQ qs) c.greets.n o.n (fR c.greets) (fR o) d ra hst rfl (opP_fR hi.greets.1) (opP_fR hf) (by have := hi.greets.2; omega) (eta_fR _).symm)
  refine (canT_okn CUC_ok follows Tryz.func26 (by kernel_rfl) (lexAllF_ok (by kernel_rfl)) (noloops (by kernel_rfl)) ht rfl hm rfl).mono ?_
  rintro e w' ⟨s, H', B', x, ⟨c', v, n, he, h0, ho⟩, hp, rfl, hx, hm'⟩
  rw [eta_fR] at he
  have hA : c'.asks = c.asks := by have h := (sayP_keeps c 3 o d ra).1; rw [he] at h; exact h
  rw [he]
  exact ⟨by rw [val_eq h0 hx], off_g hc hm' hp rfl (getElem?_prefix hp rfl) hA ho⟩
theorem say_sX {w : World} {X : List Nat} {k : Nat} {uo ua ug : Value} {c : Cs} {qs : List (QP × Value)} (hc : CW w X k uo c ua ug qs) (kd : Int) (hb : ¬ c.mayK kd = 0) {u : Value} {o : OL} (hr : RowO w (bsOf k uo ++ X) u o) (d : ByteArray) (ra : Int) : Calls Tryz.prog 26 #[ptrV k, .int .i64 kd, u, .string d, .int .i64 ra] w fun e w' => e = .returned (.tuple #[.int .i64 (c.sayP kd o d ra).2.1, .int .i64 (c.sayP kd o d ra).2.2]) ∧ CPost w X k uo (c.sayP kd o d ra).1 w' := by
  have hm0 := mem_add_row (mem_add_row (conn_mem hc (st := .v (.int .i64 c.st)) (.inl rfl)) hc.greets) hr
  have hm : Mem w (bsOf k uo) [.own (csS c (.v (.int .i64 c.st)) (.v ua) (.ref 2) (.ref 1)), .vec false 36 13 c.outs.length (flatQ qs), .row c.greets.n 2 (fR c.greets), .row o.n 2 (fR o)] [ptrV k, uo, ug, u] w := mem_cells (vs := [.bool c.cl, .int .i64 c.st, .int .i64 c.iss, .int .i64 c.isr, .int .i64 c.gss, .int .i64 c.gsr, .int .i64 c.gar, .int .i64 c.sv, ua, ug, .int .i64 c.wa, .int .i64 c.le, .int .i64 c.tr, .bool c.sy, .int .i64 c.li, uo]) hm0 rfl rfl
  have ht := (sayX_tree c ua ug c.outs.length (flatQ qs) kd c.greets.n o.n (fR c.greets) (fR o) d ra rfl hb)
  refine (canT_okn CXe_ok follows Tryz.func26 (by kernel_rfl) (lexAllF_ok (by kernel_rfl)) (noloops (by kernel_rfl)) ht rfl hm rfl).mono ?_
  rintro e w' ⟨s, H', B', x, ⟨c', v, n, he, h0, ho⟩, hp, rfl, hx, hm'⟩
  rw [eta_fR] at he
  have hA : c'.asks = c.asks := by have h := (sayP_keeps c kd o d ra).1; rw [he] at h; exact h
  rw [he]
  exact ⟨by rw [val_eq h0 hx], off_g hc hm' hp rfl (getElem?_prefix hp rfl) hA ho⟩
theorem say_any {w : World} {X : List Nat} {k : Nat} {uo : Value} {c : Cs} (hs : CSat w X k uo c) (hi : CInv c) (kd : Int) {u : Value} {o : OL} (hr : RowO w (bsOf k uo ++ X) u o) (hf : o.few) (hn : o.n ≤ 100) (d : ByteArray) (ra : Int) : Calls Tryz.prog 26 #[ptrV k, .int .i64 kd, u, .string d, .int .i64 ra] w fun e w' => e = .returned (.tuple #[.int .i64 (c.sayP kd o d ra).2.1, .int .i64 (c.sayP kd o d ra).2.2]) ∧ CPost w X k uo (c.sayP kd o d ra).1 w' := by
  obtain ⟨ua, ug, qs, hc⟩ := hs
  by_cases hb : c.mayK kd = 0
  · unfold Cs.mayK at hb
    split at hb
    · exact absurd hb (by decide)
    · rename_i hk
      split at hb
      · rename_i hs
        rcases hs with hs | ⟨hs, rfl⟩
        · rcases Classical.not_not.1 hk with rfl | rfl | rfl
          · exact say_s3_2 hc hs hr hf d ra
          · exact say_s3_3 hc hs hr hf d ra
          · exact say_s3_4 hc hs hr hf d ra
        · exact say_s2 hc hi hs hr hf hn d ra
      · exact absurd hb (by decide)
  · exact say_sX hc kd hb hr d ra
end Go.Proofs.YtopeaafcepgnhaaGreat
namespace Go.Proofs.YtopeaafcepgnhaaGreat
open Go.RowKit Sym Go.ChangeShapes Go.WideShapes Go.ChangeMaps
attribute [local irreducible] canT
def rsV15 (c : Cs) (ua ug : Value) (le tr : Int) : List Value := [.bool c.cl, .int .i64 c.st, .int .i64 c.sv, .int .i64 c.iss, .int .i64 c.isr, .int .i64 c.gss, .int .i64 c.gsr, .int .i64 c.gar, ua, ug, .int .i64 c.wa, .int .i64 le, .int .i64 tr, .bool c.sy, .int .i64 c.li]
def OfOld (c0 : Cs) (ua ug : Value) (o : OL) (u : Value) : Prop := (u = .slice none 0 0 ∧ o = OL.nil) ∨ (u = ua ∧ o = c0.asks) ∨ (u = ug ∧ o = c0.greets)
def ROff (c0 : Cs) (xs : List Value) (ua ug : Value) (H' : List Blk) (c' : Cs) : Prop :=
  ∃ (a0 a1 a2 a3 a4 a5 a6 a7 a8 a9 a10 a11 a12 a13 a14 : SV) (le tr : Int) (j : Nat) (l : List (QP × Value)), H'[0]? = some (.own [a0, a1, a2, a3, a4, a5, a6, a7, a8, a9, a10, a11, a12, a13, a14, .ref j]) ∧
    (∀ B, SV.tos B [a0, a1, a2, a3, a4, a5, a6, a7, a8, a9, a10, a11, a12, a13, a14] = some (rsV15 c' ua ug le tr)) ∧ (c'.wa = 0 ∨ le = c'.le ∧ tr = c'.tr) ∧ H'[j]? = some (.vec false 36 13 c'.outs.length (xs ++ flatQ l)) ∧
    c'.outs = c0.outs ++ l.map (·.1) ∧ (∀ q ∈ l, OfOld c0 ua ug q.1.o q.2) ∧ c'.asks = c0.asks ∧ c'.greets = c0.greets
theorem roff_same {c0 c' : Cs} {xs : List Value} {ua ug : Value} {a0 a1 a2 a3 a4 a5 a6 a7 a8 a9 a10 a11 a12 a13 a14 : SV} {le tr : Int} {n : Nat} {R : List Blk} (h1 : ∀ B, SV.tos B [a0, a1, a2, a3, a4, a5, a6, a7, a8, a9, a10, a11, a12, a13, a14] = some (rsV15 c' ua ug le tr))
    (hn : n = c0.outs.length) (ho : c'.outs = c0.outs) (ha : c'.asks = c0.asks) (hg : c'.greets = c0.greets) (hw : c'.wa = 0 ∨ le = c'.le ∧ tr = c'.tr) :
    ROff c0 xs ua ug (.own [a0, a1, a2, a3, a4, a5, a6, a7, a8, a9, a10, a11, a12, a13, a14, .ref 1] :: .vec false 36 13 n xs :: R) c' := by
  subst hn
  refine ⟨a0, a1, a2, a3, a4, a5, a6, a7, a8, a9, a10, a11, a12, a13, a14, le, tr, 1, [], rfl, h1, hw, ?_, by rw [ho]; exact (List.append_nil _).symm, (fun q hq => by cases hq), ha, hg⟩
  rw [ho]
  show some _ = some (Blk.vec false 36 13 c0.outs.length (xs ++ []))
  rw [List.append_nil]
theorem roff_sendJ {c0 c' : Cs} {xs : List Value} {ua ug u : Value} {H' : List Blk} {j : Nat} {a0 a1 a2 a3 a4 a5 a6 a7 a8 a9 a10 a11 a12 a13 a14 : SV} {le tr : Int} {n : Nat} {o : OL} {st gss sv ack : Int} {p : Pk} (h0 : H'[0]? = some (.own [a0, a1, a2, a3, a4, a5, a6, a7, a8, a9, a10, a11, a12, a13, a14, .ref j])) (hj : H'[j]? = some (.vec false 36 13 (qN n) (qX n xs (pkL st gss sv p ack u)))) (h1 : ∀ B, SV.tos B [a0, a1, a2, a3, a4, a5, a6, a7, a8, a9, a10, a11, a12, a13, a14] = some (rsV15 c' ua ug le tr))
    (hn : n = c0.outs.length) (ho : c'.outs = if c0.outs.length < 50 then c0.outs ++ [⟨pkS st gss sv p ack, o⟩] else c0.outs) (ha : c'.asks = c0.asks) (hg : c'.greets = c0.greets) (hu : OfOld c0 ua ug o u) (hw : c'.wa = 0 ∨ le = c'.le ∧ tr = c'.tr) :
    ROff c0 xs ua ug H' c' := by
  subst hn
  unfold qN qX at hj
  by_cases hlt : c0.outs.length < 50
  · rw [if_pos hlt] at ho
    rw [if_pos hlt, if_pos hlt] at hj
    refine ⟨a0, a1, a2, a3, a4, a5, a6, a7, a8, a9, a10, a11, a12, a13, a14, le, tr, j, [(⟨pkS st gss sv p ack, o⟩, u)], h0, h1, hw, ?_, ho, fun q hq => ?_, ha, hg⟩
    · rw [hj, ho, List.length_append]
      show some _ = some (Blk.vec false 36 13 (c0.outs.length + 1) (xs ++ (pkL st gss sv p ack u ++ [])))
      rw [List.append_nil]
    · rw [List.mem_singleton] at hq; subst hq; exact hu
  · rw [if_neg hlt] at ho
    rw [if_neg hlt, if_neg hlt] at hj
    refine ⟨a0, a1, a2, a3, a4, a5, a6, a7, a8, a9, a10, a11, a12, a13, a14, le, tr, j, [], h0, h1, hw, ?_, by rw [ho]; exact (List.append_nil _).symm, (fun q hq => by cases hq), ha, hg⟩
    rw [hj, ho]
    show some _ = some (Blk.vec false 36 13 c0.outs.length (xs ++ []))
    rw [List.append_nil]
def RM (c0 : Cs) (xs : List Value) (ua ug : Value) (s : Cs × Value) (r : SV × List Blk) : Prop := r.1.to [] = some s.2 ∧ ROff c0 xs ua ug r.2 s.1
structure RPre (c : Cs) (ua ug : Value) (le tr : Int) (n : Nat) (xs : List Value) : Prop where
  hn : n = c.outs.length
  hw : c.wa = 0 ∨ le = c.le ∧ tr = c.tr
  wait : WaitOk c.wa c.le c.tr
  li : 0 ≤ c.li ∧ c.li ≤ 16
  hx : allOneP xs
  sa : sliceP ua
  sg : sliceP ug
theorem slice_nil : sliceP (.slice none 0 0) := ⟨_, _, _, rfl⟩
def t2 (s : Cs × Bool) : Cs × Value := (s.1, .bool s.2)
def e2 (s : Cs × Int) : Cs × Value := (s.1, .int .i64 s.2)
def n3 (s : Cs × Cs.Nw × Int) : Cs × Value := (s.1, nwV s.2.1 s.2.2)
set_option maxRecDepth 100000 in
set_option maxHeartbeats 4000000 in
theorem rtick_tree (c : Cs) (ua ug : Value) (le tr : Int) (n : Nat) (xs : List Value) (h : RPre c ua ug le tr n xs) :
    (canT 2 (runF Tryz.prog (CG1 Tryz.prog (RfFn.mk Tryz.f31 Tryz.f16 Tryz.f38 Tryz.f75 Tryz.f39 Tryz.f76)) noL Tryz.f45 (Tryz.f45.body.getD .skip) [.ptr 0 0] [.own (rsS c ua ug le tr (.ref 1)), .vec false 36 13 n xs])).ok (RM c xs ua ug (t2 c.tick)) := by
  rw [rtick_run]
  obtain ⟨hn, hw, hwt, hli, hx, hsa, hsg⟩ := h
  obtain ⟨w0, w1, l0, l1, t0, t1, -⟩ := hwt
  obtain ⟨cl, st, iss, isr, gss, gsr, gar, sv, asks, greets, wa, cle, ctr, sy, li, outs⟩ := c
  dsimp only at *
  subst hn
  have hle : ¬ wa = 0 → le = cle ∧ tr = ctr := fun e => hw.resolve_left e
  generalize hr : Cs.tick _ = rr
  unfold Cs.tick at hr
  dsimp only at hr
  have e1 : IntKind.i64.wrap (li + 1) = li + 1 := w64 _ (by omega) (by omega)
  have e2 : IntKind.i64.wrap (2 * wa) = 2 * wa := w64 _ (by omega) (by omega)
  have e3 : (if (64 : Int) < 2 * wa then (64 : Int) else 2 * wa) = min (2 * wa) 64 := by split <;> omega
  simp only [e1, e2, e3]
  refine t_ite (fun h5 => t_ite (fun h => t_leaf ?_) fun h => t_leaf ?_) fun h5 => t_ite (fun hz => t_leaf ?_) fun hz => ?_
  · rw [if_pos (of_decide_eq_true h5), if_pos (of_decide_eq_true h)] at hr
    subst hr
    exact ⟨rfl, roff_same (fun B => rfl) rfl rfl rfl rfl (.inl rfl)⟩
  · rw [if_pos (of_decide_eq_true h5), if_neg (of_decide_eq_false h)] at hr
    subst hr
    exact ⟨rfl, roff_same (fun B => rfl) rfl rfl rfl rfl hw⟩
  · rw [if_neg (of_decide_eq_false h5), if_pos (of_decide_eq_true hz)] at hr
    subst hr
    exact ⟨rfl, roff_same (fun B => rfl) rfl rfl rfl rfl hw⟩
  replace hz := of_decide_eq_false hz
  obtain ⟨rfl, rfl⟩ := hle hz
  have e4 : IntKind.i64.wrap (le - 1) = le - 1 := w64 _ (by omega) (by omega)
  have e5 : IntKind.i64.wrap (tr + 1) = tr + 1 := w64 _ (by omega) (by omega)
  simp only [e4, e5]
  rw [if_neg (of_decide_eq_false h5), if_neg hz] at hr
  refine t_ite (fun h => t_leaf ?_) fun hl => ?_
  · rw [if_pos (by have := of_decide_eq_true h; omega)] at hr
    subst hr
    exact ⟨rfl, roff_same (fun B => rfl) rfl rfl rfl rfl (.inr ⟨rfl, rfl⟩)⟩
  rw [if_neg (by have := of_decide_eq_false hl; omega)] at hr
  refine t_ite (fun ht => ?_) fun ht => ?_
  · rw [if_pos (of_decide_eq_true ht)] at hr
    unfold Cs.say Cs.endK at hr
    dsimp only at hr
    refine t_ite (fun h1 => t_need hx (t_need hsa (t_leaf ?_))) fun h1 => t_ite (fun h2 => t_need hx (t_need hsg (t_leaf ?_))) fun h2 => ?_
    · rw [if_pos (of_decide_eq_true h1)] at hr
      subst hr
      exact ⟨rfl, roff_sendJ rfl rfl (fun B => rfl) rfl rfl rfl rfl (.inr (.inl ⟨rfl, rfl⟩)) (.inr ⟨rfl, rfl⟩)⟩
    · rw [if_neg (of_decide_eq_false h1), if_pos (of_decide_eq_true h2)] at hr
      subst hr
      exact ⟨rfl, roff_sendJ rfl rfl (fun B => rfl) rfl rfl rfl rfl (.inr (.inr ⟨rfl, rfl⟩)) (.inr ⟨rfl, rfl⟩)⟩
    rw [if_neg (of_decide_eq_false h1), if_neg (of_decide_eq_false h2)] at hr
    repeat' (first | (with_reducible refine t_need ?_ ?_) | (with_reducible refine t_ite ?_ ?_; all_goals intro h) | (with_reducible refine t_leaf ?_))
    all_goals (try exact hx)
    all_goals (try exact slice_nil)
    all_goals (simp only [decide_eq_true_eq, decide_eq_false_iff_not] at *)
    all_goals (try contradiction)
    all_goals (simp only [*, if_true, if_false, Bool.false_eq_true, reduceIte] at hr)
    all_goals subst hr
    all_goals (try subst_vars)
    all_goals first
      | exact ⟨rfl, roff_same (fun B => rfl) rfl rfl rfl rfl (.inr ⟨rfl, rfl⟩)⟩
      | exact ⟨rfl, roff_sendJ rfl rfl (fun B => rfl) rfl rfl rfl rfl (.inl ⟨rfl, rfl⟩) (.inr ⟨rfl, rfl⟩)⟩
      | trace_state
  · rw [if_neg (of_decide_eq_false ht)] at hr
    refine t_ite (fun h2 => t_need hx (t_need slice_nil (t_leaf ?_))) fun h2 => t_leaf ?_
    · rw [if_pos (of_decide_eq_true h2)] at hr
      subst hr
      exact ⟨rfl, roff_sendJ rfl rfl (fun B => rfl) rfl rfl rfl rfl (.inl ⟨rfl, rfl⟩) (.inl rfl)⟩
    · rw [if_neg (of_decide_eq_false h2)] at hr
      subst hr
      exact ⟨rfl, roff_same (fun B => rfl) rfl rfl rfl rfl (.inl rfl)⟩
set_option maxRecDepth 100000 in
set_option maxHeartbeats 4000000 in
theorem rclose_tree (c : Cs) (ua ug : Value) (le tr : Int) (n : Nat) (xs : List Value) (h : RPre c ua ug le tr n xs) :
    (canT 2 (runF Tryz.prog (CG1 Tryz.prog (RfFn.mk Tryz.f31 Tryz.f16 Tryz.f38 Tryz.f75 Tryz.f39 Tryz.f76)) noL Tryz.f42 (Tryz.f42.body.getD .skip) [.ptr 0 0] [.own (rsS c ua ug le tr (.ref 1)), .vec false 36 13 n xs])).ok (RM c xs ua ug (e2 c.close)) := by
  rw [rclose_run]
  obtain ⟨hn, hw, hwt, hli, hx, hsa, hsg⟩ := h
  obtain ⟨cl, st, iss, isr, gss, gsr, gar, sv, asks, greets, wa, cle, ctr, sy, li, outs⟩ := c
  dsimp only at *
  subst hn
  generalize hr : Cs.close _ = rr
  unfold Cs.close Cs.say Cs.endK at hr
  dsimp only at hr
  repeat' (first | (with_reducible refine t_need ?_ ?_) | (with_reducible refine t_ite ?_ ?_; all_goals intro h) | (with_reducible refine t_leaf ?_))
  all_goals (try exact hx)
  all_goals (try exact slice_nil)
  all_goals (simp only [decide_eq_true_eq, decide_eq_false_iff_not, Bool.not_eq_true', Bool.not_eq_false'] at *)
  all_goals (simp [*] at hr)
  all_goals subst hr
  all_goals (try subst_vars)
  all_goals first
    | exact ⟨rfl, roff_same (fun B => rfl) rfl rfl rfl rfl hw⟩
    | exact ⟨rfl, roff_sendJ rfl rfl (fun B => rfl) rfl rfl rfl rfl (.inl ⟨rfl, rfl⟩) (.inr ⟨rfl, rfl⟩)⟩
    | trace_state
set_option maxRecDepth 100000 in
set_option maxHeartbeats 4000000 in
theorem rabort_tree (c : Cs) (ua ug : Value) (le tr : Int) (n : Nat) (xs : List Value) (code : Int) (h : RPre c ua ug le tr n xs) :
    (canT 2 (runF Tryz.prog (CG1 Tryz.prog (RfFn.mk Tryz.f31 Tryz.f16 Tryz.f38 Tryz.f75 Tryz.f39 Tryz.f76)) noL Tryz.f43 (Tryz.f43.body.getD .skip) [.ptr 0 0, .v (.int .i64 code)] [.own (rsS c ua ug le tr (.ref 1)), .vec false 36 13 n xs])).ok (RM c xs ua ug (e2 (c.abort code))) := by
  rw [rabort_run]
  obtain ⟨hn, hw, hwt, hli, hx, hsa, hsg⟩ := h
  obtain ⟨cl, st, iss, isr, gss, gsr, gar, sv, asks, greets, wa, cle, ctr, sy, li, outs⟩ := c
  dsimp only at *
  subst hn
  have ec : (if (255 : Int) < if (0 : Int) > code then (0 : Int) else code then (255 : Int) else if (0 : Int) > code then (0 : Int) else code) = min (max code 0) 255 := by split <;> split at * <;> omega
  rw [ec]
  generalize hr : Cs.abort _ _ = rr
  unfold Cs.abort at hr
  dsimp only at hr
  repeat' (first | (with_reducible refine t_need ?_ ?_) | (with_reducible refine t_ite ?_ ?_; all_goals intro h) | (with_reducible refine t_leaf ?_))
  all_goals (try exact hx)
  all_goals (try exact slice_nil)
  all_goals (simp only [decide_eq_true_eq, decide_eq_false_iff_not, Bool.not_eq_true', Bool.not_eq_false'] at *)
  all_goals (simp [*] at hr)
  all_goals subst hr
  all_goals (try subst_vars)
  all_goals first
    | exact ⟨rfl, roff_same (fun B => rfl) rfl rfl rfl rfl hw⟩
    | exact ⟨rfl, roff_same (fun B => rfl) rfl rfl rfl rfl (.inl rfl)⟩
    | exact ⟨rfl, roff_sendJ rfl rfl (fun B => rfl) rfl rfl rfl rfl (.inl ⟨rfl, rfl⟩) (.inl rfl)⟩
    | trace_state
set_option maxRecDepth 100000 in
set_option maxHeartbeats 4000000 in
theorem rsay_tree (c : Cs) (ua ug : Value) (le tr : Int) (n : Nat) (xs : List Value) (h : RPre c ua ug le tr n xs) :
    (canT 2 (runF Tryz.prog (CG0 Tryz.prog (RfFn.mk Tryz.f31 Tryz.f16 Tryz.f38 Tryz.f75 Tryz.f39 Tryz.f76)) noL Tryz.f39 (Tryz.f39.body.getD .skip) [.ptr 0 0] [.own (rsS c ua ug le tr (.ref 1)), .vec false 36 13 n xs])).ok (RM c xs ua ug (c.say, .tuple #[])) := by
  rw [rsay_run]
  obtain ⟨hn, hw, hwt, hli, hx, hsa, hsg⟩ := h
  obtain ⟨cl, st, iss, isr, gss, gsr, gar, sv, asks, greets, wa, cle, ctr, sy, li, outs⟩ := c
  dsimp only at *
  subst hn
  generalize hr : Cs.say _ = rr
  unfold Cs.say Cs.endK at hr
  dsimp only at hr
  repeat' (first | (with_reducible refine t_need ?_ ?_) | (with_reducible refine t_ite ?_ ?_; all_goals intro h) | (with_reducible refine t_leaf ?_))
  all_goals (try exact hx)
  all_goals (try exact slice_nil)
  all_goals (try exact hsa)
  all_goals (try exact hsg)
  all_goals (simp only [decide_eq_true_eq, decide_eq_false_iff_not, Bool.not_eq_true', Bool.not_eq_false'] at *)
  all_goals (try contradiction)
  all_goals (simp [*] at hr)
  all_goals subst hr
  all_goals (try subst_vars)
  all_goals first
    | exact ⟨rfl, roff_same (fun B => rfl) rfl rfl rfl rfl hw⟩
    | exact ⟨rfl, roff_sendJ rfl rfl (fun B => rfl) rfl rfl rfl rfl (.inl ⟨rfl, rfl⟩) hw⟩
    | exact ⟨rfl, roff_sendJ rfl rfl (fun B => rfl) rfl rfl rfl rfl (.inr (.inl ⟨rfl, rfl⟩)) hw⟩
    | exact ⟨rfl, roff_sendJ rfl rfl (fun B => rfl) rfl rfl rfl rfl (.inr (.inr ⟨rfl, rfl⟩)) hw⟩
    | trace_state
theorem rwait_tree (c : Cs) (ua ug : Value) (le tr : Int) (n : Nat) (xs : List Value) (hn : n = c.outs.length) :
    (canT 2 (runF Tryz.prog (CR0 Tryz.prog) noL Tryz.f38 (Tryz.f38.body.getD .skip) [.ptr 0 0] [.own (rsS c ua ug le tr (.ref 1)), .vec false 36 13 n xs])).ok (RM c xs ua ug (c.wait, .tuple #[])) := by
  rw [rwait_run]
  exact t_leaf ⟨rfl, roff_same (fun B => rfl) hn rfl rfl rfl (.inr ⟨rfl, rfl⟩)⟩
end Go.Proofs.YtopeaafcepgnhaaGreat
namespace Go.Proofs.YtopeaafcepgnhaaGreat
open Go.RowKit Sym
theorem sizeL_nn (g : Nat → Op) : ∀ n, 0 ≤ sizeL g n
  | 0 => Int.le_refl _
  | n + 1 => by
    have h1 := sizeL_nn g n
    have h2 := (sizeO_bd (g n)).1
    show 0 ≤ sizeL g n + sizeO (g n)
    omega
theorem size_le28 (k : Int) (b : Bool) : Head.size k b ≤ 28 := by
  unfold Head.size
  split
  · decide
  · repeat' split
    all_goals decide
theorem chk_sent {k s a sv cd cc : Int} {b : Bool} {o : OL} {d : ByteArray} (hk : 0 ≤ k ∧ k ≤ 9) (hb : b = false → 2 ≤ k ∧ k ≤ 4) (hs : 0 ≤ s ∧ s < Head.most b) (ha : if Head.acks k = true then 0 ≤ a ∧ a < Head.most b else a = 0)
    (hv : if k = 0 then 0 ≤ sv ∧ sv < 4294967296 else sv = 0) (h1 : k ≠ 1) (hcd : if k = 7 then 0 ≤ cd ∧ cd < 256 else cd = 0) (hcc : 0 ≤ cc ∧ cc ≤ 15) (ho : chkO o.n o.g = 0) (hd : d.size ≤ 200) (hd2 : k = 2 ∨ k = 4 ∨ d.size = 0) :
    chkP ⟨k, b, 0, 0, cc, 0, s, a, sv, cd, 0, d⟩ o.n o.g = 0 := by
  have hkn : Head.known k = true := by unfold Head.known; simp; omega
  have hw : 4 * wordsP ⟨k, b, 0, 0, cc, 0, s, a, sv, cd, 0, d⟩ o.n o.g ≥ Head.size k b := by
    have h1 := sizeL_nn o.g o.n
    have h2 := size_le28 k b
    unfold wordsP
    show _ ≤ 4 * min ((Head.size k b + sizeL o.g o.n + 3) / 4) 255
    omega
  have hw0 : 0 ≤ wordsP ⟨k, b, 0, 0, cc, 0, s, a, sv, cd, 0, d⟩ o.n o.g ∧ wordsP ⟨k, b, 0, 0, cc, 0, s, a, sv, cd, 0, d⟩ o.n o.g ≤ 255 := by
    have h1 := sizeL_nn o.g o.n
    have h2 : 0 ≤ Head.size k b := by
      unfold Head.size
      split
      · decide
      · repeat' split
        all_goals decide
    unfold wordsP
    show 0 ≤ min ((Head.size k b + sizeL o.g o.n + 3) / 4) 255 ∧ min ((Head.size k b + sizeL o.g o.n + 3) / 4) 255 ≤ 255
    omega
  have hbr : ¬ (b = false ∧ Head.brief k = false) := by
    rintro ⟨e1, e2⟩
    have := hb e1
    unfold Head.brief at e2
    simp at e2
    omega
  have hchk : Head.check (begH ⟨k, b, 0, 0, cc, 0, s, a, sv, cd, 0, d⟩ o.n o.g 0) = 0 := by
    unfold Head.check begH
    dsimp only
    generalize hW : wordsP ⟨k, b, 0, 0, cc, 0, s, a, sv, cd, 0, d⟩ o.n o.g = W at *
    rw [if_neg (by rw [hkn]; decide), if_neg hbr, if_neg (by unfold Head.wi; simp; omega), if_neg (by unfold Head.wi; simp; omega), if_neg (by omega)]
  have hnum : numP ⟨k, b, 0, 0, cc, 0, s, a, sv, cd, 0, d⟩ = true := by
    unfold numP wn served
    dsimp only
    have e1 : Head.acks k = true → (0 ≤ a ∧ a < Head.most b) := fun h => by rw [if_pos h] at ha; exact ha
    cases hA : Head.acks k
    · by_cases h0 : k = 0
      · subst h0; simp at hv ⊢; omega
      · simp [h0, h1]
        by_cases h7 : k = 7
        · rw [if_pos h7] at hcd; simp [h7]; omega
        · exact .inl h7
    · have := e1 hA
      by_cases h0 : k = 0
      · subst h0; simp at hv ⊢; omega
      · simp [h0, h1]
        refine ⟨this, ?_⟩
        by_cases h7 : k = 7
        · rw [if_pos h7] at hcd; simp [h7]; omega
        · exact .inl h7
  have hsp : spareP ⟨k, b, 0, 0, cc, 0, s, a, sv, cd, 0, d⟩ = false := by
    unfold spareP served
    dsimp only
    simp only [Bool.or_eq_false_iff, Bool.and_eq_false_iff, Bool.not_eq_false', decide_eq_true_eq, decide_eq_false_iff_not, Bool.not_eq_true', Bool.or_eq_true]
    refine ⟨⟨⟨?_, ?_⟩, ?_⟩, ?_⟩
    · cases hA : Head.acks k
      · rw [if_neg (by rw [hA]; decide)] at ha; exact .inr ha
      · exact .inl rfl
    · by_cases h0 : k = 0
      · exact .inl (.inl h0)
      · rw [if_neg h0] at hv; exact .inr hv
    · by_cases h7 : k = 7
      · exact .inl h7
      · rw [if_neg h7] at hcd; exact .inr ⟨hcd, trivial⟩
    · rcases hd2 with e | e | e
      · left; unfold Head.bears; simp [e]
      · left; unfold Head.bears; simp [e]
      · exact .inr e
  unfold chkP
  rw [if_pos hchk, if_pos hnum, if_pos ho, if_neg (by show ¬ d.size > 200; omega), if_neg (by rw [hsp]; decide), if_pos (by show covOk d 0 = true; unfold covOk; simp)]
theorem chk_opts {p : Pk} {n : Nat} {g : Nat → Op} (h : chkP p n g = 0) : Head.check (begH p n g 0) = 0 ∧ chkO n g = 0 := by
  unfold chkP at h
  split at h
  · split at h
    · split at h
      · exact ⟨by assumption, by assumption⟩
      · exact ⟨by assumption, h⟩
    · cases h
  · exact absurd h (by assumption)
theorem check_seq {p : Pk} {n : Nat} {g : Nat → Op} (h : chkP p n g = 0) : 0 ≤ p.seq ∧ p.seq < Head.most p.long := by
  have h := (chk_opts h).1
  unfold Head.check begH at h
  dsimp only at h
  repeat' (split at h)
  all_goals (try (cases h; done))
  all_goals
    rename_i h5 _
    unfold Head.wi at h5
    simp at h5
    omega
theorem later_in (g s : Int) : 0 ≤ Circ.later g s ∧ Circ.later g s < 281474976710656 := by unfold Circ.later; split <;> exact ⟨Circ.of_lo _, Circ.of_hi _⟩
structure NInv (c : Cs) : Prop where
  gss : 0 ≤ c.gss ∧ c.gss < 281474976710656
  gsr : 0 ≤ c.gsr ∧ c.gsr < 281474976710656
  sv : 0 ≤ c.sv ∧ c.sv < 4294967296
  asks : chkO c.asks.n c.asks.g = 0
  greets : chkO c.greets.n c.greets.g = 0
def One (c c' : Cs) : Prop := (c'.outs = [] ∧ c'.gss = c.gss) ∨ ∃ q, c'.outs = [q] ∧ c'.gss = Circ.add c.gss 1 ∧ q.p.seq = (if q.p.long = true then Circ.add c.gss 1 else shortN (Circ.add c.gss 1)) ∧ chkP q.p q.o.n q.o.g = 0
theorem NInv.like {c c' : Cs} (h : NInv c) (h1 : c'.gss = c.gss) (h2 : c'.gsr = c.gsr) (h3 : c'.sv = c.sv) (h4 : c'.asks = c.asks) (h5 : c'.greets = c.greets) : NInv c' :=
  ⟨h1 ▸ h.gss, h2 ▸ h.gsr, h3 ▸ h.sv, h4 ▸ h.asks, h5 ▸ h.greets⟩
theorem One.like {c1 c2 c3 c4 : Cs} (h : One c2 c3) (h1 : c2.gss = c1.gss) (h2 : c4.outs = c3.outs) (h3 : c4.gss = c3.gss) : One c1 c4 := by
  unfold One at *
  rw [h2, h3, ← h1]
  exact h
theorem One.none {c c' : Cs} (h0 : c.outs = []) (h1 : c'.outs = c.outs) (h2 : c'.gss = c.gss) : One c c' := .inl ⟨h1.trans h0, h2⟩
theorem send_one {c : Cs} (h : NInv c) (h0 : c.outs = []) {k : Int} {o : OL} {d : ByteArray} {ack cd cc : Int} (hk : 0 ≤ k ∧ k ≤ 9) (ha : Head.acks k = true → 0 ≤ ack ∧ ack < 281474976710656) (h1 : k ≠ 1) (hcd : if k = 7 then 0 ≤ cd ∧ cd < 256 else cd = 0) (hcc : 0 ≤ cc ∧ cc ≤ 15) (ho : chkO o.n o.g = 0) (hd : d.size ≤ 200) (hd2 : k = 2 ∨ k = 4 ∨ d.size = 0) :
    One c (c.send k o d ack cd cc) ∧ NInv (c.send k o d ack cd cc) := by
  have g1 := Circ.add_lo c.gss 1
  have g2 := Circ.add_hi c.gss 1
  refine ⟨.inr ⟨⟨c.pkt k d ack cd cc, o⟩, ?_, rfl, ?_, ?_⟩, ⟨⟨g1, g2⟩, h.gsr, h.sv, h.asks, h.greets⟩⟩
  · show (if c.outs.length < 50 then c.outs ++ [_] else c.outs) = _
    rw [h0, if_pos (by decide)]; rfl
  · show (if c.short k = true then shortN (Circ.add c.gss 1) else Circ.add c.gss 1) = if (!c.short k) = true then _ else _
    cases c.short k <;> rfl
  · have hsh : c.short k = true → 2 ≤ k ∧ k ≤ 4 := fun e => by unfold Cs.short at e; simp at e; omega
    refine chk_sent hk ?_ ?_ ?_ ?_ h1 hcd hcc ho hd hd2
    · intro e
      exact hsh (by simpa using e)
    · cases e : c.short k
      · exact ⟨by simpa using g1, by simpa [Head.most] using g2⟩
      · unfold shortN Head.most
        simp
        omega
    · by_cases hA : Head.acks k = true
      · rw [if_pos hA]
        obtain ⟨a1, a2⟩ := ha hA
        cases e : c.short k
        · simp [Cs.ackOf, hA, Head.most]; omega
        · simp [Cs.ackOf, hA, Head.most, shortN]; omega
      · rw [if_neg hA]
        cases e : c.short k
        · simp [Cs.ackOf, hA]
        · simp [Cs.ackOf, hA, shortN]
    · by_cases e : k = 0
      · simp only [e, if_pos]; exact h.sv
      · simp only [e, if_false]
theorem chkO_nil : chkO OL.nil.n OL.nil.g = 0 := by
  unfold chkO
  rw [if_neg (by unfold badE OL.nil; simp [firstOf]), if_neg (by unfold mandE OL.nil; simp [firstOf])]
  rfl
theorem say_one {c : Cs} (h : NInv c) (h0 : c.outs = []) : One c c.say ∧ NInv c.say := by
  unfold Cs.say
  split
  · exact send_one h h0 (by decide) (fun e => by cases e) (by decide) (by decide) (by decide) h.asks (by decide) (.inr (.inr rfl))
  split
  · exact send_one h h0 (by decide) (fun _ => h.gsr) (by decide) (by decide) (by decide) h.greets (by decide) (.inr (.inr rfl))
  split
  · unfold Cs.endK
    split
    · exact send_one h h0 (by decide) (fun _ => h.gsr) (by decide) (by decide) (by decide) chkO_nil (by decide) (.inr (.inr rfl))
    · exact send_one h h0 (by decide) (fun _ => h.gsr) (by decide) (by decide) (by decide) chkO_nil (by decide) (.inr (.inr rfl))
  · exact ⟨.none h0 rfl rfl, h⟩
structure Op24 where
  kd : Int
  n : Int
  o : OL
  d : ByteArray
  p : Pk
  po : OL
def Cs.step (c : Cs) (o : Op24) : Cs :=
  if o.kd = 0 then (c.greet o.o).1 else if o.kd = 1 then (c.sayP o.n o.o o.d o.n).1 else if o.kd = 2 then c.close.1 else if o.kd = 3 then (c.abort o.n).1
  else if o.kd = 4 ∨ o.kd = 5 ∨ o.kd = 6 then (c.take o.p o.po).1 else if o.kd = 7 then c.tick.1 else if o.kd = 8 then { c with outs := [] } else c
theorem greet_one {c : Cs} (h : NInv c) (h0 : c.outs = []) (l : OL) : One c (c.greet l).1 ∧ NInv (c.greet l).1 := by
  unfold Cs.greet
  split
  · split
    · rename_i hl
      have hn : NInv ({ c with greets := l } : Cs) := ⟨h.gss, h.gsr, h.sv, h.asks, hl⟩
      have := say_one hn h0
      exact ⟨this.1.like rfl rfl rfl, this.2.like rfl rfl rfl rfl rfl⟩
    · exact ⟨.none h0 rfl rfl, h⟩
  · exact ⟨.none h0 rfl rfl, h⟩
theorem sayE_zero {c : Cs} {k : Int} {l : OL} {d : ByteArray} (h : c.sayE k l d = 0) : (k = 2 ∨ k = 3 ∨ k = 4) ∧ (c.st = 3 ∨ c.st = 2 ∧ k = 3) ∧ chkO (c.sayO l).n (c.sayO l).g = 0 ∧ d.size ≤ 200 ∧ (k = 3 → d.size = 0) := by
  unfold Cs.sayE at h
  split at h
  · exact absurd h (by assumption)
  split at h
  · exact absurd h (by assumption)
  split at h
  · cases h
  split at h
  · cases h
  rename_i h1 h2 h3 h4
  have h1 : c.mayK k = 0 := Decidable.of_not_not h1
  unfold Cs.mayK at h1
  split at h1
  · cases h1
  split at h1
  · rename_i g1 g2
    exact ⟨Decidable.of_not_not g1, g2, Decidable.of_not_not h2, by omega, fun e => Decidable.of_not_not fun e2 => h4 ⟨e, e2⟩⟩
  · cases h1
theorem sayP_one {c : Cs} (h : NInv c) (h0 : c.outs = []) (k : Int) (l : OL) (d : ByteArray) (r : Int) : One c (c.sayP k l d r).1 ∧ NInv (c.sayP k l d r).1 := by
  unfold Cs.sayP
  split
  · rename_i he
    obtain ⟨hk, -, ho, hd, h3⟩ := sayE_zero he
    exact send_one h h0 (by omega) (fun _ => h.gsr) (by omega) (by rw [if_neg (by omega)]) (by omega) ho hd (hk.elim .inl fun e => e.elim (fun e => .inr (.inr (h3 e))) fun e => .inr (.inl e))
  · exact ⟨.none h0 rfl rfl, h⟩
theorem close_one {c : Cs} (h : NInv c) (h0 : c.outs = []) : One c c.close.1 ∧ NInv c.close.1 := by
  unfold Cs.close
  split
  · have := say_one (c := { c with st := 4 }) (h.like rfl rfl rfl rfl rfl) h0
    exact ⟨this.1.like rfl rfl rfl, this.2.like rfl rfl rfl rfl rfl⟩
  · exact ⟨.none h0 rfl rfl, h⟩
theorem reset_one {c : Cs} (h : NInv c) (h0 : c.outs = []) {cd s : Int} (hc : 0 ≤ cd ∧ cd < 256) : One c ((c.send 7 OL.nil Cs.emp c.gsr cd 0).fin s) ∧ NInv ((c.send 7 OL.nil Cs.emp c.gsr cd 0).fin s) := by
  have := send_one h h0 (k := 7) (o := OL.nil) (d := Cs.emp) (ack := c.gsr) (cd := cd) (cc := 0) (by decide) (fun _ => h.gsr) (by decide) (by rw [if_pos rfl]; exact hc) (by decide) chkO_nil (by decide) (.inr (.inr rfl))
  exact ⟨this.1.like rfl rfl rfl, this.2.like rfl rfl rfl rfl rfl⟩
theorem abort_one {c : Cs} (h : NInv c) (h0 : c.outs = []) (code : Int) : One c (c.abort code).1 ∧ NInv (c.abort code).1 := by
  unfold Cs.abort
  split
  · exact ⟨.none h0 rfl rfl, h⟩
  split
  · exact ⟨.none h0 rfl rfl, h.like rfl rfl rfl rfl rfl⟩
  · exact reset_one h h0 (by omega)
theorem tick_one {c : Cs} (h : NInv c) (h0 : c.outs = []) : One c c.tick.1 ∧ NInv c.tick.1 := by
  unfold Cs.tick
  dsimp only
  split
  · split
    · exact ⟨.none h0 rfl rfl, h.like rfl rfl rfl rfl rfl⟩
    · exact ⟨.none h0 rfl rfl, h.like rfl rfl rfl rfl rfl⟩
  split
  · exact ⟨.none h0 rfl rfl, h.like rfl rfl rfl rfl rfl⟩
  split
  · exact ⟨.none h0 rfl rfl, h.like rfl rfl rfl rfl rfl⟩
  split
  · have := say_one (c := { c with sy := false, wa := min (2 * c.wa) 64, le := min (2 * c.wa) 64, tr := c.tr + 1 }) (h.like rfl rfl rfl rfl rfl) h0
    exact ⟨this.1.like rfl rfl rfl, this.2⟩
  split
  · have := reset_one (c := { c with sy := false }) (cd := 4) (s := 0) (h.like rfl rfl rfl rfl rfl) h0 (by decide)
    exact ⟨this.1.like rfl rfl rfl, this.2⟩
  · exact ⟨.none h0 rfl rfl, h.like rfl rfl rfl rfl rfl⟩
theorem take_one {c : Cs} (h : NInv c) (h0 : c.outs = []) (p : Pk) (o : OL) : One c (c.take p o).1 ∧ NInv (c.take p o).1 := by
  unfold Cs.take
  split
  · exact ⟨.none h0 rfl rfl, h⟩
  rename_i hck
  have hck : chkP p o.n o.g = 0 := Decidable.of_not_not hck
  obtain ⟨q0, q1⟩ := check_seq hck
  split
  · exact ⟨.none h0 rfl rfl, h⟩
  split
  · unfold Cs.answered
    split
    · exact ⟨.none h0 rfl rfl, h⟩
    split
    · exact ⟨.none h0 rfl rfl, h⟩
    split
    · exact ⟨.none h0 rfl rfl, h.like rfl rfl rfl rfl rfl⟩
    split
    · exact ⟨.none h0 rfl rfl, h⟩
    · have e : Circ.of c.gss = c.gss := Circ.of_in h.gss.1 h.gss.2
      exact ⟨.none h0 rfl e, ⟨⟨Circ.of_lo _, Circ.of_hi _⟩, ⟨Circ.of_lo _, Circ.of_hi _⟩, h.sv, h.asks, h.greets⟩⟩
  have hs : 0 ≤ c.seqN p ∧ c.seqN p < 281474976710656 := by
    unfold Cs.seqN
    split
    · rename_i hl
      rw [hl] at q1
      exact ⟨q0, q1⟩
    · exact ⟨Circ.add_lo _ _, Circ.add_hi _ _⟩
  generalize c.seqN p = s at *
  generalize c.ackN p = a at *
  unfold Cs.taken
  split
  · have hc1 : NInv (c.came p.kind s a) := ⟨h.gss, later_in _ _, h.sv, h.asks, h.greets⟩
    have hc2 : NInv ((c.came p.kind s a).open' p.kind) ∧ ((c.came p.kind s a).open' p.kind).outs = [] ∧ ((c.came p.kind s a).open' p.kind).gss = c.gss := by
      unfold Cs.open'
      split
      · exact ⟨hc1.like rfl rfl rfl rfl rfl, h0, rfl⟩
      · exact ⟨hc1, h0, rfl⟩
    obtain ⟨h2, h20, h2g⟩ := hc2
    generalize (c.came p.kind s a).open' p.kind = c2 at *
    show One c (c2.turn p.kind s) ∧ NInv (c2.turn p.kind s)
    unfold Cs.turn
    split
    · have := send_one h2 h20 (k := 9) (o := OL.nil) (d := Cs.emp) (ack := s) (cd := 0) (cc := 0) (by decide) (fun _ => hs) (by decide) (by decide) (by decide) chkO_nil (by decide) (.inr (.inr rfl))
      exact ⟨this.1.like h2g rfl rfl, this.2⟩
    split
    · have := say_one (c := { c2 with st := 4 }) (h2.like rfl rfl rfl rfl rfl) h20
      exact ⟨this.1.like h2g rfl rfl, this.2.like rfl rfl rfl rfl rfl⟩
    split
    · have := reset_one h2 h20 (cd := 1) (s := 0) (by decide)
      exact ⟨this.1.like h2g rfl rfl, this.2⟩
    split
    · exact ⟨.inl ⟨h20, h2g⟩, h2.like rfl rfl rfl rfl rfl⟩
    · exact ⟨.inl ⟨h20, h2g⟩, h2⟩
  split
  · have := send_one (c := { c with sy := true }) (h.like rfl rfl rfl rfl rfl) h0 (k := 8) (o := OL.nil) (d := Cs.emp) (ack := s) (cd := 0) (cc := 0) (by decide) (fun _ => hs) (by decide) (by decide) (by decide) chkO_nil (by decide) (.inr (.inr rfl))
    exact ⟨this.1.like rfl rfl rfl, this.2⟩
  · exact ⟨.none h0 rfl rfl, h⟩
theorem step_one {c : Cs} (h : NInv c) (h0 : c.outs = []) (o : Op24) : One c (c.step o) ∧ NInv (c.step o) := by
  unfold Cs.step
  split
  · exact greet_one h h0 _
  split
  · exact sayP_one h h0 _ _ _ _
  split
  · exact close_one h h0
  split
  · exact abort_one h h0 _
  split
  · exact take_one h h0 _ _
  split
  · exact tick_one h h0
  split
  · exact ⟨.inl ⟨rfl, rfl⟩, h.like rfl rfl rfl rfl rfl⟩
  · exact ⟨.none h0 rfl rfl, h⟩
theorem step_closed {c : Cs} (h : c.st = 0) (h0 : c.outs = []) (hw : c.wa = 0) (o : Op24) : (c.step o).st = 0 ∧ (c.step o).outs = [] ∧ (c.step o).wa = 0 := by
  unfold Cs.step
  split
  · unfold Cs.greet; rw [if_neg (by omega)]; exact ⟨h, h0, hw⟩
  split
  · unfold Cs.sayP
    split
    · rename_i he
      have := (sayE_zero he).2.1
      omega
    · exact ⟨h, h0, hw⟩
  split
  · unfold Cs.close; rw [if_neg (by omega)]; exact ⟨h, h0, hw⟩
  split
  · unfold Cs.abort; rw [if_pos (.inl h)]; exact ⟨h, h0, hw⟩
  split
  · unfold Cs.take
    split
    · exact ⟨h, h0, hw⟩
    rw [if_pos (.inl h)]
    exact ⟨h, h0, hw⟩
  split
  · unfold Cs.tick
    dsimp only
    rw [if_neg (by omega), if_pos hw]
    exact ⟨h, h0, hw⟩
  split
  · exact ⟨h, rfl, hw⟩
  · exact ⟨h, h0, hw⟩
def later6 (tr : Int) : Int := if tr = 0 then 304 else if tr = 1 then 288 else if tr = 2 then 256 else if tr = 3 then 192 else if tr = 4 then 128 else if tr = 5 then 64 else 0
def waits6 (tr : Int) : Int := if tr = 0 then 8 else if tr = 1 then 16 else if tr = 2 then 32 else 64
structure TW (c : Cs) : Prop where
  t0 : 0 ≤ c.tr
  t1 : c.tr ≤ 6
  wa : c.wa = waits6 c.tr
  l0 : 1 ≤ c.le
  l1 : c.le ≤ c.wa
structure EInv (c : Cs) : Prop where
  st : 0 ≤ c.st ∧ c.st ≤ 5
  w03 : c.st = 0 ∨ c.st = 3 ∨ c.st = 5 → c.wa = 0
  w14 : c.st = 1 ∨ c.st = 4 → TW c
  w2 : c.st = 2 → c.wa = 0 ∨ TW c
  li : c.st = 5 → 0 ≤ c.li ∧ c.li < 16
  z : c.wa = 0 → c.le = 0 ∧ c.tr = 0
  l : 0 ≤ c.li ∧ c.li ≤ 16
def leftT (c : Cs) : Int := if c.st = 0 ∨ c.st = 3 then 0 else if c.st = 5 then 16 - c.li else c.le + later6 c.tr
theorem TW.wait (c : Cs) : TW c.wait := ⟨by show (0 : Int) ≤ 0; decide, by show (0 : Int) ≤ 6; decide, rfl, by show (1 : Int) ≤ 8; decide, by show (8 : Int) ≤ 8; decide⟩
theorem EInv.like {c c' : Cs} (h : EInv c) (h1 : c'.st = c.st) (h2 : c'.wa = c.wa) (h3 : c'.le = c.le) (h4 : c'.tr = c.tr) (h5 : c'.li = c.li) : EInv c' := by
  have hT : TW c → TW c' := fun t => ⟨h4 ▸ t.t0, h4 ▸ t.t1, by rw [h2, h4]; exact t.wa, h3 ▸ t.l0, by rw [h3, h2]; exact t.l1⟩
  refine ⟨h1 ▸ h.st, fun e => by rw [h2]; exact h.w03 (h1 ▸ e), fun e => hT (h.w14 (h1 ▸ e)), fun e => ?_, fun e => by rw [h5]; exact h.li (h1 ▸ e), fun e => by rw [h3, h4]; exact h.z (h2 ▸ e), h5 ▸ h.l⟩
  rcases h.w2 (h1 ▸ e) with g | g
  · exact .inl (h2.trans g)
  · exact .inr (hT g)
theorem EInv.fin (c : Cs) {s : Int} (hs : s = 0 ∨ s = 5) : EInv (c.fin s) := by
  refine ⟨by show 0 ≤ s ∧ s ≤ 5; omega, fun _ => rfl, fun e => ?_, fun e => ?_, fun _ => ⟨by show (0 : Int) ≤ 0; decide, by show (0 : Int) < 16; decide⟩, fun _ => ⟨rfl, rfl⟩, ⟨by show (0 : Int) ≤ 0; decide, by show (0 : Int) ≤ 16; decide⟩⟩
  · exfalso; have e : s = 1 ∨ s = 4 := e; omega
  · exfalso; have e : s = 2 := e; omega
theorem EInv.rest (c : Cs) {s : Int} (hs : s = 3 ∨ s = 2) (hl : 0 ≤ c.li ∧ c.li ≤ 16) : EInv (c.rest s) := by
  refine ⟨by show 0 ≤ s ∧ s ≤ 5; omega, fun _ => rfl, fun e => ?_, fun e => .inl rfl, fun e => ?_, fun _ => ⟨rfl, rfl⟩, hl⟩
  · exfalso; have e : s = 1 ∨ s = 4 := e; omega
  · exfalso; have e : s = 5 := e; omega
theorem EInv.waits {c : Cs} (hs : c.st = 1 ∨ c.st = 2 ∨ c.st = 4) (hl : 0 ≤ c.li ∧ c.li ≤ 16) : EInv c.wait := by
  refine ⟨by show 0 ≤ c.st ∧ c.st ≤ 5; omega, fun e => ?_, fun _ => TW.wait c, fun _ => .inr (TW.wait c), fun e => ?_, fun e => absurd e (by show ¬ (8 : Int) = 0; decide), hl⟩
  · exfalso; have e : c.st = 0 ∨ c.st = 3 ∨ c.st = 5 := e; omega
  · exfalso; have e : c.st = 5 := e; omega
theorem say_st (c : Cs) : c.say.st = c.st ∧ c.say.wa = c.wa ∧ c.say.le = c.le ∧ c.say.tr = c.tr ∧ c.say.li = c.li := by
  unfold Cs.say
  repeat' split
  all_goals exact ⟨rfl, rfl, rfl, rfl, rfl⟩
theorem EInv.say {c : Cs} (h : EInv c) : EInv c.say := by
  obtain ⟨h1, h2, h3, h4, h5⟩ := say_st c
  exact h.like h1 h2 h3 h4 h5
theorem EInv.sayW {c : Cs} (hs : c.st = 1 ∨ c.st = 2 ∨ c.st = 4) (hl : 0 ≤ c.li ∧ c.li ≤ 16) : EInv c.say.wait := EInv.waits (by rw [(say_st c).1]; exact hs) (by rw [(say_st c).2.2.2.2]; exact hl)
theorem tick_left {c : Cs} (h : EInv c) (hp : c.st = 2 → c.wa ≠ 0) : EInv c.tick.1 ∧ (c.tick.1.st = 2 → c.tick.1.wa ≠ 0) ∧ (leftT c.tick.1 = 0 ∨ leftT c.tick.1 ≤ leftT c - 1) := by
  have hfin : ∀ c0 : Cs, EInv (c0.fin 0) ∧ ((c0.fin 0).st = 2 → (c0.fin 0).wa ≠ 0) ∧ (leftT (c0.fin 0) = 0 ∨ leftT (c0.fin 0) ≤ leftT c - 1) := fun c0 =>
    ⟨EInv.fin _ (.inl rfl), fun e => absurd e (by show ¬ (0 : Int) = 2; decide), .inl (if_pos (.inl rfl))⟩
  unfold Cs.tick
  dsimp only
  split
  · rename_i h5
    split
    · exact hfin _
    · rename_i hl
      have := h.li h5
      refine ⟨⟨h.st, fun e => h.w03 e, fun e => ?_, fun e => ?_, fun _ => ⟨?_, ?_⟩, h.z, ⟨?_, ?_⟩⟩, fun e => ?_, .inr ?_⟩
      · exfalso; have e : c.st = 1 ∨ c.st = 4 := e; omega
      · exfalso; have e : c.st = 2 := e; omega
      · show 0 ≤ c.li + 1; omega
      · show c.li + 1 < 16; omega
      · show 0 ≤ c.li + 1; omega
      · show c.li + 1 ≤ 16; omega
      · exfalso; have e : c.st = 2 := e; omega
      · unfold leftT
        dsimp only
        rw [if_neg (by omega), if_pos h5, if_neg (by omega), if_pos h5]
        omega
  rename_i h5
  split
  · rename_i hw
    refine ⟨h.like rfl rfl rfl rfl rfl, fun e => absurd hw (hp e), .inl ?_⟩
    have hst := h.st
    have h03 : c.st = 0 ∨ c.st = 3 := by
      rcases (by omega : c.st = 0 ∨ c.st = 1 ∨ c.st = 2 ∨ c.st = 3 ∨ c.st = 4) with e | e | e | e | e
      · exact .inl e
      · have t := h.w14 (.inl e); have := t.l0; have := t.l1; omega
      · exact absurd hw (hp e)
      · exact .inr e
      · have t := h.w14 (.inr e); have := t.l0; have := t.l1; omega
    exact if_pos h03
  rename_i hw
  have hst := h.st
  have h124 : c.st = 1 ∨ c.st = 2 ∨ c.st = 4 := by
    rcases (by omega : c.st = 0 ∨ c.st = 1 ∨ c.st = 2 ∨ c.st = 3 ∨ c.st = 4) with e | e | e | e | e
    · exact absurd (h.w03 (.inl e)) hw
    · exact .inl e
    · exact .inr (.inl e)
    · exact absurd (h.w03 (.inr (.inl e))) hw
    · exact .inr (.inr e)
  have t : TW c := by
    rcases h124 with e | e | e
    · exact h.w14 (.inl e)
    · rcases h.w2 e with g | g
      · exact absurd g hw
      · exact g
    · exact h.w14 (.inr e)
  obtain ⟨t0, t1, tw, l0, l1⟩ := t
  split
  · rename_i hl
    have hT : TW ({ c with sy := false, le := c.le - 1 } : Cs) := ⟨t0, t1, tw, by show 1 ≤ c.le - 1; omega, by show c.le - 1 ≤ c.wa; omega⟩
    refine ⟨⟨hst, fun e => h.w03 e, fun _ => hT, fun _ => .inr hT, fun e => absurd e h5, fun e => absurd e hw, h.l⟩, fun _ => hw, .inr ?_⟩
    unfold leftT
    dsimp only
    rw [if_neg (by omega), if_neg h5, if_neg (by omega), if_neg h5]
    omega
  rename_i hl
  split
  · rename_i htr
    have hv : min (2 * c.wa) 64 = waits6 (c.tr + 1) ∧ waits6 (c.tr + 1) + later6 (c.tr + 1) = later6 c.tr := by
      rw [tw]
      rcases (by omega : c.tr = 0 ∨ c.tr = 1 ∨ c.tr = 2 ∨ c.tr = 3 ∨ c.tr = 4 ∨ c.tr = 5) with e | e | e | e | e | e <;> (rw [e]; decide)
    have hw1 : 1 ≤ waits6 (c.tr + 1) := by unfold waits6; (repeat' split) <;> decide
    have hT : TW ({ c with sy := false, wa := min (2 * c.wa) 64, le := min (2 * c.wa) 64, tr := c.tr + 1 } : Cs) :=
      ⟨by show 0 ≤ c.tr + 1; omega, by show c.tr + 1 ≤ 6; omega, hv.1, by show 1 ≤ min (2 * c.wa) 64; omega, Int.le_refl _⟩
    have hE : EInv ({ c with sy := false, wa := min (2 * c.wa) 64, le := min (2 * c.wa) 64, tr := c.tr + 1 } : Cs) :=
      ⟨hst, fun e => by exfalso; have e : c.st = 0 ∨ c.st = 3 ∨ c.st = 5 := e; omega, fun _ => hT, fun _ => .inr hT, fun e => absurd e h5, fun e => by exfalso; have e : min (2 * c.wa) 64 = 0 := e; omega, h.l⟩
    obtain ⟨s1, s2, s3, s4, s5⟩ := say_st ({ c with sy := false, wa := min (2 * c.wa) 64, le := min (2 * c.wa) 64, tr := c.tr + 1 } : Cs)
    refine ⟨hE.say, fun _ => ?_, .inr ?_⟩
    · rw [s2]
      show min (2 * c.wa) 64 ≠ 0
      omega
    · unfold leftT
      rw [s1, s3, s4]
      dsimp only
      rw [if_neg (by omega), if_neg h5, if_neg (by omega), if_neg h5]
      omega
  split
  · exact hfin _
  · exact hfin _
theorem tick_e {c : Cs} (h : EInv c) : EInv c.tick.1 := by
  by_cases hp : c.st = 2 → c.wa ≠ 0
  · exact (tick_left h hp).1
  · have h2 : c.st = 2 := Decidable.byContradiction fun e => hp fun g => absurd g e
    have hw : c.wa = 0 := Decidable.byContradiction fun e => hp fun _ => e
    unfold Cs.tick
    dsimp only
    rw [if_neg (by omega), if_pos hw]
    exact h.like rfl rfl rfl rfl rfl
theorem take_e {c : Cs} (h : EInv c) (p : Pk) (o : OL) : EInv (c.take p o).1 := by
  unfold Cs.take
  split
  · exact h
  split
  · exact h
  split
  · unfold Cs.answered
    split
    · exact h
    split
    · exact h
    split
    · exact .fin _ (.inl rfl)
    split
    · exact h
    · exact (EInv.rest c (s := 2) (.inr rfl) h.l).like rfl rfl rfl rfl rfl
  generalize c.seqN p = s at *
  generalize c.ackN p = a at *
  unfold Cs.taken
  split
  · have h2 : EInv ((c.came p.kind s a).open' p.kind) := by
      unfold Cs.open'
      split
      · exact .rest _ (.inl rfl) h.l
      · exact h.like rfl rfl rfl rfl rfl
    generalize (c.came p.kind s a).open' p.kind = c2 at *
    show EInv (c2.turn p.kind s)
    unfold Cs.turn
    split
    · exact h2.like rfl rfl rfl rfl rfl
    split
    · exact EInv.sayW (c := { c2 with st := 4 }) (.inr (.inr rfl)) h2.l
    split
    · exact .fin _ (.inl rfl)
    split
    · exact .fin _ (.inr rfl)
    · exact h2
  split
  · exact h.like rfl rfl rfl rfl rfl
  · exact h
theorem step_e {c : Cs} (h : EInv c) (o : Op24) : EInv (c.step o) := by
  unfold Cs.step
  split
  · unfold Cs.greet
    split
    · split
      · exact EInv.sayW (c := { c with greets := o.o }) (.inr (.inl (by assumption))) h.l
      · exact h
    · exact h
  split
  · unfold Cs.sayP
    split
    · exact h.like rfl rfl rfl rfl rfl
    · exact h
  split
  · unfold Cs.close
    split
    · exact EInv.sayW (c := { c with st := 4 }) (.inr (.inr rfl)) h.l
    · exact h
  split
  · unfold Cs.abort
    split
    · exact h
    split
    · exact .fin _ (.inl rfl)
    · exact .fin _ (.inl rfl)
  split
  · exact take_e h _ _
  split
  · exact tick_e h
  split
  · exact h.like rfl rfl rfl rfl rfl
  · exact h
end Go.Proofs.YtopeaafcepgnhaaGreat
namespace Go.Proofs.YtopeaafcepgnhaaGreat
open Go.RowKit Sym Go.ChangeShapes Go.WideShapes Go.ChangeMaps
attribute [local irreducible] canT
theorem chk_kind {p : Pk} {n : Nat} {g : Nat → Op} (h : chkP p n g = 0) : 0 ≤ p.kind ∧ p.kind ≤ 9 := by
  have h := (chk_opts h).1
  unfold Head.check begH at h
  dsimp only at h
  split at h
  · cases h
  · rename_i hk
    unfold Head.known at hk
    simp at hk
    omega
theorem acks_2 : Head.acks 2 = false := rfl
theorem acks_3 : Head.acks 3 = true := rfl
theorem acks_4 : Head.acks 4 = true := rfl
theorem acks_5 : Head.acks 5 = true := rfl
theorem acks_6 : Head.acks 6 = true := rfl
theorem acks_7 : Head.acks 7 = true := rfl
theorem acks_8 : Head.acks 8 = true := rfl
theorem acks_9 : Head.acks 9 = true := rfl
set_option maxRecDepth 100000 in
set_option maxHeartbeats 40000000 in
theorem rtake_tree (c : Cs) (ua ug : Value) (le tr : Int) (n : Nat) (xs : List Value) (p : Pk) (m : Nat) (f : Nat → Nat → Value) (h : RPre c ua ug le tr n xs) (hck : CkPL p m f) :
    (canT 3 (runF Tryz.prog (CG1 Tryz.prog (RfFn.mk Tryz.f31 Tryz.f16 Tryz.f38 Tryz.f75 Tryz.f39 Tryz.f76)) noL Tryz.f44 (Tryz.f44.body.getD .skip) [.ptr 0 0, p.s (.ref 2)] [.own (rsS c ua ug le tr (.ref 1)), .vec false 36 13 n xs, .row m 2 f])).ok (RM c xs ua ug (n3 (c.take p ⟨m, opF f⟩))) := by
  rw [rtake_run]
  unfold rtake_run_s2 rtake_run_s1
  obtain ⟨hn, hw, hwt, hli, hx, hsa, hsg⟩ := h
  obtain ⟨cl, st, iss, isr, gss, gsr, gar, sv, asks, greets, wa, cle, ctr, sy, li, outs⟩ := c
  obtain ⟨kd, lg, src, dst, ccv, cov, sq, ak, sr, cd, dt, dd⟩ := p
  dsimp only at *
  subst hn
  clear hwt hli
  have hkd : chkP ⟨kd, lg, src, dst, ccv, cov, sq, ak, sr, cd, dt, dd⟩ m (opF f) = 0 → 0 ≤ kd ∧ kd ≤ 9 := chk_kind
  change T.ok _ (T.need _ (T.ite (!decide (chkP ⟨kd, lg, src, dst, ccv, cov, sq, ak, sr, cd, dt, dd⟩ m (opF f) = (0 : Int))) _ _))
  unfold Cs.take
  dsimp only
  generalize chkP ⟨kd, lg, src, dst, ccv, cov, sq, ak, sr, cd, dt, dd⟩ m (opF f) = ck at *
  refine t_need hck ?_
  clear hck
  generalize hr : (if ¬ ck = 0 then _ else _) = rr
  refine t_ite (fun h => t_leaf ?_) fun h => ?_
  · rw [if_pos (by simpa using h)] at hr
    subst hr
    exact ⟨rfl, roff_same (fun B => rfl) rfl rfl rfl rfl hw⟩
  have h : ck = 0 := by simpa using h
  have hk := hkd h
  clear hkd
  rw [if_neg (by simpa using h)] at hr
  unfold Cs.answered Cs.taken Cs.seqN Cs.ackN Cs.takeE Cs.asksB at hr
  dsimp only at hr
  repeat' (first | (with_reducible refine t_need ?_ ?_) | (with_reducible refine t_ite ?_ ?_; all_goals intro h) | (with_reducible refine t_leaf ?_))
  all_goals (try exact hx)
  all_goals (try exact slice_nil)
  all_goals (simp only [decide_eq_true_eq, decide_eq_false_iff_not, Bool.not_eq_true', Bool.not_eq_false'] at *)
  all_goals (try (exfalso; omega))
  all_goals (try subst kd)
  all_goals (first | have hA : Head.acks kd = true := (by unfold Head.acks; simp; omega) | have hA : Head.acks kd = false := (by unfold Head.acks; simp; omega) | skip)
  all_goals (try have n01 : kd = 0 ∨ kd = 1 := (by omega))
  all_goals (try have n0 : ¬ kd = 0 := (by omega))
  all_goals (try have n1 : ¬ kd = 1 := (by omega))
  all_goals (try have n5 : ¬ kd = 5 := (by omega))
  all_goals (try have n6 : ¬ kd = 6 := (by omega))
  all_goals (try have n7 : ¬ kd = 7 := (by omega))
  all_goals (try have n8 : ¬ kd = 8 := (by omega))
  all_goals (try have n9 : ¬ kd = 9 := (by omega))
  all_goals (simp [Cs.came, Cs.open', Cs.upB, Cs.turn, Cs.say, Cs.endK, acks_2, acks_3, acks_4, acks_5, acks_6, acks_7, acks_8, acks_9, *] at hr)
  all_goals (try subst hr)
  all_goals (try subst_vars)
  all_goals first
    | exact ⟨rfl, roff_same (fun B => rfl) rfl rfl rfl rfl hw⟩
    | exact ⟨rfl, roff_same (fun B => rfl) rfl rfl rfl rfl (.inl rfl)⟩
    | exact ⟨rfl, roff_sendJ rfl rfl (fun B => rfl) rfl rfl rfl rfl (.inl ⟨rfl, rfl⟩) hw⟩
    | exact ⟨rfl, roff_sendJ rfl rfl (fun B => rfl) rfl rfl rfl rfl (.inl ⟨rfl, rfl⟩) (.inl rfl)⟩
    | exact ⟨rfl, roff_sendJ rfl rfl (fun B => rfl) rfl rfl rfl rfl (.inl ⟨rfl, rfl⟩) (.inr ⟨rfl, rfl⟩)⟩
    | contradiction
    | (rw [if_neg (fun g => absurd g.1 (by omega))]; exact ⟨rfl, roff_same (fun B => rfl) rfl rfl rfl rfl hw⟩)
    | trace_state
end Go.Proofs.YtopeaafcepgnhaaGreat
namespace Go.Proofs.YtopeaafcepgnhaaGreat
open Go.RowKit Sym Go.ChangeShapes Go.WideShapes Go.ChangeMaps
structure CnFn where
  brief_ : Func
  ending_ : Func
  State_ : Func
  end_ : Func
  numbers_ : Func
  wait_ : Func
  said_ : Func
  send_ : Func
  may_ : Func
  request_ : Func
  greeting_ : Func
  closeSide_ : Func
  reset_ : Func
  valid_ : Func
  turn_ : Func
  answered_ : Func
  Greet_ : Func
  Say_ : Func
  Close_ : Func
  Take_ : Func
  Tick_ : Func
  Dial_ : Func
  Adopt_ : Func
abbrev FK0 : LTab := addT 33 fClone <| addT 60 (fZero (rdP CkPL fun p n f => .int .i64 (chkP p n (opF f)))) <| addT 32 (fZero (rd1 2 OpP fun n f => .int .i64 (chkO n (opF f)))) <| addT 92 (fZero (rdV tValid)) <| addT 89 (fTrue (rdV tCWithin)) <| addT 91 fAcks <| addT 55 fBeg <| addT 56 fTk0 <| addT 18 fOuts noF
theorem FK0_ok : LOk Tryz.prog FK0 :=
  addT_ok (addT_ok (addT_ok (addT_ok (addT_ok (addT_ok (addT_ok (addT_ok (addT_ok noF_ok
    (by kernel_rfl) fOuts_ok)
    (by kernel_rfl) fTk0_ok)
    (by kernel_rfl) fBeg_ok)
    (by kernel_rfl) fAcks_ok)
    (by kernel_rfl) (fTrue_ok (rdV_ok fun xs p v h hp w => by
      unfold tCWithin at h
      split at h
      · simp only [Option.some.injEq, Prod.mk.injEq] at h; obtain ⟨rfl, rfl⟩ := h; exact of_same (circ_within _ _ _ w)
      · cases h)))
    (by kernel_rfl) (fZero_ok (rdV_ok fun xs p v h hp w => by
      unfold tValid at h
      split at h
      · simp only [Option.some.injEq, Prod.mk.injEq] at h; obtain ⟨rfl, rfl⟩ := h; exact span_valid ⟨_, _, _, _, _⟩ _ _ _ w
      · cases h)))
    (by kernel_rfl) (fZero_ok (rd1_ok fun n f v w hv hp => opts_Check n (opF f) hp.2 v w (op_row hv hp.1))))
    (by kernel_rfl) (fZero_ok (rdP_ok fun p n fr o w hv hp => packet_Check p n fr hp o w hv)))
    (by kernel_rfl) fClone_ok
abbrev fsK0 : List Nat := [33, 60, 32, 92, 89, 91, 55, 56, 18]
abbrev CK0 (P : Program) : Cfg := both P SCn0 FK0 fsK0
theorem CK0_ok : CfgOk Tryz.prog (CK0 Tryz.prog) := both_ok SCn0_ok FK0_ok
def FK1 (P : Program) (Z : CnFn) : LTab := addT 95 (closeE (inl P (CK0 P) noL Z.brief_)) <| addT 97 (closeE (inl P (CK0 P) noL Z.ending_)) <| addT 14 (closeE (inl P (CK0 P) noL Z.State_)) <| addT 57 (closeE (inl P (CK0 P) noL Z.end_)) <| addT 62 (closeE (inl P (CK0 P) noL Z.numbers_)) <| addT 35 (closeE (inl P (CK0 P) noL Z.wait_)) <| addT 58 (closeE (inl P (CK0 P) noL Z.said_)) <| FK0
abbrev fsK1 : List Nat := 95 :: 97 :: 14 :: 57 :: 62 :: 35 :: 58 :: fsK0
abbrev CK1 (P : Program) (Z : CnFn) : Cfg := both P SCn0 (FK1 P Z) fsK1
theorem EK_said : EntryOk Tryz.prog 58 (closeE (inl Tryz.prog (CK0 Tryz.prog) noL Tryz.f58)) := closeE_ok (inl_ok CK0_ok follows Tryz.func58 (by kernel_rfl) (lexAllF_ok (by kernel_rfl)) (noloops (by kernel_rfl)))
theorem EK_wait : EntryOk Tryz.prog 35 (closeE (inl Tryz.prog (CK0 Tryz.prog) noL Tryz.f35)) := closeE_ok (inl_ok CK0_ok follows Tryz.func35 (by kernel_rfl) (lexAllF_ok (by kernel_rfl)) (noloops (by kernel_rfl)))
theorem EK_numbers : EntryOk Tryz.prog 62 (closeE (inl Tryz.prog (CK0 Tryz.prog) noL Tryz.f62)) := closeE_ok (inl_ok CK0_ok follows Tryz.func62 (by kernel_rfl) (lexAllF_ok (by kernel_rfl)) (noloops (by kernel_rfl)))
theorem EK_end : EntryOk Tryz.prog 57 (closeE (inl Tryz.prog (CK0 Tryz.prog) noL Tryz.f57)) := closeE_ok (inl_ok CK0_ok follows Tryz.func57 (by kernel_rfl) (lexAllF_ok (by kernel_rfl)) (noloops (by kernel_rfl)))
theorem EK_State : EntryOk Tryz.prog 14 (closeE (inl Tryz.prog (CK0 Tryz.prog) noL Tryz.f14)) := closeE_ok (inl_ok CK0_ok follows Tryz.func14 (by kernel_rfl) (lexAllF_ok (by kernel_rfl)) (noloops (by kernel_rfl)))
theorem EK_ending : EntryOk Tryz.prog 97 (closeE (inl Tryz.prog (CK0 Tryz.prog) noL Tryz.f97)) := closeE_ok (inl_ok CK0_ok follows Tryz.func97 (by kernel_rfl) (lexAllF_ok (by kernel_rfl)) (noloops (by kernel_rfl)))
theorem EK_brief : EntryOk Tryz.prog 95 (closeE (inl Tryz.prog (CK0 Tryz.prog) noL Tryz.f95)) := closeE_ok (inl_ok CK0_ok follows Tryz.func95 (by kernel_rfl) (lexAllF_ok (by kernel_rfl)) (noloops (by kernel_rfl)))
theorem FK1_ok : LOk Tryz.prog (FK1 Tryz.prog (CnFn.mk Tryz.f95 Tryz.f97 Tryz.f14 Tryz.f57 Tryz.f62 Tryz.f35 Tryz.f58 Tryz.f68 Tryz.f66 Tryz.f36 Tryz.f54 Tryz.f69 Tryz.f59 Tryz.f63 Tryz.f65 Tryz.f61 Tryz.f22 Tryz.f26 Tryz.f27 Tryz.f25 Tryz.f24 Tryz.f11 Tryz.f9)) := addT_ok (addT_ok (addT_ok (addT_ok (addT_ok (addT_ok (addT_ok (FK0_ok) (by kernel_rfl) EK_said) (by kernel_rfl) EK_wait) (by kernel_rfl) EK_numbers) (by kernel_rfl) EK_end) (by kernel_rfl) EK_State) (by kernel_rfl) EK_ending) (by kernel_rfl) EK_brief
theorem CK1_ok : CfgOk Tryz.prog (CK1 Tryz.prog (CnFn.mk Tryz.f95 Tryz.f97 Tryz.f14 Tryz.f57 Tryz.f62 Tryz.f35 Tryz.f58 Tryz.f68 Tryz.f66 Tryz.f36 Tryz.f54 Tryz.f69 Tryz.f59 Tryz.f63 Tryz.f65 Tryz.f61 Tryz.f22 Tryz.f26 Tryz.f27 Tryz.f25 Tryz.f24 Tryz.f11 Tryz.f9)) := both_ok SCn0_ok FK1_ok
def FK2 (P : Program) (Z : CnFn) : LTab := addT 68 (closeE (inl P (CK1 P Z) noL Z.send_)) <| addT 66 (closeE (inl P (CK1 P Z) noL Z.may_)) <| FK1 P Z
abbrev fsK2 : List Nat := 68 :: 66 :: fsK1
abbrev CK2 (P : Program) (Z : CnFn) : Cfg := both P SCn0 (FK2 P Z) fsK2
theorem EK_may : EntryOk Tryz.prog 66 (closeE (inl Tryz.prog (CK1 Tryz.prog (CnFn.mk Tryz.f95 Tryz.f97 Tryz.f14 Tryz.f57 Tryz.f62 Tryz.f35 Tryz.f58 Tryz.f68 Tryz.f66 Tryz.f36 Tryz.f54 Tryz.f69 Tryz.f59 Tryz.f63 Tryz.f65 Tryz.f61 Tryz.f22 Tryz.f26 Tryz.f27 Tryz.f25 Tryz.f24 Tryz.f11 Tryz.f9)) noL Tryz.f66)) := closeE_ok (inl_ok CK1_ok follows Tryz.func66 (by kernel_rfl) (lexAllF_ok (by kernel_rfl)) (noloops (by kernel_rfl)))
theorem EK_send : EntryOk Tryz.prog 68 (closeE (inl Tryz.prog (CK1 Tryz.prog (CnFn.mk Tryz.f95 Tryz.f97 Tryz.f14 Tryz.f57 Tryz.f62 Tryz.f35 Tryz.f58 Tryz.f68 Tryz.f66 Tryz.f36 Tryz.f54 Tryz.f69 Tryz.f59 Tryz.f63 Tryz.f65 Tryz.f61 Tryz.f22 Tryz.f26 Tryz.f27 Tryz.f25 Tryz.f24 Tryz.f11 Tryz.f9)) noL Tryz.f68)) := closeE_ok (inl_ok CK1_ok follows Tryz.func68 (by kernel_rfl) (lexAllF_ok (by kernel_rfl)) (noloops (by kernel_rfl)))
theorem FK2_ok : LOk Tryz.prog (FK2 Tryz.prog (CnFn.mk Tryz.f95 Tryz.f97 Tryz.f14 Tryz.f57 Tryz.f62 Tryz.f35 Tryz.f58 Tryz.f68 Tryz.f66 Tryz.f36 Tryz.f54 Tryz.f69 Tryz.f59 Tryz.f63 Tryz.f65 Tryz.f61 Tryz.f22 Tryz.f26 Tryz.f27 Tryz.f25 Tryz.f24 Tryz.f11 Tryz.f9)) := addT_ok (addT_ok (FK1_ok) (by kernel_rfl) EK_may) (by kernel_rfl) EK_send
theorem CK2_ok : CfgOk Tryz.prog (CK2 Tryz.prog (CnFn.mk Tryz.f95 Tryz.f97 Tryz.f14 Tryz.f57 Tryz.f62 Tryz.f35 Tryz.f58 Tryz.f68 Tryz.f66 Tryz.f36 Tryz.f54 Tryz.f69 Tryz.f59 Tryz.f63 Tryz.f65 Tryz.f61 Tryz.f22 Tryz.f26 Tryz.f27 Tryz.f25 Tryz.f24 Tryz.f11 Tryz.f9)) := both_ok SCn0_ok FK2_ok
abbrev CKm (P : Program) (Z : CnFn) : Cfg := ⟨SCn0, addG 97 gEnding (liftG (FK2 P Z)), effE P fsK2, [], []⟩
theorem CKm_ok : CfgOk Tryz.prog (CKm Tryz.prog (CnFn.mk Tryz.f95 Tryz.f97 Tryz.f14 Tryz.f57 Tryz.f62 Tryz.f35 Tryz.f58 Tryz.f68 Tryz.f66 Tryz.f36 Tryz.f54 Tryz.f69 Tryz.f59 Tryz.f63 Tryz.f65 Tryz.f61 Tryz.f22 Tryz.f26 Tryz.f27 Tryz.f25 Tryz.f24 Tryz.f11 Tryz.f9)) := ⟨SCn0_ok, addG_ok (liftG_ok FK2_ok) (by kernel_rfl) gEnding_ok⟩
def FK3 (P : Program) (Z : CnFn) : LTab := addT 36 (closeE (inl P (CK2 P Z) noL Z.request_)) <| addT 54 (closeE (inl P (CK2 P Z) noL Z.greeting_)) <| addT 69 (closeE (inl P (CKm P Z) noL Z.closeSide_)) <| addT 59 (closeE (inl P (CK2 P Z) noL Z.reset_)) <| FK2 P Z
abbrev fsK3 : List Nat := 36 :: 54 :: 69 :: 59 :: fsK2
abbrev CK3 (P : Program) (Z : CnFn) : Cfg := both P SCn0 (FK3 P Z) fsK3
theorem EK_reset : EntryOk Tryz.prog 59 (closeE (inl Tryz.prog (CK2 Tryz.prog (CnFn.mk Tryz.f95 Tryz.f97 Tryz.f14 Tryz.f57 Tryz.f62 Tryz.f35 Tryz.f58 Tryz.f68 Tryz.f66 Tryz.f36 Tryz.f54 Tryz.f69 Tryz.f59 Tryz.f63 Tryz.f65 Tryz.f61 Tryz.f22 Tryz.f26 Tryz.f27 Tryz.f25 Tryz.f24 Tryz.f11 Tryz.f9)) noL Tryz.f59)) := closeE_ok (inl_ok CK2_ok follows Tryz.func59 (by kernel_rfl) (lexAllF_ok (by kernel_rfl)) (noloops (by kernel_rfl)))
theorem EK_closeSide : EntryOk Tryz.prog 69 (closeE (inl Tryz.prog (CKm Tryz.prog (CnFn.mk Tryz.f95 Tryz.f97 Tryz.f14 Tryz.f57 Tryz.f62 Tryz.f35 Tryz.f58 Tryz.f68 Tryz.f66 Tryz.f36 Tryz.f54 Tryz.f69 Tryz.f59 Tryz.f63 Tryz.f65 Tryz.f61 Tryz.f22 Tryz.f26 Tryz.f27 Tryz.f25 Tryz.f24 Tryz.f11 Tryz.f9)) noL Tryz.f69)) := closeE_ok (inl_ok CKm_ok follows Tryz.func69 (by kernel_rfl) (lexAllF_ok (by kernel_rfl)) (noloops (by kernel_rfl)))
theorem EK_greeting : EntryOk Tryz.prog 54 (closeE (inl Tryz.prog (CK2 Tryz.prog (CnFn.mk Tryz.f95 Tryz.f97 Tryz.f14 Tryz.f57 Tryz.f62 Tryz.f35 Tryz.f58 Tryz.f68 Tryz.f66 Tryz.f36 Tryz.f54 Tryz.f69 Tryz.f59 Tryz.f63 Tryz.f65 Tryz.f61 Tryz.f22 Tryz.f26 Tryz.f27 Tryz.f25 Tryz.f24 Tryz.f11 Tryz.f9)) noL Tryz.f54)) := closeE_ok (inl_ok CK2_ok follows Tryz.func54 (by kernel_rfl) (lexAllF_ok (by kernel_rfl)) (noloops (by kernel_rfl)))
theorem EK_request : EntryOk Tryz.prog 36 (closeE (inl Tryz.prog (CK2 Tryz.prog (CnFn.mk Tryz.f95 Tryz.f97 Tryz.f14 Tryz.f57 Tryz.f62 Tryz.f35 Tryz.f58 Tryz.f68 Tryz.f66 Tryz.f36 Tryz.f54 Tryz.f69 Tryz.f59 Tryz.f63 Tryz.f65 Tryz.f61 Tryz.f22 Tryz.f26 Tryz.f27 Tryz.f25 Tryz.f24 Tryz.f11 Tryz.f9)) noL Tryz.f36)) := closeE_ok (inl_ok CK2_ok follows Tryz.func36 (by kernel_rfl) (lexAllF_ok (by kernel_rfl)) (noloops (by kernel_rfl)))
theorem FK3_ok : LOk Tryz.prog (FK3 Tryz.prog (CnFn.mk Tryz.f95 Tryz.f97 Tryz.f14 Tryz.f57 Tryz.f62 Tryz.f35 Tryz.f58 Tryz.f68 Tryz.f66 Tryz.f36 Tryz.f54 Tryz.f69 Tryz.f59 Tryz.f63 Tryz.f65 Tryz.f61 Tryz.f22 Tryz.f26 Tryz.f27 Tryz.f25 Tryz.f24 Tryz.f11 Tryz.f9)) := addT_ok (addT_ok (addT_ok (addT_ok (FK2_ok) (by kernel_rfl) EK_reset) (by kernel_rfl) EK_closeSide) (by kernel_rfl) EK_greeting) (by kernel_rfl) EK_request
theorem CK3_ok : CfgOk Tryz.prog (CK3 Tryz.prog (CnFn.mk Tryz.f95 Tryz.f97 Tryz.f14 Tryz.f57 Tryz.f62 Tryz.f35 Tryz.f58 Tryz.f68 Tryz.f66 Tryz.f36 Tryz.f54 Tryz.f69 Tryz.f59 Tryz.f63 Tryz.f65 Tryz.f61 Tryz.f22 Tryz.f26 Tryz.f27 Tryz.f25 Tryz.f24 Tryz.f11 Tryz.f9)) := both_ok SCn0_ok FK3_ok
def FK4 (P : Program) (Z : CnFn) : LTab := addT 63 (closeE (inl P (CK3 P Z) noL Z.valid_)) <| addT 65 (closeE (inl P (CK3 P Z) noL Z.turn_)) <| addT 61 (closeE (inl P (CK3 P Z) noL Z.answered_)) <| FK3 P Z
abbrev fsK4 : List Nat := 63 :: 65 :: 61 :: fsK3
abbrev CK4 (P : Program) (Z : CnFn) : Cfg := both P SCn0 (FK4 P Z) fsK4
theorem EK_answered : EntryOk Tryz.prog 61 (closeE (inl Tryz.prog (CK3 Tryz.prog (CnFn.mk Tryz.f95 Tryz.f97 Tryz.f14 Tryz.f57 Tryz.f62 Tryz.f35 Tryz.f58 Tryz.f68 Tryz.f66 Tryz.f36 Tryz.f54 Tryz.f69 Tryz.f59 Tryz.f63 Tryz.f65 Tryz.f61 Tryz.f22 Tryz.f26 Tryz.f27 Tryz.f25 Tryz.f24 Tryz.f11 Tryz.f9)) noL Tryz.f61)) := closeE_ok (inl_ok CK3_ok follows Tryz.func61 (by kernel_rfl) (lexAllF_ok (by kernel_rfl)) (noloops (by kernel_rfl)))
theorem EK_turn : EntryOk Tryz.prog 65 (closeE (inl Tryz.prog (CK3 Tryz.prog (CnFn.mk Tryz.f95 Tryz.f97 Tryz.f14 Tryz.f57 Tryz.f62 Tryz.f35 Tryz.f58 Tryz.f68 Tryz.f66 Tryz.f36 Tryz.f54 Tryz.f69 Tryz.f59 Tryz.f63 Tryz.f65 Tryz.f61 Tryz.f22 Tryz.f26 Tryz.f27 Tryz.f25 Tryz.f24 Tryz.f11 Tryz.f9)) noL Tryz.f65)) := closeE_ok (inl_ok CK3_ok follows Tryz.func65 (by kernel_rfl) (lexAllF_ok (by kernel_rfl)) (noloops (by kernel_rfl)))
theorem EK_valid : EntryOk Tryz.prog 63 (closeE (inl Tryz.prog (CK3 Tryz.prog (CnFn.mk Tryz.f95 Tryz.f97 Tryz.f14 Tryz.f57 Tryz.f62 Tryz.f35 Tryz.f58 Tryz.f68 Tryz.f66 Tryz.f36 Tryz.f54 Tryz.f69 Tryz.f59 Tryz.f63 Tryz.f65 Tryz.f61 Tryz.f22 Tryz.f26 Tryz.f27 Tryz.f25 Tryz.f24 Tryz.f11 Tryz.f9)) noL Tryz.f63)) := closeE_ok (inl_ok CK3_ok follows Tryz.func63 (by kernel_rfl) (lexAllF_ok (by kernel_rfl)) (noloops (by kernel_rfl)))
theorem FK4_ok : LOk Tryz.prog (FK4 Tryz.prog (CnFn.mk Tryz.f95 Tryz.f97 Tryz.f14 Tryz.f57 Tryz.f62 Tryz.f35 Tryz.f58 Tryz.f68 Tryz.f66 Tryz.f36 Tryz.f54 Tryz.f69 Tryz.f59 Tryz.f63 Tryz.f65 Tryz.f61 Tryz.f22 Tryz.f26 Tryz.f27 Tryz.f25 Tryz.f24 Tryz.f11 Tryz.f9)) := addT_ok (addT_ok (addT_ok (FK3_ok) (by kernel_rfl) EK_answered) (by kernel_rfl) EK_turn) (by kernel_rfl) EK_valid
theorem CK4_ok : CfgOk Tryz.prog (CK4 Tryz.prog (CnFn.mk Tryz.f95 Tryz.f97 Tryz.f14 Tryz.f57 Tryz.f62 Tryz.f35 Tryz.f58 Tryz.f68 Tryz.f66 Tryz.f36 Tryz.f54 Tryz.f69 Tryz.f59 Tryz.f63 Tryz.f65 Tryz.f61 Tryz.f22 Tryz.f26 Tryz.f27 Tryz.f25 Tryz.f24 Tryz.f11 Tryz.f9)) := both_ok SCn0_ok FK4_ok
def FK5 (P : Program) (Z : CnFn) : LTab := addT 22 (closeE (inlC P (CK4 P Z) noL Z.Greet_)) <| addT 26 (closeE (inlC P (CK4 P Z) noL Z.Say_)) <| addT 27 (closeE (inlC P (CK4 P Z) noL Z.Close_)) <| addT 25 (closeE (inlC P (CK4 P Z) noL Z.Take_)) <| addT 24 (closeE (inlC P (CK4 P Z) noL Z.Tick_)) <| addT 11 (closeE (inlC P (CK4 P Z) noL Z.Dial_)) <| addT 9 (closeE (inlC P (CK4 P Z) noL Z.Adopt_)) <| FK4 P Z
abbrev fsK5 : List Nat := 22 :: 26 :: 27 :: 25 :: 24 :: 11 :: 9 :: fsK4
abbrev CK5 (P : Program) (Z : CnFn) : Cfg := both P SCn0 (FK5 P Z) fsK5
theorem EK_Adopt : EntryOk Tryz.prog 9 (closeE (inlC Tryz.prog (CK4 Tryz.prog (CnFn.mk Tryz.f95 Tryz.f97 Tryz.f14 Tryz.f57 Tryz.f62 Tryz.f35 Tryz.f58 Tryz.f68 Tryz.f66 Tryz.f36 Tryz.f54 Tryz.f69 Tryz.f59 Tryz.f63 Tryz.f65 Tryz.f61 Tryz.f22 Tryz.f26 Tryz.f27 Tryz.f25 Tryz.f24 Tryz.f11 Tryz.f9)) noL Tryz.f9)) := closeE_ok (inlC_ok CK4_ok follows Tryz.func9 (by kernel_rfl) (lexAllF_ok (by kernel_rfl)) (noloops (by kernel_rfl)))
theorem EK_Dial : EntryOk Tryz.prog 11 (closeE (inlC Tryz.prog (CK4 Tryz.prog (CnFn.mk Tryz.f95 Tryz.f97 Tryz.f14 Tryz.f57 Tryz.f62 Tryz.f35 Tryz.f58 Tryz.f68 Tryz.f66 Tryz.f36 Tryz.f54 Tryz.f69 Tryz.f59 Tryz.f63 Tryz.f65 Tryz.f61 Tryz.f22 Tryz.f26 Tryz.f27 Tryz.f25 Tryz.f24 Tryz.f11 Tryz.f9)) noL Tryz.f11)) := closeE_ok (inlC_ok CK4_ok follows Tryz.func11 (by kernel_rfl) (lexAllF_ok (by kernel_rfl)) (noloops (by kernel_rfl)))
theorem EK_Tick : EntryOk Tryz.prog 24 (closeE (inlC Tryz.prog (CK4 Tryz.prog (CnFn.mk Tryz.f95 Tryz.f97 Tryz.f14 Tryz.f57 Tryz.f62 Tryz.f35 Tryz.f58 Tryz.f68 Tryz.f66 Tryz.f36 Tryz.f54 Tryz.f69 Tryz.f59 Tryz.f63 Tryz.f65 Tryz.f61 Tryz.f22 Tryz.f26 Tryz.f27 Tryz.f25 Tryz.f24 Tryz.f11 Tryz.f9)) noL Tryz.f24)) := closeE_ok (inlC_ok CK4_ok follows Tryz.func24 (by kernel_rfl) (lexAllF_ok (by kernel_rfl)) (noloops (by kernel_rfl)))
theorem EK_Take : EntryOk Tryz.prog 25 (closeE (inlC Tryz.prog (CK4 Tryz.prog (CnFn.mk Tryz.f95 Tryz.f97 Tryz.f14 Tryz.f57 Tryz.f62 Tryz.f35 Tryz.f58 Tryz.f68 Tryz.f66 Tryz.f36 Tryz.f54 Tryz.f69 Tryz.f59 Tryz.f63 Tryz.f65 Tryz.f61 Tryz.f22 Tryz.f26 Tryz.f27 Tryz.f25 Tryz.f24 Tryz.f11 Tryz.f9)) noL Tryz.f25)) := closeE_ok (inlC_ok CK4_ok follows Tryz.func25 (by kernel_rfl) (lexAllF_ok (by kernel_rfl)) (noloops (by kernel_rfl)))
theorem EK_Close : EntryOk Tryz.prog 27 (closeE (inlC Tryz.prog (CK4 Tryz.prog (CnFn.mk Tryz.f95 Tryz.f97 Tryz.f14 Tryz.f57 Tryz.f62 Tryz.f35 Tryz.f58 Tryz.f68 Tryz.f66 Tryz.f36 Tryz.f54 Tryz.f69 Tryz.f59 Tryz.f63 Tryz.f65 Tryz.f61 Tryz.f22 Tryz.f26 Tryz.f27 Tryz.f25 Tryz.f24 Tryz.f11 Tryz.f9)) noL Tryz.f27)) := closeE_ok (inlC_ok CK4_ok follows Tryz.func27 (by kernel_rfl) (lexAllF_ok (by kernel_rfl)) (noloops (by kernel_rfl)))
theorem EK_Say : EntryOk Tryz.prog 26 (closeE (inlC Tryz.prog (CK4 Tryz.prog (CnFn.mk Tryz.f95 Tryz.f97 Tryz.f14 Tryz.f57 Tryz.f62 Tryz.f35 Tryz.f58 Tryz.f68 Tryz.f66 Tryz.f36 Tryz.f54 Tryz.f69 Tryz.f59 Tryz.f63 Tryz.f65 Tryz.f61 Tryz.f22 Tryz.f26 Tryz.f27 Tryz.f25 Tryz.f24 Tryz.f11 Tryz.f9)) noL Tryz.f26)) := closeE_ok (inlC_ok CK4_ok follows Tryz.func26 (by kernel_rfl) (lexAllF_ok (by kernel_rfl)) (noloops (by kernel_rfl)))
theorem EK_Greet : EntryOk Tryz.prog 22 (closeE (inlC Tryz.prog (CK4 Tryz.prog (CnFn.mk Tryz.f95 Tryz.f97 Tryz.f14 Tryz.f57 Tryz.f62 Tryz.f35 Tryz.f58 Tryz.f68 Tryz.f66 Tryz.f36 Tryz.f54 Tryz.f69 Tryz.f59 Tryz.f63 Tryz.f65 Tryz.f61 Tryz.f22 Tryz.f26 Tryz.f27 Tryz.f25 Tryz.f24 Tryz.f11 Tryz.f9)) noL Tryz.f22)) := closeE_ok (inlC_ok CK4_ok follows Tryz.func22 (by kernel_rfl) (lexAllF_ok (by kernel_rfl)) (noloops (by kernel_rfl)))
theorem FK5_ok : LOk Tryz.prog (FK5 Tryz.prog (CnFn.mk Tryz.f95 Tryz.f97 Tryz.f14 Tryz.f57 Tryz.f62 Tryz.f35 Tryz.f58 Tryz.f68 Tryz.f66 Tryz.f36 Tryz.f54 Tryz.f69 Tryz.f59 Tryz.f63 Tryz.f65 Tryz.f61 Tryz.f22 Tryz.f26 Tryz.f27 Tryz.f25 Tryz.f24 Tryz.f11 Tryz.f9)) := addT_ok (addT_ok (addT_ok (addT_ok (addT_ok (addT_ok (addT_ok (FK4_ok) (by kernel_rfl) EK_Adopt) (by kernel_rfl) EK_Dial) (by kernel_rfl) EK_Tick) (by kernel_rfl) EK_Take) (by kernel_rfl) EK_Close) (by kernel_rfl) EK_Say) (by kernel_rfl) EK_Greet
theorem CK5_ok : CfgOk Tryz.prog (CK5 Tryz.prog (CnFn.mk Tryz.f95 Tryz.f97 Tryz.f14 Tryz.f57 Tryz.f62 Tryz.f35 Tryz.f58 Tryz.f68 Tryz.f66 Tryz.f36 Tryz.f54 Tryz.f69 Tryz.f59 Tryz.f63 Tryz.f65 Tryz.f61 Tryz.f22 Tryz.f26 Tryz.f27 Tryz.f25 Tryz.f24 Tryz.f11 Tryz.f9)) := both_ok SCn0_ok FK5_ok
theorem allOne_nil : allOneP [] := fun u hu => by cases hu
theorem allOne_cons {x : Value} {l : List Value} (h : x.oneCell' = true) (hl : allOneP l) : allOneP (x :: l) := fun u hu => by
  rcases List.mem_cons.1 hu with rfl | hu
  · exact h
  · exact hl u hu
set_option maxRecDepth 100000 in
theorem works24_run (u : Unit) : runO Tryz.prog (CK5 Tryz.prog (CnFn.mk Tryz.f95 Tryz.f97 Tryz.f14 Tryz.f57 Tryz.f62 Tryz.f35 Tryz.f58 Tryz.f68 Tryz.f66 Tryz.f36 Tryz.f54 Tryz.f69 Tryz.f59 Tryz.f63 Tryz.f65 Tryz.f61 Tryz.f22 Tryz.f26 Tryz.f27 Tryz.f25 Tryz.f24 Tryz.f11 Tryz.f9)) noL Tryz.f6 [] [] = .need (OpP 0 fun x x_1 => undef) (.need (Value.int IntKind.i64 0 = Value.int IntKind.i64 0) (.need ((8 : Int) = (8 : Int)) (.need (1 ≤ 9223372036854775807 ∧ 128 ≤ 140737488355328) (.need (allOneP [Value.int IntKind.i64 0, Value.bool true, Value.int IntKind.i64 0, Value.int IntKind.i64 0, Value.int IntKind.i64 0, Value.int IntKind.i64 0, Value.int IntKind.i64 7, Value.int IntKind.i64 0, Value.int IntKind.i64 5, Value.int IntKind.i64 0, Value.int IntKind.i64 0, Value.slice none 0 0, Value.string (ByteArray.mk (Array.mk []))]) (.need (CkPL (Pk.mk (1 : Int) true (0 : Int) (0 : Int) (0 : Int) (0 : Int) (100 : Int) (7 : Int) (5 : Int) (0 : Int) (0 : Int) (ByteArray.mk (Array.mk []))) 0 fun x x_1 => undef) (.need (Value.int IntKind.i64 0 = Value.int IntKind.i64 0) (.need (Value.bool true = Value.bool true) (.need ((0 : Int) ≤ (0 : Int) ∧ (0 : Int) < (1 : Int)) (.need ((0 : Int) ≤ (0 : Int) ∧ (0 : Int) < (1 : Int)) (.ite true (.ite true (.ite true (.need (OpP 0 fun x x_1 => undef) (.need (Value.int IntKind.i64 0 = Value.int IntKind.i64 0) (.need (1 ≤ 9223372036854775807 ∧ 128 ≤ 140737488355328) (.need (allOneP [Value.int IntKind.i64 3, Value.bool true, Value.int IntKind.i64 0, Value.int IntKind.i64 0, Value.int IntKind.i64 0, Value.int IntKind.i64 0, Value.int IntKind.i64 8, Value.int IntKind.i64 100, Value.int IntKind.i64 0, Value.int IntKind.i64 0, Value.int IntKind.i64 0, Value.slice none 0 0, Value.string (ByteArray.mk (Array.mk []))]) (.need ((8 : Int) = (8 : Int)) (.leaf (Value.bool true))))))) (.leaf (Value.bool false))) (.leaf (Value.bool false))) (.leaf (Value.bool false)))))))))))) := by kernel_rfl
theorem mem_none (w : World) : Mem w [] [] [] w := by
  refine ⟨⟨rfl, fun k x u h => by simp at h, ?_, ?_⟩, .refl _ _, ?_⟩
  · rintro k j b ⟨x, u, h, -⟩; simp at h
  · rintro k j b ⟨x, u, h, -⟩; simp at h
  · rintro k b ⟨x, u, h, -⟩; simp at h
theorem works24_any (w : World) : Calls Tryz.prog 6 #[] w fun e w' => e = .returned (.bool true) ∧ Below w.heap.size w w' := by
  refine calls_runO CK5_ok follows Tryz.func6 (by kernel_rfl) (lexAllF_ok (by kernel_rfl)) (noloops (by kernel_rfl)) (works24_run ()) ?_ (mem_none w) rfl
  repeat' (first | (with_reducible refine t_need ?_ ?_) | (with_reducible refine t_ite ?_ ?_; all_goals intro h) | (with_reducible refine t_leaf ?_))
  all_goals first
    | rfl | exact opP_nil | (exact ckPL_nil _ (by show ByteArray.size ⟨⟨[]⟩⟩ ≤ 1000000; decide)) | decide | ((repeat (refine allOne_cons rfl ?_)); exact allOne_nil) | (cases h; done) | (exact absurd h (by decide))
set_option maxRecDepth 100000 in
theorem outsV_run (c : Cs) (ua ug : Value) (n : Nat) (xs : List Value) : canT 2 (runF Tryz.prog (CU Tryz.prog (CdFn.mk Tryz.f95 Tryz.f14 Tryz.f57 Tryz.f35 Tryz.f58 Tryz.f68 Tryz.f66 Tryz.f36 Tryz.f54 Tryz.f69 Tryz.f59 Tryz.f63 Tryz.f65 Tryz.f61)) noL Tryz.f18 (Tryz.f18.body.getD .skip) [.ptr 0 0] [.own (csS c (.v (.int .i64 c.st)) (.v ua) (.v ug) (.ref 1)), .vec false 36 13 n xs]) = .leaf (SV.ref 1, [.own [SV.v (Value.bool c.1), .v (.int .i64 c.2), .v (.int .i64 c.3), .v (.int .i64 c.4), .v (.int .i64 c.5), .v (.int .i64 c.6), .v (.int .i64 c.7), .v (.int .i64 c.8), SV.v ua, SV.v ug, .v (.int .i64 c.11), .v (.int .i64 c.12), .v (.int .i64 c.13), SV.v (Value.bool c.14), .v (.int .i64 c.15), SV.c (Value.slice none 0 0)], Blk.vec false 36 13 n xs]) := by kernel_rfl
attribute [local irreducible] canT
theorem state_any {w : World} {X : List Nat} {k : Nat} {uo : Value} {c : Cs} (hs : CSat w X k uo c) : Calls Tryz.prog 14 #[ptrV k] w fun e w' => e = .returned (.int .i64 c.st) ∧ w = w' := by
  obtain ⟨ua, ug, qs, hc⟩ := hs
  have h : w.cell? ⟨k, 1, none⟩ = some (.int .i64 c.st) := by
    have := hc.conn.own.2.1 1
    simpa [csV15] using this
  go_enter Tryz.func14, Tryz.ntmps14
  go_wp2
  go_ret
  exact ⟨rfl, rfl⟩
theorem next_any {w : World} {X : List Nat} {k : Nat} {uo : Value} {c : Cs} (hs : CSat w X k uo c) : Calls Tryz.prog 15 #[ptrV k] w fun e w' => e = .returned (.int .i64 (Circ.add c.gss 1)) ∧ CPost w X k uo c w' := by
  obtain ⟨ua, ug, qs, hc⟩ := hs
  have hm := conn_mem hc (st := .v (.int .i64 c.st)) (.inl rfl)
  have ht : (canT 2 (runF Tryz.prog (CT Tryz.prog (CdFn.mk Tryz.f95 Tryz.f14 Tryz.f57 Tryz.f35 Tryz.f58 Tryz.f68 Tryz.f66 Tryz.f36 Tryz.f54 Tryz.f69 Tryz.f59 Tryz.f63 Tryz.f65 Tryz.f61)) noL Tryz.f15 (Tryz.f15.body.getD .skip) [.ptr 0 0] [.own (csS c (.v (.int .i64 c.st)) (.v ua) (.v ug) (.ref 1)), .vec false 36 13 c.outs.length (flatQ qs)])).ok fun r => r = (.v (.int .i64 (Circ.add c.gss 1)), [.own (csS c (.v (.int .i64 c.st)) (.v ua) (.v ug) (.ref 1)), .vec false 36 13 c.outs.length (flatQ qs)]) := by
    rw [next_run c ua ug]
    exact t_leaf rfl
  refine (canT_okn CT_ok follows Tryz.func15 (by kernel_rfl) (lexAllF_ok (by kernel_rfl)) (noloops (by kernel_rfl)) ht rfl hm rfl).mono ?_
  rintro e w' ⟨s, H', B', x, hQ, hp, rfl, hx, hm'⟩
  simp only [Prod.mk.injEq] at hQ
  obtain ⟨rfl, rfl⟩ := hQ
  refine ⟨by rw [val_eq (v := .int .i64 (Circ.add c.gss 1)) rfl hx], off_g hc hm' hp rfl (E := fun _ => True) trivial rfl ⟨_, _, _, _, _, _, _, _, _, _, _, _, _, _, _, 1, rfl, .inl ⟨rfl, fun B _ => rfl⟩, que_same rfl rfl rfl⟩⟩
structure QSat (w : World) (bad : List Nat) (uo : Value) (l : List QP) (qs : List (QP × Value)) : Prop where
  fst : qs.map (·.1) = l
  vec : VecSat w 36 13 uo l.length (flatQ qs)
  far : ∀ b, blockOf uo = some b → b ∉ bad
  opts : ∀ q ∈ qs, RowO w bad q.2 q.1.o
def Cs.none (c : Cs) : Cs := { c with outs := [] }
theorem vec_nil (w : World) : VecSat w 36 13 (.slice none 0 0) 0 [] := .inl ⟨rfl, .inl ⟨rfl, rfl⟩⟩
theorem outs_any {w : World} {X : List Nat} {k : Nat} {uo : Value} {c : Cs} (hs : CSat w X k uo c) : Calls Tryz.prog 18 #[ptrV k] w fun e w' => e = .returned uo ∧ CSat w' X k (.slice none 0 0) c.none ∧ Keeps (bsOf k uo) w w' ∧ ∃ qs, QSat w' (k :: X) uo c.outs qs := by
  obtain ⟨ua, ug, qs, hc⟩ := hs
  have hm := conn_mem hc (st := .v (.int .i64 c.st)) (.inl rfl)
  have ht : (canT 2 (runF Tryz.prog (CU Tryz.prog (CdFn.mk Tryz.f95 Tryz.f14 Tryz.f57 Tryz.f35 Tryz.f58 Tryz.f68 Tryz.f66 Tryz.f36 Tryz.f54 Tryz.f69 Tryz.f59 Tryz.f63 Tryz.f65 Tryz.f61)) noL Tryz.f18 (Tryz.f18.body.getD .skip) [.ptr 0 0] [.own (csS c (.v (.int .i64 c.st)) (.v ua) (.v ug) (.ref 1)), .vec false 36 13 c.outs.length (flatQ qs)])).ok fun r => r.1.to [ptrV k, uo] = some uo ∧ ∃ cells, r.2 = [.own cells, .vec false 36 13 c.outs.length (flatQ qs)] ∧ SV.tos [] cells = some (csV15 c ua ug ++ [.slice none 0 0]) := by
    rw [outsV_run c ua ug]
    exact t_leaf ⟨rfl, _, rfl, rfl⟩
  refine (canT_okn CU_ok follows Tryz.func18 (by kernel_rfl) (lexAllF_ok (by kernel_rfl)) (noloops (by kernel_rfl)) ht rfl hm rfl).mono ?_
  rintro e w' ⟨s, H', B', x, ⟨h0, cells, hH, hcs⟩, hp, rfl, hx, hm'⟩
  simp only at hH h0
  subst hH
  have hx' := SV.to_mono hp h0
  rw [hx, Option.some.injEq] at hx'
  subst hx'
  obtain ⟨b, us, g1, g2, g3⟩ := hm'.own_at (k := 0) rfl
  have hb' : B'[0]? = some (ptrV k) := getElem?_prefix hp rfl
  rw [g1] at hb'
  simp only [Option.some.injEq, Value.pointer.injEq, Addr.mk.injEq, and_true] at hb'
  subst hb'
  have hus : us = csV15 c ua ug ++ [.slice none 0 0] := by
    have h := SV.tos_mono (B2 := B') List.nil_prefix hcs
    rw [g2, Option.some.injEq] at h
    exact h
  subst hus
  have hu : B'[1]? = some x := getElem?_prefix hp rfl
  have hkeep : ∀ {u : Value} {o : OL}, RowO w (bsOf b x ++ X) u o → RowO w' (b :: X) u o := fun h => h.kept hm'.keeps (fun _ h => List.mem_append.2 (.inl h)) fun y hy => .inl (List.mem_append.2 ((List.mem_cons.1 hy).elim (fun hy => .inl (bsOf_mem.2 (.inl hy))) .inr))
  refine ⟨rfl, ⟨ua, ug, [], ⟨g3, vec_nil w', fun h => by cases h⟩, rfl, hkeep hc.asks, hkeep hc.greets, (fun q hq => by cases hq), fun y hy => ?_⟩, hm'.keeps, qs, hc.fst, hm'.sat.blk 1 _ x rfl hu, fun y hy hm => ?_, fun q hq => hkeep (hc.opts q hq)⟩
  · obtain ⟨o1, o2⟩ := hc.old y hy
    refine ⟨Nat.lt_of_lt_of_le o1 hm'.keeps.size, fun g => o2 ?_⟩
    rcases bsOf_mem.1 g with g | g
    · exact bsOf_mem.2 (.inl g)
    · cases g
  rcases List.mem_cons.1 hm with hm | hm
  · rw [hm] at hy
    exact hc.conn.sep hy
  · exact (hc.old y hm).2 (bsOf_mem.2 (.inr hy))
theorem adopt_any (iss isr gsr : Int) (w : World) : Calls Tryz.prog 9 #[.int .i64 iss, .int .i64 isr, .int .i64 gsr] w fun e w' => ∃ k, w.heap.size ≤ k ∧ e = .returned (ptrV k) ∧ (∀ X : List Nat, (∀ x ∈ X, x < w.heap.size) → CSat w' X k (.slice none 0 0) (Cs.adopt iss isr gsr)) ∧ Below w.heap.size w w' := by
  have ht : (canT 0 (runF Tryz.prog (CU Tryz.prog (CdFn.mk Tryz.f95 Tryz.f14 Tryz.f57 Tryz.f35 Tryz.f58 Tryz.f68 Tryz.f66 Tryz.f36 Tryz.f54 Tryz.f69 Tryz.f59 Tryz.f63 Tryz.f65 Tryz.f61)) noL Tryz.f9 (Tryz.f9.body.getD .skip) [.v (.int .i64 iss), .v (.int .i64 isr), .v (.int .i64 gsr)] [])).ok fun r => r.1 = .ptr 0 0 ∧ ∃ cells, r.2 = [.own cells] ∧ SV.tos [] cells = some (csV15 (Cs.adopt iss isr gsr) (.slice none 0 0) (.slice none 0 0) ++ [.slice none 0 0]) := by
    rw [adopt_run iss isr gsr]
    exact t_leaf ⟨rfl, _, rfl, rfl⟩
  refine (canT_okn CU_ok follows Tryz.func9 (by kernel_rfl) (lexAllF_ok (by kernel_rfl)) (noloops (by kernel_rfl)) ht rfl (mem_none w) rfl).mono ?_
  rintro e w' ⟨s, H', B', x, ⟨h0, cells, hH, hcs⟩, hp, rfl, hx, hm'⟩
  simp only at hH h0
  subst hH h0
  obtain ⟨b, us, g1, g2, g3⟩ := hm'.own_at (k := 0) rfl
  have hus : us = csV15 (Cs.adopt iss isr gsr) (.slice none 0 0) (.slice none 0 0) ++ [.slice none 0 0] := by
    have h := SV.tos_mono (B2 := B') List.nil_prefix hcs
    rw [g2, Option.some.injEq] at h
    exact h
  subst hus
  simp only [SV.to, g1, Option.some.injEq] at hx
  subst hx
  have hb : w.heap.size ≤ b := by
    rcases hm'.good 0 b ⟨_, _, rfl, rfl, g1, rfl⟩ with h | h
    · cases h
    · exact h
  refine ⟨b, hb, rfl, fun X hX => ⟨.slice none 0 0, .slice none 0 0, [], ⟨g3, vec_nil w', fun h => by cases h⟩, rfl, rowO_nil _ _, rowO_nil _ _, (fun q hq => by cases hq), fun x hx => ⟨Nat.lt_of_lt_of_le (hX x hx) hm'.keeps.size, fun g => ?_⟩⟩, hm'.keeps.below⟩
  rcases bsOf_mem.1 g with g | g
  · exact absurd (hX x hx) (by omega)
  · cases g
def Cs.dial0 (iss sv : Int) (l : OL) : Cs := ⟨true, 1, Circ.of iss, 0, Circ.of (Circ.add iss (-1)), 0, Circ.of iss, sv, l, OL.nil, 8, 8, 0, false, 0, []⟩
theorem dial_outs (iss sv : Int) (l : OL) : (Cs.dial iss sv l).outs = [⟨(Cs.dial0 iss sv l).pkt 0 Cs.emp 0 0 0, l⟩] := if_pos (e := []) (show ([] : List QP).length < 50 by decide)
def dialOk (sv : Int) (o : OL) : Prop := 0 ≤ sv ∧ sv < 4294967296 ∧ chkO o.n o.g = 0
def DialQ (iss sv : Int) (o : OL) (r : SV × List Blk) : Prop :=
  (dialOk sv o ∧ r.1 = .ptr 1 0 ∧ (∃ cells, r.2[1]? = some (.own cells) ∧ ∀ (B : List Value) (u2 u3 : Value), B[2]? = some u2 → B[3]? = some u3 → SV.tos B cells = some (csV15 (Cs.dial iss sv o) u2 (.slice none 0 0) ++ [u3])) ∧ RowTells r.2 2 o ∧
    (∃ q cells, (Cs.dial iss sv o).outs = [q] ∧ q.o = o ∧ r.2[3]? = some (.lst 36 13 1 cells) ∧ ∀ (B : List Value) (u4 : Value), B[4]? = some u4 → SV.tos B cells = some (q.p.l u4)) ∧ RowTells r.2 4 o) ∨
  (¬ dialOk sv o ∧ r.1.to [] = some (.pointer none))
theorem dial_tree (iss sv : Int) {o : OL} (hf : o.few) :
    (canT 1 (runF Tryz.prog (CU Tryz.prog (CdFn.mk Tryz.f95 Tryz.f14 Tryz.f57 Tryz.f35 Tryz.f58 Tryz.f68 Tryz.f66 Tryz.f36 Tryz.f54 Tryz.f69 Tryz.f59 Tryz.f63 Tryz.f65 Tryz.f61)) noL Tryz.f11 (Tryz.f11.body.getD .skip) [.v (.int .i64 iss), .v (.int .i64 sv), .ref 0] [.row o.n 2 (fR o)])).ok (DialQ iss sv o) := by
  rw [dial_run iss sv o.n (fR o), opF_fR]
  have hop := opP_fR hf
  have hm : o.n ≤ 1000 := hf.1
  have h24 : o.n * 24 ≤ 140737488355328 := by omega
  have h1p := all_oneD hop.1
  have h2p := all_oneD (allOp_copy hop.1)
  refine t_ite (fun h => t_leaf (.inr ⟨fun g => ?_, rfl⟩)) fun h1 => t_ite (fun h => t_leaf (.inr ⟨fun g => ?_, rfl⟩)) fun h2 => t_need hop (t_ite (fun h => t_leaf (.inr ⟨fun g => ?_, rfl⟩)) fun h3 => t_need h24 (t_need h1p (t_need h24 (t_need h2p (t_need (by decide) (t_need (allOne_cons' rfl allOne_nil') (t_need (allOne_cons' rfl allOne_nil') (t_leaf (.inl ⟨?_, rfl, ⟨_, rfl, fun B u2 u3 e2 e3 => ?_⟩, ?_, ⟨_, _, dial_outs iss sv o, rfl, rfl, fun B u4 e4 => ?_⟩, ?_⟩)))))))))
  · have := g.1; simp only [decide_eq_true_eq] at h; omega
  · have := g.2.1; simp only [decide_eq_true_eq] at h; omega
  · have := g.2.2; simp [this] at h
  · refine ⟨?_, ?_, ?_⟩
    · simp only [decide_eq_false_iff_not] at h1; omega
    · simp only [decide_eq_false_iff_not] at h2; omega
    · simpa using h3
  · simp only [SV.tos, SV.to, e2, e3]; rfl
  · have h := tells_f (H' := [Blk.row o.n 2 (fR o), Blk.gone, .vec false 64 2 o.n (rowCells o.n 2 (fR o))]) (i := 2) hop.1 rfl
    rw [eta_fR] at h
    exact h
  · simp only [SV.tos, SV.to, e4]; rfl
  · have h := tells_g (H' := [Blk.row o.n 2 (fR o), Blk.gone, Blk.gone, Blk.gone, .vec false 64 2 o.n (rowCells o.n 2 fun i j => cellAt (rowCells o.n 2 (fR o)) (i * 2 + j))]) (i := 4) hop.1 rfl
    rw [eta_fR] at h
    exact h
theorem dial_any (iss sv : Int) {w : World} {u : Value} {o : OL} (hr : RowO w [] u o) (hf : o.few) : Calls Tryz.prog 11 #[.int .i64 iss, .int .i64 sv, u] w fun e w' => Below w.heap.size w w' ∧
    ((dialOk sv o ∧ ∃ k uo, w.heap.size ≤ k ∧ (∀ b, blockOf uo = some b → w.heap.size ≤ b) ∧ e = .returned (ptrV k) ∧ ∀ X : List Nat, (∀ x ∈ X, x < w.heap.size) → CSat w' X k uo (Cs.dial iss sv o)) ∨ (¬ dialOk sv o ∧ e = .returned (.pointer none))) := by
  refine (canT_okn CU_ok follows Tryz.func11 (by kernel_rfl) (lexAllF_ok (by kernel_rfl)) (noloops (by kernel_rfl)) (dial_tree iss sv hf) rfl (mem_row (hr.row _)) rfl).mono ?_
  rintro e w' ⟨s, H', B', x, hQ, hp, rfl, hx, hm'⟩
  refine ⟨hm'.keeps.below, ?_⟩
  rcases hQ with ⟨hok, h0, ⟨cells, h1, hc⟩, hr2, ⟨q, qc, hq, hqo, h3, hqc⟩, hr4⟩ | ⟨hno, h0⟩
  · refine .inl ⟨hok, ?_⟩
    simp only at h0 h1 h3
    subst h0
    obtain ⟨b, us, g1, g2, g3⟩ := hm'.own_at h1
    obtain ⟨uq, hq3⟩ := hm'.sat.getB h3
    have fresh : ∀ {i : Nat} {y : Blk} {v : Value} {b' : Nat}, H'[i]? = some y → y.excl = true → B'[i]? = some v → blockOf v = some b' → w.heap.size ≤ b' := by
      intro i y v b' a1 a2 a3 a4
      rcases hm'.good i b' ⟨_, _, a1, a2, a3, a4⟩ with h | h
      · cases h
      · exact h
    have hne : blockOf uq ≠ some b := fun e => absurd (hm'.sat.sep 3 1 b ⟨_, _, h3, rfl, hq3, e⟩ ⟨_, _, h1, rfl, g1, rfl⟩) (by decide)
    have hrow : ∀ {i : Nat}, i ≠ 1 → i ≠ 3 → RowTells H' i o → ∃ u, B'[i]? = some u ∧ ∀ X : List Nat, (∀ x ∈ X, x < w.heap.size) → RowO w' (bsOf b uq ++ X) u o := by
      intro i hi1 hi3 ⟨f', hf, he⟩
      obtain ⟨u, hu⟩ := hm'.sat.getB hf
      refine ⟨u, hu, fun X hX => rowO_vec (hm'.sat.blk i _ u hf hu) he fun b' hb' hx => ?_⟩
      have hex : ExBlk H' B' i b' := ⟨_, _, hf, rfl, hu, hb'⟩
      rcases List.mem_append.1 hx with hx | hx
      rotate_left
      · exact absurd (hX b' hx) (Nat.not_lt.2 (fresh hf rfl hu hb'))
      rcases bsOf_mem.1 hx with rfl | hx
      · exact hi1 (hm'.sat.sep i 1 b' hex ⟨_, _, h1, rfl, g1, rfl⟩)
      · exact hi3 (hm'.sat.sep i 3 b' hex ⟨_, _, h3, rfl, hq3, hx⟩)
    obtain ⟨u2, hu2, hR2⟩ := hrow (by decide) (by decide) hr2
    obtain ⟨u4, hu4, hR4⟩ := hrow (by decide) (by decide) hr4
    have hus : us = csV15 (Cs.dial iss sv o) u2 (.slice none 0 0) ++ [uq] := by
      have h := hc B' u2 uq hu2 hq3
      rw [g2, Option.some.injEq] at h
      exact h
    subst hus
    simp only [SV.to, g1, Option.some.injEq] at hx
    subst hx
    obtain ⟨ys, hys, hv⟩ := hm'.sat.blk 3 _ uq h3 hq3
    rw [hqc B' u4 hu4, Option.some.injEq] at hys
    subst hys
    refine ⟨b, uq, fresh h1 rfl g1 rfl, fun b' hb' => fresh h3 rfl hq3 hb', rfl, fun X hX => ⟨u2, .slice none 0 0, [(q, u4)], ⟨g3, ?_, hne⟩, ?_, hR2 X hX, rowO_nil _ _, fun x hx => ?_, fun x hx => ⟨Nat.lt_of_lt_of_le (hX x hx) hm'.keeps.size, fun g => ?_⟩⟩⟩
    · rw [hq]
      have e : flatQ [(q, u4)] = q.p.l u4 := List.append_nil _
      rw [e]
      exact hv
    · rw [hq]; rfl
    · rw [List.mem_singleton] at hx
      subst hx
      show RowO w' _ u4 q.o
      rw [hqo]
      exact hR4 X hX
    · rcases bsOf_mem.1 g with g | g
      · exact absurd (hX x hx) (Nat.not_lt.2 (g ▸ fresh h1 rfl g1 rfl))
      · exact absurd (hX x hx) (Nat.not_lt.2 (fresh h3 rfl hq3 g))
  · exact .inr ⟨hno, by rw [val_eq h0 hx]⟩
end Go.Proofs.YtopeaafcepgnhaaGreat
namespace Go.Proofs.YtopeaafcepgnhaaGreat
open Go.RowKit Sym
structure FInv (c : Cs) : Prop where
  asks : c.asks.few ∧ c.asks.n ≤ 100
  greets : c.greets.few ∧ c.greets.n ≤ 100
  outs : ∀ q ∈ c.outs, q.o.few
theorem FInv.like {c c' : Cs} (h : FInv c) (h1 : c'.asks = c.asks) (h2 : c'.greets = c.greets) (h3 : c'.outs = c.outs) : FInv c' := ⟨h1 ▸ h.asks, h2 ▸ h.greets, h3 ▸ h.outs⟩
theorem OL.nil_few : OL.nil.few := ⟨Nat.zero_le _, fun i hi => absurd hi (Nat.not_lt_zero i)⟩
theorem FInv.send {c : Cs} (h : FInv c) {k : Int} {o : OL} {d : ByteArray} {ack cd cc : Int} (ho : o.few) : FInv (c.send k o d ack cd cc) := by
  refine ⟨h.asks, h.greets, fun q hq => ?_⟩
  have hq : q ∈ if c.outs.length < 50 then c.outs ++ [⟨c.pkt k d ack cd cc, o⟩] else c.outs := hq
  split at hq
  · rcases List.mem_append.1 hq with g | g
    · exact h.outs q g
    · rw [List.mem_singleton] at g; subst g; exact ho
  · exact h.outs q hq
theorem FInv.say {c : Cs} (h : FInv c) : FInv c.say := by
  unfold Cs.say
  split
  · exact h.send h.asks.1
  split
  · exact h.send h.greets.1
  split
  · exact h.send OL.nil_few
  · exact h
theorem cat_few {a b : OL} (ha : a.few ∧ a.n ≤ 100) (hb : b.few ∧ b.n ≤ 100) : (a.cat b).few := by
  refine ⟨by show a.n + b.n ≤ 1000; omega, fun i hi => ?_⟩
  have hi : i < a.n + b.n := hi
  show (if i < a.n then a.g i else b.g (i - a.n)).val.size ≤ 1000000
  split
  · exact ha.1.2 i (by assumption)
  · exact hb.1.2 _ (by omega)
theorem FInv.step {c : Cs} (h : FInv c) {o : Op24} (ho : o.o.few ∧ o.o.n ≤ 100) : FInv (c.step o) := by
  unfold Cs.step
  split
  · unfold Cs.greet
    split
    · split
      · exact (FInv.say (c := { c with greets := o.o }) ⟨h.asks, ho, h.outs⟩).like rfl rfl rfl
      · exact h
    · exact h
  split
  · unfold Cs.sayP
    split
    · refine h.send ?_
      unfold Cs.sayO
      split
      · exact cat_few h.greets ho
      · exact ho.1
    · exact h
  split
  · unfold Cs.close
    split
    · exact (FInv.say (c := { c with st := 4 }) (h.like rfl rfl rfl)).like rfl rfl rfl
    · exact h
  split
  · unfold Cs.abort
    split
    · exact h
    split
    · exact h.like rfl rfl rfl
    · exact (h.send OL.nil_few).like rfl rfl rfl
  split
  · unfold Cs.take
    split
    · exact h
    split
    · exact h
    split
    · unfold Cs.answered
      repeat' split
      all_goals exact h.like rfl rfl rfl
    generalize c.seqN o.p = s at *
    generalize c.ackN o.p = a at *
    unfold Cs.taken
    split
    · have h2 : FInv ((c.came o.p.kind s a).open' o.p.kind) := by
        unfold Cs.open'
        split
        · exact h.like rfl rfl rfl
        · exact h.like rfl rfl rfl
      generalize (c.came o.p.kind s a).open' o.p.kind = c2 at *
      show FInv (c2.turn o.p.kind s)
      unfold Cs.turn
      split
      · exact h2.send OL.nil_few
      split
      · exact (FInv.say (c := { c2 with st := 4 }) (h2.like rfl rfl rfl)).like rfl rfl rfl
      split
      · exact (h2.send OL.nil_few).like rfl rfl rfl
      split
      · exact h2.like rfl rfl rfl
      · exact h2
    split
    · exact FInv.send (c := { c with sy := true }) (h.like rfl rfl rfl) OL.nil_few
    · exact h
  split
  · unfold Cs.tick
    dsimp only
    split
    · split
      · exact h.like rfl rfl rfl
      · exact h.like rfl rfl rfl
    split
    · exact h.like rfl rfl rfl
    split
    · exact h.like rfl rfl rfl
    split
    · exact FInv.say (c := { c with sy := false, wa := min (2 * c.wa) 64, le := min (2 * c.wa) 64, tr := c.tr + 1 }) (h.like rfl rfl rfl)
    split
    · exact (FInv.send (c := { c with sy := false }) (h.like rfl rfl rfl) OL.nil_few).like rfl rfl rfl
    · exact h.like rfl rfl rfl
  split
  · exact ⟨h.asks, h.greets, fun q hq => by cases hq⟩
  · exact h
theorem cinv {c : Cs} (h : EInv c) (hf : FInv c) : CInv c := by
  refine ⟨h.st, ?_, h.l, hf.asks, hf.greets, hf.outs⟩
  by_cases hw : c.wa = 0
  · obtain ⟨h1, h2⟩ := h.z hw
    rw [hw, h1, h2]
    exact ⟨by decide, by decide, by decide, by decide, by decide, by decide, fun _ => rfl⟩
  · have hst := h.st
    have t : TW c := by
      rcases (by omega : c.st = 0 ∨ c.st = 1 ∨ c.st = 2 ∨ c.st = 3 ∨ c.st = 4 ∨ c.st = 5) with e | e | e | e | e | e
      · exact absurd (h.w03 (.inl e)) hw
      · exact h.w14 (.inl e)
      · rcases h.w2 e with g | g
        · exact absurd g hw
        · exact g
      · exact absurd (h.w03 (.inr (.inl e))) hw
      · exact h.w14 (.inr e)
      · exact absurd (h.w03 (.inr (.inr e))) hw
    have hb : waits6 c.tr ≤ 64 := by unfold waits6; (repeat' split) <;> decide
    obtain ⟨t0, t1, tw, l0, l1⟩ := t
    exact ⟨by omega, by omega, by omega, by omega, by omega, by omega, fun e => absurd e hw⟩
theorem adopt_e (a b d : Int) : EInv (Cs.adopt a b d) :=
  ⟨⟨by show (0 : Int) ≤ 3; decide, by show (3 : Int) ≤ 5; decide⟩, fun _ => rfl, fun e => by exfalso; have e : (3 : Int) = 1 ∨ (3 : Int) = 4 := e; omega, fun e => .inl rfl, fun e => by exfalso; have e : (3 : Int) = 5 := e; omega, fun _ => ⟨rfl, rfl⟩, ⟨by show (0 : Int) ≤ 0; decide, by show (0 : Int) ≤ 16; decide⟩⟩
theorem dial_e (i s : Int) (l : OL) : EInv (Cs.dial i s l) := by
  refine ⟨⟨by show (0 : Int) ≤ 1; decide, by show (1 : Int) ≤ 5; decide⟩, fun e => ?_, fun e => ⟨by show (0 : Int) ≤ 0; decide, by show (0 : Int) ≤ 6; decide, rfl, by show (1 : Int) ≤ 8; decide, by show (8 : Int) ≤ 8; decide⟩, fun e => ?_, fun e => ?_, fun e => absurd e (by show ¬ (8 : Int) = 0; decide), ⟨by show (0 : Int) ≤ 0; decide, by show (0 : Int) ≤ 16; decide⟩⟩
  · exfalso; have e : (1 : Int) = 0 ∨ (1 : Int) = 3 ∨ (1 : Int) = 5 := e; omega
  · exfalso; have e : (1 : Int) = 2 := e; omega
  · exfalso; have e : (1 : Int) = 5 := e; omega
theorem adopt_f (a b d : Int) : FInv (Cs.adopt a b d) := ⟨⟨OL.nil_few, Nat.zero_le _⟩, ⟨OL.nil_few, Nat.zero_le _⟩, fun q hq => by cases hq⟩
theorem dial_f (i s : Int) {l : OL} (h : l.few ∧ l.n ≤ 100) : FInv (Cs.dial i s l) := FInv.send ⟨h, ⟨OL.nil_few, Nat.zero_le _⟩, fun q hq => by cases hq⟩ h.1
theorem adopt_n (a b d : Int) : NInv (Cs.adopt a b d) := ⟨⟨Circ.of_lo _, Circ.of_hi _⟩, ⟨Circ.of_lo _, Circ.of_hi _⟩, ⟨by show (0 : Int) ≤ 0; decide, by show (0 : Int) < 4294967296; decide⟩, chkO_nil, chkO_nil⟩
theorem dial_n (i s : Int) {l : OL} (hs : 0 ≤ s ∧ s < 4294967296) (h : chkO l.n l.g = 0) : NInv (Cs.dial i s l) ∧ One (⟨true, 1, Circ.of i, 0, Circ.of (Circ.add i (-1)), 0, Circ.of i, s, l, OL.nil, 8, 8, 0, false, 0, []⟩ : Cs) (Cs.dial i s l) := by
  have hn : NInv (⟨true, 1, Circ.of i, 0, Circ.of (Circ.add i (-1)), 0, Circ.of i, s, l, OL.nil, 8, 8, 0, false, 0, []⟩ : Cs) := ⟨⟨Circ.of_lo _, Circ.of_hi _⟩, ⟨by show (0 : Int) ≤ 0; decide, by show (0 : Int) < 281474976710656; decide⟩, hs, h, chkO_nil⟩
  have := send_one hn rfl (k := 0) (o := l) (d := Cs.emp) (ack := 0) (cd := 0) (cc := 0) (by decide) (fun e => by cases e) (by decide) (by decide) (by decide) h (by decide) (.inr (.inr rfl))
  exact ⟨this.2, this.1⟩
end Go.Proofs.YtopeaafcepgnhaaGreat
namespace Go.Proofs.YtopeaafcepgnhaaGreat
open Go.RowKit Sym Go.ChangeShapes Go.WideShapes Go.ChangeMaps
attribute [local irreducible] canT
theorem rowO_slice {w : World} {bad : List Nat} {u : Value} {o : OL} (h : RowO w bad u o) : sliceP u := by
  obtain ⟨p, cap, rfl, -⟩ := h.row []
  exact ⟨p, o.n, cap, rfl⟩
theorem one_slice {u : Value} (h : sliceP u) : u.oneCell' = true := by
  obtain ⟨p, n, c, rfl⟩ := h; rfl
theorem one_flat : ∀ qs : List (QP × Value), (∀ q ∈ qs, sliceP q.2) → allOneP (flatQ qs)
  | [], _ => allOne_nil'
  | q :: qs, h => by
    show allOneP (q.1.p.l q.2 ++ flatQ qs)
    intro x hx
    rcases List.mem_append.1 hx with hx | hx
    · have hq := one_slice (h q (List.mem_cons_self ..))
      have h1 : allOneP (q.1.p.l q.2) := by
        unfold Pk.l
        repeat (first | refine allOne_cons' rfl ?_ | refine allOne_cons' hq ?_)
        exact allOne_nil'
      exact h1 x hx
    · exact one_flat qs (fun y hy => h y (List.mem_cons_of_mem _ hy)) x hx
theorem own_keeps {w w' : World} {bs : List Nat} {k : Nat} {cs : Array Value} (h : Own w k cs) (hk : Keeps bs w w') (hn : k ∉ bs) : Own w' k cs := by
  have hb := hk.block k h.1 hn
  refine ⟨Nat.lt_of_lt_of_le h.1 hk.size, fun j => ?_, fun j => ?_⟩
  · rw [← h.2.1 j]
    unfold World.cell?
    rw [hb]
  · rw [← h.2.2 j]
    unfold World.frozen?
    rw [hb]
structure RW (w : World) (X : List Nat) (k : Nat) (uo : Value) (c : Cs) (ua ug : Value) (le tr : Int) (qs : List (QP × Value)) : Prop where
  own : Own w k (rsV15 c ua ug le tr ++ [uo]).toArray
  q : VecSat w 36 13 uo c.outs.length (flatQ qs)
  sep : blockOf uo ≠ some k
  wt : c.wa = 0 ∨ le = c.le ∧ tr = c.tr
  fst : qs.map (·.1) = c.outs
  asks : RowO w (bsOf k uo ++ X) ua c.asks
  greets : RowO w (bsOf k uo ++ X) ug c.greets
  opts : ∀ q ∈ qs, RowO w (bsOf k uo ++ X) q.2 q.1.o
  old : ∀ x ∈ X, x < w.heap.size ∧ x ∉ bsOf k uo
def RSat (w : World) (X : List Nat) (k : Nat) (uo : Value) (c : Cs) : Prop := ∃ ua ug le tr qs, RW w X k uo c ua ug le tr qs
def RPost (w : World) (X : List Nat) (k : Nat) (uo : Value) (c' : Cs) (w' : World) : Prop := ∃ uo', RSat w' X k uo' c' ∧ Keeps (bsOf k uo) w w' ∧ ∀ b, blockOf uo' = some b → blockOf uo = some b ∨ w.heap.size ≤ b
theorem mem_two {w : World} {k : Nat} {vs : List Value} {uo : Value} {n : Nat} {xs : List Value} (ho : Own w k (vs ++ [uo]).toArray) (hv : VecSat w 36 13 uo n xs) (hs : blockOf uo ≠ some k) {cells : List SV} (hc : ∀ B : List Value, B[1]? = some uo → SV.tos B cells = some (vs ++ [uo])) :
    Mem w (bsOf k uo) [.own cells, .vec false 36 13 n xs] [ptrV k, uo] w := by
  have ex : ∀ j b, ExBlk [.own cells, .vec false 36 13 n xs] [ptrV k, uo] j b → (j = 0 ∧ b = k) ∨ (j = 1 ∧ blockOf uo = some b) := by
    rintro j b ⟨x, u, h1, h2, h3, h4⟩
    match j with
    | 0 =>
      simp only [List.getElem?_cons_zero, Option.some.injEq] at h3
      subst h3
      simp only [blockOf, Option.some.injEq] at h4
      exact .inl ⟨rfl, h4.symm⟩
    | 1 =>
      simp only [List.getElem?_cons_succ, List.getElem?_cons_zero, Option.some.injEq] at h3
      subst h3
      exact .inr ⟨rfl, h4⟩
    | j + 2 => simp at h1
  refine ⟨⟨rfl, fun j x u h1 h2 => ?_, fun j j' b h1 h2 => ?_, fun j j' b h1 h2 => ?_⟩, .refl _ _, fun j b h1 => ?_⟩
  · match j with
    | 0 =>
      simp only [List.getElem?_cons_zero, Option.some.injEq] at h1 h2
      subst h1 h2
      exact ⟨k, _, rfl, hc _ rfl, ho⟩
    | 1 =>
      simp only [List.getElem?_cons_succ, List.getElem?_cons_zero, Option.some.injEq] at h1 h2
      subst h1 h2
      exact hv
    | j + 2 => simp at h1
  · rcases ex _ _ h1 with ⟨rfl, rfl⟩ | ⟨rfl, e1⟩ <;> rcases ex _ _ h2 with ⟨rfl, e2⟩ | ⟨rfl, e2⟩
    · rfl
    · exact absurd e2 hs
    · rw [e2] at e1; exact absurd e1 hs
    · rfl
  · obtain ⟨m, sz, f, u, g1, -⟩ := h2
    match j' with
    | 0 => simp at g1
    | 1 => simp at g1
    | j' + 2 => simp at g1
  · refine .inl (bsOf_mem.2 ?_)
    rcases ex _ _ h1 with ⟨-, rfl⟩ | ⟨-, e1⟩
    · exact .inl rfl
    · exact .inr e1
theorem rmem {w : World} {X : List Nat} {k : Nat} {uo ua ug : Value} {c : Cs} {le tr : Int} {qs : List (QP × Value)} (h : RW w X k uo c ua ug le tr qs) : Mem w (bsOf k uo) [.own (rsS c ua ug le tr (.ref 1)), .vec false 36 13 c.outs.length (flatQ qs)] [ptrV k, uo] w :=
  mem_two h.own h.q h.sep fun B hB => by unfold rsS; simp only [SV.tos, SV.to, hB]; rfl
theorem rpre {w : World} {X : List Nat} {k : Nat} {uo ua ug : Value} {c : Cs} {le tr : Int} {qs : List (QP × Value)} (h : RW w X k uo c ua ug le tr qs) (hi : CInv c) : RPre c ua ug le tr c.outs.length (flatQ qs) :=
  ⟨rfl, h.wt, hi.wait, hi.li, one_flat qs fun q hq => rowO_slice (h.opts q hq), rowO_slice h.asks, rowO_slice h.greets⟩
theorem roff_core {w w' : World} {X : List Nat} {k : Nat} {c0 c' : Cs} {ua ug ua' ug' uo : Value} {le0 tr0 le tr : Int} {qs : List (QP × Value)} {H' : List Blk} {B B' : List Value} (hc : RW w X k uo c0 ua ug le0 tr0 qs) (hm : Mem w (bsOf k uo) H' B' w') (hp : B <+: B') (hb : B[0]? = some (ptrV k))
    {a0 a1 a2 a3 a4 a5 a6 a7 a8 a9 a10 a11 a12 a13 a14 : SV} {j : Nat} (h1 : H'[0]? = some (.own [a0, a1, a2, a3, a4, a5, a6, a7, a8, a9, a10, a11, a12, a13, a14, .ref j])) (h2 : SV.tos B' [a0, a1, a2, a3, a4, a5, a6, a7, a8, a9, a10, a11, a12, a13, a14] = some (rsV15 c' ua' ug' le tr)) {y : Blk} (hy : H'[j]? = some y) (hyx : y.excl = true) (hyo : ∀ c, y ≠ .own c) (hyv : ∀ n xs, y ≠ .vec false 64 2 n xs) :
    ∃ uq, B'[j]? = some uq ∧ Own w' k (rsV15 c' ua' ug' le tr ++ [uq]).toArray ∧ blockOf uq ≠ some k ∧ (∀ b, blockOf uq = some b → blockOf uo = some b ∨ w.heap.size ≤ b) ∧ (∀ x ∈ X, x < w'.heap.size ∧ x ∉ bsOf k uq) ∧
      (∀ {u : Value} {o : OL}, RowO w (bsOf k uo ++ X) u o → RowO w' (bsOf k uq ++ X) u o) ∧ ∀ {i : Nat} {o : OL}, RowTells H' i o → ∃ u, B'[i]? = some u ∧ RowO w' (bsOf k uq ++ X) u o := by
  obtain ⟨b, us, g1, g2, g3⟩ := hm.own_at h1
  have hb' : B'[0]? = some (ptrV k) := getElem?_prefix hp hb
  rw [g1] at hb'
  simp only [Option.some.injEq, Value.pointer.injEq, Addr.mk.injEq, and_true] at hb'
  subst hb'
  obtain ⟨uq, hq⟩ := hm.sat.getB hy
  have hj : j ≠ 0 := by
    intro e
    rw [e, h1, Option.some.injEq] at hy
    exact hyo _ hy.symm
  have hne : blockOf uq ≠ some b := fun e => hj (hm.sat.sep j 0 b ⟨_, _, hy, hyx, hq, e⟩ ⟨_, _, h1, rfl, g1, rfl⟩)
  have hnew : ∀ b', blockOf uq = some b' → blockOf uo = some b' ∨ w.heap.size ≤ b' := by
    intro b' hb'
    rcases hm.good j b' ⟨_, _, hy, hyx, hq, hb'⟩ with g | g
    · rcases bsOf_mem.1 g with rfl | g
      · exact absurd hb' hne
      · exact .inl g
    · exact .inr g
  have hbad : ∀ x ∈ bsOf b uq, x ∈ bsOf b uo ∨ w.heap.size ≤ x := by
    intro x hx
    rcases bsOf_mem.1 hx with rfl | hx
    · exact .inl (bsOf_mem.2 (.inl rfl))
    · rcases hnew x hx with g | g
      · exact .inl (bsOf_mem.2 (.inr g))
      · exact .inr g
  have hbad2 : ∀ x ∈ bsOf b uq ++ X, x ∈ bsOf b uo ++ X ∨ w.heap.size ≤ x := by
    intro x hx
    rcases List.mem_append.1 hx with hx | hx
    · rcases hbad x hx with g | g
      · exact .inl (List.mem_append.2 (.inl g))
      · exact .inr g
    · exact .inl (List.mem_append.2 (.inr hx))
  have hcells : SV.tos B' ([a0, a1, a2, a3, a4, a5, a6, a7, a8, a9, a10, a11, a12, a13, a14] ++ [.ref j]) = some (rsV15 c' ua' ug' le tr ++ [uq]) := tos_append h2 (by simp only [SV.tos, SV.to, hq])
  have hus : us = rsV15 c' ua' ug' le tr ++ [uq] := by
    have : SV.tos B' [a0, a1, a2, a3, a4, a5, a6, a7, a8, a9, a10, a11, a12, a13, a14, .ref j] = some us := g2
    rw [show [a0, a1, a2, a3, a4, a5, a6, a7, a8, a9, a10, a11, a12, a13, a14, SV.ref j] = [a0, a1, a2, a3, a4, a5, a6, a7, a8, a9, a10, a11, a12, a13, a14] ++ [.ref j] from rfl, hcells, Option.some.injEq] at this
    exact this.symm
  subst hus
  refine ⟨uq, hq, g3, hne, hnew, fun x hx => ?_, fun h => h.kept hm.keeps (fun _ h => List.mem_append.2 (.inl h)) hbad2, fun {i o} ⟨f', hf, he⟩ => ?_⟩
  · obtain ⟨o1, o2⟩ := hc.old x hx
    refine ⟨Nat.lt_of_lt_of_le o1 hm.keeps.size, fun g => ?_⟩
    rcases hbad x g with g | g
    · exact o2 g
    · exact absurd o1 (Nat.not_lt.2 g)
  · obtain ⟨u, hu⟩ := hm.sat.getB hf
    refine ⟨u, hu, rowO_vec (hm.sat.blk i _ u hf hu) he fun b' hb' hx => ?_⟩
    have hex : ExBlk H' B' i b' := ⟨_, _, hf, rfl, hu, hb'⟩
    rcases List.mem_append.1 hx with hx | hx
    · rcases bsOf_mem.1 hx with rfl | hx
      · have := hm.sat.sep i 0 b' hex ⟨_, _, h1, rfl, g1, rfl⟩
        rw [this, h1] at hf
        cases hf
      · have hij := hm.sat.sep i j b' hex ⟨_, _, hy, hyx, hq, hx⟩
        subst hij
        rw [hf, Option.some.injEq] at hy
        exact hyv _ _ hy.symm
    · obtain ⟨o1, o2⟩ := hc.old b' hx
      rcases hm.good i b' hex with g | g
      · exact o2 g
      · exact absurd o1 (Nat.not_lt.2 g)
theorem roff_g {w w' : World} {X : List Nat} {k : Nat} {c0 c' : Cs} {ua ug uo : Value} {le0 tr0 : Int} {qs : List (QP × Value)} {H' : List Blk} {B B' : List Value} (hc : RW w X k uo c0 ua ug le0 tr0 qs) (hm : Mem w (bsOf k uo) H' B' w') (hp : B <+: B') (hb : B[0]? = some (ptrV k)) (ho : ROff c0 (flatQ qs) ua ug H' c') : RPost w X k uo c' w' := by
  obtain ⟨a0, a1, a2, a3, a4, a5, a6, a7, a8, a9, a10, a11, a12, a13, a14, le, tr, j, l, h1, h2, hw, hv, hl, hu, ha, hg⟩ := ho
  obtain ⟨uq, hq, g3, hne, hnew, hold, hkeep, -⟩ := roff_core hc hm hp hb h1 (h2 B') hv rfl (fun _ e => by cases e) (fun _ _ e => by cases e)
  have hv' : VecSat w' 36 13 uq c'.outs.length (flatQ qs ++ flatQ l) := hm.sat.blk j _ uq hv hq
  rw [← flatQ_append] at hv'
  refine ⟨uq, ⟨ua, ug, le, tr, qs ++ l, g3, hv', hne, hw, ?_, by rw [ha]; exact hkeep hc.asks, by rw [hg]; exact hkeep hc.greets, fun x hx => ?_, hold⟩, hm.keeps, hnew⟩
  · rw [List.map_append, hc.fst, hl]
  · rcases List.mem_append.1 hx with hx | hx
    · exact hkeep (hc.opts x hx)
    · rcases hu x hx with ⟨e1, e2⟩ | ⟨e1, e2⟩ | ⟨e1, e2⟩
      · rw [e1, e2]; exact rowO_nil _ _
      · rw [e1, e2]; exact hkeep hc.asks
      · rw [e1, e2]; exact hkeep hc.greets
theorem rm_post {w w' : World} {X : List Nat} {k : Nat} {c0 : Cs} {sv : Cs × Value} {ua ug uo : Value} {le0 tr0 : Int} {qs : List (QP × Value)} {H' : List Blk} {B B' : List Value} {s : SV} {x : Value} (hc : RW w X k uo c0 ua ug le0 tr0 qs) (hm : Mem w (bsOf k uo) H' B' w') (hp : B <+: B') (hb : B[0]? = some (ptrV k)) (hx : s.to B' = some x) (h : RM c0 (flatQ qs) ua ug sv (s, H')) : Ending.returned x = .returned sv.2 ∧ RPost w X k uo sv.1 w' :=
  ⟨by rw [val_eq h.1 hx], roff_g hc hm hp hb h.2⟩
theorem rtick_any {w : World} {X : List Nat} {k : Nat} {uo : Value} {c : Cs} (hs : RSat w X k uo c) (hi : CInv c) : Calls Tryz.prog 45 #[ptrV k] w fun e w' => e = .returned (.bool c.tick.2) ∧ RPost w X k uo c.tick.1 w' := by
  obtain ⟨ua, ug, le, tr, qs, hc⟩ := hs
  refine (canT_okn CG1_ok follows Tryz.func45 (by kernel_rfl) (lexAllF_ok (by kernel_rfl)) (noloops (by kernel_rfl)) (rtick_tree c ua ug le tr _ _ (rpre hc hi)) rfl (rmem hc) rfl).mono ?_
  rintro e w' ⟨s, H', B', x, hQ, hp, rfl, hx, hm'⟩
  exact rm_post hc hm' hp rfl hx hQ
theorem rclose_any {w : World} {X : List Nat} {k : Nat} {uo : Value} {c : Cs} (hs : RSat w X k uo c) (hi : CInv c) : Calls Tryz.prog 42 #[ptrV k] w fun e w' => e = .returned (.int .i64 c.close.2) ∧ RPost w X k uo c.close.1 w' := by
  obtain ⟨ua, ug, le, tr, qs, hc⟩ := hs
  refine (canT_okn CG1_ok follows Tryz.func42 (by kernel_rfl) (lexAllF_ok (by kernel_rfl)) (noloops (by kernel_rfl)) (rclose_tree c ua ug le tr _ _ (rpre hc hi)) rfl (rmem hc) rfl).mono ?_
  rintro e w' ⟨s, H', B', x, hQ, hp, rfl, hx, hm'⟩
  exact rm_post hc hm' hp rfl hx hQ
theorem rabort_any {w : World} {X : List Nat} {k : Nat} {uo : Value} {c : Cs} (hs : RSat w X k uo c) (hi : CInv c) (code : Int) : Calls Tryz.prog 43 #[ptrV k, .int .i64 code] w fun e w' => e = .returned (.int .i64 (c.abort code).2) ∧ RPost w X k uo (c.abort code).1 w' := by
  obtain ⟨ua, ug, le, tr, qs, hc⟩ := hs
  refine (canT_okn CG1_ok follows Tryz.func43 (by kernel_rfl) (lexAllF_ok (by kernel_rfl)) (noloops (by kernel_rfl)) (rabort_tree c ua ug le tr _ _ code (rpre hc hi)) rfl (rmem hc) rfl).mono ?_
  rintro e w' ⟨s, H', B', x, hQ, hp, rfl, hx, hm'⟩
  exact rm_post hc hm' hp rfl hx hQ
theorem rtake_any {w : World} {X : List Nat} {k : Nat} {uo : Value} {c : Cs} (hs : RSat w X k uo c) (hi : CInv c) (p : Pk) {u : Value} {o : OL} (hr : RowO w (bsOf k uo ++ X) u o) (hf : o.few) (hd : p.data.size ≤ 1000000) : Calls Tryz.prog 44 #[ptrV k, p.v u] w fun e w' => e = .returned (nwV (c.take p o).2.1 (c.take p o).2.2) ∧ RPost w X k uo (c.take p o).1 w' := by
  obtain ⟨ua, ug, le, tr, qs, hc⟩ := hs
  have ht := rtake_tree c ua ug le tr _ _ p o.n (fR o) (rpre hc hi) ⟨opP_fR hf, hd⟩
  rw [eta_fR] at ht
  refine (canT_okn CG1_ok follows Tryz.func44 (by kernel_rfl) (lexAllF_ok (by kernel_rfl)) (noloops (by kernel_rfl)) ht rfl (mem_add_row (rmem hc) hr) rfl).mono ?_
  rintro e w' ⟨s, H', B', x, hQ, hp, rfl, hx, hm'⟩
  exact rm_post hc hm' hp rfl hx hQ
theorem rsay_any {w : World} {X : List Nat} {k : Nat} {uo : Value} {c : Cs} (hs : RSat w X k uo c) (hi : CInv c) : Calls Tryz.prog 39 #[ptrV k] w fun e w' => e = .returned (.tuple #[]) ∧ RPost w X k uo c.say w' := by
  obtain ⟨ua, ug, le, tr, qs, hc⟩ := hs
  refine (canT_okn CG0_ok follows Tryz.func39 (by kernel_rfl) (lexAllF_ok (by kernel_rfl)) (noloops (by kernel_rfl)) (rsay_tree c ua ug le tr _ _ (rpre hc hi)) rfl (rmem hc) rfl).mono ?_
  rintro e w' ⟨s, H', B', x, hQ, hp, rfl, hx, hm'⟩
  exact rm_post hc hm' hp rfl hx hQ
theorem rwait_any {w : World} {X : List Nat} {k : Nat} {uo : Value} {c : Cs} (hs : RSat w X k uo c) : Calls Tryz.prog 38 #[ptrV k] w fun e w' => e = .returned (.tuple #[]) ∧ RPost w X k uo c.wait w' := by
  obtain ⟨ua, ug, le, tr, qs, hc⟩ := hs
  refine (canT_okn CR0_ok follows Tryz.func38 (by kernel_rfl) (lexAllF_ok (by kernel_rfl)) (noloops (by kernel_rfl)) (rwait_tree c ua ug le tr _ _ rfl) rfl (rmem hc) rfl).mono ?_
  rintro e w' ⟨s, H', B', x, hQ, hp, rfl, hx, hm'⟩
  exact rm_post hc hm' hp rfl hx hQ
theorem rsend_any {w : World} {X : List Nat} {k : Nat} {uo : Value} {c : Cs} (hs : RSat w X k uo c) (kd : Int) {u : Value} {o : OL} (hr : RowO w (bsOf k uo ++ X) u o) (d : ByteArray) (ack cd cc : Int) : Calls Tryz.prog 74 #[ptrV k, .int .i64 kd, u, .string d, .int .i64 ack, .int .i64 cd, .int .i64 cc] w fun e w' => e = .returned (.int .i64 (Circ.add c.gss 1)) ∧ RPost w X k uo (c.send kd o d ack cd cc) w' := by
  obtain ⟨ua, ug, le, tr, qs, hc⟩ := hs
  obtain ⟨pu, lu, cu, rfl⟩ := rowO_slice hr
  have hx : allOneP (flatQ qs) := one_flat qs fun q hq => rowO_slice (hc.opts q hq)
  refine (canT_okn CRm_ok follows Tryz.func74 (by kernel_rfl) (lexAllF_ok (by kernel_rfl)) (noloops (by kernel_rfl)) (rsendN_tree (.bool c.cl) ua ug (.int .i64 c.wa) (.int .i64 le) (.int .i64 tr) (.bool c.sy) (.int .i64 c.li) c.st c.iss c.isr c.gss c.gsr c.gar c.sv kd d ack cd cc pu lu cu _ _ hx) rfl (rmem hc) rfl).mono ?_
  rintro e w' ⟨s, H', B', x, hQ, hp, rfl, hx', hm'⟩
  have hp0 : c.pkt kd d ack cd cc = pkS c.st c.gss c.sv ⟨kd, false, 0, 0, cc, 0, 0, 0, 0, cd, 0, d⟩ ack := rfl
  rcases hQ with ⟨hn, hQ⟩ | ⟨hn, hQ⟩
  · simp only [Prod.mk.injEq] at hQ
    obtain ⟨rfl, rfl⟩ := hQ
    have hout : (c.send kd o d ack cd cc).outs = c.outs ++ [⟨c.pkt kd d ack cd cc, o⟩] := if_pos hn
    obtain ⟨uq, hq, g3, hne, hnew, hold, hkeep, -⟩ := roff_core (c' := c.send kd o d ack cd cc) (ua' := ua) (ug' := ug) (le := le) (tr := tr) hc hm' hp rfl rfl rfl rfl rfl (fun _ e => by cases e) (fun _ _ e => by cases e)
    have hv' : VecSat w' 36 13 uq (c.outs.length + 1) (flatQ qs ++ (pkL c.st c.gss c.sv ⟨kd, false, 0, 0, cc, 0, 0, 0, 0, cd, 0, d⟩ ack (.slice pu lu cu))) := hm'.sat.blk 2 _ uq rfl hq
    refine ⟨by rw [val_eq rfl hx'], uq, ⟨ua, ug, le, tr, qs ++ [(⟨c.pkt kd d ack cd cc, o⟩, .slice pu lu cu)], g3, ?_, hne, hc.wt, ?_, hkeep hc.asks, hkeep hc.greets, fun q hq => ?_, hold⟩, hm'.keeps, hnew⟩
    · rw [flatQ_append, hout, List.length_append]
      have e : flatQ [((⟨c.pkt kd d ack cd cc, o⟩ : QP), Value.slice pu lu cu)] = pkL c.st c.gss c.sv ⟨kd, false, 0, 0, cc, 0, 0, 0, 0, cd, 0, d⟩ ack (.slice pu lu cu) := List.append_nil _
      rw [e]
      exact hv'
    · rw [List.map_append, hc.fst, hout]; rfl
    · rcases List.mem_append.1 hq with hq | hq
      · exact hkeep (hc.opts q hq)
      · rw [List.mem_singleton] at hq; subst hq; exact hkeep hr
  · simp only [Prod.mk.injEq] at hQ
    obtain ⟨rfl, rfl⟩ := hQ
    have hout : (c.send kd o d ack cd cc).outs = c.outs := if_neg hn
    obtain ⟨uq, hq, g3, hne, hnew, hold, hkeep, -⟩ := roff_core (c' := c.send kd o d ack cd cc) (ua' := ua) (ug' := ug) (le := le) (tr := tr) hc hm' hp rfl rfl rfl rfl rfl (fun _ e => by cases e) (fun _ _ e => by cases e)
    have hv' : VecSat w' 36 13 uq c.outs.length (flatQ qs) := hm'.sat.blk 1 _ uq rfl hq
    exact ⟨by rw [val_eq rfl hx'], uq, ⟨ua, ug, le, tr, qs, g3, by rw [hout]; exact hv', hne, hc.wt, by rw [hout]; exact hc.fst, hkeep hc.asks, hkeep hc.greets, (fun q hq => hkeep (hc.opts q hq)), hold⟩, hm'.keeps, hnew⟩
end Go.Proofs.YtopeaafcepgnhaaGreat
namespace Go.Proofs.YtopeaafcepgnhaaGreat
open Go.RowKit Sym Go.ChangeShapes Go.WideShapes Go.ChangeMaps
def FH0 (P : Program) (Z : RfFn) (fSend : Func) : LTab := addR 37 (rd1 2 OpP fun n f => .int .i64 (chkO n (opF f))) <| addT 31 (inl P (CR0 P) noL Z.begin_) <| addT 16 (inl P (CR0 P) noL Z.Next_) <| addT 38 (inl P (CR0 P) noL Z.wait_) <| addT 74 (inl P (CRm P Z.Next_) noL fSend) noF
abbrev fsH0 : List Nat := [37, 31, 16, 38, 74]
theorem FH0_ok : LOk Tryz.prog (FH0 Tryz.prog (RfFn.mk Tryz.f31 Tryz.f16 Tryz.f38 Tryz.f75 Tryz.f39 Tryz.f76) Tryz.f74) :=
  addR_ok (addT_ok (addT_ok (addT_ok (addT_ok noF_ok
    (by kernel_rfl) (inl_ok CRm_ok follows Tryz.func74 (by kernel_rfl) (lexAllF_ok (by kernel_rfl)) (noloops (by kernel_rfl))))
    (by kernel_rfl) (inl_ok CR0_ok follows Tryz.func38 (by kernel_rfl) (lexAllF_ok (by kernel_rfl)) (noloops (by kernel_rfl))))
    (by kernel_rfl) (inl_ok CR0_ok follows Tryz.func16 (by kernel_rfl) (lexAllF_ok (by kernel_rfl)) (noloops (by kernel_rfl))))
    (by kernel_rfl) (inl_ok CR0_ok follows Tryz.func31 (by kernel_rfl) (lexAllF_ok (by kernel_rfl)) (noloops (by kernel_rfl))))
    (by kernel_rfl) (rd1_ok fun n f v w hv hp => ref07_Check n (opF f) hp.2 v w (op_row hv hp.1))
abbrev CH0 (P : Program) (Z : RfFn) (fSend : Func) : Cfg := both P SCe3 (FH0 P Z fSend) fsH0
theorem CH0_ok : CfgOk Tryz.prog (CH0 Tryz.prog (RfFn.mk Tryz.f31 Tryz.f16 Tryz.f38 Tryz.f75 Tryz.f39 Tryz.f76) Tryz.f74) := both_ok SCe3_ok FH0_ok
def FH1 (P : Program) (Z : RfFn) (fSend : Func) : LTab := addT 39 (inl P (CH0 P Z fSend) noL Z.say_) <| FH0 P Z fSend
abbrev fsH1 : List Nat := 39 :: fsH0
theorem FH1_ok : LOk Tryz.prog (FH1 Tryz.prog (RfFn.mk Tryz.f31 Tryz.f16 Tryz.f38 Tryz.f75 Tryz.f39 Tryz.f76) Tryz.f74) :=
  addT_ok FH0_ok (by kernel_rfl) (inl_ok CH0_ok follows Tryz.func39 (by kernel_rfl) (lexAllF_ok (by kernel_rfl)) (noloops (by kernel_rfl)))
abbrev CH1 (P : Program) (Z : RfFn) (fSend : Func) : Cfg := both P SCe3 (FH1 P Z fSend) fsH1
theorem CH1_ok : CfgOk Tryz.prog (CH1 Tryz.prog (RfFn.mk Tryz.f31 Tryz.f16 Tryz.f38 Tryz.f75 Tryz.f39 Tryz.f76) Tryz.f74) := both_ok SCe3_ok FH1_ok
def rsT (c : Cs) (st ua ug : SV) (le tr : Int) (o : SV) : List SV := [.v (.bool c.cl), st, .v (.int .i64 c.sv), .v (.int .i64 c.iss), .v (.int .i64 c.isr), .v (.int .i64 c.gss), .v (.int .i64 c.gsr), .v (.int .i64 c.gar), ua, ug, .v (.int .i64 c.wa), .v (.int .i64 le), .v (.int .i64 tr), .v (.bool c.sy), .v (.int .i64 c.li), o]
set_option maxRecDepth 100000 in
theorem rsay2_run (c : Cs) (ua ug : Value) (le tr : Int) (n : Nat) (xs : List Value) (m1 m2 : Nat) (f1 f2 : Nat → Nat → Value) (d : ByteArray) (ra : Int) : canT 4 (runF Tryz.prog (CH1 Tryz.prog (RfFn.mk Tryz.f31 Tryz.f16 Tryz.f38 Tryz.f75 Tryz.f39 Tryz.f76) Tryz.f74) noL Tryz.f41 (Tryz.f41.body.getD .skip) [.ptr 0 0, .c (.int .i64 3), .ref 3, .v (.string d), .v (.int .i64 ra)] [.own (rsT c (.c (.int .i64 2)) (.v ua) (.ref 2) le tr (.ref 1)), .vec false 36 13 n xs, .row m1 2 f1, .row m2 2 f2]) = .need (0 + m1 ≤ 9223372036854775807 ∧ (0 + m1) * 24 ≤ 140737488355328) (.need (allOneP (rowCells m1 2 f1)) (.need (0 + m1 + m2 ≤ 9223372036854775807 ∧ (0 + m1 + m2) * 24 ≤ 140737488355328) (.need (allOneP (rowCells m2 2 f2)) (.need (OpP (0 + m1 + m2) fun i j => cellAt ([] ++ rowCells m1 2 f1 ++ rowCells m2 2 f2) (i * 2 + j)) (.ite (!decide (chkO (0 + m1 + m2) (opF fun i j => cellAt ([] ++ rowCells m1 2 f1 ++ rowCells m2 2 f2) (i * 2 + j)) = (0 : Int))) (.leaf (SV.v (Value.tuple (Array.mk [Value.int IntKind.i64 0, Value.int IntKind.i64 (chkO (0 + m1 + m2) (opF fun i j => cellAt ([] ++ rowCells m1 2 f1 ++ rowCells m2 2 f2) (i * 2 + j)))])), [.own [SV.v (Value.bool c.1), .c (.int .i64 2), .v (.int .i64 c.8), .v (.int .i64 c.3), .v (.int .i64 c.4), .v (.int .i64 c.5), .v (.int .i64 c.6), .v (.int .i64 c.7), SV.v ua, SV.ref 2, .v (.int .i64 c.11), .v (.int .i64 le), .v (.int .i64 tr), SV.v (Value.bool c.14), .v (.int .i64 c.15), SV.ref 1], Blk.vec false 36 13 n xs, Blk.row m1 2 f1, Blk.row m2 2 f2])) (.ite (decide ((↑d.size : Int) > (200 : Int))) (.leaf (SV.v (Value.tuple (Array.mk [Value.int IntKind.i64 0, Value.int IntKind.i64 11])), [.own [SV.v (Value.bool c.1), .c (.int .i64 2), .v (.int .i64 c.8), .v (.int .i64 c.3), .v (.int .i64 c.4), .v (.int .i64 c.5), .v (.int .i64 c.6), .v (.int .i64 c.7), SV.v ua, SV.ref 2, .v (.int .i64 c.11), .v (.int .i64 le), .v (.int .i64 tr), SV.v (Value.bool c.14), .v (.int .i64 c.15), SV.ref 1], Blk.vec false 36 13 n xs, Blk.row m1 2 f1, Blk.row m2 2 f2])) (.ite (!decide (d = ByteArray.mk (Array.mk []))) (.leaf (SV.v (Value.tuple (Array.mk [Value.int IntKind.i64 0, Value.int IntKind.i64 4])), [.own [SV.v (Value.bool c.1), .c (.int .i64 2), .v (.int .i64 c.8), .v (.int .i64 c.3), .v (.int .i64 c.4), .v (.int .i64 c.5), .v (.int .i64 c.6), .v (.int .i64 c.7), SV.v ua, SV.ref 2, .v (.int .i64 c.11), .v (.int .i64 le), .v (.int .i64 tr), SV.v (Value.bool c.14), .v (.int .i64 c.15), SV.ref 1], Blk.vec false 36 13 n xs, Blk.row m1 2 f1, Blk.row m2 2 f2])) (.ite true (.ite (decide ((↑n : Int) < (50 : Int))) (.need (0 + n ≤ 9223372036854775807 ∧ (0 + n) * 128 ≤ 140737488355328) (.need (allOneP xs) (.need (0 + n + 1 ≤ 9223372036854775807 ∧ (0 + n + 1) * 128 ≤ 140737488355328) (.need (allOneP [Value.int IntKind.i64 (if (15 : Int) < if (0 : Int) > ra then (0 : Int) else ra then (15 : Int) else if (0 : Int) > ra then (0 : Int) else ra)]) (.need (allOneP [Value.int IntKind.i64 (Circ.of (IntKind.i64.wrap (c.5 + (1 : Int))))]) (.need (allOneP [Value.int IntKind.i64 c.6]) (.need (allOneP [Value.string d]) (.need (agree (.need (0 + n ≤ 9223372036854775807 ∧ (0 + n) * 128 ≤ 140737488355328) (.need (allOneP xs) (.need (0 + n + 1 ≤ 9223372036854775807 ∧ (0 + n + 1) * 128 ≤ 140737488355328) (.need (allOneP [Value.int IntKind.i64 (if (15 : Int) < if (0 : Int) > ra then (0 : Int) else ra then (15 : Int) else if (0 : Int) > ra then (0 : Int) else ra)]) (.need (allOneP [Value.int IntKind.i64 (Circ.of (IntKind.i64.wrap (c.5 + (1 : Int))))]) (.need (allOneP [Value.int IntKind.i64 c.6]) (.need (allOneP [Value.string d]) (.leaf (St.mk [(0, some (.ptr 0 0)), (15, some (.v (.int .i64 (Circ.of (IntKind.i64.wrap (c.5 + (1 : Int)))))))] [.own [SV.v (Value.bool c.1), .c (.int .i64 2), .v (.int .i64 c.8), .v (.int .i64 c.3), .v (.int .i64 c.4), .v (.int .i64 (Circ.of (IntKind.i64.wrap (c.5 + (1 : Int))))), .v (.int .i64 c.6), .v (.int .i64 c.7), SV.v ua, SV.ref 1, .v (.int .i64 c.11), .v (.int .i64 le), .v (.int .i64 tr), SV.v (Value.bool c.14), .v (.int .i64 c.15), SV.ref 5], Blk.row m1 2 f1, Blk.vec false 36 13 n xs, Blk.vec false 64 2 (0 + m1 + m2) ([] ++ rowCells m1 2 f1 ++ rowCells m2 2 f2), .own [.c (.int .i64 3), SV.tt, .c (.int .i64 0), .c (.int .i64 0), .v (.int .i64 (if (15 : Int) < if (0 : Int) > ra then (0 : Int) else ra then (15 : Int) else if (0 : Int) > ra then (0 : Int) else ra)), .c (.int .i64 0), .v (.int .i64 (Circ.of (IntKind.i64.wrap (c.5 + (1 : Int))))), .v (.int .i64 c.6), .c (.int .i64 0), .c (.int .i64 0), .c (.int .i64 0), SV.ref 3, .v (.string d)], Blk.que 36 13 (0 + n + 1) ([] ++ xs) [.c (.int .i64 3), SV.tt, .c (.int .i64 0), .c (.int .i64 0), .v (.int .i64 (if (15 : Int) < if (0 : Int) > ra then (0 : Int) else ra then (15 : Int) else if (0 : Int) > ra then (0 : Int) else ra)), .c (.int .i64 0), .v (.int .i64 (Circ.of (IntKind.i64.wrap (c.5 + (1 : Int))))), .v (.int .i64 c.6), .c (.int .i64 0), .c (.int .i64 0), .c (.int .i64 0), SV.ref 3, .v (.string d)]]))))))))) (St.mk [(0, some (.ptr 0 0)), (15, some (.v (.int .i64 (Circ.of (IntKind.i64.wrap (c.5 + (1 : Int)))))))] [.own [SV.v (Value.bool c.1), .c (.int .i64 2), .v (.int .i64 c.8), .v (.int .i64 c.3), .v (.int .i64 c.4), .v (.int .i64 (Circ.of (IntKind.i64.wrap (c.5 + (1 : Int))))), .v (.int .i64 c.6), .v (.int .i64 c.7), SV.v ua, SV.ref 1, .v (.int .i64 c.11), .v (.int .i64 le), .v (.int .i64 tr), SV.v (Value.bool c.14), .v (.int .i64 c.15), SV.ref 5], Blk.row m1 2 f1, Blk.vec false 36 13 n xs, Blk.vec false 64 2 (0 + m1 + m2) ([] ++ rowCells m1 2 f1 ++ rowCells m2 2 f2), .own [.c (.int .i64 3), SV.tt, .c (.int .i64 0), .c (.int .i64 0), .v (.int .i64 (if (15 : Int) < if (0 : Int) > ra then (0 : Int) else ra then (15 : Int) else if (0 : Int) > ra then (0 : Int) else ra)), .c (.int .i64 0), .v (.int .i64 (Circ.of (IntKind.i64.wrap (c.5 + (1 : Int))))), .v (.int .i64 c.6), .c (.int .i64 0), .c (.int .i64 0), .c (.int .i64 0), SV.ref 3, .v (.string d)], Blk.que 36 13 (0 + n + 1) ([] ++ xs) [.c (.int .i64 3), SV.tt, .c (.int .i64 0), .c (.int .i64 0), .v (.int .i64 (if (15 : Int) < if (0 : Int) > ra then (0 : Int) else ra then (15 : Int) else if (0 : Int) > ra then (0 : Int) else ra)), .c (.int .i64 0), .v (.int .i64 (Circ.of (IntKind.i64.wrap (c.5 + (1 : Int))))), .v (.int .i64 c.6), .c (.int .i64 0), .c (.int .i64 0), .c (.int .i64 0), SV.ref 3, .v (.string d)]])) (.need (agree (.need (0 + n ≤ 9223372036854775807 ∧ (0 + n) * 128 ≤ 140737488355328) (.need (allOneP xs) (.need (0 + n + 1 ≤ 9223372036854775807 ∧ (0 + n + 1) * 128 ≤ 140737488355328) (.need (allOneP [Value.int IntKind.i64 (if (15 : Int) < if (0 : Int) > ra then (0 : Int) else ra then (15 : Int) else if (0 : Int) > ra then (0 : Int) else ra)]) (.need (allOneP [Value.int IntKind.i64 (Circ.of (IntKind.i64.wrap (c.5 + (1 : Int))))]) (.need (allOneP [Value.int IntKind.i64 c.6]) (.need (allOneP [Value.string d]) (.leaf (St.mk [(0, some (.ptr 0 0)), (15, some (.v (.int .i64 (Circ.of (IntKind.i64.wrap (c.5 + (1 : Int)))))))] [.own [SV.v (Value.bool c.1), .c (.int .i64 2), .v (.int .i64 c.8), .v (.int .i64 c.3), .v (.int .i64 c.4), .v (.int .i64 (Circ.of (IntKind.i64.wrap (c.5 + (1 : Int))))), .v (.int .i64 c.6), .v (.int .i64 c.7), SV.v ua, SV.ref 1, .v (.int .i64 c.11), .v (.int .i64 le), .v (.int .i64 tr), SV.v (Value.bool c.14), .v (.int .i64 c.15), SV.ref 5], Blk.row m1 2 f1, Blk.vec false 36 13 n xs, Blk.vec false 64 2 (0 + m1 + m2) ([] ++ rowCells m1 2 f1 ++ rowCells m2 2 f2), .own [.c (.int .i64 3), SV.tt, .c (.int .i64 0), .c (.int .i64 0), .v (.int .i64 (if (15 : Int) < if (0 : Int) > ra then (0 : Int) else ra then (15 : Int) else if (0 : Int) > ra then (0 : Int) else ra)), .c (.int .i64 0), .v (.int .i64 (Circ.of (IntKind.i64.wrap (c.5 + (1 : Int))))), .v (.int .i64 c.6), .c (.int .i64 0), .c (.int .i64 0), .c (.int .i64 0), SV.ref 3, .v (.string d)], Blk.que 36 13 (0 + n + 1) ([] ++ xs) [.c (.int .i64 3), SV.tt, .c (.int .i64 0), .c (.int .i64 0), .v (.int .i64 (if (15 : Int) < if (0 : Int) > ra then (0 : Int) else ra then (15 : Int) else if (0 : Int) > ra then (0 : Int) else ra)), .c (.int .i64 0), .v (.int .i64 (Circ.of (IntKind.i64.wrap (c.5 + (1 : Int))))), .v (.int .i64 c.6), .c (.int .i64 0), .c (.int .i64 0), .c (.int .i64 0), SV.ref 3, .v (.string d)]]))))))))) (St.mk [(0, some (.ptr 0 0)), (15, some (.v (.int .i64 (Circ.of (IntKind.i64.wrap (c.5 + (1 : Int)))))))] [.own [SV.v (Value.bool c.1), .c (.int .i64 2), .v (.int .i64 c.8), .v (.int .i64 c.3), .v (.int .i64 c.4), .v (.int .i64 (Circ.of (IntKind.i64.wrap (c.5 + (1 : Int))))), .v (.int .i64 c.6), .v (.int .i64 c.7), SV.v ua, SV.ref 1, .v (.int .i64 c.11), .v (.int .i64 le), .v (.int .i64 tr), SV.v (Value.bool c.14), .v (.int .i64 c.15), SV.ref 5], Blk.row m1 2 f1, Blk.vec false 36 13 n xs, Blk.vec false 64 2 (0 + m1 + m2) ([] ++ rowCells m1 2 f1 ++ rowCells m2 2 f2), .own [.c (.int .i64 3), SV.tt, .c (.int .i64 0), .c (.int .i64 0), .v (.int .i64 (if (15 : Int) < if (0 : Int) > ra then (0 : Int) else ra then (15 : Int) else if (0 : Int) > ra then (0 : Int) else ra)), .c (.int .i64 0), .v (.int .i64 (Circ.of (IntKind.i64.wrap (c.5 + (1 : Int))))), .v (.int .i64 c.6), .c (.int .i64 0), .c (.int .i64 0), .c (.int .i64 0), SV.ref 3, .v (.string d)], Blk.que 36 13 (0 + n + 1) ([] ++ xs) [.c (.int .i64 3), SV.tt, .c (.int .i64 0), .c (.int .i64 0), .v (.int .i64 (if (15 : Int) < if (0 : Int) > ra then (0 : Int) else ra then (15 : Int) else if (0 : Int) > ra then (0 : Int) else ra)), .c (.int .i64 0), .v (.int .i64 (Circ.of (IntKind.i64.wrap (c.5 + (1 : Int))))), .v (.int .i64 c.6), .c (.int .i64 0), .c (.int .i64 0), .c (.int .i64 0), SV.ref 3, .v (.string d)]])) (.leaf (SV.v (Value.tuple (Array.mk [Value.int IntKind.i64 (Circ.of (IntKind.i64.wrap (c.5 + (1 : Int)))), Value.int IntKind.i64 0])), [.own [SV.v (Value.bool c.1), .c (.int .i64 2), .v (.int .i64 c.8), .v (.int .i64 c.3), .v (.int .i64 c.4), .v (.int .i64 (Circ.of (IntKind.i64.wrap (c.5 + (1 : Int))))), .v (.int .i64 c.6), .v (.int .i64 c.7), SV.v ua, SV.ref 2, .v (.int .i64 c.11), .v (.int .i64 le), .v (.int .i64 tr), SV.v (Value.bool c.14), .v (.int .i64 c.15), SV.ref 4], Blk.vec false 36 13 n xs, Blk.row m1 2 f1, Blk.row m2 2 f2, Blk.que 36 13 (0 + n + 1) ([] ++ xs) [.c (.int .i64 3), SV.tt, .c (.int .i64 0), .c (.int .i64 0), .v (.int .i64 (if (15 : Int) < if (0 : Int) > ra then (0 : Int) else ra then (15 : Int) else if (0 : Int) > ra then (0 : Int) else ra)), .c (.int .i64 0), .v (.int .i64 (Circ.of (IntKind.i64.wrap (c.5 + (1 : Int))))), .v (.int .i64 c.6), .c (.int .i64 0), .c (.int .i64 0), .c (.int .i64 0), SV.ref 5, .v (.string d)], Blk.vec false 64 2 (0 + m1 + m2) ([] ++ rowCells m1 2 f1 ++ rowCells m2 2 f2)]))))))))))) (.leaf (SV.v (Value.tuple (Array.mk [Value.int IntKind.i64 (Circ.of (IntKind.i64.wrap (c.5 + (1 : Int)))), Value.int IntKind.i64 0])), [.own [SV.v (Value.bool c.1), .c (.int .i64 2), .v (.int .i64 c.8), .v (.int .i64 c.3), .v (.int .i64 c.4), .v (.int .i64 (Circ.of (IntKind.i64.wrap (c.5 + (1 : Int))))), .v (.int .i64 c.6), .v (.int .i64 c.7), SV.v ua, SV.ref 2, .v (.int .i64 c.11), .v (.int .i64 le), .v (.int .i64 tr), SV.v (Value.bool c.14), .v (.int .i64 c.15), SV.ref 1], Blk.vec false 36 13 n xs, Blk.row m1 2 f1, Blk.row m2 2 f2]))) (.ite (decide ((↑n : Int) < (50 : Int))) (.need (0 + n ≤ 9223372036854775807 ∧ (0 + n) * 128 ≤ 140737488355328) (.need (allOneP xs) (.need (0 + n + 1 ≤ 9223372036854775807 ∧ (0 + n + 1) * 128 ≤ 140737488355328) (.need (allOneP [Value.int IntKind.i64 (if (15 : Int) < if (0 : Int) > ra then (0 : Int) else ra then (15 : Int) else if (0 : Int) > ra then (0 : Int) else ra)]) (.need (allOneP [Value.int IntKind.i64 (Circ.of (IntKind.i64.wrap (c.5 + (1 : Int))))]) (.need (allOneP [Value.string d]) (.need (agree (.need (0 + n ≤ 9223372036854775807 ∧ (0 + n) * 128 ≤ 140737488355328) (.need (allOneP xs) (.need (0 + n + 1 ≤ 9223372036854775807 ∧ (0 + n + 1) * 128 ≤ 140737488355328) (.need (allOneP [Value.int IntKind.i64 (if (15 : Int) < if (0 : Int) > ra then (0 : Int) else ra then (15 : Int) else if (0 : Int) > ra then (0 : Int) else ra)]) (.need (allOneP [Value.int IntKind.i64 (Circ.of (IntKind.i64.wrap (c.5 + (1 : Int))))]) (.need (allOneP [Value.string d]) (.leaf (St.mk [(0, some (.ptr 0 0)), (15, some (.v (.int .i64 (Circ.of (IntKind.i64.wrap (c.5 + (1 : Int)))))))] [.own [SV.v (Value.bool c.1), .c (.int .i64 2), .v (.int .i64 c.8), .v (.int .i64 c.3), .v (.int .i64 c.4), .v (.int .i64 (Circ.of (IntKind.i64.wrap (c.5 + (1 : Int))))), .v (.int .i64 c.6), .v (.int .i64 c.7), SV.v ua, SV.ref 1, .v (.int .i64 c.11), .v (.int .i64 le), .v (.int .i64 tr), SV.v (Value.bool c.14), .v (.int .i64 c.15), SV.ref 5], Blk.row m1 2 f1, Blk.vec false 36 13 n xs, Blk.vec false 64 2 (0 + m1 + m2) ([] ++ rowCells m1 2 f1 ++ rowCells m2 2 f2), .own [.c (.int .i64 3), SV.tt, .c (.int .i64 0), .c (.int .i64 0), .v (.int .i64 (if (15 : Int) < if (0 : Int) > ra then (0 : Int) else ra then (15 : Int) else if (0 : Int) > ra then (0 : Int) else ra)), .c (.int .i64 0), .v (.int .i64 (Circ.of (IntKind.i64.wrap (c.5 + (1 : Int))))), .c (.int .i64 0), .c (.int .i64 0), .c (.int .i64 0), .c (.int .i64 0), SV.ref 3, .v (.string d)], Blk.que 36 13 (0 + n + 1) ([] ++ xs) [.c (.int .i64 3), SV.tt, .c (.int .i64 0), .c (.int .i64 0), .v (.int .i64 (if (15 : Int) < if (0 : Int) > ra then (0 : Int) else ra then (15 : Int) else if (0 : Int) > ra then (0 : Int) else ra)), .c (.int .i64 0), .v (.int .i64 (Circ.of (IntKind.i64.wrap (c.5 + (1 : Int))))), .c (.int .i64 0), .c (.int .i64 0), .c (.int .i64 0), .c (.int .i64 0), SV.ref 3, .v (.string d)]])))))))) (St.mk [(0, some (.ptr 0 0)), (15, some (.v (.int .i64 (Circ.of (IntKind.i64.wrap (c.5 + (1 : Int)))))))] [.own [SV.v (Value.bool c.1), .c (.int .i64 2), .v (.int .i64 c.8), .v (.int .i64 c.3), .v (.int .i64 c.4), .v (.int .i64 (Circ.of (IntKind.i64.wrap (c.5 + (1 : Int))))), .v (.int .i64 c.6), .v (.int .i64 c.7), SV.v ua, SV.ref 1, .v (.int .i64 c.11), .v (.int .i64 le), .v (.int .i64 tr), SV.v (Value.bool c.14), .v (.int .i64 c.15), SV.ref 5], Blk.row m1 2 f1, Blk.vec false 36 13 n xs, Blk.vec false 64 2 (0 + m1 + m2) ([] ++ rowCells m1 2 f1 ++ rowCells m2 2 f2), .own [.c (.int .i64 3), SV.tt, .c (.int .i64 0), .c (.int .i64 0), .v (.int .i64 (if (15 : Int) < if (0 : Int) > ra then (0 : Int) else ra then (15 : Int) else if (0 : Int) > ra then (0 : Int) else ra)), .c (.int .i64 0), .v (.int .i64 (Circ.of (IntKind.i64.wrap (c.5 + (1 : Int))))), .c (.int .i64 0), .c (.int .i64 0), .c (.int .i64 0), .c (.int .i64 0), SV.ref 3, .v (.string d)], Blk.que 36 13 (0 + n + 1) ([] ++ xs) [.c (.int .i64 3), SV.tt, .c (.int .i64 0), .c (.int .i64 0), .v (.int .i64 (if (15 : Int) < if (0 : Int) > ra then (0 : Int) else ra then (15 : Int) else if (0 : Int) > ra then (0 : Int) else ra)), .c (.int .i64 0), .v (.int .i64 (Circ.of (IntKind.i64.wrap (c.5 + (1 : Int))))), .c (.int .i64 0), .c (.int .i64 0), .c (.int .i64 0), .c (.int .i64 0), SV.ref 3, .v (.string d)]])) (.need (agree (.need (0 + n ≤ 9223372036854775807 ∧ (0 + n) * 128 ≤ 140737488355328) (.need (allOneP xs) (.need (0 + n + 1 ≤ 9223372036854775807 ∧ (0 + n + 1) * 128 ≤ 140737488355328) (.need (allOneP [Value.int IntKind.i64 (if (15 : Int) < if (0 : Int) > ra then (0 : Int) else ra then (15 : Int) else if (0 : Int) > ra then (0 : Int) else ra)]) (.need (allOneP [Value.int IntKind.i64 (Circ.of (IntKind.i64.wrap (c.5 + (1 : Int))))]) (.need (allOneP [Value.string d]) (.leaf (St.mk [(0, some (.ptr 0 0)), (15, some (.v (.int .i64 (Circ.of (IntKind.i64.wrap (c.5 + (1 : Int)))))))] [.own [SV.v (Value.bool c.1), .c (.int .i64 2), .v (.int .i64 c.8), .v (.int .i64 c.3), .v (.int .i64 c.4), .v (.int .i64 (Circ.of (IntKind.i64.wrap (c.5 + (1 : Int))))), .v (.int .i64 c.6), .v (.int .i64 c.7), SV.v ua, SV.ref 1, .v (.int .i64 c.11), .v (.int .i64 le), .v (.int .i64 tr), SV.v (Value.bool c.14), .v (.int .i64 c.15), SV.ref 5], Blk.row m1 2 f1, Blk.vec false 36 13 n xs, Blk.vec false 64 2 (0 + m1 + m2) ([] ++ rowCells m1 2 f1 ++ rowCells m2 2 f2), .own [.c (.int .i64 3), SV.tt, .c (.int .i64 0), .c (.int .i64 0), .v (.int .i64 (if (15 : Int) < if (0 : Int) > ra then (0 : Int) else ra then (15 : Int) else if (0 : Int) > ra then (0 : Int) else ra)), .c (.int .i64 0), .v (.int .i64 (Circ.of (IntKind.i64.wrap (c.5 + (1 : Int))))), .c (.int .i64 0), .c (.int .i64 0), .c (.int .i64 0), .c (.int .i64 0), SV.ref 3, .v (.string d)], Blk.que 36 13 (0 + n + 1) ([] ++ xs) [.c (.int .i64 3), SV.tt, .c (.int .i64 0), .c (.int .i64 0), .v (.int .i64 (if (15 : Int) < if (0 : Int) > ra then (0 : Int) else ra then (15 : Int) else if (0 : Int) > ra then (0 : Int) else ra)), .c (.int .i64 0), .v (.int .i64 (Circ.of (IntKind.i64.wrap (c.5 + (1 : Int))))), .c (.int .i64 0), .c (.int .i64 0), .c (.int .i64 0), .c (.int .i64 0), SV.ref 3, .v (.string d)]])))))))) (St.mk [(0, some (.ptr 0 0)), (15, some (.v (.int .i64 (Circ.of (IntKind.i64.wrap (c.5 + (1 : Int)))))))] [.own [SV.v (Value.bool c.1), .c (.int .i64 2), .v (.int .i64 c.8), .v (.int .i64 c.3), .v (.int .i64 c.4), .v (.int .i64 (Circ.of (IntKind.i64.wrap (c.5 + (1 : Int))))), .v (.int .i64 c.6), .v (.int .i64 c.7), SV.v ua, SV.ref 1, .v (.int .i64 c.11), .v (.int .i64 le), .v (.int .i64 tr), SV.v (Value.bool c.14), .v (.int .i64 c.15), SV.ref 5], Blk.row m1 2 f1, Blk.vec false 36 13 n xs, Blk.vec false 64 2 (0 + m1 + m2) ([] ++ rowCells m1 2 f1 ++ rowCells m2 2 f2), .own [.c (.int .i64 3), SV.tt, .c (.int .i64 0), .c (.int .i64 0), .v (.int .i64 (if (15 : Int) < if (0 : Int) > ra then (0 : Int) else ra then (15 : Int) else if (0 : Int) > ra then (0 : Int) else ra)), .c (.int .i64 0), .v (.int .i64 (Circ.of (IntKind.i64.wrap (c.5 + (1 : Int))))), .c (.int .i64 0), .c (.int .i64 0), .c (.int .i64 0), .c (.int .i64 0), SV.ref 3, .v (.string d)], Blk.que 36 13 (0 + n + 1) ([] ++ xs) [.c (.int .i64 3), SV.tt, .c (.int .i64 0), .c (.int .i64 0), .v (.int .i64 (if (15 : Int) < if (0 : Int) > ra then (0 : Int) else ra then (15 : Int) else if (0 : Int) > ra then (0 : Int) else ra)), .c (.int .i64 0), .v (.int .i64 (Circ.of (IntKind.i64.wrap (c.5 + (1 : Int))))), .c (.int .i64 0), .c (.int .i64 0), .c (.int .i64 0), .c (.int .i64 0), SV.ref 3, .v (.string d)]])) (.leaf (SV.v (Value.tuple (Array.mk [Value.int IntKind.i64 (Circ.of (IntKind.i64.wrap (c.5 + (1 : Int)))), Value.int IntKind.i64 0])), [.own [SV.v (Value.bool c.1), .c (.int .i64 2), .v (.int .i64 c.8), .v (.int .i64 c.3), .v (.int .i64 c.4), .v (.int .i64 (Circ.of (IntKind.i64.wrap (c.5 + (1 : Int))))), .v (.int .i64 c.6), .v (.int .i64 c.7), SV.v ua, SV.ref 2, .v (.int .i64 c.11), .v (.int .i64 le), .v (.int .i64 tr), SV.v (Value.bool c.14), .v (.int .i64 c.15), SV.ref 4], Blk.vec false 36 13 n xs, Blk.row m1 2 f1, Blk.row m2 2 f2, Blk.que 36 13 (0 + n + 1) ([] ++ xs) [.c (.int .i64 3), SV.tt, .c (.int .i64 0), .c (.int .i64 0), .v (.int .i64 (if (15 : Int) < if (0 : Int) > ra then (0 : Int) else ra then (15 : Int) else if (0 : Int) > ra then (0 : Int) else ra)), .c (.int .i64 0), .v (.int .i64 (Circ.of (IntKind.i64.wrap (c.5 + (1 : Int))))), .c (.int .i64 0), .c (.int .i64 0), .c (.int .i64 0), .c (.int .i64 0), SV.ref 5, .v (.string d)], Blk.vec false 64 2 (0 + m1 + m2) ([] ++ rowCells m1 2 f1 ++ rowCells m2 2 f2)])))))))))) (.leaf (SV.v (Value.tuple (Array.mk [Value.int IntKind.i64 (Circ.of (IntKind.i64.wrap (c.5 + (1 : Int)))), Value.int IntKind.i64 0])), [.own [SV.v (Value.bool c.1), .c (.int .i64 2), .v (.int .i64 c.8), .v (.int .i64 c.3), .v (.int .i64 c.4), .v (.int .i64 (Circ.of (IntKind.i64.wrap (c.5 + (1 : Int))))), .v (.int .i64 c.6), .v (.int .i64 c.7), SV.v ua, SV.ref 2, .v (.int .i64 c.11), .v (.int .i64 le), .v (.int .i64 tr), SV.v (Value.bool c.14), .v (.int .i64 c.15), SV.ref 1], Blk.vec false 36 13 n xs, Blk.row m1 2 f1, Blk.row m2 2 f2]))))))))))) := by kernel_rfl
set_option maxRecDepth 100000 in
theorem radopt_run (iss isr gsr : Int) : canT 0 (runF Tryz.prog (CH1 Tryz.prog (RfFn.mk Tryz.f31 Tryz.f16 Tryz.f38 Tryz.f75 Tryz.f39 Tryz.f76) Tryz.f74) noL Tryz.f10 (Tryz.f10.body.getD .skip) [.v (.int .i64 iss), .v (.int .i64 isr), .v (.int .i64 gsr)] []) = .leaf (.ptr 0 0, [.own [SV.v (Value.bool false), .v (.int .i64 3), .v (.int .i64 0), .v (.int .i64 (Circ.of iss)), .v (.int .i64 (Circ.of isr)), .v (.int .i64 (Circ.of iss)), .v (.int .i64 (Circ.of gsr)), .v (.int .i64 (Circ.of iss)), SV.v (Value.slice none 0 0), SV.v (Value.slice none 0 0), .v (.int .i64 0), .v (.int .i64 0), .v (.int .i64 0), SV.v (Value.bool false), .v (.int .i64 0), SV.v (Value.slice none 0 0)]]) := by kernel_rfl
end Go.Proofs.YtopeaafcepgnhaaGreat
