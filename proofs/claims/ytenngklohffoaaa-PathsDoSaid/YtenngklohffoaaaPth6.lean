/- Paths: what is noted as sent by a new control, where the world is told. No conditions. -/
import Derived.Test.YtenngklohffoaaaPth1
import Derived.Test.YtenngklohffoaaaCirc
import Derived.Deep.AppendLies
namespace Go.Proofs.Ytenngklohffoaaa
set_option linter.unusedVariables false
set_option linter.unusedSimpArgs false
open Go.RowKit Sym Go.Maps Go.WideMaps Go.Sort Go.Lib

theorem row_slice' {w : World} {base : Nat} {e : TypeId} {sz : Nat} {u : Value} {n : Nat} {xs : List Value} (h : w.ownsRow base e sz u n xs) : ∃ p cap, u = .slice p n cap := by
  rcases h.2 with ⟨rfl, h0⟩ | ⟨g, cap, cur, rfl, _⟩
  · exact ⟨none, 0, by rw [h0]⟩
  · exact ⟨_, _, rfl⟩
theorem row_below' {w w' : World} {base : Nat} {e : TypeId} {sz : Nat} {u : Value} {n : Nat} {xs : List Value} (h : w.ownsRow base e sz u n xs) (hb : Below w.heap.size w w') : w'.ownsRow base e sz u n xs := by
  refine World.ownsRow.kept (row := none) h ⟨hb.os, hb.tape, hb.output, hb.size, fun c hc _ => hb.block c hc⟩ ?_
  rcases h.2 with ⟨rfl, _⟩ | ⟨g, cap, cur, rfl, _⟩ <;> simp [Value.ownBlock]
theorem ctl_swap {w w' : World} {c f d k k' : Nat} {p : Option Addr} {cap : Nat} (h : CtlAt w (.pointer (some ⟨c, 0, none⟩)) k [c, f, d]) (hc : ∀ j : Nat, j ≠ 14 → w'.cell? ⟨c, j, none⟩ = w.cell? ⟨c, j, none⟩) (hf : w'.cell? ⟨f, 0, none⟩ = w.cell? ⟨f, 0, none⟩)
    (hd : w'.cell? ⟨d, 0, none⟩ = some (.slice p k' cap)) : CtlAt w' (.pointer (some ⟨c, 0, none⟩)) k' [c, f, d] := by
  obtain ⟨c', f', d', p', cap', hx, hF, h1, h2, h3, h4, h5, h6, h9, h10, h11, h12, h13, h14⟩ := h
  simp only [List.cons.injEq, and_true] at hF
  obtain ⟨rfl, rfl, rfl⟩ := hF
  exact ⟨c, f, d, p, cap, rfl, rfl, (hc 1 (by omega)).trans h1, (hc 2 (by omega)).trans h2, (hc 3 (by omega)).trans h3, (hc 4 (by omega)).trans h4, (hc 5 (by omega)).trans h5, (hc 6 (by omega)).trans h6, (hc 9 (by omega)).trans h9, (hc 10 (by omega)).trans h10, (hc 11 (by omega)).trans h11, (hc 12 (by omega)).trans h12, hf.trans h13, hd⟩
/-- a control that is being made -/
structure CtlB (base : Nat) (w : World) (c f d k : Nat) : Prop where
  ctl : CtlAt w (.pointer (some ⟨c, 0, none⟩)) k [c, f, d]
  most : w.cell? ⟨d, 1, none⟩ = some (.int .i64 64)
  fc : w.frozen? ⟨c, 14, none⟩ = false
  c14 : ∃ v, w.cell? ⟨c, 14, none⟩ = some (.int .i64 v)
  fd : w.frozen? ⟨d, 0, none⟩ = false
  row : ∃ u xs, w.cell? ⟨d, 0, none⟩ = some u ∧ w.ownsRow base 95 1 u k xs ∧ ∀ g, u.ownBlock = some g → g ≠ c ∧ g ≠ f ∧ g ≠ d
  ne : c ≠ f ∧ c ≠ d ∧ f ≠ d
  low : base ≤ c ∧ base ≤ f ∧ base ≤ d
theorem CtlB.to {base : Nat} {w : World} {c f d k : Nat} (h : CtlB base w c f d k) : w.cell? ⟨c, 1, none⟩ = some (.pointer (some ⟨f, 0, none⟩)) ∧ w.cell? ⟨f, 0, none⟩ = some (.pointer (some ⟨d, 0, none⟩)) := by
  obtain ⟨c', f', d', p', cap', hx, hF, h1, h2, h3, h4, h5, h6, h9, h10, h11, h12, h13, h14⟩ := h.ctl
  simp only [List.cons.injEq, and_true] at hF
  obtain ⟨rfl, rfl, rfl⟩ := hF
  exact ⟨h1, h13⟩
theorem CtlB.below {base : Nat} {w w' : World} {c f d k : Nat} (h : CtlB base w c f d k) (hb : Below w.heap.size w w') : CtlB base w' c f d k := by
  have lc := h.ctl.lt c (by simp)
  have ld := h.ctl.lt d (by simp)
  obtain ⟨u, xs, h1, h2, h3⟩ := h.row
  obtain ⟨v, hv⟩ := h.c14
  exact ⟨h.ctl.below hb, (hb.cell (p := ⟨d, 1, none⟩) ld).trans h.most, (hb.frozen (p := ⟨c, 14, none⟩) lc).trans h.fc, ⟨v, (hb.cell (p := ⟨c, 14, none⟩) lc).trans hv⟩, (hb.frozen (p := ⟨d, 0, none⟩) ld).trans h.fd, ⟨u, xs, (hb.cell (p := ⟨d, 0, none⟩) ld).trans h1, row_below' h2 hb, h3⟩, h.ne, h.low⟩
theorem below_drew' (w : World) (q : Nat) : Below w.heap.size w (w.drewN q) := below_drewN (Below.refl _ _) q
theorem under_infoP : (Try.prog.info? 95).map (fun i => (i.zero, i.size, i.bytes)) = some (some (.pointer none), 1, 8) := by kernel_rfl
theorem full_at {base : Nat} {w : World} {c f d k : Nat} (h : CtlB base w c f d k) (hk : k < 3) : Calls Try.prog 66 #[.pointer (some ⟨d, 0, none⟩)] w fun e w' => e = .returned (.bool false) ∧ ∃ q, w' = w.drewN q := by
  have hm := h.most
  obtain ⟨u, xs, h1, h2, h3⟩ := h.row
  obtain ⟨p, cap, rfl⟩ := row_slice' h2
  go_enter Try.func66, Try.ntmps66
  go_wp2
  go_quiet (fail)
  go_wp2
  go_ret
  refine ⟨ret_b ?_, nq, rfl⟩
  simp; omega
theorem push_post {w w3 : World} {q k cap : Nat} {p : Option Addr} {o : Obj} (hg3 : ((w.drewN q).alloc o).grownBy w3 (Value.slice p k cap).ownBlock) : ∀ j, j < w.heap.size → (∀ g, (Value.slice p k cap).ownBlock = some g → g ≠ j) → w3.heap[j]? = w.heap[j]? := by
  intro j hj hne
  have e1 := hg3.block j (by simp [World.drewN]; omega) (fun e => hne j e.symm rfl)
  rw [e1]
  exact (below_alloc (below_drew' w q) o).block j hj
set_option maxRecDepth 100000 in
set_option maxHeartbeats 2000000 in
theorem push_at {base : Nat} {w : World} {c f d k : Nat} (h : CtlB base w c f d k) (hk : k < 3) (hs : base ≤ w.heap.size) (x : Option Addr) : Calls Try.prog 57 #[.pointer (some ⟨d, 0, none⟩), .pointer x] w fun e w' => e = .returned (.bool true) ∧ CtlB base w' c f d (k + 1) ∧ Below base w w' := by
  obtain ⟨i0, hi, hz0, hz1, hz2⟩ := info_parts under_infoP
  obtain ⟨u, xs, h1, h2, h3⟩ := h.row
  obtain ⟨p, cap, rfl⟩ := row_slice' h2
  have lc := h.ctl.lt c (by simp)
  have lf := h.ctl.lt f (by simp)
  have ld := h.ctl.lt d (by simp)
  obtain ⟨hl1, hl2, hl3⟩ := h.low
  go_enter Try.func57, Try.ntmps57
  go_wp2_with (first
    | (go_at_call 66; refine (full_at h hk).mono ?_; rintro e w1 ⟨rfl, q, rfl⟩; have h2q : (w.drewN q).ownsRow base 95 1 (.slice p k cap) k xs := h2)
    | (at_builtin; go_loud (refine wpList_append_lies _ rfl _ _ 112 rfl base 95 i0 (.pointer none) 1 8 Try.underlying112 hi hz0 hz1 hz2 rfl (by decide) _ _ _ rfl (h2q.alloc _) ⟨w.heap.size, 0, none⟩ 1 1 [Value.pointer x] rfl rfl (cell_one_new _ _ _) (by simp [Value.oneCell']) (by decide) (by unfold maxLen; omega) (by omega) (by simp; omega) (w.heap.size + 1) (by simp) ?_); intro g3 cap3 w3 hown' hg3 hloc hlt3; have hbk := push_post (k := k) (cap := cap) (p := p) hg3; have hd3 := hbk d ld (fun g hg => (h3 g hg).2.2); have fd3 := (World.frozen?_of_block (a := ⟨d, 0, none⟩) hd3).trans h.fd; have cd3 := (World.cell?_of_block (a := ⟨d, 0, none⟩) hd3).trans h1))
  go_ret
  have hg : ∀ j, j < w.heap.size → (∀ g, (Value.slice p k cap).ownBlock = some g → g ≠ j) → g3 ≠ j := by
    intro j hj hne e
    rcases hloc with hl | hl
    · exact hne g3 hl e
    · omega
  have hgc := hg c lc (fun g hg => (h3 g hg).1)
  have hgf := hg f lf (fun g hg => (h3 g hg).2.1)
  have hgd := hg d ld (fun g hg => (h3 g hg).2.2)
  have hc3 := hbk c lc (fun g hg => (h3 g hg).1)
  have hf3 := hbk f lf (fun g hg => (h3 g hg).2.1)
  obtain ⟨n1, n2, n3⟩ := h.ne
  generalize hv : Value.slice (some ⟨g3, 0, none⟩) (k + 1) cap3 = v' at *
  have other : ∀ (b j : Nat), b ≠ d → (w3.setCell ⟨d, 0, none⟩ v').cell? ⟨b, j, none⟩ = w3.cell? ⟨b, j, none⟩ := fun b j hne => World.cell?_setCell_other (w := w3) (a := ⟨d, 0, none⟩) (b := ⟨b, j, none⟩) (v := v') (h := fun e => hne (by injection e with e1 _ _; exact e1.symm))
  obtain ⟨v14, hv14⟩ := h.c14
  refine ⟨rfl, ⟨ctl_swap (p := some ⟨g3, 0, none⟩) (cap := cap3) h.ctl (fun j _ => (other c j n2).trans (World.cell?_of_block (a := ⟨c, j, none⟩) hc3)) ((other f 0 n3).trans (World.cell?_of_block (a := ⟨f, 0, none⟩) hf3)) ?_, ?_, ?_, ⟨v14, (other c 14 n2).trans ((World.cell?_of_block (a := ⟨c, 14, none⟩) hc3).trans hv14)⟩, ?_, ⟨v', xs ++ [Value.pointer x], ?_, ?_, ?_⟩, h.ne, h.low⟩, ?_⟩
  · rw [World.cell?_setCell_same (w := w3) (a := ⟨d, 0, none⟩) (v := v') (h := cd3), ← hv]
  · rw [World.cell?_setCell_other (w := w3) (a := ⟨d, 0, none⟩) (b := ⟨d, 1, none⟩) (v := v') (h := fun e => by injection e with _ e2 _; cases e2)]
    exact (World.cell?_of_block (a := ⟨d, 1, none⟩) hd3).trans h.most
  · rw [frozen?_set]; exact (World.frozen?_of_block (a := ⟨c, 14, none⟩) hc3).trans h.fc
  · rw [frozen?_set]; exact fd3
  · exact World.cell?_setCell_same (w := w3) (a := ⟨d, 0, none⟩) (v := v') (h := cd3)
  · rw [← hv] at hown' ⊢
    refine hown'.kept (row := some d) ⟨rfl, rfl, rfl, by simp, fun j _ hj => heap_setCell_other w3 ⟨d, 0, none⟩ j _ (fun e => hj (by rw [e]))⟩ (.inr ?_)
    intro e
    simp [Value.ownBlock] at e
    exact hgd e
  · intro g hg'
    rw [← hv] at hg'
    simp only [Value.ownBlock, Option.some.injEq] at hg'
    subst hg'
    exact ⟨hgc, hgf, hgd⟩
  · have b3 : Below base w w3 := ⟨hg3.os, hg3.tape, hg3.output, by have := hg3.size; simp [World.drewN] at this; omega, fun j hj => hbk j (by omega) (fun g hg => by have := (h2.lt g hg).1; omega)⟩
    exact ⟨b3.os, b3.tape, b3.output, by have := b3.size; simpa using this, fun j hj => (heap_setCell_other w3 ⟨d, 0, none⟩ j _ (by simp; omega)).trans (b3.block j hj)⟩
end Go.Proofs.Ytenngklohffoaaa
