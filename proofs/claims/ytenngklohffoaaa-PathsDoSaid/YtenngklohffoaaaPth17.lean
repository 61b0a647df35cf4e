/- Paths: what setting a state makes of where a law stands. No conditions. -/
import Derived.Test.YtenngklohffoaaaPth16
namespace Go.Proofs.Ytenngklohffoaaa
set_option linter.unusedVariables false
set_option linter.unusedSimpArgs false
open Go.RowKit Sym Go.Maps Go.WideMaps Go.Sort Go.Lib Go.Shelf

theorem here_set {w : World} {tb b g cap : Nat} {N : List PRow} {W : World} (hh : Here w tb b (.slice (some ⟨g, 0, none⟩) N.length cap) N W) {k : Nat} (hk : k < N.length) (s : Int) :
    Here w tb b (.slice (some ⟨g, 0, none⟩) N.length cap) (setL N N[k].x N[k].y s) ((W.setCell ⟨N[k].p, 2, none⟩ (.int .i64 s)).setCell ⟨g, k * 5 + 2, none⟩ (.int .i64 s)) := by
  have hr := List.getElem_mem hk
  obtain ⟨g1, g2, g3⟩ := hh.row g rfl
  have hf1 := full_set hh.full hh.sep hr s
  have hgp := (g3 _ hr).1
  have hbase := (World.ownsRow.lt hh.rows g rfl).1
  have hrow1 : Rows5 (W.setCell ⟨N[k].p, 2, none⟩ (.int .i64 s)) w.heap.size (.slice (some ⟨g, 0, none⟩) N.length cap) N := by
    refine World.ownsRow.kept (row := some N[k].p) hh.rows ⟨rfl, rfl, rfl, by simp, fun j _ hj => heap_setCell_other W ⟨N[k].p, 2, none⟩ j _ (fun e => hj (congrArg some e))⟩ (.inr ?_)
    simp only [Value.ownBlock, ne_eq, Option.some.injEq]
    exact hgp
  have hrow2 := rows_set hh.full.tab.ap hrow1 hk s
  have ho : ∀ j, j ≠ g → ((W.setCell ⟨N[k].p, 2, none⟩ (.int .i64 s)).setCell ⟨g, k * 5 + 2, none⟩ (.int .i64 s)).heap[j]? = (W.setCell ⟨N[k].p, 2, none⟩ (.int .i64 s)).heap[j]? := fun j hj => heap_setCell_other _ ⟨g, k * 5 + 2, none⟩ j _ (fun e => hj e)
  have ho1 : ∀ j, j ≠ N[k].p → (W.setCell ⟨N[k].p, 2, none⟩ (.int .i64 s)).heap[j]? = W.heap[j]? := fun j hj => heap_setCell_other _ ⟨N[k].p, 2, none⟩ j _ (fun e => hj e)
  have hlow := hh.low.2.2 _ hr
  have hmem : ∀ r ∈ setL N N[k].x N[k].y s, ∃ r0 ∈ N, r.p = r0.p ∧ r.F = r0.F := fun r hr => by
    obtain ⟨r0, hr0, rfl⟩ := List.mem_map.1 hr
    exact ⟨r0, hr0, (setR_same _ _ _ _).1, (setR_same _ _ _ _).2.2.2.2.2.2⟩
  refine ⟨⟨hf1.tab.kept (ho tb g1.symm) (ho b g2.symm) (fun r hr => ?_), fun r hr => ?_⟩, hrow2, hh.sep.set _ _ _, fun g' hg' => ?_, ⟨hh.low.1, hh.low.2.1, fun r hr => ?_⟩, ?_⟩
  · obtain ⟨r0, h0, e1, e2⟩ := hmem r hr
    rw [e1]
    exact ho _ (g3 r0 h0).1.symm
  · obtain ⟨r0, h0, e1, e2⟩ := hmem r hr
    refine (hf1.ctl r hr).kept fun j hj => ho j fun e => ?_
    rw [e2] at hj
    exact (g3 r0 h0).2 (e ▸ hj)
  · obtain ⟨h1, h2, h3⟩ := hh.row g' hg'
    refine ⟨h1, h2, fun r hr => ?_⟩
    obtain ⟨r0, h0, e1, e2⟩ := hmem r hr
    rw [e1, e2]
    exact h3 r0 h0
  · obtain ⟨r0, h0, e1, e2⟩ := hmem r hr
    rw [e1]
    exact hh.low.2.2 r0 h0
  · refine ⟨hh.bel.os, hh.bel.tape, hh.bel.output, by have := hh.bel.size; simpa using this, fun j hj => ?_⟩
    rw [ho j (by omega), ho1 j (by omega)]
    exact hh.bel.block j hj
end Go.Proofs.Ytenngklohffoaaa
