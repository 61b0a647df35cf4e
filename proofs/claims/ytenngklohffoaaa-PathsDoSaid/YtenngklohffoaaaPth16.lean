/- Paths: what sweeping makes of where a law stands. No conditions. -/
import Derived.Test.YtenngklohffoaaaPth15
namespace Go.Proofs.Ytenngklohffoaaa
set_option linter.unusedVariables false
set_option linter.unusedSimpArgs false
open Go.RowKit Sym Go.Maps Go.WideMaps Go.Sort Go.Lib Go.Shelf

theorem sweep_len : ∀ L : List PRow, (sweepL L).length + goneN L = L.length
  | [] => rfl
  | r :: L => by
    have ih := sweep_len L
    unfold sweepL goneN at ih ⊢
    by_cases h : r.st = 4
    · simp [h] at ih ⊢; omega
    · simp [h] at ih ⊢; omega
theorem sweep_take {L : List PRow} {k : Nat} (hk : k < L.length) : sweepL (L.take (k + 1)) = sweepL (L.take k) ++ (if L[k].st = 4 then [] else [L[k]]) := by
  unfold sweepL
  rw [List.take_succ_eq_append_getElem hk, List.filter_append]
  congr 1
  by_cases h : L[k].st = 4 <;> simp [h]
theorem here_sweep {w : World} {tb b : Nat} {u u' : Value} {L : List PRow} {wr V wi w5 : World} (hh : Here w tb b u L wr) (h2 : Below wr.heap.size wr V) (hri : Rows5 wi V.heap.size u' (sweepL L)) (hbi : Below V.heap.size V wi) (hk5 : Keeps [b] wi w5) (hT5 : TabAt w5 tb b (sweepL L)) :
    Here w tb b u' (sweepL L) w5 := by
  have hsub : ∀ r ∈ sweepL L, r ∈ L := fun r hr => (List.mem_filter.1 hr).1
  have hh2 := hh.below h2
  have hhi := hh2.below hbi
  have hbw : b < wr.heap.size := hh.full.tab.ltb
  have htw : tb < wr.heap.size := lt_of_cell hh.full.tab.tab
  have s2 := h2.size
  have hbl : Below w.heap.size w w5 := below_keeps' hhi.bel hk5 hh.low.2.1 hhi.bel.size
  have hri' : wi.ownsRow w.heap.size 53 5 u' (sweepL L).length (rowsV (sweepL L)) := row_mono hri hh2.bel.size
  refine ⟨⟨hT5, fun r hr => ?_⟩, ?_, ⟨hh.sep.pp.filter _, fun r hr t ht => hh.sep.pF r (hsub r hr) t (hsub t ht), fun r hr => hh.sep.pt r (hsub r hr), fun r hr => hh.sep.bF r (hsub r hr)⟩, fun g hg => ?_, ⟨hh.low.1, hh.low.2.1, fun r hr => hh.low.2.2 r (hsub r hr)⟩, hbl⟩
  · have hc := hhi.full.ctl r (hsub r hr)
    exact hc.kept fun k hk => hk5.block k (hc.lt k hk) (by simp; exact fun e => hh.sep.bF r (hsub r hr) (e ▸ hk))
  · refine World.ownsRow.kept (row := some b) hri' ⟨hk5.os, hk5.tape, hk5.output, hk5.size, fun k hk hn => hk5.block k hk (by simp; exact fun e => hn (by rw [e]))⟩ ?_
    cases hb : u'.ownBlock with
    | none => exact .inl rfl
    | some g =>
      refine .inr fun e => ?_
      have h1 := (World.ownsRow.lt hri g hb).1
      injection e with e
      omega
  · have hge := (World.ownsRow.lt hri g hg).1
    refine ⟨by omega, by omega, fun r hr => ⟨?_, fun hk => ?_⟩⟩
    · have := (hh.full.tab.path r (hsub r hr)).lt; omega
    · have := (hh.full.ctl r (hsub r hr)).lt g hk; omega
end Go.Proofs.Ytenngklohffoaaa
