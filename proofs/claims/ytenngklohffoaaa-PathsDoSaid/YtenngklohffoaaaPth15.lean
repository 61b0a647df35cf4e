/- Paths: where a law stands, and what adding makes of it. No conditions. -/
import Derived.Test.YtenngklohffoaaaPth13
import Derived.Test.YtenngklohffoaaaPth9
import Derived.Test.YtenngklohffoaaaPth7
namespace Go.Proofs.Ytenngklohffoaaa
set_option linter.unusedVariables false
set_option linter.unusedSimpArgs false
open Go.RowKit Sym Go.Maps Go.WideMaps Go.Sort Go.Lib Go.Shelf

/-- where the law stands -/
structure Here (w : World) (tb b : Nat) (u : Value) (L : List PRow) (wr : World) : Prop where
  full : FullAt wr tb b L
  rows : Rows5 wr w.heap.size u L
  sep : SepAt tb b L
  row : ∀ g, u.ownBlock = some g → g ≠ tb ∧ g ≠ b ∧ ∀ r ∈ L, g ≠ r.p ∧ g ∉ r.F
  low : w.heap.size ≤ tb ∧ w.heap.size ≤ b ∧ ∀ r ∈ L, w.heap.size ≤ r.p
  bel : Below w.heap.size w wr
theorem Here.below {w : World} {tb b : Nat} {u : Value} {L : List PRow} {wr wr' : World} (h : Here w tb b u L wr) (hb : Below wr.heap.size wr wr') : Here w tb b u L wr' :=
  ⟨h.full.below hb, row_below h.rows hb, h.sep, h.row, h.low, h.bel.trans (hb.mono h.bel.size)⟩
theorem addE_same {L : List PRow} {q qq : PRow} (hx : q.x = qq.x) (hy : q.y = qq.y) : addE L q = addE L qq := by
  have hI : InR q ↔ InR qq := by unfold InR; rw [hx, hy]
  unfold addE
  rw [hx, hy]
  by_cases h : InR qq
  · rw [if_neg (c := ¬ InR q) (fun hn => hn (hI.2 h)), if_neg (c := ¬ InR qq) (fun hn => hn h)]
  · rw [if_pos (c := ¬ InR q) (fun hn => h (hI.1 hn)), if_pos (c := ¬ InR qq) h]
theorem below_keeps' {B b : Nat} {w0 w w' : World} (h : Below B w0 w) (hk : Keeps [b] w w') (hb : B ≤ b) (hB : B ≤ w.heap.size) : Below B w0 w' :=
  ⟨hk.os.trans h.os, hk.tape.trans h.tape, hk.output.trans h.output, Nat.le_trans h.size hk.size, fun k hlt => (hk.block k (by omega) (by simp; omega)).trans (h.block k hlt)⟩
theorem here_add {w : World} {tb b : Nat} {u u' : Value} {L : List PRow} {wr V2 w3 w4 w5 : World} {q qq : PRow} (hh : Here w tb b u L wr) (h2 : Below wr.heap.size wr V2) (hr3 : Rows5 w3 w.heap.size u' (addL L qq)) (hu3 : u' = u ∨ ∀ g, u'.ownBlock = some g → V2.heap.size ≤ g)
    (hb3 : Below V2.heap.size V2 w3) (hb4 : Below w3.heap.size w3 w4) (hp4 : PathAt w4 q) (hc4 : CtlAt w4 q.ctl q.se q.F) (hpl : w3.heap.size ≤ q.p) (hF4 : ∀ k ∈ q.F, w3.heap.size ≤ k ∧ k ≠ q.p) (hk5 : Keeps [b] w4 w5) (hT5 : TabAt w5 tb b (addL L q)) (hq : rowV q = rowV qq) :
    Here w tb b u' (addL L q) w5 := by
  have hqq : q.x = qq.x ∧ q.y = qq.y := by
    unfold rowV at hq
    simp only [List.cons.injEq, Value.int.injEq, true_and] at hq
    exact ⟨hq.1, hq.2.1⟩
  have hE := addE_same (L := L) hqq.1 hqq.2
  have hh2 := hh.below h2
  have hh3 := hh2.below hb3
  have hh4 := hh3.below hb4
  have hbw : b < wr.heap.size := hh.full.tab.ltb
  have htw : tb < wr.heap.size := lt_of_cell hh.full.tab.tab
  have s2 := h2.size
  have s3 := hb3.size
  have s4 := hb4.size
  have hbl : Below w.heap.size w w5 := below_keeps' hh4.bel hk5 hh.low.2.1 hh4.bel.size
  have hck : ∀ r : PRow, CtlAt w4 r.ctl r.se r.F → b ∉ r.F → CtlAt w5 r.ctl r.se r.F := fun r hc hn => hc.kept fun k hk => hk5.block k (hc.lt k hk) (by simp; exact fun e => hn (e ▸ hk))
  have hub : ∀ g, u'.ownBlock = some g → g ≠ b ∧ g ≠ tb ∧ g < w3.heap.size ∧ ∀ r ∈ L, g ≠ r.p ∧ g ∉ r.F := by
    intro g hg
    have hlt := (World.ownsRow.lt hr3 g hg).2
    rcases hu3 with rfl | hn
    · obtain ⟨a1, a2, a3⟩ := hh.row g hg
      exact ⟨a2, a1, hlt, a3⟩
    · have hge := hn g hg
      refine ⟨by omega, by omega, hlt, fun r hr => ⟨?_, fun hk => ?_⟩⟩
      · have := (hh.full.tab.path r hr).lt; omega
      · have := (hh.full.ctl r hr).lt g hk; omega
  have hbF : b ∉ q.F := fun hk => by have := (hF4 b hk).1; omega
  have hrw : ∀ (L' : List PRow), Rows5 w3 w.heap.size u' L' → Rows5 w5 w.heap.size u' L' := by
    intro L' h3
    have h4 : w4.ownsRow w.heap.size 53 5 u' L'.length (rowsV L') := row_below h3 hb4
    refine World.ownsRow.kept (row := some b) h4 ⟨hk5.os, hk5.tape, hk5.output, hk5.size, fun k hk hn => hk5.block k hk (by simp; exact fun e => hn (by rw [e]))⟩ ?_
    cases hb : u'.ownBlock with
    | none => exact .inl rfl
    | some g => exact .inr fun e => (hub g hb).1 (by injection e)
  by_cases h0 : addE L q = 0
  · have e1 : addL L q = L ++ [q] := by unfold addL; rw [if_pos h0]
    have e2 : addL L qq = L ++ [qq] := by unfold addL; rw [← hE, if_pos h0]
    rw [e1] at hT5 ⊢
    rw [e2] at hr3
    have hr5 := hrw _ hr3
    have hr5' : Rows5 w5 w.heap.size u' (L ++ [q]) := by
      unfold Rows5 at hr5 ⊢
      rw [List.length_append, rowsV_append] at hr5 ⊢
      have : rowsV [q] = rowsV [qq] := by unfold rowsV; simp [hq]
      rw [this]; exact hr5
    refine ⟨⟨hT5, fun r hr => ?_⟩, hr5', ⟨?_, ?_, ?_, ?_⟩, fun g hg => ?_, ⟨hh.low.1, hh.low.2.1, fun r hr => ?_⟩, hbl⟩
    · rcases List.mem_append.1 hr with h | h
      · exact hck r (hh4.full.ctl r h) (hh.sep.bF r h)
      · rw [List.mem_singleton.1 h]; exact hck q hc4 hbF
    · refine List.pairwise_append.2 ⟨hh.sep.pp, List.pairwise_singleton _ _, fun r hr t ht => ?_⟩
      rw [List.mem_singleton.1 ht]
      have := (hh.full.tab.path r hr).lt
      omega
    · intro r hr t ht
      rcases List.mem_append.1 hr with h | h <;> rcases List.mem_append.1 ht with h' | h'
      · exact hh.sep.pF r h t h'
      · rw [List.mem_singleton.1 h']
        intro hk
        have := (hF4 _ hk).1
        have := (hh.full.tab.path r h).lt
        omega
      · rw [List.mem_singleton.1 h]
        intro hk
        have := (hh.full.ctl t h').lt _ hk
        omega
      · rw [List.mem_singleton.1 h, List.mem_singleton.1 h']
        exact fun hk => (hF4 _ hk).2 rfl
    · intro r hr
      rcases List.mem_append.1 hr with h | h
      · exact hh.sep.pt r h
      · rw [List.mem_singleton.1 h]; omega
    · intro r hr
      rcases List.mem_append.1 hr with h | h
      · exact hh.sep.bF r h
      · rw [List.mem_singleton.1 h]; exact hbF
    · obtain ⟨g1, g2, g3, g4⟩ := hub g hg
      refine ⟨g2, g1, fun r hr => ?_⟩
      rcases List.mem_append.1 hr with h | h
      · exact g4 r h
      · rw [List.mem_singleton.1 h]
        exact ⟨by omega, fun hk => by have := (hF4 _ hk).1; omega⟩
    · rcases List.mem_append.1 hr with h | h
      · exact hh.low.2.2 r h
      · rw [List.mem_singleton.1 h]
        have := hh.bel.size
        omega
  · have e1 : addL L q = L := by unfold addL; rw [if_neg h0]
    have e2 : addL L qq = L := by unfold addL; rw [← hE, if_neg h0]
    rw [e1] at hT5 ⊢
    rw [e2] at hr3
    refine ⟨⟨hT5, fun r hr => hck r (hh4.full.ctl r hr) (hh.sep.bF r hr)⟩, hrw _ hr3, hh.sep, fun g hg => ?_, hh.low, hbl⟩
    obtain ⟨g1, g2, g3, g4⟩ := hub g hg
    exact ⟨g2, g1, g4⟩
end Go.Proofs.Ytenngklohffoaaa
