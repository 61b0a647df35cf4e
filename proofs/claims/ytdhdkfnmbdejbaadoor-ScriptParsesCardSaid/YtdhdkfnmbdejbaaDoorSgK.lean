/- All words of an act are read. No conditions. -/
import Derived.Test.YtdhdkfnmbdejbaaDoorSgJ
namespace Go.Proofs.YtdhdkfnmbdejbaaDoor
set_option linter.unusedVariables false
set_option linter.unusedSimpArgs false
open Go.RowKit

theorem TxtAt.below {w w' : World} {v : Value} {ls : List ByteArray} (h : TxtAt w v ls) (hb : Below w.heap.size w w') : TxtAt w' v ls := by
  obtain ⟨p, cap, rfl, h1, h2, hc⟩ := h
  refine ⟨p, cap, rfl, h1, h2, fun i hi => ?_⟩
  obtain ⟨a, rfl, hc, hs⟩ := hc i hi
  exact ⟨a, rfl, (hb.cell (p := ⟨a.block, a.off + i, a.spot⟩) (lt_of_cell' hc)).trans hc, hs⟩
theorem grown_below {B b : Nat} {w w1 w2 : World} (h : Below B w w1) (hg : w1.grownBy w2 (some b)) (hB : B ≤ w1.heap.size) (hb : B ≤ b) : Below B w w2 :=
  h.grown hg hB (fun j hj => by cases hj; exact hb)
theorem own_grown {w w' : World} {b B : Nat} {cs : Array Value} (h : Own w B cs) (hg : w.grownBy w' (some b)) (hne : B ≠ b) : Own w' B cs := by
  have hk := hg.block B h.1 (by intro e; cases e; exact hne rfl)
  exact ⟨Nat.lt_of_lt_of_le h.1 hg.size, fun j => by rw [World.cell?_of_block (w := w) (a := ⟨B, j, none⟩) hk]; exact h.2.1 j, fun j => by rw [World.frozen?_of_block (w := w) (a := ⟨B, j, none⟩) hk]; exact h.2.2 j⟩
theorem list_take_succ {α : Type} {l : List α} {i : Nat} (h : i < l.length) : l.take (i + 1) = l.take i ++ [l[i]] := List.take_succ_eq_append_getElem h
theorem tx_get (l : List UInt8) (i : Nat) (h : i < l.length) : (tx l)[i]'(by rw [tx_size]; exact h) = l[i] := by
  show (tx l).data[i]'_ = l[i]
  unfold tx
  simp
theorem idx_tx (l : List UInt8) (i : Nat) (h : i < l.length) (W : World) : (Instr.index 9 (.string (tx l)) (.int .i64 (i : Int))).run Tryd.prog W = .ok (.int .u8 (l[i].toNat : Int)) W := by
  rw [idx_at (tx l) i (by rw [tx_size]; exact h) (i : Int) rfl W, tx_get l i h]
theorem readAll_step {fs : List UInt8} {ls : List ByteArray} {a0 a : ActP} {i : Nat} (h1 : i < fs.length) (h2 : i < ls.length) (h : readAll (fs.take i) (ls.take i) a0 = some a) : readAll (fs.take (i + 1)) (ls.take (i + 1)) a0 = stepA fs[i] ls[i] a := by
  rw [list_take_succ h1, list_take_succ h2, readAll_append _ _ _ _ _ (by rw [List.length_take, List.length_take]; omega), h]
  show (stepA fs[i] ls[i] a).bind _ = _
  cases stepA fs[i] ls[i] a <;> rfl
theorem readAll_fail {fs : List UInt8} {ls : List ByteArray} {a0 a : ActP} {i : Nat} (h1 : i < fs.length) (h2 : i < ls.length) (h : readAll (fs.take i) (ls.take i) a0 = some a) (hn : stepA fs[i] ls[i] a = none) : readAll fs ls a0 = none := by
  have e1 : fs = fs.take (i + 1) ++ fs.drop (i + 1) := (List.take_append_drop ..).symm
  have e2 : ls = ls.take (i + 1) ++ ls.drop (i + 1) := (List.take_append_drop ..).symm
  rw [e1, e2, readAll_append _ _ _ _ _ (by rw [List.length_take, List.length_take]; omega), readAll_step h1 h2 h, hn]
  rfl
theorem own_six {W : World} {B : Nat} {a : ActP} (h : Own W B a.cs) (k s x y z : Int) (d : ByteArray) : Own ((((((W.setCell ⟨B, 0, none⟩ (.int .i64 k)).setCell ⟨B, 1, none⟩ (.int .i64 s)).setCell ⟨B, 2, none⟩ (.int .i64 x)).setCell ⟨B, 3, none⟩ (.int .i64 y)).setCell ⟨B, 4, none⟩ (.int .i64 z)).setCell ⟨B, 5, none⟩ (.string d)) B (ActP.mk k s x y z d).cs := by
  have h1 := own_setT (i := 5) (v := .string d) (own_setT (i := 4) (v := .int .i64 z) (own_setT (i := 3) (v := .int .i64 y) (own_setT (i := 2) (v := .int .i64 x) (own_setT (i := 1) (v := .int .i64 s) (own_setT (i := 0) (v := .int .i64 k) h)))))
  exact own_conv h1 rfl
theorem below_six {A W : World} {X B : Nat} (h : Below X A W) (hB : X ≤ B) (k s x y z d : Value) : Below X A ((((((W.setCell ⟨B, 0, none⟩ k).setCell ⟨B, 1, none⟩ s).setCell ⟨B, 2, none⟩ x).setCell ⟨B, 3, none⟩ y).setCell ⟨B, 4, none⟩ z).setCell ⟨B, 5, none⟩ d) :=
  (((((h.setCell hB _).setCell hB _).setCell hB _).setCell hB _).setCell hB _).setCell hB _
/-- an act and an error -/
def ActR (p : ActP × Int) (e : Ending) : Prop := e = .returned (.tuple #[p.1.v, .int .i64 p.2])
set_option maxRecDepth 100000 in
set_option maxHeartbeats 4000000 in
theorem fill_any {W : World} {kind : Int} {fs : List UInt8} {v : Value} {ls : List ByteArray} (hT : TxtAt W v ls) (hfs : fs.length ≤ 100) (hls : ∀ l ∈ ls, l.size ≤ 1000000) :
    Calls Tryd.prog 22 #[.int .i64 kind, .string (tx fs), v] W fun e w' => ActR (fillP kind fs ls) e ∧ Below W.heap.size W w' := by
  obtain ⟨p, cap, rfl, hcap, hmax, hcell⟩ := hT
  obtain ⟨R, hR⟩ : ∃ R, fillP kind fs ls = R := ⟨_, rfl⟩
  rw [hR]
  have htx : ((tx fs).size : Int) = (fs.length : Int) := rfl
  by_cases h1 : ls.length < fs.length
  · have hRv : R = (ActP.zero, 1) := by rw [← hR]; unfold fillP; rw [if_pos h1]
    have i1 : (ls.length : Int) < (fs.length : Int) := by omega
    go_enter Tryd.func22, Tryd.ntmps22
    go_wp2
    ((try simp only [Exit.inBlock, Exit.then]); refine bodyPost_ret (by simp [results, Tryd.results22, go_sem, ActP.zero]; try rfl) rfl ?_)
    try rw [hRv]
    exact ⟨rfl, below_alloc (Below.refl _ _) _⟩
  · by_cases h2 : fs.length < ls.length
    · have hRv : R = (ActP.zero, 2) := by rw [← hR]; unfold fillP; rw [if_neg h1, if_pos h2]
      have i1 : ¬ (ls.length : Int) < (fs.length : Int) := by omega
      have i2 : (fs.length : Int) < (ls.length : Int) := by omega
      go_enter Tryd.func22, Tryd.ntmps22
      go_wp2
      ((try simp only [Exit.inBlock, Exit.then]); refine bodyPost_ret (by simp [results, Tryd.results22, go_sem, ActP.zero]; try rfl) rfl ?_)
      try rw [hRv]
      exact ⟨rfl, below_alloc (Below.refl _ _) _⟩
    · have i1 : ¬ (ls.length : Int) < (fs.length : Int) := by omega
      have i2 : ¬ (fs.length : Int) < (ls.length : Int) := by omega
      have heq : ls.length = fs.length := by omega
      have hRv : R = fillE (readAll fs ls (ActP.of kind)) := by rw [← hR]; unfold fillP; rw [if_neg h1, if_neg h2]
      clear hR h1 h2
      go_enter Tryd.func22, Tryd.ntmps22
      go_wp2
      go_loopg [29] ls.length (fun gf u29 wx => ∃ (i : Nat) (a : ActP), u29 = .int .i64 i ∧ i ≤ ls.length ∧ ls.length ≤ i + gf ∧ readAll (fs.take i) (ls.take i) (ActP.of kind) = some a ∧ ActAt wx (W.heap.size + 1) a ∧ Own wx W.heap.size ActP.zero.cs ∧ Below W.heap.size W wx)
      case atStart =>
        refine ⟨0, ActP.of kind, rfl, by omega, by omega, rfl, ?_, ?_, below_alloc (below_alloc (Below.refl _ _) _) _⟩
        · exact own_new' _ _ _ (by simp)
        · exact own_alloc (own_new _ _ _) _
      case round =>
        obtain ⟨i, a, rfl, hi, hfu, hrd, hact, hown, hb⟩ := hrel
        by_cases hlt : i < ls.length
        · obtain ⟨g', rfl⟩ : ∃ g', gk = g' + 1 := ⟨gk - 1, by omega⟩
          have hltf : i < fs.length := by omega
          obtain ⟨ad, rfl, hc, hsp⟩ := hcell i hlt
          obtain ⟨ab, ao, sp⟩ := ad
          obtain rfl : sp = none := hsp
          have hc1 : wr.cell? ⟨ab, ao + i, none⟩ = some (.string ls[i]) := (hb.cell (p := ⟨ab, ao + i, none⟩) (lt_of_cell' hc)).trans hc
          have hsz : ls[i].size ≤ 1000000 := hls _ (List.getElem_mem hlt)
          have hix := fun X => idx_tx fs i hltf X
          have hst := readAll_step hltf hlt hrd
          have hfl := readAll_fail hltf hlt hrd
          generalize ls[i] = l at *
          generalize fs[i] = c at *
          have hrd2 := read_any hact c l hsz
          cases hs : stepA c l a with
          | none =>
            rw [hs] at hrd2
            have hRv2 : R = (ActP.zero, 4) := by rw [hRv, hfl hs]; rfl
            clear hcell hst hfl hRv hrd
            go_wp2_with (go_at_call 38; (with_reducible refine hrd2.mono ?_); rintro e w1 ⟨a', rfl, hact', -, hg⟩; have hb1 := grown_below hb hg hb.size (Nat.le_succ _); have hown1 := own_grown hown hg (by omega); obtain ⟨q0, q1, q2, q3, q4, q5, qf⟩ := ActAt.at hown1)
            have h6 := own_six hown1 0 0 0 0 0 ⟨#[]⟩
            have hb6 := below_six hb1 (Nat.le_refl W.heap.size) (.int .i64 0) (.int .i64 0) (.int .i64 0) (.int .i64 0) (.int .i64 0) (.string ⟨#[]⟩)
            clear q0 q1 q2 q3 q4 q5 qf
            obtain ⟨q0, q1, q2, q3, q4, q5, qf⟩ := ActAt.at h6
            dsimp only at q0 q1 q2 q3 q4 q5
            generalize ((((((w1.setCell ⟨W.heap.size, 0, none⟩ (.int .i64 0)).setCell ⟨W.heap.size, 1, none⟩ (.int .i64 0)).setCell ⟨W.heap.size, 2, none⟩ (.int .i64 0)).setCell ⟨W.heap.size, 3, none⟩ (.int .i64 0)).setCell ⟨W.heap.size, 4, none⟩ (.int .i64 0)).setCell ⟨W.heap.size, 5, none⟩ (.string ⟨#[]⟩)) = w2 at *
            ((try simp only [Exit.inBlock, Exit.then]); refine bodyPost_ret (by simp [results, Tryd.results22, go_sem, q0, q1, q2, q3, q4, q5]; try rfl) rfl ?_)
            rw [hRv2]
            exact ⟨rfl, hb6⟩
          | some a2 =>
            rw [hs] at hrd2 hst
            clear hcell hfl hrd
            go_wp2_with (go_at_call 38; (with_reducible refine hrd2.mono ?_); rintro e w1 ⟨a', rfl, hact', hq, hg⟩; obtain rfl := hq _ rfl; have hb1 := grown_below hb hg hb.size (Nat.le_succ _); have hown1 := own_grown hown hg (by omega))
            go_roundg g'
            case measure => omega
            case rel => exact ⟨i + 1, a', rfl, by omega, by omega, hst, hact', hown1, hb1⟩
        · obtain rfl : i = ls.length := by omega
          have e1 : ls.take ls.length = ls := List.take_length
          have e2 : fs.take ls.length = fs := by rw [heq, List.take_length]
          rw [e1, e2] at hrd
          have hRv2 : R = (a, 0) := by rw [hRv, hrd]; rfl
          obtain ⟨p0, p1, p2, p3, p4, p5, pf⟩ := ActAt.at hact
          obtain ⟨q0, q1, q2, q3, q4, q5, qf⟩ := ActAt.at hown
          clear hcell hRv hrd
          go_wp2
          have h6 := own_six hown a.k a.s a.x a.y a.z a.d
          have hb6 := below_six hb (Nat.le_refl W.heap.size) (.int .i64 a.k) (.int .i64 a.s) (.int .i64 a.x) (.int .i64 a.y) (.int .i64 a.z) (.string a.d)
          clear q0 q1 q2 q3 q4 q5 qf p0 p1 p2 p3 p4 p5 pf
          obtain ⟨q0, q1, q2, q3, q4, q5, qf⟩ := ActAt.at h6
          dsimp only at q0 q1 q2 q3 q4 q5
          generalize ((((((wr.setCell ⟨W.heap.size, 0, none⟩ (.int .i64 a.k)).setCell ⟨W.heap.size, 1, none⟩ (.int .i64 a.s)).setCell ⟨W.heap.size, 2, none⟩ (.int .i64 a.x)).setCell ⟨W.heap.size, 3, none⟩ (.int .i64 a.y)).setCell ⟨W.heap.size, 4, none⟩ (.int .i64 a.z)).setCell ⟨W.heap.size, 5, none⟩ (.string a.d)) = w2 at *
          ((try simp only [Exit.inBlock, Exit.then]); refine bodyPost_ret (by simp [results, Tryd.results22, go_sem, q0, q1, q2, q3, q4, q5]; try rfl) rfl ?_)
          rw [hRv2]
          exact ⟨rfl, hb6⟩
end Go.Proofs.YtdhdkfnmbdejbaaDoor
