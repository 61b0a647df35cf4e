/- Paths: what a law adds to its rows. No conditions. -/
import Derived.Test.YtenngklohffoaaaPth4
import Derived.Test.YtenngklohffoaaaPth6
namespace Go.Proofs.Ytenngklohffoaaa
set_option linter.unusedVariables false
set_option linter.unusedSimpArgs false
open Go.RowKit Sym Go.Maps Go.WideMaps Go.Sort Go.Lib Go.Shelf

theorem in_at (n : Int) (w : World) : Calls Try.prog 27 #[.int .i64 n] w fun e w' => e = .returned (.bool (decide (0 ≤ n ∧ n ≤ 15))) ∧ w = w' := by
  go_enter Try.func27, Try.ntmps27
  go_wp2
  all_goals (go_ret; refine ⟨ret_b ?_, rfl⟩; by_cases h1 : 0 ≤ n <;> by_cases h2 : n ≤ 15 <;> simp_all <;> omega)
theorem row_empty (w : World) (e : TypeId) (sz base : Nat) (hb : base ≤ w.heap.size) : (w.alloc (.cells #[] e)).ownsRow base e sz (.slice (some ⟨w.heap.size, 0, none⟩) 0 0) 0 [] :=
  ⟨by simp, .inr ⟨w.heap.size, 0, #[], rfl, hb, by show (w.heap.push _)[w.heap.size]? = _; simp, Nat.le_refl _, Nat.zero_le _, by simp, by simp⟩⟩
theorem look_some_of {L : List PRow} {q r : PRow} (hr : r ∈ L) (hx : r.x = q.x) (hy : r.y = q.y) : (look L q.x q.y).isSome = true := by
  unfold look
  rw [List.find?_isSome]
  exact ⟨r, hr, by simp [hx, hy]⟩
theorem look_none_of {L : List PRow} {q : PRow} (h : ∀ j (hj : j < L.length), ¬ (L[j].x = q.x ∧ L[j].y = q.y)) : look L q.x q.y = none := by
  unfold look
  rw [List.find?_eq_none]
  intro r hr
  obtain ⟨j, hj, rfl⟩ := List.getElem_of_mem hr
  have h2 := h j hj
  rw [decide_eq_false h2]
  decide
set_option maxRecDepth 100000 in
set_option maxHeartbeats 8000000 in
theorem ladd_out {w : World} {base : Nat} {u : Value} {L : List PRow} (q : PRow) (h6 : L.length ≤ 6) (hbase : base ≤ w.heap.size) (hin : ¬ InR q) (h : Rows5 w base u L) :
    Calls Try.prog 16 #[u, .agg #[.int .i64 q.x, .int .i64 q.y, .int .i64 q.st, .int .i64 q.pr, .int .i64 q.se]] w fun e w' => ∃ u', e = .returned (.tuple #[u', .int .i64 (addE L q)]) ∧ Rows5 w' base u' (addL L q) ∧ (u' = u ∨ ∀ g, u'.ownBlock = some g → w.heap.size ≤ g) ∧ Below w.heap.size w w' := by
  obtain ⟨i0, hi, hz0, hz1, hz2⟩ := info_parts row_infoP
  have h0 := h
  obtain ⟨pu, capu, rfl, hcell⟩ := rows_view h
  have b0 : Below w.heap.size w (w.alloc (Obj.cells #[.int .i64 q.x, .int .i64 q.y, .int .i64 q.st, .int .i64 q.pr, .int .i64 q.se] 53)) := (Below.refl _ _).alloc (Nat.le_refl _) _
  have hW := own_new w #[.int .i64 q.x, .int .i64 q.y, .int .i64 q.st, .int .i64 q.pr, .int .i64 q.se] 53
  have hE : addE L q = 3 := by unfold addE; rw [if_pos hin]
  have hLL : addL L q = L := by unfold addL; rw [hE]; rfl
  clear hcell
  by_cases hx : 0 ≤ q.x ∧ q.x ≤ 15
  · have hbx : decide (0 ≤ q.x ∧ q.x ≤ 15) = true := decide_eq_true hx
    have hby : decide (0 ≤ q.y ∧ q.y ≤ 15) = false := decide_eq_false (fun hy => hin ⟨hx.1, hx.2, hy.1, hy.2⟩)
    have inx := in_at q.x
    have iny := in_at q.y
    rw [hbx] at inx
    rw [hby] at iny
    clear hbx hby hin
    go_enter Try.func16, Try.ntmps16
    go_wp2_with (go_at_call 27; first | (refine (inx _).mono ?_; rintro e w1 ⟨rfl, rfl⟩) | (refine (iny _).mono ?_; rintro e w1 ⟨rfl, rfl⟩))
    ((try simp only [Exit.inBlock, Exit.then]); refine bodyPost_ret (by simp [results, Try.results16, go_sem, hE]; try rfl) rfl ?_)
    rw [hE, hLL]
    exact ⟨_, rfl, row_below' h0 b0, .inl rfl, b0⟩
  · have hbx : decide (0 ≤ q.x ∧ q.x ≤ 15) = false := decide_eq_false hx
    have inx := in_at q.x
    rw [hbx] at inx
    clear hbx hin hx
    go_enter Try.func16, Try.ntmps16
    go_wp2_with (go_at_call 27; refine (inx _).mono ?_; rintro e w1 ⟨rfl, rfl⟩)
    ((try simp only [Exit.inBlock, Exit.then]); refine bodyPost_ret (by simp [results, Try.results16, go_sem, hE]; try rfl) rfl ?_)
    rw [hE, hLL]
    exact ⟨_, rfl, row_below' h0 b0, .inl rfl, b0⟩
end Go.Proofs.Ytenngklohffoaaa
