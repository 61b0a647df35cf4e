/- A line is read: the program's Parse. No conditions. -/
import Derived.Test.YtdhdkfnmbdejbaaDoorSgK
namespace Go.Proofs.YtdhdkfnmbdejbaaDoor
set_option linter.unusedVariables false
set_option linter.unusedSimpArgs false
open Go.RowKit

theorem fstate_mem (L : List UInt8) : (∀ x ∈ (fstate L).1, x.length ≤ L.length) ∧ (fstate L).2.length ≤ L.length := by
  suffices h : ∀ (m : List UInt8) (q : List (List UInt8) × List UInt8) (k : Nat), (∀ x ∈ q.1, x.length ≤ k) → q.2.length ≤ k → (∀ x ∈ (m.foldl fstep q).1, x.length ≤ k + m.length) ∧ (m.foldl fstep q).2.length ≤ k + m.length by
    have := h L ([], []) 0 (fun x hx => by cases hx) (Nat.le_refl _)
    rw [Nat.zero_add] at this
    exact this
  intro m
  induction m with
  | nil => intro q k h1 h2; exact ⟨h1, h2⟩
  | cons c m ih =>
    intro q k h1 h2
    rw [List.foldl_cons, List.length_cons, show k + (m.length + 1) = (k + 1) + m.length by omega]
    refine ih (fstep q c) (k + 1) ?_ ?_
    · intro x hx
      unfold fstep at hx
      split at hx
      · split at hx
        · have := h1 x hx; omega
        · rcases List.mem_append.1 hx with h | h
          · have := h1 x h; omega
          · obtain rfl := List.mem_singleton.1 h; omega
      · have := h1 x hx; omega
    · unfold fstep
      split
      · split
        · omega
        · simp
      · simp only [List.length_append, List.length_cons, List.length_nil]; omega
theorem fields_mem (L : List UInt8) : ∀ x ∈ fieldsL L, x.length ≤ L.length := by
  obtain ⟨h1, h2⟩ := fstate_mem L
  intro x hx
  unfold fieldsL at hx
  split at hx
  · exact h1 x hx
  · rcases List.mem_append.1 hx with h | h
    · exact h1 x h
    · obtain rfl := List.mem_singleton.1 h; exact h2
theorem fields_len (L : List UInt8) : (fieldsL L).length ≤ L.length := by
  have := fstate_len L
  unfold fieldsL
  split
  · omega
  · rename_i h
    have : 0 < (fstate L).2.length := List.length_pos_iff.2 h
    simp only [List.length_append, List.length_cons, List.length_nil]; omega
/-- a row's words, read -/
theorem row_txt {w : World} {base g cap : Nat} {xs : List (List UInt8)} (h : w.ownsRow base 9 1 (.slice (some ⟨g, 0, none⟩) xs.length cap) xs.length (wv xs)) (hx : 0 < xs.length) :
    (∀ (i : Nat) (hi : i < xs.length), w.cell? ⟨g, i, none⟩ = some (.string (tx xs[i]))) ∧ xs.length ≤ cap ∧ cap ≤ maxLen ∧ base ≤ g ∧ g < w.heap.size := by
  rcases h.2 with ⟨hn, -⟩ | ⟨g', cap', cur, hv, hbase, hg, q1, q2, q3, q4⟩
  · cases hn
  · injection hv with e1 e2 e3
    injection e1 with e1
    injection e1 with e1
    subst e1
    subst e3
    refine ⟨fun i hi => ?_, q1, q2, hbase, lt_of_heap hg⟩
    have := row_cells hg q1 q3 q4 i (.string (tx xs[i])) (by unfold wv; rw [List.getElem?_map, List.getElem?_eq_getElem hi]; rfl)
    have e : ((⟨g, 0, none⟩ : Addr).add i) = ⟨g, i, none⟩ := by
      simp [Addr.add]
      intro h; exact h.symm
    rw [e] at this
    exact this
theorem tail_txt {w : World} {g cap : Nat} {c : List UInt8} {xs : List (List UInt8)} (h : ∀ (i : Nat) (hi : i < (c :: xs).length), w.cell? ⟨g, i, none⟩ = some (.string (tx (c :: xs)[i]))) (h1 : (c :: xs).length ≤ cap) (h2 : cap ≤ maxLen) :
    TxtAt w (.slice (some ⟨g, 1, none⟩) (xs.map tx).length (cap - 1)) (xs.map tx) := by
  refine ⟨_, _, rfl, by rw [List.length_map]; simp only [List.length_cons] at h1; omega, by omega, fun i hi => ⟨_, rfl, ?_, rfl⟩⟩
  rw [List.length_map] at hi
  have := h (i + 1) (by simp only [List.length_cons]; omega)
  rw [show (1 + i) = i + 1 by omega, List.getElem_map]
  exact this
/-- what cut tells -/
def CutPost (w : World) (line : ByteArray) (e : Ending) (w' : World) : Prop :=
  (1600 < line.size ∧ e = .returned (.tuple #[.slice none 0 0, .int .i64 11])) ∨
  (line.size ≤ 1600 ∧ fieldsL line.data.toList = [] ∧ e = .returned (.tuple #[.slice none 0 0, .int .i64 8])) ∨
  (line.size ≤ 1600 ∧ ∃ c xs g cap, fieldsL line.data.toList = c :: xs ∧ e = .returned (.tuple #[.slice (some ⟨g, 0, none⟩) (c :: xs).length cap, .int .i64 0]) ∧ (∀ (i : Nat) (hi : i < (c :: xs).length), w'.cell? ⟨g, i, none⟩ = some (.string (tx (c :: xs)[i]))) ∧ (c :: xs).length ≤ cap ∧ cap ≤ maxLen ∧ w.heap.size ≤ g ∧ g < w'.heap.size)
theorem row_view {w : World} {base : Nat} {e : TypeId} {u : Value} {n : Nat} {xs : List Value} (h : w.ownsRow base e 1 u n xs) (hn : 0 < n) : ∃ g cap, u = .slice (some ⟨g, 0, none⟩) n cap := by
  rcases h.2 with ⟨-, h0⟩ | ⟨g, cap, cur, rfl, -⟩
  · omega
  · exact ⟨g, cap, rfl⟩
set_option maxRecDepth 100000 in
set_option maxHeartbeats 4000000 in
theorem cut_line (line : ByteArray) (w : World) : Calls Tryd.prog 19 #[.string line] w fun e w' => CutPost w line e w' ∧ Below w.heap.size w w' := by
  by_cases h1 : 1600 < line.size
  · have i1 : (1600 : Int) < (line.size : Int) := by omega
    go_enter Tryd.func19, Tryd.ntmps19
    go_wp2
    go_ret2
    exact ⟨.inl ⟨h1, rfl⟩, Below.refl _ _⟩
  · have i1 : (line.size : Int) ≤ 1600 := by omega
    have hf := fields_any line (by omega) w
    by_cases h0 : fieldsL line.data.toList = []
    · rw [h0] at hf
      go_enter Tryd.func19, Tryd.ntmps19
      go_wp2_with (go_at_call 37; (with_reducible refine hf.mono ?_); rintro e w1 ⟨u, rfl, hrow, hb⟩; obtain ⟨pu, cu, rfl⟩ := row_slice hrow)
      go_ret2
      exact ⟨.inr (.inl ⟨by omega, h0, rfl⟩), hb⟩
    · obtain ⟨c, xs, hcx⟩ : ∃ c xs, fieldsL line.data.toList = c :: xs := by
        cases hq : fieldsL line.data.toList with
        | nil => exact absurd hq h0
        | cons c xs => exact ⟨c, xs, rfl⟩
      rw [hcx] at hf
      have hlen : (0 : Int) < ((c :: xs).length : Int) := by simp only [List.length_cons]; omega
      have hne : (((c :: xs).length : Int) == 0) = false := by rw [beq_eq_false_iff_ne]; omega
      clear h0
      obtain ⟨N, hN⟩ : ∃ N, (c :: xs).length = N := ⟨_, rfl⟩
      rw [hN] at hf hne hlen
      go_enter Tryd.func19, Tryd.ntmps19
      go_wp2_with (go_at_call 37; (with_reducible refine hf.mono ?_); rintro e w1 ⟨u, rfl, hrow, hb⟩; obtain ⟨g, cap, rfl⟩ := row_view hrow (by omega))
      go_ret2
      have hr2 := hrow
      rw [← hN] at hr2
      obtain ⟨k1, k2, k3, k4, k5⟩ := row_txt hr2 (by simp)
      exact ⟨.inr (.inr ⟨by omega, c, xs, g, cap, hcx, by rw [hN]; rfl, k1, k2, k3, k4, k5⟩), hb⟩
end Go.Proofs.YtdhdkfnmbdejbaaDoor
