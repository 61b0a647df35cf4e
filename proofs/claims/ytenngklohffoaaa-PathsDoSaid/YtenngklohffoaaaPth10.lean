/- Paths: two lists of equal numbers; lists of choices, cell by cell. No conditions. -/
import Derived.Test.YtenngklohffoaaaPth5
namespace Go.Proofs.Ytenngklohffoaaa
set_option linter.unusedVariables false
set_option linter.unusedSimpArgs false
open Go.RowKit Sym Go.Maps Go.WideMaps Go.Sort Go.Lib Go.Shelf

theorem eights_view {w : World} {base n : Nat} {u : Value} (h : w.ownsRow base 3 1 u n (List.replicate n (.int .i64 8))) : ∃ p cap, u = .slice p n cap ∧ ∀ i, i < n → ∃ g, p = some ⟨g, 0, none⟩ ∧ w.cell? ⟨g, i, none⟩ = some (.int .i64 8) := by
  have h' := h
  rcases h.2 with ⟨rfl, hz⟩ | ⟨g, cap, cur, rfl, hbase, hb, h1, h2, h3, h4⟩
  · exact ⟨none, 0, by rw [hz], fun i hi => by omega⟩
  · refine ⟨some ⟨g, 0, none⟩, cap, rfl, fun i hi => ⟨g, rfl, ?_⟩⟩
    have := h'.cellAt i (by omega)
    rw [this]
    simp [hi]
set_option maxRecDepth 100000 in
set_option maxHeartbeats 2000000 in
theorem ints_at {w : World} {base base' n : Nat} {u v : Value} (hn : n ≤ 6) (hu : w.ownsRow base 3 1 u n (List.replicate n (.int .i64 8))) (hv : w.ownsRow base' 3 1 v n (List.replicate n (.int .i64 8))) :
    Calls Try.prog 30 #[u, v] w fun e w' => e = .returned (.bool true) ∧ ∃ q, w' = w.drewN q := by
  obtain ⟨pu, cu, rfl, hcu⟩ := eights_view hu
  obtain ⟨pv, cv, rfl, hcv⟩ := eights_view hv
  go_enter Try.func30, Try.ntmps30
  go_wp2
  go_loopw [5] (fun u5 wr => ∃ i : Nat, u5 = .int .i64 i ∧ i ≤ n ∧ ∃ q, wr = w.drewN q)
    (fun u5 _ => n - idxV u5)
  case atStart => exact ⟨0, rfl, Nat.zero_le _, 0, rfl⟩
  case round =>
    obtain ⟨i, rfl, hile, q, rfl⟩ := hrel
    by_cases hli : i < n
    · obtain ⟨gu, rfl, c0⟩ := hcu i hli
      obtain ⟨gv, rfl, d0⟩ := hcv i hli
      clear hcu hcv
      go_wp2
      go_quiet (fail)
      go_wp2
      go_roundw
      case rel => exact ⟨i + 1, rfl, hli, q + nq, rfl⟩
      case measure => simp [idxV]; omega
    · go_wp2
      go_ret
      exact ⟨rfl, q, rfl⟩
theorem choL_len : ∀ M : List PRow, (M.flatMap choV).length = M.length * 4
  | [] => rfl
  | r :: M => by
    rw [List.flatMap_cons, List.length_append, choL_len M, List.length_cons]
    show 4 + _ = _
    omega
theorem choL_get : ∀ (M : List PRow) (i : Nat) (hi : i < M.length) (j : Nat) (_ : j < 4), (M.flatMap choV)[i * 4 + j]? = (choV M[i])[j]?
  | [], i, hi, _, _ => by simp at hi
  | r :: M, 0, _, j, hj => by
    rw [List.flatMap_cons, List.getElem?_append_left (by show 0 * 4 + j < 4; omega)]
    simp
  | r :: M, i + 1, hi, j, hj => by
    rw [List.flatMap_cons, List.getElem?_append_right (by show 4 ≤ (i + 1) * 4 + j; omega)]
    have e : (i + 1) * 4 + j - (choV r).length = i * 4 + j := by show (i + 1) * 4 + j - 4 = _; omega
    rw [e, choL_get M i (by simpa using hi) j hj]
    simp
theorem cho_view {w : World} {base : Nat} {u : Value} {rs : List PRow} (h : w.ownsRow base 61 4 u (choN rs) (choL rs)) : ∃ p cap, u = .slice p (choN rs) cap ∧ ∀ i (hi : i < (rs.filter isC).length), ∃ g, p = some ⟨g, 0, none⟩ ∧
    w.cell? ⟨g, i * 4, none⟩ = some (.int .i64 (idP (rs.filter isC)[i])) ∧ w.cell? ⟨g, i * 4 + 1, none⟩ = some (.int .i64 (rs.filter isC)[i].pr) ∧ w.cell? ⟨g, i * 4 + 2, none⟩ = some (.int .i64 8) ∧ w.cell? ⟨g, i * 4 + 3, none⟩ = some (.bool (decide (((rs.filter isC)[i].se : Int) < 3))) := by
  have h' := h
  rcases h.2 with ⟨rfl, hz⟩ | ⟨g, cap, cur, rfl, hbase, hb, h1, h2, h3, h4⟩
  · exact ⟨none, 0, by rw [hz], fun i hi => by unfold choN at hz; omega⟩
  · refine ⟨some ⟨g, 0, none⟩, cap, rfl, fun i hi => ⟨g, rfl, ?_⟩⟩
    have hc : ∀ j v, j < 4 → (choV (rs.filter isC)[i])[j]? = some v → w.cell? ⟨g, i * 4 + j, none⟩ = some v := fun j v hj hv => by
      have := h'.cellAt (i * 4 + j) (by unfold choN; omega)
      rw [this]
      unfold choL
      rw [choL_get (rs.filter isC) i hi j hj, hv]
    exact ⟨hc 0 _ (by omega) rfl, hc 1 _ (by omega) rfl, hc 2 _ (by omega) rfl, hc 3 _ (by omega) rfl⟩
theorem row_types {w : World} {b1 b2 : Nat} {e1 e2 : TypeId} {s1 s2 n1 n2 : Nat} {u1 u2 : Value} {x1 x2 : List Value} (h1 : w.ownsRow b1 e1 s1 u1 n1 x1) (h2 : w.ownsRow b2 e2 s2 u2 n2 x2) (hne : e1 ≠ e2) : u1.ownBlock = none ∨ u1.ownBlock ≠ u2.ownBlock := by
  rcases h1.2 with ⟨rfl, _⟩ | ⟨g1, c1, k1, rfl, _, hb1, _⟩
  · exact .inl rfl
  · rcases h2.2 with ⟨rfl, _⟩ | ⟨g2, c2, k2, rfl, _, hb2, _⟩
    · exact .inr (by simp [Value.ownBlock])
    · right
      intro e
      simp only [Value.ownBlock, Option.some.injEq] at e
      subst e
      rw [hb1] at hb2
      simp only [Option.some.injEq, Obj.cells.injEq] at hb2
      exact hne hb2.2.1
end Go.Proofs.Ytenngklohffoaaa
