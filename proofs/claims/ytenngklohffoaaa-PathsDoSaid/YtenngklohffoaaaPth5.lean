/- Paths: rows by rising numbers, where the world is told. No conditions. -/
import Derived.Test.YtenngklohffoaaaPth4
namespace Go.Proofs.Ytenngklohffoaaa
set_option linter.unusedVariables false
set_option linter.unusedSimpArgs false
open Go.RowKit Sym Go.Maps Go.WideMaps Go.Sort Go.Lib Go.Shelf

set_option maxRecDepth 100000 in
set_option maxHeartbeats 8000000 in
theorem rising_any {w : World} {base : Nat} {u : Value} {L : List PRow} (hap : Apart L) (h6 : L.length ≤ 6) (h : Rows5 w base u L) :
    Calls Try.prog 29 #[u] w fun e w' => ∃ u', e = .returned u' ∧ Rows5 w' w.heap.size u' (risTo 256 L) ∧ Below w.heap.size w w' := by
  obtain ⟨i0, hi, hz0, hz1, hz2⟩ := info_parts row_infoP
  obtain ⟨pu, capu, rfl, hcell⟩ := rows_view h
  clear h
  go_enter Try.func29, Try.ntmps29
  go_wp2
  go_loopw [3, 4, 5] (fun u3 u4 _ wr => ∃ k : Nat, u4 = .int .i64 k ∧ k ≤ 256 ∧ Rows5 wr w.heap.size u3 (risTo k L) ∧ Below w.heap.size w wr)
    (fun _ u4 _ _ => 256 - idxV u4)
  case atStart =>
    exact ⟨0, rfl, Nat.zero_le _, ⟨rfl, .inl ⟨rfl, rfl⟩⟩, Below.refl _ _⟩
  case round =>
    obtain ⟨k, rfl, hk, hrow, hb⟩ := hrel
    have hlen0 := risTo_len k L
    have hl1 : k * L.length ≤ 256 * 6 := Nat.mul_le_mul hk h6
    by_cases hlt : k < 256
    · go_wp2
      have hlt' : k + 1 ≤ 256 := hlt
      rename (k : Int) < 256 => hkk
      clear hkk hlt
      go_loopw [3, 5] (fun v3 v5 wi => ∃ i : Nat, v5 = .int .i64 i ∧ i ≤ L.length ∧ Rows5 wi w.heap.size v3 (risTo k L ++ (L.take i).filter fun r => decide (idP r = k)) ∧ Below w.heap.size w wi)
        (fun _ v5 _ => L.length - idxV v5)
      case atStart =>
        refine ⟨0, rfl, Nat.zero_le _, ?_, hb⟩
        simpa using hrow
      case round =>
        obtain ⟨i, rfl, hile, hrowi, hbi⟩ := hrel
        by_cases hli : i < L.length
        · obtain ⟨g, rfl, hg, hgs, c0, c1, c2, c3, c4⟩ := hcell i hli
          have hft := filter_take hli k
          have hin := hap.1 _ (List.getElem_mem hli)
          have hfl := List.length_filter_le (fun r => decide (idP r = k)) (L.take i)
          have htl := List.length_take_le i L
          generalize L[i] = r at *
          unfold InR at hin
          have d0 := (hbi.cell (p := ⟨g, i * 5, none⟩) hgs).trans c0
          have d1 := (hbi.cell (p := ⟨g, i * 5 + 1, none⟩) hgs).trans c1
          have d2 := (hbi.cell (p := ⟨g, i * 5 + 2, none⟩) hgs).trans c2
          have d3 := (hbi.cell (p := ⟨g, i * 5 + 3, none⟩) hgs).trans c3
          have d4 := (hbi.cell (p := ⟨g, i * 5 + 4, none⟩) hgs).trans c4
          have w1 : IntKind.i64.wrap (r.x * 16) = r.x * 16 := w64 _ (by omega) (by omega)
          have w2 : IntKind.i64.wrap (r.x * 16 + r.y) = r.x * 16 + r.y := w64 _ (by omega) (by omega)
          clear hcell c0 c1 c2 c3 c4
          by_cases hid : idP r = k
          · have hid' : r.x * 16 + r.y = k := by unfold idP at hid; omega
            go_wp2
            go_quiet (fail)
            rw [if_pos hid] at hft
            have hbq : Below w.heap.size w (wr.drewN nq) := below_drewN hbi nq
            have hrowq : Rows5 (wr.drewN nq) w.heap.size _ (risTo k L ++ (L.take i).filter fun r => decide (idP r = k)) := hrowi
            have f0 : (wr.drewN nq).cell? ⟨g, i * 5, none⟩ = some (.int .i64 r.x) := d0
            have f1 : (wr.drewN nq).cell? ⟨g, i * 5 + 1, none⟩ = some (.int .i64 r.y) := d1
            have f2 : (wr.drewN nq).cell? ⟨g, i * 5 + 2, none⟩ = some (.int .i64 r.st) := d2
            have f3 : (wr.drewN nq).cell? ⟨g, i * 5 + 3, none⟩ = some (.int .i64 r.pr) := d3
            have f4 : (wr.drewN nq).cell? ⟨g, i * 5 + 4, none⟩ = some (.int .i64 r.se) := d4
            clear d0 d1 d2 d3 d4 hrowi hbi
            generalize wr.drewN nq = wq at *
            have hrowq' : wq.ownsRow w.heap.size 53 5 _ (risTo k L ++ (L.take i).filter fun r => decide (idP r = k)).length (rowsV (risTo k L ++ (L.take i).filter fun r => decide (idP r = k))) := hrowq
            have hll : (risTo k L ++ (L.take i).filter fun r => decide (idP r = k)).length ≤ 1600 := by rw [List.length_append]; omega
            go_wp2_with (first
              | (at_builtin; go_loud (refine wpList_append_own _ rfl _ _ 48 rfl w.heap.size 53 i0 (.agg #[.int .i64 0, .int .i64 0, .int .i64 0, .int .i64 0, .int .i64 0]) 5 40 Try.underlying48 hi hz0 hz1 hz2 rfl (by decide) _ _ _ rfl (hrowq'.alloc _) ⟨wq.heap.size, 0, none⟩ 1 1 (rowV r) rfl rfl (cells_new wq _ _) (rowV_one r) (by unfold maxLen; omega) (by omega) (by have := hbq.size; simp; omega) ?_); intro v' w3 hown' hg3 hnil3)
              | go_in)
            go_roundw
            case rel =>
              refine ⟨i + 1, rfl, hli, ?_, (hbq.alloc hbq.size _).grown hg3 (by have := hbq.size; simp; omega) (fun j hj => (hrowq'.lt j hj).1)⟩
              rw [hft, ← List.append_assoc]
              unfold Rows5
              rw [rowsV_append, List.length_append]
              exact hown'
            case measure => simp [idxV]; omega
          · have hid' : ¬ r.x * 16 + r.y = k := by unfold idP at hid; omega
            go_wp2
            go_quiet (fail)
            rw [if_neg hid, List.append_nil] at hft
            go_wp2
            go_roundw
            case rel =>
              refine ⟨i + 1, rfl, hli, ?_, below_drewN hbi nq⟩
              rw [hft]
              exact hrowi
            case measure => simp [idxV]; omega
        · have hie : i = L.length := by omega
          subst hie
          rw [List.take_length, ← risTo_succ] at hrowi
          go_wp2
          go_roundw
          case rel => exact ⟨k + 1, rfl, hlt', hrowi, hbi⟩
          case measure => simp [idxV]; omega
    · go_wp2
      go_ret
      obtain rfl : k = 256 := by omega
      exact ⟨_, rfl, hrow, hb⟩
end Go.Proofs.Ytenngklohffoaaa
