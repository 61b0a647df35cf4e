/- Paths: a table shown beside its rows. No conditions but what the sort says. -/
import Derived.Test.YtenngklohffoaaaPth10
import Derived.Test.YtenngklohffoaaaPthW
import Derived.Test.YtenngklohffoaaaPth12
import Derived.Deep.RegionHeld3
namespace Go.Proofs.Ytenngklohffoaaa
set_option linter.unusedVariables false
set_option linter.unusedSimpArgs false
open Go.RowKit Sym Go.Maps Go.WideMaps Go.Sort Go.Lib Go.Shelf

theorem find_r {w : World} {tb b : Nat} {L : List PRow} (h : TabAt w tb b L) {r : PRow} (hr : r ∈ L) :
    Calls Try.prog 7 #[.pointer (some ⟨tb, 0, none⟩), .agg #[.int .i64 r.x, .int .i64 r.y]] w fun e w' => e = .returned (.pointer (some ⟨r.p, 0, none⟩)) ∧ Below w.heap.size w w' := by
  obtain ⟨D, hown, hD⟩ := h.map
  have hin := h.ap.1 r hr
  have := find_at (kPl_eq hin.wfx hin.wfy) h.tab hown
  rwa [hD.at h.ap hr] at this
theorem int_post {wa wq w3 : World} {o : Obj} {u6 u7 : Value} {n6 n7 : Nat} {x6 x7 : List Value} (hbw : Below wa.heap.size wa wq) (r6 : wq.ownsRow wa.heap.size 3 1 u6 n6 x6) (r7 : wq.ownsRow wa.heap.size 61 4 u7 n7 x7) (hg3 : (wq.alloc o).grownBy w3 u6.ownBlock) :
    Below wa.heap.size wa w3 ∧ w3.ownsRow wa.heap.size 61 4 u7 n7 x7 := by
  refine ⟨(hbw.alloc hbw.size o).grown hg3 (by have := hbw.size; simp; omega) (fun j hj => (r6.lt j hj).1), ?_⟩
  exact (r7.alloc o).kept hg3 (row_types (r7.alloc o) (r6.alloc o) (by decide))
theorem cho_post {wa w3 w4 : World} {o : Obj} {u7 : Value} {n7 : Nat} {x7 : List Value} (hb3 : Below wa.heap.size wa w3) (r7b : w3.ownsRow wa.heap.size 61 4 u7 n7 x7) (hg4 : ((w3.alloc o).drew).grownBy w4 u7.ownBlock) :
    Below wa.heap.size wa w4 ∧ ∀ (n6 : Nat) (x6 : List Value) (v6 : Value), w3.ownsRow wa.heap.size 3 1 v6 n6 x6 → w4.ownsRow wa.heap.size 3 1 v6 n6 x6 := by
  have hd : Below wa.heap.size wa (w3.alloc o).drew := (hb3.alloc hb3.size o).drew
  refine ⟨hd.grown hg4 (by have := hb3.size; simp; omega) (fun j hj => (r7b.lt j hj).1), fun n6 x6 v6 h6 => ?_⟩
  have a6 : (w3.alloc o).drew.ownsRow wa.heap.size 3 1 v6 n6 x6 := h6.alloc o
  have a7 : (w3.alloc o).drew.ownsRow wa.heap.size 61 4 u7 n7 x7 := r7b.alloc o
  exact a6.kept hg4 (row_types a6 a7 (by decide))
set_option maxRecDepth 100000 in
set_option maxHeartbeats 8000000 in
theorem shown_any (hS : SortLaw) {w : World} {tb b base : Nat} {u : Value} {L : List PRow} (h : FullAt w tb b L) (hr : Rows5 w base u L) :
    Calls Try.prog 18 #[.pointer (some ⟨tb, 0, none⟩), u] w fun e w' => e = .returned (.bool true) ∧ Below w.heap.size w w' := by
  obtain ⟨i0, hi, hz0, hz1, hz2⟩ := info_parts int_infoP
  obtain ⟨j0, hj, hj0, hj1, hj2⟩ := info_parts chs_infoP
  have hsix := h.tab.six
  go_enter Try.func18, Try.ntmps18
  go_wp2_with (first
    | (go_at_call 29; refine (rising_any h.tab.ap h.tab.six hr).mono ?_; rintro e w1 ⟨u1, rfl, hr1, hb1⟩; obtain ⟨p1, cap1, rfl, hc1⟩ := rows_view hr1; have hf1 := h.below hb1)
    | (go_at_call 8; refine (all_any hS hf1.tab).mono ?_; rintro e wa ⟨ua, rs, rfl, hO, hP, hba⟩; obtain ⟨pa, capa, rfl, hcell⟩ := ptrs_view hP; obtain rfl := InOrder.unique hO (risTo_order h.tab.ap)))
  have hfa := hf1.below hba
  have hlen : L.length = (risTo 256 L).length := hO.1.length_eq.symm
  generalize risTo 256 L = M at *
  go_loopw [6, 7, 8, 9] (fun u6 u7 u8 _ wr => ∃ i : Nat, u8 = .int .i64 i ∧ i ≤ M.length ∧ wr.ownsRow wa.heap.size 3 1 u6 (tripsN (M.take i)) (List.replicate (tripsN (M.take i)) (.int .i64 8)) ∧ wr.ownsRow wa.heap.size 61 4 u7 (choN (M.take i)) (choL (M.take i)) ∧ Below wa.heap.size wa wr)
    (fun _ _ u8 _ _ => M.length - idxV u8)
  case atStart => exact ⟨0, rfl, Nat.zero_le _, ⟨rfl, .inl ⟨rfl, rfl⟩⟩, ⟨rfl, .inl ⟨rfl, rfl⟩⟩, Below.refl _ _⟩
  case round =>
    obtain ⟨i, rfl, hile, hrow6, hrow7, hb⟩ := hrel
    by_cases hli : i < M.length
    · obtain ⟨ga, rfl, hga, hca⟩ := hcell i hli
      obtain ⟨g1, rfl, hg1, hg1s, c0, c1, c2, c3, c4⟩ := hc1 i hli
      have hrL := hO.1.mem_iff.1 (List.getElem_mem hli)
      have htk := tripsN_take hli
      obtain ⟨htn, htl⟩ := cho_take hli
      generalize M[i] = r at *
      have hca' : wr.cell? ⟨ga, i, none⟩ = some (.pointer (some ⟨r.p, 0, none⟩)) := (hb.cell (p := ⟨ga, i, none⟩) (lt_of_cell hca)).trans hca
      have hg1a : g1 < wa.heap.size := Nat.lt_of_lt_of_le hg1s hba.size
      have d : ∀ (W : World), Below wa.heap.size wa W → W.cell? ⟨g1, i * 5, none⟩ = some (.int .i64 r.x) ∧ W.cell? ⟨g1, i * 5 + 1, none⟩ = some (.int .i64 r.y) ∧ W.cell? ⟨g1, i * 5 + 2, none⟩ = some (.int .i64 r.st) ∧ W.cell? ⟨g1, i * 5 + 3, none⟩ = some (.int .i64 r.pr) ∧ W.cell? ⟨g1, i * 5 + 4, none⟩ = some (.int .i64 r.se) := fun W hW =>
        ⟨(hW.cell (p := ⟨g1, i * 5, none⟩) hg1a).trans ((hba.cell (p := ⟨g1, i * 5, none⟩) hg1s).trans c0), (hW.cell (p := ⟨g1, i * 5 + 1, none⟩) hg1a).trans ((hba.cell (p := ⟨g1, i * 5 + 1, none⟩) hg1s).trans c1), (hW.cell (p := ⟨g1, i * 5 + 2, none⟩) hg1a).trans ((hba.cell (p := ⟨g1, i * 5 + 2, none⟩) hg1s).trans c2), (hW.cell (p := ⟨g1, i * 5 + 3, none⟩) hg1a).trans ((hba.cell (p := ⟨g1, i * 5 + 3, none⟩) hg1s).trans c3), (hW.cell (p := ⟨g1, i * 5 + 4, none⟩) hg1a).trans ((hba.cell (p := ⟨g1, i * 5 + 4, none⟩) hg1s).trans c4)⟩
      have hpr : ∀ W, Below wa.heap.size wa W → PathAt W r := fun W hW => (hfa.tab.path r hrL).below hW
      have hin := h.tab.ap.1 r hrL
      clear hcell hc1 c0 c1 c2 c3 c4 hca
      obtain ⟨d0, d1, d2, d3, d4⟩ := d wr hb
      have px := (hpr wr hb).x
      have py := (hpr wr hb).y
      have pst := (hpr wr hb).st
      have kx := cell_by px
      have ky := cell_by py
      have kst := cell_by pst
      have k0 := cell_by d0
      have k1 := cell_by d1
      have k2 := cell_by d2
      have hpn := fun W => ptr_neq ⟨r.p, 0, none⟩ W
      go_wp2
      (refine wp_region_below (by kernel_rfl) (by kernel_rfl) ?_; (repeat (quiet_step ((go_at_call 7; exact below_left (find_r (hfa.tab.below (hb.trans ((BelowBy.h _).mono hb.size))) hrL))))); refine wpQuiet_nil ?_; intro _ hw'; obtain ⟨⟨wq, hbq⟩, hw''⟩ := hw'; subst hw'')
      clear kx ky kst k0 k1 k2 hpn
      rename_i wq
      have hbw : Below wa.heap.size wa wq := hb.trans (hbq.mono hb.size)
      have r6 := row_below hrow6 hbq
      have r7 := row_below hrow7 hbq
      obtain ⟨e0, e1, e2, e3, e4⟩ := d wq hbw
      clear d0 d1 d2 d3 d4 px py pst hca' hrow6 hrow7
      by_cases h2 : r.st = 2
      · have hjJ : isJ r = true := decide_eq_true (.inl h2)
        have hjC : isC r = true := decide_eq_true h2
        rw [hjJ, if_pos rfl] at htk
        rw [hjC, if_pos rfl] at htn htl
        have w1e : IntKind.i64.wrap (16 * r.x) = 16 * r.x := w64 _ (by unfold InR at hin; omega) (by unfold InR at hin; omega)
        have w2e : IntKind.i64.wrap (16 * r.x + r.y) = 16 * r.x + r.y := w64 _ (by unfold InR at hin; omega) (by unfold InR at hin; omega)
        rw [h2] at e2
        go_wp2_with (first
          | (at_builtin; go_loud (refine wpList_append_own _ rfl _ _ 41 rfl wa.heap.size 3 i0 (.int .i64 0) 1 8 Try.underlying41 hi hz0 hz1 hz2 rfl (by decide) _ _ _ rfl (r6.alloc _) ⟨wq.heap.size, 0, none⟩ 1 1 [Value.int .i64 8] rfl rfl (cell_one_new _ _ _) (by simp [Value.oneCell']) (by have := tripsN_le (M.take i); have := List.length_take_le i M; unfold maxLen; omega) (by have := tripsN_le (M.take i); have := List.length_take_le i M; omega) (by have := hbw.size; simp; omega) ?_); intro v3 w3 r6b hg3 hnil3; go_loud (obtain ⟨hb3, r7b⟩ := int_post hbw r6 r7 hg3); obtain ⟨f0, f1, f2, f3, f4⟩ := d w3 hb3)
          | go_in)
        have hSS : ∀ W, Below wa.heap.size wa W → W.cell? ⟨g1, i * 5, none⟩ = some (.int .i64 r.x) ∧ W.cell? ⟨g1, i * 5 + 1, none⟩ = some (.int .i64 r.y) ∧ W.cell? ⟨g1, i * 5 + 3, none⟩ = some (.int .i64 r.pr) ∧ W.cell? ⟨g1, i * 5 + 4, none⟩ = some (.int .i64 r.se) := fun W hW => ⟨(d W hW).1, (d W hW).2.1, (d W hW).2.2.2.1, (d W hW).2.2.2.2⟩
        have hS1 := hSS _ hb3.drew
        have hS2 := fun o => hSS _ (hb3.alloc hb3.size o).drew
        have hcl : choN (M.take i) ≤ 6 := by have := choN_le (M.take i); have := List.length_take_le i M; omega
        have r7x : ∀ o, ((w3.alloc o).drew).ownsRow wa.heap.size 61 4 u7 (choN (M.take i)) (choL (M.take i)) := fun o => r7b.alloc o
        have cx : ∀ j v, (choV r)[j]? = some v → ((w3.alloc (.cells #[.int .i64 (16 * r.x + r.y), .int .i64 r.pr, .int .i64 8, .bool (decide ((r.se : Int) < 3))] 61)).drew).cell? ((⟨w3.heap.size, 0, none⟩ : Addr).add j) = some v := fun j v h => cells_new w3 _ _ j v h
        go_region_held3 (fun w' => w'.cell? ⟨g1, i * 5, none⟩ = some (.int .i64 r.x) ∧ w'.cell? ⟨g1, i * 5 + 1, none⟩ = some (.int .i64 r.y) ∧ w'.cell? ⟨g1, i * 5 + 3, none⟩ = some (.int .i64 r.pr) ∧ w'.cell? ⟨g1, i * 5 + 4, none⟩ = some (.int .i64 r.se))
          (first | (exact hS1) | (exact hS2 _) | (exact hSS _ (by assumption)))
          (first
            | (go_loud (refine step_append_own rfl _ _ 39 rfl wa.heap.size 61 j0 (.agg #[.int .i64 0, .int .i64 0, .int .i64 0, .bool false]) 4 32 Try.underlying39 hj hj0 hj1 hj2 rfl ?_ _ _ _ ?_ (r7x _) ⟨w3.heap.size, 0, none⟩ 1 1 (choV r) ?_ rfl cx (choV_one r) ?_ ?_ ?_ ?_; (decide); (simp [Act.eval, Act.put]); (simp [Act.eval, Act.put]); (unfold maxLen; omega); (omega); (have := hb3.size; simp <;> omega); intro v4 w4 r7c hg4; obtain ⟨hb4, hb4b⟩ := cho_post hb3 r7b hg4)))
        go_wp2
        go_roundw
        case rel =>
          refine ⟨i + 1, rfl, hli, ?_, ?_, hb4⟩
          · rw [htk, List.replicate_succ']
            exact hb4b _ _ _ r6b
          · rw [htn, htl]
            exact r7c
        case measure => simp [idxV]; omega
      · have hjC : isC r = false := decide_eq_false h2
        rw [hjC] at htn htl
        by_cases h3 : r.st = 3
        · have hjJ : isJ r = true := decide_eq_true (.inr h3)
          rw [hjJ, if_pos rfl] at htk
          rw [h3] at e2
          go_wp2_with (first
            | (at_builtin; go_loud (refine wpList_append_own _ rfl _ _ 41 rfl wa.heap.size 3 i0 (.int .i64 0) 1 8 Try.underlying41 hi hz0 hz1 hz2 rfl (by decide) _ _ _ rfl (r6.alloc _) ⟨wq.heap.size, 0, none⟩ 1 1 [Value.int .i64 8] rfl rfl (cell_one_new _ _ _) (by simp [Value.oneCell']) (by have := tripsN_le (M.take i); have := List.length_take_le i M; unfold maxLen; omega) (by have := tripsN_le (M.take i); have := List.length_take_le i M; omega) (by have := hbw.size; simp; omega) ?_); intro v3 w3 r6b hg3 hnil3; go_loud (obtain ⟨hb3, r7b⟩ := int_post hbw r6 r7 hg3); obtain ⟨f0, f1, f2, f3, f4⟩ := d w3 hb3; rw [h3] at f2)
            | go_in)
          go_roundw
          case rel =>
            refine ⟨i + 1, rfl, hli, ?_, ?_, hb3⟩
            · rw [htk, List.replicate_succ']
              exact r6b
            · rw [htn, htl]
              simpa using r7b
          case measure => simp [idxV]; omega
        · have hjJ : isJ r = false := decide_eq_false (fun hc => hc.elim h2 h3)
          have q2 : (r.st == 2) = false := by simp [h2]
          have q3 : (r.st == 3) = false := by simp [h3]
          rw [hjJ] at htk
          go_wp2
          go_roundw
          case rel =>
            refine ⟨i + 1, rfl, hli, ?_, ?_, hbw⟩
            · rw [htk]
              exact r6
            · rw [htn, htl]
              simpa using r7
          case measure => simp [idxV]; omega
    · have hie : i = M.length := by omega
      subst hie
      rw [List.take_length] at hrow6 hrow7
      have hfr := hfa.below hb
      have htl : tripsN L = tripsN M := (hO.1.symm.filter isJ).length_eq
      clear hcell hc1
      obtain ⟨p6, c6, rfl⟩ := row_slice hrow6
      obtain ⟨p7, c7, rfl⟩ := row_slice hrow7
      have hn6 : tripsN M ≤ 6 := by have := tripsN_le M; omega
      have hc6 : choN M ≤ 6 := by have := choN_le M; omega
      have hjd : ∀ W, FullAt W tb b L → Calls Try.prog 12 #[.pointer (some ⟨tb, 0, none⟩)] W fun e w' => e = .returned (.int .i64 (tripsN M)) ∧ Below W.heap.size W w' := fun W hW => by
        have := joinedN_any hS hW
        rwa [htl] at this
      go_wp2_with (first
        | (go_at_call 10; refine (choices_any hS hfr).mono ?_; rintro e w4 ⟨u4, rs4, rfl, hO4, hrow4, hb4⟩; obtain rfl := InOrder.unique hO hO4; obtain ⟨p4, c4, rfl⟩ := row_slice hrow4; have hf4 := hfr.below hb4; have r6 := row_below hrow6 hb4; have r7 := row_below hrow7 hb4)
        | (go_at_call 11; refine (trips_any hS hf4).mono ?_; rintro e w5 ⟨u5, rs5, rfl, hO5, hrow5, hb5⟩; obtain rfl := InOrder.unique hO hO5; have hf5 := hf4.below hb5; have r6b := row_below r6 hb5)
        | (go_at_call 30; refine (ints_at hn6 hrow5 r6b).mono ?_; rintro e w6 ⟨rfl, q, rfl⟩)
        | (go_at_call 12; refine (hjd _ (hf5.below (below_drewN (Below.refl _ _) q))).mono ?_; rintro e w7 ⟨rfl, hb7⟩))
      have b5 : Below w4.heap.size w4 (w5.drewN q) := below_drewN hb5 q
      have s4 := row_below (row_below hrow4 b5) hb7
      have s7 := row_below (row_below r7 b5) hb7
      obtain ⟨x4, y4, e4, v4⟩ := cho_view s4
      obtain ⟨x7, y7, e7, v7⟩ := cho_view s7
      simp only [Value.slice.injEq, true_and] at e4 e7
      obtain ⟨rfl, rfl⟩ := e4
      obtain ⟨rfl, rfl⟩ := e7
      have hbig : Below w.heap.size w w7 := (hb1.trans (((hba.trans (hb.mono hba.size)).trans ((hb4.trans ((b5.mono hb4.size).trans (hb7.mono (Nat.le_trans hb4.size b5.size)))).mono (Nat.le_trans hba.size hb.size))).mono hb1.size))
      clear hrow4 hrow5 r6 r6b r7 s4 s7 hrow6 hrow7
      go_loopw [11] (fun u11 wr => ∃ k : Nat, u11 = .int .i64 k ∧ k ≤ choN M ∧ ∃ n, wr = w7.drewN n)
        (fun u11 _ => choN M - idxV u11)
      case atStart => exact ⟨0, rfl, Nat.zero_le _, 0, rfl⟩
      case round =>
        obtain ⟨k, rfl, hk, n, rfl⟩ := hrel
        by_cases hlk : k < choN M
        · obtain ⟨g4, rfl, a0, a1, a2, a3⟩ := v4 k hlk
          obtain ⟨g7, rfl, z0, z1, z2, z3⟩ := v7 k hlk
          generalize (M.filter isC)[k] = r at *
          clear v4 v7
          go_wp2
          go_quiet (fail)
          go_wp2
          go_roundw
          case rel => exact ⟨k + 1, rfl, hlk, n + nq, rfl⟩
          case measure => simp [idxV]; omega
        · go_wp2
          go_ret
          exact ⟨rfl, below_drewN hbig n⟩
end Go.Proofs.Ytenngklohffoaaa
