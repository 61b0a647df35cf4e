/- Paths: round trips of a table. No conditions but what the sort says. -/
import Derived.Test.YtenngklohffoaaaPthO
import Derived.Test.YtenngklohffoaaaPthP
namespace Go.Proofs.Ytenngklohffoaaa
set_option linter.unusedVariables false
set_option linter.unusedSimpArgs false
open Go.RowKit Sym Go.Maps Go.WideMaps Go.Sort Go.Lib Go.Shelf

structure FullAt (w : World) (tb b : Nat) (L : List PRow) : Prop where
  tab : TabAt w tb b L
  ctl : ∀ r ∈ L, CtlAt w r.ctl r.se r.F
theorem FullAt.below {w w' : World} {tb b : Nat} {L : List PRow} (h : FullAt w tb b L) (hb : Below w.heap.size w w') : FullAt w' tb b L := ⟨h.tab.below hb, fun r hr => (h.ctl r hr).below hb⟩
theorem ptrs_view {w : World} {base : Nat} {u : Value} {rs : List PRow} (h : Ptrs w base u rs) : ∃ p cap, u = .slice p rs.length cap ∧ ∀ i (hi : i < rs.length), ∃ g, p = some ⟨g, 0, none⟩ ∧ base ≤ g ∧ w.cell? ⟨g, i, none⟩ = some (ptrOf rs[i]) := by
  have h' : w.ownsRow base 28 1 u rs.length (rs.map ptrOf) := h
  rcases h.2 with ⟨rfl, hz⟩ | ⟨g, cap, cur, rfl, hbase, hb, h1, h2, h3, h4⟩
  · exact ⟨none, 0, by rw [hz], fun i hi => by omega⟩
  · refine ⟨some ⟨g, 0, none⟩, cap, rfl, fun i hi => ⟨g, rfl, hbase, ?_⟩⟩
    have := h'.cellAt i (by simpa using hi)
    rw [this]
    simp [hi]
theorem row_below {w w' : World} {base : Nat} {e : TypeId} {sz : Nat} {u : Value} {n : Nat} {xs : List Value} (h : w.ownsRow base e sz u n xs) (hb : Below w.heap.size w w') : w'.ownsRow base e sz u n xs := by
  refine World.ownsRow.kept (row := none) h ⟨hb.os, hb.tape, hb.output, hb.size, fun c hc _ => hb.block c hc⟩ ?_
  rcases h.2 with ⟨rfl, _⟩ | ⟨g, cap, cur, rfl, _⟩ <;> simp [Value.ownBlock]
theorem row_mono {w : World} {base base' : Nat} {e : TypeId} {sz : Nat} {u : Value} {n : Nat} {xs : List Value} (h : w.ownsRow base e sz u n xs) (hle : base' ≤ base) : w.ownsRow base' e sz u n xs := by
  refine ⟨h.1, ?_⟩
  rcases h.2 with h2 | ⟨g, cap, cur, h3, h4, h5⟩
  · exact .inl h2
  · exact .inr ⟨g, cap, cur, h3, Nat.le_trans hle h4, h5⟩
theorem Ptrs.below {w w' : World} {base B : Nat} {u : Value} {rs : List PRow} (h : Ptrs w base u rs) (hb : Below w.heap.size w w') : Ptrs w' base u rs := by
  have h' : w.ownsRow base 28 1 u rs.length (rs.map ptrOf) := h
  refine World.ownsRow.kept (row := none) h' ⟨hb.os, hb.tape, hb.output, hb.size, fun c hc _ => hb.block c hc⟩ ?_
  rcases h'.2 with ⟨rfl, _⟩ | ⟨g, cap, cur, rfl, _⟩ <;> simp [Value.ownBlock]
def isJ (r : PRow) : Bool := decide (r.st = 2 ∨ r.st = 3)
def tripsN (rs : List PRow) : Nat := (rs.filter isJ).length
theorem tripsN_le (rs : List PRow) : tripsN rs ≤ rs.length := List.length_filter_le _ _
theorem tripsN_take {rs : List PRow} {i : Nat} (hi : i < rs.length) : tripsN (rs.take (i + 1)) = tripsN (rs.take i) + if isJ rs[i] then 1 else 0 := by
  unfold tripsN
  rw [List.take_succ_eq_append_getElem hi, List.filter_append, List.length_append]
  congr 1
  cases hj : isJ rs[i] <;> simp [hj]
def idxV : Value → Nat
  | .int _ i => i.toNat
  | _ => 0
theorem int_infoP : (Try.prog.info? 3).map (fun i => (i.zero, i.size, i.bytes)) = some (some (.int .i64 0), 1, 8) := by kernel_rfl
theorem joined_at {w : World} {r : PRow} (h : PathAt w r) : Calls Try.prog 25 #[.pointer (some ⟨r.p, 0, none⟩)] w fun e w' => e = .returned (.bool (isJ r)) ∧ w = w' := by
  have hst := h.st
  go_enter Try.func25, Try.ntmps25
  go_wp2
  all_goals (go_ret; refine ⟨ret_b ?_, rfl⟩; unfold isJ; by_cases h2 : r.st = 2 <;> by_cases h3 : r.st = 3 <;> simp_all)
set_option maxRecDepth 100000 in
set_option maxHeartbeats 4000000 in
theorem trips_any (hS : SortLaw) {w : World} {tb b : Nat} {L : List PRow} (h : FullAt w tb b L) :
    Calls Try.prog 11 #[.pointer (some ⟨tb, 0, none⟩)] w fun e w' => ∃ u rs, e = .returned u ∧ InOrder L rs ∧ w'.ownsRow w.heap.size 3 1 u (tripsN rs) (List.replicate (tripsN rs) (.int .i64 8)) ∧ Below w.heap.size w w' := by
  obtain ⟨i0, hi, hz0, hz1, hz2⟩ := info_parts int_infoP
  have hsix := h.tab.six
  go_enter Try.func11, Try.ntmps11
  go_wp2_with (go_at_call 8; refine (all_any hS h.tab).mono ?_; rintro e wa ⟨ua, rs, rfl, hO, hP, hba⟩; obtain ⟨pa, capa, rfl, hcell⟩ := ptrs_view hP)
  have hlen : L.length = rs.length := hO.1.length_eq.symm
  have hfa := h.below hba
  go_loopw [3, 9] (fun u u9 wr => ∃ i : Nat, u9 = .int .i64 i ∧ i ≤ rs.length ∧ wr.ownsRow wa.heap.size 3 1 u (tripsN (rs.take i)) (List.replicate (tripsN (rs.take i)) (.int .i64 8)) ∧ Below wa.heap.size wa wr)
    (fun _ u9 _ => rs.length - idxV u9)
  case atStart =>
    exact ⟨0, rfl, Nat.zero_le _, ⟨rfl, .inl ⟨rfl, rfl⟩⟩, Below.refl _ _⟩
  case round =>
    obtain ⟨i, rfl, hile, hrow, hb⟩ := hrel
    by_cases hlt : i < rs.length
    · obtain ⟨g, rfl, hg, hc⟩ := hcell i hlt
      have hr := hO.1.mem_iff.1 (List.getElem_mem hlt)
      have htk := tripsN_take hlt
      generalize rs[i] = r at *
      have hc1 : wr.cell? ⟨g, i, none⟩ = some (.pointer (some ⟨r.p, 0, none⟩)) := (hb.cell (p := ⟨g, i, none⟩) (lt_of_cell hc)).trans hc
      have hpa := (hfa.tab.path r hr).below hb
      have hctl := (hfa.ctl r hr).below hb
      have hctlc := hpa.ctl
      clear hcell hc
      cases hj : isJ r
      · go_wp2_with (first | (go_at_call 25; refine (joined_at hpa).mono ?_; rw [hj]; rintro e w1 ⟨rfl, rfl⟩) | go_in)
        go_roundw
        case rel =>
          rw [hj] at htk
          exact ⟨i + 1, rfl, hlt, by rw [htk]; exact hrow, hb⟩
        case measure => simp [idxV]; omega
      · go_wp2_with (first
          | (go_at_call 25; refine (joined_at hpa).mono ?_; rw [hj]; rintro e w1 ⟨rfl, rfl⟩)
          | (go_at_call 23; refine (trip_at hctl).mono ?_; rintro e w1 ⟨rfl, hb1⟩; have hrow1 := row_below hrow hb1)
          | (at_builtin; go_loud (refine wpList_append_own _ rfl _ _ 41 rfl wa.heap.size 3 i0 (.int .i64 0) 1 8 Try.underlying41 hi hz0 hz1 hz2 rfl (by decide) _ _ _ rfl (hrow1.alloc _) ⟨w1.heap.size, 0, none⟩ 1 1 [Value.int .i64 8] rfl rfl (cell_one_new _ _ _) (by simp [Value.oneCell']) (by have := tripsN_le (rs.take i); have := List.length_take_le i rs; unfold maxLen; omega) (by have := tripsN_le (rs.take i); have := List.length_take_le i rs; omega) (by have := hb.size; have := hb1.size; have := hba.size; simp; omega) ?_); intro v' w3 hown' hg3 hnil3)
          | go_in)
        go_roundw
        case rel =>
          rw [hj] at htk
          refine ⟨i + 1, rfl, hlt, ?_, ?_⟩
          · rw [htk, if_pos rfl, List.replicate_succ']
            exact hown'
          · exact ((hb.trans (hb1.mono hb.size)).alloc (by have := hb.size; have := hb1.size; omega) _).grown hg3 (by have := hb.size; have := hb1.size; simp; omega) (fun j hj => by
              exact (hrow1.lt j hj).1)
        case measure => simp [idxV]; omega
    · go_wp2
      go_ret
      have hie : i = rs.length := by omega
      subst hie
      rw [List.take_length] at hrow
      exact ⟨_, rs, rfl, hO, row_mono hrow hba.size, hba.trans (hb.mono hba.size)⟩
end Go.Proofs.Ytenngklohffoaaa
