/- Paths: how many have joined; what is swept. No conditions but what the sort says. -/
import Derived.Test.YtenngklohffoaaaPthQ
import Derived.Maps.OwnSet
namespace Go.Proofs.Ytenngklohffoaaa
set_option linter.unusedVariables false
set_option linter.unusedSimpArgs false
open Go.RowKit Sym Go.Maps Go.WideMaps Go.Sort Go.Lib Go.Shelf

theorem row_slice {w : World} {base : Nat} {e : TypeId} {sz : Nat} {u : Value} {n : Nat} {xs : List Value} (h : w.ownsRow base e sz u n xs) : ∃ p cap, u = .slice p n cap := by
  rcases h.2 with ⟨rfl, h0⟩ | ⟨g, cap, cur, rfl, _⟩
  · exact ⟨none, 0, by rw [h0]⟩
  · exact ⟨_, _, rfl⟩
set_option maxRecDepth 100000 in
theorem joinedN_any (hS : SortLaw) {w : World} {tb b : Nat} {L : List PRow} (h : FullAt w tb b L) :
    Calls Try.prog 12 #[.pointer (some ⟨tb, 0, none⟩)] w fun e w' => e = .returned (.int .i64 (tripsN L)) ∧ Below w.heap.size w w' := by
  go_enter Try.func12, Try.ntmps12
  go_wp2_with (go_at_call 11; refine (trips_any hS h).mono ?_; rintro e wa ⟨ua, rs, rfl, hO, hrow, hb⟩; have hl : tripsN rs = tripsN L := (hO.1.filter isJ).length_eq; rw [hl] at hrow; obtain ⟨p, cap, rfl⟩ := row_slice hrow)
  go_ret
  exact ⟨rfl, hb⟩
/-- what is left once what is gone is swept -/
def sweepL (L : List PRow) : List PRow := L.filter fun r => !decide (r.st = 4)
def goneN (L : List PRow) : Nat := (L.filter fun r => decide (r.st = 4)).length
def swStep (L : List PRow) (r : PRow) : List PRow := if r.st = 4 then L.filter (fun s => !decide (s.x = r.x ∧ s.y = r.y)) else L
def sweepTo (rs L : List PRow) : List PRow := rs.foldl swStep L
theorem sweepTo_snoc {rs L : List PRow} {i : Nat} (hi : i < rs.length) : sweepTo (rs.take (i + 1)) L = swStep (sweepTo (rs.take i) L) rs[i] := by
  unfold sweepTo
  rw [List.take_succ_eq_append_getElem hi, List.foldl_append]
  rfl
theorem sweepTo_eq : ∀ (rs L : List PRow), sweepTo rs L = L.filter fun s => !(rs.any fun r => decide (r.st = 4 ∧ s.x = r.x ∧ s.y = r.y))
  | [], L => by
    show L = _
    rw [List.filter_eq_self.2]
    intro a _; rfl
  | r :: rs, L => by
    show sweepTo rs (swStep L r) = _
    rw [sweepTo_eq rs]
    unfold swStep
    by_cases h : r.st = 4
    · rw [if_pos h, List.filter_filter]
      refine List.filter_congr fun s _ => ?_
      by_cases h2 : s.x = r.x ∧ s.y = r.y
      · simp [h, h2]
      · simp [h, h2]
        intro _
        by_cases hx : s.x = r.x
        · exact .inr fun hy => h2 ⟨hx, hy⟩
        · exact .inl hx
    · rw [if_neg h]
      refine List.filter_congr fun s _ => ?_
      simp [h]
theorem sweepTo_all {L rs : List PRow} (hap : Apart L) (h : rs.Perm L) : sweepTo rs L = sweepL L := by
  rw [sweepTo_eq]
  unfold sweepL
  refine List.filter_congr fun s hs => ?_
  congr 1
  by_cases h4 : s.st = 4
  · rw [decide_eq_true h4, List.any_eq_true]
    exact ⟨s, h.mem_iff.2 hs, by simp [h4]⟩
  · rw [decide_eq_false h4, List.any_eq_false]
    intro r hr
    rw [decide_eq_true_eq]
    rintro ⟨a, b, c⟩
    rw [apart_unique hap hs (h.mem_iff.1 hr) ⟨b, c⟩] at h4
    exact h4 a
theorem sweepTo_sub (rs L : List PRow) : ∀ r ∈ sweepTo rs L, r ∈ L := fun r hr => by rw [sweepTo_eq] at hr; exact (List.mem_filter.1 hr).1
theorem Apart.filter {L : List PRow} (h : Apart L) (f : PRow → Bool) : Apart (L.filter f) := ⟨fun r hr => h.1 r (List.mem_filter.1 hr).1, h.2.filter f⟩
theorem tab_turn {w w' : World} {tb b n : Nat} {L L' : List PRow} {D' : DataW Value} (h : TabAt w tb b L) (hk : Keeps [b] w w') (hown : w'.ownsMap Try.prog 23 R0 b n D') (hD : DOf D' L') (hap : Apart L') (hsub : ∀ r ∈ L', r ∈ L) (hlen : L'.length ≤ 6) : TabAt w' tb b L' := by
  have hb : ∀ k, k < w.heap.size → k ≠ b → w'.heap[k]? = w.heap[k]? := fun k hk1 hne => hk.block k hk1 (by simp [hne])
  refine ⟨(World.cell?_of_block (a := ⟨tb, 0, none⟩) (hb tb (lt_of_cell h.tab) h.ne)).trans h.tab, ⟨D', ?_, hD⟩, hap, hlen, fun r hr => (h.path r (hsub r hr)).kept (hb _ (h.path r (hsub r hr)).lt (h.sep r (hsub r hr))), h.ne, fun r hr => h.sep r (hsub r hr)⟩
  have := owns_tight hown
  rwa [hD.size] at this
theorem goneN_take {rs : List PRow} {i : Nat} (hi : i < rs.length) : goneN (rs.take (i + 1)) = goneN (rs.take i) + if rs[i].st = 4 then 1 else 0 := by
  unfold goneN
  rw [List.take_succ_eq_append_getElem hi, List.filter_append, List.length_append]
  by_cases hj : rs[i].st = 4 <;> simp [hj]
set_option maxRecDepth 100000 in
set_option maxHeartbeats 4000000 in
theorem sweep_any (hS : SortLaw) {w : World} {tb b : Nat} {L : List PRow} (h : TabAt w tb b L) :
    Calls Try.prog 9 #[.pointer (some ⟨tb, 0, none⟩)] w fun e w' => e = .returned (.int .i64 (goneN L)) ∧ Keeps [b] w w' ∧ TabAt w' tb b (sweepL L) := by
  have hsix := h.six
  go_enter Try.func9, Try.ntmps9
  go_wp2_with (go_at_call 8; refine (all_any hS h).mono ?_; rintro e wa ⟨ua, rs, rfl, hO, hP, hba⟩; obtain ⟨pa, capa, rfl, hcell⟩ := ptrs_view hP)
  have hlen : L.length = rs.length := hO.1.length_eq.symm
  have hfa := h.below hba
  go_loopw [3, 9] (fun u u9 wr => ∃ i : Nat, u9 = .int .i64 i ∧ i ≤ rs.length ∧ u = .int .i64 (goneN (rs.take i)) ∧ TabAt wr tb b (sweepTo (rs.take i) L) ∧ Keeps [b] wa wr)
    (fun _ u9 _ => rs.length - idxV u9)
  case atStart =>
    exact ⟨0, rfl, Nat.zero_le _, rfl, hfa, Keeps.refl _ _⟩
  case round =>
    obtain ⟨i, rfl, hile, rfl, hT, hb⟩ := hrel
    by_cases hlt : i < rs.length
    · obtain ⟨g, rfl, hg, hc⟩ := hcell i hlt
      have hr := hO.1.mem_iff.1 (List.getElem_mem hlt)
      have hgn := goneN_take hlt
      have hst1 := sweepTo_snoc (L := L) hlt
      have hgle : goneN (rs.take i) ≤ 6 := by
        have := List.length_filter_le (fun r => decide (r.st = 4)) (rs.take i)
        have := List.length_take_le i rs
        unfold goneN
        omega
      generalize rs[i] = r at *
      have hgb : g ≠ b := by have := h.ltb; omega
      have hpk := hfa.path r hr
      have hrb := hfa.sep r hr
      have hc1 : wr.cell? ⟨g, i, none⟩ = some (.pointer (some ⟨r.p, 0, none⟩)) := (World.cell?_of_block (a := ⟨g, i, none⟩) (hb.block g (lt_of_cell hc) (by simp [hgb]))).trans hc
      have hpr := hpk.kept (w' := wr) (hb.block r.p hpk.lt (by simp [hrb]))
      have hst := hpr.st
      have hx := hpr.x
      have hy := hpr.y
      have htb := hT.tab
      have hin := h.ap.1 r hr
      obtain ⟨D, hown, hD⟩ := hT.map
      clear hcell hc
      by_cases hj : r.st = 4
      · rw [hj] at hst
        rw [if_pos hj] at hgn
        go_wp2
        (refine wp_region_still_tail 8 (by kernel_rfl) (by kernel_rfl) ?_; simp only [List.take_succ_cons, List.take_zero, List.drop_succ_cons, List.drop_zero]; change wpStill _ _ (World.drew _) (fun a' => wpList _ _ _ _ a' (World.drew _)) _ _; (repeat still_step); refine wpStill_nil ?_)
        have hownd : wr.drew.ownsMap Try.prog 23 R0 b (sweepTo (rs.take i) L).length D := hown
        refine wpList_delete_own _ rfl _ _ 62 23 rfl 28 keyedPlace Try.underlying62 R0 b (sweepTo (rs.take i) L).length D rfl hownd _ _ rfl (kPl_eq hin.wfx hin.wfy) ?_
        intro w1 hown1 hturn1
        have hK1 : Keeps [b] wr w1 := (keeps_below ((Below.refl _ _).drew)).trans (keeps_grown hturn1.grown)
        have hD1 := hD.del hT.ap hin.wfx hin.wfy
        have hstep : sweepTo (rs.take (i + 1)) L = (sweepTo (rs.take i) L).filter fun s => !decide (s.x = r.x ∧ s.y = r.y) := by rw [hst1]; unfold swStep; rw [if_pos hj]
        have hT1 := tab_turn hT hK1 hown1 hD1 (hT.ap.filter _) (fun s hs => (List.mem_filter.1 hs).1) (Nat.le_trans (List.length_filter_le _ _) hT.six)
        rw [← hstep] at hT1
        clear hstep hst1 hD1 hown1 hownd
        go_wp2
        go_roundw
        case rel =>
          refine ⟨i + 1, rfl, hlt, ?_, hT1, hb.trans hK1⟩
          rw [hgn]; rfl
        case measure => simp [idxV]; omega
      · rw [if_neg hj] at hgn
        have hstep : sweepTo (rs.take (i + 1)) L = sweepTo (rs.take i) L := by rw [hst1]; unfold swStep; rw [if_neg hj]
        rw [← hstep] at hT
        clear hstep hst1
        go_wp2
        go_roundw
        case rel =>
          refine ⟨i + 1, rfl, hlt, ?_, hT, hb⟩
          rw [hgn]; rfl
        case measure => simp [idxV]; omega
    · go_wp2
      go_ret
      have hie : i = rs.length := by omega
      subst hie
      rw [List.take_length] at hT ⊢
      rw [sweepTo_all h.ap hO.1] at hT
      have hgone : goneN rs = goneN L := (hO.1.filter _).length_eq
      rw [hgone]
      exact ⟨rfl, (keeps_below hba).trans hb, hT⟩
end Go.Proofs.Ytenngklohffoaaa
