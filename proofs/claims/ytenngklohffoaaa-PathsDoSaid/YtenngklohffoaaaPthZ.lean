/- Paths: a table where the world is told; what is added. No conditions. -/
import Derived.Test.YtenngklohffoaaaPthY
namespace Go.Proofs.Ytenngklohffoaaa
set_option linter.unusedVariables false
set_option linter.unusedSimpArgs false
open Go.RowKit Sym Go.Maps Go.WideMaps Go.Sort Go.Lib

structure PathAt (w : World) (r : PRow) : Prop where
  x : w.cell? ⟨r.p, 0, none⟩ = some (.int .i64 r.x)
  y : w.cell? ⟨r.p, 1, none⟩ = some (.int .i64 r.y)
  st : w.cell? ⟨r.p, 2, none⟩ = some (.int .i64 r.st)
  pr : w.cell? ⟨r.p, 3, none⟩ = some (.int .i64 r.pr)
  ctl : w.cell? ⟨r.p, 5, none⟩ = some r.ctl
  fz : w.frozen? ⟨r.p, 2, none⟩ = false
theorem PathAt.kept {w w' : World} {r : PRow} (h : PathAt w r) (hb : w'.heap[r.p]? = w.heap[r.p]?) : PathAt w' r :=
  ⟨(World.cell?_of_block (a := ⟨r.p, 0, none⟩) hb).trans h.x, (World.cell?_of_block (a := ⟨r.p, 1, none⟩) hb).trans h.y, (World.cell?_of_block (a := ⟨r.p, 2, none⟩) hb).trans h.st, (World.cell?_of_block (a := ⟨r.p, 3, none⟩) hb).trans h.pr, (World.cell?_of_block (a := ⟨r.p, 5, none⟩) hb).trans h.ctl, (World.frozen?_of_block (a := ⟨r.p, 2, none⟩) hb).trans h.fz⟩
theorem PathAt.lt {w : World} {r : PRow} (h : PathAt w r) : r.p < w.heap.size := lt_of_cell h.x
theorem PathAt.below {w w' : World} {r : PRow} (h : PathAt w r) (hb : Below w.heap.size w w') : PathAt w' r := h.kept (hb.block _ h.lt)
/-- a table, its map, its paths -/
structure TabAt (w : World) (tb b : Nat) (L : List PRow) : Prop where
  tab : w.cell? ⟨tb, 0, none⟩ = some (.map (some b))
  map : ∃ D, w.ownsMap Try.prog 23 R0 b L.length D ∧ DOf D L
  ap : Apart L
  six : L.length ≤ 6
  path : ∀ r ∈ L, PathAt w r
  ne : tb ≠ b
  sep : ∀ r ∈ L, r.p ≠ b
theorem TabAt.ltb {w : World} {tb b : Nat} {L : List PRow} (h : TabAt w tb b L) : b < w.heap.size := by
  obtain ⟨D, h1, -⟩ := h.map
  exact h1.lt
theorem TabAt.kept {w w' : World} {tb b : Nat} {L : List PRow} (h : TabAt w tb b L) (ht : w'.heap[tb]? = w.heap[tb]?) (hb : w'.heap[b]? = w.heap[b]?) (hp : ∀ r ∈ L, w'.heap[r.p]? = w.heap[r.p]?) : TabAt w' tb b L := by
  obtain ⟨D, h1, h2⟩ := h.map
  refine ⟨(World.cell?_of_block (a := ⟨tb, 0, none⟩) ht).trans h.tab, ⟨D, ?_, h2⟩, h.ap, h.six, fun r hr => (h.path r hr).kept (hp r hr), h.ne, h.sep⟩
  unfold World.ownsMap at h1 ⊢
  rw [hb]; exact h1
theorem TabAt.below {w w' : World} {tb b : Nat} {L : List PRow} (h : TabAt w tb b L) (hb : Below w.heap.size w w') : TabAt w' tb b L :=
  h.kept (hb.block _ (lt_of_cell h.tab)) (hb.block _ h.ltb) fun r hr => hb.block _ (h.path r hr).lt
/-- what comes of adding a path -/
instance (r : PRow) : Decidable (InR r) := by unfold InR; exact inferInstance
def addE (L : List PRow) (q : PRow) : Int := if ¬ InR q then 3 else if (look L q.x q.y).isSome then 9 else if 6 ≤ L.length then 6 else 0
def addL (L : List PRow) (q : PRow) : List PRow := if addE L q = 0 then L ++ [q] else L
theorem idN_in {x y : Int} (hx : 0 ≤ x ∧ x ≤ 15) (hy : 0 ≤ y ∧ y ≤ 15) : idN x y = 16 * x + y := by
  unfold idN; rw [clampI_id 15 x hx, clampI_id 15 y hy]
theorem place_id (x y : Int) (w : World) : Calls Try.prog 15 #[.int .i64 (idN x y)] w fun e w' => e = .returned (.agg #[.int .i64 (clampI 15 x), .int .i64 (clampI 15 y)]) ∧ Below w.heap.size w w' := by
  have hA := clampI_bd 15 x (by omega)
  have hB := clampI_bd 15 y (by omega)
  have h := place_at (idN x y) w
  have hc : clampI 255 (idN x y) = 16 * clampI 15 x + clampI 15 y := clampI_id _ _ (by unfold idN; omega)
  rw [hc] at h
  have e1 : (16 * clampI 15 x + clampI 15 y) / 16 = clampI 15 x := by omega
  have e2 : (16 * clampI 15 x + clampI 15 y) % 16 = clampI 15 y := by omega
  rw [e1, e2] at h
  exact h
theorem owns_below' {b n : Nat} {D : DataW Value} {W w : World} (h : W.ownsMap Try.prog 23 R0 b n D) (hb : Below W.heap.size W w) : w.ownsMap Try.prog 23 R0 b n D := by
  have e := hb.block b h.lt
  unfold World.ownsMap at h ⊢
  rw [e]; exact h
theorem keeps_below {bs : List Nat} {w w' : World} (h : Below w.heap.size w w') : Keeps bs w w' := ⟨h.os, h.tape, h.output, h.size, fun k hk _ => h.block k hk⟩
theorem keeps_grown {b : Nat} {w w' : World} (h : w.grownBy w' (some b)) : Keeps [b] w w' := ⟨h.os, h.tape, h.output, h.size, fun k hk hn => h.block k hk (fun e => hn (by injection e with e; simp [e]))⟩
theorem owns_tight {b n : Nat} {D : DataW Value} {w : World} (h : w.ownsMap Try.prog 23 R0 b n D) : w.ownsMap Try.prog 23 R0 b (Maps.size D) D := by
  obtain ⟨es, clock, h1, h2, h3, rfl⟩ := h
  refine ⟨es, clock, h1, h2, ?_, rfl⟩
  simp [Maps.size, length_sorted]
set_option maxRecDepth 100000 in
theorem add_any {w : World} {tb b : Nat} {L : List PRow} {q : PRow} (h : TabAt w tb b L) (hq : PathAt w q) (hwx : wf64 q.x) (hwy : wf64 q.y) (hqb : q.p ≠ b) :
    Calls Try.prog 6 #[.pointer (some ⟨tb, 0, none⟩), ptrOf q] w fun e w' => e = .returned (.int .i64 (addE L q)) ∧ Keeps [b] w w' ∧ TabAt w' tb b (addL L q) := by
  obtain ⟨D, hown, hD⟩ := h.map
  have hk := kPl_eq hwx hwy
  have hlook := hD.held h.ap hwx hwy
  have htw := h.tab
  have hx := hq.x
  have hy := hq.y
  have hx1 := cell_by hx
  have hy1 := cell_by hy
  have htw1 := cell_by htw
  have hplace := place_id q.x q.y
  unfold ptrOf
  by_cases hin : InR q
  · have hcx : clampI 15 q.x = q.x := clampI_id _ _ ⟨hin.1, hin.2.1⟩
    have hcy : clampI 15 q.y = q.y := clampI_id _ _ ⟨hin.2.2.1, hin.2.2.2⟩
    rw [hcx, hcy] at hplace
    go_enter Try.func6, Try.ntmps6
    go_wp2
    (refine wp_region_below (by kernel_rfl) (by kernel_rfl) ?_; (repeat (quiet_step (first | (go_at_call 14; exact below_left (id_below _ _ _)) | (go_at_call 15; exact below_left (hplace _))))); refine wpQuiet_nil ?_; intro _ hw'; obtain ⟨⟨wq, hbq⟩, hw''⟩ := hw'; subst hw'')
    rename_i wq
    have hownq := owns_below' hown hbq
    have hx2 := (hbq.cell (p := ⟨q.p, 0, none⟩) (lt_of_cell hx)).trans hx
    have hy2 := (hbq.cell (p := ⟨q.p, 1, none⟩) (lt_of_cell hy)).trans hy
    have htw2 := (hbq.cell (p := ⟨tb, 0, none⟩) (lt_of_cell htw)).trans htw
    clear hx1 hy1 htw1 hplace
    have hl5 := fun n => pm_look (w := wq.drewN n) (n := L.length) (b := b) (D := D) hownq hk
    rw [hlook] at hl5
    cases hlk : look L q.x q.y with
    | some r =>
      simp only [hlk] at hl5
      unfold ptrOf at hl5
      have hE : addE L q = 9 := by unfold addE; rw [if_neg (fun hn => hn hin), hlk]; rfl
      have hLL : addL L q = L := by unfold addL; rw [hE]; rfl
      go_wp2
      go_quiet (fail)
      go_wp2
      go_ret
      rw [hE, hLL]
      have hb' := below_drewN hbq nq
      exact ⟨rfl, keeps_below hb', h.below hb'⟩
    | none =>
      simp only [hlk] at hl5
      go_wp2
      go_quiet (fail)
      have hownq2 : (wq.drewN nq).ownsMap Try.prog 23 R0 b L.length D := hownq
      have hbq2 := below_drewN hbq nq
      have hx3 : (wq.drewN nq).cell? ⟨q.p, 0, none⟩ = some (.int .i64 q.x) := hx2
      have hy3 : (wq.drewN nq).cell? ⟨q.p, 1, none⟩ = some (.int .i64 q.y) := hy2
      have htw3 : (wq.drewN nq).cell? ⟨tb, 0, none⟩ = some (.map (some b)) := htw2
      clear hx2 hy2 htw2 hl5 hownq hbq
      generalize wq.drewN nq = wr at *
      have hsz := hD.size
      by_cases hfull : 6 ≤ L.length
      · have hE : addE L q = 6 := by unfold addE; rw [if_neg (fun hn => hn hin), hlk, if_neg (by simp), if_pos hfull]
        have hLL : addL L q = L := by unfold addL; rw [hE]; rfl
        go_wp2_with (first | (at_len; refine wpList_len_own _ rfl _ 62 rfl 23 28 Try.underlying62 _ b L.length D rfl hownq2 ?_; rw [hsz]) | go_in)
        go_ret
        rw [hE, hLL]
        exact ⟨rfl, keeps_below hbq2, h.below hbq2⟩
      · have hE : addE L q = 0 := by unfold addE; rw [if_neg (fun hn => hn hin), hlk, if_neg (by simp), if_neg hfull]
        have hLL : addL L q = L ++ [q] := by unfold addL; rw [hE]; rfl
        go_wp2_with (first | (at_len; refine wpList_len_own _ rfl _ 62 rfl 23 28 Try.underlying62 _ b L.length D rfl hownq2 ?_; rw [hsz]) | go_in)
        (refine wp_region_still_tail 9 (by kernel_rfl) (by kernel_rfl) ?_; simp only [List.take_succ_cons, List.take_zero, List.drop_succ_cons, List.drop_zero]; change wpStill _ _ (World.drew _) (fun a' => wpList _ _ _ _ a' (World.drew _)) _ _; (repeat still_step); refine wpStill_nil ?_)
        have hownr : wr.drew.ownsMap Try.prog 23 R0 b L.length D := hownq2
        refine wpList_mapUpdate_own _ rfl _ _ _ 62 rfl 23 28 keyedPlace Try.underlying62 R0 b L.length D rfl hownr (by unfold maxLen; omega) _ _ (litPl q.x q.y) rfl rfl hk (.held (ptrOf q)) [] rfl ?_
        intro w1 hown1 hg1
        go_wp2
        go_ret
        rw [hE, hLL]
        have hKeep : Keeps [b] w w1 := (keeps_below hbq2.drew).trans (keeps_grown hg1)
        have hblk : ∀ k, k < w.heap.size → k ≠ b → w1.heap[k]? = w.heap[k]? := fun k hk hne => hKeep.block k hk (by simp [hne])
        have hD1 := hD.put h.ap hin hlk
        refine ⟨rfl, hKeep, (World.cell?_of_block (a := ⟨tb, 0, none⟩) (hblk tb (lt_of_cell htw) h.ne)).trans htw, ⟨_, ?_, hD1⟩, h.ap.snoc hin hlk, ?_, ?_, h.ne, ?_⟩
        · have h1 := owns_tight hown1
          rwa [hD1.size] at h1
        · simp only [List.length_append, List.length_singleton]; omega
        · intro r hr
          rcases List.mem_append.1 hr with hr | hr
          · exact (h.path r hr).kept (hblk _ (h.path r hr).lt (h.sep r hr))
          · rw [List.mem_singleton.1 hr]
            exact hq.kept (hblk _ hq.lt hqb)
        · intro r hr
          rcases List.mem_append.1 hr with hr | hr
          · exact h.sep r hr
          · rw [List.mem_singleton.1 hr]; exact hqb
  · have hE : addE L q = 3 := by unfold addE; rw [if_pos hin]
    have hLL : addL L q = L := by unfold addL; rw [hE]; rfl
    have hne : ¬ (clampI 15 q.x = q.x ∧ clampI 15 q.y = q.y) := by
      intro hc
      have hA := clampI_bd 15 q.x (by omega)
      have hB := clampI_bd 15 q.y (by omega)
      rw [hc.1] at hA
      rw [hc.2] at hB
      exact hin ⟨hA.1, hA.2, hB.1, hB.2⟩
    have hor : ¬ clampI 15 q.x = q.x ∨ (clampI 15 q.x = q.x ∧ ¬ clampI 15 q.y = q.y) := by
      by_cases hc : clampI 15 q.x = q.x
      · exact .inr ⟨hc, fun hd => hne ⟨hc, hd⟩⟩
      · exact .inl hc
    clear hne hlook
    rcases hor with hc1 | ⟨hc1, hc2⟩
    · have hc3 := hc1
      go_enter Try.func6, Try.ntmps6
      go_wp2
      (refine wp_region_below (by kernel_rfl) (by kernel_rfl) ?_; (repeat (quiet_step (first | (go_at_call 14; exact below_left (id_below _ _ _)) | (go_at_call 15; exact below_left (hplace _))))); refine wpQuiet_nil ?_; intro _ hw'; obtain ⟨⟨wq, hbq⟩, hw''⟩ := hw'; subst hw'')
      go_wp2
      go_ret
      rw [hE, hLL]
      exact ⟨rfl, keeps_below hbq, h.below hbq⟩
    · have hc3 := hc1
      go_enter Try.func6, Try.ntmps6
      go_wp2
      (refine wp_region_below (by kernel_rfl) (by kernel_rfl) ?_; (repeat (quiet_step (first | (go_at_call 14; exact below_left (id_below _ _ _)) | (go_at_call 15; exact below_left (hplace _))))); refine wpQuiet_nil ?_; intro _ hw'; obtain ⟨⟨wq, hbq⟩, hw''⟩ := hw'; subst hw'')
      go_wp2
      go_ret
      rw [hE, hLL]
      exact ⟨rfl, keeps_below hbq, h.below hbq⟩
end Go.Proofs.Ytenngklohffoaaa
