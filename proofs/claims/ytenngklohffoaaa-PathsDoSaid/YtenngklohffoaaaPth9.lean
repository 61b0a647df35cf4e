/- Paths: what a law adds to its rows: what may be added. No conditions. -/
import Derived.Test.YtenngklohffoaaaPth8
import Derived.Deep.RegionHeld3
namespace Go.Proofs.Ytenngklohffoaaa
set_option linter.unusedVariables false
set_option linter.unusedSimpArgs false
open Go.RowKit Sym Go.Maps Go.WideMaps Go.Sort Go.Lib Go.Shelf

theorem grown_refl' (w : World) : w.grownBy w none := ⟨rfl, rfl, rfl, Nat.le_refl _, fun _ _ _ => rfl⟩
theorem cells_grown {w w1 : World} {row : Option Nat} {c : Nat} {cs : Array Value} {t : TypeId} (hc : w.heap[c]? = some (.cells cs t (0, 0))) (hg : w.grownBy w1 row) (hne : some c ≠ row) (j : Nat) (u : Value) (h : cs.toList[j]? = some u) : w1.cell? ((⟨c, 0, none⟩ : Addr).add j) = some u := by
  have e : ((⟨c, 0, none⟩ : Addr).add j) = ⟨c, j, none⟩ := by
    simp [Addr.add]
    intro h; exact h.symm
  have hlt : c < w.heap.size := (Array.getElem?_eq_some_iff.1 hc).1
  rw [e, World.cell?_of_block (a := ⟨c, j, none⟩) (hg.block c hlt hne)]
  simp only [World.cell?, hc, Option.isSome_none, Bool.false_eq_true, if_false]
  rw [← Array.getElem?_toList, h]
theorem rowsV_one (L : List PRow) : ∀ u ∈ rowsV L, u.oneCell' = true := by
  intro u hu
  obtain ⟨r, -, hr⟩ := List.mem_flatMap.1 hu
  exact rowV_one r u hr
theorem heap_new (w : World) (o : Obj) : (w.alloc o).heap[w.heap.size]? = some o := by show (w.heap.push _)[w.heap.size]? = _; simp
theorem heap_new2 (w : World) (o o' : Obj) : ((w.alloc o).alloc o').heap[w.heap.size]? = some o := by
  have h : (w.alloc o).heap.size = w.heap.size + 1 := by simp
  rw [show ((w.alloc o).alloc o').heap[w.heap.size]? = ((w.alloc o).heap.push o')[w.heap.size]? from rfl, Array.getElem?_push, if_neg (by omega)]
  exact heap_new w o
theorem heap_next (w : World) (o o' : Obj) : ((w.alloc o).alloc o').heap[w.heap.size + 1]? = some o' := by
  have h : (w.alloc o).heap.size = w.heap.size + 1 := by simp
  rw [← h]; exact heap_new _ _
theorem cells_heap {w : World} {c : Nat} {cs : Array Value} {t : TypeId} (hc : w.heap[c]? = some (.cells cs t (0, 0))) (j : Nat) (u : Value) (h : cs.toList[j]? = some u) : w.cell? ((⟨c, 0, none⟩ : Addr).add j) = some u :=
  cells_grown hc (grown_refl' w) (by simp) j u h
theorem row_empty2 (w : World) (o : Obj) (e : TypeId) (sz base : Nat) (hb : base ≤ w.heap.size) : ((w.alloc o).alloc (.cells #[] e)).ownsRow base e sz (.slice (some ⟨w.heap.size + 1, 0, none⟩) 0 0) 0 [] := by
  have h : (w.alloc o).heap.size = w.heap.size + 1 := by simp
  rw [← h]; exact row_empty _ e sz base (by omega)
set_option maxRecDepth 100000 in
set_option maxHeartbeats 8000000 in
theorem ladd_in {w : World} {base : Nat} {u : Value} {L : List PRow} (q : PRow) (h6 : L.length ≤ 6) (hbase : base ≤ w.heap.size) (hin : InR q) (h : Rows5 w base u L) :
    Calls Try.prog 16 #[u, .agg #[.int .i64 q.x, .int .i64 q.y, .int .i64 q.st, .int .i64 q.pr, .int .i64 q.se]] w fun e w' => ∃ u', e = .returned (.tuple #[u', .int .i64 (addE L q)]) ∧ Rows5 w' base u' (addL L q) ∧ (u' = u ∨ ∀ g, u'.ownBlock = some g → w.heap.size ≤ g) ∧ Below w.heap.size w w' := by
  obtain ⟨i0, hi, hz0, hz1, hz2⟩ := info_parts row_infoP
  have h0 := h
  obtain ⟨pu, capu, rfl, hcell⟩ := rows_view h
  have b0 : Below w.heap.size w (w.alloc (Obj.cells #[.int .i64 q.x, .int .i64 q.y, .int .i64 q.st, .int .i64 q.pr, .int .i64 q.se] 53)) := (Below.refl _ _).alloc (Nat.le_refl _) _
  have hW := own_new w #[.int .i64 q.x, .int .i64 q.y, .int .i64 q.st, .int .i64 q.pr, .int .i64 q.se] 53
  have hbx : decide (0 ≤ q.x ∧ q.x ≤ 15) = true := decide_eq_true ⟨hin.1, hin.2.1⟩
  have hby : decide (0 ≤ q.y ∧ q.y ≤ 15) = true := decide_eq_true ⟨hin.2.2.1, hin.2.2.2⟩
  have inx := in_at q.x
  have iny := in_at q.y
  rw [hbx] at inx
  rw [hby] at iny
  clear hbx hby
  go_enter Try.func16, Try.ntmps16
  go_wp2_with (go_at_call 27; first | (refine (inx _).mono ?_; rintro e w1 ⟨rfl, rfl⟩) | (refine (iny _).mono ?_; rintro e w1 ⟨rfl, rfl⟩))
  generalize w.alloc (Obj.cells #[.int .i64 q.x, .int .i64 q.y, .int .i64 q.st, .int .i64 q.pr, .int .i64 q.se] 53) = W at *
  have g0 := hW.2.1 0
  have g1 := hW.2.1 1
  simp only [List.getElem?_toArray, List.getElem?_cons_zero, List.getElem?_cons_succ] at g0 g1
  go_loopw [6] (fun u6 wr => ∃ i : Nat, u6 = .int .i64 i ∧ i ≤ L.length ∧ (∀ j (hj : j < L.length), j < i → ¬ (L[j].x = q.x ∧ L[j].y = q.y)) ∧ ∃ n, wr = W.drewN n)
    (fun u6 _ => L.length - idxV u6)
  case atStart => exact ⟨0, rfl, Nat.zero_le _, fun j hj hj0 => by omega, 0, rfl⟩
  case round =>
    obtain ⟨i, rfl, hile, hno, n, rfl⟩ := hrel
    by_cases hli : i < L.length
    · obtain ⟨g, rfl, hg, hgs, c0, c1, c2, c3, c4⟩ := hcell i hli
      have hno' : ¬ (L[i].x = q.x ∧ L[i].y = q.y) → ∀ j (hj : j < L.length), j < i + 1 → ¬ (L[j].x = q.x ∧ L[j].y = q.y) := fun hn j hj hj1 => by
        rcases Nat.lt_or_ge j i with h1 | h1
        · exact hno j hj h1
        · obtain rfl : j = i := by omega
          exact hn
      have hmem := List.getElem_mem hli
      generalize L[i] = r at *
      have d0 : W.cell? ⟨g, i * 5, none⟩ = some (.int .i64 r.x) := (b0.cell (p := ⟨g, i * 5, none⟩) hgs).trans c0
      have d1 : W.cell? ⟨g, i * 5 + 1, none⟩ = some (.int .i64 r.y) := (b0.cell (p := ⟨g, i * 5 + 1, none⟩) hgs).trans c1
      by_cases hx : r.x = q.x
      · by_cases hy : r.y = q.y
        · have hE : addE L q = 9 := by unfold addE; rw [if_neg (fun hn => hn hin), if_pos (look_some_of hmem hx hy)]
          have hLL : addL L q = L := by unfold addL; rw [hE]; rfl
          clear hcell hno hno' c0 c1 c2 c3 c4
          rw [hx] at d0
          rw [hy] at d1
          go_wp2
          go_quiet (fail)
          go_wp2
          ((try simp only [Exit.inBlock, Exit.then]); refine bodyPost_ret (by simp [results, Try.results16, go_sem, hE]; try rfl) rfl ?_)
          rw [hE, hLL]
          have hb' : Below w.heap.size w ((W.drewN n).drewN nq) := below_drewN (below_drewN b0 n) nq
          exact ⟨_, rfl, row_below' h0 hb', .inl rfl, hb'⟩
        · have hn := hno' (fun hc => hy hc.2)
          clear hcell hno hno' c0 c1 c2 c3 c4
          rw [hx] at d0
          go_wp2
          go_quiet (fail)
          go_wp2
          go_roundw
          case rel => exact ⟨i + 1, rfl, hli, hn, n + nq, rfl⟩
          case measure => simp [idxV]; omega
      · have hn := hno' (fun hc => hx hc.1)
        clear hcell hno hno' c0 c1 c2 c3 c4
        go_wp2
        go_quiet (fail)
        go_wp2
        go_roundw
        case rel => exact ⟨i + 1, rfl, hli, hn, n + nq, rfl⟩
        case measure => simp [idxV]; omega
    · have hlk : look L q.x q.y = none := look_none_of (fun j hj => hno j hj (by omega))
      by_cases hfull : 6 ≤ L.length
      · have hE : addE L q = 6 := by unfold addE; rw [if_neg (fun hn => hn hin), hlk, if_neg (by simp), if_pos hfull]
        have hLL : addL L q = L := by unfold addL; rw [hE]; rfl
        clear hcell hno
        go_wp2
        ((try simp only [Exit.inBlock, Exit.then]); refine bodyPost_ret (by simp [results, Try.results16, go_sem, hE]; try rfl) rfl ?_)
        rw [hE, hLL]
        have hb' : Below w.heap.size w (W.drewN n) := below_drewN b0 n
        exact ⟨_, rfl, row_below' h0 hb', .inl rfl, hb'⟩
      · have hE : addE L q = 0 := by unfold addE; rw [if_neg (fun hn => hn hin), hlk, if_neg (by simp), if_neg hfull]
        have hLL : addL L q = L ++ [q] := by unfold addL; rw [hE]; rfl
        clear hcell hno
        have b1 : Below w.heap.size w (W.drewN n) := below_drewN b0 n
        have o1 := own_drewN hW n
        go_wp2
        generalize W.drewN n = V at *
        have e0 := o1.2.1 0
        have e1 := o1.2.1 1
        have e2 := o1.2.1 2
        have e3 := o1.2.1 3
        have e4 := o1.2.1 4
        simp only [List.getElem?_toArray, List.getElem?_cons_zero, List.getElem?_cons_succ] at e0 e1 e2 e3 e4
        have hlow : w.heap.size < V.heap.size := o1.1
        have hVr := row_below' h0 b1
        have hbV : Below V.heap.size V V.drew := (Below.refl _ _).drew
        have hS : ∀ w' : World, Below V.heap.size V w' → w'.cell? ⟨w.heap.size, 0, none⟩ = some (.int .i64 q.x) ∧ w'.cell? ⟨w.heap.size, 1, none⟩ = some (.int .i64 q.y) ∧ w'.cell? ⟨w.heap.size, 2, none⟩ = some (.int .i64 q.st) ∧ w'.cell? ⟨w.heap.size, 3, none⟩ = some (.int .i64 q.pr) ∧ w'.cell? ⟨w.heap.size, 4, none⟩ = some (.int .i64 q.se) :=
          fun w' hw => ⟨(hw.cell (p := ⟨w.heap.size, 0, none⟩) hlow).trans e0, (hw.cell (p := ⟨w.heap.size, 1, none⟩) hlow).trans e1, (hw.cell (p := ⟨w.heap.size, 2, none⟩) hlow).trans e2, (hw.cell (p := ⟨w.heap.size, 3, none⟩) hlow).trans e3, (hw.cell (p := ⟨w.heap.size, 4, none⟩) hlow).trans e4⟩
        have hbA1 : ∀ o, Below V.heap.size V (V.alloc o).drew := fun o => ((Below.refl _ _).alloc (Nat.le_refl _) o).drew
        have hbA2 : ∀ o o', Below V.heap.size V ((V.alloc o).alloc o').drew := fun o o' => (((Below.refl _ _).alloc (Nat.le_refl _) o).alloc (by simp) o').drew
        have hS1 : ∀ o, _ := fun o => hS _ (hbA1 o)
        have hS2 : ∀ o o', _ := fun o o' => hS _ (hbA2 o o')
        have hSw : ∀ w' o, Below V.heap.size V w' → _ := fun w' o hw => hS (w'.alloc o) (hw.alloc hw.size o)
        have hbv : base ≤ V.heap.size := Nat.le_trans hbase b1.size
        have hrE : V.heap.size ≤ V.heap.size := Nat.le_refl _
        have hr1 : (V.alloc (.cells #[] 53)).drew.ownsRow V.heap.size 53 5 (.slice (some ⟨V.heap.size, 0, none⟩) 0 0) 0 [] := row_empty V 53 5 V.heap.size (Nat.le_refl _)
        have hr2 : ((V.alloc (.cells #[] 53)).alloc (.cells #[.int .i64 q.x, .int .i64 q.y, .int .i64 q.st, .int .i64 q.pr, .int .i64 q.se] 53)).drew.ownsRow V.heap.size 53 5 (.slice (some ⟨V.heap.size, 0, none⟩) 0 0) 0 [] := (row_empty V 53 5 V.heap.size (Nat.le_refl _)).alloc _
        have hr3 : ((V.alloc (.cells #[.int .i64 q.x, .int .i64 q.y, .int .i64 q.st, .int .i64 q.pr, .int .i64 q.se] 53)).alloc (.cells #[] 53)).drew.ownsRow V.heap.size 53 5 (.slice (some ⟨V.heap.size + 1, 0, none⟩) 0 0) 0 [] := row_empty2 V _ 53 5 V.heap.size (Nat.le_refl _)
        have hk2 : ∀ j u, (rowV q)[j]? = some u → ((V.alloc (.cells #[] 53)).alloc (.cells #[.int .i64 q.x, .int .i64 q.y, .int .i64 q.st, .int .i64 q.pr, .int .i64 q.se] 53)).drew.cell? ((⟨V.heap.size + 1, 0, none⟩ : Addr).add j) = some u := fun j u h => cells_heap (w := (V.alloc (.cells #[] 53)).alloc (.cells #[.int .i64 q.x, .int .i64 q.y, .int .i64 q.st, .int .i64 q.pr, .int .i64 q.se] 53)) (heap_next V (.cells #[] 53) (.cells #[.int .i64 q.x, .int .i64 q.y, .int .i64 q.st, .int .i64 q.pr, .int .i64 q.se] 53)) j u h
        have hk3 : ∀ j u, (rowV q)[j]? = some u → ((V.alloc (.cells #[.int .i64 q.x, .int .i64 q.y, .int .i64 q.st, .int .i64 q.pr, .int .i64 q.se] 53)).alloc (.cells #[] 53)).drew.cell? ((⟨V.heap.size, 0, none⟩ : Addr).add j) = some u := fun j u h => cells_heap (w := (V.alloc (.cells #[.int .i64 q.x, .int .i64 q.y, .int .i64 q.st, .int .i64 q.pr, .int .i64 q.se] 53)).alloc (.cells #[] 53)) (heap_new2 V (.cells #[.int .i64 q.x, .int .i64 q.y, .int .i64 q.st, .int .i64 q.pr, .int .i64 q.se] 53) (.cells #[] 53)) j u h
        rcases hVr.2 with ⟨hnil, hz⟩ | ⟨g, cap', cur, hsl, -, hbk, -⟩
        · simp only [Value.slice.injEq] at hnil
          obtain ⟨rfl, hl0, rfl⟩ := hnil
          obtain rfl : L = [] := List.length_eq_zero_iff.1 hl0
          go_region_held3 (fun w' => w'.cell? ⟨w.heap.size, 0, none⟩ = some (.int .i64 q.x) ∧ w'.cell? ⟨w.heap.size, 1, none⟩ = some (.int .i64 q.y) ∧ w'.cell? ⟨w.heap.size, 2, none⟩ = some (.int .i64 q.st) ∧ w'.cell? ⟨w.heap.size, 3, none⟩ = some (.int .i64 q.pr) ∧ w'.cell? ⟨w.heap.size, 4, none⟩ = some (.int .i64 q.se))
            (first | (exact hS _ (by assumption)) | (exact hS1 _) | (exact hS2 _ _) | (exact hSw _ _ (by assumption)))
            (first
              | (refine step_append_own rfl _ _ 48 rfl V.heap.size 53 i0 (.agg #[.int .i64 0, .int .i64 0, .int .i64 0, .int .i64 0, .int .i64 0]) 5 40 Try.underlying48 hi hz0 hz1 hz2 rfl ?_ _ _ _ ?_ hr2 ⟨V.heap.size + 1, 0, none⟩ 1 1 (rowV q) ?_ rfl hk2 (rowV_one q) ?_ ?_ ?_ ?_; (decide); (simp [Act.eval, Act.put]); (simp [Act.eval, Act.put]); ((unfold maxLen; (try simp only [List.length_nil]); omega)); (((try simp only [List.length_nil]); omega)); ((have hz1 := hbV.size; (try have hz2 := hbw1.size); simp <;> omega)); intro v2 w2 hown2 hg2; have hb2 := (hbA2 (.cells #[] 53) (.cells #[.int .i64 q.x, .int .i64 q.y, .int .i64 q.st, .int .i64 q.pr, .int .i64 q.se] 53)).grown hg2 (by simp <;> omega) (fun j hj => by simp [Value.ownBlock] at hj <;> omega))
              | (refine step_append_own rfl _ _ 48 rfl V.heap.size 53 i0 (.agg #[.int .i64 0, .int .i64 0, .int .i64 0, .int .i64 0, .int .i64 0]) 5 40 Try.underlying48 hi hz0 hz1 hz2 rfl ?_ _ _ _ ?_ hr3 ⟨V.heap.size, 0, none⟩ 1 1 (rowV q) ?_ rfl hk3 (rowV_one q) ?_ ?_ ?_ ?_; (decide); (simp [Act.eval, Act.put]); (simp [Act.eval, Act.put]); ((unfold maxLen; (try simp only [List.length_nil]); omega)); (((try simp only [List.length_nil]); omega)); ((have hz1 := hbV.size; (try have hz2 := hbw1.size); simp <;> omega)); intro v2 w2 hown2 hg2; have hb2 := (hbA2 (.cells #[.int .i64 q.x, .int .i64 q.y, .int .i64 q.st, .int .i64 q.pr, .int .i64 q.se] 53) (.cells #[] 53)).grown hg2 (by simp <;> omega) (fun j hj => by simp [Value.ownBlock] at hj <;> omega)))
          all_goals
            go_wp2
            ((try simp only [Exit.inBlock, Exit.then]); refine bodyPost_ret (by simp [results, Try.results16, go_sem, hE]; try rfl) rfl ?_)
            rw [hE, hLL]
            refine ⟨_, rfl, ?_, .inr fun j hj => Nat.le_trans b1.size (hown2.lt j hj).1, b1.trans (hb2.mono b1.size)⟩
            unfold Rows5
            rw [rowsV_append, List.length_append]
            exact row_mono hown2 hbv
        · simp only [Value.slice.injEq, true_and] at hsl
          obtain ⟨rfl, rfl⟩ := hsl
          have hsrc : ∀ W', Below V.heap.size V W' → ∀ j v, (rowsV L)[j]? = some v → W'.cell? ((⟨g, 0, none⟩ : Addr).add j) = some v := fun W' hw j v hv => by
            have := hVr.cells (g := g) rfl j v hv
            exact (hw.cell (p := (⟨g, 0, none⟩ : Addr).add j) (lt_of_cell this)).trans this
          go_region_held3 (fun w' => w'.cell? ⟨w.heap.size, 0, none⟩ = some (.int .i64 q.x) ∧ w'.cell? ⟨w.heap.size, 1, none⟩ = some (.int .i64 q.y) ∧ w'.cell? ⟨w.heap.size, 2, none⟩ = some (.int .i64 q.st) ∧ w'.cell? ⟨w.heap.size, 3, none⟩ = some (.int .i64 q.pr) ∧ w'.cell? ⟨w.heap.size, 4, none⟩ = some (.int .i64 q.se))
            (first | (exact hS _ (by assumption)) | (exact hS1 _) | (exact hS2 _ _) | (exact hSw _ _ (by assumption)))
            (first
              | (refine step_append_own rfl _ _ 48 rfl V.heap.size 53 i0 (.agg #[.int .i64 0, .int .i64 0, .int .i64 0, .int .i64 0, .int .i64 0]) 5 40 Try.underlying48 hi hz0 hz1 hz2 rfl ?_ _ _ _ ?_ (hown1.alloc _) ⟨w1.heap.size, 0, none⟩ 1 1 (rowV q) ?_ rfl (cells_new w1 _ _) (rowV_one q) ?_ ?_ ?_ ?_; (decide); (simp [Act.eval, Act.put]); (simp [Act.eval, Act.put]); ((unfold maxLen; (try simp only [List.length_nil]); omega)); (((try simp only [List.length_nil]); omega)); ((have hz1 := hbV.size; (try have hz2 := hbw1.size); simp <;> omega)); intro v2 w2 hown2 hg2; have hb2 := (hbw1.alloc hbw1.size _).grown hg2 (by have := hbw1.size; first | omega | (simp; omega)) (fun j hj => (hown1.lt j hj).1))
              | (refine step_append_own rfl _ _ 48 rfl V.heap.size 53 i0 (.agg #[.int .i64 0, .int .i64 0, .int .i64 0, .int .i64 0, .int .i64 0]) 5 40 Try.underlying48 hi hz0 hz1 hz2 rfl ?_ _ _ _ ?_ hown1 ⟨V.heap.size + 1, 0, none⟩ 1 1 (rowV q) ?_ rfl hcw (rowV_one q) ?_ ?_ ?_ ?_; (decide); (simp [Act.eval, Act.put]); (simp [Act.eval, Act.put]); ((unfold maxLen; (try simp only [List.length_nil]); omega)); (((try simp only [List.length_nil]); omega)); ((have hz1 := hbV.size; (try have hz2 := hbw1.size); simp <;> omega)); intro v2 w2 hown2 hg2; have hb2 := (hbw1).grown hg2 (by have := hbw1.size; first | omega | (simp; omega)) (fun j hj => (hown1.lt j hj).1))
              | (refine step_append_own rfl _ _ 48 rfl V.heap.size 53 i0 (.agg #[.int .i64 0, .int .i64 0, .int .i64 0, .int .i64 0, .int .i64 0]) 5 40 Try.underlying48 hi hz0 hz1 hz2 rfl ?_ _ _ _ ?_ hown1 ⟨V.heap.size, 0, none⟩ 1 1 (rowV q) ?_ rfl hcw (rowV_one q) ?_ ?_ ?_ ?_; (decide); (simp [Act.eval, Act.put]); (simp [Act.eval, Act.put]); ((unfold maxLen; (try simp only [List.length_nil]); omega)); (((try simp only [List.length_nil]); omega)); ((have hz1 := hbV.size; (try have hz2 := hbw1.size); simp <;> omega)); intro v2 w2 hown2 hg2; have hb2 := (hbw1).grown hg2 (by have := hbw1.size; first | omega | (simp; omega)) (fun j hj => (hown1.lt j hj).1))
              | (refine step_append_own rfl _ _ 48 rfl V.heap.size 53 i0 (.agg #[.int .i64 0, .int .i64 0, .int .i64 0, .int .i64 0, .int .i64 0]) 5 40 Try.underlying48 hi hz0 hz1 hz2 rfl ?_ _ _ _ ?_ hr1 ⟨g, 0, none⟩ L.length capu (rowsV L) ?_ (rowsV_len L) (hsrc _ (hbA1 (.cells #[] 53))) (rowsV_one L) ?_ ?_ ?_ ?_; (decide); (simp [Act.eval, Act.put]); (simp [Act.eval, Act.put]); ((unfold maxLen; (try simp only [List.length_nil]); omega)); (((try simp only [List.length_nil]); omega)); ((have hz1 := hbV.size; (try have hz2 := hbw1.size); simp <;> omega)); intro v1 w1 hown1 hg1; have hbw1 := (hbA1 (.cells #[] 53)).grown hg1 (by simp <;> omega) (fun j hj => by simp [Value.ownBlock] at hj <;> omega))
              | (refine step_append_own rfl _ _ 48 rfl V.heap.size 53 i0 (.agg #[.int .i64 0, .int .i64 0, .int .i64 0, .int .i64 0, .int .i64 0]) 5 40 Try.underlying48 hi hz0 hz1 hz2 rfl ?_ _ _ _ ?_ hr2 ⟨g, 0, none⟩ L.length capu (rowsV L) ?_ (rowsV_len L) (hsrc _ (hbA2 (.cells #[] 53) (.cells #[.int .i64 q.x, .int .i64 q.y, .int .i64 q.st, .int .i64 q.pr, .int .i64 q.se] 53))) (rowsV_one L) ?_ ?_ ?_ ?_; (decide); (simp [Act.eval, Act.put]); (simp [Act.eval, Act.put]); ((unfold maxLen; (try simp only [List.length_nil]); omega)); (((try simp only [List.length_nil]); omega)); ((have hz1 := hbV.size; (try have hz2 := hbw1.size); simp <;> omega)); intro v1 w1 hown1 hg1; have hbw1 := (hbA2 (.cells #[] 53) (.cells #[.int .i64 q.x, .int .i64 q.y, .int .i64 q.st, .int .i64 q.pr, .int .i64 q.se] 53)).grown hg1 (by simp <;> omega) (fun j hj => by simp [Value.ownBlock] at hj <;> omega); have hcw := cells_grown (w := ((V.alloc (.cells #[] 53)).alloc (.cells #[.int .i64 q.x, .int .i64 q.y, .int .i64 q.st, .int .i64 q.pr, .int .i64 q.se] 53)).drew) (heap_next V (.cells #[] 53) (.cells #[.int .i64 q.x, .int .i64 q.y, .int .i64 q.st, .int .i64 q.pr, .int .i64 q.se] 53)) hg1 (by simp [Value.ownBlock]))
              | (refine step_append_own rfl _ _ 48 rfl V.heap.size 53 i0 (.agg #[.int .i64 0, .int .i64 0, .int .i64 0, .int .i64 0, .int .i64 0]) 5 40 Try.underlying48 hi hz0 hz1 hz2 rfl ?_ _ _ _ ?_ hr3 ⟨g, 0, none⟩ L.length capu (rowsV L) ?_ (rowsV_len L) (hsrc _ (hbA2 (.cells #[.int .i64 q.x, .int .i64 q.y, .int .i64 q.st, .int .i64 q.pr, .int .i64 q.se] 53) (.cells #[] 53))) (rowsV_one L) ?_ ?_ ?_ ?_; (decide); (simp [Act.eval, Act.put]); (simp [Act.eval, Act.put]); ((unfold maxLen; (try simp only [List.length_nil]); omega)); (((try simp only [List.length_nil]); omega)); ((have hz1 := hbV.size; (try have hz2 := hbw1.size); simp <;> omega)); intro v1 w1 hown1 hg1; have hbw1 := (hbA2 (.cells #[.int .i64 q.x, .int .i64 q.y, .int .i64 q.st, .int .i64 q.pr, .int .i64 q.se] 53) (.cells #[] 53)).grown hg1 (by simp <;> omega) (fun j hj => by simp [Value.ownBlock] at hj <;> omega); have hcw := cells_grown (w := ((V.alloc (.cells #[.int .i64 q.x, .int .i64 q.y, .int .i64 q.st, .int .i64 q.pr, .int .i64 q.se] 53)).alloc (.cells #[] 53)).drew) (heap_new2 V (.cells #[.int .i64 q.x, .int .i64 q.y, .int .i64 q.st, .int .i64 q.pr, .int .i64 q.se] 53) (.cells #[] 53)) hg1 (by simp [Value.ownBlock])))
          all_goals
            go_wp2
            ((try simp only [Exit.inBlock, Exit.then]); refine bodyPost_ret (by simp [results, Try.results16, go_sem, hE]; try rfl) rfl ?_)
            (try rw [hE]); (try rw [hLL])
            refine ⟨_, rfl, ?_, .inr fun j hj => Nat.le_trans b1.size (hown2.lt j hj).1, b1.trans (hb2.mono b1.size)⟩
            unfold Rows5
            rw [rowsV_append, List.length_append]
            rw [Nat.zero_add, List.nil_append] at hown2
            exact row_mono hown2 hbv
theorem ladd_any {w : World} {base : Nat} {u : Value} {L : List PRow} (q : PRow) (h6 : L.length ≤ 6) (hbase : base ≤ w.heap.size) (h : Rows5 w base u L) :
    Calls Try.prog 16 #[u, .agg #[.int .i64 q.x, .int .i64 q.y, .int .i64 q.st, .int .i64 q.pr, .int .i64 q.se]] w fun e w' => ∃ u', e = .returned (.tuple #[u', .int .i64 (addE L q)]) ∧ Rows5 w' base u' (addL L q) ∧ (u' = u ∨ ∀ g, u'.ownBlock = some g → w.heap.size ≤ g) ∧ Below w.heap.size w w' := by
  by_cases hin : InR q
  · exact ladd_in q h6 hbase hin h
  · exact ladd_out q h6 hbase hin h
end Go.Proofs.Ytenngklohffoaaa
