/- A line is read: the program's Parse. No conditions. -/
import Derived.Test.YtdhdkfnmbdejbaaDoorSgM
namespace Go.Proofs.YtdhdkfnmbdejbaaDoor
set_option linter.unusedVariables false
set_option linter.unusedSimpArgs false
open Go.RowKit

theorem fldZ_len (n : Int) : (fldZ n).length ≤ 100 := by
  unfold fldZ
  split
  · rename_i h
    have : ∀ k : Fin 15, (flds.getD k.1 []).length ≤ 100 := by decide
    exact this ⟨n.toNat - 1, by omega⟩
  · exact Nat.zero_le _
set_option maxRecDepth 100000 in
set_option maxHeartbeats 8000000 in
theorem parse_any (line : ByteArray) (w : World) : Calls Tryd.prog 7 #[.string line] w fun e w' => ActR (parseP line) e ∧ Below w.heap.size w w' := by
  obtain ⟨R, hR⟩ : ∃ R, parseP line = R := ⟨_, rfl⟩
  rw [hR]
  have hcut := fun W => cut_line line W
  go_enter Tryd.func7, Tryd.ntmps7
  go_wp2_with (go_at_call 19; (with_reducible refine (hcut _).mono ?_); rintro e w1 ⟨hC, hb⟩; have hown := own_below (own_new w ActP.zero.cs 23) hb; have hb1 : Below w.heap.size w w1 := (below_alloc (Below.refl _ w) _).trans (hb.mono (by simp)); obtain ⟨q0, q1, q2, q3, q4, q5, qf⟩ := ActAt.at hown; rcases hC with ⟨hs, rfl⟩ | ⟨hs, hf, rfl⟩ | ⟨hs, c, xs, g, cap, hf, rfl, hcell, hcap, hmax, hgl, hgs⟩)
  · have hRv : R = (ActP.zero, 11) := by rw [← hR]; unfold parseP; rw [if_pos hs]
    have h6 := own_six hown 0 0 0 0 0 ⟨#[]⟩
    have hb6 := below_six hb1 (Nat.le_refl w.heap.size) (.int .i64 0) (.int .i64 0) (.int .i64 0) (.int .i64 0) (.int .i64 0) (.string ⟨#[]⟩)
    clear q0 q1 q2 q3 q4 q5 qf
    obtain ⟨q0, q1, q2, q3, q4, q5, qf⟩ := ActAt.at h6
    dsimp only at q0 q1 q2 q3 q4 q5
    generalize ((((((w1.setCell ⟨w.heap.size, 0, none⟩ (.int .i64 0)).setCell ⟨w.heap.size, 1, none⟩ (.int .i64 0)).setCell ⟨w.heap.size, 2, none⟩ (.int .i64 0)).setCell ⟨w.heap.size, 3, none⟩ (.int .i64 0)).setCell ⟨w.heap.size, 4, none⟩ (.int .i64 0)).setCell ⟨w.heap.size, 5, none⟩ (.string ⟨#[]⟩)) = w2 at *
    ((try simp only [Exit.inBlock, Exit.then]); refine bodyPost_ret (by simp [results, Tryd.results7, go_sem, q0, q1, q2, q3, q4, q5]; try rfl) rfl ?_)
    rw [hRv]
    exact ⟨rfl, hb6⟩
  · have hRv : R = (ActP.zero, 8) := by rw [← hR]; unfold parseP; rw [if_neg (by omega), hf]; rfl
    have h6 := own_six hown 0 0 0 0 0 ⟨#[]⟩
    have hb6 := below_six hb1 (Nat.le_refl w.heap.size) (.int .i64 0) (.int .i64 0) (.int .i64 0) (.int .i64 0) (.int .i64 0) (.string ⟨#[]⟩)
    clear q0 q1 q2 q3 q4 q5 qf
    obtain ⟨q0, q1, q2, q3, q4, q5, qf⟩ := ActAt.at h6
    dsimp only at q0 q1 q2 q3 q4 q5
    generalize ((((((w1.setCell ⟨w.heap.size, 0, none⟩ (.int .i64 0)).setCell ⟨w.heap.size, 1, none⟩ (.int .i64 0)).setCell ⟨w.heap.size, 2, none⟩ (.int .i64 0)).setCell ⟨w.heap.size, 3, none⟩ (.int .i64 0)).setCell ⟨w.heap.size, 4, none⟩ (.int .i64 0)).setCell ⟨w.heap.size, 5, none⟩ (.string ⟨#[]⟩)) = w2 at *
    ((try simp only [Exit.inBlock, Exit.then]); refine bodyPost_ret (by simp [results, Tryd.results7, go_sem, q0, q1, q2, q3, q4, q5]; try rfl) rfl ?_)
    rw [hRv]
    exact ⟨rfl, hb6⟩
  · have hkd := fun W => kindOf_any (tx c) W
    have hRv : R = if kindP (tx c) = 0 then (ActP.zero, 70) else fillP (kindP (tx c)) (fldZ (kindP (tx c))) (xs.map tx) := by rw [← hR]; unfold parseP; rw [if_neg (by omega), hf]; rfl
    have hmem : ∀ l ∈ xs.map tx, l.size ≤ 1000000 := by
      intro l hl
      obtain ⟨x, hx, rfl⟩ := List.mem_map.1 hl
      have := fields_mem line.data.toList x (by rw [hf]; exact List.mem_cons_of_mem _ hx)
      rw [tx_size]
      rw [size_list] at this
      omega
    have hT := tail_txt hcell hcap hmax
    rw [List.length_map] at hT
    have hcl : (xs.length : Int) + 1 ≤ (cap : Int) := by simp only [List.length_cons] at hcap; omega
    have hcap1 : xs.length + 1 ≤ cap := by simpa using hcap
    have hmx : xs.length < 9223372036854775807 := by unfold maxLen at hmax; omega
    clear hR hf
    generalize kindP (tx c) = k at *
    by_cases hk : k = 0
    · have hk' : (k == 0) = true := by rw [beq_iff_eq]; exact hk
      rw [if_pos hk] at hRv
      clear hk hcell
      go_wp2_with (go_at_call 20; (with_reducible refine (hkd _).mono ?_); rintro e wk ⟨rfl, hw⟩; obtain rfl := hw)
      have h6 := own_six hown 0 0 0 0 0 ⟨#[]⟩
      have hb6 := below_six hb1 (Nat.le_refl w.heap.size) (.int .i64 0) (.int .i64 0) (.int .i64 0) (.int .i64 0) (.int .i64 0) (.string ⟨#[]⟩)
      clear q0 q1 q2 q3 q4 q5 qf
      obtain ⟨q0, q1, q2, q3, q4, q5, qf⟩ := ActAt.at h6
      dsimp only at q0 q1 q2 q3 q4 q5
      generalize ((((((w1.setCell ⟨w.heap.size, 0, none⟩ (.int .i64 0)).setCell ⟨w.heap.size, 1, none⟩ (.int .i64 0)).setCell ⟨w.heap.size, 2, none⟩ (.int .i64 0)).setCell ⟨w.heap.size, 3, none⟩ (.int .i64 0)).setCell ⟨w.heap.size, 4, none⟩ (.int .i64 0)).setCell ⟨w.heap.size, 5, none⟩ (.string ⟨#[]⟩)) = w2 at *
      ((try simp only [Exit.inBlock, Exit.then]); refine bodyPost_ret (by simp [results, Tryd.results7, go_sem, q0, q1, q2, q3, q4, q5]; try rfl) rfl ?_)
      rw [hRv]
      exact ⟨rfl, hb6⟩
    · have hk' : (k == 0) = false := by rw [beq_eq_false_iff_ne]; exact hk
      rw [if_neg hk] at hRv
      have hfm := fun W => form_any k W
      by_cases hc1 : cap = 1
      · subst hc1
        have hx0 : xs.length = 0 := by omega
        have hT0 : TxtAt w1 (.slice (some ⟨g, 0, none⟩) xs.length 0) (xs.map tx) := ⟨_, _, by rw [List.length_map], by rw [List.length_map]; omega, Nat.zero_le _, fun i hi => by rw [List.length_map] at hi; omega⟩
        have hfill := fun W hW => fill_any (W := W) (kind := k) (fs := fldZ k) (ls := xs.map tx) (v := .slice (some ⟨g, 0, none⟩) xs.length 0) hW (fldZ_len k) hmem
        generalize fillP k (fldZ k) (xs.map tx) = P at *
        obtain ⟨⟨ak, as_, ax, ay, az, adt⟩, er⟩ := P
        have hfill2 : ∀ W, TxtAt W (.slice (some ⟨g, 0, none⟩) xs.length 0) (xs.map tx) → Calls Tryd.prog 22 #[.int .i64 k, .string (tx (fldZ k)), .slice (some ⟨g, 0, none⟩) xs.length 0] W fun e w' => e = .returned (.tuple #[.agg #[.int .i64 ak, .int .i64 as_, .int .i64 ax, .int .i64 ay, .int .i64 az, .string adt], .int .i64 er]) ∧ Below W.heap.size W w' := hfill
        clear hfill hk hcell hx0 hcap1 hcap hcl
        go_wp2_with (first
          | (go_at_call 20; (with_reducible refine (hkd _).mono ?_); rintro e wk ⟨rfl, hw⟩; obtain rfl := hw)
          | (go_at_call 21; (with_reducible refine (hfm _).mono ?_); rintro e wk ⟨rfl, hw⟩; obtain rfl := hw)
          | (go_at_call 22; go_loud (refine (hfill2 _ hT0).mono ?_); rintro e w4 ⟨rfl, hb4⟩; have hown4 := own_below hown hb4; have hb5 := hb1.trans (hb4.mono hb1.size); clear q0 q1 q2 q3 q4 q5 qf; obtain ⟨q0, q1, q2, q3, q4, q5, qf⟩ := ActAt.at hown4))
        have h6 := own_six hown4 ak as_ ax ay az adt
        have hb6 := below_six hb5 (Nat.le_refl w.heap.size) (.int .i64 ak) (.int .i64 as_) (.int .i64 ax) (.int .i64 ay) (.int .i64 az) (.string adt)
        clear q0 q1 q2 q3 q4 q5 qf
        obtain ⟨q0, q1, q2, q3, q4, q5, qf⟩ := ActAt.at h6
        dsimp only at q0 q1 q2 q3 q4 q5
        generalize ((((((w4.setCell ⟨w.heap.size, 0, none⟩ (.int .i64 ak)).setCell ⟨w.heap.size, 1, none⟩ (.int .i64 as_)).setCell ⟨w.heap.size, 2, none⟩ (.int .i64 ax)).setCell ⟨w.heap.size, 3, none⟩ (.int .i64 ay)).setCell ⟨w.heap.size, 4, none⟩ (.int .i64 az)).setCell ⟨w.heap.size, 5, none⟩ (.string adt)) = w2 at *
        ((try simp only [Exit.inBlock, Exit.then]); refine bodyPost_ret (by simp [results, Tryd.results7, go_sem, q0, q1, q2, q3, q4, q5]; try rfl) rfl ?_)
        rw [hRv]
        exact ⟨rfl, hb6⟩
      · have hc2 : cap - 1 ≠ 0 := by omega
        have hfill := fun W hW => fill_any (W := W) (kind := k) (fs := fldZ k) (ls := xs.map tx) (v := .slice (some ⟨g, 1, none⟩) xs.length (cap - 1)) hW (fldZ_len k) hmem
        generalize fillP k (fldZ k) (xs.map tx) = P at *
        obtain ⟨⟨ak, as_, ax, ay, az, adt⟩, er⟩ := P
        have hfill2 : ∀ W, TxtAt W (.slice (some ⟨g, 1, none⟩) xs.length (cap - 1)) (xs.map tx) → Calls Tryd.prog 22 #[.int .i64 k, .string (tx (fldZ k)), .slice (some ⟨g, 1, none⟩) xs.length (cap - 1)] W fun e w' => e = .returned (.tuple #[.agg #[.int .i64 ak, .int .i64 as_, .int .i64 ax, .int .i64 ay, .int .i64 az, .string adt], .int .i64 er]) ∧ Below W.heap.size W w' := hfill
        clear hfill hk hcell
        go_wp2_with (first
          | (go_at_call 20; (with_reducible refine (hkd _).mono ?_); rintro e wk ⟨rfl, hw⟩; obtain rfl := hw)
          | (go_at_call 21; (with_reducible refine (hfm _).mono ?_); rintro e wk ⟨rfl, hw⟩; obtain rfl := hw)
          | (go_at_call 22; (with_reducible refine (hfill2 _ hT).mono ?_); rintro e w4 ⟨rfl, hb4⟩; have hown4 := own_below hown hb4; have hb5 := hb1.trans (hb4.mono hb1.size); clear q0 q1 q2 q3 q4 q5 qf; obtain ⟨q0, q1, q2, q3, q4, q5, qf⟩ := ActAt.at hown4))
        have h6 := own_six hown4 ak as_ ax ay az adt
        have hb6 := below_six hb5 (Nat.le_refl w.heap.size) (.int .i64 ak) (.int .i64 as_) (.int .i64 ax) (.int .i64 ay) (.int .i64 az) (.string adt)
        clear q0 q1 q2 q3 q4 q5 qf
        obtain ⟨q0, q1, q2, q3, q4, q5, qf⟩ := ActAt.at h6
        dsimp only at q0 q1 q2 q3 q4 q5
        generalize ((((((w4.setCell ⟨w.heap.size, 0, none⟩ (.int .i64 ak)).setCell ⟨w.heap.size, 1, none⟩ (.int .i64 as_)).setCell ⟨w.heap.size, 2, none⟩ (.int .i64 ax)).setCell ⟨w.heap.size, 3, none⟩ (.int .i64 ay)).setCell ⟨w.heap.size, 4, none⟩ (.int .i64 az)).setCell ⟨w.heap.size, 5, none⟩ (.string adt)) = w2 at *
        ((try simp only [Exit.inBlock, Exit.then]); refine bodyPost_ret (by simp [results, Tryd.results7, go_sem, q0, q1, q2, q3, q4, q5]; try rfl) rfl ?_)
        rw [hRv]
        exact ⟨rfl, hb6⟩
end Go.Proofs.YtdhdkfnmbdejbaaDoor
