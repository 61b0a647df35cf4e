/- A line is read: the reference's Parse. No conditions. -/
import Derived.Test.YtdhdkfnmbdejbaaDoorSgM
import Derived.Test.YtdhdkfnmbdejbaaDoorSgL
import Derived.Deep.RegionWith
namespace Go.Proofs.YtdhdkfnmbdejbaaDoor
set_option linter.unusedVariables false
set_option linter.unusedSimpArgs false
open Go.RowKit

def cmdA : Array Value := (cmds.map fun l => Value.string (tx l)).toArray
def fldA : Array Value := (flds.map fun l => Value.string (tx (upL l))).toArray
theorem commands_any (w : World) : Calls Tryd.prog 24 #[] w fun e w' => e = .returned (.slice (some ⟨w.heap.size, 0, none⟩) 15 15) ∧ w.alloc (.cells cmdA 9) = w' := by
  go_enter Tryd.func24, Tryd.ntmps24
  go_wp2
  go_ret
  exact ⟨rfl, rfl⟩
theorem words_any (w : World) : Calls Tryd.prog 11 #[] w fun e w' => e = .returned (.slice (some ⟨w.heap.size, 0, none⟩) 15 15) ∧ w.alloc (.cells fldA 9) = w' := by
  go_enter Tryd.func11, Tryd.ntmps11
  go_wp2
  go_ret
  exact ⟨rfl, rfl⟩
theorem cmdA_at (i : Nat) (h : i < 15) : cmdA[i]? = some (.string (tx (cmdZ ((i : Int) + 1)))) := by
  have e : cmdZ ((i : Int) + 1) = cmds.getD i [] := by
    unfold cmdZ; rw [if_pos ⟨by omega, by omega⟩, show ((i : Int) + 1).toNat - 1 = i by omega]
  rw [e]
  have hl : cmds.length = 15 := rfl
  unfold cmdA
  rw [List.getElem?_toArray, List.getElem?_map, List.getElem?_eq_getElem (by omega), List.getD_eq_getElem?_getD, List.getElem?_eq_getElem (by omega)]
  rfl
theorem fldA_at (i : Nat) (h : i < 15) : fldA[i]? = some (.string (tx (upL (fldZ ((i : Int) + 1))))) := by
  have e : fldZ ((i : Int) + 1) = flds.getD i [] := by
    unfold fldZ; rw [if_pos ⟨by omega, by omega⟩, show ((i : Int) + 1).toNat - 1 = i by omega]
  rw [e]
  have hl : flds.length = 15 := rfl
  unfold fldA
  rw [List.getElem?_toArray, List.getElem?_map, List.getElem?_eq_getElem (by omega), List.getD_eq_getElem?_getD, List.getElem?_eq_getElem (by omega)]
  rfl
theorem form_ok (n : Int) : FormOk (fldZ n) := by
  unfold fldZ
  split
  · rename_i h
    have : ∀ k : Fin 15, ∀ i : Fin 4, ∀ hi : i.1 < (flds.getD k.1 []).length, ((flds.getD k.1 [])[i.1] = 115 ∧ i.1 = 0) ∨ (flds.getD k.1 [])[i.1] = 120 ∨ (flds.getD k.1 [])[i.1] = 121 ∨ (flds.getD k.1 [])[i.1] = 122 ∨ (flds.getD k.1 [])[i.1] = 100 := by decide
    have hlen : ∀ k : Fin 15, (flds.getD k.1 []).length ≤ 4 := by decide
    intro i hi
    have hl := hlen ⟨n.toNat - 1, by omega⟩
    exact this ⟨n.toNat - 1, by omega⟩ ⟨i, by dsimp only at hl; omega⟩ hi
  · intro i hi; cases hi
theorem sl_one (g n : Nat) (W : World) : (Instr.slice 32 (.slice (some ⟨g, 0, none⟩) (n + 1) 1) (some (.int .i64 1)) none none).run Tryd.prog W = .ok (.slice (some ⟨g, 0, none⟩) n 0) W := by
  have h : (1 : Int) ≤ ((n + 1 : Nat) : Int) := by omega
  simp [go_sem, h]
  omega
theorem sl_tail (g n cap : Nat) (hc : ¬ cap = 1) (W : World) : (Instr.slice 32 (.slice (some ⟨g, 0, none⟩) (n + 1) cap) (some (.int .i64 1)) none none).run Tryd.prog W = .ok (.slice (some ⟨g, 1, none⟩) n (cap - 1)) W := by
  have h : (1 : Int) ≤ ((n + 1 : Nat) : Int) := by omega
  simp [go_sem, h, hc]
  omega
/-- the next number, kept -/
def WrapOk (i : Nat) : Prop := IntKind.i64.wrap ((i : Int) + 1) = (i : Int) + 1
/-- the round's bounds, kept -/
def Keep2 (i g : Nat) : Prop := i + 1 ≤ 15 ∧ 15 ≤ i + 1 + g
/-- none of the first commands -/
def NoCmd (i : Nat) (s : ByteArray) : Prop := ∀ j : Nat, j < i → tx (cmdZ ((j : Int) + 1)) ≠ s
theorem drewN_add (w : World) (a b : Nat) : (w.drewN a).drewN b = w.drewN (a + b) := by simp [World.drewN, Nat.add_assoc]
theorem fldZ_len (n : Int) : (fldZ n).length ≤ 100 := by
  unfold fldZ
  split
  · rename_i h
    have : ∀ k : Fin 15, (flds.getD k.1 []).length ≤ 100 := by decide
    exact this ⟨n.toNat - 1, by omega⟩
  · exact Nat.zero_le _
set_option maxRecDepth 100000 in
set_option maxHeartbeats 8000000 in
theorem rparse_any (line : ByteArray) (w : World) : Calls Tryd.prog 8 #[.string line] w fun e w' => ActR (parseP line) e ∧ Below w.heap.size w w' := by
  obtain ⟨R, hR⟩ : ∃ R, parseP line = R := ⟨_, rfl⟩
  rw [hR]
  by_cases h1 : 1600 < line.size
  · have i1 : (1600 : Int) < (line.size : Int) := by omega
    have hRv : R = (ActP.zero, 11) := by rw [← hR]; unfold parseP; rw [if_pos h1]
    go_enter Tryd.func8, Tryd.ntmps8
    go_wp2
    ((try simp only [Exit.inBlock, Exit.then]); refine bodyPost_ret (by simp [results, Tryd.results8, go_sem, ActP.zero]; try rfl) rfl ?_)
    try rw [hRv]
    exact ⟨rfl, below_alloc (Below.refl _ _) _⟩
  · have i1 : (line.size : Int) ≤ 1600 := by omega
    have hf := fun W => rfields_any line (by omega) W
    by_cases h0 : fieldsL line.data.toList = []
    · rw [h0] at hf
      have hRv : R = (ActP.zero, 8) := by rw [← hR]; unfold parseP; rw [if_neg (by omega), h0]; rfl
      go_enter Tryd.func8, Tryd.ntmps8
      go_wp2_with (go_at_call 23; (with_reducible refine (hf _).mono ?_); rintro e w1 ⟨u, rfl, hrow, hb⟩; obtain ⟨pu, cu, rfl⟩ := row_slice hrow; have hown := own_below (own_new w ActP.zero.cs 23) hb; have hb1 : Below w.heap.size w w1 := (below_alloc (Below.refl _ w) _).trans (hb.mono (by simp)); obtain ⟨q0, q1, q2, q3, q4, q5, qf⟩ := ActAt.at hown)
      have h6 := own_six hown 0 0 0 0 0 ⟨#[]⟩
      have hb6 := below_six hb1 (Nat.le_refl w.heap.size) (.int .i64 0) (.int .i64 0) (.int .i64 0) (.int .i64 0) (.int .i64 0) (.string ⟨#[]⟩)
      clear q0 q1 q2 q3 q4 q5 qf
      obtain ⟨q0, q1, q2, q3, q4, q5, qf⟩ := ActAt.at h6
      dsimp only at q0 q1 q2 q3 q4 q5
      generalize ((((((w1.setCell ⟨w.heap.size, 0, none⟩ (.int .i64 0)).setCell ⟨w.heap.size, 1, none⟩ (.int .i64 0)).setCell ⟨w.heap.size, 2, none⟩ (.int .i64 0)).setCell ⟨w.heap.size, 3, none⟩ (.int .i64 0)).setCell ⟨w.heap.size, 4, none⟩ (.int .i64 0)).setCell ⟨w.heap.size, 5, none⟩ (.string ⟨#[]⟩)) = w2 at *
      ((try simp only [Exit.inBlock, Exit.then]); refine bodyPost_ret (by simp [results, Tryd.results8, go_sem, q0, q1, q2, q3, q4, q5]; try rfl) rfl ?_)
      rw [hRv]
      exact ⟨rfl, hb6⟩
    · obtain ⟨c, xs, hcx⟩ : ∃ c xs, fieldsL line.data.toList = c :: xs := by
        cases hq : fieldsL line.data.toList with
        | nil => exact absurd hq h0
        | cons c xs => exact ⟨c, xs, rfl⟩
      rw [hcx] at hf
      have hRv : R = if kindP (tx c) = 0 then (ActP.zero, 70) else fillP (kindP (tx c)) (fldZ (kindP (tx c))) (xs.map tx) := by rw [← hR]; unfold parseP; rw [if_neg (by omega), hcx]; rfl
      have hmem : ∀ l ∈ xs.map tx, l.size ≤ 1000000 := by
        intro l hl
        obtain ⟨x, hx, rfl⟩ := List.mem_map.1 hl
        have := fields_mem line.data.toList x (by rw [hcx]; exact List.mem_cons_of_mem _ hx)
        rw [tx_size]
        rw [size_list] at this
        omega
      clear h0 hR hcx
      have hN : (c :: xs).length = xs.length + 1 := rfl
      rw [hN] at hf
      go_enter Tryd.func8, Tryd.ntmps8
      go_wp2_with (first
        | (go_at_call 23; (with_reducible refine (hf _).mono ?_); rintro e w1 ⟨u, rfl, hrow, hb⟩; obtain ⟨g, cap, rfl⟩ := row_view hrow (Nat.succ_pos _); have hown := own_below (own_new w ActP.zero.cs 23) hb; have hb1 : Below w.heap.size w w1 := (below_alloc (Below.refl _ w) _).trans (hb.mono (by simp)); obtain ⟨hcell, hcap, hmax, hgl, hgs⟩ := row_txt (xs := c :: xs) hrow (Nat.succ_pos _))
        | (go_at_call 24; (with_reducible refine (commands_any _).mono ?_); rintro e w2 ⟨rfl, hw2⟩)
        | (go_at_call 11; (with_reducible refine (words_any _).mono ?_); rintro e w3 ⟨rfl, hw3⟩))
      have hC : ∀ i : Nat, i < 15 → w3.cell? ⟨w1.heap.size, i, none⟩ = some (.string (tx (cmdZ ((i : Int) + 1)))) := fun i hi => by
        have := ((own_alloc (own_new w1 cmdA 9) (.cells fldA 9)).2.1 i).trans (cmdA_at i hi)
        rw [hw2, hw3] at this
        exact this
      have hD : ∀ i : Nat, i < 15 → w3.cell? ⟨w2.heap.size, i, none⟩ = some (.string (tx (upL (fldZ ((i : Int) + 1))))) := fun i hi => by
        have := ((own_new w2 fldA 9).2.1 i).trans (fldA_at i hi)
        rw [hw3] at this
        exact this
      have hb3 : Below w.heap.size w w3 := by rw [← hw3, ← hw2]; exact below_alloc (below_alloc hb1 _) _
      have hown3 : Own w3 w.heap.size ActP.zero.cs := by rw [← hw3, ← hw2]; exact own_alloc (own_alloc hown _) _
      have hcell3 : ∀ (i : Nat) (hi : i < (c :: xs).length), w3.cell? ⟨g, i, none⟩ = some (.string (tx (c :: xs)[i])) := fun i hi => by
        rw [← hw3, ← hw2]; exact alloc_cell (alloc_cell (hcell i hi) _) _
      have hg0 := hcell3 0 (by simp)
      have hsz3 : w1.heap.size < w3.heap.size ∧ w2.heap.size < w3.heap.size := by rw [← hw3, World.size_alloc, ← hw2, World.size_alloc]; omega
      have hDne : ¬ w2.heap.size = w.heap.size := by have := hb1.size; have h5 : w2.heap.size = w1.heap.size + 1 := by rw [← hw2, World.size_alloc]
                                                     omega
      have hDne2 : ¬ w.heap.size = w2.heap.size := fun e => hDne e.symm
      clear hcell hw2 hw3 hf hrow hb hgl hgs hown
      have hcl : (xs.length : Int) + 1 ≤ (cap : Int) := by simp only [List.length_cons] at hcap; omega
      have hcap1 : xs.length + 1 ≤ cap := by simpa using hcap
      go_loopg [7] 15 (fun gf u7 wx => ∃ i q : Nat, u7 = .int .i64 i ∧ i ≤ 15 ∧ 15 ≤ i + gf ∧ NoCmd i (tx c) ∧ wx = w3.drewN q)
      case atStart => exact ⟨0, 0, rfl, by omega, by omega, (fun j h => by omega), rfl⟩
      case round =>
        obtain ⟨i, q, rfl, hi, hfu, hne, rfl⟩ := hrel
        by_cases hlt : i < 15
        · obtain ⟨g', rfl⟩ : ∃ g', gk = g' + 1 := ⟨gk - 1, by omega⟩
          have hi15 : (i : Int) < 15 := by omega
          have hnz : ¬ ((i : Int) + 1 = 0) := by omega
          have ha1 : i + 1 ≤ 15 := hlt
          have ha2 : 15 ≤ i + 1 + g' := by omega
          have hk2 : Keep2 i g' := ⟨ha1, ha2⟩
          have hk3 : WrapOk i := IntWalk.i64_in _ (by omega)
          have hw1 : wrap64 ((i : Int) + 1) = (i : Int) + 1 := IntWalk.wrap64_in _ (by omega)
          clear ha1 ha2 hfu hi
          have hci := hC i hlt
          have hdi := hD i hlt
          have hek := kind_some (s := tx c) hlt hne
          have hFk := form_ok ((i : Int) + 1)
          have heq := teq_dec (tx (cmdZ ((i : Int) + 1))) (tx c)
          by_cases hc : tx (cmdZ ((i : Int) + 1)) = tx c
          · rw [decide_eq_true hc] at heq
            have hk := hek hc
            rw [hk, if_neg hnz] at hRv
            clear hk
            clear hek hne hc hC hD hnz
            generalize tx (cmdZ ((i : Int) + 1)) = cc at hci heq
            by_cases hc1 : cap = 1
            · subst hc1
              have hx0 : xs.length = 0 := by omega
              have hTX : TxtAt w3 (.slice (some ⟨g, 0, none⟩) xs.length 0) (xs.map tx) := ⟨_, _, by rw [List.length_map], by rw [List.length_map]; omega, Nat.zero_le _, fun i hi => by rw [List.length_map] at hi; omega⟩
              have hsl := sl_one g xs.length
              clear hx0 hcap1 hcap hcl
              have hact := fun W hW => ract_any (W := W) (kind := (i : Int) + 1) (fs := fldZ ((i : Int) + 1)) (ls := xs.map tx) (v := .slice (some ⟨g, 0, none⟩) xs.length 0) hW hFk (fldZ_len _) hmem
              generalize tx (upL (fldZ ((i : Int) + 1))) = F at hact hdi
              obtain ⟨P, hP⟩ : ∃ P, fillP ((i : Int) + 1) (fldZ ((i : Int) + 1)) (xs.map tx) = P := ⟨_, rfl⟩
              rw [hP] at hact hRv
              obtain ⟨⟨ak, as_, ax, ay, az, adt⟩, er⟩ := P
              have hact2 : ∀ W, TxtAt W (.slice (some ⟨g, 0, none⟩) xs.length 0) (xs.map tx) → Calls Tryd.prog 25 #[.int .i64 ((i : Int) + 1), .string F, .slice (some ⟨g, 0, none⟩) xs.length 0] W fun e w' => e = .returned (.tuple #[.agg #[.int .i64 ak, .int .i64 as_, .int .i64 ax, .int .i64 ay, .int .i64 az, .string adt], .int .i64 er]) ∧ Below W.heap.size W w' := hact
              clear hact hP hFk hk2 hcell3
              go_wp2
              go_quiet (fail)
              have hown4 : Own ((w3.drewN q).drewN nq) w.heap.size ActP.zero.cs := own_drewN (own_drewN hown3 q) nq
              have hb4 : Below w.heap.size w ((w3.drewN q).drewN nq) := below_drewN (below_drewN hb3 q) nq
              have hT4 : TxtAt ((w3.drewN q).drewN nq).drew (.slice (some ⟨g, 0, none⟩) xs.length 0) (xs.map tx) := hTX.below (below_drewN (below_drewN (Below.refl _ w3) q) nq).drew
              have hd4 : ((w3.drewN q).drewN nq).cell? ⟨w2.heap.size, i, none⟩ = some (.string F) := hdi
              generalize ((w3.drewN q).drewN nq) = W4 at *
              clear hdi hTX hci heq hg0
              go_wp2
              clear hw1
              have hw5 : IntKind.i64.wrap ((i : Int) + 1) = (i : Int) + 1 := hk3
              go_region_with (first | (go_at_call 25; (with_reducible refine (hact2 _ hT4).mono ?_); rintro e w5 ⟨rfl, hb5⟩; have hown5 := own_below (own_drew hown4) hb5; have hb7 := hb4.drew.trans (hb5.mono hb4.size); have hd5 := old_cell hb5 hd4; obtain ⟨q0, q1, q2, q3, q4, q5, qf⟩ := ActAt.at hown5))
              all_goals go_wp2
              have h6 := own_six hown5 ak as_ ax ay az adt
              have hb6 := below_six hb7 (Nat.le_refl w.heap.size) (.int .i64 ak) (.int .i64 as_) (.int .i64 ax) (.int .i64 ay) (.int .i64 az) (.string adt)
              clear q0 q1 q2 q3 q4 q5 qf
              obtain ⟨q0, q1, q2, q3, q4, q5, qf⟩ := ActAt.at h6
              dsimp only at q0 q1 q2 q3 q4 q5
              generalize ((((((w5.setCell ⟨w.heap.size, 0, none⟩ (.int .i64 ak)).setCell ⟨w.heap.size, 1, none⟩ (.int .i64 as_)).setCell ⟨w.heap.size, 2, none⟩ (.int .i64 ax)).setCell ⟨w.heap.size, 3, none⟩ (.int .i64 ay)).setCell ⟨w.heap.size, 4, none⟩ (.int .i64 az)).setCell ⟨w.heap.size, 5, none⟩ (.string adt)) = w6 at *
              ((try simp only [Exit.inBlock, Exit.then]); refine bodyPost_ret (by simp [results, Tryd.results8, go_sem, q0, q1, q2, q3, q4, q5]; try rfl) rfl ?_)
              rw [hRv]
              exact ⟨rfl, hb6⟩
            · have hTX := tail_txt hcell3 hcap hmax
              rw [List.length_map] at hTX
              have hsl := sl_tail g xs.length cap hc1
              clear hc1
              have hact := fun W hW => ract_any (W := W) (kind := (i : Int) + 1) (fs := fldZ ((i : Int) + 1)) (ls := xs.map tx) (v := .slice (some ⟨g, 1, none⟩) xs.length (cap - 1)) hW hFk (fldZ_len _) hmem
              generalize tx (upL (fldZ ((i : Int) + 1))) = F at hact hdi
              obtain ⟨P, hP⟩ : ∃ P, fillP ((i : Int) + 1) (fldZ ((i : Int) + 1)) (xs.map tx) = P := ⟨_, rfl⟩
              rw [hP] at hact hRv
              obtain ⟨⟨ak, as_, ax, ay, az, adt⟩, er⟩ := P
              have hact2 : ∀ W, TxtAt W (.slice (some ⟨g, 1, none⟩) xs.length (cap - 1)) (xs.map tx) → Calls Tryd.prog 25 #[.int .i64 ((i : Int) + 1), .string F, .slice (some ⟨g, 1, none⟩) xs.length (cap - 1)] W fun e w' => e = .returned (.tuple #[.agg #[.int .i64 ak, .int .i64 as_, .int .i64 ax, .int .i64 ay, .int .i64 az, .string adt], .int .i64 er]) ∧ Below W.heap.size W w' := hact
              clear hact hP hFk hk2 hcell3
              go_wp2
              go_quiet (fail)
              have hown4 : Own ((w3.drewN q).drewN nq) w.heap.size ActP.zero.cs := own_drewN (own_drewN hown3 q) nq
              have hb4 : Below w.heap.size w ((w3.drewN q).drewN nq) := below_drewN (below_drewN hb3 q) nq
              have hT4 : TxtAt ((w3.drewN q).drewN nq).drew (.slice (some ⟨g, 1, none⟩) xs.length (cap - 1)) (xs.map tx) := hTX.below (below_drewN (below_drewN (Below.refl _ w3) q) nq).drew
              have hd4 : ((w3.drewN q).drewN nq).cell? ⟨w2.heap.size, i, none⟩ = some (.string F) := hdi
              generalize ((w3.drewN q).drewN nq) = W4 at *
              clear hdi hTX hci heq hg0
              go_wp2
              clear hw1
              have hw5 : IntKind.i64.wrap ((i : Int) + 1) = (i : Int) + 1 := hk3
              go_region_with (first | (go_at_call 25; (with_reducible refine (hact2 _ hT4).mono ?_); rintro e w5 ⟨rfl, hb5⟩; have hown5 := own_below (own_drew hown4) hb5; have hb7 := hb4.drew.trans (hb5.mono hb4.size); have hd5 := old_cell hb5 hd4; obtain ⟨q0, q1, q2, q3, q4, q5, qf⟩ := ActAt.at hown5))
              all_goals go_wp2
              have h6 := own_six hown5 ak as_ ax ay az adt
              have hb6 := below_six hb7 (Nat.le_refl w.heap.size) (.int .i64 ak) (.int .i64 as_) (.int .i64 ax) (.int .i64 ay) (.int .i64 az) (.string adt)
              clear q0 q1 q2 q3 q4 q5 qf
              obtain ⟨q0, q1, q2, q3, q4, q5, qf⟩ := ActAt.at h6
              dsimp only at q0 q1 q2 q3 q4 q5
              generalize ((((((w5.setCell ⟨w.heap.size, 0, none⟩ (.int .i64 ak)).setCell ⟨w.heap.size, 1, none⟩ (.int .i64 as_)).setCell ⟨w.heap.size, 2, none⟩ (.int .i64 ax)).setCell ⟨w.heap.size, 3, none⟩ (.int .i64 ay)).setCell ⟨w.heap.size, 4, none⟩ (.int .i64 az)).setCell ⟨w.heap.size, 5, none⟩ (.string adt)) = w6 at *
              ((try simp only [Exit.inBlock, Exit.then]); refine bodyPost_ret (by simp [results, Tryd.results8, go_sem, q0, q1, q2, q3, q4, q5]; try rfl) rfl ?_)
              rw [hRv]
              exact ⟨rfl, hb6⟩
          · rw [decide_eq_false hc] at heq
            have hne2 : NoCmd (i + 1) (tx c) := fun j h => (Nat.lt_succ_iff_lt_or_eq.1 h).elim (hne j) (fun e => e ▸ hc)
            clear hek hne hc hC hD hnz
            generalize tx (cmdZ ((i : Int) + 1)) = cc at hci heq
            go_wp2
            go_quiet (fail)
            go_wp2
            go_roundg g'
            case measure => exact Nat.lt_succ_self _
            case rel => exact ⟨i + 1, q + nq, by first | rfl | rw [hw1]; rfl, hk2.1, hk2.2, hne2, by first | rfl | exact drewN_add _ _ _⟩
        · obtain rfl : i = 15 := by omega
          have hk := kind_none hne
          rw [hk, if_pos rfl] at hRv
          obtain ⟨q0, q1, q2, q3, q4, q5, qf⟩ := ActAt.at hown3
          clear hne
          go_wp2
          have h6 := own_six (own_drewN hown3 q) 0 0 0 0 0 ⟨#[]⟩
          have hb6 := below_six (below_drewN hb3 q) (Nat.le_refl w.heap.size) (.int .i64 0) (.int .i64 0) (.int .i64 0) (.int .i64 0) (.int .i64 0) (.string ⟨#[]⟩)
          clear q0 q1 q2 q3 q4 q5 qf
          obtain ⟨q0, q1, q2, q3, q4, q5, qf⟩ := ActAt.at h6
          dsimp only at q0 q1 q2 q3 q4 q5
          generalize (((((((w3.drewN q).setCell ⟨w.heap.size, 0, none⟩ (.int .i64 0)).setCell ⟨w.heap.size, 1, none⟩ (.int .i64 0)).setCell ⟨w.heap.size, 2, none⟩ (.int .i64 0)).setCell ⟨w.heap.size, 3, none⟩ (.int .i64 0)).setCell ⟨w.heap.size, 4, none⟩ (.int .i64 0)).setCell ⟨w.heap.size, 5, none⟩ (.string ⟨#[]⟩)) = w6 at *
          ((try simp only [Exit.inBlock, Exit.then]); refine bodyPost_ret (by simp [results, Tryd.results8, go_sem, q0, q1, q2, q3, q4, q5]; try rfl) rfl ?_)
          rw [hRv]
          exact ⟨rfl, hb6⟩
end Go.Proofs.YtdhdkfnmbdejbaaDoor
