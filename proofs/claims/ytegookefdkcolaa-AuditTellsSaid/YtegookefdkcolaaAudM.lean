/- Audit: what two views do not agree in; how much may go; views as the document has them: trees. No conditions. -/
import Derived.Test.YtegookefdkcolaaAudL
namespace Go.Proofs.Ytegookefdkcolaa
set_option linter.unusedVariables false
set_option linter.unusedSimpArgs false
open Go.RowKit Sym Go.ChangeShapes Go.WideShapes Go.ChangeMaps

theorem eqIE_le (n : Nat) (g h : Nat → Int) : eqIE n g h ≤ n ∧ (∀ j, j < eqIE n g h → g j = h j) ∧ (eqIE n g h < n → ¬ g (eqIE n g h) = h (eqIE n g h)) := by
  obtain ⟨h1, h2, h3⟩ := firstOf_le (difI g h) n
  refine ⟨h1, fun j hj => ?_, fun h' => ?_⟩
  · have := h2 j hj
    unfold difI at this
    simpa using this
  · have h3 : difI g h (eqIE n g h) = true := h3 h'
    unfold difI at h3
    simpa using h3
set_option maxRecDepth 100000 in
theorem el_step (n m : Nat) (g h : Nat → Int) (hn : n ≤ maxLen) (hnm : n = m) : ∀ i : Nat, i ≤ eqIE n g h → i ≠ eqIE n g h → (roundM Try.prog (onlyS Try.prog noS) noL Try.f23.ntmps 0 (loopAt Try.f23 0) 2 [0, 1, 12, 13] [] [] (el_st n m g h (i : Nat))).ok fun r => r.1 = .normal ∧ ∃ j, j ≤ eqIE n g h ∧ eqIE n g h - j < eqIE n g h - i ∧ r.2 = el_st n m g h (j : Nat) := by
  intro i hi hne
  obtain ⟨h1, h2, -⟩ := eqIE_le n g h
  have h3 := h2 i (by omega)
  unfold maxLen at hn
  have e2 : IntKind.i64.wrap ((i : Int) + 1) = ((i + 1 : Nat) : Int) := by rw [w64i (by omega) (by omega)]; rfl
  have fin : ∃ j, j ≤ eqIE n g h ∧ eqIE n g h - j < eqIE n g h - i ∧ el_st n m g h ((i + 1 : Nat) : Int) = el_st n m g h (j : Nat) := ⟨i + 1, by omega, by omega, rfl⟩
  rw [el_round]
  simp only [Int.toNat_natCast, e2]
  exact t_ite (fun _ => t_need ⟨by omega, by omega⟩ (t_need (by omega) (t_need ⟨by omega, by omega⟩ (t_need (by omega) (t_ite (fun h => absurd (decide_eq_true h3) (not_b h)) fun _ => t_leaf ⟨rfl, fin⟩))))) fun h => absurd (show (i : Int) < n by omega) (of_decide_eq_false h)
set_option maxRecDepth 100000 in
theorem ei_step (n m : Nat) (g h : Nat → Int) (hn : n ≤ maxLen) (hnm : n = m) : ∀ i : Nat, i ≤ eqIE n g h → i ≠ eqIE n g h → (roundM Try.prog (onlyS Try.prog noS) noL Try.f6.ntmps 0 (loopAt Try.f6 0) 2 [0, 1, 5] [] [] (ei_st n m g h (i : Nat))).ok fun r => r.1 = .normal ∧ ∃ j, j ≤ eqIE n g h ∧ eqIE n g h - j < eqIE n g h - i ∧ r.2 = ei_st n m g h (j : Nat) := by
  intro i hi hne
  obtain ⟨h1, h2, -⟩ := eqIE_le n g h
  have h3 := h2 i (by omega)
  unfold maxLen at hn
  have e2 : IntKind.i64.wrap ((i : Int) + 1) = ((i + 1 : Nat) : Int) := by rw [w64i (by omega) (by omega)]; rfl
  have fin : ∃ j, j ≤ eqIE n g h ∧ eqIE n g h - j < eqIE n g h - i ∧ ei_st n m g h ((i + 1 : Nat) : Int) = ei_st n m g h (j : Nat) := ⟨i + 1, by omega, by omega, rfl⟩
  rw [ei_round]
  simp only [Int.toNat_natCast, e2]
  exact t_ite (fun _ => t_ite (fun _ => t_need ⟨by omega, by omega⟩ (t_need (by omega) (t_need ⟨by omega, by omega⟩ (t_need (by omega) (t_ite (fun h => absurd (decide_eq_true h3) (not_b h)) fun _ => t_leaf ⟨rfl, fin⟩))))) fun h => absurd (show (i : Int) < m by omega) (of_decide_eq_false h)) fun h => absurd (show (i : Int) < n by omega) (of_decide_eq_false h)
/-- rows that are only read -/
theorem mem_rowsL {w : World} : ∀ (l : List (Value × Nat × Nat × (Nat → Nat → Value))), (∀ x ∈ l, ∀ B, BlkSat B w x.1 (.row x.2.1 x.2.2.1 x.2.2.2)) → Mem w [] (l.map fun x => Blk.row x.2.1 x.2.2.1 x.2.2.2) (l.map (·.1)) w := by
  intro l h
  have noex : ∀ i b, ¬ ExBlk (l.map fun x => Blk.row x.2.1 x.2.2.1 x.2.2.2) (l.map (·.1)) i b := by
    rintro i b ⟨x, y, g1, g2, -, -⟩
    rw [List.getElem?_map, Option.map_eq_some_iff] at g1
    obtain ⟨z, -, rfl⟩ := g1
    cases g2
  refine ⟨⟨by simp, fun i a y h1 h3 => ?_, fun i j b h1 h2 => absurd h1 (noex i b), fun i j b h1 h2 => absurd h1 (noex i b)⟩, .refl _ _, fun i b h1 => absurd h1 (noex i b)⟩
  rw [List.getElem?_map, Option.map_eq_some_iff] at h1 h3
  obtain ⟨z, hz, rfl⟩ := h1
  obtain ⟨z', hz', rfl⟩ := h3
  rw [hz, Option.some.injEq] at hz'
  subst hz'
  exact h z (List.mem_of_getElem? hz) _
set_option maxRecDepth 100000 in
theorem slices_equal (n m : Nat) (g h : Nat → Int) (hn : n ≤ maxLen) (v u : Value) (w : World) (hv : ∀ B, BlkSat B w v (rowI n g)) (hu : ∀ B, BlkSat B w u (rowI m h)) : Calls Try.prog 23 #[v, u] w fun e w' => e = .returned (.bool (eqI n g m h)) ∧ Below w.heap.size w w' := by
  obtain ⟨h1, h2, h3⟩ := eqIE_le n g h
  refine calls_runO (onlyS_ok noS_ok) follows Try.func23 (by kernel_rfl) (by kernel_rfl) (one_loop (b := loopAt Try.f23 0) (id := 0) (by kernel_rfl) fun st t hh => ?_) (el_run n m g h (eqIE n g h)) ?_ (mem_rowsL [(v, n, 1, fun i _ => .int .i64 (g i)), (u, m, 1, fun i _ => .int .i64 (h i))] (by
    intro x hx
    simp only [List.mem_cons, List.not_mem_nil, or_false] at hx
    rcases hx with rfl | rfl
    · exact hv
    · exact hu)) rfl
  · rw [addL_same hh]
    exact .need fun hnm => loop_cnt (N := Try.f23.ntmps) (onlyS_ok noS_ok) follows (by kernel_rfl) (noloops (by kernel_rfl)) (fun i => i ≤ eqIE n g h) (fun i => el_st n m g h (i : Nat)) (fun i => eqIE n g h - i) 2 [0, 1, 12, 13] [] [] (eqIE n g h) [] (el_step n m g h hn hnm) (Nat.zero_le _)
  · unfold eqI
    refine t_ite (fun a => t_leaf ?_) fun a => ?_
    · have : ¬ n = m := fun e => not_b a (decide_eq_true (by omega))
      rw [decide_eq_false this]; rfl
    have hnm : n = m := by have := of_decide_eq_true (yes_b a); omega
    rw [decide_eq_true hnm]
    refine t_need hnm (t_need rfl (t_need rfl (t_ite (fun b => ?_) fun b => t_leaf ?_)))
    · have hlt : eqIE n g h < n := by have := of_decide_eq_true b; omega
      have hb : Nat.blt (eqIE n g h) n = true := by rw [Nat.blt_eq]; exact hlt
      simp only [Int.toNat_natCast]
      refine t_need ⟨by omega, by omega⟩ (t_need hlt (t_need ⟨by omega, by omega⟩ (t_need (by omega) (t_ite (fun _ => t_leaf (by rw [hb]; rfl)) fun c => absurd (of_decide_eq_true (yes_b c)) (h3 hlt)))))
    · have hge : ¬ eqIE n g h < n := by have := of_decide_eq_false b; omega
      have hb : Nat.blt (eqIE n g h) n = false := by rw [← Bool.not_eq_true, Nat.blt_eq]; exact hge
      rw [hb]; rfl
set_option maxRecDepth 100000 in
theorem law12_ints (n m : Nat) (g h : Nat → Int) (hn : n ≤ maxLen) (v u : Value) (w : World) (hv : ∀ B, BlkSat B w v (rowI n g)) (hu : ∀ B, BlkSat B w u (rowI m h)) : Calls Try.prog 6 #[v, u] w fun e w' => e = .returned (.bool (eqI n g m h)) ∧ Below w.heap.size w w' := by
  obtain ⟨h1, h2, h3⟩ := eqIE_le n g h
  refine calls_runO (onlyS_ok noS_ok) follows Try.func6 (by kernel_rfl) (by kernel_rfl) (one_loop (b := loopAt Try.f6 0) (id := 0) (by kernel_rfl) fun st t hh => ?_) (ei_run n m g h (eqIE n g h)) ?_ (mem_rowsL [(v, n, 1, fun i _ => .int .i64 (g i)), (u, m, 1, fun i _ => .int .i64 (h i))] (by
    intro x hx
    simp only [List.mem_cons, List.not_mem_nil, or_false] at hx
    rcases hx with rfl | rfl
    · exact hv
    · exact hu)) rfl
  · rw [addL_same hh]
    exact .need fun hnm => loop_cnt (N := Try.f6.ntmps) (onlyS_ok noS_ok) follows (by kernel_rfl) (noloops (by kernel_rfl)) (fun i => i ≤ eqIE n g h) (fun i => ei_st n m g h (i : Nat)) (fun i => eqIE n g h - i) 2 [0, 1, 5] [] [] (eqIE n g h) [] (ei_step n m g h hn hnm) (Nat.zero_le _)
  · unfold eqI
    refine t_ite (fun a => t_leaf ?_) fun a => ?_
    · have : ¬ n = m := fun e => not_b a (decide_eq_true (by omega))
      rw [decide_eq_false this]; rfl
    have hnm : n = m := by have := of_decide_eq_true (yes_b a); omega
    rw [decide_eq_true hnm]
    refine t_need hnm (t_need rfl (t_need rfl (t_ite (fun b => ?_) fun b => t_leaf ?_)))
    · have hlt : eqIE n g h < n := by have := of_decide_eq_true b; omega
      have hb : Nat.blt (eqIE n g h) n = true := by rw [Nat.blt_eq]; exact hlt
      simp only [Int.toNat_natCast]
      refine t_ite (fun _ => t_need ⟨by omega, by omega⟩ (t_need hlt (t_need ⟨by omega, by omega⟩ (t_need (by omega) (t_ite (fun _ => t_leaf (by rw [hb]; rfl)) fun c => absurd (of_decide_eq_true (yes_b c)) (h3 hlt)))))) fun c => absurd (show (eqIE n g h : Int) < m by omega) (of_decide_eq_false c)
    · have hge : ¬ eqIE n g h < n := by have := of_decide_eq_false b; omega
      have hb : Nat.blt (eqIE n g h) n = false := by rw [← Bool.not_eq_true, Nat.blt_eq]; exact hge
      rw [hb]; rfl
/-- a function of two rows of numbers -/
def rdEq : List SV → List Blk → Option (List Prop × Value)
  | [s, t], H => (rowIn 1 H s).bind fun q => (rowIn 1 H t).bind fun r => some ([IntP q.1 q.2 ∧ IntP r.1 r.2], .bool (eqI q.1 (ints q.2) r.1 (ints r.2)))
  | _, _ => none
theorem rdEq_ok {P : Program} {k : FuncId} (hc : ∀ (n m : Nat) (g h : Nat → Int) (_ : n ≤ maxLen) (v u : Value) (w : World) (_ : ∀ B, BlkSat B w v (rowI n g)) (_ : ∀ B, BlkSat B w u (rowI m h)), Calls P k #[v, u] w fun e w' => e = .returned (.bool (eqI n g m h)) ∧ Below w.heap.size w w') : ReadOk P k rdEq := by
  intro ss H q x h bs B w vs hm hv hp
  unfold rdEq at h
  split at h
  · simp only [Option.bind_eq_some_iff, Option.some.injEq, Prod.mk.injEq] at h
    obtain ⟨⟨n, f⟩, hr, ⟨m, f'⟩, hr', rfl, rfl⟩ := h
    obtain ⟨x0, r0, e0, v0, rfl⟩ := tos_cons hv
    obtain ⟨x1, r1, e1, v1, rfl⟩ := tos_cons v0
    obtain rfl := tos_nil v1
    obtain ⟨p1, p2⟩ := hp _ (List.mem_cons_self ..)
    exact hc n m (ints f) (ints f') p1.1 x0 x1 w (int_row (rowIn_ok hm e0 hr) p1.2) (int_row (rowIn_ok hm e1 hr') p2.2)
  · cases h
def FAg : LTab := addF 24 fJoined <| addF 7 fJoined <| addR 23 rdEq <| addR 6 rdEq noF
theorem FAg_ok : LOk Try.prog FAg := addF_ok (addF_ok (addR_ok (addR_ok noF_ok (by kernel_rfl) (rdEq_ok law12_ints)) (by kernel_rfl) (rdEq_ok slices_equal)) (by kernel_rfl) fJoinedR_ok) (by kernel_rfl) fJoined_ok
abbrev fsAg : List Nat := [24, 7, 23, 6]
abbrev CAg (P : Program) : Cfg := both P noS FAg fsAg
theorem CAg_ok : CfgOk Try.prog (CAg Try.prog) := both_ok noS_ok FAg_ok
set_option maxRecDepth 100000 in
theorem ag_run (v u : VwR) : runO Try.prog (CAg Try.prog) noL Try.f12 [v.s (.ref 0) (.ref 1) (.ref 2), u.s (.ref 3) (.ref 4) (.ref 5)] (v.rows ++ u.rows) = T.ite (!decide (v.1 = (3 : Int))) (T.leaf (Value.int IntKind.i64 (10 : Int))) (T.ite (!decide (u.1 = (3 : Int))) (T.leaf (Value.int IntKind.i64 (10 : Int))) (T.ite (!decide (v.2 = u.2)) (T.leaf (Value.int IntKind.i64 (7 : Int))) (T.need (PtP v.14 v.15) (T.need (PtP u.14 u.15) (T.need ((IntP (joinN (ptF v.15) v.14).length fun i j => cellAt (intCells (joinN (ptF v.15) v.14)) (i * (1 : Nat) + j)) ∧ IntP (joinN (ptF u.15) u.14).length fun i j => cellAt (intCells (joinN (ptF u.15) u.14)) (i * (1 : Nat) + j)) (T.ite (!eqI (joinN (ptF v.15) v.14).length (ints fun i j => cellAt (intCells (joinN (ptF v.15) v.14)) (i * (1 : Nat) + j)) (joinN (ptF u.15) u.14).length (ints fun i j => cellAt (intCells (joinN (ptF u.15) u.14)) (i * (1 : Nat) + j))) (T.leaf (Value.int IntKind.i64 (8 : Int))) (T.leaf (Value.int IntKind.i64 (0 : Int))))))))) := by kernel_rfl
end Go.Proofs.Ytegookefdkcolaa
