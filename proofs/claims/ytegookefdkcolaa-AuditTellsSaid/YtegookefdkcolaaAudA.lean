/- Audit: numbers that rise. No conditions. -/
import Derived.Test.YtegookefdkcolaaOpA
namespace Go.Proofs.Ytegookefdkcolaa
set_option linter.unusedVariables false
set_option linter.unusedSimpArgs false
open Go.RowKit Sym Go.ChangeShapes Go.WideShapes Go.ChangeMaps

theorem t_need {α : Type} {p : Prop} {t : T α} {Q : α → Prop} (h : p) (ht : t.ok Q) : (T.need p t).ok Q := ⟨h, ht⟩
theorem t_ite {α : Type} {b : Bool} {t e : T α} {Q : α → Prop} (h : b = true → t.ok Q) (he : b = false → e.ok Q) : (T.ite b t e).ok Q := ⟨h, he⟩
theorem t_leaf {α : Type} {a : α} {Q : α → Prop} (h : Q a) : (T.leaf a).ok Q := h
theorem mem_nilP (w : World) : Mem w [] [] [] w :=
  ⟨⟨rfl, fun k x u h1 _ => by simp at h1, fun k j b h1 _ => by obtain ⟨x, u, h, -⟩ := h1; simp at h, fun k j b h1 _ => by obtain ⟨x, u, h, -⟩ := h1; simp at h⟩, .refl _ _, fun k b h1 => by obtain ⟨x, u, h, -⟩ := h1; simp at h⟩
def riseB (g : Nat → Int) (i : Nat) : Bool := decide (g (i + 1) ≤ g i)
def riseE (n : Nat) (g : Nat → Int) : Nat := firstOf (riseB g) (n - 1) 0
def riseL (n : Nat) (g : Nat → Int) : Bool := !Nat.blt (riseE n g) (n - 1)
abbrev rowI (n : Nat) (g : Nat → Int) : Blk := .row n 1 fun i _ => .int .i64 (g i)
def ri_st (n : Nat) (g : Nat → Int) (i : Int) : St := ⟨[(0, some (.ref 0)), (3, some (.v (.int .i64 i)))], [rowI n g]⟩
set_option maxRecDepth 100000 in
theorem ri_round (n : Nat) (g : Nat → Int) (i : Int) : roundM Try.prog (onlyS Try.prog noS) noL Try.f27.ntmps 0 (loopAt Try.f27 0) 1 [0, 3] [] [] (ri_st n g i) = T.ite (decide (i < (↑n : Int))) (T.need ((0 : Int) ≤ i ∧ i < (↑n : Int)) (T.need (i.toNat < n) (T.need ((0 : Int) ≤ IntKind.i64.wrap (i - (1 : Int)) ∧ IntKind.i64.wrap (i - (1 : Int)) < (↑n : Int)) (T.need ((IntKind.i64.wrap (i - (1 : Int))).toNat < n) (T.ite (decide (g i.toNat ≤ g (IntKind.i64.wrap (i - (1 : Int))).toNat)) (T.leaf (Ex.ret, St.mk [((2 : Nat), some SV.ff), ((19 : Nat), some SV.tt), ((19 : Nat), some (SV.v (Value.bool (decide (g i.toNat ≤ g (IntKind.i64.wrap (i - (1 : Int))).toNat))))), ((18 : Nat), some (SV.v (Value.int IntKind.i64 (g (IntKind.i64.wrap (i - (1 : Int))).toNat)))), ((17 : Nat), some (SV.elt (0 : Nat) (1 : Nat) (IntKind.i64.wrap (i - (1 : Int))).toNat (0 : Nat))), ((16 : Nat), some (SV.v (Value.int IntKind.i64 (IntKind.i64.wrap (i - (1 : Int)))))), ((15 : Nat), some (SV.v (Value.int IntKind.i64 i))), ((14 : Nat), some (SV.ref (0 : Nat))), ((13 : Nat), some (SV.v (Value.int IntKind.i64 (g i.toNat)))), ((12 : Nat), some (SV.elt (0 : Nat) (1 : Nat) i.toNat (0 : Nat))), ((11 : Nat), some (SV.v (Value.int IntKind.i64 i))), ((10 : Nat), some (SV.ref (0 : Nat))), ((7 : Nat), some SV.tt), ((7 : Nat), some (SV.v (Value.bool (decide (i < (↑n : Int)))))), ((6 : Nat), some (SV.v (Value.int IntKind.i64 (↑n : Int)))), ((5 : Nat), some (SV.ref (0 : Nat))), ((4 : Nat), some (SV.v (Value.int IntKind.i64 i))), ((0 : Nat), some (SV.ref (0 : Nat))), ((3 : Nat), some (SV.v (Value.int IntKind.i64 i)))] [Blk.row n (1 : Nat) fun i x => Value.int IntKind.i64 (g i)])) (T.leaf (Ex.normal, St.mk [((0 : Nat), some (SV.ref (0 : Nat))), ((3 : Nat), some (SV.v (Value.int IntKind.i64 (IntKind.i64.wrap (i + (1 : Int))))))] [Blk.row n (1 : Nat) fun i x => Value.int IntKind.i64 (g i)]))))))) (T.leaf (Ex.exit (0 : Nat), St.mk [((0 : Nat), some (SV.ref (0 : Nat))), ((3 : Nat), some (SV.v (Value.int IntKind.i64 i)))] [Blk.row n (1 : Nat) fun i x => Value.int IntKind.i64 (g i)])) := by kernel_rfl
def Lri (P : Program) (fn : Func) (n : Nat) (g : Nat → Int) (e : Nat) : Nat → St → Option (T (Ex × St)) :=
  addL 0 (fun st => .need (st.H.length = 1) (.need (st.tidy 1 [0, 3] [] [] = ri_st n g ((0 + 1 : Nat) : Int)) ((roundM P (onlyS P noS) noL fn.ntmps 0 (loopAt fn 0) 1 [0, 3] [] [] (closeAt [] (ri_st n g ((e + 1 : Nat) : Int)))).bind (lastX 0)))) noL
set_option maxRecDepth 100000 in
theorem ri_run (n : Nat) (g : Nat → Int) (e : Nat) : runO Try.prog (onlyS Try.prog noS) (Lri Try.prog Try.f27 n g e) Try.f27 [.ref 0] [rowI n g] = T.need ((1 : Nat) = (1 : Nat)) (T.need (St.mk [((0 : Nat), some (SV.ref (0 : Nat))), ((3 : Nat), some (SV.v (Value.int IntKind.i64 (1 : Int))))] [Blk.row n (1 : Nat) fun i x => Value.int IntKind.i64 (g i)] = ri_st n g (1 : Int)) (T.ite (decide ((↑(e + (1 : Nat)) : Int) < (↑n : Int))) (T.need ((0 : Int) ≤ (↑(e + (1 : Nat)) : Int) ∧ (↑(e + (1 : Nat)) : Int) < (↑n : Int)) (T.need ((↑(e + (1 : Nat)) : Int).toNat < n) (T.need ((0 : Int) ≤ IntKind.i64.wrap ((↑(e + (1 : Nat)) : Int) - (1 : Int)) ∧ IntKind.i64.wrap ((↑(e + (1 : Nat)) : Int) - (1 : Int)) < (↑n : Int)) (T.need ((IntKind.i64.wrap ((↑(e + (1 : Nat)) : Int) - (1 : Int))).toNat < n) (T.ite (decide (g (↑(e + (1 : Nat)) : Int).toNat ≤ g (IntKind.i64.wrap ((↑(e + (1 : Nat)) : Int) - (1 : Int))).toNat)) (T.leaf (Value.bool false)) (T.stuck (39 : Nat))))))) (T.leaf (Value.bool true)))) := by kernel_rfl
set_option maxRecDepth 100000 in
theorem rr_round (n : Nat) (g : Nat → Int) (i : Int) : roundM Try.prog (onlyS Try.prog noS) noL Try.f20.ntmps 0 (loopAt Try.f20 0) 1 [0, 3] [] [] (ri_st n g i) = T.ite (decide (IntKind.i64.wrap (i + (1 : Int)) < (↑n : Int))) (T.need ((0 : Int) ≤ i ∧ i < (↑n : Int)) (T.need (i.toNat < n) (T.need ((0 : Int) ≤ IntKind.i64.wrap (i + (1 : Int)) ∧ IntKind.i64.wrap (i + (1 : Int)) < (↑n : Int)) (T.need ((IntKind.i64.wrap (i + (1 : Int))).toNat < n) (T.ite (decide (g i.toNat ≥ g (IntKind.i64.wrap (i + (1 : Int))).toNat)) (T.leaf (Ex.ret, St.mk [((2 : Nat), some SV.ff), ((20 : Nat), some SV.tt), ((20 : Nat), some (SV.v (Value.bool (decide (g i.toNat ≥ g (IntKind.i64.wrap (i + (1 : Int))).toNat))))), ((19 : Nat), some (SV.v (Value.int IntKind.i64 (g (IntKind.i64.wrap (i + (1 : Int))).toNat)))), ((18 : Nat), some (SV.elt (0 : Nat) (1 : Nat) (IntKind.i64.wrap (i + (1 : Int))).toNat (0 : Nat))), ((17 : Nat), some (SV.v (Value.int IntKind.i64 (IntKind.i64.wrap (i + (1 : Int)))))), ((16 : Nat), some (SV.v (Value.int IntKind.i64 i))), ((15 : Nat), some (SV.ref (0 : Nat))), ((14 : Nat), some (SV.v (Value.int IntKind.i64 (g i.toNat)))), ((13 : Nat), some (SV.elt (0 : Nat) (1 : Nat) i.toNat (0 : Nat))), ((12 : Nat), some (SV.v (Value.int IntKind.i64 i))), ((11 : Nat), some (SV.ref (0 : Nat))), ((8 : Nat), some SV.tt), ((8 : Nat), some (SV.v (Value.bool (decide (IntKind.i64.wrap (i + (1 : Int)) < (↑n : Int)))))), ((7 : Nat), some (SV.v (Value.int IntKind.i64 (↑n : Int)))), ((6 : Nat), some (SV.ref (0 : Nat))), ((5 : Nat), some (SV.v (Value.int IntKind.i64 (IntKind.i64.wrap (i + (1 : Int)))))), ((4 : Nat), some (SV.v (Value.int IntKind.i64 i))), ((0 : Nat), some (SV.ref (0 : Nat))), ((3 : Nat), some (SV.v (Value.int IntKind.i64 i)))] [Blk.row n (1 : Nat) fun i x => Value.int IntKind.i64 (g i)])) (T.leaf (Ex.normal, St.mk [((0 : Nat), some (SV.ref (0 : Nat))), ((3 : Nat), some (SV.v (Value.int IntKind.i64 (IntKind.i64.wrap (i + (1 : Int))))))] [Blk.row n (1 : Nat) fun i x => Value.int IntKind.i64 (g i)]))))))) (T.leaf (Ex.exit (0 : Nat), St.mk [((0 : Nat), some (SV.ref (0 : Nat))), ((3 : Nat), some (SV.v (Value.int IntKind.i64 i)))] [Blk.row n (1 : Nat) fun i x => Value.int IntKind.i64 (g i)])) := by kernel_rfl
def Lrr (P : Program) (fn : Func) (n : Nat) (g : Nat → Int) (e : Nat) : Nat → St → Option (T (Ex × St)) :=
  addL 0 (fun st => .need (st.H.length = 1) (.need (st.tidy 1 [0, 3] [] [] = ri_st n g ((0 : Nat) : Int)) ((roundM P (onlyS P noS) noL fn.ntmps 0 (loopAt fn 0) 1 [0, 3] [] [] (closeAt [] (ri_st n g ((e : Nat) : Int)))).bind (lastX 0)))) noL
set_option maxRecDepth 100000 in
theorem rr_run (n : Nat) (g : Nat → Int) (e : Nat) : runO Try.prog (onlyS Try.prog noS) (Lrr Try.prog Try.f20 n g e) Try.f20 [.ref 0] [rowI n g] = T.need ((1 : Nat) = (1 : Nat)) (T.need (St.mk [((0 : Nat), some (SV.ref (0 : Nat))), ((3 : Nat), some (SV.v (Value.int IntKind.i64 (0 : Int))))] [Blk.row n (1 : Nat) fun i x => Value.int IntKind.i64 (g i)] = ri_st n g (0 : Int)) (T.ite (decide (IntKind.i64.wrap ((↑e : Int) + (1 : Int)) < (↑n : Int))) (T.need ((0 : Int) ≤ (↑e : Int) ∧ (↑e : Int) < (↑n : Int)) (T.need ((↑e : Int).toNat < n) (T.need ((0 : Int) ≤ IntKind.i64.wrap ((↑e : Int) + (1 : Int)) ∧ IntKind.i64.wrap ((↑e : Int) + (1 : Int)) < (↑n : Int)) (T.need ((IntKind.i64.wrap ((↑e : Int) + (1 : Int))).toNat < n) (T.ite (decide (g (↑e : Int).toNat ≥ g (IntKind.i64.wrap ((↑e : Int) + (1 : Int))).toNat)) (T.leaf (Value.bool false)) (T.stuck (39 : Nat))))))) (T.leaf (Value.bool true)))) := by kernel_rfl
theorem riseE_le (n : Nat) (g : Nat → Int) : riseE n g ≤ n - 1 ∧ (∀ j, j < riseE n g → g j < g (j + 1)) ∧ (riseE n g < n - 1 → g (riseE n g + 1) ≤ g (riseE n g)) := by
  obtain ⟨h1, h2, h3⟩ := firstOf_le (riseB g) (n - 1)
  refine ⟨h1, fun j hj => ?_, fun h => ?_⟩
  · have := h2 j hj
    unfold riseB at this
    simp only [decide_eq_false_iff_not] at this
    omega
  · exact of_decide_eq_true (h3 h)
set_option maxRecDepth 100000 in
theorem ri_step (n : Nat) (hn : n ≤ maxLen) (g : Nat → Int) : ∀ k : Nat, k ≤ riseE n g → k ≠ riseE n g → (roundM Try.prog (onlyS Try.prog noS) noL Try.f27.ntmps 0 (loopAt Try.f27 0) 1 [0, 3] [] [] (ri_st n g ((k + 1 : Nat) : Int))).ok fun r => r.1 = .normal ∧ ∃ j, j ≤ riseE n g ∧ riseE n g - j < riseE n g - k ∧ r.2 = ri_st n g ((j + 1 : Nat) : Int) := by
  intro k hk hne
  obtain ⟨h1, h2, -⟩ := riseE_le n g
  have h3 := h2 k (by omega)
  unfold maxLen at hn
  have e1 : IntKind.i64.wrap (((k + 1 : Nat) : Int) - 1) = (k : Nat) := by rw [w64i (by omega) (by omega)]; omega
  have e2 : IntKind.i64.wrap (((k + 1 : Nat) : Int) + 1) = ((k + 1 + 1 : Nat) : Int) := by rw [w64i (by omega) (by omega)]; rfl
  have fin : ∃ j, j ≤ riseE n g ∧ riseE n g - j < riseE n g - k ∧ ri_st n g ((k + 1 + 1 : Nat) : Int) = ri_st n g ((j + 1 : Nat) : Int) := ⟨k + 1, by omega, by omega, rfl⟩
  rw [ri_round]
  simp only [e1, e2, Int.toNat_natCast, T.ok, decide_eq_true_eq, decide_eq_false_iff_not]
  repeat' (first | refine And.intro ?_ ?_ | intro _)
  all_goals first | omega | exact ⟨rfl, fin⟩ | rfl | exact fin | trivial
set_option maxRecDepth 100000 in
theorem audit_rises (n : Nat) (g : Nat → Int) (hn : n ≤ maxLen) (v : Value) (w : World) (hv : ∀ B, BlkSat B w v (rowI n g)) : Calls Try.prog 27 #[v] w fun e w' => e = .returned (.bool (riseL n g)) ∧ Below w.heap.size w w' := by
  obtain ⟨h1, h2, h3⟩ := riseE_le n g
  refine calls_runO (onlyS_ok noS_ok) follows Try.func27 (by kernel_rfl) (by kernel_rfl) (one_loop (b := loopAt Try.f27 0) (id := 0) (by kernel_rfl) fun st t h => ?_) (ri_run n g (riseE n g)) ?_ (mem_row (hv [v])) rfl
  · rw [addL_same h]
    exact loop_cnt (onlyS_ok noS_ok) follows (by kernel_rfl) (noloops (by kernel_rfl)) (fun i => i ≤ riseE n g) (fun i => ri_st n g ((i + 1 : Nat) : Int)) (fun i => riseE n g - i) 1 [0, 3] [] [] (riseE n g) [] (ri_step n hn g) (Nat.zero_le _)
  · unfold maxLen at hn
    unfold riseL
    have e1 : IntKind.i64.wrap (((riseE n g + 1 : Nat) : Int) - 1) = (riseE n g : Nat) := by rw [w64i (by omega) (by omega)]; omega
    simp only [e1, Int.toNat_natCast, T.ok, decide_eq_true_eq, decide_eq_false_iff_not]
    refine ⟨trivial, rfl, fun h => ?_, fun h => ?_⟩
    · have hb : Nat.blt (riseE n g) (n - 1) = true := by rw [Nat.blt_eq]; omega
      have h4 := h3 (by omega)
      rw [hb]
      refine ⟨⟨by omega, by omega⟩, by omega, ⟨by omega, by omega⟩, by omega, fun _ => rfl, fun h5 => absurd h4 h5⟩
    · have hb : Nat.blt (riseE n g) (n - 1) = false := by rw [← Bool.not_eq_true, Nat.blt_eq]; omega
      rw [hb]; rfl
set_option maxRecDepth 100000 in
theorem rr_step (n : Nat) (hn : n ≤ maxLen) (g : Nat → Int) : ∀ k : Nat, k ≤ riseE n g → k ≠ riseE n g → (roundM Try.prog (onlyS Try.prog noS) noL Try.f20.ntmps 0 (loopAt Try.f20 0) 1 [0, 3] [] [] (ri_st n g (k : Nat))).ok fun r => r.1 = .normal ∧ ∃ j, j ≤ riseE n g ∧ riseE n g - j < riseE n g - k ∧ r.2 = ri_st n g (j : Nat) := by
  intro k hk hne
  obtain ⟨h1, h2, -⟩ := riseE_le n g
  have h3 := h2 k (by omega)
  unfold maxLen at hn
  have e2 : IntKind.i64.wrap ((k : Int) + 1) = ((k + 1 : Nat) : Int) := by rw [w64i (by omega) (by omega)]; rfl
  have fin : ∃ j, j ≤ riseE n g ∧ riseE n g - j < riseE n g - k ∧ ri_st n g ((k + 1 : Nat) : Int) = ri_st n g (j : Nat) := ⟨k + 1, by omega, by omega, rfl⟩
  rw [rr_round]
  simp only [e2, Int.toNat_natCast, T.ok, decide_eq_true_eq, decide_eq_false_iff_not]
  repeat' (first | refine And.intro ?_ ?_ | intro _)
  all_goals first | omega | exact ⟨rfl, fin⟩ | rfl | exact fin | trivial
set_option maxRecDepth 100000 in
theorem ref44_rising (n : Nat) (g : Nat → Int) (hn : n ≤ maxLen) (v : Value) (w : World) (hv : ∀ B, BlkSat B w v (rowI n g)) : Calls Try.prog 20 #[v] w fun e w' => e = .returned (.bool (riseL n g)) ∧ Below w.heap.size w w' := by
  obtain ⟨h1, h2, h3⟩ := riseE_le n g
  refine calls_runO (onlyS_ok noS_ok) follows Try.func20 (by kernel_rfl) (by kernel_rfl) (one_loop (b := loopAt Try.f20 0) (id := 0) (by kernel_rfl) fun st t h => ?_) (rr_run n g (riseE n g)) ?_ (mem_row (hv [v])) rfl
  · rw [addL_same h]
    exact loop_cnt (onlyS_ok noS_ok) follows (by kernel_rfl) (noloops (by kernel_rfl)) (fun i => i ≤ riseE n g) (fun i => ri_st n g (i : Nat)) (fun i => riseE n g - i) 1 [0, 3] [] [] (riseE n g) [] (rr_step n hn g) (Nat.zero_le _)
  · unfold maxLen at hn
    unfold riseL
    have e1 : IntKind.i64.wrap ((riseE n g : Int) + 1) = ((riseE n g + 1 : Nat) : Int) := by rw [w64i (by omega) (by omega)]; rfl
    simp only [e1, Int.toNat_natCast, T.ok, decide_eq_true_eq, decide_eq_false_iff_not]
    refine ⟨trivial, rfl, fun h => ?_, fun h => ?_⟩
    · have hb : Nat.blt (riseE n g) (n - 1) = true := by rw [Nat.blt_eq]; omega
      have h4 := h3 (by omega)
      rw [hb]
      refine ⟨⟨by omega, by omega⟩, by omega, ⟨by omega, by omega⟩, by omega, fun _ => rfl, fun h5 => absurd h4 (by omega)⟩
    · have hb : Nat.blt (riseE n g) (n - 1) = false := by rw [← Bool.not_eq_true, Nat.blt_eq]; omega
      rw [hb]; rfl
end Go.Proofs.Ytegookefdkcolaa
