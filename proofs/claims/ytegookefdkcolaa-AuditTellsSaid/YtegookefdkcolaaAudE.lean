/- Audit: whether counts fit. No conditions. -/
import Derived.Test.YtegookefdkcolaaAudD
namespace Go.Proofs.Ytegookefdkcolaa
set_option linter.unusedVariables false
set_option linter.unusedSimpArgs false
open Go.RowKit Sym Go.ChangeShapes Go.WideShapes Go.ChangeMaps

def InI (z : Int) : Prop := -9223372036854775808 ≤ z ∧ z < 9223372036854775808
def sumsQ (v : VwR) : Prop := 0 ≤ v.skipped ∧ 0 ≤ v.refused ∧ 0 ≤ v.given ∧ 0 ≤ v.spilled ∧ 0 ≤ v.ready ∧ 0 ≤ v.waits ∧ v.refused + v.given + v.spilled + v.ready + v.waits = v.came
instance (v : VwR) : Decidable (sumsQ v) := by unfold sumsQ; infer_instance
def SumP (v : VwR) : Prop := 0 ≤ v.ready ∧ 0 ≤ v.waits ∧ InI v.came
theorem t_close {α : Type} {t e : T α} {Q : α → Prop} (h : t.ok Q) : (T.ite true t e).ok Q := ⟨fun _ => h, fun h => by cases h⟩
theorem t_shut {α : Type} {t e : T α} {Q : α → Prop} (h : e.ok Q) : (T.ite false t e).ok Q := ⟨fun h => (by cases h), fun _ => h⟩
set_option maxRecDepth 100000 in
theorem audit_sums (v : VwR) (u : Value) (w : World) (hv : v.Is w u) (hp : SumP v) : Calls Try.prog 18 #[u] w fun e w' => e = .returned (.bool (decide (sumsQ v))) ∧ Below w.heap.size w w' := by
  obtain ⟨a, b, c, rfl, r1, r2, r3⟩ := hv
  refine calls_runO (onlyS_ok noS_ok) follows Try.func18 (by kernel_rfl) (by kernel_rfl) (one_loop (b := loopAt Try.f18 0) (id := 0) (by kernel_rfl) fun st t h => by
    rw [addL_same h]; exact unroll_ok (onlyS_ok noS_ok) follows (by kernel_rfl) (noloops (by kernel_rfl)) 7 st) (sums_run v) ?_ (mem_rows3 r1 r2 r3) rfl
  obtain ⟨p1, p2, p3, p4⟩ := hp
  have bad : ∀ {x : Bool}, ¬ sumsQ v → Value.bool false = Value.bool (decide (sumsQ v)) := fun h => by rw [decide_eq_false h]
  refine t_ite (fun h => t_leaf ?_) fun h => ?_
  · have h := of_decide_eq_true h
    rw [decide_eq_false]
    intro q
    unfold sumsQ at q
    obtain ⟨q1, q2, q3, q4, q5, q6, q7⟩ := q
    repeat' split at h
    all_goals omega
  have h := of_decide_eq_false h
  have hall : 0 ≤ v.came ∧ 0 ≤ v.refused ∧ 0 ≤ v.spilled ∧ 0 ≤ v.given ∧ 0 ≤ v.skipped := by
    repeat' split at h
    all_goals omega
  clear h
  obtain ⟨k1, k2, k3, k4, k5⟩ := hall
  refine t_close (t_need ⟨by decide, by decide⟩ (t_need (by decide) (t_ite (fun h => t_leaf ?_) fun h => ?_)))
  · have h := of_decide_eq_true h
    rw [decide_eq_false (fun q => by unfold sumsQ at q; omega)]
  have h1 := of_decide_eq_false h
  rw [w64i (z := v.came - v.refused) (by omega) (by omega)]
  refine t_close (t_need ⟨by decide, by decide⟩ (t_need (by decide) (t_ite (fun h => t_leaf ?_) fun h => ?_)))
  · have h := of_decide_eq_true h
    rw [decide_eq_false (fun q => by unfold sumsQ at q; omega)]
  have h2 := of_decide_eq_false h
  rw [w64i (z := v.came - v.refused - v.given) (by omega) (by omega)]
  refine t_close (t_need ⟨by decide, by decide⟩ (t_need (by decide) (t_ite (fun h => t_leaf ?_) fun h => ?_)))
  · have h := of_decide_eq_true h
    rw [decide_eq_false (fun q => by unfold sumsQ at q; omega)]
  have h3 := of_decide_eq_false h
  rw [w64i (z := v.came - v.refused - v.given - v.spilled) (by omega) (by omega)]
  refine t_close (t_need ⟨by decide, by decide⟩ (t_need (by decide) (t_ite (fun h => t_leaf ?_) fun h => ?_)))
  · have h := of_decide_eq_true h
    rw [decide_eq_false (fun q => by unfold sumsQ at q; omega)]
  have h4 := of_decide_eq_false h
  rw [w64i (z := v.came - v.refused - v.given - v.spilled - v.ready) (by omega) (by omega)]
  refine t_close (t_need ⟨by decide, by decide⟩ (t_need (by decide) (t_ite (fun h => t_leaf ?_) fun h => ?_)))
  · have h := of_decide_eq_true h
    rw [decide_eq_false (fun q => by unfold sumsQ at q; omega)]
  have h5 := of_decide_eq_false h
  rw [w64i (z := v.came - v.refused - v.given - v.spilled - v.ready - v.waits) (by omega) (by omega)]
  refine t_shut (t_leaf ?_)
  congr 1
  rw [decide_eq_decide]
  unfold sumsQ
  omega
/-! the reference's -/
def sumI (g : Nat → Int) : Nat → Int
  | 0 => 0
  | i + 1 => sumI g i + g i
def togQ (n : Nat) (g : Nat → Int) (s : Int) : Prop := (∀ i, i < n → 0 ≤ g i) ∧ sumI g n = s
instance (n : Nat) (g : Nat → Int) (s : Int) : Decidable (togQ n g s) := by unfold togQ; infer_instance
def togB (g : Nat → Int) (s : Int) (i : Nat) : Bool := decide (g i < 0 ∨ s - sumI g i < g i)
def togE (n : Nat) (g : Nat → Int) (s : Int) : Nat := firstOf (togB g s) n 0
theorem togE_le (n : Nat) (g : Nat → Int) (s : Int) : togE n g s ≤ n ∧ (∀ j, j < togE n g s → 0 ≤ g j ∧ g j ≤ s - sumI g j) ∧ (togE n g s < n → g (togE n g s) < 0 ∨ s - sumI g (togE n g s) < g (togE n g s)) := by
  obtain ⟨h1, h2, h3⟩ := firstOf_le (togB g s) n
  refine ⟨h1, fun j hj => ?_, fun h => of_decide_eq_true (h3 h)⟩
  have := of_decide_eq_false (h2 j hj)
  omega
theorem sumI_up {g : Nat → Int} {n : Nat} (h : ∀ i, i < n → 0 ≤ g i) : ∀ k, k ≤ n → sumI g k ≤ sumI g n ∧ 0 ≤ sumI g k := by
  have up : ∀ k d, k + d ≤ n → sumI g k ≤ sumI g (k + d) := by
    intro k d
    induction d with
    | zero => intro _; exact Int.le_refl _
    | succ d ih =>
      intro hd
      have h1 := ih (by omega)
      have h2 := h (k + d) (by omega)
      show sumI g k ≤ sumI g (k + d) + g (k + d)
      omega
  intro k hk
  refine ⟨?_, ?_⟩
  · have := up k (n - k) (by omega)
    rwa [show k + (n - k) = n by omega] at this
  · have := up 0 k (by omega)
    rw [Nat.zero_add] at this
    exact this
set_option maxRecDepth 100000 in
theorem to_step (n : Nat) (g : Nat → Int) (s : Int) (hn : n ≤ maxLen) (hs : InI s) : ∀ i : Nat, i ≤ togE n g s → i ≠ togE n g s → (roundM Try.prog (onlyS Try.prog noS) noL Try.f22.ntmps 0 (loopAt Try.f22 0) 1 [0, 1, 5] [] [] (to_st n g (s - sumI g i) (i : Nat))).ok fun r => r.1 = .normal ∧ ∃ j, j ≤ togE n g s ∧ togE n g s - j < togE n g s - i ∧ r.2 = to_st n g (s - sumI g j) (j : Nat) := by
  intro i hi hne
  obtain ⟨h1, h2, -⟩ := togE_le n g s
  obtain ⟨h3, h4⟩ := h2 i (by omega)
  have h5 := (sumI_up (g := g) (n := togE n g s) (fun j hj => (h2 j hj).1) i hi).2
  unfold maxLen at hn
  obtain ⟨s1, s2⟩ := hs
  have e1 : IntKind.i64.wrap (s - sumI g i - g i) = s - sumI g (i + 1) := by rw [w64i (by omega) (by omega)]; show _ = s - (sumI g i + g i); omega
  have e2 : IntKind.i64.wrap ((i : Int) + 1) = ((i + 1 : Nat) : Int) := by rw [w64i (by omega) (by omega)]; rfl
  have fin : ∃ j, j ≤ togE n g s ∧ togE n g s - j < togE n g s - i ∧ to_st n g (s - sumI g (i + 1)) ((i + 1 : Nat) : Int) = to_st n g (s - sumI g j) (j : Nat) := ⟨i + 1, by omega, by omega, rfl⟩
  rw [to_round]
  simp only [Int.toNat_natCast, e1, e2, T.ok, decide_eq_true_eq, decide_eq_false_iff_not]
  repeat' (first | refine And.intro ?_ ?_ | intro _)
  all_goals first | omega | exact ⟨rfl, fin⟩ | rfl | exact fin | trivial
set_option maxRecDepth 100000 in
theorem ref44_together (n : Nat) (g : Nat → Int) (s : Int) (hn : n ≤ maxLen) (hs : InI s) (v : Value) (w : World) (hv : ∀ B, BlkSat B w v (rowI n g)) : Calls Try.prog 22 #[.int .i64 s, v] w fun e w' => e = .returned (.bool (decide (togQ n g s))) ∧ Below w.heap.size w w' := by
  obtain ⟨h1, h2, h3⟩ := togE_le n g s
  have e0 : s - sumI g 0 = s := by show s - 0 = s; omega
  refine calls_runO (onlyS_ok noS_ok) follows Try.func22 (by kernel_rfl) (by kernel_rfl) (one_loop (b := loopAt Try.f22 0) (id := 0) (by kernel_rfl) fun st t h => ?_) (to_run n g s (s - sumI g (togE n g s)) (togE n g s)) ?_ (mem_row (hv [v])) rfl
  · rw [addL_same h]
    have k := loop_cnt (N := Try.f22.ntmps) (st := st) (id := 0) (body := loopAt Try.f22 0) (onlyS_ok noS_ok) follows (by kernel_rfl) (noloops (by kernel_rfl)) (fun i => i ≤ togE n g s) (fun i => to_st n g (s - sumI g i) (i : Nat)) (fun i => togE n g s - i) 1 [0, 1, 5] [] [] (togE n g s) [] (to_step n g s hn hs) (Nat.zero_le _)
    rw [e0] at k
    exact k
  · have up := sumI_up (g := g) (n := togE n g s) (fun j hj => (h2 j hj).1)
    simp only [Int.toNat_natCast, T.ok, decide_eq_true_eq, decide_eq_false_iff_not]
    refine ⟨trivial, rfl, fun h => ?_, fun h => ?_⟩
    · have hlt : togE n g s < n := by omega
      have nq : ¬ togQ n g s := fun ⟨q1, q2⟩ => by
        have u := (sumI_up q1 (togE n g s + 1) (by omega)).1
        have e : sumI g (togE n g s + 1) = sumI g (togE n g s) + g (togE n g s) := rfl
        have := q1 _ hlt
        rcases h3 hlt with h3 | h3 <;> omega
      rw [decide_eq_false nq]
      refine ⟨⟨by omega, h⟩, by omega, fun _ => rfl, fun a => ⟨⟨by omega, h⟩, by omega, fun _ => rfl, fun b => ?_⟩⟩
      rcases h3 hlt with h3 | h3 <;> omega
    · have he : togE n g s = n := by omega
      congr 1
      rw [decide_eq_decide]
      unfold togQ
      rw [he] at up h2 ⊢
      exact ⟨fun h => ⟨fun i hi => (h2 i hi).1, by omega⟩, fun ⟨_, h⟩ => by omega⟩
end Go.Proofs.Ytegookefdkcolaa
