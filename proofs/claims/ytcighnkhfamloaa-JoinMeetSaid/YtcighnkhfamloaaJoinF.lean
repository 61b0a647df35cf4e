/- Joining: contracts of places of options; what is asked, answered, heard, greeted, in its callers' places; the anchor. No conditions. -/
import Derived.Test.YtcighnkhfamloaaJoinE
namespace Go.Proofs.Ytcighnkhfamloaa
set_option linter.unusedVariables false
set_option linter.unusedSimpArgs false
open Go.RowKit Sym Sha Go.ChangeShapes Go.WideShapes Go.ChangeMaps

theorem capE_spec (n : Nat) (g : Nat → Mu) : capE n g ≤ n ∧ (∀ j, j < capE n g → isCap g j = false) ∧ (capE n g < n → isCap g (capE n g) = true) := by
  obtain ⟨-, he, h1, h2⟩ := firstOf_spec (isCap g) n 0
  rw [Nat.zero_add] at he h2
  exact ⟨he, fun j hj => h1 j (Nat.zero_le _) hj, h2⟩
theorem findE_spec (n : Nat) (g : Nat → Mu) (kind : Int) : findE n g kind ≤ n ∧ (∀ j, j < findE n g kind → isKind g kind j = false) ∧ (findE n g kind < n → isKind g kind (findE n g kind) = true) := by
  obtain ⟨-, he, h1, h2⟩ := firstOf_spec (isKind g kind) n 0
  rw [Nat.zero_add] at he h2
  exact ⟨he, fun j hj => h1 j (Nat.zero_le _) hj, h2⟩
theorem isCap_no {g : Nat → Mu} {i : Nat} (h : isCap g i = false) : ¬ ((g i).kind = 11 ∧ (g i).num = 1) := by
  unfold isCap at h
  rintro ⟨a, b⟩
  rw [decide_eq_true a, decide_eq_true b] at h
  cases h
theorem isCap_yes {g : Nat → Mu} {i : Nat} (h : isCap g i = true) : (g i).kind = 11 ∧ (g i).num = 1 := by
  unfold isCap at h
  simpa using h
theorem capB_iff (n : Nat) (g : Nat → Mu) : capB n g = true ↔ capE n g < n := by unfold capB; rw [Nat.blt_eq]
theorem findB_iff (n : Nat) (g : Nat → Mu) (kind : Int) : findB n g kind = true ↔ findE n g kind < n := by unfold findB; rw [Nat.blt_eq]
set_option maxRecDepth 100000 in
theorem jC_step (n : Nat) (g : Nat → Mu) (hn : n ≤ maxLen) : ∀ i : Nat, i ≤ capE n g → i ≠ capE n g → (roundM Try.prog (onlyS Try.prog noS) noL Try.f87.ntmps 0 (loopAt Try.f87 0) 1 [5, 6, 7] [] [] (jC n g (i : Nat))).ok fun r => r.1 = .normal ∧ ∃ j, j ≤ capE n g ∧ capE n g - j < capE n g - i ∧ r.2 = jC n g (j : Nat) := by
  intro i hi hne
  unfold maxLen at hn
  have hlt : i < capE n g := by omega
  obtain ⟨he, h1, -⟩ := capE_spec n g
  have hi2 := isCap_no (h1 i hlt)
  have hw : IntKind.i64.wrap ((i : Int) + 1) = ((i + 1 : Nat) : Int) := by rw [w64 _ (by omega) (by omega)]; rfl
  rw [jC_round]
  simp only [Int.toNat_natCast, hw, T.ok, decide_eq_true_eq, decide_eq_false_iff_not]
  have fin : ∃ j, j ≤ capE n g ∧ capE n g - j < capE n g - i ∧ jC n g ((i + 1 : Nat) : Int) = jC n g (j : Nat) := ⟨i + 1, by omega, by omega, rfl⟩
  simp only [Mu.c] at *
  repeat' (first | refine And.intro ?_ ?_ | intro _)
  all_goals first | omega | exact ⟨rfl, fin⟩ | rfl | exact fin | (exfalso; apply hi2; constructor <;> assumption) | trivial
set_option maxRecDepth 100000 in
theorem jP_step (n : Nat) (g : Nat → Mu) (kind : Int) (hn : n ≤ maxLen) : ∀ i : Nat, i ≤ findE n g kind → i ≠ findE n g kind → (roundM Try.prog (onlyS Try.prog noS) noL Try.f88.ntmps 0 (loopAt Try.f88 0) 1 [0, 1, 5] [] [] (jP n g kind (i : Nat))).ok fun r => r.1 = .normal ∧ ∃ j, j ≤ findE n g kind ∧ findE n g kind - j < findE n g kind - i ∧ r.2 = jP n g kind (j : Nat) := by
  intro i hi hne
  unfold maxLen at hn
  have hlt : i < findE n g kind := by omega
  obtain ⟨he, h1, -⟩ := findE_spec n g kind
  have hi2 : ¬ (g i).kind = kind := of_decide_eq_false (h1 i hlt)
  have hw : IntKind.i64.wrap ((i : Int) + 1) = ((i + 1 : Nat) : Int) := by rw [w64 _ (by omega) (by omega)]; rfl
  rw [jP_round]
  simp only [Int.toNat_natCast, hw, T.ok, decide_eq_true_eq, decide_eq_false_iff_not]
  have fin : ∃ j, j ≤ findE n g kind ∧ findE n g kind - j < findE n g kind - i ∧ jP n g kind ((i + 1 : Nat) : Int) = jP n g kind (j : Nat) := ⟨i + 1, by omega, by omega, rfl⟩
  repeat' (first | refine And.intro ?_ ?_ | intro _)
  all_goals first | omega | exact ⟨rfl, fin⟩ | rfl | exact fin | (exfalso; apply hi2; assumption) | trivial
set_option maxRecDepth 100000 in
theorem jR_step (n : Nat) (g : Nat → Mu) (hn : n ≤ maxLen) : ∀ i : Nat, i ≤ capE n g → i ≠ capE n g → (roundM Try.prog (onlyS Try.prog noS) noL Try.f89.ntmps 0 (loopAt Try.f89 0) 1 [0, 3] [] [] (jR n g (i : Nat))).ok fun r => r.1 = .normal ∧ ∃ j, j ≤ capE n g ∧ capE n g - j < capE n g - i ∧ r.2 = jR n g (j : Nat) := by
  intro i hi hne
  unfold maxLen at hn
  have hlt : i < capE n g := by omega
  obtain ⟨he, h1, -⟩ := capE_spec n g
  have hi2 := isCap_no (h1 i hlt)
  have hw : IntKind.i64.wrap ((i : Int) + 1) = ((i + 1 : Nat) : Int) := by rw [w64 _ (by omega) (by omega)]; rfl
  rw [jR_round]
  simp only [Int.toNat_natCast, hw, T.ok, decide_eq_true_eq, decide_eq_false_iff_not]
  have fin : ∃ j, j ≤ capE n g ∧ capE n g - j < capE n g - i ∧ jR n g ((i + 1 : Nat) : Int) = jR n g (j : Nat) := ⟨i + 1, by omega, by omega, rfl⟩
  repeat' (first | refine And.intro ?_ ?_ | intro _)
  all_goals first | omega | exact ⟨rfl, fin⟩ | rfl | exact fin | (exfalso; apply hi2; constructor <;> assumption) | trivial
set_option maxRecDepth 100000 in
theorem join_capable (n : Nat) (g : Nat → Mu) (hn : n ≤ maxLen) (v : Value) (w : World) (hv : ∀ B, BlkSat B w v (.row n 7 fun i j => (g i).c j)) : Calls Try.prog 87 #[v] w fun e w' => e = .returned (.bool (capB n g)) ∧ Below w.heap.size w w' := by
  obtain ⟨he, h1, h2⟩ := capE_spec n g
  refine calls_runO (onlyS_ok noS_ok) follows Try.func87 (by kernel_rfl) (by kernel_rfl) (one_loop (b := loopAt Try.f87 0) (id := 0) (by kernel_rfl) fun st t h => ?_) (cap_run n g (capE n g)) ?_ (mem_row (hv [v])) rfl
  · rw [addL_same h]
    exact loop_cnt (onlyS_ok noS_ok) follows (by kernel_rfl) (noloops (by kernel_rfl)) (fun i => i ≤ capE n g) (fun i => jC n g (i : Nat)) (fun i => capE n g - i) 1 [5, 6, 7] [] [] (capE n g) [] (jC_step n g hn) (Nat.zero_le _)
  · unfold maxLen at hn
    simp only [Int.toNat_natCast, T.ok, decide_eq_true_eq, decide_eq_false_iff_not, Bool.not_eq_true', Bool.not_eq_false', Bool.and_eq_true, Mu.c]
    by_cases hlt : capE n g < n
    · have hb := (capB_iff n g).2 hlt
      have hy := isCap_yes (h2 hlt)
      rw [hb]
      repeat' (first | refine And.intro ?_ ?_ | intro _)
      all_goals first | omega | rfl | trivial | (exfalso; grind) | skip
    · have hb : capB n g = false := by rw [← Bool.not_eq_true, capB_iff]; exact hlt
      rw [hb]
      repeat' (first | refine And.intro ?_ ?_ | intro _)
      all_goals first | omega | rfl | trivial | (exfalso; grind) | skip
set_option maxRecDepth 100000 in
theorem ref29_capable (n : Nat) (g : Nat → Mu) (hn : n ≤ maxLen) (v : Value) (w : World) (hv : ∀ B, BlkSat B w v (.row n 7 fun i j => (g i).c j)) : Calls Try.prog 89 #[v] w fun e w' => e = .returned (.bool (capB n g)) ∧ Below w.heap.size w w' := by
  obtain ⟨he, h1, h2⟩ := capE_spec n g
  refine calls_runO (onlyS_ok noS_ok) follows Try.func89 (by kernel_rfl) (by kernel_rfl) (one_loop (b := loopAt Try.f89 0) (id := 0) (by kernel_rfl) fun st t h => ?_) (capR_run n g (capE n g)) ?_ (mem_row (hv [v])) rfl
  · rw [addL_same h]
    exact loop_cnt (onlyS_ok noS_ok) follows (by kernel_rfl) (noloops (by kernel_rfl)) (fun i => i ≤ capE n g) (fun i => jR n g (i : Nat)) (fun i => capE n g - i) 1 [0, 3] [] [] (capE n g) [] (jR_step n g hn) (Nat.zero_le _)
  · unfold maxLen at hn
    simp only [Int.toNat_natCast, T.ok, decide_eq_true_eq, decide_eq_false_iff_not, Bool.not_eq_true', Bool.not_eq_false', Bool.and_eq_true, Mu.c]
    by_cases hlt : capE n g < n
    · have hb := (capB_iff n g).2 hlt
      have hy := isCap_yes (h2 hlt)
      rw [hb]
      repeat' (first | refine And.intro ?_ ?_ | intro _)
      all_goals first | omega | rfl | trivial | (exfalso; grind) | skip
    · have hb : capB n g = false := by rw [← Bool.not_eq_true, capB_iff]; exact hlt
      rw [hb]
      repeat' (first | refine And.intro ?_ ?_ | intro _)
      all_goals first | omega | rfl | trivial | (exfalso; grind) | skip
set_option maxRecDepth 100000 in
theorem ref29_place (n : Nat) (g : Nat → Mu) (kind : Int) (hn : n ≤ maxLen) (v : Value) (w : World) (hv : ∀ B, BlkSat B w v (.row n 7 fun i j => (g i).c j)) : Calls Try.prog 88 #[v, .int .i64 kind] w fun e w' => e = .returned (.int .i64 (placeI n g kind)) ∧ Below w.heap.size w w' := by
  obtain ⟨he, h1, h2⟩ := findE_spec n g kind
  refine calls_runO (onlyS_ok noS_ok) follows Try.func88 (by kernel_rfl) (by kernel_rfl) (one_loop (b := loopAt Try.f88 0) (id := 0) (by kernel_rfl) fun st t h => ?_) (place_run n g kind (findE n g kind)) ?_ (mem_row (hv [v])) rfl
  · rw [addL_same h]
    exact loop_cnt (onlyS_ok noS_ok) follows (by kernel_rfl) (noloops (by kernel_rfl)) (fun i => i ≤ findE n g kind) (fun i => jP n g kind (i : Nat)) (fun i => findE n g kind - i) 1 [0, 1, 5] [] [] (findE n g kind) [] (jP_step n g kind hn) (Nat.zero_le _)
  · unfold maxLen at hn
    simp only [Int.toNat_natCast, T.ok, decide_eq_true_eq, decide_eq_false_iff_not, Bool.not_eq_true', Bool.not_eq_false', Bool.and_eq_true, Mu.c]
    by_cases hlt : findE n g kind < n
    · have hb := (findB_iff n g kind).2 hlt
      have hy : (g (findE n g kind)).kind = kind := of_decide_eq_true (h2 hlt)
      have hp : placeI n g kind = (findE n g kind : Int) := by unfold placeI; rw [if_pos hb]
      rw [hp]
      repeat' (first | refine And.intro ?_ ?_ | intro _)
      all_goals first | omega | rfl | trivial | (exfalso; grind) | skip
    · have hb : ¬ findB n g kind = true := by rw [findB_iff]; exact hlt
      have hp : placeI n g kind = -1 := by unfold placeI; rw [if_neg hb]
      rw [hp]
      repeat' (first | refine And.intro ?_ ?_ | intro _)
      all_goals first | omega | rfl | trivial | (exfalso; grind) | skip
def fCap : List SV → List Blk → Option (List Prop × Value)
  | [s], H => match rowIn 7 H s with
    | some (n, fr) => some ([n ≤ maxLen ∧ AllMu n fr], .bool (capB n (muF fr)))
    | none => none
  | _, _ => none
def fPlace : List SV → List Blk → Option (List Prop × Value)
  | [s, .v (.int .i64 kind)], H => match rowIn 7 H s with
    | some (n, fr) => some ([n ≤ maxLen ∧ AllMu n fr], .int .i64 (placeI n (muF fr) kind))
    | none => none
  | _, _ => none
theorem fCap_ok' {f : FuncId} (hc : ∀ (n : Nat) (g : Nat → Mu), n ≤ maxLen → ∀ (v : Value) (w : World), (∀ B, BlkSat B w v (.row n 7 fun i j => (g i).c j)) → Calls Try.prog f #[v] w fun e w' => e = .returned (.bool (capB n g)) ∧ Below w.heap.size w w') : ReadOk Try.prog f fCap := by
  intro ss H p v h bs B w vs hm hv hp
  unfold fCap at h
  split at h
  · rename_i s
    split at h
    · rename_i n fr hr
      simp only [Option.some.injEq, Prod.mk.injEq] at h
      obtain ⟨rfl, rfl⟩ := h
      obtain ⟨h1, h2⟩ := hp _ (List.mem_cons_self ..)
      obtain ⟨x0, r0, e0, v0, rfl⟩ := tos_cons hv
      obtain rfl := tos_nil v0
      exact hc n (muF fr) h1 x0 w (fun B' => row_congr (rowIn_ok hm e0 hr B') (fun i j hi hj => h2 i hi j hj))
    · cases h
  · cases h
theorem fCap_ok : ReadOk Try.prog 87 fCap := fCap_ok' fun n g hn v w hv => join_capable n g hn v w hv
theorem fCapR_ok : ReadOk Try.prog 89 fCap := fCap_ok' fun n g hn v w hv => ref29_capable n g hn v w hv
theorem fPlace_ok : ReadOk Try.prog 88 fPlace := by
  intro ss H p v h bs B w vs hm hv hp
  unfold fPlace at h
  split at h
  · rename_i s kind
    split at h
    · rename_i n fr hr
      simp only [Option.some.injEq, Prod.mk.injEq] at h
      obtain ⟨rfl, rfl⟩ := h
      obtain ⟨h1, h2⟩ := hp _ (List.mem_cons_self ..)
      obtain ⟨x0, r0, e0, v0, rfl⟩ := tos_cons hv
      obtain ⟨x1, r1, e1, v1, rfl⟩ := tos_cons v0
      obtain rfl := tos_nil v1
      simp only [SV.to, Option.some.injEq] at e1
      subst e1
      exact ref29_place n (muF fr) kind h1 x0 w (fun B' => row_congr (rowIn_ok hm e0 hr B') (fun i j hi hj => h2 i hi j hj))
    · cases h
  · cases h
def tTrue29 : List Value → Option (List Prop × Value) | [] => some ([], .bool true) | _ => none
theorem allMu_c (n : Nat) (g : Nat → Mu) : AllMu n fun i j => (g i).c j := fun i _ j hj => by
  match j, hj with
  | 0, _ => rfl
  | 1, _ => rfl
  | 2, _ => rfl
  | 3, _ => rfl
  | 4, _ => rfl
  | 5, _ => rfl
  | 6, _ => rfl
theorem greatJ_few {n : Nat} {g : Nat → Mu} (h : Nat.blt (firstOf (earlyJ g) n 0) n = false) : n ≤ 20 ∧ ∀ i, i < n → (g i).bytes.size ≤ 300 := by
  obtain ⟨-, he, h1, -⟩ := firstOf_spec (earlyJ g) n 0
  rw [Nat.zero_add] at he
  rw [← Bool.not_eq_true, Nat.blt_eq] at h
  have hno : ∀ j, j < n → j < 20 ∧ (g j).bytes.size ≤ 300 := fun j hj => earlyJ_no (h1 j (Nat.zero_le _) (by omega))
  refine ⟨?_, fun i hi => (hno i hi).2⟩
  by_cases h0 : n = 0
  · omega
  · have := (hno (n - 1) (by omega)).1; omega
end Go.Proofs.Ytcighnkhfamloaa
