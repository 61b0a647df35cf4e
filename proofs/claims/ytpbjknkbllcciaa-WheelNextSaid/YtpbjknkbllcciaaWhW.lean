/- Timers: the anchor holds. No conditions. -/
import Derived.Test.YtpbjknkbllcciaaWhP
import Derived.Test.YtpbjknkbllcciaaWhH
namespace Go.Proofs.Ytpbjknkbllcciaa
set_option linter.unusedVariables false
set_option linter.unusedSimpArgs false
open Go.RowKit Sym Go.Maps Go.Sort Go.Lib

abbrev w13a : DataW Unit := setD 5 (.map []) ⟨#[97]⟩ 3
abbrev w13b : DataW Unit := setD 5 w13a ⟨#[98]⟩ 1
def w13L : DataW Unit := .map [(.string [97], .lit (.int .i64 8)), (.string [98], .lit (.int .i64 6))]
theorem w13_eq : w13b = w13L := by kernel_rfl
theorem w13_sd : SD w13L ∧ mSize w13L ≤ 64 ∧ Fut 5 w13L := by
  have h0 : SD (.map []) ∧ mSize (.map [] : DataW Unit) ≤ 64 ∧ Fut 5 (.map []) := ⟨.emp, by decide, fun x h => by cases h⟩
  have h1 := set_keeps h0.1 h0.2.1 h0.2.2 (by omega) ⟨#[97]⟩ (by decide) 3
  have h2 := set_keeps h1.1 h1.2.1 h1.2.2 (by omega) ⟨#[98]⟩ (by decide) 1
  exact w13_eq ▸ h2
theorem w13_1 : SD w13a ∧ mSize w13a ≤ 64 := by
  have h0 : SD (.map []) ∧ mSize (.map [] : DataW Unit) ≤ 64 ∧ Fut 5 (.map []) := ⟨.emp, by decide, fun x h => by cases h⟩
  have h1 := set_keeps h0.1 h0.2.1 h0.2.2 (by omega) ⟨#[97]⟩ (by decide) 3
  exact ⟨h1.1, h1.2.1⟩
theorem w13_d1 : dueL w13L [98] = 6 := by kernel_rfl
theorem w13_d2 : dueL w13L [97] = 8 := by kernel_rfl
theorem w13_ord : ordL w13L = [[98], [97]] := by
  refine ordL_eq ⟨List.Perm.swap _ _ _, ?_⟩
  simp only [List.pairwise_cons, List.mem_singleton, forall_eq, List.not_mem_nil, false_implies, implies_true, List.Pairwise.nil, and_true]
  exact .inl (by rw [w13_d1, w13_d2]; omega)
theorem w13_n0 : nameL w13L 0 = [98] := by unfold nameL; rw [w13_ord]; rfl
theorem w13_n1 : nameL w13L 1 = [97] := by unfold nameL; rw [w13_ord]; rfl
theorem w13_due : dueN w13L 7 = 1 := by
  refine dueN_uniq (by rw [w13_ord]; decide) (fun j hj => ?_) fun _ => ?_
  · obtain rfl : j = 0 := by omega
    rw [w13_n0, w13_d1]; omega
  · rw [w13_n1, w13_d2]; omega
theorem w13_nb : nextB (atD w13L 7) = true := by
  unfold nextB
  rw [len_at w13_sd.1, w13_due, w13_ord]; rfl
theorem w13_ni : nextI (atD w13L 7) = 8 := by
  rw [(next_at w13_sd.1 7 w13_nb).2.1, w13_due, w13_n1, w13_d2]
theorem w13_sz : mSize (atD w13L 7) = 1 := by
  rw [(sd_at w13_sd.1 7).olen, len_at w13_sd.1, w13_due, w13_ord]; rfl
theorem w13_row : ((ordL w13L).take (dueN w13L 7)).map encStr = [.string ⟨#[98]⟩] := by rw [w13_due, w13_ord]; rfl
theorem mem_nilW (w : World) : Mem w [] [] [] w :=
  ⟨⟨rfl, fun k x y h => by simp at h, fun k j b h => by obtain ⟨x, y, g, -⟩ := h; simp at g, fun k j b h => by obtain ⟨x, y, g, -⟩ := h; simp at g⟩, .refl _ _, fun k b h => by obtain ⟨x, y, g, -⟩ := h; simp at g⟩
theorem sameS_refl (n : Nat) (x y : Nat → ByteArray) (h : ∀ i, i < n → x i = y i) : sameS n x n y = true := by
  obtain ⟨h1, h2, h3⟩ := firstOf_le0 (difS x y) n
  unfold sameS
  rw [decide_eq_true rfl, Bool.true_and]
  generalize firstOf (difS x y) n 0 = e at *
  by_cases hl : e < n
  · have := h3 hl
    unfold difS at this
    rw [decide_eq_true (h _ hl)] at this
    cases this
  · rw [show Nat.blt e n = false by rw [← Bool.not_eq_true, Nat.blt_eq]; exact hl]; rfl
theorem CWl_ok : CfgOk Try.prog (CWl Try.prog whV noS ⟨Try.f8, Try.f12⟩) := both_ok noS_ok FWl_ok
theorem works13 (w : World) : Calls Try.prog 5 #[] w fun e w' => e = .returned (.bool true) ∧ Below w.heap.size w w' := by
  refine calls_runO CWl_ok follows Try.func5 (by kernel_rfl) (lexAllF_ok (by kernel_rfl)) (noloops (by kernel_rfl)) (works13_run whV) ?_ (mem_nilW w) rfl
  have e5 : iniT 5 = 5 := by decide
  have e7 : nowT 5 2 = 7 := by decide
  have hb5 : (0 : Int) ≤ 5 ∧ (5 : Int) ≤ 1099511627776 := by omega
  have hb7 : (0 : Int) ≤ 7 ∧ (7 : Int) ≤ 1099511627776 := by omega
  show T.ok _ (.need (Try.prog = Try.prog ∧ okW (iniT 5) (.map []) ∧ _) (.need (Try.prog = Try.prog ∧ okW (iniT 5) (setD (iniT 5) (.map []) ⟨#[97]⟩ 3) ∧ _) (.need (Try.prog = Try.prog ∧ okW (iniT 5) (setD (iniT 5) (setD (iniT 5) (.map []) ⟨#[97]⟩ 3) ⟨#[98]⟩ 1)) (.need (Try.prog = Try.prog ∧ okW (nowT (iniT 5) 2) (atD (setD (iniT 5) (setD (iniT 5) (.map []) ⟨#[97]⟩ 3) ⟨#[98]⟩ 1) (nowT (iniT 5) 2)))
    (.need (AllStr (dueN (setD (iniT 5) (setD (iniT 5) (.map []) ⟨#[97]⟩ 3) ⟨#[98]⟩ 1) (nowT (iniT 5) 2)) fun i j => cellAt (((ordL (setD (iniT 5) (setD (iniT 5) (.map []) ⟨#[97]⟩ 3) ⟨#[98]⟩ 1)).take (dueN (setD (iniT 5) (setD (iniT 5) (.map []) ⟨#[97]⟩ 3) ⟨#[98]⟩ 1) (nowT (iniT 5) 2))).map encStr) (i * 1 + j)) (.need (AllStr 1 fun i j => cellAt [Value.string ⟨#[98]⟩] (i * 1 + j))
    (.ite (sameS (dueN (setD (iniT 5) (setD (iniT 5) (.map []) ⟨#[97]⟩ 3) ⟨#[98]⟩ 1) (nowT (iniT 5) 2)) (strR fun i j => cellAt (((ordL (setD (iniT 5) (setD (iniT 5) (.map []) ⟨#[97]⟩ 3) ⟨#[98]⟩ 1)).take (dueN (setD (iniT 5) (setD (iniT 5) (.map []) ⟨#[97]⟩ 3) ⟨#[98]⟩ 1) (nowT (iniT 5) 2))).map encStr) (i * 1 + j)) 1 (strR fun i j => cellAt [Value.string ⟨#[98]⟩] (i * 1 + j)))
    (.ite (decide (nextI (atD (setD (iniT 5) (setD (iniT 5) (.map []) ⟨#[97]⟩ 3) ⟨#[98]⟩ 1) (nowT (iniT 5) 2)) = 8)) (.ite (nextB (atD (setD (iniT 5) (setD (iniT 5) (.map []) ⟨#[97]⟩ 3) ⟨#[98]⟩ 1) (nowT (iniT 5) 2))) (.ite (decide (nowT (iniT 5) 2 = 7)) (.need (Try.prog = Try.prog) (.leaf (Value.bool (decide ((mSize (atD (setD (iniT 5) (setD (iniT 5) (.map []) ⟨#[97]⟩ 3) ⟨#[98]⟩ 1) (nowT (iniT 5) 2)) : Int) = 1))))) _) _) _) _)))))))
  rw [e5, e7, show setD 5 (setD 5 (.map []) ⟨#[97]⟩ 3) ⟨#[98]⟩ 1 = w13L from w13_eq, w13_row, w13_due, w13_ni, w13_nb, w13_sz]
  have hA : AllStr 1 fun i j => cellAt [Value.string ⟨#[98]⟩] (i * 1 + j) := ⟨by decide, fun i hi => by obtain rfl : i = 0 := (by omega); rfl⟩
  refine t_need ⟨rfl, okW_of .emp hb5 (by decide), by omega⟩ (t_need ⟨rfl, okW_of w13_1.1 hb5 w13_1.2, by omega⟩ (t_need ⟨rfl, okW_of w13_sd.1 hb5 w13_sd.2.1⟩ (t_need ⟨rfl, okW_at w13_sd.1 hb7 w13_sd.2.1 7⟩ (t_need hA (t_need hA ?_)))))
  rw [sameS_refl 1 _ _ (fun i _ => rfl)]
  refine t_ite (fun _ => t_ite (fun _ => t_ite (fun _ => t_ite (fun _ => t_need rfl (t_leaf rfl)) ?_) ?_) ?_) ?_ <;> intro h <;> cases h
def tTrue13 : List Value → Option (List Prop × Value)
  | [] => some ([], .bool true)
  | _ => none
end Go.Proofs.Ytpbjknkbllcciaa
