/- The symbolic evaluator: that regions may be walked in the order of the text, asked quickly. No conditions. -/
import Derived.Test.YtapogkodlempkaaSymO
namespace Go.Proofs.Ytapogkodlempkaa.Sym
set_option linter.unusedVariables false
set_option linter.unusedSimpArgs false
open Go.RowKit

/-- of which operations one comes behind, as bits -/
def upL (md : Region.Mode) (A : List Nat) : List Edge → Nat → Nat
  | [], s => s
  | e :: l, s => upL md A l (bif Region.binds md e && Nat.blt e.on A.length then s ||| (2 ^ e.on ||| A.getD e.on 0) else s)
def ups (md : Region.Mode) : List Oper → List Nat → List Nat
  | [], A => A
  | o :: l, A => ups md l (A ++ [upL md A o.after.toList 0])
theorem upL_bit {md : Region.Mode} {A : List Nat} {i : Nat} : ∀ (l : List Edge) (s : Nat), (upL md A l s).testBit i = true → s.testBit i = true ∨ ∃ e ∈ l, Region.binds md e = true ∧ e.on < A.length ∧ (e.on = i ∨ (A.getD e.on 0).testBit i = true)
  | [], s, h => .inl h
  | e :: l, s, h => by
    simp only [upL] at h
    rcases upL_bit l _ h with h | ⟨e', h1, h2⟩
    · cases hb : Region.binds md e && Nat.blt e.on A.length
      · rw [hb, cond_false] at h; exact .inl h
      · rw [hb, cond_true, Nat.testBit_or, Nat.testBit_or, Bool.or_eq_true, Bool.or_eq_true] at h
        rw [Bool.and_eq_true, Nat.blt_eq] at hb
        rcases h with h | h | h
        · exact .inl h
        · refine .inr ⟨e, List.mem_cons_self .., hb.1, hb.2, .inl ?_⟩
          rw [Nat.testBit_two_pow] at h
          exact of_decide_eq_true h
        · exact .inr ⟨e, List.mem_cons_self .., hb.1, hb.2, .inr h⟩
    · exact .inr ⟨e', List.mem_cons_of_mem _ h1, h2⟩
theorem depB_any {md : Region.Mode} {ops : Array Oper} {i n j : Nat} {o : Oper} (ho : ops[j]? = some o) : depB md ops i (n + 1) j = true ↔ ∃ e ∈ o.after.toList, Region.binds md e = true ∧ (e.on = i ∨ depB md ops i n e.on = true) := by
  simp only [depB, ho]
  rw [← Array.any_toList, List.any_eq_true]
  constructor
  · rintro ⟨e, h1, h2⟩
    rw [Bool.and_eq_true, Bool.or_eq_true, Nat.beq_eq] at h2
    exact ⟨e, h1, h2⟩
  · rintro ⟨e, h1, h2⟩
    exact ⟨e, h1, by rw [Bool.and_eq_true, Bool.or_eq_true, Nat.beq_eq]; exact h2⟩
theorem depB_mono {md : Region.Mode} {ops : Array Oper} {i : Nat} : ∀ {n j : Nat}, depB md ops i n j = true → depB md ops i (n + 1) j = true
  | 0, _, h => by simp [depB] at h
  | n + 1, j, h => by
    cases ho : ops[j]? with
    | none => simp only [depB, ho] at h; cases h
    | some o =>
      rw [depB_any ho] at h ⊢
      obtain ⟨e, h1, h2, h3⟩ := h
      exact ⟨e, h1, h2, h3.imp id depB_mono⟩
def UpOk (md : Region.Mode) (ops : Array Oper) (A : List Nat) : Prop := ∀ j, j < A.length → ∀ i, (A.getD j 0).testBit i = true → depB md ops i A.length j = true
theorem ups_ok {md : Region.Mode} {ops : Array Oper} : ∀ (l : List Oper) (A : List Nat), (∀ t, l[t]? = ops[A.length + t]?) → UpOk md ops A → UpOk md ops (ups md l A) ∧ (ups md l A).length = A.length + l.length
  | [], A, _, h => ⟨h, rfl⟩
  | o :: l, A, hl, h => by
    have hlen : (A ++ [upL md A o.after.toList 0]).length = A.length + 1 := by simp
    have ho : ops[A.length]? = some o := by simpa using (hl 0).symm
    have := ups_ok (md := md) (ops := ops) l (A ++ [upL md A o.after.toList 0]) (fun t => by
      have := hl (t + 1)
      rw [hlen, show A.length + 1 + t = A.length + (t + 1) by omega, ← this]; simp) (fun j hj i hi => by
      rw [hlen] at hj ⊢
      by_cases e : j < A.length
      · rw [List.getD_eq_getElem?_getD, List.getElem?_append_left e, ← List.getD_eq_getElem?_getD] at hi
        exact depB_mono (h j e i hi)
      · obtain rfl : j = A.length := by omega
        have hg : (A ++ [upL md A o.after.toList 0]).getD A.length 0 = upL md A o.after.toList 0 := by simp
        rw [hg] at hi
        rw [depB_any ho]
        rcases upL_bit _ _ hi with h0 | ⟨e, h1, h2, h3, h4⟩
        · simp at h0
        · exact ⟨e, h1, h2, h4.imp id (h e.on h3 i)⟩)
    obtain ⟨h1, h2⟩ := this
    refine ⟨h1, ?_⟩
    show (ups md l _).length = _
    rw [h2, hlen, List.length_cons]; omega
/-- operation o at k, and what stands behind it -/
def laterF (E : Oper → Bool) (ops : Array Oper) (k : Nat) (o : Oper) : List Oper → List Nat → Bool
  | [], _ => true
  | oj :: l, r => ((r.headD 0).testBit k || (o.apart ops oj && !(E o && E oj))) && laterF E ops k o l r.tail
def lexG (md : Region.Mode) (E : Oper → Bool) (ops : Array Oper) : Nat → List Oper → List Nat → Bool
  | _, [], _ => true
  | k, o :: l, r => (o.after.toList.all fun e => !Region.binds md e || Nat.blt e.on k) && laterF E ops k o l r.tail && lexG md E ops (k + 1) l r.tail
theorem laterF_ok {E : Oper → Bool} {ops : Array Oper} {k : Nat} {o : Oper} : ∀ {l : List Oper} {r : List Nat}, laterF E ops k o l r = true → ∀ t oj, l[t]? = some oj → (r.getD t 0).testBit k = true ∨ (o.apart ops oj = true ∧ (E o && E oj) = false)
  | [], _, _, t, oj, h => by simp at h
  | x :: l, r, h, t, oj, ht => by
    simp only [laterF, Bool.and_eq_true, Bool.or_eq_true, Bool.not_eq_true'] at h
    cases t with
    | zero =>
      simp only [List.getElem?_cons_zero, Option.some.injEq] at ht
      subst ht
      cases r <;> exact h.1
    | succ t =>
      have := laterF_ok h.2 t oj (by simpa using ht)
      cases r with
      | nil => simpa using this
      | cons a r => simpa using this
theorem lexG_ok {md : Region.Mode} {E : Oper → Bool} {ops : Array Oper} {R : List Nat} (hR : UpOk md ops R) (hsz : R.length = ops.size) : ∀ (l : List Oper) (k : Nat) (listed : Array Bool), (∀ t, l[t]? = ops[k + t]?) → k + l.length = ops.size → listed.size = ops.size → (∀ j, j < ops.size → listed[j]? = some (decide (j < k))) →
    lexG md E ops k l (R.drop k) = true → lexD md E ops l.length k listed = true
  | [], k, listed, _, hk, hls, hL, _ => by
    simp only [List.length_nil, lexD, List.isEmpty_iff]
    unfold Region.ready
    rw [List.filter_eq_nil_iff]
    intro i hi
    have hi := List.mem_range.1 hi
    have := hL i hi
    rw [Array.getD_eq_getD_getElem?, this]
    simp only [List.length_nil] at hk
    simp [show i < k by omega]
  | o :: l, k, listed, hl, hk, hls, hL, h => by
    have ho : ops[k]? = some o := by simpa using (hl 0).symm
    simp only [lexG, Bool.and_eq_true] at h
    obtain ⟨⟨h1, h2⟩, h3⟩ := h
    simp only [List.length_cons] at hk
    have hkl : k < ops.size := by omega
    simp only [List.length_cons, lexD, Bool.and_eq_true, ho]
    refine ⟨⟨?_, ?_⟩, ?_⟩
    · rw [List.contains_iff_mem]
      unfold Region.ready
      rw [List.mem_filter]
      refine ⟨List.mem_range.2 hkl, ?_⟩
      rw [Array.getD_eq_getD_getElem?, hL k hkl, ho]
      simp only [Option.getD_some, Nat.lt_irrefl, decide_false, Bool.not_false, Bool.true_and, Option.map_some]
      rw [← Array.all_toList, List.all_eq_true]
      rw [List.all_eq_true] at h1
      intro e he
      have := h1 e he
      rw [Bool.or_eq_true, Nat.blt_eq] at this
      rw [Bool.or_eq_true]
      refine this.imp id fun g => ?_
      rw [Array.getD_eq_getD_getElem?, hL e.on (by omega)]
      simp [g]
    · rw [List.all_eq_true]
      intro j hj
      have hj := List.mem_range.1 hj
      rw [Array.getD_eq_getD_getElem?, hL j hj]
      by_cases hlt : j < k
      · simp [hlt]
      by_cases he : j = k
      · subst he; simp
      obtain ⟨t, rfl⟩ : ∃ t, j = k + 1 + t := ⟨j - (k + 1), by omega⟩
      obtain ⟨oj, hoj⟩ : ∃ oj, ops[k + 1 + t]? = some oj := ⟨_, Array.getElem?_eq_getElem hj⟩
      have hlj : l[t]? = some oj := by
        have := hl (t + 1)
        rw [show k + (t + 1) = k + 1 + t by omega, hoj] at this
        simpa using this
      have hr : (List.drop k R).tail = R.drop (k + 1) := by rw [List.tail_drop]
      rw [hr] at h2
      have hd : (R.drop (k + 1)).getD t 0 = R.getD (k + 1 + t) 0 := by
        rw [List.getD_eq_getElem?_getD, List.getD_eq_getElem?_getD, List.getElem?_drop]
      have := laterF_ok h2 t oj hlj
      rw [hd] at this
      rw [hoj]
      simp only [Bool.or_eq_true, Bool.and_eq_true, Bool.not_eq_true']
      right
      rcases this with g | g
      · right
        have := hR (k + 1 + t) (by omega) k g
        rw [hsz] at this; exact this
      · exact .inl g
    · have hr : (List.drop k R).tail = R.drop (k + 1) := by rw [List.tail_drop]
      rw [hr] at h3
      refine lexG_ok hR hsz l (k + 1) _ (fun t => by have := hl (t + 1); simpa [Nat.add_assoc, Nat.add_comm 1 t] using this) (by omega) (by simp [hls]) (fun j hj => ?_) h3
      rw [Array.getElem?_setIfInBounds]
      by_cases e : k = j
      · subst e; simp [hls, hkl]
      · rw [if_neg e, hL j hj]
        congr 1
        rw [decide_eq_decide]; omega
/-- as lexAll, quickly -/
def lexAllF (E : Oper → Bool) : Code → Bool
  | .region _ ops draw => bif draw then lexG .any E ops 0 ops.toList (ups .any ops.toList []) else true
  | .seq a b => lexAllF E a && lexAllF E b
  | .cond _ a b => lexAllF E a && lexAllF E b
  | .block _ c => bif isLoop c then true else lexAllF E c
  | _ => true
theorem lexAllF_ok {E : Oper → Bool} : ∀ {c : Code}, lexAllF E c = true → lexAll E c = true
  | .region _ ops draw, h => by
    cases draw
    · rfl
    · simp only [lexAllF, lexAll, cond_true] at h ⊢
      obtain ⟨h1, h2⟩ := ups_ok (md := .any) (ops := ops) ops.toList [] (fun t => by simp) (fun j hj => by simp at hj)
      have hsz : (ups .any ops.toList []).length = ops.size := by rw [h2]; simp
      have := lexG_ok (E := E) h1 hsz ops.toList 0 (Array.replicate ops.size false) (fun t => by simp) (by simp) (by simp) (fun j hj => by simp [hj]) (by simpa using h)
      simpa using this
  | .seq a b, h => by
    simp only [lexAllF, lexAll, Bool.and_eq_true] at h ⊢
    exact ⟨lexAllF_ok h.1, lexAllF_ok h.2⟩
  | .cond _ a b, h => by
    simp only [lexAllF, lexAll, Bool.and_eq_true] at h ⊢
    exact ⟨lexAllF_ok h.1, lexAllF_ok h.2⟩
  | .block _ c, h => by
    simp only [lexAllF, lexAll] at h ⊢
    cases hb : isLoop c
    · rw [hb, cond_false] at h
      rw [cond_false]; exact lexAllF_ok h
    · rw [cond_true]
  | .skip, _ => rfl
  | .exit _, _ => rfl
  | .ret, _ => rfl
  | .loop _, _ => rfl
  | .rangeFunc .., _ => rfl
  | .scope _, _ => rfl
  | .label _, _ => rfl
  | .goto _, _ => rfl
  | .refuse _, _ => rfl
end Go.Proofs.Ytapogkodlempkaa.Sym
