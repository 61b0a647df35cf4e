/- Timers: what sets and turns come to. No program. No conditions. -/
import Derived.Test.YtpbjknkbllcciaaWhG
namespace Go.Proofs.Ytpbjknkbllcciaa
set_option linter.unusedVariables false
set_option linter.unusedSimpArgs false
open Go.RowKit Sym Go.Maps Go.Sort Go.Lib

theorem kl (x : List UInt8) : WideAt.IsKeyLit (.string x) := trivial
/-- a map of names -/
structure SD (D : DataW Unit) : Prop where
  tidy : Tidy D
  str : ∀ es, D = .map es → ∀ p ∈ es, ∃ x : List UInt8, p.1 = .string x ∧ x.length ≤ maxLen
theorem SD.emp : SD (.map []) := ⟨tidy_empty, fun es e p hp => by cases e; cases hp⟩
theorem SD.put {D : DataW Unit} (h : SD D) (x : List UInt8) (hx : x.length ≤ maxLen) (d : DataW Unit) : SD (D.put (.string x) d) := by
  refine ⟨h.tidy.put (kl x) d, fun es e p hp => ?_⟩
  obtain ⟨es0, rfl, -⟩ := h.tidy
  have e : DataW.map (DataW.insert (.string x, d) (es0.filter fun p => !p.1.sameKey (.string x))) = .map es := e
  cases e
  rcases Go.ChangeMaps.mem_insert_iff.1 hp with rfl | hp
  · exact ⟨x, rfl, hx⟩
  · exact h.str _ rfl p (List.mem_filter.1 hp).1
theorem SD.del {D : DataW Unit} (h : SD D) (k : Lit) : SD (D.del k) := by
  refine ⟨h.tidy.del k, fun es e p hp => ?_⟩
  obtain ⟨es0, rfl, -⟩ := h.tidy
  have e : DataW.map (es0.filter fun p => !p.1.sameKey k) = .map es := e
  cases e
  exact h.str _ rfl p (List.mem_filter.1 hp).1
theorem SD.nodup {D : DataW Unit} (h : SD D) : (strKeys D).Nodup := by
  obtain ⟨es, rfl, hp⟩ := h.tidy
  have hk := h.str _ rfl
  show (es.map fun p => strOf p.1).Nodup
  refine List.pairwise_map.2 (hp.imp_of_mem fun {p q} hp' hq' hne e => hne ?_)
  obtain ⟨a, ha, -⟩ := hk p hp'
  obtain ⟨b, hb, -⟩ := hk q hq'
  rw [ha, hb] at e ⊢
  exact congrArg _ e
theorem SD.mem {D : DataW Unit} (h : SD D) (x : List UInt8) : x ∈ strKeys D ↔ has D (.string x) = true := by
  obtain ⟨es, rfl, hp⟩ := h.tidy
  have hk := h.str _ rfl
  rw [has_eq, List.any_eq_true]
  show x ∈ es.map (fun p => strOf p.1) ↔ _
  rw [List.mem_map]
  constructor
  · rintro ⟨p, hp', rfl⟩
    obtain ⟨a, ha, -⟩ := hk p hp'
    refine ⟨p, hp', ?_⟩
    rw [ha]
    exact WideAt.sameKey_self (kl a)
  · rintro ⟨p, hp', he⟩
    exact ⟨p, hp', by rw [WideAt.sameKey_eq he]; rfl⟩
theorem SD.len {D : DataW Unit} (h : SD D) : (strKeys D).length = mSize D := by
  obtain ⟨es, rfl, hp⟩ := h.tidy
  exact List.length_map ..
theorem SD.le {D : DataW Unit} (h : SD D) : ∀ x ∈ strKeys D, x.length ≤ maxLen := by
  obtain ⟨es, rfl, hp⟩ := h.tidy
  intro x hx
  obtain ⟨p, hp, rfl⟩ := List.mem_map.1 hx
  obtain ⟨a, ha, hl⟩ := h.str _ rfl p hp
  rw [ha]; exact hl
theorem ordL_perm (D : DataW Unit) : (ordL D).Perm (strKeys D) := List.mergeSort_perm _ _
theorem SD.onodup {D : DataW Unit} (h : SD D) : (ordL D).Nodup := (ordL_perm D).nodup_iff.2 h.nodup
theorem SD.ord {D : DataW Unit} (h : SD D) : Ord D (ordL D) := by
  refine ⟨ordL_perm D, ?_⟩
  have hs : (ordL D).Pairwise fun x y => decide (¬ ltW D y x) = true := List.pairwise_mergeSort (fun a b c h1 h2 => by
      rw [decide_eq_true_eq] at *
      intro h3
      rcases ltW_tri D a b with h | h | h
      · exact h2 (ltW_trans h3 h)
      · exact h2 (h ▸ h3)
      · exact h1 h) (fun a b => by
      by_cases h : ltW D b a
      · have : ¬ ltW D a b := fun h' => ltW_irrefl D _ (ltW_trans h h')
        simp [this]
      · simp [h]) _
  have hn : (ordL D).Pairwise fun x y => x ≠ y := h.onodup
  exact (hs.and hn).imp fun {a b} hab => by
    have h1 := of_decide_eq_true hab.1
    rcases ltW_tri D a b with h | h | h
    · exact h
    · exact absurd h hab.2
    · exact absurd h h1
theorem SD.olen {D : DataW Unit} (h : SD D) : mSize D = (ordL D).length := by rw [(ordL_perm D).length_eq, h.len]
theorem lit_ne {x y : List UInt8} (h : x ≠ y) : Lit.string x ≠ Lit.string y := fun e => h (by injection e)
theorem dueL_del {D : DataW Unit} {x y : List UInt8} (h : y ≠ x) : dueL (D.del (.string x)) y = dueL D y := by
  unfold dueL; rw [atKey_del_other (lit_ne h)]
theorem ord_del {D : DataW Unit} (h : SD D) {x : List UInt8} {rs : List (List UInt8)} (e : ordL D = x :: rs) : ordL (D.del (.string x)) = rs := by
  have hn := h.onodup
  rw [e] at hn
  have hx : x ∉ rs := (List.nodup_cons.1 hn).1
  have hO := h.ord
  rw [e] at hO
  refine ordL_eq ⟨(List.perm_ext_iff_of_nodup (List.nodup_cons.1 hn).2 (h.del _).nodup).2 fun y => ?_, ?_⟩
  · rw [(h.del _).mem]
    by_cases hy : y = x
    · subst hy
      rw [has_del_same]
      simp [hx]
    · rw [has_del_other (lit_ne hy), ← h.mem, ← hO.1.mem_iff]
      simp [hy]
  · refine (List.pairwise_cons.1 hO.2).2.imp_of_mem fun {a b} ha hb hab => ?_
    have ha' : a ≠ x := fun e => hx (e ▸ ha)
    have hb' : b ≠ x := fun e => hx (e ▸ hb)
    unfold ltW at *
    rw [dueL_del ha', dueL_del hb']
    exact hab
theorem drop_name {D : DataW Unit} {n : Nat} (h : n < (ordL D).length) : (ordL D).drop n = nameL D n :: (ordL D).drop (n + 1) := by
  rw [List.drop_eq_getElem_cons h]
  unfold nameL
  rw [List.getD_eq_getElem?_getD, List.getElem?_eq_getElem h]; rfl
theorem ord_delN {D : DataW Unit} (h : SD D) : ∀ n, n ≤ (ordL D).length → SD (delN D n) ∧ ordL (delN D n) = (ordL D).drop n ∧ ∀ y ∈ (ordL D).drop n, dueL (delN D n) y = dueL D y
  | 0, _ => ⟨h, rfl, fun _ _ => rfl⟩
  | n + 1, hn => by
    obtain ⟨h1, h2, h3⟩ := ord_delN h n (by omega)
    have hd := drop_name (D := D) (n := n) (by omega)
    have hnd : (nameL D n :: (ordL D).drop (n + 1)).Nodup := by rw [← hd]; exact (List.drop_sublist _ _).nodup h.onodup
    refine ⟨h1.del _, ord_del h1 (by rw [h2, hd]), fun y hy => ?_⟩
    show dueL ((delN D n).del (.string (nameL D n))) y = _
    have hne : y ≠ nameL D n := fun e => (List.nodup_cons.1 hnd).1 (by rw [← e]; exact hy)
    rw [dueL_del hne]
    exact h3 y (by rw [hd]; exact List.mem_cons_of_mem _ hy)
theorem name_delN {D : DataW Unit} (h : SD D) {a : Nat} (ha : a ≤ (ordL D).length) (i : Nat) : nameL (delN D a) i = nameL D (a + i) := by
  unfold nameL
  rw [(ord_delN h a ha).2.1, List.getD_eq_getElem?_getD, List.getD_eq_getElem?_getD, List.getElem?_drop]
theorem due_name {D : DataW Unit} (h : SD D) {a : Nat} (ha : a ≤ (ordL D).length) {i : Nat} (hi : a + i < (ordL D).length) : dueL (delN D a) (nameL (delN D a) i) = dueL D (nameL D (a + i)) := by
  rw [name_delN h ha]
  refine (ord_delN h a ha).2.2 _ ?_
  unfold nameL
  rw [List.getD_eq_getElem?_getD, List.getElem?_eq_getElem hi]
  exact List.mem_iff_getElem.2 ⟨i, by rw [List.length_drop]; omega, by rw [List.getElem_drop]; rfl⟩
theorem delN_delN {D : DataW Unit} (h : SD D) {a : Nat} (ha : a ≤ (ordL D).length) : ∀ b, delN (delN D a) b = delN D (a + b)
  | 0 => rfl
  | b + 1 => by
    show (delN (delN D a) b).del (.string (nameL (delN D a) b)) = (delN D (a + b)).del (.string (nameL D (a + b)))
    rw [delN_delN h ha b, name_delN h ha]
theorem dueN_spec (D : DataW Unit) (t : Int) : dueN D t ≤ (ordL D).length ∧ (∀ j, j < dueN D t → dueL D (nameL D j) ≤ t) ∧ (dueN D t < (ordL D).length → t < dueL D (nameL D (dueN D t))) := by
  obtain ⟨h1, h2, h3⟩ := firstOf_le0 (fun i => !decide (dueL D (nameL D i) ≤ t)) (ordL D).length
  refine ⟨h1, fun j hj => ?_, fun hl => ?_⟩
  · have := h2 j hj
    simpa using this
  · have h := h3 hl
    have h : t < dueL D (nameL D (firstOf (fun i => !decide (dueL D (nameL D i) ≤ t)) (ordL D).length 0)) := by simpa using h
    exact h
theorem dueN_uniq {D : DataW Unit} {t : Int} {c : Nat} (h1 : c ≤ (ordL D).length) (h2 : ∀ j, j < c → dueL D (nameL D j) ≤ t) (h3 : c < (ordL D).length → t < dueL D (nameL D c)) : dueN D t = c := by
  obtain ⟨g1, g2, g3⟩ := dueN_spec D t
  rcases Nat.lt_trichotomy (dueN D t) c with h | h | h
  · have := h2 _ h; have := g3 (by omega); omega
  · exact h
  · have := g2 _ h; have := h3 (by omega); omega
/-- a wheel at a time t, of which all that was due is told -/
def atD (D : DataW Unit) (t : Int) : DataW Unit := delN D (dueN D t)
theorem dueN_mono {D : DataW Unit} {s t : Int} (hst : s ≤ t) : dueN D s ≤ dueN D t := by
  obtain ⟨g1, g2, -⟩ := dueN_spec D s
  obtain ⟨k1, -, k3⟩ := dueN_spec D t
  rcases Nat.lt_or_ge (dueN D t) (dueN D s) with h | h
  · have := g2 _ h; have := k3 (by omega); omega
  · exact h
theorem dueN_at {D : DataW Unit} (h : SD D) {s t : Int} (hst : s ≤ t) : dueN (atD D s) t = dueN D t - dueN D s := by
  obtain ⟨g1, g2, -⟩ := dueN_spec D s
  obtain ⟨k1, k2, k3⟩ := dueN_spec D t
  have hm := dueN_mono (D := D) hst
  have hl : (ordL (atD D s)).length = (ordL D).length - dueN D s := by unfold atD; rw [(ord_delN h _ g1).2.1, List.length_drop]
  refine dueN_uniq (by omega) (fun j hj => ?_) (fun hc => ?_)
  · unfold atD
    rw [due_name h g1 (by omega)]
    exact k2 _ (by omega)
  · unfold atD
    rw [due_name h g1 (by omega), show dueN D s + (dueN D t - dueN D s) = dueN D t by omega]
    exact k3 (by omega)
theorem atD_at {D : DataW Unit} (h : SD D) {s t : Int} (hst : s ≤ t) : delN (atD D s) (dueN (atD D s) t) = atD D t := by
  rw [dueN_at h hst]
  have hm := dueN_mono (D := D) hst
  unfold atD
  rw [delN_delN h (dueN_spec D s).1, show dueN D s + (dueN D t - dueN D s) = dueN D t by omega]
theorem row_at {D : DataW Unit} (h : SD D) {s t : Int} (hst : s ≤ t) : ((ordL D).take (dueN D s)).map encStr ++ ((ordL (atD D s)).take (dueN (atD D s) t)).map encStr = ((ordL D).take (dueN D t)).map encStr := by
  rw [dueN_at h hst, ← List.map_append]
  have hm := dueN_mono (D := D) hst
  unfold atD
  rw [(ord_delN h _ (dueN_spec D s).1).2.1, ← List.take_add, show dueN D s + (dueN D t - dueN D s) = dueN D t by omega]
theorem len_at {D : DataW Unit} (h : SD D) (s : Int) : (ordL (atD D s)).length = (ordL D).length - dueN D s := by
  unfold atD; rw [(ord_delN h _ (dueN_spec D s).1).2.1, List.length_drop]
theorem okW_of {D : DataW Unit} {now : Int} (h : SD D) (h1 : 0 ≤ now ∧ now ≤ 1099511627776) (h2 : mSize D ≤ 64) : okW now D := ⟨h1, ⟨h.olen, h2⟩, fun x hx => h.le x ((ordL_perm D).mem_iff.1 hx)⟩
theorem sd_at {D : DataW Unit} (h : SD D) (s : Int) : SD (atD D s) := (ord_delN h _ (dueN_spec D s).1).1
theorem okW_at {D : DataW Unit} {now : Int} (h : SD D) (h1 : 0 ≤ now ∧ now ≤ 1099511627776) (h2 : mSize D ≤ 64) (s : Int) : okW now (atD D s) :=
  okW_of (sd_at h s) h1 (by rw [(sd_at h s).olen, len_at h, ← h.olen]; omega)
theorem next_at {D : DataW Unit} (h : SD D) (s : Int) (hb : nextB (atD D s) = true) : dueN D s < (ordL D).length ∧ nextI (atD D s) = dueL D (nameL D (dueN D s)) ∧ s < nextI (atD D s) := by
  unfold nextB at hb
  have hb := of_decide_eq_true hb
  have hl := len_at h s
  have hg := (dueN_spec D s).1
  have e : nextI (atD D s) = dueL D (nameL D (dueN D s)) := by
    unfold nextI
    rw [if_pos hb]
    unfold atD
    rw [due_name h hg (by omega)]; rfl
  exact ⟨by omega, e, by rw [e]; exact (dueN_spec D s).2.2 (by omega)⟩
theorem next_due {D : DataW Unit} (t : Int) : decide ((dueN D t : Int) > 0) = (nextB D && decide (nextI D ≤ t)) := by
  obtain ⟨k1, k2, k3⟩ := dueN_spec D t
  unfold nextB nextI
  by_cases h0 : 0 < (ordL D).length
  · rw [decide_eq_true h0, Bool.true_and, if_pos h0]
    by_cases h : 0 < dueN D t
    · rw [decide_eq_true (k2 0 h), decide_eq_true (by omega)]
    · have e : dueN D t = 0 := by omega
      have := k3 (by omega)
      rw [e] at this
      rw [decide_eq_false (by omega), decide_eq_false (by omega)]
  · rw [decide_eq_false h0, Bool.false_and, decide_eq_false (by omega)]
/-! what is set -/
def Fut (now : Int) (D : DataW Unit) : Prop := ∀ x, has D (.string x) = true → now < dueL D x
theorem fut0 {D : DataW Unit} (h : SD D) {now : Int} (hf : Fut now D) : dueN D now = 0 := by
  refine dueN_uniq (Nat.zero_le _) (fun j hj => by omega) fun hl => hf _ ?_
  rw [← h.mem, ← (ordL_perm D).mem_iff]
  unfold nameL
  rw [List.getD_eq_getElem?_getD, List.getElem?_eq_getElem hl]
  exact List.getElem_mem _
theorem dueL_put {D : DataW Unit} (h : SD D) (x y : List UInt8) (z : Int) : dueL (D.put (.string x) (.lit (.int .i64 z))) y = if y = x then z else dueL D y := by
  by_cases hy : y = x
  · subst hy
    rw [if_pos rfl]
    unfold dueL
    rw [atKey_put_same h.tidy.isMap (kl _)]; rfl
  · rw [if_neg hy]
    unfold dueL
    rw [atKey_put_other (lit_ne hy)]
theorem has_put {D : DataW Unit} (h : SD D) (x y : List UInt8) (d : DataW Unit) : has (D.put (.string x) d) (.string y) = (decide (y = x) || has D (.string y)) := by
  by_cases hy : y = x
  · subst hy
    rw [has_put_same h.tidy.isMap (kl _), decide_eq_true rfl]; rfl
  · rw [has_put_other (lit_ne hy), decide_eq_false hy]; rfl
theorem set_keeps {D : DataW Unit} {now : Int} (h : SD D) (h2 : mSize D ≤ 64) (hf : Fut now D) (hn : 0 ≤ now ∧ now ≤ 1099511627776) (s : ByteArray) (hs : s.size ≤ maxLen) (t : Int) : SD (setD now D s t) ∧ mSize (setD now D s t) ≤ 64 ∧ Fut now (setD now D s t) := by
  unfold setD
  split
  · exact ⟨h, h2, hf⟩
  · rename_i hc
    have hl : s.data.toList.length ≤ maxLen := by rw [Array.length_toList]; exact hs
    refine ⟨h.put _ hl _, ?_, fun x hx => ?_⟩
    · show Maps.size (D.put (.string s.data.toList) _) ≤ 64
      rw [size_put h.tidy]
      unfold mHas mKey mSize at *
      split
      · exact h2
      · rename_i hh
        have hh : has D (.string s.data.toList) = false := by simpa using hh
        have : ¬ 64 ≤ Maps.size D := fun h => hc ⟨hh, h⟩
        omega
    · show now < dueL (D.put (.string s.data.toList) (.lit (.int .i64 (setT now t)))) x
      have hx : has (D.put (.string s.data.toList) (.lit (.int .i64 (setT now t)))) (.string x) = true := hx
      rw [dueL_put h]
      rw [has_put h] at hx
      split
      · exact (setT_bd now t hn).1
      · rename_i hne
        rw [decide_eq_false hne, Bool.false_or] at hx
        exact hf x hx
theorem ini_bd (now : Int) : 0 ≤ iniT now ∧ iniT now ≤ 1099511627776 := by
  unfold iniT; split <;> (try split) <;> omega
end Go.Proofs.Ytpbjknkbllcciaa
