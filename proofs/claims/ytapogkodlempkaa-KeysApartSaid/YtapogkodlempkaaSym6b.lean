/- The symbolic evaluator: a region that draws its order, in the order of the text. No conditions. -/
import Derived.Test.YtapogkodlempkaaSym6a
namespace Go.Proofs.Ytapogkodlempkaa.Sym
set_option linter.unusedVariables false
set_option linter.unusedSimpArgs false
open Go.RowKit

section
variable {P : Program} {S : Tab} {G : GTab} {N : Nat} {md : Region.Mode} {E : Oper → Bool} {V : Nat → Nat → Bool} {ops : Array Oper} {QQ : St → Prop}
theorem look_mk2 {st : St} {dst : Option Tmp} {s : SV} {e : Eff} {t : Nat} (h : dst ≠ some t) : look (st.mk2 dst s e).fr t = look st.fr t := by
  cases dst with
  | none => rfl
  | some d =>
    have hne : d ≠ t := fun e => h (by rw [e])
    have hb : Nat.beq d t = false := by
      cases hb : Nat.beq d t
      · rfl
      · exact absurd (Nat.eq_of_beq_eq_true hb) hne
    simp only [St.mk2, St.put, look, hb, cond_false]
theorem look_mk2_same {st : St} {d : Nat} {s : SV} {e : Eff} : look (st.mk2 (some d) s e).fr d = some s := by
  simp only [St.mk2, St.put, look, Nat.beq_refl, cond_true]
theorem SEq.refl (st : St) : SEq st st := ⟨fun _ => rfl, rfl⟩
theorem SEq.symm {a b : St} (h : SEq a b) : SEq b a := ⟨fun t => (h.1 t).symm, h.2.symm⟩
theorem SEq.mk2 {a b : St} (h : SEq a b) (dst : Option Tmp) (s : SV) (e : Eff) : SEq (a.mk2 dst s e) (b.mk2 dst s e) := by
  refine ⟨fun t => ?_, by rw [mk2_fr, mk2_fr, h.2]⟩
  by_cases hd : dst = some t
  · subst hd; rw [look_mk2_same, look_mk2_same]
  · rw [look_mk2 hd, look_mk2 hd, h.1 t]
theorem AG_congr (hQ : ∀ st st', SEq st st' → QQ st → QQ st') : ∀ (fuel : Nat) (listed : Array Bool) (st st' : St), SEq st st' → AG P S G N md E V ops QQ fuel listed st → AG P S G N md E V ops QQ fuel listed st'
  | 0, _, st, st', he, h => ⟨h.1, hQ st st' he h.2⟩
  | fuel + 1, listed, st, st', he, h => by
    refine ⟨fun h0 => hQ st st' he (h.1 h0), fun i hi o ho => ?_⟩
    obtain ⟨s, e, h1, -, -, h3⟩ := stepA_point (h.2 i hi o ho)
    exact h3 st' (rawA_congr (fun t _ => (he.1 t).symm) (fun _ => he.2.symm) fun _ => by rw [he.2]) _ (AG_congr hQ fuel _ _ _ (he.mk2 o.dst s e) h1)
def DC (md : Region.Mode) (ops : Array Oper) (listed : Array Bool) : Prop := ∀ j o, ops[j]? = some o → listed.getD j false = true → ∀ e ∈ o.after, Region.binds md e = true → listed.getD e.on false = true
theorem nat_beq_ne0 {a b : Nat} (h : a ≠ b) : Nat.beq a b = false := by
  cases hb : Nat.beq a b
  · rfl
  · exact absurd (Nat.eq_of_beq_eq_true hb) h
theorem depB_listed {listed : Array Bool} (hD : DC md ops listed) {i : Nat} : ∀ (n j : Nat) (o : Oper), ops[j]? = some o → (∀ e ∈ o.after, Region.binds md e = true → listed.getD e.on false = true) → depB md ops i n j = true → listed.getD i false = true
  | 0, _, _, _, _, h => by simp [depB] at h
  | n + 1, j, o, ho, hall, h => by
    simp only [depB, ho] at h
    obtain ⟨e, he, hb⟩ := Array.any_eq_true'.1 h
    simp only [Bool.and_eq_true, Bool.or_eq_true] at hb
    obtain ⟨hb1, hb2⟩ := hb
    have hl := hall e he hb1
    rcases hb2 with hb2 | hb2
    · obtain rfl := Nat.eq_of_beq_eq_true hb2; exact hl
    · cases ho' : ops[e.on]? with
      | none => cases n <;> simp [depB, ho'] at hb2
      | some o' => exact depB_listed hD n e.on o' ho' (fun e' he' hb' => hD e.on o' ho' hl e' he' hb') hb2
theorem DC.set {listed : Array Bool} (hD : DC md ops listed) {j : Nat} {o : Oper} (ho : ops[j]? = some o) (hall : ∀ e ∈ o.after, Region.binds md e = true → listed.getD e.on false = true) : DC md ops (listed.setIfInBounds j true) := by
  intro k ok hk hl e he hb
  have up : ∀ m, listed.getD m false = true → (listed.setIfInBounds j true).getD m false = true := by
    intro m hm
    by_cases e' : j = m
    · subst e'
      have hlt : j < listed.size := by
        rcases Nat.lt_or_ge j listed.size with h | h
        · exact h
        · rw [Array.getD_eq_getD_getElem?, Array.getElem?_eq_none h] at hm; cases hm
      rw [Array.getD_eq_getD_getElem?, Array.getElem?_setIfInBounds_self_of_lt hlt]; rfl
    · rw [getD_set_ne false e']; exact hm
  by_cases hjk : j = k
  · subst hjk
    rw [ho] at hk
    simp only [Option.some.injEq] at hk
    subst hk
    exact up _ (hall e he hb)
  · rw [getD_set_ne false hjk] at hl
    exact up _ (hD k ok hk hl e he hb)
/-- **an operation that may come up now may be taken first** -/
theorem AG_first (hQ : ∀ st st', SEq st st' → QQ st → QQ st') {i : Nat} {oi : Oper} (hi : ops[i]? = some oi) (m : Nat) : ∀ (fuel : Nat) (listed : Array Bool) (st : St),
    (∀ j oj, ops[j]? = some oj → j ≠ i → listed.getD j true = false → depB md ops i m j = true ∨ (oi.apart ops oj = true ∧ ¬ (E oi = true ∧ E oj = true))) → DC md ops listed →
    i ∈ Region.ready md ops listed → (stepA P S G N md E V ops i oi st).ok (AG P S G N md E V ops QQ fuel (listed.setIfInBounds i true)) → AG P S G N md E V ops QQ (fuel + 1) listed st := by
  intro fuel
  induction fuel with
  | zero =>
    intro listed st _ _ hr H
    refine ⟨fun h => (by rw [h] at hr; cases hr), fun j hj o ho => ?_⟩
    by_cases hji : j = i
    · subst hji; rw [hi] at ho; simp only [Option.some.injEq] at ho; subst ho; exact H
    · obtain ⟨s, e, h1, -⟩ := stepA_point H
      have := ready_mono hj hji
      rw [h1.1] at this
      cases this
  | succ fuel ih =>
    intro listed st hfree hD hr H
    refine ⟨fun h => (by rw [h] at hr; cases hr), fun j hj oj hoj => ?_⟩
    by_cases hji : j = i
    · subst hji; rw [hi] at hoj; simp only [Option.some.injEq] at hoj; subst hoj; exact H
    · obtain ⟨si, ei, hA, hni, hidi, hpi⟩ := stepA_point H
      obtain ⟨hjun, oj', hoj', hall⟩ := mem_ready.1 hj
      rw [hoj] at hoj'
      simp only [Option.some.injEq] at hoj'
      subst hoj'
      have hiun := (mem_ready.1 hr).1
      have hnl : listed.getD i false ≠ true := by
        intro h
        rw [Array.getD_eq_getD_getElem?] at h hiun
        cases hx : listed[i]? with
        | none => rw [hx] at h; cases h
        | some b => rw [hx] at h hiun; simp only [Option.getD_some] at h hiun; rw [h] at hiun; cases hiun
      rcases hfree j oj hoj hji hjun with hdep | ⟨hap, hne⟩
      · exact absurd (depB_listed hD m j oj hoj hall hdep) hnl
      · obtain ⟨h1, h2, h3⟩ := Oper.apart_spec hap
        -- j behind i
        have hj2 := hA.2 j (ready_mono hj hji) oj hoj
        have hsz : ∀ {k ok}, ops[k]? = some ok → k < ops.size := fun hk => (Array.getElem?_eq_some_iff.1 hk).1
        have nij : depB md ops i ops.size j = false := by
          cases hd : depB md ops i ops.size j
          · rfl
          · exact absurd (depB_listed hD _ j oj hoj hall hd) hnl
        have nji : depB md ops j ops.size i = false := by
          cases hd : depB md ops j ops.size i
          · rfl
          · obtain ⟨-, oi', hoi', halli⟩ := mem_ready.1 hr
            have hl := depB_listed hD _ i oi' hoi' halli hd
            have hlt : j < listed.size := by
              rcases Nat.lt_or_ge j listed.size with h | h
              · exact h
              · rw [Array.getD_eq_getD_getElem?, Array.getElem?_eq_none h] at hl; cases hl
            rw [Array.getD_eq_getD_getElem?, Array.getElem?_eq_getElem hlt, Option.getD_some] at hl hjun
            rw [hl] at hjun; cases hjun
        have unseen : ∀ {a b oa n e}, ops[b]? = some oa → b ≠ a → depB md ops a ops.size b = false → depB md ops b ops.size a = false → (e = noEff ∨ hiddenB md ops V a n e = true) → ∀ q ∈ e.touch n, V b q = false := by
          intro a b oa n e hb hba h1 h2 he q hq
          rcases he with rfl | he
          · simp [Eff.touch, noEff] at hq
          · have := List.all_eq_true.1 (List.all_eq_true.1 he q hq) b (List.mem_range.2 (hsz hb))
            rw [h1, h2, nat_beq_ne0 hba] at this
            simpa using this
        have hrj : rawA P S G md E V ops j oj st = rawA P S G md E V ops j oj (st.mk2 oi.dst si ei) := by
          refine rawA_congr (fun t ht => (look_mk2 fun e => h1 t e ht).symm) (fun hE => ?_) (fun hE => ?_)
          · rw [mk2_fr]
            have : E oi = false := by
              cases hEi : E oi
              · rfl
              · exact absurd ⟨hEi, hE⟩ hne
            rw [hni this, noEff_run]
          · rw [mk2_fr]
            refine (visAt_run (unseen hoj hji nij nji ?_)).symm
            cases hEi : E oi
            · exact .inl (hni hEi)
            · exact hidi hEi
        obtain ⟨sj, ej, hB, hnj, hidj, hpj⟩ := stepA_point hj2
        refine hpj st hrj _ ?_
        -- i behind j
        have hri : rawA P S G md E V ops i oi (st.mk2 oj.dst sj ej) = rawA P S G md E V ops i oi st := by
          refine rawA_congr (fun t ht => look_mk2 fun e => h3 t e ht) (fun hE => ?_) (fun hE => ?_)
          · rw [mk2_fr]
            have : E oj = false := by
              cases hEj : E oj
              · rfl
              · exact absurd ⟨hE, hEj⟩ hne
            rw [hnj this, noEff_run]
          · rw [mk2_fr]
            refine visAt_run (unseen hi (Ne.symm hji) nji nij ?_)
            cases hEj : E oj
            · exact .inl (hnj hEj)
            · have := hidj hEj
              rw [mk2_fr, hni hE, noEff_run] at this
              exact this
        have hfree' : ∀ k ok, ops[k]? = some ok → k ≠ i → (listed.setIfInBounds j true).getD k true = false → depB md ops i m k = true ∨ (oi.apart ops ok = true ∧ ¬ (E oi = true ∧ E ok = true)) := fun k ok hk hki hun => by
          refine hfree k ok hk hki ?_
          by_cases hjk : j = k
          · subst hjk; exact hjun
          · rw [getD_set_ne true hjk] at hun; exact hun
        refine ih (listed.setIfInBounds j true) (st.mk2 oj.dst sj ej) hfree' (hD.set hoj hall) (ready_mono hr (Ne.symm hji)) (hpi _ hri _ ?_)
        rw [Array.setIfInBounds_comm _ _ hji]
        refine AG_congr hQ fuel _ _ _ ⟨fun t => ?_, ?_⟩ hB
        · by_cases ei' : oi.dst = some t
          · have ej' : oj.dst ≠ some t := h2 t ei'
            rw [look_mk2 ej', ei', look_mk2_same, look_mk2_same]
          · rw [look_mk2 (dst := oi.dst) ei']
            by_cases ej' : oj.dst = some t
            · rw [ej', look_mk2_same, look_mk2_same]
            · rw [look_mk2 ej', look_mk2 ej', look_mk2 ei']
        · simp only [mk2_fr]
          cases hEi : E oi
          · rw [hni hEi, noEff_run, noEff_run]
          · have : E oj = false := by
              cases hEj : E oj
              · rfl
              · exact absurd ⟨hEi, hEj⟩ hne
            rw [hnj this, noEff_run, noEff_run]
/-- the order of the text is one, and each operation may be taken first at its turn -/
def lexD (md : Region.Mode) (E : Oper → Bool) (ops : Array Oper) : Nat → Nat → Array Bool → Bool
  | 0, _, listed => (Region.ready md ops listed).isEmpty
  | fuel + 1, k, listed => (Region.ready md ops listed).contains k && (match ops[k]? with
      | some ok => (List.range ops.size).all fun j => Nat.beq j k || listed.getD j true || (match ops[j]? with
          | some oj => (ok.apart ops oj && !(E ok && E oj)) || depB md ops k ops.size j
          | none => true)
      | none => false) && lexD md E ops fuel (k + 1) (listed.setIfInBounds k true)
theorem AG_lex (hQ : ∀ st st', SEq st st' → QQ st → QQ st') : ∀ (l : List Oper) (k : Nat) (listed : Array Bool) (st : St), (∀ j, l[j]? = ops[k + j]?) → lexD md E ops l.length k listed = true → DC md ops listed →
    (runOpsD P S G N md E V ops l k st).ok QQ → AG P S G N md E V ops QQ l.length listed st
  | [], _, _, _, _, hB, _, h => ⟨by simpa [lexD] using hB, h⟩
  | o :: l, k, listed, st, hl, hB, hD, h => by
    have h0 : ops[k]? = some o := by simpa using (hl 0).symm
    simp only [List.length_cons, lexD, Bool.and_eq_true, h0] at hB
    obtain ⟨⟨hr, hf⟩, hB'⟩ := hB
    have hr : k ∈ Region.ready md ops listed := by simpa using hr
    have hall := (mem_ready.1 hr).2
    obtain ⟨o', ho', hall⟩ := hall
    rw [h0] at ho'
    simp only [Option.some.injEq] at ho'
    subst ho'
    refine AG_first hQ h0 ops.size l.length listed st (fun j oj hj hne hun => ?_) hD hr ?_
    · rw [List.all_eq_true] at hf
      have := hf j (List.mem_range.2 (Array.getElem?_eq_some_iff.1 hj).1)
      simp only [hj, hun, Bool.or_false, Bool.or_eq_true, Bool.and_eq_true, Bool.not_eq_true'] at this
      rcases this with this | ⟨h1, h2⟩ | h3
      · exact absurd (Nat.eq_of_beq_eq_true this) hne
      · exact .inr ⟨h1, fun ⟨a, b⟩ => by rw [a, b] at h2; cases h2⟩
      · exact .inl h3
    · refine T.ok_mono (fun st' hst' => ?_) (T.ok_bind h)
      exact AG_lex hQ l (k + 1) _ st' (fun j => by have := hl (j + 1); simpa [Nat.add_assoc, Nat.add_comm 1 j] using this) hB' (hD.set h0 hall) hst'
end
end Go.Proofs.Ytapogkodlempkaa.Sym
