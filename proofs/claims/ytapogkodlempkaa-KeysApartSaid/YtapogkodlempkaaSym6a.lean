/- The symbolic evaluator: regions. No conditions. -/
import Derived.Test.YtapogkodlempkaaSymE
namespace Go.Proofs.Ytapogkodlempkaa.Sym
set_option linter.unusedVariables false
set_option linter.unusedSimpArgs false
open Go.RowKit

section
variable {P : Program} {S : Tab} {G : GTab} {N : Nat} {w0 : World} {bs : List Nat}
/-! ### Regions -/
def wantedS (ops : Array Oper) (st : St) (o : Oper) : Option Bool :=
  match o.guard with
  | none => some true
  | some (j, want) => match (ops[j]?).bind (·.dst) with
    | some d => (match look st.fr d with
      | some .tt => some want
      | some .ff => some (!want)
      | some (.v (.tuple _)) => some false
      | _ => none)
    | none => some false
theorem wantedS_ok {ops : Array Oper} {st : St} {B : List Value} {a : Act} (h : Slots N st.fr B a) {o : Oper} {b : Bool} (hw : wantedS ops st o = some b) : Region.wanted o (yielded ops a.tmps) = b := by
  unfold wantedS at hw
  unfold Region.wanted
  split at hw
  · rename_i hg; rw [hg]; simpa using hw
  · rename_i j want hg
    rw [hg]
    unfold yielded
    split at hw
    · rename_i d hd
      simp only [hd, Option.bind_some]
      split at hw
      · rename_i hx
        have := h.slot d _ hx
        simp only [SV.to, Option.some.injEq] at this
        rw [Array.getD_eq_getD_getElem?] at this
        cases ht : a.tmps[d]? with
        | none => rw [ht] at this; simp [undef] at this
        | some y =>
          rw [ht] at this
          simp only [Option.getD_some] at this
          subst this
          simp only [Option.some.injEq] at hw ⊢
          rw [← hw]
          cases want <;> rfl
      · rename_i hx
        have := h.slot d _ hx
        simp only [SV.to, Option.some.injEq] at this
        rw [Array.getD_eq_getD_getElem?] at this
        cases ht : a.tmps[d]? with
        | none => rw [ht] at this; simp [undef] at this
        | some y =>
          rw [ht] at this
          simp only [Option.getD_some] at this
          subst this
          simp only [Option.some.injEq] at hw ⊢
          rw [← hw]
          cases want <;> rfl
      · rename_i x hx
        have := h.slot d _ hx
        simp only [SV.to, Option.some.injEq] at this
        rw [Array.getD_eq_getD_getElem?] at this
        simp only [Option.some.injEq] at hw
        subst hw
        cases ht : a.tmps[d]? with
        | none => rfl
        | some y =>
          rw [ht] at this
          simp only [Option.getD_some] at this
          subst this
          rfl
      · cases hw
    · rename_i hd
      simp only [hd]
      simp only [Option.some.injEq] at hw
      subst hw
      rfl
def isGuard (ops : Array Oper) (i : Nat) : Bool := ops.toList.any fun o => match o.guard with | some (j, _) => Nat.beq j i | none => false
/-- the state behind an operation -/
def St.mk2 (st : St) (dst : Option Tmp) (s : SV) (e : Eff) : St := (St.mk st.fr (e.run st.H)).put dst s
def putR (N : Nat) (isG : Bool) (dst : Option Tmp) (st : St) (p : SV × Eff) : T St :=
  bif dstOk N dst then
    (match isG, p.1 with
    | true, .v (.bool b) => .ite b (.leaf (st.mk2 dst .tt p.2)) (.leaf (st.mk2 dst .ff p.2))
    | _, s => .leaf (st.mk2 dst s p.2))
  else .stuck 30
theorem putR_ok {isG : Bool} {dst : Option Tmp} {st : St} {e : Eff} {s : SV} {B : List Value} {a : Act} (h : Slots N st.fr B a) {x : Value} (hs : s.to B = some x) {Qs : St → Prop} (hq : (putR N isG dst st (s, e)).ok Qs) :
    ∃ st', Qs st' ∧ Slots N st'.fr B (a.put dst x) ∧ st'.H = e.run st.H := by
  unfold putR at hq
  cases hd : dstOk N dst
  · rw [hd] at hq; exact hq.elim
  · rw [hd, cond_true] at hq
    have hp : ∀ (s' : SV), s'.to B = some x → Slots N (st.mk2 dst s' e).fr B (a.put dst x) ∧ (st.mk2 dst s' e).H = e.run st.H := fun s' hs' => ⟨Slots.put (st := St.mk st.fr (e.run st.H)) h hd hs', by cases dst <;> rfl⟩
    split at hq
    · rename_i b heq
      simp only at heq
      subst heq
      simp only [SV.to, Option.some.injEq] at hs
      cases b
      · exact ⟨_, hq.2 rfl, hp _ (by simpa [SV.to] using hs)⟩
      · exact ⟨_, hq.1 rfl, hp _ (by simpa [SV.to] using hs)⟩
    · exact ⟨_, hq, hp _ hs⟩
/-- the point at which a tree ends -/
theorem T.ok_point {α : Type} {Q : α → Prop} : ∀ {t : T α}, t.ok Q → ∃ a, Q a ∧ ∀ Q' : α → Prop, Q' a → t.ok Q'
  | .leaf a, h => ⟨a, h, fun _ h => h⟩
  | .ite true t _, h => let ⟨a, h1, h2⟩ := T.ok_point (t := t) (h.1 rfl); ⟨a, h1, fun Q' hq => ⟨fun _ => h2 Q' hq, (fun e => by cases e)⟩⟩
  | .ite false _ e, h => let ⟨a, h1, h2⟩ := T.ok_point (t := e) (h.2 rfl); ⟨a, h1, fun Q' hq => ⟨(fun e => by cases e), fun _ => h2 Q' hq⟩⟩
  | .need p t, h => let ⟨a, h1, h2⟩ := T.ok_point (t := t) h.2; ⟨a, h1, fun Q' hq => ⟨h.1, h2 Q' hq⟩⟩
  | .stuck _, h => h.elim
theorem T.ok_both {α : Type} {Q Q2 : α → Prop} : ∀ {t : T α}, t.ok Q → t.ok Q2 → t.ok fun a => Q a ∧ Q2 a
  | .leaf _, h, h2 => ⟨h, h2⟩
  | .ite _ t e, h, h2 => ⟨fun hb => T.ok_both (t := t) (h.1 hb) (h2.1 hb), fun hb => T.ok_both (t := e) (h.2 hb) (h2.2 hb)⟩
  | .need _ t, h, h2 => ⟨h.1, T.ok_both (t := t) h.2 h2.2⟩
  | .stuck _, h, _ => h
theorem T.bind_ok {α β : Type} {Q : β → Prop} {f : α → T β} : ∀ {t : T α}, (t.ok fun a => (f a).ok Q) → (t.bind f).ok Q
  | .leaf _, h => h
  | .ite _ t e, h => ⟨fun hb => T.bind_ok (t := t) (h.1 hb), fun hb => T.bind_ok (t := e) (h.2 hb)⟩
  | .need _ t, h => ⟨h.1, T.bind_ok (t := t) h.2⟩
  | .stuck _, h => h
theorem putR_point {isG : Bool} {dst : Option Tmp} {st : St} {p : SV × Eff} {Qs : St → Prop} (hq : (putR N isG dst st p).ok Qs) : ∃ s, Qs (st.mk2 dst s p.2) ∧ ∀ (st' : St) (Q' : St → Prop), Q' (st'.mk2 dst s p.2) → (putR N isG dst st' p).ok Q' := by
  unfold putR at hq ⊢
  cases hd : dstOk N dst
  · rw [hd] at hq; exact hq.elim
  · simp only [hd, cond_true] at hq ⊢
    split at hq
    · rename_i b heq
      cases b
      · refine ⟨.ff, hq.2 rfl, fun st' Q' h => ?_⟩
        first | exact ⟨(fun e => by cases e), fun _ => h⟩ | (simp only [heq]; exact ⟨(fun e => by cases e), fun _ => h⟩)
      · refine ⟨.tt, hq.1 rfl, fun st' Q' h => ?_⟩
        first | exact ⟨fun _ => h, (fun e => by cases e)⟩ | (simp only [heq]; exact ⟨fun _ => h, (fun e => by cases e)⟩)
    · rename_i hne
      refine ⟨p.1, hq, fun st' Q' h => ?_⟩
      first | exact h | (split; (rename_i b heq; exact absurd heq (hne b rfl)); exact h)
/-- j waits for i, at once or through others -/
def depB (md : Region.Mode) (ops : Array Oper) (i : Nat) : Nat → Nat → Bool
  | 0, _ => false
  | n + 1, j => match ops[j]? with
    | some o => o.after.any fun e => Region.binds md e && (Nat.beq e.on i || depB md ops i n e.on)
    | none => false
/-- the letters that an effect touches -/
def Eff.touch (n : Nat) (e : Eff) : List Nat := e.muts.map (·.1) ++ (List.range e.news.length).map (n + ·)
/-- what operation i touches is seen by none that may come ahead of it as well as behind it -/
def hiddenB (md : Region.Mode) (ops : Array Oper) (V : Nat → Nat → Bool) (i n : Nat) (e : Eff) : Bool :=
  (e.touch n).all fun q => (List.range ops.size).all fun j => Nat.beq j i || !(V j q) || depB md ops i ops.size j || depB md ops j ops.size i
def hidden (md : Region.Mode) (ops : Array Oper) (V : Nat → Nat → Bool) (i n : Nat) (p : SV × Eff) : T (SV × Eff) := bif hiddenB md ops V i n p.2 then .leaf p else .stuck 120
def visAt (v : Nat → Bool) (H : List Blk) : Nat → Option Blk := fun k => bif v k then H[k]? else none
section
variable (P : Program) (S : Tab) (G : GTab) (N : Nat)
def runOps (ops : Array Oper) : List Oper → Nat → St → T St
  | [], _, st => .leaf st
  | o :: rest, i, st => match wantedS ops st o with
    | some true => ((evalE P S G (st.view o) o).bind (putR N (isGuard ops i) o.dst st)).bind (runOps ops rest (i + 1))
    | some false => bif dstOk N o.dst then runOps ops rest (i + 1) (st.put o.dst (.v undef)) else .stuck 31
    | none => .stuck 32
/-- one operation of a region that draws its order: E tells which change memory; the others see the letters that V tells -/
def rawA (md : Region.Mode) (E : Oper → Bool) (V : Nat → Nat → Bool) (ops : Array Oper) (i : Nat) (o : Oper) (st : St) : T (SV × Eff) :=
  match wantedS ops st o with
  | some true => bif E o then (evalE P S G (st.view o) o).bind (hidden md ops V i st.H.length) else (evalQ P S (st.part (visAt (V i) st.H) o) o).bind fun s => .leaf (s, noEff)
  | some false => .leaf (.v undef, noEff)
  | none => .stuck 33
def stepA (md : Region.Mode) (E : Oper → Bool) (V : Nat → Nat → Bool) (ops : Array Oper) (i : Nat) (o : Oper) (st : St) : T St := (rawA P S G md E V ops i o st).bind (putR N (isGuard ops i) o.dst st)
def runOpsD (md : Region.Mode) (E : Oper → Bool) (V : Nat → Nat → Bool) (ops : Array Oper) : List Oper → Nat → St → T St
  | [], _, st => .leaf st
  | o :: rest, i, st => (stepA P S G N md E V ops i o st).bind (runOpsD md E V ops rest (i + 1))
/-- whatever order is picked -/
def AG (md : Region.Mode) (E : Oper → Bool) (V : Nat → Nat → Bool) (ops : Array Oper) (QQ : St → Prop) : Nat → Array Bool → St → Prop
  | 0, listed, st => Region.ready md ops listed = [] ∧ QQ st
  | fuel + 1, listed, st => (Region.ready md ops listed = [] → QQ st) ∧ ∀ i ∈ Region.ready md ops listed, ∀ o, ops[i]? = some o → (stepA P S G N md E V ops i o st).ok (AG md E V ops QQ fuel (listed.setIfInBounds i true))
end
theorem runOps_ok (hS : TabOk P S) (hG : GOk P G) {ops : Array Oper} {Qs : St → Prop} {Q : Exit → Act → World → Prop} {pre : List Value} (hQ : ∀ st B a w, Qs st → pre <+: B → Slots N st.fr B a → Mem w0 bs st.H B w → Q .normal a w) :
    ∀ (l : List Oper) (i : Nat) (st : St) (B : List Value) (a : Act) (w : World), pre <+: B → Slots N st.fr B a → Mem w0 bs st.H B w → (runOps P S G N ops l i st).ok Qs → wpList P ops Q l a w
  | [], _, st, B, a, w, hp, h, hm, hq => hQ st B a w hq hp h hm
  | o :: l, i, st, B, a, w, hp, h, hm, hq => by
    simp only [runOps] at hq
    unfold wpList
    split at hq
    · rename_i hw
      rw [wantedS_ok h hw, if_pos rfl]
      refine .inl (evalE_ok hS hG (view_ok h o) rfl hm (T.ok_bind (T.ok_bind hq)) fun s ef B2 x w2 hq2 hpre hm2 hs => ?_)
      obtain ⟨st2, hq3, hsl, hH⟩ := putR_ok (h.mono hpre) hs hq2
      exact runOps_ok hS hG hQ l (i + 1) st2 B2 _ w2 (hp.trans hpre) hsl (by rw [hH]; exact hm2) hq3
    · rename_i hw
      rw [wantedS_ok h hw]
      cases hd : dstOk N o.dst
      · rw [hd] at hq; exact hq.elim
      · rw [hd, cond_true] at hq
        refine runOps_ok hS hG hQ l (i + 1) _ B _ w hp (h.put hd (s := .v undef) rfl) ?_ hq
        cases o.dst <;> exact hm
    · exact hq.elim
section
variable {md : Region.Mode} {E : Oper → Bool} {V : Nat → Nat → Bool} {ops : Array Oper} {QQ : St → Prop}
theorem visAt_ok (v : Nat → Bool) (H : List Blk) : ∀ k x, visAt v H k = some x → H[k]? = some x := by
  intro k x h
  unfold visAt at h
  cases hb : v k
  · rw [hb] at h; cases h
  · rw [hb] at h; exact h
theorem foldl_set_get (l : List (Nat × Blk)) : ∀ (H : List Blk) (k : Nat), (∀ p ∈ l, p.1 ≠ k) → (l.foldl (fun H p => H.set p.1 p.2) H)[k]? = H[k]? := by
  induction l with
  | nil => intro H k _; rfl
  | cons p l ih =>
    intro H k h
    simp only [List.foldl_cons]
    rw [ih _ _ (fun q hq => h q (List.mem_cons_of_mem _ hq)), List.getElem?_set_ne (h p (List.mem_cons_self ..))]
theorem foldl_set_length (l : List (Nat × Blk)) : ∀ (H : List Blk), (l.foldl (fun H p => H.set p.1 p.2) H).length = H.length := by
  induction l with
  | nil => intro H; rfl
  | cons p l ih => intro H; simp only [List.foldl_cons]; rw [ih]; simp
/-- a letter that is not touched stays -/
theorem eff_run_get (e : Eff) (H : List Blk) (k : Nat) (hk : k ∉ e.touch H.length) : (e.run H)[k]? = H[k]? := by
  simp only [Eff.touch, List.mem_append, List.mem_map, List.mem_range, not_or, not_exists, not_and] at hk
  obtain ⟨h1, h2⟩ := hk
  have g1 : (e.muts.foldl (fun H p => H.set p.1 p.2) H)[k]? = H[k]? := foldl_set_get _ _ _ (fun p hp => h1 p hp)
  unfold Eff.run
  split
  · exact g1
  · rename_i l hl
    rcases Nat.lt_or_ge k H.length with hlt | hge
    · rw [List.getElem?_append_left (by rw [foldl_set_length]; exact hlt), g1]
    · have hn : ¬ (k - H.length < e.news.length) := fun h => h2 (k - H.length) h (by omega)
      rw [List.getElem?_eq_none (l := H) hge]
      apply List.getElem?_eq_none
      simp only [List.length_append, foldl_set_length]
      omega
theorem visAt_run {H : List Blk} {v : Nat → Bool} {e : Eff} (he : ∀ q ∈ e.touch H.length, v q = false) : visAt v (e.run H) = visAt v H := by
  funext k
  unfold visAt
  cases hv : v k
  · rfl
  · simp only [cond_true]
    refine eff_run_get e H k fun hm => ?_
    rw [he k hm] at hv; cases hv
theorem mk2_fr (st : St) (dst : Option Tmp) (s : SV) (e : Eff) : (st.mk2 dst s e).H = e.run st.H := by cases dst <;> rfl
/-- one operation, carried out -/
theorem stepA_wp (hS : TabOk P S) (hG : GOk P G) {i : Nat} {o : Oper} (ho : ops[i]? = some o) {st : St} {B : List Value} {a : Act} {w : World} (h : Slots N st.fr B a) (hm : Mem w0 bs st.H B w) {Φ : St → Prop} (hq : (stepA P S G N md E V ops i o st).ok Φ) {K : Act → World → Prop} {Q : Exit → Act → World → Prop}
    (hK : ∀ st' B' a' w', Φ st' → B <+: B' → Slots N st'.fr B' a' → Mem w0 bs st'.H B' w' → K a' w') : wpOp P ops Q i K a w := by
  unfold wpOp
  simp only [ho]
  have hq := T.ok_bind hq
  unfold rawA at hq
  split at hq
  · rename_i hw
    rw [wantedS_ok h hw, if_pos rfl]
    refine .inl ?_
    cases he : E o
    · rw [he, cond_false] at hq
      obtain ⟨s, hq2, x, hs, hqx⟩ := evalQ_ok hS (part_ok h (visAt_ok (V i) st.H) o) hm (T.ok_bind hq)
      refine wp_of_quietAt (hqx w hm) hm fun w' hw' => ?_
      obtain ⟨st2, hq3, hsl, hH⟩ := putR_ok h hs hq2
      exact hK st2 B _ w' hq3 (List.prefix_refl _) hsl (by rw [hH]; exact hw')
    · rw [he, cond_true] at hq
      refine evalE_ok hS hG (view_ok h o) rfl hm (T.ok_bind hq) fun s ef B2 x w2 hq2 hpre hm2 hs => ?_
      unfold hidden at hq2
      cases hh : hiddenB md ops V i st.H.length ef
      · simp only [hh] at hq2; exact hq2.elim
      · simp only [hh, cond_true] at hq2
        obtain ⟨st2, hq3, hsl, hH⟩ := putR_ok (h.mono hpre) hs hq2
        exact hK st2 B2 _ w2 hq3 hpre hsl (by rw [hH]; exact hm2)
  · rename_i hw
    rw [wantedS_ok h hw]
    obtain ⟨st2, hq3, hsl, hH⟩ := putR_ok h (s := .v undef) rfl hq
    exact hK st2 B _ w hq3 (List.prefix_refl _) hsl (by rw [hH]; exact hm)
  · exact hq.elim
theorem AG_sound (hS : TabOk P S) (hG : GOk P G) {pre : List Value} {Q : Exit → Act → World → Prop} (hQ : ∀ st B a w, QQ st → pre <+: B → Slots N st.fr B a → Mem w0 bs st.H B w → Q .normal a w) :
    ∀ (fuel : Nat) (listed : Array Bool) (st : St) (B : List Value) (a : Act) (w : World), pre <+: B → Slots N st.fr B a → Mem w0 bs st.H B w → AG P S G N md E V ops QQ fuel listed st → wpAny P md ops Q fuel listed a w
  | 0, listed, st, B, a, w, hp, h, hm, hA => ⟨hA.1, hQ st B a w hA.2 hp h hm⟩
  | fuel + 1, listed, st, B, a, w, hp, h, hm, hA => by
    refine ⟨fun h0 => hQ st B a w (hA.1 h0) hp h hm, fun i hi => ?_⟩
    obtain ⟨-, o, ho, -⟩ := mem_ready.1 hi
    exact stepA_wp hS hG ho h hm (hA.2 i hi o ho) fun st' B' a' w' hA' hpre h' hm' => AG_sound hS hG hQ fuel _ st' B' a' w' (hp.trans hpre) h' hm' hA'
/-! ### One order serves all -/
def SEq (st st' : St) : Prop := (∀ t, look st.fr t = look st'.fr t) ∧ st.H = st'.H
theorem wantedS_congr {st st' : St} {o : Oper} (h : ∀ t ∈ o.looksAt ops, look st.fr t = look st'.fr t) : wantedS ops st o = wantedS ops st' o := by
  unfold wantedS
  cases hg : o.guard with
  | none => rfl
  | some p =>
    obtain ⟨j, want⟩ := p
    simp only
    cases hd : (ops[j]?).bind (·.dst) with
    | none => rfl
    | some d =>
      simp only
      rw [h d (by unfold Oper.looksAt; rw [hg]; simp only [hd]; exact List.mem_append_right _ (by simp))]
theorem valR_congr {st st' : St} {o : Oper} (h : ∀ t ∈ o.looksAt ops, look st.fr t = look st'.fr t) : valR (opTmps o) st.fr = valR (opTmps o) st'.fr := by
  funext x
  cases x with
  | tmp t =>
    simp only [valR]
    cases hb : (opTmps o).any (Nat.beq t)
    · rfl
    · simp only [cond_true]
      rw [List.any_eq_true] at hb
      obtain ⟨u, hu, e⟩ := hb
      obtain rfl := Nat.eq_of_beq_eq_true e
      exact h t (List.mem_append_left _ hu)
  | const v => rfl
  | global n => rfl
  | func f => rfl
theorem rawA_congr {st st' : St} {i : Nat} {o : Oper} (h : ∀ t ∈ o.looksAt ops, look st.fr t = look st'.fr t) (hH : E o = true → st.H = st'.H) (hv' : E o = false → visAt (V i) st.H = visAt (V i) st'.H) : rawA P S G md E V ops i o st = rawA P S G md E V ops i o st' := by
  unfold rawA
  rw [wantedS_congr h]
  have hv := valR_congr h
  cases he : E o
  · simp only [cond_false, St.part, hv, hv' he]
  · simp only [cond_true, St.view, hv, hH he]
theorem stepA_point {i : Nat} {o : Oper} {st : St} {Φ : St → Prop} (hq : (stepA P S G N md E V ops i o st).ok Φ) :
    ∃ s e, Φ (st.mk2 o.dst s e) ∧ (E o = false → e = noEff) ∧ (E o = true → e = noEff ∨ hiddenB md ops V i st.H.length e = true) ∧ ∀ st', rawA P S G md E V ops i o st' = rawA P S G md E V ops i o st → ∀ Φ' : St → Prop, Φ' (st'.mk2 o.dst s e) → (stepA P S G N md E V ops i o st').ok Φ' := by
  obtain ⟨p, hp, hpt⟩ := T.ok_point (T.ok_bind hq)
  obtain ⟨s, hs, hst⟩ := putR_point hp
  have hall : (rawA P S G md E V ops i o st).ok fun q => (E o = false → q.2 = noEff) ∧ (E o = true → q.2 = noEff ∨ hiddenB md ops V i st.H.length q.2 = true) := by
    have h0 := T.ok_bind hq
    unfold rawA at h0 ⊢
    split at h0
    · cases he : E o
      · rw [he, cond_false] at h0
        simp only [cond_false]
        exact T.bind_ok (T.ok_mono (fun s _ => ⟨fun _ => rfl, (fun h => by cases h)⟩) (T.ok_bind h0))
      · rw [he, cond_true] at h0
        simp only [cond_true]
        refine T.bind_ok (T.ok_mono (fun q hq => ?_) (T.ok_bind h0))
        unfold hidden at hq ⊢
        cases hh : hiddenB md ops V i st.H.length q.2
        · rw [hh] at hq; exact hq.elim
        · rw [cond_true]; exact ⟨(fun h => by cases h), fun _ => .inr hh⟩
    · exact ⟨fun _ => rfl, fun _ => .inl rfl⟩
    · exact h0.elim
  have h1 : (rawA P S G md E V ops i o st).ok fun a => a = p := hpt _ rfl
  obtain ⟨r, ⟨hr1, hr2⟩, -⟩ := T.ok_point (T.ok_both h1 hall)
  subst hr1
  exact ⟨s, r.2, hs, hr2.1, hr2.2, fun st' hr Φ' h => by
    unfold stepA
    rw [hr]
    exact T.bind_ok (hpt _ (hst st' Φ' h))⟩
end
end
end Go.Proofs.Ytapogkodlempkaa.Sym
