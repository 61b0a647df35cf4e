/- The symbolic evaluator: regions. No conditions. -/
import Derived.Test.YtodfcalaggfldaaSymB
namespace Go.Proofs.Ytodfcalaggfldaa.Sym
set_option linter.unusedVariables false
set_option linter.unusedSimpArgs false
open Go.RowKit

section
variable {P : Program} {S : Tab} {G : GTab} {N : Nat} {w0 : World} {bs : List Nat}
/-! ### Regions -/
def wantedS (ops : Array Oper) (st : St) (o : Oper) : Option Bool :=
  match o.guard with
  | none => some true
  | some (j, want) => match (ops[j]?).bind (·.dst) with
    | some d => (match look st.fr d with
      | some .tt => some want
      | some .ff => some (!want)
      | some (.v (.tuple _)) => some false
      | _ => none)
    | none => some false
theorem wantedS_ok {ops : Array Oper} {st : St} {B : List Value} {a : Act} (h : Slots N st.fr B a) {o : Oper} {b : Bool} (hw : wantedS ops st o = some b) : Region.wanted o (yielded ops a.tmps) = b := by
  unfold wantedS at hw
  unfold Region.wanted
  split at hw
  · rename_i hg; rw [hg]; simpa using hw
  · rename_i j want hg
    rw [hg]
    unfold yielded
    split at hw
    · rename_i d hd
      simp only [hd, Option.bind_some]
      split at hw
      · rename_i hx
        have := h.slot d _ hx
        simp only [SV.to, Option.some.injEq] at this
        rw [Array.getD_eq_getD_getElem?] at this
        cases ht : a.tmps[d]? with
        | none => rw [ht] at this; simp [undef] at this
        | some y =>
          rw [ht] at this
          simp only [Option.getD_some] at this
          subst this
          simp only [Option.some.injEq] at hw ⊢
          rw [← hw]
          cases want <;> rfl
      · rename_i hx
        have := h.slot d _ hx
        simp only [SV.to, Option.some.injEq] at this
        rw [Array.getD_eq_getD_getElem?] at this
        cases ht : a.tmps[d]? with
        | none => rw [ht] at this; simp [undef] at this
        | some y =>
          rw [ht] at this
          simp only [Option.getD_some] at this
          subst this
          simp only [Option.some.injEq] at hw ⊢
          rw [← hw]
          cases want <;> rfl
      · rename_i x hx
        have := h.slot d _ hx
        simp only [SV.to, Option.some.injEq] at this
        rw [Array.getD_eq_getD_getElem?] at this
        simp only [Option.some.injEq] at hw
        subst hw
        cases ht : a.tmps[d]? with
        | none => rfl
        | some y =>
          rw [ht] at this
          simp only [Option.getD_some] at this
          subst this
          rfl
      · cases hw
    · rename_i hd
      simp only [hd]
      simp only [Option.some.injEq] at hw
      subst hw
      rfl
def isGuard (ops : Array Oper) (i : Nat) : Bool := ops.toList.any fun o => match o.guard with | some (j, _) => Nat.beq j i | none => false
/-- the state behind an operation -/
def St.mk2 (st : St) (dst : Option Tmp) (s : SV) (e : Eff) : St := (St.mk st.fr (e.run st.H)).put dst s
def putR (N : Nat) (isG : Bool) (dst : Option Tmp) (st : St) (p : SV × Eff) : T St :=
  bif dstOk N dst then
    (match isG, p.1 with
    | true, .v (.bool b) => .ite b (.leaf (st.mk2 dst .tt p.2)) (.leaf (st.mk2 dst .ff p.2))
    | _, s => .leaf (st.mk2 dst s p.2))
  else .stuck 30
theorem putR_ok {isG : Bool} {dst : Option Tmp} {st : St} {e : Eff} {s : SV} {B : List Value} {a : Act} (h : Slots N st.fr B a) {x : Value} (hs : s.to B = some x) {Qs : St → Prop} (hq : (putR N isG dst st (s, e)).ok Qs) :
    ∃ st', Qs st' ∧ Slots N st'.fr B (a.put dst x) ∧ st'.H = e.run st.H := by
  unfold putR at hq
  cases hd : dstOk N dst
  · rw [hd] at hq; exact hq.elim
  · rw [hd, cond_true] at hq
    have hp : ∀ (s' : SV), s'.to B = some x → Slots N (st.mk2 dst s' e).fr B (a.put dst x) ∧ (st.mk2 dst s' e).H = e.run st.H := fun s' hs' => ⟨Slots.put (st := St.mk st.fr (e.run st.H)) h hd hs', by cases dst <;> rfl⟩
    split at hq
    · rename_i b heq
      simp only at heq
      subst heq
      simp only [SV.to, Option.some.injEq] at hs
      cases b
      · exact ⟨_, hq.2 rfl, hp _ (by simpa [SV.to] using hs)⟩
      · exact ⟨_, hq.1 rfl, hp _ (by simpa [SV.to] using hs)⟩
    · exact ⟨_, hq, hp _ hs⟩
/-- the point at which a tree ends -/
theorem T.ok_point {α : Type} {Q : α → Prop} : ∀ {t : T α}, t.ok Q → ∃ a, Q a ∧ ∀ Q' : α → Prop, Q' a → t.ok Q'
  | .leaf a, h => ⟨a, h, fun _ h => h⟩
  | .ite true t _, h => let ⟨a, h1, h2⟩ := T.ok_point (t := t) (h.1 rfl); ⟨a, h1, fun Q' hq => ⟨fun _ => h2 Q' hq, (fun e => by cases e)⟩⟩
  | .ite false _ e, h => let ⟨a, h1, h2⟩ := T.ok_point (t := e) (h.2 rfl); ⟨a, h1, fun Q' hq => ⟨(fun e => by cases e), fun _ => h2 Q' hq⟩⟩
  | .need p t, h => let ⟨a, h1, h2⟩ := T.ok_point (t := t) h.2; ⟨a, h1, fun Q' hq => ⟨h.1, h2 Q' hq⟩⟩
  | .stuck _, h => h.elim
theorem T.ok_both {α : Type} {Q Q2 : α → Prop} : ∀ {t : T α}, t.ok Q → t.ok Q2 → t.ok fun a => Q a ∧ Q2 a
  | .leaf _, h, h2 => ⟨h, h2⟩
  | .ite _ t e, h, h2 => ⟨fun hb => T.ok_both (t := t) (h.1 hb) (h2.1 hb), fun hb => T.ok_both (t := e) (h.2 hb) (h2.2 hb)⟩
  | .need _ t, h, h2 => ⟨h.1, T.ok_both (t := t) h.2 h2.2⟩
  | .stuck _, h, _ => h
theorem T.bind_ok {α β : Type} {Q : β → Prop} {f : α → T β} : ∀ {t : T α}, (t.ok fun a => (f a).ok Q) → (t.bind f).ok Q
  | .leaf _, h => h
  | .ite _ t e, h => ⟨fun hb => T.bind_ok (t := t) (h.1 hb), fun hb => T.bind_ok (t := e) (h.2 hb)⟩
  | .need _ t, h => ⟨h.1, T.bind_ok (t := t) h.2⟩
  | .stuck _, h => h
theorem putR_point {isG : Bool} {dst : Option Tmp} {st : St} {p : SV × Eff} {Qs : St → Prop} (hq : (putR N isG dst st p).ok Qs) : ∃ s, Qs (st.mk2 dst s p.2) ∧ ∀ (st' : St) (Q' : St → Prop), Q' (st'.mk2 dst s p.2) → (putR N isG dst st' p).ok Q' := by
  unfold putR at hq ⊢
  cases hd : dstOk N dst
  · rw [hd] at hq; exact hq.elim
  · simp only [hd, cond_true] at hq ⊢
    split at hq
    · rename_i b heq
      cases b
      · refine ⟨.ff, hq.2 rfl, fun st' Q' h => ?_⟩
        first | exact ⟨(fun e => by cases e), fun _ => h⟩ | (simp only [heq]; exact ⟨(fun e => by cases e), fun _ => h⟩)
      · refine ⟨.tt, hq.1 rfl, fun st' Q' h => ?_⟩
        first | exact ⟨fun _ => h, (fun e => by cases e)⟩ | (simp only [heq]; exact ⟨fun _ => h, (fun e => by cases e)⟩)
    · rename_i hne
      refine ⟨p.1, hq, fun st' Q' h => ?_⟩
      first | exact h | (split; (rename_i b heq; exact absurd heq (hne b rfl)); exact h)
/-- j waits for i, at once or through others -/
def depB (md : Region.Mode) (ops : Array Oper) (i : Nat) : Nat → Nat → Bool
  | 0, _ => false
  | n + 1, j => match ops[j]? with
    | some o => o.after.any fun e => Region.binds md e && (Nat.beq e.on i || depB md ops i n e.on)
    | none => false
/-- of which operations one comes behind, as bits -/
def upL (md : Region.Mode) (A : List Nat) : List Edge → Nat → Nat
  | [], s => s
  | e :: l, s => upL md A l (bif Region.binds md e && Nat.blt e.on A.length then s ||| (2 ^ e.on ||| A.getD e.on 0) else s)
def ups (md : Region.Mode) : List Oper → List Nat → List Nat
  | [], A => A
  | o :: l, A => ups md l (A ++ [upL md A o.after.toList 0])
theorem upL_bit {md : Region.Mode} {A : List Nat} {i : Nat} : ∀ (l : List Edge) (s : Nat), (upL md A l s).testBit i = true → s.testBit i = true ∨ ∃ e ∈ l, Region.binds md e = true ∧ e.on < A.length ∧ (e.on = i ∨ (A.getD e.on 0).testBit i = true)
  | [], s, h => .inl h
  | e :: l, s, h => by
    simp only [upL] at h
    rcases upL_bit l _ h with h | ⟨e', h1, h2⟩
    · cases hb : Region.binds md e && Nat.blt e.on A.length
      · rw [hb, cond_false] at h; exact .inl h
      · rw [hb, cond_true, Nat.testBit_or, Nat.testBit_or, Bool.or_eq_true, Bool.or_eq_true] at h
        rw [Bool.and_eq_true, Nat.blt_eq] at hb
        rcases h with h | h | h
        · exact .inl h
        · refine .inr ⟨e, List.mem_cons_self .., hb.1, hb.2, .inl ?_⟩
          rw [Nat.testBit_two_pow] at h
          exact of_decide_eq_true h
        · exact .inr ⟨e, List.mem_cons_self .., hb.1, hb.2, .inr h⟩
    · exact .inr ⟨e', List.mem_cons_of_mem _ h1, h2⟩
theorem depB_any {md : Region.Mode} {ops : Array Oper} {i n j : Nat} {o : Oper} (ho : ops[j]? = some o) : depB md ops i (n + 1) j = true ↔ ∃ e ∈ o.after.toList, Region.binds md e = true ∧ (e.on = i ∨ depB md ops i n e.on = true) := by
  simp only [depB, ho]
  rw [← Array.any_toList, List.any_eq_true]
  constructor
  · rintro ⟨e, h1, h2⟩
    rw [Bool.and_eq_true, Bool.or_eq_true, Nat.beq_eq] at h2
    exact ⟨e, h1, h2⟩
  · rintro ⟨e, h1, h2⟩
    exact ⟨e, h1, by rw [Bool.and_eq_true, Bool.or_eq_true, Nat.beq_eq]; exact h2⟩
theorem depB_mono {md : Region.Mode} {ops : Array Oper} {i : Nat} : ∀ {n j : Nat}, depB md ops i n j = true → depB md ops i (n + 1) j = true
  | 0, _, h => by simp [depB] at h
  | n + 1, j, h => by
    cases ho : ops[j]? with
    | none => simp only [depB, ho] at h; cases h
    | some o =>
      rw [depB_any ho] at h ⊢
      obtain ⟨e, h1, h2, h3⟩ := h
      exact ⟨e, h1, h2, h3.imp id depB_mono⟩
def UpOk (md : Region.Mode) (ops : Array Oper) (A : List Nat) : Prop := ∀ j, j < A.length → ∀ i, (A.getD j 0).testBit i = true → depB md ops i A.length j = true
theorem ups_ok {md : Region.Mode} {ops : Array Oper} : ∀ (l : List Oper) (A : List Nat), (∀ t, l[t]? = ops[A.length + t]?) → UpOk md ops A → UpOk md ops (ups md l A) ∧ (ups md l A).length = A.length + l.length
  | [], A, _, h => ⟨h, rfl⟩
  | o :: l, A, hl, h => by
    have hlen : (A ++ [upL md A o.after.toList 0]).length = A.length + 1 := by simp
    have ho : ops[A.length]? = some o := by simpa using (hl 0).symm
    have := ups_ok (md := md) (ops := ops) l (A ++ [upL md A o.after.toList 0]) (fun t => by
      have := hl (t + 1)
      rw [hlen, show A.length + 1 + t = A.length + (t + 1) by omega, ← this]; simp) (fun j hj i hi => by
      rw [hlen] at hj ⊢
      by_cases e : j < A.length
      · rw [List.getD_eq_getElem?_getD, List.getElem?_append_left e, ← List.getD_eq_getElem?_getD] at hi
        exact depB_mono (h j e i hi)
      · obtain rfl : j = A.length := by omega
        have hg : (A ++ [upL md A o.after.toList 0]).getD A.length 0 = upL md A o.after.toList 0 := by simp
        rw [hg] at hi
        rw [depB_any ho]
        rcases upL_bit _ _ hi with h0 | ⟨e, h1, h2, h3, h4⟩
        · simp at h0
        · exact ⟨e, h1, h2, h4.imp id (h e.on h3 i)⟩)
    obtain ⟨h1, h2⟩ := this
    refine ⟨h1, ?_⟩
    show (ups md l _).length = _
    rw [h2, hlen, List.length_cons]; omega
/-- as depB, quickly -/
def maskDep (md : Region.Mode) (ops : Array Oper) (i j : Nat) : Bool := ((ups md ops.toList []).getD j 0).testBit i
theorem maskDep_ok {md : Region.Mode} {ops : Array Oper} {i j : Nat} (h : maskDep md ops i j = true) : depB md ops i ops.size j = true := by
  obtain ⟨h1, h2⟩ := ups_ok (md := md) (ops := ops) ops.toList [] (fun t => by simp) (fun j hj => by simp at hj)
  have hsz : (ups md ops.toList []).length = ops.size := by rw [h2]; simp
  unfold maskDep at h
  by_cases hj : j < (ups md ops.toList []).length
  · have := h1 j hj i h
    rw [hsz] at this
    exact this
  · rw [List.getD_eq_getElem?_getD, List.getElem?_eq_none (by omega)] at h
    simp at h
/-- the letters that an effect touches -/
def Eff.touch (n : Nat) (e : Eff) : List Nat := e.muts.map (·.1) ++ (List.range e.news.length).map (n + ·)
/-- what operation i touches is seen by none that may come ahead of it as well as behind it -/
def effAt (E : Oper → Bool) (ops : Array Oper) (j : Nat) : Bool := match ops[j]? with | some o => E o | none => false
def hiddenB (md : Region.Mode) (E : Oper → Bool) (ops : Array Oper) (V : Nat → Nat → Bool) (i n : Nat) (e : Eff) : Bool :=
  (e.touch n).all fun q => (List.range ops.size).all fun j => Nat.beq j i || !(V j q) || effAt E ops j || maskDep md ops i j || maskDep md ops j i
def hidden (md : Region.Mode) (E : Oper → Bool) (ops : Array Oper) (V : Nat → Nat → Bool) (i n : Nat) (p : SV × Eff) : T (SV × Eff) := bif hiddenB md E ops V i n p.2 then .leaf p else .stuck 120
def visAt (v : Nat → Bool) (H : List Blk) : Nat → Option Blk := fun k => bif v k then H[k]? else none
section
variable (P : Program) (S : Tab) (G : GTab) (N : Nat)
def runOps (ops : Array Oper) : List Oper → Nat → St → T St
  | [], _, st => .leaf st
  | o :: rest, i, st => match wantedS ops st o with
    | some true => ((evalE P S G (st.view o) o).bind (putR N (isGuard ops i) o.dst st)).bind (runOps ops rest (i + 1))
    | some false => bif dstOk N o.dst then runOps ops rest (i + 1) (st.put o.dst (.v undef)) else .stuck 31
    | none => .stuck 32
/-- one operation of a region that draws its order: E tells which change memory; the others see the letters that V tells -/
def rawA (md : Region.Mode) (E : Oper → Bool) (V : Nat → Nat → Bool) (ops : Array Oper) (i : Nat) (o : Oper) (st : St) : T (SV × Eff) :=
  match wantedS ops st o with
  | some true => bif E o then (evalE P S G (st.view o) o).bind (hidden md E ops V i st.H.length) else (evalQ P S (st.part (visAt (V i) st.H) o) o).bind fun s => .leaf (s, noEff)
  | some false => .leaf (.v undef, noEff)
  | none => .stuck 33
def stepA (md : Region.Mode) (E : Oper → Bool) (V : Nat → Nat → Bool) (ops : Array Oper) (i : Nat) (o : Oper) (st : St) : T St := (rawA P S G md E V ops i o st).bind (putR N (isGuard ops i) o.dst st)
def runOpsD (md : Region.Mode) (E : Oper → Bool) (V : Nat → Nat → Bool) (ops : Array Oper) : List Oper → Nat → St → T St
  | [], _, st => .leaf st
  | o :: rest, i, st => (stepA P S G N md E V ops i o st).bind (runOpsD md E V ops rest (i + 1))
/-- whatever order is picked -/
def AG (md : Region.Mode) (E : Oper → Bool) (V : Nat → Nat → Bool) (ops : Array Oper) (QQ : St → Prop) : Nat → Array Bool → St → Prop
  | 0, listed, st => Region.ready md ops listed = [] ∧ QQ st
  | fuel + 1, listed, st => (Region.ready md ops listed = [] → QQ st) ∧ ∀ i ∈ Region.ready md ops listed, ∀ o, ops[i]? = some o → (stepA P S G N md E V ops i o st).ok (AG md E V ops QQ fuel (listed.setIfInBounds i true))
end
theorem runOps_ok (hS : TabOk P S) (hG : GOk P G) {ops : Array Oper} {Qs : St → Prop} {Q : Exit → Act → World → Prop} {pre : List Value} (hQ : ∀ st B a w, Qs st → pre <+: B → Slots N st.fr B a → Mem w0 bs st.H B w → Q .normal a w) :
    ∀ (l : List Oper) (i : Nat) (st : St) (B : List Value) (a : Act) (w : World), pre <+: B → Slots N st.fr B a → Mem w0 bs st.H B w → (runOps P S G N ops l i st).ok Qs → wpList P ops Q l a w
  | [], _, st, B, a, w, hp, h, hm, hq => hQ st B a w hq hp h hm
  | o :: l, i, st, B, a, w, hp, h, hm, hq => by
    simp only [runOps] at hq
    unfold wpList
    split at hq
    · rename_i hw
      rw [wantedS_ok h hw, if_pos rfl]
      refine .inl (evalE_ok hS hG (view_ok h o) rfl hm (T.ok_bind (T.ok_bind hq)) fun s ef B2 x w2 hq2 hpre hm2 hs => ?_)
      obtain ⟨st2, hq3, hsl, hH⟩ := putR_ok (h.mono hpre) hs hq2
      exact runOps_ok hS hG hQ l (i + 1) st2 B2 _ w2 (hp.trans hpre) hsl (by rw [hH]; exact hm2) hq3
    · rename_i hw
      rw [wantedS_ok h hw]
      cases hd : dstOk N o.dst
      · rw [hd] at hq; exact hq.elim
      · rw [hd, cond_true] at hq
        refine runOps_ok hS hG hQ l (i + 1) _ B _ w hp (h.put hd (s := .v undef) rfl) ?_ hq
        cases o.dst <;> exact hm
    · exact hq.elim
section
variable {md : Region.Mode} {E : Oper → Bool} {V : Nat → Nat → Bool} {ops : Array Oper} {QQ : St → Prop}
theorem visAt_ok (v : Nat → Bool) (H : List Blk) : ∀ k x, visAt v H k = some x → H[k]? = some x := by
  intro k x h
  unfold visAt at h
  cases hb : v k
  · rw [hb] at h; cases h
  · rw [hb] at h; exact h
theorem foldl_set_get (l : List (Nat × Blk)) : ∀ (H : List Blk) (k : Nat), (∀ p ∈ l, p.1 ≠ k) → (l.foldl (fun H p => H.set p.1 p.2) H)[k]? = H[k]? := by
  induction l with
  | nil => intro H k _; rfl
  | cons p l ih =>
    intro H k h
    simp only [List.foldl_cons]
    rw [ih _ _ (fun q hq => h q (List.mem_cons_of_mem _ hq)), List.getElem?_set_ne (h p (List.mem_cons_self ..))]
theorem foldl_set_length (l : List (Nat × Blk)) : ∀ (H : List Blk), (l.foldl (fun H p => H.set p.1 p.2) H).length = H.length := by
  induction l with
  | nil => intro H; rfl
  | cons p l ih => intro H; simp only [List.foldl_cons]; rw [ih]; simp
/-- a letter that is not touched stays -/
theorem eff_run_get (e : Eff) (H : List Blk) (k : Nat) (hk : k ∉ e.touch H.length) : (e.run H)[k]? = H[k]? := by
  simp only [Eff.touch, List.mem_append, List.mem_map, List.mem_range, not_or, not_exists, not_and] at hk
  obtain ⟨h1, h2⟩ := hk
  have g1 : (e.muts.foldl (fun H p => H.set p.1 p.2) H)[k]? = H[k]? := foldl_set_get _ _ _ (fun p hp => h1 p hp)
  unfold Eff.run
  split
  · exact g1
  · rename_i l hl
    rcases Nat.lt_or_ge k H.length with hlt | hge
    · rw [List.getElem?_append_left (by rw [foldl_set_length]; exact hlt), g1]
    · have hn : ¬ (k - H.length < e.news.length) := fun h => h2 (k - H.length) h (by omega)
      rw [List.getElem?_eq_none (l := H) hge]
      apply List.getElem?_eq_none
      simp only [List.length_append, foldl_set_length]
      omega
theorem visAt_run {H : List Blk} {v : Nat → Bool} {e : Eff} (he : ∀ q ∈ e.touch H.length, v q = false) : visAt v (e.run H) = visAt v H := by
  funext k
  unfold visAt
  cases hv : v k
  · rfl
  · simp only [cond_true]
    refine eff_run_get e H k fun hm => ?_
    rw [he k hm] at hv; cases hv
theorem mk2_fr (st : St) (dst : Option Tmp) (s : SV) (e : Eff) : (st.mk2 dst s e).H = e.run st.H := by cases dst <;> rfl
/-- one operation, carried out -/
theorem stepA_wp (hS : TabOk P S) (hG : GOk P G) {i : Nat} {o : Oper} (ho : ops[i]? = some o) {st : St} {B : List Value} {a : Act} {w : World} (h : Slots N st.fr B a) (hm : Mem w0 bs st.H B w) {Φ : St → Prop} (hq : (stepA P S G N md E V ops i o st).ok Φ) {K : Act → World → Prop} {Q : Exit → Act → World → Prop}
    (hK : ∀ st' B' a' w', Φ st' → B <+: B' → Slots N st'.fr B' a' → Mem w0 bs st'.H B' w' → K a' w') : wpOp P ops Q i K a w := by
  unfold wpOp
  simp only [ho]
  have hq := T.ok_bind hq
  unfold rawA at hq
  split at hq
  · rename_i hw
    rw [wantedS_ok h hw, if_pos rfl]
    refine .inl ?_
    cases he : E o
    · rw [he, cond_false] at hq
      obtain ⟨s, hq2, x, hs, hqx⟩ := evalQ_ok hS (part_ok h (visAt_ok (V i) st.H) o) hm (T.ok_bind hq)
      refine wp_of_quietAt (hqx w hm) hm fun w' hw' => ?_
      obtain ⟨st2, hq3, hsl, hH⟩ := putR_ok h hs hq2
      exact hK st2 B _ w' hq3 (List.prefix_refl _) hsl (by rw [hH]; exact hw')
    · rw [he, cond_true] at hq
      refine evalE_ok hS hG (view_ok h o) rfl hm (T.ok_bind hq) fun s ef B2 x w2 hq2 hpre hm2 hs => ?_
      unfold hidden at hq2
      cases hh : hiddenB md E ops V i st.H.length ef
      · simp only [hh] at hq2; exact hq2.elim
      · simp only [hh, cond_true] at hq2
        obtain ⟨st2, hq3, hsl, hH⟩ := putR_ok (h.mono hpre) hs hq2
        exact hK st2 B2 _ w2 hq3 hpre hsl (by rw [hH]; exact hm2)
  · rename_i hw
    rw [wantedS_ok h hw]
    obtain ⟨st2, hq3, hsl, hH⟩ := putR_ok h (s := .v undef) rfl hq
    exact hK st2 B _ w hq3 (List.prefix_refl _) hsl (by rw [hH]; exact hm)
  · exact hq.elim
theorem AG_sound (hS : TabOk P S) (hG : GOk P G) {pre : List Value} {Q : Exit → Act → World → Prop} (hQ : ∀ st B a w, QQ st → pre <+: B → Slots N st.fr B a → Mem w0 bs st.H B w → Q .normal a w) :
    ∀ (fuel : Nat) (listed : Array Bool) (st : St) (B : List Value) (a : Act) (w : World), pre <+: B → Slots N st.fr B a → Mem w0 bs st.H B w → AG P S G N md E V ops QQ fuel listed st → wpAny P md ops Q fuel listed a w
  | 0, listed, st, B, a, w, hp, h, hm, hA => ⟨hA.1, hQ st B a w hA.2 hp h hm⟩
  | fuel + 1, listed, st, B, a, w, hp, h, hm, hA => by
    refine ⟨fun h0 => hQ st B a w (hA.1 h0) hp h hm, fun i hi => ?_⟩
    obtain ⟨-, o, ho, -⟩ := mem_ready.1 hi
    exact stepA_wp hS hG ho h hm (hA.2 i hi o ho) fun st' B' a' w' hA' hpre h' hm' => AG_sound hS hG hQ fuel _ st' B' a' w' (hp.trans hpre) h' hm' hA'
/-! ### One order serves all -/
def SEq (st st' : St) : Prop := (∀ t, look st.fr t = look st'.fr t) ∧ st.H = st'.H
theorem wantedS_congr {st st' : St} {o : Oper} (h : ∀ t ∈ o.looksAt ops, look st.fr t = look st'.fr t) : wantedS ops st o = wantedS ops st' o := by
  unfold wantedS
  cases hg : o.guard with
  | none => rfl
  | some p =>
    obtain ⟨j, want⟩ := p
    simp only
    cases hd : (ops[j]?).bind (·.dst) with
    | none => rfl
    | some d =>
      simp only
      rw [h d (by unfold Oper.looksAt; rw [hg]; simp only [hd]; exact List.mem_append_right _ (by simp))]
theorem valR_congr {st st' : St} {o : Oper} (h : ∀ t ∈ o.looksAt ops, look st.fr t = look st'.fr t) : valR (opTmps o) st.fr = valR (opTmps o) st'.fr := by
  funext x
  cases x with
  | tmp t =>
    simp only [valR]
    cases hb : (opTmps o).any (Nat.beq t)
    · rfl
    · simp only [cond_true]
      rw [List.any_eq_true] at hb
      obtain ⟨u, hu, e⟩ := hb
      obtain rfl := Nat.eq_of_beq_eq_true e
      exact h t (List.mem_append_left _ hu)
  | const v => rfl
  | global n => rfl
  | func f => rfl
theorem rawA_congr {st st' : St} {i : Nat} {o : Oper} (h : ∀ t ∈ o.looksAt ops, look st.fr t = look st'.fr t) (hH : E o = true → st.H = st'.H) (hv' : E o = false → visAt (V i) st.H = visAt (V i) st'.H) : rawA P S G md E V ops i o st = rawA P S G md E V ops i o st' := by
  unfold rawA
  rw [wantedS_congr h]
  have hv := valR_congr h
  cases he : E o
  · simp only [cond_false, St.part, hv, hv' he]
  · simp only [cond_true, St.view, hv, hH he]
theorem stepA_point {i : Nat} {o : Oper} {st : St} {Φ : St → Prop} (hq : (stepA P S G N md E V ops i o st).ok Φ) :
    ∃ s e, Φ (st.mk2 o.dst s e) ∧ (E o = false → e = noEff) ∧ (E o = true → e = noEff ∨ hiddenB md E ops V i st.H.length e = true) ∧ ∀ st', rawA P S G md E V ops i o st' = rawA P S G md E V ops i o st → ∀ Φ' : St → Prop, Φ' (st'.mk2 o.dst s e) → (stepA P S G N md E V ops i o st').ok Φ' := by
  obtain ⟨p, hp, hpt⟩ := T.ok_point (T.ok_bind hq)
  obtain ⟨s, hs, hst⟩ := putR_point hp
  have hall : (rawA P S G md E V ops i o st).ok fun q => (E o = false → q.2 = noEff) ∧ (E o = true → q.2 = noEff ∨ hiddenB md E ops V i st.H.length q.2 = true) := by
    have h0 := T.ok_bind hq
    unfold rawA at h0 ⊢
    split at h0
    · cases he : E o
      · rw [he, cond_false] at h0
        simp only [cond_false]
        exact T.bind_ok (T.ok_mono (fun s _ => ⟨fun _ => rfl, (fun h => by cases h)⟩) (T.ok_bind h0))
      · rw [he, cond_true] at h0
        simp only [cond_true]
        refine T.bind_ok (T.ok_mono (fun q hq => ?_) (T.ok_bind h0))
        unfold hidden at hq ⊢
        cases hh : hiddenB md E ops V i st.H.length q.2
        · rw [hh] at hq; exact hq.elim
        · rw [cond_true]; exact ⟨(fun h => by cases h), fun _ => .inr hh⟩
    · exact ⟨fun _ => rfl, fun _ => .inl rfl⟩
    · exact h0.elim
  have h1 : (rawA P S G md E V ops i o st).ok fun a => a = p := hpt _ rfl
  obtain ⟨r, ⟨hr1, hr2⟩, -⟩ := T.ok_point (T.ok_both h1 hall)
  subst hr1
  exact ⟨s, r.2, hs, hr2.1, hr2.2, fun st' hr Φ' h => by
    unfold stepA
    rw [hr]
    exact T.bind_ok (hpt _ (hst st' Φ' h))⟩
end
end
end Go.Proofs.Ytodfcalaggfldaa.Sym
namespace Go.Proofs.Ytodfcalaggfldaa.Sym
set_option linter.unusedVariables false
set_option linter.unusedSimpArgs false
open Go.RowKit

section
variable {P : Program} {S : Tab} {G : GTab} {N : Nat} {md : Region.Mode} {E : Oper → Bool} {V : Nat → Nat → Bool} {ops : Array Oper} {QQ : St → Prop}
theorem look_mk2 {st : St} {dst : Option Tmp} {s : SV} {e : Eff} {t : Nat} (h : dst ≠ some t) : look (st.mk2 dst s e).fr t = look st.fr t := by
  cases dst with
  | none => rfl
  | some d =>
    have hne : d ≠ t := fun e => h (by rw [e])
    have hb : Nat.beq d t = false := by
      cases hb : Nat.beq d t
      · rfl
      · exact absurd (Nat.eq_of_beq_eq_true hb) hne
    simp only [St.mk2, St.put, look, hb, cond_false]
theorem look_mk2_same {st : St} {d : Nat} {s : SV} {e : Eff} : look (st.mk2 (some d) s e).fr d = some s := by
  simp only [St.mk2, St.put, look, Nat.beq_refl, cond_true]
theorem SEq.refl (st : St) : SEq st st := ⟨fun _ => rfl, rfl⟩
theorem SEq.symm {a b : St} (h : SEq a b) : SEq b a := ⟨fun t => (h.1 t).symm, h.2.symm⟩
theorem SEq.mk2 {a b : St} (h : SEq a b) (dst : Option Tmp) (s : SV) (e : Eff) : SEq (a.mk2 dst s e) (b.mk2 dst s e) := by
  refine ⟨fun t => ?_, by rw [mk2_fr, mk2_fr, h.2]⟩
  by_cases hd : dst = some t
  · subst hd; rw [look_mk2_same, look_mk2_same]
  · rw [look_mk2 hd, look_mk2 hd, h.1 t]
theorem AG_congr (hQ : ∀ st st', SEq st st' → QQ st → QQ st') : ∀ (fuel : Nat) (listed : Array Bool) (st st' : St), SEq st st' → AG P S G N md E V ops QQ fuel listed st → AG P S G N md E V ops QQ fuel listed st'
  | 0, _, st, st', he, h => ⟨h.1, hQ st st' he h.2⟩
  | fuel + 1, listed, st, st', he, h => by
    refine ⟨fun h0 => hQ st st' he (h.1 h0), fun i hi o ho => ?_⟩
    obtain ⟨s, e, h1, -, -, h3⟩ := stepA_point (h.2 i hi o ho)
    exact h3 st' (rawA_congr (fun t _ => (he.1 t).symm) (fun _ => he.2.symm) fun _ => by rw [he.2]) _ (AG_congr hQ fuel _ _ _ (he.mk2 o.dst s e) h1)
def DC (md : Region.Mode) (ops : Array Oper) (listed : Array Bool) : Prop := ∀ j o, ops[j]? = some o → listed.getD j false = true → ∀ e ∈ o.after, Region.binds md e = true → listed.getD e.on false = true
theorem nat_beq_ne0 {a b : Nat} (h : a ≠ b) : Nat.beq a b = false := by
  cases hb : Nat.beq a b
  · rfl
  · exact absurd (Nat.eq_of_beq_eq_true hb) h
theorem depB_listed {listed : Array Bool} (hD : DC md ops listed) {i : Nat} : ∀ (n j : Nat) (o : Oper), ops[j]? = some o → (∀ e ∈ o.after, Region.binds md e = true → listed.getD e.on false = true) → depB md ops i n j = true → listed.getD i false = true
  | 0, _, _, _, _, h => by simp [depB] at h
  | n + 1, j, o, ho, hall, h => by
    simp only [depB, ho] at h
    obtain ⟨e, he, hb⟩ := Array.any_eq_true'.1 h
    simp only [Bool.and_eq_true, Bool.or_eq_true] at hb
    obtain ⟨hb1, hb2⟩ := hb
    have hl := hall e he hb1
    rcases hb2 with hb2 | hb2
    · obtain rfl := Nat.eq_of_beq_eq_true hb2; exact hl
    · cases ho' : ops[e.on]? with
      | none => cases n <;> simp [depB, ho'] at hb2
      | some o' => exact depB_listed hD n e.on o' ho' (fun e' he' hb' => hD e.on o' ho' hl e' he' hb') hb2
theorem DC.set {listed : Array Bool} (hD : DC md ops listed) {j : Nat} {o : Oper} (ho : ops[j]? = some o) (hall : ∀ e ∈ o.after, Region.binds md e = true → listed.getD e.on false = true) : DC md ops (listed.setIfInBounds j true) := by
  intro k ok hk hl e he hb
  have up : ∀ m, listed.getD m false = true → (listed.setIfInBounds j true).getD m false = true := by
    intro m hm
    by_cases e' : j = m
    · subst e'
      have hlt : j < listed.size := by
        rcases Nat.lt_or_ge j listed.size with h | h
        · exact h
        · rw [Array.getD_eq_getD_getElem?, Array.getElem?_eq_none h] at hm; cases hm
      rw [Array.getD_eq_getD_getElem?, Array.getElem?_setIfInBounds_self_of_lt hlt]; rfl
    · rw [getD_set_ne false e']; exact hm
  by_cases hjk : j = k
  · subst hjk
    rw [ho] at hk
    simp only [Option.some.injEq] at hk
    subst hk
    exact up _ (hall e he hb)
  · rw [getD_set_ne false hjk] at hl
    exact up _ (hD k ok hk hl e he hb)
/-- **an operation that may come up now may be taken first** -/
theorem AG_first (hQ : ∀ st st', SEq st st' → QQ st → QQ st') {i : Nat} {oi : Oper} (hi : ops[i]? = some oi) (m : Nat) : ∀ (fuel : Nat) (listed : Array Bool) (st : St),
    (∀ j oj, ops[j]? = some oj → j ≠ i → listed.getD j true = false → depB md ops i m j = true ∨ (oi.apart ops oj = true ∧ ¬ (E oi = true ∧ E oj = true))) → DC md ops listed →
    i ∈ Region.ready md ops listed → (stepA P S G N md E V ops i oi st).ok (AG P S G N md E V ops QQ fuel (listed.setIfInBounds i true)) → AG P S G N md E V ops QQ (fuel + 1) listed st := by
  intro fuel
  induction fuel with
  | zero =>
    intro listed st _ _ hr H
    refine ⟨fun h => (by rw [h] at hr; cases hr), fun j hj o ho => ?_⟩
    by_cases hji : j = i
    · subst hji; rw [hi] at ho; simp only [Option.some.injEq] at ho; subst ho; exact H
    · obtain ⟨s, e, h1, -⟩ := stepA_point H
      have := ready_mono hj hji
      rw [h1.1] at this
      cases this
  | succ fuel ih =>
    intro listed st hfree hD hr H
    refine ⟨fun h => (by rw [h] at hr; cases hr), fun j hj oj hoj => ?_⟩
    by_cases hji : j = i
    · subst hji; rw [hi] at hoj; simp only [Option.some.injEq] at hoj; subst hoj; exact H
    · obtain ⟨si, ei, hA, hni, hidi, hpi⟩ := stepA_point H
      obtain ⟨hjun, oj', hoj', hall⟩ := mem_ready.1 hj
      rw [hoj] at hoj'
      simp only [Option.some.injEq] at hoj'
      subst hoj'
      have hiun := (mem_ready.1 hr).1
      have hnl : listed.getD i false ≠ true := by
        intro h
        rw [Array.getD_eq_getD_getElem?] at h hiun
        cases hx : listed[i]? with
        | none => rw [hx] at h; cases h
        | some b => rw [hx] at h hiun; simp only [Option.getD_some] at h hiun; rw [h] at hiun; cases hiun
      rcases hfree j oj hoj hji hjun with hdep | ⟨hap, hne⟩
      · exact absurd (depB_listed hD m j oj hoj hall hdep) hnl
      · obtain ⟨h1, h2, h3⟩ := Oper.apart_spec hap
        -- j behind i
        have hj2 := hA.2 j (ready_mono hj hji) oj hoj
        have hsz : ∀ {k ok}, ops[k]? = some ok → k < ops.size := fun hk => (Array.getElem?_eq_some_iff.1 hk).1
        have nij : depB md ops i ops.size j = false := by
          cases hd : depB md ops i ops.size j
          · rfl
          · exact absurd (depB_listed hD _ j oj hoj hall hd) hnl
        have nji : depB md ops j ops.size i = false := by
          cases hd : depB md ops j ops.size i
          · rfl
          · obtain ⟨-, oi', hoi', halli⟩ := mem_ready.1 hr
            have hl := depB_listed hD _ i oi' hoi' halli hd
            have hlt : j < listed.size := by
              rcases Nat.lt_or_ge j listed.size with h | h
              · exact h
              · rw [Array.getD_eq_getD_getElem?, Array.getElem?_eq_none h] at hl; cases hl
            rw [Array.getD_eq_getD_getElem?, Array.getElem?_eq_getElem hlt, Option.getD_some] at hl hjun
            rw [hl] at hjun; cases hjun
        have unseen : ∀ {a b oa n e}, ops[b]? = some oa → E oa = false → b ≠ a → depB md ops a ops.size b = false → depB md ops b ops.size a = false → (e = noEff ∨ hiddenB md E ops V a n e = true) → ∀ q ∈ e.touch n, V b q = false := by
          intro a b oa n e hb hEb hba h1 h2 he q hq
          rcases he with rfl | he
          · simp [Eff.touch, noEff] at hq
          · have := List.all_eq_true.1 (List.all_eq_true.1 he q hq) b (List.mem_range.2 (hsz hb))
            have m1 : maskDep md ops a b = false := by
              cases hd : maskDep md ops a b
              · rfl
              · rw [maskDep_ok hd] at h1; cases h1
            have m2 : maskDep md ops b a = false := by
              cases hd : maskDep md ops b a
              · rfl
              · rw [maskDep_ok hd] at h2; cases h2
            rw [m1, m2, nat_beq_ne0 hba, show effAt E ops b = false by simp only [effAt, hb, hEb]] at this
            simpa using this
        have hrj : rawA P S G md E V ops j oj st = rawA P S G md E V ops j oj (st.mk2 oi.dst si ei) := by
          refine rawA_congr (fun t ht => (look_mk2 fun e => h1 t e ht).symm) (fun hE => ?_) (fun hE => ?_)
          · rw [mk2_fr]
            have : E oi = false := by
              cases hEi : E oi
              · rfl
              · exact absurd ⟨hEi, hE⟩ hne
            rw [hni this, noEff_run]
          · rw [mk2_fr]
            refine (visAt_run (unseen hoj hE hji nij nji ?_)).symm
            cases hEi : E oi
            · exact .inl (hni hEi)
            · exact hidi hEi
        obtain ⟨sj, ej, hB, hnj, hidj, hpj⟩ := stepA_point hj2
        refine hpj st hrj _ ?_
        -- i behind j
        have hri : rawA P S G md E V ops i oi (st.mk2 oj.dst sj ej) = rawA P S G md E V ops i oi st := by
          refine rawA_congr (fun t ht => look_mk2 fun e => h3 t e ht) (fun hE => ?_) (fun hE => ?_)
          · rw [mk2_fr]
            have : E oj = false := by
              cases hEj : E oj
              · rfl
              · exact absurd ⟨hE, hEj⟩ hne
            rw [hnj this, noEff_run]
          · rw [mk2_fr]
            refine visAt_run (unseen hi hE (Ne.symm hji) nji nij ?_)
            cases hEj : E oj
            · exact .inl (hnj hEj)
            · have := hidj hEj
              rw [mk2_fr, hni hE, noEff_run] at this
              exact this
        have hfree' : ∀ k ok, ops[k]? = some ok → k ≠ i → (listed.setIfInBounds j true).getD k true = false → depB md ops i m k = true ∨ (oi.apart ops ok = true ∧ ¬ (E oi = true ∧ E ok = true)) := fun k ok hk hki hun => by
          refine hfree k ok hk hki ?_
          by_cases hjk : j = k
          · subst hjk; exact hjun
          · rw [getD_set_ne true hjk] at hun; exact hun
        refine ih (listed.setIfInBounds j true) (st.mk2 oj.dst sj ej) hfree' (hD.set hoj hall) (ready_mono hr (Ne.symm hji)) (hpi _ hri _ ?_)
        rw [Array.setIfInBounds_comm _ _ hji]
        refine AG_congr hQ fuel _ _ _ ⟨fun t => ?_, ?_⟩ hB
        · by_cases ei' : oi.dst = some t
          · have ej' : oj.dst ≠ some t := h2 t ei'
            rw [look_mk2 ej', ei', look_mk2_same, look_mk2_same]
          · rw [look_mk2 (dst := oi.dst) ei']
            by_cases ej' : oj.dst = some t
            · rw [ej', look_mk2_same, look_mk2_same]
            · rw [look_mk2 ej', look_mk2 ej', look_mk2 ei']
        · simp only [mk2_fr]
          cases hEi : E oi
          · rw [hni hEi, noEff_run, noEff_run]
          · have : E oj = false := by
              cases hEj : E oj
              · rfl
              · exact absurd ⟨hEi, hEj⟩ hne
            rw [hnj this, noEff_run, noEff_run]
/-- the order of the text is one, and each operation may be taken first at its turn -/
def lexD (md : Region.Mode) (E : Oper → Bool) (ops : Array Oper) : Nat → Nat → Array Bool → Bool
  | 0, _, listed => (Region.ready md ops listed).isEmpty
  | fuel + 1, k, listed => (Region.ready md ops listed).contains k && (match ops[k]? with
      | some ok => (List.range ops.size).all fun j => Nat.beq j k || listed.getD j true || (match ops[j]? with
          | some oj => (ok.apart ops oj && !(E ok && E oj)) || depB md ops k ops.size j
          | none => true)
      | none => false) && lexD md E ops fuel (k + 1) (listed.setIfInBounds k true)
theorem AG_lex (hQ : ∀ st st', SEq st st' → QQ st → QQ st') : ∀ (l : List Oper) (k : Nat) (listed : Array Bool) (st : St), (∀ j, l[j]? = ops[k + j]?) → lexD md E ops l.length k listed = true → DC md ops listed →
    (runOpsD P S G N md E V ops l k st).ok QQ → AG P S G N md E V ops QQ l.length listed st
  | [], _, _, _, _, hB, _, h => ⟨by simpa [lexD] using hB, h⟩
  | o :: l, k, listed, st, hl, hB, hD, h => by
    have h0 : ops[k]? = some o := by simpa using (hl 0).symm
    simp only [List.length_cons, lexD, Bool.and_eq_true, h0] at hB
    obtain ⟨⟨hr, hf⟩, hB'⟩ := hB
    have hr : k ∈ Region.ready md ops listed := by simpa using hr
    have hall := (mem_ready.1 hr).2
    obtain ⟨o', ho', hall⟩ := hall
    rw [h0] at ho'
    simp only [Option.some.injEq] at ho'
    subst ho'
    refine AG_first hQ h0 ops.size l.length listed st (fun j oj hj hne hun => ?_) hD hr ?_
    · rw [List.all_eq_true] at hf
      have := hf j (List.mem_range.2 (Array.getElem?_eq_some_iff.1 hj).1)
      simp only [hj, hun, Bool.or_false, Bool.or_eq_true, Bool.and_eq_true, Bool.not_eq_true'] at this
      rcases this with this | ⟨h1, h2⟩ | h3
      · exact absurd (Nat.eq_of_beq_eq_true this) hne
      · exact .inr ⟨h1, fun ⟨a, b⟩ => by rw [a, b] at h2; cases h2⟩
      · exact .inl h3
    · refine T.ok_mono (fun st' hst' => ?_) (T.ok_bind h)
      exact AG_lex hQ l (k + 1) _ st' (fun j => by have := hl (j + 1); simpa [Nat.add_assoc, Nat.add_comm 1 j] using this) hB' (hD.set h0 hall) hst'
end
end Go.Proofs.Ytodfcalaggfldaa.Sym
namespace Go.Proofs.Ytodfcalaggfldaa.Sym
set_option linter.unusedVariables false
set_option linter.unusedSimpArgs false
open Go.RowKit

def posOf (k : Nat) : List Nat → Nat → Option Nat
  | [], _ => none
  | j :: l, i => bif Nat.beq j k then some i else posOf k l (i + 1)
mutual
/-- the letters that occur -/
def SV.lets : SV → List Nat
  | .ptr k _ | .ref k | .elt k _ _ _ => [k]
  | .agg l | .tup l => SV.letss l
  | .clo _ a b => SV.letss a ++ SV.letss b
  | .ifc _ s => SV.lets s
  | _ => []
def SV.letss : List SV → List Nat
  | [] => []
  | s :: l => SV.lets s ++ SV.letss l
end
def Blk.lets : Blk → List Nat
  | .own cells => SV.letss cells
  | .lst _ _ _ cells => SV.letss cells
  | _ => []
theorem posOf_get {k : Nat} : ∀ {ks : List Nat} {i j : Nat}, posOf k ks i = some j → i ≤ j ∧ ks[j - i]? = some k
  | [], _, _, h => by simp [posOf] at h
  | a :: l, i, j, h => by
    simp only [posOf] at h
    cases hb : Nat.beq a k
    · rw [hb, cond_false] at h
      obtain ⟨h1, h2⟩ := posOf_get h
      refine ⟨by omega, ?_⟩
      rw [show j - i = (j - (i + 1)) + 1 by omega, List.getElem?_cons_succ]; exact h2
    · rw [hb, cond_true, Option.some.injEq] at h
      subst h
      rw [Nat.eq_of_beq_eq_true hb]; simp
/-- all letters that may be reached -/
def reach (g : Nat → Option Blk) : Nat → List Nat → List Nat → List Nat
  | 0, _, acc => acc
  | _ + 1, [], acc => acc
  | n + 1, k :: todo, acc => bif acc.any (Nat.beq k) then reach g n todo acc else reach g n ((match g k with | some b => b.lets | none => []) ++ todo) (acc ++ [k])
mutual
/-- letters by other names, as far as these are known -/
def SV.mapL (ρ : Nat → Option Nat) : SV → Option SV
  | .v x => some (.v x)
  | .c x => some (.c x)
  | .tt => some .tt
  | .ff => some .ff
  | .ptr k off => (ρ k).map fun i => .ptr i off
  | .ref k => (ρ k).map .ref
  | .elt k sz j off => (ρ k).map fun i => .elt i sz j off
  | .agg l => (SV.mapLs ρ l).map .agg
  | .tup l => (SV.mapLs ρ l).map .tup
  | .clo fn a b => match SV.mapLs ρ a, SV.mapLs ρ b with | some x, some y => some (.clo fn x y) | _, _ => none
  | .ifc t s => (SV.mapL ρ s).map (.ifc t)
def SV.mapLs (ρ : Nat → Option Nat) : List SV → Option (List SV)
  | [] => some []
  | s :: l => match SV.mapL ρ s, SV.mapLs ρ l with | some x, some xs => some (x :: xs) | _, _ => none
end
section
variable {ρ : Nat → Option Nat} {B Bl : List Value}
mutual
theorem SV.mapL_to (h : ∀ (k i : Nat), ρ k = some i → Bl[i]? = B[k]?) : ∀ {s s' : SV}, s.mapL ρ = some s' → s'.to Bl = s.to B
  | .v _, _, e => by simp only [SV.mapL, Option.some.injEq] at e; subst e; rfl
  | .c _, _, e => by simp only [SV.mapL, Option.some.injEq] at e; subst e; rfl
  | .tt, _, e => by simp only [SV.mapL, Option.some.injEq] at e; subst e; rfl
  | .ff, _, e => by simp only [SV.mapL, Option.some.injEq] at e; subst e; rfl
  | .ptr k off, _, e => by
    simp only [SV.mapL, Option.map_eq_some_iff] at e
    obtain ⟨i, hi, rfl⟩ := e
    simp only [SV.to, h k i hi]
  | .ref k, _, e => by
    simp only [SV.mapL, Option.map_eq_some_iff] at e
    obtain ⟨i, hi, rfl⟩ := e
    simp only [SV.to, h k i hi]
  | .elt k sz j off, _, e => by
    simp only [SV.mapL, Option.map_eq_some_iff] at e
    obtain ⟨i, hi, rfl⟩ := e
    simp only [SV.to, h k i hi]
  | .agg l, _, e => by
    simp only [SV.mapL, Option.map_eq_some_iff] at e
    obtain ⟨l', hl, rfl⟩ := e
    simp only [SV.to, SV.mapLs_tos h hl]
  | .tup l, _, e => by
    simp only [SV.mapL, Option.map_eq_some_iff] at e
    obtain ⟨l', hl, rfl⟩ := e
    simp only [SV.to, SV.mapLs_tos h hl]
  | .clo fn a b, _, e => by
    simp only [SV.mapL] at e
    split at e
    · rename_i x y h1 h2
      simp only [Option.some.injEq] at e; subst e
      simp only [SV.to, SV.mapLs_tos h h1, SV.mapLs_tos h h2]
    · cases e
  | .ifc t s, _, e => by
    simp only [SV.mapL, Option.map_eq_some_iff] at e
    obtain ⟨s', hs, rfl⟩ := e
    simp only [SV.to, SV.mapL_to h hs]
theorem SV.mapLs_tos (h : ∀ (k i : Nat), ρ k = some i → Bl[i]? = B[k]?) : ∀ {l l' : List SV}, SV.mapLs ρ l = some l' → SV.tos Bl l' = SV.tos B l
  | [], _, e => by simp only [SV.mapLs, Option.some.injEq] at e; subst e; rfl
  | s :: l, _, e => by
    simp only [SV.mapLs] at e
    split at e
    · rename_i x xs h1 h2
      simp only [Option.some.injEq] at e; subst e
      simp only [SV.tos, SV.mapL_to h h1, SV.mapLs_tos h h2]
    · cases e
end
end
def locB (ρ : Nat → Option Nat) : Blk → Blk
  | .own cells => (match SV.mapLs ρ cells with | some c => .own c | none => .gone)
  | .lst e sz n cells => (match SV.mapLs ρ cells with | some c => .lst e sz n c | none => .gone)
  | b => b
theorem locB_sat {ρ : Nat → Option Nat} {B Bl : List Value} (h : ∀ (k i : Nat), ρ k = some i → Bl[i]? = B[k]?) {w : World} {u : Value} {x : Blk} (hs : BlkSat B w u x) : BlkSat Bl w u (locB ρ x) := by
  cases x with
  | own cells =>
    obtain ⟨b, vs, e1, e2, e3⟩ := hs
    simp only [locB]
    cases hc : SV.mapLs ρ cells with
    | none => exact trivial
    | some c => exact ⟨b, vs, e1, by rw [SV.mapLs_tos h hc]; exact e2, e3⟩
  | lst e sz n cells =>
    obtain ⟨xs, e1, e2⟩ := hs
    simp only [locB]
    cases hc : SV.mapLs ρ cells with
    | none => exact trivial
    | some c => exact ⟨xs, by rw [SV.mapLs_tos h hc]; exact e1, e2⟩
  | _ => exact hs
theorem locB_excl {ρ : Nat → Option Nat} {x : Blk} (h : (locB ρ x).excl = true) : x.excl = true := by
  cases x <;> first | rfl | exact h
theorem locB_row {ρ : Nat → Option Nat} {x : Blk} {n sz : Nat} {f : Nat → Nat → Value} (h : locB ρ x = .row n sz f) : x = .row n sz f := by
  cases x with
  | own cells => simp only [locB] at h; split at h <;> cases h
  | lst e sz n cells => simp only [locB] at h; split at h <;> cases h
  | _ => exact h
/-- what the old letters are called -/
def ordN (n0 : Nat) (js : List Nat) (k : Nat) : Option Nat := match posOf k js 0 with
  | some i => some (n0 + i)
  | none => bif Nat.blt k n0 then some k else none
def isAt (i : Nat) : Option Nat → Bool
  | some j => Nat.beq j i
  | none => false
theorem isAt_iff {i : Nat} {o : Option Nat} : isAt i o = true ↔ o = some i := by
  cases o with
  | none => simp [isAt]
  | some j => simp [isAt, Nat.beq_eq]
def ordCB (n0 : Nat) (js : List Nat) (i k : Nat) (o : Option Blk) : Blk := match o with
  | some b => bif isAt i (ordN n0 js k) then locB (ordN n0 js) b else .gone
  | none => .gone
def ordCH (n0 : Nat) (js : List Nat) (H : List Blk) : List Blk :=
  (List.range n0).map (fun k => ordCB n0 js k k H[k]?) ++ js.zipIdx.map fun p => ordCB n0 js (n0 + p.2) p.1 H[p.1]?
def ordCS (ρ : Nat → Option Nat) : Option SV → Option SV
  | some s => s.mapL ρ
  | none => none
def letsO : Option SV → List Nat
  | some s => s.lets
  | none => []
def ordCJ (n0 : Nat) (ks : List Nat) (st : St) : List Nat := (reach (fun k => st.H[k]?) 300 (ks.flatMap (fun t => letsO (look st.fr t)) ++ List.range n0) []).filter fun k => Nat.ble n0 k && Nat.blt k st.H.length
/-- the slots ks, the first n0 letters, and behind them all others that these slots reach, in their order -/
def St.ordC (n0 : Nat) (ks : List Nat) (st : St) : St := ⟨ks.map fun t => (t, ordCS (ordN n0 (ordCJ n0 ks st)) (look st.fr t)), ordCH n0 (ordCJ n0 ks st) st.H⟩
theorem look_each {g : Nat → Option SV} {t : Nat} {s : SV} : ∀ {l : List Nat}, look (l.map fun t => (t, g t)) t = some s → g t = some s
  | [], h => by simp [look] at h
  | u :: l, h => by
    simp only [List.map_cons, look] at h
    cases hb : Nat.beq u t
    · rw [hb, cond_false] at h; exact look_each h
    · rw [hb, cond_true] at h; rw [← Nat.eq_of_beq_eq_true hb]; exact h
theorem ordC_congr {n0 : Nat} {ks : List Nat} {st st' : St} (h : SEq st st') : st.ordC n0 ks = st'.ordC n0 ks := by
  obtain ⟨fr, H⟩ := st
  obtain ⟨fr', H'⟩ := st'
  obtain ⟨h1, h2⟩ := h
  simp only at h1 h2
  subst h2
  unfold St.ordC ordCJ
  simp only [h1]
theorem ordC_ok {N n0 : Nat} {M : List Nat} {w0 : World} {bs : List Nat} {st : St} {B : List Value} {a : Act} {w : World} (hsl : Slots N st.fr B a) (hm : Mem w0 bs st.H B w) (hn : n0 ≤ B.length) :
    ∃ B', B.take n0 <+: B' ∧ Slots N (st.ordC n0 M).fr B' a ∧ Mem w0 bs (st.ordC n0 M).H B' w := by
  have hlt : (B.take n0).length = n0 := by simp; omega
  have hjs : ∀ j ∈ ordCJ n0 M st, j < st.H.length := fun j hj => by
    have := (List.mem_filter.1 hj).2
    simp only [Bool.and_eq_true, Nat.blt_eq] at this
    exact this.2
  unfold St.ordC
  generalize ordCJ n0 M st = js at hjs
  refine ⟨B.take n0 ++ js.map (fun j => B.getD j undef), List.prefix_append _ _, ?_, ?_⟩
  all_goals
    have hρ : ∀ (k i : Nat), ordN n0 js k = some i → (B.take n0 ++ js.map (fun j => B.getD j undef))[i]? = B[k]? := by
      intro k i e
      unfold ordN at e
      split at e
      · rename_i i' hi
        simp only [Option.some.injEq] at e
        subst e
        obtain ⟨-, h2⟩ := posOf_get hi
        rw [Nat.sub_zero] at h2
        have hk := hjs k (List.mem_of_getElem? h2)
        rw [← hm.sat.len] at hk
        rw [List.getElem?_append_right (by omega), hlt, Nat.add_sub_cancel_left, List.getElem?_map, h2]
        simp [List.getD_eq_getElem?_getD, List.getElem?_eq_getElem hk]
      · cases hb : Nat.blt k n0
        · rw [hb] at e; cases e
        · rw [hb, cond_true, Option.some.injEq] at e
          subst e
          rw [Nat.blt_eq] at hb
          rw [List.getElem?_append_left (by omega), List.getElem?_take, if_pos hb]
  · refine ⟨hsl.size, hsl.defers, fun t s e => ?_⟩
    have e := look_each e
    unfold ordCS at e
    split at e
    · rename_i s0 hs0
      rw [SV.mapL_to hρ e]
      exact hsl.slot t s0 hs0
    · cases e
  · have hlen : (ordCH n0 js st.H).length = (B.take n0 ++ js.map (fun j => B.getD j undef)).length := by
      unfold ordCH
      rw [List.length_append, List.length_append, hlt]
      simp
    have get : ∀ {i : Nat} {x : Blk}, (ordCH n0 js st.H)[i]? = some x → x = .gone ∨ ∃ k y, ordN n0 js k = some i ∧ st.H[k]? = some y ∧ x = locB (ordN n0 js) y := by
      intro i x hi
      unfold ordCH at hi
      have one : ∀ {k : Nat}, x = ordCB n0 js i k st.H[k]? → x = .gone ∨ ∃ k y, ordN n0 js k = some i ∧ st.H[k]? = some y ∧ x = locB (ordN n0 js) y := by
        intro k e
        unfold ordCB at e
        split at e
        · rename_i b hb
          cases hc : isAt i (ordN n0 js k)
          · rw [hc] at e; exact .inl e
          · rw [hc, cond_true] at e
            exact .inr ⟨k, b, isAt_iff.1 hc, hb, e⟩
        · exact .inl e
      by_cases hlo : i < n0
      · rw [List.getElem?_append_left (by simpa using hlo), List.getElem?_map, Option.map_eq_some_iff] at hi
        obtain ⟨k, hk, rfl⟩ := hi
        rw [List.getElem?_range hlo, Option.some.injEq] at hk
        subst hk
        exact one rfl
      · rw [List.getElem?_append_right (by simpa using hlo), List.getElem?_map, Option.map_eq_some_iff] at hi
        obtain ⟨p, hp, rfl⟩ := hi
        simp only [List.length_map, List.length_range] at hp
        rw [List.getElem?_zipIdx, Option.map_eq_some_iff] at hp
        obtain ⟨j, hj, rfl⟩ := hp
        refine one (k := j) ?_
        simp only [Nat.zero_add]
        rw [show n0 + (i - n0) = i by omega]
    have ex : ∀ i b, ExBlk (ordCH n0 js st.H) (B.take n0 ++ js.map (fun j => B.getD j undef)) i b → ∃ k, ordN n0 js k = some i ∧ ExBlk st.H B k b := by
      rintro i b ⟨x, u, h1, h2, h3, h4⟩
      rcases get h1 with rfl | ⟨k, y, g1, g2, rfl⟩
      · cases h2
      · exact ⟨k, g1, y, u, g2, locB_excl h2, by rw [← hρ k i g1]; exact h3, h4⟩
    have rd : ∀ i b, RdBlk (ordCH n0 js st.H) (B.take n0 ++ js.map (fun j => B.getD j undef)) i b → ∃ k, ordN n0 js k = some i ∧ RdBlk st.H B k b := by
      rintro i b ⟨n, sz, f, u, h1, h2, h3, h4, h5⟩
      rcases get h1 with e | ⟨k, y, g1, g2, e⟩
      · cases e
      · exact ⟨k, g1, n, sz, f, u, by rw [g2, locB_row e.symm], h2, h3, by rw [← hρ k i g1]; exact h4, h5⟩
    refine ⟨⟨hlen.symm, fun i x u hi hu => ?_, fun i j b h1 h2 => ?_, fun i j b h1 h2 => ?_⟩, hm.keeps, fun i b h1 => ?_⟩
    · rcases get hi with rfl | ⟨k, y, g1, g2, rfl⟩
      · trivial
      · rw [hρ k i g1] at hu
        exact locB_sat hρ (hm.sat.blk k y u g2 hu)
    · obtain ⟨k, k1, k2⟩ := ex _ _ h1
      obtain ⟨l, l1, l2⟩ := ex _ _ h2
      have := hm.sat.sep _ _ _ k2 l2
      subst this
      rw [k1, Option.some.injEq] at l1
      exact l1
    · obtain ⟨k, k1, k2⟩ := ex _ _ h1
      obtain ⟨l, l1, l2⟩ := rd _ _ h2
      exact hm.sat.far _ _ _ k2 l2
    · obtain ⟨k, k1, k2⟩ := ex _ _ h1
      exact hm.good _ _ k2
/-! ### All orders of a region -/
def firstOkB (md : Region.Mode) (E : Oper → Bool) (ops : Array Oper) (listed : Array Bool) (i : Nat) : Bool := match ops[i]? with
  | some oi => (List.range ops.size).all fun j => Nat.beq j i || listed.getD j true || (match ops[j]? with
      | some oj => (oi.apart ops oj && !(E oi && E oj)) || depB md ops i ops.size j
      | none => true)
  | none => false
def allSome : List (Option (List (List Nat))) → Option (List (List Nat))
  | [] => some []
  | o :: l => match o, allSome l with
    | some x, some y => some (x ++ y)
    | _, _ => none
/-- the orders that stand for all: an operation that may be taken first is; else each that is ready -/
def orders (md : Region.Mode) (E : Oper → Bool) (ops : Array Oper) : Nat → Array Bool → Option (List (List Nat))
  | 0, listed => bif (Region.ready md ops listed).isEmpty then some [[]] else none
  | fuel + 1, listed => match (Region.ready md ops listed).find? (firstOkB md E ops listed) with
    | some i => (orders md E ops fuel (listed.setIfInBounds i true)).map fun l => l.map (i :: ·)
    | none => bif (Region.ready md ops listed).isEmpty then none else allSome ((Region.ready md ops listed).map fun i => (orders md E ops fuel (listed.setIfInBounds i true)).map fun l => l.map (i :: ·))
theorem allSome_mem : ∀ {l : List (Option (List (List Nat)))} {L : List (List Nat)}, allSome l = some L → ∀ o ∈ l, ∃ x, o = some x ∧ ∀ y ∈ x, y ∈ L
  | [], _, _, o, ho => by cases ho
  | o :: l, L, h, p, hp => by
    unfold allSome at h
    split at h
    · rename_i x y hy
      simp only [Option.some.injEq] at h
      subst h
      rcases List.mem_cons.1 hp with rfl | hp
      · exact ⟨x, rfl, fun z hz => List.mem_append_left _ hz⟩
      · obtain ⟨x', e, hx⟩ := allSome_mem hy p hp
        exact ⟨x', e, fun z hz => List.mem_append_right _ (hx z hz)⟩
    · cases h
theorem orders_ne {md : Region.Mode} {E : Oper → Bool} {ops : Array Oper} : ∀ {fuel : Nat} {listed : Array Bool} {L : List (List Nat)}, orders md E ops fuel listed = some L → L ≠ []
  | 0, listed, L, h => by
    unfold orders at h
    cases hb : (Region.ready md ops listed).isEmpty
    · rw [hb] at h; cases h
    · rw [hb, cond_true, Option.some.injEq] at h; subst h; simp
  | fuel + 1, listed, L, h => by
    unfold orders at h
    split at h
    · rw [Option.map_eq_some_iff] at h
      obtain ⟨l, hl, rfl⟩ := h
      simpa using orders_ne hl
    · cases hb : (Region.ready md ops listed).isEmpty
      · rw [hb, cond_false] at h
        cases hr : Region.ready md ops listed with
        | nil => rw [hr] at hb; cases hb
        | cons i r =>
          rw [hr] at h
          obtain ⟨x, hx, hxL⟩ := allSome_mem h _ (List.mem_map.2 ⟨i, List.mem_cons_self .., rfl⟩)
          rw [Option.map_eq_some_iff] at hx
          obtain ⟨l, hl, rfl⟩ := hx
          cases l with
          | nil => exact absurd rfl (orders_ne hl)
          | cons o l => exact List.ne_nil_of_mem (hxL _ (List.mem_map.2 ⟨o, List.mem_cons_self .., rfl⟩))
      · rw [hb] at h; cases h
theorem T.ok_all {α β : Type} {Q : β → α → Prop} {t : T α} : ∀ {l : List β}, l ≠ [] → (∀ b ∈ l, t.ok (Q b)) → t.ok fun a => ∀ b ∈ l, Q b a
  | [], h, _ => absurd rfl h
  | [b], _, h => T.ok_mono (fun a ha b' hb' => by rw [List.mem_singleton.1 hb']; exact ha) (h b (List.mem_cons_self ..))
  | b :: c :: l, _, h => T.ok_mono (fun a ha b' hb' => by
      rcases List.mem_cons.1 hb' with rfl | hb'
      · exact ha.1
      · exact ha.2 b' hb') (T.ok_both (h b (List.mem_cons_self ..)) (T.ok_all (l := c :: l) (by simp) fun b' hb' => h b' (List.mem_cons_of_mem _ hb')))
section
variable (P : Program) (S : Tab) (G : GTab) (N : Nat)
def runOrd (md : Region.Mode) (E : Oper → Bool) (V : Nat → Nat → Bool) (ops : Array Oper) : List Nat → St → T St
  | [], st => .leaf st
  | i :: l, st => match ops[i]? with
    | some o => (stepA P S G N md E V ops i o st).bind (runOrd md E V ops l)
    | none => .stuck 123
end
theorem orders_AG {P : Program} {S : Tab} {G : GTab} {N : Nat} {md : Region.Mode} {E : Oper → Bool} {V : Nat → Nat → Bool} {ops : Array Oper} {QQ : St → Prop} (hQ : ∀ st st', SEq st st' → QQ st → QQ st') : ∀ (fuel : Nat) (listed : Array Bool) (st : St) (L : List (List Nat)), orders md E ops fuel listed = some L → DC md ops listed →
    (∀ o ∈ L, (runOrd P S G N md E V ops o st).ok QQ) → AG P S G N md E V ops QQ fuel listed st
  | 0, listed, st, L, h, hD, hL => by
    unfold orders at h
    cases hb : (Region.ready md ops listed).isEmpty
    · rw [hb] at h; cases h
    · rw [hb, cond_true, Option.some.injEq] at h
      subst h
      exact ⟨by simpa using hb, hL [] (List.mem_cons_self ..)⟩
  | fuel + 1, listed, st, L, h, hD, hL => by
    have one : ∀ (i : Nat) (oi : Oper) (l : List (List Nat)), ops[i]? = some oi → i ∈ Region.ready md ops listed → orders md E ops fuel (listed.setIfInBounds i true) = some l → (∀ o ∈ l, (i :: o) ∈ L) → (stepA P S G N md E V ops i oi st).ok (AG P S G N md E V ops QQ fuel (listed.setIfInBounds i true)) := by
      intro i oi l hi hr hl hin
      obtain ⟨-, oi', hoi', hall⟩ := mem_ready.1 hr
      rw [hi] at hoi'
      simp only [Option.some.injEq] at hoi'
      subst hoi'
      have h2 : (stepA P S G N md E V ops i oi st).ok fun st' => ∀ o ∈ l, (runOrd P S G N md E V ops o st').ok QQ := T.ok_all (orders_ne hl) fun o ho => by
        have := hL (i :: o) (hin o ho)
        simp only [runOrd, hi] at this
        exact T.ok_bind this
      exact T.ok_mono (fun st' h' => orders_AG hQ fuel _ st' l hl (hD.set hi hall) h') h2
    unfold orders at h
    split at h
    · rename_i i hf
      rw [Option.map_eq_some_iff] at h
      obtain ⟨l, hl, rfl⟩ := h
      have hr := List.mem_of_find?_eq_some hf
      have hok := List.find?_some hf
      obtain ⟨-, oi, hi, hall⟩ := mem_ready.1 hr
      refine AG_first hQ hi ops.size fuel listed st (fun j oj hj hne hun => ?_) hD hr (one i oi l hi hr hl fun o ho => List.mem_map.2 ⟨o, ho, rfl⟩)
      simp only [firstOkB, hi, List.all_eq_true] at hok
      have := hok j (List.mem_range.2 (Array.getElem?_eq_some_iff.1 hj).1)
      simp only [hj, hun, Bool.or_false, Bool.or_eq_true, Bool.and_eq_true, Bool.not_eq_true'] at this
      rcases this with this | ⟨h1, h2⟩ | h3
      · exact absurd (Nat.eq_of_beq_eq_true this) hne
      · exact .inr ⟨h1, fun ⟨a, b⟩ => by rw [a, b] at h2; cases h2⟩
      · exact .inl h3
    · cases hb : (Region.ready md ops listed).isEmpty
      · rw [hb, cond_false] at h
        refine ⟨fun h0 => (by rw [h0] at hb; cases hb), fun i hi oi hoi => ?_⟩
        obtain ⟨x, hx, hxL⟩ := allSome_mem h _ (List.mem_map.2 ⟨i, hi, rfl⟩)
        rw [Option.map_eq_some_iff] at hx
        obtain ⟨l, hl, rfl⟩ := hx
        exact one i oi l hoi hi hl fun o ho => hxL _ (List.mem_map.2 ⟨o, ho, rfl⟩)
      · rw [hb] at h; cases h
/-! ### A number that is one of a few is known in each of these cases -/
inductive Spot where
  | slot (t : Nat) (path : List Nat)
  | cell (k i : Nat) (path : List Nat)
/-- the number at a place of a value, and the value with another one there -/
def SV.numAt : List Nat → SV → Option (Int × (Int → SV))
  | [], .v (.int k z) => some (z, fun c => .c (.int k c))
  | [], .v (.bool b) => some (bif b then 1 else 0, fun c => match c with | 1 => .tt | _ => .ff)
  | i :: p, .agg l => match l[i]? with
    | some s => (match SV.numAt p s with
      | some (z, f) => some (z, fun c => .agg (l.set i (f c)))
      | none => none)
    | none => none
  | _, _ => none
theorem tos_setN {B : List Value} {s' : SV} : ∀ (l : List SV) (i : Nat) (s : SV), l[i]? = some s → s'.to B = s.to B → SV.tos B (l.set i s') = SV.tos B l
  | [], _, _, h, _ => by simp at h
  | t :: l, 0, s, h, e => by
    simp only [List.getElem?_cons_zero, Option.some.injEq] at h; subst h
    simp only [List.set_cons_zero, SV.tos, e]
  | t :: l, i + 1, s, h, e => by
    simp only [List.getElem?_cons_succ] at h
    simp only [List.set_cons_succ, SV.tos, tos_setN l i s h e]
theorem numAt_to {B : List Value} : ∀ {p : List Nat} {s : SV} {z : Int} {f : Int → SV}, s.numAt p = some (z, f) → (f z).to B = s.to B
  | [], s, z, f, h => by
    unfold SV.numAt at h
    split at h
    · simp only [Option.some.injEq, Prod.mk.injEq] at h
      obtain ⟨rfl, rfl⟩ := h
      rfl
    · rename_i b _
      simp only [Option.some.injEq, Prod.mk.injEq] at h
      obtain ⟨rfl, rfl⟩ := h
      cases b <;> rfl
    · rename_i e; cases e
    · cases h
  | i :: p, s, z, f, h => by
    unfold SV.numAt at h
    split at h
    · rename_i e; cases e
    · rename_i e; cases e
    · rename_i i' p' l e
      simp only [List.cons.injEq] at e
      obtain ⟨rfl, rfl⟩ := e
      split at h
      · rename_i s' hs
        split at h
        · rename_i z' f' hf
          simp only [Option.some.injEq, Prod.mk.injEq] at h
          obtain ⟨rfl, rfl⟩ := h
          simp only [SV.to, tos_setN l i s' hs (numAt_to hf)]
        · cases h
      · cases h
    · cases h
/-- all that it may be -/
def casesS (z : Int) (f : Int → St) (st : St) : List Int → T St
  | [] => .leaf st
  | [c] => .need (z = c) (.leaf (f c))
  | c :: cs => .ite (decide (z = c)) (.leaf (f c)) (casesS z f st cs)
def splitS (sp : Spot) (cs : List Int) (st : St) : T St := match sp with
  | .slot t p => (match look st.fr t with
    | some s => (match s.numAt p with
      | some (z, f) => casesS z (fun c => ⟨(t, some (f c)) :: st.fr, st.H⟩) st cs
      | none => .leaf st)
    | none => .leaf st)
  | .cell k i p => (match st.H[k]? with
    | some (.own cells) => (match cells[i]? with
      | some s => (match s.numAt p with
        | some (z, f) => casesS z (fun c => ⟨st.fr, st.H.set k (.own (cells.set i (f c)))⟩) st cs
        | none => .leaf st)
      | none => .leaf st)
    | _ => .leaf st)
def splitAll : List (Nat × Spot × List Int) → Nat → St → T St
  | [], _, st => .leaf st
  | (i, sp, cs) :: l, id, st => bif Nat.beq i id then (splitS sp cs st).bind (splitAll l id) else splitAll l id st
theorem casesS_ok {z : Int} {f : Int → St} {st : St} {Qs : St → Prop} : ∀ {cs : List Int}, (casesS z f st cs).ok Qs → Qs st ∨ Qs (f z)
  | [], h => .inl h
  | [c], h => by
    obtain ⟨e, h⟩ := h
    subst e; exact .inr h
  | c :: d :: cs, h => by
    by_cases e : z = c
    · subst e; exact .inr (h.1 (by simp))
    · exact casesS_ok (cs := d :: cs) (h.2 (by simpa using e))
theorem splitS_ok {N : Nat} {w0 : World} {bs : List Nat} {sp : Spot} {cs : List Int} {st : St} {B : List Value} {a : Act} {w : World} {Qs : St → Prop} (hq : (splitS sp cs st).ok Qs) (h : Slots N st.fr B a) (hm : Mem w0 bs st.H B w) : ∃ st', Qs st' ∧ Slots N st'.fr B a ∧ Mem w0 bs st'.H B w := by
  unfold splitS at hq
  split at hq
  · rename_i t p
    split at hq
    · rename_i s hs
      split at hq
      · rename_i z f hf
        rcases casesS_ok hq with g | g
        · exact ⟨st, g, h, hm⟩
        · refine ⟨_, g, ⟨h.size, h.defers, fun u s' e => ?_⟩, hm⟩
          simp only [look] at e
          cases hb : Nat.beq t u
          · rw [hb, cond_false] at e; exact h.slot u s' e
          · rw [hb, cond_true, Option.some.injEq] at e
            have := Nat.eq_of_beq_eq_true hb
            subst this
            subst e
            rw [numAt_to hf]
            exact h.slot t s hs
      · exact ⟨st, hq, h, hm⟩
    · exact ⟨st, hq, h, hm⟩
  · rename_i k i p
    split at hq
    · rename_i cells hk
      split at hq
      · rename_i s hs
        split at hq
        · rename_i z f hf
          rcases casesS_ok hq with g | g
          · exact ⟨st, g, h, hm⟩
          · refine ⟨_, g, h, ?_⟩
            obtain ⟨u, hu⟩ := hm.sat.getB hk
            obtain ⟨b, vs, rfl, h2, h3⟩ := hm.sat.blk k _ u hk hu
            exact hm.upd hk rfl hu ⟨rfl, rfl, rfl, Nat.le_refl _, fun _ _ _ => rfl⟩ rfl ⟨b, vs, rfl, by rw [tos_setN cells i s hs (numAt_to hf)]; exact h2, h3⟩
        · exact ⟨st, hq, h, hm⟩
      · exact ⟨st, hq, h, hm⟩
    · exact ⟨st, hq, h, hm⟩
theorem splitAll_ok {N : Nat} {w0 : World} {bs : List Nat} {B : List Value} {a : Act} {w : World} {Qs : St → Prop} : ∀ {l : List (Nat × Spot × List Int)} {id : Nat} {st : St}, (splitAll l id st).ok Qs → Slots N st.fr B a → Mem w0 bs st.H B w → ∃ st', Qs st' ∧ Slots N st'.fr B a ∧ Mem w0 bs st'.H B w
  | [], _, st, hq, h, hm => ⟨st, hq, h, hm⟩
  | (i, sp, cs) :: l, id, st, hq, h, hm => by
    unfold splitAll at hq
    cases hb : Nat.beq i id
    · rw [hb, cond_false] at hq; exact splitAll_ok hq h hm
    · rw [hb, cond_true] at hq
      obtain ⟨st1, q1, h1, m1⟩ := splitS_ok (T.ok_bind hq) h hm
      exact splitAll_ok q1 h1 m1
/-- the tables, and which operations change memory; X: where a number is one of a few; M: regions of which all orders are walked, and the slots that are kept behind these -/
structure Cfg where
  S : Tab
  G : GTab
  E : Oper → Bool
  X : List (Nat × Spot × List Int)
  M : List (Nat × List Nat)
structure CfgOk (P : Program) (C : Cfg) : Prop where
  S : TabOk P C.S
  G : GOk P C.G
/-- which operations change memory; fs: the functions that do -/
def effE (P : Program) (fs : List Nat) (o : Oper) : Bool :=
  match o.op with
  | .box .. | .alloc _ | .store .. | .buildSlice .. | .makeSlice .. | .mapUpdate .. | .makeMap .. => true
  | .slice t .. => match P.underlying t with | some .string => false | _ => true
  | .call c => match c.callee with
    | .builtin .append => true
    | .builtin .delete => true
    | .value (.func f) => fs.any (Nat.beq f)
    | .builtin _ => false
    | _ => true
  | .convert src dst _ => match P.underlying src, P.underlying dst with
    | some .string, some (.slice _) => true
    | some (.slice _), some .string => true
    | _, _ => false
  | _ => false
def T.gather {α β : Type} (f : α → List β) : T α → List β
  | .leaf a => f a
  | .ite _ t e => t.gather f ++ e.gather f
  | .need _ t => t.gather f
  | .stuck _ => []
section
variable {P : Program} {C : Cfg} {N : Nat}
/-! ### Code -/
def isLoop : Code → Bool
  | .loop _ => true
  | _ => false
def loopBody : Code → Code
  | .loop b => b
  | c => c
theorem isLoop_eq {c : Code} (h : isLoop c = true) : c = .loop (loopBody c) := by
  cases c <;> first | rfl | cases h
inductive Ex where
  | normal
  | exit (id : Nat)
  | ret
def Ex.to : Ex → Exit
  | .normal => .normal
  | .exit id => .exit id
  | .ret => .ret
section
variable (P : Program) (C : Cfg) (L : Nat → St → Option (T (Ex × St))) (N : Nat)
/-- does an operation wait for this guard to be true? -/
def pickPol (ops : Array Oper) (i : Nat) : Bool := ops.toList.any fun o => match o.guard with | some (j, b) => Nat.beq j i && b | none => false
/-- one way through a tree -/
def T.pick {α : Type} (b : Bool) : T α → Option α
  | .leaf a => some a
  | .ite _ t e => bif b then (match t.pick b with | some x => some x | none => e.pick b) else (match e.pick b with | some x => some x | none => t.pick b)
  | .need _ t => t.pick b
  | .stuck _ => none
/-- which letters a region touches, and by which operation, as far as one sees (one way through: it is advice alone) -/
def scanOps (ops : Array Oper) : List Oper → Nat → St → List (Nat × Nat)
  | [], _, _ => []
  | o :: rest, i, st => match wantedS ops st o with
    | some true => T.gather (fun p => (p.2.touch st.H.length).map (fun q => (i, q))) (evalE P C.S C.G (st.view o) o) ++ (match T.pick (pickPol ops i) ((evalE P C.S C.G (st.view o) o).bind (putR N (isGuard ops i) o.dst st)) with
      | some st' => scanOps ops rest (i + 1) st'
      | none => [])
    | some false => scanOps ops rest (i + 1) (st.put o.dst (.v undef))
    | none => []
/-- which letters an operation may see: each that touches them comes for sure ahead of it or behind it -/
def visOf (ops : Array Oper) (W : List (Nat × Nat)) (j q : Nat) : Bool :=
  W.all fun p => !Nat.beq p.2 q || Nat.beq p.1 j || maskDep .any ops p.1 j || maskDep .any ops j p.1
/-- what operations see of letters while all orders are walked: old ones as ever; new ones, where they wait for all that change memory, or these for them -/
def visAll (ops : Array Oper) (W : List (Nat × Nat)) (n0 j q : Nat) : Bool :=
  bif Nat.blt q n0 then visOf ops W j q else (List.range ops.size).all fun i => Nat.beq i j || !effAt C.E ops i || maskDep .any ops i j || maskDep .any ops j i
def agree (t : T St) (s : St) : Prop := t.ok fun x => x = s
def planNeeds (V : Nat → Nat → Bool) (ops : Array Oper) (st s1 : St) (n0 : Nat) (ks : List Nat) : List (List Nat) → T St
  | [] => .leaf s1
  | o :: l => .need (agree ((runOrd P C.S C.G N .any C.E V ops o st).bind fun s2 => .leaf (s2.ordC n0 ks)) s1) (planNeeds V ops st s1 n0 ks l)
def runPlan (V : Nat → Nat → Bool) (ops : Array Oper) (st : St) (ks : List Nat) : List (List Nat) → T St
  | [] => .stuck 124
  | o :: l => (runOrd P C.S C.G N .any C.E V ops o st).bind fun s1 => planNeeds P C N V ops st (s1.ordC st.H.length ks) st.H.length ks l
def keepOf (id : Nat) : List (Nat × List Nat) → Option (List Nat)
  | [] => none
  | p :: l => bif Nat.beq p.1 id then some p.2 else keepOf id l
def runRegion (id : Nat) (ops : Array Oper) (draw : Bool) (st : St) : T St :=
  bif draw then match keepOf id C.M with
    | some ks => (match orders .any C.E ops ops.size (Array.replicate ops.size false) with
      | some L => runPlan P C N (visAll C ops (scanOps P C N ops ops.toList 0 st) st.H.length) ops st ks L
      | none => .stuck 125)
    | none => runOpsD P C.S C.G N .any C.E (visOf ops (scanOps P C N ops ops.toList 0 st)) ops ops.toList 0 st else runOps P C.S C.G N ops ops.toList 0 st
def runC : Code → St → T (Ex × St)
  | .skip, st => .leaf (.normal, st)
  | .region id ops draw, st => (runRegion P C N id ops draw st).bind fun st => (splitAll C.X id st).bind fun st => .leaf (.normal, st)
  | .seq a b, st => (runC a st).bind fun r => match r.1 with
    | .normal => runC b r.2
    | _ => .leaf r
  | .cond c a b, st => match st.val c with
    | some .tt => runC a st
    | some .ff => runC b st
    | some (.v (.bool x)) => .ite x (runC a (st.knows c .tt)) (runC b (st.knows c .ff))
    | _ => .stuck 36
  | .block id c, st => bif isLoop c then (match L id st with | some t => t | none => .stuck (3000 + id)) else
    (runC c st).bind fun r => match r.1 with
      | .exit j => bif Nat.beq j id then .leaf (.normal, r.2) else .leaf r
      | _ => .leaf r
  | .exit id, st => .leaf (.exit id, st)
  | .ret, st => .leaf (.ret, st)
  | _, _ => .stuck 37
end
/-- each region that draws its order may be walked in the order of the text -/
def lexAll (C : Cfg) : Code → Bool
  | .region id ops draw => bif draw then match keepOf id C.M with | some _ => true | none => lexD .any C.E ops ops.size 0 (Array.replicate ops.size false) else true
  | .seq a b => lexAll C a && lexAll C b
  | .cond _ a b => lexAll C a && lexAll C b
  | .block _ c => bif isLoop c then true else lexAll C c
  | _ => true
def loopsOf : Code → List (Nat × Code)
  | .seq a b => loopsOf a ++ loopsOf b
  | .cond _ a b => loopsOf a ++ loopsOf b
  | .block id c => bif isLoop c then [(id, loopBody c)] else loopsOf c
  | _ => []
theorem plan_needs {P : Program} {C : Cfg} {N : Nat} {V : Nat → Nat → Bool} {ops : Array Oper} {st s1 : St} {n0 : Nat} {ks : List Nat} {Qs : St → Prop} : ∀ {l : List (List Nat)}, (planNeeds P C N V ops st s1 n0 ks l).ok Qs → Qs s1 ∧ ∀ o ∈ l, (runOrd P C.S C.G N .any C.E V ops o st).ok fun s2 => s2.ordC n0 ks = s1
  | [], h => ⟨h, fun o ho => by cases ho⟩
  | o :: l, h => by
    obtain ⟨h1, h2⟩ := h
    obtain ⟨h3, h4⟩ := plan_needs h2
    refine ⟨h3, fun o' ho' => ?_⟩
    rcases List.mem_cons.1 ho' with rfl | ho'
    · exact T.ok_bind h1
    · exact h4 o' ho'
theorem plan_all {P : Program} {C : Cfg} {N : Nat} {V : Nat → Nat → Bool} {ops : Array Oper} {st : St} {ks : List Nat} {Qs : St → Prop} {L : List (List Nat)} (h : (runPlan P C N V ops st ks L).ok Qs) : ∀ o ∈ L, (runOrd P C.S C.G N .any C.E V ops o st).ok fun s => Qs (s.ordC st.H.length ks) := by
  cases L with
  | nil => exact h.elim
  | cons o l =>
    have h := T.ok_bind h
    intro o' ho'
    rcases List.mem_cons.1 ho' with rfl | ho'
    · exact T.ok_mono (fun s hs => (plan_needs hs).1) h
    · obtain ⟨s1, hs1⟩ := T.ok_leaf h
      obtain ⟨h1, h2⟩ := plan_needs hs1
      exact T.ok_mono (fun s hs => by rw [hs]; exact h1) (h2 o' ho')
/-- what the evaluator says of c from st is right -/
def RunOk (P : Program) (N : Nat) (c : Code) (st : St) (t : T (Ex × St)) : Prop :=
  ∀ (w0 : World) (bs : List Nat) (pre B : List Value) (a : Act) (w : World) (Qs : Ex × St → Prop) (Q : Exit → Act → World → Prop), pre <+: B → Slots N st.fr B a → Mem w0 bs st.H B w → t.ok Qs →
    (∀ r B' a' w', Qs r → pre <+: B' → Slots N r.2.fr B' a' → Mem w0 bs r.2.H B' w' → Q r.1.to a' w') → c.wp P Q a w
theorem region_ok (hC : CfgOk P C) (hP : P.follows .mixedOrders = true) (id : Nat) (ops : Array Oper) (draw : Bool) (st : St) (hlex : lexAll C (.region id ops draw) = true) : RunOk P N (.region id ops draw) st ((runRegion P C N id ops draw st).bind fun st => (splitAll C.X id st).bind fun st => .leaf (.normal, st)) := by
  intro w0 bs pre B a w Qs Q hp h hm hq hQ
  have hq := T.ok_bind hq
  have hQ2 : ∀ (st : St) B a w, ((splitAll C.X id st).bind fun st => T.leaf (Ex.normal, st)).ok Qs → pre <+: B → Slots N st.fr B a → Mem w0 bs st.H B w → Q .normal a w := by
    intro st B a w hqs hp h hm
    obtain ⟨st', q, h', hm'⟩ := splitAll_ok (T.ok_bind hqs) h hm
    exact hQ (.normal, st') B a w q hp h' hm'
  unfold runRegion at hq
  cases draw
  · rw [cond_false] at hq
    exact wp_region_list (runOps_ok hC.S hC.G (fun st B a w hqs hp h hm => hQ2 st B a w hqs hp h hm) ops.toList 0 st B a w hp h hm hq)
  · rw [cond_true] at hq
    cases hM : keepOf id C.M with
    | none =>
      rw [hM] at hq
      simp only [lexAll, cond_true, hM] at hlex
      have hsz : ops.toList.length = ops.size := by simp
      have hA := AG_lex (P := P) (S := C.S) (G := C.G) (N := N) (E := C.E) (V := visOf ops (scanOps P C N ops ops.toList 0 st)) (md := .any) (QQ := fun st' => ∃ st2, SEq st2 st' ∧ ((splitAll C.X id st2).bind fun st => T.leaf (Ex.normal, st)).ok Qs) (fun a b hab ⟨c, h1, h2⟩ => ⟨c, ⟨fun t => (h1.1 t).trans (hab.1 t), h1.2.trans hab.2⟩, h2⟩)
        ops.toList 0 (Array.replicate ops.size false) st (by simp) (by rw [hsz]; exact hlex) (fun j o _ hl => by
          rw [Array.getD_eq_getD_getElem?, Array.getElem?_replicate] at hl
          split at hl <;> cases hl) (T.ok_mono (fun a ha => ⟨a, SEq.refl a, ha⟩) hq)
      rw [hsz] at hA
      refine wp_region_any hP (AG_sound hC.S hC.G (pre := pre) (fun st' B' a' w' ⟨st2, he, hqs⟩ hp' h' hm' => ?_) _ _ st B a _ hp h hm.drew hA)
      exact hQ2 st2 B' a' w' hqs hp' ⟨h'.size, h'.defers, fun t s e => h'.slot t s (by rw [← he.1 t]; exact e)⟩ (by rw [he.2]; exact hm')
    | some ks =>
      rw [hM] at hq
      simp only at hq
      split at hq
      · rename_i L hL
        have hlen : B.length = st.H.length := hm.sat.len
        have hB0 : B.take st.H.length = B := List.take_of_length_le (by omega)
        have hA := orders_AG (P := P) (S := C.S) (G := C.G) (N := N) (E := C.E) (V := visAll C ops (scanOps P C N ops ops.toList 0 st) st.H.length) (md := .any) (ops := ops) (QQ := fun st' => ((splitAll C.X id (st'.ordC st.H.length ks)).bind fun st => T.leaf (Ex.normal, st)).ok Qs) (fun a b hab h1 => by rw [← ordC_congr hab]; exact h1)
          ops.size (Array.replicate ops.size false) st L hL (fun j o _ hl => by
            rw [Array.getD_eq_getD_getElem?, Array.getElem?_replicate] at hl
            split at hl <;> cases hl) (plan_all hq)
        refine wp_region_any hP (AG_sound hC.S hC.G (pre := B) (fun st' B' a' w' hqs hp' h' hm' => ?_) _ _ st B a _ (List.prefix_refl _) h hm.drew hA)
        have hnB : st.H.length ≤ B'.length := by have := hp'.length_le; omega
        obtain ⟨B2, p2, h2, m2⟩ := ordC_ok (M := ks) h' hm' hnB
        have hBt : B'.take st.H.length = B := by
          obtain ⟨l, rfl⟩ := hp'
          rw [← hlen, List.take_left]
        rw [hBt] at p2
        exact hQ2 _ B2 a' w' hqs (hp.trans p2) h2 m2
      · exact hq.elim
theorem runC_ok (hC : CfgOk P C) (hP : P.follows .mixedOrders = true) {L : Nat → St → Option (T (Ex × St))} : ∀ (c : Code), lexAll C c = true → (∀ id body, (id, body) ∈ loopsOf c → ∀ st t, L id st = some t → RunOk P N (.block id (.loop body)) st t) → ∀ st, RunOk P N c st (runC P C L N c st)
  | .skip, _, _, st => fun w0 bs pre B a w Qs Q hp h hm hq hQ => wp_skip (hQ (.normal, st) B a w hq hp h hm)
  | .region id ops draw, hlex, _, st => by simp only [runC]; exact region_ok hC hP id ops draw st hlex
  | .seq x y, hlex, hL, st => fun w0 bs pre B a w Qs Q hp h hm hq hQ => by
    simp only [runC] at hq
    refine wp_seq (runC_ok hC hP x (by simp only [lexAll, Bool.and_eq_true] at hlex; exact hlex.1) (fun id body hm => hL id body (by simp only [loopsOf]; exact List.mem_append_left _ hm)) st w0 bs pre B a w _ _ hp h hm (T.ok_bind hq) fun r B' a' w' hq' hp' h' hm' => ?_)
    obtain ⟨e, st'⟩ := r
    cases e with
    | normal => exact runC_ok hC hP y (by simp only [lexAll, Bool.and_eq_true] at hlex; exact hlex.2) (fun id body hm => hL id body (by simp only [loopsOf]; exact List.mem_append_right _ hm)) st' w0 bs pre B' a' w' Qs Q hp' h' hm' hq' hQ
    | exit id => exact hQ _ B' a' w' hq' hp' h' hm'
    | ret => exact hQ _ B' a' w' hq' hp' h' hm'
  | .cond c x y, hlex, hL, st => fun w0 bs pre B a w Qs Q hp h hm hq hQ => by
    simp only [runC] at hq
    split at hq
    · rename_i hc
      have hv := h.val hc
      simp only [SV.to, Option.some.injEq] at hv
      exact wp_cond_true hv.symm (runC_ok hC hP x (by simp only [lexAll, Bool.and_eq_true] at hlex; exact hlex.1) (fun id body hm => hL id body (by simp only [loopsOf]; exact List.mem_append_left _ hm)) st w0 bs pre B a w Qs Q hp h hm hq hQ)
    · rename_i hc
      have hv := h.val hc
      simp only [SV.to, Option.some.injEq] at hv
      exact wp_cond_false hv.symm (runC_ok hC hP y (by simp only [lexAll, Bool.and_eq_true] at hlex; exact hlex.2) (fun id body hm => hL id body (by simp only [loopsOf]; exact List.mem_append_right _ hm)) st w0 bs pre B a w Qs Q hp h hm hq hQ)
    · rename_i b hc
      have hv := h.val hc
      simp only [SV.to, Option.some.injEq] at hv
      refine wp_cond_split hv.symm (fun hb => ?_) (fun hb => ?_)
      · exact runC_ok hC hP x (by simp only [lexAll, Bool.and_eq_true] at hlex; exact hlex.1) (fun id body hm => hL id body (by simp only [loopsOf]; exact List.mem_append_left _ hm)) (st.knows c .tt) w0 bs pre B a w Qs Q hp (h.knows (s := .tt) hc (by rw [hb]; rfl)) (by rw [St.knows_H]; exact hm) (hq.1 hb) hQ
      · exact runC_ok hC hP y (by simp only [lexAll, Bool.and_eq_true] at hlex; exact hlex.2) (fun id body hm => hL id body (by simp only [loopsOf]; exact List.mem_append_right _ hm)) (st.knows c .ff) w0 bs pre B a w Qs Q hp (h.knows (s := .ff) hc (by rw [hb]; rfl)) (by rw [St.knows_H]; exact hm) (hq.2 hb) hQ
    · exact hq.elim
  | .block id c, hlex, hL, st => fun w0 bs pre B a w Qs Q hp h hm hq hQ => by
    simp only [runC] at hq
    cases hb : isLoop c
    · rw [hb, cond_false] at hq
      refine wp_block (runC_ok hC hP c (by simpa only [lexAll, hb, cond_false] using hlex) (fun id' body hm => hL id' body (by simp only [loopsOf, hb, cond_false]; exact hm)) st w0 bs pre B a w _ _ hp h hm (T.ok_bind hq) fun r B' a' w' hq' hp' h' hm' => ?_)
      obtain ⟨e, st'⟩ := r
      cases e with
      | normal => exact hQ _ B' a' w' hq' hp' h' hm'
      | ret => exact hQ _ B' a' w' hq' hp' h' hm'
      | exit j =>
        simp only [Ex.to, Exit.inBlock]
        simp only at hq'
        by_cases e : j = id
        · subst e
          simp only [Nat.beq_refl, cond_true] at hq'
          rw [if_pos rfl]
          exact hQ _ B' a' w' hq' hp' h' hm'
        · have hbe : Nat.beq j id = false := by
            cases hbe : Nat.beq j id
            · rfl
            · exact absurd (Nat.eq_of_beq_eq_true hbe) e
          rw [hbe, cond_false] at hq'
          rw [if_neg e]
          exact hQ _ B' a' w' hq' hp' h' hm'
    · rw [hb, cond_true] at hq
      have hc := isLoop_eq hb
      split at hq
      · rename_i t ht
        rw [hc]
        exact hL id (loopBody c) (by simp [loopsOf, hb]) st t ht w0 bs pre B a w Qs Q hp h hm hq hQ
      · exact hq.elim
  | .exit id, _, _, st => fun w0 bs pre B a w Qs Q hp h hm hq hQ => wp_exit (hQ (.exit id, st) B a w hq hp h hm)
  | .ret, _, _, st => fun w0 bs pre B a w Qs Q hp h hm hq hQ => wp_ret (hQ (.ret, st) B a w hq hp h hm)
  | .loop _, _, _, _ => fun _ _ _ _ _ _ _ _ _ _ _ hq _ => hq.elim
  | .rangeFunc .., _, _, _ => fun _ _ _ _ _ _ _ _ _ _ _ hq _ => hq.elim
  | .scope _, _, _, _ => fun _ _ _ _ _ _ _ _ _ _ _ hq _ => hq.elim
  | .label _, _, _, _ => fun _ _ _ _ _ _ _ _ _ _ _ hq _ => hq.elim
  | .goto _, _, _, _ => fun _ _ _ _ _ _ _ _ _ _ _ hq _ => hq.elim
  | .refuse _, _, _, _ => fun _ _ _ _ _ _ _ _ _ _ _ hq _ => hq.elim

/-! ### Functions -/
def mkTup (l : List SV) : SV := match plains l with | some xs => .v (.tuple xs.toArray) | none => .tup l
theorem mkTup_to {B : List Value} {l : List SV} {xs : List Value} (h : SV.tos B l = some xs) : (mkTup l).to B = some (.tuple xs.toArray) := by
  unfold mkTup
  split
  · rename_i ys hy
    rw [plains_to hy] at h
    simp only [Option.some.injEq] at h; subst h; rfl
  · simp [SV.to, h]
def resV (P : Program) (st : St) : ResultVar → T SV
  | .tmp t => leafO 50 (look st.fr t)
  | .cell a t => evalLoad P ⟨st.val, fun k => st.H[k]?, 0⟩ t (.tmp a)
def resL (P : Program) (st : St) : List ResultVar → T (List SV)
  | [] => .leaf []
  | r :: l => (resV P st r).bind fun s => (resL P st l).bind fun ss => .leaf (s :: ss)
def oneOr (l : List SV) : SV := match l with | [s] => s | l => mkTup l
def resT (P : Program) (fn : Func) (st : St) : T SV := (resL P st fn.results.toList).bind fun l => .leaf (oneOr l)
/-- the whole of a function -/
def runF (P : Program) (C : Cfg) (L : Nat → St → Option (T (Ex × St))) (fn : Func) (c : Code) (args : List SV) (H : List Blk) : T (SV × List Blk) :=
  bif Nat.ble args.length fn.ntmps then
    (runC P C L fn.ntmps c ⟨(args.zipIdx).map fun p => (p.2, some p.1), H⟩).bind fun r => match r.1 with
      | .exit _ => .stuck 51
      | _ => (resT P fn r.2).bind fun s => .leaf (s, r.2.H)
  else .stuck 52
end
end Go.Proofs.Ytodfcalaggfldaa.Sym
namespace Go.Proofs.Ytodfcalaggfldaa.Sym
set_option linter.unusedVariables false
set_option linter.unusedSimpArgs false
open Go.RowKit

section
variable {P : Program} {C : Cfg} {N : Nat} {w0 : World} {bs : List Nat}
def resSem (tmps : Array Value) : ResultVar → Sem Value
  | .tmp t => pure (tmps.getD t undef)
  | .cell a t => do loadVar t (← asAddr (tmps.getD a undef))
theorem resV_ok {st : St} {B : List Value} {a : Act} {w : World} (h : Slots N st.fr B a) (hm : Mem w0 bs st.H B w) {r : ResultVar} {Qs : SV → Prop} (hq : (resV P st r).ok Qs) : ∃ s x, Qs s ∧ s.to B = some x ∧ (resSem a.tmps r).run P w = .ok x w := by
  cases r with
  | tmp t =>
    obtain ⟨s, hs, hqs⟩ := leafO_ok hq
    exact ⟨s, _, hqs, h.slot t s hs, rfl⟩
  | cell c t =>
    obtain ⟨s, hqs, x, hx, hr⟩ := evalLoad_ok (P := P) (w0 := w0) (bs := bs) (V := ⟨st.val, fun k => st.H[k]?, 0⟩) ⟨fun _ _ e => h.val e, fun _ _ e => e⟩ hm (o := ⟨none, .load t (.tmp c), 0, "", #[], none⟩) rfl hq
    refine ⟨s, x, hqs, hx, ?_⟩
    have h1 := hr w hm
    have hp : ∃ p, a.tmps.getD c undef = .pointer (some p) := by
      simp only [resV] at hq
      unfold evalLoad at hq
      split at hq
      · split at hq
        · rename_i k off hk
          have := h.val (st := st) (x := .tmp c) hk
          simp only [SV.to] at this
          split at this
          · simp only [Option.some.injEq] at this; exact ⟨_, this.symm⟩
          · cases this
        · rename_i k sz i off hk
          have := h.val (st := st) (x := .tmp c) hk
          simp only [SV.to] at this
          split at this
          · simp only [Option.some.injEq] at this; exact ⟨_, this.symm⟩
          · cases this
        · exact hq.elim
      · exact hq.elim
    obtain ⟨p, hp⟩ := hp
    have hex : execOp a.eval ⟨none, .load t (.tmp c), 0, "", #[], none⟩ = (do pure (Next.value (← Instr.loadAt t (.pointer (some p)))) : Sem Next) := by
      unfold execOp; simp only [Act.eval, hp]
    unfold Oper.quietAt at h1
    rw [hex] at h1
    have h2 := Sem.run_bind' P (Instr.loadAt t (.pointer (some p))) (fun x => Sem.pure (Next.value x)) w
    replace h1 : Oper.quietUpon P (Mem w0 bs st.H B) w x (((Instr.loadAt t (.pointer (some p))).run P w).andThen fun a w' => (Sem.pure (Next.value a)).run P w') := by rw [← h2]; exact h1
    simp only [resSem, hp]
    show (loadVar t p).run P w = _
    have e : (Instr.loadAt t (.pointer (some p))).run P w = (loadVar t p).run P w := rfl
    rw [e] at h1
    cases hl : (loadVar t p).run P w with
    | ok y w' =>
      rw [hl] at h1
      obtain ⟨rfl, rfl⟩ := h1
      rfl
    | halt y w' => rw [hl] at h1; exact h1.elim
theorem resL_ok {st : St} {B : List Value} {a : Act} {w : World} (h : Slots N st.fr B a) (hm : Mem w0 bs st.H B w) : ∀ {l : List ResultVar} {Qs : List SV → Prop}, (resL P st l).ok Qs → ∃ ss xs, Qs ss ∧ SV.tos B ss = some xs ∧ (l.mapM (resSem a.tmps)).run P w = .ok xs w
  | [], _, hq => ⟨[], [], hq, rfl, rfl⟩
  | r :: l, _, hq => by
    obtain ⟨s, x, hq2, hx, hr⟩ := resV_ok h hm (T.ok_bind hq)
    obtain ⟨ss, xs, hq3, hxs, hrs⟩ := resL_ok h hm (T.ok_bind hq2)
    refine ⟨s :: ss, x :: xs, hq3, by simp [SV.tos, hx, hxs], ?_⟩
    rw [List.mapM_cons, run_bind_ok hr, run_bind_ok hrs]
    rfl
theorem oneOr_to {B : List Value} {ss : List SV} {xs : List Value} (h : SV.tos B ss = some xs) : (oneOr ss).to B = some (if hh : xs.toArray.size = 1 then xs.toArray[0] else .tuple xs.toArray) := by
  have hl := tos_length h
  unfold oneOr
  split
  · rename_i s
    simp only [List.length_cons, List.length_nil] at hl
    obtain ⟨x, rfl⟩ := list1 xs hl
    simp only [SV.tos] at h
    split at h
    · rename_i y ys h1 h2
      simp only [Option.some.injEq, List.cons.injEq] at h
      simp [h1, h.1]
    · cases h
  · rename_i hne
    have : ¬ xs.toArray.size = 1 := by
      intro e
      have e1 : ss.length = 1 := by simpa [hl] using e
      match ss, e1 with
      | [s], _ => exact hne s rfl
    rw [dif_neg this]
    exact mkTup_to h
theorem resT_ok {fn : Func} {st : St} {B : List Value} {a : Act} {w : World} (h : Slots N st.fr B a) (hm : Mem w0 bs st.H B w) {Qs : SV → Prop} (hq : (resT P fn st).ok Qs) : ∃ s x, Qs s ∧ s.to B = some x ∧ (results fn a.tmps).run P w = .ok x w := by
  obtain ⟨ss, xs, hq2, hxs, hr⟩ := resL_ok h hm (T.ok_bind hq)
  refine ⟨_, _, hq2, oneOr_to hxs, ?_⟩
  unfold results
  have e : (fn.results.mapM fun
      | .tmp t => (pure (a.tmps.getD t undef) : Sem Value)
      | .cell c t => do loadVar t (← asAddr (a.tmps.getD c undef))) = List.toArray <$> fn.results.toList.mapM (resSem a.tmps) := by
    rw [Array.mapM_eq_mapM_toList]
    rfl
  have hr2 : (List.toArray <$> fn.results.toList.mapM (resSem a.tmps)).run P w = .ok xs.toArray w := by
    rw [map_eq_pure_bind, run_bind_ok hr]
    rfl
  rw [← e] at hr2
  exact run_bind_ok hr2 _
theorem look_args {B : List Value} : ∀ (args : List SV) (vs : List Value) (n : Nat), SV.tos B args = some vs → ∀ t s, look ((args.zipIdx n).map fun p => (p.2, some p.1)) t = some s → n ≤ t ∧ ∃ x, vs[t - n]? = some x ∧ s.to B = some x
  | [], _, _, _, _, _, h => by simp [look] at h
  | u :: args, vs, n, hv, t, s, h => by
    simp only [SV.tos] at hv
    split at hv
    · rename_i x xs h1 h2
      simp only [Option.some.injEq] at hv
      subst hv
      simp only [List.zipIdx_cons, List.map_cons, look] at h
      by_cases e : n = t
      · subst e
        simp only [Nat.beq_refl, cond_true, Option.some.injEq] at h
        subst h
        exact ⟨Nat.le_refl _, x, by simp, h1⟩
      · have hb : Nat.beq n t = false := by
          cases hb : Nat.beq n t
          · rfl
          · exact absurd (Nat.eq_of_beq_eq_true hb) e
        rw [hb, cond_false] at h
        obtain ⟨g1, y, g2, g3⟩ := look_args args xs (n + 1) h2 t s h
        refine ⟨by omega, y, ?_, g3⟩
        rw [show t - n = (t - (n + 1)) + 1 by omega, List.getElem?_cons_succ]
        exact g2
    · cases hv
/-- **what the evaluator says of a function is right** -/
theorem calls_of_runF (hC : CfgOk P C) (hP : P.follows .mixedOrders = true) {L : Nat → St → Option (T (Ex × St))} {f : FuncId} {fn : Func} {c : Code} (hf : P.funcs[f]? = some fn) (hb : fn.body = some c) (hlex : lexAll C c = true)
    (hL : ∀ id body, (id, body) ∈ loopsOf c → ∀ st t, L id st = some t → RunOk P fn.ntmps (.block id (.loop body)) st t)
    {args : List SV} {vs : List Value} {H : List Blk} {B : List Value} {w : World} (hv : SV.tos B args = some vs) (hm : Mem w bs H B w) {Qs : SV × List Blk → Prop} (hq : (runF P C L fn c args H).ok Qs) :
    Calls P f vs.toArray w fun e w' => ∃ s H' B' x, Qs (s, H') ∧ B <+: B' ∧ s.to B' = some x ∧ e = .returned x ∧ Mem w bs H' B' w' := by
  unfold runF at hq
  cases hn : Nat.ble args.length fn.ntmps
  · rw [hn] at hq; exact hq.elim
  · rw [hn, cond_true] at hq
    have hle := Nat.le_of_ble_eq_true hn
    have hlen := tos_length hv
    refine calls_of_wp hf hb ?_
    have hsl : Slots fn.ntmps ((args.zipIdx).map fun p => (p.2, some p.1)) B { tmps := vs.toArray ++ Array.replicate (fn.ntmps - vs.toArray.size) undef, defers := [] } := by
      refine ⟨by simp; omega, rfl, fun t s h => ?_⟩
      obtain ⟨-, x, g1, g2⟩ := look_args args vs 0 hv t s h
      rw [g2]
      have hlt : t < vs.length := (List.getElem?_eq_some_iff.1 g1).1
      rw [Array.getD_eq_getD_getElem?, Array.getElem?_append_left (by simpa using hlt)]
      simp only [Nat.sub_zero] at g1
      simp [g1]
    refine runC_ok hC hP c hlex hL _ w bs B B _ w _ _ (List.prefix_refl _) hsl hm (T.ok_bind hq) fun r B' a' w' hq' hp' h' hm' => ?_
    obtain ⟨e, st'⟩ := r
    cases e with
    | exit id => exact hq'.elim
    | normal =>
      obtain ⟨s, x, hq2, hx, hr⟩ := resT_ok h' hm' (T.ok_bind hq')
      exact ⟨h'.defers, x, hr, s, st'.H, B', x, hq2, hp', hx, rfl, hm'⟩
    | ret =>
      obtain ⟨s, x, hq2, hx, hr⟩ := resT_ok h' hm' (T.ok_bind hq')
      exact ⟨h'.defers, x, hr, s, st'.H, B', x, hq2, hp', hx, rfl, hm'⟩
/-- a function that only computes -/
theorem calls_pure (hC : CfgOk P C) (hP : P.follows .mixedOrders = true) {L : Nat → St → Option (T (Ex × St))} {f : FuncId} {fn : Func} {c : Code} (hf : P.funcs[f]? = some fn) (hb : fn.body = some c) (hlex : lexAll C c = true)
    (hL : ∀ id body, (id, body) ∈ loopsOf c → ∀ st t, L id st = some t → RunOk P fn.ntmps (.block id (.loop body)) st t)
    {vs : List Value} {v : Value} (hq : (runF P C L fn c (vs.map .v) []).ok fun r => r.1.to [] = some v) (w : World) :
    Calls P f vs.toArray w fun e w' => e = .returned v ∧ Below w.heap.size w w' := by
  refine (calls_of_runF (bs := []) (B := []) (w := w) hC hP hf hb hlex hL (tos_plain [] vs) ⟨⟨rfl, by simp, by simp [ExBlk], by simp [ExBlk]⟩, .refl _ _, by simp [ExBlk]⟩ hq).mono ?_
  rintro e w' ⟨s, H', B', x, hs, hp, hx, rfl, hm⟩
  have := SV.to_mono hp hs
  rw [hx] at this
  simp only [Option.some.injEq] at this
  subst this
  exact ⟨rfl, hm.keeps.below⟩
def onlyV : SV × List Blk → T Value
  | (s, _) => match s.plain with
    | some x => .leaf x
    | none => .stuck 53
/-- what a function hands back that only computes -/
def runV (P : Program) (C : Cfg) (L : Nat → St → Option (T (Ex × St))) (fn : Func) (vs : List Value) : T Value := (runF P C L fn (fn.body.getD .skip) (vs.map .v) []).bind onlyV
theorem calls_runV (hC : CfgOk P C) (hP : P.follows .mixedOrders = true) {L : Nat → St → Option (T (Ex × St))} {f : FuncId} {fn : Func} (hf : P.funcs[f]? = some fn) (hb : fn.body.isSome = true) (hlex : lexAll C (fn.body.getD .skip) = true)
    (hL : ∀ id body, (id, body) ∈ loopsOf (fn.body.getD .skip) → ∀ st t, L id st = some t → RunOk P fn.ntmps (.block id (.loop body)) st t)
    {vs : List Value} {t : T Value} (ht : runV P C L fn vs = t) {v : Value} (hq : t.ok fun x => x = v) (w : World) :
    Calls P f vs.toArray w fun e w' => e = .returned v ∧ Below w.heap.size w w' := by
  subst ht
  have hb' : fn.body = some (fn.body.getD .skip) := by
    cases h : fn.body with
    | none => rw [h] at hb; cases hb
    | some c => rfl
  refine calls_pure hC hP hf hb' hlex hL (T.ok_mono (fun r h => ?_) (T.ok_bind hq)) w
  obtain ⟨s, H⟩ := r
  simp only [onlyV] at h
  split at h
  · rename_i x hx
    have h : x = v := h
    subst h
    exact SV.plain_to hx []
  · exact (h : False).elim
def noL : Nat → St → Option (T (Ex × St)) := fun _ _ => none
theorem noL_ok {c : Code} : ∀ id body, (id, body) ∈ loopsOf c → ∀ st t, noL id st = some t → RunOk P N (.block id (.loop body)) st t := fun _ _ _ _ _ h => by cases h
def noG : GTab := fun _ _ _ _ => none
theorem noG_ok : GOk P noG := fun _ _ _ _ _ h => by cases h
/-- functions that only compute alone are called -/
def onlyS (P : Program) (S : Tab) : Cfg := ⟨S, noG, effE P [], [], []⟩
theorem onlyS_ok {S : Tab} (h : TabOk P S) : CfgOk P (onlyS P S) := ⟨h, noG_ok⟩
def noS : Tab := fun _ _ => none
theorem noS_ok : TabOk P noS := fun _ _ _ h => by cases h
/-- a contract as a tree -/
def cTree : Option (List Prop × Value) → Option (T Value)
  | some (p, v) => some (needs p (.leaf v))
  | none => none
def addS (k : FuncId) (h : List Value → Option (List Prop × Value)) (S : Tab) : Tab := fun f xs => bif Nat.beq f k then cTree (h xs) else S f xs
theorem addS_ok {P : Program} {k : FuncId} {h : List Value → Option (List Prop × Value)} {S : Tab} (hS : TabOk P S) (hg : isGo P k = true) (hh : ∀ xs p v, h xs = some (p, v) → (∀ q ∈ p, q) → ∀ w, Calls P k xs.toArray w fun e w' => e = .returned v ∧ Below w.heap.size w w') : TabOk P (addS k h S) := by
  intro f xs t hf
  unfold addS at hf
  cases hb : Nat.beq f k
  · rw [hb] at hf; exact hS f xs t hf
  · rw [hb, cond_true] at hf
    obtain rfl : f = k := Nat.eq_of_beq_eq_true hb
    unfold cTree at hf
    split at hf
    · rename_i p v hp
      simp only [Option.some.injEq] at hf
      subst hf
      refine ⟨hg, fun v' hv => ?_⟩
      obtain ⟨h1, h2⟩ := needs_ok hv
      have h2 : v = v' := h2
      subst h2
      exact hh xs p v hp h1
    · cases hf
end
end Go.Proofs.Ytodfcalaggfldaa.Sym
namespace Go.Proofs.Ytodfcalaggfldaa.Sym
set_option linter.unusedVariables false
set_option linter.unusedSimpArgs false
open Go.RowKit

/-- a loop by something that goes down -/
theorem wp_loop_idx {P : Program} {Q : Exit → Act → World → Prop} {c : Code} {ι : Type} (I : ι → Act → World → Prop) (μ : ι → Nat)
    (round : ∀ i a w, I i a w → c.wp P (Exit.then (fun a' w' => ∃ j, μ j < μ i ∧ I j a' w') Q) a w) : ∀ i a w, I i a w → (Code.loop c).wp P Q a w := by
  intro i a w h₀ b k cs
  have key : ∀ n i a w, μ i = n → I i a w →
      ∃ e a' w', Q e a' w' ∧ Arrives P (lone (b.at a (.code c :: .inLoop c :: k)) cs w) b k cs e a' w' := by
    intro n
    induction n using Nat.strongRecOn with
    | _ n ih =>
      intro i a w hn hI
      obtain ⟨e, a₁, w₁, hq, harr⟩ := round i a w hI b (.inLoop c :: k) cs
      cases e with
      | normal =>
        obtain ⟨j, hlt, hI₁⟩ := hq
        obtain ⟨e₂, a₂, w₂, hq₂, harr₂⟩ := ih (μ j) (hn ▸ hlt) j a₁ w₁ rfl hI₁
        exact ⟨e₂, a₂, w₂, hq₂, .of_steps (Steps.trans harr (.one step_inLoop)) harr₂⟩
      | exit id => exact ⟨_, a₁, w₁, hq, .pass (x := .inLoop c) rfl (fun _ _ => .inl (by simp)) harr⟩
      | goto l => exact ⟨_, a₁, w₁, hq, .pass (x := .inLoop c) rfl (fun _ _ => .inl (by simp)) harr⟩
      | ret => exact ⟨_, a₁, w₁, hq, .pass (x := .inLoop c) rfl (fun _ _ => .inl (by simp)) harr⟩
      | panic ch => exact ⟨_, a₁, w₁, hq, .pass (x := .inLoop c) rfl (fun _ _ => .inl (by simp)) harr⟩
      | outgrown => exact ⟨_, a₁, w₁, hq, .pass (x := .inLoop c) rfl (fun _ _ => .inl (by simp)) harr⟩
  obtain ⟨e, a', w', hq, harr⟩ := key _ i a w rfl h₀
  exact ⟨e, a', w', hq, .of_steps (.one step_loop) harr⟩

/-! ### What is kept of a state -/
mutual
/-- only the first n letters occur -/
def SV.under (n : Nat) : SV → Bool
  | .v _ | .c _ | .tt | .ff => true
  | .ptr k _ | .ref k | .elt k _ _ _ => Nat.blt k n
  | .agg l | .tup l => SV.unders n l
  | .clo _ a b => SV.unders n a && SV.unders n b
  | .ifc _ s => SV.under n s
def SV.unders (n : Nat) : List SV → Bool
  | [] => true
  | s :: l => SV.under n s && SV.unders n l
end
theorem getElem?_of_prefix {B B2 : List Value} (h : B <+: B2) {k : Nat} (hk : k < B.length) : B[k]? = B2[k]? := by
  obtain ⟨t, rfl⟩ := h
  rw [List.getElem?_append_left hk]
mutual
theorem SV.under_to {B B2 : List Value} (h : B <+: B2) : ∀ {s : SV}, s.under B.length = true → s.to B = s.to B2
  | .v _, _ => rfl
  | .c _, _ => rfl
  | .tt, _ => rfl
  | .ff, _ => rfl
  | .ptr k off, e => by
    have hk : k < B.length := by simpa [SV.under, Nat.blt_eq] using e
    simp only [SV.to, getElem?_of_prefix h hk]
  | .ref k, e => by
    have hk : k < B.length := by simpa [SV.under, Nat.blt_eq] using e
    simp only [SV.to, getElem?_of_prefix h hk]
  | .elt k _ _ _, e => by
    have hk : k < B.length := by simpa [SV.under, Nat.blt_eq] using e
    simp only [SV.to, getElem?_of_prefix h hk]
  | .agg l, e => by simp only [SV.to, SV.unders_tos h (l := l) e]
  | .tup l, e => by simp only [SV.to, SV.unders_tos h (l := l) e]
  | .clo fn a b, e => by
    simp only [SV.under, Bool.and_eq_true] at e
    simp only [SV.to, SV.unders_tos h (l := a) e.1, SV.unders_tos h (l := b) e.2]
  | .ifc t s, e => by simp only [SV.to, SV.under_to h (s := s) e]
theorem SV.unders_tos {B B2 : List Value} (h : B <+: B2) : ∀ {l : List SV}, SV.unders B.length l = true → SV.tos B l = SV.tos B2 l
  | [], _ => rfl
  | s :: l, e => by
    simp only [SV.unders, Bool.and_eq_true] at e
    simp only [SV.tos, SV.under_to h e.1, SV.unders_tos h e.2]
end
def cutS (n : Nat) : Option SV → Option SV
  | some s => bif s.under n then some s else none
  | none => none
def cutBlk (n : Nat) : Blk → Blk
  | .own cells => bif SV.unders n cells then .own cells else .gone
  | .lst e sz m cells => bif SV.unders n cells then .lst e sz m cells else .gone
  | b => b
def St.only (keep : List Nat) (n : Nat) (st : St) : St := ⟨keep.map fun t => (t, cutS n (look st.fr t)), (st.H.take n).map (cutBlk n)⟩
theorem look_only {keep : List Nat} {g : Nat → Option SV} {t : Nat} {s : SV} (h : look (keep.map fun t => (t, g t)) t = some s) : g t = some s := by
  induction keep with
  | nil => simp [look] at h
  | cons u l ih =>
    simp only [List.map_cons, look] at h
    cases hb : Nat.beq u t
    · rw [hb, cond_false] at h; exact ih h
    · rw [hb, cond_true] at h
      obtain rfl := Nat.eq_of_beq_eq_true hb
      exact h
theorem only_slots {N : Nat} {st : St} {B B2 : List Value} {a : Act} (h : Slots N st.fr B2 a) (hp : B <+: B2) (keep : List Nat) : Slots N (st.only keep B.length).fr B a := by
  refine ⟨h.size, h.defers, fun t s e => ?_⟩
  have e := look_only e
  unfold cutS at e
  split at e
  · rename_i s' hs
    cases hb : s'.under B.length
    · rw [hb] at e; cases e
    · rw [hb, cond_true, Option.some.injEq] at e
      subst e
      rw [SV.under_to hp hb]
      exact h.slot t s' hs
  · cases e
theorem only_get {H : List Blk} {n k : Nat} {x : Blk} (h : ((H.take n).map (cutBlk n))[k]? = some x) : k < n ∧ ∃ y, H[k]? = some y ∧ x = cutBlk n y := by
  rw [List.getElem?_map, List.getElem?_take] at h
  split at h
  · rename_i hk
    cases hy : H[k]? with
    | none => rw [hy] at h; cases h
    | some y =>
      rw [hy] at h
      simp only [Option.map_some, Option.some.injEq] at h
      exact ⟨hk, y, rfl, h.symm⟩
  · cases h
theorem cutBlk_excl {n : Nat} {y : Blk} (h : (cutBlk n y).excl = true) : y.excl = true := by
  cases y <;> first | exact h | rfl
theorem cutBlk_row {n : Nat} {y : Blk} {m sz : Nat} {f : Nat → Nat → Value} (h : cutBlk n y = .row m sz f) : y = .row m sz f := by
  cases y with
  | own cells =>
    simp only [cutBlk] at h
    cases hb : SV.unders n cells <;> rw [hb] at h <;> cases h
  | lst e sz m cells =>
    simp only [cutBlk] at h
    cases hb : SV.unders n cells <;> rw [hb] at h <;> cases h
  | _ => exact h
theorem only_mem {w0 : World} {bs : List Nat} {H : List Blk} {B B2 : List Value} {w : World} (h : Mem w0 bs H B2 w) (hp : B <+: B2) : Mem w0 bs ((H.take B.length).map (cutBlk B.length)) B w := by
  have hle : B.length ≤ B2.length := hp.length_le
  have hb : ∀ {k : Nat}, k < B.length → B[k]? = B2[k]? := fun hk => getElem?_of_prefix hp hk
  have ex : ∀ k b, ExBlk ((H.take B.length).map (cutBlk B.length)) B k b → ExBlk H B2 k b := by
    rintro k b ⟨x, u, h1, h2, h3, h4⟩
    obtain ⟨hk, y, hy, rfl⟩ := only_get h1
    exact ⟨y, u, hy, cutBlk_excl h2, by rw [← hb hk]; exact h3, h4⟩
  have rd : ∀ k b, RdBlk ((H.take B.length).map (cutBlk B.length)) B k b → RdBlk H B2 k b := by
    rintro k b ⟨m, sz, f, u, h1, h2, h3, h4, h5⟩
    obtain ⟨hk, y, hy, e⟩ := only_get h1
    exact ⟨m, sz, f, u, by rw [hy, cutBlk_row e.symm], h2, h3, by rw [← hb hk]; exact h4, h5⟩
  refine ⟨⟨?_, fun k x u hk hu => ?_, fun k j b h1 h2 => h.sat.sep k j b (ex _ _ h1) (ex _ _ h2), fun k j b h1 h2 => h.sat.far k j b (ex _ _ h1) (rd _ _ h2)⟩, h.keeps, fun k b h1 => h.good k b (ex _ _ h1)⟩
  · simp [← h.sat.len]; omega
  · obtain ⟨hkn, y, hy, rfl⟩ := only_get hk
    have hs := h.sat.blk k y u hy (by rw [← hb hkn]; exact hu)
    cases y with
    | own cells =>
      simp only [cutBlk]
      cases hbl : SV.unders B.length cells
      · exact trivial
      · rw [cond_true]
        obtain ⟨b, vs, h1, h2, h3⟩ := hs
        exact ⟨b, vs, h1, by rw [SV.unders_tos hp hbl]; exact h2, h3⟩
    | lst e sz m cells =>
      simp only [cutBlk]
      cases hbl : SV.unders B.length cells
      · exact trivial
      · rw [cond_true]
        obtain ⟨xs, h1, h2⟩ := hs
        exact ⟨xs, by rw [SV.unders_tos hp hbl]; exact h1, h2⟩
    | _ => exact hs

/-! ### Loops -/
section
variable {P : Program} {C : Cfg} {N : Nat}
/-- a round: what is kept behind it -/
def roundT (P : Program) (C : Cfg) (Lb : Nat → St → Option (T (Ex × St))) (N : Nat) (id : Nat) (body : Code) (keep : List Nat) (st : St) : T (Ex × St) :=
  (runC P C Lb N body st).bind fun r => match r.1 with
    | .normal => .leaf (.normal, r.2.only keep st.H.length)
    | .exit k => bif Nat.beq k id then .leaf (.exit id, r.2.only keep st.H.length) else .leaf r
    | .ret => .leaf r
/-- what is to hold behind a round -/
def Behind {ι : Type} (id : Nat) (I : ι → Prop) (inv : ι → St) (μ : ι → Nat) (i : ι) (Qs : Ex × St → Prop) (r : Ex × St) : Prop :=
  match r.1 with
  | .normal => ∃ j, I j ∧ μ j < μ i ∧ r.2 = inv j
  | .exit k => if k = id then Qs (.normal, r.2) else Qs r
  | .ret => Qs r
theorem nat_beq_ne {a b : Nat} (h : a ≠ b) : Nat.beq a b = false := by
  cases hb : Nat.beq a b
  · rfl
  · exact absurd (Nat.eq_of_beq_eq_true hb) h
theorem loop_core (hC : CfgOk P C) (hP : P.follows .mixedOrders = true) {Lb : Nat → St → Option (T (Ex × St))} {id : Nat} {body : Code} (hlex : lexAll C body = true)
    (hL : ∀ id' b, (id', b) ∈ loopsOf body → ∀ st t, Lb id' st = some t → RunOk P N (.block id' (.loop b)) st t) {ι : Type} (I : ι → Prop) (inv : ι → St) (μ : ι → Nat) (keep : List Nat) {t : T (Ex × St)}
    (hround : ∀ Qs, t.ok Qs → ∀ i, I i → (roundT P C Lb N id body keep (inv i)).ok (Behind id I inv μ i Qs)) {i0 : ι} (h0 : I i0) {w0 : World} {bs : List Nat} {pre B : List Value} {a : Act} {w : World} {Qs : Ex × St → Prop} {Q : Exit → Act → World → Prop} (hp : pre <+: B) (hsl0 : Slots N (inv i0).fr B a) (hm0 : Mem w0 bs (inv i0).H B w) (hq : t.ok Qs)
    (hQ : ∀ (r : Ex × St) B' a' w', Qs r → pre <+: B' → Slots N r.2.fr B' a' → Mem w0 bs r.2.H B' w' → Q r.1.to a' w') : (Code.block id (.loop body)).wp P Q a w := by
  refine wp_block ?_
  refine wp_loop_idx (ι := ι) (fun i a w => I i ∧ Slots N (inv i).fr B a ∧ Mem w0 bs (inv i).H B w) μ (fun i a w hi => ?_) i0 a w ⟨h0, hsl0, hm0⟩
  obtain ⟨hI, hs, hmi⟩ := hi
  have hBl : B.length = (inv i).H.length := hmi.sat.len
  refine runC_ok hC hP body hlex hL (inv i) w0 bs B B a w _ _ (List.prefix_refl _) hs hmi (T.ok_bind (hround Qs hq i hI)) fun r B' a' w' hr hpre hs' hm' => ?_
  obtain ⟨e, st'⟩ := r
  have hon := only_slots hs' hpre keep
  have hom := only_mem hm' hpre
  rw [hBl] at hon hom
  cases e with
  | normal =>
    obtain ⟨j, hj, hlt, e⟩ := hr
    exact ⟨j, hlt, hj, by rw [← e]; exact hon, by rw [← e]; exact hom⟩
  | ret => exact hQ _ B' a' w' hr (hp.trans hpre) hs' hm'
  | exit k =>
    simp only [Ex.to, Exit.then, Exit.inBlock]
    by_cases e : k = id
    · subst e
      simp only [Nat.beq_refl, cond_true] at hr
      have hr : (if k = k then Qs (.normal, st'.only keep (inv i).H.length) else Qs (.exit k, st'.only keep (inv i).H.length)) := hr
      rw [if_pos rfl] at hr ⊢
      exact hQ _ B a' w' hr hp hon hom
    · simp only [nat_beq_ne e, cond_false] at hr
      have hr : (if k = id then Qs (.normal, st') else Qs (.exit k, st')) := hr
      rw [if_neg e] at hr ⊢
      exact hQ _ B' a' w' hr (hp.trans hpre) hs' hm'
theorem loop_ok (hC : CfgOk P C) (hP : P.follows .mixedOrders = true) {Lb : Nat → St → Option (T (Ex × St))} {id : Nat} {body : Code} (hlex : lexAll C body = true)
    (hL : ∀ id' b, (id', b) ∈ loopsOf body → ∀ st t, Lb id' st = some t → RunOk P N (.block id' (.loop b)) st t) {ι : Type} (I : ι → Prop) (inv : ι → St) (μ : ι → Nat) (keep : List Nat) {n : Nat} (hn : ∀ i, (inv i).H.length = n) {t : T (Ex × St)}
    (hround : ∀ Qs, t.ok Qs → ∀ i, I i → (roundT P C Lb N id body keep (inv i)).ok (Behind id I inv μ i Qs)) {st : St} {i0 : ι} (h0 : I i0) :
    RunOk P N (.block id (.loop body)) st (.need (st.only keep st.H.length = inv i0) t) := by
  intro w0 bs pre B a w Qs Q hp hsl hm hq hQ
  obtain ⟨hst, hq⟩ := hq
  have hlen : B.length = st.H.length := hm.sat.len
  have hsl0 := only_slots hsl (List.prefix_refl B) keep
  have hm0 := only_mem hm (List.prefix_refl B)
  rw [hlen, hst] at hsl0
  have hm0 : Mem w0 bs (inv i0).H B w := by
    have e : (inv i0).H = (st.H.take B.length).map (cutBlk B.length) := by rw [← hst, hlen]; rfl
    rw [e]; exact hm0
  exact loop_core hC hP hlex hL I inv μ keep hround h0 hp hsl0 hm0 hq hQ
/-- what is kept at a loop's beginning, some letters as arrays of numbers -/
def St.soft (ks keep : List Nat) (st : St) : St := ⟨(st.only keep st.H.length).fr, ks.foldl softAt (st.only keep st.H.length).H⟩
/-- as loop_ok; at the beginning some letters become arrays of numbers -/
theorem loop_ok2 (hC : CfgOk P C) (hP : P.follows .mixedOrders = true) {Lb : Nat → St → Option (T (Ex × St))} {id : Nat} {body : Code} (hlex : lexAll C body = true)
    (hL : ∀ id' b, (id', b) ∈ loopsOf body → ∀ st t, Lb id' st = some t → RunOk P N (.block id' (.loop b)) st t) {ι : Type} (I : ι → Prop) (inv : ι → St) (μ : ι → Nat) (keep : List Nat) (ks : List Nat) {t : T (Ex × St)}
    (hround : ∀ Qs, t.ok Qs → ∀ i, I i → (roundT P C Lb N id body keep (inv i)).ok (Behind id I inv μ i Qs)) {st : St} {i0 : ι} (h0 : I i0) :
    RunOk P N (.block id (.loop body)) st (.need (st.soft ks keep = inv i0) t) := by
  intro w0 bs pre B a w Qs Q hp hsl hm hq hQ
  obtain ⟨hst, hq⟩ := hq
  have hlen : B.length = st.H.length := hm.sat.len
  have hsl0 := only_slots hsl (List.prefix_refl B) keep
  have hm0 := softs_mem ks (only_mem hm (List.prefix_refl B))
  rw [hlen] at hsl0
  have e1 : (st.only keep st.H.length).fr = (inv i0).fr := by rw [← hst]; rfl
  rw [e1] at hsl0
  have hm0 : Mem w0 bs (inv i0).H B w := by
    have e : (inv i0).H = ks.foldl softAt ((st.H.take B.length).map (cutBlk B.length)) := by rw [← hst, hlen]; rfl
    rw [e]; exact hm0
  exact loop_core hC hP hlex hL I inv μ keep hround h0 hp hsl0 hm0 hq hQ
/-- a loop whose rounds are few, and known -/
def unrollB (run : St → T (Ex × St)) (id : Nat) : Nat → St → T (Ex × St)
  | 0, _ => .stuck 38
  | n + 1, st => (run st).bind fun r => match r.1 with
    | .normal => unrollB run id n r.2
    | .exit k => bif Nat.beq k id then .leaf (.normal, r.2) else .leaf r
    | .ret => .leaf r
theorem unroll_ok (hC : CfgOk P C) (hP : P.follows .mixedOrders = true) {Lb : Nat → St → Option (T (Ex × St))} {id : Nat} {body : Code} (hlex : lexAll C body = true)
    (hL : ∀ id' b, (id', b) ∈ loopsOf body → ∀ st t, Lb id' st = some t → RunOk P N (.block id' (.loop b)) st t) (n : Nat) (st : St) : RunOk P N (.block id (.loop body)) st (unrollB (runC P C Lb N body) id n st) := by
  intro w0 bs pre B a w Qs Q hp hsl hm hq hQ
  refine wp_block ?_
  refine wp_loop_idx (ι := Nat) (fun m a w => ∃ st B, (unrollB (runC P C Lb N body) id m st).ok Qs ∧ pre <+: B ∧ Slots N st.fr B a ∧ Mem w0 bs st.H B w) (fun m => m) (fun m a w hi => ?_) n a w ⟨st, B, hq, hp, hsl, hm⟩
  obtain ⟨st, B, hq, hp, hsl, hm⟩ := hi
  cases m with
  | zero => exact hq.elim
  | succ m =>
    refine runC_ok hC hP body hlex hL st w0 bs pre B a w _ _ hp hsl hm (T.ok_bind hq) fun r B' a' w' hr hpre hs' hm' => ?_
    obtain ⟨e, st'⟩ := r
    cases e with
    | normal => exact ⟨m, Nat.lt_succ_self _, st', B', hr, hpre, hs', hm'⟩
    | ret => exact hQ _ B' a' w' hr hpre hs' hm'
    | exit k =>
      simp only [Ex.to, Exit.then, Exit.inBlock]
      by_cases e : k = id
      · subst e
        simp only [Nat.beq_refl, cond_true] at hr
        rw [if_pos rfl]
        exact hQ _ B' a' w' hr hpre hs' hm'
      · simp only [nat_beq_ne e, cond_false] at hr
        rw [if_neg e]
        exact hQ _ B' a' w' hr hpre hs' hm'
theorem one_loop {c b : Code} {id : Nat} {L : Nat → St → Option (T (Ex × St))} (h : loopsOf c = [(id, b)]) (hb : ∀ st t, L id st = some t → RunOk P N (.block id (.loop b)) st t) :
    ∀ id' b', (id', b') ∈ loopsOf c → ∀ st t, L id' st = some t → RunOk P N (.block id' (.loop b')) st t := by
  intro id' b' hm
  rw [h, List.mem_singleton, Prod.mk.injEq] at hm
  obtain ⟨rfl, rfl⟩ := hm
  exact hb
theorem two_loops {c b1 b2 : Code} {id1 id2 : Nat} {L : Nat → St → Option (T (Ex × St))} (h : loopsOf c = [(id1, b1), (id2, b2)]) (hb1 : ∀ st t, L id1 st = some t → RunOk P N (.block id1 (.loop b1)) st t) (hb2 : ∀ st t, L id2 st = some t → RunOk P N (.block id2 (.loop b2)) st t) :
    ∀ id' b', (id', b') ∈ loopsOf c → ∀ st t, L id' st = some t → RunOk P N (.block id' (.loop b')) st t := by
  intro id' b' hm
  rw [h] at hm
  simp only [List.mem_cons, Prod.mk.injEq, List.not_mem_nil, or_false] at hm
  rcases hm with ⟨rfl, rfl⟩ | ⟨rfl, rfl⟩
  · exact hb1
  · exact hb2
def loopAt (fn : Func) (k : Nat) : Code := ((loopsOf (fn.body.getD .skip)).getD k (0, .skip)).2
def addL (id : Nat) (f : St → T (Ex × St)) (L : Nat → St → Option (T (Ex × St))) : Nat → St → Option (T (Ex × St)) := fun i st => bif Nat.beq i id then some (f st) else L i st
theorem addL_same {id : Nat} {f : St → T (Ex × St)} {L : Nat → St → Option (T (Ex × St))} {st : St} {t : T (Ex × St)} (h : addL id f L id st = some t) : t = f st := by
  unfold addL at h
  rw [Nat.beq_refl, cond_true, Option.some.injEq] at h
  exact h.symm
theorem addL_other {id i : Nat} {f : St → T (Ex × St)} {L : Nat → St → Option (T (Ex × St))} {st : St} {t : T (Ex × St)} (hne : i ≠ id) (h : addL id f L i st = some t) : L i st = some t := by
  unfold addL at h
  rw [nat_beq_ne hne, cond_false] at h
  exact h
end
end Go.Proofs.Ytodfcalaggfldaa.Sym
