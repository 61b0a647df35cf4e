/- Parts of a proof: SymC, SymD, SymG, Can, SymK, PlOct. No conditions. -/
import Derived.Test.YtbippdeahoehoaaGreatQ1
import Derived.Defers
import Derived.PlainAid
set_option linter.unusedVariables false
set_option linter.unusedSimpArgs false
namespace Go.Proofs.YtbippdeahoehoaaGreat.Sym
open Go.RowKit
section
variable {P : Program} {S : Tab} {G : GTab} {N : Nat} {w0 : World} {bs : List Nat}
def wantedS (ops : Array Oper) (st : St) (o : Oper) : Option Bool :=
  match o.guard with
  | none => some true
  | some (j, want) => match (ops[j]?).bind (·.dst) with
    | some d => (match look st.fr d with
      | some .tt => some want
      | some .ff => some (!want)
      | some (.v (.tuple _)) => some false
      | _ => none)
    | none => some false
theorem wantedS_ok {D : List Deferred} {ops : Array Oper} {st : St} {B : List Value} {a : Act} (h : SlotsD D N st.fr B a) {o : Oper} {b : Bool} (hw : wantedS ops st o = some b) : Region.wanted o (yielded ops a.tmps) = b := by
  unfold wantedS at hw
  unfold Region.wanted
  split at hw
  · rename_i hg; rw [hg]; simpa using hw
  · rename_i j want hg
    rw [hg]
    unfold yielded
    split at hw
    · rename_i d hd
      simp only [hd, Option.bind_some]
      split at hw
      · rename_i hx
        have := h.slot d _ hx
        simp only [SV.to, Option.some.injEq] at this
        rw [Array.getD_eq_getD_getElem?] at this
        cases ht : a.tmps[d]? with
        | none => rw [ht] at this; simp [undef] at this
        | some y =>
          rw [ht] at this
          simp only [Option.getD_some] at this
          subst this
          simp only [Option.some.injEq] at hw ⊢
          rw [← hw]
          cases want <;> rfl
      · rename_i hx
        have := h.slot d _ hx
        simp only [SV.to, Option.some.injEq] at this
        rw [Array.getD_eq_getD_getElem?] at this
        cases ht : a.tmps[d]? with
        | none => rw [ht] at this; simp [undef] at this
        | some y =>
          rw [ht] at this
          simp only [Option.getD_some] at this
          subst this
          simp only [Option.some.injEq] at hw ⊢
          rw [← hw]
          cases want <;> rfl
      · rename_i x hx
        have := h.slot d _ hx
        simp only [SV.to, Option.some.injEq] at this
        rw [Array.getD_eq_getD_getElem?] at this
        simp only [Option.some.injEq] at hw
        subst hw
        cases ht : a.tmps[d]? with
        | none => rfl
        | some y =>
          rw [ht] at this
          simp only [Option.getD_some] at this
          subst this
          rfl
      · cases hw
    · rename_i hd
      simp only [hd]
      simp only [Option.some.injEq] at hw
      subst hw
      rfl
def isGuard (ops : Array Oper) (i : Nat) : Bool := ops.toList.any fun o => match o.guard with | some (j, _) => Nat.beq j i | none => false
def St.mk2 (st : St) (dst : Option Tmp) (s : SV) (e : Eff) : St := (St.mk st.fr (e.run st.H)).put dst s
def putR (N : Nat) (isG : Bool) (dst : Option Tmp) (st : St) (p : SV × Eff) : T St :=
  bif dstOk N dst then
    (match isG, p.1 with
    | true, .v (.bool b) => .ite b (.leaf (st.mk2 dst .tt p.2)) (.leaf (st.mk2 dst .ff p.2))
    | _, s => .leaf (st.mk2 dst s p.2))
  else .stuck 30
theorem putR_ok {D : List Deferred} {isG : Bool} {dst : Option Tmp} {st : St} {e : Eff} {s : SV} {B : List Value} {a : Act} (h : SlotsD D N st.fr B a) {x : Value} (hs : s.to B = some x) {Qs : St → Prop} (hq : (putR N isG dst st (s, e)).ok Qs) :
    ∃ st', Qs st' ∧ SlotsD D N st'.fr B (a.put dst x) ∧ st'.H = e.run st.H := by
  unfold putR at hq
  cases hd : dstOk N dst
  · rw [hd] at hq; exact hq.elim
  · rw [hd, cond_true] at hq
    have hp : ∀ (s' : SV), s'.to B = some x → SlotsD D N (st.mk2 dst s' e).fr B (a.put dst x) ∧ (st.mk2 dst s' e).H = e.run st.H := fun s' hs' => ⟨SlotsD.put (st := St.mk st.fr (e.run st.H)) h hd hs', by cases dst <;> rfl⟩
    split at hq
    · rename_i b heq
      simp only at heq
      subst heq
      simp only [SV.to, Option.some.injEq] at hs
      cases b
      · exact ⟨_, hq.2 rfl, hp _ (by simpa [SV.to] using hs)⟩
      · exact ⟨_, hq.1 rfl, hp _ (by simpa [SV.to] using hs)⟩
    · exact ⟨_, hq, hp _ hs⟩
theorem T.ok_point {α : Type} {Q : α → Prop} : ∀ {t : T α}, t.ok Q → ∃ a, Q a ∧ ∀ Q' : α → Prop, Q' a → t.ok Q'
  | .leaf a, h => ⟨a, h, fun _ h => h⟩
  | .ite true t _, h => let ⟨a, h1, h2⟩ := T.ok_point (t := t) (h.1 rfl); ⟨a, h1, fun Q' hq => ⟨fun _ => h2 Q' hq, (fun e => by cases e)⟩⟩
  | .ite false _ e, h => let ⟨a, h1, h2⟩ := T.ok_point (t := e) (h.2 rfl); ⟨a, h1, fun Q' hq => ⟨(fun e => by cases e), fun _ => h2 Q' hq⟩⟩
  | .need p t, h => let ⟨a, h1, h2⟩ := T.ok_point (t := t) h.2; ⟨a, h1, fun Q' hq => ⟨h.1, h2 Q' hq⟩⟩
  | @T.chk _ p d t, h => let ⟨a, h1, h2⟩ := T.ok_point (t := t) h.2; ⟨a, h1, fun Q' hq => ⟨h.1, h2 Q' hq⟩⟩
  | .stuck _, h => h.elim
theorem T.ok_both {α : Type} {Q Q2 : α → Prop} : ∀ {t : T α}, t.ok Q → t.ok Q2 → t.ok fun a => Q a ∧ Q2 a
  | .leaf _, h, h2 => ⟨h, h2⟩
  | .ite _ t e, h, h2 => ⟨fun hb => T.ok_both (t := t) (h.1 hb) (h2.1 hb), fun hb => T.ok_both (t := e) (h.2 hb) (h2.2 hb)⟩
  | .need _ t, h, h2 => ⟨h.1, T.ok_both (t := t) h.2 h2.2⟩
  | @T.chk _ _ d t, h, h2 => ⟨h.1, T.ok_both (t := t) h.2 h2.2⟩
  | .stuck _, h, _ => h
theorem T.bind_ok {α β : Type} {Q : β → Prop} {f : α → T β} : ∀ {t : T α}, (t.ok fun a => (f a).ok Q) → (t.bind f).ok Q
  | .leaf _, h => h
  | .ite _ t e, h => ⟨fun hb => T.bind_ok (t := t) (h.1 hb), fun hb => T.bind_ok (t := e) (h.2 hb)⟩
  | .need _ t, h => ⟨h.1, T.bind_ok (t := t) h.2⟩
  | @T.chk _ _ d t, h => ⟨h.1, T.bind_ok (t := t) h.2⟩
  | .stuck _, h => h
theorem putR_point {isG : Bool} {dst : Option Tmp} {st : St} {p : SV × Eff} {Qs : St → Prop} (hq : (putR N isG dst st p).ok Qs) : ∃ s, Qs (st.mk2 dst s p.2) ∧ ∀ (st' : St) (Q' : St → Prop), Q' (st'.mk2 dst s p.2) → (putR N isG dst st' p).ok Q' := by
  unfold putR at hq ⊢
  cases hd : dstOk N dst
  · rw [hd] at hq; exact hq.elim
  · simp only [hd, cond_true] at hq ⊢
    split at hq
    · rename_i b heq
      cases b
      · refine ⟨.ff, hq.2 rfl, fun st' Q' h => ?_⟩
        first | exact ⟨(fun e => by cases e), fun _ => h⟩ | (simp only [heq]; exact ⟨(fun e => by cases e), fun _ => h⟩)
      · refine ⟨.tt, hq.1 rfl, fun st' Q' h => ?_⟩
        first | exact ⟨fun _ => h, (fun e => by cases e)⟩ | (simp only [heq]; exact ⟨fun _ => h, (fun e => by cases e)⟩)
    · rename_i hne
      refine ⟨p.1, hq, fun st' Q' h => ?_⟩
      first | exact h | (split; (rename_i b heq; exact absurd heq (hne b rfl)); exact h)
def depB (md : Region.Mode) (ops : Array Oper) (i : Nat) : Nat → Nat → Bool
  | 0, _ => false
  | n + 1, j => match ops[j]? with
    | some o => o.after.any fun e => Region.binds md e && (Nat.beq e.on i || depB md ops i n e.on)
    | none => false
def upL (md : Region.Mode) (A : List Nat) : List Edge → Nat → Nat
  | [], s => s
  | e :: l, s => upL md A l (bif Region.binds md e && Nat.blt e.on A.length then s ||| (2 ^ e.on ||| A.getD e.on 0) else s)
def ups (md : Region.Mode) : List Oper → List Nat → List Nat
  | [], A => A
  | o :: l, A => ups md l (A ++ [upL md A o.after.toList 0])
theorem upL_bit {md : Region.Mode} {A : List Nat} {i : Nat} : ∀ (l : List Edge) (s : Nat), (upL md A l s).testBit i = true → s.testBit i = true ∨ ∃ e ∈ l, Region.binds md e = true ∧ e.on < A.length ∧ (e.on = i ∨ (A.getD e.on 0).testBit i = true)
  | [], s, h => .inl h
  | e :: l, s, h => by
    simp only [upL] at h
    rcases upL_bit l _ h with h | ⟨e', h1, h2⟩
    · cases hb : Region.binds md e && Nat.blt e.on A.length
      · rw [hb, cond_false] at h; exact .inl h
      · rw [hb, cond_true, Nat.testBit_or, Nat.testBit_or, Bool.or_eq_true, Bool.or_eq_true] at h
        rw [Bool.and_eq_true, Nat.blt_eq] at hb
        rcases h with h | h | h
        · exact .inl h
        · refine .inr ⟨e, List.mem_cons_self .., hb.1, hb.2, .inl ?_⟩
          rw [Nat.testBit_two_pow] at h
          exact of_decide_eq_true h
        · exact .inr ⟨e, List.mem_cons_self .., hb.1, hb.2, .inr h⟩
    · exact .inr ⟨e', List.mem_cons_of_mem _ h1, h2⟩
theorem depB_any {md : Region.Mode} {ops : Array Oper} {i n j : Nat} {o : Oper} (ho : ops[j]? = some o) : depB md ops i (n + 1) j = true ↔ ∃ e ∈ o.after.toList, Region.binds md e = true ∧ (e.on = i ∨ depB md ops i n e.on = true) := by
  simp only [depB, ho]
  rw [← Array.any_toList, List.any_eq_true]
  constructor
  · rintro ⟨e, h1, h2⟩
    rw [Bool.and_eq_true, Bool.or_eq_true, Nat.beq_eq] at h2
    exact ⟨e, h1, h2⟩
  · rintro ⟨e, h1, h2⟩
    exact ⟨e, h1, by rw [Bool.and_eq_true, Bool.or_eq_true, Nat.beq_eq]; exact h2⟩
theorem depB_mono {md : Region.Mode} {ops : Array Oper} {i : Nat} : ∀ {n j : Nat}, depB md ops i n j = true → depB md ops i (n + 1) j = true
  | 0, _, h => by simp [depB] at h
  | n + 1, j, h => by
    cases ho : ops[j]? with
    | none => simp only [depB, ho] at h; cases h
    | some o =>
      rw [depB_any ho] at h ⊢
      obtain ⟨e, h1, h2, h3⟩ := h
      exact ⟨e, h1, h2, h3.imp id depB_mono⟩
def UpOk (md : Region.Mode) (ops : Array Oper) (A : List Nat) : Prop := ∀ j, j < A.length → ∀ i, (A.getD j 0).testBit i = true → depB md ops i A.length j = true
theorem ups_ok {md : Region.Mode} {ops : Array Oper} : ∀ (l : List Oper) (A : List Nat), (∀ t, l[t]? = ops[A.length + t]?) → UpOk md ops A → UpOk md ops (ups md l A) ∧ (ups md l A).length = A.length + l.length
  | [], A, _, h => ⟨h, rfl⟩
  | o :: l, A, hl, h => by
    have hlen : (A ++ [upL md A o.after.toList 0]).length = A.length + 1 := by simp
    have ho : ops[A.length]? = some o := by simpa using (hl 0).symm
    have := ups_ok (md := md) (ops := ops) l (A ++ [upL md A o.after.toList 0]) (fun t => by
      have := hl (t + 1)
      rw [hlen, show A.length + 1 + t = A.length + (t + 1) by omega, ← this]; simp) (fun j hj i hi => by
      rw [hlen] at hj ⊢
      by_cases e : j < A.length
      · rw [List.getD_eq_getElem?_getD, List.getElem?_append_left e, ← List.getD_eq_getElem?_getD] at hi
        exact depB_mono (h j e i hi)
      · obtain rfl : j = A.length := by omega
        have hg : (A ++ [upL md A o.after.toList 0]).getD A.length 0 = upL md A o.after.toList 0 := by simp
        rw [hg] at hi
        rw [depB_any ho]
        rcases upL_bit _ _ hi with h0 | ⟨e, h1, h2, h3, h4⟩
        · simp at h0
        · exact ⟨e, h1, h2, h4.imp id (h e.on h3 i)⟩)
    obtain ⟨h1, h2⟩ := this
    refine ⟨h1, ?_⟩
    show (ups md l _).length = _
    rw [h2, hlen, List.length_cons]; omega
def maskDep (md : Region.Mode) (ops : Array Oper) (i j : Nat) : Bool := ((ups md ops.toList []).getD j 0).testBit i
theorem maskDep_ok {md : Region.Mode} {ops : Array Oper} {i j : Nat} (h : maskDep md ops i j = true) : depB md ops i ops.size j = true := by
  obtain ⟨h1, h2⟩ := ups_ok (md := md) (ops := ops) ops.toList [] (fun t => by simp) (fun j hj => by simp at hj)
  have hsz : (ups md ops.toList []).length = ops.size := by rw [h2]; simp
  unfold maskDep at h
  by_cases hj : j < (ups md ops.toList []).length
  · have := h1 j hj i h
    rw [hsz] at this
    exact this
  · rw [List.getD_eq_getElem?_getD, List.getElem?_eq_none (by omega)] at h
    simp at h
def Eff.touch (n : Nat) (e : Eff) : List Nat := e.muts.map (·.1) ++ (List.range e.news.length).map (n + ·)
def effAt (E : Oper → Bool) (ops : Array Oper) (j : Nat) : Bool := match ops[j]? with | some o => E o | none => false
def hiddenB (md : Region.Mode) (E : Oper → Bool) (ops : Array Oper) (V : Nat → Nat → Bool) (i n : Nat) (e : Eff) : Bool :=
  (e.touch n).all fun q => (List.range ops.size).all fun j => Nat.beq j i || !(V j q) || effAt E ops j || maskDep md ops i j || maskDep md ops j i
def hidden (md : Region.Mode) (E : Oper → Bool) (ops : Array Oper) (V : Nat → Nat → Bool) (i n : Nat) (p : SV × Eff) : T (SV × Eff) := bif hiddenB md E ops V i n p.2 then .leaf p else .stuck 120
def visAt (v : Nat → Bool) (H : List Blk) : Nat → Option Blk := fun k => bif v k then H[k]? else none
section
variable (P : Program) (S : Tab) (G : GTab) (N : Nat)
def runOps (ops : Array Oper) : List Oper → Nat → St → T St
  | [], _, st => .leaf st
  | o :: rest, i, st => match wantedS ops st o with
    | some true => ((evalE P S G (st.view o) o).bind (putR N (isGuard ops i) o.dst st)).bind (runOps ops rest (i + 1))
    | some false => bif dstOk N o.dst then runOps ops rest (i + 1) (st.put o.dst (.v undef)) else .stuck 31
    | none => .stuck 32
def rawA (md : Region.Mode) (E : Oper → Bool) (V : Nat → Nat → Bool) (ops : Array Oper) (i : Nat) (o : Oper) (st : St) : T (SV × Eff) :=
  match wantedS ops st o with
  | some true => bif E o then (evalE P S G (st.view o) o).bind (hidden md E ops V i st.H.length) else (evalQ P S (st.part (visAt (V i) st.H) o) o).bind fun s => .leaf (s, noEff)
  | some false => .leaf (.v undef, noEff)
  | none => .stuck 33
def stepA (md : Region.Mode) (E : Oper → Bool) (V : Nat → Nat → Bool) (ops : Array Oper) (i : Nat) (o : Oper) (st : St) : T St := (rawA P S G md E V ops i o st).bind (putR N (isGuard ops i) o.dst st)
def runOpsD (md : Region.Mode) (E : Oper → Bool) (V : Nat → Nat → Bool) (ops : Array Oper) : List Oper → Nat → St → T St
  | [], _, st => .leaf st
  | o :: rest, i, st => (stepA P S G N md E V ops i o st).bind (runOpsD md E V ops rest (i + 1))
def AG (md : Region.Mode) (E : Oper → Bool) (V : Nat → Nat → Bool) (ops : Array Oper) (QQ : St → Prop) : Nat → Array Bool → St → Prop
  | 0, listed, st => Region.ready md ops listed = [] ∧ QQ st
  | fuel + 1, listed, st => (Region.ready md ops listed = [] → QQ st) ∧ ∀ i ∈ Region.ready md ops listed, ∀ o, ops[i]? = some o → (stepA P S G N md E V ops i o st).ok (AG md E V ops QQ fuel (listed.setIfInBounds i true))
end
theorem runOps_ok (hS : TabOk P S) (hG : GOk P G) {ops : Array Oper} {Qs : St → Prop} {Q : Exit → Act → World → Prop} {pre : List Value} (hQ : ∀ st B a w, Qs st → pre <+: B → Slots N st.fr B a → Mem w0 bs st.H B w → Q .normal a w) :
    ∀ (l : List Oper) (i : Nat) (st : St) (B : List Value) (a : Act) (w : World), pre <+: B → Slots N st.fr B a → Mem w0 bs st.H B w → (runOps P S G N ops l i st).ok Qs → wpList P ops Q l a w
  | [], _, st, B, a, w, hp, h, hm, hq => hQ st B a w hq hp h hm
  | o :: l, i, st, B, a, w, hp, h, hm, hq => by
    simp only [runOps] at hq
    unfold wpList
    split at hq
    · rename_i hw
      rw [wantedS_ok h hw, if_pos rfl]
      refine .inl (evalE_ok hS hG (view_ok h o) rfl hm (T.ok_bind (T.ok_bind hq)) fun s ef B2 x w2 hq2 hpre hm2 hs => ?_)
      obtain ⟨st2, hq3, hsl, hH⟩ := putR_ok (h.mono hpre) hs hq2
      exact runOps_ok hS hG hQ l (i + 1) st2 B2 _ w2 (hp.trans hpre) hsl (by rw [hH]; exact hm2) hq3
    · rename_i hw
      rw [wantedS_ok h hw]
      cases hd : dstOk N o.dst
      · rw [hd] at hq; exact hq.elim
      · rw [hd, cond_true] at hq
        refine runOps_ok hS hG hQ l (i + 1) _ B _ w hp (h.put hd (s := .v undef) rfl) ?_ hq
        cases o.dst <;> exact hm
    · exact hq.elim
section
variable {md : Region.Mode} {E : Oper → Bool} {V : Nat → Nat → Bool} {ops : Array Oper} {QQ : St → Prop}
theorem visAt_ok (v : Nat → Bool) (H : List Blk) : ∀ k x, visAt v H k = some x → H[k]? = some x := by
  intro k x h
  unfold visAt at h
  cases hb : v k
  · rw [hb] at h; cases h
  · rw [hb] at h; exact h
theorem foldl_set_get (l : List (Nat × Blk)) : ∀ (H : List Blk) (k : Nat), (∀ p ∈ l, p.1 ≠ k) → (l.foldl (fun H p => H.set p.1 p.2) H)[k]? = H[k]? := by
  induction l with
  | nil => intro H k _; rfl
  | cons p l ih =>
    intro H k h
    simp only [List.foldl_cons]
    rw [ih _ _ (fun q hq => h q (List.mem_cons_of_mem _ hq)), List.getElem?_set_ne (h p (List.mem_cons_self ..))]
theorem foldl_set_length (l : List (Nat × Blk)) : ∀ (H : List Blk), (l.foldl (fun H p => H.set p.1 p.2) H).length = H.length := by
  induction l with
  | nil => intro H; rfl
  | cons p l ih => intro H; simp only [List.foldl_cons]; rw [ih]; simp
theorem eff_run_get (e : Eff) (H : List Blk) (k : Nat) (hk : k ∉ e.touch H.length) : (e.run H)[k]? = H[k]? := by
  simp only [Eff.touch, List.mem_append, List.mem_map, List.mem_range, not_or, not_exists, not_and] at hk
  obtain ⟨h1, h2⟩ := hk
  have g1 : (e.muts.foldl (fun H p => H.set p.1 p.2) H)[k]? = H[k]? := foldl_set_get _ _ _ (fun p hp => h1 p hp)
  unfold Eff.run
  split
  · exact g1
  · rename_i l hl
    rcases Nat.lt_or_ge k H.length with hlt | hge
    · rw [List.getElem?_append_left (by rw [foldl_set_length]; exact hlt), g1]
    · have hn : ¬ (k - H.length < e.news.length) := fun h => h2 (k - H.length) h (by omega)
      rw [List.getElem?_eq_none (l := H) hge]
      apply List.getElem?_eq_none
      simp only [List.length_append, foldl_set_length]
      omega
theorem visAt_run {H : List Blk} {v : Nat → Bool} {e : Eff} (he : ∀ q ∈ e.touch H.length, v q = false) : visAt v (e.run H) = visAt v H := by
  funext k
  unfold visAt
  cases hv : v k
  · rfl
  · simp only [cond_true]
    refine eff_run_get e H k fun hm => ?_
    rw [he k hm] at hv; cases hv
theorem mk2_fr (st : St) (dst : Option Tmp) (s : SV) (e : Eff) : (st.mk2 dst s e).H = e.run st.H := by cases dst <;> rfl
theorem stepA_wp {D : List Deferred} (hS : TabOk P S) (hG : GOk P G) {i : Nat} {o : Oper} (ho : ops[i]? = some o) {st : St} {B : List Value} {a : Act} {w : World} (h : SlotsD D N st.fr B a) (hm : Mem w0 bs st.H B w) {Φ : St → Prop} (hq : (stepA P S G N md E V ops i o st).ok Φ) {K : Act → World → Prop} {Q : Exit → Act → World → Prop}
    (hK : ∀ st' B' a' w', Φ st' → B <+: B' → SlotsD D N st'.fr B' a' → Mem w0 bs st'.H B' w' → K a' w') : wpOp P ops Q i K a w := by
  unfold wpOp
  simp only [ho]
  have hq := T.ok_bind hq
  unfold rawA at hq
  split at hq
  · rename_i hw
    rw [wantedS_ok h hw, if_pos rfl]
    refine .inl ?_
    cases he : E o
    · rw [he, cond_false] at hq
      obtain ⟨s, hq2, x, hs, hqx⟩ := evalQ_ok hS (part_ok h (visAt_ok (V i) st.H) o) hm (T.ok_bind hq)
      refine wp_of_quietAt (hqx w hm) hm fun w' hw' => ?_
      obtain ⟨st2, hq3, hsl, hH⟩ := putR_ok h hs hq2
      exact hK st2 B _ w' hq3 (List.prefix_refl _) hsl (by rw [hH]; exact hw')
    · rw [he, cond_true] at hq
      refine evalE_ok hS hG (view_ok h o) rfl hm (T.ok_bind hq) fun s ef B2 x w2 hq2 hpre hm2 hs => ?_
      unfold hidden at hq2
      cases hh : hiddenB md E ops V i st.H.length ef
      · simp only [hh] at hq2; exact hq2.elim
      · simp only [hh, cond_true] at hq2
        obtain ⟨st2, hq3, hsl, hH⟩ := putR_ok (h.mono hpre) hs hq2
        exact hK st2 B2 _ w2 hq3 hpre hsl (by rw [hH]; exact hm2)
  · rename_i hw
    rw [wantedS_ok h hw]
    obtain ⟨st2, hq3, hsl, hH⟩ := putR_ok h (s := .v undef) rfl hq
    exact hK st2 B _ w hq3 (List.prefix_refl _) hsl (by rw [hH]; exact hm)
  · exact hq.elim
theorem AG_sound {D : List Deferred} (hS : TabOk P S) (hG : GOk P G) {pre : List Value} {Q : Exit → Act → World → Prop} (hQ : ∀ st B a w, QQ st → pre <+: B → SlotsD D N st.fr B a → Mem w0 bs st.H B w → Q .normal a w) :
    ∀ (fuel : Nat) (listed : Array Bool) (st : St) (B : List Value) (a : Act) (w : World), pre <+: B → SlotsD D N st.fr B a → Mem w0 bs st.H B w → AG P S G N md E V ops QQ fuel listed st → wpAny P md ops Q fuel listed a w
  | 0, listed, st, B, a, w, hp, h, hm, hA => ⟨hA.1, hQ st B a w hA.2 hp h hm⟩
  | fuel + 1, listed, st, B, a, w, hp, h, hm, hA => by
    refine ⟨fun h0 => hQ st B a w (hA.1 h0) hp h hm, fun i hi => ?_⟩
    obtain ⟨-, o, ho, -⟩ := mem_ready.1 hi
    exact stepA_wp hS hG ho h hm (hA.2 i hi o ho) fun st' B' a' w' hA' hpre h' hm' => AG_sound hS hG hQ fuel _ st' B' a' w' (hp.trans hpre) h' hm' hA'
def SEq (st st' : St) : Prop := (∀ t, look st.fr t = look st'.fr t) ∧ st.H = st'.H
theorem wantedS_congr {st st' : St} {o : Oper} (h : ∀ t ∈ o.looksAt ops, look st.fr t = look st'.fr t) : wantedS ops st o = wantedS ops st' o := by
  unfold wantedS
  cases hg : o.guard with
  | none => rfl
  | some p =>
    obtain ⟨j, want⟩ := p
    simp only
    cases hd : (ops[j]?).bind (·.dst) with
    | none => rfl
    | some d =>
      simp only
      rw [h d (by unfold Oper.looksAt; rw [hg]; simp only [hd]; exact List.mem_append_right _ (by simp))]
theorem valR_congr {st st' : St} {o : Oper} (h : ∀ t ∈ o.looksAt ops, look st.fr t = look st'.fr t) : valR (opTmps o) st.fr = valR (opTmps o) st'.fr := by
  funext x
  cases x with
  | tmp t =>
    simp only [valR]
    cases hb : (opTmps o).any (Nat.beq t)
    · rfl
    · simp only [cond_true]
      rw [List.any_eq_true] at hb
      obtain ⟨u, hu, e⟩ := hb
      obtain rfl := Nat.eq_of_beq_eq_true e
      exact h t (List.mem_append_left _ hu)
  | const v => rfl
  | global n => rfl
  | func f => rfl
theorem rawA_congr {st st' : St} {i : Nat} {o : Oper} (h : ∀ t ∈ o.looksAt ops, look st.fr t = look st'.fr t) (hH : E o = true → st.H = st'.H) (hv' : E o = false → visAt (V i) st.H = visAt (V i) st'.H) : rawA P S G md E V ops i o st = rawA P S G md E V ops i o st' := by
  unfold rawA
  rw [wantedS_congr h]
  have hv := valR_congr h
  cases he : E o
  · simp only [cond_false, St.part, hv, hv' he]
  · simp only [cond_true, St.view, hv, hH he]
theorem stepA_point {i : Nat} {o : Oper} {st : St} {Φ : St → Prop} (hq : (stepA P S G N md E V ops i o st).ok Φ) :
    ∃ s e, Φ (st.mk2 o.dst s e) ∧ (E o = false → e = noEff) ∧ (E o = true → e = noEff ∨ hiddenB md E ops V i st.H.length e = true) ∧ ∀ st', rawA P S G md E V ops i o st' = rawA P S G md E V ops i o st → ∀ Φ' : St → Prop, Φ' (st'.mk2 o.dst s e) → (stepA P S G N md E V ops i o st').ok Φ' := by
  obtain ⟨p, hp, hpt⟩ := T.ok_point (T.ok_bind hq)
  obtain ⟨s, hs, hst⟩ := putR_point hp
  have hall : (rawA P S G md E V ops i o st).ok fun q => (E o = false → q.2 = noEff) ∧ (E o = true → q.2 = noEff ∨ hiddenB md E ops V i st.H.length q.2 = true) := by
    have h0 := T.ok_bind hq
    unfold rawA at h0 ⊢
    split at h0
    · cases he : E o
      · rw [he, cond_false] at h0
        simp only [cond_false]
        exact T.bind_ok (T.ok_mono (fun s _ => ⟨fun _ => rfl, (fun h => by cases h)⟩) (T.ok_bind h0))
      · rw [he, cond_true] at h0
        simp only [cond_true]
        refine T.bind_ok (T.ok_mono (fun q hq => ?_) (T.ok_bind h0))
        unfold hidden at hq ⊢
        cases hh : hiddenB md E ops V i st.H.length q.2
        · rw [hh] at hq; exact hq.elim
        · rw [cond_true]; exact ⟨(fun h => by cases h), fun _ => .inr hh⟩
    · exact ⟨fun _ => rfl, fun _ => .inl rfl⟩
    · exact h0.elim
  have h1 : (rawA P S G md E V ops i o st).ok fun a => a = p := hpt _ rfl
  obtain ⟨r, ⟨hr1, hr2⟩, -⟩ := T.ok_point (T.ok_both h1 hall)
  subst hr1
  exact ⟨s, r.2, hs, hr2.1, hr2.2, fun st' hr Φ' h => by
    unfold stepA
    rw [hr]
    exact T.bind_ok (hpt _ (hst st' Φ' h))⟩
end
end
end Go.Proofs.YtbippdeahoehoaaGreat.Sym
namespace Go.Proofs.YtbippdeahoehoaaGreat.Sym
open Go.RowKit
section
variable {P : Program} {S : Tab} {G : GTab} {N : Nat} {md : Region.Mode} {E : Oper → Bool} {V : Nat → Nat → Bool} {ops : Array Oper} {QQ : St → Prop}
theorem look_mk2 {st : St} {dst : Option Tmp} {s : SV} {e : Eff} {t : Nat} (h : dst ≠ some t) : look (st.mk2 dst s e).fr t = look st.fr t := by
  cases dst with
  | none => rfl
  | some d =>
    have hne : d ≠ t := fun e => h (by rw [e])
    have hb : Nat.beq d t = false := by
      cases hb : Nat.beq d t
      · rfl
      · exact absurd (Nat.eq_of_beq_eq_true hb) hne
    simp only [St.mk2, St.put, look, hb, cond_false]
theorem look_mk2_same {st : St} {d : Nat} {s : SV} {e : Eff} : look (st.mk2 (some d) s e).fr d = some s := by
  simp only [St.mk2, St.put, look, Nat.beq_refl, cond_true]
theorem SEq.refl (st : St) : SEq st st := ⟨fun _ => rfl, rfl⟩
theorem SEq.mk2 {a b : St} (h : SEq a b) (dst : Option Tmp) (s : SV) (e : Eff) : SEq (a.mk2 dst s e) (b.mk2 dst s e) := by
  refine ⟨fun t => ?_, by rw [mk2_fr, mk2_fr, h.2]⟩
  by_cases hd : dst = some t
  · subst hd; rw [look_mk2_same, look_mk2_same]
  · rw [look_mk2 hd, look_mk2 hd, h.1 t]
theorem AG_congr (hQ : ∀ st st', SEq st st' → QQ st → QQ st') : ∀ (fuel : Nat) (listed : Array Bool) (st st' : St), SEq st st' → AG P S G N md E V ops QQ fuel listed st → AG P S G N md E V ops QQ fuel listed st'
  | 0, _, st, st', he, h => ⟨h.1, hQ st st' he h.2⟩
  | fuel + 1, listed, st, st', he, h => by
    refine ⟨fun h0 => hQ st st' he (h.1 h0), fun i hi o ho => ?_⟩
    obtain ⟨s, e, h1, -, -, h3⟩ := stepA_point (h.2 i hi o ho)
    exact h3 st' (rawA_congr (fun t _ => (he.1 t).symm) (fun _ => he.2.symm) fun _ => by rw [he.2]) _ (AG_congr hQ fuel _ _ _ (he.mk2 o.dst s e) h1)
def DC (md : Region.Mode) (ops : Array Oper) (listed : Array Bool) : Prop := ∀ j o, ops[j]? = some o → listed.getD j false = true → ∀ e ∈ o.after, Region.binds md e = true → listed.getD e.on false = true
theorem nat_beq_ne0 {a b : Nat} (h : a ≠ b) : Nat.beq a b = false := by
  cases hb : Nat.beq a b
  · rfl
  · exact absurd (Nat.eq_of_beq_eq_true hb) h
theorem depB_listed {listed : Array Bool} (hD : DC md ops listed) {i : Nat} : ∀ (n j : Nat) (o : Oper), ops[j]? = some o → (∀ e ∈ o.after, Region.binds md e = true → listed.getD e.on false = true) → depB md ops i n j = true → listed.getD i false = true
  | 0, _, _, _, _, h => by simp [depB] at h
  | n + 1, j, o, ho, hall, h => by
    simp only [depB, ho] at h
    obtain ⟨e, he, hb⟩ := Array.any_eq_true'.1 h
    simp only [Bool.and_eq_true, Bool.or_eq_true] at hb
    obtain ⟨hb1, hb2⟩ := hb
    have hl := hall e he hb1
    rcases hb2 with hb2 | hb2
    · obtain rfl := Nat.eq_of_beq_eq_true hb2; exact hl
    · cases ho' : ops[e.on]? with
      | none => cases n <;> simp [depB, ho'] at hb2
      | some o' => exact depB_listed hD n e.on o' ho' (fun e' he' hb' => hD e.on o' ho' hl e' he' hb') hb2
theorem DC.set {listed : Array Bool} (hD : DC md ops listed) {j : Nat} {o : Oper} (ho : ops[j]? = some o) (hall : ∀ e ∈ o.after, Region.binds md e = true → listed.getD e.on false = true) : DC md ops (listed.setIfInBounds j true) := by
  intro k ok hk hl e he hb
  have up : ∀ m, listed.getD m false = true → (listed.setIfInBounds j true).getD m false = true := by
    intro m hm
    by_cases e' : j = m
    · subst e'
      have hlt : j < listed.size := by
        rcases Nat.lt_or_ge j listed.size with h | h
        · exact h
        · rw [Array.getD_eq_getD_getElem?, Array.getElem?_eq_none h] at hm; cases hm
      rw [Array.getD_eq_getD_getElem?, Array.getElem?_setIfInBounds_self_of_lt hlt]; rfl
    · rw [getD_set_ne false e']; exact hm
  by_cases hjk : j = k
  · subst hjk
    rw [ho] at hk
    simp only [Option.some.injEq] at hk
    subst hk
    exact up _ (hall e he hb)
  · rw [getD_set_ne false hjk] at hl
    exact up _ (hD k ok hk hl e he hb)
theorem AG_first (hQ : ∀ st st', SEq st st' → QQ st → QQ st') {i : Nat} {oi : Oper} (hi : ops[i]? = some oi) (m : Nat) : ∀ (fuel : Nat) (listed : Array Bool) (st : St),
    (∀ j oj, ops[j]? = some oj → j ≠ i → listed.getD j true = false → depB md ops i m j = true ∨ (oi.apart ops oj = true ∧ ¬ (E oi = true ∧ E oj = true))) → DC md ops listed →
    i ∈ Region.ready md ops listed → (stepA P S G N md E V ops i oi st).ok (AG P S G N md E V ops QQ fuel (listed.setIfInBounds i true)) → AG P S G N md E V ops QQ (fuel + 1) listed st := by
  intro fuel
  induction fuel with
  | zero =>
    intro listed st _ _ hr H
    refine ⟨fun h => (by rw [h] at hr; cases hr), fun j hj o ho => ?_⟩
    by_cases hji : j = i
    · subst hji; rw [hi] at ho; simp only [Option.some.injEq] at ho; subst ho; exact H
    · obtain ⟨s, e, h1, -⟩ := stepA_point H
      have := ready_mono hj hji
      rw [h1.1] at this
      cases this
  | succ fuel ih =>
    intro listed st hfree hD hr H
    refine ⟨fun h => (by rw [h] at hr; cases hr), fun j hj oj hoj => ?_⟩
    by_cases hji : j = i
    · subst hji; rw [hi] at hoj; simp only [Option.some.injEq] at hoj; subst hoj; exact H
    · obtain ⟨si, ei, hA, hni, hidi, hpi⟩ := stepA_point H
      obtain ⟨hjun, oj', hoj', hall⟩ := mem_ready.1 hj
      rw [hoj] at hoj'
      simp only [Option.some.injEq] at hoj'
      subst hoj'
      have hiun := (mem_ready.1 hr).1
      have hnl : listed.getD i false ≠ true := by
        intro h
        rw [Array.getD_eq_getD_getElem?] at h hiun
        cases hx : listed[i]? with
        | none => rw [hx] at h; cases h
        | some b => rw [hx] at h hiun; simp only [Option.getD_some] at h hiun; rw [h] at hiun; cases hiun
      rcases hfree j oj hoj hji hjun with hdep | ⟨hap, hne⟩
      · exact absurd (depB_listed hD m j oj hoj hall hdep) hnl
      · obtain ⟨h1, h2, h3⟩ := Oper.apart_spec hap
        -- j behind i
        have hj2 := hA.2 j (ready_mono hj hji) oj hoj
        have hsz : ∀ {k ok}, ops[k]? = some ok → k < ops.size := fun hk => (Array.getElem?_eq_some_iff.1 hk).1
        have nij : depB md ops i ops.size j = false := by
          cases hd : depB md ops i ops.size j
          · rfl
          · exact absurd (depB_listed hD _ j oj hoj hall hd) hnl
        have nji : depB md ops j ops.size i = false := by
          cases hd : depB md ops j ops.size i
          · rfl
          · obtain ⟨-, oi', hoi', halli⟩ := mem_ready.1 hr
            have hl := depB_listed hD _ i oi' hoi' halli hd
            have hlt : j < listed.size := by
              rcases Nat.lt_or_ge j listed.size with h | h
              · exact h
              · rw [Array.getD_eq_getD_getElem?, Array.getElem?_eq_none h] at hl; cases hl
            rw [Array.getD_eq_getD_getElem?, Array.getElem?_eq_getElem hlt, Option.getD_some] at hl hjun
            rw [hl] at hjun; cases hjun
        have unseen : ∀ {a b oa n e}, ops[b]? = some oa → E oa = false → b ≠ a → depB md ops a ops.size b = false → depB md ops b ops.size a = false → (e = noEff ∨ hiddenB md E ops V a n e = true) → ∀ q ∈ e.touch n, V b q = false := by
          intro a b oa n e hb hEb hba h1 h2 he q hq
          rcases he with rfl | he
          · simp [Eff.touch, noEff] at hq
          · have := List.all_eq_true.1 (List.all_eq_true.1 he q hq) b (List.mem_range.2 (hsz hb))
            have m1 : maskDep md ops a b = false := by
              cases hd : maskDep md ops a b
              · rfl
              · rw [maskDep_ok hd] at h1; cases h1
            have m2 : maskDep md ops b a = false := by
              cases hd : maskDep md ops b a
              · rfl
              · rw [maskDep_ok hd] at h2; cases h2
            rw [m1, m2, nat_beq_ne0 hba, show effAt E ops b = false by simp only [effAt, hb, hEb]] at this
            simpa using this
        have hrj : rawA P S G md E V ops j oj st = rawA P S G md E V ops j oj (st.mk2 oi.dst si ei) := by
          refine rawA_congr (fun t ht => (look_mk2 fun e => h1 t e ht).symm) (fun hE => ?_) (fun hE => ?_)
          · rw [mk2_fr]
            have : E oi = false := by
              cases hEi : E oi
              · rfl
              · exact absurd ⟨hEi, hE⟩ hne
            rw [hni this, noEff_run]
          · rw [mk2_fr]
            refine (visAt_run (unseen hoj hE hji nij nji ?_)).symm
            cases hEi : E oi
            · exact .inl (hni hEi)
            · exact hidi hEi
        obtain ⟨sj, ej, hB, hnj, hidj, hpj⟩ := stepA_point hj2
        refine hpj st hrj _ ?_
        -- i behind j
        have hri : rawA P S G md E V ops i oi (st.mk2 oj.dst sj ej) = rawA P S G md E V ops i oi st := by
          refine rawA_congr (fun t ht => look_mk2 fun e => h3 t e ht) (fun hE => ?_) (fun hE => ?_)
          · rw [mk2_fr]
            have : E oj = false := by
              cases hEj : E oj
              · rfl
              · exact absurd ⟨hE, hEj⟩ hne
            rw [hnj this, noEff_run]
          · rw [mk2_fr]
            refine visAt_run (unseen hi hE (Ne.symm hji) nji nij ?_)
            cases hEj : E oj
            · exact .inl (hnj hEj)
            · have := hidj hEj
              rw [mk2_fr, hni hE, noEff_run] at this
              exact this
        have hfree' : ∀ k ok, ops[k]? = some ok → k ≠ i → (listed.setIfInBounds j true).getD k true = false → depB md ops i m k = true ∨ (oi.apart ops ok = true ∧ ¬ (E oi = true ∧ E ok = true)) := fun k ok hk hki hun => by
          refine hfree k ok hk hki ?_
          by_cases hjk : j = k
          · subst hjk; exact hjun
          · rw [getD_set_ne true hjk] at hun; exact hun
        refine ih (listed.setIfInBounds j true) (st.mk2 oj.dst sj ej) hfree' (hD.set hoj hall) (ready_mono hr (Ne.symm hji)) (hpi _ hri _ ?_)
        rw [Array.setIfInBounds_comm _ _ hji]
        refine AG_congr hQ fuel _ _ _ ⟨fun t => ?_, ?_⟩ hB
        · by_cases ei' : oi.dst = some t
          · have ej' : oj.dst ≠ some t := h2 t ei'
            rw [look_mk2 ej', ei', look_mk2_same, look_mk2_same]
          · rw [look_mk2 (dst := oi.dst) ei']
            by_cases ej' : oj.dst = some t
            · rw [ej', look_mk2_same, look_mk2_same]
            · rw [look_mk2 ej', look_mk2 ej', look_mk2 ei']
        · simp only [mk2_fr]
          cases hEi : E oi
          · rw [hni hEi, noEff_run, noEff_run]
          · have : E oj = false := by
              cases hEj : E oj
              · rfl
              · exact absurd ⟨hEi, hEj⟩ hne
            rw [hnj this, noEff_run, noEff_run]
def lexD (md : Region.Mode) (E : Oper → Bool) (ops : Array Oper) : Nat → Nat → Array Bool → Bool
  | 0, _, listed => (Region.ready md ops listed).isEmpty
  | fuel + 1, k, listed => (Region.ready md ops listed).contains k && (match ops[k]? with
      | some ok => (List.range ops.size).all fun j => Nat.beq j k || listed.getD j true || (match ops[j]? with
          | some oj => (ok.apart ops oj && !(E ok && E oj)) || depB md ops k ops.size j
          | none => true)
      | none => false) && lexD md E ops fuel (k + 1) (listed.setIfInBounds k true)
theorem AG_lex (hQ : ∀ st st', SEq st st' → QQ st → QQ st') : ∀ (l : List Oper) (k : Nat) (listed : Array Bool) (st : St), (∀ j, l[j]? = ops[k + j]?) → lexD md E ops l.length k listed = true → DC md ops listed →
    (runOpsD P S G N md E V ops l k st).ok QQ → AG P S G N md E V ops QQ l.length listed st
  | [], _, _, _, _, hB, _, h => ⟨by simpa [lexD] using hB, h⟩
  | o :: l, k, listed, st, hl, hB, hD, h => by
    have h0 : ops[k]? = some o := by simpa using (hl 0).symm
    simp only [List.length_cons, lexD, Bool.and_eq_true, h0] at hB
    obtain ⟨⟨hr, hf⟩, hB'⟩ := hB
    have hr : k ∈ Region.ready md ops listed := by simpa using hr
    have hall := (mem_ready.1 hr).2
    obtain ⟨o', ho', hall⟩ := hall
    rw [h0] at ho'
    simp only [Option.some.injEq] at ho'
    subst ho'
    refine AG_first hQ h0 ops.size l.length listed st (fun j oj hj hne hun => ?_) hD hr ?_
    · rw [List.all_eq_true] at hf
      have := hf j (List.mem_range.2 (Array.getElem?_eq_some_iff.1 hj).1)
      simp only [hj, hun, Bool.or_false, Bool.or_eq_true, Bool.and_eq_true, Bool.not_eq_true'] at this
      rcases this with this | ⟨h1, h2⟩ | h3
      · exact absurd (Nat.eq_of_beq_eq_true this) hne
      · exact .inr ⟨h1, fun ⟨a, b⟩ => by rw [a, b] at h2; cases h2⟩
      · exact .inl h3
    · refine T.ok_mono (fun st' hst' => ?_) (T.ok_bind h)
      exact AG_lex hQ l (k + 1) _ st' (fun j => by have := hl (j + 1); simpa [Nat.add_assoc, Nat.add_comm 1 j] using this) hB' (hD.set h0 hall) hst'
end
end Go.Proofs.YtbippdeahoehoaaGreat.Sym
namespace Go.Proofs.YtbippdeahoehoaaGreat.Sym
open Go.RowKit
def posOf (k : Nat) : List Nat → Nat → Option Nat
  | [], _ => none
  | j :: l, i => bif Nat.beq j k then some i else posOf k l (i + 1)
mutual
def SV.lets : SV → List Nat
  | .ptr k _ | .ref k | .elt k _ _ _ | .pre k _ => [k]
  | .agg l | .tup l => SV.letss l
  | .clo _ a b => SV.letss a ++ SV.letss b
  | .ifc _ s => SV.lets s
  | _ => []
def SV.letss : List SV → List Nat
  | [] => []
  | s :: l => SV.lets s ++ SV.letss l
end
def Blk.lets : Blk → List Nat
  | .own cells => SV.letss cells
  | .lst _ _ _ cells => SV.letss cells
  | .que _ _ _ _ cells => SV.letss cells
  | .pm _ _ cells => SV.letss cells
  | _ => []
theorem posOf_get {k : Nat} : ∀ {ks : List Nat} {i j : Nat}, posOf k ks i = some j → i ≤ j ∧ ks[j - i]? = some k
  | [], _, _, h => by simp [posOf] at h
  | a :: l, i, j, h => by
    simp only [posOf] at h
    cases hb : Nat.beq a k
    · rw [hb, cond_false] at h
      obtain ⟨h1, h2⟩ := posOf_get h
      refine ⟨by omega, ?_⟩
      rw [show j - i = (j - (i + 1)) + 1 by omega, List.getElem?_cons_succ]; exact h2
    · rw [hb, cond_true, Option.some.injEq] at h
      subst h
      rw [Nat.eq_of_beq_eq_true hb]; simp
def reach (g : Nat → Option Blk) : Nat → List Nat → List Nat → List Nat
  | 0, _, acc => acc
  | _ + 1, [], acc => acc
  | n + 1, k :: todo, acc => bif acc.any (Nat.beq k) then reach g n todo acc else reach g n ((match g k with | some b => b.lets | none => []) ++ todo) (acc ++ [k])
mutual
def SV.mapL (ρ : Nat → Option Nat) : SV → Option SV
  | .v x => some (.v x)
  | .c x => some (.c x)
  | .tt => some .tt
  | .ff => some .ff
  | .ptr k off => (ρ k).map fun i => .ptr i off
  | .ref k => (ρ k).map .ref
  | .elt k sz j off => (ρ k).map fun i => .elt i sz j off
  | .pre k n => (ρ k).map fun i => .pre i n
  | .agg l => (SV.mapLs ρ l).map .agg
  | .tup l => (SV.mapLs ρ l).map .tup
  | .clo fn a b => match SV.mapLs ρ a, SV.mapLs ρ b with | some x, some y => some (.clo fn x y) | _, _ => none
  | .ifc t s => (SV.mapL ρ s).map (.ifc t)
def SV.mapLs (ρ : Nat → Option Nat) : List SV → Option (List SV)
  | [] => some []
  | s :: l => match SV.mapL ρ s, SV.mapLs ρ l with | some x, some xs => some (x :: xs) | _, _ => none
end
section
variable {ρ : Nat → Option Nat} {B Bl : List Value}
mutual
theorem SV.mapL_to (h : ∀ (k i : Nat), ρ k = some i → Bl[i]? = B[k]?) : ∀ {s s' : SV}, s.mapL ρ = some s' → s'.to Bl = s.to B
  | .v _, _, e => by simp only [SV.mapL, Option.some.injEq] at e; subst e; rfl
  | .c _, _, e => by simp only [SV.mapL, Option.some.injEq] at e; subst e; rfl
  | .tt, _, e => by simp only [SV.mapL, Option.some.injEq] at e; subst e; rfl
  | .ff, _, e => by simp only [SV.mapL, Option.some.injEq] at e; subst e; rfl
  | .ptr k off, _, e => by
    simp only [SV.mapL, Option.map_eq_some_iff] at e
    obtain ⟨i, hi, rfl⟩ := e
    simp only [SV.to, h k i hi]
  | .ref k, _, e => by
    simp only [SV.mapL, Option.map_eq_some_iff] at e
    obtain ⟨i, hi, rfl⟩ := e
    simp only [SV.to, h k i hi]
  | .elt k sz j off, _, e => by
    simp only [SV.mapL, Option.map_eq_some_iff] at e
    obtain ⟨i, hi, rfl⟩ := e
    simp only [SV.to, h k i hi]
  | .pre k n, _, e => by
    simp only [SV.mapL, Option.map_eq_some_iff] at e
    obtain ⟨i, hi, rfl⟩ := e
    simp only [SV.to, h k i hi]
  | .agg l, _, e => by
    simp only [SV.mapL, Option.map_eq_some_iff] at e
    obtain ⟨l', hl, rfl⟩ := e
    simp only [SV.to, SV.mapLs_tos h hl]
  | .tup l, _, e => by
    simp only [SV.mapL, Option.map_eq_some_iff] at e
    obtain ⟨l', hl, rfl⟩ := e
    simp only [SV.to, SV.mapLs_tos h hl]
  | .clo fn a b, _, e => by
    simp only [SV.mapL] at e
    split at e
    · rename_i x y h1 h2
      simp only [Option.some.injEq] at e; subst e
      simp only [SV.to, SV.mapLs_tos h h1, SV.mapLs_tos h h2]
    · cases e
  | .ifc t s, _, e => by
    simp only [SV.mapL, Option.map_eq_some_iff] at e
    obtain ⟨s', hs, rfl⟩ := e
    simp only [SV.to, SV.mapL_to h hs]
theorem SV.mapLs_tos (h : ∀ (k i : Nat), ρ k = some i → Bl[i]? = B[k]?) : ∀ {l l' : List SV}, SV.mapLs ρ l = some l' → SV.tos Bl l' = SV.tos B l
  | [], _, e => by simp only [SV.mapLs, Option.some.injEq] at e; subst e; rfl
  | s :: l, _, e => by
    simp only [SV.mapLs] at e
    split at e
    · rename_i x xs h1 h2
      simp only [Option.some.injEq] at e; subst e
      simp only [SV.tos, SV.mapL_to h h1, SV.mapLs_tos h h2]
    · cases e
end
end
def locB (ρ : Nat → Option Nat) : Blk → Blk
  | .own cells => (match SV.mapLs ρ cells with | some c => .own c | none => .gone)
  | .lst e sz n cells => (match SV.mapLs ρ cells with | some c => .lst e sz n c | none => .gone)
  | .que e sz n xp cells => (match SV.mapLs ρ cells with | some c => .que e sz n xp c | none => .gone)
  | .pm K kl cells => (match SV.mapLs ρ cells with | some c => .pm K kl c | none => .gone)
  | b => b
theorem locB_sat {ρ : Nat → Option Nat} {B Bl : List Value} (h : ∀ (k i : Nat), ρ k = some i → Bl[i]? = B[k]?) {w : World} {u : Value} {x : Blk} (hs : BlkSat B w u x) : BlkSat Bl w u (locB ρ x) := by
  cases x with
  | own cells =>
    obtain ⟨b, vs, e1, e2, e3⟩ := hs
    simp only [locB]
    cases hc : SV.mapLs ρ cells with
    | none => exact trivial
    | some c => exact ⟨b, vs, e1, by rw [SV.mapLs_tos h hc]; exact e2, e3⟩
  | lst e sz n cells =>
    obtain ⟨xs, e1, e2⟩ := hs
    simp only [locB]
    cases hc : SV.mapLs ρ cells with
    | none => exact trivial
    | some c => exact ⟨xs, by rw [SV.mapLs_tos h hc]; exact e1, e2⟩
  | que e sz n xp cells =>
    obtain ⟨xs, e1, e2⟩ := hs
    simp only [locB]
    cases hc : SV.mapLs ρ cells with
    | none => exact trivial
    | some c => exact ⟨xs, by rw [SV.mapLs_tos h hc]; exact e1, e2⟩
  | pm K kl cells =>
    obtain ⟨xs, e1, e2⟩ := hs
    simp only [locB]
    cases hc : SV.mapLs ρ cells with
    | none => exact trivial
    | some c => exact ⟨xs, by rw [SV.mapLs_tos h hc]; exact e1, e2⟩
  | _ => exact hs
theorem locB_excl {ρ : Nat → Option Nat} {x : Blk} (h : (locB ρ x).excl = true) : x.excl = true := by
  cases x <;> first | rfl | exact h
theorem locB_row {ρ : Nat → Option Nat} {x : Blk} {n sz : Nat} {f : Nat → Nat → Value} (h : locB ρ x = .row n sz f) : x = .row n sz f := by
  cases x with
  | own cells => simp only [locB] at h; split at h <;> cases h
  | lst e sz n cells => simp only [locB] at h; split at h <;> cases h
  | que e sz n xp cells => simp only [locB] at h; split at h <;> cases h
  | pm K kl cells => simp only [locB] at h; split at h <;> cases h
  | _ => exact h
def ordN (n0 : Nat) (js : List Nat) (k : Nat) : Option Nat := match posOf k js 0 with
  | some i => some (n0 + i)
  | none => bif Nat.blt k n0 then some k else none
def isAt (i : Nat) : Option Nat → Bool
  | some j => Nat.beq j i
  | none => false
theorem isAt_iff {i : Nat} {o : Option Nat} : isAt i o = true ↔ o = some i := by
  cases o with
  | none => simp [isAt]
  | some j => simp [isAt, Nat.beq_eq]
def ordCB (n0 : Nat) (js : List Nat) (i k : Nat) (o : Option Blk) : Blk := match o with
  | some b => bif isAt i (ordN n0 js k) then locB (ordN n0 js) b else .gone
  | none => .gone
def ordCH (n0 : Nat) (js : List Nat) (H : List Blk) : List Blk :=
  (List.range n0).map (fun k => ordCB n0 js k k H[k]?) ++ js.zipIdx.map fun p => ordCB n0 js (n0 + p.2) p.1 H[p.1]?
def ordCS (ρ : Nat → Option Nat) : Option SV → Option SV
  | some s => s.mapL ρ
  | none => none
def letsO : Option SV → List Nat
  | some s => s.lets
  | none => []
def ordCJ (n0 : Nat) (ks : List Nat) (st : St) : List Nat := (reach (fun k => st.H[k]?) 300 (ks.flatMap (fun t => letsO (look st.fr t)) ++ List.range n0) []).filter fun k => Nat.ble n0 k && Nat.blt k st.H.length
def St.ordC (n0 : Nat) (ks : List Nat) (st : St) : St := ⟨ks.map fun t => (t, ordCS (ordN n0 (ordCJ n0 ks st)) (look st.fr t)), ordCH n0 (ordCJ n0 ks st) st.H⟩
theorem look_each {g : Nat → Option SV} {t : Nat} {s : SV} : ∀ {l : List Nat}, look (l.map fun t => (t, g t)) t = some s → g t = some s
  | [], h => by simp [look] at h
  | u :: l, h => by
    simp only [List.map_cons, look] at h
    cases hb : Nat.beq u t
    · rw [hb, cond_false] at h; exact look_each h
    · rw [hb, cond_true] at h; rw [← Nat.eq_of_beq_eq_true hb]; exact h
theorem ordC_congr {n0 : Nat} {ks : List Nat} {st st' : St} (h : SEq st st') : st.ordC n0 ks = st'.ordC n0 ks := by
  obtain ⟨fr, H⟩ := st
  obtain ⟨fr', H'⟩ := st'
  obtain ⟨h1, h2⟩ := h
  simp only at h1 h2
  subst h2
  unfold St.ordC ordCJ
  simp only [h1]
theorem ordC_ok {D : List Deferred} {N n0 : Nat} {M : List Nat} {w0 : World} {bs : List Nat} {st : St} {B : List Value} {a : Act} {w : World} (hsl : SlotsD D N st.fr B a) (hm : Mem w0 bs st.H B w) (hn : n0 ≤ B.length) :
    ∃ B', B.take n0 <+: B' ∧ SlotsD D N (st.ordC n0 M).fr B' a ∧ Mem w0 bs (st.ordC n0 M).H B' w := by
  have hlt : (B.take n0).length = n0 := by simp; omega
  have hjs : ∀ j ∈ ordCJ n0 M st, j < st.H.length := fun j hj => by
    have := (List.mem_filter.1 hj).2
    simp only [Bool.and_eq_true, Nat.blt_eq] at this
    exact this.2
  unfold St.ordC
  generalize ordCJ n0 M st = js at hjs
  refine ⟨B.take n0 ++ js.map (fun j => B.getD j undef), List.prefix_append _ _, ?_, ?_⟩
  all_goals
    have hρ : ∀ (k i : Nat), ordN n0 js k = some i → (B.take n0 ++ js.map (fun j => B.getD j undef))[i]? = B[k]? := by
      intro k i e
      unfold ordN at e
      split at e
      · rename_i i' hi
        simp only [Option.some.injEq] at e
        subst e
        obtain ⟨-, h2⟩ := posOf_get hi
        rw [Nat.sub_zero] at h2
        have hk := hjs k (List.mem_of_getElem? h2)
        rw [← hm.sat.len] at hk
        rw [List.getElem?_append_right (by omega), hlt, Nat.add_sub_cancel_left, List.getElem?_map, h2]
        simp [List.getD_eq_getElem?_getD, List.getElem?_eq_getElem hk]
      · cases hb : Nat.blt k n0
        · rw [hb] at e; cases e
        · rw [hb, cond_true, Option.some.injEq] at e
          subst e
          rw [Nat.blt_eq] at hb
          rw [List.getElem?_append_left (by omega), List.getElem?_take, if_pos hb]
  · refine ⟨hsl.size, hsl.defers, fun t s e => ?_⟩
    have e := look_each e
    unfold ordCS at e
    split at e
    · rename_i s0 hs0
      rw [SV.mapL_to hρ e]
      exact hsl.slot t s0 hs0
    · cases e
  · have hlen : (ordCH n0 js st.H).length = (B.take n0 ++ js.map (fun j => B.getD j undef)).length := by
      unfold ordCH
      rw [List.length_append, List.length_append, hlt]
      simp
    have get : ∀ {i : Nat} {x : Blk}, (ordCH n0 js st.H)[i]? = some x → x = .gone ∨ ∃ k y, ordN n0 js k = some i ∧ st.H[k]? = some y ∧ x = locB (ordN n0 js) y := by
      intro i x hi
      unfold ordCH at hi
      have one : ∀ {k : Nat}, x = ordCB n0 js i k st.H[k]? → x = .gone ∨ ∃ k y, ordN n0 js k = some i ∧ st.H[k]? = some y ∧ x = locB (ordN n0 js) y := by
        intro k e
        unfold ordCB at e
        split at e
        · rename_i b hb
          cases hc : isAt i (ordN n0 js k)
          · rw [hc] at e; exact .inl e
          · rw [hc, cond_true] at e
            exact .inr ⟨k, b, isAt_iff.1 hc, hb, e⟩
        · exact .inl e
      by_cases hlo : i < n0
      · rw [List.getElem?_append_left (by simpa using hlo), List.getElem?_map, Option.map_eq_some_iff] at hi
        obtain ⟨k, hk, rfl⟩ := hi
        rw [List.getElem?_range hlo, Option.some.injEq] at hk
        subst hk
        exact one rfl
      · rw [List.getElem?_append_right (by simpa using hlo), List.getElem?_map, Option.map_eq_some_iff] at hi
        obtain ⟨p, hp, rfl⟩ := hi
        simp only [List.length_map, List.length_range] at hp
        rw [List.getElem?_zipIdx, Option.map_eq_some_iff] at hp
        obtain ⟨j, hj, rfl⟩ := hp
        refine one (k := j) ?_
        simp only [Nat.zero_add]
        rw [show n0 + (i - n0) = i by omega]
    have ex : ∀ i b, ExBlk (ordCH n0 js st.H) (B.take n0 ++ js.map (fun j => B.getD j undef)) i b → ∃ k, ordN n0 js k = some i ∧ ExBlk st.H B k b := by
      rintro i b ⟨x, u, h1, h2, h3, h4⟩
      rcases get h1 with rfl | ⟨k, y, g1, g2, rfl⟩
      · cases h2
      · exact ⟨k, g1, y, u, g2, locB_excl h2, by rw [← hρ k i g1]; exact h3, h4⟩
    have rd : ∀ i b, RdBlk (ordCH n0 js st.H) (B.take n0 ++ js.map (fun j => B.getD j undef)) i b → ∃ k, ordN n0 js k = some i ∧ RdBlk st.H B k b := by
      rintro i b ⟨n, sz, f, u, h1, h2, h3, h4, h5⟩
      rcases get h1 with e | ⟨k, y, g1, g2, e⟩
      · cases e
      · exact ⟨k, g1, n, sz, f, u, by rw [g2, locB_row e.symm], h2, h3, by rw [← hρ k i g1]; exact h4, h5⟩
    refine ⟨⟨hlen.symm, fun i x u hi hu => ?_, fun i j b h1 h2 => ?_, fun i j b h1 h2 => ?_⟩, hm.keeps, fun i b h1 => ?_⟩
    · rcases get hi with rfl | ⟨k, y, g1, g2, rfl⟩
      · trivial
      · rw [hρ k i g1] at hu
        exact locB_sat hρ (hm.sat.blk k y u g2 hu)
    · obtain ⟨k, k1, k2⟩ := ex _ _ h1
      obtain ⟨l, l1, l2⟩ := ex _ _ h2
      have := hm.sat.sep _ _ _ k2 l2
      subst this
      rw [k1, Option.some.injEq] at l1
      exact l1
    · obtain ⟨k, k1, k2⟩ := ex _ _ h1
      obtain ⟨l, l1, l2⟩ := rd _ _ h2
      exact hm.sat.far _ _ _ k2 l2
    · obtain ⟨k, k1, k2⟩ := ex _ _ h1
      exact hm.good _ _ k2
def firstOkB (md : Region.Mode) (E : Oper → Bool) (ops : Array Oper) (listed : Array Bool) (i : Nat) : Bool := match ops[i]? with
  | some oi => (List.range ops.size).all fun j => Nat.beq j i || listed.getD j true || (match ops[j]? with
      | some oj => (oi.apart ops oj && !(E oi && E oj)) || maskDep md ops i j
      | none => true)
  | none => false
def allSome : List (Option (List (List Nat))) → Option (List (List Nat))
  | [] => some []
  | o :: l => match o, allSome l with
    | some x, some y => some (x ++ y)
    | _, _ => none
def forceBs {α : Type} : List Bool → (List Bool → α) → α
  | [], k => k []
  | true :: l, k => forceBs l fun l' => k (true :: l')
  | false :: l, k => forceBs l fun l' => k (false :: l')
theorem forceBs_eq {α : Type} : ∀ (l : List Bool) (k : List Bool → α), forceBs l k = k l
  | [], _ => rfl
  | true :: l, k => forceBs_eq l _
  | false :: l, k => forceBs_eq l _
def forceA {α : Type} (a : Array Bool) (k : Array Bool → α) : α := forceBs a.toList fun l => k ⟨l⟩
theorem forceA_eq {α : Type} (a : Array Bool) (k : Array Bool → α) : forceA a k = k a := forceBs_eq _ _
def orders (md : Region.Mode) (E : Oper → Bool) (ops : Array Oper) : Nat → Array Bool → Option (List (List Nat))
  | 0, listed => bif (Region.ready md ops listed).isEmpty then some [[]] else none
  | fuel + 1, listed => match (Region.ready md ops listed).find? (firstOkB md E ops listed) with
    | some i => (forceA (listed.setIfInBounds i true) fun l => orders md E ops fuel l).map fun l => l.map (i :: ·)
    | none => bif (Region.ready md ops listed).isEmpty then none else allSome ((Region.ready md ops listed).map fun i => (forceA (listed.setIfInBounds i true) fun l => orders md E ops fuel l).map fun l => l.map (i :: ·))
theorem allSome_mem : ∀ {l : List (Option (List (List Nat)))} {L : List (List Nat)}, allSome l = some L → ∀ o ∈ l, ∃ x, o = some x ∧ ∀ y ∈ x, y ∈ L
  | [], _, _, o, ho => by cases ho
  | o :: l, L, h, p, hp => by
    unfold allSome at h
    split at h
    · rename_i x y hy
      simp only [Option.some.injEq] at h
      subst h
      rcases List.mem_cons.1 hp with rfl | hp
      · exact ⟨x, rfl, fun z hz => List.mem_append_left _ hz⟩
      · obtain ⟨x', e, hx⟩ := allSome_mem hy p hp
        exact ⟨x', e, fun z hz => List.mem_append_right _ (hx z hz)⟩
    · cases h
theorem orders_ne {md : Region.Mode} {E : Oper → Bool} {ops : Array Oper} : ∀ {fuel : Nat} {listed : Array Bool} {L : List (List Nat)}, orders md E ops fuel listed = some L → L ≠ []
  | 0, listed, L, h => by
    unfold orders at h
    cases hb : (Region.ready md ops listed).isEmpty
    · rw [hb] at h; cases h
    · rw [hb, cond_true, Option.some.injEq] at h; subst h; simp
  | fuel + 1, listed, L, h => by
    unfold orders at h
    simp only [forceA_eq] at h
    split at h
    · rw [Option.map_eq_some_iff] at h
      obtain ⟨l, hl, rfl⟩ := h
      simpa using orders_ne hl
    · cases hb : (Region.ready md ops listed).isEmpty
      · rw [hb, cond_false] at h
        cases hr : Region.ready md ops listed with
        | nil => rw [hr] at hb; cases hb
        | cons i r =>
          rw [hr] at h
          obtain ⟨x, hx, hxL⟩ := allSome_mem h _ (List.mem_map.2 ⟨i, List.mem_cons_self .., rfl⟩)
          rw [Option.map_eq_some_iff] at hx
          obtain ⟨l, hl, rfl⟩ := hx
          cases l with
          | nil => exact absurd rfl (orders_ne hl)
          | cons o l => exact List.ne_nil_of_mem (hxL _ (List.mem_map.2 ⟨o, List.mem_cons_self .., rfl⟩))
      · rw [hb] at h; cases h
theorem T.ok_all {α β : Type} {Q : β → α → Prop} {t : T α} : ∀ {l : List β}, l ≠ [] → (∀ b ∈ l, t.ok (Q b)) → t.ok fun a => ∀ b ∈ l, Q b a
  | [], h, _ => absurd rfl h
  | [b], _, h => T.ok_mono (fun a ha b' hb' => by rw [List.mem_singleton.1 hb']; exact ha) (h b (List.mem_cons_self ..))
  | b :: c :: l, _, h => T.ok_mono (fun a ha b' hb' => by
      rcases List.mem_cons.1 hb' with rfl | hb'
      · exact ha.1
      · exact ha.2 b' hb') (T.ok_both (h b (List.mem_cons_self ..)) (T.ok_all (l := c :: l) (by simp) fun b' hb' => h b' (List.mem_cons_of_mem _ hb')))
section
variable (P : Program) (S : Tab) (G : GTab) (N : Nat)
def runOrd (md : Region.Mode) (E : Oper → Bool) (V : Nat → Nat → Bool) (ops : Array Oper) : List Nat → St → T St
  | [], st => .leaf st
  | i :: l, st => match ops[i]? with
    | some o => (stepA P S G N md E V ops i o st).bind (runOrd md E V ops l)
    | none => .stuck 123
end
theorem orders_AG {P : Program} {S : Tab} {G : GTab} {N : Nat} {md : Region.Mode} {E : Oper → Bool} {V : Nat → Nat → Bool} {ops : Array Oper} {QQ : St → Prop} (hQ : ∀ st st', SEq st st' → QQ st → QQ st') : ∀ (fuel : Nat) (listed : Array Bool) (st : St) (L : List (List Nat)), orders md E ops fuel listed = some L → DC md ops listed →
    (∀ o ∈ L, (runOrd P S G N md E V ops o st).ok QQ) → AG P S G N md E V ops QQ fuel listed st
  | 0, listed, st, L, h, hD, hL => by
    unfold orders at h
    cases hb : (Region.ready md ops listed).isEmpty
    · rw [hb] at h; cases h
    · rw [hb, cond_true, Option.some.injEq] at h
      subst h
      exact ⟨by simpa using hb, hL [] (List.mem_cons_self ..)⟩
  | fuel + 1, listed, st, L, h, hD, hL => by
    have one : ∀ (i : Nat) (oi : Oper) (l : List (List Nat)), ops[i]? = some oi → i ∈ Region.ready md ops listed → orders md E ops fuel (listed.setIfInBounds i true) = some l → (∀ o ∈ l, (i :: o) ∈ L) → (stepA P S G N md E V ops i oi st).ok (AG P S G N md E V ops QQ fuel (listed.setIfInBounds i true)) := by
      intro i oi l hi hr hl hin
      obtain ⟨-, oi', hoi', hall⟩ := mem_ready.1 hr
      rw [hi] at hoi'
      simp only [Option.some.injEq] at hoi'
      subst hoi'
      have h2 : (stepA P S G N md E V ops i oi st).ok fun st' => ∀ o ∈ l, (runOrd P S G N md E V ops o st').ok QQ := T.ok_all (orders_ne hl) fun o ho => by
        have := hL (i :: o) (hin o ho)
        simp only [runOrd, hi] at this
        exact T.ok_bind this
      exact T.ok_mono (fun st' h' => orders_AG hQ fuel _ st' l hl (hD.set hi hall) h') h2
    unfold orders at h
    simp only [forceA_eq] at h
    split at h
    · rename_i i hf
      rw [Option.map_eq_some_iff] at h
      obtain ⟨l, hl, rfl⟩ := h
      have hr := List.mem_of_find?_eq_some hf
      have hok := List.find?_some hf
      obtain ⟨-, oi, hi, hall⟩ := mem_ready.1 hr
      refine AG_first hQ hi ops.size fuel listed st (fun j oj hj hne hun => ?_) hD hr (one i oi l hi hr hl fun o ho => List.mem_map.2 ⟨o, ho, rfl⟩)
      simp only [firstOkB, hi, List.all_eq_true] at hok
      have := hok j (List.mem_range.2 (Array.getElem?_eq_some_iff.1 hj).1)
      simp only [hj, hun, Bool.or_false, Bool.or_eq_true, Bool.and_eq_true, Bool.not_eq_true'] at this
      rcases this with this | ⟨h1, h2⟩ | h3
      · exact absurd (Nat.eq_of_beq_eq_true this) hne
      · exact .inr ⟨h1, fun ⟨a, b⟩ => by rw [a, b] at h2; cases h2⟩
      · exact .inl (maskDep_ok h3)
    · cases hb : (Region.ready md ops listed).isEmpty
      · rw [hb, cond_false] at h
        refine ⟨fun h0 => (by rw [h0] at hb; cases hb), fun i hi oi hoi => ?_⟩
        obtain ⟨x, hx, hxL⟩ := allSome_mem h _ (List.mem_map.2 ⟨i, hi, rfl⟩)
        rw [Option.map_eq_some_iff] at hx
        obtain ⟨l, hl, rfl⟩ := hx
        exact one i oi l hoi hi hl fun o ho => hxL _ (List.mem_map.2 ⟨o, ho, rfl⟩)
      · rw [hb] at h; cases h
inductive Spot where
  | slot (t : Nat) (path : List Nat)
  | cell (k i : Nat) (path : List Nat)
def SV.numAt : List Nat → SV → Option (Int × (Int → SV))
  | [], .v (.int k z) => some (z, fun c => .c (.int k c))
  | [], .v (.bool b) => some (bif b then 1 else 0, fun c => match c with | 1 => .tt | _ => .ff)
  | i :: p, .agg l => match l[i]? with
    | some s => (match SV.numAt p s with
      | some (z, f) => some (z, fun c => .agg (l.set i (f c)))
      | none => none)
    | none => none
  | _, _ => none
theorem tos_setN {B : List Value} {s' : SV} : ∀ (l : List SV) (i : Nat) (s : SV), l[i]? = some s → s'.to B = s.to B → SV.tos B (l.set i s') = SV.tos B l
  | [], _, _, h, _ => by simp at h
  | t :: l, 0, s, h, e => by
    simp only [List.getElem?_cons_zero, Option.some.injEq] at h; subst h
    simp only [List.set_cons_zero, SV.tos, e]
  | t :: l, i + 1, s, h, e => by
    simp only [List.getElem?_cons_succ] at h
    simp only [List.set_cons_succ, SV.tos, tos_setN l i s h e]
theorem numAt_to {B : List Value} : ∀ {p : List Nat} {s : SV} {z : Int} {f : Int → SV}, s.numAt p = some (z, f) → (f z).to B = s.to B
  | [], s, z, f, h => by
    unfold SV.numAt at h
    split at h
    · simp only [Option.some.injEq, Prod.mk.injEq] at h
      obtain ⟨rfl, rfl⟩ := h
      rfl
    · rename_i b _
      simp only [Option.some.injEq, Prod.mk.injEq] at h
      obtain ⟨rfl, rfl⟩ := h
      cases b <;> rfl
    · rename_i e; cases e
    · cases h
  | i :: p, s, z, f, h => by
    unfold SV.numAt at h
    split at h
    · rename_i e; cases e
    · rename_i e; cases e
    · rename_i i' p' l e
      simp only [List.cons.injEq] at e
      obtain ⟨rfl, rfl⟩ := e
      split at h
      · rename_i s' hs
        split at h
        · rename_i z' f' hf
          simp only [Option.some.injEq, Prod.mk.injEq] at h
          obtain ⟨rfl, rfl⟩ := h
          simp only [SV.to, tos_setN l i s' hs (numAt_to hf)]
        · cases h
      · cases h
    · cases h
def casesS (z : Int) (f : Int → St) (st : St) : List Int → T St
  | [] => .leaf st
  | [c] => .need (z = c) (.leaf (f c))
  | c :: cs => .ite (decide (z = c)) (.leaf (f c)) (casesS z f st cs)
def splitS (sp : Spot) (cs : List Int) (st : St) : T St := match sp with
  | .slot t p => (match look st.fr t with
    | some s => (match s.numAt p with
      | some (z, f) => casesS z (fun c => ⟨(t, some (f c)) :: st.fr, st.H⟩) st cs
      | none => .leaf st)
    | none => .leaf st)
  | .cell k i p => (match st.H[k]? with
    | some (.own cells) => (match cells[i]? with
      | some s => (match s.numAt p with
        | some (z, f) => casesS z (fun c => ⟨st.fr, st.H.set k (.own (cells.set i (f c)))⟩) st cs
        | none => .leaf st)
      | none => .leaf st)
    | _ => .leaf st)
def splitAll : List (Nat × Spot × List Int) → Nat → St → T St
  | [], _, st => .leaf st
  | (i, sp, cs) :: l, id, st => bif Nat.beq i id then (splitS sp cs st).bind (splitAll l id) else splitAll l id st
theorem casesS_ok {z : Int} {f : Int → St} {st : St} {Qs : St → Prop} : ∀ {cs : List Int}, (casesS z f st cs).ok Qs → Qs st ∨ Qs (f z)
  | [], h => .inl h
  | [c], h => by
    obtain ⟨e, h⟩ := h
    subst e; exact .inr h
  | c :: d :: cs, h => by
    by_cases e : z = c
    · subst e; exact .inr (h.1 (by simp))
    · exact casesS_ok (cs := d :: cs) (h.2 (by simpa using e))
theorem splitS_ok {N : Nat} {w0 : World} {bs : List Nat} {sp : Spot} {cs : List Int} {st : St} {B : List Value} {a : Act} {w : World} {Qs : St → Prop} (hq : (splitS sp cs st).ok Qs) (h : Slots N st.fr B a) (hm : Mem w0 bs st.H B w) : ∃ st', Qs st' ∧ Slots N st'.fr B a ∧ Mem w0 bs st'.H B w := by
  unfold splitS at hq
  split at hq
  · rename_i t p
    split at hq
    · rename_i s hs
      split at hq
      · rename_i z f hf
        rcases casesS_ok hq with g | g
        · exact ⟨st, g, h, hm⟩
        · refine ⟨_, g, ⟨h.size, h.defers, fun u s' e => ?_⟩, hm⟩
          simp only [look] at e
          cases hb : Nat.beq t u
          · rw [hb, cond_false] at e; exact h.slot u s' e
          · rw [hb, cond_true, Option.some.injEq] at e
            have := Nat.eq_of_beq_eq_true hb
            subst this
            subst e
            rw [numAt_to hf]
            exact h.slot t s hs
      · exact ⟨st, hq, h, hm⟩
    · exact ⟨st, hq, h, hm⟩
  · rename_i k i p
    split at hq
    · rename_i cells hk
      split at hq
      · rename_i s hs
        split at hq
        · rename_i z f hf
          rcases casesS_ok hq with g | g
          · exact ⟨st, g, h, hm⟩
          · refine ⟨_, g, h, ?_⟩
            obtain ⟨u, hu⟩ := hm.sat.getB hk
            obtain ⟨b, vs, rfl, h2, h3⟩ := hm.sat.blk k _ u hk hu
            exact hm.upd hk rfl hu ⟨rfl, rfl, rfl, Nat.le_refl _, fun _ _ _ => rfl⟩ rfl ⟨b, vs, rfl, by rw [tos_setN cells i s hs (numAt_to hf)]; exact h2, h3⟩
        · exact ⟨st, hq, h, hm⟩
      · exact ⟨st, hq, h, hm⟩
    · exact ⟨st, hq, h, hm⟩
theorem splitAll_ok {N : Nat} {w0 : World} {bs : List Nat} {B : List Value} {a : Act} {w : World} {Qs : St → Prop} : ∀ {l : List (Nat × Spot × List Int)} {id : Nat} {st : St}, (splitAll l id st).ok Qs → Slots N st.fr B a → Mem w0 bs st.H B w → ∃ st', Qs st' ∧ Slots N st'.fr B a ∧ Mem w0 bs st'.H B w
  | [], _, st, hq, h, hm => ⟨st, hq, h, hm⟩
  | (i, sp, cs) :: l, id, st, hq, h, hm => by
    unfold splitAll at hq
    cases hb : Nat.beq i id
    · rw [hb, cond_false] at hq; exact splitAll_ok hq h hm
    · rw [hb, cond_true] at hq
      obtain ⟨st1, q1, h1, m1⟩ := splitS_ok (T.ok_bind hq) h hm
      exact splitAll_ok q1 h1 m1
structure Cfg where
  S : Tab
  G : GTab
  E : Oper → Bool
  X : List (Nat × Spot × List Int)
  M : List (Nat × List Nat)
structure CfgOk (P : Program) (C : Cfg) : Prop where
  S : TabOk P C.S
  G : GOk P C.G
def effE (P : Program) (fs : List Nat) (o : Oper) : Bool :=
  match o.op with
  | .box .. | .alloc _ | .store .. | .buildSlice .. | .makeSlice .. | .mapUpdate .. | .makeMap .. => true
  | .slice t .. => match P.underlying t with | some .string => false | _ => true
  | .call c => match c.callee with
    | .builtin .append => true
    | .builtin .delete => true
    | .value (.func f) => fs.any (Nat.beq f)
    | .builtin _ => false
    | _ => true
  | .convert src dst _ => match P.underlying src, P.underlying dst with
    | some .string, some (.slice _) => true
    | some (.slice _), some .string => true
    | _, _ => false
  | _ => false
def T.gather {α β : Type} (f : α → List β) : T α → List β
  | .leaf a => f a
  | .ite _ t e => t.gather f ++ e.gather f
  | .need _ t => t.gather f
  | @T.chk _ _ d t => t.gather f
  | .stuck _ => []
section
variable {P : Program} {C : Cfg} {N : Nat}
def isLoop : Code → Bool
  | .loop _ => true
  | _ => false
def loopBody : Code → Code
  | .loop b => b
  | c => c
theorem isLoop_eq {c : Code} (h : isLoop c = true) : c = .loop (loopBody c) := by
  cases c <;> first | rfl | cases h
inductive Ex where
  | normal
  | exit (id : Nat)
  | ret
def Ex.to : Ex → Exit
  | .normal => .normal
  | .exit id => .exit id
  | .ret => .ret
section
variable (P : Program) (C : Cfg) (L : Nat → St → Option (T (Ex × St))) (N : Nat)
def pickPol (ops : Array Oper) (i : Nat) : Bool := ops.toList.any fun o => match o.guard with | some (j, b) => Nat.beq j i && b | none => false
def T.pick {α : Type} (b : Bool) : T α → Option α
  | .leaf a => some a
  | .ite _ t e => bif b then (match t.pick b with | some x => some x | none => e.pick b) else (match e.pick b with | some x => some x | none => t.pick b)
  | .need _ t => t.pick b
  | @T.chk _ _ d t => t.pick b
  | .stuck _ => none
def scanOps (ops : Array Oper) : List Oper → Nat → St → List (Nat × Nat)
  | [], _, _ => []
  | o :: rest, i, st => match wantedS ops st o with
    | some true => T.gather (fun p => (p.2.touch st.H.length).map (fun q => (i, q))) (evalE P C.S C.G (st.view o) o) ++ (match T.pick (pickPol ops i) ((evalE P C.S C.G (st.view o) o).bind (putR N (isGuard ops i) o.dst st)) with
      | some st' => scanOps ops rest (i + 1) st'
      | none => [])
    | some false => scanOps ops rest (i + 1) (st.put o.dst (.v undef))
    | none => []
def visOf (ops : Array Oper) (W : List (Nat × Nat)) (j q : Nat) : Bool :=
  W.all fun p => !Nat.beq p.2 q || Nat.beq p.1 j || maskDep .any ops p.1 j || maskDep .any ops j p.1
def visAll (ops : Array Oper) (W : List (Nat × Nat)) (n0 j q : Nat) : Bool :=
  bif Nat.blt q n0 then visOf ops W j q else (List.range ops.size).all fun i => Nat.beq i j || !effAt C.E ops i || maskDep .any ops i j || maskDep .any ops j i
def agree (t : T St) (s : St) : Prop := t.ok fun x => x = s
def planNeeds (V : Nat → Nat → Bool) (ops : Array Oper) (st s1 : St) (n0 : Nat) (ks : List Nat) : List (List Nat) → T St
  | [] => .leaf s1
  | o :: l => .need (agree ((runOrd P C.S C.G N .any C.E V ops o st).bind fun s2 => .leaf (s2.ordC n0 ks)) s1) (planNeeds V ops st s1 n0 ks l)
def runPlan (V : Nat → Nat → Bool) (ops : Array Oper) (st : St) (ks : List Nat) : List (List Nat) → T St
  | [] => .stuck 124
  | o :: l => (runOrd P C.S C.G N .any C.E V ops o st).bind fun s1 => planNeeds P C N V ops st (s1.ordC st.H.length ks) st.H.length ks l
def keepOf (id : Nat) : List (Nat × List Nat) → Option (List Nat)
  | [] => none
  | p :: l => bif Nat.beq p.1 id then some p.2 else keepOf id l
def runRegion (id : Nat) (ops : Array Oper) (draw : Bool) (st : St) : T St :=
  bif draw then match keepOf id C.M with
    | some ks => (match orders .any C.E ops ops.size (Array.replicate ops.size false) with
      | some L => runPlan P C N (visAll C ops (scanOps P C N ops ops.toList 0 st) st.H.length) ops st ks L
      | none => .stuck 125)
    | none => runOpsD P C.S C.G N .any C.E (visOf ops (scanOps P C N ops ops.toList 0 st)) ops ops.toList 0 st else runOps P C.S C.G N ops ops.toList 0 st
def runC : Code → St → T (Ex × St)
  | .skip, st => .leaf (.normal, st)
  | .region id ops draw, st => (runRegion P C N id ops draw st).bind fun st => (splitAll C.X id st).bind fun st => .leaf (.normal, st)
  | .seq a b, st => (runC a st).bind fun r => match r.1 with
    | .normal => runC b r.2
    | _ => .leaf r
  | .cond c a b, st => match st.val c with
    | some .tt => runC a st
    | some .ff => runC b st
    | some (.v (.bool x)) => .ite x (runC a (st.knows c .tt)) (runC b (st.knows c .ff))
    | _ => .stuck 36
  | .block id c, st => bif isLoop c then (match L id st with | some t => t | none => .stuck (3000 + id)) else
    (runC c st).bind fun r => match r.1 with
      | .exit j => bif Nat.beq j id then .leaf (.normal, r.2) else .leaf r
      | _ => .leaf r
  | .exit id, st => .leaf (.exit id, st)
  | .ret, st => .leaf (.ret, st)
  | _, _ => .stuck 37
end
def lexAll (C : Cfg) : Code → Bool
  | .region id ops draw => bif draw then match keepOf id C.M with | some _ => true | none => lexD .any C.E ops ops.size 0 (Array.replicate ops.size false) else true
  | .seq a b => lexAll C a && lexAll C b
  | .cond _ a b => lexAll C a && lexAll C b
  | .block _ c => bif isLoop c then true else lexAll C c
  | _ => true
def loopsOf : Code → List (Nat × Code)
  | .seq a b => loopsOf a ++ loopsOf b
  | .cond _ a b => loopsOf a ++ loopsOf b
  | .block id c => bif isLoop c then [(id, loopBody c)] else loopsOf c
  | _ => []
theorem plan_needs {P : Program} {C : Cfg} {N : Nat} {V : Nat → Nat → Bool} {ops : Array Oper} {st s1 : St} {n0 : Nat} {ks : List Nat} {Qs : St → Prop} : ∀ {l : List (List Nat)}, (planNeeds P C N V ops st s1 n0 ks l).ok Qs → Qs s1 ∧ ∀ o ∈ l, (runOrd P C.S C.G N .any C.E V ops o st).ok fun s2 => s2.ordC n0 ks = s1
  | [], h => ⟨h, fun o ho => by cases ho⟩
  | o :: l, h => by
    obtain ⟨h1, h2⟩ := h
    obtain ⟨h3, h4⟩ := plan_needs h2
    refine ⟨h3, fun o' ho' => ?_⟩
    rcases List.mem_cons.1 ho' with rfl | ho'
    · exact T.ok_bind h1
    · exact h4 o' ho'
theorem plan_all {P : Program} {C : Cfg} {N : Nat} {V : Nat → Nat → Bool} {ops : Array Oper} {st : St} {ks : List Nat} {Qs : St → Prop} {L : List (List Nat)} (h : (runPlan P C N V ops st ks L).ok Qs) : ∀ o ∈ L, (runOrd P C.S C.G N .any C.E V ops o st).ok fun s => Qs (s.ordC st.H.length ks) := by
  cases L with
  | nil => exact h.elim
  | cons o l =>
    have h := T.ok_bind h
    intro o' ho'
    rcases List.mem_cons.1 ho' with rfl | ho'
    · exact T.ok_mono (fun s hs => (plan_needs hs).1) h
    · obtain ⟨s1, hs1⟩ := T.ok_leaf h
      obtain ⟨h1, h2⟩ := plan_needs hs1
      exact T.ok_mono (fun s hs => by rw [hs]; exact h1) (h2 o' ho')
def RunOk (P : Program) (N : Nat) (c : Code) (st : St) (t : T (Ex × St)) : Prop :=
  ∀ (w0 : World) (bs : List Nat) (pre B : List Value) (a : Act) (w : World) (Qs : Ex × St → Prop) (Q : Exit → Act → World → Prop), pre <+: B → Slots N st.fr B a → Mem w0 bs st.H B w → t.ok Qs →
    (∀ r B' a' w', Qs r → pre <+: B' → Slots N r.2.fr B' a' → Mem w0 bs r.2.H B' w' → Q r.1.to a' w') → c.wp P Q a w
theorem region_ok (hC : CfgOk P C) (hP : P.follows .mixedOrders = true) (id : Nat) (ops : Array Oper) (draw : Bool) (st : St) (hlex : lexAll C (.region id ops draw) = true) : RunOk P N (.region id ops draw) st ((runRegion P C N id ops draw st).bind fun st => (splitAll C.X id st).bind fun st => .leaf (.normal, st)) := by
  intro w0 bs pre B a w Qs Q hp h hm hq hQ
  have hq := T.ok_bind hq
  have hQ2 : ∀ (st : St) B a w, ((splitAll C.X id st).bind fun st => T.leaf (Ex.normal, st)).ok Qs → pre <+: B → Slots N st.fr B a → Mem w0 bs st.H B w → Q .normal a w := by
    intro st B a w hqs hp h hm
    obtain ⟨st', q, h', hm'⟩ := splitAll_ok (T.ok_bind hqs) h hm
    exact hQ (.normal, st') B a w q hp h' hm'
  unfold runRegion at hq
  cases draw
  · rw [cond_false] at hq
    exact wp_region_list (runOps_ok hC.S hC.G (fun st B a w hqs hp h hm => hQ2 st B a w hqs hp h hm) ops.toList 0 st B a w hp h hm hq)
  · rw [cond_true] at hq
    cases hM : keepOf id C.M with
    | none =>
      rw [hM] at hq
      simp only [lexAll, cond_true, hM] at hlex
      have hsz : ops.toList.length = ops.size := by simp
      have hA := AG_lex (P := P) (S := C.S) (G := C.G) (N := N) (E := C.E) (V := visOf ops (scanOps P C N ops ops.toList 0 st)) (md := .any) (QQ := fun st' => ∃ st2, SEq st2 st' ∧ ((splitAll C.X id st2).bind fun st => T.leaf (Ex.normal, st)).ok Qs) (fun a b hab ⟨c, h1, h2⟩ => ⟨c, ⟨fun t => (h1.1 t).trans (hab.1 t), h1.2.trans hab.2⟩, h2⟩)
        ops.toList 0 (Array.replicate ops.size false) st (by simp) (by rw [hsz]; exact hlex) (fun j o _ hl => by
          rw [Array.getD_eq_getD_getElem?, Array.getElem?_replicate] at hl
          split at hl <;> cases hl) (T.ok_mono (fun a ha => ⟨a, SEq.refl a, ha⟩) hq)
      rw [hsz] at hA
      refine wp_region_any hP (AG_sound hC.S hC.G (pre := pre) (fun st' B' a' w' ⟨st2, he, hqs⟩ hp' h' hm' => ?_) _ _ st B a _ hp h hm.drew hA)
      exact hQ2 st2 B' a' w' hqs hp' ⟨h'.size, h'.defers, fun t s e => h'.slot t s (by rw [← he.1 t]; exact e)⟩ (by rw [he.2]; exact hm')
    | some ks =>
      rw [hM] at hq
      simp only at hq
      split at hq
      · rename_i L hL
        have hlen : B.length = st.H.length := hm.sat.len
        have hB0 : B.take st.H.length = B := List.take_of_length_le (by omega)
        have hA := orders_AG (P := P) (S := C.S) (G := C.G) (N := N) (E := C.E) (V := visAll C ops (scanOps P C N ops ops.toList 0 st) st.H.length) (md := .any) (ops := ops) (QQ := fun st' => ((splitAll C.X id (st'.ordC st.H.length ks)).bind fun st => T.leaf (Ex.normal, st)).ok Qs) (fun a b hab h1 => by rw [← ordC_congr hab]; exact h1)
          ops.size (Array.replicate ops.size false) st L hL (fun j o _ hl => by
            rw [Array.getD_eq_getD_getElem?, Array.getElem?_replicate] at hl
            split at hl <;> cases hl) (plan_all hq)
        refine wp_region_any hP (AG_sound hC.S hC.G (pre := B) (fun st' B' a' w' hqs hp' h' hm' => ?_) _ _ st B a _ (List.prefix_refl _) h hm.drew hA)
        have hnB : st.H.length ≤ B'.length := by have := hp'.length_le; omega
        obtain ⟨B2, p2, h2, m2⟩ := ordC_ok (M := ks) h' hm' hnB
        have hBt : B'.take st.H.length = B := by
          obtain ⟨l, rfl⟩ := hp'
          rw [← hlen, List.take_left]
        rw [hBt] at p2
        exact hQ2 _ B2 a' w' hqs (hp.trans p2) h2 m2
      · exact hq.elim
theorem runC_ok (hC : CfgOk P C) (hP : P.follows .mixedOrders = true) {L : Nat → St → Option (T (Ex × St))} : ∀ (c : Code), lexAll C c = true → (∀ id body, (id, body) ∈ loopsOf c → ∀ st t, L id st = some t → RunOk P N (.block id (.loop body)) st t) → ∀ st, RunOk P N c st (runC P C L N c st)
  | .skip, _, _, st => fun w0 bs pre B a w Qs Q hp h hm hq hQ => wp_skip (hQ (.normal, st) B a w hq hp h hm)
  | .region id ops draw, hlex, _, st => by simp only [runC]; exact region_ok hC hP id ops draw st hlex
  | .seq x y, hlex, hL, st => fun w0 bs pre B a w Qs Q hp h hm hq hQ => by
    simp only [runC] at hq
    refine wp_seq (runC_ok hC hP x (by simp only [lexAll, Bool.and_eq_true] at hlex; exact hlex.1) (fun id body hm => hL id body (by simp only [loopsOf]; exact List.mem_append_left _ hm)) st w0 bs pre B a w _ _ hp h hm (T.ok_bind hq) fun r B' a' w' hq' hp' h' hm' => ?_)
    obtain ⟨e, st'⟩ := r
    cases e with
    | normal => exact runC_ok hC hP y (by simp only [lexAll, Bool.and_eq_true] at hlex; exact hlex.2) (fun id body hm => hL id body (by simp only [loopsOf]; exact List.mem_append_right _ hm)) st' w0 bs pre B' a' w' Qs Q hp' h' hm' hq' hQ
    | exit id => exact hQ _ B' a' w' hq' hp' h' hm'
    | ret => exact hQ _ B' a' w' hq' hp' h' hm'
  | .cond c x y, hlex, hL, st => fun w0 bs pre B a w Qs Q hp h hm hq hQ => by
    simp only [runC] at hq
    split at hq
    · rename_i hc
      have hv := h.val hc
      simp only [SV.to, Option.some.injEq] at hv
      exact wp_cond_true hv.symm (runC_ok hC hP x (by simp only [lexAll, Bool.and_eq_true] at hlex; exact hlex.1) (fun id body hm => hL id body (by simp only [loopsOf]; exact List.mem_append_left _ hm)) st w0 bs pre B a w Qs Q hp h hm hq hQ)
    · rename_i hc
      have hv := h.val hc
      simp only [SV.to, Option.some.injEq] at hv
      exact wp_cond_false hv.symm (runC_ok hC hP y (by simp only [lexAll, Bool.and_eq_true] at hlex; exact hlex.2) (fun id body hm => hL id body (by simp only [loopsOf]; exact List.mem_append_right _ hm)) st w0 bs pre B a w Qs Q hp h hm hq hQ)
    · rename_i b hc
      have hv := h.val hc
      simp only [SV.to, Option.some.injEq] at hv
      refine wp_cond_split hv.symm (fun hb => ?_) (fun hb => ?_)
      · exact runC_ok hC hP x (by simp only [lexAll, Bool.and_eq_true] at hlex; exact hlex.1) (fun id body hm => hL id body (by simp only [loopsOf]; exact List.mem_append_left _ hm)) (st.knows c .tt) w0 bs pre B a w Qs Q hp (h.knows (s := .tt) hc (by rw [hb]; rfl)) (by rw [St.knows_H]; exact hm) (hq.1 hb) hQ
      · exact runC_ok hC hP y (by simp only [lexAll, Bool.and_eq_true] at hlex; exact hlex.2) (fun id body hm => hL id body (by simp only [loopsOf]; exact List.mem_append_right _ hm)) (st.knows c .ff) w0 bs pre B a w Qs Q hp (h.knows (s := .ff) hc (by rw [hb]; rfl)) (by rw [St.knows_H]; exact hm) (hq.2 hb) hQ
    · exact hq.elim
  | .block id c, hlex, hL, st => fun w0 bs pre B a w Qs Q hp h hm hq hQ => by
    simp only [runC] at hq
    cases hb : isLoop c
    · rw [hb, cond_false] at hq
      refine wp_block (runC_ok hC hP c (by simpa only [lexAll, hb, cond_false] using hlex) (fun id' body hm => hL id' body (by simp only [loopsOf, hb, cond_false]; exact hm)) st w0 bs pre B a w _ _ hp h hm (T.ok_bind hq) fun r B' a' w' hq' hp' h' hm' => ?_)
      obtain ⟨e, st'⟩ := r
      cases e with
      | normal => exact hQ _ B' a' w' hq' hp' h' hm'
      | ret => exact hQ _ B' a' w' hq' hp' h' hm'
      | exit j =>
        simp only [Ex.to, Exit.inBlock]
        simp only at hq'
        by_cases e : j = id
        · subst e
          simp only [Nat.beq_refl, cond_true] at hq'
          rw [if_pos rfl]
          exact hQ _ B' a' w' hq' hp' h' hm'
        · have hbe : Nat.beq j id = false := by
            cases hbe : Nat.beq j id
            · rfl
            · exact absurd (Nat.eq_of_beq_eq_true hbe) e
          rw [hbe, cond_false] at hq'
          rw [if_neg e]
          exact hQ _ B' a' w' hq' hp' h' hm'
    · rw [hb, cond_true] at hq
      have hc := isLoop_eq hb
      split at hq
      · rename_i t ht
        rw [hc]
        exact hL id (loopBody c) (by simp [loopsOf, hb]) st t ht w0 bs pre B a w Qs Q hp h hm hq hQ
      · exact hq.elim
  | .exit id, _, _, st => fun w0 bs pre B a w Qs Q hp h hm hq hQ => wp_exit (hQ (.exit id, st) B a w hq hp h hm)
  | .ret, _, _, st => fun w0 bs pre B a w Qs Q hp h hm hq hQ => wp_ret (hQ (.ret, st) B a w hq hp h hm)
  | .loop _, _, _, _ => fun _ _ _ _ _ _ _ _ _ _ _ hq _ => hq.elim
  | .rangeFunc .., _, _, _ => fun _ _ _ _ _ _ _ _ _ _ _ hq _ => hq.elim
  | .scope _, _, _, _ => fun _ _ _ _ _ _ _ _ _ _ _ hq _ => hq.elim
  | .label _, _, _, _ => fun _ _ _ _ _ _ _ _ _ _ _ hq _ => hq.elim
  | .goto _, _, _, _ => fun _ _ _ _ _ _ _ _ _ _ _ hq _ => hq.elim
  | .refuse _, _, _, _ => fun _ _ _ _ _ _ _ _ _ _ _ hq _ => hq.elim
def mkTup (l : List SV) : SV := match plains l with | some xs => .v (.tuple xs.toArray) | none => .tup l
theorem mkTup_to {B : List Value} {l : List SV} {xs : List Value} (h : SV.tos B l = some xs) : (mkTup l).to B = some (.tuple xs.toArray) := by
  unfold mkTup
  split
  · rename_i ys hy
    rw [plains_to hy] at h
    simp only [Option.some.injEq] at h; subst h; rfl
  · simp [SV.to, h]
def resV (P : Program) (st : St) : ResultVar → T SV
  | .tmp t => leafO 50 (look st.fr t)
  | .cell a t => evalLoad P ⟨st.val, fun k => st.H[k]?, 0⟩ t (.tmp a)
def resL (P : Program) (st : St) : List ResultVar → T (List SV)
  | [] => .leaf []
  | r :: l => (resV P st r).bind fun s => (resL P st l).bind fun ss => .leaf (s :: ss)
def oneOr (l : List SV) : SV := match l with | [s] => s | l => mkTup l
def resT (P : Program) (fn : Func) (st : St) : T SV := (resL P st fn.results.toList).bind fun l => .leaf (oneOr l)
def runF (P : Program) (C : Cfg) (L : Nat → St → Option (T (Ex × St))) (fn : Func) (c : Code) (args : List SV) (H : List Blk) : T (SV × List Blk) :=
  bif Nat.ble args.length fn.ntmps then
    (runC P C L fn.ntmps c ⟨(args.zipIdx).map fun p => (p.2, some p.1), H⟩).bind fun r => match r.1 with
      | .exit _ => .stuck 51
      | _ => (resT P fn r.2).bind fun s => .leaf (s, r.2.H)
  else .stuck 52
end
end Go.Proofs.YtbippdeahoehoaaGreat.Sym
namespace Go.Proofs.YtbippdeahoehoaaGreat.Sym
open Go.RowKit
section
variable {P : Program} {C : Cfg} {N : Nat} {w0 : World} {bs : List Nat}
def resSem (tmps : Array Value) : ResultVar → Sem Value
  | .tmp t => pure (tmps.getD t undef)
  | .cell a t => do loadVar t (← asAddr (tmps.getD a undef))
theorem resV_ok {D : List Deferred} {st : St} {B : List Value} {a : Act} {w : World} (h : SlotsD D N st.fr B a) (hm : Mem w0 bs st.H B w) {r : ResultVar} {Qs : SV → Prop} (hq : (resV P st r).ok Qs) : ∃ s x, Qs s ∧ s.to B = some x ∧ (resSem a.tmps r).run P w = .ok x w := by
  cases r with
  | tmp t =>
    obtain ⟨s, hs, hqs⟩ := leafO_ok hq
    exact ⟨s, _, hqs, h.slot t s hs, rfl⟩
  | cell c t =>
    obtain ⟨s, hqs, x, hx, hr⟩ := evalLoad_ok (P := P) (w0 := w0) (bs := bs) (V := ⟨st.val, fun k => st.H[k]?, 0⟩) ⟨fun _ _ e => h.val e, fun _ _ e => e⟩ hm (o := ⟨none, .load t (.tmp c), 0, "", #[], none⟩) rfl hq
    refine ⟨s, x, hqs, hx, ?_⟩
    have h1 := hr w hm
    have hp : ∃ p, a.tmps.getD c undef = .pointer (some p) := by
      simp only [resV] at hq
      unfold evalLoad at hq
      split at hq
      · split at hq
        · rename_i k off hk
          have := h.val (st := st) (x := .tmp c) hk
          simp only [SV.to] at this
          split at this
          · simp only [Option.some.injEq] at this; exact ⟨_, this.symm⟩
          · cases this
        · rename_i k sz i off hk
          have := h.val (st := st) (x := .tmp c) hk
          simp only [SV.to] at this
          split at this
          · simp only [Option.some.injEq] at this; exact ⟨_, this.symm⟩
          · cases this
        · exact hq.elim
      · exact hq.elim
    obtain ⟨p, hp⟩ := hp
    have hex : execOp a.eval ⟨none, .load t (.tmp c), 0, "", #[], none⟩ = (do pure (Next.value (← Instr.loadAt t (.pointer (some p)))) : Sem Next) := by
      unfold execOp; simp only [Act.eval, hp]
    unfold Oper.quietAt at h1
    rw [hex] at h1
    have h2 := Sem.run_bind' P (Instr.loadAt t (.pointer (some p))) (fun x => Sem.pure (Next.value x)) w
    replace h1 : Oper.quietUpon P (Mem w0 bs st.H B) w x (((Instr.loadAt t (.pointer (some p))).run P w).andThen fun a w' => (Sem.pure (Next.value a)).run P w') := by rw [← h2]; exact h1
    simp only [resSem, hp]
    show (loadVar t p).run P w = _
    have e : (Instr.loadAt t (.pointer (some p))).run P w = (loadVar t p).run P w := rfl
    rw [e] at h1
    cases hl : (loadVar t p).run P w with
    | ok y w' =>
      rw [hl] at h1
      obtain ⟨rfl, rfl⟩ := h1
      rfl
    | halt y w' => rw [hl] at h1; exact h1.elim
theorem resL_ok {D : List Deferred} {st : St} {B : List Value} {a : Act} {w : World} (h : SlotsD D N st.fr B a) (hm : Mem w0 bs st.H B w) : ∀ {l : List ResultVar} {Qs : List SV → Prop}, (resL P st l).ok Qs → ∃ ss xs, Qs ss ∧ SV.tos B ss = some xs ∧ (l.mapM (resSem a.tmps)).run P w = .ok xs w
  | [], _, hq => ⟨[], [], hq, rfl, rfl⟩
  | r :: l, _, hq => by
    obtain ⟨s, x, hq2, hx, hr⟩ := resV_ok h hm (T.ok_bind hq)
    obtain ⟨ss, xs, hq3, hxs, hrs⟩ := resL_ok h hm (T.ok_bind hq2)
    refine ⟨s :: ss, x :: xs, hq3, by simp [SV.tos, hx, hxs], ?_⟩
    rw [List.mapM_cons, run_bind_ok hr, run_bind_ok hrs]
    rfl
theorem oneOr_to {B : List Value} {ss : List SV} {xs : List Value} (h : SV.tos B ss = some xs) : (oneOr ss).to B = some (if hh : xs.toArray.size = 1 then xs.toArray[0] else .tuple xs.toArray) := by
  have hl := tos_length h
  unfold oneOr
  split
  · rename_i s
    simp only [List.length_cons, List.length_nil] at hl
    obtain ⟨x, rfl⟩ := list1 xs hl
    simp only [SV.tos] at h
    split at h
    · rename_i y ys h1 h2
      simp only [Option.some.injEq, List.cons.injEq] at h
      simp [h1, h.1]
    · cases h
  · rename_i hne
    have : ¬ xs.toArray.size = 1 := by
      intro e
      have e1 : ss.length = 1 := by simpa [hl] using e
      match ss, e1 with
      | [s], _ => exact hne s rfl
    rw [dif_neg this]
    exact mkTup_to h
theorem resT_ok {D : List Deferred} {fn : Func} {st : St} {B : List Value} {a : Act} {w : World} (h : SlotsD D N st.fr B a) (hm : Mem w0 bs st.H B w) {Qs : SV → Prop} (hq : (resT P fn st).ok Qs) : ∃ s x, Qs s ∧ s.to B = some x ∧ (results fn a.tmps).run P w = .ok x w := by
  obtain ⟨ss, xs, hq2, hxs, hr⟩ := resL_ok h hm (T.ok_bind hq)
  refine ⟨_, _, hq2, oneOr_to hxs, ?_⟩
  unfold results
  have e : (fn.results.mapM fun
      | .tmp t => (pure (a.tmps.getD t undef) : Sem Value)
      | .cell c t => do loadVar t (← asAddr (a.tmps.getD c undef))) = List.toArray <$> fn.results.toList.mapM (resSem a.tmps) := by
    rw [Array.mapM_eq_mapM_toList]
    rfl
  have hr2 : (List.toArray <$> fn.results.toList.mapM (resSem a.tmps)).run P w = .ok xs.toArray w := by
    rw [map_eq_pure_bind, run_bind_ok hr]
    rfl
  rw [← e] at hr2
  exact run_bind_ok hr2 _
theorem look_args {B : List Value} : ∀ (args : List SV) (vs : List Value) (n : Nat), SV.tos B args = some vs → ∀ t s, look ((args.zipIdx n).map fun p => (p.2, some p.1)) t = some s → n ≤ t ∧ ∃ x, vs[t - n]? = some x ∧ s.to B = some x
  | [], _, _, _, _, _, h => by simp [look] at h
  | u :: args, vs, n, hv, t, s, h => by
    simp only [SV.tos] at hv
    split at hv
    · rename_i x xs h1 h2
      simp only [Option.some.injEq] at hv
      subst hv
      simp only [List.zipIdx_cons, List.map_cons, look] at h
      by_cases e : n = t
      · subst e
        simp only [Nat.beq_refl, cond_true, Option.some.injEq] at h
        subst h
        exact ⟨Nat.le_refl _, x, by simp, h1⟩
      · have hb : Nat.beq n t = false := by
          cases hb : Nat.beq n t
          · rfl
          · exact absurd (Nat.eq_of_beq_eq_true hb) e
        rw [hb, cond_false] at h
        obtain ⟨g1, y, g2, g3⟩ := look_args args xs (n + 1) h2 t s h
        refine ⟨by omega, y, ?_, g3⟩
        rw [show t - n = (t - (n + 1)) + 1 by omega, List.getElem?_cons_succ]
        exact g2
    · cases hv
theorem calls_of_runF (hC : CfgOk P C) (hP : P.follows .mixedOrders = true) {L : Nat → St → Option (T (Ex × St))} {f : FuncId} {fn : Func} {c : Code} (hf : P.funcs[f]? = some fn) (hb : fn.body = some c) (hlex : lexAll C c = true)
    (hL : ∀ id body, (id, body) ∈ loopsOf c → ∀ st t, L id st = some t → RunOk P fn.ntmps (.block id (.loop body)) st t)
    {args : List SV} {vs : List Value} {H : List Blk} {B : List Value} {w : World} (hv : SV.tos B args = some vs) (hm : Mem w bs H B w) {Qs : SV × List Blk → Prop} (hq : (runF P C L fn c args H).ok Qs) :
    Calls P f vs.toArray w fun e w' => ∃ s H' B' x, Qs (s, H') ∧ B <+: B' ∧ s.to B' = some x ∧ e = .returned x ∧ Mem w bs H' B' w' := by
  unfold runF at hq
  cases hn : Nat.ble args.length fn.ntmps
  · rw [hn] at hq; exact hq.elim
  · rw [hn, cond_true] at hq
    have hle := Nat.le_of_ble_eq_true hn
    have hlen := tos_length hv
    refine calls_of_wp hf hb ?_
    have hsl : Slots fn.ntmps ((args.zipIdx).map fun p => (p.2, some p.1)) B { tmps := vs.toArray ++ Array.replicate (fn.ntmps - vs.toArray.size) undef, defers := [] } := by
      refine ⟨by simp; omega, rfl, fun t s h => ?_⟩
      obtain ⟨-, x, g1, g2⟩ := look_args args vs 0 hv t s h
      rw [g2]
      have hlt : t < vs.length := (List.getElem?_eq_some_iff.1 g1).1
      rw [Array.getD_eq_getD_getElem?, Array.getElem?_append_left (by simpa using hlt)]
      simp only [Nat.sub_zero] at g1
      simp [g1]
    refine runC_ok hC hP c hlex hL _ w bs B B _ w _ _ (List.prefix_refl _) hsl hm (T.ok_bind hq) fun r B' a' w' hq' hp' h' hm' => ?_
    obtain ⟨e, st'⟩ := r
    cases e with
    | exit id => exact hq'.elim
    | normal =>
      obtain ⟨s, x, hq2, hx, hr⟩ := resT_ok h' hm' (T.ok_bind hq')
      exact ⟨h'.defers, x, hr, s, st'.H, B', x, hq2, hp', hx, rfl, hm'⟩
    | ret =>
      obtain ⟨s, x, hq2, hx, hr⟩ := resT_ok h' hm' (T.ok_bind hq')
      exact ⟨h'.defers, x, hr, s, st'.H, B', x, hq2, hp', hx, rfl, hm'⟩
theorem calls_pure (hC : CfgOk P C) (hP : P.follows .mixedOrders = true) {L : Nat → St → Option (T (Ex × St))} {f : FuncId} {fn : Func} {c : Code} (hf : P.funcs[f]? = some fn) (hb : fn.body = some c) (hlex : lexAll C c = true)
    (hL : ∀ id body, (id, body) ∈ loopsOf c → ∀ st t, L id st = some t → RunOk P fn.ntmps (.block id (.loop body)) st t)
    {vs : List Value} {v : Value} (hq : (runF P C L fn c (vs.map .v) []).ok fun r => r.1.to [] = some v) (w : World) :
    Calls P f vs.toArray w fun e w' => e = .returned v ∧ Below w.heap.size w w' := by
  refine (calls_of_runF (bs := []) (B := []) (w := w) hC hP hf hb hlex hL (tos_plain [] vs) ⟨⟨rfl, by simp, by simp [ExBlk], by simp [ExBlk]⟩, .refl _ _, by simp [ExBlk]⟩ hq).mono ?_
  rintro e w' ⟨s, H', B', x, hs, hp, hx, rfl, hm⟩
  have := SV.to_mono hp hs
  rw [hx] at this
  simp only [Option.some.injEq] at this
  subst this
  exact ⟨rfl, hm.keeps.below⟩
def onlyV : SV × List Blk → T Value
  | (s, _) => match s.plain with
    | some x => .leaf x
    | none => .stuck 53
def runV (P : Program) (C : Cfg) (L : Nat → St → Option (T (Ex × St))) (fn : Func) (vs : List Value) : T Value := (runF P C L fn (fn.body.getD .skip) (vs.map .v) []).bind onlyV
theorem calls_runV (hC : CfgOk P C) (hP : P.follows .mixedOrders = true) {L : Nat → St → Option (T (Ex × St))} {f : FuncId} {fn : Func} (hf : P.funcs[f]? = some fn) (hb : fn.body.isSome = true) (hlex : lexAll C (fn.body.getD .skip) = true)
    (hL : ∀ id body, (id, body) ∈ loopsOf (fn.body.getD .skip) → ∀ st t, L id st = some t → RunOk P fn.ntmps (.block id (.loop body)) st t)
    {vs : List Value} {t : T Value} (ht : runV P C L fn vs = t) {v : Value} (hq : t.ok fun x => x = v) (w : World) :
    Calls P f vs.toArray w fun e w' => e = .returned v ∧ Below w.heap.size w w' := by
  subst ht
  have hb' : fn.body = some (fn.body.getD .skip) := by
    cases h : fn.body with
    | none => rw [h] at hb; cases hb
    | some c => rfl
  refine calls_pure hC hP hf hb' hlex hL (T.ok_mono (fun r h => ?_) (T.ok_bind hq)) w
  obtain ⟨s, H⟩ := r
  simp only [onlyV] at h
  split at h
  · rename_i x hx
    have h : x = v := h
    subst h
    exact SV.plain_to hx []
  · exact (h : False).elim
def noL : Nat → St → Option (T (Ex × St)) := fun _ _ => none
theorem noL_ok {c : Code} : ∀ id body, (id, body) ∈ loopsOf c → ∀ st t, noL id st = some t → RunOk P N (.block id (.loop body)) st t := fun _ _ _ _ _ h => by cases h
def noG : GTab := fun _ _ _ _ => none
theorem noG_ok : GOk P noG := fun _ _ _ _ _ h => by cases h
def onlyS (P : Program) (S : Tab) : Cfg := ⟨S, noG, effE P [], [], []⟩
theorem onlyS_ok {S : Tab} (h : TabOk P S) : CfgOk P (onlyS P S) := ⟨h, noG_ok⟩
def noS : Tab := fun _ _ => none
theorem noS_ok : TabOk P noS := fun _ _ _ h => by cases h
def cTree : Option (List Prop × Value) → Option (T Value)
  | some (p, v) => some (needs p (.leaf v))
  | none => none
def addS (k : FuncId) (h : List Value → Option (List Prop × Value)) (S : Tab) : Tab := fun f xs => bif Nat.beq f k then cTree (h xs) else S f xs
theorem addS_ok {P : Program} {k : FuncId} {h : List Value → Option (List Prop × Value)} {S : Tab} (hS : TabOk P S) (hg : isGo P k = true) (hh : ∀ xs p v, h xs = some (p, v) → (∀ q ∈ p, q) → ∀ w, Calls P k xs.toArray w fun e w' => e = .returned v ∧ Below w.heap.size w w') : TabOk P (addS k h S) := by
  intro f xs t hf
  unfold addS at hf
  cases hb : Nat.beq f k
  · rw [hb] at hf; exact hS f xs t hf
  · rw [hb, cond_true] at hf
    obtain rfl : f = k := Nat.eq_of_beq_eq_true hb
    unfold cTree at hf
    split at hf
    · rename_i p v hp
      simp only [Option.some.injEq] at hf
      subst hf
      refine ⟨hg, fun v' hv => ?_⟩
      obtain ⟨h1, h2⟩ := needs_ok hv
      have h2 : v = v' := h2
      subst h2
      exact hh xs p v hp h1
    · cases hf
end
end Go.Proofs.YtbippdeahoehoaaGreat.Sym
namespace Go.Proofs.YtbippdeahoehoaaGreat.Sym
open Go.RowKit
theorem wp_loop_idx {P : Program} {Q : Exit → Act → World → Prop} {c : Code} {ι : Type} (I : ι → Act → World → Prop) (μ : ι → Nat)
    (round : ∀ i a w, I i a w → c.wp P (Exit.then (fun a' w' => ∃ j, μ j < μ i ∧ I j a' w') Q) a w) : ∀ i a w, I i a w → (Code.loop c).wp P Q a w := by
  intro i a w h₀ b k cs
  have key : ∀ n i a w, μ i = n → I i a w →
      ∃ e a' w', Q e a' w' ∧ Arrives P (lone (b.at a (.code c :: .inLoop c :: k)) cs w) b k cs e a' w' := by
    intro n
    induction n using Nat.strongRecOn with
    | _ n ih =>
      intro i a w hn hI
      obtain ⟨e, a₁, w₁, hq, harr⟩ := round i a w hI b (.inLoop c :: k) cs
      cases e with
      | normal =>
        obtain ⟨j, hlt, hI₁⟩ := hq
        obtain ⟨e₂, a₂, w₂, hq₂, harr₂⟩ := ih (μ j) (hn ▸ hlt) j a₁ w₁ rfl hI₁
        exact ⟨e₂, a₂, w₂, hq₂, .of_steps (Steps.trans harr (.one step_inLoop)) harr₂⟩
      | exit id => exact ⟨_, a₁, w₁, hq, .pass (x := .inLoop c) rfl (fun _ _ => .inl (by simp)) harr⟩
      | goto l => exact ⟨_, a₁, w₁, hq, .pass (x := .inLoop c) rfl (fun _ _ => .inl (by simp)) harr⟩
      | ret => exact ⟨_, a₁, w₁, hq, .pass (x := .inLoop c) rfl (fun _ _ => .inl (by simp)) harr⟩
      | panic ch => exact ⟨_, a₁, w₁, hq, .pass (x := .inLoop c) rfl (fun _ _ => .inl (by simp)) harr⟩
      | outgrown => exact ⟨_, a₁, w₁, hq, .pass (x := .inLoop c) rfl (fun _ _ => .inl (by simp)) harr⟩
  obtain ⟨e, a', w', hq, harr⟩ := key _ i a w rfl h₀
  exact ⟨e, a', w', hq, .of_steps (.one step_loop) harr⟩
mutual
def SV.under (n : Nat) : SV → Bool
  | .v _ | .c _ | .tt | .ff => true
  | .ptr k _ | .ref k | .elt k _ _ _ | .pre k _ => Nat.blt k n
  | .agg l | .tup l => SV.unders n l
  | .clo _ a b => SV.unders n a && SV.unders n b
  | .ifc _ s => SV.under n s
def SV.unders (n : Nat) : List SV → Bool
  | [] => true
  | s :: l => SV.under n s && SV.unders n l
end
theorem getElem?_of_prefix {B B2 : List Value} (h : B <+: B2) {k : Nat} (hk : k < B.length) : B[k]? = B2[k]? := by
  obtain ⟨t, rfl⟩ := h
  rw [List.getElem?_append_left hk]
mutual
theorem SV.under_to {B B2 : List Value} (h : B <+: B2) : ∀ {s : SV}, s.under B.length = true → s.to B = s.to B2
  | .v _, _ => rfl
  | .c _, _ => rfl
  | .tt, _ => rfl
  | .ff, _ => rfl
  | .ptr k off, e => by
    have hk : k < B.length := by simpa [SV.under, Nat.blt_eq] using e
    simp only [SV.to, getElem?_of_prefix h hk]
  | .ref k, e => by
    have hk : k < B.length := by simpa [SV.under, Nat.blt_eq] using e
    simp only [SV.to, getElem?_of_prefix h hk]
  | .elt k _ _ _, e => by
    have hk : k < B.length := by simpa [SV.under, Nat.blt_eq] using e
    simp only [SV.to, getElem?_of_prefix h hk]
  | .pre k _, e => by
    have hk : k < B.length := by simpa [SV.under, Nat.blt_eq] using e
    simp only [SV.to, getElem?_of_prefix h hk]
  | .agg l, e => by simp only [SV.to, SV.unders_tos h (l := l) e]
  | .tup l, e => by simp only [SV.to, SV.unders_tos h (l := l) e]
  | .clo fn a b, e => by
    simp only [SV.under, Bool.and_eq_true] at e
    simp only [SV.to, SV.unders_tos h (l := a) e.1, SV.unders_tos h (l := b) e.2]
  | .ifc t s, e => by simp only [SV.to, SV.under_to h (s := s) e]
theorem SV.unders_tos {B B2 : List Value} (h : B <+: B2) : ∀ {l : List SV}, SV.unders B.length l = true → SV.tos B l = SV.tos B2 l
  | [], _ => rfl
  | s :: l, e => by
    simp only [SV.unders, Bool.and_eq_true] at e
    simp only [SV.tos, SV.under_to h e.1, SV.unders_tos h e.2]
end
def cutS (n : Nat) : Option SV → Option SV
  | some s => bif s.under n then some s else none
  | none => none
def cutBlk (n : Nat) : Blk → Blk
  | .own cells => bif SV.unders n cells then .own cells else .gone
  | .lst e sz m cells => bif SV.unders n cells then .lst e sz m cells else .gone
  | .que e sz m xp cells => bif SV.unders n cells then .que e sz m xp cells else .gone
  | .pm K kl cells => bif SV.unders n cells then .pm K kl cells else .gone
  | b => b
theorem look_only {keep : List Nat} {g : Nat → Option SV} {t : Nat} {s : SV} (h : look (keep.map fun t => (t, g t)) t = some s) : g t = some s := by
  induction keep with
  | nil => simp [look] at h
  | cons u l ih =>
    simp only [List.map_cons, look] at h
    cases hb : Nat.beq u t
    · rw [hb, cond_false] at h; exact ih h
    · rw [hb, cond_true] at h
      obtain rfl := Nat.eq_of_beq_eq_true hb
      exact h
theorem only_get {H : List Blk} {n k : Nat} {x : Blk} (h : ((H.take n).map (cutBlk n))[k]? = some x) : k < n ∧ ∃ y, H[k]? = some y ∧ x = cutBlk n y := by
  rw [List.getElem?_map, List.getElem?_take] at h
  split at h
  · rename_i hk
    cases hy : H[k]? with
    | none => rw [hy] at h; cases h
    | some y =>
      rw [hy] at h
      simp only [Option.map_some, Option.some.injEq] at h
      exact ⟨hk, y, rfl, h.symm⟩
  · cases h
theorem cutBlk_excl {n : Nat} {y : Blk} (h : (cutBlk n y).excl = true) : y.excl = true := by
  cases y <;> first | exact h | rfl
theorem cutBlk_row {n : Nat} {y : Blk} {m sz : Nat} {f : Nat → Nat → Value} (h : cutBlk n y = .row m sz f) : y = .row m sz f := by
  cases y with
  | own cells =>
    simp only [cutBlk] at h
    cases hb : SV.unders n cells <;> rw [hb] at h <;> cases h
  | lst e sz m cells =>
    simp only [cutBlk] at h
    cases hb : SV.unders n cells <;> rw [hb] at h <;> cases h
  | que e sz m xp cells =>
    simp only [cutBlk] at h
    cases hb : SV.unders n cells <;> rw [hb] at h <;> cases h
  | pm K kl cells =>
    simp only [cutBlk] at h
    cases hb : SV.unders n cells <;> rw [hb] at h <;> cases h
  | _ => exact h
theorem only_mem {w0 : World} {bs : List Nat} {H : List Blk} {B B2 : List Value} {w : World} (h : Mem w0 bs H B2 w) (hp : B <+: B2) : Mem w0 bs ((H.take B.length).map (cutBlk B.length)) B w := by
  have hle : B.length ≤ B2.length := hp.length_le
  have hb : ∀ {k : Nat}, k < B.length → B[k]? = B2[k]? := fun hk => getElem?_of_prefix hp hk
  have ex : ∀ k b, ExBlk ((H.take B.length).map (cutBlk B.length)) B k b → ExBlk H B2 k b := by
    rintro k b ⟨x, u, h1, h2, h3, h4⟩
    obtain ⟨hk, y, hy, rfl⟩ := only_get h1
    exact ⟨y, u, hy, cutBlk_excl h2, by rw [← hb hk]; exact h3, h4⟩
  have rd : ∀ k b, RdBlk ((H.take B.length).map (cutBlk B.length)) B k b → RdBlk H B2 k b := by
    rintro k b ⟨m, sz, f, u, h1, h2, h3, h4, h5⟩
    obtain ⟨hk, y, hy, e⟩ := only_get h1
    exact ⟨m, sz, f, u, by rw [hy, cutBlk_row e.symm], h2, h3, by rw [← hb hk]; exact h4, h5⟩
  refine ⟨⟨?_, fun k x u hk hu => ?_, fun k j b h1 h2 => h.sat.sep k j b (ex _ _ h1) (ex _ _ h2), fun k j b h1 h2 => h.sat.far k j b (ex _ _ h1) (rd _ _ h2)⟩, h.keeps, fun k b h1 => h.good k b (ex _ _ h1)⟩
  · simp [← h.sat.len]; omega
  · obtain ⟨hkn, y, hy, rfl⟩ := only_get hk
    have hs := h.sat.blk k y u hy (by rw [← hb hkn]; exact hu)
    cases y with
    | own cells =>
      simp only [cutBlk]
      cases hbl : SV.unders B.length cells
      · exact trivial
      · rw [cond_true]
        obtain ⟨b, vs, h1, h2, h3⟩ := hs
        exact ⟨b, vs, h1, by rw [SV.unders_tos hp hbl]; exact h2, h3⟩
    | lst e sz m cells =>
      simp only [cutBlk]
      cases hbl : SV.unders B.length cells
      · exact trivial
      · rw [cond_true]
        obtain ⟨xs, h1, h2⟩ := hs
        exact ⟨xs, by rw [SV.unders_tos hp hbl]; exact h1, h2⟩
    | que e sz m xp cells =>
      simp only [cutBlk]
      cases hbl : SV.unders B.length cells
      · exact trivial
      · rw [cond_true]
        obtain ⟨xs, h1, h2⟩ := hs
        exact ⟨xs, by rw [SV.unders_tos hp hbl]; exact h1, h2⟩
    | pm K kl cells =>
      simp only [cutBlk]
      cases hbl : SV.unders B.length cells
      · exact trivial
      · rw [cond_true]
        obtain ⟨xs, h1, h2⟩ := hs
        exact ⟨xs, by rw [SV.unders_tos hp hbl]; exact h1, h2⟩
    | _ => exact hs
section
variable {P : Program} {C : Cfg} {N : Nat}
def Behind {ι : Type} (id : Nat) (I : ι → Prop) (inv : ι → St) (μ : ι → Nat) (i : ι) (Qs : Ex × St → Prop) (r : Ex × St) : Prop :=
  match r.1 with
  | .normal => ∃ j, I j ∧ μ j < μ i ∧ r.2 = inv j
  | .exit k => if k = id then Qs (.normal, r.2) else Qs r
  | .ret => Qs r
theorem nat_beq_ne {a b : Nat} (h : a ≠ b) : Nat.beq a b = false := by
  cases hb : Nat.beq a b
  · rfl
  · exact absurd (Nat.eq_of_beq_eq_true hb) h
def unrollB (run : St → T (Ex × St)) (id : Nat) : Nat → St → T (Ex × St)
  | 0, _ => .stuck 38
  | n + 1, st => (run st).bind fun r => match r.1 with
    | .normal => unrollB run id n r.2
    | .exit k => bif Nat.beq k id then .leaf (.normal, r.2) else .leaf r
    | .ret => .leaf r
theorem unroll_ok (hC : CfgOk P C) (hP : P.follows .mixedOrders = true) {Lb : Nat → St → Option (T (Ex × St))} {id : Nat} {body : Code} (hlex : lexAll C body = true)
    (hL : ∀ id' b, (id', b) ∈ loopsOf body → ∀ st t, Lb id' st = some t → RunOk P N (.block id' (.loop b)) st t) (n : Nat) (st : St) : RunOk P N (.block id (.loop body)) st (unrollB (runC P C Lb N body) id n st) := by
  intro w0 bs pre B a w Qs Q hp hsl hm hq hQ
  refine wp_block ?_
  refine wp_loop_idx (ι := Nat) (fun m a w => ∃ st B, (unrollB (runC P C Lb N body) id m st).ok Qs ∧ pre <+: B ∧ Slots N st.fr B a ∧ Mem w0 bs st.H B w) (fun m => m) (fun m a w hi => ?_) n a w ⟨st, B, hq, hp, hsl, hm⟩
  obtain ⟨st, B, hq, hp, hsl, hm⟩ := hi
  cases m with
  | zero => exact hq.elim
  | succ m =>
    refine runC_ok hC hP body hlex hL st w0 bs pre B a w _ _ hp hsl hm (T.ok_bind hq) fun r B' a' w' hr hpre hs' hm' => ?_
    obtain ⟨e, st'⟩ := r
    cases e with
    | normal => exact ⟨m, Nat.lt_succ_self _, st', B', hr, hpre, hs', hm'⟩
    | ret => exact hQ _ B' a' w' hr hpre hs' hm'
    | exit k =>
      simp only [Ex.to, Exit.then, Exit.inBlock]
      by_cases e : k = id
      · subst e
        simp only [Nat.beq_refl, cond_true] at hr
        rw [if_pos rfl]
        exact hQ _ B' a' w' hr hpre hs' hm'
      · simp only [nat_beq_ne e, cond_false] at hr
        rw [if_neg e]
        exact hQ _ B' a' w' hr hpre hs' hm'
theorem one_loop {c b : Code} {id : Nat} {L : Nat → St → Option (T (Ex × St))} (h : loopsOf c = [(id, b)]) (hb : ∀ st t, L id st = some t → RunOk P N (.block id (.loop b)) st t) :
    ∀ id' b', (id', b') ∈ loopsOf c → ∀ st t, L id' st = some t → RunOk P N (.block id' (.loop b')) st t := by
  intro id' b' hm
  rw [h, List.mem_singleton, Prod.mk.injEq] at hm
  obtain ⟨rfl, rfl⟩ := hm
  exact hb
theorem two_loops {c b1 b2 : Code} {id1 id2 : Nat} {L : Nat → St → Option (T (Ex × St))} (h : loopsOf c = [(id1, b1), (id2, b2)]) (hb1 : ∀ st t, L id1 st = some t → RunOk P N (.block id1 (.loop b1)) st t) (hb2 : ∀ st t, L id2 st = some t → RunOk P N (.block id2 (.loop b2)) st t) :
    ∀ id' b', (id', b') ∈ loopsOf c → ∀ st t, L id' st = some t → RunOk P N (.block id' (.loop b')) st t := by
  intro id' b' hm
  rw [h] at hm
  simp only [List.mem_cons, Prod.mk.injEq, List.not_mem_nil, or_false] at hm
  rcases hm with ⟨rfl, rfl⟩ | ⟨rfl, rfl⟩
  · exact hb1
  · exact hb2
def loopAt (fn : Func) (k : Nat) : Code := ((loopsOf (fn.body.getD .skip)).getD k (0, .skip)).2
def addL (id : Nat) (f : St → T (Ex × St)) (L : Nat → St → Option (T (Ex × St))) : Nat → St → Option (T (Ex × St)) := fun i st => bif Nat.beq i id then some (f st) else L i st
theorem addL_same {id : Nat} {f : St → T (Ex × St)} {L : Nat → St → Option (T (Ex × St))} {st : St} {t : T (Ex × St)} (h : addL id f L id st = some t) : t = f st := by
  unfold addL at h
  rw [Nat.beq_refl, cond_true, Option.some.injEq] at h
  exact h.symm
theorem addL_other {id i : Nat} {f : St → T (Ex × St)} {L : Nat → St → Option (T (Ex × St))} {st : St} {t : T (Ex × St)} (hne : i ≠ id) (h : addL id f L i st = some t) : L i st = some t := by
  unfold addL at h
  rw [nat_beq_ne hne, cond_false] at h
  exact h
end
end Go.Proofs.YtbippdeahoehoaaGreat.Sym
namespace Go.Proofs.YtbippdeahoehoaaGreat.Sym
open Go.RowKit
def isSome' (j : Nat) : Option Nat → Bool
  | some i => Nat.beq i j
  | none => false
def distinct : List (Option Nat) → Bool
  | [] => true
  | none :: l => distinct l
  | some j :: l => !(l.any (isSome' j)) && distinct l
theorem distinct_inj : ∀ {js : List (Option Nat)}, distinct js = true → ∀ {a b j : Nat}, js[a]? = some (some j) → js[b]? = some (some j) → a = b
  | [], _, a, b, j, ha, _ => by simp at ha
  | none :: l, h, a, b, j, ha, hb => by
    cases a with
    | zero => simp at ha
    | succ a => cases b with
      | zero => simp at hb
      | succ b => have := distinct_inj (js := l) h (a := a) (b := b) (j := j) (by simpa using ha) (by simpa using hb); omega
  | some i :: l, h, a, b, j, ha, hb => by
    simp only [distinct, Bool.and_eq_true, Bool.not_eq_true'] at h
    have no : ∀ c : Nat, l[c]? = some (some i) → False := by
      intro c hc
      have := List.any_eq_false.1 h.1 _ (List.mem_of_getElem? hc)
      simp [isSome'] at this
    cases a with
    | zero =>
      simp at ha; subst ha
      cases b with
      | zero => rfl
      | succ b => exact (no b (by simpa using hb)).elim
    | succ a => cases b with
      | zero => simp at hb; subst hb; exact (no a (by simpa using ha)).elim
      | succ b => have := distinct_inj (js := l) h.2 (a := a) (b := b) (j := j) (by simpa using ha) (by simpa using hb); omega
def srcOf : Option SV → Option Nat
  | some (.ref j) => some j
  | some (.ptr j off) => bif Nat.beq off 0 then some j else none
  | _ => none
def isNilS : Option SV → Bool
  | some (.c (.slice none 0 0)) => true
  | some (.v (.slice none 0 0)) => true
  | _ => false
def movedSV (n : Nat) : Option SV → Option SV
  | some (.ref _) => some (.ref n)
  | some (.ptr _ off) => bif Nat.beq off 0 then some (.ptr n 0) else none
  | s => bif isNilS s then some (.ref n) else none
def openVec : Blk → Blk
  | .vec _ e sz n xs => .vec true e sz n xs
  | b => b
def movedBlk (n0 : Nat) (H : List Blk) (e : TypeId) (sz : Nat) (s : Option SV) : Blk :=
  match srcOf s with
  | some j => (match H[j]? with | some b => cutBlk n0 (openVec b) | none => .gone)
  | none => bif isNilS s then .vec true e sz 0 [] else .gone
def keptBlks (n0 : Nat) (js : List (Option Nat)) : Nat → List Blk → List Blk
  | _, [] => []
  | k, b :: l => (bif js.any (isSome' k) then .gone else cutBlk n0 b) :: keptBlks n0 js (k + 1) l
theorem keptBlks_get {n0 : Nat} {js : List (Option Nat)} : ∀ {l : List Blk} {i k : Nat} {x : Blk}, (keptBlks n0 js i l)[k]? = some x → ∃ b, l[k]? = some b ∧ x = bif js.any (isSome' (i + k)) then .gone else cutBlk n0 b
  | [], _, _, _, h => by simp [keptBlks] at h
  | b :: l, i, 0, x, h => by simp only [keptBlks, List.getElem?_cons_zero, Option.some.injEq] at h; exact ⟨b, rfl, h.symm⟩
  | b :: l, i, k + 1, x, h => by
    simp only [keptBlks, List.getElem?_cons_succ] at h
    obtain ⟨b', h1, h2⟩ := keptBlks_get h
    exact ⟨b', by simpa using h1, by rw [h2, show i + 1 + k = i + (k + 1) by omega]⟩
theorem keptBlks_length {n0 : Nat} {js : List (Option Nat)} : ∀ (l : List Blk) (i : Nat), (keptBlks n0 js i l).length = l.length
  | [], _ => rfl
  | _ :: l, i => by simp [keptBlks, keptBlks_length l (i + 1)]
abbrev Mv := List (Nat × TypeId × Nat)
def srcs (mv : Mv) (fr : List (Nat × Option SV)) : List (Option Nat) := mv.map fun m => srcOf (look fr m.1)
def mvFr (n : Nat) (fr : List (Nat × Option SV)) : Mv → List (Nat × Option SV)
  | [] => []
  | m :: l => (m.1, movedSV n (look fr m.1)) :: mvFr (n + 1) fr l
def openS : SV → SV
  | .c x => .v x
  | .tt => .v (.bool true)
  | .ff => .v (.bool false)
  | s => s
def openO : Option SV → Option SV
  | some s => some (openS s)
  | none => none
theorem openS_to {B : List Value} (s : SV) : (openS s).to B = s.to B := by cases s <;> rfl
theorem opens_tos {B : List Value} : ∀ (l : List SV), SV.tos B (l.map openS) = SV.tos B l
  | [] => rfl
  | s :: l => by simp only [List.map_cons, SV.tos, openS_to, opens_tos l]
def openBlk : Blk → Blk
  | .own cells => .own (cells.map openS)
  | b => b
theorem openBlk_excl (x : Blk) : (openBlk x).excl = x.excl := by cases x <;> rfl
theorem openBlk_row {x : Blk} {n sz : Nat} {f : Nat → Nat → Value} (h : openBlk x = .row n sz f) : x = .row n sz f := by cases x <;> first | exact h | cases h
theorem openBlk_sat {B : List Value} {w : World} {u : Value} {x : Blk} (h : BlkSat B w u x) : BlkSat B w u (openBlk x) := by
  cases x with
  | own cells =>
    obtain ⟨b, vs, h1, h2, h3⟩ := h
    exact ⟨b, vs, h1, by rw [opens_tos]; exact h2, h3⟩
  | _ => exact h
theorem openBlk_mem {w0 : World} {bs : List Nat} {H : List Blk} {B : List Value} {w : World} (h : Mem w0 bs H B w) : Mem w0 bs (H.map openBlk) B w := by
  have get : ∀ {k : Nat} {x : Blk}, (H.map openBlk)[k]? = some x → ∃ y, H[k]? = some y ∧ x = openBlk y := by
    intro k x hk
    rw [List.getElem?_map, Option.map_eq_some_iff] at hk
    obtain ⟨y, hy, rfl⟩ := hk
    exact ⟨y, hy, rfl⟩
  have ex : ∀ k b, ExBlk (H.map openBlk) B k b → ExBlk H B k b := by
    rintro k b ⟨x, u, h1, h2, h3, h4⟩
    obtain ⟨y, hy, rfl⟩ := get h1
    exact ⟨y, u, hy, by rw [← openBlk_excl]; exact h2, h3, h4⟩
  have rd : ∀ k b, RdBlk (H.map openBlk) B k b → RdBlk H B k b := by
    rintro k b ⟨n, sz, f, u, h1, h2, h3, h4, h5⟩
    obtain ⟨y, hy, e⟩ := get h1
    exact ⟨n, sz, f, u, by rw [hy, openBlk_row e.symm], h2, h3, h4, h5⟩
  refine ⟨⟨by simp [h.sat.len], fun k x u hk hu => ?_, fun k j b h1 h2 => h.sat.sep k j b (ex _ _ h1) (ex _ _ h2), fun k j b h1 h2 => h.sat.far k j b (ex _ _ h1) (rd _ _ h2)⟩, h.keeps, fun k b h1 => h.good k b (ex _ _ h1)⟩
  obtain ⟨y, hy, rfl⟩ := get hk
  exact openBlk_sat (h.sat.blk k y u hy hu)
def St.tidy (n0 : Nat) (keep : List Nat) (mv : Mv) (ks : List Nat) (st : St) : St :=
  ⟨mvFr n0 st.fr mv ++ keep.map (fun t => (t, openO (cutS n0 (look st.fr t)))),
   (ks.foldl softAt (keptBlks n0 (srcs mv st.fr) 0 (st.H.take n0) ++ (bif distinct (srcs mv st.fr) then mv.map fun m => movedBlk n0 st.H m.2.1 m.2.2 (look st.fr m.1) else mv.map fun _ => .gone))).map openBlk⟩
theorem look_append {a b : List (Nat × Option SV)} {t : Nat} {s : SV} (h : look (a ++ b) t = some s) : look a t = some s ∨ look b t = some s := by
  induction a with
  | nil => exact .inr h
  | cons p l ih =>
    obtain ⟨u, o⟩ := p
    simp only [List.cons_append, look] at h ⊢
    cases hb : Nat.beq u t
    · rw [hb, cond_false] at h; exact ih h
    · rw [hb, cond_true] at h; exact .inl h
theorem look_mvFr {fr : List (Nat × Option SV)} {t : Nat} {s : SV} : ∀ {mv : Mv} {n : Nat}, look (mvFr n fr mv) t = some s → ∃ i m, mv[i]? = some m ∧ m.1 = t ∧ movedSV (n + i) (look fr t) = some s
  | [], _, h => by simp [mvFr, look] at h
  | m :: l, n, h => by
    simp only [mvFr, look] at h
    cases hb : Nat.beq m.1 t
    · rw [hb, cond_false] at h
      obtain ⟨i, m', h1, h2, h3⟩ := look_mvFr h
      exact ⟨i + 1, m', by simpa using h1, h2, by rw [show n + (i + 1) = n + 1 + i by omega]; exact h3⟩
    · rw [hb, cond_true] at h
      have e := Nat.eq_of_beq_eq_true hb
      exact ⟨0, m, rfl, e, by rw [← e]; exact h⟩
def mvVals (a : Act) (mv : Mv) : List Value := mv.map fun m => a.tmps.getD m.1 undef
theorem tidy_slots {N n0 : Nat} {st : St} {B : List Value} {a : Act} (h : Slots N st.fr B a) (hn : n0 ≤ B.length) (keep : List Nat) (mv : Mv) (ks : List Nat) : Slots N (st.tidy n0 keep mv ks).fr (B.take n0 ++ mvVals a mv) a := by
  refine ⟨h.size, h.defers, fun t s e => ?_⟩
  have hlt : (B.take n0).length = n0 := by simp; omega
  rcases look_append e with e | e
  · obtain ⟨i, m, h1, h2, h3⟩ := look_mvFr e
    have hu : (B.take n0 ++ mvVals a mv)[n0 + i]? = some (a.tmps.getD t undef) := by
      rw [List.getElem?_append_right (by omega), hlt, Nat.add_sub_cancel_left]
      simp [mvVals, h1, h2]
    unfold movedSV at h3
    split at h3
    · simp only [Option.some.injEq] at h3; subst h3; exact hu
    · rename_i j off hl
      cases hb : Nat.beq off 0
      · rw [hb] at h3; cases h3
      · rw [hb, cond_true, Option.some.injEq] at h3
        subst h3
        have e0 := Nat.eq_of_beq_eq_true hb
        subst e0
        have h4 := h.slot t _ hl
        simp only [SV.to] at h4
        split at h4
        · simp only [Option.some.injEq] at h4
          simp only [SV.to, hu, ← h4]
        · cases h4
    · cases hb : isNilS (look st.fr t)
      · rw [hb] at h3; cases h3
      · rw [hb, cond_true, Option.some.injEq] at h3
        subst h3; exact hu
  · have e := look_only e
    have e : ∃ s0, cutS n0 (look st.fr t) = some s0 ∧ s = openS s0 := by
      cases hc : cutS n0 (look st.fr t) with
      | none => rw [hc] at e; cases e
      | some s0 => rw [hc] at e; simp only [openO, Option.some.injEq] at e; exact ⟨s0, rfl, e.symm⟩
    obtain ⟨s0, e9, rfl⟩ := e
    rw [openS_to]
    unfold cutS at e9
    split at e9
    · rename_i s' hs
      cases hb : s'.under n0
      · rw [hb] at e9; cases e9
      · rw [hb, cond_true, Option.some.injEq] at e9
        subst e9
        have h1 := h.slot t s' hs
        have h2 : s'.to (B.take n0) = s'.to B := SV.under_to (List.take_prefix _ _) (by rw [hlt]; exact hb)
        rw [← h2] at h1
        exact SV.to_mono (List.prefix_append _ _) h1
    · cases e9
theorem openVec_excl (x : Blk) : (openVec x).excl = x.excl := by cases x <;> rfl
theorem openVec_sat {B : List Value} {w : World} {u : Value} {x : Blk} (h : BlkSat B w u x) : BlkSat B w u (openVec x) := by cases x <;> exact h
theorem openVec_row {x : Blk} {m sz : Nat} {f : Nat → Nat → Value} (h : openVec x = .row m sz f) : x = .row m sz f := by
  cases x <;> first | exact h | cases h
theorem remap_mem {w0 : World} {bs : List Nat} {H H' : List Blk} {B B' : List Value} {w : World} (h : Mem w0 bs H B w) (n0 : Nat) (hn : n0 ≤ B.length) (hlen : B'.length = H'.length) (hpre : B.take n0 <+: B') (σ : Nat → Option Nat)
    (hs : ∀ k x u, H'[k]? = some x → B'[k]? = some u → x = .gone ∨ (blockOf u = none ∧ BlkSat B' w u x) ∨ ∃ j y y', σ k = some j ∧ H[j]? = some y ∧ B[j]? = some u ∧ x = cutBlk n0 y' ∧ (y' = y ∨ y' = openVec y))
    (hinj : ∀ k k' j, σ k = some j → σ k' = some j → k = k') : Mem w0 bs H' B' w := by
  have hlt : (B.take n0).length = n0 := by simp; omega
  have ex : ∀ k b, ExBlk H' B' k b → ∃ j, σ k = some j ∧ ExBlk H B j b := by
    rintro k b ⟨x, u, h1, h2, h3, h4⟩
    rcases hs k x u h1 h3 with rfl | ⟨g, _⟩ | ⟨j, y, y', g1, g2, g3, rfl, hy⟩
    · cases h2
    · rw [g] at h4; cases h4
    · refine ⟨j, g1, y, u, g2, ?_, g3, h4⟩
      rcases hy with rfl | rfl
      · exact cutBlk_excl h2
      · rw [← openVec_excl]; exact cutBlk_excl h2
  have rd : ∀ k b, RdBlk H' B' k b → ∃ j, σ k = some j ∧ RdBlk H B j b := by
    rintro k b ⟨m, sz, f, u, h1, h2, h3, h4, h5⟩
    rcases hs k _ u h1 h4 with e | ⟨g, _⟩ | ⟨j, y, y', g1, g2, g3, e, hy⟩
    · cases e
    · rw [g] at h5; cases h5
    · refine ⟨j, g1, m, sz, f, u, ?_, h2, h3, g3, h5⟩
      rcases hy with rfl | rfl
      · rw [g2, cutBlk_row e.symm]
      · rw [g2, openVec_row (cutBlk_row e.symm)]
  refine ⟨⟨hlen, fun k x u hk hu => ?_, fun k j b h1 h2 => ?_, fun k j b h1 h2 => ?_⟩, h.keeps, fun k b h1 => ?_⟩
  · rcases hs k x u hk hu with rfl | ⟨_, g⟩ | ⟨j, y, y', g1, g2, g3, rfl, hy⟩
    · exact trivial
    · exact g
    · have hb : BlkSat B w u y' := by
        have hb := h.sat.blk j y u g2 g3
        rcases hy with rfl | rfl
        · exact hb
        · exact openVec_sat hb
      cases y' with
      | own cells =>
        simp only [cutBlk]
        cases hbl : SV.unders n0 cells
        · exact trivial
        · rw [cond_true]
          obtain ⟨b, vs, e1, e2, e3⟩ := hb
          refine ⟨b, vs, e1, ?_, e3⟩
          have := SV.unders_tos (List.take_prefix n0 B) (l := cells) (by rw [hlt]; exact hbl)
          rw [← this] at e2
          exact SV.tos_mono hpre e2
      | lst e sz m cells =>
        simp only [cutBlk]
        cases hbl : SV.unders n0 cells
        · exact trivial
        · rw [cond_true]
          obtain ⟨xs, e1, e2⟩ := hb
          refine ⟨xs, ?_, e2⟩
          have := SV.unders_tos (List.take_prefix n0 B) (l := cells) (by rw [hlt]; exact hbl)
          rw [← this] at e1
          exact SV.tos_mono hpre e1
      | que e sz m xp cells =>
        simp only [cutBlk]
        cases hbl : SV.unders n0 cells
        · exact trivial
        · rw [cond_true]
          obtain ⟨xs, e1, e2⟩ := hb
          refine ⟨xs, ?_, e2⟩
          have := SV.unders_tos (List.take_prefix n0 B) (l := cells) (by rw [hlt]; exact hbl)
          rw [← this] at e1
          exact SV.tos_mono hpre e1
      | pm K kl cells =>
        simp only [cutBlk]
        cases hbl : SV.unders n0 cells
        · exact trivial
        · rw [cond_true]
          obtain ⟨xs, e1, e2⟩ := hb
          refine ⟨xs, ?_, e2⟩
          have := SV.unders_tos (List.take_prefix n0 B) (l := cells) (by rw [hlt]; exact hbl)
          rw [← this] at e1
          exact SV.tos_mono hpre e1
      | _ => exact hb
  · obtain ⟨a, a1, a2⟩ := ex _ _ h1
    obtain ⟨c, c1, c2⟩ := ex _ _ h2
    have := h.sat.sep _ _ _ a2 c2
    subst this
    exact hinj _ _ _ a1 c1
  · obtain ⟨a, a1, a2⟩ := ex _ _ h1
    obtain ⟨c, c1, c2⟩ := rd _ _ h2
    exact h.sat.far _ _ _ a2 c2
  · obtain ⟨a, a1, a2⟩ := ex _ _ h1
    exact h.good _ _ a2
theorem src_val {N : Nat} {fr : List (Nat × Option SV)} {B : List Value} {a : Act} (h : Slots N fr B a) {t j : Nat} (e : srcOf (look fr t) = some j) : B[j]? = some (a.tmps.getD t undef) := by
  unfold srcOf at e
  split at e
  · rename_i k hl
    simp only [Option.some.injEq] at e; subst e
    exact h.slot t _ hl
  · rename_i k off hl
    cases hb : Nat.beq off 0
    · rw [hb] at e; cases e
    · rw [hb, cond_true, Option.some.injEq] at e
      subst e
      have e0 := Nat.eq_of_beq_eq_true hb
      subst e0
      have h4 := h.slot t _ hl
      simp only [SV.to] at h4
      split at h4
      · rename_i b hb'
        simp only [Option.some.injEq] at h4
        rw [hb', h4]
      · cases h4
  · cases e
theorem nil_val {N : Nat} {fr : List (Nat × Option SV)} {B : List Value} {a : Act} (h : Slots N fr B a) {t : Nat} (e : isNilS (look fr t) = true) : a.tmps.getD t undef = .slice none 0 0 := by
  unfold isNilS at e
  split at e
  · rename_i hl
    have := h.slot t _ hl
    simp only [SV.to, Option.some.injEq] at this
    exact this.symm
  · rename_i hl
    have := h.slot t _ hl
    simp only [SV.to, Option.some.injEq] at this
    exact this.symm
  · cases e
theorem tidy_mem {N : Nat} {w0 : World} {bs : List Nat} {st : St} {B : List Value} {a : Act} {w : World} (hsl : Slots N st.fr B a) (h : Mem w0 bs st.H B w) {n0 : Nat} (hn : n0 ≤ B.length) (keep : List Nat) (mv : Mv) (ks : List Nat) :
    Mem w0 bs (st.tidy n0 keep mv ks).H (B.take n0 ++ mvVals a mv) w := by
  refine openBlk_mem (softs_mem ks ?_)
  have hlt : (B.take n0).length = n0 := by simp; omega
  have hkl : (keptBlks n0 (srcs mv st.fr) 0 (st.H.take n0)).length = n0 := by rw [keptBlks_length, List.length_take, ← h.sat.len]; omega
  let σ : Nat → Option Nat := fun k => if k < n0 then (if (srcs mv st.fr).any (isSome' k) then none else some k) else (if distinct (srcs mv st.fr) then ((srcs mv st.fr)[k - n0]?).join else none)
  have σ_lo : ∀ {k j}, k < n0 → σ k = some j → j = k ∧ (srcs mv st.fr).any (isSome' k) = false := by
    intro k j hk e
    simp only [σ, if_pos hk] at e
    split at e
    · cases e
    · rename_i hc
      simp only [Option.some.injEq] at e
      exact ⟨e.symm, by simpa using hc⟩
  have σ_hi : ∀ {k j}, ¬ k < n0 → σ k = some j → distinct (srcs mv st.fr) = true ∧ (srcs mv st.fr)[k - n0]? = some (some j) := by
    intro k j hk e
    simp only [σ, if_neg hk] at e
    split at e
    · rename_i hd
      refine ⟨hd, ?_⟩
      cases hg : (srcs mv st.fr)[k - n0]? with
      | none => rw [hg] at e; cases e
      | some o => rw [hg] at e; rw [show o = some j from e]
    · cases e
  refine remap_mem h n0 hn ?_ (List.prefix_append _ _) σ ?_ ?_
  · rw [List.length_append, List.length_append, hlt, hkl]
    cases distinct (srcs mv st.fr) <;> simp [mvVals]
  · intro k x u hk hu
    by_cases hkn : k < n0
    · rw [List.getElem?_append_left (by rw [hkl]; exact hkn)] at hk
      rw [List.getElem?_append_left (by rw [hlt]; exact hkn)] at hu
      obtain ⟨b, h1, h2⟩ := keptBlks_get hk
      rw [Nat.zero_add] at h2
      cases hc : (srcs mv st.fr).any (isSome' k)
      · rw [hc, cond_false] at h2
        refine .inr (.inr ⟨k, b, b, ?_, ?_, ?_, h2, .inl rfl⟩)
        · simp only [σ, if_pos hkn, hc]; rfl
        · rw [List.getElem?_take, if_pos hkn] at h1; exact h1
        · rw [List.getElem?_take, if_pos hkn] at hu; exact hu
      · rw [hc, cond_true] at h2; exact .inl h2
    · rw [List.getElem?_append_right (by rw [hkl]; omega), hkl] at hk
      rw [List.getElem?_append_right (by rw [hlt]; omega), hlt] at hu
      cases hd : distinct (srcs mv st.fr)
      · rw [hd, cond_false, List.getElem?_map, Option.map_eq_some_iff] at hk
        obtain ⟨_, _, rfl⟩ := hk
        exact .inl rfl
      · rw [hd, cond_true, List.getElem?_map, Option.map_eq_some_iff] at hk
        obtain ⟨m, hm, rfl⟩ := hk
        have hu : u = a.tmps.getD m.1 undef := by
          simp only [mvVals, List.getElem?_map, hm, Option.map_some, Option.some.injEq] at hu
          exact hu.symm
        unfold movedBlk
        split
        · rename_i j hj
          have hbv := src_val hsl hj
          split
          · rename_i b hb
            refine .inr (.inr ⟨j, b, openVec b, ?_, hb, by rw [hu]; exact hbv, rfl, .inr rfl⟩)
            simp only [σ, if_neg hkn, hd, if_true]
            simp [srcs, hm, hj]
          · exact .inl rfl
        · cases hnil : isNilS (look st.fr m.1)
          · exact .inl rfl
          · rw [cond_true]
            have := nil_val hsl hnil
            rw [this] at hu
            subst hu
            exact .inr (.inl ⟨rfl, by simp [BlkSat, VecSat, World.ownsRow]⟩)
  · intro k k' j e1 e2
    by_cases hk : k < n0
    · obtain ⟨rfl, hno⟩ := σ_lo hk e1
      by_cases hk' : k' < n0
      · exact (σ_lo hk' e2).1
      · obtain ⟨_, g⟩ := σ_hi hk' e2
        have := List.any_eq_false.1 hno _ (List.mem_of_getElem? g)
        simp [isSome'] at this
    · obtain ⟨hd, g⟩ := σ_hi hk e1
      by_cases hk' : k' < n0
      · obtain ⟨rfl, hno⟩ := σ_lo hk' e2
        have := List.any_eq_false.1 hno _ (List.mem_of_getElem? g)
        simp [isSome'] at this
      · obtain ⟨_, g'⟩ := σ_hi hk' e2
        have := distinct_inj hd g g'
        omega
section
variable {P : Program} {C : Cfg} {N : Nat}
def roundM (P : Program) (C : Cfg) (Lb : Nat → St → Option (T (Ex × St))) (N : Nat) (id : Nat) (body : Code) (n0 : Nat) (keep : List Nat) (mv : Mv) (ks : List Nat) (st : St) : T (Ex × St) :=
  (runC P C Lb N body st).bind fun r => match r.1 with
    | .normal => .leaf (.normal, r.2.tidy n0 keep mv ks)
    | .exit k => bif Nat.beq k id then .leaf (.exit id, r.2.tidy n0 keep mv ks) else .leaf r
    | .ret => .leaf r
def Alt (st st' : St) : Prop := st'.H = st.H ∧ ∀ N B a, Slots N st.fr B a → Slots N st'.fr B a
theorem Alt.refl (st : St) : Alt st st := ⟨rfl, fun _ _ _ h => h⟩
def closeS : SV → SV
  | .v (.bool true) => .tt
  | .v (.bool false) => .ff
  | .v x => .c x
  | s => s
theorem closeS_to {B : List Value} (s : SV) : (closeS s).to B = s.to B := by unfold closeS; split <;> rfl
def closeAt (cs : List Nat) (st : St) : St := ⟨st.fr.map fun p => (p.1, bif cs.any (Nat.beq p.1) then (match p.2 with | some s => some (closeS s) | none => none) else p.2), st.H⟩
theorem closeAt_look {cs : List Nat} : ∀ {l : List (Nat × Option SV)} {t : Nat} {s : SV}, look (l.map fun p => (p.1, bif cs.any (Nat.beq p.1) then (match p.2 with | some s => some (closeS s) | none => none) else p.2)) t = some s → ∃ s0, look l t = some s0 ∧ (s = s0 ∨ s = closeS s0)
  | [], _, _, h => by simp [look] at h
  | (u, o) :: l, t, s, h => by
    simp only [List.map_cons, look] at h ⊢
    cases hb : Nat.beq u t
    · rw [hb, cond_false] at h
      obtain ⟨s0, h1, h2⟩ := closeAt_look h
      exact ⟨s0, by rw [cond_false]; exact h1, h2⟩
    · rw [hb, cond_true] at h
      rw [cond_true]
      cases hc : cs.any (Nat.beq u)
      · rw [hc, cond_false] at h; exact ⟨s, h, .inl rfl⟩
      · rw [hc, cond_true] at h
        cases o with
        | none => cases h
        | some s0 => simp only [Option.some.injEq] at h; exact ⟨s0, rfl, .inr h.symm⟩
theorem closeAt_alt (cs : List Nat) (st : St) : Alt st (closeAt cs st) := by
  refine ⟨rfl, fun N B a h => ⟨h.size, h.defers, fun t s e => ?_⟩⟩
  obtain ⟨s0, h1, h2⟩ := closeAt_look e
  have := h.slot t s0 h1
  rcases h2 with rfl | rfl
  · exact this
  · rw [closeS_to]; exact this
theorem loop_mv (hC : CfgOk P C) (hP : P.follows .mixedOrders = true) {Lb : Nat → St → Option (T (Ex × St))} {id : Nat} {body : Code} (hlex : lexAll C body = true)
    (hL : ∀ id' b, (id', b) ∈ loopsOf body → ∀ st t, Lb id' st = some t → RunOk P N (.block id' (.loop b)) st t) {ι : Type} (I : ι → Prop) (inv : ι → St) (μ : ι → Nat) (n0 : Nat) (keep : List Nat) (mv : Mv) (ks : List Nat) {t : T (Ex × St)}
    (hround : ∀ Qs, t.ok Qs → ∀ i, I i → ∃ st', Alt (inv i) st' ∧ (roundM P C Lb N id body n0 keep mv ks st').ok (Behind id I inv μ i Qs)) {st : St} {i0 : ι} (h0 : I i0) :
    RunOk P N (.block id (.loop body)) st (.need (st.H.length = n0) (.need (st.tidy n0 keep mv ks = inv i0) t)) := by
  intro w0 bs pre B a w Qs Q hp hsl hm hq hQ
  obtain ⟨hn0, hst, hq⟩ := hq
  have hlen : B.length = n0 := hm.sat.len.trans hn0
  have hB0 : B.take n0 = B := List.take_of_length_le (by omega)
  have hsl0 := tidy_slots hsl (n0 := n0) (by omega) keep mv ks
  have hm0 := tidy_mem hsl hm (n0 := n0) (by omega) keep mv ks
  rw [hst, hB0] at hsl0 hm0
  refine wp_block ?_
  refine wp_loop_idx (ι := ι) (fun i a w => I i ∧ ∃ us, Slots N (inv i).fr (B ++ us) a ∧ Mem w0 bs (inv i).H (B ++ us) w) μ (fun i a w hi => ?_) i0 a w ⟨h0, _, hsl0, hm0⟩
  obtain ⟨hI, us, hs, hmi⟩ := hi
  obtain ⟨sa, hal, hro⟩ := hround Qs hq i hI
  refine runC_ok hC hP body hlex hL sa w0 bs (B ++ us) (B ++ us) a w _ _ (List.prefix_refl _) (hal.2 _ _ _ hs) (by rw [hal.1]; exact hmi) (T.ok_bind hro) fun r B' a' w' hr hpre hs' hm' => ?_
  obtain ⟨e, st'⟩ := r
  have hpB : B <+: B' := (List.prefix_append _ _).trans hpre
  have hBt : B'.take n0 = B := by
    obtain ⟨l, rfl⟩ := hpB
    rw [← hlen, List.take_left]
  have hnB : n0 ≤ B'.length := by have := hpB.length_le; omega
  have hon := tidy_slots hs' hnB keep mv ks
  have hom := tidy_mem hs' hm' hnB keep mv ks
  rw [hBt] at hon hom
  cases e with
  | normal =>
    obtain ⟨j, hj, hlt, e⟩ := hr
    exact ⟨j, hlt, hj, _, by rw [← e]; exact hon, by rw [← e]; exact hom⟩
  | ret => exact hQ _ B' a' w' hr (hp.trans hpB) hs' hm'
  | exit k =>
    simp only [Ex.to, Exit.then, Exit.inBlock]
    by_cases e : k = id
    · subst e
      simp only [Nat.beq_refl, cond_true] at hr
      have hr : (if k = k then Qs (.normal, st'.tidy n0 keep mv ks) else Qs (.exit k, st'.tidy n0 keep mv ks)) := hr
      rw [if_pos rfl] at hr ⊢
      exact hQ _ _ a' w' hr (hp.trans (List.prefix_append _ _)) hon hom
    · simp only [nat_beq_ne e, cond_false] at hr
      have hr : (if k = id then Qs (.normal, st') else Qs (.exit k, st')) := hr
      rw [if_neg e] at hr ⊢
      exact hQ _ B' a' w' hr (hp.trans hpB) hs' hm'
def lastX (id : Nat) (r : Ex × St) : T (Ex × St) := match r.1 with
  | .normal => .stuck 39
  | .exit k => bif Nat.beq k id then .leaf (.normal, r.2) else .leaf r
  | .ret => .leaf r
theorem loop_cnt (hC : CfgOk P C) (hP : P.follows .mixedOrders = true) {Lb : Nat → St → Option (T (Ex × St))} {id : Nat} {body : Code} (hlex : lexAll C body = true)
    (hL : ∀ id' b, (id', b) ∈ loopsOf body → ∀ st t, Lb id' st = some t → RunOk P N (.block id' (.loop b)) st t) {ι : Type} (I : ι → Prop) (inv : ι → St) (μ : ι → Nat) (n0 : Nat) (keep : List Nat) (mv : Mv) (ks : List Nat) (n : ι) (cs : List Nat)
    (hround : ∀ i, I i → i ≠ n → (roundM P C Lb N id body n0 keep mv ks (inv i)).ok fun r => r.1 = .normal ∧ ∃ j, I j ∧ μ j < μ i ∧ r.2 = inv j) {st : St} {i0 : ι} (h0 : I i0) :
    RunOk P N (.block id (.loop body)) st (.need (st.H.length = n0) (.need (st.tidy n0 keep mv ks = inv i0) ((roundM P C Lb N id body n0 keep mv ks (closeAt cs (inv n))).bind (lastX id)))) := by
  refine loop_mv hC hP hlex hL I inv μ n0 keep mv ks (fun Qs hq i hi => ?_) h0
  by_cases e : i = n
  · subst e
    refine ⟨_, closeAt_alt cs _, T.ok_mono (fun r hr => ?_) (T.ok_bind hq)⟩
    obtain ⟨x, st'⟩ := r
    cases x with
    | normal => exact (hr : False).elim
    | ret => exact hr
    | exit k =>
      unfold Behind
      simp only [lastX] at hr ⊢
      by_cases ek : k = id
      · subst ek
        rw [Nat.beq_refl, cond_true] at hr
        rw [if_pos rfl]; exact hr
      · rw [nat_beq_ne ek, cond_false] at hr
        rw [if_neg ek]; exact hr
  · refine ⟨_, .refl _, T.ok_mono (fun r hr => ?_) (hround i hi e)⟩
    obtain ⟨x, st'⟩ := r
    obtain ⟨h1, j, h2, h3, h4⟩ := hr
    simp only at h1
    subst h1
    exact ⟨j, h2, h3, h4⟩
def valAt (st : St) (t : Nat) : Value := match look st.fr t with
  | some s => (match s.plain with | some x => x | none => undef)
  | none => undef
def withStr {α : Type} (st : St) (t : Nat) (k : ByteArray → T α) : T α := match valAt st t with
  | .string s => k s
  | _ => .stuck 96
def withRow {α : Type} (st : St) (j : Nat) (k : Nat → (Nat → Nat → Value) → T α) : T α := match st.H[j]? with
  | some (.row n _ f) => k n f
  | _ => .stuck 99
theorem RunOk.stuck {c : Code} {st : St} {n : Nat} : RunOk P N c st (.stuck n) := fun _ _ _ _ _ _ _ _ _ _ _ h _ => h.elim
theorem RunOk.need {c : Code} {st : St} {p : Prop} {t : T (Ex × St)} (h : p → RunOk P N c st t) : RunOk P N c st (.need p t) := fun w0 bs pre B a w Qs Q h1 h2 h3 hq hQ => h hq.1 w0 bs pre B a w Qs Q h1 h2 h3 hq.2 hQ
theorem RunOk.str {c : Code} {st : St} {t : Nat} {k : ByteArray → T (Ex × St)} (h : ∀ s, RunOk P N c st (k s)) : RunOk P N c st (withStr st t k) := by
  unfold withStr; split
  · exact h _
  · exact .stuck
end
end Go.Proofs.YtbippdeahoehoaaGreat.Sym
namespace Go.Proofs.YtbippdeahoehoaaGreat.Sym
open Go.RowKit
abbrev LTab := FuncId → List SV → List Blk → Option (T (SV × List Blk))
def LOk (P : Program) (F : LTab) : Prop := ∀ f ss H t, F f ss H = some t → isGo P f = true ∧ ∀ (bs : List Nat) (B : List Value) (w : World) (vs : List Value), Mem w bs H B w → SV.tos B ss = some vs →
  ∀ Qs : SV × List Blk → Prop, t.ok Qs → Calls P f vs.toArray w fun e w' => ∃ s H' B' x, Qs (s, H') ∧ B <+: B' ∧ e = .returned x ∧ s.to B' = some x ∧ Mem w bs H' B' w'
mutual
def SV.loc (ks : List Nat) : SV → Option SV
  | .v x => some (.v x)
  | .c x => some (.c x)
  | .tt => some .tt
  | .ff => some .ff
  | .ptr k off => (posOf k ks 0).map fun i => .ptr i off
  | .ref k => (posOf k ks 0).map .ref
  | .elt k sz j off => (posOf k ks 0).map fun i => .elt i sz j off
  | .pre k n => (posOf k ks 0).map fun i => .pre i n
  | .agg l => (SV.locs ks l).map .agg
  | .tup l => (SV.locs ks l).map .tup
  | .clo fn a b => match SV.locs ks a, SV.locs ks b with | some x, some y => some (.clo fn x y) | _, _ => none
  | .ifc t s => (SV.loc ks s).map (.ifc t)
def SV.locs (ks : List Nat) : List SV → Option (List SV)
  | [] => some []
  | s :: l => match SV.loc ks s, SV.locs ks l with | some x, some xs => some (x :: xs) | _, _ => none
end
mutual
def SV.ren (ρ : Nat → Nat) : SV → SV
  | .v x => .v x
  | .c x => .c x
  | .tt => .tt
  | .ff => .ff
  | .ptr k off => .ptr (ρ k) off
  | .ref k => .ref (ρ k)
  | .elt k sz i off => .elt (ρ k) sz i off
  | .pre k n => .pre (ρ k) n
  | .agg l => .agg (SV.rens ρ l)
  | .tup l => .tup (SV.rens ρ l)
  | .clo fn a b => .clo fn (SV.rens ρ a) (SV.rens ρ b)
  | .ifc t s => .ifc t (SV.ren ρ s)
def SV.rens (ρ : Nat → Nat) : List SV → List SV
  | [] => []
  | s :: l => SV.ren ρ s :: SV.rens ρ l
end
def Blk.loc (ks : List Nat) : Blk → Option Blk
  | .own cells => (SV.locs ks cells).map .own
  | .lst e sz n cells => (SV.locs ks cells).map (.lst e sz n)
  | .que e sz n xp cells => (SV.locs ks cells).map (.que e sz n xp)
  | .pm K kl cells => (SV.locs ks cells).map (.pm K kl)
  | b => some b
def Blk.ren (ρ : Nat → Nat) : Blk → Blk
  | .own cells => .own (SV.rens ρ cells)
  | .lst e sz n cells => .lst e sz n (SV.rens ρ cells)
  | .que e sz n xp cells => .que e sz n xp (SV.rens ρ cells)
  | .pm K kl cells => .pm K kl (SV.rens ρ cells)
  | b => b
section
variable {B Bl : List Value} {ks : List Nat}
mutual
theorem SV.loc_to (h : ∀ (i k : Nat), ks[i]? = some k → Bl[i]? = B[k]?) : ∀ {s s' : SV}, s.loc ks = some s' → s'.to Bl = s.to B
  | .v x, _, e => by simp only [SV.loc, Option.some.injEq] at e; subst e; rfl
  | .c x, _, e => by simp only [SV.loc, Option.some.injEq] at e; subst e; rfl
  | .tt, _, e => by simp only [SV.loc, Option.some.injEq] at e; subst e; rfl
  | .ff, _, e => by simp only [SV.loc, Option.some.injEq] at e; subst e; rfl
  | .ptr k off, _, e => by
    simp only [SV.loc, Option.map_eq_some_iff] at e
    obtain ⟨i, hi, rfl⟩ := e
    simp only [SV.to, h i k (by simpa using (posOf_get hi).2)]
  | .ref k, _, e => by
    simp only [SV.loc, Option.map_eq_some_iff] at e
    obtain ⟨i, hi, rfl⟩ := e
    simp only [SV.to, h i k (by simpa using (posOf_get hi).2)]
  | .elt k sz j off, _, e => by
    simp only [SV.loc, Option.map_eq_some_iff] at e
    obtain ⟨i, hi, rfl⟩ := e
    simp only [SV.to, h i k (by simpa using (posOf_get hi).2)]
  | .pre k n, _, e => by
    simp only [SV.loc, Option.map_eq_some_iff] at e
    obtain ⟨i, hi, rfl⟩ := e
    simp only [SV.to, h i k (by simpa using (posOf_get hi).2)]
  | .agg l, _, e => by
    simp only [SV.loc, Option.map_eq_some_iff] at e
    obtain ⟨l', hl, rfl⟩ := e
    simp only [SV.to, SV.locs_tos h hl]
  | .tup l, _, e => by
    simp only [SV.loc, Option.map_eq_some_iff] at e
    obtain ⟨l', hl, rfl⟩ := e
    simp only [SV.to, SV.locs_tos h hl]
  | .clo fn a b, _, e => by
    simp only [SV.loc] at e
    split at e
    · rename_i x y hx hy
      simp only [Option.some.injEq] at e; subst e
      simp only [SV.to, SV.locs_tos h hx, SV.locs_tos h hy]
    · cases e
  | .ifc t s, _, e => by
    simp only [SV.loc, Option.map_eq_some_iff] at e
    obtain ⟨s', hs, rfl⟩ := e
    simp only [SV.to, SV.loc_to h hs]
theorem SV.locs_tos (h : ∀ (i k : Nat), ks[i]? = some k → Bl[i]? = B[k]?) : ∀ {l l' : List SV}, SV.locs ks l = some l' → SV.tos Bl l' = SV.tos B l
  | [], _, e => by simp only [SV.locs, Option.some.injEq] at e; subst e; rfl
  | s :: l, _, e => by
    simp only [SV.locs] at e
    split at e
    · rename_i x xs hx hxs
      simp only [Option.some.injEq] at e; subst e
      simp only [SV.tos, SV.loc_to h hx, SV.locs_tos h hxs]
    · cases e
end
mutual
theorem SV.ren_to {ρ : Nat → Nat} (h : ∀ (i : Nat) (u : Value), Bl[i]? = some u → B[ρ i]? = some u) : ∀ {s : SV} {x : Value}, s.to Bl = some x → (s.ren ρ).to B = some x
  | .v x, _, e => e
  | .c x, _, e => e
  | .tt, _, e => e
  | .ff, _, e => e
  | .ptr k off, x, e => by
    simp only [SV.ren, SV.to] at e ⊢
    split at e
    · rename_i hb; rw [h _ _ hb]; exact e
    · cases e
  | .ref k, x, e => by simp only [SV.ren, SV.to] at e ⊢; exact h _ _ e
  | .elt k sz i off, x, e => by
    simp only [SV.ren, SV.to] at e ⊢
    split at e
    · rename_i hb; rw [h _ _ hb]; exact e
    · cases e
  | .pre k n, x, e => by
    simp only [SV.ren, SV.to] at e ⊢
    split at e
    · rename_i hb; rw [h _ _ hb]; exact e
    · cases e
  | .agg l, x, e => by
    simp only [SV.ren, SV.to, Option.map_eq_some_iff] at e ⊢
    obtain ⟨vs, h1, h2⟩ := e
    exact ⟨vs, SV.rens_tos h h1, h2⟩
  | .tup l, x, e => by
    simp only [SV.ren, SV.to, Option.map_eq_some_iff] at e ⊢
    obtain ⟨vs, h1, h2⟩ := e
    exact ⟨vs, SV.rens_tos h h1, h2⟩
  | .clo fn a b, x, e => by
    simp only [SV.ren, SV.to] at e ⊢
    split at e
    · rename_i xs ys h1 h2
      rw [SV.rens_tos h h1, SV.rens_tos h h2]; exact e
    · cases e
  | .ifc t s, x, e => by
    simp only [SV.ren, SV.to, Option.map_eq_some_iff] at e ⊢
    obtain ⟨v, h1, h2⟩ := e
    exact ⟨v, SV.ren_to h h1, h2⟩
theorem SV.rens_tos {ρ : Nat → Nat} (h : ∀ (i : Nat) (u : Value), Bl[i]? = some u → B[ρ i]? = some u) : ∀ {l : List SV} {xs : List Value}, SV.tos Bl l = some xs → SV.tos B (SV.rens ρ l) = some xs
  | [], _, e => e
  | s :: l, xs, e => by
    simp only [SV.rens, SV.tos] at e ⊢
    split at e
    · rename_i x ys h1 h2
      rw [SV.ren_to h h1, SV.rens_tos h h2]; exact e
    · cases e
end
end
theorem Blk.ren_sat {B Bl : List Value} {ρ : Nat → Nat} (h : ∀ (i : Nat) (u : Value), Bl[i]? = some u → B[ρ i]? = some u) {w : World} {u : Value} {x : Blk} (hs : BlkSat Bl w u x) : BlkSat B w u (x.ren ρ) := by
  cases x with
  | own cells =>
    obtain ⟨b, vs, h1, h2, h3⟩ := hs
    exact ⟨b, vs, h1, SV.rens_tos h h2, h3⟩
  | lst e sz n cells =>
    obtain ⟨xs, h1, h2⟩ := hs
    exact ⟨xs, SV.rens_tos h h1, h2⟩
  | que e sz n xp cells =>
    obtain ⟨xs, h1, h2⟩ := hs
    exact ⟨xs, SV.rens_tos h h1, h2⟩
  | pm K kl cells =>
    obtain ⟨xs, h1, h2⟩ := hs
    exact ⟨xs, SV.rens_tos h h1, h2⟩
  | _ => exact hs
theorem Blk.loc_sat {B Bl : List Value} {ks : List Nat} (h : ∀ (i k : Nat), ks[i]? = some k → Bl[i]? = B[k]?) {w : World} {u : Value} {x y : Blk} (hl : x.loc ks = some y) (hs : BlkSat B w u x) : BlkSat Bl w u y := by
  cases x with
  | own cells =>
    simp only [Blk.loc, Option.map_eq_some_iff] at hl
    obtain ⟨c, hc, rfl⟩ := hl
    obtain ⟨b, vs, h1, h2, h3⟩ := hs
    exact ⟨b, vs, h1, by rw [SV.locs_tos h hc]; exact h2, h3⟩
  | lst e sz n cells =>
    simp only [Blk.loc, Option.map_eq_some_iff] at hl
    obtain ⟨c, hc, rfl⟩ := hl
    obtain ⟨xs, h1, h2⟩ := hs
    exact ⟨xs, by rw [SV.locs_tos h hc]; exact h1, h2⟩
  | que e sz n xp cells =>
    simp only [Blk.loc, Option.map_eq_some_iff] at hl
    obtain ⟨c, hc, rfl⟩ := hl
    obtain ⟨xs, h1, h2⟩ := hs
    exact ⟨xs, by rw [SV.locs_tos h hc]; exact h1, h2⟩
  | pm K kl cells =>
    simp only [Blk.loc, Option.map_eq_some_iff] at hl
    obtain ⟨c, hc, rfl⟩ := hl
    obtain ⟨xs, h1, h2⟩ := hs
    exact ⟨xs, by rw [SV.locs_tos h hc]; exact h1, h2⟩
  | _ => simp only [Blk.loc, Option.some.injEq] at hl; subst hl; exact hs
theorem Blk.loc_excl {ks : List Nat} {x y : Blk} (hl : x.loc ks = some y) : y.excl = x.excl := by
  cases x with
  | own cells =>
    simp only [Blk.loc, Option.map_eq_some_iff] at hl
    obtain ⟨c, hc, rfl⟩ := hl; rfl
  | lst e sz n cells =>
    simp only [Blk.loc, Option.map_eq_some_iff] at hl
    obtain ⟨c, hc, rfl⟩ := hl; rfl
  | que e sz n xp cells =>
    simp only [Blk.loc, Option.map_eq_some_iff] at hl
    obtain ⟨c, hc, rfl⟩ := hl; rfl
  | pm K kl cells =>
    simp only [Blk.loc, Option.map_eq_some_iff] at hl
    obtain ⟨c, hc, rfl⟩ := hl; rfl
  | _ => simp only [Blk.loc, Option.some.injEq] at hl; subst hl; rfl
theorem Blk.loc_row {ks : List Nat} {x : Blk} {n sz : Nat} {f : Nat → Nat → Value} (hl : x.loc ks = some (.row n sz f)) : x = .row n sz f := by
  cases x with
  | own cells =>
    simp only [Blk.loc, Option.map_eq_some_iff] at hl
    obtain ⟨c, hc, e⟩ := hl; cases e
  | lst e sz n cells =>
    simp only [Blk.loc, Option.map_eq_some_iff] at hl
    obtain ⟨c, hc, e⟩ := hl; cases e
  | que e sz n xp cells =>
    simp only [Blk.loc, Option.map_eq_some_iff] at hl
    obtain ⟨c, hc, e⟩ := hl; cases e
  | pm K kl cells =>
    simp only [Blk.loc, Option.map_eq_some_iff] at hl
    obtain ⟨c, hc, e⟩ := hl; cases e
  | _ => simp only [Blk.loc, Option.some.injEq] at hl; exact hl
theorem Blk.ren_excl {ρ : Nat → Nat} (x : Blk) : (x.ren ρ).excl = x.excl := by cases x <;> rfl
theorem Blk.ren_row {ρ : Nat → Nat} {x : Blk} {n sz : Nat} {f : Nat → Nat → Value} (h : x.ren ρ = .row n sz f) : x = .row n sz f := by
  cases x <;> first | exact h | cases h
def blks (g : Nat → Option Blk) (ks : List Nat) : List Nat → Option (List Blk)
  | [] => some []
  | k :: l => match g k, blks g ks l with
    | some b, some bs => (match b.loc ks with | some b' => some (b' :: bs) | none => none)
    | _, _ => none
def nodupN : List Nat → Bool
  | [] => true
  | k :: l => !l.any (Nat.beq k) && nodupN l
def outer (ks : List Nat) (n i : Nat) : Nat := match ks[i]? with
  | some k => k
  | none => n + (i - ks.length)
def hideRow : Blk → Blk
  | .row .. => .gone
  | b => b
def rowBlk : Blk → Blk
  | .vec _ _ sz n xs => .row n sz (fun i j => cellAt xs (i * sz + j))
  | b => b
def outMuts (ρ : Nat → Nat) : List Nat → List Blk → List Blk → List (Nat × Blk)
  | k :: ks, x :: xs, y :: ys => bif x.excl then (k, (hideRow y).ren ρ) :: outMuts ρ ks xs ys else outMuts ρ ks xs ys
  | _, _, _ => []
def goOut (ks : List Nat) (n : Nat) (H : List Blk) (r : SV × List Blk) : T (SV × Eff) :=
  .leaf (r.1.ren (outer ks n), ⟨outMuts (outer ks n) ks H r.2, (r.2.drop ks.length).map fun b => (hideRow b).ren (outer ks n)⟩)
def liftG (F : LTab) : GTab := fun f ss g n =>
  let ks := reach g 100 (SV.letss ss) []
  match blks g ks ks, SV.locs ks ss with
  | some H, some ss' => bif nodupN ks && ks.all (fun k => Nat.blt k n) then (match F f ss' H with
    | some t => some (t.bind (goOut ks n H))
    | none => (F f ss' (H.map rowBlk)).map fun t => t.bind (goOut ks n (H.map rowBlk))) else none
  | _, _ => none
theorem hideRow_excl {y : Blk} (h : (hideRow y).excl = true) : hideRow y = y := by cases y <;> first | rfl | cases h
theorem hideRow_sat {B : List Value} {w : World} {u : Value} {y : Blk} (h : BlkSat B w u y) : BlkSat B w u (hideRow y) := by cases y <;> first | exact h | trivial
theorem hideRow_row {y : Blk} {n sz : Nat} {f : Nat → Nat → Value} (h : hideRow y = .row n sz f) : False := by cases y <;> cases h
theorem rowBlk_excl {y : Blk} (h : (rowBlk y).excl = true) : rowBlk y = y := by cases y <;> first | rfl | cases h
theorem rowBlk_sat {B : List Value} {w : World} {u : Value} {y : Blk} (h : BlkSat B w u y) : BlkSat B w u (rowBlk y) := by
  cases y with
  | vec o e sz n xs =>
    have hv : VecSat w e sz u n xs := h
    have hl := hv.view.1
    rcases hv.view.2 with ⟨rfl, rfl⟩ | ⟨g, cap, rfl, hg, h1, h2, h3⟩
    · exact ⟨none, 0, rfl, Nat.le_refl _, Nat.zero_le _, fun i j hi => by omega⟩
    · refine ⟨_, cap, rfl, h1, h2, fun i j hi hj => ⟨_, rfl, ?_⟩⟩
      have hlt : i * sz + j < n * sz := by
        calc i * sz + j < i * sz + sz := by omega
          _ = (i + 1) * sz := by rw [Nat.add_mul, Nat.one_mul]
          _ ≤ n * sz := Nat.mul_le_mul_right _ hi
      rw [add_off, Nat.zero_add, (h3 _ hlt).1]
      simp [cellAt, List.getD_eq_getElem?_getD, List.getElem?_eq_getElem (show i * sz + j < xs.length by omega)]
  | _ => exact h
theorem rowBlk_row {y : Blk} {n sz : Nat} {f : Nat → Nat → Value} (h : rowBlk y = .row n sz f) : y = .row n sz f ∨ y.excl = true := by
  cases y with
  | vec o e sz n xs => exact .inr rfl
  | _ => exact .inl h
theorem nodupN_inj : ∀ {ks : List Nat}, nodupN ks = true → ∀ {i j k : Nat}, ks[i]? = some k → ks[j]? = some k → i = j
  | [], _, i, _, _, h, _ => by simp at h
  | a :: l, hn, i, j, k, hi, hj => by
    simp only [nodupN, Bool.and_eq_true, Bool.not_eq_true'] at hn
    have hno : ∀ m, l[m]? = some a → False := fun m hm => by
      have := List.any_eq_false.1 hn.1 a (List.mem_of_getElem? hm)
      exact this (Nat.beq_refl a)
    cases i with
    | zero =>
      simp only [List.getElem?_cons_zero, Option.some.injEq] at hi
      subst hi
      cases j with
      | zero => rfl
      | succ j => exact (hno j (by simpa using hj)).elim
    | succ i =>
      cases j with
      | zero =>
        simp only [List.getElem?_cons_zero, Option.some.injEq] at hj
        subst hj
        exact (hno i (by simpa using hi)).elim
      | succ j =>
        have := nodupN_inj hn.2 (i := i) (j := j) (by simpa using hi) (by simpa using hj)
        rw [this]
theorem blks_get {g : Nat → Option Blk} {ks : List Nat} : ∀ {l : List Nat} {H : List Blk}, blks g ks l = some H → H.length = l.length ∧ ∀ (i k : Nat), l[i]? = some k → ∃ b b', g k = some b ∧ b.loc ks = some b' ∧ H[i]? = some b'
  | [], H, h => by simp only [blks, Option.some.injEq] at h; subst h; exact ⟨rfl, by simp⟩
  | a :: l, H, h => by
    simp only [blks] at h
    split at h
    · rename_i b bs hb hbs
      split at h
      · rename_i b' hb'
        simp only [Option.some.injEq] at h
        subst h
        obtain ⟨h1, h2⟩ := blks_get hbs
        refine ⟨by simp [h1], fun i k hi => ?_⟩
        cases i with
        | zero => simp only [List.getElem?_cons_zero, Option.some.injEq] at hi; subst hi; exact ⟨b, b', hb, hb', rfl⟩
        | succ i => simpa using h2 i k (by simpa using hi)
      · cases h
    · cases h
theorem outMuts_get {ρ : Nat → Nat} : ∀ {ks : List Nat} {xs ys : List Blk}, nodupN ks = true → ks.length = xs.length → xs.length ≤ ys.length → ∀ (H : List Blk), (∀ k ∈ ks, k < H.length) → ∀ (k : Nat),
    (∃ (i : Nat) (x y : Blk), ks[i]? = some k ∧ xs[i]? = some x ∧ ys[i]? = some y ∧ x.excl = true ∧ ((outMuts ρ ks xs ys).foldl (fun H p => H.set p.1 p.2) H)[k]? = some ((hideRow y).ren ρ)) ∨
    ((∀ (i : Nat) (x : Blk), ks[i]? = some k → xs[i]? = some x → x.excl = false) ∧ ((outMuts ρ ks xs ys).foldl (fun H p => H.set p.1 p.2) H)[k]? = H[k]?)
  | [], xs, ys, _, _, _, H, _, k => .inr ⟨by simp, by simp [outMuts]⟩
  | a :: ks, [], _, _, h, _, _, _, _ => by simp at h
  | a :: ks, x :: xs, [], _, _, h, _, _, _ => by simp at h
  | a :: ks, x :: xs, y :: ys, hn, h1, h2, H, hlt, k => by
    have hn' := hn
    simp only [nodupN, Bool.and_eq_true, Bool.not_eq_true'] at hn
    have ih := fun H' (hl : ∀ k ∈ ks, k < H'.length) => outMuts_get (ρ := ρ) hn.2 (by simpa using h1) (by simpa using h2) H' hl k
    have hnot : ∀ i : Nat, ks[i]? = some a → False := fun m hm => by
      have := List.any_eq_false.1 hn.1 a (List.mem_of_getElem? hm)
      exact this (Nat.beq_refl a)
    cases he : x.excl
    · simp only [outMuts, he, cond_false]
      rcases ih H (fun k hk => hlt k (List.mem_cons_of_mem _ hk)) with ⟨i, x', y', g1, g2, g3, g4, g5⟩ | ⟨g1, g2⟩
      · exact .inl ⟨i + 1, x', y', by simpa using g1, by simpa using g2, by simpa using g3, g4, g5⟩
      · refine .inr ⟨fun i x' hi hx => ?_, g2⟩
        cases i with
        | zero => simp only [List.getElem?_cons_zero, Option.some.injEq] at hx; subst hx; exact he
        | succ i => exact g1 i x' (by simpa using hi) (by simpa using hx)
    · simp only [outMuts, he, cond_true, List.foldl_cons]
      rcases ih (H.set a ((hideRow y).ren ρ)) (fun k hk => by simpa using hlt k (List.mem_cons_of_mem _ hk)) with ⟨i, x', y', g1, g2, g3, g4, g5⟩ | ⟨g1, g2⟩
      · exact .inl ⟨i + 1, x', y', by simpa using g1, by simpa using g2, by simpa using g3, g4, g5⟩
      · by_cases hka : k = a
        · subst hka
          refine .inl ⟨0, x, y, rfl, rfl, rfl, he, ?_⟩
          rw [g2, List.getElem?_set_self (hlt k (List.mem_cons_self ..))]
        · refine .inr ⟨fun i x' hi hx => ?_, ?_⟩
          · cases i with
            | zero => simp only [List.getElem?_cons_zero, Option.some.injEq] at hi; exact absurd hi.symm hka
            | succ i => exact g1 i x' (by simpa using hi) (by simpa using hx)
          · rw [g2, List.getElem?_set_ne (fun h => hka h.symm)]
theorem lift_core {P : Program} {f : FuncId} {ss ss' : List SV} {n : Nat} {ks : List Nat} {Hl : List Blk} {t0 : T (SV × List Blk)} (hlocs : SV.locs ks ss = some ss') (hnd : nodupN ks = true) (hall : (ks.all fun k => Nat.blt k n) = true) (hHl : Hl.length = ks.length)
    (hcalls : ∀ (bs : List Nat) (B : List Value) (w : World) (vs : List Value), Mem w bs Hl B w → SV.tos B ss' = some vs → ∀ Qs : SV × List Blk → Prop, t0.ok Qs → Calls P f vs.toArray w fun e w' => ∃ s H' B' x, Qs (s, H') ∧ B <+: B' ∧ e = .returned x ∧ s.to B' = some x ∧ Mem w bs H' B' w')
    {w0 : World} {bs : List Nat} {H : List Blk} {B : List Value} {w : World} {vs : List Value} (hm : Mem w0 bs H B w) (hn : n = H.length) (hvs : SV.tos B ss = some vs)
    (up : ∀ (i : Nat) (x : Blk), Hl[i]? = some x → ∃ k y y', ks[i]? = some k ∧ H[k]? = some y ∧ y.loc ks = some y' ∧ (x = y' ∨ x = rowBlk y'))
    {Qs : SV × Eff → Prop} (hq : (t0.bind (goOut ks n Hl)).ok Qs) : Calls P f vs.toArray w fun e w' => ∃ s ef B' x, Qs (s, ef) ∧ B <+: B' ∧ e = .returned x ∧ s.to B' = some x ∧ Mem w0 bs (ef.run H) B' w' := by
  have hkn : ∀ (i k : Nat), ks[i]? = some k → k < H.length := fun i k hi => by
    have := List.all_eq_true.1 hall k (List.mem_of_getElem? hi)
    rw [hn] at this
    simpa [Nat.blt_eq] using this
  -- the small memory
  let Bl := ks.map fun k => (B[k]?).getD undef
  have hBl : ∀ (i k : Nat), ks[i]? = some k → Bl[i]? = B[k]? := fun i k hi => by
    have hk : k < B.length := by rw [hm.sat.len]; exact hkn i k hi
    simp only [Bl, List.getElem?_map, hi, Option.map_some, List.getElem?_eq_getElem hk, Option.getD_some]
  have hBll : Bl.length = ks.length := by simp [Bl]
  have exUp : ∀ i b, ExBlk Hl Bl i b → ∃ k, ks[i]? = some k ∧ ExBlk H B k b := by
    rintro i b ⟨x, u, h1, h2, h3, h4⟩
    obtain ⟨k, y, y', hk, hy, hloc, hx⟩ := up i x h1
    have e : x = y' := by
      rcases hx with rfl | rfl
      · rfl
      · exact rowBlk_excl h2
    subst e
    exact ⟨k, hk, y, u, hy, by rw [← Blk.loc_excl hloc]; exact h2, by rw [← hBl i k hk]; exact h3, h4⟩
  have rdUp : ∀ i b, RdBlk Hl Bl i b → ∃ k, ks[i]? = some k ∧ (RdBlk H B k b ∨ ExBlk H B k b) := by
    rintro i b ⟨m, sz, ff, u, h1, h2, h3, h4, h5⟩
    obtain ⟨k, y, y', hk, hy, hloc, hx⟩ := up i _ h1
    have hu : B[k]? = some u := by rw [← hBl i k hk]; exact h4
    have e : y' = .row m sz ff ∨ y'.excl = true := by
      rcases hx with h | h
      · exact .inl h.symm
      · exact rowBlk_row h.symm
    rcases e with rfl | e
    · exact ⟨k, hk, .inl ⟨m, sz, ff, u, by rw [hy, Blk.loc_row hloc], h2, h3, hu, h5⟩⟩
    · exact ⟨k, hk, .inr ⟨y, u, hy, by rw [← Blk.loc_excl hloc]; exact e, hu, h5⟩⟩
  obtain ⟨bl, hbl⟩ : ∃ bl : List Nat, ∀ b, b ∈ bl ↔ ∃ i, ExBlk Hl Bl i b := by
    classical
    refine ⟨(List.range w.heap.size).filter fun b => decide (∃ i, ExBlk Hl Bl i b), fun b => ?_⟩
    simp only [List.mem_filter, List.mem_range, decide_eq_true_eq]
    exact ⟨fun h => h.2, fun h => ⟨by obtain ⟨i, hi⟩ := h; obtain ⟨k, _, hk⟩ := exUp i b hi; exact hm.sat.ex_lt hk, h⟩⟩
  have hml : Mem w bl Hl Bl w := by
    refine ⟨⟨by rw [hBll, hHl], fun i x u hi hu => ?_, fun i j b h1 h2 => ?_, fun i j b h1 h2 => ?_⟩, .refl _ _, fun i b hi => .inl ((hbl b).2 ⟨i, hi⟩)⟩
    · obtain ⟨k, y, y', hk, hy, hloc, hx⟩ := up i x hi
      have := Blk.loc_sat hBl hloc (hm.sat.blk k y u hy (by rw [← hBl i k hk]; exact hu))
      rcases hx with rfl | rfl
      · exact this
      · exact rowBlk_sat this
    · obtain ⟨k, hk, e1⟩ := exUp i b h1
      obtain ⟨k', hk', e2⟩ := exUp j b h2
      have := hm.sat.sep _ _ _ e1 e2
      subst this
      exact nodupN_inj hnd hk hk'
    · obtain ⟨k, hk, e1⟩ := exUp i b h1
      obtain ⟨k', hk', e2 | e2⟩ := rdUp j b h2
      · exact hm.sat.far _ _ _ e1 e2
      · have := hm.sat.sep _ _ _ e1 e2
        subst this
        have := nodupN_inj hnd hk hk'
        subst this
        obtain ⟨x, u, g1, g2, -⟩ := h1
        obtain ⟨m, sz, ff, u', g3, -⟩ := h2
        rw [g1, Option.some.injEq] at g3
        subst g3
        cases g2
  have hvl : SV.tos Bl ss' = some vs := by rw [SV.locs_tos hBl hlocs]; exact hvs
  refine (hcalls bl Bl w vs hml hvl _ (T.ok_bind hq)).mono ?_
  rintro e w' ⟨s, H', Bl', x, hQ, hpre, rfl, hx, hm'⟩
  unfold goOut at hQ
  simp only at hQ
  -- names
  let B' := B ++ Bl'.drop ks.length
  have hlen' : Bl'.length = H'.length := hm'.sat.len
  have f1 : Hl.length ≤ H'.length := by rw [← hlen', hHl, ← hBll]; exact hpre.length_le
  have hlo : ∀ i, i < ks.length → Bl'[i]? = Bl[i]? := fun i hi => (getElem?_of_prefix hpre (by rw [hBll]; exact hi)).symm
  have hρ : ∀ (i : Nat) (u : Value), Bl'[i]? = some u → B'[outer ks n i]? = some u := by
    intro i u hu
    unfold outer
    split
    · rename_i k hk
      have hil := (List.getElem?_eq_some_iff.1 hk).1
      rw [hlo i hil, hBl i k hk] at hu
      have hkl := (List.getElem?_eq_some_iff.1 hu).1
      rw [List.getElem?_append_left hkl]; exact hu
    · rename_i hk
      have hil : ks.length ≤ i := by simpa using hk
      rw [hn, ← hm.sat.len, List.getElem?_append_right (by omega), List.getElem?_drop]
      rw [show ks.length + (B.length + (i - ks.length) - B.length) = i by omega]; exact hu
  -- what the letters are behind
  have hnews : ((H'.drop ks.length).map (fun b => (hideRow b).ren (outer ks n))).length = H'.length - ks.length := by simp
  let Hf := (outMuts (outer ks n) ks Hl H').foldl (fun H p => H.set p.1 p.2) H
  have hHf : Hf.length = H.length := foldl_set_length _ _
  have hrun : ∀ k : Nat, (Eff.run ⟨outMuts (outer ks n) ks Hl H', (H'.drop ks.length).map fun b => (hideRow b).ren (outer ks n)⟩ H)[k]? = (Hf ++ (H'.drop ks.length).map (fun b => (hideRow b).ren (outer ks n)))[k]? := by
    intro k
    unfold Eff.run
    split
    · rename_i h0
      simp only at h0
      rw [h0, List.append_nil]
    · rfl
  have cls : ∀ (k : Nat) (x : Blk), (Eff.run ⟨outMuts (outer ks n) ks Hl H', (H'.drop ks.length).map fun b => (hideRow b).ren (outer ks n)⟩ H)[k]? = some x →
      (∃ (i : Nat) (y : Blk), k = outer ks n i ∧ H'[i]? = some y ∧ x = (hideRow y).ren (outer ks n) ∧ B'[k]? = Bl'[i]?) ∨
      (k < H.length ∧ H[k]? = some x ∧ B'[k]? = B[k]? ∧ ∀ (i : Nat) (b : Nat), ks[i]? = some k → ¬ ExBlk Hl Bl i b) := by
    intro k x hx
    rw [hrun] at hx
    rcases Nat.lt_or_ge k H.length with hk | hk
    · rw [List.getElem?_append_left (by rw [hHf]; exact hk)] at hx
      have hBk : B'[k]? = B[k]? := by rw [List.getElem?_append_left (by rw [hm.sat.len]; exact hk)]
      rcases outMuts_get (ρ := outer ks n) hnd hHl.symm f1 H (fun k hk => by obtain ⟨i, hi⟩ := List.getElem?_of_mem hk; exact hkn i k hi) k with ⟨i, x', y, g1, g2, g3, g4, g5⟩ | ⟨g1, g2⟩
      · rw [show Hf[k]? = _ from g5, Option.some.injEq] at hx
        have hil := (List.getElem?_eq_some_iff.1 g1).1
        refine .inl ⟨i, y, ?_, g3, hx.symm, ?_⟩
        · unfold outer; rw [g1]
        · rw [hBk, hlo i hil, hBl i k g1]
      · rw [show Hf[k]? = _ from g2] at hx
        refine .inr ⟨hk, hx, hBk, fun i b hi hex => ?_⟩
        obtain ⟨x', u, e1, e2, -⟩ := hex
        rw [g1 i x' hi e1] at e2; cases e2
    · rw [List.getElem?_append_right (by rw [hHf]; exact hk), hHf, List.getElem?_map, Option.map_eq_some_iff] at hx
      obtain ⟨y, hy, rfl⟩ := hx
      rw [List.getElem?_drop] at hy
      have hil : ks.length + (k - H.length) < H'.length := (List.getElem?_eq_some_iff.1 hy).1
      refine .inl ⟨ks.length + (k - H.length), y, ?_, hy, rfl, ?_⟩
      · unfold outer
        rw [List.getElem?_eq_none (by omega)]
        simp only; omega
      · rw [List.getElem?_append_right (by rw [hm.sat.len]; exact hk), List.getElem?_drop, hm.sat.len]
  have outInj : ∀ {i j : Nat}, i < H'.length → j < H'.length → outer ks n i = outer ks n j → i = j := by
    intro i j hi hj e
    unfold outer at e
    cases ha : ks[i]? with
    | some a =>
      rw [ha] at e
      cases hb : ks[j]? with
      | some b => rw [hb] at e; simp only at e; subst e; exact nodupN_inj hnd ha hb
      | none => rw [hb] at e; simp only at e; have := hkn _ _ ha; omega
    | none =>
      rw [ha] at e
      cases hb : ks[j]? with
      | some b => rw [hb] at e; simp only at e; have := hkn _ _ hb; omega
      | none =>
        rw [hb] at e
        simp only [List.getElem?_eq_none_iff] at ha hb
        simp only at e
        omega
  have exOut : ∀ k b, ExBlk (Eff.run ⟨outMuts (outer ks n) ks Hl H', (H'.drop ks.length).map fun b => (hideRow b).ren (outer ks n)⟩ H) B' k b →
      (∃ i, k = outer ks n i ∧ i < H'.length ∧ ExBlk H' Bl' i b) ∨ (ExBlk H B k b ∧ b ∉ bl) := by
    rintro k b ⟨x, u, h1, h2, h3, h4⟩
    rcases cls k x h1 with ⟨i, y, g1, g2, rfl, g5⟩ | ⟨g1, g2, g3, g4⟩
    · rw [Blk.ren_excl] at h2
      exact .inl ⟨i, g1, (List.getElem?_eq_some_iff.1 g2).1, y, u, g2, by rw [← hideRow_excl h2]; exact h2, by rw [← g5]; exact h3, h4⟩
    · have hex : ExBlk H B k b := ⟨x, u, g2, h2, by rw [← g3]; exact h3, h4⟩
      refine .inr ⟨hex, fun hin => ?_⟩
      obtain ⟨i, hi⟩ := (hbl b).1 hin
      obtain ⟨k', hk', e2⟩ := exUp i b hi
      have := hm.sat.sep _ _ _ hex e2
      subst this
      exact g4 i b hk' hi
  have rdOut : ∀ k b, RdBlk (Eff.run ⟨outMuts (outer ks n) ks Hl H', (H'.drop ks.length).map fun b => (hideRow b).ren (outer ks n)⟩ H) B' k b → RdBlk H B k b := by
    rintro k b ⟨m, sz, ff, u, h1, h2, h3, h4, h5⟩
    rcases cls k _ h1 with ⟨i, y, g1, g2, e, g5⟩ | ⟨g1, g2, g3, g4⟩
    · exact (hideRow_row (Blk.ren_row e.symm)).elim
    · exact ⟨m, sz, ff, u, g2, h2, h3, by rw [← g3]; exact h4, h5⟩
  have hgl : ∀ i b, ExBlk H' Bl' i b → b ∈ bl ∨ w.heap.size ≤ b := fun i b h => hm'.good i b h
  have blIn : ∀ b, b ∈ bl → ∃ k, ExBlk H B k b := fun b hb => by
    obtain ⟨i, hi⟩ := (hbl b).1 hb
    obtain ⟨k, _, e⟩ := exUp i b hi
    exact ⟨k, e⟩
  refine ⟨_, _, B', x, hQ, List.prefix_append _ _, rfl, SV.ren_to hρ hx, ⟨⟨?_, fun k x u hk hu => ?_, fun k j b h1 h2 => ?_, fun k j b h1 h2 => ?_⟩, ⟨?_, ?_, ?_, ?_, fun k hk hnb => ?_⟩, fun k b hk => ?_⟩⟩
  · have : (Eff.run ⟨outMuts (outer ks n) ks Hl H', (H'.drop ks.length).map fun b => (hideRow b).ren (outer ks n)⟩ H).length = (Hf ++ (H'.drop ks.length).map (fun b => (hideRow b).ren (outer ks n))).length := by
      unfold Eff.run
      split
      · rename_i h0
        simp only at h0
        rw [h0, List.append_nil]
      · rfl
    rw [this]
    simp only [B', List.length_append, List.length_drop, List.length_map, hHf, hm.sat.len, hlen']
  · rcases cls k x hk with ⟨i, y, g1, g2, rfl, g5⟩ | ⟨g1, g2, g3, g4⟩
    · exact Blk.ren_sat hρ (hideRow_sat (hm'.sat.blk i y u g2 (by rw [← g5]; exact hu)))
    · rw [g3] at hu
      have h0 := hm.sat.blk k x u g2 hu
      have hpre' : B <+: B' := List.prefix_append _ _
      cases hxe : x.excl
      · cases x with
        | gone => trivial
        | row m sz ff =>
          obtain ⟨p, cap, rfl, e1, e2, e3⟩ := h0
          refine ⟨p, cap, rfl, e1, e2, fun i j hi hj => ?_⟩
          obtain ⟨a, rfl, hc⟩ := e3 i j hi hj
          refine ⟨a, rfl, ?_⟩
          have hlt := cell_lt hc
          rw [addr_add_block] at hlt
          refine (World.cell?_of_block ?_).trans hc
          rw [addr_add_block]
          refine hm'.keeps.block _ hlt fun hin => ?_
          obtain ⟨k', e⟩ := blIn _ hin
          exact hm.sat.far k' k _ e ⟨m, sz, ff, _, g2, by omega, by omega, hu, rfl⟩
        | own _ => cases hxe
        | arr _ _ _ => cases hxe
        | vec _ _ _ _ _ => cases hxe
        | lst _ _ _ _ => cases hxe
        | que _ _ _ _ _ => cases hxe
        | pm _ _ _ => cases hxe
        | ext _ => cases hxe
      · refine (h0.mono hpre').kept hm'.keeps.size fun b hb hlt => hm'.keeps.block b hlt fun hin => ?_
        obtain ⟨i, hi⟩ := (hbl b).1 hin
        obtain ⟨k', hk', e2⟩ := exUp i b hi
        have := hm.sat.sep _ _ _ ⟨x, u, g2, hxe, hu, hb⟩ e2
        subst this
        exact g4 i b hk' hi
  · rcases exOut k b h1 with ⟨i, rfl, hi, e1⟩ | ⟨e1, n1⟩ <;> rcases exOut j b h2 with ⟨i', rfl, hi', e2⟩ | ⟨e2, n2⟩
    · rw [hm'.sat.sep _ _ _ e1 e2]
    · rcases hgl _ _ e1 with g | g
      · exact absurd g n2
      · have := hm.sat.ex_lt e2; omega
    · rcases hgl _ _ e2 with g | g
      · exact absurd g n1
      · have := hm.sat.ex_lt e1; omega
    · exact hm.sat.sep _ _ _ e1 e2
  · have h2 := rdOut _ _ h2
    rcases exOut k b h1 with ⟨i, rfl, hi, e1⟩ | ⟨e1, n1⟩
    · rcases hgl _ _ e1 with g | g
      · obtain ⟨k', e⟩ := blIn _ g
        exact hm.sat.far _ _ _ e h2
      · have := hm.sat.rd_lt h2; omega
    · exact hm.sat.far _ _ _ e1 h2
  · exact hm'.keeps.os.trans hm.keeps.os
  · exact hm'.keeps.tape.trans hm.keeps.tape
  · exact hm'.keeps.output.trans hm.keeps.output
  · exact Nat.le_trans hm.keeps.size hm'.keeps.size
  · refine (hm'.keeps.block k (Nat.lt_of_lt_of_le hk hm.keeps.size) fun hin => ?_).trans (hm.keeps.block k hk hnb)
    obtain ⟨k', e⟩ := blIn _ hin
    rcases hm.good _ _ e with g | g
    · exact hnb g
    · omega
  · rcases exOut k b hk with ⟨i, rfl, hi, e1⟩ | ⟨e1, n1⟩
    · rcases hgl _ _ e1 with g | g
      · obtain ⟨k', e⟩ := blIn _ g
        exact hm.good _ _ e
      · exact .inr (by have := hm.keeps.size; omega)
    · exact hm.good _ _ e1
theorem liftG_ok {P : Program} {F : LTab} (hF : LOk P F) : GOk P (liftG F) := by
  intro f ss g n t ht
  unfold liftG at ht
  simp only at ht
  generalize hks : reach g 100 (SV.letss ss) [] = ks at ht
  split at ht
  case h_2 => cases ht
  rename_i Hl ss' hblks hlocs
  cases hb : (nodupN ks && ks.all fun k => Nat.blt k n)
  · rw [hb] at ht; cases ht
  rw [hb, cond_true] at ht
  simp only [Bool.and_eq_true] at hb
  obtain ⟨hnd, hall⟩ := hb
  obtain ⟨hHl, hget⟩ := blks_get hblks
  have up : ∀ (H : List Blk), (∀ k x, g k = some x → H[k]? = some x) → ∀ (i : Nat) (x : Blk), Hl[i]? = some x → ∃ k y, ks[i]? = some k ∧ H[k]? = some y ∧ y.loc ks = some x := by
    intro H hg i x hi
    have hil : i < ks.length := by rw [← hHl]; exact (List.getElem?_eq_some_iff.1 hi).1
    obtain ⟨b, b', h1, h2, h3⟩ := hget i _ (List.getElem?_eq_getElem hil)
    rw [hi, Option.some.injEq] at h3
    subst h3
    exact ⟨_, b, List.getElem?_eq_getElem hil, hg _ _ h1, h2⟩
  split at ht
  · rename_i t0 ht0
    simp only [Option.some.injEq] at ht
    subst ht
    obtain ⟨hgo, hcalls⟩ := hF f ss' Hl t0 ht0
    refine ⟨hgo, fun w0 bs H B w vs hm hg hn hvs Qs hq => lift_core hlocs hnd hall hHl hcalls hm hn hvs (fun i x hi => ?_) hq⟩
    obtain ⟨k, y, h1, h2, h3⟩ := up H hg i x hi
    exact ⟨k, y, x, h1, h2, h3, .inl rfl⟩
  · rw [Option.map_eq_some_iff] at ht
    obtain ⟨t0, ht0, rfl⟩ := ht
    obtain ⟨hgo, hcalls⟩ := hF f ss' _ t0 ht0
    refine ⟨hgo, fun w0 bs H B w vs hm hg hn hvs Qs hq => lift_core hlocs hnd hall (by simpa using hHl) hcalls hm hn hvs (fun i x hi => ?_) hq⟩
    rw [List.getElem?_map, Option.map_eq_some_iff] at hi
    obtain ⟨x', hi', rfl⟩ := hi
    obtain ⟨k, y, h1, h2, h3⟩ := up H hg i x' hi'
    exact ⟨k, y, x', h1, h2, h3, .inr rfl⟩
def noF : LTab := fun _ _ _ => none
theorem noF_ok {P : Program} : LOk P noF := fun _ _ _ _ h => by cases h
def addF (k : FuncId) (h : List SV → List Blk → Option (T (SV × List Blk))) (F : LTab) : LTab := fun f ss H => bif Nat.beq f k then h (ss.map openS) (H.map openBlk) else F f ss H
def EntryOk (P : Program) (k : FuncId) (h : List SV → List Blk → Option (T (SV × List Blk))) : Prop :=
  ∀ ss H t, h ss H = some t → ∀ (bs : List Nat) (B : List Value) (w : World) (vs : List Value), Mem w bs H B w → SV.tos B ss = some vs → ∀ Qs : SV × List Blk → Prop, t.ok Qs →
      Calls P k vs.toArray w fun e w' => ∃ s H' B' x, Qs (s, H') ∧ B <+: B' ∧ e = .returned x ∧ s.to B' = some x ∧ Mem w bs H' B' w'
theorem addF_ok {P : Program} {k : FuncId} {h : List SV → List Blk → Option (T (SV × List Blk))} {F : LTab} (hF : LOk P F) (hg : isGo P k = true) (hh : EntryOk P k h) : LOk P (addF k h F) := by
  intro f ss H t hf
  unfold addF at hf
  cases hb : Nat.beq f k
  · rw [hb] at hf; exact hF f ss H t hf
  · rw [hb, cond_true] at hf
    obtain rfl : f = k := Nat.eq_of_beq_eq_true hb
    exact ⟨hg, fun bs B w vs hm hv => hh _ _ t hf bs B w vs (openBlk_mem hm) (by rw [opens_tos]; exact hv)⟩
def addT (k : FuncId) (h : List SV → List Blk → Option (T (SV × List Blk))) (F : LTab) : LTab := fun f ss H => bif Nat.beq f k then h ss H else F f ss H
theorem addT_ok {P : Program} {k : FuncId} {h : List SV → List Blk → Option (T (SV × List Blk))} {F : LTab} (hF : LOk P F) (hg : isGo P k = true) (hh : EntryOk P k h) : LOk P (addT k h F) := by
  intro f ss H t hf
  unfold addT at hf
  cases hb : Nat.beq f k
  · rw [hb] at hf; exact hF f ss H t hf
  · rw [hb, cond_true] at hf
    obtain rfl : f = k := Nat.eq_of_beq_eq_true hb
    exact ⟨hg, hh ss H t hf⟩
def both (P : Program) (S : Tab) (F : LTab) (fs : List Nat) : Cfg := ⟨S, liftG F, effE P fs, [], []⟩
theorem both_ok {P : Program} {S : Tab} {F : LTab} {fs : List Nat} (hS : TabOk P S) (hF : LOk P F) : CfgOk P (both P S F fs) := ⟨hS, liftG_ok hF⟩
def inl (P : Program) (C : Cfg) (L : Nat → St → Option (T (Ex × St))) (fn : Func) : List SV → List Blk → Option (T (SV × List Blk)) := fun ss H => some (runF P C L fn (fn.body.getD .skip) ss H)
theorem inl_ok {P : Program} {C : Cfg} (hC : CfgOk P C) (hP : P.follows .mixedOrders = true) {L : Nat → St → Option (T (Ex × St))} {f : FuncId} {fn : Func} (hf : P.funcs[f]? = some fn) (hb : fn.body.isSome = true) (hlex : lexAll C (fn.body.getD .skip) = true)
    (hL : ∀ id body, (id, body) ∈ loopsOf (fn.body.getD .skip) → ∀ st t, L id st = some t → RunOk P fn.ntmps (.block id (.loop body)) st t) :
    EntryOk P f (inl P C L fn) := by
  intro ss H t h bs B w vs hm hvs Qs hq
  simp only [inl, Option.some.injEq] at h
  subst h
  have hb' : fn.body = some (fn.body.getD .skip) := by
    cases h : fn.body with
    | none => rw [h] at hb; cases hb
    | some c => rfl
  refine (calls_of_runF hC hP hf hb' hlex hL hvs hm hq).mono ?_
  rintro e w' ⟨s, H', B', x, h1, h2, h3, h4, h5⟩
  exact ⟨s, H', B', x, h1, h2, h4, h3, h5⟩
theorem tree_ok {P : Program} {C : Cfg} (hC : CfgOk P C) (hP : P.follows .mixedOrders = true) {L : Nat → St → Option (T (Ex × St))} {f : FuncId} {fn : Func} (hf : P.funcs[f]? = some fn) (hb : fn.body.isSome = true) (hlex : lexAll C (fn.body.getD .skip) = true)
    (hL : ∀ id body, (id, body) ∈ loopsOf (fn.body.getD .skip) → ∀ st t, L id st = some t → RunOk P fn.ntmps (.block id (.loop body)) st t)
    {ss : List SV} {H : List Blk} {t t' : T (SV × List Blk)} (ht : runF P C L fn (fn.body.getD .skip) ss H = t') (htt : ∀ Qs : SV × List Blk → Prop, t.ok Qs → t'.ok Qs) {bs : List Nat} {B : List Value} {w : World} {vs : List Value} (hm : Mem w bs H B w) (hvs : SV.tos B ss = some vs) {Qs : SV × List Blk → Prop} (hq : t.ok Qs) :
    Calls P f vs.toArray w fun e w' => ∃ s H' B' x, Qs (s, H') ∧ B <+: B' ∧ e = .returned x ∧ s.to B' = some x ∧ Mem w bs H' B' w' :=
  inl_ok hC hP hf hb hlex hL ss H _ rfl bs B w vs hm hvs Qs (ht ▸ htt Qs hq)
def goTrim (m : Nat) (r : SV × List Blk) : T (SV × List Blk) := bif r.1.under m then .leaf (r.1, (r.2.take m).map (cutBlk m)) else .stuck 131
def trimE (h : List SV → List Blk → Option (T (SV × List Blk))) : List SV → List Blk → Option (T (SV × List Blk)) := fun ss H => (h ss H).map fun t => t.bind (goTrim H.length)
theorem trimE_ok {P : Program} {k : FuncId} {h : List SV → List Blk → Option (T (SV × List Blk))} (hh : EntryOk P k h) : EntryOk P k (trimE h) := by
  intro ss H t ht bs B w vs hm hv Qs hq
  simp only [trimE, Option.map_eq_some_iff] at ht
  obtain ⟨t0, h0, rfl⟩ := ht
  refine (hh ss H t0 h0 bs B w vs hm hv _ (T.ok_bind hq)).mono ?_
  rintro e w' ⟨s, H', B', x, hQ, hp, rfl, hx, hm'⟩
  unfold goTrim at hQ
  cases hu : SV.under H.length s
  · simp only [hu] at hQ; exact hQ.elim
  · simp only [hu, cond_true] at hQ
    have hl : B.length = H.length := hm.sat.len
    have hm2 := only_mem hm' hp
    rw [hl] at hm2
    refine ⟨s, _, B, x, hQ, List.prefix_refl _, rfl, ?_, hm2⟩
    rw [SV.under_to hp (by rw [hl]; exact hu)]; exact hx
theorem treeT_ok {P : Program} {C : Cfg} (hC : CfgOk P C) (hP : P.follows .mixedOrders = true) {L : Nat → St → Option (T (Ex × St))} {f : FuncId} {fn : Func} (hf : P.funcs[f]? = some fn) (hb : fn.body.isSome = true) (hlex : lexAll C (fn.body.getD .skip) = true)
    (hL : ∀ id body, (id, body) ∈ loopsOf (fn.body.getD .skip) → ∀ st t, L id st = some t → RunOk P fn.ntmps (.block id (.loop body)) st t)
    {ss : List SV} {H : List Blk} {t t' : T (SV × List Blk)} (ht : runF P C L fn (fn.body.getD .skip) ss H = t') (htt : ∀ Qs : SV × List Blk → Prop, t.ok Qs → t'.ok fun r => (goTrim H.length r).ok Qs) {bs : List Nat} {B : List Value} {w : World} {vs : List Value} (hm : Mem w bs H B w) (hvs : SV.tos B ss = some vs) {Qs : SV × List Blk → Prop} (hq : t.ok Qs) :
    Calls P f vs.toArray w fun e w' => ∃ s H' B' x, Qs (s, H') ∧ B <+: B' ∧ e = .returned x ∧ s.to B' = some x ∧ Mem w bs H' B' w' :=
  trimE_ok (inl_ok hC hP hf hb hlex hL) ss H (t'.bind (goTrim H.length)) (by simp only [trimE, inl, ht, Option.map_some]) bs B w vs hm hvs Qs (T.bind_ok (htt Qs hq))
def addI (k : FuncId) (P : Program) (C : Cfg) (L : Nat → St → Option (T (Ex × St))) (fn : Func) (S : Tab) : Tab := fun f xs => bif Nat.beq f k then some (runV P C L fn xs) else S f xs
theorem addI_ok {P : Program} {C : Cfg} {S : Tab} (hS : TabOk P S) (hC : CfgOk P C) (hP : P.follows .mixedOrders = true) {L : Nat → St → Option (T (Ex × St))} {k : FuncId} {fn : Func} (hf : P.funcs[k]? = some fn) (hg : isGo P k = true) (hb : fn.body.isSome = true) (hlex : lexAll C (fn.body.getD .skip) = true)
    (hL : ∀ id body, (id, body) ∈ loopsOf (fn.body.getD .skip) → ∀ st t, L id st = some t → RunOk P fn.ntmps (.block id (.loop body)) st t) : TabOk P (addI k P C L fn S) := by
  intro f xs t h
  unfold addI at h
  cases hbq : Nat.beq f k
  · rw [hbq] at h; exact hS f xs t h
  · rw [hbq, cond_true, Option.some.injEq] at h
    obtain rfl : f = k := Nat.eq_of_beq_eq_true hbq
    subst h
    exact ⟨hg, fun v hv w => calls_runV hC hP hf hb hlex hL rfl hv w⟩
end Go.Proofs.YtbippdeahoehoaaGreat.Sym
namespace Go.Proofs.YtbippdeahoehoaaGreat.Sym
open Go.RowKit
section
variable {P : Program} {C : Cfg}
def trimT (m : Nat) (t : T (SV × List Blk)) : T (SV × List Blk) := t.bind (goTrim m)
theorem trimT_ok (hC : CfgOk P C) (hP : P.follows .mixedOrders = true) {L : Nat → St → Option (T (Ex × St))} {f : FuncId} {fn : Func} (hf : P.funcs[f]? = some fn) (hb : fn.body.isSome = true) (hlex : lexAll C (fn.body.getD .skip) = true)
    (hL : ∀ id body, (id, body) ∈ loopsOf (fn.body.getD .skip) → ∀ st t, L id st = some t → RunOk P fn.ntmps (.block id (.loop body)) st t)
    {ss : List SV} {H : List Blk} {t' : T (SV × List Blk)} (ht : trimT H.length (runF P C L fn (fn.body.getD .skip) ss H) = t') {bs : List Nat} {B : List Value} {w : World} {vs : List Value} (hm : Mem w bs H B w) (hvs : SV.tos B ss = some vs) {Qs : SV × List Blk → Prop} (hq : t'.ok Qs) :
    Calls P f vs.toArray w fun e w' => ∃ s H' B' x, Qs (s, H') ∧ B <+: B' ∧ e = .returned x ∧ s.to B' = some x ∧ Mem w bs H' B' w' :=
  trimE_ok (inl_ok hC hP hf hb hlex hL) ss H t' (by simp only [trimE, inl, Option.map_some]; rw [← ht]; rfl) bs B w vs hm hvs Qs hq
def runO (P : Program) (C : Cfg) (L : Nat → St → Option (T (Ex × St))) (fn : Func) (ss : List SV) (H : List Blk) : T Value := (runF P C L fn (fn.body.getD .skip) ss H).bind onlyV
theorem calls_runO (hC : CfgOk P C) (hP : P.follows .mixedOrders = true) {L : Nat → St → Option (T (Ex × St))} {f : FuncId} {fn : Func} (hf : P.funcs[f]? = some fn) (hb : fn.body.isSome = true) (hlex : lexAll C (fn.body.getD .skip) = true)
    (hL : ∀ id body, (id, body) ∈ loopsOf (fn.body.getD .skip) → ∀ st t, L id st = some t → RunOk P fn.ntmps (.block id (.loop body)) st t)
    {ss : List SV} {H : List Blk} {t : T Value} (ht : runO P C L fn ss H = t) {v : Value} (hq : t.ok fun x => x = v) {B vs : List Value} {w : World} (hm : Mem w [] H B w) (hv : SV.tos B ss = some vs) :
    Calls P f vs.toArray w fun e w' => e = .returned v ∧ Below w.heap.size w w' := by
  obtain ⟨c, hc⟩ := Option.isSome_iff_exists.1 hb
  rw [hc, Option.getD_some] at hlex hL
  subst ht
  unfold runO at hq
  rw [hc, Option.getD_some] at hq
  refine (calls_of_runF hC hP hf hc hlex hL hv hm (T.ok_bind hq)).mono ?_
  rintro e w' ⟨s, H', B', x, h1, _, h3, rfl, hm'⟩
  refine ⟨?_, hm'.keeps.below⟩
  unfold onlyV at h1
  simp only at h1
  split at h1
  · rename_i y hy
    have h1 : y = v := h1
    have := SV.plain_to hy B'
    rw [h3] at this
    simp only [Option.some.injEq] at this
    rw [this, h1]
  · exact h1.elim
end
end Go.Proofs.YtbippdeahoehoaaGreat.Sym
namespace Go.Proofs.YtbippdeahoehoaaGreat.Sym
open Go.RowKit
def laterF (E : Oper → Bool) (ops : Array Oper) (k : Nat) (o : Oper) : List Oper → List Nat → Bool
  | [], _ => true
  | oj :: l, r => ((r.headD 0).testBit k || (o.apart ops oj && !(E o && E oj))) && laterF E ops k o l r.tail
def lexG (md : Region.Mode) (E : Oper → Bool) (ops : Array Oper) : Nat → List Oper → List Nat → Bool
  | _, [], _ => true
  | k, o :: l, r => (o.after.toList.all fun e => !Region.binds md e || Nat.blt e.on k) && laterF E ops k o l r.tail && lexG md E ops (k + 1) l r.tail
theorem laterF_ok {E : Oper → Bool} {ops : Array Oper} {k : Nat} {o : Oper} : ∀ {l : List Oper} {r : List Nat}, laterF E ops k o l r = true → ∀ t oj, l[t]? = some oj → (r.getD t 0).testBit k = true ∨ (o.apart ops oj = true ∧ (E o && E oj) = false)
  | [], _, _, t, oj, h => by simp at h
  | x :: l, r, h, t, oj, ht => by
    simp only [laterF, Bool.and_eq_true, Bool.or_eq_true, Bool.not_eq_true'] at h
    cases t with
    | zero =>
      simp only [List.getElem?_cons_zero, Option.some.injEq] at ht
      subst ht
      cases r <;> exact h.1
    | succ t =>
      have := laterF_ok h.2 t oj (by simpa using ht)
      cases r with
      | nil => simpa using this
      | cons a r => simpa using this
theorem lexG_ok {md : Region.Mode} {E : Oper → Bool} {ops : Array Oper} {R : List Nat} (hR : UpOk md ops R) (hsz : R.length = ops.size) : ∀ (l : List Oper) (k : Nat) (listed : Array Bool), (∀ t, l[t]? = ops[k + t]?) → k + l.length = ops.size → listed.size = ops.size → (∀ j, j < ops.size → listed[j]? = some (decide (j < k))) →
    lexG md E ops k l (R.drop k) = true → lexD md E ops l.length k listed = true
  | [], k, listed, _, hk, hls, hL, _ => by
    simp only [List.length_nil, lexD, List.isEmpty_iff]
    unfold Region.ready
    rw [List.filter_eq_nil_iff]
    intro i hi
    have hi := List.mem_range.1 hi
    have := hL i hi
    rw [Array.getD_eq_getD_getElem?, this]
    simp only [List.length_nil] at hk
    simp [show i < k by omega]
  | o :: l, k, listed, hl, hk, hls, hL, h => by
    have ho : ops[k]? = some o := by simpa using (hl 0).symm
    simp only [lexG, Bool.and_eq_true] at h
    obtain ⟨⟨h1, h2⟩, h3⟩ := h
    simp only [List.length_cons] at hk
    have hkl : k < ops.size := by omega
    simp only [List.length_cons, lexD, Bool.and_eq_true, ho]
    refine ⟨⟨?_, ?_⟩, ?_⟩
    · rw [List.contains_iff_mem]
      unfold Region.ready
      rw [List.mem_filter]
      refine ⟨List.mem_range.2 hkl, ?_⟩
      rw [Array.getD_eq_getD_getElem?, hL k hkl, ho]
      simp only [Option.getD_some, Nat.lt_irrefl, decide_false, Bool.not_false, Bool.true_and, Option.map_some]
      rw [← Array.all_toList, List.all_eq_true]
      rw [List.all_eq_true] at h1
      intro e he
      have := h1 e he
      rw [Bool.or_eq_true, Nat.blt_eq] at this
      rw [Bool.or_eq_true]
      refine this.imp id fun g => ?_
      rw [Array.getD_eq_getD_getElem?, hL e.on (by omega)]
      simp [g]
    · rw [List.all_eq_true]
      intro j hj
      have hj := List.mem_range.1 hj
      rw [Array.getD_eq_getD_getElem?, hL j hj]
      by_cases hlt : j < k
      · simp [hlt]
      by_cases he : j = k
      · subst he; simp
      obtain ⟨t, rfl⟩ : ∃ t, j = k + 1 + t := ⟨j - (k + 1), by omega⟩
      obtain ⟨oj, hoj⟩ : ∃ oj, ops[k + 1 + t]? = some oj := ⟨_, Array.getElem?_eq_getElem hj⟩
      have hlj : l[t]? = some oj := by
        have := hl (t + 1)
        rw [show k + (t + 1) = k + 1 + t by omega, hoj] at this
        simpa using this
      have hr : (List.drop k R).tail = R.drop (k + 1) := by rw [List.tail_drop]
      rw [hr] at h2
      have hd : (R.drop (k + 1)).getD t 0 = R.getD (k + 1 + t) 0 := by
        rw [List.getD_eq_getElem?_getD, List.getD_eq_getElem?_getD, List.getElem?_drop]
      have := laterF_ok h2 t oj hlj
      rw [hd] at this
      rw [hoj]
      simp only [Bool.or_eq_true, Bool.and_eq_true, Bool.not_eq_true']
      right
      rcases this with g | g
      · right
        have := hR (k + 1 + t) (by omega) k g
        rw [hsz] at this; exact this
      · exact .inl g
    · have hr : (List.drop k R).tail = R.drop (k + 1) := by rw [List.tail_drop]
      rw [hr] at h3
      refine lexG_ok hR hsz l (k + 1) _ (fun t => by have := hl (t + 1); simpa [Nat.add_assoc, Nat.add_comm 1 t] using this) (by omega) (by simp [hls]) (fun j hj => ?_) h3
      rw [Array.getElem?_setIfInBounds]
      by_cases e : k = j
      · subst e; simp [hls, hkl]
      · rw [if_neg e, hL j hj]
        congr 1
        rw [decide_eq_decide]; omega
def lexAllF (C : Cfg) : Code → Bool
  | .region id ops draw => bif draw then match keepOf id C.M with | some _ => true | none => lexG .any C.E ops 0 ops.toList (ups .any ops.toList []) else true
  | .seq a b => lexAllF C a && lexAllF C b
  | .cond _ a b => lexAllF C a && lexAllF C b
  | .block _ c => bif isLoop c then true else lexAllF C c
  | _ => true
theorem lexAllF_ok {C : Cfg} : ∀ {c : Code}, lexAllF C c = true → lexAll C c = true
  | .region id ops draw, h => by
    cases draw
    · rfl
    · simp only [lexAllF, lexAll, cond_true] at h ⊢
      obtain ⟨h1, h2⟩ := ups_ok (md := .any) (ops := ops) ops.toList [] (fun t => by simp) (fun j hj => by simp at hj)
      have hsz : (ups .any ops.toList []).length = ops.size := by rw [h2]; simp
      cases hM : keepOf id C.M with
      | some _ => rfl
      | none =>
      rw [hM] at h
      simp only at h
      show lexD _ _ _ _ _ _ = true
      have := lexG_ok (E := C.E) h1 hsz ops.toList 0 (Array.replicate ops.size false) (fun t => by simp) (by simp) (by simp) (fun j hj => by simp [hj]) (by simpa using h)
      simpa using this
  | .seq a b, h => by
    simp only [lexAllF, lexAll, Bool.and_eq_true] at h ⊢
    exact ⟨lexAllF_ok h.1, lexAllF_ok h.2⟩
  | .cond _ a b, h => by
    simp only [lexAllF, lexAll, Bool.and_eq_true] at h ⊢
    exact ⟨lexAllF_ok h.1, lexAllF_ok h.2⟩
  | .block _ c, h => by
    simp only [lexAllF, lexAll] at h ⊢
    cases hb : isLoop c
    · rw [hb, cond_false] at h
      rw [cond_false]; exact lexAllF_ok h
    · rw [cond_true]
  | .skip, _ => rfl
  | .exit _, _ => rfl
  | .ret, _ => rfl
  | .loop _, _ => rfl
  | .rangeFunc .., _ => rfl
  | .scope _, _ => rfl
  | .label _, _ => rfl
  | .goto _, _ => rfl
  | .refuse _, _ => rfl
end Go.Proofs.YtbippdeahoehoaaGreat.Sym
namespace Go.Proofs.YtbippdeahoehoaaGreat.Sym
open Go.RowKit
def ordB (n0 : Nat) (js : List Nat) (i k : Nat) (o : Option Blk) : Blk := match o with
  | some b => bif isAt i (ordN n0 js k) then locB (ordN n0 js) (openVec b) else .gone
  | none => .gone
def ordH (n0 : Nat) (js : List Nat) (H : List Blk) : List Blk :=
  (List.range n0).map (fun k => ordB n0 js k k H[k]?) ++ js.zipIdx.map fun p => ordB n0 js (n0 + p.2) p.1 H[p.1]?
def ordS (ρ : Nat → Option Nat) : Option SV → Option SV
  | some s => openO (s.mapL ρ)
  | none => none
def St.ord1 (n0 : Nat) (keep : List Nat) (js : List Nat) (st : St) : St :=
  ⟨keep.map fun t => (t, ordS (ordN n0 js) (look st.fr t)), (ordH n0 js st.H).map openBlk⟩
theorem ord1_ok {N n0 : Nat} {w0 : World} {bs : List Nat} {st : St} {B : List Value} {a : Act} {w : World} (hsl : Slots N st.fr B a) (hm : Mem w0 bs st.H B w) (hn : n0 ≤ B.length) (keep js : List Nat) (hjs : ∀ j ∈ js, j < st.H.length) :
    ∃ B', B.take n0 <+: B' ∧ Slots N (st.ord1 n0 keep js).fr B' a ∧ Mem w0 bs (st.ord1 n0 keep js).H B' w := by
  have hlt : (B.take n0).length = n0 := by simp; omega
  refine ⟨B.take n0 ++ js.map (fun j => B.getD j undef), List.prefix_append _ _, ?_, openBlk_mem ?_⟩
  all_goals
    have hρ : ∀ (k i : Nat), ordN n0 js k = some i → (B.take n0 ++ js.map (fun j => B.getD j undef))[i]? = B[k]? := by
      intro k i e
      unfold ordN at e
      split at e
      · rename_i i' hi
        simp only [Option.some.injEq] at e
        subst e
        obtain ⟨-, h2⟩ := posOf_get hi
        rw [Nat.sub_zero] at h2
        have hk := hjs k (List.mem_of_getElem? h2)
        rw [← hm.sat.len] at hk
        rw [List.getElem?_append_right (by omega), hlt, Nat.add_sub_cancel_left, List.getElem?_map, h2]
        simp [List.getD_eq_getElem?_getD, List.getElem?_eq_getElem hk]
      · cases hb : Nat.blt k n0
        · rw [hb] at e; cases e
        · rw [hb, cond_true, Option.some.injEq] at e
          subst e
          rw [Nat.blt_eq] at hb
          rw [List.getElem?_append_left (by omega), List.getElem?_take, if_pos hb]
  · refine ⟨hsl.size, hsl.defers, fun t s e => ?_⟩
    have e := look_only e
    unfold ordS at e
    split at e
    · rename_i s0 hs0
      cases hc : SV.mapL (ordN n0 js) s0 with
      | none => rw [hc] at e; cases e
      | some s1 =>
        rw [hc] at e
        simp only [openO, Option.some.injEq] at e
        subst e
        rw [openS_to, SV.mapL_to hρ hc]
        exact hsl.slot t s0 hs0
    · cases e
  · have hlen : (ordH n0 js st.H).length = (B.take n0 ++ js.map (fun j => B.getD j undef)).length := by
      unfold ordH
      rw [List.length_append, List.length_append, hlt]
      simp
    have get : ∀ {i : Nat} {x : Blk}, (ordH n0 js st.H)[i]? = some x → x = .gone ∨ ∃ k y, ordN n0 js k = some i ∧ st.H[k]? = some y ∧ x = locB (ordN n0 js) (openVec y) := by
      intro i x hi
      unfold ordH at hi
      have one : ∀ {k : Nat}, x = ordB n0 js i k st.H[k]? → x = .gone ∨ ∃ k y, ordN n0 js k = some i ∧ st.H[k]? = some y ∧ x = locB (ordN n0 js) (openVec y) := by
        intro k e
        unfold ordB at e
        split at e
        · rename_i b hb
          cases hc : isAt i (ordN n0 js k)
          · rw [hc] at e; exact .inl e
          · rw [hc, cond_true] at e
            exact .inr ⟨k, b, isAt_iff.1 hc, hb, e⟩
        · exact .inl e
      by_cases hlo : i < n0
      · rw [List.getElem?_append_left (by simpa using hlo), List.getElem?_map, Option.map_eq_some_iff] at hi
        obtain ⟨k, hk, rfl⟩ := hi
        rw [List.getElem?_range hlo, Option.some.injEq] at hk
        subst hk
        exact one rfl
      · rw [List.getElem?_append_right (by simpa using hlo), List.getElem?_map, Option.map_eq_some_iff] at hi
        obtain ⟨p, hp, rfl⟩ := hi
        simp only [List.length_map, List.length_range] at hp
        rw [List.getElem?_zipIdx, Option.map_eq_some_iff] at hp
        obtain ⟨j, hj, rfl⟩ := hp
        refine one (k := j) ?_
        simp only [Nat.zero_add]
        rw [show n0 + (i - n0) = i by omega]
    have ex : ∀ i b, ExBlk (ordH n0 js st.H) (B.take n0 ++ js.map (fun j => B.getD j undef)) i b → ∃ k, ordN n0 js k = some i ∧ ExBlk st.H B k b := by
      rintro i b ⟨x, u, h1, h2, h3, h4⟩
      rcases get h1 with rfl | ⟨k, y, g1, g2, rfl⟩
      · cases h2
      · exact ⟨k, g1, y, u, g2, by rw [← openVec_excl]; exact locB_excl h2, by rw [← hρ k i g1]; exact h3, h4⟩
    have rd : ∀ i b, RdBlk (ordH n0 js st.H) (B.take n0 ++ js.map (fun j => B.getD j undef)) i b → ∃ k, ordN n0 js k = some i ∧ RdBlk st.H B k b := by
      rintro i b ⟨n, sz, f, u, h1, h2, h3, h4, h5⟩
      rcases get h1 with e | ⟨k, y, g1, g2, e⟩
      · cases e
      · exact ⟨k, g1, n, sz, f, u, by rw [g2, openVec_row (locB_row e.symm)], h2, h3, by rw [← hρ k i g1]; exact h4, h5⟩
    refine ⟨⟨hlen.symm, fun i x u hi hu => ?_, fun i j b h1 h2 => ?_, fun i j b h1 h2 => ?_⟩, hm.keeps, fun i b h1 => ?_⟩
    · rcases get hi with rfl | ⟨k, y, g1, g2, rfl⟩
      · trivial
      · rw [hρ k i g1] at hu
        exact locB_sat hρ (openVec_sat (hm.sat.blk k y u g2 hu))
    · obtain ⟨k, k1, k2⟩ := ex _ _ h1
      obtain ⟨l, l1, l2⟩ := ex _ _ h2
      have := hm.sat.sep _ _ _ k2 l2
      subst this
      rw [k1, Option.some.injEq] at l1
      exact l1
    · obtain ⟨k, k1, k2⟩ := ex _ _ h1
      obtain ⟨l, l1, l2⟩ := rd _ _ h2
      exact hm.sat.far _ _ _ k2 l2
    · obtain ⟨k, k1, k2⟩ := ex _ _ h1
      exact hm.good _ _ k2
abbrev Mw := List (Spot × TypeId × Nat)
def spotAt (st : St) : Spot → Option SV
  | .slot t _ => look st.fr t
  | .cell k i _ => match st.H[k]? with
    | some (.own cells) => cells[i]?
    | _ => none
def openNil (st : St) (m : Spot × TypeId × Nat) : St := match m.1 with
  | .slot t _ => bif isNilS (look st.fr t) then ⟨(t, some (.ref st.H.length)) :: st.fr, st.H ++ [Blk.vec true m.2.1 m.2.2 0 []]⟩ else st
  | .cell k i _ => match st.H[k]? with
    | some (.own cells) => bif isNilS cells[i]? then ⟨st.fr, (st.H ++ [Blk.vec true m.2.1 m.2.2 0 []]).set k (.own (cells.set i (.ref st.H.length)))⟩ else st
    | _ => st
theorem nil_to {o : Option SV} (e : isNilS o = true) : ∃ s, o = some s ∧ ∀ B, s.to B = some (.slice none 0 0) := by
  unfold isNilS at e
  split at e
  · exact ⟨_, rfl, fun _ => rfl⟩
  · exact ⟨_, rfl, fun _ => rfl⟩
  · cases e
theorem openNil_ok {N : Nat} {w0 : World} {bs : List Nat} {st : St} {B : List Value} {a : Act} {w : World} (hsl : Slots N st.fr B a) (hm : Mem w0 bs st.H B w) (m : Spot × TypeId × Nat) :
    ∃ B', B <+: B' ∧ Slots N (openNil st m).fr B' a ∧ Mem w0 bs (openNil st m).H B' w := by
  have stay : ∃ B', B <+: B' ∧ Slots N st.fr B' a ∧ Mem w0 bs st.H B' w := ⟨B, List.prefix_refl _, hsl, hm⟩
  have hsat : BlkSat (B ++ [Value.slice none 0 0]) w (.slice none 0 0) (.vec true m.2.1 m.2.2 0 []) := by simp [BlkSat, VecSat, World.ownsRow]
  have hadd := hm.add (grown_self w none) (y := .vec true m.2.1 m.2.2 0 []) (u := .slice none 0 0) (fun b hb => by cases hb) hsat
  have hpre : B <+: B ++ [Value.slice none 0 0] := List.prefix_append _ _
  have hlast : (SV.ref st.H.length).to (B ++ [Value.slice none 0 0]) = some (.slice none 0 0) := ref_to hm.sat.len _
  unfold openNil
  split
  · rename_i t _ _
    cases hb : isNilS (look st.fr t)
    · rw [cond_false]; exact stay
    · rw [cond_true]
      refine ⟨_, hpre, ⟨hsl.size, hsl.defers, fun u s e => ?_⟩, hadd⟩
      simp only [look] at e
      cases hb' : Nat.beq t u
      · rw [hb', cond_false] at e; exact SV.to_mono hpre (hsl.slot u s e)
      · rw [hb', cond_true, Option.some.injEq] at e
        have := Nat.eq_of_beq_eq_true hb'
        subst this
        subst e
        rw [nil_val hsl hb]
        exact hlast
  · rename_i k i _ _
    split
    · rename_i cells hk
      cases hb : isNilS cells[i]?
      · rw [cond_false]; exact stay
      · rw [cond_true]
        obtain ⟨s, hs, hnil⟩ := nil_to hb
        have hk' : (st.H ++ [Blk.vec true m.2.1 m.2.2 0 []])[k]? = some (.own cells) := by
          rw [List.getElem?_append_left (List.getElem?_eq_some_iff.1 hk).1]; exact hk
        obtain ⟨u, hu⟩ := hadd.sat.getB hk'
        obtain ⟨b, vs, rfl, h2, h3⟩ := hadd.sat.blk k _ u hk' hu
        refine ⟨_, hpre, hsl.mono hpre, hadd.upd hk' rfl hu (grown_self w _) rfl ⟨b, vs, rfl, ?_, h3⟩⟩
        rw [tos_setN cells i s hs (by rw [hlast, hnil])]
        exact h2
    · exact stay
theorem openNils_ok {N : Nat} {w0 : World} {bs : List Nat} {a : Act} {w : World} : ∀ (mv : Mw) {st : St} {B : List Value}, Slots N st.fr B a → Mem w0 bs st.H B w → ∃ B', B <+: B' ∧ Slots N (mv.foldl openNil st).fr B' a ∧ Mem w0 bs (mv.foldl openNil st).H B' w
  | [], st, B, h, hm => ⟨B, List.prefix_refl _, h, hm⟩
  | m :: mv, st, B, h, hm => by
    obtain ⟨B1, p1, h1, m1⟩ := openNil_ok h hm m
    obtain ⟨B2, p2, h2, m2⟩ := openNils_ok mv h1 m1
    exact ⟨B2, p1.trans p2, h2, m2⟩
def refO : Option SV → List Nat
  | some (.ref k) => [k]
  | some (.ptr k _) => [k]
  | _ => []
def ordJs (n0 : Nat) (keep : List Nat) (mv : Mw) (st : St) : List Nat :=
  let sp := mv.flatMap fun m => refO (spotAt st m.1)
  (reach (fun k => st.H[k]?) 300 (sp ++ keep.flatMap (fun t => letsO (look st.fr t)) ++ List.range n0) []).filter fun k => (Nat.ble n0 k || sp.any (Nat.beq k)) && Nat.blt k st.H.length
def St.ord (n0 : Nat) (keep : List Nat) (mv : Mw) (ks : List Nat) (st : St) : St :=
  let s := (mv.foldl openNil st).ord1 n0 keep (ordJs n0 keep mv (mv.foldl openNil st))
  ⟨s.fr, ks.foldl softAt s.H⟩
def TidyOk (N n0 : Nat) (τ : St → St) : Prop := ∀ (w0 : World) (bs : List Nat) (st : St) (B : List Value) (a : Act) (w : World), Slots N st.fr B a → Mem w0 bs st.H B w → n0 ≤ B.length → ∃ B', B.take n0 <+: B' ∧ Slots N (τ st).fr B' a ∧ Mem w0 bs (τ st).H B' w
theorem ord_ok {N n0 : Nat} (keep : List Nat) (mv : Mw) (ks : List Nat) : TidyOk N n0 (St.ord n0 keep mv ks) := by
  intro w0 bs st B a w h hm hn
  obtain ⟨B1, p1, h1, m1⟩ := openNils_ok mv h hm
  have hl := p1.length_le
  obtain ⟨B2, p2, h2, m2⟩ := ord1_ok h1 m1 (n0 := n0) (by omega) keep (ordJs n0 keep mv (mv.foldl openNil st)) (fun j hj => by
    have := (List.mem_filter.1 hj).2
    simp only [Bool.and_eq_true, Nat.blt_eq] at this
    exact this.2)
  refine ⟨B2, ?_, h2, softs_mem ks m2⟩
  obtain ⟨l, rfl⟩ := p1
  rwa [List.take_append_of_le_length hn] at p2
section
variable {P : Program} {C : Cfg} {N : Nat}
def roundG (P : Program) (C : Cfg) (Lb : Nat → St → Option (T (Ex × St))) (N : Nat) (id : Nat) (body : Code) (τ : St → St) (st : St) : T (Ex × St) :=
  (runC P C Lb N body st).bind fun r => match r.1 with
    | .normal => .leaf (.normal, τ r.2)
    | .exit k => bif Nat.beq k id then .leaf (.exit id, τ r.2) else .leaf r
    | .ret => .leaf r
theorem loop_gen (hC : CfgOk P C) (hP : P.follows .mixedOrders = true) {Lb : Nat → St → Option (T (Ex × St))} {id : Nat} {body : Code} (hlex : lexAll C body = true)
    (hL : ∀ id' b, (id', b) ∈ loopsOf body → ∀ st t, Lb id' st = some t → RunOk P N (.block id' (.loop b)) st t) {ι : Type} (I : ι → Prop) (inv : ι → St) (μ : ι → Nat) (n0 : Nat) {τ : St → St} (hτ : TidyOk N n0 τ) {t : T (Ex × St)}
    (hround : ∀ Qs, t.ok Qs → ∀ i, I i → ∃ st', Alt (inv i) st' ∧ (roundG P C Lb N id body τ st').ok (Behind id I inv μ i Qs)) {st : St} {i0 : ι} (h0 : I i0) :
    RunOk P N (.block id (.loop body)) st (.need (st.H.length = n0) (.need (τ st = inv i0) t)) := by
  intro w0 bs pre B a w Qs Q hp hsl hm hq hQ
  obtain ⟨hn0, hst, hq⟩ := hq
  have hlen : B.length = n0 := hm.sat.len.trans hn0
  have hB0 : B.take n0 = B := List.take_of_length_le (by omega)
  obtain ⟨B0, p0, hsl0, hm0⟩ := hτ w0 bs st B a w hsl hm (by omega)
  rw [hB0] at p0
  rw [hst] at hsl0 hm0
  refine wp_block ?_
  refine wp_loop_idx (ι := ι) (fun i a w => I i ∧ ∃ B1, B <+: B1 ∧ Slots N (inv i).fr B1 a ∧ Mem w0 bs (inv i).H B1 w) μ (fun i a w hi => ?_) i0 a w ⟨h0, _, p0, hsl0, hm0⟩
  obtain ⟨hI, B1, p1, hs, hmi⟩ := hi
  obtain ⟨sa, hal, hro⟩ := hround Qs hq i hI
  refine runC_ok hC hP body hlex hL sa w0 bs B1 B1 a w _ _ (List.prefix_refl _) (hal.2 _ _ _ hs) (by rw [hal.1]; exact hmi) (T.ok_bind hro) fun r B' a' w' hr hpre hs' hm' => ?_
  obtain ⟨e, st'⟩ := r
  have hpB : B <+: B' := p1.trans hpre
  have hBt : B'.take n0 = B := by
    obtain ⟨l, rfl⟩ := hpB
    rw [← hlen, List.take_left]
  have hnB : n0 ≤ B'.length := by have := hpB.length_le; omega
  obtain ⟨B2, p2, hon, hom⟩ := hτ w0 bs st' B' a' w' hs' hm' hnB
  rw [hBt] at p2
  cases e with
  | normal =>
    obtain ⟨j, hj, hlt, e⟩ := hr
    exact ⟨j, hlt, hj, B2, p2, by rw [← e]; exact hon, by rw [← e]; exact hom⟩
  | ret => exact hQ _ B' a' w' hr (hp.trans hpB) hs' hm'
  | exit k =>
    simp only [Ex.to, Exit.then, Exit.inBlock]
    by_cases e : k = id
    · subst e
      simp only [Nat.beq_refl, cond_true] at hr
      have hr : (if k = k then Qs (.normal, τ st') else Qs (.exit k, τ st')) := hr
      rw [if_pos rfl] at hr ⊢
      exact hQ _ _ a' w' hr (hp.trans p2) hon hom
    · simp only [nat_beq_ne e, cond_false] at hr
      have hr : (if k = id then Qs (.normal, st') else Qs (.exit k, st')) := hr
      rw [if_neg e] at hr ⊢
      exact hQ _ B' a' w' hr (hp.trans hpB) hs' hm'
theorem loopG_cnt (hC : CfgOk P C) (hP : P.follows .mixedOrders = true) {Lb : Nat → St → Option (T (Ex × St))} {id : Nat} {body : Code} (hlex : lexAll C body = true)
    (hL : ∀ id' b, (id', b) ∈ loopsOf body → ∀ st t, Lb id' st = some t → RunOk P N (.block id' (.loop b)) st t) {ι : Type} (I : ι → Prop) (inv : ι → St) (μ : ι → Nat) (n0 : Nat) {τ : St → St} (hτ : TidyOk N n0 τ) (n : ι) (cs : List Nat)
    (hround : ∀ i, I i → i ≠ n → (roundG P C Lb N id body τ (inv i)).ok fun r => r.1 = .normal ∧ ∃ j, I j ∧ μ j < μ i ∧ r.2 = inv j) {st : St} {i0 : ι} (h0 : I i0) :
    RunOk P N (.block id (.loop body)) st (.need (st.H.length = n0) (.need (τ st = inv i0) ((roundG P C Lb N id body τ (closeAt cs (inv n))).bind (lastX id)))) := by
  refine loop_gen hC hP hlex hL I inv μ n0 hτ (fun Qs hq i hi => ?_) h0
  by_cases e : i = n
  · subst e
    refine ⟨_, closeAt_alt cs _, T.ok_mono (fun r hr => ?_) (T.ok_bind hq)⟩
    obtain ⟨x, st'⟩ := r
    cases x with
    | normal => exact (hr : False).elim
    | ret => exact hr
    | exit k =>
      unfold Behind
      simp only [lastX] at hr ⊢
      by_cases ek : k = id
      · subst ek
        rw [Nat.beq_refl, cond_true] at hr
        rw [if_pos rfl]; exact hr
      · rw [nat_beq_ne ek, cond_false] at hr
        rw [if_neg ek]; exact hr
  · refine ⟨_, .refl _, T.ok_mono (fun r hr => ?_) (hround i hi e)⟩
    obtain ⟨x, st'⟩ := r
    obtain ⟨h1, j, h2, h3, h4⟩ := hr
    simp only at h1
    subst h1
    exact ⟨j, h2, h3, h4⟩
end
def rowIn (sz : Nat) (H : List Blk) : SV → Option (Nat × (Nat → Nat → Value))
  | .ref k => (match H[k]? with
    | some (.row n z f) => bif Nat.beq z sz then some (n, f) else none
    | some (.vec _ _ z n xs) => bif Nat.beq z sz then some (n, fun i j => cellAt xs (i * sz + j)) else none
    | _ => none)
  | .v (.slice none 0 0) => some (0, fun _ _ => undef)
  | .c (.slice none 0 0) => some (0, fun _ _ => undef)
  | _ => none
theorem rowIn_ok {w0 : World} {bs : List Nat} {H : List Blk} {B : List Value} {w : World} (hm : Mem w0 bs H B w) {sz : Nat} {s : SV} {u : Value} (hs : s.to B = some u) {n : Nat} {f : Nat → Nat → Value} (h : rowIn sz H s = some (n, f)) : ∀ B', BlkSat B' w u (.row n sz f) := by
  intro B'
  have nil : u = .slice none 0 0 → n = 0 → BlkSat B' w u (.row n sz f) := by
    rintro rfl rfl
    exact ⟨none, 0, rfl, Nat.le_refl _, Nat.zero_le _, fun i j hi => absurd hi (Nat.not_lt_zero _)⟩
  unfold rowIn at h
  split at h
  · rename_i k
    split at h
    · rename_i n' z f' hk
      cases hb : Nat.beq z sz
      · rw [hb] at h; cases h
      · rw [hb, cond_true, Option.some.injEq, Prod.mk.injEq] at h
        obtain ⟨rfl, rfl⟩ := h
        have := Nat.eq_of_beq_eq_true hb
        subst this
        exact hm.sat.blk k _ u hk hs
    · rename_i o e z n' xs hk
      cases hb : Nat.beq z sz
      · rw [hb] at h; cases h
      · rw [hb, cond_true, Option.some.injEq, Prod.mk.injEq] at h
        obtain ⟨rfl, rfl⟩ := h
        have := Nat.eq_of_beq_eq_true hb
        subst this
        exact rowBlk_sat (hm.sat.blk k _ u hk hs)
    · cases h
  · simp only [Option.some.injEq, Prod.mk.injEq] at h
    simp only [SV.to, Option.some.injEq] at hs
    exact nil hs.symm h.1.symm
  · simp only [Option.some.injEq, Prod.mk.injEq] at h
    simp only [SV.to, Option.some.injEq] at hs
    exact nil hs.symm h.1.symm
  · cases h
theorem tos_cons {B : List Value} {s : SV} {l : List SV} {vs : List Value} (h : SV.tos B (s :: l) = some vs) : ∃ x xs, s.to B = some x ∧ SV.tos B l = some xs ∧ vs = x :: xs := by
  simp only [SV.tos] at h
  split at h
  · rename_i x xs h1 h2
    simp only [Option.some.injEq] at h
    exact ⟨x, xs, h1, h2, h.symm⟩
  · cases h
theorem tos_nil {B : List Value} {vs : List Value} (h : SV.tos B [] = some vs) : vs = [] := by simpa [SV.tos] using h.symm
def addR (k : FuncId) (h : List SV → List Blk → Option (List Prop × Value)) (F : LTab) : LTab := fun f ss H => bif Nat.beq f k then (match h (ss.map openS) H with
  | some (p, v) => some (needs p (.leaf (.v v, H)))
  | none => none) else F f ss H
def ReadOk (P : Program) (k : FuncId) (h : List SV → List Blk → Option (List Prop × Value)) : Prop :=
  ∀ ss H p v, h ss H = some (p, v) → ∀ (bs : List Nat) (B : List Value) (w : World) (vs : List Value), Mem w bs H B w → SV.tos B ss = some vs → (∀ q ∈ p, q) → Calls P k vs.toArray w fun e w' => e = .returned v ∧ Below w.heap.size w w'
theorem addR_ok {P : Program} {k : FuncId} {h : List SV → List Blk → Option (List Prop × Value)} {F : LTab} (hF : LOk P F) (hg : isGo P k = true) (hh : ReadOk P k h) : LOk P (addR k h F) := by
  intro f ss H t hf
  unfold addR at hf
  cases hb : Nat.beq f k
  · rw [hb] at hf; exact hF f ss H t hf
  · rw [hb, cond_true] at hf
    obtain rfl : f = k := Nat.eq_of_beq_eq_true hb
    split at hf
    · rename_i p v hpv
      simp only [Option.some.injEq] at hf
      subst hf
      refine ⟨hg, fun bs B w vs hm hv Qs hq => ?_⟩
      obtain ⟨h1, h2⟩ := needs_ok hq
      refine (hh _ _ p v hpv bs B w vs hm (by rw [opens_tos]; exact hv) h1).mono ?_
      rintro e w' ⟨rfl, hbw⟩
      exact ⟨.v v, H, B, v, h2, List.prefix_refl _, rfl, rfl, hm.below hbw⟩
    · cases hf
end Go.Proofs.YtbippdeahoehoaaGreat.Sym
namespace Go.Proofs.YtbippdeahoehoaaGreat.Sym
open Go.RowKit
def canSt (r : SV × List Blk) : St := ⟨[(0, some r.1)], r.2⟩
def goCan (n0 : Nat) (r : SV × List Blk) : T (SV × List Blk) := match look ((canSt r).ordC n0 [0]).fr 0 with
  | some s => .leaf (s, ((canSt r).ordC n0 [0]).H)
  | none => .stuck 132
def canT (n0 : Nat) (t : T (SV × List Blk)) : T (SV × List Blk) := t.bind (goCan n0)
theorem canT_ok {P : Program} {C : Cfg} (hC : CfgOk P C) (hP : P.follows .mixedOrders = true) {L : Nat → St → Option (T (Ex × St))} {f : FuncId} {fn : Func} (hf : P.funcs[f]? = some fn) (hb : fn.body.isSome = true) (hlex : lexAll C (fn.body.getD .skip) = true)
    (hL : ∀ id body, (id, body) ∈ loopsOf (fn.body.getD .skip) → ∀ st t, L id st = some t → RunOk P fn.ntmps (.block id (.loop body)) st t)
    {ss : List SV} {H : List Blk} {t' : T (SV × List Blk)} (ht : canT H.length (runF P C L fn (fn.body.getD .skip) ss H) = t') {bs : List Nat} {B : List Value} {w : World} {vs : List Value} (hm : Mem w bs H B w) (hvs : SV.tos B ss = some vs) {Qs : SV × List Blk → Prop} (hq : t'.ok Qs) :
    Calls P f vs.toArray w fun e w' => ∃ s H' B' x, Qs (s, H') ∧ B <+: B' ∧ e = .returned x ∧ s.to B' = some x ∧ Mem w bs H' B' w' := by
  subst ht
  refine (inl_ok hC hP hf hb hlex hL ss H _ rfl bs B w vs hm hvs _ (T.ok_bind hq)).mono ?_
  rintro e w' ⟨s0, H0, B0, x, hQ, hp, rfl, hx, hm'⟩
  have hsl : Slots 1 (canSt (s0, H0)).fr B0 ⟨#[x], []⟩ := by
    refine ⟨rfl, rfl, fun t s e => ?_⟩
    simp only [canSt, look] at e
    cases hb : Nat.beq 0 t
    · rw [hb] at e; cases e
    · rw [hb, cond_true, Option.some.injEq] at e
      have := Nat.eq_of_beq_eq_true hb
      subst this
      subst e
      exact hx
  have hl : H.length = B.length := hm.sat.len.symm
  have hle : H.length ≤ B0.length := by rw [hl]; exact hp.length_le
  obtain ⟨B', h1, h2, h3⟩ := ordC_ok (n0 := H.length) (M := [0]) hsl hm' hle
  have ht : B0.take H.length = B := by rw [hl]; exact (List.prefix_iff_eq_take.1 hp).symm
  rw [ht] at h1
  unfold goCan at hQ
  split at hQ
  · rename_i s hs
    exact ⟨s, _, B', x, hQ, h1, rfl, h2.slot 0 s hs, h3⟩
  · exact hQ.elim
end Go.Proofs.YtbippdeahoehoaaGreat.Sym
namespace Go.Proofs.YtbippdeahoehoaaGreat.Sym
open Go.RowKit
inductive Re (α : Type) where
  | ok (a : α)
  | er (n : Nat)
def Re.at {α : Type} (k : Nat) : Re α → Re α
  | .ok a => .ok a
  | .er n => .er (n * 1000 + k)
def Re.map {α β : Type} (f : α → β) : Re α → Re β
  | .ok a => .ok (f a)
  | .er n => .er n
theorem Re.at_ok {α : Type} {k : Nat} {r : Re α} {a : α} (h : r.at k = .ok a) : r = .ok a := by
  cases r with
  | ok b => exact h
  | er n => cases h
def T.go {α : Type} : T α → Re α
  | .leaf a => .ok a
  | .ite b t e => bif b then t.go else e.go
  | .need _ _ => .er 901
  | @T.chk _ _ d t => bif d.b then t.go else .er 902
  | .stuck n => .er n
theorem T.go_ok {α : Type} {Q : α → Prop} : ∀ {t : T α} {a : α}, t.go = .ok a → Q a → t.ok Q
  | .leaf b, a, h, hq => by simp only [T.go, Re.ok.injEq] at h; subst h; exact hq
  | .ite true t _, a, h, hq => ⟨fun _ => T.go_ok (t := t) h hq, (fun e => by cases e)⟩
  | .ite false _ e, a, h, hq => ⟨(fun e => by cases e), fun _ => T.go_ok (t := e) h hq⟩
  | .need _ _, a, h, _ => by cases h
  | @T.chk _ p d t, a, h, hq => by
    simp only [T.go] at h
    cases hb : d.b
    · rw [hb] at h; cases h
    · rw [hb, cond_true] at h; exact ⟨d.ok hb, T.go_ok (t := t) h hq⟩
  | .stuck _, a, h, _ => by cases h
def forceSV {α : Type} (s : SV) (k : SV → α) : α := match s.mark with
  | .v x => k (.v x)
  | .c x => k (.c x)
  | .tt => k .tt
  | .ff => k .ff
  | .ptr a b => k (.ptr a b)
  | .ref a => k (.ref a)
  | .elt a b c d => k (.elt a b c d)
  | .pre a b => k (.pre a b)
  | .agg l => k (.agg l)
  | .tup l => k (.tup l)
  | .clo f a b => k (.clo f a b)
  | .ifc t s => k (.ifc t s)
theorem forceSV_eq {α : Type} (s : SV) (k : SV → α) : forceSV s k = k s.mark := by
  unfold forceSV; cases s.mark <;> rfl
def forceV {α : Type} (s : SV) (k : SV → α) : α := match s with
  | .v x => (match x with
    | .int kd z => (match z with
      | .ofNat n => (match n with | 0 => k (.v (.int kd (.ofNat 0))) | m + 1 => k (.v (.int kd (.ofNat (m + 1)))))
      | .negSucc n => k (.v (.int kd (.negSucc n))))
    | .bool b => (match b with | true => k (.v (.bool true)) | false => k (.v (.bool false)))
    | x => k (.v x))
  | s => k s
theorem forceV_eq {α : Type} (s : SV) (k : SV → α) : forceV s k = k s := by
  unfold forceV
  split
  · split
    · split
      · split <;> rfl
      · rfl
    · split <;> rfl
    · rfl
  · rfl
def St.goK {α : Type} (st : St) (dst : Option Tmp) (s : SV) (e : Eff) (k : St → α) : α := match st with
  | ⟨fr, H⟩ => match e with
    | ⟨m, l⟩ => match m with
      | [] => (match l with
        | [] => (match dst with
          | some d => k ⟨(d, some s) :: fr, H⟩
          | none => k ⟨fr, H⟩)
        | b :: l => (match dst with
          | some d => k ⟨(d, some s) :: fr, H ++ b :: l⟩
          | none => k ⟨fr, H ++ b :: l⟩))
      | p :: m => (match Eff.run ⟨p :: m, l⟩ H with
        | [] => (match dst with
          | some d => k ⟨(d, some s) :: fr, []⟩
          | none => k ⟨fr, []⟩)
        | b :: H' => (match dst with
          | some d => k ⟨(d, some s) :: fr, b :: H'⟩
          | none => k ⟨fr, b :: H'⟩))
theorem goK_eq {α : Type} (st : St) (dst : Option Tmp) (s : SV) (e : Eff) (k : St → α) : st.goK dst s e k = k (st.mk2 dst s e) := by
  obtain ⟨fr, H⟩ := st
  obtain ⟨m, l⟩ := e
  unfold St.goK
  cases m with
  | nil => cases l <;> cases dst <;> rfl
  | cons p m =>
    simp only
    split
    · rename_i h; cases dst <;> simp only [St.mk2, St.put, h]
    · rename_i b H' h; cases dst <;> simp only [St.mk2, St.put, h]
def Blk.flat : Blk → Blk
  | .que e sz n xp cells => .lst e sz n (xp.map .c ++ cells)
  | b => b
theorem flat_excl (x : Blk) : x.flat.excl = x.excl := by cases x <;> rfl
theorem flat_row {x : Blk} {n sz : Nat} {f : Nat → Nat → Value} (h : x.flat = .row n sz f) : x = .row n sz f := by cases x <;> first | exact h | cases h
theorem flat_sat {B : List Value} {w : World} {u : Value} {x : Blk} (h : BlkSat B w u x) : BlkSat B w u x.flat := by
  cases x with
  | que e sz n xp cells =>
    obtain ⟨xs, h1, h2⟩ := h
    exact ⟨xp ++ xs, tos_append (tos_conc B xp) h1, h2⟩
  | _ => exact h
theorem flat_mem {w0 : World} {bs : List Nat} {H : List Blk} {B : List Value} {w : World} (h : Mem w0 bs H B w) : Mem w0 bs (H.map Blk.flat) B w := by
  have get : ∀ {k : Nat} {x : Blk}, (H.map Blk.flat)[k]? = some x → ∃ y, H[k]? = some y ∧ x = y.flat := by
    intro k x hk
    rw [List.getElem?_map, Option.map_eq_some_iff] at hk
    obtain ⟨y, hy, rfl⟩ := hk
    exact ⟨y, hy, rfl⟩
  have ex : ∀ k b, ExBlk (H.map Blk.flat) B k b → ExBlk H B k b := by
    rintro k b ⟨x, u, h1, h2, h3, h4⟩
    obtain ⟨y, hy, rfl⟩ := get h1
    exact ⟨y, u, hy, by rw [← flat_excl]; exact h2, h3, h4⟩
  have rd : ∀ k b, RdBlk (H.map Blk.flat) B k b → RdBlk H B k b := by
    rintro k b ⟨n, sz, f, u, h1, h2, h3, h4, h5⟩
    obtain ⟨y, hy, e⟩ := get h1
    exact ⟨n, sz, f, u, by rw [hy, flat_row e.symm], h2, h3, h4, h5⟩
  refine ⟨⟨by simp [h.sat.len], fun k x u hk hu => ?_, fun k j b h1 h2 => h.sat.sep k j b (ex _ _ h1) (ex _ _ h2), fun k j b h1 h2 => h.sat.far k j b (ex _ _ h1) (rd _ _ h2)⟩, h.keeps, fun k b h1 => h.good k b (ex _ _ h1)⟩
  obtain ⟨y, hy, rfl⟩ := get hk
  exact flat_sat (h.sat.blk k y u hy hu)
def flatK {α : Type} (e : Eff) (st : St) (k : St → α) : α := match e.news with
  | [] => k st
  | _ :: _ => (match st with | ⟨fr, H⟩ => k ⟨fr, H.map Blk.flat⟩)
def flatS (e : Eff) (st : St) : St := match e.news with
  | [] => st
  | _ :: _ => ⟨st.fr, st.H.map Blk.flat⟩
theorem flatK_eq {α : Type} (e : Eff) (st : St) (k : St → α) : flatK e st k = k (flatS e st) := by
  unfold flatK flatS; split <;> rfl
theorem flatS_fr (e : Eff) (st : St) : (flatS e st).fr = st.fr := by unfold flatS; split <;> rfl
theorem flatS_mem {w0 : World} {bs : List Nat} {e : Eff} {st : St} {B : List Value} {w : World} (h : Mem w0 bs st.H B w) : Mem w0 bs (flatS e st).H B w := by
  unfold flatS; split
  · exact h
  · exact flat_mem h
def putS (isG : Bool) (s : SV) : SV := match isG with
  | true => (match s with
    | .v (.bool b) => boolS b
    | s => s)
  | false => s
theorem putS_ok {N : Nat} {isG : Bool} {dst : Option Tmp} {st : St} {p : SV × Eff} {Q : St → Prop} (hd : dstOk N dst = true) (h : Q (st.mk2 dst (putS isG p.1) p.2)) : (putR N isG dst st p).ok Q := by
  obtain ⟨s, e⟩ := p
  unfold putR
  rw [hd, cond_true]
  cases isG
  · exact h
  · split
    · rename_i b _ heq
      simp only at heq
      subst heq
      cases b
      · exact ⟨(fun e => by cases e), fun _ => h⟩
      · exact ⟨fun _ => h, (fun e => by cases e)⟩
    · rename_i hne
      have e1 : putS true s = s := by
        unfold putS
        simp only
        split
        · rename_i b; exact (hne b rfl rfl).elim
        · rfl
      rw [e1] at h
      exact h
section
variable (P : Program) (C : Cfg) (N : Nat)
def runOpsK (ops : Array Oper) : List Oper → St → Re St
  | [], st => .ok st
  | o :: rest, st => match wantedS ops st o with
    | some true => match (evalE P C.S C.G (st.view o) o).go with
      | .ok r => bif dstOk N o.dst then forceSV r.1 fun s => st.goK o.dst s r.2 fun st1 => flatK r.2 st1 fun st2 => runOpsK ops rest st2 else .er 903
      | .er n => .er (n * 1000 + (ops.size - rest.length - 1))
    | some false => bif dstOk N o.dst then st.goK o.dst (.v undef) noEff fun st1 => runOpsK ops rest st1 else .er 904
    | none => .er 905
def opLets (o : Oper) (st : St) : List Nat := match o.op with
  | .nilCheck _ => []
  | .fieldAddr .. => []
  | .move _ => []
  | .assign _ => []
  | .extract .. => []
  | .field .. => []
  | .pick .. => []
  | _ => SV.letss (o.op.operands.toList.filterMap st.val)
def passK (ops : Array Oper) : List Oper → Nat → St → Re (St × List (List Nat) × List (Nat × List Nat))
  | [], _, st => .ok (st, [], [])
  | o :: rest, i, st => match wantedS ops st o with
    | some true => bif dstOk N o.dst then (bif C.E o then (match (evalE P C.S C.G (st.view o) o).go with
        | .ok r => forceV (putS (isGuard ops i) r.1) fun s => st.goK o.dst s r.2 fun st1 => (passK ops rest (i + 1) st1).map fun q => (q.1, [] :: q.2.1, (i, r.2.touch st.H.length) :: q.2.2)
        | .er n => .er (n * 1000 + i))
      else (match (evalQ P C.S (st.part (visAt (fun q => (opLets o st).any (Nat.beq q)) st.H) o) o).go with
        | .ok s => forceV (putS (isGuard ops i) s) fun s => st.goK o.dst s noEff fun st1 => (passK ops rest (i + 1) st1).map fun q => (q.1, opLets o st :: q.2.1, q.2.2)
        | .er n => .er (n * 1000 + i))) else .er 916
    | some false => bif dstOk N o.dst then st.goK o.dst (putS (isGuard ops i) (.v undef)) noEff fun st1 => (passK ops rest (i + 1) st1).map fun q => (q.1, [] :: q.2.1, q.2.2) else .er 917
    | none => .er 906
def visK (recs : List (List Nat)) (i q : Nat) : Bool := (recs.getD i []).any (Nat.beq q)
def hidK (E : Oper → Bool) (ops : Array Oper) (V : Nat → Nat → Bool) (i q : Nat) : Bool :=
  (List.range ops.size).all fun j => Nat.beq j i || !(V j q) || effAt E ops j || maskDep .any ops i j || maskDep .any ops j i
def markFr : Nat → List (Nat × Option SV) → List (Nat × Option SV)
  | 0, fr => fr
  | _, [] => []
  | n + 1, (t, some s) :: fr => (t, some s.mark) :: markFr n fr
  | n + 1, (t, none) :: fr => (t, none) :: markFr n fr
def drawK (ops : Array Oper) (st : St) : Re St := match passK P C N ops ops.toList 0 st with
  | .ok (st1, recs, ts) => bif ts.all (fun p => p.2.all fun q => hidK C.E ops (visK recs) p.1 q) then .ok ⟨markFr ops.size st1.fr, st1.H.map Blk.flat⟩ else .er 907
  | .er n => .er n
def sameS0 : SV → SV → Bool
  | .v x, .v y => sameV x y
  | .c x, .c y => sameV x y
  | .tt, .tt => true
  | .ff, .ff => true
  | .ptr a b, .ptr c d => Nat.beq a c && Nat.beq b d
  | .ref a, .ref b => Nat.beq a b
  | .pre a b, .pre c d => Nat.beq a c && Nat.beq b d
  | .elt a b c d, .elt a' b' c' d' => Nat.beq a a' && Nat.beq b b' && Nat.beq c c' && Nat.beq d d'
  | _, _ => false
theorem sameS0_eq {a b : SV} (h : sameS0 a b = true) : a = b := by
  unfold sameS0 at h
  split at h
  · rw [sameV_eq h]
  · rw [sameV_eq h]
  · rfl
  · rfl
  · simp only [Bool.and_eq_true, Nat.beq_eq] at h; rw [h.1, h.2]
  · rw [Nat.beq_eq] at h; rw [h]
  · simp only [Bool.and_eq_true, Nat.beq_eq] at h; rw [h.1, h.2]
  · simp only [Bool.and_eq_true, Nat.beq_eq] at h; obtain ⟨⟨⟨rfl, rfl⟩, rfl⟩, rfl⟩ := h; rfl
  · cases h
def sameSN : Nat → SV → SV → Bool
  | n + 1, .agg xs, .agg ys => all2 (sameSN n) xs ys
  | n + 1, .tup xs, .tup ys => all2 (sameSN n) xs ys
  | n + 1, .ifc t x, .ifc u y => Nat.beq t u && sameSN n x y
  | n + 1, .clo f a b, .clo g c d => (match f, g with | .func f, .func g => Nat.beq f g | _, _ => false) && all2 (sameSN n) a c && all2 (sameSN n) b d
  | _, a, b => sameS0 a b
theorem sameSN_eq : ∀ {n : Nat} {a b : SV}, sameSN n a b = true → a = b := by
  intro n
  induction n with
  | zero => intro a b h; exact sameS0_eq h
  | succ n ih =>
    intro a b h
    unfold sameSN at h
    split at h
    · rename_i n' xs ys hn
      cases hn
      rw [all2_eq ih h]
    · rename_i n' xs ys hn
      cases hn
      rw [all2_eq ih h]
    · rename_i n' t x u y hn
      cases hn
      simp only [Bool.and_eq_true, Nat.beq_eq] at h
      rw [h.1, ih h.2]
    · rename_i n' f a b g c d hn
      cases hn
      simp only [Bool.and_eq_true] at h
      obtain ⟨⟨h1, h2⟩, h3⟩ := h
      split at h1
      · rw [Nat.beq_eq] at h1
        rw [h1, all2_eq ih h2, all2_eq ih h3]
      · cases h1
    · exact sameS0_eq h
def sameSV (a b : SV) : Bool := sameSN 6 a b
theorem sameSV_eq {a b : SV} (h : sameSV a b = true) : a = b := sameSN_eq h
def sameL (l m : List SV) : Bool := all2 sameSV l m
theorem sameL_eq {l m : List SV} (h : sameL l m = true) : l = m := all2_eq sameSV_eq h
def sameLits : List Lit → List Lit → Bool
  | [], [] => true
  | .string a :: l, .string b :: m => (a == b) && sameLits l m
  | _, _ => false
theorem sameLits_eq : ∀ {l m : List Lit}, sameLits l m = true → l = m
  | [], [], _ => rfl
  | .string a :: l, .string b :: m, h => by
    simp only [sameLits, Bool.and_eq_true] at h
    rw [eq_of_beq h.1, sameLits_eq h.2]
  | [], .string _ :: _, h => by cases h
  | [], .bool _ :: _, h => by cases h
  | [], .int .. :: _, h => by cases h
  | [], .float .. :: _, h => by cases h
  | [], .nil :: _, h => by cases h
  | .string _ :: _, [], h => by cases h
  | .string _ :: _, .bool _ :: _, h => by cases h
  | .string _ :: _, .int .. :: _, h => by cases h
  | .string _ :: _, .float .. :: _, h => by cases h
  | .string _ :: _, .nil :: _, h => by cases h
  | .bool _ :: _, _, h => by cases h
  | .int .. :: _, _, h => by cases h
  | .float .. :: _, _, h => by cases h
  | .nil :: _, _, h => by cases h
def sameB : Blk → Blk → Bool
  | .own l, .own m => sameL l m
  | .vec o e s n xs, .vec o' e' s' n' ys => (o == o') && Nat.beq e e' && Nat.beq s s' && Nat.beq n n' && sameVs xs ys
  | .lst e s n xs, .lst e' s' n' ys => Nat.beq e e' && Nat.beq s s' && Nat.beq n n' && sameL xs ys
  | .pm K kl l, .pm K' kl' m => Nat.beq K K' && sameLits kl kl' && sameL l m
  | .gone, .gone => true
  | _, _ => false
theorem sameB_eq {a b : Blk} (h : sameB a b = true) : a = b := by
  unfold sameB at h
  split at h
  · rw [sameL_eq h]
  · simp only [Bool.and_eq_true, Nat.beq_eq] at h; obtain ⟨⟨⟨⟨h1, rfl⟩, rfl⟩, rfl⟩, h5⟩ := h; rw [eq_of_beq h1, sameVs_eq h5]
  · simp only [Bool.and_eq_true, Nat.beq_eq] at h; obtain ⟨⟨⟨rfl, rfl⟩, rfl⟩, h5⟩ := h; rw [sameL_eq h5]
  · simp only [Bool.and_eq_true, Nat.beq_eq] at h; obtain ⟨⟨rfl, h2⟩, h3⟩ := h; rw [sameLits_eq h2, sameL_eq h3]
  · rfl
  · cases h
def sameH : List Blk → List Blk → Bool
  | [], [] => true
  | a :: l, b :: m => sameB a b && sameH l m
  | _, _ => false
theorem sameH_eq : ∀ {l m : List Blk}, sameH l m = true → l = m
  | [], [], _ => rfl
  | a :: l, b :: m, h => by
    simp only [sameH, Bool.and_eq_true] at h
    rw [sameB_eq h.1, sameH_eq h.2]
  | [], _ :: _, h => by cases h
  | _ :: _, [], h => by cases h
def sameFr : List (Nat × Option SV) → List (Nat × Option SV) → Bool
  | [], [] => true
  | (t, some a) :: l, (u, some b) :: m => Nat.beq t u && sameSV a b && sameFr l m
  | (t, none) :: l, (u, none) :: m => Nat.beq t u && sameFr l m
  | _, _ => false
theorem sameFr_eq : ∀ {l m : List (Nat × Option SV)}, sameFr l m = true → l = m := by
  intro l
  induction l with
  | nil => intro m h; cases m with
    | nil => rfl
    | cons a m => simp [sameFr] at h
  | cons a l ih =>
    intro m h
    cases m with
    | nil => obtain ⟨t, _ | s⟩ := a <;> simp [sameFr] at h
    | cons b m =>
      obtain ⟨t, _ | s⟩ := a <;> obtain ⟨u, _ | r⟩ := b <;> simp only [sameFr, Bool.and_eq_true, Nat.beq_eq, Bool.false_eq_true] at h
      · obtain ⟨rfl, h2⟩ := h; rw [ih h2]
      · obtain ⟨⟨rfl, h1⟩, h2⟩ := h; rw [ih h2, sameSV_eq h1]
def sameSt (a b : St) : Bool := sameFr a.fr b.fr && sameH a.H b.H
theorem sameSt_eq {a b : St} (h : sameSt a b = true) : a = b := by
  simp only [sameSt, Bool.and_eq_true] at h
  obtain ⟨f, H⟩ := a
  obtain ⟨f', H'⟩ := b
  simp only at h
  rw [sameFr_eq h.1, sameH_eq h.2]
def planK (ops : Array Oper) (st : St) (ks : List Nat) (L : List (List Nat)) : Re St := match L with
  | [] => .er 908
  | o :: l => match (runOrd P C.S C.G N .any C.E (visAll C ops (scanOps P C N ops ops.toList 0 st) st.H.length) ops o st).go with
    | .ok s1 => bif l.all (fun o' => match (runOrd P C.S C.G N .any C.E (visAll C ops (scanOps P C N ops ops.toList 0 st) st.H.length) ops o' st).go with
        | .ok s2 => sameSt (s2.ordC st.H.length ks) (s1.ordC st.H.length ks)
        | .er _ => false) then .ok ⟨markFr N (s1.ordC st.H.length ks).fr, (s1.ordC st.H.length ks).H.map Blk.flat⟩ else .er 909
    | .er n => .er n
def badK (ops : Array Oper) (n0 : Nat) (recs : List (List Nat)) (ts : List (Nat × List Nat)) : List Nat :=
  (List.range ops.size).filter fun j => !effAt C.E ops j && (ts.any (fun p => !Nat.beq p.1 j && !maskDep .any ops p.1 j && !maskDep .any ops j p.1 && p.2.any fun q => (recs.getD j []).any (Nat.beq q))
    || ((recs.getD j []).any (Nat.ble n0) && (List.range ops.size).any fun i => !Nat.beq i j && effAt C.E ops i && !maskDep .any ops i j && !maskDep .any ops j i))
def dstsK (ops : Array Oper) (l : List Nat) : List Nat := l.filterMap fun j => match ops[j]? with | some o => o.dst | none => none
def Cfg.with (C : Cfg) (l : List Nat) : Cfg := ⟨C.S, C.G, fun o => C.E o || (match o.dst with | some d => l.any (Nat.beq d) | none => false), [], []⟩
def regionK (id : Nat) (ops : Array Oper) (draw : Bool) (st : St) : Re St :=
  bif draw then (match passK P C N ops ops.toList 0 st with
    | .ok (st1, recs, ts) => bif lexAllF ⟨noS, noG, C.E, [], []⟩ (.region id ops true) && ts.all (fun p => p.2.all fun q => hidK C.E ops (visK recs) p.1 q)
      then .ok ⟨markFr ops.size st1.fr, st1.H.map Blk.flat⟩
      else (match orders .any (C.with (dstsK ops (badK C ops st.H.length recs ts))).E ops ops.size (Array.replicate ops.size false) with
        | some L => planK P (C.with (dstsK ops (badK C ops st.H.length recs ts))) N ops st (List.range N) L
        | none => .er 910)
    | .er n => .er n)
  else runOpsK P C N ops ops.toList st
def loopK (run : St → Re (Ex × St)) (id : Nat) : Nat → St → Re (Ex × St)
  | 0, _ => .er 911
  | n + 1, st => match run st with
    | .ok (.normal, st') => loopK run id n st'
    | .ok (.exit k, st') => bif Nat.beq k id then .ok (.normal, st') else .ok (.exit k, st')
    | .ok (.ret, st') => .ok (.ret, st')
    | .er n => .er n
def runCK : Code → St → Re (Ex × St)
  | .skip, st => .ok (.normal, st)
  | .region id ops draw, st => match (regionK P C N id ops draw st).at id with
    | .ok st' => .ok (.normal, st')
    | .er n => .er n
  | .seq a b, st => match runCK a st with
    | .ok (.normal, st') => runCK b st'
    | r => r
  | .cond c a b, st => match st.val c with
    | some .tt => runCK a st
    | some .ff => runCK b st
    | _ => .er 912
  | .block id (.loop body), st => loopK (runCK body) id 600 st
  | .block id c, st => match runCK c st with
    | .ok (.exit j, st') => bif Nat.beq j id then .ok (.normal, st') else .ok (.exit j, st')
    | r => r
  | .exit id, st => .ok (.exit id, st)
  | .ret, st => .ok (.ret, st)
  | _, _ => .er 913
def runFK (fn : Func) (args : List SV) (H : List Blk) : Re (SV × List Blk) :=
  bif Nat.ble args.length fn.ntmps then (match runCK P C fn.ntmps (fn.body.getD .skip) ⟨(args.zipIdx).map fun p => (p.2, some p.1.mark), H⟩ with
    | .ok (.exit _, _) => .er 914
    | .ok (_, st) => (match (resT P fn st).go with
      | .ok s => forceSV s fun s => .ok (s, st.H)
      | .er n => .er n)
    | .er n => .er n)
  else .er 915
end
end Go.Proofs.YtbippdeahoehoaaGreat.Sym
namespace Go.Proofs.YtbippdeahoehoaaGreat.Sym
open Go.RowKit
section
variable {P : Program} {C : Cfg} {N : Nat} {w0 : World} {bs : List Nat}
theorem runOpsK_ok {D : List Deferred} (hC : CfgOk P C) {ops : Array Oper} {st' : St} {Q : Exit → Act → World → Prop} {pre : List Value} (hQ : ∀ B a w, pre <+: B → SlotsD D N st'.fr B a → Mem w0 bs st'.H B w → Q .normal a w) :
    ∀ (l : List Oper) (st : St) (B : List Value) (a : Act) (w : World), pre <+: B → SlotsD D N st.fr B a → Mem w0 bs st.H B w → runOpsK P C N ops l st = .ok st' → wpList P ops Q l a w
  | [], st, B, a, w, hp, h, hm, hq => by
    simp only [runOpsK, Re.ok.injEq] at hq
    subst hq
    exact hQ B a w hp h hm
  | o :: l, st, B, a, w, hp, h, hm, hq => by
    simp only [runOpsK] at hq
    unfold wpList
    split at hq
    · rename_i hw
      rw [wantedS_ok h hw, if_pos rfl]
      split at hq
      · rename_i r hr
        cases hd : dstOk N o.dst
        · rw [hd] at hq; cases hq
        · rw [hd, cond_true, forceSV_eq, goK_eq, flatK_eq] at hq
          refine .inl (evalE_ok hC.S hC.G (view_ok h o) rfl hm (T.go_ok (Q := fun x => x = r) hr rfl) fun s ef B2 x w2 hq2 hpre hm2 hs => ?_)
          subst hq2
          refine runOpsK_ok hC hQ l _ B2 _ w2 (hp.trans hpre) (by rw [flatS_fr]; exact SlotsD.put (st := St.mk st.fr (ef.run st.H)) (h.mono hpre) hd (by rw [mark_to]; exact hs)) (flatS_mem ?_) hq
          cases o.dst <;> exact hm2
      · cases hq
    · rename_i hw
      rw [wantedS_ok h hw]
      cases hd : dstOk N o.dst
      · rw [hd] at hq; cases hq
      · rw [hd, cond_true, goK_eq] at hq
        refine runOpsK_ok hC hQ l _ B _ w hp (h.put hd (s := .v undef) rfl) ?_ hq
        cases o.dst <;> exact hm
    · cases hq
theorem map_some' {α β : Type} {o : Re α} {f : α → β} {b : β} (h : o.map f = .ok b) : ∃ a, o = .ok a ∧ f a = b := by
  cases o with
  | ok a => exact ⟨a, rfl, by simpa [Re.map] using h⟩
  | er n => cases h
theorem passK_ok {ops : Array Oper} {V : Nat → Nat → Bool} : ∀ (l : List Oper) (i : Nat) (st st' : St) (recs : List (List Nat)) (ts : List (Nat × List Nat)), passK P C N ops l i st = .ok (st', recs, ts) →
    (∀ j, V (i + j) = fun q => (recs.getD j []).any (Nat.beq q)) → (∀ p ∈ ts, ∀ q ∈ p.2, hidK C.E ops V p.1 q = true) →
    (runOpsD P C.S C.G N .any C.E V ops l i st).ok fun x => x = st'
  | [], i, st, st', recs, ts, h, _, _ => by
    simp only [passK, Re.ok.injEq, Prod.mk.injEq] at h
    exact h.1
  | o :: l, i, st, st', recs, ts, h, hV, hT => by
    have hnext : ∀ {r : List Nat} {rs : List (List Nat)}, recs = r :: rs → ∀ j, V (i + 1 + j) = fun q => (rs.getD j []).any (Nat.beq q) := by
      rintro r rs rfl j
      rw [show i + 1 + j = i + (j + 1) by omega, hV (j + 1)]
      rfl
    simp only [passK] at h
    unfold runOpsD stepA
    split at h
    · rename_i hw
      cases hd : dstOk N o.dst
      · rw [hd] at h; cases h
      rw [hd, cond_true] at h
      cases he : C.E o
      · rw [he, cond_false] at h
        split at h
        · rename_i s hs
          rw [forceV_eq, goK_eq] at h
          obtain ⟨⟨st2, rs, ts2⟩, h2, h3⟩ := map_some' h
          simp only [Prod.mk.injEq] at h3
          obtain ⟨rfl, rfl, rfl⟩ := h3
          have hVi : V i = fun q => (opLets o st).any (Nat.beq q) := by have := hV 0; simpa using this
          refine T.bind_ok (T.bind_ok ?_)
          unfold rawA
          simp only [hw, he, cond_false]
          refine T.bind_ok (T.go_ok (a := s) (by rw [hVi]; exact hs) ?_)
          refine putS_ok (p := (s, noEff)) hd ?_
          exact passK_ok l (i + 1) _ _ rs ts2 h2 (hnext rfl) hT
        · cases h
      · rw [he, cond_true] at h
        split at h
        · rename_i r hr
          rw [forceV_eq, goK_eq] at h
          obtain ⟨⟨st2, rs, ts2⟩, h2, h3⟩ := map_some' h
          simp only [Prod.mk.injEq] at h3
          obtain ⟨rfl, rfl, rfl⟩ := h3
          refine T.bind_ok (T.bind_ok ?_)
          unfold rawA
          simp only [hw, he, cond_true]
          refine T.bind_ok (T.go_ok hr ?_)
          have hh : hiddenB .any C.E ops V i st.H.length r.2 = true := by
            unfold hiddenB
            rw [List.all_eq_true]
            intro q hq
            exact hT _ (List.mem_cons_self ..) q hq
          unfold hidden
          rw [hh, cond_true]
          refine putS_ok (p := r) hd ?_
          exact passK_ok l (i + 1) _ _ rs ts2 h2 (hnext rfl) (fun p hp => hT p (List.mem_cons_of_mem _ hp))
        · cases h
    · rename_i hw
      cases hd : dstOk N o.dst
      · rw [hd] at h; cases h
      rw [hd, cond_true, goK_eq] at h
      obtain ⟨⟨st2, rs, ts2⟩, h2, h3⟩ := map_some' h
      simp only [Prod.mk.injEq] at h3
      obtain ⟨rfl, rfl, rfl⟩ := h3
      refine T.bind_ok (T.bind_ok ?_)
      unfold rawA
      simp only [hw]
      refine putS_ok (p := (.v undef, noEff)) hd ?_
      exact passK_ok l (i + 1) _ _ rs ts2 h2 (hnext rfl) hT
    · cases h
theorem markFr_look : ∀ (n : Nat) (fr : List (Nat × Option SV)) (t : Nat) (s : SV), look (markFr n fr) t = some s → ∃ s0, look fr t = some s0 ∧ (s = s0 ∨ s = s0.mark)
  | 0, fr, t, s, h => ⟨s, h, .inl rfl⟩
  | n + 1, [], t, s, h => ⟨s, h, .inl rfl⟩
  | n + 1, (u, some s1) :: fr, t, s, h => by
    simp only [markFr, look] at h ⊢
    cases hb : Nat.beq u t
    · rw [hb, cond_false] at h; exact markFr_look n fr t s h
    · rw [hb, cond_true, Option.some.injEq] at h; exact ⟨s1, rfl, .inr h.symm⟩
  | n + 1, (u, none) :: fr, t, s, h => by
    simp only [markFr, look] at h ⊢
    cases hb : Nat.beq u t
    · rw [hb, cond_false] at h; exact markFr_look n fr t s h
    · rw [hb, cond_true] at h; cases h
theorem markFr_slots {D : List Deferred} {n : Nat} {fr : List (Nat × Option SV)} {B : List Value} {a : Act} (h : SlotsD D N fr B a) : SlotsD D N (markFr n fr) B a :=
  ⟨h.size, h.defers, fun t s e => by
    obtain ⟨s0, h0, rfl | rfl⟩ := markFr_look n fr t s e
    · exact h.slot t _ h0
    · rw [mark_to]; exact h.slot t _ h0⟩
theorem drawK_ok {D : List Deferred} (hC : CfgOk P C) (hP : P.follows .mixedOrders = true) {id : Nat} {ops : Array Oper} {st st' : St} (hlex : lexD .any C.E ops ops.size 0 (Array.replicate ops.size false) = true) (h : drawK P C N ops st = .ok st') {pre B : List Value} {a : Act} {w : World} (hp : pre <+: B) (hs : SlotsD D N st.fr B a) (hm : Mem w0 bs st.H B w) {Q : Exit → Act → World → Prop}
    (hQ : ∀ B' a' w', pre <+: B' → SlotsD D N st'.fr B' a' → Mem w0 bs st'.H B' w' → Q .normal a' w') : Code.wp P (.region id ops true) Q a w := by
  unfold drawK at h
  split at h
  · rename_i st1 recs ts hpass
    cases hb : ts.all (fun p => p.2.all fun q => hidK C.E ops (visK recs) p.1 q)
    · rw [hb] at h; cases h
    · rw [hb, cond_true, Re.ok.injEq] at h
      subst h
      have hD := passK_ok (V := visK recs) ops.toList 0 st st1 recs ts hpass (fun j => by funext q; simp only [visK, Nat.zero_add]) (fun p hp q hq => by
        rw [List.all_eq_true] at hb
        have := hb p hp
        rw [List.all_eq_true] at this
        exact this q hq)
      have hsz : ops.toList.length = ops.size := by simp
      have hA := AG_lex (P := P) (S := C.S) (G := C.G) (N := N) (E := C.E) (V := visK recs) (md := .any) (QQ := fun st' => SEq st1 st') (fun a b hab h1 => ⟨fun t => (h1.1 t).trans (hab.1 t), h1.2.trans hab.2⟩)
        ops.toList 0 (Array.replicate ops.size false) st (by simp) (by rw [hsz]; exact hlex) (fun j o _ hl => by
          rw [Array.getD_eq_getD_getElem?, Array.getElem?_replicate] at hl
          split at hl <;> cases hl) (T.ok_mono (fun a ha => by rw [ha]; exact SEq.refl st1) hD)
      rw [hsz] at hA
      refine wp_region_any hP (AG_sound hC.S hC.G (pre := pre) (fun st2 B' a' w' he hp' h' hm' => ?_) _ _ st B a _ hp hs hm.drew hA)
      exact hQ B' a' w' hp' (markFr_slots ⟨h'.size, h'.defers, fun t s e => h'.slot t s (by rw [← he.1 t]; exact e)⟩) (by show Mem w0 bs (st1.H.map Blk.flat) B' w'; rw [he.2]; exact flat_mem hm')
  · cases h
theorem planK_ok {D : List Deferred} (hC : CfgOk P C) (hP : P.follows .mixedOrders = true) {id : Nat} {ops : Array Oper} {st st' : St} {ks : List Nat} {L : List (List Nat)} (hL : orders .any C.E ops ops.size (Array.replicate ops.size false) = some L) (h : planK P C N ops st ks L = .ok st') {pre B : List Value} {a : Act} {w : World} (hp : pre <+: B) (hs : SlotsD D N st.fr B a) (hm : Mem w0 bs st.H B w) {Q : Exit → Act → World → Prop}
    (hQ : ∀ B' a' w', pre <+: B' → SlotsD D N st'.fr B' a' → Mem w0 bs st'.H B' w' → Q .normal a' w') : Code.wp P (.region id ops true) Q a w := by
  unfold planK at h
  split at h
  · cases h
  · rename_i o l
    split at h
    · rename_i s1 h1
      generalize hV : visAll C ops (scanOps P C N ops ops.toList 0 st) st.H.length = V at *
      cases hb : l.all (fun o' => match (runOrd P C.S C.G N .any C.E V ops o' st).go with
        | .ok s2 => sameSt (s2.ordC st.H.length ks) (s1.ordC st.H.length ks)
        | .er _ => false)
      · rw [hb] at h; cases h
      · rw [hb, cond_true, Re.ok.injEq] at h
        subst h
        have hall : ∀ o' ∈ o :: l, (runOrd P C.S C.G N .any C.E V ops o' st).ok fun s => s.ordC st.H.length ks = s1.ordC st.H.length ks := by
          intro o' ho'
          rcases List.mem_cons.1 ho' with rfl | ho'
          · exact T.go_ok h1 rfl
          · rw [List.all_eq_true] at hb
            have := hb o' ho'
            split at this
            · rename_i s2 h2
              exact T.go_ok h2 (sameSt_eq this)
            · cases this
        have hlen : B.length = st.H.length := hm.sat.len
        have hA := orders_AG (P := P) (S := C.S) (G := C.G) (N := N) (E := C.E) (V := V) (md := .any) (ops := ops) (QQ := fun st' => st'.ordC st.H.length ks = s1.ordC st.H.length ks) (fun a b hab h1 => by rw [← ordC_congr hab]; exact h1)
          ops.size (Array.replicate ops.size false) st (o :: l) hL (fun j o _ hl => by
            rw [Array.getD_eq_getD_getElem?, Array.getElem?_replicate] at hl
            split at hl <;> cases hl) hall
        refine wp_region_any hP (AG_sound hC.S hC.G (pre := B) (fun st2 B' a' w' hqs hp' h' hm' => ?_) _ _ st B a _ (List.prefix_refl _) hs hm.drew hA)
        have hnB : st.H.length ≤ B'.length := by have := hp'.length_le; omega
        obtain ⟨B2, p2, h2, m2⟩ := ordC_ok (M := ks) h' hm' hnB
        have hBt : B'.take st.H.length = B := by
          obtain ⟨l, rfl⟩ := hp'
          rw [← hlen, List.take_left]
        rw [hBt] at p2
        rw [hqs] at h2 m2
        exact hQ B2 a' w' (hp.trans p2) (markFr_slots h2) (flat_mem m2)
    · cases h
theorem with_ok (hC : CfgOk P C) (l : List Nat) : CfgOk P (C.with l) := ⟨hC.S, hC.G⟩
theorem regionK_ok {D : List Deferred} (hC : CfgOk P C) (hP : P.follows .mixedOrders = true) {id : Nat} {ops : Array Oper} {draw : Bool} {st st' : St} (h : regionK P C N id ops draw st = .ok st') {pre B : List Value} {a : Act} {w : World} (hp : pre <+: B) (hs : SlotsD D N st.fr B a) (hm : Mem w0 bs st.H B w) {Q : Exit → Act → World → Prop}
    (hQ : ∀ B' a' w', pre <+: B' → SlotsD D N st'.fr B' a' → Mem w0 bs st'.H B' w' → Q .normal a' w') : Code.wp P (.region id ops draw) Q a w := by
  unfold regionK at h
  cases draw
  · rw [cond_false] at h
    exact wp_region_list (runOpsK_ok hC hQ ops.toList st B a w hp hs hm h)
  · rw [cond_true] at h
    split at h
    · rename_i st1 recs ts hpass
      cases hl : (lexAllF ⟨noS, noG, C.E, [], []⟩ (.region id ops true) && ts.all (fun p => p.2.all fun q => hidK C.E ops (visK recs) p.1 q))
      · rw [hl, cond_false] at h
        split at h
        · rename_i L hL
          exact planK_ok (with_ok hC _) hP hL h hp hs hm hQ
        · cases h
      · rw [hl, cond_true, Re.ok.injEq] at h
        subst h
        rw [Bool.and_eq_true] at hl
        have hlex := lexAllF_ok hl.1
        simp only [lexAll, cond_true, keepOf] at hlex
        refine drawK_ok (st' := ⟨markFr ops.size st1.fr, st1.H.map Blk.flat⟩) hC hP hlex ?_ hp hs hm hQ
        unfold drawK
        rw [hpass]
        simp only [hl.2, cond_true]
    · cases h
def RunOkD (D : List Deferred) (P : Program) (N : Nat) (c : Code) (st : St) (t : T (Ex × St)) : Prop :=
  ∀ (w0 : World) (bs : List Nat) (pre B : List Value) (a : Act) (w : World) (Qs : Ex × St → Prop) (Q : Exit → Act → World → Prop), pre <+: B → SlotsD D N st.fr B a → Mem w0 bs st.H B w → t.ok Qs →
    (∀ r B' a' w', Qs r → pre <+: B' → SlotsD D N r.2.fr B' a' → Mem w0 bs r.2.H B' w' → Q r.1.to a' w') → c.wp P Q a w
theorem loopK_ok {D : List Deferred} {run : St → Re (Ex × St)} {body : Code} (hrun : ∀ st r, run st = .ok r → RunOkD D P N body st (.leaf r)) (id n : Nat) (st : St) (r : Ex × St) (h : loopK run id n st = .ok r) : RunOkD D P N (.block id (.loop body)) st (.leaf r) := by
  intro w0 bs pre B a w Qs Q hp hsl hm hq hQ
  refine wp_block ?_
  refine wp_loop_idx (ι := Nat) (fun m a w => ∃ st B, loopK run id m st = .ok r ∧ pre <+: B ∧ SlotsD D N st.fr B a ∧ Mem w0 bs st.H B w) (fun m => m) (fun m a w hi => ?_) n a w ⟨st, B, h, hp, hsl, hm⟩
  obtain ⟨st, B, h, hp, hsl, hm⟩ := hi
  cases m with
  | zero => simp [loopK] at h
  | succ m =>
    simp only [loopK] at h
    split at h
    · rename_i st1 h1
      exact hrun st _ h1 w0 bs pre B a w (fun x => x = (.normal, st1)) _ hp hsl hm rfl fun r' B' a' w' hr hpre hs' hm' => by
        subst hr; exact ⟨m, Nat.lt_succ_self _, st1, B', h, hpre, hs', hm'⟩
    · rename_i k st1 h1
      refine hrun st _ h1 w0 bs pre B a w (fun x => x = (.exit k, st1)) _ hp hsl hm rfl fun r' B' a' w' hr hpre hs' hm' => ?_
      subst hr
      simp only [Ex.to, Exit.then, Exit.inBlock]
      by_cases e : k = id
      · subst e
        simp only [Nat.beq_refl, cond_true, Re.ok.injEq] at h
        subst h
        rw [if_pos rfl]
        exact hQ _ B' a' w' hq hpre hs' hm'
      · simp only [nat_beq_ne e, cond_false, Re.ok.injEq] at h
        subst h
        rw [if_neg e]
        exact hQ _ B' a' w' hq hpre hs' hm'
    · rename_i st1 h1
      refine hrun st _ h1 w0 bs pre B a w (fun x => x = (.ret, st1)) _ hp hsl hm rfl fun r' B' a' w' hr hpre hs' hm' => ?_
      subst hr
      simp only [Re.ok.injEq] at h
      subst h
      exact hQ _ B' a' w' hq hpre hs' hm'
    · cases h
theorem blk {D : List Deferred} (id : Nat) (c : Code) (hc : ∀ st r, runCK P C N c st = .ok r → RunOkD D P N c st (.leaf r)) (st : St) (r : Ex × St) (h : (match runCK P C N c st with
    | .ok (.exit j, st') => bif Nat.beq j id then Re.ok (Ex.normal, st') else Re.ok (Ex.exit j, st')
    | r => r) = Re.ok r) : RunOkD D P N (.block id c) st (.leaf r) := by
  intro w0 bs pre B a w Qs Q hp hs hm hq hQ
  split at h
  · rename_i j st1 h1
    refine wp_block (hc st _ h1 w0 bs pre B a w (fun z => z = (.exit j, st1)) _ hp hs hm rfl fun r' B' a' w' hr g1 g2 g3 => ?_)
    subst hr
    simp only [Ex.to, Exit.inBlock]
    by_cases e : j = id
    · subst e
      simp only [Nat.beq_refl, cond_true, Re.ok.injEq] at h
      subst h
      rw [if_pos rfl]
      exact hQ _ B' a' w' hq g1 g2 g3
    · simp only [nat_beq_ne e, cond_false, Re.ok.injEq] at h
      subst h
      rw [if_neg e]
      exact hQ _ B' a' w' hq g1 g2 g3
  · rename_i hne
    obtain ⟨e, st1⟩ := r
    refine wp_block (hc st _ h w0 bs pre B a w (fun z => z = (e, st1)) _ hp hs hm rfl fun r' B' a' w' hr g1 g2 g3 => ?_)
    subst hr
    cases e with
    | normal => exact hQ _ B' a' w' hq g1 g2 g3
    | ret => exact hQ _ B' a' w' hq g1 g2 g3
    | exit j => exact absurd h (hne j st1)
theorem runCK_ok {D : List Deferred} (hC : CfgOk P C) (hP : P.follows .mixedOrders = true) : ∀ (c : Code) (st : St) (r : Ex × St), runCK P C N c st = .ok r → RunOkD D P N c st (.leaf r)
  | .skip, st, r, h => fun w0 bs pre B a w Qs Q hp hs hm hq hQ => by
    simp only [runCK, Re.ok.injEq] at h; subst h
    exact wp_skip (hQ (.normal, st) B a w hq hp hs hm)
  | .region id ops draw, st, r, h => fun w0 bs pre B a w Qs Q hp hs hm hq hQ => by
    simp only [runCK] at h
    split at h
    · rename_i st1 h1
      simp only [Re.ok.injEq] at h; subst h
      exact regionK_ok hC hP (Re.at_ok h1) hp hs hm fun B' a' w' g1 g2 g3 => hQ _ B' a' w' hq g1 g2 g3
    · cases h
  | .seq x y, st, r, h => fun w0 bs pre B a w Qs Q hp hs hm hq hQ => by
    simp only [runCK] at h
    split at h
    · rename_i st1 h1
      refine wp_seq (runCK_ok hC hP x st _ h1 w0 bs pre B a w (fun z => z = (.normal, st1)) _ hp hs hm rfl fun r' B' a' w' hr g1 g2 g3 => ?_)
      subst hr
      exact runCK_ok hC hP y st1 r h w0 bs pre B' a' w' Qs Q g1 g2 g3 hq hQ
    · rename_i hne
      obtain ⟨e, st1⟩ := r
      refine wp_seq (runCK_ok hC hP x st _ h w0 bs pre B a w (fun z => z = (e, st1)) _ hp hs hm rfl fun r' B' a' w' hr g1 g2 g3 => ?_)
      subst hr
      cases e with
      | normal => exact absurd h (hne st1)
      | exit id => exact hQ _ B' a' w' hq g1 g2 g3
      | ret => exact hQ _ B' a' w' hq g1 g2 g3
  | .cond c x y, st, r, h => fun w0 bs pre B a w Qs Q hp hs hm hq hQ => by
    simp only [runCK] at h
    split at h
    · rename_i hc
      have hv := hs.val hc
      simp only [SV.to, Option.some.injEq] at hv
      exact wp_cond_true hv.symm (runCK_ok hC hP x st r h w0 bs pre B a w Qs Q hp hs hm hq hQ)
    · rename_i hc
      have hv := hs.val hc
      simp only [SV.to, Option.some.injEq] at hv
      exact wp_cond_false hv.symm (runCK_ok hC hP y st r h w0 bs pre B a w Qs Q hp hs hm hq hQ)
    · cases h
  | .block id (.loop body), st, r, h => loopK_ok (fun st r h => runCK_ok hC hP body st r h) id 600 st r h
  | .block id .skip, st, r, h => blk id .skip (fun st r h => runCK_ok hC hP .skip st r h) st r h
  | .block id (.region i o d), st, r, h => blk id (.region i o d) (fun st r h => runCK_ok hC hP (.region i o d) st r h) st r h
  | .block id (.seq x y), st, r, h => blk id (.seq x y) (fun st r h => runCK_ok hC hP (.seq x y) st r h) st r h
  | .block id (.cond c x y), st, r, h => blk id (.cond c x y) (fun st r h => runCK_ok hC hP (.cond c x y) st r h) st r h
  | .block id (.block i c), st, r, h => blk id (.block i c) (fun st r h => runCK_ok hC hP (.block i c) st r h) st r h
  | .block id (.exit i), st, r, h => blk id (.exit i) (fun st r h => runCK_ok hC hP (.exit i) st r h) st r h
  | .block id .ret, st, r, h => blk id .ret (fun st r h => runCK_ok hC hP .ret st r h) st r h
  | .block id (.rangeFunc ..), st, r, h => by simp [runCK] at h
  | .block id (.scope ..), st, r, h => by simp [runCK] at h
  | .block id (.label ..), st, r, h => by simp [runCK] at h
  | .block id (.goto ..), st, r, h => by simp [runCK] at h
  | .block id (.refuse ..), st, r, h => by simp [runCK] at h
  | .exit id, st, r, h => fun w0 bs pre B a w Qs Q hp hs hm hq hQ => by
    simp only [runCK, Re.ok.injEq] at h; subst h
    exact wp_exit (hQ (.exit id, st) B a w hq hp hs hm)
  | .ret, st, r, h => fun w0 bs pre B a w Qs Q hp hs hm hq hQ => by
    simp only [runCK, Re.ok.injEq] at h; subst h
    exact wp_ret (hQ (.ret, st) B a w hq hp hs hm)
  | .loop _, st, r, h => by simp [runCK] at h
  | .rangeFunc .., st, r, h => by simp [runCK] at h
  | .scope _, st, r, h => by simp [runCK] at h
  | .label _, st, r, h => by simp [runCK] at h
  | .goto _, st, r, h => by simp [runCK] at h
  | .refuse _, st, r, h => by simp [runCK] at h
theorem look_argsK {B : List Value} : ∀ (args : List SV) (vs : List Value) (n : Nat), SV.tos B args = some vs → ∀ t s, look ((args.zipIdx n).map fun p => (p.2, some p.1.mark)) t = some s → n ≤ t ∧ ∃ x, vs[t - n]? = some x ∧ s.to B = some x
  | [], _, _, _, _, _, h => by simp [look] at h
  | u :: args, vs, n, hv, t, s, h => by
    simp only [SV.tos] at hv
    split at hv
    · rename_i x xs h1 h2
      simp only [Option.some.injEq] at hv
      subst hv
      simp only [List.zipIdx_cons, List.map_cons, look] at h
      by_cases e : n = t
      · subst e
        simp only [Nat.beq_refl, cond_true, Option.some.injEq] at h
        subst h
        exact ⟨Nat.le_refl _, x, by simp, by rw [mark_to]; exact h1⟩
      · have hb : Nat.beq n t = false := by
          cases hb : Nat.beq n t
          · rfl
          · exact absurd (Nat.eq_of_beq_eq_true hb) e
        rw [hb, cond_false] at h
        obtain ⟨g1, y, g2, g3⟩ := look_argsK args xs (n + 1) h2 t s h
        refine ⟨by omega, y, ?_, g3⟩
        rw [show t - n = (t - (n + 1)) + 1 by omega, List.getElem?_cons_succ]
        exact g2
    · cases hv
theorem slots_args {N : Nat} {args : List SV} {vs : List Value} {B : List Value} (hle : args.length ≤ N) (hv : SV.tos B args = some vs) :
    SlotsD [] N ((args.zipIdx).map fun p => (p.2, some p.1.mark)) B { tmps := vs.toArray ++ Array.replicate (N - vs.toArray.size) undef, defers := [] } := by
  have hlen := tos_length hv
  refine ⟨by simp; omega, rfl, fun t s h => ?_⟩
  obtain ⟨-, x, g1, g2⟩ := look_argsK args vs 0 hv t s h
  rw [g2]
  have hlt : t < vs.length := (List.getElem?_eq_some_iff.1 g1).1
  rw [Array.getD_eq_getD_getElem?, Array.getElem?_append_left (by simpa using hlt)]
  simp only [Nat.sub_zero] at g1
  simp [g1]
theorem wp_of_runFK (hC : CfgOk P C) (hP : P.follows .mixedOrders = true) {fn : Func}
    {args : List SV} {vs : List Value} {H : List Blk} {B : List Value} {w : World} (hv : SV.tos B args = some vs) (hm : Mem w0 bs H B w) {r : SV × List Blk} (hq : runFK P C fn args H = .ok r) :
    (fn.body.getD .skip).wp P (bodyPost P fn fun e w' => ∃ B' x, B <+: B' ∧ r.1.to B' = some x ∧ e = .returned x ∧ Mem w0 bs r.2 B' w') { tmps := vs.toArray ++ Array.replicate (fn.ntmps - vs.toArray.size) undef, defers := [] } w := by
  unfold runFK at hq
  cases hn : Nat.ble args.length fn.ntmps
  · rw [hn] at hq; cases hq
  · rw [hn, cond_true] at hq
    have hsl := slots_args (N := fn.ntmps) (Nat.le_of_ble_eq_true hn) hv
    split at hq
    · cases hq
    · rename_i e st' hne hrun
      split at hq
      · rename_i s hs
        rw [forceSV_eq, Re.ok.injEq] at hq
        subst hq
        refine runCK_ok (D := []) hC hP _ _ _ hrun w0 bs B B _ w (fun z => z = (e, st')) _ (List.prefix_refl _) hsl hm rfl fun r' B' a' w' hr hp' h' hm' => ?_
        subst hr
        obtain ⟨s', x, hq2, hx, hr⟩ := resT_ok (fn := fn) h' hm' (T.go_ok (Q := fun x => x = s) hs rfl)
        subst hq2
        have hx' : s'.mark.to B' = some x := by rw [mark_to]; exact hx
        cases e with
        | exit id => exact (hne _ rfl).elim
        | normal => exact ⟨h'.defers, x, hr, B', x, hp', hx', rfl, hm'⟩
        | ret => exact ⟨h'.defers, x, hr, B', x, hp', hx', rfl, hm'⟩
      · cases hq
    · cases hq
theorem body_some {fn : Func} (hb : fn.body.isSome = true) : fn.body = some (fn.body.getD .skip) := by
  cases h : fn.body with
  | none => rw [h] at hb; cases hb
  | some c => rfl
theorem calls_of_runFK (hC : CfgOk P C) (hP : P.follows .mixedOrders = true) {f : FuncId} {fn : Func} (hf : P.funcs[f]? = some fn) (hb : fn.body.isSome = true)
    {args : List SV} {vs : List Value} {H : List Blk} {B : List Value} {w : World} (hv : SV.tos B args = some vs) (hm : Mem w0 bs H B w) {r : SV × List Blk} (hq : runFK P C fn args H = .ok r) :
    Calls P f vs.toArray w fun e w' => ∃ B' x, B <+: B' ∧ r.1.to B' = some x ∧ e = .returned x ∧ Mem w0 bs r.2 B' w' :=
  calls_of_wp hf (body_some hb) (wp_of_runFK hC hP hv hm hq)
def defOf (st : St) (o : Oper) : Option (FuncId × List SV) := match o.op with
  | .defer c => (match c.callee with
    | .value (.func f) => (match vals ⟨st.val, fun k => st.H[k]?, 0⟩ c.args.toList with
      | some ss => some (f, ss)
      | none => none)
    | _ => none)
  | _ => none
def isDef (o : Oper) : Bool := match o.op with
  | .defer _ => true
  | _ => false
section
variable (P : Program) (C : Cfg) (N : Nat)
def runOpsDK (ops : Array Oper) : List Oper → St → Re (St × FuncId × List SV)
  | [], _ => .er 920
  | o :: rest, st => match wantedS ops st o with
    | some true => bif isDef o then (match defOf st o, rest, o.dst with
        | some d, [], none => .ok (st, d)
        | _, _, _ => .er 921)
      else (match (evalE P C.S C.G (st.view o) o).go with
      | .ok r => bif dstOk N o.dst then forceSV r.1 fun s => st.goK o.dst s r.2 fun st1 => flatK r.2 st1 fun st2 => runOpsDK ops rest st2 else .er 922
      | .er n => .er (n * 1000 + (ops.size - rest.length - 1)))
    | _ => .er 923
def runDK : Code → St → Re (Ex × St × Option (FuncId × List SV))
  | .seq a b, st => match runDK a st with
    | .ok (.normal, st1, none) => runDK b st1
    | .ok (.normal, st1, some d) => (match runCK P C N b st1 with
      | .ok (e, st2) => .ok (e, st2, some d)
      | .er n => .er n)
    | r => r
  | .cond c a b, st => match st.val c with
    | some .tt => runDK a st
    | some .ff => runDK b st
    | _ => .er 924
  | .region id ops draw, st => bif !draw && ops.toList.any isDef then (match (runOpsDK P C N ops ops.toList st).at id with
      | .ok (st1, d) => .ok (.normal, st1, some d)
      | .er n => .er n)
    else (match runCK P C N (.region id ops draw) st with
      | .ok (e, st1) => .ok (e, st1, none)
      | .er n => .er n)
  | .block id (.seq a b), st => match runDK (.seq a b) st with
    | .ok (.exit j, st', d) => bif Nat.beq j id then .ok (.normal, st', d) else .ok (.exit j, st', d)
    | r => r
  | c, st => match runCK P C N c st with
    | .ok (e, st1) => .ok (e, st1, none)
    | .er n => .er n
def runDF (fn : Func) (args : List SV) (H : List Blk) : Re (SV × List Blk) :=
  bif Nat.ble args.length fn.ntmps then (match runDK P C fn.ntmps (fn.body.getD .skip) ⟨(args.zipIdx).map fun p => (p.2, some p.1.mark), H⟩ with
    | .ok (.exit _, _, _) => .er 925
    | .ok (_, st, none) => (match (resT P fn st).go with
      | .ok s => forceSV s fun s => .ok (s, st.H)
      | .er n => .er n)
    | .ok (_, st, some (f, ss)) => bif isGo P f then (match P.funcs[f]? with
      | some fd => bif fd.body.isSome then (match (runFK P C fd ss st.H).at f with
        | .ok r => (match (resT P fn ⟨st.fr, r.2⟩).go with
          | .ok s => forceSV s fun s => .ok (s, r.2)
          | .er n => .er n)
        | .er n => .er n) else .er 926
      | none => .er 927) else .er 928
    | .er n => .er n)
  else .er 929
end
def DefOk (d : Option (FuncId × List SV)) (B : List Value) (D : List Deferred) : Prop := match d with
  | none => D = []
  | some (f, ss) => ∃ vs, SV.tos B ss = some vs ∧ D = [⟨.fn (.func f) #[], vs.toArray⟩]
theorem DefOk.mono {d : Option (FuncId × List SV)} {B B' : List Value} {D : List Deferred} (h : DefOk d B D) (hp : B <+: B') : DefOk d B' D := by
  cases d with
  | none => exact h
  | some p => obtain ⟨vs, h1, h2⟩ := h; exact ⟨vs, SV.tos_mono hp h1, h2⟩
theorem runOpsDK_ok (hC : CfgOk P C) {ops : Array Oper} {st' : St} {d : FuncId × List SV} {Q : Exit → Act → World → Prop} {pre : List Value} (hQ : ∀ B a w D, pre <+: B → DefOk (some d) B D → SlotsD D N st'.fr B a → Mem w0 bs st'.H B w → Q .normal a w) :
    ∀ (l : List Oper) (st : St) (B : List Value) (a : Act) (w : World), pre <+: B → SlotsD [] N st.fr B a → Mem w0 bs st.H B w → runOpsDK P C N ops l st = .ok (st', d) → wpList P ops Q l a w
  | [], st, B, a, w, hp, h, hm, hq => by simp [runOpsDK] at hq
  | o :: l, st, B, a, w, hp, h, hm, hq => by
    simp only [runOpsDK] at hq
    unfold wpList
    split at hq
    · rename_i hw
      rw [wantedS_ok h hw, if_pos rfl]
      cases hi : isDef o
      · rw [hi, cond_false] at hq
        split at hq
        · rename_i r hr
          cases hd : dstOk N o.dst
          · rw [hd] at hq; cases hq
          · rw [hd, cond_true, forceSV_eq, goK_eq, flatK_eq] at hq
            refine .inl (evalE_ok hC.S hC.G (view_ok h o) rfl hm (T.go_ok (Q := fun x => x = r) hr rfl) fun s ef B2 x w2 hq2 hpre hm2 hs => ?_)
            subst hq2
            refine runOpsDK_ok hC hQ l _ B2 _ w2 (hp.trans hpre) (by rw [flatS_fr]; exact SlotsD.put (st := St.mk st.fr (ef.run st.H)) (h.mono hpre) hd (by rw [mark_to]; exact hs)) (flatS_mem ?_) hq
            cases o.dst <;> exact hm2
        · cases hq
      · rw [hi, cond_true] at hq
        split at hq
        · rename_i d' hd hdst
          simp only [Re.ok.injEq, Prod.mk.injEq] at hq
          obtain ⟨rfl, rfl⟩ := hq
          refine .inl ?_
          unfold defOf at hd
          split at hd
          · rename_i c ho
            split at hd
            · rename_i f hcal
              split at hd
              · rename_i ss hss
                simp only [Option.some.injEq] at hd
                subst hd
                have hvs := vals_to (V := ⟨st.val, fun k => st.H[k]?, 0⟩) ⟨fun _ _ e => h.val e, fun _ _ e => e⟩ hss
                have hex : (execOp a.eval o).run P w = .ok (.defer ⟨.fn (.func f) #[], (c.args.toList.map a.eval).toArray⟩) w := by
                  unfold execOp
                  rw [ho]
                  have hr : (resolve a.eval c o.type).run P w = .ok ⟨.fn (.func f) #[], (c.args.toList.map a.eval).toArray⟩ w := by
                    unfold resolve
                    rw [hcal]
                    show (Deferred.ofValue (.func (.func f) #[] #[]) (c.args.map a.eval)).run P w = _
                    rw [map_toArray]
                    simp only [Deferred.ofValue, Array.empty_append]
                    rfl
                  exact run_bind_ok hr _
                unfold Oper.wp
                rw [hex]
                show wpList P ops Q [] ({ a with defers := _ :: a.defers }.put o.dst undef) w
                rw [hdst]
                refine hQ B _ w _ hp ⟨_, hvs, rfl⟩ ⟨h.size, by show _ :: a.defers = _; rw [h.defers], h.slot⟩ hm
              · cases hd
            · cases hd
          · cases hd
        · cases hq
    · cases hq
theorem runDK_ok (hC : CfgOk P C) (hP : P.follows .mixedOrders = true) : ∀ (c : Code) (st st' : St) (e : Ex) (d : Option (FuncId × List SV)), runDK P C N c st = .ok (e, st', d) →
    ∀ (pre B : List Value) (a : Act) (w : World) (Q : Exit → Act → World → Prop), pre <+: B → SlotsD [] N st.fr B a → Mem w0 bs st.H B w →
    (∀ B' a' w' D, pre <+: B' → DefOk d B' D → SlotsD D N st'.fr B' a' → Mem w0 bs st'.H B' w' → Q e.to a' w') → c.wp P Q a w := by
  have plain : ∀ (c : Code) (st st' : St) (e : Ex) (d : Option (FuncId × List SV)), (match runCK P C N c st with
      | .ok (e, st1) => Re.ok (e, st1, (none : Option (FuncId × List SV)))
      | .er n => .er n) = .ok (e, st', d) → ∀ (pre B : List Value) (a : Act) (w : World) (Q : Exit → Act → World → Prop), pre <+: B → SlotsD [] N st.fr B a → Mem w0 bs st.H B w →
      (∀ B' a' w' D, pre <+: B' → DefOk d B' D → SlotsD D N st'.fr B' a' → Mem w0 bs st'.H B' w' → Q e.to a' w') → c.wp P Q a w := by
    intro c st st' e d h pre B a w Q hp hs hm hQ
    split at h
    · rename_i e1 st1 h1
      simp only [Re.ok.injEq, Prod.mk.injEq] at h
      obtain ⟨rfl, rfl, rfl⟩ := h
      refine runCK_ok (D := []) hC hP c st _ h1 w0 bs pre B a w (fun z => z = (e1, st1)) _ hp hs hm rfl fun r' B' a' w' hr g1 g2 g3 => ?_
      subst hr
      exact hQ B' a' w' [] g1 rfl g2 g3
    · cases h
  intro c
  induction c with
  | seq x y ihx ihy =>
    intro st st' e d h pre B a w Q hp hs hm hQ
    simp only [runDK] at h
    split at h
    · rename_i st1 h1
      refine wp_seq (ihx st st1 _ _ h1 pre B a w _ hp hs hm fun B' a' w' D g1 g2 g3 g4 => ?_)
      have g2 : D = [] := g2
      subst g2
      exact ihy st1 st' e d h pre B' a' w' Q g1 g3 g4 hQ
    · rename_i st1 d1 h1
      refine wp_seq (ihx st st1 _ _ h1 pre B a w _ hp hs hm fun B' a' w' D g1 g2 g3 g4 => ?_)
      split at h
      · rename_i e2 st2 h2
        simp only [Re.ok.injEq, Prod.mk.injEq] at h
        obtain ⟨rfl, rfl, rfl⟩ := h
        refine runCK_ok (D := D) hC hP y st1 _ h2 w0 bs B' B' a' w' (fun z => z = (e2, st2)) _ (List.prefix_refl _) g3 g4 rfl fun r' B2 a2 w2 hr k1 k2 k3 => ?_
        subst hr
        exact hQ B2 a2 w2 D (g1.trans k1) (g2.mono k1) k2 k3
      · cases h
    · rename_i hn1 hn2
      refine wp_seq (ihx st st' _ _ h pre B a w _ hp hs hm fun B' a' w' D g1 g2 g3 g4 => ?_)
      cases e with
      | normal =>
        cases d with
        | none => exact absurd h (hn1 st')
        | some d => exact absurd h (hn2 st' d)
      | exit id => exact hQ B' a' w' D g1 g2 g3 g4
      | ret => exact hQ B' a' w' D g1 g2 g3 g4
  | cond c x y ihx ihy =>
    intro st st' e d h pre B a w Q hp hs hm hQ
    simp only [runDK] at h
    split at h
    · rename_i hc
      have hv := hs.val hc
      simp only [SV.to, Option.some.injEq] at hv
      exact wp_cond_true hv.symm (ihx st st' e d h pre B a w Q hp hs hm hQ)
    · rename_i hc
      have hv := hs.val hc
      simp only [SV.to, Option.some.injEq] at hv
      exact wp_cond_false hv.symm (ihy st st' e d h pre B a w Q hp hs hm hQ)
    · cases h
  | region id ops draw =>
    intro st st' e d h pre B a w Q hp hs hm hQ
    simp only [runDK] at h
    cases hb : (!draw && ops.toList.any isDef)
    · rw [hb, cond_false] at h
      exact plain _ st st' e d h pre B a w Q hp hs hm hQ
    · rw [hb, cond_true] at h
      simp only [Bool.and_eq_true, Bool.not_eq_true'] at hb
      obtain ⟨rfl, -⟩ := hb
      split at h
      · rename_i st1 d1 h1
        simp only [Re.ok.injEq, Prod.mk.injEq] at h
        obtain ⟨rfl, rfl, rfl⟩ := h
        exact wp_region_list (runOpsDK_ok hC (fun B' a' w' D g1 g2 g3 g4 => hQ B' a' w' D g1 g2 g3 g4) ops.toList st B a w hp hs hm (Re.at_ok h1))
      · cases h
  | block id c ih =>
    intro st st' e d h pre B a w Q hp hs hm hQ
    cases c with
    | seq x y =>
      simp only [runDK] at h
      refine wp_block ?_
      split at h
      · rename_i j st1 d1 h1
        refine ih st st1 _ _ h1 pre B a w _ hp hs hm fun B' a' w' D g1 g2 g3 g4 => ?_
        simp only [Ex.to, Exit.inBlock]
        by_cases e1 : j = id
        · subst e1
          simp only [Nat.beq_refl, cond_true, Re.ok.injEq, Prod.mk.injEq] at h
          obtain ⟨rfl, rfl, rfl⟩ := h
          rw [if_pos rfl]
          exact hQ B' a' w' D g1 g2 g3 g4
        · simp only [nat_beq_ne e1, cond_false, Re.ok.injEq, Prod.mk.injEq] at h
          obtain ⟨rfl, rfl, rfl⟩ := h
          rw [if_neg e1]
          exact hQ B' a' w' D g1 g2 g3 g4
      · rename_i hne
        refine ih st st' _ _ h pre B a w _ hp hs hm fun B' a' w' D g1 g2 g3 g4 => ?_
        cases e with
        | normal => exact hQ B' a' w' D g1 g2 g3 g4
        | ret => exact hQ B' a' w' D g1 g2 g3 g4
        | exit j => exact absurd h (hne j st' d)
    | _ => exact plain _ st st' e d (by simpa only [runDK] using h) pre B a w Q hp hs hm hQ
  | _ => exact fun st st' e d h pre B a w Q hp hs hm hQ => plain _ st st' e d (by simpa only [runDK] using h) pre B a w Q hp hs hm hQ
theorem calls_of_runDF (hC : CfgOk P C) (hP : P.follows .mixedOrders = true) {f : FuncId} {fn : Func} (hf : P.funcs[f]? = some fn) (hb : fn.body.isSome = true)
    {args : List SV} {vs : List Value} {H : List Blk} {B : List Value} {w : World} (hv : SV.tos B args = some vs) (hm : Mem w0 bs H B w) {r : SV × List Blk} (hq : runDF P C fn args H = .ok r) :
    Calls P f vs.toArray w fun e w' => ∃ B' x, B <+: B' ∧ r.1.to B' = some x ∧ e = .returned x ∧ Mem w0 bs r.2 B' w' := by
  unfold runDF at hq
  cases hn : Nat.ble args.length fn.ntmps
  · rw [hn] at hq; cases hq
  · rw [hn, cond_true] at hq
    have hsl := slots_args (N := fn.ntmps) (Nat.le_of_ble_eq_true hn) hv
    refine calls_of_wp_defers hf (body_some hb) ?_
    split at hq
    · cases hq
    · rename_i e st1 hne hrun
      refine runDK_ok hC hP _ _ _ _ _ hrun B B _ w _ (List.prefix_refl _) hsl hm fun B' a' w' D g1 g2 g3 g4 => ?_
      have g2 : D = [] := g2
      subst g2
      have fin : Leaves P fn a'.tmps (fun e w' => ∃ B' x, B <+: B' ∧ r.1.to B' = some x ∧ e = .returned x ∧ Mem w0 bs r.2 B' w') a'.defers .returning w' := by
        rw [g3.defers]
        split at hq
        · rename_i s hs
          rw [forceSV_eq, Re.ok.injEq] at hq
          subst hq
          obtain ⟨s', x, hq2, hx, hr⟩ := resT_ok (fn := fn) g3 g4 (T.go_ok (Q := fun x => x = s) hs rfl)
          subst hq2
          exact ⟨x, hr, B', x, g1, by rw [mark_to]; exact hx, rfl, g4⟩
        · cases hq
      cases e with
      | exit id => exact (hne _ rfl).elim
      | normal => exact fin
      | ret => exact fin
    · rename_i e st1 f1 ss hne hrun
      refine runDK_ok hC hP _ _ _ _ _ hrun B B _ w _ (List.prefix_refl _) hsl hm fun B' a' w' D g1 g2 g3 g4 => ?_
      obtain ⟨ws, k1, rfl⟩ := g2
      have fin : Leaves P fn a'.tmps (fun e w' => ∃ B' x, B <+: B' ∧ r.1.to B' = some x ∧ e = .returned x ∧ Mem w0 bs r.2 B' w') a'.defers .returning w' := by
        rw [g3.defers]
        cases hg : isGo P f1
        · rw [hg] at hq; cases hq
        rw [hg, cond_true] at hq
        split at hq
        · rename_i fd hfd
          cases hbd : fd.body.isSome
          · rw [hbd] at hq; cases hq
          rw [hbd, cond_true] at hq
          split at hq
          · rename_i r1 hr1
            split at hq
            · rename_i s hs
              rw [forceSV_eq, Re.ok.injEq] at hq
              subst hq
              refine leaves_cons (by simp) (f := f1) (args := ws.toArray) ?_ ?_
              · show (callFunc f1 (ws.toArray ++ #[])).run P w' = _
                rw [Array.append_empty]
                exact enter_run hg _ _
              · refine (callsD_of_wp hfd (body_some hbd) (wp_of_runFK hC hP k1 g4 (Re.at_ok hr1))).mono ?_
                rintro e' u' w2 ⟨rfl, B2, x2, p2, hx2, rfl, m2⟩
                have g3' : SlotsD _ fn.ntmps st1.fr B2 a' := g3.mono p2
                obtain ⟨s', x, hq2, hx, hr⟩ := resT_ok (fn := fn) (st := ⟨st1.fr, r1.2⟩) g3' m2 (T.go_ok (Q := fun x => x = s) hs rfl)
                subst hq2
                exact ⟨x, hr, B2, x, g1.trans p2, by rw [mark_to]; exact hx, rfl, m2⟩
            · cases hq
          · cases hq
        · cases hq
      cases e with
      | exit id => exact (hne _ rfl).elim
      | normal => exact fin
      | ret => exact fin
    · cases hq
end
def stripM (g : Nat → Option Blk) : List Nat → List (Nat × Blk) → List (Nat × Blk)
  | _, [] => []
  | seen, (k, b) :: l => bif (match g k with | some b0 => sameB b0 b | none => false) && !seen.any (Nat.beq k) then stripM g seen l else (k, b) :: stripM g (k :: seen) l
theorem set_self {H : List Blk} {k : Nat} {b : Blk} (h : H[k]? = some b) : H.set k b = H := by
  apply List.ext_getElem?
  intro i
  rw [List.getElem?_set]
  by_cases e : k = i
  · subst e
    obtain ⟨hl, hb⟩ := List.getElem?_eq_some_iff.1 h
    simp [hl, hb]
  · simp [e]
theorem stripM_ok {g : Nat → Option Blk} {H : List Blk} (hg : ∀ k x, g k = some x → H[k]? = some x) : ∀ (l : List (Nat × Blk)) (seen : List Nat) (H' : List Blk), (∀ k, k ∉ seen → H'[k]? = H[k]?) →
    (stripM g seen l).foldl (fun H p => H.set p.1 p.2) H' = l.foldl (fun H p => H.set p.1 p.2) H'
  | [], _, _, _ => rfl
  | (k, b) :: l, seen, H', h => by
    simp only [stripM]
    cases hb : ((match g k with | some b0 => sameB b0 b | none => false) && !seen.any (Nat.beq k))
    · rw [cond_false]
      simp only [List.foldl_cons]
      refine stripM_ok hg l (k :: seen) _ fun i hi => ?_
      simp only [List.mem_cons, not_or] at hi
      rw [List.getElem?_set_ne (fun e => hi.1 e.symm)]
      exact h i hi.2
    · rw [cond_true]
      simp only [Bool.and_eq_true, Bool.not_eq_true'] at hb
      obtain ⟨h1, h2⟩ := hb
      have hns : k ∉ seen := by
        intro hm
        have : seen.any (Nat.beq k) = true := List.any_eq_true.2 ⟨k, hm, Nat.beq_refl k⟩
        rw [this] at h2; cases h2
      have hk : H'[k]? = some b := by
        rw [h k hns]
        split at h1
        · rename_i b0 hb0
          rw [hg k b0 hb0, sameB_eq h1]
        · cases h1
      simp only [List.foldl_cons]
      rw [set_self hk]
      exact stripM_ok hg l seen H' h
def stripE (g : Nat → Option Blk) (e : Eff) : Eff := ⟨stripM g [] e.muts, e.news⟩
theorem stripE_run {g : Nat → Option Blk} {H : List Blk} (hg : ∀ k x, g k = some x → H[k]? = some x) (e : Eff) : (stripE g e).run H = e.run H := by
  unfold stripE Eff.run
  have := stripM_ok hg e.muts [] H (fun _ _ => rfl)
  simp only [this]
def liftK (F : LTab) : GTab := fun f ss g n => match liftG F f ss g n with
  | some t => some (t.bind fun r => .leaf (r.1, stripE g r.2))
  | none => none
theorem liftK_ok {P : Program} {F : LTab} (hF : LOk P F) : GOk P (liftK F) := by
  intro f ss g n t h
  unfold liftK at h
  split at h
  · rename_i t0 h0
    simp only [Option.some.injEq] at h
    subst h
    obtain ⟨hgo, hc⟩ := liftG_ok hF f ss g n t0 h0
    refine ⟨hgo, fun w0 bs H B w vs hm hg hn hv Qs hq => (hc w0 bs H B w vs hm hg hn hv _ (T.ok_bind hq)).mono ?_⟩
    rintro e w' ⟨s, ef, B', x, h1, h2, h3, h4, h5⟩
    exact ⟨s, stripE g ef, B', x, h1, h2, h3, h4, by rw [stripE_run hg]; exact h5⟩
  · cases h
def canK (n0 : Nat) (r : SV × List Blk) : T (SV × List Blk) := bif Nat.ble r.2.length n0 then .leaf r else goCan n0 r
def effK (P : Program) (m : Nat) (o : Oper) : Bool :=
  match o.op with
  | .call c => match c.callee with
    | .value (.func f) => !Nat.testBit m f
    | .value _ => true
    | _ => effE P [] o
  | .slice .. => false
  | _ => effE P [] o
def defersIn : Code → Bool
  | .region _ ops _ => ops.toList.any isDef
  | .seq a b => defersIn a || defersIn b
  | .cond _ a b => defersIn a || defersIn b
  | .block _ c => defersIn c
  | _ => false
def runXK (P : Program) (C : Cfg) (fn : Func) (args : List SV) (H : List Blk) : Re (SV × List Blk) := bif defersIn (fn.body.getD .skip) then runDF P C fn args H else runFK P C fn args H
theorem calls_of_runXK {P : Program} {C : Cfg} {w0 : World} {bs : List Nat} (hC : CfgOk P C) (hP : P.follows .mixedOrders = true) {f : FuncId} {fn : Func} (hf : P.funcs[f]? = some fn) (hb : fn.body.isSome = true)
    {args : List SV} {vs : List Value} {H : List Blk} {B : List Value} {w : World} (hv : SV.tos B args = some vs) (hm : Mem w0 bs H B w) {r : SV × List Blk} (hq : runXK P C fn args H = .ok r) :
    Calls P f vs.toArray w fun e w' => ∃ B' x, B <+: B' ∧ r.1.to B' = some x ∧ e = .returned x ∧ Mem w0 bs r.2 B' w' := by
  unfold runXK at hq
  cases hd : defersIn (fn.body.getD .skip)
  · rw [hd, cond_false] at hq; exact calls_of_runFK hC hP hf hb hv hm hq
  · rw [hd, cond_true] at hq; exact calls_of_runDF hC hP hf hb hv hm hq
def plainT (S0 : Tab) (f : FuncId) (ss : List SV) (H : List Blk) : Option (T (SV × List Blk)) := match plains ss with
  | some xs => (match S0 f xs with
    | some t => some (t.bind fun v => .leaf (.v v, H))
    | none => none)
  | none => none
theorem plainT_ok {P : Program} {S0 : Tab} (hS : TabOk P S0) : LOk P (plainT S0) := by
  intro f ss H t h
  unfold plainT at h
  split at h
  · rename_i xs hxs
    split at h
    · rename_i t0 h0
      simp only [Option.some.injEq] at h
      subst h
      obtain ⟨hg, hc⟩ := hS f xs t0 h0
      refine ⟨hg, fun bs B w vs hm hv Qs hq => ?_⟩
      obtain ⟨v, hv1, hv2⟩ := T.ok_point0 (T.ok_bind hq)
      have e : vs = xs := by
        have := plains_to (B := B) hxs
        rw [hv, Option.some.injEq] at this
        exact this
      subst e
      refine (hc v (hv2 (fun x => x = v) rfl) w).mono ?_
      rintro e w' ⟨rfl, hb⟩
      exact ⟨.v v, H, B, v, hv1, List.prefix_refl _, rfl, rfl, hm.below hb⟩
    · cases h
  · cases h
def anyC (P : Program) (m : Nat) (S0 : Tab) (F0 : LTab) : Nat → Cfg
  | 0 => ⟨S0, liftK F0, effK P m, [], []⟩
  | n + 1 => ⟨fun f xs => match S0 f xs with
      | some t => some t
      | none => bif isGo P f then (match P.funcs[f]? with
        | some fn => bif fn.body.isSome then (match runFK P (anyC P m S0 F0 n) fn (xs.map .c) [] with
          | .ok r => (match r.1.plain with | some v => some (.leaf v) | none => none)
          | .er e => some (.stuck (e * 1000 + f))) else none
        | none => none) else none,
    liftK fun f ss H => match F0 f ss H with
      | some t => some t
      | none => match plainT S0 f ss H with
      | some t => some t
      | none => bif isGo P f then (match P.funcs[f]? with
        | some fn => bif fn.body.isSome then (match runXK P (anyC P m S0 F0 n) fn ss H with
          | .ok r => some (canK H.length r)
          | .er e => some (.stuck (e * 1000 + f))) else none
        | none => none) else none,
    effK P m, [], []⟩
theorem canK_ok {w : World} {bs : List Nat} {H : List Blk} {B : List Value} (hl0 : B.length = H.length) {s0 : SV} {H0 : List Blk} {B0 : List Value} {x : Value} {w' : World} (hp : B <+: B0) (hx : s0.to B0 = some x) (hm' : Mem w bs H0 B0 w') {Qs : SV × List Blk → Prop} (hQ : (canK H.length (s0, H0)).ok Qs) :
    ∃ s H' B', Qs (s, H') ∧ B <+: B' ∧ s.to B' = some x ∧ Mem w bs H' B' w' := by
  unfold canK at hQ
  cases hb : Nat.ble (s0, H0).2.length H.length
  · rw [hb, cond_false] at hQ
    have hsl : Slots 1 (canSt (s0, H0)).fr B0 ⟨#[x], []⟩ := by
      refine ⟨rfl, rfl, fun t s e => ?_⟩
      simp only [canSt, look] at e
      cases hb : Nat.beq 0 t
      · rw [hb] at e; cases e
      · rw [hb, cond_true, Option.some.injEq] at e
        have := Nat.eq_of_beq_eq_true hb
        subst this
        subst e
        exact hx
    have hle : H.length ≤ B0.length := by rw [← hl0]; exact hp.length_le
    obtain ⟨B', h1, h2, h3⟩ := ordC_ok (n0 := H.length) (M := [0]) hsl hm' hle
    have ht : B0.take H.length = B := by rw [← hl0]; exact (List.prefix_iff_eq_take.1 hp).symm
    rw [ht] at h1
    unfold goCan at hQ
    split at hQ
    · rename_i s hs
      exact ⟨s, _, B', hQ, h1, h2.slot 0 s hs, h3⟩
    · exact hQ.elim
  · rw [hb, cond_true] at hQ
    exact ⟨s0, H0, B0, hQ, hp, hx, hm'⟩
theorem anyC_ok {P : Program} {m : Nat} {S0 : Tab} {F0 : LTab} (hP : P.follows .mixedOrders = true) (hS : TabOk P S0) (hF : LOk P F0) : ∀ n, CfgOk P (anyC P m S0 F0 n)
  | 0 => ⟨hS, liftK_ok hF⟩
  | n + 1 => by
    have ih := anyC_ok (m := m) hP hS hF n
    refine ⟨fun f xs t h => ?_, liftK_ok fun f ss H t h => ?_⟩
    · simp only [anyC] at h
      split at h
      · rename_i t0 h0
        simp only [Option.some.injEq] at h; subst h
        exact hS f xs _ h0
      · cases hg : isGo P f
        · rw [hg] at h; cases h
        · rw [hg, cond_true] at h
          split at h
          · rename_i fn hfn
            cases hb : fn.body.isSome
            · rw [hb] at h; cases h
            · rw [hb, cond_true] at h
              split at h
              · rename_i r hr
                split at h
                · rename_i v hv
                  simp only [Option.some.injEq] at h; subst h
                  refine ⟨rfl, fun v' hv' w => ?_⟩
                  refine (calls_of_runFK (w0 := w) (bs := []) (B := []) (w := w) ih hP hfn hb (tos_conc [] xs) ⟨⟨rfl, by simp, by simp [ExBlk], by simp [ExBlk]⟩, .refl _ _, by simp [ExBlk]⟩ hr).mono ?_
                  rintro e w' ⟨B', x, h1, h2, rfl, h4⟩
                  rw [SV.plain_to hv B', Option.some.injEq] at h2
                  subst h2
                  exact ⟨by rw [show v = v' from hv'], h4.keeps.below⟩
                · cases h
              · simp only [Option.some.injEq] at h; subst h
                exact ⟨rfl, fun _ hv => hv.elim⟩
          · cases h
    · split at h
      · rename_i t0 h0
        simp only [Option.some.injEq] at h; subst h
        exact hF f ss H _ h0
      · split at h
        · rename_i t0 h0
          simp only [Option.some.injEq] at h; subst h
          exact plainT_ok hS f ss H _ h0
        cases hg : isGo P f
        · rw [hg] at h; cases h
        · rw [hg, cond_true] at h
          split at h
          · rename_i fn hfn
            cases hb : fn.body.isSome
            · rw [hb] at h; cases h
            · rw [hb, cond_true] at h
              split at h
              · rename_i r hr
                simp only [Option.some.injEq] at h; subst h
                refine ⟨rfl, fun bs B w vs hm hv Qs hq => ?_⟩
                refine (calls_of_runXK ih hP hfn hb hv hm hr).mono ?_
                rintro e w' ⟨B', x, h1, h2, rfl, h4⟩
                obtain ⟨s, H', B2, g1, g2, g3, g4⟩ := canK_ok hm.sat.len h1 h2 h4 hq
                exact ⟨s, H', B2, x, g1, g2, rfl, g3, g4⟩
              · simp only [Option.some.injEq] at h; subst h
                exact ⟨rfl, fun _ _ _ _ _ _ _ hq => hq.elim⟩
          · cases h
end Go.Proofs.YtbippdeahoehoaaGreat.Sym
namespace Go.Proofs.YtbippdeahoehoaaGreat.Oct
def be (u : Nat) : Nat → List UInt8
  | 0 => []
  | k + 1 => UInt8.ofNat (u / 256 ^ k) :: be u k
def u64 (n : Int) : Nat := (n % 18446744073709551616).toNat
def val (l : List UInt8) : Nat := l.foldl (fun n b => 256 * n + b.toNat) 0
def put (s : ByteArray) (n k : Int) : ByteArray := ⟨(s.data.toList ++ be (u64 n) k.toNat).toArray⟩
theorem be_length (u k : Nat) : (be u k).length = k := by induction k <;> simp_all [be]
theorem be_drop (u k j : Nat) (h : j ≤ k) : (be u k).drop (k - j) = be u j := by
  induction k with
  | zero => obtain rfl : j = 0 := by omega
            rfl
  | succ k ih =>
    by_cases e : j = k + 1
    · subst e; simp
    · rw [show k + 1 - j = (k - j) + 1 by omega]
      simpa [be] using ih (by omega)
theorem be_snoc (u k j : Nat) (h : j < k) : (be u k).take (k - (j + 1)) ++ [UInt8.ofNat (u / 256 ^ j)] = (be u k).take (k - j) := by
  have h1 := be_drop u k (j + 1) (by omega)
  have hl := be_length u k
  have h2 : k - (j + 1) < (be u k).length := by omega
  rw [show k - j = (k - (j + 1)) + 1 by omega, List.take_succ_eq_append_getElem h2]
  congr 1
  rw [List.drop_eq_getElem_cons h2] at h1
  simp only [be, List.cons.injEq] at h1
  rw [h1.1]
theorem be_full (u k : Nat) : (be u k).take (k - 0) = be u k := by
  have := be_length u k
  rw [List.take_of_length_le (by omega)]
theorem be_none (u k : Nat) : (be u k).take (k - k) = [] := by simp
theorem u64_cast (n : Int) : (u64 n : Int) = n % 18446744073709551616 := by unfold u64; omega
theorem byte_of (u j : Nat) : (((UInt8.ofNat (u / 256 ^ j)).toNat : Nat) : Int) = ((u : Int) / 2 ^ (8 * j)) % 256 := by
  have : (256 : Nat) ^ j = 2 ^ (8 * j) := by rw [Nat.pow_mul]
  rw [this]
  simp only [UInt8.toNat_ofNat']
  generalize 8 * j = m
  have h1 : ((u / 2 ^ m : Nat) : Int) = (u : Int) / 2 ^ m := by rw [Int.natCast_ediv, Int.natCast_pow]; rfl
  rw [← h1]
  generalize u / 2 ^ m = q
  omega
theorem or_low (a b : Nat) (hb : b < 256) : bits .or .u64 (IntKind.u64.wrap ((a : Int) * 256)) (IntKind.u64.wrap (b : Int)) = (((256 * a + b) % 18446744073709551616 : Nat) : Int) := by
  have e1 : IntKind.u64.wrap ((a : Int) * 256) = (((a * 256) % 18446744073709551616 : Nat) : Int) := by
    simp only [IntKind.wrap, IntKind.bits, IntKind.signed]; simp
  have e2 : IntKind.u64.wrap (b : Int) = ((b : Nat) : Int) := by
    simp only [IntKind.wrap, IntKind.bits, IntKind.signed]; simp; omega
  rw [e1, e2, u64_or_nat _ _ (by omega) (by omega), nat_join 8 _ _ (by omega) (by omega)]
  omega
theorem foldl_lt (l : List UInt8) (a : Nat) : l.foldl (fun n b => 256 * n + b.toNat) a < (a + 1) * 256 ^ l.length := by
  induction l generalizing a with
  | nil => simp
  | cons b l ih =>
    have hb : b.toNat < 256 := b.toNat_lt
    refine Nat.lt_of_lt_of_le (ih _) ?_
    rw [List.length_cons, Nat.pow_succ, Nat.mul_comm (256 ^ l.length) 256, ← Nat.mul_assoc]
    exact Nat.mul_le_mul_right _ (by show 256 * a + b.toNat + 1 ≤ _; omega)
theorem val_lt (l : List UInt8) : val l < 256 ^ l.length := by
  have := foldl_lt l 0
  simpa [val] using this
theorem put_size (s : ByteArray) (n k : Int) : (put s n k).size = s.size + k.toNat := by
  show (s.data.toList ++ be (u64 n) k.toNat).toArray.size = _
  simp [be_length]
end Go.Proofs.YtbippdeahoehoaaGreat.Oct
