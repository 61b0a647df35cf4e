/- The symbolic evaluator: operations. No conditions. -/
import Derived.Test.YtapogkodlempkaaSym
namespace Go.Proofs.Ytapogkodlempkaa.Sym
set_option linter.unusedVariables false
set_option linter.unusedSimpArgs false
open Go.RowKit

/-! ### Trees of what may come -/
inductive T (α : Type) where
  | leaf (a : α)
  | ite (b : Bool) (t e : T α)
  | need (p : Prop) (t : T α)
  | stuck (n : Nat)
def T.ok {α : Type} (Q : α → Prop) : T α → Prop
  | .leaf a => Q a
  | .ite b t e => (b = true → t.ok Q) ∧ (b = false → e.ok Q)
  | .need p t => p ∧ t.ok Q
  | .stuck _ => False
def T.bind {α β : Type} : T α → (α → T β) → T β
  | .leaf a, f => f a
  | .ite b t e, f => .ite b (t.bind f) (e.bind f)
  | .need p t, f => .need p (t.bind f)
  | .stuck n, _ => .stuck n
theorem T.ok_bind {α β : Type} {Q : β → Prop} {f : α → T β} : ∀ {t : T α}, (t.bind f).ok Q → t.ok fun a => (f a).ok Q
  | .leaf _, h => h
  | .ite _ t e, h => ⟨fun hb => T.ok_bind (t := t) (h.1 hb), fun hb => T.ok_bind (t := e) (h.2 hb)⟩
  | .need _ t, h => ⟨h.1, T.ok_bind (t := t) h.2⟩
  | .stuck _, h => h
theorem T.ok_mono {α : Type} {Q Q' : α → Prop} (hq : ∀ a, Q a → Q' a) : ∀ {t : T α}, t.ok Q → t.ok Q'
  | .leaf _, h => hq _ h
  | .ite _ t e, h => ⟨fun hb => T.ok_mono hq (t := t) (h.1 hb), fun hb => T.ok_mono hq (t := e) (h.2 hb)⟩
  | .need _ t, h => ⟨h.1, T.ok_mono hq (t := t) h.2⟩
  | .stuck _, h => h
/-- every tree ends in one of its leaves -/
theorem T.ok_leaf {α : Type} {Q : α → Prop} : ∀ {t : T α}, t.ok Q → ∃ a, Q a
  | .leaf a, h => ⟨a, h⟩
  | .ite true t _, h => T.ok_leaf (t := t) (h.1 rfl)
  | .ite false _ e, h => T.ok_leaf (t := e) (h.2 rfl)
  | .need _ t, h => T.ok_leaf (t := t) h.2

/-- the point at which a tree ends -/
theorem T.ok_point0 {α : Type} {Q : α → Prop} : ∀ {t : T α}, t.ok Q → ∃ a, Q a ∧ ∀ Q' : α → Prop, Q' a → t.ok Q'
  | .leaf a, h => ⟨a, h, fun _ h => h⟩
  | .ite true t _, h => let ⟨a, h1, h2⟩ := T.ok_point0 (t := t) (h.1 rfl); ⟨a, h1, fun Q' hq => ⟨fun _ => h2 Q' hq, (fun e => by cases e)⟩⟩
  | .ite false _ e, h => let ⟨a, h1, h2⟩ := T.ok_point0 (t := e) (h.2 rfl); ⟨a, h1, fun Q' hq => ⟨(fun e => by cases e), fun _ => h2 Q' hq⟩⟩
  | .need p t, h => let ⟨a, h1, h2⟩ := T.ok_point0 (t := t) h.2; ⟨a, h1, fun Q' hq => ⟨h.1, h2 Q' hq⟩⟩
  | .stuck _, h => h.elim

/-! ### States -/
structure St where
  fr : List (Nat × Option SV)
  H : List Blk
def look : List (Nat × Option SV) → Nat → Option SV
  | [], _ => none
  | (u, s) :: l, t => bif Nat.beq u t then s else look l t
def St.val (st : St) : Operand → Option SV
  | .tmp t => look st.fr t
  | .const v => match v with
    | .bool true => some .tt
    | .bool false => some .ff
    | v => some (.c v)
  | .global g => some (.c (.pointer (some ⟨g, 0, none⟩)))
  | .func f => some (.c (.func (.func f) #[] #[]))
def St.put (st : St) (dst : Option Tmp) (s : SV) : St :=
  match dst with
  | some d => { st with fr := (d, some s) :: st.fr }
  | none => st
structure Slots (N : Nat) (fr : List (Nat × Option SV)) (B : List Value) (a : Act) : Prop where
  size : a.tmps.size = N
  defers : a.defers = []
  slot : ∀ t s, look fr t = some s → s.to B = some (a.tmps.getD t undef)
theorem Slots.mono {N : Nat} {fr : List (Nat × Option SV)} {B B2 : List Value} {a : Act} (h : Slots N fr B a) (hb : B <+: B2) : Slots N fr B2 a :=
  ⟨h.size, h.defers, fun t s e => SV.to_mono hb (h.slot t s e)⟩
def dstOk (N : Nat) : Option Tmp → Bool
  | some d => Nat.blt d N
  | none => true
theorem Slots.put {N : Nat} {st : St} {B : List Value} {a : Act} (h : Slots N st.fr B a) {dst : Option Tmp} (hd : dstOk N dst = true) {s : SV} {x : Value} (hs : s.to B = some x) : Slots N (st.put dst s).fr B (a.put dst x) := by
  cases dst with
  | none => exact h
  | some d =>
    have hd' : d < N := by simpa [dstOk, Nat.blt_eq] using hd
    refine ⟨by simpa [Act.put] using h.size, h.defers, fun t u e => ?_⟩
    simp only [St.put, look] at e
    by_cases hdt : d = t
    · subst hdt
      simp only [Nat.beq_eq_true_eq, cond_true, Option.some.injEq, Nat.beq_refl] at e
      subst e
      simp only [Act.put]
      rw [Array.getD_eq_getD_getElem?, Array.getElem?_setIfInBounds_self_of_lt (by rw [h.size]; exact hd')]
      exact hs
    · have hb : Nat.beq d t = false := by
        cases hb : Nat.beq d t
        · rfl
        · exact absurd (Nat.eq_of_beq_eq_true hb) hdt
      rw [hb, cond_false] at e
      rw [h.slot t u e]
      simp only [Act.put]
      rw [Array.getD_eq_getD_getElem?, Array.getD_eq_getD_getElem?, Array.getElem?_setIfInBounds_ne hdt]
theorem Slots.val {N : Nat} {st : St} {B : List Value} {a : Act} (h : Slots N st.fr B a) {x : Operand} {s : SV} (e : st.val x = some s) : s.to B = some (a.eval x) := by
  cases x with
  | tmp t => exact h.slot t s e
  | const v =>
    simp only [St.val] at e
    split at e <;> (simp only [Option.some.injEq] at e; subst e; rfl)
  | global g => simp only [St.val, Option.some.injEq] at e; subst e; rfl
  | func f => simp only [St.val, Option.some.injEq] at e; subst e; rfl
/-- what an operation sees: its operands, memory, how many letters there are -/
structure View where
  val : Operand → Option SV
  see : Nat → Option Blk
  len : Nat
structure Vw (V : View) (H : List Blk) (B : List Value) (a : Act) : Prop where
  vals : ∀ x s, V.val x = some s → s.to B = some (a.eval x)
  sees : ∀ k x, V.see k = some x → H[k]? = some x
theorem Vw.val {V : View} {H : List Blk} {B : List Value} {a : Act} (h : Vw V H B a) {x : Operand} {s : SV} (e : V.val x = some s) : s.to B = some (a.eval x) := h.vals x s e
theorem Vw.see {V : View} {H : List Blk} {B : List Value} {a : Act} (h : Vw V H B a) {k : Nat} {x : Blk} (e : V.see k = some x) : H[k]? = some x := h.sees k x e
/-- the slots that an operation reads -/
def opTmps (o : Oper) : List Nat := o.op.operands.toList.filterMap fun | .tmp t => some t | _ => none
def valR (l : List Nat) (fr : List (Nat × Option SV)) : Operand → Option SV
  | .tmp t => bif l.any (Nat.beq t) then look fr t else none
  | x => (St.mk fr []).val x
/-- all of memory is seen -/
def St.view (st : St) (o : Oper) : View := ⟨valR (opTmps o) st.fr, fun k => st.H[k]?, st.H.length⟩
/-- a part of memory is seen -/
def St.part (st : St) (h : Nat → Option Blk) (o : Oper) : View := ⟨valR (opTmps o) st.fr, h, 0⟩
theorem valR_ok {N : Nat} {st : St} {B : List Value} {a : Act} (h : Slots N st.fr B a) {l : List Nat} {x : Operand} {s : SV} (e : valR l st.fr x = some s) : s.to B = some (a.eval x) := by
  cases x with
  | tmp t =>
    simp only [valR] at e
    cases hb : l.any (Nat.beq t)
    · rw [hb] at e; cases e
    · rw [hb, cond_true] at e; exact h.slot t s e
  | const v => exact h.val (st := st) (x := .const v) e
  | global g => exact h.val (st := st) (x := .global g) e
  | func f => exact h.val (st := st) (x := .func f) e
theorem view_ok {N : Nat} {st : St} {B : List Value} {a : Act} (h : Slots N st.fr B a) (o : Oper) : Vw (st.view o) st.H B a := ⟨fun _ _ e => valR_ok h e, fun _ _ e => e⟩
theorem part_ok {N : Nat} {st : St} {B : List Value} {a : Act} (h : Slots N st.fr B a) {g : Nat → Option Blk} (hg : ∀ k x, g k = some x → st.H[k]? = some x) (o : Oper) : Vw (st.part g o) st.H B a := ⟨fun _ _ e => valR_ok h e, hg⟩
/-- what becomes of memory: letters that are written, and new ones -/
structure Eff where
  muts : List (Nat × Blk)
  news : List Blk
def Eff.run (e : Eff) (H : List Blk) : List Blk := match e.news with
  | [] => e.muts.foldl (fun H p => H.set p.1 p.2) H
  | l => (e.muts.foldl (fun H p => H.set p.1 p.2) H) ++ l
def noEff : Eff := ⟨[], []⟩
theorem noEff_run (H : List Blk) : noEff.run H = H := rfl
/-- what a branch tells of the slot that it asks -/
def St.knows (st : St) (c : Operand) (s : SV) : St := match c with
  | .tmp t => ⟨(t, some s) :: st.fr, st.H⟩
  | _ => st
theorem St.knows_H (st : St) (c : Operand) (s : SV) : (st.knows c s).H = st.H := by cases c <;> rfl
theorem Slots.knows {N : Nat} {st : St} {B : List Value} {a : Act} (h : Slots N st.fr B a) {c : Operand} {s : SV} {x : Bool} (hc : st.val c = some (.v (.bool x))) (hs : s.to B = some (.bool x)) : Slots N (st.knows c s).fr B a := by
  cases c with
  | tmp t =>
    refine ⟨h.size, h.defers, fun u s' e => ?_⟩
    simp only [St.knows, look] at e
    cases hb : Nat.beq t u
    · rw [hb, cond_false] at e; exact h.slot u s' e
    · rw [hb, cond_true, Option.some.injEq] at e
      have := Nat.eq_of_beq_eq_true hb
      subst this
      subst e
      have h1 := h.slot t _ hc
      rw [← h1, hs]; rfl
  | _ => exact h
end Go.Proofs.Ytapogkodlempkaa.Sym
