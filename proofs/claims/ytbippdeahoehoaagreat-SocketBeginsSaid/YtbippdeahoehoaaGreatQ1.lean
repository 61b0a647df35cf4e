/- Parts of a proof: Base, SymA, SymB. No conditions. -/
import Derived.Test.YtbippdeahoehoaaGreatRows
import Derived.Handy
import Derived.ProofKit
import Derived.ShutString
import Derived.ChangeOld
import Derived.WalkLawsBesides
import Derived.WalkSpells
import Derived.Lib.Hide
import Derived.Deep.Light
import Derived.PlainAid
import Derived.BigQuiet
import Derived.Deep.QuietTactic
import Derived.Deep.LoopGhost
import Derived.Deep.Quiet
import Derived.OrdersHeld
import Derived.Laws.StructEq
import Derived.Laws.Pointers
import Derived.Laws.Tables
import Derived.Maps.OwnSet
import Derived.Great.BuildSlice
import Derived.Laws.OwnMore
import Derived.Laws.MakeOwn
import Derived.ArgAppend
import Derived.Lib.AppendStr
set_option linter.unusedVariables false
set_option linter.unusedSimpArgs false
namespace Go.Proofs.YtbippdeahoehoaaGreat
open Go.RowKit
theorem ret_i {k : IntKind} {a b : Int} (h : a = b) : Ending.returned (.int k a) = Ending.returned (.int k b) := by rw [h]
theorem below_drewN {B : Nat} {a w : World} (h : Below B a w) (n : Nat) : Below B a (w.drewN n) := ⟨h.os, h.tape, h.output, h.size, h.block⟩
theorem size_drewN (w : World) (n : Nat) : (w.drewN n).heap.size = w.heap.size := rfl
theorem below_of {w w0 w1 : World} (h0 : Below w.heap.size w w0) (hb : Below w0.heap.size w0 w1) : Below w.heap.size w w1 := h0.trans (hb.mono h0.size)
theorem below_alloc {w w0 : World} (h0 : Below w.heap.size w w0) (o : Obj) : Below w.heap.size w (w0.alloc o) := h0.alloc h0.size o
def Own (W : World) (B : Nat) (cs : Array Value) : Prop := B < W.heap.size ∧ (∀ j, W.cell? ⟨B, j, none⟩ = cs[j]?) ∧ ∀ j, W.frozen? ⟨B, j, none⟩ = false
theorem own_new (w : World) (cs : Array Value) (t : TypeId) : Own (w.alloc (.cells cs t)) w.heap.size cs :=
  ⟨by simp, fun j => by simp, fun j => by simp [go_sem]⟩
theorem own_new' (w : World) (cs : Array Value) (t : TypeId) {B : Nat} (h : B = w.heap.size) : Own (w.alloc (.cells cs t)) B cs := by
  subst h; exact own_new w cs t
theorem frozen?_set (W : World) (p q : Addr) (v : Value) : (W.setCell p v).frozen? q = W.frozen? q := by
  simp
theorem own_set {W : World} {B : Nat} {cs : Array Value} (h : Own W B cs) (i : Nat) (hi : i < cs.size) (v : Value) : Own (W.setCell ⟨B, i, none⟩ v) B (cs.set i v) := by
  refine ⟨by have := h.1; simpa [World.size_setCell] using this, fun j => ?_, fun j => by rw [frozen?_set]; exact h.2.2 j⟩
  by_cases e : j = i
  · subst e
    rw [World.cell?_setCell_same (w := W) (a := ⟨B, j, none⟩) (v := v) (h := (h.2.1 j).trans (Array.getElem?_eq_getElem hi))]
    simp [hi]
  · rw [World.cell?_setCell_other (w := W) (a := ⟨B, i, none⟩) (b := ⟨B, j, none⟩) (v := v) (h := fun h => e (by injection h with _ h2; exact h2.symm)), h.2.1 j, Array.getElem?_set]
    simp [Ne.symm e]
theorem cell?_set_none {W : World} {a : Addr} {v : Value} (h : W.cell? a = none) : (W.setCell a v).cell? a = none := by
  rcases hg : W.heap[a.block]? with _ | o
  · simp [World.setCell, World.cell?, Array.getElem?_modify, hg]
  · cases o <;> simp [World.setCell, World.cell?, Array.getElem?_modify, hg] at h ⊢
    intro hs; simpa [hs] using h hs
theorem own_setT {W : World} {B : Nat} {cs : Array Value} {i : Nat} {v : Value} (h : Own W B cs) : Own (W.setCell ⟨B, i, none⟩ v) B (cs.setIfInBounds i v) := by
  by_cases hi : i < cs.size
  · rw [Array.setIfInBounds_def, dif_pos hi]; exact own_set h i hi v
  · rw [Array.setIfInBounds_def, dif_neg hi]
    refine ⟨by have := h.1; simpa [World.size_setCell] using this, fun j => ?_, fun j => by rw [frozen?_set]; exact h.2.2 j⟩
    by_cases e : j = i
    · subst e
      rw [cell?_set_none (by rw [h.2.1 j, Array.getElem?_eq_none (by omega)]), Array.getElem?_eq_none (by omega)]
    · rw [World.cell?_setCell_other (w := W) (a := ⟨B, i, none⟩) (b := ⟨B, j, none⟩) (v := v) (h := fun h => e (by injection h with _ h2; exact h2.symm)), h.2.1 j]
theorem lt_of_cell {W : World} {p : Addr} {u : Value} (h : W.cell? p = some u) : p.block < W.heap.size := by
  rcases Nat.lt_or_ge p.block W.heap.size with h' | h'
  · exact h'
  · simp [World.cell?, Array.getElem?_eq_none h'] at h
set_option maxRecDepth 100000 in
theorem list1 (l : List Value) (h : l.length = 1) : ∃ c0 : Value, l = [c0] := by
  match l, h with
  | [c0], _ => exact ⟨_, rfl⟩
end Go.Proofs.YtbippdeahoehoaaGreat
namespace Go.Proofs.YtbippdeahoehoaaGreat.Sym
open Go.RowKit
def pureVal {α : Type} (P : Program) : Sem α → Option α
  | .pure a => some a
  | .program k => pureVal P (k P)
  | .mark _ k => pureVal P k
  | _ => none
theorem pureVal_run {α : Type} {P : Program} : ∀ {s : Sem α} {a : α}, pureVal P s = some a → ∀ w, s.run P w = .ok a w
  | .pure _, _, h, w => by simp only [pureVal, Option.some.injEq] at h; subst h; rfl
  | .program k, _, h, w => by simp only [pureVal] at h; exact pureVal_run (s := k P) h w
  | .mark _ k, _, h, w => by simp only [pureVal] at h; exact pureVal_run (s := k) h w
  | .load .., _, h, _ => by simp [pureVal] at h
  | .store .., _, h, _ => by simp [pureVal] at h
  | .new .., _, h, _ => by simp [pureVal] at h
  | .shape .., _, h, _ => by simp [pureVal] at h
  | .freeze .., _, h, _ => by simp [pureVal] at h
  | .frozen .., _, h, _ => by simp [pureVal] at h
  | .getObj .., _, h, _ => by simp [pureVal] at h
  | .setObj .., _, h, _ => by simp [pureVal] at h
  | .choose .., _, h, _ => by simp [pureVal] at h
  | .sys .., _, h, _ => by simp [pureVal] at h
  | .halt _, _, h, _ => by simp [pureVal] at h
theorem run_bind_pure {α β : Type} {P : Program} : ∀ {s : Sem α} {a : α}, pureVal P s = some a → ∀ (f : α → Sem β) (w : World), (s >>= f).run P w = (f a).run P w
  | .pure _, _, h, f, w => by simp only [pureVal, Option.some.injEq] at h; subst h; rfl
  | .program k, _, h, f, w => by simp only [pureVal] at h; exact run_bind_pure (s := k P) h f w
  | .mark _ k, _, h, f, w => by simp only [pureVal] at h; exact run_bind_pure (s := k) h f w
  | .load .., _, h, _, _ => by simp [pureVal] at h
  | .store .., _, h, _, _ => by simp [pureVal] at h
  | .new .., _, h, _, _ => by simp [pureVal] at h
  | .shape .., _, h, _, _ => by simp [pureVal] at h
  | .freeze .., _, h, _, _ => by simp [pureVal] at h
  | .frozen .., _, h, _, _ => by simp [pureVal] at h
  | .getObj .., _, h, _, _ => by simp [pureVal] at h
  | .setObj .., _, h, _, _ => by simp [pureVal] at h
  | .choose .., _, h, _, _ => by simp [pureVal] at h
  | .sys .., _, h, _, _ => by simp [pureVal] at h
  | .halt _, _, h, _, _ => by simp [pureVal] at h
inductive SV where
  | v (x : Value)
  | c (x : Value)
  | tt
  | ff
  | ptr (k off : Nat)
  | ref (k : Nat)
  | elt (k sz i off : Nat)
  | pre (k n : Nat)
  | agg (l : List SV)
  | tup (l : List SV)
  | clo (fn : Fn) (first captured : List SV)
  | ifc (t : TypeId) (s : SV)
mutual
def SV.to (B : List Value) : SV → Option Value
  | .v x => some x
  | .c x => some x
  | .tt => some (.bool true)
  | .ff => some (.bool false)
  | .ptr k off => match B[k]? with
    | some (.pointer (some ⟨b, 0, none⟩)) => some (.pointer (some ⟨b, off, none⟩))
    | _ => none
  | .ref k => B[k]?
  | .elt k sz i off => match B[k]? with
    | some (.slice (some p) _ _) => some (.pointer (some (p.add (i * sz + off))))
    | _ => none
  | .pre k n => match B[k]? with
    | some (.slice (some p) _ cap) => some (.slice (some p) n cap)
    | _ => none
  | .agg l => (SV.tos B l).map fun vs => .agg vs.toArray
  | .tup l => (SV.tos B l).map fun vs => .tuple vs.toArray
  | .clo fn a b => match SV.tos B a, SV.tos B b with
    | some xs, some ys => some (.func fn xs.toArray ys.toArray)
    | _, _ => none
  | .ifc t s => (SV.to B s).map (Value.iface t)
def SV.tos (B : List Value) : List SV → Option (List Value)
  | [] => some []
  | s :: l => match SV.to B s, SV.tos B l with
    | some x, some xs => some (x :: xs)
    | _, _ => none
end
theorem getElem?_prefix {B B2 : List Value} (h : B <+: B2) {k : Nat} {x : Value} (hk : B[k]? = some x) : B2[k]? = some x := by
  obtain ⟨t, rfl⟩ := h
  rw [List.getElem?_append_left (List.getElem?_eq_some_iff.1 hk).1]; exact hk
mutual
theorem SV.to_mono {B B2 : List Value} (h : B <+: B2) : ∀ {s : SV} {x : Value}, s.to B = some x → s.to B2 = some x
  | .v _, _, e => e
  | .c _, _, e => e
  | .tt, _, e => e
  | .ff, _, e => e
  | .ptr k off, x, e => by
    simp only [SV.to] at e ⊢
    split at e
    · rename_i hb; rw [getElem?_prefix h hb]; exact e
    · cases e
  | .ref k, x, e => by simp only [SV.to] at e ⊢; exact getElem?_prefix h e
  | .elt k sz i off, x, e => by
    simp only [SV.to] at e ⊢
    split at e
    · rename_i hb; rw [getElem?_prefix h hb]; exact e
    · cases e
  | .pre k n, x, e => by
    simp only [SV.to] at e ⊢
    split at e
    · rename_i hb; rw [getElem?_prefix h hb]; exact e
    · cases e
  | .agg l, x, e => by
    simp only [SV.to, Option.map_eq_some_iff] at e ⊢
    obtain ⟨vs, h1, h2⟩ := e
    exact ⟨vs, SV.tos_mono h h1, h2⟩
  | .tup l, x, e => by
    simp only [SV.to, Option.map_eq_some_iff] at e ⊢
    obtain ⟨vs, h1, h2⟩ := e
    exact ⟨vs, SV.tos_mono h h1, h2⟩
  | .clo fn a b, x, e => by
    simp only [SV.to] at e ⊢
    split at e
    · rename_i xs ys h1 h2
      rw [SV.tos_mono h h1, SV.tos_mono h h2]; exact e
    · cases e
  | .ifc t s, x, e => by
    simp only [SV.to, Option.map_eq_some_iff] at e ⊢
    obtain ⟨v, h1, h2⟩ := e
    exact ⟨v, SV.to_mono h h1, h2⟩
theorem SV.tos_mono {B B2 : List Value} (h : B <+: B2) : ∀ {l : List SV} {xs : List Value}, SV.tos B l = some xs → SV.tos B2 l = some xs
  | [], _, e => e
  | s :: l, xs, e => by
    simp only [SV.tos] at e ⊢
    split at e
    · rename_i x ys h1 h2
      rw [SV.to_mono h h1, SV.tos_mono h h2]; exact e
    · cases e
end
theorem tos_plain (B : List Value) (xs : List Value) : SV.tos B (xs.map .v) = some xs := by
  induction xs with
  | nil => rfl
  | cons x xs ih => simp [SV.tos, SV.to, ih]
theorem tos_conc (B : List Value) (xs : List Value) : SV.tos B (xs.map .c) = some xs := by
  induction xs with
  | nil => rfl
  | cons x xs ih => simp [SV.tos, SV.to, ih]
theorem tos_length {B : List Value} : ∀ {l : List SV} {xs : List Value}, SV.tos B l = some xs → xs.length = l.length
  | [], _, e => by simp only [SV.tos, Option.some.injEq] at e; subst e; rfl
  | s :: l, xs, e => by
    simp only [SV.tos] at e
    split at e
    · rename_i x ys h1 h2
      simp only [Option.some.injEq] at e; subst e
      simp [tos_length h2]
    · cases e
theorem tos_get {B : List Value} : ∀ {l : List SV} {xs : List Value}, SV.tos B l = some xs → ∀ {i : Nat} {s : SV}, l[i]? = some s → ∃ x, xs[i]? = some x ∧ s.to B = some x
  | [], _, e, i, s, h => by simp at h
  | t :: l, xs, e, i, s, h => by
    simp only [SV.tos] at e
    split at e
    · rename_i x ys h1 h2
      simp only [Option.some.injEq] at e; subst e
      cases i with
      | zero => simp only [List.getElem?_cons_zero, Option.some.injEq] at h; subst h; exact ⟨x, by simp, h1⟩
      | succ i => simp only [List.getElem?_cons_succ] at h ⊢; exact tos_get h2 h
    · cases e
theorem tos_drop {B : List Value} : ∀ {l : List SV} {xs : List Value}, SV.tos B l = some xs → ∀ n, SV.tos B (l.drop n) = some (xs.drop n)
  | [], _, e, n => by simp only [SV.tos, Option.some.injEq] at e; subst e; simp [SV.tos]
  | t :: l, xs, e, n => by
    cases n with
    | zero => simpa using e
    | succ n =>
      simp only [SV.tos] at e
      split at e
      · rename_i x ys h1 h2
        simp only [Option.some.injEq] at e; subst e
        simpa using tos_drop h2 n
      · cases e
theorem tos_take {B : List Value} : ∀ {l : List SV} {xs : List Value}, SV.tos B l = some xs → ∀ n, SV.tos B (l.take n) = some (xs.take n)
  | [], _, e, n => by simp only [SV.tos, Option.some.injEq] at e; subst e; simp [SV.tos]
  | t :: l, xs, e, n => by
    cases n with
    | zero => rfl
    | succ n =>
      simp only [SV.tos] at e
      split at e
      · rename_i x ys h1 h2
        simp only [Option.some.injEq] at e; subst e
        simp [SV.tos, h1, tos_take h2 n]
      · cases e
theorem tos_append {B : List Value} : ∀ {l m : List SV} {xs ys : List Value}, SV.tos B l = some xs → SV.tos B m = some ys → SV.tos B (l ++ m) = some (xs ++ ys)
  | [], _, _, _, e, f => by simp only [SV.tos, Option.some.injEq] at e; subst e; simpa using f
  | t :: l, m, xs, ys, e, f => by
    simp only [SV.tos] at e
    split at e
    · rename_i x zs h1 h2
      simp only [Option.some.injEq] at e; subst e
      simp [SV.tos, h1, tos_append h2 f]
    · cases e
inductive XD where
  | smap (P : Program) (k e : TypeId) (D : DataW Unit)
  | bools (n : Nat) (f : Nat → Bool)
def boolCells (n : Nat) (f : Nat → Bool) : Array Value := ((List.range n).map fun j => Value.bool (f j)).toArray
inductive Blk where
  | own (cells : List SV)
  | arr (kind : IntKind) (n : Nat) (h : Nat → Int)
  | vec (o : Bool) (e : TypeId) (sz n : Nat) (xs : List Value)
  | lst (e : TypeId) (sz n : Nat) (cells : List SV)
  | que (e : TypeId) (sz n : Nat) (xp : List Value) (cells : List SV)
  | pm (K : TypeId) (kl : List Lit) (cells : List SV)
  | row (n sz : Nat) (f : Nat → Nat → Value)
  | ext (x : XD)
  | gone
def Blk.excl : Blk → Bool
  | .own _ | .arr .. | .vec .. | .lst .. | .que .. | .pm .. | .ext _ => true
  | _ => false
def blockOf : Value → Option Nat
  | .pointer (some a) => some a.block
  | .slice (some a) _ _ => some a.block
  | .map (some b) => some b
  | _ => none
def arrCells (kind : IntKind) (n : Nat) (h : Nat → Int) : Array Value := ((List.range n).map fun j => Value.int kind (h j)).toArray
def noGrow : TypeId := 1000000007
def OwnFix (w : World) (sz : Nat) (u : Value) (n : Nat) (xs : List Value) : Prop :=
  xs.length = n * sz ∧ ∃ g cap, u = .slice (some ⟨g, 0, none⟩) n cap ∧ g < w.heap.size ∧ n ≤ cap ∧ cap ≤ maxLen ∧ ∀ j, j < n * sz → w.cell? ⟨g, j, none⟩ = xs[j]? ∧ w.frozen? ⟨g, j, none⟩ = false
def VecSat (w : World) (e : TypeId) (sz : Nat) (u : Value) (n : Nat) (xs : List Value) : Prop := w.ownsRow 0 e sz u n xs ∨ (e = noGrow ∧ OwnFix w sz u n xs)
theorem VecSat.view {w : World} {e : TypeId} {sz : Nat} {u : Value} {n : Nat} {xs : List Value} (h : VecSat w e sz u n xs) :
    xs.length = n * sz ∧ ((u = .slice none 0 0 ∧ n = 0) ∨ ∃ g cap, u = .slice (some ⟨g, 0, none⟩) n cap ∧ g < w.heap.size ∧ n ≤ cap ∧ cap ≤ maxLen ∧ ∀ j, j < n * sz → w.cell? ⟨g, j, none⟩ = xs[j]? ∧ w.frozen? ⟨g, j, none⟩ = false) := by
  rcases h with h | ⟨-, h⟩
  · refine ⟨h.1, ?_⟩
    have h0 := h
    rcases h.2 with hn | ⟨g, cap, cur, rfl, -, hg, hnc, hcm, hsz, -⟩
    · exact .inl hn
    · exact .inr ⟨g, cap, rfl, (Array.getElem?_eq_some_iff.1 hg).1, hnc, hcm, fun j hj => ⟨h0.cellAt j hj, by unfold World.frozen?; rw [hg]; simp⟩⟩
  · exact ⟨h.1, .inr h.2⟩
theorem VecSat.row {w : World} {e : TypeId} {sz : Nat} {u : Value} {n : Nat} {xs : List Value} (h : VecSat w e sz u n xs) (he : e ≠ noGrow) : w.ownsRow 0 e sz u n xs := by
  rcases h with h | ⟨h, -⟩
  · exact h
  · exact absurd h he
def XSat (w : World) (u : Value) : XD → Prop
  | .smap P k e D => ∃ b, u = .map (some b) ∧ w.ownsMap P k (plainElem P e) b (Maps.size D) D
  | .bools n f => ∃ b, u = .pointer (some ⟨b, 0, none⟩) ∧ Own w b (boolCells n f)
theorem XSat.lt {w : World} {u : Value} {x : XD} (h : XSat w u x) {b : Nat} (hb : blockOf u = some b) : b < w.heap.size := by
  cases x with
  | smap P k e D =>
    obtain ⟨b', rfl, h⟩ := h
    simp only [blockOf, Option.some.injEq] at hb
    exact hb ▸ h.lt
  | bools n f =>
    obtain ⟨b', rfl, h⟩ := h
    simp only [blockOf, Option.some.injEq] at hb
    exact hb ▸ h.1
theorem own_of_heap {w w' : World} {b : Nat} {cs : Array Value} (h : Own w b cs) (hs : w.heap.size ≤ w'.heap.size) (hb : w'.heap[b]? = w.heap[b]?) : Own w' b cs :=
  ⟨Nat.lt_of_lt_of_le h.1 hs, fun j => (World.cell?_of_block (a := ⟨b, j, none⟩) hb).trans (h.2.1 j), fun j => (World.frozen?_of_block (a := ⟨b, j, none⟩) hb).trans (h.2.2 j)⟩
theorem XSat.kept {w w' : World} {u : Value} {x : XD} (h : XSat w u x) (hs : w.heap.size ≤ w'.heap.size) (hb : ∀ b, blockOf u = some b → b < w.heap.size → w'.heap[b]? = w.heap[b]?) : XSat w' u x := by
  cases x with
  | smap P k e D =>
    obtain ⟨b', rfl, h⟩ := h
    refine ⟨b', rfl, ?_⟩
    have hk := hb b' rfl h.lt
    unfold World.ownsMap at h ⊢
    rw [hk]
    exact h
  | bools n f =>
    obtain ⟨b', rfl, h⟩ := h
    exact ⟨b', rfl, own_of_heap h hs (hb b' rfl h.1)⟩
def pmD : List Lit → List Value → DataW Value
  | k :: ks, v :: vs => (pmD ks vs).put k (.held v)
  | _, _ => .map []
def R0 : Value → Option (DataW Value × List MemPlace) := fun v => some (.held v, [])
def PmSat (w : World) (K : TypeId) (u : Value) (ks : List Lit) (xs : List Value) : Prop := xs.length = ks.length ∧ ∃ b, u = .map (some b) ∧ w.ownsMap Tryz.prog K R0 b ks.length (pmD ks xs)
theorem PmSat.lt {w : World} {K : TypeId} {u : Value} {ks : List Lit} {xs : List Value} (h : PmSat w K u ks xs) {b : Nat} (hb : blockOf u = some b) : b < w.heap.size := by
  obtain ⟨-, b', rfl, h⟩ := h
  simp only [blockOf, Option.some.injEq] at hb
  exact hb ▸ h.lt
theorem PmSat.kept {w w' : World} {K : TypeId} {u : Value} {ks : List Lit} {xs : List Value} (h : PmSat w K u ks xs) (_ : w.heap.size ≤ w'.heap.size) (hb : ∀ b, blockOf u = some b → b < w.heap.size → w'.heap[b]? = w.heap[b]?) : PmSat w' K u ks xs := by
  obtain ⟨hl, b', rfl, h⟩ := h
  refine ⟨hl, b', rfl, ?_⟩
  have hk := hb b' rfl h.lt
  unfold World.ownsMap at h ⊢
  rw [hk]
  exact h
def BlkSat (B : List Value) (w : World) (u : Value) : Blk → Prop
  | .own cells => ∃ b vs, u = .pointer (some ⟨b, 0, none⟩) ∧ SV.tos B cells = some vs ∧ Own w b vs.toArray
  | .arr kind n h => ∃ b, u = .pointer (some ⟨b, 0, none⟩) ∧ Own w b (arrCells kind n h)
  | .vec _ e sz n xs => VecSat w e sz u n xs
  | .lst e sz n cells => ∃ xs, SV.tos B cells = some xs ∧ VecSat w e sz u n xs
  | .que e sz n xp cells => ∃ xs, SV.tos B cells = some xs ∧ VecSat w e sz u n (xp ++ xs)
  | .pm K kl cells => ∃ xs, SV.tos B cells = some xs ∧ PmSat w K u kl xs
  | .row n sz f => ∃ p cap, u = .slice p n cap ∧ n ≤ cap ∧ cap ≤ maxLen ∧ ∀ i j, i < n → j < sz → ∃ a, p = some a ∧ w.cell? (a.add (i * sz + j)) = some (f i j)
  | .ext x => XSat w u x
  | .gone => True
def ExBlk (H : List Blk) (B : List Value) (k b : Nat) : Prop := ∃ x u, H[k]? = some x ∧ x.excl = true ∧ B[k]? = some u ∧ blockOf u = some b
def RdBlk (H : List Blk) (B : List Value) (k b : Nat) : Prop := ∃ n sz f u, H[k]? = some (.row n sz f) ∧ 0 < n ∧ 0 < sz ∧ B[k]? = some u ∧ blockOf u = some b
structure Sat (H : List Blk) (B : List Value) (w : World) : Prop where
  len : B.length = H.length
  blk : ∀ (k : Nat) (x : Blk) (u : Value), H[k]? = some x → B[k]? = some u → BlkSat B w u x
  sep : ∀ k j b, ExBlk H B k b → ExBlk H B j b → k = j
  far : ∀ k j b, ExBlk H B k b → ¬ RdBlk H B j b
structure Keeps (bs : List Nat) (w w' : World) : Prop where
  os : w'.os = w.os
  tape : w'.tape = w.tape
  output : w'.output = w.output
  size : w.heap.size ≤ w'.heap.size
  block : ∀ k, k < w.heap.size → k ∉ bs → w'.heap[k]? = w.heap[k]?
theorem Keeps.refl (bs : List Nat) (w : World) : Keeps bs w w := ⟨rfl, rfl, rfl, Nat.le_refl _, fun _ _ _ => rfl⟩
theorem Keeps.below {a b : World} (h : Keeps [] a b) : Below a.heap.size a b := ⟨h.os, h.tape, h.output, h.size, fun k hk => h.block k hk (by simp)⟩
structure Mem (w0 : World) (bs : List Nat) (H : List Blk) (B : List Value) (w : World) : Prop where
  sat : Sat H B w
  keeps : Keeps bs w0 w
  good : ∀ k b, ExBlk H B k b → b ∈ bs ∨ w0.heap.size ≤ b
theorem cell_lt {w : World} {a : Addr} {x : Value} (h : w.cell? a = some x) : a.block < w.heap.size := lt_of_cell h
theorem addr_add_block (a : Addr) (n : Nat) : (a.add n).block = a.block := by unfold Addr.add; split <;> rfl
theorem ownsRow_block {w : World} {e : TypeId} {sz : Nat} {u : Value} {n : Nat} {xs : List Value} (h : w.ownsRow 0 e sz u n xs) : blockOf u = u.ownBlock := by
  rcases h.2 with ⟨rfl, _⟩ | ⟨g, cap, cur, rfl, _⟩ <;> rfl
theorem VecSat.lt {w : World} {e : TypeId} {sz : Nat} {u : Value} {n : Nat} {xs : List Value} (h : VecSat w e sz u n xs) {b : Nat} (hb : blockOf u = some b) : b < w.heap.size := by
  rcases h.view.2 with ⟨rfl, -⟩ | ⟨g, cap, rfl, hg, -⟩
  · cases hb
  · simp only [blockOf, Option.some.injEq] at hb; exact hb ▸ hg
theorem VecSat.kept {w w' : World} {e : TypeId} {sz : Nat} {u : Value} {n : Nat} {xs : List Value} (h : VecSat w e sz u n xs) (hs : w.heap.size ≤ w'.heap.size) (hb : ∀ b, blockOf u = some b → b < w.heap.size → w'.heap[b]? = w.heap[b]?) : VecSat w' e sz u n xs := by
  rcases h with h | ⟨he, h⟩
  · refine .inl ⟨h.1, ?_⟩
    rcases h.2 with hn | ⟨g, cap, cur, rfl, h0, hg, rest⟩
    · exact .inl hn
    · refine .inr ⟨g, cap, cur, rfl, h0, ?_, rest⟩
      rw [hb g rfl (Array.getElem?_eq_some_iff.1 hg).1]; exact hg
  · obtain ⟨hl, g, cap, rfl, hg, h1, h2, h3⟩ := h
    have hbg := hb g rfl hg
    exact .inr ⟨he, hl, g, cap, rfl, Nat.lt_of_lt_of_le hg hs, h1, h2, fun j hj => ⟨(World.cell?_of_block (a := ⟨g, j, none⟩) hbg).trans (h3 j hj).1, (World.frozen?_of_block (a := ⟨g, j, none⟩) hbg).trans (h3 j hj).2⟩⟩
theorem BlkSat.kept {B : List Value} {w w' : World} {u : Value} {x : Blk} (h : BlkSat B w u x) (hs : w.heap.size ≤ w'.heap.size) (hb : ∀ b, blockOf u = some b → b < w.heap.size → w'.heap[b]? = w.heap[b]?) : BlkSat B w' u x := by
  cases x with
  | own cells =>
    obtain ⟨b, vs, rfl, h2, h3⟩ := h
    exact ⟨b, vs, rfl, h2, own_of_heap h3 hs (hb b rfl h3.1)⟩
  | arr kind n f =>
    obtain ⟨b, rfl, h3⟩ := h
    exact ⟨b, rfl, own_of_heap h3 hs (hb b rfl h3.1)⟩
  | vec o e sz n xs => exact VecSat.kept h hs hb
  | lst e sz n cells =>
    obtain ⟨xs, h1, h2⟩ := h
    exact ⟨xs, h1, h2.kept hs hb⟩
  | que e sz n xp cells =>
    obtain ⟨xs, h1, h2⟩ := h
    exact ⟨xs, h1, h2.kept hs hb⟩
  | pm K kl cells =>
    obtain ⟨xs, h1, h2⟩ := h
    exact ⟨xs, h1, h2.kept hs hb⟩
  | row n sz f =>
    obtain ⟨p, cap, rfl, h1, h2, h3⟩ := h
    refine ⟨p, cap, rfl, h1, h2, fun i j hi hj => ?_⟩
    obtain ⟨a, rfl, hc⟩ := h3 i j hi hj
    have hlt := cell_lt hc
    rw [addr_add_block] at hlt
    exact ⟨a, rfl, (World.cell?_of_block (by rw [addr_add_block]; exact hb a.block rfl hlt)).trans hc⟩
  | ext x => exact XSat.kept h hs hb
  | gone => trivial
theorem BlkSat.mono {B B2 : List Value} (hB : B <+: B2) {w : World} {u : Value} {x : Blk} (h : BlkSat B w u x) : BlkSat B2 w u x := by
  cases x with
  | own cells =>
    obtain ⟨b, vs, h1, h2, h3⟩ := h
    exact ⟨b, vs, h1, SV.tos_mono hB h2, h3⟩
  | lst e sz n cells =>
    obtain ⟨xs, h1, h2⟩ := h
    exact ⟨xs, SV.tos_mono hB h1, h2⟩
  | que e sz n xp cells =>
    obtain ⟨xs, h1, h2⟩ := h
    exact ⟨xs, SV.tos_mono hB h1, h2⟩
  | pm K kl cells =>
    obtain ⟨xs, h1, h2⟩ := h
    exact ⟨xs, SV.tos_mono hB h1, h2⟩
  | _ => exact h
theorem Sat.getB {H : List Blk} {B : List Value} {w : World} (h : Sat H B w) {k : Nat} {x : Blk} (hk : H[k]? = some x) : ∃ u, B[k]? = some u :=
  ⟨_, List.getElem?_eq_getElem (by rw [h.len]; exact (List.getElem?_eq_some_iff.1 hk).1)⟩
theorem Sat.ex_lt {H : List Blk} {B : List Value} {w : World} (h : Sat H B w) {k b : Nat} (hb : ExBlk H B k b) : b < w.heap.size := by
  obtain ⟨x, u, h1, h2, h3, h4⟩ := hb
  have hs := h.blk k x u h1 h3
  cases x with
  | own cells =>
    obtain ⟨b', vs, rfl, g2, g3⟩ := hs
    simp only [blockOf, Option.some.injEq] at h4
    exact h4 ▸ g3.1
  | arr kind n f =>
    obtain ⟨b', rfl, g3⟩ := hs
    simp only [blockOf, Option.some.injEq] at h4
    exact h4 ▸ g3.1
  | vec o e sz n xs => exact VecSat.lt hs h4
  | lst e sz n cells =>
    obtain ⟨xs, -, hs⟩ := hs
    exact VecSat.lt hs h4
  | que e sz n xp cells =>
    obtain ⟨xs, -, hs⟩ := hs
    exact VecSat.lt hs h4
  | pm K kl cells =>
    obtain ⟨xs, -, hs⟩ := hs
    exact PmSat.lt hs h4
  | ext x => exact XSat.lt hs h4
  | row n sz f => cases h2
  | gone => cases h2
theorem Sat.rd_lt {H : List Blk} {B : List Value} {w : World} (h : Sat H B w) {k b : Nat} (hb : RdBlk H B k b) : b < w.heap.size := by
  obtain ⟨n, sz, f, u, h1, hn, hz, h3, h4⟩ := hb
  obtain ⟨p, cap, rfl, -, -, g⟩ := h.blk k _ u h1 h3
  obtain ⟨a, rfl, hc⟩ := g 0 0 hn hz
  simp only [blockOf, Option.some.injEq] at h4
  have := cell_lt hc
  rw [addr_add_block] at this
  exact h4 ▸ this
theorem Keeps.grown {w0 w w' : World} {bs : List Nat} (h : Keeps bs w0 w) {r : Option Nat} (hg : w.grownBy w' r) (hr : ∀ b, r = some b → b ∈ bs ∨ w0.heap.size ≤ b) : Keeps bs w0 w' :=
  ⟨hg.os.trans h.os, hg.tape.trans h.tape, hg.output.trans h.output, Nat.le_trans h.size hg.size, fun k hk hn => (hg.block k (Nat.lt_of_lt_of_le hk h.size) (fun e => by
    rcases hr k e.symm with g | g
    · exact hn g
    · omega)).trans (h.block k hk hn)⟩
theorem below_grown {w w' : World} (h : Below w.heap.size w w') : w.grownBy w' none := ⟨h.os, h.tape, h.output, h.size, fun k hk _ => h.block k hk⟩
theorem Mem.upd {w0 : World} {bs : List Nat} {H : List Blk} {B : List Value} {w w' : World} (h : Mem w0 bs H B w) {k : Nat} {x y : Blk} {u : Value} (hk : H[k]? = some x) (hx : x.excl = true) (hu : B[k]? = some u)
    (hg : w.grownBy w' (blockOf u)) (hy : y.excl = true) (hsat : BlkSat B w' u y) : Mem w0 bs (H.set k y) B w' := by
  have hkl : k < H.length := (List.getElem?_eq_some_iff.1 hk).1
  have old : ∀ j c, ExBlk (H.set k y) B j c → ExBlk H B j c := by
    rintro j c ⟨z, v, h1, h2, h3, h4⟩
    by_cases e : k = j
    · subst e; exact ⟨x, v, hk, hx, h3, h4⟩
    · rw [List.getElem?_set_ne e] at h1; exact ⟨z, v, h1, h2, h3, h4⟩
  have oldr : ∀ j c, RdBlk (H.set k y) B j c → RdBlk H B j c := by
    rintro j c ⟨n, sz, f, v, h1, h2⟩
    by_cases e : k = j
    · subst e; rw [List.getElem?_set_self hkl] at h1; simp only [Option.some.injEq] at h1; subst h1; cases hy
    · rw [List.getElem?_set_ne e] at h1; exact ⟨n, sz, f, v, h1, h2⟩
  refine ⟨⟨by simp [h.sat.len], fun j z v hj hv => ?_, fun j l c h1 h2 => h.sat.sep j l c (old _ _ h1) (old _ _ h2), fun j l c h1 h2 => h.sat.far j l c (old _ _ h1) (oldr _ _ h2)⟩, ?_, fun j c h1 => h.good j c (old _ _ h1)⟩
  · by_cases e : k = j
    · subst e
      rw [List.getElem?_set_self hkl] at hj
      simp only [Option.some.injEq] at hj
      subst hj
      rw [hu] at hv
      simp only [Option.some.injEq] at hv
      subst hv
      exact hsat
    · rw [List.getElem?_set_ne e] at hj
      have hs := h.sat.blk j z v hj hv
      cases hz : z.excl
      · cases z with
        | gone => trivial
        | row n sz f =>
          obtain ⟨p, cap, rfl, h1, h2, h3⟩ := hs
          refine ⟨p, cap, rfl, h1, h2, fun i l hi hl => ?_⟩
          obtain ⟨a, rfl, hc⟩ := h3 i l hi hl
          refine ⟨a, rfl, (World.cell?_of_block ?_).trans hc⟩
          refine hg.block _ (cell_lt hc) (fun e' => ?_)
          rw [addr_add_block] at e'
          exact h.sat.far k j a.block ⟨x, u, hk, hx, hu, e'.symm⟩ ⟨n, sz, f, _, hj, by omega, by omega, hv, rfl⟩
        | own _ => cases hz
        | arr _ _ _ => cases hz
        | vec _ _ _ _ _ => cases hz
        | lst _ _ _ _ => cases hz
        | que _ _ _ _ _ => cases hz
        | pm _ _ _ => cases hz
        | ext _ => cases hz
      · refine hs.kept hg.size fun b hb hlt => hg.block b hlt fun e' => ?_
        exact e (h.sat.sep k j b ⟨x, u, hk, hx, hu, e'.symm⟩ ⟨z, v, hj, hz, hv, hb⟩)
  · exact h.keeps.grown hg fun b hb => h.good k b ⟨x, u, hk, hx, hu, hb⟩
theorem getElem?_concat {α : Type} (l : List α) (x : α) (k : Nat) {y : α} (h : (l ++ [x])[k]? = some y) : l[k]? = some y ∨ (k = l.length ∧ y = x) := by
  rcases Nat.lt_trichotomy k l.length with hk | hk | hk
  · rw [List.getElem?_append_left hk] at h; exact .inl h
  · subst hk; simp only [List.getElem?_concat_length, Option.some.injEq] at h; exact .inr ⟨rfl, h.symm⟩
  · rw [List.getElem?_eq_none (by simp; omega)] at h; cases h
theorem ex_concat {H : List Blk} {B : List Value} (hl : B.length = H.length) {y : Blk} {u : Value} {k b : Nat} (h : ExBlk (H ++ [y]) (B ++ [u]) k b) : ExBlk H B k b ∨ (k = H.length ∧ y.excl = true ∧ blockOf u = some b) := by
  obtain ⟨x, v, h1, h2, h3, h4⟩ := h
  rcases getElem?_concat _ _ _ h1 with g | ⟨rfl, rfl⟩
  · have hk := (List.getElem?_eq_some_iff.1 g).1
    rw [List.getElem?_append_left (by omega)] at h3
    exact .inl ⟨x, v, g, h2, h3, h4⟩
  · rw [← hl, List.getElem?_concat_length, Option.some.injEq] at h3
    subst h3
    exact .inr ⟨rfl, h2, h4⟩
theorem rd_concat {H : List Blk} {B : List Value} (hl : B.length = H.length) {y : Blk} {u : Value} {k b : Nat} (h : RdBlk (H ++ [y]) (B ++ [u]) k b) : RdBlk H B k b ∨ (k = H.length ∧ y.excl = false ∧ blockOf u = some b) := by
  obtain ⟨n, sz, f, v, h1, h2, h5, h3, h4⟩ := h
  rcases getElem?_concat _ _ _ h1 with g | ⟨rfl, g⟩
  · have hk := (List.getElem?_eq_some_iff.1 g).1
    rw [List.getElem?_append_left (by omega)] at h3
    exact .inl ⟨n, sz, f, v, g, h2, h5, h3, h4⟩
  · rw [← hl, List.getElem?_concat_length, Option.some.injEq] at h3
    subst h3
    subst g
    exact .inr ⟨rfl, rfl, h4⟩
theorem Mem.add {w0 : World} {bs : List Nat} {H : List Blk} {B : List Value} {w w' : World} (h : Mem w0 bs H B w) (hg : w.grownBy w' none) {y : Blk} {u : Value} (hnew : ∀ b, blockOf u = some b → w.heap.size ≤ b)
    (hsat : BlkSat (B ++ [u]) w' u y) : Mem w0 bs (H ++ [y]) (B ++ [u]) w' := by
  have hpre : B <+: B ++ [u] := List.prefix_append _ _
  refine ⟨⟨by simp [h.sat.len], fun k x v hk hv => ?_, fun k j b hk hj => ?_, fun k j b hk hj => ?_⟩, h.keeps.grown hg (fun b hb => by cases hb), fun k b hk => ?_⟩
  · rcases getElem?_concat _ _ _ hk with g | ⟨rfl, rfl⟩
    · have hkl := (List.getElem?_eq_some_iff.1 g).1
      rw [List.getElem?_append_left (by rw [h.sat.len]; exact hkl)] at hv
      exact ((h.sat.blk k x v g hv).mono hpre).kept hg.size fun b _ hlt => hg.block b hlt (by simp)
    · rw [← h.sat.len, List.getElem?_concat_length, Option.some.injEq] at hv
      subst hv
      exact hsat
  · rcases ex_concat h.sat.len hk with g | ⟨rfl, _, g⟩ <;> rcases ex_concat h.sat.len hj with g' | ⟨rfl, _, g'⟩
    · exact h.sat.sep k j b g g'
    · have := h.sat.ex_lt g; have := hnew b g'; omega
    · have := h.sat.ex_lt g'; have := hnew b g; omega
    · rfl
  · rcases ex_concat h.sat.len hk with g | ⟨rfl, hy, g⟩ <;> rcases rd_concat h.sat.len hj with g' | ⟨rfl, hy', g'⟩
    · exact h.sat.far k j b g g'
    · have := h.sat.ex_lt g; have := hnew b g'; omega
    · have := h.sat.rd_lt g'; have := hnew b g; omega
    · rw [hy] at hy'; cases hy'
  · rcases ex_concat h.sat.len hk with g | ⟨rfl, _, g⟩
    · exact h.good k b g
    · exact .inr (by have := hnew b g; have := h.keeps.size; omega)
theorem Mem.drop {w0 : World} {bs : List Nat} {H : List Blk} {B : List Value} {w : World} (h : Mem w0 bs H B w) (k : Nat) : Mem w0 bs (H.set k .gone) B w := by
  have old : ∀ j c, ExBlk (H.set k .gone) B j c → ExBlk H B j c := by
    rintro j c ⟨z, v, h1, h2, h3, h4⟩
    by_cases e : k = j
    · subst e
      have hl := (List.getElem?_eq_some_iff.1 h1).1
      rw [List.getElem?_set_self (by simpa using hl)] at h1
      simp only [Option.some.injEq] at h1
      subst h1; cases h2
    · rw [List.getElem?_set_ne e] at h1; exact ⟨z, v, h1, h2, h3, h4⟩
  have oldr : ∀ j c, RdBlk (H.set k .gone) B j c → RdBlk H B j c := by
    rintro j c ⟨n, sz, f, v, h1, h2⟩
    by_cases e : k = j
    · subst e
      have hl := (List.getElem?_eq_some_iff.1 h1).1
      rw [List.getElem?_set_self (by simpa using hl)] at h1
      cases h1
    · rw [List.getElem?_set_ne e] at h1; exact ⟨n, sz, f, v, h1, h2⟩
  refine ⟨⟨by simp [h.sat.len], fun j z v hj hv => ?_, fun j l c h1 h2 => h.sat.sep j l c (old _ _ h1) (old _ _ h2), fun j l c h1 h2 => h.sat.far j l c (old _ _ h1) (oldr _ _ h2)⟩, h.keeps, fun j c h1 => h.good j c (old _ _ h1)⟩
  by_cases e : k = j
  · subst e
    have hl := (List.getElem?_eq_some_iff.1 hj).1
    rw [List.getElem?_set_self (by simpa using hl)] at hj
    simp only [Option.some.injEq] at hj
    subst hj; trivial
  · rw [List.getElem?_set_ne e] at hj; exact h.sat.blk j z v hj hv
theorem Mem.pass {w0 : World} {bs : List Nat} {H : List Blk} {B : List Value} {w w' : World} (h : Mem w0 bs H B w) {k : Nat} {x y : Blk} {u v : Value} (hk : H[k]? = some x) (hx : x.excl = true) (hu : B[k]? = some u)
    (hg : w.grownBy w' (blockOf u)) (hb : ∀ b, blockOf v = some b → blockOf u = some b ∨ w.heap.size ≤ b) (hsat : BlkSat (B ++ [v]) w' v y) (hy : y.excl = true) : Mem w0 bs (H.set k .gone ++ [y]) (B ++ [v]) w' := by
  have hd := h.drop k
  have hkl : k < H.length := (List.getElem?_eq_some_iff.1 hk).1
  have hpre : B <+: B ++ [v] := List.prefix_append _ _
  have hne : ∀ j b, ExBlk (H.set k .gone) B j b → blockOf u ≠ some b := by
    rintro j b ⟨z, s, h1, h2, h3, h4⟩ e
    by_cases ej : k = j
    · subst ej; rw [List.getElem?_set_self hkl] at h1; simp only [Option.some.injEq] at h1; subst h1; cases h2
    · rw [List.getElem?_set_ne ej] at h1
      exact ej (h.sat.sep k j b ⟨x, u, hk, hx, hu, e⟩ ⟨z, s, h1, h2, h3, h4⟩)
  have hner : ∀ j b, RdBlk (H.set k .gone) B j b → blockOf u ≠ some b := by
    rintro j b ⟨n, sz, f, s, h1, h2, h5, h3, h4⟩ e
    by_cases ej : k = j
    · subst ej; rw [List.getElem?_set_self hkl] at h1; cases h1
    · rw [List.getElem?_set_ne ej] at h1
      exact h.sat.far k j b ⟨x, u, hk, hx, hu, e⟩ ⟨n, sz, f, s, h1, h2, h5, h3, h4⟩
  have hvb : ∀ b, blockOf v = some b → (∀ j, ¬ ExBlk (H.set k .gone) B j b) ∧ (∀ j, ¬ RdBlk (H.set k .gone) B j b) := by
    intro b hbv
    rcases hb b hbv with g | g
    · exact ⟨fun j hj => hne j b hj g, fun j hj => hner j b hj g⟩
    · exact ⟨fun j hj => by have := hd.sat.ex_lt hj; omega, fun j hj => by have := hd.sat.rd_lt hj; omega⟩
  have hgood := fun b hb => h.good k b ⟨x, u, hk, hx, hu, hb⟩
  refine ⟨⟨by simp [h.sat.len], fun j z s hj hs => ?_, fun j l b hj hl => ?_, fun j l b hj hl => ?_⟩, h.keeps.grown hg hgood, fun j b hj => ?_⟩
  · rcases getElem?_concat _ _ _ hj with g | ⟨rfl, rfl⟩
    · have hjl := (List.getElem?_eq_some_iff.1 g).1
      rw [List.getElem?_append_left (by rw [h.sat.len]; simpa using hjl)] at hs
      have hsj := hd.sat.blk j z s g hs
      cases hz : z.excl
      · cases z with
        | gone => trivial
        | row n sz f =>
          obtain ⟨p, cap, rfl, h1, h2, h3⟩ := hsj
          refine ⟨p, cap, rfl, h1, h2, fun i l hi hl => ?_⟩
          obtain ⟨a, rfl, hc⟩ := h3 i l hi hl
          refine ⟨a, rfl, (World.cell?_of_block ?_).trans hc⟩
          refine hg.block _ (cell_lt hc) (fun e' => ?_)
          rw [addr_add_block] at e'
          exact hner j a.block ⟨n, sz, f, _, g, by omega, by omega, hs, rfl⟩ e'.symm
        | own _ => cases hz
        | arr _ _ _ => cases hz
        | vec _ _ _ _ _ => cases hz
        | lst _ _ _ _ => cases hz
        | que _ _ _ _ _ => cases hz
        | pm _ _ _ => cases hz
        | ext _ => cases hz
      · exact (hsj.mono hpre).kept hg.size fun b hb hlt => hg.block b hlt fun e' => hne j b ⟨z, s, g, hz, hs, hb⟩ e'.symm
    · rw [show (H.set k .gone).length = B.length by simp [h.sat.len], List.getElem?_concat_length, Option.some.injEq] at hs
      subst hs
      exact hsat
  · rcases ex_concat hd.sat.len hj with g | ⟨rfl, _, g⟩ <;> rcases ex_concat hd.sat.len hl with g' | ⟨rfl, _, g'⟩
    · exact hd.sat.sep j l b g g'
    · exact absurd g ((hvb b g').1 j)
    · exact absurd g' ((hvb b g).1 l)
    · rfl
  · rcases ex_concat hd.sat.len hj with g | ⟨rfl, hy1, g⟩ <;> rcases rd_concat hd.sat.len hl with g' | ⟨rfl, hy', g'⟩
    · exact hd.sat.far j l b g g'
    · rw [hy] at hy'; cases hy'
    · exact (hvb b g).2 l g'
    · rw [hy] at hy'; cases hy'
  · rcases ex_concat hd.sat.len hj with g | ⟨rfl, _, g⟩
    · exact hd.good j b g
    · rcases hb b g with g' | g'
      · exact hgood b g'
      · exact .inr (by have := h.keeps.size; omega)
theorem Sat.below {H : List Blk} {B : List Value} {w w' : World} (h : Sat H B w) (hb : Below w.heap.size w w') : Sat H B w' :=
  ⟨h.len, fun k x u hk hu => (h.blk k x u hk hu).kept hb.size fun b _ hlt => hb.block b hlt, h.sep, h.far⟩
theorem Mem.below {w0 : World} {bs : List Nat} {H : List Blk} {B : List Value} {w w' : World} (h : Mem w0 bs H B w) (hb : Below w.heap.size w w') : Mem w0 bs H B w' :=
  ⟨h.sat.below hb, h.keeps.grown (below_grown hb) (fun b hb => by cases hb), h.good⟩
theorem Mem.drew {w0 : World} {bs : List Nat} {H : List Blk} {B : List Value} {w : World} (h : Mem w0 bs H B w) : Mem w0 bs H B { w with drawn := w.drawn + 1 } :=
  h.below ⟨rfl, rfl, rfl, Nat.le_refl _, fun _ _ => rfl⟩
theorem Mem.alloc {w0 : World} {bs : List Nat} {H : List Blk} {B : List Value} {w : World} (h : Mem w0 bs H B w) {cells : List SV} {vs : List Value} (hc : SV.tos B cells = some vs) (t : TypeId) :
    Mem w0 bs (H ++ [.own cells]) (B ++ [.pointer (some ⟨w.heap.size, 0, none⟩)]) (w.alloc (.cells vs.toArray t)) :=
  h.add (World.grownBy_alloc w _ none) (fun b hb => by simp only [blockOf, Option.some.injEq] at hb; omega) ⟨w.heap.size, vs, rfl, SV.tos_mono (List.prefix_append _ _) hc, own_new w _ t⟩
theorem Mem.own_at {w0 : World} {bs : List Nat} {H : List Blk} {B : List Value} {w : World} (h : Mem w0 bs H B w) {k : Nat} {cells : List SV} (hk : H[k]? = some (.own cells)) :
    ∃ b vs, B[k]? = some (.pointer (some ⟨b, 0, none⟩)) ∧ SV.tos B cells = some vs ∧ Own w b vs.toArray := by
  obtain ⟨u, hu⟩ := h.sat.getB hk
  obtain ⟨b, vs, rfl, h2⟩ := h.sat.blk k _ u hk hu
  exact ⟨b, vs, hu, h2⟩
theorem Mem.row_at {w0 : World} {bs : List Nat} {H : List Blk} {B : List Value} {w : World} (h : Mem w0 bs H B w) {k n sz : Nat} {f : Nat → Nat → Value} (hk : H[k]? = some (.row n sz f)) :
    ∃ p cap, B[k]? = some (.slice p n cap) ∧ n ≤ cap ∧ cap ≤ maxLen ∧ ∀ i j, i < n → j < sz → ∃ a, p = some a ∧ w.cell? (a.add (i * sz + j)) = some (f i j) := by
  obtain ⟨u, hu⟩ := h.sat.getB hk
  obtain ⟨p, cap, rfl, h2⟩ := h.sat.blk k _ u hk hu
  exact ⟨p, cap, hu, h2⟩
theorem own_eq {w : World} {b : Nat} {xs ys : Array Value} (h : Own w b xs) (e : xs = ys) : Own w b ys := e ▸ h
theorem grown_setCell (w : World) (b i : Nat) (x : Value) : w.grownBy (w.setCell ⟨b, i, none⟩ x) (some b) :=
  ⟨rfl, rfl, rfl, by simp, fun k _ hne => Below.heap_setCell _ _ _ _ (fun e => hne (by rw [e]))⟩
theorem Mem.set1 {w0 : World} {bs : List Nat} {H : List Blk} {B : List Value} {w : World} (h : Mem w0 bs H B w) {k : Nat} {cells : List SV} (hk : H[k]? = some (.own cells)) {b : Nat} (hb : B[k]? = some (.pointer (some ⟨b, 0, none⟩)))
    {i : Nat} (hi : i < cells.length) {s : SV} {x : Value} (hs : s.to B = some x) : Mem w0 bs (H.set k (.own (cells.set i s))) B (w.setCell ⟨b, i, none⟩ x) := by
  refine h.upd hk rfl hb (grown_setCell w b i x) rfl ?_
  obtain ⟨b', vs, g1, g2, g3⟩ := h.own_at hk
  rw [hb] at g1
  simp only [Option.some.injEq, Value.pointer.injEq, Addr.mk.injEq] at g1
  obtain ⟨rfl, -⟩ := g1
  refine ⟨b, vs.set i x, rfl, ?_, own_eq (own_set g3 i (by simpa [tos_length g2] using hi) x) (by simp)⟩
  have : ∀ (l : List SV) (xs : List Value) (i : Nat), SV.tos B l = some xs → SV.tos B (l.set i s) = some (xs.set i x) := by
    intro l
    induction l with
    | nil => intro xs i e; simp only [SV.tos, Option.some.injEq] at e; subst e; rfl
    | cons t l ih =>
      intro xs i e
      simp only [SV.tos] at e
      split at e
      · rename_i y ys h1 h2
        simp only [Option.some.injEq] at e; subst e
        cases i with
        | zero => simp [SV.tos, hs, h2]
        | succ i => simp [SV.tos, h1, ih ys i h2]
      · cases e
  exact this _ _ _ g2
end Go.Proofs.YtbippdeahoehoaaGreat.Sym
namespace Go.Proofs.YtbippdeahoehoaaGreat.Sym
open Go.RowKit
class Dec (p : Prop) where
  b : Bool
  ok : b = true → p
instance (priority := low) decNone (p : Prop) : Dec p := ⟨false, fun h => by cases h⟩
instance decOf (p : Prop) [d : Decidable p] : Dec p := ⟨decide p, of_decide_eq_true⟩
inductive T (α : Type) where
  | leaf (a : α)
  | ite (b : Bool) (t e : T α)
  | need (p : Prop) (t : T α)
  | chk (p : Prop) [d : Dec p] (t : T α)
  | stuck (n : Nat)
def T.run {α : Type} : T α → Option α
  | .leaf a => some a
  | .ite b t e => bif b then t.run else e.run
  | .need _ _ => none
  | @T.chk _ _ d t => bif d.b then t.run else none
  | .stuck _ => none
def T.ok {α : Type} (Q : α → Prop) : T α → Prop
  | .leaf a => Q a
  | .ite b t e => (b = true → t.ok Q) ∧ (b = false → e.ok Q)
  | .need p t => p ∧ t.ok Q
  | @T.chk _ p d t => p ∧ t.ok Q
  | .stuck _ => False
def T.bind {α β : Type} : T α → (α → T β) → T β
  | .leaf a, f => f a
  | .ite b t e, f => .ite b (t.bind f) (e.bind f)
  | .need p t, f => .need p (t.bind f)
  | @T.chk _ p d t, f => @T.chk _ p d (t.bind f)
  | .stuck n, _ => .stuck n
theorem T.ok_bind {α β : Type} {Q : β → Prop} {f : α → T β} : ∀ {t : T α}, (t.bind f).ok Q → t.ok fun a => (f a).ok Q
  | .leaf _, h => h
  | .ite _ t e, h => ⟨fun hb => T.ok_bind (t := t) (h.1 hb), fun hb => T.ok_bind (t := e) (h.2 hb)⟩
  | .need _ t, h => ⟨h.1, T.ok_bind (t := t) h.2⟩
  | @T.chk _ _ d t, h => ⟨h.1, T.ok_bind (t := t) h.2⟩
  | .stuck _, h => h
theorem T.ok_mono {α : Type} {Q Q' : α → Prop} (hq : ∀ a, Q a → Q' a) : ∀ {t : T α}, t.ok Q → t.ok Q'
  | .leaf _, h => hq _ h
  | .ite _ t e, h => ⟨fun hb => T.ok_mono hq (t := t) (h.1 hb), fun hb => T.ok_mono hq (t := e) (h.2 hb)⟩
  | .need _ t, h => ⟨h.1, T.ok_mono hq (t := t) h.2⟩
  | @T.chk _ _ d t, h => ⟨h.1, T.ok_mono hq (t := t) h.2⟩
  | .stuck _, h => h
theorem T.ok_leaf {α : Type} {Q : α → Prop} : ∀ {t : T α}, t.ok Q → ∃ a, Q a
  | .leaf a, h => ⟨a, h⟩
  | .ite true t _, h => T.ok_leaf (t := t) (h.1 rfl)
  | .ite false _ e, h => T.ok_leaf (t := e) (h.2 rfl)
  | .need _ t, h => T.ok_leaf (t := t) h.2
  | @T.chk _ _ d t, h => T.ok_leaf (t := t) h.2
theorem T.ok_point0 {α : Type} {Q : α → Prop} : ∀ {t : T α}, t.ok Q → ∃ a, Q a ∧ ∀ Q' : α → Prop, Q' a → t.ok Q'
  | .leaf a, h => ⟨a, h, fun _ h => h⟩
  | .ite true t _, h => let ⟨a, h1, h2⟩ := T.ok_point0 (t := t) (h.1 rfl); ⟨a, h1, fun Q' hq => ⟨fun _ => h2 Q' hq, (fun e => by cases e)⟩⟩
  | .ite false _ e, h => let ⟨a, h1, h2⟩ := T.ok_point0 (t := e) (h.2 rfl); ⟨a, h1, fun Q' hq => ⟨(fun e => by cases e), fun _ => h2 Q' hq⟩⟩
  | .need p t, h => let ⟨a, h1, h2⟩ := T.ok_point0 (t := t) h.2; ⟨a, h1, fun Q' hq => ⟨h.1, h2 Q' hq⟩⟩
  | @T.chk _ p d t, h => let ⟨a, h1, h2⟩ := T.ok_point0 (t := t) h.2; ⟨a, h1, fun Q' hq => ⟨h.1, h2 Q' hq⟩⟩
  | .stuck _, h => h.elim
structure St where
  fr : List (Nat × Option SV)
  H : List Blk
def look : List (Nat × Option SV) → Nat → Option SV
  | [], _ => none
  | (u, s) :: l, t => bif Nat.beq u t then s else look l t
def St.val (st : St) : Operand → Option SV
  | .tmp t => look st.fr t
  | .const v => match v with
    | .bool true => some .tt
    | .bool false => some .ff
    | v => some (.c v)
  | .global g => some (.c (.pointer (some ⟨g, 0, none⟩)))
  | .func f => some (.c (.func (.func f) #[] #[]))
def litV : Value → SV
  | .bool true => .tt
  | .bool false => .ff
  | .int k (.ofNat n) => (match n with | 0 => .c (.int k (.ofNat 0)) | m + 1 => .c (.int k (.ofNat (m + 1))))
  | x => .c x
def SV.mark : SV → SV
  | .v x => litV x
  | .c x => litV x
  | s => s
theorem litV_to (x : Value) (B : List Value) : (litV x).to B = some x := by
  unfold litV
  split
  · rfl
  · rfl
  · split <;> rfl
  · rfl
theorem mark_to (s : SV) (B : List Value) : s.mark.to B = s.to B := by
  cases s <;> first | exact litV_to _ B | rfl
def St.put (st : St) (dst : Option Tmp) (s : SV) : St :=
  match dst with
  | some d => { st with fr := (d, some s) :: st.fr }
  | none => st
structure SlotsD (D : List Deferred) (N : Nat) (fr : List (Nat × Option SV)) (B : List Value) (a : Act) : Prop where
  size : a.tmps.size = N
  defers : a.defers = D
  slot : ∀ t s, look fr t = some s → s.to B = some (a.tmps.getD t undef)
abbrev Slots := SlotsD []
theorem SlotsD.mono {D : List Deferred} {N : Nat} {fr : List (Nat × Option SV)} {B B2 : List Value} {a : Act} (h : SlotsD D N fr B a) (hb : B <+: B2) : SlotsD D N fr B2 a :=
  ⟨h.size, h.defers, fun t s e => SV.to_mono hb (h.slot t s e)⟩
def dstOk (N : Nat) : Option Tmp → Bool
  | some d => Nat.blt d N
  | none => true
theorem SlotsD.put {D : List Deferred} {N : Nat} {st : St} {B : List Value} {a : Act} (h : SlotsD D N st.fr B a) {dst : Option Tmp} (hd : dstOk N dst = true) {s : SV} {x : Value} (hs : s.to B = some x) : SlotsD D N (st.put dst s).fr B (a.put dst x) := by
  cases dst with
  | none => exact h
  | some d =>
    have hd' : d < N := by simpa [dstOk, Nat.blt_eq] using hd
    refine ⟨by simpa [Act.put] using h.size, h.defers, fun t u e => ?_⟩
    simp only [St.put, look] at e
    by_cases hdt : d = t
    · subst hdt
      simp only [Nat.beq_eq_true_eq, cond_true, Option.some.injEq, Nat.beq_refl] at e
      subst e
      simp only [Act.put]
      rw [Array.getD_eq_getD_getElem?, Array.getElem?_setIfInBounds_self_of_lt (by rw [h.size]; exact hd')]
      exact hs
    · have hb : Nat.beq d t = false := by
        cases hb : Nat.beq d t
        · rfl
        · exact absurd (Nat.eq_of_beq_eq_true hb) hdt
      rw [hb, cond_false] at e
      rw [h.slot t u e]
      simp only [Act.put]
      rw [Array.getD_eq_getD_getElem?, Array.getD_eq_getD_getElem?, Array.getElem?_setIfInBounds_ne hdt]
theorem SlotsD.val {D : List Deferred} {N : Nat} {st : St} {B : List Value} {a : Act} (h : SlotsD D N st.fr B a) {x : Operand} {s : SV} (e : st.val x = some s) : s.to B = some (a.eval x) := by
  cases x with
  | tmp t => exact h.slot t s e
  | const v =>
    simp only [St.val] at e
    split at e <;> (simp only [Option.some.injEq] at e; subst e; rfl)
  | global g => simp only [St.val, Option.some.injEq] at e; subst e; rfl
  | func f => simp only [St.val, Option.some.injEq] at e; subst e; rfl
structure View where
  val : Operand → Option SV
  see : Nat → Option Blk
  len : Nat
structure Vw (V : View) (H : List Blk) (B : List Value) (a : Act) : Prop where
  vals : ∀ x s, V.val x = some s → s.to B = some (a.eval x)
  sees : ∀ k x, V.see k = some x → H[k]? = some x
theorem Vw.val {V : View} {H : List Blk} {B : List Value} {a : Act} (h : Vw V H B a) {x : Operand} {s : SV} (e : V.val x = some s) : s.to B = some (a.eval x) := h.vals x s e
theorem Vw.see {V : View} {H : List Blk} {B : List Value} {a : Act} (h : Vw V H B a) {k : Nat} {x : Blk} (e : V.see k = some x) : H[k]? = some x := h.sees k x e
def opTmps (o : Oper) : List Nat := o.op.operands.toList.filterMap fun | .tmp t => some t | _ => none
def valR (l : List Nat) (fr : List (Nat × Option SV)) : Operand → Option SV
  | .tmp t => bif l.any (Nat.beq t) then look fr t else none
  | x => (St.mk fr []).val x
def St.view (st : St) (o : Oper) : View := ⟨valR (opTmps o) st.fr, fun k => st.H[k]?, st.H.length⟩
def St.part (st : St) (h : Nat → Option Blk) (o : Oper) : View := ⟨valR (opTmps o) st.fr, h, 0⟩
theorem valR_ok {D : List Deferred} {N : Nat} {st : St} {B : List Value} {a : Act} (h : SlotsD D N st.fr B a) {l : List Nat} {x : Operand} {s : SV} (e : valR l st.fr x = some s) : s.to B = some (a.eval x) := by
  cases x with
  | tmp t =>
    simp only [valR] at e
    cases hb : l.any (Nat.beq t)
    · rw [hb] at e; cases e
    · rw [hb, cond_true] at e; exact h.slot t s e
  | const v => exact h.val (st := st) (x := .const v) e
  | global g => exact h.val (st := st) (x := .global g) e
  | func f => exact h.val (st := st) (x := .func f) e
theorem view_ok {D : List Deferred} {N : Nat} {st : St} {B : List Value} {a : Act} (h : SlotsD D N st.fr B a) (o : Oper) : Vw (st.view o) st.H B a := ⟨fun _ _ e => valR_ok h e, fun _ _ e => e⟩
theorem part_ok {D : List Deferred} {N : Nat} {st : St} {B : List Value} {a : Act} (h : SlotsD D N st.fr B a) {g : Nat → Option Blk} (hg : ∀ k x, g k = some x → st.H[k]? = some x) (o : Oper) : Vw (st.part g o) st.H B a := ⟨fun _ _ e => valR_ok h e, hg⟩
structure Eff where
  muts : List (Nat × Blk)
  news : List Blk
def Eff.run (e : Eff) (H : List Blk) : List Blk := match e.news with
  | [] => e.muts.foldl (fun H p => H.set p.1 p.2) H
  | l => (e.muts.foldl (fun H p => H.set p.1 p.2) H) ++ l
def noEff : Eff := ⟨[], []⟩
theorem noEff_run (H : List Blk) : noEff.run H = H := rfl
def St.knows (st : St) (c : Operand) (s : SV) : St := match c with
  | .tmp t => ⟨(t, some s) :: st.fr, st.H⟩
  | _ => st
theorem St.knows_H (st : St) (c : Operand) (s : SV) : (st.knows c s).H = st.H := by cases c <;> rfl
theorem SlotsD.knows {D : List Deferred} {N : Nat} {st : St} {B : List Value} {a : Act} (h : SlotsD D N st.fr B a) {c : Operand} {s : SV} {x : Bool} (hc : st.val c = some (.v (.bool x))) (hs : s.to B = some (.bool x)) : SlotsD D N (st.knows c s).fr B a := by
  cases c with
  | tmp t =>
    refine ⟨h.size, h.defers, fun u s' e => ?_⟩
    simp only [St.knows, look] at e
    cases hb : Nat.beq t u
    · rw [hb, cond_false] at e; exact h.slot u s' e
    · rw [hb, cond_true, Option.some.injEq] at e
      have := Nat.eq_of_beq_eq_true hb
      subst this
      subst e
      have h1 := h.slot t _ hc
      rw [← h1, hs]; rfl
  | _ => exact h
end Go.Proofs.YtbippdeahoehoaaGreat.Sym
namespace Go.Proofs.YtbippdeahoehoaaGreat.Sym
open Go.RowKit
abbrev Tab := FuncId → List Value → Option (T Value)
def needs {α : Type} (l : List Prop) (t : T α) : T α := match l with | [] => t | p :: l => .need p (needs l t)
theorem needs_ok {α : Type} {Q : α → Prop} {t : T α} : ∀ {l : List Prop}, (needs l t).ok Q → (∀ p ∈ l, p) ∧ t.ok Q
  | [], h => ⟨by simp, h⟩
  | q :: l, h => ⟨fun p hp => by
      rcases List.mem_cons.1 hp with rfl | hp
      · exact h.1
      · exact (needs_ok (l := l) h.2).1 p hp, (needs_ok (l := l) h.2).2⟩
def isGo (P : Program) (f : FuncId) : Bool := match P.funcs[f]? with | some fn => !(fn.name == "runtime.NumGoroutine") && !fn.body.isNone | none => false
def TabOk (P : Program) (S : Tab) : Prop := ∀ f xs t, S f xs = some t → isGo P f = true ∧ ∀ v, (t.ok fun x => x = v) → ∀ w, Calls P f xs.toArray w fun e w' => e = .returned v ∧ Below w.heap.size w w'
structure DP where
  p : Prop
  d : Dec p
def dp (p : Prop) [d : Dec p] : DP := ⟨p, d⟩
def needsD {α : Type} (l : List DP) (t : T α) : T α := match l with | [] => t | ⟨p, d⟩ :: l => @T.chk _ p d (needsD l t)
theorem needsD_ok {α : Type} {Q : α → Prop} {t : T α} : ∀ {l : List DP}, (needsD l t).ok Q → (∀ q ∈ l, q.p) ∧ t.ok Q
  | [], h => ⟨by simp, h⟩
  | ⟨q, d⟩ :: l, h => ⟨fun p hp => by
      rcases List.mem_cons.1 hp with rfl | hp
      · exact h.1
      · exact (needsD_ok (l := l) h.2).1 p hp, (needsD_ok (l := l) h.2).2⟩
inductive Ki where
  | int (k : IntKind)
  | bool
  | str
def intV : Value → Int | .int _ z => z | _ => 0
def boolV : Value → Bool | .bool b => b | _ => false
def strV : Value → ByteArray | .string s => s | _ => ByteArray.empty
def Ki.mk : Ki → Value → Value
  | .int k, v => .int k (intV v)
  | .bool, v => .bool (boolV v)
  | .str, v => .string (strV v)
def shapeFs (g : TypeId → Option (List Ki)) : List Field → Option (List Ki)
  | [] => some []
  | f :: l => match g f.type, shapeFs g l with
    | some a, some b => some (a ++ b)
    | _, _ => none
def cellAt (xs : List Value) (i : Nat) : Value := xs.getD i undef
def cellOf (cs : Array Value) (i : Nat) : Value := cs.getD i undef
def cellIs (cs : Array Value) (i : Nat) (K : Ki) : Prop := cs[i]? = some (K.mk (cellOf cs i))
def shMk (xs : List Value) : Nat → List Ki → List Value
  | _, [] => []
  | i, K :: l => K.mk (cellAt xs i) :: shMk xs (i + 1) l
theorem shMk_length (xs : List Value) : ∀ (l : List Ki) (i : Nat), (shMk xs i l).length = l.length
  | [], _ => rfl
  | _ :: l, i => by simp [shMk, shMk_length xs l (i + 1)]
def same0 : Value → Value → Bool
  | .bool a, .bool b => a == b
  | .int k a, .int k' b => decide (k = k') && decide (a = b)
  | .string a, .string b => decide (a.data.toList = b.data.toList)
  | .pointer none, .pointer none => true
  | .slice none n c, .slice none n' c' => Nat.beq n n' && Nat.beq c c'
  | .map none, .map none => true
  | .nilFunc, .nilFunc => true
  | .nilIface, .nilIface => true
  | _, _ => false
theorem same0_eq {a b : Value} (h : same0 a b = true) : a = b := by
  unfold same0 at h
  split at h
  · rw [eq_of_beq h]
  · simp only [Bool.and_eq_true, decide_eq_true_eq] at h; rw [h.1, h.2]
  · rename_i a b
    have := of_decide_eq_true h
    obtain ⟨⟨a⟩⟩ := a
    obtain ⟨⟨b⟩⟩ := b
    simp only at this; rw [this]
  · rfl
  · simp only [Bool.and_eq_true, Nat.beq_eq] at h; rw [h.1, h.2]
  · rfl
  · rfl
  · rfl
  · cases h
def all2 {α : Type} (f : α → α → Bool) : List α → List α → Bool
  | [], [] => true
  | a :: l, b :: m => f a b && all2 f l m
  | _, _ => false
theorem all2_eq {α : Type} {f : α → α → Bool} (hf : ∀ {a b}, f a b = true → a = b) : ∀ {l m : List α}, all2 f l m = true → l = m
  | [], [], _ => rfl
  | a :: l, b :: m, h => by
    simp only [all2, Bool.and_eq_true] at h
    rw [hf h.1, all2_eq hf h.2]
  | [], _ :: _, h => by cases h
  | _ :: _, [], h => by cases h
def sameN : Nat → Value → Value → Bool
  | n + 1, .agg xs, .agg ys => all2 (sameN n) xs.toList ys.toList
  | n + 1, .tuple xs, .tuple ys => all2 (sameN n) xs.toList ys.toList
  | _, a, b => same0 a b
theorem sameN_eq : ∀ {n : Nat} {a b : Value}, sameN n a b = true → a = b := by
  intro n
  induction n with
  | zero => intro a b h; exact same0_eq h
  | succ n ih =>
    intro a b h
    unfold sameN at h
    split at h
    · rename_i n' xs ys hn
      cases hn
      rw [Array.toList_inj.1 (all2_eq ih h)]
    · rename_i n' xs ys hn
      cases hn
      rw [Array.toList_inj.1 (all2_eq ih h)]
    · exact same0_eq h
def sameV (a b : Value) : Bool := sameN 8 a b
theorem sameV_eq {a b : Value} (h : sameV a b = true) : a = b := sameN_eq h
def sameVs : List Value → List Value → Bool
  | [], [] => true
  | a :: l, b :: m => sameV a b && sameVs l m
  | _, _ => false
theorem sameVs_eq : ∀ {l m : List Value}, sameVs l m = true → l = m
  | [], [], _ => rfl
  | a :: l, b :: m, h => by
    simp only [sameVs, Bool.and_eq_true] at h
    rw [sameV_eq h.1, sameVs_eq h.2]
  | [], _ :: _, h => by cases h
  | _ :: _, [], h => by cases h
instance decV (a b : Value) : Dec (a = b) := ⟨sameV a b, sameV_eq⟩
instance decVs (a b : List Value) : Dec (a = b) := ⟨sameVs a b, sameVs_eq⟩
instance decCell (cs : Array Value) (i : Nat) (K : Ki) : Dec (cellIs cs i K) := ⟨match cs[i]? with | some x => sameV x (K.mk (cellOf cs i)) | none => false, fun h => by
  unfold cellIs
  split at h
  · rename_i x hx; rw [hx, sameV_eq h]
  · cases h⟩
def SV.plain : SV → Option Value
  | .v x => some x
  | .c x => some x
  | .tt => some (.bool true)
  | .ff => some (.bool false)
  | _ => none
theorem SV.plain_to {s : SV} {x : Value} (h : s.plain = some x) (B : List Value) : s.to B = some x := by
  cases s <;> first | exact h | cases h
def SV.conc : SV → Bool
  | .c _ | .tt | .ff => true
  | _ => false
def View.pv (V : View) (x : Operand) : Option Value := match V.val x with | some s => s.plain | none => none
def isPlain (V : View) (x : Operand) : Bool := match V.pv x with | some _ => true | none => false
def isConc (V : View) (x : Operand) : Bool := match V.val x with | some s => s.conc | none => false
def View.rho (V : View) (x : Operand) : Value := match V.pv x with | some y => y | none => undef
def plains : List SV → Option (List Value)
  | [] => some []
  | s :: l => match s.plain, plains l with | some x, some xs => some (x :: xs) | _, _ => none
theorem plains_to {B : List Value} : ∀ {l : List SV} {xs : List Value}, plains l = some xs → SV.tos B l = some xs
  | [], _, h => by simp only [plains, Option.some.injEq] at h; subst h; rfl
  | s :: l, _, h => by
    simp only [plains] at h
    split at h
    · rename_i x xs hs hx
      simp only [Option.some.injEq] at h; subst h
      simp [SV.tos, SV.plain_to hs B, plains_to hx]
    · cases h
theorem Vw.pv {V : View} {H : List Blk} {B : List Value} {a : Act} (h : Vw V H B a) {x : Operand} {y : Value} (e : V.pv x = some y) : a.eval x = y := by
  unfold View.pv at e
  split at e
  · rename_i s hs
    have h1 := h.val hs
    rw [SV.plain_to e B] at h1
    simp only [Option.some.injEq] at h1
    exact h1.symm
  · cases e
def cellsOf (h : Nat → Option Blk) : SV → Option (List SV)
  | .v x => some (x.cells.toList.map .v)
  | .c x => some (x.cells.toList.map .c)
  | .tt => some [.tt]
  | .ff => some [.ff]
  | .agg l => some l
  | .ptr k off => some [.ptr k off]
  | .elt k sz i off => some [.elt k sz i off]
  | .pre k n => some [.pre k n]
  | .ref k => match h k with | some (.row ..) => some [.ref k] | some (.vec ..) => some [.ref k] | some (.lst ..) => some [.ref k] | some (.que ..) => some [.ref k] | some (.pm ..) => some [.ref k] | some (.ext ..) => some [.ref k] | _ => none
  | .tup _ => none
  | .clo fn a b => some [.clo fn a b]
  | .ifc t s => some [.ifc t s]
def oneS (h : Nat → Option Blk) : SV → Bool
  | .v x => x.oneCell'
  | .c x => x.oneCell'
  | .tt | .ff => true
  | .ptr .. | .elt .. | .pre .. | .clo .. | .ifc .. => true
  | .ref k => match h k with | some (.row ..) => true | some (.vec ..) => true | some (.lst ..) => true | some (.que ..) => true | some (.pm ..) => true | some (.ext ..) => true | _ => false
  | .agg _ | .tup _ => false
def setL (cells : List SV) (off : Nat) : List SV → List SV
  | [] => cells
  | s :: l => setL (cells.set off s) (off + 1) l
def fillS (h : Nat → Option Blk) (place : Nat → Option (Nat × Nat)) (cells : List SV) : List (Nat × SV) → Option (List SV)
  | [] => some cells
  | (i, s) :: rest => match place i, cellsOf h s with
    | some (off, size), some l => bif Nat.beq l.length size && Nat.ble (off + l.length) cells.length then fillS h place (setL cells off l) rest else none
    | _, _ => none
def vals (V : View) : List Operand → Option (List SV)
  | [] => some []
  | x :: l => match V.val x, vals V l with | some s, some ss => some (s :: ss) | _, _ => none
theorem vals_to {V : View} {H : List Blk} {B : List Value} {a : Act} (h : Vw V H B a) : ∀ {l : List Operand} {ss : List SV}, vals V l = some ss → SV.tos B ss = some (l.map a.eval)
  | [], _, e => by simp only [vals, Option.some.injEq] at e; subst e; rfl
  | x :: l, _, e => by
    simp only [vals] at e
    split at e
    · rename_i s ss h1 h2
      simp only [Option.some.injEq] at e; subst e
      simp [SV.tos, h.val h1, vals_to h h2]
    · cases e
def mkAgg (l : List SV) : SV := match plains l with | some xs => .v (.agg xs.toArray) | none => .agg l
theorem cellsOf_to {H : List Blk} {B : List Value} {w : World} (hs : Sat H B w) {g : Nat → Option Blk} (hg : ∀ k x, g k = some x → H[k]? = some x) {s : SV} {x : Value} (h : s.to B = some x) {l : List SV} (hl : cellsOf g s = some l) : SV.tos B l = some x.cells.toList := by
  cases s with
  | v y => simp only [SV.to, Option.some.injEq] at h; subst h; simp only [cellsOf, Option.some.injEq] at hl; subst hl; exact tos_plain _ _
  | c y => simp only [SV.to, Option.some.injEq] at h; subst h; simp only [cellsOf, Option.some.injEq] at hl; subst hl; exact tos_conc _ _
  | tt => simp only [SV.to, Option.some.injEq] at h; subst h; simp only [cellsOf, Option.some.injEq] at hl; subst hl; rfl
  | ff => simp only [SV.to, Option.some.injEq] at h; subst h; simp only [cellsOf, Option.some.injEq] at hl; subst hl; rfl
  | ptr k off =>
    simp only [cellsOf, Option.some.injEq] at hl; subst hl
    have h' := h
    simp only [SV.to] at h
    split at h
    · simp only [Option.some.injEq] at h; subst h; simp [SV.tos, h', Value.cells]
    · cases h
  | elt k sz i off =>
    simp only [cellsOf, Option.some.injEq] at hl; subst hl
    have h' := h
    simp only [SV.to] at h
    split at h
    · simp only [Option.some.injEq] at h; subst h; simp [SV.tos, h', Value.cells]
    · cases h
  | pre k n =>
    simp only [cellsOf, Option.some.injEq] at hl; subst hl
    have h' := h
    simp only [SV.to] at h
    split at h
    · simp only [Option.some.injEq] at h; subst h; simp [SV.tos, h', Value.cells]
    · cases h
  | ref k =>
    simp only [cellsOf] at hl
    split at hl
    · rename_i n sz f hk
      have hk := hg _ _ hk
      simp only [Option.some.injEq] at hl; subst hl
      have h' := h
      simp only [SV.to] at h
      obtain ⟨p, cap, rfl, -⟩ := hs.blk k _ _ hk h
      simp [SV.tos, h', Value.cells]
    · rename_i o' e sz n xs hk
      have hk := hg _ _ hk
      simp only [Option.some.injEq] at hl; subst hl
      have h' := h
      simp only [SV.to] at h
      have hs' : VecSat w e sz x n xs := hs.blk k _ _ hk h
      rcases hs'.view.2 with ⟨rfl, -⟩ | ⟨b, cap, rfl, -⟩ <;> simp [SV.tos, h', Value.cells]
    · rename_i e sz n cs hk
      have hk := hg _ _ hk
      simp only [Option.some.injEq] at hl; subst hl
      have h' := h
      simp only [SV.to] at h
      obtain ⟨xs, -, hs'⟩ := hs.blk k _ _ hk h
      rcases hs'.view.2 with ⟨rfl, -⟩ | ⟨b, cap, rfl, -⟩ <;> simp [SV.tos, h', Value.cells]
    · rename_i e sz n xp cs hk
      have hk := hg _ _ hk
      simp only [Option.some.injEq] at hl; subst hl
      have h' := h
      simp only [SV.to] at h
      obtain ⟨xs, -, hs'⟩ := hs.blk k _ _ hk h
      rcases hs'.view.2 with ⟨rfl, -⟩ | ⟨b, cap, rfl, -⟩ <;> simp [SV.tos, h', Value.cells]
    · rename_i K kl cs hk
      have hk := hg _ _ hk
      simp only [Option.some.injEq] at hl; subst hl
      have h' := h
      simp only [SV.to] at h
      obtain ⟨xs, -, -, b, rfl, -⟩ := hs.blk k _ _ hk h
      simp [SV.tos, h', Value.cells]
    · rename_i x0 hk
      have hk := hg _ _ hk
      simp only [Option.some.injEq] at hl; subst hl
      have h' := h
      simp only [SV.to] at h
      have hx : XSat w x x0 := hs.blk k _ _ hk h
      cases x0 with
      | smap P' k' e' D' =>
        obtain ⟨b, rfl, -⟩ := hx
        simp [SV.tos, h', Value.cells]
      | bools n f =>
        obtain ⟨b, rfl, -⟩ := hx
        simp [SV.tos, h', Value.cells]
    · cases hl
  | agg l' =>
    simp only [cellsOf, Option.some.injEq] at hl; subst hl
    simp only [SV.to, Option.map_eq_some_iff] at h
    obtain ⟨vs, h1, h2⟩ := h
    subst h2
    simpa [Value.cells] using h1
  | tup l' => simp [cellsOf] at hl
  | clo fn a b =>
    simp only [cellsOf, Option.some.injEq] at hl; subst hl
    have h' := h
    simp only [SV.to] at h
    split at h
    · simp only [Option.some.injEq] at h; subst h; simp [SV.tos, h', Value.cells]
    · cases h
  | ifc t s =>
    simp only [cellsOf, Option.some.injEq] at hl; subst hl
    have h' := h
    simp only [SV.to, Option.map_eq_some_iff] at h
    obtain ⟨v, h1, h2⟩ := h
    subst h2; simp [SV.tos, h', Value.cells]
def setV (cells : List Value) (off : Nat) : List Value → List Value
  | [] => cells
  | s :: l => setV (cells.set off s) (off + 1) l
theorem tos_set {B : List Value} {s : SV} {x : Value} (hs : s.to B = some x) : ∀ (l : List SV) (xs : List Value) (i : Nat), SV.tos B l = some xs → SV.tos B (l.set i s) = some (xs.set i x)
  | [], xs, i, e => by simp only [SV.tos, Option.some.injEq] at e; subst e; rfl
  | t :: l, xs, i, e => by
    simp only [SV.tos] at e
    split at e
    · rename_i y ys h1 h2
      simp only [Option.some.injEq] at e; subst e
      cases i with
      | zero => simp [SV.tos, hs, h2]
      | succ i => simp [SV.tos, h1, tos_set hs l ys i h2]
    · cases e
theorem tos_setL {B : List Value} : ∀ (l : List SV) (ys : List Value) (cells : List SV) (xs : List Value) (off : Nat), SV.tos B l = some ys → SV.tos B cells = some xs → SV.tos B (setL cells off l) = some (setV xs off ys)
  | [], ys, cells, xs, off, h, h2 => by simp only [SV.tos, Option.some.injEq] at h; subst h; exact h2
  | s :: l, ys, cells, xs, off, h, h2 => by
    simp only [SV.tos] at h
    split at h
    · rename_i y ys' h1 h3
      simp only [Option.some.injEq] at h; subst h
      simp only [setL, setV]
      exact tos_setL l ys' _ _ _ h3 (tos_set h1 cells xs off h2)
    · cases h
theorem foldl_set (ys : List Value) : ∀ (n off : Nat) (xs : List Value), (ys.zipIdx n).foldl (fun (cs : Array Value) p => cs.setIfInBounds (off + p.2) p.1) xs.toArray = (setV xs (off + n) ys).toArray := by
  induction ys with
  | nil => intro n off xs; rfl
  | cons y ys ih =>
    intro n off xs
    simp only [List.zipIdx_cons, List.foldl_cons, setV]
    rw [List.setIfInBounds_toArray, ih (n + 1) off]
    rfl
theorem fillS_ok {H : List Blk} {B : List Value} {w : World} (hs : Sat H B w) {g : Nat → Option Blk} (hg : ∀ k x, g k = some x → H[k]? = some x) {place : Nat → Option (Nat × Nat)} : ∀ (parts : List (Nat × SV)) (vs : List (Nat × Value)) (cells r : List SV) (xs : List Value), SV.tos B (parts.map (·.2)) = some (vs.map (·.2)) → parts.map (·.1) = vs.map (·.1) →
    SV.tos B cells = some xs → fillS g place cells parts = some r → ∃ ys, SV.tos B r = some ys ∧ Instr.fill place xs.toArray vs = some ys.toArray
  | [], vs, cells, r, xs, h1, h2, h3, h4 => by
    simp only [fillS, Option.some.injEq] at h4
    subst h4
    cases vs with
    | nil => exact ⟨xs, h3, rfl⟩
    | cons v vs => simp at h2
  | (i, s) :: parts, vs, cells, r, xs, h1, h2, h3, h4 => by
    cases vs with
    | nil => simp at h2
    | cons v vs =>
      obtain ⟨j, x⟩ := v
      simp only [List.map_cons, List.cons.injEq] at h2
      obtain ⟨rfl, h2⟩ := h2
      simp only [List.map_cons, SV.tos] at h1
      split at h1
      · rename_i x' xs' g1 g2
        simp only [Option.some.injEq, List.cons.injEq] at h1
        obtain ⟨rfl, rfl⟩ := h1
        simp only [fillS] at h4
        split at h4
        · rename_i off size l hp hl
          have hc := cellsOf_to hs hg g1 hl
          have hlen := tos_length hc
          have hlen2 := tos_length h3
          cases hb : (Nat.beq l.length size && Nat.ble (off + l.length) cells.length)
          · rw [hb] at h4; cases h4
          · rw [hb, cond_true] at h4
            simp only [Bool.and_eq_true] at hb
            obtain rfl : l.length = size := Nat.eq_of_beq_eq_true hb.1
            have hle := Nat.le_of_ble_eq_true hb.2
            obtain ⟨ys, k1, k2⟩ := fillS_ok hs hg parts vs _ r _ g2 h2 (tos_setL l _ cells xs off hc h3) h4
            refine ⟨ys, k1, ?_⟩
            simp only [Array.length_toList] at hlen
            simp only [Instr.fill, hp, hlen]
            rw [if_neg (by simp only [List.size_toArray, ne_eq, not_true_eq_false, decide_false, Bool.false_or, decide_eq_true_eq]; omega)]
            rw [← k2]
            congr 1
            have := foldl_set x'.cells.toList 0 off xs
            rw [Nat.add_zero] at this
            rw [← this, ← Array.foldl_toList, Array.toList_zipIdx]
        · cases h4
      · cases h1
theorem mkAgg_to {B : List Value} {l : List SV} {xs : List Value} (h : SV.tos B l = some xs) : (mkAgg l).to B = some (.agg xs.toArray) := by
  unfold mkAgg
  split
  · rename_i ys hy
    rw [plains_to hy] at h
    simp only [Option.some.injEq] at h; subst h; rfl
  · simp [SV.to, h]
section
variable (P : Program) (S : Tab)
def evalPure (V : View) (o : Oper) : T SV :=
  match o.op with
  | .select .. => .stuck 1
  | _ => bif o.op.operands.toList.all (isPlain V) then (match pureVal P (execOp V.rho o) with | some (.value v) => (bif o.op.operands.toList.all (isConc V) then (match v with | .bool true => .leaf .tt | .bool false => .leaf .ff | v => .leaf (.c v)) else .leaf (.v v)) | _ => .stuck 2) else .stuck 3
def shapeT : Nat → TypeId → Option (List Ki)
  | 0, _ => none
  | d + 1, t => match P.underlying t with
    | some (.int k) => some [.int k]
    | some .bool => some [.bool]
    | some .string => some [.str]
    | some (.struct fs) => shapeFs (shapeT d) fs.toList
    | _ => none
def leafO (n : Nat) : Option SV → T SV
  | some s => .leaf s
  | none => .stuck n
def evalLoad (V : View) (t : TypeId) (x : Operand) : T SV :=
  match pureVal P (isAgg t), pureVal P (sizeOf t) with
  | some ag, some n => match V.val x with
    | some (.ptr k off) => (match V.see k with
      | some (.own cells) => bif Nat.ble (off + n) cells.length then (bif ag then .leaf (mkAgg ((cells.drop off).take n)) else leafO 5 cells[off]?) else .stuck 6
      | some (.arr kind m h) => bif ag then (bif Nat.beq off 0 && Nat.beq n m then .leaf (.v (.agg (arrCells kind m h))) else .stuck 60) else .chk (off < m) (.leaf (.v (.int kind (h off))))
      | _ => .stuck 7)
    | some (.elt k sz i off) => (match V.see k with
      | some (.row m sz' f) => bif Nat.beq sz sz' && Nat.ble (off + n) sz && Nat.ble 1 n then (.chk (i < m) (bif ag then .leaf (.v (.agg ((List.range' off n).map (f i)).toArray)) else .leaf (.v (f i off)))) else .stuck 8
      | some (.vec o _ sz' m xs) => bif Nat.beq sz sz' && Nat.ble (off + n) sz && Nat.ble 1 n then (.chk (i < m) (match (bif o then shapeT P 9 t else none) with
        | some sh => bif Nat.beq sh.length n then .chk ((xs.drop (i * sz + off)).take n = shMk xs (i * sz + off) sh) (bif ag then .leaf (.v (.agg (shMk xs (i * sz + off) sh).toArray)) else leafO 63 ((shMk xs (i * sz + off) sh)[0]?.map .v)) else .stuck 64
        | none => (bif ag then .leaf (.v (.agg ((xs.drop (i * sz + off)).take n).toArray)) else (match xs[i * sz + off]? with | some x => .leaf (.v x) | none => .stuck 61)))) else .stuck 62
      | some (.lst _ sz' m cells) => bif Nat.beq sz sz' && Nat.ble (off + n) sz && Nat.ble 1 n && Nat.blt i m then (bif ag then .leaf (mkAgg ((cells.drop (i * sz + off)).take n)) else leafO 66 cells[i * sz + off]?) else .stuck 67
      | _ => .stuck 9)
    | _ => .stuck 10
  | _, _ => .stuck 11
def fieldOf (t : TypeId) (i : Nat) : Option (Nat × Nat) :=
  match pureVal P (underlying t) with
  | some (.struct fields) => (match fields[i]? with
    | some f => (match pureVal P (sizeOf f.type) with | some n => some (f.offset, n) | none => none)
    | none => none)
  | _ => none
def evalField (V : View) (o : Oper) (t : TypeId) (x : Operand) (i : Nat) : T SV :=
  match V.val x with
  | some (.ptr k off) => (match fieldOf P t i with
    | some (fo, n) => bif Nat.beq n 0 then .stuck 12 else .leaf (.ptr k (off + fo))
    | none => .stuck 13)
  | some (.elt k sz j off) => (match fieldOf P t i with
    | some (fo, n) => bif Nat.beq n 0 then .stuck 14 else .leaf (.elt k sz j (off + fo))
    | none => .stuck 15)
  | _ => evalPure P V o
def evalIndexAddr (V : View) (o : Oper) (t : TypeId) (x ix : Operand) : T SV :=
  match V.val x, V.pv ix with
  | some (.ref k), some (.int _ z) => (match pureVal P (underlying t), V.see k with
    | some (.slice e), some (.row m sz _) => (match pureVal P (sizeOf e) with
      | some n => bif Nat.beq n sz && Nat.ble 1 sz then .chk (0 ≤ z ∧ z < m) (.leaf (.elt k sz z.toNat 0)) else .stuck 16
      | none => .stuck 17)
    | some (.slice e), some (.vec _ _ sz m _) => (match pureVal P (sizeOf e) with
      | some n => bif Nat.beq n sz && Nat.ble 1 sz then .chk (0 ≤ z ∧ z < m) (.leaf (.elt k sz z.toNat 0)) else .stuck 63
      | none => .stuck 64)
    | some (.slice e), some (.lst _ sz m _) => (match pureVal P (sizeOf e) with
      | some n => bif Nat.beq n sz && Nat.ble 1 sz then .chk (0 ≤ z ∧ z < m) (.leaf (.elt k sz z.toNat 0)) else .stuck 68
      | none => .stuck 69)
    | _, _ => .stuck 18)
  | some (.pre k h), some (.int _ z) => (match pureVal P (underlying t), V.see k with
    | some (.slice e), some (.vec _ _ sz m _) => (match pureVal P (sizeOf e) with
      | some n => bif Nat.beq n sz && Nat.ble 1 sz && Nat.ble h m then .chk (0 ≤ z ∧ z < h) (.leaf (.elt k sz z.toNat 0)) else .stuck 201
      | none => .stuck 202)
    | some (.slice e), some (.lst _ sz m _) => (match pureVal P (sizeOf e) with
      | some n => bif Nat.beq n sz && Nat.ble 1 sz && Nat.ble h m then .chk (0 ≤ z ∧ z < h) (.leaf (.elt k sz z.toNat 0)) else .stuck 203
      | none => .stuck 204)
    | _, _ => .stuck 205)
  | some (.ptr k off), some (.int _ z) => (match pureVal P (underlying t) with
    | some (.array m e) => (match pureVal P (sizeOf e) with
      | some n => .chk (0 ≤ z ∧ z < m) (.leaf (.ptr k (off + z.toNat * n)))
      | none => .stuck 19)
    | _ => .stuck 20)
  | _, _ => evalPure P V o
def byteAt (s : ByteArray) (i : Int) : Int := (s.data.toList.getD i.toNat 0).toNat
def evalIndex (V : View) (o : Oper) (t : TypeId) (x ix : Operand) : T SV :=
  match V.pv x, V.pv ix with
  | some (.string s), some (.int _ z) => (match pureVal P (underlying t) with
    | some .string => .chk (0 ≤ z ∧ z < s.size) (.leaf (.v (.int .u8 (byteAt s z))))
    | _ => .stuck 21)
  | some (.agg cs), some (.int _ z) => bif isConc V ix then evalPure P V o else (match pureVal P (underlying t) with
    | some (.array m e) => (match shapeT P 9 e, pureVal P (sizeOf e), pureVal P (isAgg e) with
      | some [K], some 1, some false => .chk (0 ≤ z ∧ z < m) (.chk (cellIs cs z.toNat K) (.leaf (.v (K.mk (cellOf cs z.toNat)))))
      | _, _, _ => .stuck 150)
    | _ => .stuck 151)
  | _, _ => evalPure P V o
def intO (V : View) (d : Int) : Option Operand → Option Int
  | none => some d
  | some x => match V.pv x with | some (.int _ z) => some z | _ => none
def someL : Option Blk → Bool
  | some (.vec _ _ sz n _) => Nat.blt 0 n
  | some (.lst _ sz n _) => Nat.blt 0 n
  | some (.que _ sz n _ _) => Nat.blt 0 n
  | _ => false
def lenL : Option Blk → Nat
  | some (.vec _ _ _ n _) => n
  | some (.lst _ _ n _) => n
  | some (.que _ _ n _ _) => n
  | _ => 0
def evalSlice (V : View) (o : Oper) (t : TypeId) (x : Operand) (lo hi : Option Operand) : T SV :=
  match V.pv x with
  | some (.string s) => (match pureVal P (underlying t), intO V 0 lo, intO V s.size hi with
    | some .string, some l, some h => .chk (0 ≤ l ∧ l ≤ h ∧ h ≤ s.size) (.leaf (.v (.string (s.extract l.toNat h.toNat))))
    | _, _, _ => .stuck 22)
  | _ => (match V.val x, lo, hi with
    | some (.ref k), none, some y => (match pureVal P (underlying t), V.pv y with
      | some (.slice e), some (.int _ h) => (match pureVal P (sizeOf e) with
        | some _ => bif someL (V.see k) then .chk (0 ≤ h ∧ h ≤ lenL (V.see k)) (.leaf (.pre k h.toNat)) else .stuck 206
        | none => .stuck 210)
      | _, _ => .stuck 207)
    | _, _, _ => evalPure P V o)
mutual
def eqV : Nat → TypeId → Value → Value → Option Bool
  | 0, _, _, _ => none
  | d + 1, t, x, y => match P.underlying t, x, y with
    | some .bool, .bool a, .bool b => some (a == b)
    | some (.int _), .int k a, .int k' b => bif decide (k = k') then some (a == b) else none
    | some .string, .string a, .string b => some (decide (a = b))
    | some (.struct fs), .agg xs, .agg ys => bif P.stoodInHeld t then none else eqFs d xs ys fs.toList
    | _, _, _ => none
def eqFs : Nat → Array Value → Array Value → List Field → Option Bool
  | _, _, _, [] => some true
  | 0, _, _, _ :: _ => none
  | d + 1, xs, ys, f :: fs => bif f.name == "_" then none else
    match pureVal P (part f.type xs f.offset), pureVal P (part f.type ys f.offset) with
    | some a, some b => (match eqV d f.type a b, eqFs d xs ys fs with
      | some e, some r => some (e && r)
      | _, _ => none)
    | _, _ => none
end
def evalEq (V : View) (o : Oper) (neg : Bool) (t : TypeId) (x y : Operand) : T SV :=
  match V.val x, V.pv y with
  | some (.ref k), some (.slice none 0 0) => (match P.underlying t with
    | some (.slice _) => bif someL (V.see k) then .leaf (bif neg then .tt else .ff) else .stuck 105
    | _ => .stuck 106)
  | some (.ptr _ _), some (.pointer none) => (match P.underlying t with
    | some (.pointer _) => .leaf (bif neg then .tt else .ff)
    | _ => .stuck 100)
  | some (.elt _ _ _ _), some (.pointer none) => (match P.underlying t with
    | some (.pointer _) => .leaf (bif neg then .tt else .ff)
    | _ => .stuck 101)
  | some s, some (.agg ys) => (match s.plain with
    | some (.agg xs) => bif P.eqGuardType P.depth t then .stuck 102 else (match eqV P 60 t (.agg xs) (.agg ys) with
      | some b => .leaf (.v (.bool (bif neg then !b else b)))
      | none => .stuck 103)
    | _ => .stuck 104)
  | _, _ => evalPure P V o
def fastWrap (k : IntKind) (r : Int) : Int := match k with
  | .i64 => (match r with
    | .ofNat n => bif Nat.blt n 9223372036854775808 then .ofNat n else k.wrap (.ofNat n)
    | r => k.wrap r)
  | k => k.wrap r
theorem fastWrap_eq (k : IntKind) (r : Int) : fastWrap k r = k.wrap r := by
  unfold fastWrap
  split
  · split
    · rename_i n
      cases hb : Nat.blt n 9223372036854775808
      · rfl
      · rw [cond_true]
        have : n < 9223372036854775808 := by simpa [Nat.blt_eq] using hb
        have e1 : ((2 : Int) ^ IntKind.bits .i64) = 18446744073709551616 := by decide
        have e2 : ((2 : Int) ^ (IntKind.bits .i64 - 1)) = 9223372036854775808 := by decide
        unfold IntKind.wrap
        rw [e1, e2]
        have h1 : (Int.ofNat n) % 18446744073709551616 = Int.ofNat n := by
          have : (Int.ofNat n) = (n : Int) := rfl
          rw [this]; omega
        rw [h1]
        have h2 : ¬ (Int.ofNat n ≥ 9223372036854775808) := by
          have : (Int.ofNat n) = (n : Int) := rfl
          rw [this]; omega
        have h3 : ¬ ((9223372036854775808 : Int) ≤ (n : Int)) := by omega
        simp [h3]
    · rfl
  · rfl
def boolS (b : Bool) : SV := bif b then .tt else .ff
def fastI (op : BinOp) (k : IntKind) (a b : Int) : Option SV := match op with
  | .add => some (.c (.int k (fastWrap k (a + b))))
  | .sub => some (.c (.int k (fastWrap k (a - b))))
  | .mul => some (.c (.int k (fastWrap k (a * b))))
  | .eql => some (boolS (a == b))
  | .neq => some (boolS (a != b))
  | .lss => some (boolS (decide (a < b)))
  | .leq => some (boolS (decide (a ≤ b)))
  | .gtr => some (boolS (decide (a > b)))
  | .geq => some (boolS (decide (a ≥ b)))
  | _ => none
def knI : Option SV → Option (IntKind × Int)
  | some (.c v) => (match v with | .int k a => some (k, a) | _ => none)
  | _ => none
def fastBin (op : BinOp) (x y : Option SV) : Option SV := match knI x with
  | some (k, a) => (match knI y with
    | some (k', b) => bif decide (k = k') then fastI op k a b else none
    | none => none)
  | none => none
def evalBin0 (V : View) (o : Oper) (op : BinOp) (t : TypeId) (x y : Operand) : T SV :=
  match op, V.pv x, V.pv y with
  | .add, some (.string a), some (.string b) => .chk (a.size + b.size ≤ 9223372036854775807) (.leaf (.v (.string (a ++ b))))
  | .eql, some (.string a), some (.string b) => .leaf (.v (.bool (decide (a = b))))
  | .neq, some (.string a), some (.string b) => .leaf (.v (.bool (!decide (a = b))))
  | .eql, _, _ => evalEq P V o false t x y
  | .neq, _, _ => (match V.val x, V.pv y, P.underlying t with
    | some (.clo _ _ _), some .nilFunc, some (.func _ _ _) => .leaf .tt
    | _, _, _ => evalEq P V o true t x y)
  | _, _, _ => evalPure P V o
def evalBin (V : View) (o : Oper) (op : BinOp) (t : TypeId) (x y : Operand) : T SV := match fastBin op (V.val x) (V.val y) with
  | some s => .leaf s
  | none => evalBin0 P V o op t x y
def builtS (h : Nat → Option Blk) (t : TypeId) (parts : List (Nat × SV)) : Option (List SV) :=
  match P.info? t, P.underlying t with
  | some it, some (.array _ e) => (match it.zero, P.info? e with
    | some z, some ie => fillS h (fun i => some (i * ie.size, ie.size)) (z.cells.toList.map .c) parts
    | _, _ => none)
  | some it, some (.struct fields) => (match it.zero, fields.toList.mapM (fun f => (P.info? f.type).map fun i => (f.offset, i.size)) with
    | some z, some places => fillS h (places.toArray[·]?) (z.cells.toList.map .c) parts
    | _, _ => none)
  | _, _ => none
def evalBuildS (V : View) (t : TypeId) (parts : Array (Nat × Operand)) : T SV :=
  match vals V (parts.toList.map (·.2)) with
  | some ss => (match builtS P V.see t ((parts.toList.map (·.1)).zip ss) with
    | some l => .leaf (mkAgg l)
    | none => .stuck 110)
  | none => .stuck 111
def isPtr : TypeDesc → Bool
  | .pointer _ => true
  | _ => false
def mKey (s : ByteArray) : Lit := .string s.data.toList
def mNum : DataW Unit → Int | .lit (.int _ a) => a | _ => 0
def mGet (D : DataW Unit) (s : ByteArray) : Int := mNum (D.atKey (mKey s) (.lit (.int .i64 0)))
def mHas (D : DataW Unit) (s : ByteArray) : Bool := Maps.has D (mKey s)
def mPut (D : DataW Unit) (s : ByteArray) (z : Int) : DataW Unit := D.put (mKey s) (.lit (.int .i64 z))
def mDel (D : DataW Unit) (s : ByteArray) : DataW Unit := D.del (mKey s)
def mSize (D : DataW Unit) : Nat := Maps.size D
def isStrMap (t k e : TypeId) : Bool := match P.underlying t, P.underlying k, P.underlying e, pureVal P (zeroValue e) with
  | some (.map k' e'), some .string, some (.int .i64), some (.int .i64 0) => Nat.beq k' k && Nat.beq e' e
  | _, _, _, _ => false
def evalLook (V : View) (o : Oper) (t : TypeId) (x ix : Operand) (ok : Bool) : T SV :=
  match V.val x, V.pv ix with
  | some (.ref k), some (.string s) => (match V.see k with
    | some (.ext (.smap P' K E D)) => bif isStrMap P t K E then .chk (P' = P) (.chk (s.size ≤ maxLen) (bif ok then .leaf (.tup [.v (.int .i64 (mGet D s)), .v (.bool (mHas D s))]) else .leaf (.v (.int .i64 (mGet D s))))) else .stuck 180
    | _ => .stuck 181)
  | _, _ => evalPure P V o
def methodOf (t : TypeId) (name : String) : Option FuncId :=
  match P.info? t with
  | some i => (match i.methods.find? (·.name == name), P.underlying t with
    | some m, some d => (match m.func with
      | some (f, ptr) => bif m.path.isEmpty && (bif isPtr d then ptr else !ptr) then some f else none
      | none => none)
    | _, _ => none)
  | none => none
def target (V : View) (c : Call) : Option (FuncId × List SV) :=
  match vals V c.args.toList with
  | some ss => (match c.callee with
    | .value (.func f) => some (f, ss)
    | .value x => (match V.val x with
      | some (.clo (.func f) a b) => some (f, a ++ ss ++ b)
      | some (.v (.func (.func f) a b)) => some (f, a.toList.map .v ++ ss ++ b.toList.map .v)
      | some (.c (.func (.func f) a b)) => some (f, a.toList.map .c ++ ss ++ b.toList.map .c)
      | _ => none)
    | .invoke r name => (match V.val r with
      | some (.ifc t s) => (methodOf P t name).map fun f => (f, s :: ss)
      | some (.v (.iface t v)) => (methodOf P t name).map fun f => (f, .v v :: ss)
      | some (.c (.iface t v)) => (methodOf P t name).map fun f => (f, .c v :: ss)
      | _ => none)
    | .builtin _ => none)
  | none => none
def isBuiltin (c : Call) : Bool := match c.callee with | .builtin _ => true | _ => false
def evalCall (V : View) (o : Oper) (c : Call) : T SV :=
  bif !isBuiltin c then (match target P V c with
    | some (f, ss) => (match plains ss with
      | some xs => (match S f xs with
        | some t => t.bind fun v => .leaf (.v v)
        | none => .stuck (1000 + f))
      | none => .stuck (2000 + f))
    | none => .stuck 24) else
  match c.callee with
  | .builtin .len => (match vals V c.args.toList with
    | some [.pre k n] => (match c.argTypes[0]? with
      | some t => (match pureVal P (underlying t) with
        | some (.slice _) => .leaf (.c (.int .i64 n))
        | _ => .stuck 208)
      | none => .stuck 209)
    | some [.ref k] => (match V.see k, c.argTypes[0]? with
      | some (.row n _ _), some t => (match pureVal P (underlying t) with
        | some (.slice _) => .leaf (.v (.int .i64 n))
        | _ => .stuck 25)
      | some (.vec _ _ _ n _), some t => (match pureVal P (underlying t) with
        | some (.slice _) => .leaf (.v (.int .i64 n))
        | _ => .stuck 65)
      | some (.lst _ _ n _), some t => (match pureVal P (underlying t) with
        | some (.slice _) => .leaf (.c (.int .i64 n))
        | _ => .stuck 174)
      | some (.que _ _ n _ _), some t => (match pureVal P (underlying t) with
        | some (.slice _) => .leaf (.v (.int .i64 n))
        | _ => .stuck 195)
      | some (.ext (.smap P' K E D)), some t => bif isStrMap P t K E then .chk (P' = P) (.leaf (.v (.int .i64 (mSize D)))) else .stuck 182
      | _, _ => .stuck 26)
    | _ => evalPure P V o)
  | _ => evalPure P V o
def evalFld (V : View) (o : Oper) (t : TypeId) (x : Operand) (i : Nat) : T SV :=
  match V.val x with
  | some (.agg l) => (match pureVal P (underlying t) with
    | some (.struct fields) => (match fields[i]? with
      | some f => (match pureVal P (isAgg f.type), pureVal P (sizeOf f.type) with
        | some true, some n => .leaf (mkAgg ((l.drop f.offset).take n))
        | some false, some _ => leafO 170 l[f.offset]?
        | _, _ => .stuck 171)
      | none => .stuck 172)
    | _ => .stuck 173)
  | _ => evalPure P V o
def ifcOf : SV → Option (TypeId × SV)
  | .ifc t s => some (t, s)
  | .v (.iface t v) => some (t, .v v)
  | .c (.iface t v) => some (t, .c v)
  | _ => none
theorem ifcOf_to {B : List Value} {s s' : SV} {t : TypeId} {x : Value} (h : ifcOf s = some (t, s')) (hs : s.to B = some x) : ∃ v, s'.to B = some v ∧ Value.iface t v = x := by
  unfold ifcOf at h
  split at h
  · simp only [Option.some.injEq, Prod.mk.injEq] at h
    obtain ⟨rfl, rfl⟩ := h
    simp only [SV.to, Option.map_eq_some_iff] at hs
    exact hs
  · simp only [Option.some.injEq, Prod.mk.injEq] at h
    obtain ⟨rfl, rfl⟩ := h
    simp only [SV.to, Option.some.injEq] at hs
    exact ⟨_, rfl, hs⟩
  · simp only [Option.some.injEq, Prod.mk.injEq] at h
    obtain ⟨rfl, rfl⟩ := h
    simp only [SV.to, Option.some.injEq] at hs
    exact ⟨_, rfl, hs⟩
  · cases h
def evalQ (V : View) (o : Oper) : T SV :=
  match o.op with
  | .move x | .assign x => leafO 4 (V.val x)
  | .unOp .not _ x => match V.val x with
    | some .tt => .leaf .ff
    | some .ff => .leaf .tt
    | _ => evalPure P V o
  | .pick c x y => match V.val c with
    | some .tt => leafO 4 (V.val x)
    | some .ff => leafO 4 (V.val y)
    | some (.v (.bool b)) => .ite b (leafO 4 (V.val x)) (leafO 4 (V.val y))
    | _ => .stuck 27
  | .load t x => evalLoad P V t x
  | .fieldAddr t x i => evalField P V o t x i
  | .field t x i => evalFld P V o t x i
  | .indexAddr t x ix => evalIndexAddr P V o t x ix
  | .nilCheck x => match V.val x with
    | some (.ptr k off) => .leaf (.ptr k off)
    | some (.elt k sz i off) => .leaf (.elt k sz i off)
    | some (.clo (.func f) a b) => .leaf (.clo (.func f) a b)
    | _ => evalPure P V o
  | .index t x ix => evalIndex P V o t x ix
  | .slice t x lo hi none => evalSlice P V o t x lo hi
  | .binOp op t x y _ => evalBin P V o op t x y
  | .extract x i => match V.val x with
    | some (.tup l) => leafO 28 l[i]?
    | _ => evalPure P V o
  | .call c => evalCall P S V o c
  | .build t parts => evalBuildS P V t parts
  | .makeFunc fn first captured => match vals V first.toList, vals V captured.toList with
    | some a, some b => (match plains a, plains b with
      | some xs, some ys => .leaf (.v (.func fn xs.toArray ys.toArray))
      | _, _ => .leaf (.clo fn a b))
    | _, _ => .stuck 140
  | .makeInterface t x => match V.val x with
    | some s => (match s.plain with
      | some _ => evalPure P V o
      | none => (match P.underlying t with
        | some (.interface _) => .stuck 141
        | some _ => .leaf (.ifc t s)
        | none => .stuck 142))
    | none => .stuck 143
  | .typeAssert x _ u ok => match (V.val x).bind ifcOf with
    | some (t, s) => (match P.underlying u with
      | some (.interface _) => .stuck 144
      | some _ => bif Nat.beq t u then (bif ok then .leaf (.tup [s, .tt]) else .leaf s) else (bif ok then (match pureVal P (zeroValue u) with | some z => .leaf (.tup [.c z, .ff]) | none => .stuck 145) else .stuck 146)
      | none => .stuck 147)
    | _ => evalPure P V o
  | .lookup t x ix ok => evalLook P V o t x ix ok
  | _ => evalPure P V o
end
section
variable {P : Program} {S : Tab} {N : Nat} {w0 : World} {bs : List Nat}
theorem quietAt_value {o : Oper} {a : Act} {C : World → Prop} {w : World} {x : Value} (h : (execOp a.eval o).run P w = .ok (.value x) w) : o.quietAt P a C w x := by
  unfold Oper.quietAt; rw [h]; exact ⟨rfl, rfl⟩
def QuietRes (P : Program) (w0 : World) (bs : List Nat) (H : List Blk) (B : List Value) (a : Act) (o : Oper) (s : SV) : Prop :=
  ∃ x, s.to B = some x ∧ ∀ w, Mem w0 bs H B w → o.quietAt P a (Mem w0 bs H B) w x
theorem QuietRes.of {H : List Blk} {B : List Value} {a : Act} {o : Oper} {s : SV} {x : Value} (h1 : s.to B = some x) (h2 : ∀ w, Mem w0 bs H B w → (execOp a.eval o).run P w = .ok (.value x) w) : QuietRes P w0 bs H B a o s :=
  ⟨x, h1, fun w hw => quietAt_value (h2 w hw)⟩
theorem rho_eq {V : View} {H : List Blk} {B : List Value} {a : Act} (h : Vw V H B a) {x : Operand} (hx : isPlain V x = true) : a.eval x = V.rho x := by
  unfold isPlain at hx
  unfold View.rho
  split at hx
  · rename_i y hy
    exact h.pv hy
  · cases hx
theorem evalPure_ok {V : View} {H : List Blk} {B : List Value} {a : Act} (h : Vw V H B a) {o : Oper} {Qs : SV → Prop} (hq : (evalPure P V o).ok Qs) : ∃ s, Qs s ∧ QuietRes P w0 bs H B a o s := by
  unfold evalPure at hq
  have key : (∀ cs b, o.op ≠ .select cs b) → (bif o.op.operands.toList.all (isPlain V) then (match pureVal P (execOp V.rho o) with | some (.value v) => (bif o.op.operands.toList.all (isConc V) then (match v with | .bool true => .leaf .tt | .bool false => .leaf .ff | v => .leaf (.c v)) else .leaf (.v v)) | _ => .stuck 2) else .stuck 3 : T SV).ok Qs → ∃ s, Qs s ∧ QuietRes P w0 bs H B a o s := by
    intro hs hq
    cases hp : o.op.operands.toList.all (isPlain V)
    · rw [hp] at hq; exact hq.elim
    · rw [hp, cond_true] at hq
      have he : execOp a.eval o = execOp V.rho o := execOp_congr o hs fun x hx => rho_eq h (by rw [List.all_eq_true] at hp; exact hp x (by simpa using hx))
      split at hq
      · rename_i v hv
        have hr : ∀ w, (execOp a.eval o).run P w = .ok (.value v) w := fun w => by rw [he]; exact pureVal_run hv w
        cases hcc : o.op.operands.toList.all (isConc V)
        · rw [hcc, cond_false] at hq
          exact ⟨_, hq, .of (x := v) rfl fun w _ => hr w⟩
        · rw [hcc, cond_true] at hq
          split at hq <;> exact ⟨_, hq, .of rfl fun w _ => hr w⟩
      · exact hq.elim
  split at hq
  · exact hq.elim
  · rename_i hns
    exact key (fun cs b e => hns cs b e) hq
theorem leafO_ok {n : Nat} {x : Option SV} {Qs : SV → Prop} (h : (leafO n x).ok Qs) : ∃ s, x = some s ∧ Qs s := by
  cases x with
  | none => exact h.elim
  | some s => exact ⟨s, rfl, h⟩
theorem run_v {s : Sem Value} {x : Value} {w w' : World} (h : s.run P w = .ok x w') : (do pure (Next.value (← s)) : Sem Next).run P w = .ok (.value x) w' := by
  have := Sem.run_bind' P s (fun x => Sem.pure (Next.value x)) w
  rw [h] at this
  exact this
theorem run_bind_ok {α β : Type} {s : Sem α} {x : α} {w w' : World} (h : s.run P w = .ok x w') (f : α → Sem β) : (s >>= f).run P w = (f x).run P w' := by
  have := Sem.run_bind' P s f w
  rw [h] at this
  exact this
theorem addr_add_add (a : Addr) (m n : Nat) : (a.add m).add n = a.add (m + n) := by
  unfold Addr.add
  by_cases h1 : m = 0
  · subst h1; simp
  · by_cases h2 : n = 0
    · subst h2; simp [h1]
    · have h3 : m + n ≠ 0 := by omega
      simp [h1, h2, Nat.add_assoc]
theorem loadVar_one {t : TypeId} {w : World} {p : Addr} {u : Value} (hag : pureVal P (isAgg t) = some false) (hc : w.cell? p = some u) : (loadVar t p).run P w = .ok u w := by
  unfold loadVar
  rw [run_bind_pure hag]
  simp only [Bool.false_eq_true, if_false]
  show (Sem.load .plain p .pure).run P w = _
  simp only [Sem.run, hc]
theorem loadVar_agg {t : TypeId} {n : Nat} {w : World} {p : Addr} {us : List Value} (hag : pureVal P (isAgg t) = some true) (hn : pureVal P (sizeOf t) = some n) (hl : us.length = n) (hc : ∀ j v, us[j]? = some v → w.cell? (p.add j) = some v) :
    (loadVar t p).run P w = .ok (.agg us.toArray) w := by
  unfold loadVar
  rw [run_bind_pure hag]
  simp only [if_true]
  have := run_loadCells_list (P := P) (w := w) p us hc
  rw [hl] at this
  rw [run_bind_pure hn, run_bind_ok this]
  rfl
theorem load_exec {a : Act} {o : Oper} {t : TypeId} {x : Operand} (ho : o.op = .load t x) {w : World} {p : Addr} {u : Value} (e : a.eval x = .pointer (some p)) (hr : (loadVar t p).run P w = .ok u w) : (execOp a.eval o).run P w = .ok (.value u) w := by
  have hex : execOp a.eval o = (do pure (Next.value (← Instr.loadAt t (a.eval x))) : Sem Next) := by unfold execOp; rw [ho]
  rw [hex]
  refine run_v ?_
  unfold Instr.loadAt
  rw [e]
  exact hr
theorem add_off (b off j : Nat) : (⟨b, off, none⟩ : Addr).add j = ⟨b, off + j, none⟩ := by unfold Addr.add; split <;> simp_all
theorem elt_cells {H : List Blk} {B : List Value} {k : Nat} {x : Blk} {m sz : Nat} (hk : H[k]? = some x) {g : Nat → Option Value} {i : Nat} (hi : i < m)
    (hx : (∃ f, x = .row m sz f ∧ ∀ j, j < sz → g j = some (f i j)) ∨ (∃ o e xs, x = .vec o e sz m xs ∧ ∀ j, j < sz → g j = xs[i * sz + j]?)) {w1 : World} (h1 : Mem w0 bs H B w1) (hsz : 0 < sz) :
    ∃ p cap, B[k]? = some (.slice (some p) m cap) ∧ ∀ w, Mem w0 bs H B w → ∀ j v, j < sz → g j = some v → w.cell? (p.add (i * sz + j)) = some v := by
  rcases hx with ⟨f, rfl, hg⟩ | ⟨o', e, xs, rfl, hg⟩
  · obtain ⟨p, cap, g1, -, -, g2⟩ := h1.row_at hk
    obtain ⟨a0, rfl, -⟩ := g2 i 0 hi hsz
    refine ⟨a0, cap, g1, fun w hw j v hj hv => ?_⟩
    obtain ⟨p', cap', g1', -, -, g2'⟩ := hw.row_at hk
    rw [g1] at g1'
    simp only [Option.some.injEq, Value.slice.injEq] at g1'
    obtain ⟨a1, e1, e2⟩ := g2' i j hi hj
    rw [← g1'.1] at e1
    simp only [Option.some.injEq] at e1
    subst e1
    rw [hg j hj] at hv
    simp only [Option.some.injEq] at hv
    rw [e2, hv]
  · obtain ⟨u, hu⟩ := h1.sat.getB hk
    have hs : VecSat w1 e sz u m xs := h1.sat.blk k _ u hk hu
    rcases hs.view.2 with ⟨-, hm⟩ | ⟨b, cap, rfl, -⟩
    · omega
    · refine ⟨⟨b, 0, none⟩, cap, hu, fun w hw j v hj hv => ?_⟩
      have hs' : VecSat w e sz (.slice (some ⟨b, 0, none⟩) m cap) m xs := hw.sat.blk k _ _ hk hu
      rw [add_off, Nat.zero_add]
      rw [hg j hj] at hv
      rcases hs'.view.2 with ⟨e0, -⟩ | ⟨b', cap', e0, -, -, -, hcs⟩
      · cases e0
      simp only [Value.slice.injEq, Option.some.injEq, Addr.mk.injEq] at e0
      obtain ⟨⟨rfl, -⟩, -⟩ := e0
      rw [(hcs (i * sz + j) ?_).1, hv]
      calc i * sz + j < i * sz + sz := by omega
        _ = (i + 1) * sz := by rw [Nat.add_mul, Nat.one_mul]
        _ ≤ m * sz := Nat.mul_le_mul_right _ hi
theorem lst_cells {H : List Blk} {B : List Value} {k : Nat} {e : TypeId} {m sz : Nat} {cells : List SV} (hk : H[k]? = some (.lst e sz m cells)) {i : Nat} (hi : i < m) {w1 : World} (h1 : Mem w0 bs H B w1) (hsz : 0 < sz) :
    ∃ p cap xs, B[k]? = some (.slice (some p) m cap) ∧ SV.tos B cells = some xs ∧ xs.length = m * sz ∧ ∀ w, Mem w0 bs H B w → ∀ j, j < sz → w.cell? (p.add (i * sz + j)) = xs[i * sz + j]? := by
  obtain ⟨u, hu⟩ := h1.sat.getB hk
  obtain ⟨xs, hx, hs⟩ := h1.sat.blk k _ u hk hu
  rcases hs.view.2 with ⟨-, hm⟩ | ⟨b, cap, rfl, -⟩
  · omega
  · refine ⟨⟨b, 0, none⟩, cap, xs, hu, hx, hs.view.1, fun w hw j hj => ?_⟩
    obtain ⟨xs', hx', hs'⟩ := hw.sat.blk k _ _ hk hu
    rw [hx, Option.some.injEq] at hx'
    subst hx'
    rw [add_off, Nat.zero_add]
    rcases hs'.view.2 with ⟨e0, -⟩ | ⟨b', cap', e0, -, -, -, hcs⟩
    · cases e0
    simp only [Value.slice.injEq, Option.some.injEq, Addr.mk.injEq] at e0
    obtain ⟨⟨rfl, -⟩, -⟩ := e0
    refine (hcs (i * sz + j) ?_).1
    calc i * sz + j < i * sz + sz := by omega
      _ = (i + 1) * sz := by rw [Nat.add_mul, Nat.one_mul]
      _ ≤ m * sz := Nat.mul_le_mul_right _ hi
theorem evalLoad_ok {V : View} {H : List Blk} {B : List Value} {a : Act} (h : Vw V H B a) {w1 : World} (hm : Mem w0 bs H B w1) {o : Oper} {t : TypeId} {x : Operand} (ho : o.op = .load t x) {Qs : SV → Prop} (hq : (evalLoad P V t x).ok Qs) : ∃ s, Qs s ∧ QuietRes P w0 bs H B a o s := by
  unfold evalLoad at hq
  split at hq
  case h_2 => exact hq.elim
  rename_i ag n hag hn
  split at hq
  · rename_i k off hx
    have hv := h.val hx
    split at hq
    · rename_i cells hk
      have hk := h.see hk
      obtain ⟨b, vs, g1, g2, g3⟩ := hm.own_at hk
      simp only [SV.to, g1, Option.some.injEq] at hv
      have hall : ∀ w, Mem w0 bs H B w → ∀ j, w.cell? ⟨b, j, none⟩ = vs.toArray[j]? := by
        intro w hw
        obtain ⟨b', vs', g1', g2', g3'⟩ := hw.own_at hk
        rw [g1] at g1'
        rw [g2] at g2'
        simp only [Option.some.injEq, Value.pointer.injEq, Addr.mk.injEq] at g1' g2'
        obtain ⟨rfl, -⟩ := g1'
        subst g2'
        exact g3'.2.1
      cases hb : Nat.ble (off + n) cells.length
      · rw [hb] at hq; exact hq.elim
      · rw [hb, cond_true] at hq
        have hle : off + n ≤ cells.length := Nat.le_of_ble_eq_true hb
        have hlen := tos_length g2
        cases hag' : ag
        · rw [hag', cond_false] at hq
          obtain ⟨s, hs, hqs⟩ := leafO_ok hq
          obtain ⟨u, hu1, hu2⟩ := tos_get g2 hs
          refine ⟨s, hqs, .of hu2 fun w hw => load_exec ho hv.symm (loadVar_one (hag' ▸ hag) ?_)⟩
          rw [hall w hw off]; simpa using hu1
        · rw [hag', cond_true] at hq
          refine ⟨_, hq, .of (x := .agg ((vs.drop off).take n).toArray) (mkAgg_to (tos_take (tos_drop g2 off) n)) fun w hw => load_exec ho hv.symm (loadVar_agg (hag' ▸ hag) hn (by simp; omega) fun j v hj => ?_)⟩
          rw [add_off, hall w hw]
          rw [List.getElem?_take] at hj
          split at hj
          · simpa using hj
          · cases hj
    · rename_i kind m g hk
      have hk := h.see hk
      obtain ⟨u, hu⟩ := hm.sat.getB hk
      obtain ⟨b, rfl, -⟩ := hm.sat.blk k _ u hk hu
      simp only [SV.to, hu, Option.some.injEq] at hv
      have hall : ∀ w, Mem w0 bs H B w → ∀ j, w.cell? ⟨b, j, none⟩ = (arrCells kind m g)[j]? := by
        intro w hw
        obtain ⟨b', e, g3⟩ := hw.sat.blk k _ _ hk hu
        simp only [Value.pointer.injEq, Option.some.injEq, Addr.mk.injEq] at e
        obtain ⟨rfl, -⟩ := e
        exact g3.2.1
      cases hag' : ag
      · rw [hag', cond_false] at hq
        obtain ⟨hlt, hq⟩ := hq
        refine ⟨_, hq, .of rfl fun w hw => load_exec ho hv.symm (loadVar_one (hag' ▸ hag) ?_)⟩
        rw [hall w hw off]
        simp [arrCells, hlt]
      · rw [hag', cond_true] at hq
        cases hb : Nat.beq off 0 && Nat.beq n m
        · rw [hb] at hq; exact hq.elim
        · rw [hb, cond_true] at hq
          simp only [Bool.and_eq_true] at hb
          obtain rfl : off = 0 := Nat.eq_of_beq_eq_true hb.1
          obtain rfl : n = m := Nat.eq_of_beq_eq_true hb.2
          have e : arrCells kind n g = ((arrCells kind n g).toList).toArray := by simp
          refine ⟨_, hq, .of (x := .agg (arrCells kind n g)) rfl fun w hw => ?_⟩
          rw [e]
          refine load_exec ho hv.symm (loadVar_agg (hag' ▸ hag) hn (by simp [arrCells]) fun j v hj => ?_)
          rw [add_off, Nat.zero_add, hall w hw]
          simpa using hj
    · exact hq.elim
  · rename_i k sz i off hx
    have hv := h.val hx
    have fin : ∀ (xb : Blk) (m : Nat) (g : Nat → Option Value), H[k]? = some xb → i < m → ((∃ f, xb = .row m sz f ∧ ∀ j, j < sz → g j = some (f i j)) ∨ (∃ o e xs, xb = .vec o e sz m xs ∧ ∀ j, j < sz → g j = xs[i * sz + j]?)) →
        off + n ≤ sz → 1 ≤ n → (ag = false → ∀ v, g off = some v → QuietRes P w0 bs H B a o (.v v)) ∧ (ag = true → ∀ us : List Value, us.length = n → (∀ j v, us[j]? = some v → g (off + j) = some v) → QuietRes P w0 bs H B a o (.v (.agg us.toArray))) := by
      intro xb m g hk hi hxb hle h1n
      obtain ⟨p, cap, g1, g2⟩ := elt_cells hk hi hxb hm (by omega)
      simp only [SV.to, g1, Option.some.injEq] at hv
      refine ⟨fun hag' v hgv => .of rfl fun w hw => load_exec ho hv.symm (loadVar_one (hag' ▸ hag) (g2 w hw off v (by omega) hgv)), fun hag' us hl hus => .of rfl fun w hw => load_exec ho hv.symm (loadVar_agg (hag' ▸ hag) hn hl fun j v hj => ?_)⟩
      rw [addr_add_add, Nat.add_assoc]
      have hjl := (List.getElem?_eq_some_iff.1 hj).1
      exact g2 w hw (off + j) v (by omega) (hus j v hj)
    split at hq
    · rename_i m sz' f hk
      have hk := h.see hk
      cases hb : (Nat.beq sz sz' && Nat.ble (off + n) sz && Nat.ble 1 n)
      · rw [hb] at hq; exact hq.elim
      · rw [hb, cond_true] at hq
        simp only [Bool.and_eq_true] at hb
        obtain ⟨⟨hb1, hb2⟩, hb3⟩ := hb
        obtain rfl : sz = sz' := Nat.eq_of_beq_eq_true hb1
        have hle := Nat.le_of_ble_eq_true hb2
        have h1n := Nat.le_of_ble_eq_true hb3
        obtain ⟨him, hq⟩ := hq
        obtain ⟨f1, f2⟩ := fin _ m (fun j => some (f i j)) hk him (.inl ⟨f, rfl, fun _ _ => rfl⟩) hle h1n
        cases hag' : ag
        · rw [hag', cond_false] at hq
          exact ⟨_, hq, f1 hag' _ rfl⟩
        · rw [hag', cond_true] at hq
          refine ⟨_, hq, f2 hag' _ (by simp) fun j v hj => ?_⟩
          rw [List.getElem?_map] at hj
          rcases Nat.lt_or_ge j n with hjn | hjn
          · rw [List.getElem?_range' hjn] at hj
            simp only [Nat.one_mul, Option.map_some, Option.some.injEq] at hj
            rw [hj]
          · rw [List.getElem?_eq_none (by simpa using hjn)] at hj; cases hj
    · rename_i o' e sz' m xs hk
      have hk := h.see hk
      cases hb : (Nat.beq sz sz' && Nat.ble (off + n) sz && Nat.ble 1 n)
      · rw [hb] at hq; exact hq.elim
      · rw [hb, cond_true] at hq
        simp only [Bool.and_eq_true] at hb
        obtain ⟨⟨hb1, hb2⟩, hb3⟩ := hb
        obtain rfl : sz = sz' := Nat.eq_of_beq_eq_true hb1
        have hle := Nat.le_of_ble_eq_true hb2
        have h1n := Nat.le_of_ble_eq_true hb3
        obtain ⟨him, hq⟩ := hq
        obtain ⟨f1, f2⟩ := fin _ m (fun j => xs[i * sz + j]?) hk him (.inr ⟨o', e, xs, rfl, fun _ _ => rfl⟩) hle h1n
        split at hq
        · rename_i sh hsh
          cases hb4 : Nat.beq sh.length n
          · rw [hb4] at hq; exact hq.elim
          · rw [hb4, cond_true] at hq
            obtain rfl : sh.length = n := Nat.eq_of_beq_eq_true hb4
            obtain ⟨heq, hq⟩ := hq
            have hcell : ∀ j v, (shMk xs (i * sz + off) sh)[j]? = some v → xs[i * sz + (off + j)]? = some v := by
              intro j v hj
              rw [← heq, List.getElem?_take] at hj
              split at hj
              · rw [List.getElem?_drop] at hj
                rw [← hj]; congr 1; omega
              · cases hj
            cases hag' : ag
            · rw [hag', cond_false] at hq
              obtain ⟨s, hs, hqs⟩ := leafO_ok hq
              simp only [Option.map_eq_some_iff] at hs
              obtain ⟨v, hv1, rfl⟩ := hs
              exact ⟨_, hqs, f1 hag' v (hcell 0 v hv1)⟩
            · rw [hag', cond_true] at hq
              exact ⟨_, hq, f2 hag' _ (shMk_length _ _ _) hcell⟩
        · cases hag' : ag
          · rw [hag', cond_false] at hq
            split at hq
            · rename_i x hx'
              exact ⟨_, hq, f1 hag' _ hx'⟩
            · exact hq.elim
          · rw [hag', cond_true] at hq
            obtain ⟨u, hu⟩ := hm.sat.getB hk
            have hs : VecSat w1 e sz u m xs := hm.sat.blk k _ u hk hu
            have hlen : i * sz + off + n ≤ xs.length := by
              rw [hs.view.1]
              calc i * sz + off + n ≤ i * sz + sz := by omega
                _ = (i + 1) * sz := by rw [Nat.add_mul, Nat.one_mul]
                _ ≤ m * sz := Nat.mul_le_mul_right _ him
            refine ⟨_, hq, f2 hag' _ (by simp; omega) fun j v hj => ?_⟩
            rw [List.getElem?_take] at hj
            split at hj
            · rw [List.getElem?_drop] at hj
              rw [← hj]; congr 1; omega
            · cases hj
    · rename_i e sz' m cells hk
      have hk := h.see hk
      cases hb : (Nat.beq sz sz' && Nat.ble (off + n) sz && Nat.ble 1 n && Nat.blt i m)
      · rw [hb] at hq; exact hq.elim
      · rw [hb, cond_true] at hq
        simp only [Bool.and_eq_true] at hb
        obtain ⟨⟨⟨hb1, hb2⟩, hb3⟩, hb4⟩ := hb
        obtain rfl : sz = sz' := Nat.eq_of_beq_eq_true hb1
        have hle := Nat.le_of_ble_eq_true hb2
        have h1n := Nat.le_of_ble_eq_true hb3
        have him : i < m := Nat.le_of_ble_eq_true hb4
        obtain ⟨p, cap, xs, g1, g2, g3, g4⟩ := lst_cells hk him hm (by omega)
        simp only [SV.to, g1, Option.some.injEq] at hv
        have hlen : i * sz + off + n ≤ xs.length := by
          rw [g3]
          calc i * sz + off + n ≤ i * sz + sz := by omega
            _ = (i + 1) * sz := by rw [Nat.add_mul, Nat.one_mul]
            _ ≤ m * sz := Nat.mul_le_mul_right _ him
        cases hag' : ag
        · rw [hag', cond_false] at hq
          obtain ⟨s, hs, hqs⟩ := leafO_ok hq
          obtain ⟨u, hu1, hu2⟩ := tos_get g2 hs
          exact ⟨s, hqs, .of hu2 fun w hw => load_exec ho hv.symm (loadVar_one (hag' ▸ hag) ((g4 w hw off (by omega)).trans hu1))⟩
        · rw [hag', cond_true] at hq
          refine ⟨_, hq, .of (x := .agg ((xs.drop (i * sz + off)).take n).toArray) (mkAgg_to (tos_take (tos_drop g2 _) n)) fun w hw => load_exec ho hv.symm (loadVar_agg (hag' ▸ hag) hn (by simp; omega) fun j v hj => ?_)⟩
          rw [List.getElem?_take] at hj
          split at hj
          · rename_i hjn
            rw [List.getElem?_drop] at hj
            rw [addr_add_add, Nat.add_assoc, g4 w hw (off + j) (by omega), ← hj]
            congr 1; omega
          · cases hj
    · exact hq.elim
  · exact hq.elim
end
end Go.Proofs.YtbippdeahoehoaaGreat.Sym
namespace Go.Proofs.YtbippdeahoehoaaGreat.Sym
open Go.RowKit
section
variable {P : Program} {S : Tab} {N : Nat} {w0 : World} {bs : List Nat}
theorem und_of {t : TypeId} {d : TypeDesc} (h : pureVal P (underlying t) = some d) : P.underlying t = some d := by
  unfold underlying at h
  simp only [program, bind, Sem.bind, pureVal] at h
  split at h
  · rename_i d' hd
    simp only [pure, pureVal, Option.some.injEq] at h
    rw [hd, h]
  · simp [stuck, pureVal] at h
theorem size_of {t : TypeId} {n : Nat} (h : pureVal P (sizeOf t) = some n) (w : World) : (sizeOf t).run P w = .ok n w := pureVal_run h w
theorem fieldOf_run {t : TypeId} {i fo n : Nat} (h : fieldOf P t i = some (fo, n)) (hn : n ≠ 0) (a : Addr) (w : World) : (Instr.fieldAt t (.pointer (some a)) i).run P w = .ok (.pointer (some (a.add fo))) w := by
  unfold fieldOf at h
  split at h
  · rename_i fields hu
    split at h
    · rename_i f hf
      split at h
      · rename_i m hm
        simp only [Option.some.injEq, Prod.mk.injEq] at h
        obtain ⟨rfl, rfl⟩ := h
        have hu' := und_of hu
        have hm' := size_of hm w
        simp [Instr.fieldAt, run_underlying hu', hf, Instr.sureAddr, fieldPlace, hm', hn]
      · cases h
    · cases h
  · cases h
theorem evalField_ok {V : View} {H : List Blk} {B : List Value} {a : Act} (h : Vw V H B a) {w1 : World} (hm : Mem w0 bs H B w1) {o : Oper} {t : TypeId} {x : Operand} {i : Nat} (ho : o.op = .fieldAddr t x i) {Qs : SV → Prop} (hq : (evalField P V o t x i).ok Qs) : ∃ s, Qs s ∧ QuietRes P w0 bs H B a o s := by
  have hex : execOp a.eval o = (do pure (Next.value (← Instr.fieldAt t (a.eval x) i)) : Sem Next) := by unfold execOp; rw [ho]
  unfold evalField at hq
  split at hq
  · rename_i k off hx
    have hv := h.val hx
    split at hq
    · rename_i fo n hf
      cases hb : Nat.beq n 0
      · rw [hb, cond_false] at hq
        have hn : n ≠ 0 := fun e => by subst e; simp at hb
        simp only [SV.to] at hv
        split at hv
        · rename_i b hbk
          simp only [Option.some.injEq] at hv
          refine ⟨_, hq, .of (x := .pointer (some ⟨b, off + fo, none⟩)) (by simp only [SV.to, hbk]) fun w hw => ?_⟩
          rw [hex, ← hv]
          refine run_v ?_
          rw [fieldOf_run hf hn]
          unfold Addr.add
          split <;> simp_all
        · cases hv
      · rw [hb] at hq; exact hq.elim
    · exact hq.elim
  · rename_i k sz j off hx
    have hv := h.val hx
    split at hq
    · rename_i fo n hf
      cases hb : Nat.beq n 0
      · rw [hb, cond_false] at hq
        have hn : n ≠ 0 := fun e => by subst e; simp at hb
        simp only [SV.to] at hv
        split at hv
        · rename_i p l c hbk
          simp only [Option.some.injEq] at hv
          refine ⟨_, hq, .of (x := .pointer (some (p.add (j * sz + (off + fo))))) (by simp only [SV.to, hbk]) fun w hw => ?_⟩
          rw [hex, ← hv]
          refine run_v ?_
          rw [fieldOf_run hf hn, addr_add_add, Nat.add_assoc]
        · cases hv
      · rw [hb] at hq; exact hq.elim
    · exact hq.elim
  · exact evalPure_ok h hq
theorem evalIndexAddr_ok {V : View} {H : List Blk} {B : List Value} {a : Act} (h : Vw V H B a) {w1 : World} (hm : Mem w0 bs H B w1) {o : Oper} {t : TypeId} {x ix : Operand} (ho : o.op = .indexAddr t x ix) {Qs : SV → Prop} (hq : (evalIndexAddr P V o t x ix).ok Qs) : ∃ s, Qs s ∧ QuietRes P w0 bs H B a o s := by
  have hex : execOp a.eval o = (do pure (Next.value (← Instr.indexAt t (a.eval x) (a.eval ix))) : Sem Next) := by unfold execOp; rw [ho]
  unfold evalIndexAddr at hq
  split at hq
  · rename_i k kk z hx hi
    have hv := h.val hx
    have hz := (h.pv hi).symm
    simp only [SV.to] at hv
    split at hq
    · rename_i e m sz f hu hk
      have hk := h.see hk
      split at hq
      · rename_i n hn
        cases hb : Nat.beq n sz && Nat.ble 1 sz
        · rw [hb] at hq; exact hq.elim
        · rw [hb, cond_true] at hq
          simp only [Bool.and_eq_true] at hb
          obtain rfl : n = sz := Nat.eq_of_beq_eq_true hb.1
          have h1 : 1 ≤ n := Nat.le_of_ble_eq_true hb.2
          obtain ⟨⟨z0, z1⟩, hq⟩ := hq
          obtain ⟨p, cap, g1, -, -, g2⟩ := hm.row_at hk
          obtain ⟨a0, rfl, -⟩ := g2 0 0 (by omega) (by omega)
          rw [g1] at hv
          simp only [Option.some.injEq] at hv
          refine ⟨_, hq, .of (x := .pointer (some (a0.add (z.toNat * n)))) (by simp only [SV.to, g1]; simp) fun w hw => ?_⟩
          rw [hex, ← hv, ← hz]
          refine run_v ?_
          have hu' := und_of hu
          have hn' := size_of hn w
          simp [Instr.indexAt, run_underlying hu', asIntOf, hn', z0, z1]
      · exact hq.elim
    · rename_i e e' sz m xs hu hk
      have hk := h.see hk
      split at hq
      · rename_i n hn
        cases hb : Nat.beq n sz && Nat.ble 1 sz
        · rw [hb] at hq; exact hq.elim
        · rw [hb, cond_true] at hq
          simp only [Bool.and_eq_true] at hb
          obtain rfl : n = sz := Nat.eq_of_beq_eq_true hb.1
          have h1 : 1 ≤ n := Nat.le_of_ble_eq_true hb.2
          obtain ⟨⟨z0, z1⟩, hq⟩ := hq
          obtain ⟨u, hu0⟩ := hm.sat.getB hk
          have hs : VecSat w1 e' n u m xs := hm.sat.blk k _ u hk hu0
          obtain ⟨a0, cap, rfl⟩ : ∃ a0 cap, u = .slice (some a0) m cap := by
            rcases hs.view.2 with ⟨-, hm0⟩ | ⟨b, cap, rfl, -⟩
            · omega
            · exact ⟨_, cap, rfl⟩
          have g1 := hu0
          rw [g1] at hv
          simp only [Option.some.injEq] at hv
          refine ⟨_, hq, .of (x := .pointer (some (a0.add (z.toNat * n)))) (by simp only [SV.to, g1]; simp) fun w hw => ?_⟩
          rw [hex, ← hv, ← hz]
          refine run_v ?_
          have hu' := und_of hu
          have hn' := size_of hn w
          simp [Instr.indexAt, run_underlying hu', asIntOf, hn', z0, z1]
      · exact hq.elim
    · rename_i e e' sz m cells hu hk
      have hk := h.see hk
      split at hq
      · rename_i n hn
        cases hb : Nat.beq n sz && Nat.ble 1 sz
        · rw [hb] at hq; exact hq.elim
        · rw [hb, cond_true] at hq
          simp only [Bool.and_eq_true] at hb
          obtain rfl : n = sz := Nat.eq_of_beq_eq_true hb.1
          have h1 : 1 ≤ n := Nat.le_of_ble_eq_true hb.2
          obtain ⟨⟨z0, z1⟩, hq⟩ := hq
          obtain ⟨u, hu0⟩ := hm.sat.getB hk
          obtain ⟨xs, -, hs⟩ := hm.sat.blk k _ u hk hu0
          obtain ⟨a0, cap, rfl⟩ : ∃ a0 cap, u = .slice (some a0) m cap := by
            rcases hs.view.2 with ⟨-, hm0⟩ | ⟨b, cap, rfl, -⟩
            · omega
            · exact ⟨_, cap, rfl⟩
          have g1 := hu0
          rw [g1] at hv
          simp only [Option.some.injEq] at hv
          refine ⟨_, hq, .of (x := .pointer (some (a0.add (z.toNat * n)))) (by simp only [SV.to, g1]; simp) fun w hw => ?_⟩
          rw [hex, ← hv, ← hz]
          refine run_v ?_
          have hu' := und_of hu
          have hn' := size_of hn w
          simp [Instr.indexAt, run_underlying hu', asIntOf, hn', z0, z1]
      · exact hq.elim
    · exact hq.elim
  · rename_i k m0 kk z hx hi
    have hv := h.val hx
    have hz := (h.pv hi).symm
    simp only [SV.to] at hv
    split at hv
    case h_2 => cases hv
    rename_i p mm cap hBk
    simp only [Option.some.injEq] at hv
    have fin : ∀ {e : TypeId} {n : Nat}, pureVal P (underlying t) = some (.slice e) → pureVal P (sizeOf e) = some n → 0 ≤ z → z < m0 → Qs (.elt k n z.toNat 0) → ∃ s, Qs s ∧ QuietRes P w0 bs H B a o s := by
      intro e n hu hn z0 z1 hq
      refine ⟨_, hq, .of (x := .pointer (some (p.add (z.toNat * n)))) (by simp only [SV.to, hBk]; simp) fun w hw => ?_⟩
      rw [hex, ← hv, ← hz]
      refine run_v ?_
      have hu' := und_of hu
      have hn' := size_of hn w
      simp [Instr.indexAt, run_underlying hu', asIntOf, hn', z0, z1]
    split at hq
    · rename_i e o' e' sz m xs hu hk
      split at hq
      · rename_i n hn
        cases hb : (Nat.beq n sz && Nat.ble 1 sz && Nat.ble m0 m)
        · rw [hb] at hq; exact hq.elim
        · rw [hb, cond_true] at hq
          simp only [Bool.and_eq_true] at hb
          obtain rfl : n = sz := Nat.eq_of_beq_eq_true hb.1.1
          obtain ⟨⟨z0, z1⟩, hq⟩ := hq
          exact fin hu hn z0 z1 hq
      · exact hq.elim
    · rename_i e e' sz m cells hu hk
      split at hq
      · rename_i n hn
        cases hb : (Nat.beq n sz && Nat.ble 1 sz && Nat.ble m0 m)
        · rw [hb] at hq; exact hq.elim
        · rw [hb, cond_true] at hq
          simp only [Bool.and_eq_true] at hb
          obtain rfl : n = sz := Nat.eq_of_beq_eq_true hb.1.1
          obtain ⟨⟨z0, z1⟩, hq⟩ := hq
          exact fin hu hn z0 z1 hq
      · exact hq.elim
    · exact hq.elim
  · rename_i k off kk z hx hi
    have hv := h.val hx
    have hz := (h.pv hi).symm
    split at hq
    · rename_i m e hu
      split at hq
      · rename_i n hn
        obtain ⟨⟨z0, z1⟩, hq⟩ := hq
        simp only [SV.to] at hv
        split at hv
        · rename_i b hbk
          simp only [Option.some.injEq] at hv
          refine ⟨_, hq, .of (x := .pointer (some ⟨b, off + z.toNat * n, none⟩)) (by simp only [SV.to, hbk]) fun w hw => ?_⟩
          rw [hex, ← hv, ← hz]
          refine run_v ?_
          have hu' := und_of hu
          have hn' := size_of hn w
          simp [Instr.indexAt, run_underlying hu', asIntOf, hn', z0, z1, Instr.sureAddr]
          unfold Addr.add
          split <;> simp_all
        · cases hv
      · exact hq.elim
    · exact hq.elim
  · exact evalPure_ok h hq
theorem evalIndex_ok {V : View} {H : List Blk} {B : List Value} {a : Act} (h : Vw V H B a) {o : Oper} {t : TypeId} {x ix : Operand} (ho : o.op = .index t x ix) {Qs : SV → Prop} (hq : (evalIndex P V o t x ix).ok Qs) : ∃ s, Qs s ∧ QuietRes P w0 bs H B a o s := by
  have hex : execOp a.eval o = (do pure (Next.value (← Instr.index t (a.eval x) (a.eval ix))) : Sem Next) := by unfold execOp; rw [ho]
  unfold evalIndex at hq
  split at hq
  · rename_i s kk z hx hi
    have hv := (h.pv hx).symm
    have hz := (h.pv hi).symm
    split at hq
    · rename_i hu
      obtain ⟨⟨z0, z1⟩, hq⟩ := hq
      refine ⟨_, hq, .of rfl fun w hw => ?_⟩
      rw [hex, ← hv, ← hz]
      refine run_v ?_
      have hu' := und_of hu
      have hlt : z.toNat < s.size := by omega
      have hge : s[z.toNat]? = some s[z.toNat] := getElem?_pos s z.toNat hlt
      have hd : s.data.toList.getD z.toNat 0 = s[z.toNat] := by
        rw [List.getD_eq_getElem?_getD, List.getElem?_eq_getElem (by simpa using hlt)]
        simp; rfl
      unfold byteAt
      rw [hd]
      simp [Instr.index, run_underlying hu', asIntOf, z0, hge]
    · exact hq.elim
  · rename_i cs kk z hx hi
    cases hcc : isConc V ix
    · rw [hcc, cond_false] at hq
      have hv := (h.pv hx).symm
      have hz := (h.pv hi).symm
      split at hq
      · rename_i m e hu
        split at hq
        · rename_i K hK hsz hag
          obtain ⟨⟨z0, z1⟩, hc, hq⟩ := hq
          refine ⟨_, hq, .of rfl fun w hw => ?_⟩
          rw [hex, ← hv, ← hz]
          refine run_v ?_
          have hu' := und_of hu
          unfold cellIs at hc
          have hpart : (part e cs (z.toNat * 1)).run P w = .ok (K.mk (cellOf cs z.toNat)) w := by
            unfold part
            rw [run_bind_pure hag]
            simp only [Bool.false_eq_true, if_false, Nat.mul_one, hc]
            rfl
          have hasI : (asIntOf (.int kk z)).run P w = .ok (kk, z) w := rfl
          show (Instr.index t (.agg cs) (.int kk z)).run P w = _
          unfold Instr.index
          rw [run_bind_ok hasI]
          simp only
          rw [run_bind_ok (run_underlying hu' w)]
          simp only [z0, z1, and_self, if_true]
          rw [run_bind_pure hsz]
          exact hpart
        · exact hq.elim
      · exact hq.elim
    · rw [hcc, cond_true] at hq
      exact evalPure_ok h hq
  · exact evalPure_ok h hq
theorem intO_some {V : View} {H : List Blk} {B : List Value} {a : Act} (h : Vw V H B a) {d : Int} {x : Option Operand} {z : Int} (e : intO V d x = some z) : (x = none ∧ z = d) ∨ ∃ y k, x = some y ∧ a.eval y = .int k z := by
  unfold intO at e
  split at e
  · simp only [Option.some.injEq] at e; exact .inl ⟨rfl, e.symm⟩
  · rename_i y
    split at e
    · rename_i k z' hy
      have := h.pv hy
      simp only [Option.some.injEq] at e
      subst e
      exact .inr ⟨y, k, rfl, this⟩
    · cases e
theorem sliceBound_run (k : IntKind) (z : Int) (y : Nat) (c : BoundsCode) (h0 : 0 ≤ z) (h1 : z ≤ y) (w : World) : (Instr.sliceBound (.int k z) y c).run P w = .ok z.toNat w := by
  simp [Instr.sliceBound, asIntOf, h0, h1]
theorem someL_ok {V : View} {H : List Blk} {B : List Value} {a : Act} (h : Vw V H B a) {w : World} (hw : Mem w0 bs H B w) {k : Nat} {u : Value} (hu : B[k]? = some u) (hb : someL (V.see k) = true) : ∃ p c, u = .slice (some p) (lenL (V.see k)) c ∧ lenL (V.see k) ≤ c := by
  unfold someL at hb
  unfold lenL
  split at hb
  · rename_i o' e' sz n xs hk
    have hs : VecSat w e' sz u n xs := hw.sat.blk k _ _ (h.see hk) hu
    have hn : 0 < n := by simpa [Nat.blt_eq] using hb
    rcases hs.view.2 with ⟨-, h0⟩ | ⟨g, cap, h0, -, h1, -⟩
    · omega
    · exact ⟨_, _, h0, h1⟩
  · rename_i e' sz n xs hk
    obtain ⟨ys, -, hs⟩ := hw.sat.blk k _ _ (h.see hk) hu
    have hn : 0 < n := by simpa [Nat.blt_eq] using hb
    rcases hs.view.2 with ⟨-, h0⟩ | ⟨g, cap, h0, -, h1, -⟩
    · omega
    · exact ⟨_, _, h0, h1⟩
  · rename_i e' sz n xp xs hk
    obtain ⟨ys, -, hs⟩ := hw.sat.blk k _ _ (h.see hk) hu
    have hn : 0 < n := by simpa [Nat.blt_eq] using hb
    rcases hs.view.2 with ⟨-, h0⟩ | ⟨g, cap, h0, -, h1, -⟩
    · omega
    · exact ⟨_, _, h0, h1⟩
  · cases hb
theorem evalSlice_ok {V : View} {H : List Blk} {B : List Value} {a : Act} (h : Vw V H B a) {w1 : World} (hm : Mem w0 bs H B w1) {o : Oper} {t : TypeId} {x : Operand} {lo hi : Option Operand} (ho : o.op = .slice t x lo hi none) {Qs : SV → Prop} (hq : (evalSlice P V o t x lo hi).ok Qs) : ∃ s, Qs s ∧ QuietRes P w0 bs H B a o s := by
  have hex : execOp a.eval o = (do pure (Next.value (← Instr.sliceAt t (a.eval x) (lo.map a.eval) (hi.map a.eval) none)) : Sem Next) := by unfold execOp; rw [ho]; rfl
  unfold evalSlice at hq
  split at hq
  · rename_i s hx
    have hv := (h.pv hx).symm
    split at hq
    · rename_i l z hu hl hz
      obtain ⟨⟨l0, l1, z1⟩, hq⟩ := hq
      refine ⟨_, hq, .of rfl fun w hw => ?_⟩
      rw [hex, ← hv]
      refine run_v ?_
      have hu' := und_of hu
      have hz0 : 0 ≤ z := by omega
      rcases intO_some h hl with ⟨rfl, rfl⟩ | ⟨ly, lk, rfl, hly⟩ <;> rcases intO_some h hz with ⟨rfl, rfl⟩ | ⟨hy, hk, rfl, hhy⟩
      · simp [Instr.sliceAt, Instr.slice, run_underlying hu', Instr.sliceBounds]
      · have hs1 := fun c => sliceBound_run (P := P) hk z s.size c hz0 z1 w
        simp [Instr.sliceAt, Instr.slice, run_underlying hu', Instr.sliceBounds, hhy, hs1]
      · have hs2 := fun c => sliceBound_run (P := P) lk l s.size c l0 (by omega) w
        simp [Instr.sliceAt, Instr.slice, run_underlying hu', Instr.sliceBounds, hly, hs2]
      · have hs1 := fun c => sliceBound_run (P := P) hk z s.size c hz0 z1 w
        have hs2 := fun c => sliceBound_run (P := P) lk l z.toNat c l0 (by omega) w
        simp [Instr.sliceAt, Instr.slice, run_underlying hu', Instr.sliceBounds, hly, hhy, hs1, hs2]
    · exact hq.elim
  · split at hq
    · rename_i k y hx
      have hv := h.val hx
      simp only [SV.to] at hv
      split at hq
      · rename_i e kd hh hu hy
        split at hq
        · rename_i sz hsz
          cases hb : someL (V.see k)
          · rw [hb] at hq; exact hq.elim
          · rw [hb, cond_true] at hq
            obtain ⟨⟨z0, z1⟩, hq⟩ := hq
            obtain ⟨p, cap, he, hcap⟩ := someL_ok h hm hv hb
            refine ⟨_, hq, .of (x := .slice (some p) hh.toNat cap) (by simp only [SV.to, hv, he]) fun w hw => ?_⟩
            have hyv := h.pv hy
            rw [hex, he]
            refine run_v ?_
            have hu' := und_of hu
            have hi := size_of hsz w
            have hs1 := fun c => sliceBound_run (P := P) kd hh cap c z0 (by omega) w
            have hp0 : p.add 0 = p := by simp [Addr.add]
            simp [Instr.sliceAt, Instr.slice, run_underlying hu', Instr.sliceBounds, hyv, hs1, hi, hp0]
        · exact hq.elim
      · exact hq.elim
    · exact evalPure_ok h hq
theorem toList_beq0 (a b : ByteArray) : (a.toList == b.toList) = decide (a = b) := by
  rw [Bool.eq_iff_iff]
  simp only [beq_iff_eq, decide_eq_true_eq]
  constructor
  · intro h
    have h1 : a.data.toList = b.data.toList := by simpa [ByteArray.toList_eq] using h
    exact ByteArray.ext (Array.toList_inj.1 h1)
  · intro h; rw [h]
mutual
theorem eqV_ok : ∀ (n d : Nat) (t : TypeId) (x y : Value) (b : Bool), n ≤ d → eqV P n t x y = some b → ∀ w, (Op.equalIn d t x y).run P w = .ok b w
  | 0, _, _, _, _, _, _, h, _ => by simp [eqV] at h
  | n + 1, d, t, x, y, b, hd, h, w => by
    obtain ⟨d, rfl⟩ : ∃ d', d = d' + 1 := ⟨d - 1, by omega⟩
    simp only [eqV] at h
    split at h
    · rename_i hu
      simp only [Option.some.injEq] at h; subst h
      exact run_equalIn_bool' w d t _ _ hu
    · rename_i kk k a k' b' hu
      cases hk : decide (k = k')
      · rw [hk] at h; cases h
      · rw [hk, cond_true, Option.some.injEq] at h
        subst h
        obtain rfl := of_decide_eq_true hk
        exact run_equalIn_int w d t k kk a b' hu
    · rename_i hu
      simp only [Option.some.injEq] at h; subst h
      rw [run_equalIn_string w d t _ _ hu, toList_beq0]
    · rename_i fs xs ys hu
      cases hs : P.stoodInHeld t
      · rw [hs, cond_false] at h
        have hf : P.fieldsOf t = fs := by unfold Program.fieldsOf; rw [hu]
        rw [run_equalIn_agg w d t xs ys (by rw [hf]; exact hu) hs, hf]
        exact eqFs_ok n d xs ys fs.toList b (by omega) h w
      · rw [hs] at h; cases h
    · cases h
theorem eqFs_ok : ∀ (n d : Nat) (xs ys : Array Value) (fs : List Field) (b : Bool), n ≤ d → eqFs P n xs ys fs = some b → ∀ w, (Op.eqFields d xs ys fs).run P w = .ok b w
  | n, d, xs, ys, [], b, _, h, w => by
    cases n <;> (simp only [eqFs, Option.some.injEq] at h; subst h; rfl)
  | 0, _, _, _, _ :: _, _, _, h, _ => by simp [eqFs] at h
  | n + 1, d, xs, ys, f :: fs, b, hd, h, w => by
    simp only [eqFs] at h
    cases hn : (f.name == "_")
    · rw [hn, cond_false] at h
      split at h
      · rename_i va vb ha hb
        split at h
        · rename_i e r he hr
          simp only [Option.some.injEq] at h
          subst h
          have h1 := eqV_ok n d f.type va vb e (by omega) he w
          have h2 := eqFs_ok n d xs ys fs r (by omega) hr w
          have hne : f.name ≠ "_" := by simpa using hn
          simp only [Op.eqFields, if_pos hne]
          rw [run_bind_pure ha, run_bind_pure hb, run_bind_ok h1]
          cases e
          · rfl
          · simpa using h2
        · cases h
      · cases h
    · rw [hn] at h; cases h
end
theorem toList_beq (a b : ByteArray) : (a.toList == b.toList) = decide (a = b) := by
  rw [Bool.eq_iff_iff]
  simp only [beq_iff_eq, decide_eq_true_eq]
  constructor
  · intro h
    have h1 : a.data.toList = b.data.toList := by simpa [ByteArray.toList_eq] using h
    exact ByteArray.ext (Array.toList_inj.1 h1)
  · intro h; rw [h]
theorem evalEq_ok {V : View} {H : List Blk} {B : List Value} {a : Act} (h : Vw V H B a) {o : Oper} {neg : Bool} {op : BinOp} (hop : op = bif neg then .neq else .eql) {t t2 : TypeId} {x y : Operand} (ho : o.op = .binOp op t x y t2) {Qs : SV → Prop} (hq : (evalEq P V o neg t x y).ok Qs) : ∃ s, Qs s ∧ QuietRes P w0 bs H B a o s := by
  have hex : execOp a.eval o = (do pure (Next.value (← (do eqGuard op t x y (a.eval x) (a.eval y); binOp op t (a.eval x) (a.eval y)))) : Sem Next) := by unfold execOp; rw [ho]
  have nilp : ∀ (p : Addr), a.eval x = .pointer (some p) → a.eval y = .pointer none → (∃ e, P.underlying t = some (.pointer e)) → ∀ w, (execOp a.eval o).run P w = .ok (.value (.bool neg)) w := by
    intro p e1 e2 ⟨e, hu⟩ w
    rw [hex, e1, e2]
    refine run_v ?_
    have hpe : P.pointee t = e := by unfold Program.pointee; rw [hu]
    have h1 := run_equal_pointer_nil (P := P) w t (some p) (by rw [hpe]; exact hu)
    subst hop
    cases neg
    · show ((Op.equal t (.pointer (some p)) (.pointer none)) >>= fun b => pure (Value.bool b)).run P w = _
      rw [run_bind_ok h1]; rfl
    · show ((Op.equal t (.pointer (some p)) (.pointer none)) >>= fun b => pure (Value.bool (!b))).run P w = _
      rw [run_bind_ok h1]; rfl
  unfold evalEq at hq
  split at hq
  · rename_i k hx hy
    have hv := h.val hx
    have hz := h.pv hy
    split at hq
    · rename_i e hu
      cases hb : someL (V.see k)
      · rw [hb] at hq; exact hq.elim
      · rw [hb, cond_true] at hq
        simp only [SV.to] at hv
        refine ⟨_, hq, .of (x := .bool neg) (by cases neg <;> rfl) fun w hw => ?_⟩
        have hsome : ∃ p n c, a.eval x = .slice (some p) n c := by
          unfold someL at hb
          split at hb
          · rename_i o' e' sz n xs hk
            have hs : VecSat w e' sz (a.eval x) n xs := hw.sat.blk k _ _ (h.see hk) hv
            have hn : 0 < n := by simpa [Nat.blt_eq] using hb
            rcases hs.view.2 with ⟨-, h0⟩ | ⟨g, cap, h0, -⟩
            · omega
            · exact ⟨_, _, _, h0⟩
          · rename_i e' sz n xs hk
            obtain ⟨ys, -, hs⟩ := hw.sat.blk k _ _ (h.see hk) hv
            have hn : 0 < n := by simpa [Nat.blt_eq] using hb
            rcases hs.view.2 with ⟨-, h0⟩ | ⟨g, cap, h0, -⟩
            · omega
            · exact ⟨_, _, _, h0⟩
          · rename_i e' sz n xp xs hk
            obtain ⟨ys, -, hs⟩ := hw.sat.blk k _ _ (h.see hk) hv
            have hn : 0 < n := by simpa [Nat.blt_eq] using hb
            rcases hs.view.2 with ⟨-, h0⟩ | ⟨g, cap, h0, -⟩
            · omega
            · exact ⟨_, _, _, h0⟩
          · cases hb
        obtain ⟨p, n, c, e1⟩ := hsome
        rw [hex, e1, hz]
        refine run_v ?_
        have hg : eqGuard op t x y (.slice (some p) n c) (.slice none 0 0) = pure () := by unfold eqGuard; split <;> rfl
        rw [hg]
        subst hop
        cases neg
        · exact Lib.run_eql_slice_nil w t e (some p) n c 0 0 hu
        · show (binOp .neq t (.slice (some p) n c) (.slice none 0 0)).run P w = _
          simp only [binOp]
          simp [Op.equal, Op.maxDepth, Lib.run_equalIn_slice_nil w 9999 t e (some p) n c 0 0 hu]
    · exact hq.elim
  · rename_i k off hx hy
    have hv := h.val hx
    have hz := h.pv hy
    split at hq
    · rename_i e hu
      simp only [SV.to] at hv
      split at hv
      · simp only [Option.some.injEq] at hv
        refine ⟨_, hq, .of (x := .bool neg) ?_ fun w hw => nilp _ hv.symm hz ⟨e, hu⟩ w⟩
        cases neg <;> rfl
      · cases hv
    · exact hq.elim
  · rename_i k sz i off hx hy
    have hv := h.val hx
    have hz := h.pv hy
    split at hq
    · rename_i e hu
      simp only [SV.to] at hv
      split at hv
      · simp only [Option.some.injEq] at hv
        refine ⟨_, hq, .of (x := .bool neg) ?_ fun w hw => nilp _ hv.symm hz ⟨e, hu⟩ w⟩
        cases neg <;> rfl
      · cases hv
    · exact hq.elim
  · rename_i s ys hx hy
    have hz := h.pv hy
    split at hq
    · rename_i xs hp
      have hv := h.val hx
      rw [SV.plain_to hp B] at hv
      simp only [Option.some.injEq] at hv
      cases hg : P.eqGuardType P.depth t
      · rw [hg, cond_false] at hq
        split at hq
        · rename_i b hb
          refine ⟨_, hq, .of rfl fun w hw => ?_⟩
          rw [hex, ← hv, hz]
          refine run_v ?_
          rw [run_bind_ok (run_eqGuard_agg w op t x y xs ys hg)]
          have h1 := eqV_ok 60 10000 t (.agg xs) (.agg ys) b (by decide) hb w
          subst hop
          cases neg
          · simp only [cond_false]
            rw [run_eql_struct, h1]; rfl
          · simp only [cond_true]
            rw [run_neq_struct, h1]; rfl
        · exact hq.elim
      · rw [hg] at hq; exact hq.elim
    · exact hq.elim
  · exact evalPure_ok h hq
theorem run_equalIn_func_nil (d : Nat) {t : TypeId} {ps rs : Array TypeId} {va : Bool} (h : P.underlying t = some (.func ps rs va)) (fn : Fn) (xs ys : Array Value) (w : World) : (Op.equalIn (d + 1) t (.func fn xs ys) .nilFunc).run P w = .ok false w := by
  simp [Op.equalIn, run_underlying h]
theorem evalBin0_ok {V : View} {H : List Blk} {B : List Value} {a : Act} (h : Vw V H B a) {o : Oper} {op : BinOp} {t t2 : TypeId} {x y : Operand} (ho : o.op = .binOp op t x y t2) {Qs : SV → Prop} (hq : (evalBin0 P V o op t x y).ok Qs) : ∃ s, Qs s ∧ QuietRes P w0 bs H B a o s := by
  have hex : execOp a.eval o = (do pure (Next.value (← (do eqGuard op t x y (a.eval x) (a.eval y); binOp op t (a.eval x) (a.eval y)))) : Sem Next) := by unfold execOp; rw [ho]
  unfold evalBin0 at hq
  split at hq
  · rename_i s1 s2 hx hy
    have hv := (h.pv hx).symm
    have hz := (h.pv hy).symm
    obtain ⟨hle, hq⟩ := hq
    refine ⟨_, hq, .of rfl fun w hw => ?_⟩
    rw [hex, ← hv, ← hz]
    refine run_v ?_
    have : ¬ ((s1.size + s2.size : Nat) : Int) > IntKind.i64.max := by
      have : IntKind.i64.max = 9223372036854775807 := by decide
      rw [this]; omega
    simp only [eqGuard, binOp, Op.stringOp, if_neg this]
    rfl
  · rename_i s1 s2 hx hy
    have hv := (h.pv hx).symm
    have hz := (h.pv hy).symm
    refine ⟨_, hq, .of rfl fun w hw => ?_⟩
    rw [hex, ← hv, ← hz]
    refine run_v ?_
    simp only [eqGuard, binOp, Op.stringOp, toList_beq]
    rfl
  · rename_i s1 s2 hx hy
    have hv := (h.pv hx).symm
    have hz := (h.pv hy).symm
    refine ⟨_, hq, .of rfl fun w hw => ?_⟩
    rw [hex, ← hv, ← hz]
    refine run_v ?_
    simp only [eqGuard, binOp, Op.stringOp, toList_beq]
    rfl
  · exact evalEq_ok h (neg := false) rfl ho hq
  · split at hq
    · rename_i fn l1 l2 ps rs va hx hy hu
      have hv := h.val hx
      have hz := (h.pv hy).symm
      simp only [SV.to] at hv
      split at hv
      · rename_i xs ys h1 h2
        simp only [Option.some.injEq] at hv
        refine ⟨_, hq, .of rfl fun w hw => ?_⟩
        rw [hex, ← hv, ← hz]
        refine run_v ?_
        have heq : (Op.equal t (.func fn xs.toArray ys.toArray) .nilFunc).run P w = .ok false w := by
          exact run_equalIn_func_nil 9999 hu fn _ _ w
        show (do let r ← Op.equal t (.func fn xs.toArray ys.toArray) .nilFunc; pure (Value.bool !r) : Sem Value).run P w = _
        rw [run_bind_ok heq]
        rfl
      · cases hv
    · exact evalEq_ok h (neg := true) rfl ho hq
  · exact evalPure_ok h hq
theorem knI_ok {o : Option SV} {k : IntKind} {a : Int} (h : knI o = some (k, a)) : o = some (.c (.int k a)) := by
  unfold knI at h
  split at h
  · split at h
    · simp only [Option.some.injEq, Prod.mk.injEq] at h; rw [h.1, h.2]
    · cases h
  · cases h
theorem boolS_to (b : Bool) (B : List Value) : (boolS b).to B = some (.bool b) := by cases b <;> rfl
theorem evalBin_ok {V : View} {H : List Blk} {B : List Value} {a : Act} (h : Vw V H B a) {o : Oper} {op : BinOp} {t t2 : TypeId} {x y : Operand} (ho : o.op = .binOp op t x y t2) {Qs : SV → Prop} (hq : (evalBin P V o op t x y).ok Qs) : ∃ s, Qs s ∧ QuietRes P w0 bs H B a o s := by
  unfold evalBin at hq
  split at hq
  · rename_i s hs
    unfold fastBin at hs
    split at hs
    · rename_i k a' hx
      split at hs
      · rename_i k' b hy
        by_cases hk : k = k'
        · subst hk
          rw [decide_eq_true rfl, cond_true] at hs
          have hv := h.val (knI_ok hx)
          have hz := h.val (knI_ok hy)
          simp only [SV.to, Option.some.injEq] at hv hz
          have hex : ∀ {v : Value} {w : World}, (binOp op t (.int k a') (.int k b)).run P w = .ok v w → (execOp a.eval o).run P w = .ok (.value v) w := by
            intro v w hr
            unfold execOp; rw [ho]
            refine run_v ?_
            rw [← hv, ← hz]
            have hg : eqGuard op t x y (.int k a') (.int k b) = pure () := by unfold eqGuard; split <;> rfl
            rw [hg]
            exact hr
          unfold fastI at hs
          split at hs <;> first | (cases hs; done) | (simp only [Option.some.injEq] at hs; subst hs; refine ⟨_, hq, ?_⟩; first | (refine .of (x := .int k (k.wrap _)) (by rw [fastWrap_eq]; rfl) fun w hw => hex ?_; simp [binOp, Op.intArith]; done) | (refine .of (boolS_to _ _) fun w hw => hex ?_; simp [binOp, Op.intCmp]; done) | (refine .of (x := .int k (k.wrap _)) (by rw [fastWrap_eq]; rfl) fun w hw => hex ?_; simp [binOp, Op.intArith]; rfl) | (refine .of (boolS_to _ _) fun w hw => hex ?_; simp [binOp, Op.intCmp]; rfl))
        · rw [decide_eq_false hk] at hs; cases hs
      · cases hs
    · cases hs
  · exact evalBin0_ok h ho hq
theorem run_program (w : World) : (program).run P w = .ok P w := rfl
theorem enter_run {f : FuncId} (hg : isGo P f = true) (xs : Array Value) (w : World) : (callFunc f xs).run P w = .ok (.enter f xs) w := by
  unfold isGo at hg
  split at hg
  · rename_i fn hfn
    simp only [Bool.and_eq_true, Bool.not_eq_true'] at hg
    unfold callFunc
    rw [run_bind_ok (run_program w)]
    simp only [hfn, hg.1, hg.2, Bool.false_eq_true, if_false]
    rfl
  · cases hg
theorem map_toArray (xs : Array Operand) (f : Operand → Value) : xs.map f = (xs.toList.map f).toArray := by
  apply Array.toList_inj.1
  rw [Array.toList_map]
theorem run_typeInfo {t : TypeId} {i : TypeInfo} (h : P.info? t = some i) (w : World) : (typeInfo t).run P w = .ok i w := by
  unfold typeInfo
  rw [run_bind_ok (run_program w)]
  simp only [h]
  rfl
theorem method_run {t : TypeId} {name : String} {f : FuncId} (h : methodOf P t name = some f) (v : Value) (fuel : Nat) (w : World) : (method (fuel + 1) t v name).run P w = .ok (f, v) w := by
  unfold methodOf at h
  split at h
  · rename_i i hi
    split at h
    · rename_i m d hm hd
      have hd' := run_underlying (P := P) hd w
      have hrc : ∀ (ptr : Bool) (wr : Option String), (bif isPtr d then ptr else !ptr) = true → (receiverAt t (.val v) ptr wr).run P w = .ok v w := by
        intro ptr wr hp
        unfold receiverAt
        rw [run_bind_ok hd']
        cases d <;> cases ptr <;> first | rfl | cases hp
      unfold method
      rw [run_bind_ok (run_typeInfo hi w)]
      simp only [hm]
      split at h
      · rename_i f' ptr hf
        cases hp : (m.path.isEmpty && (bif isPtr d then ptr else !ptr))
        · rw [hp] at h; cases h
        · rw [hp, cond_true, Option.some.injEq] at h
          subst h
          simp only [Bool.and_eq_true] at hp
          have hpe : m.path.toList = [] := by simpa using hp.1
          rw [hpe]
          have hf0 : (follow [] t (.val v)).run P w = .ok (t, .val v) w := rfl
          rw [run_bind_ok hf0]
          simp only [hf]
          rw [run_bind_ok (hrc ptr _ hp.2)]
          rfl
      · cases h
    · cases h
  · cases h
theorem target_run {V : View} {H : List Blk} {B : List Value} {a : Act} (h : Vw V H B a) {o : Oper} {c : Call} (ho : o.op = .call c) {f : FuncId} {ss : List SV} (ht : target P V c = some (f, ss)) (hg : isGo P f = true) :
    ∃ vs, SV.tos B ss = some vs ∧ ∀ w, (execOp a.eval o).run P w = .ok (.enter f vs.toArray) w := by
  have hex : execOp a.eval o = (do let d ← resolve a.eval c o.type; invoke d.target d.args : Sem Next) := by unfold execOp; rw [ho]
  unfold target at ht
  split at ht
  case h_2 => cases ht
  rename_i av has
  have hargs0 := vals_to h has
  have hargs : c.args.map a.eval = (c.args.toList.map a.eval).toArray := map_toArray _ _
  have clo : ∀ (x : Operand) (A B' : List SV) (xa xb : List Value), c.callee = .value x → SV.tos B A = some xa → SV.tos B B' = some xb → a.eval x = .func (.func f) xa.toArray xb.toArray → ss = A ++ av ++ B' →
      ∃ vs, SV.tos B ss = some vs ∧ ∀ w, (execOp a.eval o).run P w = .ok (.enter f vs.toArray) w := by
    intro x A B' xa xb hc ha hb he hss
    subst hss
    refine ⟨_, tos_append (tos_append ha hargs0) hb, fun w => ?_⟩
    rw [hex]
    unfold resolve
    simp only [hc, he, Deferred.ofValue, hargs]
    show (invoke (.fn (.func f) xb.toArray) (xa.toArray ++ (c.args.toList.map a.eval).toArray)).run P w = _
    simp only [invoke]
    rw [enter_run hg]
    simp
  have inv : ∀ (r : Operand) (name : String) (t : TypeId) (v : Value) (s : SV), c.callee = .invoke r name → a.eval r = .iface t v → s.to B = some v → methodOf P t name = some f → ss = s :: av →
      ∃ vs, SV.tos B ss = some vs ∧ ∀ w, (execOp a.eval o).run P w = .ok (.enter f vs.toArray) w := by
    intro r name t v s hc he hs hm hss
    subst hss
    refine ⟨v :: c.args.toList.map a.eval, by simp [SV.tos, hs, hargs0], fun w => ?_⟩
    rw [hex]
    unfold resolve
    simp only [hc, he, hargs]
    show (invoke (.fn (.method name) #[]) (#[.iface t v] ++ (c.args.toList.map a.eval).toArray)).run P w = _
    have e0 : (#[Value.iface t v] ++ (c.args.toList.map a.eval).toArray)[0]? = some (.iface t v) := by simp
    have e1 : (#[Value.iface t v] ++ (c.args.toList.map a.eval).toArray).extract 1 (#[Value.iface t v] ++ (c.args.toList.map a.eval).toArray).size = (c.args.toList.map a.eval).toArray := by
      apply Array.toList_inj.1; simp
      exact List.take_of_length_le (by simp)
    simp only [invoke, e0, e1, callMethod]
    rw [run_bind_ok (run_program w)]
    have hfu : P.types.size + Made.depth = (P.types.size + 99) + 1 := rfl
    rw [hfu, run_bind_ok (method_run hm v _ w)]
    simp only
    rw [enter_run hg]
    simp
  split at ht
  · rename_i f' hc
    simp only [Option.some.injEq, Prod.mk.injEq] at ht
    obtain ⟨rfl, rfl⟩ := ht
    exact clo (.func f') [] [] [] [] hc rfl rfl rfl (by simp)
  · rename_i x hnf hc
    split at ht
    · rename_i f' A B' hx
      simp only [Option.some.injEq, Prod.mk.injEq] at ht
      obtain ⟨rfl, rfl⟩ := ht
      have hv := h.val hx
      simp only [SV.to] at hv
      split at hv
      · rename_i xa xb h1 h2
        simp only [Option.some.injEq] at hv
        exact clo x A B' xa xb hc h1 h2 hv.symm rfl
      · cases hv
    · rename_i f' A B' hx
      simp only [Option.some.injEq, Prod.mk.injEq] at ht
      obtain ⟨rfl, rfl⟩ := ht
      have hv := h.val hx
      simp only [SV.to, Option.some.injEq] at hv
      exact clo x _ _ A.toList B'.toList hc (tos_plain _ _) (tos_plain _ _) (by simpa using hv.symm) rfl
    · rename_i f' A B' hx
      simp only [Option.some.injEq, Prod.mk.injEq] at ht
      obtain ⟨rfl, rfl⟩ := ht
      have hv := h.val hx
      simp only [SV.to, Option.some.injEq] at hv
      exact clo x _ _ A.toList B'.toList hc (tos_conc _ _) (tos_conc _ _) (by simpa using hv.symm) rfl
    · cases ht
  · rename_i r name hc
    split at ht
    · rename_i t s hx
      simp only [Option.map_eq_some_iff, Prod.mk.injEq] at ht
      obtain ⟨f', hm, rfl, rfl⟩ := ht
      have hv := h.val hx
      simp only [SV.to, Option.map_eq_some_iff] at hv
      obtain ⟨v, h1, h2⟩ := hv
      exact inv r name t v s hc h2.symm h1 hm rfl
    · rename_i t v hx
      simp only [Option.map_eq_some_iff, Prod.mk.injEq] at ht
      obtain ⟨f', hm, rfl, rfl⟩ := ht
      have hv := h.val hx
      simp only [SV.to, Option.some.injEq] at hv
      exact inv r name t v (.v v) hc hv.symm rfl hm rfl
    · rename_i t v hx
      simp only [Option.map_eq_some_iff, Prod.mk.injEq] at ht
      obtain ⟨f', hm, rfl, rfl⟩ := ht
      have hv := h.val hx
      simp only [SV.to, Option.some.injEq] at hv
      exact inv r name t v (.c v) hc hv.symm rfl hm rfl
    · cases ht
  · cases ht
theorem isStrMap_ok {t k e : TypeId} (h : isStrMap P t k e = true) : P.underlying t = some (.map k e) ∧ P.underlying k = some .string ∧ P.underlying e = some (.int .i64) ∧ ∀ w, (zeroValue e).run P w = .ok (.int .i64 0) w := by
  unfold isStrMap at h
  split at h
  · rename_i k' e' h1 h2 h3 h4
    simp only [Bool.and_eq_true] at h
    obtain rfl := Nat.eq_of_beq_eq_true h.1
    obtain rfl := Nat.eq_of_beq_eq_true h.2
    exact ⟨h1, h2, h3, fun w => pureVal_run h4 w⟩
  · cases h
theorem mGet_of {D : DataW Unit} {s : ByteArray} {c : Int} (h : D.atKey (mKey s) (.lit (.int .i64 0)) = .lit (.int .i64 c)) : mGet D s = c := by
  unfold mGet; rw [h]; rfl
theorem ext_at {V : View} {H : List Blk} {B : List Value} {a : Act} (h : Vw V H B a) {x : Operand} {k : Nat} {P' : Program} {K E : TypeId} {D : DataW Unit} (hx : V.val x = some (.ref k)) (hk : V.see k = some (.ext (.smap P' K E D))) {w : World} (hw : Mem w0 bs H B w) :
    ∃ b, a.eval x = .map (some b) ∧ B[k]? = some (.map (some b)) ∧ w.ownsMap P' K (plainElem P' E) b (Maps.size D) D := by
  have hv := h.val hx
  simp only [SV.to] at hv
  obtain ⟨b, e, ho⟩ := hw.sat.blk k _ _ (h.see hk) hv
  exact ⟨b, e, e ▸ hv, ho⟩
theorem evalLook_ok {V : View} {H : List Blk} {B : List Value} {a : Act} (h : Vw V H B a) {o : Oper} {t : TypeId} {x ix : Operand} {ok : Bool} (ho : o.op = .lookup t x ix ok) {Qs : SV → Prop} (hq : (evalLook P V o t x ix ok).ok Qs) : ∃ s, Qs s ∧ QuietRes P w0 bs H B a o s := by
  unfold evalLook at hq
  split at hq
  · rename_i k s hx hs
    split at hq
    · rename_i P' K E D hk
      cases hb : isStrMap P t K E
      · rw [hb] at hq; exact hq.elim
      · rw [hb, cond_true] at hq
        obtain ⟨e, hsz, hq⟩ := hq
        subst e
        obtain ⟨h1, h2, h3, h4⟩ := isStrMap_ok hb
        have hkey := h.pv hs
        have hkl : keyOf P' K (.string s) = some (mKey s) := Go.WideMaps.keyOf_string_mk h2 hsz
        cases ok
        · refine ⟨_, hq, .of (x := .int .i64 (mGet D s)) rfl fun w hw => ?_⟩
          obtain ⟨b, e, -, hown⟩ := ext_at h hx hk hw
          obtain ⟨c, hrun, hat, -⟩ := hown.lookup_int (Maps.string_keyed h2) h1 h3 (h4 w) hkl
          unfold execOp; rw [ho]
          refine run_v ?_
          rw [e, hkey, hrun, mGet_of hat]
        · refine ⟨_, hq, .of (x := .tuple #[.int .i64 (mGet D s), .bool (mHas D s)]) rfl fun w hw => ?_⟩
          obtain ⟨b, e, -, hown⟩ := ext_at h hx hk hw
          have hw0 : (Lit.int .i64 0).wf = true := by decide
          obtain ⟨v, ps, hrun, hv⟩ := hown.look_ok (Maps.string_keyed h2) h1 (h4 w) (plainElem_int h3 hw0) hkl
          obtain ⟨c, rfl, hc, hwc⟩ := plainElem_int_inv h3 hv
          simp only [Prod.mk.injEq] at hc
          unfold execOp; rw [ho]
          refine run_v ?_
          rw [e, hkey, hrun, mGet_of hc.1]
          rfl
    · exact hq.elim
  · exact evalPure_ok h hq
theorem evalCall_ok (hS : TabOk P S) {V : View} {H : List Blk} {B : List Value} {a : Act} (h : Vw V H B a) {w1 : World} (hm : Mem w0 bs H B w1) {o : Oper} {c : Call} (ho : o.op = .call c) {Qs : SV → Prop} (hq : (evalCall P S V o c).ok Qs) : ∃ s, Qs s ∧ QuietRes P w0 bs H B a o s := by
  have hex : execOp a.eval o = (do let d ← resolve a.eval c o.type; invoke d.target d.args : Sem Next) := by unfold execOp; rw [ho]
  unfold evalCall at hq
  cases hb : !isBuiltin c
  case true =>
    rw [hb, cond_true] at hq
    split at hq
    · rename_i f ss htg
      split at hq
      · rename_i xs hxs
        split at hq
        · rename_i t hp
          obtain ⟨hg, hcalls⟩ := hS f xs t hp
          obtain ⟨v, hqv, hpt⟩ := T.ok_point0 (T.ok_bind hq)
          obtain ⟨vs, hvs, hr⟩ := target_run h ho htg hg
          rw [plains_to hxs, Option.some.injEq] at hvs
          subst hvs
          refine ⟨_, hqv, v, rfl, fun w hw => ?_⟩
          unfold Oper.quietAt
          rw [hr]
          exact ⟨rfl, (hcalls v (hpt _ rfl) w).mono fun e w' ⟨he, hb⟩ => ⟨he, hw.below hb⟩⟩
        · exact hq.elim
      · exact hq.elim
    · exact hq.elim
  rw [hb, cond_false] at hq
  split at hq
  · rename_i hc
    split at hq
    · rename_i k n hss
      split at hq
      · rename_i t ht
        split at hq
        · rename_i e hu
          have h1 := vals_to h hss
          simp only [SV.tos] at h1
          split at h1
          case h_2 => cases h1
          rename_i x0 l0 hx0 hl0
          simp only [Option.some.injEq] at hl0 h1
          subst hl0
          simp only [SV.to] at hx0
          split at hx0
          case h_2 => cases hx0
          rename_i p mm cap hBk
          simp only [Option.some.injEq] at hx0
          subst hx0
          refine ⟨_, hq, .of rfl fun w hw => ?_⟩
          have hargs : c.args.map a.eval = #[.slice (some p) n cap] := by
            rw [map_toArray, ← h1]
          rw [hex]
          unfold resolve
          simp only [hc, hargs]
          have hu' := und_of hu
          show (invoke (.builtin .len c.argTypes o.type #[]) #[.slice (some p) n cap]).run P w = _
          simp only [invoke, builtin]
          refine run_v ?_
          simp [Builtin.len_, ht, run_underlying hu', goInt]
        · exact hq.elim
      · exact hq.elim
    · rename_i k hss
      split at hq
      · rename_i n sz f t hk ht
        have hk := h.see hk
        split at hq
        · rename_i e hu
          refine ⟨_, hq, .of rfl fun w hw => ?_⟩
          obtain ⟨p, cap, g1, -, -, g2⟩ := hw.row_at hk
          have h1 := vals_to h hss
          simp only [SV.tos, SV.to, g1, Option.some.injEq] at h1
          have hargs : c.args.map a.eval = #[.slice p n cap] := by
            rw [map_toArray, ← h1]
          rw [hex]
          unfold resolve
          simp only [hc, hargs]
          have hu' := und_of hu
          show (invoke (.builtin .len c.argTypes o.type #[]) #[.slice p n cap]).run P w = _
          simp only [invoke, builtin]
          refine run_v ?_
          simp [Builtin.len_, ht, run_underlying hu', goInt]
        · exact hq.elim
      · rename_i e0 sz n xs t hk ht
        have hk := h.see hk
        split at hq
        · rename_i e hu
          refine ⟨_, hq, .of rfl fun w hw => ?_⟩
          obtain ⟨u, hu0⟩ := hw.sat.getB hk
          have hs : VecSat w e0 sz u n xs := hw.sat.blk k _ u hk hu0
          obtain ⟨p, cap, rfl⟩ : ∃ p cap, u = .slice p n cap := by
            rcases hs.view.2 with ⟨rfl, rfl⟩ | ⟨b, cap, rfl, -⟩
            · exact ⟨_, _, rfl⟩
            · exact ⟨_, cap, rfl⟩
          have g1 := hu0
          have h1 := vals_to h hss
          simp only [SV.tos, SV.to, g1, Option.some.injEq] at h1
          have hargs : c.args.map a.eval = #[.slice p n cap] := by
            rw [map_toArray, ← h1]
          rw [hex]
          unfold resolve
          simp only [hc, hargs]
          have hu' := und_of hu
          show (invoke (.builtin .len c.argTypes o.type #[]) #[.slice p n cap]).run P w = _
          simp only [invoke, builtin]
          refine run_v ?_
          simp [Builtin.len_, ht, run_underlying hu', goInt]
        · exact hq.elim
      · rename_i e0 sz n cells t hk ht
        have hk := h.see hk
        split at hq
        · rename_i e hu
          refine ⟨_, hq, .of rfl fun w hw => ?_⟩
          obtain ⟨u, hu0⟩ := hw.sat.getB hk
          obtain ⟨xs, -, hs⟩ := hw.sat.blk k _ u hk hu0
          obtain ⟨p, cap, rfl⟩ : ∃ p cap, u = .slice p n cap := by
            rcases hs.view.2 with ⟨rfl, rfl⟩ | ⟨b, cap, rfl, -⟩
            · exact ⟨_, _, rfl⟩
            · exact ⟨_, cap, rfl⟩
          have g1 := hu0
          have h1 := vals_to h hss
          simp only [SV.tos, SV.to, g1, Option.some.injEq] at h1
          have hargs : c.args.map a.eval = #[.slice p n cap] := by
            rw [map_toArray, ← h1]
          rw [hex]
          unfold resolve
          simp only [hc, hargs]
          have hu' := und_of hu
          show (invoke (.builtin .len c.argTypes o.type #[]) #[.slice p n cap]).run P w = _
          simp only [invoke, builtin]
          refine run_v ?_
          simp [Builtin.len_, ht, run_underlying hu', goInt]
        · exact hq.elim
      · rename_i e0 sz n xp cells t hk ht
        have hk := h.see hk
        split at hq
        · rename_i e hu
          refine ⟨_, hq, .of rfl fun w hw => ?_⟩
          obtain ⟨u, hu0⟩ := hw.sat.getB hk
          obtain ⟨xs, -, hs⟩ := hw.sat.blk k _ u hk hu0
          obtain ⟨p, cap, rfl⟩ : ∃ p cap, u = .slice p n cap := by
            rcases hs.view.2 with ⟨rfl, rfl⟩ | ⟨b, cap, rfl, -⟩
            · exact ⟨_, _, rfl⟩
            · exact ⟨_, cap, rfl⟩
          have g1 := hu0
          have h1 := vals_to h hss
          simp only [SV.tos, SV.to, g1, Option.some.injEq] at h1
          have hargs : c.args.map a.eval = #[.slice p n cap] := by
            rw [map_toArray, ← h1]
          rw [hex]
          unfold resolve
          simp only [hc, hargs]
          have hu' := und_of hu
          show (invoke (.builtin .len c.argTypes o.type #[]) #[.slice p n cap]).run P w = _
          simp only [invoke, builtin]
          refine run_v ?_
          simp [Builtin.len_, ht, run_underlying hu', goInt]
        · exact hq.elim
      · rename_i P' K E D t hk ht
        cases hb2 : isStrMap P t K E
        · rw [hb2] at hq; exact hq.elim
        · rw [hb2, cond_true] at hq
          obtain ⟨e, hq⟩ := hq
          subst e
          obtain ⟨u1, u2, u3, u4⟩ := isStrMap_ok hb2
          refine ⟨_, hq, .of rfl fun w hw => ?_⟩
          have hk := h.see hk
          have h1 := vals_to h hss
          simp only [SV.tos] at h1
          obtain ⟨u, hu0⟩ := hw.sat.getB hk
          obtain ⟨b, rfl, hown⟩ := hw.sat.blk k _ u hk hu0
          simp only [SV.to, hu0, Option.some.injEq] at h1
          have hargs : c.args.map a.eval = #[.map (some b)] := by
            rw [map_toArray, ← h1]
          rw [hex]
          unfold resolve
          simp only [hc, hargs]
          show (invoke (.builtin .len c.argTypes o.type #[]) #[.map (some b)]).run P' w = _
          simp only [invoke, builtin]
          refine run_v ?_
          have hl := hown.len u1 o.type
          simp only [Builtin.len_] at hl ⊢
          simp only [ht] at hl ⊢
          exact hl
      · exact hq.elim
    · exact evalPure_ok h hq
  · exact evalPure_ok h hq
theorem zip_maps {α β : Type} : ∀ (l : List α) (m : List β), l.length = m.length → (l.zip m).map (·.2) = m ∧ (l.zip m).map (·.1) = l
  | [], [], _ => ⟨rfl, rfl⟩
  | [], _ :: _, h => by simp at h
  | _ :: _, [], h => by simp at h
  | a :: l, b :: m, h => by
    obtain ⟨h1, h2⟩ := zip_maps l m (by simpa using h)
    simp only [List.zip_cons_cons, List.map_cons, h1, h2]
    exact ⟨trivial, trivial⟩
theorem vals_length {V : View} : ∀ {l : List Operand} {ss : List SV}, vals V l = some ss → ss.length = l.length
  | [], _, e => by simp only [vals, Option.some.injEq] at e; subst e; rfl
  | x :: l, _, e => by
    simp only [vals] at e
    split at e
    · rename_i s ss h1 h2
      simp only [Option.some.injEq] at e; subst e
      simp [vals_length h2]
    · cases e
theorem evalBuildS_ok {V : View} {H : List Blk} {B : List Value} {a : Act} (h : Vw V H B a) {w1 : World} (hm : Mem w0 bs H B w1) {o : Oper} {t : TypeId} {parts : Array (Nat × Operand)} (ho : o.op = .build t parts) {Qs : SV → Prop} (hq : (evalBuildS P V t parts).ok Qs) : ∃ s, Qs s ∧ QuietRes P w0 bs H B a o s := by
  have hex : execOp a.eval o = (do pure (Next.value (← Instr.build t (parts.map fun (i, x) => (i, a.eval x)))) : Sem Next) := by unfold execOp; rw [ho]
  unfold evalBuildS at hq
  split at hq
  · rename_i ss hss
    split at hq
    · rename_i l hl
      have hvals := vals_to h hss
      have hlen := vals_length hss
      simp only [List.length_map] at hlen
      obtain ⟨z1, z2⟩ := zip_maps (parts.toList.map (·.1)) ss (by simp [hlen])
      have hpl : (parts.map fun (i, x) => (i, a.eval x)).toList = parts.toList.map fun p => (p.1, a.eval p.2) := by rw [Array.toList_map]
      have key : ∀ (place : Nat → Option (Nat × Nat)) (zc : List Value), fillS V.see place (zc.map .c) ((parts.toList.map (·.1)).zip ss) = some l → ∃ ys, SV.tos B l = some ys ∧ Instr.fill place zc.toArray (parts.map fun (i, x) => (i, a.eval x)).toList = some ys.toArray := by
        intro place zc hf
        refine fillS_ok hm.sat (fun _ _ e => h.see e) _ _ _ l zc ?_ ?_ (tos_conc B zc) hf
        · rw [z1, hvals, hpl]; simp [List.map_map, Function.comp_def]
        · rw [z2, hpl]; simp [List.map_map, Function.comp_def]
      have fin : ∀ ys, SV.tos B l = some ys → P.built t (parts.map fun (i, x) => (i, a.eval x)).toList = some ys.toArray → ∃ s, Qs s ∧ QuietRes P w0 bs H B a o s := by
        intro ys h1 h2
        exact ⟨_, hq, .of (mkAgg_to h1) fun w _ => by rw [hex]; exact run_v (run_build w t _ _ h2)⟩
      unfold builtS at hl
      split at hl
      · rename_i it n e hit hu
        split at hl
        · rename_i z ie hz hie
          obtain ⟨ys, k1, k2⟩ := key _ _ hl
          refine fin ys k1 ?_
          unfold Program.built
          rw [hit, hu]
          simp only [hz, hie]
          simpa using k2
        · cases hl
      · rename_i it fields hit hu
        split at hl
        · rename_i z places hz hpl'
          obtain ⟨ys, k1, k2⟩ := key _ _ hl
          refine fin ys k1 ?_
          unfold Program.built
          rw [hit, hu]
          simp only [hz, hpl']
          simpa using k2
        · cases hl
      · cases hl
    · exact hq.elim
  · exact hq.elim
theorem evalFld_ok {V : View} {H : List Blk} {B : List Value} {a : Act} (h : Vw V H B a) {o : Oper} {t : TypeId} {x : Operand} {i : Nat} (ho : o.op = .field t x i) {Qs : SV → Prop} (hq : (evalFld P V o t x i).ok Qs) : ∃ s, Qs s ∧ QuietRes P w0 bs H B a o s := by
  unfold evalFld at hq
  split at hq
  · rename_i l hx
    have hv := h.val hx
    simp only [SV.to, Option.map_eq_some_iff] at hv
    obtain ⟨vs, hvs, hv⟩ := hv
    split at hq
    · rename_i fields hu
      split at hq
      · rename_i f hf
        have hex : ∀ (w : World) (y : Value), (part f.type vs.toArray f.offset).run P w = .ok y w → (execOp a.eval o).run P w = .ok (.value y) w := by
          intro w y hy
          have hex : execOp a.eval o = (do pure (Next.value (← Instr.field t (a.eval x) i)) : Sem Next) := by unfold execOp; rw [ho]
          rw [hex]
          refine run_v ?_
          unfold Instr.field
          rw [run_bind_pure hu]
          simp only [hf, ← hv]
          exact hy
        split at hq
        · rename_i n hag hn
          refine ⟨_, hq, .of (mkAgg_to (tos_take (tos_drop hvs f.offset) n)) fun w _ => hex w _ ?_⟩
          unfold part
          rw [run_bind_pure hag]
          simp only [if_true]
          rw [run_bind_pure hn]
          have e : vs.toArray.extract f.offset (f.offset + n) = ((vs.drop f.offset).take n).toArray := by
            apply Array.ext'
            simp [List.drop_take]
          rw [e]; rfl
        · rename_i n hag hn
          obtain ⟨s, hs, hqs⟩ := leafO_ok hq
          obtain ⟨y, hy, hys⟩ := tos_get hvs hs
          refine ⟨s, hqs, .of hys fun w _ => hex w _ ?_⟩
          unfold part
          rw [run_bind_pure hag]
          have hy' : vs.toArray[f.offset]? = some y := by simpa using hy
          simp only [Bool.false_eq_true, if_false, hy']
          rfl
        · exact hq.elim
      · exact hq.elim
    · exact hq.elim
  · exact evalPure_ok h hq
theorem evalQ_ok (hS : TabOk P S) {V : View} {H : List Blk} {B : List Value} {a : Act} (h : Vw V H B a) {w1 : World} (hm : Mem w0 bs H B w1) {o : Oper} {Qs : SV → Prop} (hq : (evalQ P S V o).ok Qs) : ∃ s, Qs s ∧ QuietRes P w0 bs H B a o s := by
  have mv : ∀ x s, V.val x = some s → execOp a.eval o = pure (Next.value (a.eval x)) → QuietRes P w0 bs H B a o s := fun x s hx he => .of (h.val hx) fun w _ => by rw [he]; rfl
  unfold evalQ at hq
  split at hq
  · rename_i x ho
    obtain ⟨s, hs, hqs⟩ := leafO_ok hq
    exact ⟨s, hqs, mv x s hs (by unfold execOp; rw [ho])⟩
  · rename_i x ho
    obtain ⟨s, hs, hqs⟩ := leafO_ok hq
    exact ⟨s, hqs, mv x s hs (by unfold execOp; rw [ho])⟩
  · rename_i t x ho
    split at hq
    · rename_i hx
      have hv := h.val hx
      simp only [SV.to, Option.some.injEq] at hv
      exact ⟨_, hq, .of (x := .bool false) rfl fun w _ => by unfold execOp; rw [ho]; simp only [← hv]; rfl⟩
    · rename_i hx
      have hv := h.val hx
      simp only [SV.to, Option.some.injEq] at hv
      exact ⟨_, hq, .of (x := .bool true) rfl fun w _ => by unfold execOp; rw [ho]; simp only [← hv]; rfl⟩
    · exact evalPure_ok h hq
  · rename_i c x y ho
    split at hq
    · rename_i hc
      have hcv := h.val hc
      simp only [SV.to, Option.some.injEq] at hcv
      obtain ⟨s, hs, hqs⟩ := leafO_ok hq
      exact ⟨s, hqs, mv x s hs (by unfold execOp; rw [ho]; simp only [← hcv]; rfl)⟩
    · rename_i hc
      have hcv := h.val hc
      simp only [SV.to, Option.some.injEq] at hcv
      obtain ⟨s, hs, hqs⟩ := leafO_ok hq
      exact ⟨s, hqs, mv y s hs (by unfold execOp; rw [ho]; simp only [← hcv]; rfl)⟩
    · rename_i b hc
      have hcv := h.val hc
      simp only [SV.to, Option.some.injEq] at hcv
      cases b
      · obtain ⟨s, hs, hqs⟩ := leafO_ok (hq.2 rfl)
        exact ⟨s, hqs, mv y s hs (by unfold execOp; rw [ho]; simp only [← hcv]; rfl)⟩
      · obtain ⟨s, hs, hqs⟩ := leafO_ok (hq.1 rfl)
        exact ⟨s, hqs, mv x s hs (by unfold execOp; rw [ho]; simp only [← hcv]; rfl)⟩
    · exact hq.elim
  · rename_i t x ho; exact evalLoad_ok h hm ho hq
  · rename_i t x i ho; exact evalField_ok h hm ho hq
  · rename_i t x i ho; exact evalFld_ok h ho hq
  · rename_i t x i ho; exact evalIndexAddr_ok h hm ho hq
  · rename_i x ho
    split at hq
    · rename_i k off hx
      have hv := h.val hx
      refine ⟨_, hq, .of hv fun w _ => ?_⟩
      simp only [SV.to] at hv
      split at hv
      · simp only [Option.some.injEq] at hv
        unfold execOp; rw [ho]; simp only [← hv]; rfl
      · cases hv
    · rename_i k sz i off hx
      have hv := h.val hx
      refine ⟨_, hq, .of hv fun w _ => ?_⟩
      simp only [SV.to] at hv
      split at hv
      · simp only [Option.some.injEq] at hv
        unfold execOp; rw [ho]; simp only [← hv]; rfl
      · cases hv
    · rename_i f aa bb hx
      have hv := h.val hx
      refine ⟨_, hq, .of hv fun w _ => ?_⟩
      simp only [SV.to] at hv
      split at hv
      · simp only [Option.some.injEq] at hv
        unfold execOp; rw [ho]; simp only [← hv]; rfl
      · cases hv
    · exact evalPure_ok h hq
  · rename_i t x i ho; exact evalIndex_ok h ho hq
  · rename_i t x lo hi ho; exact evalSlice_ok h hm ho hq
  · rename_i op t x y t2 ho; exact evalBin_ok h ho hq
  · rename_i x i ho
    split at hq
    · rename_i l hx
      obtain ⟨s, hs, hqs⟩ := leafO_ok hq
      have hv := h.val hx
      simp only [SV.to, Option.map_eq_some_iff] at hv
      obtain ⟨vs, h1, h2⟩ := hv
      obtain ⟨u, hu1, hu2⟩ := tos_get h1 hs
      refine ⟨s, hqs, .of hu2 fun w _ => ?_⟩
      unfold execOp; rw [ho]
      refine run_v ?_
      simp only [← h2]
      simp [Instr.extract, hu1]
    · exact evalPure_ok h hq
  · rename_i c ho; exact evalCall_ok hS h hm ho hq
  · rename_i t parts ho; exact evalBuildS_ok h hm ho hq
  · rename_i fn first captured ho
    have hex : ∀ w, (execOp a.eval o).run P w = .ok (.value (.func fn (first.map a.eval) (captured.map a.eval))) w := fun w => by unfold execOp; rw [ho]; rfl
    split at hq
    · rename_i av bv ha hb
      have h1 := vals_to h ha
      have h2 := vals_to h hb
      split at hq
      · rename_i xs ys hx hy
        rw [plains_to hx, Option.some.injEq] at h1
        rw [plains_to hy, Option.some.injEq] at h2
        refine ⟨_, hq, .of rfl fun w _ => ?_⟩
        rw [hex, map_toArray, map_toArray, ← h1, ← h2]
      · refine ⟨_, hq, .of (x := .func fn (first.map a.eval) (captured.map a.eval)) ?_ fun w _ => hex w⟩
        simp only [SV.to, h1, h2, map_toArray]
    · exact hq.elim
  · rename_i t x ho
    split at hq
    · rename_i s hx
      have hv := h.val hx
      split at hq
      · exact evalPure_ok h hq
      · split at hq
        · exact hq.elim
        · rename_i d hne hu
          refine ⟨_, hq, .of (x := .iface t (a.eval x)) (by simp [SV.to, hv]) fun w _ => ?_⟩
          unfold execOp; rw [ho]
          refine run_v ?_
          unfold Instr.makeInterface
          rw [run_bind_ok (run_underlying hu w)]
          cases d <;> first | rfl | exact absurd rfl (hne _)
        · exact hq.elim
    · exact hq.elim
  · rename_i x xt u ok ho
    split at hq
    · rename_i t s hx
      obtain ⟨si, hx, hi⟩ := Option.bind_eq_some_iff.1 hx
      obtain ⟨v, hs, hv⟩ := ifcOf_to hi (h.val hx)
      have hex : execOp a.eval o = (do pure (Next.value (← Instr.typeAssert (a.eval x) xt u ok)) : Sem Next) := by unfold execOp; rw [ho]
      split at hq
      · exact hq.elim
      · rename_i d hne hu
        have hta : ∀ w, (Instr.typeAssert (a.eval x) xt u ok).run P w = ((if t = u then (pure (if ok then .tuple #[v, .bool true] else v) : Sem Value) else (if ok then do pure (.tuple #[← zeroValue u, .bool false]) else runtimePanic (.typeAssertion (some xt) (some t) u ""))) : Sem Value).run P w := by
          intro w
          rw [← hv]
          unfold Instr.typeAssert
          rw [run_bind_ok (run_underlying hu w)]
          cases d <;> first | rfl | exact absurd rfl (hne _)
        cases hb : Nat.beq t u
        · rw [hb, cond_false] at hq
          have htu : t ≠ u := fun e => by rw [e, Nat.beq_refl] at hb; cases hb
          cases ok
          · exact hq.elim
          · rw [cond_true] at hq
            split at hq
            · rename_i z hz
              refine ⟨_, hq, .of (x := .tuple #[z, .bool false]) rfl fun w _ => ?_⟩
              rw [hex]
              refine run_v ?_
              rw [hta, if_neg htu, if_pos rfl, run_bind_pure hz]
              rfl
            · exact hq.elim
        · rw [hb, cond_true] at hq
          obtain rfl := Nat.eq_of_beq_eq_true hb
          cases ok
          · refine ⟨_, hq, .of hs fun w _ => ?_⟩
            rw [hex]
            refine run_v ?_
            rw [hta, if_pos rfl]; rfl
          · refine ⟨_, hq, .of (x := .tuple #[v, .bool true]) (by simp [SV.to, SV.tos, hs]) fun w _ => ?_⟩
            rw [hex]
            refine run_v ?_
            rw [hta, if_pos rfl]; rfl
      · exact hq.elim
    · exact evalPure_ok h hq
  · rename_i t x ix ok ho; exact evalLook_ok h ho hq
  · exact evalPure_ok h hq
end
end Go.Proofs.YtbippdeahoehoaaGreat.Sym
namespace Go.Proofs.YtbippdeahoehoaaGreat.Sym
open Go.RowKit
section
variable (P : Program) (S : Tab)
def evalStore (V : View) (t : TypeId) (x y : Operand) : T (SV × Eff) :=
  match pureVal P (sizeOf t), V.val x, V.val y with
  | some n, some (.ptr k off), some s => match V.see k, cellsOf V.see s with
    | some (.own cells), some l => bif Nat.beq l.length n && Nat.ble (off + n) cells.length && l.all (oneS V.see) then .leaf (.v undef, ⟨[(k, .own (setL cells off l))], []⟩) else .stuck 40
    | _, _ => .stuck 41
  | _, _, _ => .stuck 42
end
section
variable {P : Program} {S : Tab} {N : Nat} {w0 : World} {bs : List Nat}
theorem wp_of_quietAt {o : Oper} {a : Act} {C : World → Prop} {w : World} {x : Value} {K : Act → World → Prop} {Q : Exit → Act → World → Prop} (h : o.quietAt P a C w x) (hC : C w) (hK : ∀ w', C w' → K (a.put o.dst x) w') : o.wp P a w K Q := by
  unfold Oper.quietAt at h
  unfold Oper.wp
  generalize (execOp a.eval o).run P w = r at *
  cases r with
  | ok n w' =>
    cases n <;> simp only [Oper.quietUpon] at h <;> simp only [Oper.upon]
    case value u => obtain ⟨rfl, rfl⟩ := h; exact hK _ hC
    case skip => obtain ⟨rfl, rfl⟩ := h; exact hK _ hC
    case enter f args =>
      obtain ⟨rfl, hc⟩ := h
      exact hc.mono fun e w'' ⟨he, hw''⟩ => by subst he; exact hK _ hw''
  | halt x w' => simp only [Oper.quietUpon] at h
theorem wp_value {o : Oper} {a : Act} {w w' : World} {x : Value} {K : Act → World → Prop} {Q : Exit → Act → World → Prop} (h : (execOp a.eval o).run P w = .ok (.value x) w') (hK : K (a.put o.dst x) w') : o.wp P a w K Q := by
  unfold Oper.wp; rw [h]; exact hK
theorem wp_skip' {o : Oper} {a : Act} {w w' : World} {K : Act → World → Prop} {Q : Exit → Act → World → Prop} (h : (execOp a.eval o).run P w = .ok .skip w') (hK : K (a.put o.dst undef) w') : o.wp P a w K Q := by
  unfold Oper.wp; rw [h]; exact hK
theorem oneS_to {H : List Blk} {B : List Value} {w : World} (hs : Sat H B w) {g : Nat → Option Blk} (hg : ∀ k x, g k = some x → H[k]? = some x) {s : SV} {x : Value} (h : s.to B = some x) (h1 : oneS g s = true) : x.oneCell' = true := by
  cases s with
  | v y => simp only [SV.to, Option.some.injEq] at h; subst h; exact h1
  | c y => simp only [SV.to, Option.some.injEq] at h; subst h; exact h1
  | tt => simp only [SV.to, Option.some.injEq] at h; subst h; rfl
  | ff => simp only [SV.to, Option.some.injEq] at h; subst h; rfl
  | ptr k off =>
    simp only [SV.to] at h
    split at h
    · simp only [Option.some.injEq] at h; subst h; rfl
    · cases h
  | elt k sz i off =>
    simp only [SV.to] at h
    split at h
    · simp only [Option.some.injEq] at h; subst h; rfl
    · cases h
  | pre k n =>
    simp only [SV.to] at h
    split at h
    · simp only [Option.some.injEq] at h; subst h; rfl
    · cases h
  | ref k =>
    simp only [oneS] at h1
    split at h1
    · rename_i n sz f hk
      have hk := hg _ _ hk
      simp only [SV.to] at h
      obtain ⟨p, cap, rfl, -⟩ := hs.blk k _ _ hk h
      rfl
    · rename_i o' e sz n xs hk
      have hk := hg _ _ hk
      simp only [SV.to] at h
      have hs' : VecSat w e sz x n xs := hs.blk k _ _ hk h
      rcases hs'.view.2 with ⟨rfl, -⟩ | ⟨b, cap, rfl, -⟩ <;> rfl
    · rename_i e sz n cells hk
      have hk := hg _ _ hk
      simp only [SV.to] at h
      obtain ⟨xs, -, hs'⟩ := hs.blk k _ _ hk h
      rcases hs'.view.2 with ⟨rfl, -⟩ | ⟨b, cap, rfl, -⟩ <;> rfl
    · rename_i e sz n xp cells hk
      have hk := hg _ _ hk
      simp only [SV.to] at h
      obtain ⟨xs, -, hs'⟩ := hs.blk k _ _ hk h
      rcases hs'.view.2 with ⟨rfl, -⟩ | ⟨b, cap, rfl, -⟩ <;> rfl
    · rename_i K kl cells hk
      have hk := hg _ _ hk
      simp only [SV.to] at h
      obtain ⟨xs, -, -, b, rfl, -⟩ := hs.blk k _ _ hk h
      rfl
    · rename_i x0 hk
      have hk := hg _ _ hk
      simp only [SV.to] at h
      have hx : XSat w x x0 := hs.blk k _ _ hk h
      cases x0 with
      | smap P' k' e' D' =>
        obtain ⟨b, rfl, -⟩ := hx
        rfl
      | bools n f =>
        obtain ⟨b, rfl, -⟩ := hx
        rfl
    · cases h1
  | agg l' => simp [oneS] at h1
  | tup l' => simp [oneS] at h1
  | clo fn a b =>
    simp only [SV.to] at h
    split at h
    · simp only [Option.some.injEq] at h; subst h; rfl
    · cases h
  | ifc t s =>
    simp only [SV.to, Option.map_eq_some_iff] at h
    obtain ⟨v, -, rfl⟩ := h; rfl
theorem storeCells_run {b off : Nat} : ∀ (l : List SV) (H : List Blk) (B : List Value) (w : World) (k i : Nat) (cells : List SV) (vs : List Value), Mem w0 bs H B w → H[k]? = some (.own cells) → B[k]? = some (.pointer (some ⟨b, 0, none⟩)) →
    SV.tos B l = some vs → off + i + l.length ≤ cells.length → (∀ x ∈ vs, x.oneCell' = true) →
    ∃ w', (storeCells ⟨b, off, none⟩ vs i).run P w = .ok () w' ∧ Mem w0 bs (H.set k (.own (setL cells (off + i) l))) B w'
  | [], H, B, w, k, i, cells, vs, hm, hk, hb, hl, hlen, h1 => by
    simp only [SV.tos, Option.some.injEq] at hl
    subst hl
    refine ⟨w, rfl, ?_⟩
    simp only [setL]
    have : H.set k (.own cells) = H := by
      obtain ⟨hlt, e⟩ := List.getElem?_eq_some_iff.1 hk
      rw [← e]; exact List.set_getElem_self hlt
    rw [this]
    exact hm
  | s :: l, H, B, w, k, i, cells, vs, hm, hk, hb, hl, hlen, h1 => by
    simp only [SV.tos] at hl
    split at hl
    · rename_i x xs g1 g2
      simp only [Option.some.injEq] at hl
      subst hl
      simp only [List.length_cons] at hlen
      have hm2 := hm.set1 hk hb (i := off + i) (by omega) g1
      have hkl : k < H.length := (List.getElem?_eq_some_iff.1 hk).1
      obtain ⟨w', hr, hm3⟩ := storeCells_run (b := b) (off := off) l _ B _ k (i + 1) (cells.set (off + i) s) xs hm2 (by rw [List.getElem?_set_self hkl]) hb g2 (by simp; omega) (fun y hy => h1 y (by simp [hy]))
      refine ⟨w', ?_, ?_⟩
      · obtain ⟨b', us, e1, e2, e3⟩ := hm.own_at hk
        rw [hb] at e1
        simp only [Option.some.injEq, Value.pointer.injEq, Addr.mk.injEq] at e1
        obtain ⟨rfl, -⟩ := e1
        have hadd : (⟨b, off, none⟩ : Addr).add i = ⟨b, off + i, none⟩ := by unfold Addr.add; split <;> simp_all
        have hlt : off + i < us.length := by rw [tos_length e2]; omega
        have hst : (store ((⟨b, off, none⟩ : Addr).add i) x).run P w = .ok () (w.setCell ⟨b, off + i, none⟩ x) := by
          rw [hadd, run_store P w _ x _ (h1 x (by simp)), e3.2.1 (off + i)]
          simp [hlt, e3.2.2]
        simp only [storeCells]
        rw [run_bind_ok hst]
        exact hr
      · rw [List.set_set] at hm3
        exact hm3
    · cases hl
end
end Go.Proofs.YtbippdeahoehoaaGreat.Sym
namespace Go.Proofs.YtbippdeahoehoaaGreat.Sym
open Go.RowKit
abbrev GTab := FuncId → List SV → (Nat → Option Blk) → Nat → Option (T (SV × Eff))
def GOk (P : Program) (G : GTab) : Prop := ∀ f ss g n t, G f ss g n = some t → isGo P f = true ∧ ∀ (w0 : World) (bs : List Nat) (H : List Blk) (B : List Value) (w : World) (vs : List Value), Mem w0 bs H B w → (∀ k x, g k = some x → H[k]? = some x) → n = H.length → SV.tos B ss = some vs →
  ∀ Qs : SV × Eff → Prop, t.ok Qs → Calls P f vs.toArray w fun e w' => ∃ s ef B' x, Qs (s, ef) ∧ B <+: B' ∧ e = .returned x ∧ s.to B' = some x ∧ Mem w0 bs (ef.run H) B' w'
def rowCells (n sz : Nat) (f : Nat → Nat → Value) : List Value := (List.range n).flatMap fun i => (List.range sz).map (f i)
def sameOp : Operand → Operand → Bool
  | .tmp a, .tmp b => Nat.beq a b
  | _, _ => false
def intsOf : List SV → Option (IntKind × List Int)
  | [] => none
  | [s] => match s.plain with | some (.int k z) => some (k, [z]) | _ => none
  | s :: l => match s.plain, intsOf l with
    | some (.int k z), some (k', zs) => bif decide (k = k') then some (k, z :: zs) else none
    | _, _ => none
def nth (l : List Int) (j : Nat) : Int := l.getD j 0
def softBlk : Blk → Blk
  | .own cells => match intsOf cells with
    | some (k, zs) => .arr k cells.length (nth zs)
    | none => .own cells
  | .vec _ e sz n xs => .vec true e sz n xs
  | b => b
def softAt (H : List Blk) (k : Nat) : List Blk := match H[k]? with
  | some b => bif b.excl then H.set k (softBlk b) else H
  | none => H
theorem intsOf_ok : ∀ {l : List SV} {k : IntKind} {zs : List Int}, intsOf l = some (k, zs) → l.length = zs.length ∧ ∀ B, SV.tos B l = some (zs.map (Value.int k))
  | [], _, _, h => by simp [intsOf] at h
  | [s], k, zs, h => by
    simp only [intsOf] at h
    split at h
    · rename_i k' z hs
      simp only [Option.some.injEq, Prod.mk.injEq] at h
      obtain ⟨rfl, rfl⟩ := h
      exact ⟨rfl, fun B => by simp [SV.tos, SV.plain_to hs B]⟩
    · cases h
  | s :: s2 :: l, k, zs, h => by
    simp only [intsOf] at h
    split at h
    · rename_i k1 z1 k2 zs2 hs hl
      by_cases e : k1 = k2
      · subst e
        simp only [decide_true, cond_true, Option.some.injEq, Prod.mk.injEq] at h
        obtain ⟨rfl, rfl⟩ := h
        have hl' : intsOf (s2 :: l) = some (k1, zs2) := hl
        obtain ⟨h1, h2⟩ := intsOf_ok hl'
        refine ⟨by simp only [List.length_cons] at h1 ⊢; omega, fun B => ?_⟩
        have h3 := h2 B
        rw [SV.tos, SV.plain_to hs B, h3]; rfl
      · simp only [e, decide_false, cond_false] at h; cases h
    · cases h
theorem arr_of_ints (k : IntKind) (zs : List Int) : (zs.map (Value.int k)).toArray = arrCells k zs.length (nth zs) := by
  unfold arrCells
  congr 1
  apply List.ext_getElem?
  intro i
  simp only [List.getElem?_map, List.getElem?_range]
  by_cases hi : i < zs.length
  · simp [hi, nth, List.getElem?_eq_getElem hi]
  · simp [hi, List.getElem?_eq_none (Nat.le_of_not_lt hi)]
theorem softBlk_sat {B : List Value} {w : World} {u : Value} {x : Blk} (h : BlkSat B w u x) : BlkSat B w u (softBlk x) := by
  cases x with
  | own cells => ?_
  | _ => exact h
  simp only [softBlk]
  split
  · rename_i k zs hi
    obtain ⟨h1, h2⟩ := intsOf_ok hi
    obtain ⟨b, vs, rfl, h3, h4⟩ := h
    rw [h2 B, Option.some.injEq] at h3
    subst h3
    refine ⟨b, rfl, ?_⟩
    rw [h1, ← arr_of_ints]; exact h4
  · exact h
theorem softBlk_excl (x : Blk) : (softBlk x).excl = x.excl := by
  cases x with
  | own cells => simp only [softBlk]; split <;> rfl
  | _ => rfl
theorem grown_self (w : World) (r : Option Nat) : w.grownBy w r := ⟨rfl, rfl, rfl, Nat.le_refl _, fun _ _ _ => rfl⟩
theorem softSet_mem {w0 : World} {bs : List Nat} {H : List Blk} {B : List Value} {w : World} (h : Mem w0 bs H B w) {k : Nat} {x : Blk} (hk : H[k]? = some x) (hx : x.excl = true) : Mem w0 bs (H.set k (softBlk x)) B w := by
  obtain ⟨u, hu⟩ := h.sat.getB hk
  exact h.upd hk hx hu (grown_self w _) ((softBlk_excl x).trans hx) (softBlk_sat (h.sat.blk k _ u hk hu))
theorem softAt_mem {w0 : World} {bs : List Nat} {H : List Blk} {B : List Value} {w : World} (h : Mem w0 bs H B w) (k : Nat) : Mem w0 bs (softAt H k) B w := by
  unfold softAt
  split
  · rename_i x hk
    cases hx : x.excl
    · exact h
    · exact softSet_mem h hk hx
  · exact h
theorem softs_mem {w0 : World} {bs : List Nat} {B : List Value} {w : World} : ∀ (ks : List Nat) {H : List Blk}, Mem w0 bs H B w → Mem w0 bs (ks.foldl softAt H) B w
  | [], _, h => h
  | k :: ks, _, h => softs_mem ks (softAt_mem h k)
def isOwn : Option Blk → Bool
  | some (.own _) => true
  | _ => false
def softens (V : View) (x ix : Operand) : Option (Nat × Blk) :=
  bif isConc V ix then none else match V.val x with
  | some (.ptr k _) => (match V.see k with
    | some (.own cells) => some (k, .own cells)
    | _ => none)
  | some (.ref k) => (match V.see k with
    | some (.vec false e sz n xs) => some (k, .vec false e sz n xs)
    | _ => none)
  | _ => none
section
variable (P : Program) (S : Tab) (G : GTab)
def builtOf (t : TypeId) (len : Nat) (parts : List (Nat × Value)) : Option (TypeId × Nat × List Value) :=
  match P.underlying t with
  | some (.slice e) => (match P.info? e with
    | some ie => bif Nat.ble (len * ie.size) 16777216 then
        (bif Nat.beq (len * ie.size) 0 then none else (match ie.zero with
          | some z => (match Instr.fill (fun i => some (i * ie.size, ie.size)) ((Array.range (len * ie.size)).map (z.cells[· % z.cells.size]!)) parts with
            | some cells => bif Nat.beq cells.size (len * ie.size) then some (e, ie.size, cells.toList) else none
            | none => none)
          | none => none)) else none
    | none => none)
  | _ => none
def builtL (h : Nat → Option Blk) (t : TypeId) (len : Nat) (parts : List (Nat × SV)) : Option (TypeId × Nat × List SV) :=
  match P.underlying t with
  | some (.slice e) => (match P.info? e with
    | some ie => bif Nat.ble (len * ie.size) 16777216 && !Nat.beq (len * ie.size) 0 then (match ie.zero with
        | some z => (match fillS h (fun i => some (i * ie.size, ie.size)) ((((Array.range (len * ie.size)).map (z.cells[· % z.cells.size]!)).toList).map .c) parts with
            | some cells => bif Nat.beq cells.length (len * ie.size) then some (e, ie.size, cells) else none
            | none => none)
        | none => none) else none
    | none => none)
  | _ => none
def plainsT (t : TypeId) (ss : List SV) : Option (List Value) :=
  match P.underlying t with
  | some (.slice e) => (match P.underlying e, ss with
    | some (.interface _), _ :: _ => none
    | _, _ => plains ss)
  | _ => plains ss
def evalBuild (V : View) (t : TypeId) (len : Nat) (parts : Array (Nat × Operand)) : T (SV × Eff) :=
  match vals V (parts.toList.map (·.2)) with
  | some ss => (match plainsT P t ss with
    | some xs => (match builtOf P t len ((parts.toList.map (·.1)).zip xs) with
      | some (e, sz, cells) => .leaf (.ref V.len, ⟨[], [.vec false e sz len cells]⟩)
      | none => (match P.underlying t, parts.toList, len with
        | some (.slice e), [], 0 => (match pureVal P (sizeOf e) with
          | some sz => .leaf (.ref V.len, ⟨[], [.vec false e sz 0 []]⟩)
          | none => .stuck 74)
        | _, _, _ => .stuck 70))
    | none => (match builtL P V.see t len ((parts.toList.map (·.1)).zip ss) with
      | some (e, sz, cells) => .leaf (.ref V.len, ⟨[], [.lst e sz len cells]⟩)
      | none => .stuck 71))
  | none => .stuck 72
def vecOf (V : View) (e : TypeId) (sz : Nat) : SV → Option (Option Nat × Bool × Nat × List Value)
  | .ref k => (match V.see k with
    | some (.vec o e' sz' n xs) => bif Nat.beq e e' && Nat.beq sz sz' && !Nat.beq e noGrow then some (some k, o, n, xs) else none
    | _ => none)
  | .c (.slice none 0 0) => some (none, false, 0, [])
  | _ => none
def allOneP (l : List Value) : Prop := ∀ u ∈ l, u.oneCell' = true
def allOne (l : List Value) : Bool := l.all (·.oneCell')
instance decAll (l : List Value) : Dec (allOneP l) := ⟨allOne l, fun h u hu => List.all_eq_true.1 h u hu⟩
def dAll (l : List Value) : DP := ⟨allOneP l, decAll l⟩
def newsOf (V : View) (sz : Nat) : SV → Option (Nat × Nat × List Value × List DP)
  | .ref j => (match V.see j with
    | some (.vec _ _ sz' m ys) => bif Nat.beq sz sz' then some (j, m, ys, [dAll ys]) else none
    | some (.row m sz' f) => bif Nat.beq sz sz' then some (j, m, rowCells m sz f, [dAll (rowCells m sz f)]) else none
    | _ => none)
  | _ => none
def oneSs : List SV → Option (List DP)
  | [] => some []
  | s :: l => (match s, oneSs l with
    | .v x, some ps => some (dAll [x] :: ps)
    | .c x, some ps => bif x.oneCell' then some ps else none
    | .tt, some ps => some ps
    | .ff, some ps => some ps
    | .ptr _ _, some ps => some ps
    | .ref _, some ps => some ps
    | _, _ => none)
def lstOf (V : View) (e : TypeId) (sz : Nat) : SV → Option (Option Nat × Nat × Bool × List Value × List SV)
  | .ref k => (match V.see k with
    | some (.vec _ e' sz' n xs) => bif Nat.beq e e' && Nat.beq sz sz' && !Nat.beq e noGrow then some (some k, n, true, xs, []) else none
    | some (.lst e' sz' n xs) => bif Nat.beq e e' && Nat.beq sz sz' && !Nat.beq e noGrow then some (some k, n, false, [], xs) else none
    | some (.que e' sz' n xp xs) => bif Nat.beq e e' && Nat.beq sz sz' && !Nat.beq e noGrow then some (some k, n, true, xp, xs) else none
    | _ => none)
  | .c (.slice none 0 0) => some (none, 0, false, [], [])
  | .v (.slice none 0 0) => some (none, 0, false, [], [])
  | _ => none
def mkQ (q : Bool) (e : TypeId) (sz n : Nat) (xp : List Value) (cells : List SV) : Blk := bif q then .que e sz n xp cells else .lst e sz n cells
def seenAll (V : View) : List SV → Bool
  | [] => true
  | .ref k :: l => (match V.see k with | some .gone => false | some _ => seenAll V l | none => false)
  | _ :: l => seenAll V l
def newsL (V : View) (sz : Nat) : SV → Option (Nat × Nat × List SV × List DP)
  | .ref j => (match V.see j with
    | some (.lst _ sz' m ys) => bif Nat.beq sz sz' && seenAll V ys then (match oneSs ys with | some ps => some (j, m, ys, ps) | none => none) else none
    | some (.vec _ _ sz' m ys) => bif Nat.beq sz sz' then some (j, m, ys.map .v, [dAll ys]) else none
    | _ => none)
  | _ => none
def nilV : SV → Bool
  | .c (.slice none 0 0) => true
  | .v (.slice none 0 0) => true
  | _ => false
theorem nilV_to {s : SV} (h : nilV s = true) (B : List Value) : s.to B = some (.slice none 0 0) := by
  unfold nilV at h
  split at h
  · rfl
  · rfl
  · cases h
def appL (V : View) (e : TypeId) (sz bytes : Nat) (a b : SV) : T (SV × Eff) :=
  bif nilV b then (match lstOf V e sz a with | some _ => .leaf (a, noEff) | none => .stuck 196) else
  match lstOf V e sz a, newsL V sz b with
  | some (k, n, q, xp, xs), some (j, m, ys, ps) => bif (match k with | some k => !Nat.beq k j | none => true) then
      needsD (dp (n + m ≤ 9223372036854775807 ∧ (n + m) * bytes ≤ 140737488355328) :: ps) (.leaf (.ref V.len, ⟨match k with | some k => [(k, .gone)] | none => [], [mkQ q e sz (n + m) xp (xs ++ ys)]⟩)) else .stuck 75
  | none, _ => .stuck 76
  | _, none => .stuck 77
def bytesV (l : List UInt8) : List Value := l.map fun b => .int .u8 (b.toNat : Int)
def appS (V : View) (e : TypeId) (a : SV) (s : ByteArray) : T (SV × Eff) :=
  match lstOf V e 1 a with
  | some (k, n, q, xp, xs) => .chk (n + s.size ≤ 9223372036854775807 ∧ n + s.size ≤ 140737488355328) (.leaf (.ref V.len, ⟨match k with | some k => [(k, .gone)] | none => [], [mkQ q e 1 (n + s.size) xp (xs ++ (bytesV s.data.toList).map .c)]⟩))
  | none => .stuck 197
def isZ8 : Value → Bool
  | .int .u8 z => z == 0
  | _ => false
def evalAppend (V : View) (c : Call) : T (SV × Eff) :=
  match vals V c.args.toList, c.argTypes.toList with
  | some [a, b], [t, t'] => (match P.underlying t with
    | some (.slice e) => (match P.info? e with
      | some i => (match i.zero with
        | some z => bif Nat.beq t t' && Nat.beq z.cells.size i.size && Nat.ble 1 i.size then
          (match vecOf V e i.size a, newsOf V i.size b with
          | some (k, o, n, xs), some (j, m, ys, ps) => bif (match k with | some k => !Nat.beq k j | none => true) then
              needsD (dp (n + m ≤ 9223372036854775807 ∧ (n + m) * i.bytes ≤ 140737488355328) :: ps) (.leaf (.ref V.len, ⟨match k with | some k => [(k, .gone)] | none => [], [.vec o e i.size (n + m) (xs ++ ys)]⟩)) else .stuck 75
          | _, _ => appL V e i.size i.bytes a b) else (match b.plain, P.underlying t' with
            | some (.string s), some .string => bif isZ8 z && Nat.beq i.size 1 && Nat.beq i.bytes 1 then appS V e a s else .stuck 78
            | _, _ => .stuck 198)
        | none => .stuck 79)
      | none => .stuck 80)
    | _ => .stuck 81)
  | _, _ => .stuck 82
def evalMake (V : View) (t : TypeId) (l c : Operand) : T (SV × Eff) :=
  match V.pv l, P.underlying t with
  | some (.int _ z), some (.slice e) => (match P.info? e with
    | some i => (match i.zero with
      | some zv => bif sameOp l c && Nat.beq i.size 1 then (match zv.cells.toList with
        | [zc] => .chk (0 ≤ z ∧ z ≤ 9223372036854775807 ∧ i.bytes * z.toNat ≤ 281474976710656) (.leaf (.ref V.len, ⟨[], [.vec true e 1 z.toNat (List.replicate z.toNat zc)]⟩))
        | _ => .stuck 83) else .stuck 84
      | none => .stuck 85)
    | none => .stuck 86)
  | _, _ => .stuck 87
def cutRow (V : View) (t : TypeId) (x : Operand) (lo hi : Option Operand) : Option (T (SV × Eff)) :=
  match V.val x with
  | some (.ref k) => (match V.see k, P.underlying t with
    | some (.row n sz f), some (.slice e) => (match pureVal P (sizeOf e), intO V 0 lo, intO V n hi with
      | some s, some l, some h => bif Nat.beq s sz then some (.chk (0 ≤ l ∧ l ≤ h ∧ h ≤ n) (.leaf (.ref V.len, ⟨[], [.row (h - l).toNat sz (fun i j => f (i + l.toNat) j)]⟩))) else none
      | _, _, _ => none)
    | _, _ => none)
  | _ => none
def cutRow3 (V : View) (t : TypeId) (x hi mx : Operand) : T (SV × Eff) :=
  match V.val x with
  | some (.ref k) => (match V.see k, P.underlying t with
    | some (.row n sz f), some (.slice e) => (match pureVal P (sizeOf e), V.pv hi, V.pv mx with
      | some s, some (.int _ h), some (.int _ m) => bif Nat.beq s sz then .chk (0 ≤ h ∧ h ≤ m ∧ m ≤ n) (.leaf (.ref V.len, ⟨[], [.row h.toNat sz f]⟩)) else .stuck 191
      | _, _, _ => .stuck 192)
    | _, _ => .stuck 193)
  | _ => .stuck 194
def evalSet (V : View) (t : TypeId) (x y : Operand) : Option (T (SV × Eff)) :=
  match V.val x with
  | some (.ptr k off) => (match V.see k with
    | some (.arr kind n h) => (match V.pv y, pureVal P (sizeOf t) with
      | some (.int kind' v), some 1 => bif decide (kind = kind') then some (.chk (off < n) (.leaf (.v undef, ⟨[(k, .arr kind n fun j => bif Nat.beq j off then v else h j)], []⟩))) else some (.stuck 90)
      | _, _ => some (.stuck 91))
    | _ => none)
  | some (.elt k sz i off) => (match V.see k with
    | some (.vec o e sz' n xs) => (match V.pv y, pureVal P (sizeOf t) with
      | some v, some m => bif Nat.beq sz sz' && Nat.beq v.cells.size m && Nat.ble (off + m) sz && v.cells.toList.all (·.oneCell') then some (.chk (i < n) (.leaf (.v undef, ⟨[(k, .vec o e sz n (xs.take (i * sz + off) ++ v.cells.toList ++ xs.drop (i * sz + off + m)))], []⟩))) else some (.stuck 92)
      | _, _ => some (.stuck 93))
    | _ => some (.stuck 94))
  | _ => none
def strOf (xs : List Value) : List UInt8 := xs.map fun v => UInt8.ofNat (intV v).toNat
def evalQE (V : View) (o : Oper) : T (SV × Eff) := (evalQ P S V o).bind fun s => .leaf (s, noEff)
def evalConv (V : View) (src dst : TypeId) (x : Operand) : Option (T (SV × Eff)) :=
  match P.underlying src, P.underlying dst with
  | some .string, some (.slice e) => (match P.underlying e, V.pv x with
    | some (.int .u8), some (.string s) => some (.chk (s.size ≤ 9223372036854775807) (.leaf (.ref V.len, ⟨[], [.vec true noGrow 1 s.size (bytesV s.data.toList)]⟩)))
    | _, _ => none)
  | some (.slice e), some .string => (match P.underlying e, V.val x with
    | some (.int .u8), some (.ref k) => (match V.see k with
      | some (.vec _ _ 1 _ xs) => some (.chk (xs = bytesV (strOf xs)) (.leaf (.v (.string ⟨(strOf xs).toArray⟩), noEff)))
      | _ => none)
    | _, _ => none)
  | _, _ => none
def evalMapSet (V : View) (t : TypeId) (x ix v : Operand) : T (SV × Eff) :=
  match V.val x, V.pv ix, V.pv v with
  | some (.ref k), some (.string s), some (.int .i64 z) => (match V.see k with
    | some (.ext (.smap P' K E D)) => bif isStrMap P t K E then .chk (P' = P) (.chk (s.size ≤ maxLen ∧ (Lit.int .i64 z).wf = true ∧ mSize D < 1000000000) (.leaf (.v undef, ⟨[(k, .ext (.smap P' K E (mPut D s z)))], []⟩))) else .stuck 183
    | _ => .stuck 184)
  | _, _, _ => .stuck 185
def evalDel (V : View) (c : Call) : T (SV × Eff) :=
  match vals V c.args.toList, c.argTypes.toList with
  | some [.ref k, s'], [t, k'] => (match V.see k, s'.plain with
    | some (.ext (.smap P' K E D)), some (.string s) => bif isStrMap P t K E && Nat.beq k' K then .chk (P' = P) (.chk (s.size ≤ maxLen) (.leaf (.v (.tuple #[]), ⟨[(k, .ext (.smap P' K E (mDel D s)))], []⟩))) else .stuck 186
    | _, _ => .stuck 187)
  | _, _ => .stuck 188
def evalMakeMap (V : View) (t : TypeId) : T (SV × Eff) :=
  match P.underlying t with
  | some (.map K E) => bif isStrMap P t K E then .leaf (.ref V.len, ⟨[], [.ext (.smap P K E (.map []))]⟩) else .stuck 189
  | _ => .stuck 190
def evalE (V : View) (o : Oper) : T (SV × Eff) :=
  match o.op with
  | .box _ x => match V.val x with
    | some s => (match cellsOf V.see s with | some l => .leaf (.ptr V.len 0, ⟨[], [.own l]⟩) | none => .stuck 43)
    | none => .stuck 44
  | .alloc t => match pureVal P (zeroValue t) with
    | some z => .leaf (.ptr V.len 0, ⟨[], [.own (z.cells.toList.map .c)]⟩)
    | none => .stuck 45
  | .store t x y => match evalSet P V t x y with
    | some r => r
    | none => evalStore P V t x y
  | .buildSlice t len parts => evalBuild P V t len parts
  | .makeSlice t l c => evalMake P V t l c
  | .indexAddr _ x ix => match softens V x ix with
    | some (k, b) => (evalQ P S V o).bind fun s => .leaf (s, ⟨[(k, softBlk b)], []⟩)
    | none => evalQE P S V o
  | .slice t x lo hi none => match cutRow P V t x lo hi with
    | some r => r
    | none => evalQE P S V o
  | .call c => match c.callee with
    | .builtin .append => evalAppend P V c
    | .builtin .delete => evalDel P V c
    | _ => (match target P V c with
      | some (f, ss) => (match G f ss V.see V.len with
        | some t => t
        | none => evalQE P S V o)
      | none => evalQE P S V o)
  | .convert src dst x => match evalConv P V src dst x with
    | some r => r
    | none => evalQE P S V o
  | .slice t x none (some hi) (some mx) => cutRow3 P V t x hi mx
  | .mapUpdate t x ix v => evalMapSet P V t x ix v
  | .makeMap t none => evalMakeMap P V t
  | _ => evalQE P S V o
end
section
variable {P : Program} {S : Tab} {G : GTab} {N : Nat} {w0 : World} {bs : List Nat}
def EffRes (P : Program) (w0 : World) (bs : List Nat) (B : List Value) (a : Act) (w : World) (o : Oper) (H : List Blk) (Qs : SV × Eff → Prop) : Prop :=
  ∀ (K : Act → World → Prop) (Q : Exit → Act → World → Prop), (∀ s ef B2 x w2, Qs (s, ef) → B <+: B2 → Mem w0 bs (ef.run H) B2 w2 → s.to B2 = some x → K (a.put o.dst x) w2) → o.wp P a w K Q
theorem ref_to {H : List Blk} {B : List Value} (hl : B.length = H.length) (u : Value) : (SV.ref H.length).to (B ++ [u]) = some u := by
  simp only [SV.to]; rw [← hl, List.getElem?_concat_length]
theorem zip_map_parts (parts : List (Nat × Operand)) (f : Operand → Value) : (parts.map (·.1)).zip ((parts.map (·.2)).map f) = parts.map fun p => (p.1, f p.2) := by
  induction parts with
  | nil => rfl
  | cons p l ih => simp only [List.map_cons, List.zip_cons_cons, ih]
theorem plainsT_eq {t : TypeId} {ss : List SV} {xs : List Value} (h : plainsT P t ss = some xs) : plains ss = some xs := by
  unfold plainsT at h
  split at h
  · split at h
    · cases h
    · exact h
  · exact h
theorem evalBuild_ok {V : View} {H : List Blk} {B : List Value} {a : Act} {w : World} (h : Vw V H B a) (hlens : V.len = H.length) (hm : Mem w0 bs H B w) {o : Oper} {t : TypeId} {len : Nat} {parts : Array (Nat × Operand)} (ho : o.op = .buildSlice t len parts) {Qs : SV × Eff → Prop} (hq : (evalBuild P V t len parts).ok Qs) : EffRes P w0 bs B a w o H Qs := by
  intro K Q hK
  have hex : execOp a.eval o = (do pure (Next.value (← Instr.buildSlice t len (parts.map fun (i, x) => (i, a.eval x)))) : Sem Next) := by unfold execOp; rw [ho]
  unfold evalBuild at hq
  rw [hlens] at hq
  split at hq
  · rename_i ss hss
    split at hq
    · rename_i xs hxs
      have hvals := vals_to h hss
      rw [plains_to (plainsT_eq hxs)] at hvals
      simp only [Option.some.injEq] at hvals
      have hparts : (parts.map fun (i, x) => (i, a.eval x)).toList = (parts.toList.map (·.1)).zip xs := by
        rw [hvals, zip_map_parts, Array.toList_map]
      have fin : ∀ (e : TypeId) (sz : Nat) (cells : Array Value), (Instr.buildSlice t len (parts.map fun (i, x) => (i, a.eval x))).run P w = .ok (.slice (some ⟨w.heap.size, 0, none⟩) len len) (w.alloc (.cells cells e)) → cells.size = len * sz → len ≤ maxLen →
          Qs (.ref H.length, ⟨[], [.vec false e sz len cells.toList]⟩) → o.wp P a w K Q := by
        intro e sz cells hr hsz hmax hqs
        refine wp_value (x := .slice (some ⟨w.heap.size, 0, none⟩) len len) (w' := w.alloc (.cells cells e)) ?_ (hK _ _ _ _ _ hqs (List.prefix_append _ _) (hm.add (World.grownBy_alloc w _ none) ?_ ?_) (ref_to hm.sat.len _))
        · rw [hex]; exact run_v hr
        · intro b hb; simp only [blockOf, Option.some.injEq] at hb; omega
        · exact .inl (World.ownsRow_lit w cells len (Nat.zero_le _) hmax hsz)
      split at hq
      · rename_i e sz cells hb
        unfold builtOf at hb
        split at hb
        · rename_i e' hu
          split at hb
          · rename_i ie hie
            cases h1 : Nat.ble (len * ie.size) 16777216
            · rw [h1] at hb; cases hb
            · rw [h1, cond_true] at hb
              have hle := Nat.le_of_ble_eq_true h1
              cases h2 : Nat.beq (len * ie.size) 0
              · rw [h2, cond_false] at hb
                have hne : len * ie.size ≠ 0 := fun e => by rw [e] at h2; cases h2
                split at hb
                · rename_i z hz
                  split at hb
                  · rename_i cells' hfill
                    cases h3 : Nat.beq cells'.size (len * ie.size)
                    · rw [h3] at hb; cases hb
                    · rw [h3, cond_true] at hb
                      simp only [Option.some.injEq, Prod.mk.injEq] at hb
                      obtain ⟨rfl, rfl, rfl⟩ := hb
                      have hsz := Nat.eq_of_beq_eq_true h3
                      refine fin e' ie.size cells' (run_buildSlice (P := P) w t e' len _ cells' ie z hu hie hz (by omega) hne (by rw [hparts]; exact hfill)) hsz ?_ hq
                      have hs1 : 1 ≤ ie.size := by
                        rcases Nat.eq_zero_or_pos ie.size with e0 | e0
                        · rw [e0] at hne; omega
                        · exact e0
                      have : len ≤ len * ie.size := Nat.le_mul_of_pos_right _ hs1
                      unfold maxLen; omega
                  · cases hb
                · cases hb
              · rw [h2] at hb; cases hb
          · cases hb
        · cases hb
      · split at hq
        · rename_i e hu hnil hbo
          split at hq
          · rename_i sz hsz
            refine fin e sz #[] ?_ (by simp) (Nat.zero_le _) hq
            have hp0 : (parts.map fun (i, x) => (i, a.eval x)) = #[] := by
              apply Array.toList_inj.1
              rw [Array.toList_map, hnil]; rfl
            have hs := size_of hsz
            rw [hp0]
            simp [Instr.buildSlice, run_underlying hu, hs, Instr.fill, newRow]
            rw [show Array.map (fun _ => (default : Value)) (Array.range 0) = #[] by apply Array.eq_empty_of_size_eq_zero; simp]
          · exact hq.elim
        · exact hq.elim
    · have hvals := vals_to h hss
      have hlen := vals_length hss
      simp only [List.length_map] at hlen
      obtain ⟨z1, z2⟩ := zip_maps (parts.toList.map (·.1)) ss (by simp [hlen])
      have hpl : (parts.map fun (i, x) => (i, a.eval x)).toList = parts.toList.map fun p => (p.1, a.eval p.2) := by rw [Array.toList_map]
      split at hq
      · rename_i e sz cells hb
        unfold builtL at hb
        split at hb
        · rename_i e' hu
          split at hb
          · rename_i ie hie
            cases h1 : Nat.ble (len * ie.size) 16777216 && !Nat.beq (len * ie.size) 0
            · rw [h1] at hb; cases hb
            · rw [h1, cond_true] at hb
              simp only [Bool.and_eq_true, Bool.not_eq_true'] at h1
              have hle := Nat.le_of_ble_eq_true h1.1
              have hne : len * ie.size ≠ 0 := fun e => by have := h1.2; rw [e] at this; cases this
              split at hb
              · rename_i z hz
                split at hb
                · rename_i cells' hf
                  cases h3 : Nat.beq cells'.length (len * ie.size)
                  · rw [h3] at hb; cases hb
                  · rw [h3, cond_true] at hb
                    simp only [Option.some.injEq, Prod.mk.injEq] at hb
                    obtain ⟨rfl, rfl, rfl⟩ := hb
                    have hsz := Nat.eq_of_beq_eq_true h3
                    obtain ⟨ys, k1, k2⟩ : ∃ ys, SV.tos B cells' = some ys ∧ Instr.fill (fun i => some (i * ie.size, ie.size)) ((Array.range (len * ie.size)).map (z.cells[· % z.cells.size]!)) (parts.map fun (i, x) => (i, a.eval x)).toList = some ys.toArray := by
                      refine fillS_ok hm.sat (fun _ _ e => h.see e) _ _ _ cells' _ ?_ ?_ (tos_conc B _) hf
                      · rw [z1, hvals, hpl]; simp [List.map_map, Function.comp_def]
                      · rw [z2, hpl]; simp [List.map_map, Function.comp_def]
                    have hyl := tos_length k1
                    have hs1 : 1 ≤ ie.size := by
                      rcases Nat.eq_zero_or_pos ie.size with e0 | e0
                      · rw [e0] at hne; omega
                      · exact e0
                    have hlm : len ≤ len * ie.size := Nat.le_mul_of_pos_right _ hs1
                    have hmax : len ≤ maxLen := by unfold maxLen; omega
                    refine wp_value (x := .slice (some ⟨w.heap.size, 0, none⟩) len len) (w' := w.alloc (.cells ys.toArray e')) ?_ (hK _ _ _ _ _ hq (List.prefix_append _ _) (hm.add (World.grownBy_alloc w _ none) ?_ ?_) (ref_to hm.sat.len _))
                    · rw [hex]
                      refine run_v (run_buildSlice (P := P) w t e' len _ ys.toArray ie z hu hie hz (by omega) hne k2)
                    · intro b hb; simp only [blockOf, Option.some.injEq] at hb; omega
                    · exact ⟨ys, SV.tos_mono (List.prefix_append _ _) k1, .inl (World.ownsRow_lit w ys.toArray len (Nat.zero_le _) hmax (by simp; omega))⟩
                · cases hb
              · cases hb
          · cases hb
        · cases hb
      · exact hq.elim
  · exact hq.elim
theorem evalMake_ok {V : View} {H : List Blk} {B : List Value} {a : Act} {w : World} (h : Vw V H B a) (hlens : V.len = H.length) (hm : Mem w0 bs H B w) {o : Oper} {t : TypeId} {l c : Operand} (ho : o.op = .makeSlice t l c) {Qs : SV × Eff → Prop} (hq : (evalMake P V t l c).ok Qs) : EffRes P w0 bs B a w o H Qs := by
  intro K Q hK
  have hex : execOp a.eval o = (do pure (Next.value (← Instr.makeSlice t (a.eval l) (a.eval c))) : Sem Next) := by unfold execOp; rw [ho]
  unfold evalMake at hq
  rw [hlens] at hq
  split at hq
  · rename_i kz z e hl hu
    have hv := h.pv hl
    split at hq
    · rename_i i hi
      split at hq
      · rename_i zv hz
        cases h1 : sameOp l c && Nat.beq i.size 1
        · rw [h1] at hq; exact hq.elim
        · rw [h1, cond_true] at hq
          simp only [Bool.and_eq_true] at h1
          have hsame : c = l := by
            cases l <;> cases c <;> simp only [sameOp] at h1 <;> first | (cases h1.1; done) | (have := Nat.eq_of_beq_eq_true h1.1; rw [this])
          have hs1 := Nat.eq_of_beq_eq_true h1.2
          split at hq
          · rename_i zc hzc
            obtain ⟨⟨z0, z1, z2⟩, hq⟩ := hq
            obtain ⟨n, rfl⟩ := Int.eq_ofNat_of_zero_le z0
            simp only [Int.toNat_natCast] at z2 hq
            obtain ⟨w', hr, hown, hg⟩ := run_make_full (P := P) w 0 t e i zv 1 hu hi hz hs1 kz kz n z2 (by unfold maxLen; omega) (Nat.zero_le _)
            have hzc' : zv.cells = #[zc] := by apply Array.toList_inj.1; simpa using hzc
            rw [hzc', Nat.mul_one, toList_madeCells_one] at hown
            refine wp_value (x := .slice (some ⟨w.heap.size, 0, none⟩) n n) (w' := w') ?_ (hK _ _ _ _ _ hq (List.prefix_append _ _) (hm.add hg ?_ (.inl hown)) (ref_to hm.sat.len _))
            · rw [hex, hsame, hv]; exact run_v hr
            · intro b hb; simp only [blockOf, Option.some.injEq] at hb; omega
          · exact hq.elim
      · exact hq.elim
    · exact hq.elim
  · exact hq.elim
theorem owns_base {w : World} {b : Nat} {e : TypeId} {sz n : Nat} {v : Value} {xs : List Value} (h : w.ownsRow b e sz v n xs) : w.ownsRow 0 e sz v n xs :=
  ⟨h.1, h.2.imp id fun ⟨g, cap, cur, h1, _, h3⟩ => ⟨g, cap, cur, h1, Nat.zero_le _, h3⟩⟩
theorem append_nil_row {w : World} {base : Nat} {e : TypeId} {sz n : Nat} {v : Value} {xs : List Value} (h : w.ownsRow base e sz v n xs) : blockOf v = v.ownBlock := by
  rcases h.2 with ⟨rfl, _⟩ | ⟨g, cap, cur, rfl, _⟩ <;> rfl
theorem rowCells_length (n sz : Nat) (f : Nat → Nat → Value) : (rowCells n sz f).length = n * sz := by
  unfold rowCells
  induction n with
  | zero => simp
  | succ n ih => rw [List.range_succ, List.flatMap_append, List.length_append, ih, Nat.add_mul]; simp
theorem rowCells_get (n sz : Nat) (f : Nat → Nat → Value) {j : Nat} {u : Value} (h : (rowCells n sz f)[j]? = some u) : j / sz < n ∧ j % sz < sz ∧ u = f (j / sz) (j % sz) := by
  have hlt := (List.getElem?_eq_some_iff.1 h).1
  rw [rowCells_length] at hlt
  have hsz : 0 < sz := by
    rcases Nat.eq_zero_or_pos sz with e | e
    · subst e; omega
    · exact e
  have h1 : j / sz < n := Nat.div_lt_of_lt_mul (by rw [Nat.mul_comm]; exact hlt)
  have h2 : j % sz < sz := Nat.mod_lt _ hsz
  refine ⟨h1, h2, ?_⟩
  have key : ∀ (m i l : Nat), i < m → l < sz → (rowCells m sz f)[i * sz + l]? = some (f i l) := by
    intro m
    induction m with
    | zero => intro i l hi; omega
    | succ m ih =>
      intro i l hi hl
      have e : rowCells (m + 1) sz f = rowCells m sz f ++ (List.range sz).map (f m) := by
        unfold rowCells; rw [List.range_succ, List.flatMap_append]; simp
      rw [e]
      by_cases him : i < m
      · have : i * sz + l < m * sz := by
          calc i * sz + l < i * sz + sz := by omega
            _ = (i + 1) * sz := by rw [Nat.add_mul, Nat.one_mul]
            _ ≤ m * sz := Nat.mul_le_mul_right _ him
        rw [List.getElem?_append_left (by rw [rowCells_length]; exact this)]
        exact ih i l him hl
      · obtain rfl : i = m := by omega
        rw [List.getElem?_append_right (by rw [rowCells_length]; omega), rowCells_length]
        rw [show i * sz + l - i * sz = l by omega]
        simp [hl]
  have e := key n (j / sz) (j % sz) h1 h2
  rw [show j / sz * sz + j % sz = j by rw [Nat.mul_comm]; exact Nat.div_add_mod j sz, h] at e
  simpa using e
theorem newsOf_ok {V : View} {H : List Blk} {B : List Value} {w : World} (hg : ∀ k x, V.see k = some x → H[k]? = some x) (hm : Mem w0 bs H B w) {s : SV} {x : Value} (hs : s.to B = some x) {sz j m : Nat} {ys : List Value} {ps : List DP} (h : newsOf V sz s = some (j, m, ys, ps)) (hsz : 1 ≤ sz) (hps : ∀ q ∈ ps, q.p) :
    ys.length = m * sz ∧ (∀ u ∈ ys, u.oneCell' = true) ∧ ((x = .slice none 0 0 ∧ m = 0) ∨ ∃ p c, x = .slice (some p) m c ∧ ∀ i u, ys[i]? = some u → w.cell? (p.add i) = some u) ∨
    (m = 0 ∧ ys = [] ∧ ∃ c, x = .slice none 0 c) := by
  cases s with
  | ref k =>
    simp only [newsOf] at h
    split at h
    · rename_i o' e sz' m' ys' hk
      have hk := hg _ _ hk
      cases h1 : Nat.beq sz sz'
      · rw [h1] at h; cases h
      · rw [h1, cond_true] at h
        simp only [Option.some.injEq, Prod.mk.injEq] at h
        obtain ⟨rfl, rfl, rfl, rfl⟩ := h
        obtain rfl : sz = sz' := Nat.eq_of_beq_eq_true h1
        simp only [SV.to] at hs
        have hr : VecSat w e sz x m' ys' := hm.sat.blk k _ x hk hs
        refine .inl ⟨hr.view.1, hps (dAll _) (List.mem_cons_self ..), ?_⟩
        rcases hr.view.2 with hn | ⟨b, cap, rfl, -, -, -, hcs⟩
        · exact .inl hn
        · refine .inr ⟨_, cap, rfl, fun i u hu => ?_⟩
          have hi := (List.getElem?_eq_some_iff.1 hu).1
          rw [add_off, Nat.zero_add, (hcs i (by rw [← hr.view.1]; exact hi)).1]; exact hu
    · rename_i m' sz' f hk
      have hk := hg _ _ hk
      cases h1 : Nat.beq sz sz'
      · rw [h1] at h; cases h
      · rw [h1, cond_true] at h
        simp only [Option.some.injEq, Prod.mk.injEq] at h
        obtain ⟨rfl, rfl, rfl, rfl⟩ := h
        obtain rfl : sz = sz' := Nat.eq_of_beq_eq_true h1
        obtain ⟨p, cap, g1, -, -, g2⟩ := hm.row_at hk
        simp only [SV.to, g1, Option.some.injEq] at hs
        subst hs
        cases p with
        | none =>
          have hm0 : m' = 0 := by
            rcases Nat.eq_zero_or_pos m' with e | e
            · exact e
            · obtain ⟨a, ha, -⟩ := g2 0 0 e (by omega); cases ha
          subst hm0
          exact .inr ⟨rfl, rfl, cap, rfl⟩
        | some p =>
          refine .inl ⟨rowCells_length _ _ _, hps (dAll _) (List.mem_cons_self ..), .inr ⟨p, cap, rfl, fun i u hu => ?_⟩⟩
          obtain ⟨h2, h3, h4⟩ := rowCells_get _ _ _ hu
          obtain ⟨a, ha, hc⟩ := g2 _ _ h2 h3
          simp only [Option.some.injEq] at ha
          subst ha
          rw [show i / sz * sz + i % sz = i by rw [Nat.mul_comm]; exact Nat.div_add_mod i sz] at hc
          rw [hc, h4]
    · cases h
  | _ => simp [newsOf] at h
theorem append_none (w : World) (base : Nat) (t ty e : TypeId) (i : TypeInfo) (size : Nat) (ht : P.underlying t = some (.slice e)) (hi : P.info? e = some i) (v : Value) (n c : Nat) (xs : List Value) (hown : w.ownsRow base e size v n xs) :
    (Builtin.append_ #[t, t] ty #[v, .slice none 0 c]).run P w = .ok v w := by
  rcases hown.2 with ⟨rfl, rfl⟩ | ⟨g, cap, cur, rfl, _, _, hnc, _⟩
  · simp [Builtin.append_, run_underlying ht, sizeOf, typeInfo, hi, Builtin.lenOf, Builtin.firstCells]
  · simp [Builtin.append_, run_underlying ht, sizeOf, typeInfo, hi, Builtin.lenOf, Builtin.firstCells, hnc, storeCells]
theorem vecOf_ok {V : View} {H : List Blk} {B : List Value} {w : World} (hg : ∀ k x, V.see k = some x → H[k]? = some x) (hm : Mem w0 bs H B w) {s : SV} {x : Value} (hs : s.to B = some x) {e : TypeId} {sz n : Nat} {k : Option Nat} {xs : List Value} {o : Bool} (h : vecOf V e sz s = some (k, o, n, xs)) :
    w.ownsRow 0 e sz x n xs ∧ ((k = none ∧ blockOf x = none) ∨ ∃ k', k = some k' ∧ H[k']? = some (.vec o e sz n xs) ∧ B[k']? = some x) := by
  cases s with
  | ref k' =>
    simp only [vecOf] at h
    split at h
    · rename_i o' e' sz' n' xs' hk
      have hk := hg _ _ hk
      cases h1 : (Nat.beq e e' && Nat.beq sz sz' && !Nat.beq e noGrow)
      · rw [h1] at h; cases h
      · rw [h1, cond_true] at h
        simp only [Bool.and_eq_true] at h1
        obtain rfl : e = e' := Nat.eq_of_beq_eq_true h1.1.1
        obtain rfl : sz = sz' := Nat.eq_of_beq_eq_true h1.1.2
        have hne : e ≠ noGrow := fun e0 => by have := h1.2; rw [e0, Nat.beq_refl] at this; cases this
        simp only [Option.some.injEq, Prod.mk.injEq] at h
        obtain ⟨rfl, rfl, rfl, rfl⟩ := h
        simp only [SV.to] at hs
        exact ⟨VecSat.row (hm.sat.blk k' _ x hk hs) hne, .inr ⟨k', rfl, hk, hs⟩⟩
    · cases h
  | c y =>
    simp only [SV.to, Option.some.injEq] at hs
    subst hs
    simp only [vecOf] at h
    split at h
    · simp_all
    · rename_i heq
      simp only [SV.c.injEq] at heq
      subst heq
      simp only [Option.some.injEq, Prod.mk.injEq] at h
      obtain ⟨rfl, rfl, rfl, rfl⟩ := h
      exact ⟨World.ownsRow_nil w 0 e sz, .inl ⟨rfl, rfl⟩⟩
    · cases h
  | _ => simp [vecOf] at h
theorem append_exec {a : Act} {o : Oper} {c : Call} (ho : o.op = .call c) (hc : c.callee = .builtin .append) {xs : Array Value} (hx : c.args.map a.eval = xs) {w w' : World} {v : Value} (hr : (Builtin.append_ c.argTypes o.type xs).run P w = .ok v w') : (execOp a.eval o).run P w = .ok (.value v) w' := by
  have hex : execOp a.eval o = (do let d ← resolve a.eval c o.type; invoke d.target d.args : Sem Next) := by unfold execOp; rw [ho]
  rw [hex]
  unfold resolve
  simp only [hc, hx]
  show (invoke (.builtin .append c.argTypes o.type #[]) xs).run P w = _
  simp only [invoke, builtin]
  exact run_v hr
theorem append_core {w : World} {t ty e : TypeId} {i : TypeInfo} {z : Value} (hu : P.underlying t = some (.slice e)) (hi : P.info? e = some i) (hz : i.zero = some z) (hzs : z.cells.size = i.size) (hsz : 1 ≤ i.size)
    {xa xb : Value} {n m : Nat} {xs ys : List Value} (hb1 : n + m ≤ 9223372036854775807) (hb2 : (n + m) * i.bytes ≤ 140737488355328) (hown : w.ownsRow 0 e i.size xa n xs)
    (hnews : ys.length = m * i.size ∧ (∀ u ∈ ys, u.oneCell' = true) ∧ ((xb = .slice none 0 0 ∧ m = 0) ∨ ∃ p c, xb = .slice (some p) m c ∧ ∀ i u, ys[i]? = some u → w.cell? (p.add i) = some u) ∨ (m = 0 ∧ ys = [] ∧ ∃ c, xb = .slice none 0 c)) :
    ∃ v' w', (Builtin.append_ #[t, t] ty #[xa, xb]).run P w = .ok v' w' ∧ w'.ownsRow 0 e i.size v' (n + m) (xs ++ ys) ∧ w.grownBy w' (blockOf xa) ∧ (∀ b, blockOf v' = some b → blockOf xa = some b ∨ w.heap.size ≤ b) := by
  have hba := append_nil_row hown
  have none_case : ∀ cc, xb = .slice none 0 cc → m = 0 → ys = [] → ∃ v' w', (Builtin.append_ #[t, t] ty #[xa, xb]).run P w = .ok v' w' ∧ w'.ownsRow 0 e i.size v' (n + m) (xs ++ ys) ∧ w.grownBy w' (blockOf xa) ∧ (∀ b, blockOf v' = some b → blockOf xa = some b ∨ w.heap.size ≤ b) := by
    rintro cc rfl rfl rfl
    exact ⟨xa, w, append_none w 0 t ty e i i.size hu hi xa n cc xs hown, by simpa using hown, ⟨rfl, rfl, rfl, Nat.le_refl _, fun _ _ _ => rfl⟩, fun b hb => .inl hb⟩
  rcases hnews with ⟨hl, hone, ⟨rfl, hm0⟩ | ⟨p, cc, rfl, hcells⟩⟩ | ⟨hm0, hys, cc, rfl⟩
  · refine none_case 0 rfl hm0 ?_
    subst hm0; simpa using hl
  · rcases hown.2 with ⟨rfl, rfl⟩ | ⟨g, cap, cur, rfl, -⟩
    · obtain ⟨hxs0, -⟩ := hown
      obtain rfl : xs = [] := by simpa using hxs0
      obtain ⟨v', w', hr, ho', hg, -⟩ := run_append_own (P := P) (w := w) w.heap.size t ty e i z i.size i.bytes hu hi hz rfl rfl hzs hsz (.slice none 0 0) 0 [] (World.ownsRow_nil _ _ _ _) p m cc ys hl hcells hone (by unfold maxLen; exact hb1) hb2 (Nat.le_refl _)
      exact ⟨v', w', hr, owns_base ho', hg, fun b hb => .inr (World.ownsRow.lt ho' b (by rw [← ownsRow_block (owns_base ho')]; exact hb)).1⟩
    · by_cases hroom : n + m ≤ cap
      · obtain ⟨w', hr, ho', hg⟩ := run_append_fits (P := P) w 0 t ty e i i.size hu hi rfl g n cap xs hown p m cc ys hl hcells hone hroom
        exact ⟨_, w', hr, ho', hg, fun b hb => .inl hb⟩
      · obtain ⟨v', w', hr, ho', hg⟩ := run_append_arg_grows (P := P) w t ty e i z i.size i.bytes hu hi hz rfl rfl hzs hsz ⟨g, 0, none⟩ n cap xs hown.1 (fun j u hj => hown.cells rfl j u hj) p m cc ys hl hcells (by omega) (by unfold maxLen; exact hb1) hb2
        exact ⟨v', w', hr, owns_base ho', ⟨hg.os, hg.tape, hg.output, hg.size, fun k hk _ => hg.block k hk (by simp)⟩, fun b hb => .inr (World.ownsRow.lt ho' b (by rw [← ownsRow_block (owns_base ho')]; exact hb)).1⟩
  · exact none_case cc rfl hm0 hys
theorem lstOf_ok {V : View} {H : List Blk} {B : List Value} {w : World} (hg : ∀ k x, V.see k = some x → H[k]? = some x) (hm : Mem w0 bs H B w) {s : SV} {x : Value} (hs : s.to B = some x) {e : TypeId} {sz n : Nat} {k : Option Nat} {q : Bool} {xp : List Value} {xs : List SV} (h : lstOf V e sz s = some (k, n, q, xp, xs)) :
    ∃ us, SV.tos B xs = some us ∧ w.ownsRow 0 e sz x n (xp ++ us) ∧ (q = false → xp = []) ∧ ((k = none ∧ blockOf x = none) ∨ ∃ k' y, k = some k' ∧ H[k']? = some y ∧ y.excl = true ∧ B[k']? = some x) := by
  have nil_case : x = .slice none 0 0 → some (none, 0, false, [], []) = some (k, n, q, xp, xs) → ∃ us, SV.tos B xs = some us ∧ w.ownsRow 0 e sz x n (xp ++ us) ∧ (q = false → xp = []) ∧ ((k = none ∧ blockOf x = none) ∨ ∃ k' y, k = some k' ∧ H[k']? = some y ∧ y.excl = true ∧ B[k']? = some x) := by
    intro hx h
    subst hx
    simp only [Option.some.injEq, Prod.mk.injEq] at h
    obtain ⟨rfl, rfl, rfl, rfl, rfl⟩ := h
    exact ⟨[], rfl, World.ownsRow_nil w 0 e sz, fun _ => rfl, .inl ⟨rfl, rfl⟩⟩
  cases s with
  | ref k' =>
    simp only [lstOf] at h
    split at h
    · rename_i o' e' sz' n' xs' hk
      have hk := hg _ _ hk
      cases h1 : (Nat.beq e e' && Nat.beq sz sz' && !Nat.beq e noGrow)
      · rw [h1] at h; cases h
      · rw [h1, cond_true] at h
        simp only [Bool.and_eq_true] at h1
        obtain rfl : e = e' := Nat.eq_of_beq_eq_true h1.1.1
        obtain rfl : sz = sz' := Nat.eq_of_beq_eq_true h1.1.2
        have hne : e ≠ noGrow := fun e0 => by have := h1.2; rw [e0, Nat.beq_refl] at this; cases this
        simp only [Option.some.injEq, Prod.mk.injEq] at h
        obtain ⟨rfl, rfl, rfl, rfl, rfl⟩ := h
        simp only [SV.to] at hs
        exact ⟨[], rfl, by rw [List.append_nil]; exact VecSat.row (hm.sat.blk k' _ x hk hs) hne, fun h => (by cases h), .inr ⟨k', _, rfl, hk, rfl, hs⟩⟩
    · rename_i e' sz' n' xs' hk
      have hk := hg _ _ hk
      cases h1 : (Nat.beq e e' && Nat.beq sz sz' && !Nat.beq e noGrow)
      · rw [h1] at h; cases h
      · rw [h1, cond_true] at h
        simp only [Bool.and_eq_true] at h1
        obtain rfl : e = e' := Nat.eq_of_beq_eq_true h1.1.1
        obtain rfl : sz = sz' := Nat.eq_of_beq_eq_true h1.1.2
        have hne : e ≠ noGrow := fun e0 => by have := h1.2; rw [e0, Nat.beq_refl] at this; cases this
        simp only [Option.some.injEq, Prod.mk.injEq] at h
        obtain ⟨rfl, rfl, rfl, rfl, rfl⟩ := h
        simp only [SV.to] at hs
        obtain ⟨us, h2, h3⟩ := hm.sat.blk k' _ x hk hs
        exact ⟨us, h2, VecSat.row h3 hne, fun _ => rfl, .inr ⟨k', _, rfl, hk, rfl, hs⟩⟩
    · rename_i e' sz' n' xp' xs' hk
      have hk := hg _ _ hk
      cases h1 : (Nat.beq e e' && Nat.beq sz sz' && !Nat.beq e noGrow)
      · rw [h1] at h; cases h
      · rw [h1, cond_true] at h
        simp only [Bool.and_eq_true] at h1
        obtain rfl : e = e' := Nat.eq_of_beq_eq_true h1.1.1
        obtain rfl : sz = sz' := Nat.eq_of_beq_eq_true h1.1.2
        have hne : e ≠ noGrow := fun e0 => by have := h1.2; rw [e0, Nat.beq_refl] at this; cases this
        simp only [Option.some.injEq, Prod.mk.injEq] at h
        obtain ⟨rfl, rfl, rfl, rfl, rfl⟩ := h
        simp only [SV.to] at hs
        obtain ⟨us, h2, h3⟩ := hm.sat.blk k' _ x hk hs
        exact ⟨us, h2, VecSat.row h3 hne, fun h => (by cases h), .inr ⟨k', _, rfl, hk, rfl, hs⟩⟩
    · cases h
  | c y =>
    simp only [SV.to, Option.some.injEq] at hs
    subst hs
    simp only [lstOf] at h
    split at h
    · simp_all
    · rename_i heq
      simp only [SV.c.injEq] at heq
      exact nil_case heq h
    · rename_i heq
      cases heq
    · cases h
  | v y =>
    simp only [SV.to, Option.some.injEq] at hs
    subst hs
    simp only [lstOf] at h
    split at h
    · simp_all
    · rename_i heq
      cases heq
    · rename_i heq
      simp only [SV.v.injEq] at heq
      exact nil_case heq h
    · cases h
  | _ => simp [lstOf] at h
theorem sat_one {B : List Value} {w : World} {u : Value} {x : Blk} (h : BlkSat B w u x) (hx : x ≠ .gone) : u.oneCell' = true := by
  cases x with
  | own cells => obtain ⟨b, vs, rfl, -⟩ := h; rfl
  | arr kind n f => obtain ⟨b, rfl, -⟩ := h; rfl
  | vec o e sz n xs =>
    have hv : VecSat w e sz u n xs := h
    rcases hv.view.2 with ⟨rfl, -⟩ | ⟨g, cap, rfl, -⟩ <;> rfl
  | lst e sz n cells =>
    obtain ⟨xs, -, hv⟩ := h
    rcases hv.view.2 with ⟨rfl, -⟩ | ⟨g, cap, rfl, -⟩ <;> rfl
  | que e sz n xp cells =>
    obtain ⟨xs, -, hv⟩ := h
    rcases hv.view.2 with ⟨rfl, -⟩ | ⟨g, cap, rfl, -⟩ <;> rfl
  | pm K kl cells =>
    obtain ⟨xs, -, -, b, rfl, -⟩ := h; rfl
  | row n sz f => obtain ⟨p, cap, rfl, -⟩ := h; rfl
  | ext x =>
    cases x with
    | smap P k e D => obtain ⟨b, rfl, -⟩ := h; rfl
    | bools n f => obtain ⟨b, rfl, -⟩ := h; rfl
  | gone => exact absurd rfl hx
theorem ones_ok {V : View} {H : List Blk} {B : List Value} {w : World} (hg : ∀ k x, V.see k = some x → H[k]? = some x) (hm : Mem w0 bs H B w) : ∀ {l : List SV} {us : List Value} {ps : List DP}, SV.tos B l = some us → oneSs l = some ps → seenAll V l = true → (∀ q ∈ ps, q.p) → ∀ u ∈ us, u.oneCell' = true
  | [], us, ps, h, _, _, _ => by simp only [SV.tos, Option.some.injEq] at h; subst h; simp
  | s :: l, us, ps, h, ho, hs, hp => by
    simp only [SV.tos] at h
    split at h
    case h_2 => cases h
    rename_i x xs hx hxs
    simp only [Option.some.injEq] at h
    subst h
    have key : x.oneCell' = true ∧ seenAll V l = true ∧ ∃ ps', oneSs l = some ps' ∧ ∀ q ∈ ps', q.p := by
      unfold oneSs at ho
      split at ho
      · rename_i y ps' hl
        simp only [Option.some.injEq] at ho
        subst ho
        simp only [SV.to, Option.some.injEq] at hx
        subst hx
        exact ⟨(hp _ (List.mem_cons_self ..)) _ (List.mem_singleton.2 rfl), hs, ps', hl, fun q hq => hp q (List.mem_cons_of_mem _ hq)⟩
      · rename_i y ps' hl
        simp only [SV.to, Option.some.injEq] at hx
        subst hx
        cases hb : y.oneCell'
        · rw [hb] at ho; cases ho
        · rw [hb, cond_true, Option.some.injEq] at ho
          subst ho
          exact ⟨rfl, hs, ps', hl, hp⟩
      · rename_i ps' hl
        simp only [Option.some.injEq] at ho
        subst ho
        simp only [SV.to, Option.some.injEq] at hx
        subst hx
        exact ⟨rfl, hs, ps', hl, hp⟩
      · rename_i ps' hl
        simp only [Option.some.injEq] at ho
        subst ho
        simp only [SV.to, Option.some.injEq] at hx
        subst hx
        exact ⟨rfl, hs, ps', hl, hp⟩
      · rename_i k off ps' hl
        simp only [Option.some.injEq] at ho
        subst ho
        refine ⟨?_, hs, ps', hl, hp⟩
        simp only [SV.to] at hx
        split at hx
        · simp only [Option.some.injEq] at hx; subst hx; rfl
        · cases hx
      · rename_i k ps' hl
        simp only [Option.some.injEq] at ho
        subst ho
        simp only [seenAll] at hs
        split at hs
        · cases hs
        · rename_i y hne hk
          refine ⟨?_, hs, ps', hl, hp⟩
          simp only [SV.to] at hx
          exact sat_one (hm.sat.blk k y x (hg _ _ hk) hx) hne
        · cases hs
      · cases ho
    obtain ⟨h1, h2, ps', h3, h4⟩ := key
    intro u hu
    rcases List.mem_cons.1 hu with rfl | hu
    · exact h1
    · exact ones_ok hg hm hxs h3 h2 h4 u hu
theorem newsL_ok {V : View} {H : List Blk} {B : List Value} {w : World} (hg : ∀ k x, V.see k = some x → H[k]? = some x) (hm : Mem w0 bs H B w) {s : SV} {x : Value} (hs : s.to B = some x) {sz j m : Nat} {ys : List SV} {ps : List DP} (h : newsL V sz s = some (j, m, ys, ps)) (hps : ∀ q ∈ ps, q.p) :
    ∃ us, SV.tos B ys = some us ∧ us.length = m * sz ∧ (∀ u ∈ us, u.oneCell' = true) ∧ ((x = .slice none 0 0 ∧ m = 0) ∨ ∃ p c, x = .slice (some p) m c ∧ ∀ i u, us[i]? = some u → w.cell? (p.add i) = some u) := by
  have fin : ∀ {o : Nat} {us : List Value}, VecSat w o sz x m us → (∀ u ∈ us, u.oneCell' = true) → us.length = m * sz ∧ (∀ u ∈ us, u.oneCell' = true) ∧ ((x = .slice none 0 0 ∧ m = 0) ∨ ∃ p c, x = .slice (some p) m c ∧ ∀ i u, us[i]? = some u → w.cell? (p.add i) = some u) := by
    intro o us hr h1
    refine ⟨hr.view.1, h1, ?_⟩
    rcases hr.view.2 with hn | ⟨b, cap, rfl, -, -, -, hcs⟩
    · exact .inl hn
    · refine .inr ⟨_, cap, rfl, fun i u hu => ?_⟩
      have hi := (List.getElem?_eq_some_iff.1 hu).1
      rw [add_off, Nat.zero_add, (hcs i (by rw [← hr.view.1]; exact hi)).1]; exact hu
  cases s with
  | ref k =>
    simp only [newsL] at h
    simp only [SV.to] at hs
    split at h
    · rename_i e sz' m' ys' hk
      have hk' := hg _ _ hk
      cases h1 : (Nat.beq sz sz' && seenAll V ys')
      · rw [h1] at h; cases h
      · rw [h1, cond_true] at h
        simp only [Bool.and_eq_true] at h1
        obtain rfl : sz = sz' := Nat.eq_of_beq_eq_true h1.1
        split at h
        · rename_i ps' ho
          simp only [Option.some.injEq, Prod.mk.injEq] at h
          obtain ⟨rfl, rfl, rfl, rfl⟩ := h
          obtain ⟨us, h2, h3⟩ := hm.sat.blk k _ x hk' hs
          exact ⟨us, h2, fin h3 (ones_ok hg hm h2 ho h1.2 hps)⟩
        · cases h
    · rename_i o' e sz' m' ys' hk
      have hk' := hg _ _ hk
      cases h1 : Nat.beq sz sz'
      · rw [h1] at h; cases h
      · rw [h1, cond_true] at h
        simp only [Option.some.injEq, Prod.mk.injEq] at h
        obtain ⟨rfl, rfl, rfl, rfl⟩ := h
        obtain rfl : sz = sz' := Nat.eq_of_beq_eq_true h1
        exact ⟨ys', tos_plain _ _, fin (hm.sat.blk k _ x hk' hs) (hps (dAll _) (List.mem_cons_self ..))⟩
    · cases h
  | _ => simp [newsL] at h
theorem append_str {w : World} {t u ty e : TypeId} {i : TypeInfo} (ht : P.underlying t = some (.slice e)) (hu : P.underlying u = some .string) (hi : P.info? e = some i) (hz : i.zero = some (.int .u8 0)) (hsize : i.size = 1) (hby : i.bytes = 1)
    {xa : Value} {n : Nat} {xs : List Value} (hown : w.ownsRow 0 e 1 xa n xs) (s : ByteArray) (h63 : n + s.size ≤ maxLen) (hbytes : n + s.size ≤ 140737488355328) :
    ∃ v' w', (Builtin.append_ #[t, u] ty #[xa, .string s]).run P w = .ok v' w' ∧ w'.ownsRow 0 e 1 v' (n + s.size) (xs ++ Lib.strCells s) ∧ w.grownBy w' (blockOf xa) ∧ (∀ b, blockOf v' = some b → blockOf xa = some b ∨ w.heap.size ≤ b) := by
  rw [ownsRow_block hown]
  rcases hown.2 with ⟨rfl, rfl⟩ | ⟨g, cap, cur, rfl, -, hg, hnc, hcm, hcs, htake⟩
  · obtain ⟨hxs0, -⟩ := hown
    obtain rfl : xs = [] := by simpa using hxs0
    obtain ⟨v', w', hr, ho', hgr, -⟩ := Lib.run_append_own_string (P := P) w w.heap.size t u ty e i ht hu hi hz hsize hby (.slice none 0 0) 0 [] (World.ownsRow_nil _ _ _ _) s h63 hbytes (Nat.le_refl _)
    exact ⟨v', w', hr, owns_base ho', hgr, fun b hb => .inr (World.ownsRow.lt ho' b (by rw [← ownsRow_block (owns_base ho')]; exact hb)).1⟩
  · obtain ⟨v', w', hr, ho', hgr, -⟩ := Lib.run_append_own_string (P := P) w 0 t u ty e i ht hu hi hz hsize hby _ n xs hown s h63 hbytes (Nat.zero_le _)
    refine ⟨v', w', hr, ho', hgr, fun b hb => ?_⟩
    have hcs' : cur.size = cap := by simpa using hcs
    by_cases hroom : n + s.size ≤ cap
    · have h2 := Lib.run_append_room_string (P := P) w t u ty e i ht hu hi hsize g n cap cur hg s hroom (by omega)
      rw [hr] at h2
      simp only [Result.ok.injEq] at h2
      obtain ⟨rfl, -⟩ := h2
      exact .inl hb
    · have hxl : xs.length = n := by simpa using hown.1
      have h2 := Lib.run_append_grow_string (P := P) w t u ty e i (.int .u8 0) ht hu hi hz ⟨g, 0, none⟩ n cap xs (by rw [hxl, hsize, Nat.mul_one]) (fun j v hj => by
        have := hown.cells rfl j v hj
        simpa [Addr.add] using this) s (by omega) (by unfold maxLen at h63; omega) (by rw [hby]; exact growslice_fits (by omega) (by omega))
      rw [hr] at h2
      simp only [Result.ok.injEq] at h2
      obtain ⟨rfl, -⟩ := h2
      simp only [blockOf, Option.some.injEq] at hb
      exact .inr (by omega)
theorem evalAppend_ok {V : View} {H : List Blk} {B : List Value} {a : Act} {w : World} (h : Vw V H B a) (hlens : V.len = H.length) (hm : Mem w0 bs H B w) {o : Oper} {c : Call} (ho : o.op = .call c) (hc : c.callee = .builtin .append) {Qs : SV × Eff → Prop} (hq : (evalAppend P V c).ok Qs) : EffRes P w0 bs B a w o H Qs := by
  intro K Q hK
  unfold evalAppend at hq
  rw [hlens] at hq
  split at hq
  · rename_i sa sb t t' hss htt
    split at hq
    · rename_i e hu
      split at hq
      · rename_i i hi
        split at hq
        · rename_i z hz
          cases h1 : (Nat.beq t t' && Nat.beq z.cells.size i.size && Nat.ble 1 i.size)
          · rw [h1, cond_false] at hq
            split at hq
            · rename_i s0 hbs hut
              cases h3 : (isZ8 z && Nat.beq i.size 1 && Nat.beq i.bytes 1)
              · rw [h3] at hq; exact hq.elim
              · rw [h3, cond_true] at hq
                simp only [Bool.and_eq_true] at h3
                obtain ⟨⟨h31, h32⟩, h33⟩ := h3
                have hsz1 := Nat.eq_of_beq_eq_true h32
                have hby1 := Nat.eq_of_beq_eq_true h33
                have hz8 : i.zero = some (.int .u8 0) := by
                  unfold isZ8 at h31
                  split at h31
                  · rename_i z0; rw [hz, eq_of_beq h31]
                  · cases h31
                have hty : c.argTypes = #[t, t'] := by apply Array.toList_inj.1; exact htt
                unfold appS at hq
                split at hq
                · rename_i k n q xp xs hka
                  obtain ⟨⟨hb1, hb2⟩, hq⟩ := hq
                  have hvals := vals_to h hss
                  simp only [SV.tos] at hvals
                  split at hvals
                  case h_2 => cases hvals
                  rename_i xa xl hsa hrest
                  split at hrest
                  case h_2 => cases hrest
                  rename_i xb xl' hsb hnil
                  simp only [Option.some.injEq] at hnil hrest hvals
                  subst hnil
                  subst hrest
                  have hargs : c.args.map a.eval = #[xa, xb] := by rw [map_toArray, ← hvals]
                  obtain ⟨us, hus, hown, hxp, hkk⟩ := lstOf_ok h.sees hm hsa hka
                  rw [SV.plain_to hbs B, Option.some.injEq] at hsb
                  subst hsb
                  have hx := fun {v : Value} {w' : World} (hr : (Builtin.append_ #[t, t'] o.type #[xa, .string s0]).run P w = .ok v w') => append_exec (P := P) ho hc hargs (by rw [hty]; exact hr)
                  obtain ⟨v', w', hr, hown', hg, hbl⟩ := append_str (P := P) (ty := o.type) hu hut hi hz8 hsz1 hby1 hown s0 (by unfold maxLen; exact hb1) hb2
                  refine wp_value (x := v') (w' := w') (hx hr) ?_
                  have hex : (mkQ q e 1 (n + s0.size) xp (xs ++ (bytesV s0.data.toList).map .c)).excl = true := by cases q <;> rfl
                  have hsat : BlkSat (B ++ [v']) w' v' (mkQ q e 1 (n + s0.size) xp (xs ++ (bytesV s0.data.toList).map .c)) := by
                    have ht := tos_append (SV.tos_mono (List.prefix_append B [v']) hus) (tos_conc (B ++ [v']) (bytesV s0.data.toList))
                    rw [List.append_assoc] at hown'
                    cases q with
                    | true => exact ⟨us ++ bytesV s0.data.toList, ht, .inl hown'⟩
                    | false =>
                      rw [hxp rfl, List.nil_append] at hown'
                      exact ⟨us ++ bytesV s0.data.toList, ht, .inl hown'⟩
                  rw [hlens] at hq
                  rcases hkk with ⟨rfl, hnb'⟩ | ⟨k', y, rfl, hk', hy, hBk⟩
                  · rw [hnb'] at hg hbl
                    refine hK _ _ (B ++ [v']) _ _ hq (List.prefix_append _ _) (hm.add hg (fun b hb => ?_) hsat) (ref_to hm.sat.len _)
                    rcases hbl b hb with g | g
                    · cases g
                    · exact g
                  · refine hK _ _ (B ++ [v']) _ _ hq (List.prefix_append _ _) (hm.pass hk' hy hBk hg hbl hsat hex) (ref_to hm.sat.len _)
                · exact hq.elim
            · exact hq.elim
          · rw [h1, cond_true] at hq
            simp only [Bool.and_eq_true] at h1
            obtain ⟨⟨h11, h12⟩, h13⟩ := h1
            obtain rfl : t = t' := Nat.eq_of_beq_eq_true h11
            have hzs := Nat.eq_of_beq_eq_true h12
            have hsz := Nat.le_of_ble_eq_true h13
            have hty : c.argTypes = #[t, t] := by apply Array.toList_inj.1; exact htt
            split at hq
            · rename_i k oo n xs j m ys ps hka hnb
              cases h2 : (match k with | some k => !Nat.beq k j | none => true)
              · rw [h2] at hq; exact hq.elim
              · rw [h2, cond_true] at hq
                obtain ⟨hps, hq⟩ := needsD_ok hq
                obtain ⟨hb1, hb2⟩ := hps _ (List.mem_cons_self ..)
                have hps' : ∀ q ∈ ps, q.p := fun q hq => hps q (List.mem_cons_of_mem _ hq)
                have hvals := vals_to h hss
                simp only [SV.tos] at hvals
                split at hvals
                case h_2 => cases hvals
                rename_i xa xl hsa hrest
                split at hrest
                case h_2 => cases hrest
                rename_i xb xl' hsb hnil
                simp only [Option.some.injEq] at hnil hrest hvals
                subst hnil
                subst hrest
                have hargs : c.args.map a.eval = #[xa, xb] := by rw [map_toArray, ← hvals]
                obtain ⟨hown, hkk⟩ := vecOf_ok h.sees hm hsa hka
                have hx := fun {v : Value} {w' : World} (hr : (Builtin.append_ #[t, t] o.type #[xa, xb]).run P w = .ok v w') => append_exec (P := P) ho hc hargs (by rw [hty]; exact hr)
                -- what comes of it, in one word
                have main : ∃ v' w', (Builtin.append_ #[t, t] o.type #[xa, xb]).run P w = .ok v' w' ∧ w'.ownsRow 0 e i.size v' (n + m) (xs ++ ys) ∧ w.grownBy w' (blockOf xa) ∧ (∀ b, blockOf v' = some b → blockOf xa = some b ∨ w.heap.size ≤ b) := by
                  have hba := append_nil_row hown
                  have none_case : ∀ cc, xb = .slice none 0 cc → m = 0 → ys = [] → ∃ v' w', (Builtin.append_ #[t, t] o.type #[xa, xb]).run P w = .ok v' w' ∧ w'.ownsRow 0 e i.size v' (n + m) (xs ++ ys) ∧ w.grownBy w' (blockOf xa) ∧ (∀ b, blockOf v' = some b → blockOf xa = some b ∨ w.heap.size ≤ b) := by
                    rintro cc rfl rfl rfl
                    exact ⟨xa, w, append_none w 0 t o.type e i i.size hu hi xa n cc xs hown, by simpa using hown, ⟨rfl, rfl, rfl, Nat.le_refl _, fun _ _ _ => rfl⟩, fun b hb => .inl hb⟩
                  rcases newsOf_ok h.sees hm hsb hnb hsz hps' with ⟨hl, hone, ⟨rfl, hm0⟩ | ⟨p, cc, rfl, hcells⟩⟩ | ⟨hm0, hys, cc, rfl⟩
                  · refine none_case 0 rfl hm0 ?_
                    subst hm0; simpa using hl
                  · rcases hown.2 with ⟨rfl, rfl⟩ | ⟨g, cap, cur, rfl, -⟩
                    · obtain ⟨hxs0, -⟩ := hown
                      obtain rfl : xs = [] := by simpa using hxs0
                      obtain ⟨v', w', hr, ho', hg, -⟩ := run_append_own (P := P) (w := w) w.heap.size t o.type e i z i.size i.bytes hu hi hz rfl rfl hzs hsz (.slice none 0 0) 0 [] (World.ownsRow_nil _ _ _ _) p m cc ys hl hcells hone (by unfold maxLen; exact hb1) hb2 (Nat.le_refl _)
                      exact ⟨v', w', hr, owns_base ho', hg, fun b hb => .inr (World.ownsRow.lt ho' b (by rw [← ownsRow_block (owns_base ho')]; exact hb)).1⟩
                    · by_cases hroom : n + m ≤ cap
                      · obtain ⟨w', hr, ho', hg⟩ := run_append_fits (P := P) w 0 t o.type e i i.size hu hi rfl g n cap xs hown p m cc ys hl hcells hone hroom
                        exact ⟨_, w', hr, ho', hg, fun b hb => .inl hb⟩
                      · obtain ⟨v', w', hr, ho', hg⟩ := run_append_arg_grows (P := P) w t o.type e i z i.size i.bytes hu hi hz rfl rfl hzs hsz ⟨g, 0, none⟩ n cap xs hown.1 (fun j u hj => hown.cells rfl j u hj) p m cc ys hl hcells (by omega) (by unfold maxLen; exact hb1) hb2
                        exact ⟨v', w', hr, owns_base ho', ⟨hg.os, hg.tape, hg.output, hg.size, fun k hk _ => hg.block k hk (by simp)⟩, fun b hb => .inr (World.ownsRow.lt ho' b (by rw [← ownsRow_block (owns_base ho')]; exact hb)).1⟩
                  · exact none_case cc rfl hm0 hys
                obtain ⟨v', w', hr, hown', hg, hbl⟩ := main
                refine wp_value (x := v') (w' := w') (hx hr) ?_
                rcases hkk with ⟨rfl, hnb'⟩ | ⟨k', rfl, hk', hBk⟩
                · rw [hnb'] at hg hbl
                  refine hK _ _ (B ++ [v']) _ _ hq (List.prefix_append _ _) (hm.add hg (fun b hb => ?_) (.inl hown')) (ref_to hm.sat.len _)
                  rcases hbl b hb with g | g
                  · cases g
                  · exact g
                · refine hK _ _ (B ++ [v']) _ _ hq (List.prefix_append _ _) (hm.pass hk' rfl hBk hg hbl (.inl hown') rfl) (ref_to hm.sat.len _)
            · unfold appL at hq
              rw [hlens] at hq
              cases hnb0 : nilV sb
              case true =>
                rw [hnb0, cond_true] at hq
                split at hq
                · rename_i r hka
                  obtain ⟨k, n, q, xp, xs⟩ := r
                  have hvals := vals_to h hss
                  simp only [SV.tos] at hvals
                  split at hvals
                  case h_2 => cases hvals
                  rename_i xa xl hsa hrest
                  split at hrest
                  case h_2 => cases hrest
                  rename_i xb xl' hsb hnil
                  simp only [Option.some.injEq] at hnil hrest hvals
                  subst hnil
                  subst hrest
                  have hargs : c.args.map a.eval = #[xa, xb] := by rw [map_toArray, ← hvals]
                  obtain ⟨us, hus, hown, hxp, hkk⟩ := lstOf_ok h.sees hm hsa hka
                  rw [nilV_to hnb0, Option.some.injEq] at hsb
                  subst hsb
                  have hx := fun {v : Value} {w' : World} (hr : (Builtin.append_ #[t, t] o.type #[xa, .slice none 0 0]).run P w = .ok v w') => append_exec (P := P) ho hc hargs (by rw [hty]; exact hr)
                  refine wp_value (x := xa) (w' := w) (hx (append_none w 0 t o.type e i i.size hu hi xa n 0 _ hown)) ?_
                  exact hK _ _ B _ _ hq (List.prefix_refl _) hm hsa
                · exact hq.elim
              rw [hnb0, cond_false] at hq
              split at hq
              · rename_i k n q xp xs j m ys ps hka hnb
                cases h2 : (match k with | some k => !Nat.beq k j | none => true)
                · rw [h2] at hq; exact hq.elim
                · rw [h2, cond_true] at hq
                  obtain ⟨hps, hq⟩ := needsD_ok hq
                  obtain ⟨hb1, hb2⟩ := hps _ (List.mem_cons_self ..)
                  have hps' : ∀ q ∈ ps, q.p := fun q hq => hps q (List.mem_cons_of_mem _ hq)
                  have hvals := vals_to h hss
                  simp only [SV.tos] at hvals
                  split at hvals
                  case h_2 => cases hvals
                  rename_i xa xl hsa hrest
                  split at hrest
                  case h_2 => cases hrest
                  rename_i xb xl' hsb hnil
                  simp only [Option.some.injEq] at hnil hrest hvals
                  subst hnil
                  subst hrest
                  have hargs : c.args.map a.eval = #[xa, xb] := by rw [map_toArray, ← hvals]
                  obtain ⟨us, hus, hown, hxp, hkk⟩ := lstOf_ok h.sees hm hsa hka
                  obtain ⟨ws, hws, hn1, hn2, hn3⟩ := newsL_ok h.sees hm hsb hnb hps'
                  have hx := fun {v : Value} {w' : World} (hr : (Builtin.append_ #[t, t] o.type #[xa, xb]).run P w = .ok v w') => append_exec (P := P) ho hc hargs (by rw [hty]; exact hr)
                  obtain ⟨v', w', hr, hown', hg, hbl⟩ := append_core (P := P) (ty := o.type) hu hi hz hzs hsz hb1 hb2 hown (.inl ⟨hn1, hn2, hn3⟩)
                  refine wp_value (x := v') (w' := w') (hx hr) ?_
                  have hex : (mkQ q e i.size (n + m) xp (xs ++ ys)).excl = true := by cases q <;> rfl
                  have hsat : BlkSat (B ++ [v']) w' v' (mkQ q e i.size (n + m) xp (xs ++ ys)) := by
                    have ht := tos_append (SV.tos_mono (List.prefix_append B [v']) hus) (SV.tos_mono (List.prefix_append B [v']) hws)
                    rw [List.append_assoc] at hown'
                    cases q with
                    | true => exact ⟨us ++ ws, ht, .inl hown'⟩
                    | false =>
                      rw [hxp rfl, List.nil_append] at hown'
                      exact ⟨us ++ ws, ht, .inl hown'⟩
                  rcases hkk with ⟨rfl, hnb'⟩ | ⟨k', y, rfl, hk', hy, hBk⟩
                  · rw [hnb'] at hg hbl
                    refine hK _ _ (B ++ [v']) _ _ hq (List.prefix_append _ _) (hm.add hg (fun b hb => ?_) hsat) (ref_to hm.sat.len _)
                    rcases hbl b hb with g | g
                    · cases g
                    · exact g
                  · refine hK _ _ (B ++ [v']) _ _ hq (List.prefix_append _ _) (hm.pass hk' hy hBk hg hbl hsat hex) (ref_to hm.sat.len _)
              · exact hq.elim
              · exact hq.elim
        · exact hq.elim
      · exact hq.elim
    · exact hq.elim
  · exact hq.elim
theorem cutRow_ok {V : View} {H : List Blk} {B : List Value} {a : Act} {w : World} (h : Vw V H B a) (hlens : V.len = H.length) (hm : Mem w0 bs H B w) {o : Oper} {t : TypeId} {x : Operand} {lo hi : Option Operand} (ho : o.op = .slice t x lo hi none) {r : T (SV × Eff)} (hr : cutRow P V t x lo hi = some r) {Qs : SV × Eff → Prop} (hq : r.ok Qs) : EffRes P w0 bs B a w o H Qs := by
  intro K Q hK
  have hex : execOp a.eval o = (do pure (Next.value (← Instr.sliceAt t (a.eval x) (lo.map a.eval) (hi.map a.eval) none)) : Sem Next) := by unfold execOp; rw [ho]; rfl
  unfold cutRow at hr
  rw [hlens] at hr
  split at hr
  · rename_i k hx
    have hv := h.val hx
    split at hr
    · rename_i n sz f e hk hu
      have hk := h.see hk
      split at hr
      · rename_i s l z hs hl hz
        cases hb : Nat.beq s sz
        · rw [hb] at hr; cases hr
        · rw [hb, cond_true] at hr
          simp only [Option.some.injEq] at hr
          subst hr
          obtain rfl : s = sz := Nat.eq_of_beq_eq_true hb
          obtain ⟨⟨l0, l1, z1⟩, hq⟩ := hq
          obtain ⟨p, cap, g1, hnc, hcm, g2⟩ := hm.row_at hk
          simp only [SV.to, g1, Option.some.injEq] at hv
          have hz0 : 0 ≤ z := by omega
          have hrun : (Instr.sliceAt t (.slice p n cap) (lo.map a.eval) (hi.map a.eval) none).run P w = .ok (.slice (if cap = l.toNat then p else p.map (·.add (l.toNat * s))) (z.toNat - l.toNat) (cap - l.toNat)) w := by
            have hs' := size_of hs w
            rcases intO_some h hl with ⟨rfl, rfl⟩ | ⟨ly, lk, rfl, hly⟩ <;> rcases intO_some h hz with ⟨rfl, rfl⟩ | ⟨hy, hhk, rfl, hhy⟩
            · simp [Instr.sliceAt, Instr.slice, run_underlying hu, Instr.sliceBounds, hs']
            · have hs1 := fun c => sliceBound_run (P := P) hhk z cap c hz0 (by omega) w
              simp [Instr.sliceAt, Instr.slice, run_underlying hu, Instr.sliceBounds, hhy, hs1, hs']
            · have hs2 := fun c => sliceBound_run (P := P) lk l n c l0 (by omega) w
              simp [Instr.sliceAt, Instr.slice, run_underlying hu, Instr.sliceBounds, hly, hs2, hs']
            · have hs1 := fun c => sliceBound_run (P := P) hhk z cap c hz0 (by omega) w
              have hs2 := fun c => sliceBound_run (P := P) lk l z.toNat c l0 (by omega) w
              simp [Instr.sliceAt, Instr.slice, run_underlying hu, Instr.sliceBounds, hly, hhy, hs1, hs2, hs']
          refine wp_value (x := .slice (if cap = l.toNat then p else p.map (·.add (l.toNat * s))) (z.toNat - l.toNat) (cap - l.toNat)) (w' := w) (by rw [hex, ← hv]; exact run_v hrun) (hK _ _ (B ++ [_]) _ _ hq (List.prefix_append _ _) ?_ (ref_to hm.sat.len _))
          have hnat : (z - l).toNat = z.toNat - l.toNat := by omega
          have hsat : BlkSat (B ++ [Value.slice (if cap = l.toNat then p else p.map (·.add (l.toNat * s))) (z.toNat - l.toNat) (cap - l.toNat)]) w (.slice (if cap = l.toNat then p else p.map (·.add (l.toNat * s))) (z.toNat - l.toNat) (cap - l.toNat)) (.row (z - l).toNat s (fun i j => f (i + l.toNat) j)) := by
            refine ⟨_, _, by rw [hnat], by omega, by omega, fun i j hi hj => ?_⟩
            rw [hnat] at hi
            rw [if_neg (by omega)]
            obtain ⟨a0, rfl, hc⟩ := g2 (i + l.toNat) j (by omega) hj
            refine ⟨_, rfl, ?_⟩
            rw [addr_add_add, show l.toNat * s + (i * s + j) = (i + l.toNat) * s + j by rw [Nat.add_mul]; omega]
            exact hc
          have hpre : B <+: B ++ [Value.slice (if cap = l.toNat then p else p.map (·.add (l.toNat * s))) (z.toNat - l.toNat) (cap - l.toNat)] := List.prefix_append _ _
          show Mem w0 bs (H ++ [Blk.row (z - l).toNat s (fun i j => f (i + l.toNat) j)]) (B ++ [Value.slice (if cap = l.toNat then p else p.map (·.add (l.toNat * s))) (z.toNat - l.toNat) (cap - l.toNat)]) w
          refine ⟨⟨by simp [hm.sat.len], fun j y v hj hvj => ?_, fun i j b hi hj => ?_, fun i j b hi hj => ?_⟩, hm.keeps, fun i b hi => ?_⟩
          · rcases getElem?_concat _ _ _ hj with g | ⟨rfl, rfl⟩
            · have hkl := (List.getElem?_eq_some_iff.1 g).1
              rw [List.getElem?_append_left (by rw [hm.sat.len]; exact hkl)] at hvj
              exact (hm.sat.blk j y v g hvj).mono hpre
            · rw [← hm.sat.len, List.getElem?_concat_length, Option.some.injEq] at hvj
              subst hvj
              exact hsat
          · rcases ex_concat hm.sat.len hi with g | ⟨_, g, _⟩
            · rcases ex_concat hm.sat.len hj with g' | ⟨_, g', _⟩
              · exact hm.sat.sep i j b g g'
              · cases g'
            · cases g
          · rcases ex_concat hm.sat.len hi with g | ⟨_, g, _⟩
            · rcases rd_concat hm.sat.len hj with g' | ⟨rfl, _, g'⟩
              · exact hm.sat.far i j b g g'
              · obtain ⟨n', sz', f', u', h1', h2', h3', h4', h5'⟩ := hj
                simp only [List.getElem?_concat_length, Option.some.injEq, Blk.row.injEq] at h1'
                obtain ⟨rfl, rfl, -⟩ := h1'
                refine hm.sat.far i k b g ⟨n, s, f, _, hk, by omega, h3', g1, ?_⟩
                have hne : ¬ cap = l.toNat := by omega
                rw [if_neg hne] at g'
                cases p with
                | none => cases g'
                | some p => simpa [blockOf, addr_add_block] using g'
            · cases g
          · rcases ex_concat hm.sat.len hi with g | ⟨_, g, _⟩
            · exact hm.good i b g
            · cases g
      · cases hr
    · cases hr
  · cases hr
theorem arr_set (kind : IntKind) (n : Nat) (h : Nat → Int) (off : Nat) (v : Int) : arrCells kind n (fun j => bif Nat.beq j off then v else h j) = (arrCells kind n h).set! off (.int kind v) := by
  apply Array.ext
  · simp [arrCells]
  · intro i h1 h2
    simp only [arrCells, List.size_toArray, List.length_map, List.length_range] at h1
    simp only [Array.set!_eq_setIfInBounds]
    by_cases e : off = i
    · subst e
      simp [arrCells, Nat.beq_refl]
    · have hb : Nat.beq i off = false := by
        cases hb : Nat.beq i off
        · rfl
        · exact absurd (Nat.eq_of_beq_eq_true hb).symm e
      simp [arrCells, hb, Array.getElem_setIfInBounds, e]
theorem store_exec {a : Act} {o : Oper} {t : TypeId} {x y : Operand} (ho : o.op = .store t x y) {w w' : World} {p : Addr} {n : Nat} (e : a.eval x = .pointer (some p)) (hn : pureVal P (sizeOf t) = some n) (hsz : (a.eval y).cells.size = n) (hr : (storeCells p (a.eval y).cells.toList).run P w = .ok () w') : (execOp a.eval o).run P w = .ok .skip w' := by
  unfold execOp; rw [ho]
  have hst : (Instr.storeAt t (a.eval x) (a.eval y)).run P w = .ok () w' := by
    unfold Instr.storeAt
    rw [e]
    show (storeVar t p (a.eval y)).run P w = _
    unfold storeVar
    rw [run_bind_pure hn]
    have : ¬ (a.eval y).cells.size ≠ n := by simp [hsz]
    simp only [this, if_false]
    exact hr
  show ((Instr.storeAt t (a.eval x) (a.eval y)) >>= fun _ => pure Next.skip).run P w = _
  rw [run_bind_ok hst]
  rfl
theorem storeCells_vec {e : TypeId} {sz n g cap : Nat} : ∀ (vs : List Value) (i off : Nat) (xs : List Value) (w : World), w.ownsRow 0 e sz (.slice (some ⟨g, 0, none⟩) n cap) n xs → off + i + vs.length ≤ n * sz → (∀ x ∈ vs, x.oneCell' = true) →
    ∃ w', (storeCells ⟨g, off, none⟩ vs i).run P w = .ok () w' ∧ w'.ownsRow 0 e sz (.slice (some ⟨g, 0, none⟩) n cap) n (xs.take (off + i) ++ vs ++ xs.drop (off + i + vs.length)) ∧ w.grownBy w' (some g)
  | [], i, off, xs, w, ho, hl, h1 => ⟨w, rfl, by simpa using ho, ⟨rfl, rfl, rfl, Nat.le_refl _, fun _ _ _ => rfl⟩⟩
  | v :: vs, i, off, xs, w, ho, hl, h1 => by
    simp only [List.length_cons] at hl
    obtain ⟨ho2, hg2⟩ := ho.stored (off + i) v
    obtain ⟨w', hr, ho3, hg3⟩ := storeCells_vec vs (i + 1) off (xs.set (off + i) v) _ ho2 (by omega) (fun y hy => h1 y (by simp [hy]))
    have hlt : off + i < n * sz := by omega
    have hst : (store ((⟨g, off, none⟩ : Addr).add i) v).run P w = .ok () (w.setCell ⟨g, off + i, none⟩ v) := by
      rw [add_off, run_store P w _ v _ (h1 v (by simp)), ho.cellAt (off + i) hlt]
      have : off + i < xs.length := by rw [ho.1]; exact hlt
      simp [this, ho.frozenAt]
    refine ⟨w', ?_, ?_, ⟨hg3.os.trans hg2.os, hg3.tape.trans hg2.tape, hg3.output.trans hg2.output, Nat.le_trans hg2.size hg3.size, fun k hk hne => (hg3.block k (Nat.lt_of_lt_of_le hk hg2.size) hne).trans (hg2.block k hk hne)⟩⟩
    · simp only [storeCells]
      rw [run_bind_ok hst]
      exact hr
    · have e : (xs.set (off + i) v).take (off + (i + 1)) ++ vs ++ (xs.set (off + i) v).drop (off + (i + 1) + vs.length) = xs.take (off + i) ++ (v :: vs) ++ xs.drop (off + i + (v :: vs).length) := by
        have hlen : off + i < xs.length := by rw [ho.1]; exact hlt
        rw [List.drop_set_of_lt (by omega)]
        rw [show off + (i + 1) = (off + i) + 1 by omega, List.take_succ_eq_append_getElem (by simpa using hlen)]
        simp only [List.getElem_set_self, List.take_set_of_le (Nat.le_refl _), List.append_assoc, List.cons_append, List.nil_append, List.length_cons]
        rw [show off + i + 1 + vs.length = off + i + (vs.length + 1) by omega]
      rw [e] at ho3
      exact ho3
theorem storeCells_fix {sz n g cap : Nat} : ∀ (vs : List Value) (i off : Nat) (xs : List Value) (w : World), OwnFix w sz (.slice (some ⟨g, 0, none⟩) n cap) n xs → off + i + vs.length ≤ n * sz → (∀ x ∈ vs, x.oneCell' = true) →
    ∃ w', (storeCells ⟨g, off, none⟩ vs i).run P w = .ok () w' ∧ OwnFix w' sz (.slice (some ⟨g, 0, none⟩) n cap) n (xs.take (off + i) ++ vs ++ xs.drop (off + i + vs.length)) ∧ w.grownBy w' (some g)
  | [], i, off, xs, w, ho, hl, h1 => ⟨w, rfl, by simpa using ho, ⟨rfl, rfl, rfl, Nat.le_refl _, fun _ _ _ => rfl⟩⟩
  | v :: vs, i, off, xs, w, ho, hl, h1 => by
    simp only [List.length_cons] at hl
    obtain ⟨hx, g', cap', e, hg, hnc, hcm, hcs⟩ := ho
    simp only [Value.slice.injEq, Option.some.injEq, Addr.mk.injEq, and_true, true_and] at e
    obtain ⟨rfl, rfl⟩ := e
    have hlt : off + i < n * sz := by omega
    have hlen : off + i < xs.length := by rw [hx]; exact hlt
    have ho2 : OwnFix (w.setCell ⟨g, off + i, none⟩ v) sz (.slice (some ⟨g, 0, none⟩) n cap) n (xs.set (off + i) v) := by
      refine ⟨by simpa using hx, g, cap, rfl, by simpa using hg, hnc, hcm, fun j hj => ⟨?_, ?_⟩⟩
      · by_cases e0 : j = off + i
        · subst e0
          rw [World.cell?_setCell_same (w := w) (u := xs[off + i]) (h := by rw [(hcs _ hlt).1]; exact List.getElem?_eq_getElem hlen)]
          simp [hlen]
        · rw [World.cell?_setCell_other (w := w) (h := fun h => e0 (by injection h with _ h2; exact h2.symm)), (hcs j hj).1, List.getElem?_set_ne (fun h => e0 h.symm)]
      · rw [frozen?_set]; exact (hcs j hj).2
    have hg2 := grown_setCell w g (off + i) v
    obtain ⟨w', hr, ho3, hg3⟩ := storeCells_fix vs (i + 1) off (xs.set (off + i) v) _ ho2 (by omega) (fun y hy => h1 y (by simp [hy]))
    have hst : (store ((⟨g, off, none⟩ : Addr).add i) v).run P w = .ok () (w.setCell ⟨g, off + i, none⟩ v) := by
      rw [add_off, run_store P w _ v _ (h1 v (by simp)), (hcs (off + i) hlt).1]
      simp [hlen, (hcs (off + i) hlt).2]
    refine ⟨w', ?_, ?_, ⟨hg3.os.trans hg2.os, hg3.tape.trans hg2.tape, hg3.output.trans hg2.output, Nat.le_trans hg2.size hg3.size, fun k hk hne => (hg3.block k (Nat.lt_of_lt_of_le hk hg2.size) hne).trans (hg2.block k hk hne)⟩⟩
    · simp only [storeCells]
      rw [run_bind_ok hst]
      exact hr
    · have e : (xs.set (off + i) v).take (off + (i + 1)) ++ vs ++ (xs.set (off + i) v).drop (off + (i + 1) + vs.length) = xs.take (off + i) ++ (v :: vs) ++ xs.drop (off + i + (v :: vs).length) := by
        rw [List.drop_set_of_lt (by omega)]
        rw [show off + (i + 1) = (off + i) + 1 by omega, List.take_succ_eq_append_getElem (by simpa using hlen)]
        simp only [List.getElem_set_self, List.take_set_of_le (Nat.le_refl _), List.append_assoc, List.cons_append, List.nil_append, List.length_cons]
        rw [show off + i + 1 + vs.length = off + i + (vs.length + 1) by omega]
      rw [e] at ho3
      exact ho3
theorem storeCells_any {e : TypeId} {sz n g cap : Nat} (vs : List Value) (off : Nat) (xs : List Value) (w : World) (ho : VecSat w e sz (.slice (some ⟨g, 0, none⟩) n cap) n xs) (hl : off + vs.length ≤ n * sz) (h1 : ∀ x ∈ vs, x.oneCell' = true) :
    ∃ w', (storeCells ⟨g, off, none⟩ vs 0).run P w = .ok () w' ∧ VecSat w' e sz (.slice (some ⟨g, 0, none⟩) n cap) n (xs.take off ++ vs ++ xs.drop (off + vs.length)) ∧ w.grownBy w' (some g) := by
  rcases ho with ho | ⟨he, ho⟩
  · obtain ⟨w', h2, h3, h4⟩ := storeCells_vec (P := P) vs 0 off xs w ho (by simpa using hl) h1
    exact ⟨w', h2, .inl h3, h4⟩
  · obtain ⟨w', h2, h3, h4⟩ := storeCells_fix (P := P) vs 0 off xs w ho (by simpa using hl) h1
    exact ⟨w', h2, .inr ⟨he, h3⟩, h4⟩
theorem evalSet_ok {V : View} {H : List Blk} {B : List Value} {a : Act} {w : World} (h : Vw V H B a) (hm : Mem w0 bs H B w) {o : Oper} {t : TypeId} {x y : Operand} (ho : o.op = .store t x y) {r : T (SV × Eff)} (hr : evalSet P V t x y = some r) {Qs : SV × Eff → Prop} (hq : r.ok Qs) : EffRes P w0 bs B a w o H Qs := by
  intro K Q hK
  unfold evalSet at hr
  split at hr
  · rename_i k off hx
    have hv := h.val hx
    split at hr
    · rename_i kind n g hk
      have hk := h.see hk
      split at hr
      · rename_i kind' v hy hsz
        have hyv := h.pv hy
        cases hd : decide (kind = kind')
        · rw [hd, cond_false] at hr; simp only [Option.some.injEq] at hr; subst hr; exact hq.elim
        · rw [hd, cond_true] at hr
          simp only [Option.some.injEq] at hr
          subst hr
          obtain rfl := of_decide_eq_true hd
          obtain ⟨hlt, hq⟩ := hq
          obtain ⟨u, hu⟩ := hm.sat.getB hk
          obtain ⟨b, rfl, hown⟩ := hm.sat.blk k _ u hk hu
          simp only [SV.to, hu, Option.some.injEq] at hv
          have hst : (storeCells ⟨b, off, none⟩ (a.eval y).cells.toList).run P w = .ok () (w.setCell ⟨b, off, none⟩ (.int kind v)) := by
            rw [hyv]
            show (storeCells ⟨b, off, none⟩ [.int kind v] 0).run P w = _
            have : (store ((⟨b, off, none⟩ : Addr).add 0) (.int kind v)).run P w = .ok () (w.setCell ⟨b, off, none⟩ (.int kind v)) := by
              rw [add_off, run_store P w _ _ _ rfl]
              simp only [Nat.add_zero]
              rw [hown.2.1 off]
              have hl : off < (arrCells kind n g).size := by simpa [arrCells] using hlt
              simp [hl, hown.2.2]
            simp only [storeCells]
            rw [run_bind_ok this]
            rfl
          refine wp_skip' (w' := w.setCell ⟨b, off, none⟩ (.int kind v)) (store_exec ho hv.symm hsz (by rw [hyv]; rfl) hst) (hK _ _ _ _ _ hq (List.prefix_refl _) (hm.upd hk rfl hu (grown_setCell w b off _) rfl ⟨b, rfl, ?_⟩) rfl)
          rw [arr_set]
          exact own_setT hown
      · simp only [Option.some.injEq] at hr; subst hr; exact hq.elim
    · cases hr
  · rename_i k sz i off hx
    have hv := h.val hx
    split at hr
    · rename_i e sz' n xs hk
      have hk := h.see hk
      split at hr
      · rename_i v m hy hsz
        have hyv := h.pv hy
        cases hb : (Nat.beq sz sz' && Nat.beq v.cells.size m && Nat.ble (off + m) sz && v.cells.toList.all (·.oneCell'))
        · rw [hb, cond_false] at hr; simp only [Option.some.injEq] at hr; subst hr; exact hq.elim
        · rw [hb, cond_true] at hr
          simp only [Option.some.injEq] at hr
          subst hr
          simp only [Bool.and_eq_true] at hb
          obtain ⟨⟨⟨hb1, hb2⟩, hb3⟩, hb4⟩ := hb
          obtain rfl : sz = sz' := Nat.eq_of_beq_eq_true hb1
          have hvm := Nat.eq_of_beq_eq_true hb2
          have hle := Nat.le_of_ble_eq_true hb3
          obtain ⟨him, hq⟩ := hq
          obtain ⟨u, hu⟩ := hm.sat.getB hk
          have hown : VecSat w e sz u n xs := hm.sat.blk k _ u hk hu
          obtain ⟨g, cap, rfl⟩ : ∃ g cap, u = .slice (some ⟨g, 0, none⟩) n cap := by
            rcases hown.view.2 with ⟨-, hm0⟩ | ⟨b, cap, rfl, -⟩
            · omega
            · exact ⟨_, cap, rfl⟩
          simp only [SV.to, hu, Option.some.injEq] at hv
          have hlen : i * sz + off + v.cells.size ≤ n * sz := by
            calc i * sz + off + v.cells.size ≤ i * sz + sz := by omega
              _ = (i + 1) * sz := by rw [Nat.add_mul, Nat.one_mul]
              _ ≤ n * sz := Nat.mul_le_mul_right _ him
          obtain ⟨w', hr', ho', hg'⟩ := storeCells_any (P := P) v.cells.toList (i * sz + off) xs w hown (by simpa using hlen) (fun z hz => List.all_eq_true.1 hb4 z hz)
          have hst : (storeCells ((⟨g, 0, none⟩ : Addr).add (i * sz + off)) (a.eval y).cells.toList).run P w = .ok () w' := by
            rw [hyv, add_off, Nat.zero_add]; exact hr'
          refine wp_skip' (w' := w') (store_exec ho hv.symm hsz (by rw [hyv]; exact hvm) hst) (hK _ _ _ _ _ hq (List.prefix_refl _) (hm.upd hk rfl hu hg' rfl ?_) rfl)
          have e2 : v.cells.toList.length = m := by simpa using hvm
          simp only [e2] at ho'
          exact ho'
      · simp only [Option.some.injEq] at hr; subst hr; exact hq.elim
    · simp only [Option.some.injEq] at hr; subst hr; exact hq.elim
  · cases hr
theorem fix_of_string (w : World) (s : ByteArray) (e : TypeId) (hs : s.size ≤ maxLen) :
    OwnFix (w.drew.alloc (.cells (bytesRow s (grownCap w s.size 0 e)) e ((bytesRow s (grownCap w s.size 0 e)).size, (bytesRow s (grownCap w s.size 0 e)).size + 1))) 1 (.slice (some ⟨w.heap.size, 0, none⟩) s.size (grownCap w s.size 0 e)) s.size (bytesV s.data.toList) := by
  have hge := grownCap_ge w s.size 0 e
  have hle := grownCap_le_maxLen w s.size 0 e hs
  have hsz : s.data.size = s.size := rfl
  generalize grownCap w s.size 0 e = cap at *
  have hrow : (bytesRow s cap).size = cap := by simp [bytesRow, hsz]; omega
  have h0 := heap_alloc_new w.drew (.cells (bytesRow s cap) e ((bytesRow s cap).size, (bytesRow s cap).size + 1))
  simp only [World.size_drew] at h0
  refine ⟨by simp [bytesV, hsz], w.heap.size, cap, rfl, by simp, hge, hle, fun j hj => ⟨?_, ?_⟩⟩
  · unfold World.cell?
    simp only [h0]
    have hj' : j < s.data.size := by omega
    unfold bytesRow
    simp only [Option.isSome_none, Bool.false_eq_true, if_false]
    rw [Array.getElem?_append_left (by simpa using hj')]
    simp [bytesV, hj']
  · unfold World.frozen?
    simp only [h0]
    simp; omega
theorem conv_exec {a : Act} {o : Oper} {src dst : TypeId} {x : Operand} (ho : o.op = .convert src dst x) {w w' : World} {v : Value} (hr : (convert src dst (a.eval x)).run P w = .ok v w') : (execOp a.eval o).run P w = .ok (.value v) w' := by
  have hex : execOp a.eval o = (do pure (Next.value (← convert src dst (a.eval x))) : Sem Next) := by unfold execOp; rw [ho]
  rw [hex]; exact run_v hr
theorem evalConv_ok {V : View} {H : List Blk} {B : List Value} {a : Act} {w : World} (h : Vw V H B a) (hlens : V.len = H.length) (hm : Mem w0 bs H B w) {o : Oper} {src dst : TypeId} {x : Operand} (ho : o.op = .convert src dst x) {r : T (SV × Eff)} (hr : evalConv P V src dst x = some r) {Qs : SV × Eff → Prop} (hq : r.ok Qs) : EffRes P w0 bs B a w o H Qs := by
  intro K Q hK
  unfold evalConv at hr
  rw [hlens] at hr
  split at hr
  · rename_i e hu1 hu2
    split at hr
    · rename_i s he hx
      have hv := h.pv hx
      simp only [Option.some.injEq] at hr
      subst hr
      obtain ⟨hs, hq⟩ := hq
      have hrun := run_bytes_of_string (P := P) w src dst e s hu1 hu2 he
      refine wp_value (conv_exec ho (by rw [hv]; exact hrun)) (hK _ _ (B ++ [.slice (some ⟨w.heap.size, 0, none⟩) s.size (grownCap w s.size 0 e)]) _ _ hq (List.prefix_append _ _) (hm.add ?_ ?_ (.inr ⟨rfl, fix_of_string w s e (by unfold maxLen; exact hs)⟩)) (ref_to hm.sat.len _))
      · have hg := World.grownBy_alloc w.drew (.cells (bytesRow s (grownCap w s.size 0 e)) e ((bytesRow s (grownCap w s.size 0 e)).size, (bytesRow s (grownCap w s.size 0 e)).size + 1)) none
        exact ⟨hg.os, hg.tape, hg.output, hg.size, hg.block⟩
      · intro b hb; simp only [blockOf, Option.some.injEq] at hb; omega
    · cases hr
  · rename_i e hu1 hu2
    split at hr
    · rename_i k he hx
      have hv := h.val hx
      split at hr
      · rename_i o' e' n xs hk
        have hk := h.see hk
        simp only [Option.some.injEq] at hr
        subst hr
        obtain ⟨hxs, hq⟩ := hq
        simp only [SV.to] at hv
        have hs : VecSat w e' 1 (a.eval x) n xs := hm.sat.blk k _ _ hk hv
        have hl : (strOf xs).length = n := by have := hs.view.1; simp [strOf]; omega
        refine wp_value (conv_exec ho ?_) (hK _ _ B _ _ hq (List.prefix_refl _) hm rfl)
        rcases hs.view.2 with ⟨e0, rfl⟩ | ⟨g, cap, e0, -, -, -, hcs⟩
        · rw [e0]
          have := run_convert_bytes_string (P := P) w src dst e none 0 0 hu1 he hu2
          rw [this]
          have : strOf xs = [] := by simpa using hl
          rw [this]
          rfl
        · rw [e0]
          have := run_convert_bytes_back (P := P) w src dst e ⟨g, 0, none⟩ cap (strOf xs) hu1 he hu2 (fun j hj => ?_)
          · rw [hl] at this; exact this
          · rw [Addr.add_lit]
            simp only [Nat.zero_add]
            rw [(hcs j (by omega)).1]
            have h3 : (bytesV (strOf xs))[j]? = some (.int .u8 ((strOf xs)[j].toNat : Int)) := by simp [bytesV, hj]
            rw [← hxs] at h3; exact h3
      · cases hr
    · cases hr
  · cases hr
theorem evalQE_ok (hS : TabOk P S) {V : View} {H : List Blk} {B : List Value} {a : Act} {w : World} (h : Vw V H B a) (hm : Mem w0 bs H B w) {o : Oper} {Qs : SV × Eff → Prop} (hq : (evalQE P S V o).ok Qs) : EffRes P w0 bs B a w o H Qs := by
  intro K Q hK
  obtain ⟨s, hs, x, hx, hqx⟩ := evalQ_ok hS h hm (T.ok_bind hq)
  exact wp_of_quietAt (hqx w hm) hm fun w' hw' => hK _ _ _ _ _ hs (List.prefix_refl _) hw' hx
theorem evalStore_ok {V : View} {H : List Blk} {B : List Value} {a : Act} {w : World} (h : Vw V H B a) (hm : Mem w0 bs H B w) {o : Oper} {t : TypeId} {x y : Operand} (ho : o.op = .store t x y) {Qs : SV × Eff → Prop} (hq : (evalStore P V t x y).ok Qs) : EffRes P w0 bs B a w o H Qs := by
  intro K Q hK
  unfold evalStore at hq
  split at hq
  · rename_i n k off s hn hx hy
    split at hq
    · rename_i cells l hk hl
      have hk := h.see hk
      cases hb : (Nat.beq l.length n && Nat.ble (off + n) cells.length && l.all (oneS V.see))
      · rw [hb] at hq; exact hq.elim
      · rw [hb, cond_true] at hq
        simp only [Bool.and_eq_true] at hb
        obtain ⟨⟨hb1, hb2⟩, hb3⟩ := hb
        obtain rfl : l.length = n := Nat.eq_of_beq_eq_true hb1
        have hle := Nat.le_of_ble_eq_true hb2
        obtain ⟨b, us, e1, e2, e3⟩ := hm.own_at hk
        have hv := h.val hx
        simp only [SV.to, e1, Option.some.injEq] at hv
        have hw := h.val hy
        have hc := cellsOf_to hm.sat h.sees hw hl
        have hone : ∀ z ∈ (a.eval y).cells.toList, z.oneCell' = true := by
          intro z hz
          obtain ⟨i, hi⟩ := List.getElem?_of_mem hz
          have hil : i < l.length := by rw [← tos_length hc]; exact (List.getElem?_eq_some_iff.1 hi).1
          obtain ⟨z', g1, g2⟩ := tos_get hc (List.getElem?_eq_getElem hil)
          rw [hi] at g1
          simp only [Option.some.injEq] at g1
          subst g1
          exact oneS_to hm.sat h.sees g2 (List.all_eq_true.1 hb3 _ (List.getElem_mem hil))
        obtain ⟨w', hr, hm2⟩ := storeCells_run (P := P) (off := off) l _ B w k 0 cells _ hm hk e1 hc (by omega) hone
        have hlen := tos_length hc
        exact wp_skip' (w' := w') (store_exec ho hv.symm hn (by simpa using hlen) hr) (hK _ _ _ _ _ hq (List.prefix_refl _) hm2 rfl)
    · exact hq.elim
  · exact hq.elim
theorem mem_view {B : List Value} {H : List Blk} {w : World} (hm : Mem w0 bs H B w) {k n sz n' sz' : Nat} {f f' : Nat → Nat → Value} {u u' : Value} (hk : H[k]? = some (.row n sz f)) (hu : B[k]? = some u) (hsat : ∀ B', BlkSat B' w u' (.row n' sz' f'))
    (hb : ∀ b, 0 < n' → 0 < sz' → blockOf u' = some b → 0 < n ∧ 0 < sz ∧ blockOf u = some b) : Mem w0 bs (H ++ [.row n' sz' f']) (B ++ [u']) w := by
  have hpre : B <+: B ++ [u'] := List.prefix_append _ _
  refine ⟨⟨by simp [hm.sat.len], fun j y v hj hvj => ?_, fun i j b hi hj => ?_, fun i j b hi hj => ?_⟩, hm.keeps, fun i b hi => ?_⟩
  · rcases getElem?_concat _ _ _ hj with g | ⟨rfl, rfl⟩
    · have hkl := (List.getElem?_eq_some_iff.1 g).1
      rw [List.getElem?_append_left (by rw [hm.sat.len]; exact hkl)] at hvj
      exact (hm.sat.blk j y v g hvj).mono hpre
    · rw [← hm.sat.len, List.getElem?_concat_length, Option.some.injEq] at hvj
      subst hvj
      exact hsat _
  · rcases ex_concat hm.sat.len hi with g | ⟨_, g, _⟩
    · rcases ex_concat hm.sat.len hj with g' | ⟨_, g', _⟩
      · exact hm.sat.sep i j b g g'
      · cases g'
    · cases g
  · rcases ex_concat hm.sat.len hi with g | ⟨_, g, _⟩
    · rcases rd_concat hm.sat.len hj with g' | ⟨rfl, _, g'⟩
      · exact hm.sat.far i j b g g'
      · obtain ⟨n2, sz2, f2, u2, h1', h2', h3', h4', h5'⟩ := hj
        simp only [List.getElem?_concat_length, Option.some.injEq, Blk.row.injEq] at h1'
        obtain ⟨rfl, rfl, -⟩ := h1'
        obtain ⟨q1, q2, q3⟩ := hb b h2' h3' g'
        exact hm.sat.far i k b g ⟨n, sz, f, u, hk, q1, q2, hu, q3⟩
    · cases g
  · rcases ex_concat hm.sat.len hi with g | ⟨_, g, _⟩
    · exact hm.good i b g
    · cases g
theorem cutRow3_ok {V : View} {H : List Blk} {B : List Value} {a : Act} {w : World} (h : Vw V H B a) (hlens : V.len = H.length) (hm : Mem w0 bs H B w) {o : Oper} {t : TypeId} {x hi mx : Operand} (ho : o.op = .slice t x none (some hi) (some mx)) {Qs : SV × Eff → Prop} (hq : (cutRow3 P V t x hi mx).ok Qs) : EffRes P w0 bs B a w o H Qs := by
  intro K Q hK
  have hex : execOp a.eval o = (do pure (Next.value (← Instr.sliceAt t (a.eval x) none (some (a.eval hi)) (some (a.eval mx)))) : Sem Next) := by unfold execOp; rw [ho]; rfl
  unfold cutRow3 at hq
  rw [hlens] at hq
  split at hq
  · rename_i k hx
    have hv := h.val hx
    split at hq
    · rename_i n sz f e hk hu
      have hk := h.see hk
      split at hq
      · rename_i s kh z km m hs hz hmx
        cases hb : Nat.beq s sz
        · rw [hb] at hq; exact hq.elim
        · rw [hb, cond_true] at hq
          obtain rfl : s = sz := Nat.eq_of_beq_eq_true hb
          obtain ⟨⟨z0, z1, m1⟩, hq⟩ := hq
          obtain ⟨p, cap, g1, hnc, hcm, g2⟩ := hm.row_at hk
          simp only [SV.to, g1, Option.some.injEq] at hv
          have hz' := h.pv hz
          have hm' := h.pv hmx
          have hs' := size_of hs w
          have hs1 := fun c => sliceBound_run (P := P) km m cap c (by omega) (by omega) w
          have hs2 := fun c => sliceBound_run (P := P) kh z m.toNat c z0 (by omega) w
          have hrun : (Instr.sliceAt t (.slice p n cap) none (some (a.eval hi)) (some (a.eval mx))).run P w = .ok (.slice (if m.toNat = 0 then p else p.map (·.add (0 * s))) z.toNat m.toNat) w := by
            rw [hz', hm']
            simp [Instr.sliceAt, Instr.slice, run_underlying hu, Instr.sliceBounds, hs1, hs2, hs']
          refine wp_value (x := .slice (if m.toNat = 0 then p else p.map (·.add (0 * s))) z.toNat m.toNat) (w' := w) (by rw [hex, ← hv]; exact run_v hrun) (hK _ _ (B ++ [.slice (if m.toNat = 0 then p else p.map (·.add (0 * s))) z.toNat m.toNat]) _ _ hq (List.prefix_append _ _) ?_ (ref_to hm.sat.len _))
          refine mem_view hm hk g1 (fun B' => ⟨_, _, rfl, by omega, by omega, fun i j hi' hj => ?_⟩) (fun b q1 q2 q3 => ⟨by omega, q2, ?_⟩)
          · obtain ⟨a0, rfl, hc⟩ := g2 i j (by omega) hj
            rw [if_neg (by omega)]
            refine ⟨_, rfl, ?_⟩
            rw [addr_add_add, Nat.zero_mul, Nat.zero_add]
            exact hc
          · rw [if_neg (by omega)] at q3
            cases p with
            | none => cases q3
            | some p => simpa [blockOf, addr_add_block] using q3
      · exact hq.elim
    · exact hq.elim
  · exact hq.elim
theorem owns_exact {w : World} {P : Program} {k : TypeId} {R : Value → Option (DataW Unit × List MemPlace)} {b n : Nat} {D : DataW Unit} (h : w.ownsMap P k R b n D) : w.ownsMap P k R b (Maps.size D) D := by
  obtain ⟨es, clock, hb, F, hs, e⟩ := h
  refine ⟨es, clock, hb, F, ?_, e⟩
  rw [e, Maps.size_eq, length_sorted]
  simp
theorem evalMapSet_ok {V : View} {H : List Blk} {B : List Value} {a : Act} {w : World} (h : Vw V H B a) (hm : Mem w0 bs H B w) {o : Oper} {t : TypeId} {x ix v : Operand} (ho : o.op = .mapUpdate t x ix v) {Qs : SV × Eff → Prop} (hq : (evalMapSet P V t x ix v).ok Qs) : EffRes P w0 bs B a w o H Qs := by
  intro K Q hK
  unfold evalMapSet at hq
  split at hq
  · rename_i k s z hx hs hz
    split at hq
    · rename_i P' K' E D hk
      cases hb : isStrMap P t K' E
      · rw [hb] at hq; exact hq.elim
      · rw [hb, cond_true] at hq
        obtain ⟨e, ⟨hsz, hwf, hroom⟩, hq⟩ := hq
        subst e
        obtain ⟨h1, h2, h3, -⟩ := isStrMap_ok hb
        have hkl : keyOf P' K' (.string s) = some (mKey s) := Go.WideMaps.keyOf_string_mk h2 hsz
        obtain ⟨b, e1, e2, hown⟩ := ext_at h hx hk hm
        obtain ⟨w', hrun, r1, r2⟩ := hown.update (Maps.string_keyed h2) h1 (by unfold mSize at hroom; unfold maxLen; omega) hkl (plainElem_int h3 hwf)
        refine wp_skip' (w' := w') ?_ (hK _ ⟨[(k, .ext (.smap P' K' E (mPut D s z)))], []⟩ _ _ _ hq (List.prefix_refl _) (hm.upd (h.see hk) rfl e2 r2 rfl ⟨b, rfl, owns_exact r1⟩) rfl)
        unfold execOp; rw [ho]
        show (do Instr.mapUpdate t (a.eval x) (a.eval ix) (a.eval v); pure Next.skip : Sem Next).run P' w = _
        rw [e1, h.pv hs, h.pv hz]
        rw [run_bind_ok hrun]
        rfl
    · exact hq.elim
  · exact hq.elim
theorem evalDel_ok {V : View} {H : List Blk} {B : List Value} {a : Act} {w : World} (h : Vw V H B a) (hm : Mem w0 bs H B w) {o : Oper} {c : Call} (ho : o.op = .call c) (hc : c.callee = .builtin .delete) {Qs : SV × Eff → Prop} (hq : (evalDel P V c).ok Qs) : EffRes P w0 bs B a w o H Qs := by
  intro K Q hK
  unfold evalDel at hq
  split at hq
  · rename_i k s' t k' hss htt
    split at hq
    · rename_i P' K' E D s hk hs
      cases hb : (isStrMap P t K' E && Nat.beq k' K')
      · rw [hb] at hq; exact hq.elim
      · rw [hb, cond_true] at hq
        obtain ⟨e, hsz, hq⟩ := hq
        subst e
        rw [Bool.and_eq_true] at hb
        obtain ⟨h1, h2, h3, -⟩ := isStrMap_ok hb.1
        obtain rfl := Nat.eq_of_beq_eq_true hb.2
        have hkl : keyOf P' k' (.string s) = some (mKey s) := Go.WideMaps.keyOf_string_mk h2 hsz
        have hv := vals_to h hss
        obtain ⟨u, hu0⟩ := hm.sat.getB (h.see hk)
        obtain ⟨b, rfl, hown⟩ := hm.sat.blk k _ u (h.see hk) hu0
        simp only [SV.tos, SV.to, hu0, SV.plain_to hs B, Option.some.injEq] at hv
        have hargs : c.args.map a.eval = #[.map (some b), .string s] := by rw [map_toArray, ← hv]
        obtain ⟨w', hrun, r1, r2⟩ := hown.drop (Maps.string_keyed h2) h1 hkl o.type
        refine wp_value (x := .tuple #[]) (w' := w') ?_ (hK _ ⟨[(k, .ext (.smap P' k' E (mDel D s)))], []⟩ _ _ _ hq (List.prefix_refl _) (hm.upd (h.see hk) rfl hu0 r2.grown rfl ⟨b, rfl, owns_exact r1⟩) rfl)
        have hex : execOp a.eval o = (do let d ← resolve a.eval c o.type; invoke d.target d.args : Sem Next) := by unfold execOp; rw [ho]
        rw [hex]
        unfold resolve
        simp only [hc, hargs]
        have htt' : c.argTypes = #[t, k'] := by rw [← htt]
        show (invoke (.builtin .delete c.argTypes o.type #[]) #[.map (some b), .string s]).run P' w = _
        simp only [invoke, builtin, htt']
        exact run_v hrun
    · exact hq.elim
  · exact hq.elim
theorem evalMakeMap_ok {V : View} {H : List Blk} {B : List Value} {a : Act} {w : World} (hlens : V.len = H.length) (hm : Mem w0 bs H B w) {o : Oper} {t : TypeId} (ho : o.op = .makeMap t none) {Qs : SV × Eff → Prop} (hq : (evalMakeMap P V t).ok Qs) : EffRes P w0 bs B a w o H Qs := by
  intro K Q hK
  unfold evalMakeMap at hq
  rw [hlens] at hq
  split at hq
  · rename_i K' E hu
    cases hb : isStrMap P t K' E
    · rw [hb] at hq; exact hq.elim
    · rw [hb, cond_true] at hq
      refine wp_value (x := .map (some w.heap.size)) (w' := w.alloc (.map #[] 0)) ?_ (hK _ ⟨[], [.ext (.smap P K' E (.map []))]⟩ _ _ _ hq (List.prefix_append _ [.map (some w.heap.size)]) (hm.add (World.grownBy_alloc w _ none) (fun b hb => by simp only [blockOf, Option.some.injEq] at hb; omega) ⟨_, rfl, World.ownsMap_made w P K' _⟩) (ref_to hm.sat.len _))
      unfold execOp; rw [ho]
      refine run_v ?_
      exact run_makeMap t w
  · exact hq.elim
theorem evalE_ok (hS : TabOk P S) (hG : GOk P G) {V : View} {H : List Blk} {B : List Value} {a : Act} {w : World} (h : Vw V H B a) (hlens : V.len = H.length) (hm : Mem w0 bs H B w) {o : Oper} {Qs : SV × Eff → Prop} (hq : (evalE P S G V o).ok Qs) {K : Act → World → Prop} {Q : Exit → Act → World → Prop}
    (hK : ∀ s ef B2 x w2, Qs (s, ef) → B <+: B2 → Mem w0 bs (ef.run H) B2 w2 → s.to B2 = some x → K (a.put o.dst x) w2) : o.wp P a w K Q := by
  unfold evalE at hq
  split at hq
  · rename_i t x ho
    split at hq
    · rename_i s hx
      split at hq
      · rename_i l hl
        rw [hlens] at hq
        have hv := h.val hx
        have hc := cellsOf_to hm.sat h.sees hv hl
        refine wp_value (x := .pointer (some ⟨w.heap.size, 0, none⟩)) (w' := w.alloc (.cells (a.eval x).cells.toList.toArray t)) ?_ (hK _ _ _ _ _ hq (List.prefix_append _ _) (hm.alloc hc t) ?_)
        · unfold execOp; rw [ho]
          refine run_v ?_
          unfold Instr.box newVar newRow
          simp only [Array.toArray_toList]
          rfl
        · simp only [SV.to]
          rw [← hm.sat.len, List.getElem?_concat_length]; rfl
      · exact hq.elim
    · exact hq.elim
  · rename_i t ho
    split at hq
    · rename_i z hz
      rw [hlens] at hq
      refine wp_value (x := .pointer (some ⟨w.heap.size, 0, none⟩)) (w' := w.alloc (.cells z.cells.toList.toArray t)) ?_ (hK _ _ _ _ _ hq (List.prefix_append _ _) (hm.alloc (tos_conc _ _) t) ?_)
      · unfold execOp; rw [ho]
        refine run_v ?_
        unfold Instr.alloc
        rw [run_bind_pure hz]
        simp only [Array.toArray_toList]
        rfl
      · simp only [SV.to]
        rw [← hm.sat.len, List.getElem?_concat_length]; rfl
    · exact hq.elim
  · rename_i t x y ho
    split at hq
    · rename_i r hr; exact evalSet_ok h hm ho hr hq K Q hK
    · exact evalStore_ok h hm ho hq K Q hK
  · rename_i t len parts ho; exact evalBuild_ok h hlens hm ho hq K Q hK
  · rename_i t l c ho; exact evalMake_ok h hlens hm ho hq K Q hK
  · rename_i t x ix ho
    split at hq
    · rename_i k bk hsf
      have hk : H[k]? = some bk ∧ bk.excl = true := by
        unfold softens at hsf
        cases hb : isConc V ix
        · rw [hb, cond_false] at hsf
          split at hsf
          · split at hsf
            · rename_i hs
              simp only [Option.some.injEq, Prod.mk.injEq] at hsf
              obtain ⟨rfl, rfl⟩ := hsf
              exact ⟨h.sees _ _ hs, rfl⟩
            · cases hsf
          · split at hsf
            · rename_i hs
              simp only [Option.some.injEq, Prod.mk.injEq] at hsf
              obtain ⟨rfl, rfl⟩ := hsf
              exact ⟨h.sees _ _ hs, rfl⟩
            · cases hsf
          · cases hsf
        · rw [hb] at hsf; cases hsf
      obtain ⟨s, hs, x, hx, hqx⟩ := evalQ_ok hS h hm (T.ok_bind hq)
      exact wp_of_quietAt (hqx w hm) hm fun w' hw' => hK _ _ _ _ _ hs (List.prefix_refl _) (softSet_mem hw' hk.1 hk.2) hx
    · exact evalQE_ok hS h hm hq K Q hK
  · rename_i t x lo hi ho
    split at hq
    · rename_i r hr; exact cutRow_ok h hlens hm ho hr hq K Q hK
    · exact evalQE_ok hS h hm hq K Q hK
  · rename_i c ho
    split at hq
    · rename_i hc; exact evalAppend_ok h hlens hm ho hc hq K Q hK
    · rename_i hc; exact evalDel_ok h hm ho hc hq K Q hK
    · split at hq
      · rename_i f ss htg
        split at hq
        · rename_i t hr
          obtain ⟨hgo, hcalls⟩ := hG f ss V.see V.len t hr
          obtain ⟨vs, hvs, hrun⟩ := target_run h ho htg hgo
          unfold Oper.wp
          rw [hrun]
          exact (hcalls w0 bs H B w _ hm h.sees hlens hvs _ hq).mono fun e w' ⟨s, ef, B', x, h0, h1, h2, h3, h4⟩ => by
            subst h2
            exact hK _ _ _ _ _ h0 h1 h4 h3
        · exact evalQE_ok hS h hm hq K Q hK
      · exact evalQE_ok hS h hm hq K Q hK
  · rename_i src dst x ho
    split at hq
    · rename_i r hr; exact evalConv_ok h hlens hm ho hr hq K Q hK
    · exact evalQE_ok hS h hm hq K Q hK
  · rename_i t x hi mx ho; exact cutRow3_ok h hlens hm ho hq K Q hK
  · rename_i t x ix v ho; exact evalMapSet_ok h hm ho hq K Q hK
  · rename_i t ho; exact evalMakeMap_ok hlens hm ho hq K Q hK
  · exact evalQE_ok hS h hm hq K Q hK
end
end Go.Proofs.YtbippdeahoehoaaGreat.Sym
