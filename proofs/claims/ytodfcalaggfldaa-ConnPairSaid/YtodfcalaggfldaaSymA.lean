/- A symbolic evaluator for Go functions, and that it is right: what it computes of a body holds of each run. No conditions. -/
import Derived.Test.YtodfcalaggfldaaBase
import Derived.Deep.Quiet
import Derived.OrdersHeld
import Derived.Laws.StructEq
import Derived.Laws.Pointers
import Derived.Laws.Tables
import Derived.Maps.OwnSet
namespace Go.Proofs.Ytodfcalaggfldaa.Sym
set_option linter.unusedVariables false
set_option linter.unusedSimpArgs false
open Go.RowKit

/-! ### Computations that ask neither memory nor the tape -/
def pureVal {α : Type} (P : Program) : Sem α → Option α
  | .pure a => some a
  | .program k => pureVal P (k P)
  | .mark _ k => pureVal P k
  | _ => none
theorem pureVal_run {α : Type} {P : Program} : ∀ {s : Sem α} {a : α}, pureVal P s = some a → ∀ w, s.run P w = .ok a w
  | .pure _, _, h, w => by simp only [pureVal, Option.some.injEq] at h; subst h; rfl
  | .program k, _, h, w => by simp only [pureVal] at h; exact pureVal_run (s := k P) h w
  | .mark _ k, _, h, w => by simp only [pureVal] at h; exact pureVal_run (s := k) h w
  | .load .., _, h, _ => by simp [pureVal] at h
  | .store .., _, h, _ => by simp [pureVal] at h
  | .new .., _, h, _ => by simp [pureVal] at h
  | .shape .., _, h, _ => by simp [pureVal] at h
  | .freeze .., _, h, _ => by simp [pureVal] at h
  | .frozen .., _, h, _ => by simp [pureVal] at h
  | .getObj .., _, h, _ => by simp [pureVal] at h
  | .setObj .., _, h, _ => by simp [pureVal] at h
  | .choose .., _, h, _ => by simp [pureVal] at h
  | .sys .., _, h, _ => by simp [pureVal] at h
  | .halt _, _, h, _ => by simp [pureVal] at h
/-- what follows a computation that asks nothing -/
theorem run_bind_pure {α β : Type} {P : Program} : ∀ {s : Sem α} {a : α}, pureVal P s = some a → ∀ (f : α → Sem β) (w : World), (s >>= f).run P w = (f a).run P w
  | .pure _, _, h, f, w => by simp only [pureVal, Option.some.injEq] at h; subst h; rfl
  | .program k, _, h, f, w => by simp only [pureVal] at h; exact run_bind_pure (s := k P) h f w
  | .mark _ k, _, h, f, w => by simp only [pureVal] at h; exact run_bind_pure (s := k) h f w
  | .load .., _, h, _, _ => by simp [pureVal] at h
  | .store .., _, h, _, _ => by simp [pureVal] at h
  | .new .., _, h, _, _ => by simp [pureVal] at h
  | .shape .., _, h, _, _ => by simp [pureVal] at h
  | .freeze .., _, h, _, _ => by simp [pureVal] at h
  | .frozen .., _, h, _, _ => by simp [pureVal] at h
  | .getObj .., _, h, _, _ => by simp [pureVal] at h
  | .setObj .., _, h, _, _ => by simp [pureVal] at h
  | .choose .., _, h, _, _ => by simp [pureVal] at h
  | .sys .., _, h, _, _ => by simp [pureVal] at h
  | .halt _, _, h, _, _ => by simp [pureVal] at h

/-! ### Values with letters for addresses -/
inductive SV where
  | v (x : Value)
  | c (x : Value)
  | tt
  | ff
  | ptr (k off : Nat)
  | ref (k : Nat)
  | elt (k sz i off : Nat)
  | agg (l : List SV)
  | tup (l : List SV)
  | clo (fn : Fn) (first captured : List SV)
  | ifc (t : TypeId) (s : SV)
mutual
/-- the value that it stands for; B: what the letters stand for -/
def SV.to (B : List Value) : SV → Option Value
  | .v x => some x
  | .c x => some x
  | .tt => some (.bool true)
  | .ff => some (.bool false)
  | .ptr k off => match B[k]? with
    | some (.pointer (some ⟨b, 0, none⟩)) => some (.pointer (some ⟨b, off, none⟩))
    | _ => none
  | .ref k => B[k]?
  | .elt k sz i off => match B[k]? with
    | some (.slice (some p) _ _) => some (.pointer (some (p.add (i * sz + off))))
    | _ => none
  | .agg l => (SV.tos B l).map fun vs => .agg vs.toArray
  | .tup l => (SV.tos B l).map fun vs => .tuple vs.toArray
  | .clo fn a b => match SV.tos B a, SV.tos B b with
    | some xs, some ys => some (.func fn xs.toArray ys.toArray)
    | _, _ => none
  | .ifc t s => (SV.to B s).map (Value.iface t)
def SV.tos (B : List Value) : List SV → Option (List Value)
  | [] => some []
  | s :: l => match SV.to B s, SV.tos B l with
    | some x, some xs => some (x :: xs)
    | _, _ => none
end
theorem getElem?_prefix {B B2 : List Value} (h : B <+: B2) {k : Nat} {x : Value} (hk : B[k]? = some x) : B2[k]? = some x := by
  obtain ⟨t, rfl⟩ := h
  rw [List.getElem?_append_left (List.getElem?_eq_some_iff.1 hk).1]; exact hk
mutual
theorem SV.to_mono {B B2 : List Value} (h : B <+: B2) : ∀ {s : SV} {x : Value}, s.to B = some x → s.to B2 = some x
  | .v _, _, e => e
  | .c _, _, e => e
  | .tt, _, e => e
  | .ff, _, e => e
  | .ptr k off, x, e => by
    simp only [SV.to] at e ⊢
    split at e
    · rename_i hb; rw [getElem?_prefix h hb]; exact e
    · cases e
  | .ref k, x, e => by simp only [SV.to] at e ⊢; exact getElem?_prefix h e
  | .elt k sz i off, x, e => by
    simp only [SV.to] at e ⊢
    split at e
    · rename_i hb; rw [getElem?_prefix h hb]; exact e
    · cases e
  | .agg l, x, e => by
    simp only [SV.to, Option.map_eq_some_iff] at e ⊢
    obtain ⟨vs, h1, h2⟩ := e
    exact ⟨vs, SV.tos_mono h h1, h2⟩
  | .tup l, x, e => by
    simp only [SV.to, Option.map_eq_some_iff] at e ⊢
    obtain ⟨vs, h1, h2⟩ := e
    exact ⟨vs, SV.tos_mono h h1, h2⟩
  | .clo fn a b, x, e => by
    simp only [SV.to] at e ⊢
    split at e
    · rename_i xs ys h1 h2
      rw [SV.tos_mono h h1, SV.tos_mono h h2]; exact e
    · cases e
  | .ifc t s, x, e => by
    simp only [SV.to, Option.map_eq_some_iff] at e ⊢
    obtain ⟨v, h1, h2⟩ := e
    exact ⟨v, SV.to_mono h h1, h2⟩
theorem SV.tos_mono {B B2 : List Value} (h : B <+: B2) : ∀ {l : List SV} {xs : List Value}, SV.tos B l = some xs → SV.tos B2 l = some xs
  | [], _, e => e
  | s :: l, xs, e => by
    simp only [SV.tos] at e ⊢
    split at e
    · rename_i x ys h1 h2
      rw [SV.to_mono h h1, SV.tos_mono h h2]; exact e
    · cases e
end
theorem tos_plain (B : List Value) (xs : List Value) : SV.tos B (xs.map .v) = some xs := by
  induction xs with
  | nil => rfl
  | cons x xs ih => simp [SV.tos, SV.to, ih]
theorem tos_conc (B : List Value) (xs : List Value) : SV.tos B (xs.map .c) = some xs := by
  induction xs with
  | nil => rfl
  | cons x xs ih => simp [SV.tos, SV.to, ih]
theorem tos_length {B : List Value} : ∀ {l : List SV} {xs : List Value}, SV.tos B l = some xs → xs.length = l.length
  | [], _, e => by simp only [SV.tos, Option.some.injEq] at e; subst e; rfl
  | s :: l, xs, e => by
    simp only [SV.tos] at e
    split at e
    · rename_i x ys h1 h2
      simp only [Option.some.injEq] at e; subst e
      simp [tos_length h2]
    · cases e
theorem tos_get {B : List Value} : ∀ {l : List SV} {xs : List Value}, SV.tos B l = some xs → ∀ {i : Nat} {s : SV}, l[i]? = some s → ∃ x, xs[i]? = some x ∧ s.to B = some x
  | [], _, e, i, s, h => by simp at h
  | t :: l, xs, e, i, s, h => by
    simp only [SV.tos] at e
    split at e
    · rename_i x ys h1 h2
      simp only [Option.some.injEq] at e; subst e
      cases i with
      | zero => simp only [List.getElem?_cons_zero, Option.some.injEq] at h; subst h; exact ⟨x, by simp, h1⟩
      | succ i => simp only [List.getElem?_cons_succ] at h ⊢; exact tos_get h2 h
    · cases e
theorem tos_drop {B : List Value} : ∀ {l : List SV} {xs : List Value}, SV.tos B l = some xs → ∀ n, SV.tos B (l.drop n) = some (xs.drop n)
  | [], _, e, n => by simp only [SV.tos, Option.some.injEq] at e; subst e; simp [SV.tos]
  | t :: l, xs, e, n => by
    cases n with
    | zero => simpa using e
    | succ n =>
      simp only [SV.tos] at e
      split at e
      · rename_i x ys h1 h2
        simp only [Option.some.injEq] at e; subst e
        simpa using tos_drop h2 n
      · cases e
theorem tos_take {B : List Value} : ∀ {l : List SV} {xs : List Value}, SV.tos B l = some xs → ∀ n, SV.tos B (l.take n) = some (xs.take n)
  | [], _, e, n => by simp only [SV.tos, Option.some.injEq] at e; subst e; simp [SV.tos]
  | t :: l, xs, e, n => by
    cases n with
    | zero => rfl
    | succ n =>
      simp only [SV.tos] at e
      split at e
      · rename_i x ys h1 h2
        simp only [Option.some.injEq] at e; subst e
        simp [SV.tos, h1, tos_take h2 n]
      · cases e
theorem tos_append {B : List Value} : ∀ {l m : List SV} {xs ys : List Value}, SV.tos B l = some xs → SV.tos B m = some ys → SV.tos B (l ++ m) = some (xs ++ ys)
  | [], _, _, _, e, f => by simp only [SV.tos, Option.some.injEq] at e; subst e; simpa using f
  | t :: l, m, xs, ys, e, f => by
    simp only [SV.tos] at e
    split at e
    · rename_i x zs h1 h2
      simp only [Option.some.injEq] at e; subst e
      simp [SV.tos, h1, tos_append h2 f]
    · cases e

/-! ### Memory with letters -/
/-- a block that is no row: a map of texts to numbers -/
inductive XD where
  | smap (P : Program) (k e : TypeId) (D : DataW Unit)
inductive Blk where
  | own (cells : List SV)
  | arr (kind : IntKind) (n : Nat) (h : Nat → Int)
  | vec (o : Bool) (e : TypeId) (sz n : Nat) (xs : List Value)
  | lst (e : TypeId) (sz n : Nat) (cells : List SV)
  | row (n sz : Nat) (f : Nat → Nat → Value)
  | ext (x : XD)
  | gone
def Blk.excl : Blk → Bool
  | .own _ | .arr .. | .vec .. | .lst .. | .ext _ => true
  | _ => false
def blockOf : Value → Option Nat
  | .pointer (some a) => some a.block
  | .slice (some a) _ _ => some a.block
  | .map (some b) => some b
  | _ => none
def arrCells (kind : IntKind) (n : Nat) (h : Nat → Int) : Array Value := ((List.range n).map fun j => Value.int kind (h j)).toArray
/-- a slice that is not to grow bears this in place of its elements' type -/
def noGrow : TypeId := 1000000007
/-- one's own slice that is not grown -/
def OwnFix (w : World) (sz : Nat) (u : Value) (n : Nat) (xs : List Value) : Prop :=
  xs.length = n * sz ∧ ∃ g cap, u = .slice (some ⟨g, 0, none⟩) n cap ∧ g < w.heap.size ∧ n ≤ cap ∧ cap ≤ maxLen ∧ ∀ j, j < n * sz → w.cell? ⟨g, j, none⟩ = xs[j]? ∧ w.frozen? ⟨g, j, none⟩ = false
def VecSat (w : World) (e : TypeId) (sz : Nat) (u : Value) (n : Nat) (xs : List Value) : Prop := w.ownsRow 0 e sz u n xs ∨ (e = noGrow ∧ OwnFix w sz u n xs)
theorem VecSat.view {w : World} {e : TypeId} {sz : Nat} {u : Value} {n : Nat} {xs : List Value} (h : VecSat w e sz u n xs) :
    xs.length = n * sz ∧ ((u = .slice none 0 0 ∧ n = 0) ∨ ∃ g cap, u = .slice (some ⟨g, 0, none⟩) n cap ∧ g < w.heap.size ∧ n ≤ cap ∧ cap ≤ maxLen ∧ ∀ j, j < n * sz → w.cell? ⟨g, j, none⟩ = xs[j]? ∧ w.frozen? ⟨g, j, none⟩ = false) := by
  rcases h with h | ⟨-, h⟩
  · refine ⟨h.1, ?_⟩
    have h0 := h
    rcases h.2 with hn | ⟨g, cap, cur, rfl, -, hg, hnc, hcm, hsz, -⟩
    · exact .inl hn
    · exact .inr ⟨g, cap, rfl, (Array.getElem?_eq_some_iff.1 hg).1, hnc, hcm, fun j hj => ⟨h0.cellAt j hj, by unfold World.frozen?; rw [hg]; simp⟩⟩
  · exact ⟨h.1, .inr h.2⟩
theorem VecSat.row {w : World} {e : TypeId} {sz : Nat} {u : Value} {n : Nat} {xs : List Value} (h : VecSat w e sz u n xs) (he : e ≠ noGrow) : w.ownsRow 0 e sz u n xs := by
  rcases h with h | ⟨h, -⟩
  · exact h
  · exact absurd h he
/-- what a world holds of a map that stands for u -/
def XSat (w : World) (u : Value) : XD → Prop
  | .smap P k e D => ∃ b, u = .map (some b) ∧ w.ownsMap P k (plainElem P e) b (Maps.size D) D
theorem XSat.lt {w : World} {u : Value} {x : XD} (h : XSat w u x) {b : Nat} (hb : blockOf u = some b) : b < w.heap.size := by
  cases x with
  | smap P k e D =>
    obtain ⟨b', rfl, h⟩ := h
    simp only [blockOf, Option.some.injEq] at hb
    exact hb ▸ h.lt
theorem XSat.kept {w w' : World} {u : Value} {x : XD} (h : XSat w u x) (hb : ∀ b, blockOf u = some b → b < w.heap.size → w'.heap[b]? = w.heap[b]?) : XSat w' u x := by
  cases x with
  | smap P k e D =>
    obtain ⟨b', rfl, h⟩ := h
    refine ⟨b', rfl, ?_⟩
    have hk := hb b' rfl h.lt
    unfold World.ownsMap at h ⊢
    rw [hk]
    exact h
/-- what a world holds of a letter that stands for u -/
def BlkSat (B : List Value) (w : World) (u : Value) : Blk → Prop
  | .own cells => ∃ b vs, u = .pointer (some ⟨b, 0, none⟩) ∧ SV.tos B cells = some vs ∧ Own w b vs.toArray
  | .arr kind n h => ∃ b, u = .pointer (some ⟨b, 0, none⟩) ∧ Own w b (arrCells kind n h)
  | .vec _ e sz n xs => VecSat w e sz u n xs
  | .lst e sz n cells => ∃ xs, SV.tos B cells = some xs ∧ VecSat w e sz u n xs
  | .row n sz f => ∃ p cap, u = .slice p n cap ∧ n ≤ cap ∧ cap ≤ maxLen ∧ ∀ i j, i < n → j < sz → ∃ a, p = some a ∧ w.cell? (a.add (i * sz + j)) = some (f i j)
  | .ext x => XSat w u x
  | .gone => True
def ExBlk (H : List Blk) (B : List Value) (k b : Nat) : Prop := ∃ x u, H[k]? = some x ∧ x.excl = true ∧ B[k]? = some u ∧ blockOf u = some b
def RdBlk (H : List Blk) (B : List Value) (k b : Nat) : Prop := ∃ n sz f u, H[k]? = some (.row n sz f) ∧ 0 < n ∧ 0 < sz ∧ B[k]? = some u ∧ blockOf u = some b
structure Sat (H : List Blk) (B : List Value) (w : World) : Prop where
  len : B.length = H.length
  blk : ∀ (k : Nat) (x : Blk) (u : Value), H[k]? = some x → B[k]? = some u → BlkSat B w u x
  sep : ∀ k j b, ExBlk H B k b → ExBlk H B j b → k = j
  far : ∀ k j b, ExBlk H B k b → ¬ RdBlk H B j b
/-- of what was there in w, w' differs at the blocks bs alone -/
structure Keeps (bs : List Nat) (w w' : World) : Prop where
  os : w'.os = w.os
  tape : w'.tape = w.tape
  output : w'.output = w.output
  size : w.heap.size ≤ w'.heap.size
  block : ∀ k, k < w.heap.size → k ∉ bs → w'.heap[k]? = w.heap[k]?
theorem Keeps.refl (bs : List Nat) (w : World) : Keeps bs w w := ⟨rfl, rfl, rfl, Nat.le_refl _, fun _ _ _ => rfl⟩
theorem Keeps.trans {bs : List Nat} {a b c : World} (h : Keeps bs a b) (k : Keeps bs b c) : Keeps bs a c :=
  ⟨k.os.trans h.os, k.tape.trans h.tape, k.output.trans h.output, Nat.le_trans h.size k.size, fun i hi hn => (k.block i (Nat.lt_of_lt_of_le hi h.size) hn).trans (h.block i hi hn)⟩
theorem Keeps.below {a b : World} (h : Keeps [] a b) : Below a.heap.size a b := ⟨h.os, h.tape, h.output, h.size, fun k hk => h.block k hk (by simp)⟩
/-- memory, and what has become of it since w0 -/
structure Mem (w0 : World) (bs : List Nat) (H : List Blk) (B : List Value) (w : World) : Prop where
  sat : Sat H B w
  keeps : Keeps bs w0 w
  good : ∀ k b, ExBlk H B k b → b ∈ bs ∨ w0.heap.size ≤ b

theorem cell_lt {w : World} {a : Addr} {x : Value} (h : w.cell? a = some x) : a.block < w.heap.size := lt_of_cell h
theorem addr_add_block (a : Addr) (n : Nat) : (a.add n).block = a.block := by unfold Addr.add; split <;> rfl
theorem own_of_heap {w w' : World} {b : Nat} {cs : Array Value} (h : Own w b cs) (hs : w.heap.size ≤ w'.heap.size) (hb : w'.heap[b]? = w.heap[b]?) : Own w' b cs :=
  ⟨Nat.lt_of_lt_of_le h.1 hs, fun j => (World.cell?_of_block (a := ⟨b, j, none⟩) hb).trans (h.2.1 j), fun j => (World.frozen?_of_block (a := ⟨b, j, none⟩) hb).trans (h.2.2 j)⟩
theorem ownBlock_slice (p : Option Addr) (n c : Nat) : blockOf (.slice p n c) = (Value.slice p n c).ownBlock := by cases p <;> rfl
theorem ownsRow_block {w : World} {e : TypeId} {sz : Nat} {u : Value} {n : Nat} {xs : List Value} (h : w.ownsRow 0 e sz u n xs) : blockOf u = u.ownBlock := by
  rcases h.2 with ⟨rfl, _⟩ | ⟨g, cap, cur, rfl, _⟩ <;> rfl
theorem VecSat.lt {w : World} {e : TypeId} {sz : Nat} {u : Value} {n : Nat} {xs : List Value} (h : VecSat w e sz u n xs) {b : Nat} (hb : blockOf u = some b) : b < w.heap.size := by
  rcases h.view.2 with ⟨rfl, -⟩ | ⟨g, cap, rfl, hg, -⟩
  · cases hb
  · simp only [blockOf, Option.some.injEq] at hb; exact hb ▸ hg
theorem VecSat.kept {w w' : World} {e : TypeId} {sz : Nat} {u : Value} {n : Nat} {xs : List Value} (h : VecSat w e sz u n xs) (hs : w.heap.size ≤ w'.heap.size) (hb : ∀ b, blockOf u = some b → b < w.heap.size → w'.heap[b]? = w.heap[b]?) : VecSat w' e sz u n xs := by
  rcases h with h | ⟨he, h⟩
  · refine .inl ⟨h.1, ?_⟩
    rcases h.2 with hn | ⟨g, cap, cur, rfl, h0, hg, rest⟩
    · exact .inl hn
    · refine .inr ⟨g, cap, cur, rfl, h0, ?_, rest⟩
      rw [hb g rfl (Array.getElem?_eq_some_iff.1 hg).1]; exact hg
  · obtain ⟨hl, g, cap, rfl, hg, h1, h2, h3⟩ := h
    have hbg := hb g rfl hg
    exact .inr ⟨he, hl, g, cap, rfl, Nat.lt_of_lt_of_le hg hs, h1, h2, fun j hj => ⟨(World.cell?_of_block (a := ⟨g, j, none⟩) hbg).trans (h3 j hj).1, (World.frozen?_of_block (a := ⟨g, j, none⟩) hbg).trans (h3 j hj).2⟩⟩
/-- what stands of a letter stays, where its block stays -/
theorem BlkSat.kept {B : List Value} {w w' : World} {u : Value} {x : Blk} (h : BlkSat B w u x) (hs : w.heap.size ≤ w'.heap.size) (hb : ∀ b, blockOf u = some b → b < w.heap.size → w'.heap[b]? = w.heap[b]?) : BlkSat B w' u x := by
  cases x with
  | own cells =>
    obtain ⟨b, vs, rfl, h2, h3⟩ := h
    exact ⟨b, vs, rfl, h2, own_of_heap h3 hs (hb b rfl h3.1)⟩
  | arr kind n f =>
    obtain ⟨b, rfl, h3⟩ := h
    exact ⟨b, rfl, own_of_heap h3 hs (hb b rfl h3.1)⟩
  | vec o e sz n xs => exact VecSat.kept h hs hb
  | lst e sz n cells =>
    obtain ⟨xs, h1, h2⟩ := h
    exact ⟨xs, h1, h2.kept hs hb⟩
  | row n sz f =>
    obtain ⟨p, cap, rfl, h1, h2, h3⟩ := h
    refine ⟨p, cap, rfl, h1, h2, fun i j hi hj => ?_⟩
    obtain ⟨a, rfl, hc⟩ := h3 i j hi hj
    have hlt := cell_lt hc
    rw [addr_add_block] at hlt
    exact ⟨a, rfl, (World.cell?_of_block (by rw [addr_add_block]; exact hb a.block rfl hlt)).trans hc⟩
  | ext x => exact XSat.kept h hb
  | gone => trivial
theorem BlkSat.mono {B B2 : List Value} (hB : B <+: B2) {w : World} {u : Value} {x : Blk} (h : BlkSat B w u x) : BlkSat B2 w u x := by
  cases x with
  | own cells =>
    obtain ⟨b, vs, h1, h2, h3⟩ := h
    exact ⟨b, vs, h1, SV.tos_mono hB h2, h3⟩
  | lst e sz n cells =>
    obtain ⟨xs, h1, h2⟩ := h
    exact ⟨xs, SV.tos_mono hB h1, h2⟩
  | _ => exact h
theorem Sat.getB {H : List Blk} {B : List Value} {w : World} (h : Sat H B w) {k : Nat} {x : Blk} (hk : H[k]? = some x) : ∃ u, B[k]? = some u :=
  ⟨_, List.getElem?_eq_getElem (by rw [h.len]; exact (List.getElem?_eq_some_iff.1 hk).1)⟩
theorem Sat.ex_lt {H : List Blk} {B : List Value} {w : World} (h : Sat H B w) {k b : Nat} (hb : ExBlk H B k b) : b < w.heap.size := by
  obtain ⟨x, u, h1, h2, h3, h4⟩ := hb
  have hs := h.blk k x u h1 h3
  cases x with
  | own cells =>
    obtain ⟨b', vs, rfl, g2, g3⟩ := hs
    simp only [blockOf, Option.some.injEq] at h4
    exact h4 ▸ g3.1
  | arr kind n f =>
    obtain ⟨b', rfl, g3⟩ := hs
    simp only [blockOf, Option.some.injEq] at h4
    exact h4 ▸ g3.1
  | vec o e sz n xs => exact VecSat.lt hs h4
  | lst e sz n cells =>
    obtain ⟨xs, -, hs⟩ := hs
    exact VecSat.lt hs h4
  | ext x => exact XSat.lt hs h4
  | row n sz f => cases h2
  | gone => cases h2
theorem Sat.rd_lt {H : List Blk} {B : List Value} {w : World} (h : Sat H B w) {k b : Nat} (hb : RdBlk H B k b) : b < w.heap.size := by
  obtain ⟨n, sz, f, u, h1, hn, hz, h3, h4⟩ := hb
  obtain ⟨p, cap, rfl, -, -, g⟩ := h.blk k _ u h1 h3
  obtain ⟨a, rfl, hc⟩ := g 0 0 hn hz
  simp only [blockOf, Option.some.injEq] at h4
  have := cell_lt hc
  rw [addr_add_block] at this
  exact h4 ▸ this
theorem Keeps.grown {w0 w w' : World} {bs : List Nat} (h : Keeps bs w0 w) {r : Option Nat} (hg : w.grownBy w' r) (hr : ∀ b, r = some b → b ∈ bs ∨ w0.heap.size ≤ b) : Keeps bs w0 w' :=
  ⟨hg.os.trans h.os, hg.tape.trans h.tape, hg.output.trans h.output, Nat.le_trans h.size hg.size, fun k hk hn => (hg.block k (Nat.lt_of_lt_of_le hk h.size) (fun e => by
    rcases hr k e.symm with g | g
    · exact hn g
    · omega)).trans (h.block k hk hn)⟩
theorem below_grown {w w' : World} (h : Below w.heap.size w w') : w.grownBy w' none := ⟨h.os, h.tape, h.output, h.size, fun k hk _ => h.block k hk⟩
/-- one letter's block is written (what others there are stays) -/
theorem Mem.upd {w0 : World} {bs : List Nat} {H : List Blk} {B : List Value} {w w' : World} (h : Mem w0 bs H B w) {k : Nat} {x y : Blk} {u : Value} (hk : H[k]? = some x) (hx : x.excl = true) (hu : B[k]? = some u)
    (hg : w.grownBy w' (blockOf u)) (hy : y.excl = true) (hsat : BlkSat B w' u y) : Mem w0 bs (H.set k y) B w' := by
  have hkl : k < H.length := (List.getElem?_eq_some_iff.1 hk).1
  have old : ∀ j c, ExBlk (H.set k y) B j c → ExBlk H B j c := by
    rintro j c ⟨z, v, h1, h2, h3, h4⟩
    by_cases e : k = j
    · subst e; exact ⟨x, v, hk, hx, h3, h4⟩
    · rw [List.getElem?_set_ne e] at h1; exact ⟨z, v, h1, h2, h3, h4⟩
  have oldr : ∀ j c, RdBlk (H.set k y) B j c → RdBlk H B j c := by
    rintro j c ⟨n, sz, f, v, h1, h2⟩
    by_cases e : k = j
    · subst e; rw [List.getElem?_set_self hkl] at h1; simp only [Option.some.injEq] at h1; subst h1; cases hy
    · rw [List.getElem?_set_ne e] at h1; exact ⟨n, sz, f, v, h1, h2⟩
  refine ⟨⟨by simp [h.sat.len], fun j z v hj hv => ?_, fun j l c h1 h2 => h.sat.sep j l c (old _ _ h1) (old _ _ h2), fun j l c h1 h2 => h.sat.far j l c (old _ _ h1) (oldr _ _ h2)⟩, ?_, fun j c h1 => h.good j c (old _ _ h1)⟩
  · by_cases e : k = j
    · subst e
      rw [List.getElem?_set_self hkl] at hj
      simp only [Option.some.injEq] at hj
      subst hj
      rw [hu] at hv
      simp only [Option.some.injEq] at hv
      subst hv
      exact hsat
    · rw [List.getElem?_set_ne e] at hj
      have hs := h.sat.blk j z v hj hv
      cases hz : z.excl
      · cases z with
        | gone => trivial
        | row n sz f =>
          obtain ⟨p, cap, rfl, h1, h2, h3⟩ := hs
          refine ⟨p, cap, rfl, h1, h2, fun i l hi hl => ?_⟩
          obtain ⟨a, rfl, hc⟩ := h3 i l hi hl
          refine ⟨a, rfl, (World.cell?_of_block ?_).trans hc⟩
          refine hg.block _ (cell_lt hc) (fun e' => ?_)
          rw [addr_add_block] at e'
          exact h.sat.far k j a.block ⟨x, u, hk, hx, hu, e'.symm⟩ ⟨n, sz, f, _, hj, by omega, by omega, hv, rfl⟩
        | own _ => cases hz
        | arr _ _ _ => cases hz
        | vec _ _ _ _ _ => cases hz
        | lst _ _ _ _ => cases hz
        | ext _ => cases hz
      · refine hs.kept hg.size fun b hb hlt => hg.block b hlt fun e' => ?_
        exact e (h.sat.sep k j b ⟨x, u, hk, hx, hu, e'.symm⟩ ⟨z, v, hj, hz, hv, hb⟩)
  · exact h.keeps.grown hg fun b hb => h.good k b ⟨x, u, hk, hx, hu, hb⟩
theorem getElem?_concat {α : Type} (l : List α) (x : α) (k : Nat) {y : α} (h : (l ++ [x])[k]? = some y) : l[k]? = some y ∨ (k = l.length ∧ y = x) := by
  rcases Nat.lt_trichotomy k l.length with hk | hk | hk
  · rw [List.getElem?_append_left hk] at h; exact .inl h
  · subst hk; simp only [List.getElem?_concat_length, Option.some.injEq] at h; exact .inr ⟨rfl, h.symm⟩
  · rw [List.getElem?_eq_none (by simp; omega)] at h; cases h
theorem ex_concat {H : List Blk} {B : List Value} (hl : B.length = H.length) {y : Blk} {u : Value} {k b : Nat} (h : ExBlk (H ++ [y]) (B ++ [u]) k b) : ExBlk H B k b ∨ (k = H.length ∧ y.excl = true ∧ blockOf u = some b) := by
  obtain ⟨x, v, h1, h2, h3, h4⟩ := h
  rcases getElem?_concat _ _ _ h1 with g | ⟨rfl, rfl⟩
  · have hk := (List.getElem?_eq_some_iff.1 g).1
    rw [List.getElem?_append_left (by omega)] at h3
    exact .inl ⟨x, v, g, h2, h3, h4⟩
  · rw [← hl, List.getElem?_concat_length, Option.some.injEq] at h3
    subst h3
    exact .inr ⟨rfl, h2, h4⟩
theorem rd_concat {H : List Blk} {B : List Value} (hl : B.length = H.length) {y : Blk} {u : Value} {k b : Nat} (h : RdBlk (H ++ [y]) (B ++ [u]) k b) : RdBlk H B k b ∨ (k = H.length ∧ y.excl = false ∧ blockOf u = some b) := by
  obtain ⟨n, sz, f, v, h1, h2, h5, h3, h4⟩ := h
  rcases getElem?_concat _ _ _ h1 with g | ⟨rfl, g⟩
  · have hk := (List.getElem?_eq_some_iff.1 g).1
    rw [List.getElem?_append_left (by omega)] at h3
    exact .inl ⟨n, sz, f, v, g, h2, h5, h3, h4⟩
  · rw [← hl, List.getElem?_concat_length, Option.some.injEq] at h3
    subst h3
    subst g
    exact .inr ⟨rfl, rfl, h4⟩
/-- a new letter, its block of one's own -/
theorem Mem.add {w0 : World} {bs : List Nat} {H : List Blk} {B : List Value} {w w' : World} (h : Mem w0 bs H B w) (hg : w.grownBy w' none) {y : Blk} {u : Value} (hnew : ∀ b, blockOf u = some b → w.heap.size ≤ b)
    (hsat : BlkSat (B ++ [u]) w' u y) : Mem w0 bs (H ++ [y]) (B ++ [u]) w' := by
  have hpre : B <+: B ++ [u] := List.prefix_append _ _
  refine ⟨⟨by simp [h.sat.len], fun k x v hk hv => ?_, fun k j b hk hj => ?_, fun k j b hk hj => ?_⟩, h.keeps.grown hg (fun b hb => by cases hb), fun k b hk => ?_⟩
  · rcases getElem?_concat _ _ _ hk with g | ⟨rfl, rfl⟩
    · have hkl := (List.getElem?_eq_some_iff.1 g).1
      rw [List.getElem?_append_left (by rw [h.sat.len]; exact hkl)] at hv
      exact ((h.sat.blk k x v g hv).mono hpre).kept hg.size fun b _ hlt => hg.block b hlt (by simp)
    · rw [← h.sat.len, List.getElem?_concat_length, Option.some.injEq] at hv
      subst hv
      exact hsat
  · rcases ex_concat h.sat.len hk with g | ⟨rfl, _, g⟩ <;> rcases ex_concat h.sat.len hj with g' | ⟨rfl, _, g'⟩
    · exact h.sat.sep k j b g g'
    · have := h.sat.ex_lt g; have := hnew b g'; omega
    · have := h.sat.ex_lt g'; have := hnew b g; omega
    · rfl
  · rcases ex_concat h.sat.len hk with g | ⟨rfl, hy, g⟩ <;> rcases rd_concat h.sat.len hj with g' | ⟨rfl, hy', g'⟩
    · exact h.sat.far k j b g g'
    · have := h.sat.ex_lt g; have := hnew b g'; omega
    · have := h.sat.rd_lt g'; have := hnew b g; omega
    · rw [hy] at hy'; cases hy'
  · rcases ex_concat h.sat.len hk with g | ⟨rfl, _, g⟩
    · exact h.good k b g
    · exact .inr (by have := hnew b g; have := h.keeps.size; omega)
/-- a letter of which no more is known -/
theorem Mem.drop {w0 : World} {bs : List Nat} {H : List Blk} {B : List Value} {w : World} (h : Mem w0 bs H B w) (k : Nat) : Mem w0 bs (H.set k .gone) B w := by
  have old : ∀ j c, ExBlk (H.set k .gone) B j c → ExBlk H B j c := by
    rintro j c ⟨z, v, h1, h2, h3, h4⟩
    by_cases e : k = j
    · subst e
      have hl := (List.getElem?_eq_some_iff.1 h1).1
      rw [List.getElem?_set_self (by simpa using hl)] at h1
      simp only [Option.some.injEq] at h1
      subst h1; cases h2
    · rw [List.getElem?_set_ne e] at h1; exact ⟨z, v, h1, h2, h3, h4⟩
  have oldr : ∀ j c, RdBlk (H.set k .gone) B j c → RdBlk H B j c := by
    rintro j c ⟨n, sz, f, v, h1, h2⟩
    by_cases e : k = j
    · subst e
      have hl := (List.getElem?_eq_some_iff.1 h1).1
      rw [List.getElem?_set_self (by simpa using hl)] at h1
      cases h1
    · rw [List.getElem?_set_ne e] at h1; exact ⟨n, sz, f, v, h1, h2⟩
  refine ⟨⟨by simp [h.sat.len], fun j z v hj hv => ?_, fun j l c h1 h2 => h.sat.sep j l c (old _ _ h1) (old _ _ h2), fun j l c h1 h2 => h.sat.far j l c (old _ _ h1) (oldr _ _ h2)⟩, h.keeps, fun j c h1 => h.good j c (old _ _ h1)⟩
  by_cases e : k = j
  · subst e
    have hl := (List.getElem?_eq_some_iff.1 hj).1
    rw [List.getElem?_set_self (by simpa using hl)] at hj
    simp only [Option.some.injEq] at hj
    subst hj; trivial
  · rw [List.getElem?_set_ne e] at hj; exact h.sat.blk j z v hj hv
/-- a letter's block is handed on to a new letter (or left behind) -/
theorem Mem.pass {w0 : World} {bs : List Nat} {H : List Blk} {B : List Value} {w w' : World} (h : Mem w0 bs H B w) {k : Nat} {x y : Blk} {u v : Value} (hk : H[k]? = some x) (hx : x.excl = true) (hu : B[k]? = some u)
    (hg : w.grownBy w' (blockOf u)) (hb : ∀ b, blockOf v = some b → blockOf u = some b ∨ w.heap.size ≤ b) (hsat : BlkSat (B ++ [v]) w' v y) (hy : y.excl = true) : Mem w0 bs (H.set k .gone ++ [y]) (B ++ [v]) w' := by
  have hd := h.drop k
  have hkl : k < H.length := (List.getElem?_eq_some_iff.1 hk).1
  have hpre : B <+: B ++ [v] := List.prefix_append _ _
  have hne : ∀ j b, ExBlk (H.set k .gone) B j b → blockOf u ≠ some b := by
    rintro j b ⟨z, s, h1, h2, h3, h4⟩ e
    by_cases ej : k = j
    · subst ej; rw [List.getElem?_set_self hkl] at h1; simp only [Option.some.injEq] at h1; subst h1; cases h2
    · rw [List.getElem?_set_ne ej] at h1
      exact ej (h.sat.sep k j b ⟨x, u, hk, hx, hu, e⟩ ⟨z, s, h1, h2, h3, h4⟩)
  have hner : ∀ j b, RdBlk (H.set k .gone) B j b → blockOf u ≠ some b := by
    rintro j b ⟨n, sz, f, s, h1, h2, h5, h3, h4⟩ e
    by_cases ej : k = j
    · subst ej; rw [List.getElem?_set_self hkl] at h1; cases h1
    · rw [List.getElem?_set_ne ej] at h1
      exact h.sat.far k j b ⟨x, u, hk, hx, hu, e⟩ ⟨n, sz, f, s, h1, h2, h5, h3, h4⟩
  have hvb : ∀ b, blockOf v = some b → (∀ j, ¬ ExBlk (H.set k .gone) B j b) ∧ (∀ j, ¬ RdBlk (H.set k .gone) B j b) := by
    intro b hbv
    rcases hb b hbv with g | g
    · exact ⟨fun j hj => hne j b hj g, fun j hj => hner j b hj g⟩
    · exact ⟨fun j hj => by have := hd.sat.ex_lt hj; omega, fun j hj => by have := hd.sat.rd_lt hj; omega⟩
  have hgood := fun b hb => h.good k b ⟨x, u, hk, hx, hu, hb⟩
  refine ⟨⟨by simp [h.sat.len], fun j z s hj hs => ?_, fun j l b hj hl => ?_, fun j l b hj hl => ?_⟩, h.keeps.grown hg hgood, fun j b hj => ?_⟩
  · rcases getElem?_concat _ _ _ hj with g | ⟨rfl, rfl⟩
    · have hjl := (List.getElem?_eq_some_iff.1 g).1
      rw [List.getElem?_append_left (by rw [h.sat.len]; simpa using hjl)] at hs
      have hsj := hd.sat.blk j z s g hs
      cases hz : z.excl
      · cases z with
        | gone => trivial
        | row n sz f =>
          obtain ⟨p, cap, rfl, h1, h2, h3⟩ := hsj
          refine ⟨p, cap, rfl, h1, h2, fun i l hi hl => ?_⟩
          obtain ⟨a, rfl, hc⟩ := h3 i l hi hl
          refine ⟨a, rfl, (World.cell?_of_block ?_).trans hc⟩
          refine hg.block _ (cell_lt hc) (fun e' => ?_)
          rw [addr_add_block] at e'
          exact hner j a.block ⟨n, sz, f, _, g, by omega, by omega, hs, rfl⟩ e'.symm
        | own _ => cases hz
        | arr _ _ _ => cases hz
        | vec _ _ _ _ _ => cases hz
        | lst _ _ _ _ => cases hz
        | ext _ => cases hz
      · exact (hsj.mono hpre).kept hg.size fun b hb hlt => hg.block b hlt fun e' => hne j b ⟨z, s, g, hz, hs, hb⟩ e'.symm
    · rw [show (H.set k .gone).length = B.length by simp [h.sat.len], List.getElem?_concat_length, Option.some.injEq] at hs
      subst hs
      exact hsat
  · rcases ex_concat hd.sat.len hj with g | ⟨rfl, _, g⟩ <;> rcases ex_concat hd.sat.len hl with g' | ⟨rfl, _, g'⟩
    · exact hd.sat.sep j l b g g'
    · exact absurd g ((hvb b g').1 j)
    · exact absurd g' ((hvb b g).1 l)
    · rfl
  · rcases ex_concat hd.sat.len hj with g | ⟨rfl, hy1, g⟩ <;> rcases rd_concat hd.sat.len hl with g' | ⟨rfl, hy', g'⟩
    · exact hd.sat.far j l b g g'
    · rw [hy] at hy'; cases hy'
    · exact (hvb b g).2 l g'
    · rw [hy] at hy'; cases hy'
  · rcases ex_concat hd.sat.len hj with g | ⟨rfl, _, g⟩
    · exact hd.good j b g
    · rcases hb b g with g' | g'
      · exact hgood b g'
      · exact .inr (by have := h.keeps.size; omega)
theorem Sat.below {H : List Blk} {B : List Value} {w w' : World} (h : Sat H B w) (hb : Below w.heap.size w w') : Sat H B w' :=
  ⟨h.len, fun k x u hk hu => (h.blk k x u hk hu).kept hb.size fun b _ hlt => hb.block b hlt, h.sep, h.far⟩
theorem Mem.below {w0 : World} {bs : List Nat} {H : List Blk} {B : List Value} {w w' : World} (h : Mem w0 bs H B w) (hb : Below w.heap.size w w') : Mem w0 bs H B w' :=
  ⟨h.sat.below hb, h.keeps.grown (below_grown hb) (fun b hb => by cases hb), h.good⟩
theorem Mem.drew {w0 : World} {bs : List Nat} {H : List Blk} {B : List Value} {w : World} (h : Mem w0 bs H B w) : Mem w0 bs H B { w with drawn := w.drawn + 1 } :=
  h.below ⟨rfl, rfl, rfl, Nat.le_refl _, fun _ _ => rfl⟩
/-- a new row of one's own -/
theorem Mem.alloc {w0 : World} {bs : List Nat} {H : List Blk} {B : List Value} {w : World} (h : Mem w0 bs H B w) {cells : List SV} {vs : List Value} (hc : SV.tos B cells = some vs) (t : TypeId) :
    Mem w0 bs (H ++ [.own cells]) (B ++ [.pointer (some ⟨w.heap.size, 0, none⟩)]) (w.alloc (.cells vs.toArray t)) :=
  h.add (World.grownBy_alloc w _ none) (fun b hb => by simp only [blockOf, Option.some.injEq] at hb; omega) ⟨w.heap.size, vs, rfl, SV.tos_mono (List.prefix_append _ _) hc, own_new w _ t⟩
theorem Mem.own_at {w0 : World} {bs : List Nat} {H : List Blk} {B : List Value} {w : World} (h : Mem w0 bs H B w) {k : Nat} {cells : List SV} (hk : H[k]? = some (.own cells)) :
    ∃ b vs, B[k]? = some (.pointer (some ⟨b, 0, none⟩)) ∧ SV.tos B cells = some vs ∧ Own w b vs.toArray := by
  obtain ⟨u, hu⟩ := h.sat.getB hk
  obtain ⟨b, vs, rfl, h2⟩ := h.sat.blk k _ u hk hu
  exact ⟨b, vs, hu, h2⟩
theorem Mem.row_at {w0 : World} {bs : List Nat} {H : List Blk} {B : List Value} {w : World} (h : Mem w0 bs H B w) {k n sz : Nat} {f : Nat → Nat → Value} (hk : H[k]? = some (.row n sz f)) :
    ∃ p cap, B[k]? = some (.slice p n cap) ∧ n ≤ cap ∧ cap ≤ maxLen ∧ ∀ i j, i < n → j < sz → ∃ a, p = some a ∧ w.cell? (a.add (i * sz + j)) = some (f i j) := by
  obtain ⟨u, hu⟩ := h.sat.getB hk
  obtain ⟨p, cap, rfl, h2⟩ := h.sat.blk k _ u hk hu
  exact ⟨p, cap, hu, h2⟩
theorem own_eq {w : World} {b : Nat} {xs ys : Array Value} (h : Own w b xs) (e : xs = ys) : Own w b ys := e ▸ h
theorem grown_setCell (w : World) (b i : Nat) (x : Value) : w.grownBy (w.setCell ⟨b, i, none⟩ x) (some b) :=
  ⟨rfl, rfl, rfl, by simp, fun k _ hne => Below.heap_setCell _ _ _ _ (fun e => hne (by rw [e]))⟩
/-- one cell of one's own row is written -/
theorem Mem.set1 {w0 : World} {bs : List Nat} {H : List Blk} {B : List Value} {w : World} (h : Mem w0 bs H B w) {k : Nat} {cells : List SV} (hk : H[k]? = some (.own cells)) {b : Nat} (hb : B[k]? = some (.pointer (some ⟨b, 0, none⟩)))
    {i : Nat} (hi : i < cells.length) {s : SV} {x : Value} (hs : s.to B = some x) : Mem w0 bs (H.set k (.own (cells.set i s))) B (w.setCell ⟨b, i, none⟩ x) := by
  refine h.upd hk rfl hb (grown_setCell w b i x) rfl ?_
  obtain ⟨b', vs, g1, g2, g3⟩ := h.own_at hk
  rw [hb] at g1
  simp only [Option.some.injEq, Value.pointer.injEq, Addr.mk.injEq] at g1
  obtain ⟨rfl, -⟩ := g1
  refine ⟨b, vs.set i x, rfl, ?_, own_eq (own_set g3 i (by simpa [tos_length g2] using hi) x) (by simp)⟩
  have : ∀ (l : List SV) (xs : List Value) (i : Nat), SV.tos B l = some xs → SV.tos B (l.set i s) = some (xs.set i x) := by
    intro l
    induction l with
    | nil => intro xs i e; simp only [SV.tos, Option.some.injEq] at e; subst e; rfl
    | cons t l ih =>
      intro xs i e
      simp only [SV.tos] at e
      split at e
      · rename_i y ys h1 h2
        simp only [Option.some.injEq] at e; subst e
        cases i with
        | zero => simp [SV.tos, hs, h2]
        | succ i => simp [SV.tos, h1, ih ys i h2]
      · cases e
  exact this _ _ _ g2
end Go.Proofs.Ytodfcalaggfldaa.Sym
namespace Go.Proofs.Ytodfcalaggfldaa.Sym
set_option linter.unusedVariables false
set_option linter.unusedSimpArgs false
open Go.RowKit

/-! ### Trees of what may come -/
inductive T (α : Type) where
  | leaf (a : α)
  | ite (b : Bool) (t e : T α)
  | need (p : Prop) (t : T α)
  | stuck (n : Nat)
def T.ok {α : Type} (Q : α → Prop) : T α → Prop
  | .leaf a => Q a
  | .ite b t e => (b = true → t.ok Q) ∧ (b = false → e.ok Q)
  | .need p t => p ∧ t.ok Q
  | .stuck _ => False
def T.bind {α β : Type} : T α → (α → T β) → T β
  | .leaf a, f => f a
  | .ite b t e, f => .ite b (t.bind f) (e.bind f)
  | .need p t, f => .need p (t.bind f)
  | .stuck n, _ => .stuck n
theorem T.ok_bind {α β : Type} {Q : β → Prop} {f : α → T β} : ∀ {t : T α}, (t.bind f).ok Q → t.ok fun a => (f a).ok Q
  | .leaf _, h => h
  | .ite _ t e, h => ⟨fun hb => T.ok_bind (t := t) (h.1 hb), fun hb => T.ok_bind (t := e) (h.2 hb)⟩
  | .need _ t, h => ⟨h.1, T.ok_bind (t := t) h.2⟩
  | .stuck _, h => h
theorem T.ok_mono {α : Type} {Q Q' : α → Prop} (hq : ∀ a, Q a → Q' a) : ∀ {t : T α}, t.ok Q → t.ok Q'
  | .leaf _, h => hq _ h
  | .ite _ t e, h => ⟨fun hb => T.ok_mono hq (t := t) (h.1 hb), fun hb => T.ok_mono hq (t := e) (h.2 hb)⟩
  | .need _ t, h => ⟨h.1, T.ok_mono hq (t := t) h.2⟩
  | .stuck _, h => h
/-- every tree ends in one of its leaves -/
theorem T.ok_leaf {α : Type} {Q : α → Prop} : ∀ {t : T α}, t.ok Q → ∃ a, Q a
  | .leaf a, h => ⟨a, h⟩
  | .ite true t _, h => T.ok_leaf (t := t) (h.1 rfl)
  | .ite false _ e, h => T.ok_leaf (t := e) (h.2 rfl)
  | .need _ t, h => T.ok_leaf (t := t) h.2

/-- the point at which a tree ends -/
theorem T.ok_point0 {α : Type} {Q : α → Prop} : ∀ {t : T α}, t.ok Q → ∃ a, Q a ∧ ∀ Q' : α → Prop, Q' a → t.ok Q'
  | .leaf a, h => ⟨a, h, fun _ h => h⟩
  | .ite true t _, h => let ⟨a, h1, h2⟩ := T.ok_point0 (t := t) (h.1 rfl); ⟨a, h1, fun Q' hq => ⟨fun _ => h2 Q' hq, (fun e => by cases e)⟩⟩
  | .ite false _ e, h => let ⟨a, h1, h2⟩ := T.ok_point0 (t := e) (h.2 rfl); ⟨a, h1, fun Q' hq => ⟨(fun e => by cases e), fun _ => h2 Q' hq⟩⟩
  | .need p t, h => let ⟨a, h1, h2⟩ := T.ok_point0 (t := t) h.2; ⟨a, h1, fun Q' hq => ⟨h.1, h2 Q' hq⟩⟩
  | .stuck _, h => h.elim

/-! ### States -/
structure St where
  fr : List (Nat × Option SV)
  H : List Blk
def look : List (Nat × Option SV) → Nat → Option SV
  | [], _ => none
  | (u, s) :: l, t => bif Nat.beq u t then s else look l t
def St.val (st : St) : Operand → Option SV
  | .tmp t => look st.fr t
  | .const v => match v with
    | .bool true => some .tt
    | .bool false => some .ff
    | v => some (.c v)
  | .global g => some (.c (.pointer (some ⟨g, 0, none⟩)))
  | .func f => some (.c (.func (.func f) #[] #[]))
def St.put (st : St) (dst : Option Tmp) (s : SV) : St :=
  match dst with
  | some d => { st with fr := (d, some s) :: st.fr }
  | none => st
structure Slots (N : Nat) (fr : List (Nat × Option SV)) (B : List Value) (a : Act) : Prop where
  size : a.tmps.size = N
  defers : a.defers = []
  slot : ∀ t s, look fr t = some s → s.to B = some (a.tmps.getD t undef)
theorem Slots.mono {N : Nat} {fr : List (Nat × Option SV)} {B B2 : List Value} {a : Act} (h : Slots N fr B a) (hb : B <+: B2) : Slots N fr B2 a :=
  ⟨h.size, h.defers, fun t s e => SV.to_mono hb (h.slot t s e)⟩
def dstOk (N : Nat) : Option Tmp → Bool
  | some d => Nat.blt d N
  | none => true
theorem Slots.put {N : Nat} {st : St} {B : List Value} {a : Act} (h : Slots N st.fr B a) {dst : Option Tmp} (hd : dstOk N dst = true) {s : SV} {x : Value} (hs : s.to B = some x) : Slots N (st.put dst s).fr B (a.put dst x) := by
  cases dst with
  | none => exact h
  | some d =>
    have hd' : d < N := by simpa [dstOk, Nat.blt_eq] using hd
    refine ⟨by simpa [Act.put] using h.size, h.defers, fun t u e => ?_⟩
    simp only [St.put, look] at e
    by_cases hdt : d = t
    · subst hdt
      simp only [Nat.beq_eq_true_eq, cond_true, Option.some.injEq, Nat.beq_refl] at e
      subst e
      simp only [Act.put]
      rw [Array.getD_eq_getD_getElem?, Array.getElem?_setIfInBounds_self_of_lt (by rw [h.size]; exact hd')]
      exact hs
    · have hb : Nat.beq d t = false := by
        cases hb : Nat.beq d t
        · rfl
        · exact absurd (Nat.eq_of_beq_eq_true hb) hdt
      rw [hb, cond_false] at e
      rw [h.slot t u e]
      simp only [Act.put]
      rw [Array.getD_eq_getD_getElem?, Array.getD_eq_getD_getElem?, Array.getElem?_setIfInBounds_ne hdt]
theorem Slots.val {N : Nat} {st : St} {B : List Value} {a : Act} (h : Slots N st.fr B a) {x : Operand} {s : SV} (e : st.val x = some s) : s.to B = some (a.eval x) := by
  cases x with
  | tmp t => exact h.slot t s e
  | const v =>
    simp only [St.val] at e
    split at e <;> (simp only [Option.some.injEq] at e; subst e; rfl)
  | global g => simp only [St.val, Option.some.injEq] at e; subst e; rfl
  | func f => simp only [St.val, Option.some.injEq] at e; subst e; rfl
/-- what an operation sees: its operands, memory, how many letters there are -/
structure View where
  val : Operand → Option SV
  see : Nat → Option Blk
  len : Nat
structure Vw (V : View) (H : List Blk) (B : List Value) (a : Act) : Prop where
  vals : ∀ x s, V.val x = some s → s.to B = some (a.eval x)
  sees : ∀ k x, V.see k = some x → H[k]? = some x
theorem Vw.val {V : View} {H : List Blk} {B : List Value} {a : Act} (h : Vw V H B a) {x : Operand} {s : SV} (e : V.val x = some s) : s.to B = some (a.eval x) := h.vals x s e
theorem Vw.see {V : View} {H : List Blk} {B : List Value} {a : Act} (h : Vw V H B a) {k : Nat} {x : Blk} (e : V.see k = some x) : H[k]? = some x := h.sees k x e
/-- the slots that an operation reads -/
def opTmps (o : Oper) : List Nat := o.op.operands.toList.filterMap fun | .tmp t => some t | _ => none
def valR (l : List Nat) (fr : List (Nat × Option SV)) : Operand → Option SV
  | .tmp t => bif l.any (Nat.beq t) then look fr t else none
  | x => (St.mk fr []).val x
/-- all of memory is seen -/
def St.view (st : St) (o : Oper) : View := ⟨valR (opTmps o) st.fr, fun k => st.H[k]?, st.H.length⟩
/-- a part of memory is seen -/
def St.part (st : St) (h : Nat → Option Blk) (o : Oper) : View := ⟨valR (opTmps o) st.fr, h, 0⟩
theorem valR_ok {N : Nat} {st : St} {B : List Value} {a : Act} (h : Slots N st.fr B a) {l : List Nat} {x : Operand} {s : SV} (e : valR l st.fr x = some s) : s.to B = some (a.eval x) := by
  cases x with
  | tmp t =>
    simp only [valR] at e
    cases hb : l.any (Nat.beq t)
    · rw [hb] at e; cases e
    · rw [hb, cond_true] at e; exact h.slot t s e
  | const v => exact h.val (st := st) (x := .const v) e
  | global g => exact h.val (st := st) (x := .global g) e
  | func f => exact h.val (st := st) (x := .func f) e
theorem view_ok {N : Nat} {st : St} {B : List Value} {a : Act} (h : Slots N st.fr B a) (o : Oper) : Vw (st.view o) st.H B a := ⟨fun _ _ e => valR_ok h e, fun _ _ e => e⟩
theorem part_ok {N : Nat} {st : St} {B : List Value} {a : Act} (h : Slots N st.fr B a) {g : Nat → Option Blk} (hg : ∀ k x, g k = some x → st.H[k]? = some x) (o : Oper) : Vw (st.part g o) st.H B a := ⟨fun _ _ e => valR_ok h e, hg⟩
/-- what becomes of memory: letters that are written, and new ones -/
structure Eff where
  muts : List (Nat × Blk)
  news : List Blk
def Eff.run (e : Eff) (H : List Blk) : List Blk := match e.news with
  | [] => e.muts.foldl (fun H p => H.set p.1 p.2) H
  | l => (e.muts.foldl (fun H p => H.set p.1 p.2) H) ++ l
def noEff : Eff := ⟨[], []⟩
theorem noEff_run (H : List Blk) : noEff.run H = H := rfl
/-- what a branch tells of the slot that it asks -/
def St.knows (st : St) (c : Operand) (s : SV) : St := match c with
  | .tmp t => ⟨(t, some s) :: st.fr, st.H⟩
  | _ => st
theorem St.knows_H (st : St) (c : Operand) (s : SV) : (st.knows c s).H = st.H := by cases c <;> rfl
theorem Slots.knows {N : Nat} {st : St} {B : List Value} {a : Act} (h : Slots N st.fr B a) {c : Operand} {s : SV} {x : Bool} (hc : st.val c = some (.v (.bool x))) (hs : s.to B = some (.bool x)) : Slots N (st.knows c s).fr B a := by
  cases c with
  | tmp t =>
    refine ⟨h.size, h.defers, fun u s' e => ?_⟩
    simp only [St.knows, look] at e
    cases hb : Nat.beq t u
    · rw [hb, cond_false] at e; exact h.slot u s' e
    · rw [hb, cond_true, Option.some.injEq] at e
      have := Nat.eq_of_beq_eq_true hb
      subst this
      subst e
      have h1 := h.slot t _ hc
      rw [← h1, hs]; rfl
  | _ => exact h
end Go.Proofs.Ytodfcalaggfldaa.Sym
namespace Go.Proofs.Ytodfcalaggfldaa.Sym
set_option linter.unusedVariables false
set_option linter.unusedSimpArgs false
open Go.RowKit

/-- what is known of functions that only compute: under p, f of xs hands back v -/
abbrev Tab := FuncId → List Value → Option (T Value)
def needs {α : Type} (l : List Prop) (t : T α) : T α := match l with | [] => t | p :: l => .need p (needs l t)
theorem needs_ok {α : Type} {Q : α → Prop} {t : T α} : ∀ {l : List Prop}, (needs l t).ok Q → (∀ p ∈ l, p) ∧ t.ok Q
  | [], h => ⟨by simp, h⟩
  | q :: l, h => ⟨fun p hp => by
      rcases List.mem_cons.1 hp with rfl | hp
      · exact h.1
      · exact (needs_ok (l := l) h.2).1 p hp, (needs_ok (l := l) h.2).2⟩
def isGo (P : Program) (f : FuncId) : Bool := match P.funcs[f]? with | some fn => !(fn.name == "runtime.NumGoroutine") && !fn.body.isNone | none => false
def TabOk (P : Program) (S : Tab) : Prop := ∀ f xs t, S f xs = some t → isGo P f = true ∧ ∀ v, (t.ok fun x => x = v) → ∀ w, Calls P f xs.toArray w fun e w' => e = .returned v ∧ Below w.heap.size w w'

/-- kinds of cells -/
inductive Ki where
  | int (k : IntKind)
  | bool
  | str
def intV : Value → Int | .int _ z => z | _ => 0
def boolV : Value → Bool | .bool b => b | _ => false
def strV : Value → ByteArray | .string s => s | _ => ByteArray.empty
def Ki.mk : Ki → Value → Value
  | .int k, v => .int k (intV v)
  | .bool, v => .bool (boolV v)
  | .str, v => .string (strV v)
def shapeFs (g : TypeId → Option (List Ki)) : List Field → Option (List Ki)
  | [] => some []
  | f :: l => match g f.type, shapeFs g l with
    | some a, some b => some (a ++ b)
    | _, _ => none
def cellAt (xs : List Value) (i : Nat) : Value := xs.getD i undef
def cellOf (cs : Array Value) (i : Nat) : Value := cs.getD i undef
def cellIs (cs : Array Value) (i : Nat) (K : Ki) : Prop := cs[i]? = some (K.mk (cellOf cs i))
def shMk (xs : List Value) : Nat → List Ki → List Value
  | _, [] => []
  | i, K :: l => K.mk (cellAt xs i) :: shMk xs (i + 1) l
theorem shMk_length (xs : List Value) : ∀ (l : List Ki) (i : Nat), (shMk xs i l).length = l.length
  | [], _ => rfl
  | _ :: l, i => by simp [shMk, shMk_length xs l (i + 1)]
/-- a value without letters -/
def SV.plain : SV → Option Value
  | .v x => some x
  | .c x => some x
  | .tt => some (.bool true)
  | .ff => some (.bool false)
  | _ => none
theorem SV.plain_to {s : SV} {x : Value} (h : s.plain = some x) (B : List Value) : s.to B = some x := by
  cases s <;> first | exact h | cases h
/-- known whole: a constant, or reckoned of such -/
def SV.conc : SV → Bool
  | .c _ | .tt | .ff => true
  | _ => false
def View.pv (V : View) (x : Operand) : Option Value := match V.val x with | some s => s.plain | none => none
def isPlain (V : View) (x : Operand) : Bool := match V.pv x with | some _ => true | none => false
def isConc (V : View) (x : Operand) : Bool := match V.val x with | some s => s.conc | none => false
def View.rho (V : View) (x : Operand) : Value := match V.pv x with | some y => y | none => undef
def plains : List SV → Option (List Value)
  | [] => some []
  | s :: l => match s.plain, plains l with | some x, some xs => some (x :: xs) | _, _ => none
theorem plains_to {B : List Value} : ∀ {l : List SV} {xs : List Value}, plains l = some xs → SV.tos B l = some xs
  | [], _, h => by simp only [plains, Option.some.injEq] at h; subst h; rfl
  | s :: l, _, h => by
    simp only [plains] at h
    split at h
    · rename_i x xs hs hx
      simp only [Option.some.injEq] at h; subst h
      simp [SV.tos, SV.plain_to hs B, plains_to hx]
    · cases h
theorem Vw.pv {V : View} {H : List Blk} {B : List Value} {a : Act} (h : Vw V H B a) {x : Operand} {y : Value} (e : V.pv x = some y) : a.eval x = y := by
  unfold View.pv at e
  split at e
  · rename_i s hs
    have h1 := h.val hs
    rw [SV.plain_to e B] at h1
    simp only [Option.some.injEq] at h1
    exact h1.symm
  · cases e
def cellsOf (h : Nat → Option Blk) : SV → Option (List SV)
  | .v x => some (x.cells.toList.map .v)
  | .c x => some (x.cells.toList.map .c)
  | .tt => some [.tt]
  | .ff => some [.ff]
  | .agg l => some l
  | .ptr k off => some [.ptr k off]
  | .elt k sz i off => some [.elt k sz i off]
  | .ref k => match h k with | some (.row ..) => some [.ref k] | some (.vec ..) => some [.ref k] | some (.lst ..) => some [.ref k] | some (.ext ..) => some [.ref k] | _ => none
  | .tup _ => none
  | .clo fn a b => some [.clo fn a b]
  | .ifc t s => some [.ifc t s]
def oneS (h : Nat → Option Blk) : SV → Bool
  | .v x => x.oneCell'
  | .c x => x.oneCell'
  | .tt | .ff => true
  | .ptr .. | .elt .. | .clo .. | .ifc .. => true
  | .ref k => match h k with | some (.row ..) => true | some (.vec ..) => true | some (.lst ..) => true | some (.ext ..) => true | _ => false
  | .agg _ | .tup _ => false
def setL (cells : List SV) (off : Nat) : List SV → List SV
  | [] => cells
  | s :: l => setL (cells.set off s) (off + 1) l
/-- a struct or an array that is put together -/
def fillS (h : Nat → Option Blk) (place : Nat → Option (Nat × Nat)) (cells : List SV) : List (Nat × SV) → Option (List SV)
  | [] => some cells
  | (i, s) :: rest => match place i, cellsOf h s with
    | some (off, size), some l => bif Nat.beq l.length size && Nat.ble (off + l.length) cells.length then fillS h place (setL cells off l) rest else none
    | _, _ => none
def vals (V : View) : List Operand → Option (List SV)
  | [] => some []
  | x :: l => match V.val x, vals V l with | some s, some ss => some (s :: ss) | _, _ => none
theorem vals_to {V : View} {H : List Blk} {B : List Value} {a : Act} (h : Vw V H B a) : ∀ {l : List Operand} {ss : List SV}, vals V l = some ss → SV.tos B ss = some (l.map a.eval)
  | [], _, e => by simp only [vals, Option.some.injEq] at e; subst e; rfl
  | x :: l, _, e => by
    simp only [vals] at e
    split at e
    · rename_i s ss h1 h2
      simp only [Option.some.injEq] at e; subst e
      simp [SV.tos, h.val h1, vals_to h h2]
    · cases e
def mkAgg (l : List SV) : SV := match plains l with | some xs => .v (.agg xs.toArray) | none => .agg l
theorem cellsOf_to {H : List Blk} {B : List Value} {w : World} (hs : Sat H B w) {g : Nat → Option Blk} (hg : ∀ k x, g k = some x → H[k]? = some x) {s : SV} {x : Value} (h : s.to B = some x) {l : List SV} (hl : cellsOf g s = some l) : SV.tos B l = some x.cells.toList := by
  cases s with
  | v y => simp only [SV.to, Option.some.injEq] at h; subst h; simp only [cellsOf, Option.some.injEq] at hl; subst hl; exact tos_plain _ _
  | c y => simp only [SV.to, Option.some.injEq] at h; subst h; simp only [cellsOf, Option.some.injEq] at hl; subst hl; exact tos_conc _ _
  | tt => simp only [SV.to, Option.some.injEq] at h; subst h; simp only [cellsOf, Option.some.injEq] at hl; subst hl; rfl
  | ff => simp only [SV.to, Option.some.injEq] at h; subst h; simp only [cellsOf, Option.some.injEq] at hl; subst hl; rfl
  | ptr k off =>
    simp only [cellsOf, Option.some.injEq] at hl; subst hl
    have h' := h
    simp only [SV.to] at h
    split at h
    · simp only [Option.some.injEq] at h; subst h; simp [SV.tos, h', Value.cells]
    · cases h
  | elt k sz i off =>
    simp only [cellsOf, Option.some.injEq] at hl; subst hl
    have h' := h
    simp only [SV.to] at h
    split at h
    · simp only [Option.some.injEq] at h; subst h; simp [SV.tos, h', Value.cells]
    · cases h
  | ref k =>
    simp only [cellsOf] at hl
    split at hl
    · rename_i n sz f hk
      have hk := hg _ _ hk
      simp only [Option.some.injEq] at hl; subst hl
      have h' := h
      simp only [SV.to] at h
      obtain ⟨p, cap, rfl, -⟩ := hs.blk k _ _ hk h
      simp [SV.tos, h', Value.cells]
    · rename_i o' e sz n xs hk
      have hk := hg _ _ hk
      simp only [Option.some.injEq] at hl; subst hl
      have h' := h
      simp only [SV.to] at h
      have hs' : VecSat w e sz x n xs := hs.blk k _ _ hk h
      rcases hs'.view.2 with ⟨rfl, -⟩ | ⟨b, cap, rfl, -⟩ <;> simp [SV.tos, h', Value.cells]
    · rename_i e sz n cs hk
      have hk := hg _ _ hk
      simp only [Option.some.injEq] at hl; subst hl
      have h' := h
      simp only [SV.to] at h
      obtain ⟨xs, -, hs'⟩ := hs.blk k _ _ hk h
      rcases hs'.view.2 with ⟨rfl, -⟩ | ⟨b, cap, rfl, -⟩ <;> simp [SV.tos, h', Value.cells]
    · rename_i x0 hk
      have hk := hg _ _ hk
      simp only [Option.some.injEq] at hl; subst hl
      have h' := h
      simp only [SV.to] at h
      have hx : XSat w x x0 := hs.blk k _ _ hk h
      cases x0 with
      | smap P' k' e' D' =>
        obtain ⟨b, rfl, -⟩ := hx
        simp [SV.tos, h', Value.cells]
    · cases hl
  | agg l' =>
    simp only [cellsOf, Option.some.injEq] at hl; subst hl
    simp only [SV.to, Option.map_eq_some_iff] at h
    obtain ⟨vs, h1, h2⟩ := h
    subst h2
    simpa [Value.cells] using h1
  | tup l' => simp [cellsOf] at hl
  | clo fn a b =>
    simp only [cellsOf, Option.some.injEq] at hl; subst hl
    have h' := h
    simp only [SV.to] at h
    split at h
    · simp only [Option.some.injEq] at h; subst h; simp [SV.tos, h', Value.cells]
    · cases h
  | ifc t s =>
    simp only [cellsOf, Option.some.injEq] at hl; subst hl
    have h' := h
    simp only [SV.to, Option.map_eq_some_iff] at h
    obtain ⟨v, h1, h2⟩ := h
    subst h2; simp [SV.tos, h', Value.cells]
def setV (cells : List Value) (off : Nat) : List Value → List Value
  | [] => cells
  | s :: l => setV (cells.set off s) (off + 1) l
theorem setV_length : ∀ (l : List Value) (cells : List Value) (off : Nat), (setV cells off l).length = cells.length
  | [], _, _ => rfl
  | s :: l, cells, off => by simp only [setV]; rw [setV_length l]; simp
theorem tos_set {B : List Value} {s : SV} {x : Value} (hs : s.to B = some x) : ∀ (l : List SV) (xs : List Value) (i : Nat), SV.tos B l = some xs → SV.tos B (l.set i s) = some (xs.set i x)
  | [], xs, i, e => by simp only [SV.tos, Option.some.injEq] at e; subst e; rfl
  | t :: l, xs, i, e => by
    simp only [SV.tos] at e
    split at e
    · rename_i y ys h1 h2
      simp only [Option.some.injEq] at e; subst e
      cases i with
      | zero => simp [SV.tos, hs, h2]
      | succ i => simp [SV.tos, h1, tos_set hs l ys i h2]
    · cases e
theorem tos_setL {B : List Value} : ∀ (l : List SV) (ys : List Value) (cells : List SV) (xs : List Value) (off : Nat), SV.tos B l = some ys → SV.tos B cells = some xs → SV.tos B (setL cells off l) = some (setV xs off ys)
  | [], ys, cells, xs, off, h, h2 => by simp only [SV.tos, Option.some.injEq] at h; subst h; exact h2
  | s :: l, ys, cells, xs, off, h, h2 => by
    simp only [SV.tos] at h
    split at h
    · rename_i y ys' h1 h3
      simp only [Option.some.injEq] at h; subst h
      simp only [setL, setV]
      exact tos_setL l ys' _ _ _ h3 (tos_set h1 cells xs off h2)
    · cases h
theorem foldl_set (ys : List Value) : ∀ (n off : Nat) (xs : List Value), (ys.zipIdx n).foldl (fun (cs : Array Value) p => cs.setIfInBounds (off + p.2) p.1) xs.toArray = (setV xs (off + n) ys).toArray := by
  induction ys with
  | nil => intro n off xs; rfl
  | cons y ys ih =>
    intro n off xs
    simp only [List.zipIdx_cons, List.foldl_cons, setV]
    rw [List.setIfInBounds_toArray, ih (n + 1) off]
    rfl
theorem fillS_ok {H : List Blk} {B : List Value} {w : World} (hs : Sat H B w) {g : Nat → Option Blk} (hg : ∀ k x, g k = some x → H[k]? = some x) {place : Nat → Option (Nat × Nat)} : ∀ (parts : List (Nat × SV)) (vs : List (Nat × Value)) (cells r : List SV) (xs : List Value), SV.tos B (parts.map (·.2)) = some (vs.map (·.2)) → parts.map (·.1) = vs.map (·.1) →
    SV.tos B cells = some xs → fillS g place cells parts = some r → ∃ ys, SV.tos B r = some ys ∧ Instr.fill place xs.toArray vs = some ys.toArray
  | [], vs, cells, r, xs, h1, h2, h3, h4 => by
    simp only [fillS, Option.some.injEq] at h4
    subst h4
    cases vs with
    | nil => exact ⟨xs, h3, rfl⟩
    | cons v vs => simp at h2
  | (i, s) :: parts, vs, cells, r, xs, h1, h2, h3, h4 => by
    cases vs with
    | nil => simp at h2
    | cons v vs =>
      obtain ⟨j, x⟩ := v
      simp only [List.map_cons, List.cons.injEq] at h2
      obtain ⟨rfl, h2⟩ := h2
      simp only [List.map_cons, SV.tos] at h1
      split at h1
      · rename_i x' xs' g1 g2
        simp only [Option.some.injEq, List.cons.injEq] at h1
        obtain ⟨rfl, rfl⟩ := h1
        simp only [fillS] at h4
        split at h4
        · rename_i off size l hp hl
          have hc := cellsOf_to hs hg g1 hl
          have hlen := tos_length hc
          have hlen2 := tos_length h3
          cases hb : (Nat.beq l.length size && Nat.ble (off + l.length) cells.length)
          · rw [hb] at h4; cases h4
          · rw [hb, cond_true] at h4
            simp only [Bool.and_eq_true] at hb
            obtain rfl : l.length = size := Nat.eq_of_beq_eq_true hb.1
            have hle := Nat.le_of_ble_eq_true hb.2
            obtain ⟨ys, k1, k2⟩ := fillS_ok hs hg parts vs _ r _ g2 h2 (tos_setL l _ cells xs off hc h3) h4
            refine ⟨ys, k1, ?_⟩
            simp only [Array.length_toList] at hlen
            simp only [Instr.fill, hp, hlen]
            rw [if_neg (by simp only [List.size_toArray, ne_eq, not_true_eq_false, decide_false, Bool.false_or, decide_eq_true_eq]; omega)]
            rw [← k2]
            congr 1
            have := foldl_set x'.cells.toList 0 off xs
            rw [Nat.add_zero] at this
            rw [← this, ← Array.foldl_toList, Array.toList_zipIdx]
        · cases h4
      · cases h1
theorem mkAgg_to {B : List Value} {l : List SV} {xs : List Value} (h : SV.tos B l = some xs) : (mkAgg l).to B = some (.agg xs.toArray) := by
  unfold mkAgg
  split
  · rename_i ys hy
    rw [plains_to hy] at h
    simp only [Option.some.injEq] at h; subst h; rfl
  · simp [SV.to, h]

section
variable (P : Program) (S : Tab)

def evalPure (V : View) (o : Oper) : T SV :=
  match o.op with
  | .select .. => .stuck 1
  | _ => bif o.op.operands.toList.all (isPlain V) then (match pureVal P (execOp V.rho o) with | some (.value v) => (bif o.op.operands.toList.all (isConc V) then (match v with | .bool true => .leaf .tt | .bool false => .leaf .ff | v => .leaf (.c v)) else .leaf (.v v)) | _ => .stuck 2) else .stuck 3
def shapeT : Nat → TypeId → Option (List Ki)
  | 0, _ => none
  | d + 1, t => match P.underlying t with
    | some (.int k) => some [.int k]
    | some .bool => some [.bool]
    | some .string => some [.str]
    | some (.struct fs) => shapeFs (shapeT d) fs.toList
    | _ => none
def leafO (n : Nat) : Option SV → T SV
  | some s => .leaf s
  | none => .stuck n
def evalLoad (V : View) (t : TypeId) (x : Operand) : T SV :=
  match pureVal P (isAgg t), pureVal P (sizeOf t) with
  | some ag, some n => match V.val x with
    | some (.ptr k off) => (match V.see k with
      | some (.own cells) => bif Nat.ble (off + n) cells.length then (bif ag then .leaf (mkAgg ((cells.drop off).take n)) else leafO 5 cells[off]?) else .stuck 6
      | some (.arr kind m h) => bif ag then (bif Nat.beq off 0 && Nat.beq n m then .leaf (.v (.agg (arrCells kind m h))) else .stuck 60) else .need (off < m) (.leaf (.v (.int kind (h off))))
      | _ => .stuck 7)
    | some (.elt k sz i off) => (match V.see k with
      | some (.row m sz' f) => bif Nat.beq sz sz' && Nat.ble (off + n) sz && Nat.ble 1 n then (.need (i < m) (bif ag then .leaf (.v (.agg ((List.range' off n).map (f i)).toArray)) else .leaf (.v (f i off)))) else .stuck 8
      | some (.vec o _ sz' m xs) => bif Nat.beq sz sz' && Nat.ble (off + n) sz && Nat.ble 1 n then (.need (i < m) (match (bif o then shapeT P 9 t else none) with
        | some sh => bif Nat.beq sh.length n then .need ((xs.drop (i * sz + off)).take n = shMk xs (i * sz + off) sh) (bif ag then .leaf (.v (.agg (shMk xs (i * sz + off) sh).toArray)) else leafO 63 ((shMk xs (i * sz + off) sh)[0]?.map .v)) else .stuck 64
        | none => (bif ag then .leaf (.v (.agg ((xs.drop (i * sz + off)).take n).toArray)) else (match xs[i * sz + off]? with | some x => .leaf (.v x) | none => .stuck 61)))) else .stuck 62
      | some (.lst _ sz' m cells) => bif Nat.beq sz sz' && Nat.ble (off + n) sz && Nat.ble 1 n && Nat.blt i m then (bif ag then .leaf (mkAgg ((cells.drop (i * sz + off)).take n)) else leafO 66 cells[i * sz + off]?) else .stuck 67
      | _ => .stuck 9)
    | _ => .stuck 10
  | _, _ => .stuck 11
def fieldOf (t : TypeId) (i : Nat) : Option (Nat × Nat) :=
  match pureVal P (underlying t) with
  | some (.struct fields) => (match fields[i]? with
    | some f => (match pureVal P (sizeOf f.type) with | some n => some (f.offset, n) | none => none)
    | none => none)
  | _ => none
def evalField (V : View) (o : Oper) (t : TypeId) (x : Operand) (i : Nat) : T SV :=
  match V.val x with
  | some (.ptr k off) => (match fieldOf P t i with
    | some (fo, n) => bif Nat.beq n 0 then .stuck 12 else .leaf (.ptr k (off + fo))
    | none => .stuck 13)
  | some (.elt k sz j off) => (match fieldOf P t i with
    | some (fo, n) => bif Nat.beq n 0 then .stuck 14 else .leaf (.elt k sz j (off + fo))
    | none => .stuck 15)
  | _ => evalPure P V o
def evalIndexAddr (V : View) (o : Oper) (t : TypeId) (x ix : Operand) : T SV :=
  match V.val x, V.pv ix with
  | some (.ref k), some (.int _ z) => (match pureVal P (underlying t), V.see k with
    | some (.slice e), some (.row m sz _) => (match pureVal P (sizeOf e) with
      | some n => bif Nat.beq n sz && Nat.ble 1 sz then .need (0 ≤ z ∧ z < m) (.leaf (.elt k sz z.toNat 0)) else .stuck 16
      | none => .stuck 17)
    | some (.slice e), some (.vec _ _ sz m _) => (match pureVal P (sizeOf e) with
      | some n => bif Nat.beq n sz && Nat.ble 1 sz then .need (0 ≤ z ∧ z < m) (.leaf (.elt k sz z.toNat 0)) else .stuck 63
      | none => .stuck 64)
    | some (.slice e), some (.lst _ sz m _) => (match pureVal P (sizeOf e) with
      | some n => bif Nat.beq n sz && Nat.ble 1 sz then .need (0 ≤ z ∧ z < m) (.leaf (.elt k sz z.toNat 0)) else .stuck 68
      | none => .stuck 69)
    | _, _ => .stuck 18)
  | some (.ptr k off), some (.int _ z) => (match pureVal P (underlying t) with
    | some (.array m e) => (match pureVal P (sizeOf e) with
      | some n => .need (0 ≤ z ∧ z < m) (.leaf (.ptr k (off + z.toNat * n)))
      | none => .stuck 19)
    | _ => .stuck 20)
  | _, _ => evalPure P V o
def byteAt (s : ByteArray) (i : Int) : Int := (s.data.toList.getD i.toNat 0).toNat
def evalIndex (V : View) (o : Oper) (t : TypeId) (x ix : Operand) : T SV :=
  match V.pv x, V.pv ix with
  | some (.string s), some (.int _ z) => (match pureVal P (underlying t) with
    | some .string => .need (0 ≤ z ∧ z < s.size) (.leaf (.v (.int .u8 (byteAt s z))))
    | _ => .stuck 21)
  | some (.agg cs), some (.int _ z) => bif isConc V ix then evalPure P V o else (match pureVal P (underlying t) with
    | some (.array m e) => (match shapeT P 9 e, pureVal P (sizeOf e), pureVal P (isAgg e) with
      | some [K], some 1, some false => .need (0 ≤ z ∧ z < m) (.need (cellIs cs z.toNat K) (.leaf (.v (K.mk (cellOf cs z.toNat)))))
      | _, _, _ => .stuck 150)
    | _ => .stuck 151)
  | _, _ => evalPure P V o
def intO (V : View) (d : Int) : Option Operand → Option Int
  | none => some d
  | some x => match V.pv x with | some (.int _ z) => some z | _ => none
def evalSlice (V : View) (o : Oper) (t : TypeId) (x : Operand) (lo hi : Option Operand) : T SV :=
  match V.pv x with
  | some (.string s) => (match pureVal P (underlying t), intO V 0 lo, intO V s.size hi with
    | some .string, some l, some h => .need (0 ≤ l ∧ l ≤ h ∧ h ≤ s.size) (.leaf (.v (.string (s.extract l.toNat h.toNat))))
    | _, _, _ => .stuck 22)
  | _ => evalPure P V o
mutual
/-- whether two values without letters are the same -/
def eqV : Nat → TypeId → Value → Value → Option Bool
  | 0, _, _, _ => none
  | d + 1, t, x, y => match P.underlying t, x, y with
    | some .bool, .bool a, .bool b => some (a == b)
    | some (.int _), .int k a, .int k' b => bif decide (k = k') then some (a == b) else none
    | some .string, .string a, .string b => some (decide (a = b))
    | some (.struct fs), .agg xs, .agg ys => bif P.stoodInHeld t then none else eqFs d xs ys fs.toList
    | _, _, _ => none
def eqFs : Nat → Array Value → Array Value → List Field → Option Bool
  | _, _, _, [] => some true
  | 0, _, _, _ :: _ => none
  | d + 1, xs, ys, f :: fs => bif f.name == "_" then none else
    match pureVal P (part f.type xs f.offset), pureVal P (part f.type ys f.offset) with
    | some a, some b => (match eqV d f.type a b, eqFs d xs ys fs with
      | some e, some r => some (e && r)
      | _, _ => none)
    | _, _ => none
end
def evalEq (V : View) (o : Oper) (neg : Bool) (t : TypeId) (x y : Operand) : T SV :=
  match V.val x, V.pv y with
  | some (.ptr _ _), some (.pointer none) => (match P.underlying t with
    | some (.pointer _) => .leaf (bif neg then .tt else .ff)
    | _ => .stuck 100)
  | some (.elt _ _ _ _), some (.pointer none) => (match P.underlying t with
    | some (.pointer _) => .leaf (bif neg then .tt else .ff)
    | _ => .stuck 101)
  | some s, some (.agg ys) => (match s.plain with
    | some (.agg xs) => bif P.eqGuardType P.depth t then .stuck 102 else (match eqV P 60 t (.agg xs) (.agg ys) with
      | some b => .leaf (.v (.bool (bif neg then !b else b)))
      | none => .stuck 103)
    | _ => .stuck 104)
  | _, _ => evalPure P V o
def evalBin (V : View) (o : Oper) (op : BinOp) (t : TypeId) (x y : Operand) : T SV :=
  match op, V.pv x, V.pv y with
  | .add, some (.string a), some (.string b) => .need (a.size + b.size ≤ 9223372036854775807) (.leaf (.v (.string (a ++ b))))
  | .eql, some (.string a), some (.string b) => .leaf (.v (.bool (decide (a = b))))
  | .neq, some (.string a), some (.string b) => .leaf (.v (.bool (!decide (a = b))))
  | .eql, _, _ => evalEq P V o false t x y
  | .neq, _, _ => evalEq P V o true t x y
  | _, _, _ => evalPure P V o
def builtS (h : Nat → Option Blk) (t : TypeId) (parts : List (Nat × SV)) : Option (List SV) :=
  match P.info? t, P.underlying t with
  | some it, some (.array _ e) => (match it.zero, P.info? e with
    | some z, some ie => fillS h (fun i => some (i * ie.size, ie.size)) (z.cells.toList.map .c) parts
    | _, _ => none)
  | some it, some (.struct fields) => (match it.zero, fields.toList.mapM (fun f => (P.info? f.type).map fun i => (f.offset, i.size)) with
    | some z, some places => fillS h (places.toArray[·]?) (z.cells.toList.map .c) parts
    | _, _ => none)
  | _, _ => none
def evalBuildS (V : View) (t : TypeId) (parts : Array (Nat × Operand)) : T SV :=
  match vals V (parts.toList.map (·.2)) with
  | some ss => (match builtS P V.see t ((parts.toList.map (·.1)).zip ss) with
    | some l => .leaf (mkAgg l)
    | none => .stuck 110)
  | none => .stuck 111
def isPtr : TypeDesc → Bool
  | .pointer _ => true
  | _ => false
/-! maps of texts to numbers -/
def mKey (s : ByteArray) : Lit := .string s.data.toList
def mNum : DataW Unit → Int | .lit (.int _ a) => a | _ => 0
def mGet (D : DataW Unit) (s : ByteArray) : Int := mNum (D.atKey (mKey s) (.lit (.int .i64 0)))
def mHas (D : DataW Unit) (s : ByteArray) : Bool := Maps.has D (mKey s)
def mPut (D : DataW Unit) (s : ByteArray) (z : Int) : DataW Unit := D.put (mKey s) (.lit (.int .i64 z))
def mDel (D : DataW Unit) (s : ByteArray) : DataW Unit := D.del (mKey s)
def mSize (D : DataW Unit) : Nat := Maps.size D
/-- a type of maps of texts to numbers -/
def isStrMap (t k e : TypeId) : Bool := match P.underlying t, P.underlying k, P.underlying e, pureVal P (zeroValue e) with
  | some (.map k' e'), some .string, some (.int .i64), some (.int .i64 0) => Nat.beq k' k && Nat.beq e' e
  | _, _, _, _ => false
def evalLook (V : View) (o : Oper) (t : TypeId) (x ix : Operand) (ok : Bool) : T SV :=
  match V.val x, V.pv ix with
  | some (.ref k), some (.string s) => (match V.see k with
    | some (.ext (.smap P' K E D)) => bif isStrMap P t K E then .need (P' = P) (.need (s.size ≤ maxLen) (bif ok then .leaf (.tup [.v (.int .i64 (mGet D s)), .v (.bool (mHas D s))]) else .leaf (.v (.int .i64 (mGet D s))))) else .stuck 180
    | _ => .stuck 181)
  | _, _ => evalPure P V o
/-- the method of an interface value -/
def methodOf (t : TypeId) (name : String) : Option FuncId :=
  match P.info? t with
  | some i => (match i.methods.find? (·.name == name), P.underlying t with
    | some m, some d => (match m.func with
      | some (f, ptr) => bif m.path.isEmpty && (bif isPtr d then ptr else !ptr) then some f else none
      | none => none)
    | _, _ => none)
  | none => none
/-- the function that is called, and with what -/
def target (V : View) (c : Call) : Option (FuncId × List SV) :=
  match vals V c.args.toList with
  | some ss => (match c.callee with
    | .value (.func f) => some (f, ss)
    | .value x => (match V.val x with
      | some (.clo (.func f) a b) => some (f, a ++ ss ++ b)
      | some (.v (.func (.func f) a b)) => some (f, a.toList.map .v ++ ss ++ b.toList.map .v)
      | some (.c (.func (.func f) a b)) => some (f, a.toList.map .c ++ ss ++ b.toList.map .c)
      | _ => none)
    | .invoke r name => (match V.val r with
      | some (.ifc t s) => (methodOf P t name).map fun f => (f, s :: ss)
      | some (.v (.iface t v)) => (methodOf P t name).map fun f => (f, .v v :: ss)
      | some (.c (.iface t v)) => (methodOf P t name).map fun f => (f, .c v :: ss)
      | _ => none)
    | .builtin _ => none)
  | none => none
def isBuiltin (c : Call) : Bool := match c.callee with | .builtin _ => true | _ => false
def evalCall (V : View) (o : Oper) (c : Call) : T SV :=
  bif !isBuiltin c then (match target P V c with
    | some (f, ss) => (match plains ss with
      | some xs => (match S f xs with
        | some t => t.bind fun v => .leaf (.v v)
        | none => .stuck (1000 + f))
      | none => .stuck (2000 + f))
    | none => .stuck 24) else
  match c.callee with
  | .builtin .len => (match vals V c.args.toList with
    | some [.ref k] => (match V.see k, c.argTypes[0]? with
      | some (.row n _ _), some t => (match pureVal P (underlying t) with
        | some (.slice _) => .leaf (.v (.int .i64 n))
        | _ => .stuck 25)
      | some (.vec _ _ _ n _), some t => (match pureVal P (underlying t) with
        | some (.slice _) => .leaf (.v (.int .i64 n))
        | _ => .stuck 65)
      | some (.lst _ _ n _), some t => (match pureVal P (underlying t) with
        | some (.slice _) => .leaf (.c (.int .i64 n))
        | _ => .stuck 174)
      | some (.ext (.smap P' K E D)), some t => bif isStrMap P t K E then .need (P' = P) (.leaf (.v (.int .i64 (mSize D)))) else .stuck 182
      | _, _ => .stuck 26)
    | _ => evalPure P V o)
  | _ => evalPure P V o
/-- a part of a struct that holds letters -/
def evalFld (V : View) (o : Oper) (t : TypeId) (x : Operand) (i : Nat) : T SV :=
  match V.val x with
  | some (.agg l) => (match pureVal P (underlying t) with
    | some (.struct fields) => (match fields[i]? with
      | some f => (match pureVal P (isAgg f.type), pureVal P (sizeOf f.type) with
        | some true, some n => .leaf (mkAgg ((l.drop f.offset).take n))
        | some false, some _ => leafO 170 l[f.offset]?
        | _, _ => .stuck 171)
      | none => .stuck 172)
    | _ => .stuck 173)
  | _ => evalPure P V o
/-- what an interface holds -/
def ifcOf : SV → Option (TypeId × SV)
  | .ifc t s => some (t, s)
  | .v (.iface t v) => some (t, .v v)
  | .c (.iface t v) => some (t, .c v)
  | _ => none
theorem ifcOf_to {B : List Value} {s s' : SV} {t : TypeId} {x : Value} (h : ifcOf s = some (t, s')) (hs : s.to B = some x) : ∃ v, s'.to B = some v ∧ Value.iface t v = x := by
  unfold ifcOf at h
  split at h
  · simp only [Option.some.injEq, Prod.mk.injEq] at h
    obtain ⟨rfl, rfl⟩ := h
    simp only [SV.to, Option.map_eq_some_iff] at hs
    exact hs
  · simp only [Option.some.injEq, Prod.mk.injEq] at h
    obtain ⟨rfl, rfl⟩ := h
    simp only [SV.to, Option.some.injEq] at hs
    exact ⟨_, rfl, hs⟩
  · simp only [Option.some.injEq, Prod.mk.injEq] at h
    obtain ⟨rfl, rfl⟩ := h
    simp only [SV.to, Option.some.injEq] at hs
    exact ⟨_, rfl, hs⟩
  · cases h
/-- operations that leave memory as it is -/
def evalQ (V : View) (o : Oper) : T SV :=
  match o.op with
  | .move x | .assign x => leafO 4 (V.val x)
  | .unOp .not _ x => match V.val x with
    | some .tt => .leaf .ff
    | some .ff => .leaf .tt
    | _ => evalPure P V o
  | .pick c x y => match V.val c with
    | some .tt => leafO 4 (V.val x)
    | some .ff => leafO 4 (V.val y)
    | some (.v (.bool b)) => .ite b (leafO 4 (V.val x)) (leafO 4 (V.val y))
    | _ => .stuck 27
  | .load t x => evalLoad P V t x
  | .fieldAddr t x i => evalField P V o t x i
  | .field t x i => evalFld P V o t x i
  | .indexAddr t x ix => evalIndexAddr P V o t x ix
  | .nilCheck x => match V.val x with
    | some (.ptr k off) => .leaf (.ptr k off)
    | some (.elt k sz i off) => .leaf (.elt k sz i off)
    | some (.clo (.func f) a b) => .leaf (.clo (.func f) a b)
    | _ => evalPure P V o
  | .index t x ix => evalIndex P V o t x ix
  | .slice t x lo hi none => evalSlice P V o t x lo hi
  | .binOp op t x y _ => evalBin P V o op t x y
  | .extract x i => match V.val x with
    | some (.tup l) => leafO 28 l[i]?
    | _ => evalPure P V o
  | .call c => evalCall P S V o c
  | .build t parts => evalBuildS P V t parts
  | .makeFunc fn first captured => match vals V first.toList, vals V captured.toList with
    | some a, some b => (match plains a, plains b with
      | some xs, some ys => .leaf (.v (.func fn xs.toArray ys.toArray))
      | _, _ => .leaf (.clo fn a b))
    | _, _ => .stuck 140
  | .makeInterface t x => match V.val x with
    | some s => (match s.plain with
      | some _ => evalPure P V o
      | none => (match P.underlying t with
        | some (.interface _) => .stuck 141
        | some _ => .leaf (.ifc t s)
        | none => .stuck 142))
    | none => .stuck 143
  | .typeAssert x _ u ok => match (V.val x).bind ifcOf with
    | some (t, s) => (match P.underlying u with
      | some (.interface _) => .stuck 144
      | some _ => bif Nat.beq t u then (bif ok then .leaf (.tup [s, .tt]) else .leaf s) else (bif ok then (match pureVal P (zeroValue u) with | some z => .leaf (.tup [.c z, .ff]) | none => .stuck 145) else .stuck 146)
      | none => .stuck 147)
    | _ => evalPure P V o
  | .lookup t x ix ok => evalLook P V o t x ix ok
  | _ => evalPure P V o
end

section
variable {P : Program} {S : Tab} {N : Nat} {w0 : World} {bs : List Nat}

theorem quietAt_value {o : Oper} {a : Act} {C : World → Prop} {w : World} {x : Value} (h : (execOp a.eval o).run P w = .ok (.value x) w) : o.quietAt P a C w x := by
  unfold Oper.quietAt; rw [h]; exact ⟨rfl, rfl⟩
/-- what is shown of an operation that leaves memory as it is -/
def QuietRes (P : Program) (w0 : World) (bs : List Nat) (H : List Blk) (B : List Value) (a : Act) (o : Oper) (s : SV) : Prop :=
  ∃ x, s.to B = some x ∧ ∀ w, Mem w0 bs H B w → o.quietAt P a (Mem w0 bs H B) w x
theorem QuietRes.of {H : List Blk} {B : List Value} {a : Act} {o : Oper} {s : SV} {x : Value} (h1 : s.to B = some x) (h2 : ∀ w, Mem w0 bs H B w → (execOp a.eval o).run P w = .ok (.value x) w) : QuietRes P w0 bs H B a o s :=
  ⟨x, h1, fun w hw => quietAt_value (h2 w hw)⟩
theorem rho_eq {V : View} {H : List Blk} {B : List Value} {a : Act} (h : Vw V H B a) {x : Operand} (hx : isPlain V x = true) : a.eval x = V.rho x := by
  unfold isPlain at hx
  unfold View.rho
  split at hx
  · rename_i y hy
    exact h.pv hy
  · cases hx
theorem evalPure_ok {V : View} {H : List Blk} {B : List Value} {a : Act} (h : Vw V H B a) {o : Oper} {Qs : SV → Prop} (hq : (evalPure P V o).ok Qs) : ∃ s, Qs s ∧ QuietRes P w0 bs H B a o s := by
  unfold evalPure at hq
  have key : (∀ cs b, o.op ≠ .select cs b) → (bif o.op.operands.toList.all (isPlain V) then (match pureVal P (execOp V.rho o) with | some (.value v) => (bif o.op.operands.toList.all (isConc V) then (match v with | .bool true => .leaf .tt | .bool false => .leaf .ff | v => .leaf (.c v)) else .leaf (.v v)) | _ => .stuck 2) else .stuck 3 : T SV).ok Qs → ∃ s, Qs s ∧ QuietRes P w0 bs H B a o s := by
    intro hs hq
    cases hp : o.op.operands.toList.all (isPlain V)
    · rw [hp] at hq; exact hq.elim
    · rw [hp, cond_true] at hq
      have he : execOp a.eval o = execOp V.rho o := execOp_congr o hs fun x hx => rho_eq h (by rw [List.all_eq_true] at hp; exact hp x (by simpa using hx))
      split at hq
      · rename_i v hv
        have hr : ∀ w, (execOp a.eval o).run P w = .ok (.value v) w := fun w => by rw [he]; exact pureVal_run hv w
        cases hcc : o.op.operands.toList.all (isConc V)
        · rw [hcc, cond_false] at hq
          exact ⟨_, hq, .of (x := v) rfl fun w _ => hr w⟩
        · rw [hcc, cond_true] at hq
          split at hq <;> exact ⟨_, hq, .of rfl fun w _ => hr w⟩
      · exact hq.elim
  split at hq
  · exact hq.elim
  · rename_i hns
    exact key (fun cs b e => hns cs b e) hq
theorem leafO_ok {n : Nat} {x : Option SV} {Qs : SV → Prop} (h : (leafO n x).ok Qs) : ∃ s, x = some s ∧ Qs s := by
  cases x with
  | none => exact h.elim
  | some s => exact ⟨s, rfl, h⟩
theorem run_isAgg_bind {α : Type} {t : TypeId} {b : Bool} (h : pureVal P (isAgg t) = some b) (f : Bool → Sem α) (w : World) : (isAgg t >>= f).run P w = (f b).run P w := run_bind_pure h f w
theorem run_v {s : Sem Value} {x : Value} {w w' : World} (h : s.run P w = .ok x w') : (do pure (Next.value (← s)) : Sem Next).run P w = .ok (.value x) w' := by
  have := Sem.run_bind' P s (fun x => Sem.pure (Next.value x)) w
  rw [h] at this
  exact this
theorem run_bind_ok {α β : Type} {s : Sem α} {x : α} {w w' : World} (h : s.run P w = .ok x w') (f : α → Sem β) : (s >>= f).run P w = (f x).run P w' := by
  have := Sem.run_bind' P s f w
  rw [h] at this
  exact this
theorem addr_add_add (a : Addr) (m n : Nat) : (a.add m).add n = a.add (m + n) := by
  unfold Addr.add
  by_cases h1 : m = 0
  · subst h1; simp
  · by_cases h2 : n = 0
    · subst h2; simp [h1]
    · have h3 : m + n ≠ 0 := by omega
      simp [h1, h2, Nat.add_assoc]
theorem loadVar_one {t : TypeId} {w : World} {p : Addr} {u : Value} (hag : pureVal P (isAgg t) = some false) (hc : w.cell? p = some u) : (loadVar t p).run P w = .ok u w := by
  unfold loadVar
  rw [run_bind_pure hag]
  simp only [Bool.false_eq_true, if_false]
  show (Sem.load .plain p .pure).run P w = _
  simp only [Sem.run, hc]
theorem loadVar_agg {t : TypeId} {n : Nat} {w : World} {p : Addr} {us : List Value} (hag : pureVal P (isAgg t) = some true) (hn : pureVal P (sizeOf t) = some n) (hl : us.length = n) (hc : ∀ j v, us[j]? = some v → w.cell? (p.add j) = some v) :
    (loadVar t p).run P w = .ok (.agg us.toArray) w := by
  unfold loadVar
  rw [run_bind_pure hag]
  simp only [if_true]
  have := run_loadCells_list (P := P) (w := w) p us hc
  rw [hl] at this
  rw [run_bind_pure hn, run_bind_ok this]
  rfl
theorem load_exec {a : Act} {o : Oper} {t : TypeId} {x : Operand} (ho : o.op = .load t x) {w : World} {p : Addr} {u : Value} (e : a.eval x = .pointer (some p)) (hr : (loadVar t p).run P w = .ok u w) : (execOp a.eval o).run P w = .ok (.value u) w := by
  have hex : execOp a.eval o = (do pure (Next.value (← Instr.loadAt t (a.eval x))) : Sem Next) := by unfold execOp; rw [ho]
  rw [hex]
  refine run_v ?_
  unfold Instr.loadAt
  rw [e]
  exact hr
theorem add_off (b off j : Nat) : (⟨b, off, none⟩ : Addr).add j = ⟨b, off + j, none⟩ := by unfold Addr.add; split <;> simp_all
/-- the elements of a slice that is read, be it one's own or another's -/
theorem elt_cells {H : List Blk} {B : List Value} {k : Nat} {x : Blk} {m sz : Nat} (hk : H[k]? = some x) {g : Nat → Option Value} {i : Nat} (hi : i < m)
    (hx : (∃ f, x = .row m sz f ∧ ∀ j, j < sz → g j = some (f i j)) ∨ (∃ o e xs, x = .vec o e sz m xs ∧ ∀ j, j < sz → g j = xs[i * sz + j]?)) {w1 : World} (h1 : Mem w0 bs H B w1) (hsz : 0 < sz) :
    ∃ p cap, B[k]? = some (.slice (some p) m cap) ∧ ∀ w, Mem w0 bs H B w → ∀ j v, j < sz → g j = some v → w.cell? (p.add (i * sz + j)) = some v := by
  rcases hx with ⟨f, rfl, hg⟩ | ⟨o', e, xs, rfl, hg⟩
  · obtain ⟨p, cap, g1, -, -, g2⟩ := h1.row_at hk
    obtain ⟨a0, rfl, -⟩ := g2 i 0 hi hsz
    refine ⟨a0, cap, g1, fun w hw j v hj hv => ?_⟩
    obtain ⟨p', cap', g1', -, -, g2'⟩ := hw.row_at hk
    rw [g1] at g1'
    simp only [Option.some.injEq, Value.slice.injEq] at g1'
    obtain ⟨a1, e1, e2⟩ := g2' i j hi hj
    rw [← g1'.1] at e1
    simp only [Option.some.injEq] at e1
    subst e1
    rw [hg j hj] at hv
    simp only [Option.some.injEq] at hv
    rw [e2, hv]
  · obtain ⟨u, hu⟩ := h1.sat.getB hk
    have hs : VecSat w1 e sz u m xs := h1.sat.blk k _ u hk hu
    rcases hs.view.2 with ⟨-, hm⟩ | ⟨b, cap, rfl, -⟩
    · omega
    · refine ⟨⟨b, 0, none⟩, cap, hu, fun w hw j v hj hv => ?_⟩
      have hs' : VecSat w e sz (.slice (some ⟨b, 0, none⟩) m cap) m xs := hw.sat.blk k _ _ hk hu
      rw [add_off, Nat.zero_add]
      rw [hg j hj] at hv
      rcases hs'.view.2 with ⟨e0, -⟩ | ⟨b', cap', e0, -, -, -, hcs⟩
      · cases e0
      simp only [Value.slice.injEq, Option.some.injEq, Addr.mk.injEq] at e0
      obtain ⟨⟨rfl, -⟩, -⟩ := e0
      rw [(hcs (i * sz + j) ?_).1, hv]
      calc i * sz + j < i * sz + sz := by omega
        _ = (i + 1) * sz := by rw [Nat.add_mul, Nat.one_mul]
        _ ≤ m * sz := Nat.mul_le_mul_right _ hi
/-- the elements of a slice whose cells are listed -/
theorem lst_cells {H : List Blk} {B : List Value} {k : Nat} {e : TypeId} {m sz : Nat} {cells : List SV} (hk : H[k]? = some (.lst e sz m cells)) {i : Nat} (hi : i < m) {w1 : World} (h1 : Mem w0 bs H B w1) (hsz : 0 < sz) :
    ∃ p cap xs, B[k]? = some (.slice (some p) m cap) ∧ SV.tos B cells = some xs ∧ xs.length = m * sz ∧ ∀ w, Mem w0 bs H B w → ∀ j, j < sz → w.cell? (p.add (i * sz + j)) = xs[i * sz + j]? := by
  obtain ⟨u, hu⟩ := h1.sat.getB hk
  obtain ⟨xs, hx, hs⟩ := h1.sat.blk k _ u hk hu
  rcases hs.view.2 with ⟨-, hm⟩ | ⟨b, cap, rfl, -⟩
  · omega
  · refine ⟨⟨b, 0, none⟩, cap, xs, hu, hx, hs.view.1, fun w hw j hj => ?_⟩
    obtain ⟨xs', hx', hs'⟩ := hw.sat.blk k _ _ hk hu
    rw [hx, Option.some.injEq] at hx'
    subst hx'
    rw [add_off, Nat.zero_add]
    rcases hs'.view.2 with ⟨e0, -⟩ | ⟨b', cap', e0, -, -, -, hcs⟩
    · cases e0
    simp only [Value.slice.injEq, Option.some.injEq, Addr.mk.injEq] at e0
    obtain ⟨⟨rfl, -⟩, -⟩ := e0
    refine (hcs (i * sz + j) ?_).1
    calc i * sz + j < i * sz + sz := by omega
      _ = (i + 1) * sz := by rw [Nat.add_mul, Nat.one_mul]
      _ ≤ m * sz := Nat.mul_le_mul_right _ hi
theorem evalLoad_ok {V : View} {H : List Blk} {B : List Value} {a : Act} (h : Vw V H B a) {w1 : World} (hm : Mem w0 bs H B w1) {o : Oper} {t : TypeId} {x : Operand} (ho : o.op = .load t x) {Qs : SV → Prop} (hq : (evalLoad P V t x).ok Qs) : ∃ s, Qs s ∧ QuietRes P w0 bs H B a o s := by
  unfold evalLoad at hq
  split at hq
  case h_2 => exact hq.elim
  rename_i ag n hag hn
  split at hq
  · rename_i k off hx
    have hv := h.val hx
    split at hq
    · rename_i cells hk
      have hk := h.see hk
      obtain ⟨b, vs, g1, g2, g3⟩ := hm.own_at hk
      simp only [SV.to, g1, Option.some.injEq] at hv
      have hall : ∀ w, Mem w0 bs H B w → ∀ j, w.cell? ⟨b, j, none⟩ = vs.toArray[j]? := by
        intro w hw
        obtain ⟨b', vs', g1', g2', g3'⟩ := hw.own_at hk
        rw [g1] at g1'
        rw [g2] at g2'
        simp only [Option.some.injEq, Value.pointer.injEq, Addr.mk.injEq] at g1' g2'
        obtain ⟨rfl, -⟩ := g1'
        subst g2'
        exact g3'.2.1
      cases hb : Nat.ble (off + n) cells.length
      · rw [hb] at hq; exact hq.elim
      · rw [hb, cond_true] at hq
        have hle : off + n ≤ cells.length := Nat.le_of_ble_eq_true hb
        have hlen := tos_length g2
        cases hag' : ag
        · rw [hag', cond_false] at hq
          obtain ⟨s, hs, hqs⟩ := leafO_ok hq
          obtain ⟨u, hu1, hu2⟩ := tos_get g2 hs
          refine ⟨s, hqs, .of hu2 fun w hw => load_exec ho hv.symm (loadVar_one (hag' ▸ hag) ?_)⟩
          rw [hall w hw off]; simpa using hu1
        · rw [hag', cond_true] at hq
          refine ⟨_, hq, .of (x := .agg ((vs.drop off).take n).toArray) (mkAgg_to (tos_take (tos_drop g2 off) n)) fun w hw => load_exec ho hv.symm (loadVar_agg (hag' ▸ hag) hn (by simp; omega) fun j v hj => ?_)⟩
          rw [add_off, hall w hw]
          rw [List.getElem?_take] at hj
          split at hj
          · simpa using hj
          · cases hj
    · rename_i kind m g hk
      have hk := h.see hk
      obtain ⟨u, hu⟩ := hm.sat.getB hk
      obtain ⟨b, rfl, -⟩ := hm.sat.blk k _ u hk hu
      simp only [SV.to, hu, Option.some.injEq] at hv
      have hall : ∀ w, Mem w0 bs H B w → ∀ j, w.cell? ⟨b, j, none⟩ = (arrCells kind m g)[j]? := by
        intro w hw
        obtain ⟨b', e, g3⟩ := hw.sat.blk k _ _ hk hu
        simp only [Value.pointer.injEq, Option.some.injEq, Addr.mk.injEq] at e
        obtain ⟨rfl, -⟩ := e
        exact g3.2.1
      cases hag' : ag
      · rw [hag', cond_false] at hq
        obtain ⟨hlt, hq⟩ := hq
        refine ⟨_, hq, .of rfl fun w hw => load_exec ho hv.symm (loadVar_one (hag' ▸ hag) ?_)⟩
        rw [hall w hw off]
        simp [arrCells, hlt]
      · rw [hag', cond_true] at hq
        cases hb : Nat.beq off 0 && Nat.beq n m
        · rw [hb] at hq; exact hq.elim
        · rw [hb, cond_true] at hq
          simp only [Bool.and_eq_true] at hb
          obtain rfl : off = 0 := Nat.eq_of_beq_eq_true hb.1
          obtain rfl : n = m := Nat.eq_of_beq_eq_true hb.2
          have e : arrCells kind n g = ((arrCells kind n g).toList).toArray := by simp
          refine ⟨_, hq, .of (x := .agg (arrCells kind n g)) rfl fun w hw => ?_⟩
          rw [e]
          refine load_exec ho hv.symm (loadVar_agg (hag' ▸ hag) hn (by simp [arrCells]) fun j v hj => ?_)
          rw [add_off, Nat.zero_add, hall w hw]
          simpa using hj
    · exact hq.elim
  · rename_i k sz i off hx
    have hv := h.val hx
    have fin : ∀ (xb : Blk) (m : Nat) (g : Nat → Option Value), H[k]? = some xb → i < m → ((∃ f, xb = .row m sz f ∧ ∀ j, j < sz → g j = some (f i j)) ∨ (∃ o e xs, xb = .vec o e sz m xs ∧ ∀ j, j < sz → g j = xs[i * sz + j]?)) →
        off + n ≤ sz → 1 ≤ n → (ag = false → ∀ v, g off = some v → QuietRes P w0 bs H B a o (.v v)) ∧ (ag = true → ∀ us : List Value, us.length = n → (∀ j v, us[j]? = some v → g (off + j) = some v) → QuietRes P w0 bs H B a o (.v (.agg us.toArray))) := by
      intro xb m g hk hi hxb hle h1n
      obtain ⟨p, cap, g1, g2⟩ := elt_cells hk hi hxb hm (by omega)
      simp only [SV.to, g1, Option.some.injEq] at hv
      refine ⟨fun hag' v hgv => .of rfl fun w hw => load_exec ho hv.symm (loadVar_one (hag' ▸ hag) (g2 w hw off v (by omega) hgv)), fun hag' us hl hus => .of rfl fun w hw => load_exec ho hv.symm (loadVar_agg (hag' ▸ hag) hn hl fun j v hj => ?_)⟩
      rw [addr_add_add, Nat.add_assoc]
      have hjl := (List.getElem?_eq_some_iff.1 hj).1
      exact g2 w hw (off + j) v (by omega) (hus j v hj)
    split at hq
    · rename_i m sz' f hk
      have hk := h.see hk
      cases hb : (Nat.beq sz sz' && Nat.ble (off + n) sz && Nat.ble 1 n)
      · rw [hb] at hq; exact hq.elim
      · rw [hb, cond_true] at hq
        simp only [Bool.and_eq_true] at hb
        obtain ⟨⟨hb1, hb2⟩, hb3⟩ := hb
        obtain rfl : sz = sz' := Nat.eq_of_beq_eq_true hb1
        have hle := Nat.le_of_ble_eq_true hb2
        have h1n := Nat.le_of_ble_eq_true hb3
        obtain ⟨him, hq⟩ := hq
        obtain ⟨f1, f2⟩ := fin _ m (fun j => some (f i j)) hk him (.inl ⟨f, rfl, fun _ _ => rfl⟩) hle h1n
        cases hag' : ag
        · rw [hag', cond_false] at hq
          exact ⟨_, hq, f1 hag' _ rfl⟩
        · rw [hag', cond_true] at hq
          refine ⟨_, hq, f2 hag' _ (by simp) fun j v hj => ?_⟩
          rw [List.getElem?_map] at hj
          rcases Nat.lt_or_ge j n with hjn | hjn
          · rw [List.getElem?_range' hjn] at hj
            simp only [Nat.one_mul, Option.map_some, Option.some.injEq] at hj
            rw [hj]
          · rw [List.getElem?_eq_none (by simpa using hjn)] at hj; cases hj
    · rename_i o' e sz' m xs hk
      have hk := h.see hk
      cases hb : (Nat.beq sz sz' && Nat.ble (off + n) sz && Nat.ble 1 n)
      · rw [hb] at hq; exact hq.elim
      · rw [hb, cond_true] at hq
        simp only [Bool.and_eq_true] at hb
        obtain ⟨⟨hb1, hb2⟩, hb3⟩ := hb
        obtain rfl : sz = sz' := Nat.eq_of_beq_eq_true hb1
        have hle := Nat.le_of_ble_eq_true hb2
        have h1n := Nat.le_of_ble_eq_true hb3
        obtain ⟨him, hq⟩ := hq
        obtain ⟨f1, f2⟩ := fin _ m (fun j => xs[i * sz + j]?) hk him (.inr ⟨o', e, xs, rfl, fun _ _ => rfl⟩) hle h1n
        split at hq
        · rename_i sh hsh
          cases hb4 : Nat.beq sh.length n
          · rw [hb4] at hq; exact hq.elim
          · rw [hb4, cond_true] at hq
            obtain rfl : sh.length = n := Nat.eq_of_beq_eq_true hb4
            obtain ⟨heq, hq⟩ := hq
            have hcell : ∀ j v, (shMk xs (i * sz + off) sh)[j]? = some v → xs[i * sz + (off + j)]? = some v := by
              intro j v hj
              rw [← heq, List.getElem?_take] at hj
              split at hj
              · rw [List.getElem?_drop] at hj
                rw [← hj]; congr 1; omega
              · cases hj
            cases hag' : ag
            · rw [hag', cond_false] at hq
              obtain ⟨s, hs, hqs⟩ := leafO_ok hq
              simp only [Option.map_eq_some_iff] at hs
              obtain ⟨v, hv1, rfl⟩ := hs
              exact ⟨_, hqs, f1 hag' v (hcell 0 v hv1)⟩
            · rw [hag', cond_true] at hq
              exact ⟨_, hq, f2 hag' _ (shMk_length _ _ _) hcell⟩
        · cases hag' : ag
          · rw [hag', cond_false] at hq
            split at hq
            · rename_i x hx'
              exact ⟨_, hq, f1 hag' _ hx'⟩
            · exact hq.elim
          · rw [hag', cond_true] at hq
            obtain ⟨u, hu⟩ := hm.sat.getB hk
            have hs : VecSat w1 e sz u m xs := hm.sat.blk k _ u hk hu
            have hlen : i * sz + off + n ≤ xs.length := by
              rw [hs.view.1]
              calc i * sz + off + n ≤ i * sz + sz := by omega
                _ = (i + 1) * sz := by rw [Nat.add_mul, Nat.one_mul]
                _ ≤ m * sz := Nat.mul_le_mul_right _ him
            refine ⟨_, hq, f2 hag' _ (by simp; omega) fun j v hj => ?_⟩
            rw [List.getElem?_take] at hj
            split at hj
            · rw [List.getElem?_drop] at hj
              rw [← hj]; congr 1; omega
            · cases hj
    · rename_i e sz' m cells hk
      have hk := h.see hk
      cases hb : (Nat.beq sz sz' && Nat.ble (off + n) sz && Nat.ble 1 n && Nat.blt i m)
      · rw [hb] at hq; exact hq.elim
      · rw [hb, cond_true] at hq
        simp only [Bool.and_eq_true] at hb
        obtain ⟨⟨⟨hb1, hb2⟩, hb3⟩, hb4⟩ := hb
        obtain rfl : sz = sz' := Nat.eq_of_beq_eq_true hb1
        have hle := Nat.le_of_ble_eq_true hb2
        have h1n := Nat.le_of_ble_eq_true hb3
        have him : i < m := Nat.le_of_ble_eq_true hb4
        obtain ⟨p, cap, xs, g1, g2, g3, g4⟩ := lst_cells hk him hm (by omega)
        simp only [SV.to, g1, Option.some.injEq] at hv
        have hlen : i * sz + off + n ≤ xs.length := by
          rw [g3]
          calc i * sz + off + n ≤ i * sz + sz := by omega
            _ = (i + 1) * sz := by rw [Nat.add_mul, Nat.one_mul]
            _ ≤ m * sz := Nat.mul_le_mul_right _ him
        cases hag' : ag
        · rw [hag', cond_false] at hq
          obtain ⟨s, hs, hqs⟩ := leafO_ok hq
          obtain ⟨u, hu1, hu2⟩ := tos_get g2 hs
          exact ⟨s, hqs, .of hu2 fun w hw => load_exec ho hv.symm (loadVar_one (hag' ▸ hag) ((g4 w hw off (by omega)).trans hu1))⟩
        · rw [hag', cond_true] at hq
          refine ⟨_, hq, .of (x := .agg ((xs.drop (i * sz + off)).take n).toArray) (mkAgg_to (tos_take (tos_drop g2 _) n)) fun w hw => load_exec ho hv.symm (loadVar_agg (hag' ▸ hag) hn (by simp; omega) fun j v hj => ?_)⟩
          rw [List.getElem?_take] at hj
          split at hj
          · rename_i hjn
            rw [List.getElem?_drop] at hj
            rw [addr_add_add, Nat.add_assoc, g4 w hw (off + j) (by omega), ← hj]
            congr 1; omega
          · cases hj
    · exact hq.elim
  · exact hq.elim
end
end Go.Proofs.Ytodfcalaggfldaa.Sym
