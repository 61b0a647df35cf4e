/- A symbolic evaluator for Go functions, and that it is right: what it computes of a body holds of each run. No conditions. -/
import Derived.Test.YtapogkodlempkaaBase
import Derived.Deep.Quiet
import Derived.OrdersHeld
namespace Go.Proofs.Ytapogkodlempkaa.Sym
set_option linter.unusedVariables false
set_option linter.unusedSimpArgs false
open Go.RowKit

/-! ### Computations that ask neither memory nor the tape -/
def pureVal {α : Type} (P : Program) : Sem α → Option α
  | .pure a => some a
  | .program k => pureVal P (k P)
  | .mark _ k => pureVal P k
  | _ => none
theorem pureVal_run {α : Type} {P : Program} : ∀ {s : Sem α} {a : α}, pureVal P s = some a → ∀ w, s.run P w = .ok a w
  | .pure _, _, h, w => by simp only [pureVal, Option.some.injEq] at h; subst h; rfl
  | .program k, _, h, w => by simp only [pureVal] at h; exact pureVal_run (s := k P) h w
  | .mark _ k, _, h, w => by simp only [pureVal] at h; exact pureVal_run (s := k) h w
  | .load .., _, h, _ => by simp [pureVal] at h
  | .store .., _, h, _ => by simp [pureVal] at h
  | .new .., _, h, _ => by simp [pureVal] at h
  | .shape .., _, h, _ => by simp [pureVal] at h
  | .freeze .., _, h, _ => by simp [pureVal] at h
  | .frozen .., _, h, _ => by simp [pureVal] at h
  | .getObj .., _, h, _ => by simp [pureVal] at h
  | .setObj .., _, h, _ => by simp [pureVal] at h
  | .choose .., _, h, _ => by simp [pureVal] at h
  | .sys .., _, h, _ => by simp [pureVal] at h
  | .halt _, _, h, _ => by simp [pureVal] at h
/-- what follows a computation that asks nothing -/
theorem run_bind_pure {α β : Type} {P : Program} : ∀ {s : Sem α} {a : α}, pureVal P s = some a → ∀ (f : α → Sem β) (w : World), (s >>= f).run P w = (f a).run P w
  | .pure _, _, h, f, w => by simp only [pureVal, Option.some.injEq] at h; subst h; rfl
  | .program k, _, h, f, w => by simp only [pureVal] at h; exact run_bind_pure (s := k P) h f w
  | .mark _ k, _, h, f, w => by simp only [pureVal] at h; exact run_bind_pure (s := k) h f w
  | .load .., _, h, _, _ => by simp [pureVal] at h
  | .store .., _, h, _, _ => by simp [pureVal] at h
  | .new .., _, h, _, _ => by simp [pureVal] at h
  | .shape .., _, h, _, _ => by simp [pureVal] at h
  | .freeze .., _, h, _, _ => by simp [pureVal] at h
  | .frozen .., _, h, _, _ => by simp [pureVal] at h
  | .getObj .., _, h, _, _ => by simp [pureVal] at h
  | .setObj .., _, h, _, _ => by simp [pureVal] at h
  | .choose .., _, h, _, _ => by simp [pureVal] at h
  | .sys .., _, h, _, _ => by simp [pureVal] at h
  | .halt _, _, h, _, _ => by simp [pureVal] at h

/-! ### Values with letters for addresses -/
inductive SV where
  | v (x : Value)
  | c (x : Value)
  | tt
  | ff
  | ptr (k off : Nat)
  | ref (k : Nat)
  | elt (k sz i off : Nat)
  | agg (l : List SV)
  | tup (l : List SV)
  | clo (fn : Fn) (first captured : List SV)
  | ifc (t : TypeId) (s : SV)
mutual
/-- the value that it stands for; B: what the letters stand for -/
def SV.to (B : List Value) : SV → Option Value
  | .v x => some x
  | .c x => some x
  | .tt => some (.bool true)
  | .ff => some (.bool false)
  | .ptr k off => match B[k]? with
    | some (.pointer (some ⟨b, 0, none⟩)) => some (.pointer (some ⟨b, off, none⟩))
    | _ => none
  | .ref k => B[k]?
  | .elt k sz i off => match B[k]? with
    | some (.slice (some p) _ _) => some (.pointer (some (p.add (i * sz + off))))
    | _ => none
  | .agg l => (SV.tos B l).map fun vs => .agg vs.toArray
  | .tup l => (SV.tos B l).map fun vs => .tuple vs.toArray
  | .clo fn a b => match SV.tos B a, SV.tos B b with
    | some xs, some ys => some (.func fn xs.toArray ys.toArray)
    | _, _ => none
  | .ifc t s => (SV.to B s).map (Value.iface t)
def SV.tos (B : List Value) : List SV → Option (List Value)
  | [] => some []
  | s :: l => match SV.to B s, SV.tos B l with
    | some x, some xs => some (x :: xs)
    | _, _ => none
end
theorem getElem?_prefix {B B2 : List Value} (h : B <+: B2) {k : Nat} {x : Value} (hk : B[k]? = some x) : B2[k]? = some x := by
  obtain ⟨t, rfl⟩ := h
  rw [List.getElem?_append_left (List.getElem?_eq_some_iff.1 hk).1]; exact hk
mutual
theorem SV.to_mono {B B2 : List Value} (h : B <+: B2) : ∀ {s : SV} {x : Value}, s.to B = some x → s.to B2 = some x
  | .v _, _, e => e
  | .c _, _, e => e
  | .tt, _, e => e
  | .ff, _, e => e
  | .ptr k off, x, e => by
    simp only [SV.to] at e ⊢
    split at e
    · rename_i hb; rw [getElem?_prefix h hb]; exact e
    · cases e
  | .ref k, x, e => by simp only [SV.to] at e ⊢; exact getElem?_prefix h e
  | .elt k sz i off, x, e => by
    simp only [SV.to] at e ⊢
    split at e
    · rename_i hb; rw [getElem?_prefix h hb]; exact e
    · cases e
  | .agg l, x, e => by
    simp only [SV.to, Option.map_eq_some_iff] at e ⊢
    obtain ⟨vs, h1, h2⟩ := e
    exact ⟨vs, SV.tos_mono h h1, h2⟩
  | .tup l, x, e => by
    simp only [SV.to, Option.map_eq_some_iff] at e ⊢
    obtain ⟨vs, h1, h2⟩ := e
    exact ⟨vs, SV.tos_mono h h1, h2⟩
  | .clo fn a b, x, e => by
    simp only [SV.to] at e ⊢
    split at e
    · rename_i xs ys h1 h2
      rw [SV.tos_mono h h1, SV.tos_mono h h2]; exact e
    · cases e
  | .ifc t s, x, e => by
    simp only [SV.to, Option.map_eq_some_iff] at e ⊢
    obtain ⟨v, h1, h2⟩ := e
    exact ⟨v, SV.to_mono h h1, h2⟩
theorem SV.tos_mono {B B2 : List Value} (h : B <+: B2) : ∀ {l : List SV} {xs : List Value}, SV.tos B l = some xs → SV.tos B2 l = some xs
  | [], _, e => e
  | s :: l, xs, e => by
    simp only [SV.tos] at e ⊢
    split at e
    · rename_i x ys h1 h2
      rw [SV.to_mono h h1, SV.tos_mono h h2]; exact e
    · cases e
end
theorem tos_plain (B : List Value) (xs : List Value) : SV.tos B (xs.map .v) = some xs := by
  induction xs with
  | nil => rfl
  | cons x xs ih => simp [SV.tos, SV.to, ih]
theorem tos_conc (B : List Value) (xs : List Value) : SV.tos B (xs.map .c) = some xs := by
  induction xs with
  | nil => rfl
  | cons x xs ih => simp [SV.tos, SV.to, ih]
theorem tos_length {B : List Value} : ∀ {l : List SV} {xs : List Value}, SV.tos B l = some xs → xs.length = l.length
  | [], _, e => by simp only [SV.tos, Option.some.injEq] at e; subst e; rfl
  | s :: l, xs, e => by
    simp only [SV.tos] at e
    split at e
    · rename_i x ys h1 h2
      simp only [Option.some.injEq] at e; subst e
      simp [tos_length h2]
    · cases e
theorem tos_get {B : List Value} : ∀ {l : List SV} {xs : List Value}, SV.tos B l = some xs → ∀ {i : Nat} {s : SV}, l[i]? = some s → ∃ x, xs[i]? = some x ∧ s.to B = some x
  | [], _, e, i, s, h => by simp at h
  | t :: l, xs, e, i, s, h => by
    simp only [SV.tos] at e
    split at e
    · rename_i x ys h1 h2
      simp only [Option.some.injEq] at e; subst e
      cases i with
      | zero => simp only [List.getElem?_cons_zero, Option.some.injEq] at h; subst h; exact ⟨x, by simp, h1⟩
      | succ i => simp only [List.getElem?_cons_succ] at h ⊢; exact tos_get h2 h
    · cases e
theorem tos_drop {B : List Value} : ∀ {l : List SV} {xs : List Value}, SV.tos B l = some xs → ∀ n, SV.tos B (l.drop n) = some (xs.drop n)
  | [], _, e, n => by simp only [SV.tos, Option.some.injEq] at e; subst e; simp [SV.tos]
  | t :: l, xs, e, n => by
    cases n with
    | zero => simpa using e
    | succ n =>
      simp only [SV.tos] at e
      split at e
      · rename_i x ys h1 h2
        simp only [Option.some.injEq] at e; subst e
        simpa using tos_drop h2 n
      · cases e
theorem tos_take {B : List Value} : ∀ {l : List SV} {xs : List Value}, SV.tos B l = some xs → ∀ n, SV.tos B (l.take n) = some (xs.take n)
  | [], _, e, n => by simp only [SV.tos, Option.some.injEq] at e; subst e; simp [SV.tos]
  | t :: l, xs, e, n => by
    cases n with
    | zero => rfl
    | succ n =>
      simp only [SV.tos] at e
      split at e
      · rename_i x ys h1 h2
        simp only [Option.some.injEq] at e; subst e
        simp [SV.tos, h1, tos_take h2 n]
      · cases e
theorem tos_append {B : List Value} : ∀ {l m : List SV} {xs ys : List Value}, SV.tos B l = some xs → SV.tos B m = some ys → SV.tos B (l ++ m) = some (xs ++ ys)
  | [], _, _, _, e, f => by simp only [SV.tos, Option.some.injEq] at e; subst e; simpa using f
  | t :: l, m, xs, ys, e, f => by
    simp only [SV.tos] at e
    split at e
    · rename_i x zs h1 h2
      simp only [Option.some.injEq] at e; subst e
      simp [SV.tos, h1, tos_append h2 f]
    · cases e

/-! ### Memory with letters -/
inductive Blk where
  | own (cells : List SV)
  | arr (kind : IntKind) (n : Nat) (h : Nat → Int)
  | vec (o : Bool) (e : TypeId) (sz n : Nat) (xs : List Value)
  | row (n sz : Nat) (f : Nat → Nat → Value)
  | gone
def Blk.excl : Blk → Bool
  | .own _ | .arr .. | .vec .. => true
  | _ => false
def blockOf : Value → Option Nat
  | .pointer (some a) => some a.block
  | .slice (some a) _ _ => some a.block
  | _ => none
def arrCells (kind : IntKind) (n : Nat) (h : Nat → Int) : Array Value := ((List.range n).map fun j => Value.int kind (h j)).toArray
/-- a slice that is not to grow bears this in place of its elements' type -/
def noGrow : TypeId := 1000000007
/-- one's own slice that is not grown -/
def OwnFix (w : World) (sz : Nat) (u : Value) (n : Nat) (xs : List Value) : Prop :=
  xs.length = n * sz ∧ ∃ g cap, u = .slice (some ⟨g, 0, none⟩) n cap ∧ g < w.heap.size ∧ n ≤ cap ∧ cap ≤ maxLen ∧ ∀ j, j < n * sz → w.cell? ⟨g, j, none⟩ = xs[j]? ∧ w.frozen? ⟨g, j, none⟩ = false
def VecSat (w : World) (e : TypeId) (sz : Nat) (u : Value) (n : Nat) (xs : List Value) : Prop := w.ownsRow 0 e sz u n xs ∨ (e = noGrow ∧ OwnFix w sz u n xs)
theorem VecSat.view {w : World} {e : TypeId} {sz : Nat} {u : Value} {n : Nat} {xs : List Value} (h : VecSat w e sz u n xs) :
    xs.length = n * sz ∧ ((u = .slice none 0 0 ∧ n = 0) ∨ ∃ g cap, u = .slice (some ⟨g, 0, none⟩) n cap ∧ g < w.heap.size ∧ n ≤ cap ∧ cap ≤ maxLen ∧ ∀ j, j < n * sz → w.cell? ⟨g, j, none⟩ = xs[j]? ∧ w.frozen? ⟨g, j, none⟩ = false) := by
  rcases h with h | ⟨-, h⟩
  · refine ⟨h.1, ?_⟩
    have h0 := h
    rcases h.2 with hn | ⟨g, cap, cur, rfl, -, hg, hnc, hcm, hsz, -⟩
    · exact .inl hn
    · exact .inr ⟨g, cap, rfl, (Array.getElem?_eq_some_iff.1 hg).1, hnc, hcm, fun j hj => ⟨h0.cellAt j hj, by unfold World.frozen?; rw [hg]; simp⟩⟩
  · exact ⟨h.1, .inr h.2⟩
theorem VecSat.row {w : World} {e : TypeId} {sz : Nat} {u : Value} {n : Nat} {xs : List Value} (h : VecSat w e sz u n xs) (he : e ≠ noGrow) : w.ownsRow 0 e sz u n xs := by
  rcases h with h | ⟨h, -⟩
  · exact h
  · exact absurd h he
/-- what a world holds of a letter that stands for u -/
def BlkSat (B : List Value) (w : World) (u : Value) : Blk → Prop
  | .own cells => ∃ b vs, u = .pointer (some ⟨b, 0, none⟩) ∧ SV.tos B cells = some vs ∧ Own w b vs.toArray
  | .arr kind n h => ∃ b, u = .pointer (some ⟨b, 0, none⟩) ∧ Own w b (arrCells kind n h)
  | .vec _ e sz n xs => VecSat w e sz u n xs
  | .row n sz f => ∃ p cap, u = .slice p n cap ∧ n ≤ cap ∧ cap ≤ maxLen ∧ ∀ i j, i < n → j < sz → ∃ a, p = some a ∧ w.cell? (a.add (i * sz + j)) = some (f i j)
  | .gone => True
def ExBlk (H : List Blk) (B : List Value) (k b : Nat) : Prop := ∃ x u, H[k]? = some x ∧ x.excl = true ∧ B[k]? = some u ∧ blockOf u = some b
def RdBlk (H : List Blk) (B : List Value) (k b : Nat) : Prop := ∃ n sz f u, H[k]? = some (.row n sz f) ∧ 0 < n ∧ 0 < sz ∧ B[k]? = some u ∧ blockOf u = some b
structure Sat (H : List Blk) (B : List Value) (w : World) : Prop where
  len : B.length = H.length
  blk : ∀ (k : Nat) (x : Blk) (u : Value), H[k]? = some x → B[k]? = some u → BlkSat B w u x
  sep : ∀ k j b, ExBlk H B k b → ExBlk H B j b → k = j
  far : ∀ k j b, ExBlk H B k b → ¬ RdBlk H B j b
/-- of what was there in w, w' differs at the blocks bs alone -/
structure Keeps (bs : List Nat) (w w' : World) : Prop where
  os : w'.os = w.os
  tape : w'.tape = w.tape
  output : w'.output = w.output
  size : w.heap.size ≤ w'.heap.size
  block : ∀ k, k < w.heap.size → k ∉ bs → w'.heap[k]? = w.heap[k]?
theorem Keeps.refl (bs : List Nat) (w : World) : Keeps bs w w := ⟨rfl, rfl, rfl, Nat.le_refl _, fun _ _ _ => rfl⟩
theorem Keeps.trans {bs : List Nat} {a b c : World} (h : Keeps bs a b) (k : Keeps bs b c) : Keeps bs a c :=
  ⟨k.os.trans h.os, k.tape.trans h.tape, k.output.trans h.output, Nat.le_trans h.size k.size, fun i hi hn => (k.block i (Nat.lt_of_lt_of_le hi h.size) hn).trans (h.block i hi hn)⟩
theorem Keeps.below {a b : World} (h : Keeps [] a b) : Below a.heap.size a b := ⟨h.os, h.tape, h.output, h.size, fun k hk => h.block k hk (by simp)⟩
/-- memory, and what has become of it since w0 -/
structure Mem (w0 : World) (bs : List Nat) (H : List Blk) (B : List Value) (w : World) : Prop where
  sat : Sat H B w
  keeps : Keeps bs w0 w
  good : ∀ k b, ExBlk H B k b → b ∈ bs ∨ w0.heap.size ≤ b

theorem cell_lt {w : World} {a : Addr} {x : Value} (h : w.cell? a = some x) : a.block < w.heap.size := lt_of_cell h
theorem addr_add_block (a : Addr) (n : Nat) : (a.add n).block = a.block := by unfold Addr.add; split <;> rfl
theorem own_of_heap {w w' : World} {b : Nat} {cs : Array Value} (h : Own w b cs) (hs : w.heap.size ≤ w'.heap.size) (hb : w'.heap[b]? = w.heap[b]?) : Own w' b cs :=
  ⟨Nat.lt_of_lt_of_le h.1 hs, fun j => (World.cell?_of_block (a := ⟨b, j, none⟩) hb).trans (h.2.1 j), fun j => (World.frozen?_of_block (a := ⟨b, j, none⟩) hb).trans (h.2.2 j)⟩
theorem ownBlock_slice (p : Option Addr) (n c : Nat) : blockOf (.slice p n c) = (Value.slice p n c).ownBlock := by cases p <;> rfl
theorem ownsRow_block {w : World} {e : TypeId} {sz : Nat} {u : Value} {n : Nat} {xs : List Value} (h : w.ownsRow 0 e sz u n xs) : blockOf u = u.ownBlock := by
  rcases h.2 with ⟨rfl, _⟩ | ⟨g, cap, cur, rfl, _⟩ <;> rfl
theorem VecSat.lt {w : World} {e : TypeId} {sz : Nat} {u : Value} {n : Nat} {xs : List Value} (h : VecSat w e sz u n xs) {b : Nat} (hb : blockOf u = some b) : b < w.heap.size := by
  rcases h.view.2 with ⟨rfl, -⟩ | ⟨g, cap, rfl, hg, -⟩
  · cases hb
  · simp only [blockOf, Option.some.injEq] at hb; exact hb ▸ hg
/-- what stands of a letter stays, where its block stays -/
theorem BlkSat.kept {B : List Value} {w w' : World} {u : Value} {x : Blk} (h : BlkSat B w u x) (hs : w.heap.size ≤ w'.heap.size) (hb : ∀ b, blockOf u = some b → b < w.heap.size → w'.heap[b]? = w.heap[b]?) : BlkSat B w' u x := by
  cases x with
  | own cells =>
    obtain ⟨b, vs, rfl, h2, h3⟩ := h
    exact ⟨b, vs, rfl, h2, own_of_heap h3 hs (hb b rfl h3.1)⟩
  | arr kind n f =>
    obtain ⟨b, rfl, h3⟩ := h
    exact ⟨b, rfl, own_of_heap h3 hs (hb b rfl h3.1)⟩
  | vec o e sz n xs =>
    rcases h with h | ⟨he, h⟩
    · refine .inl ⟨h.1, ?_⟩
      rcases h.2 with hn | ⟨g, cap, cur, rfl, h0, hg, rest⟩
      · exact .inl hn
      · refine .inr ⟨g, cap, cur, rfl, h0, ?_, rest⟩
        rw [hb g rfl (Array.getElem?_eq_some_iff.1 hg).1]; exact hg
    · obtain ⟨hl, g, cap, rfl, hg, h1, h2, h3⟩ := h
      have hbg := hb g rfl hg
      exact .inr ⟨he, hl, g, cap, rfl, Nat.lt_of_lt_of_le hg hs, h1, h2, fun j hj => ⟨(World.cell?_of_block (a := ⟨g, j, none⟩) hbg).trans (h3 j hj).1, (World.frozen?_of_block (a := ⟨g, j, none⟩) hbg).trans (h3 j hj).2⟩⟩
  | row n sz f =>
    obtain ⟨p, cap, rfl, h1, h2, h3⟩ := h
    refine ⟨p, cap, rfl, h1, h2, fun i j hi hj => ?_⟩
    obtain ⟨a, rfl, hc⟩ := h3 i j hi hj
    have hlt := cell_lt hc
    rw [addr_add_block] at hlt
    exact ⟨a, rfl, (World.cell?_of_block (by rw [addr_add_block]; exact hb a.block rfl hlt)).trans hc⟩
  | gone => trivial
theorem BlkSat.mono {B B2 : List Value} (hB : B <+: B2) {w : World} {u : Value} {x : Blk} (h : BlkSat B w u x) : BlkSat B2 w u x := by
  cases x with
  | own cells =>
    obtain ⟨b, vs, h1, h2, h3⟩ := h
    exact ⟨b, vs, h1, SV.tos_mono hB h2, h3⟩
  | _ => exact h
theorem Sat.getB {H : List Blk} {B : List Value} {w : World} (h : Sat H B w) {k : Nat} {x : Blk} (hk : H[k]? = some x) : ∃ u, B[k]? = some u :=
  ⟨_, List.getElem?_eq_getElem (by rw [h.len]; exact (List.getElem?_eq_some_iff.1 hk).1)⟩
theorem Sat.ex_lt {H : List Blk} {B : List Value} {w : World} (h : Sat H B w) {k b : Nat} (hb : ExBlk H B k b) : b < w.heap.size := by
  obtain ⟨x, u, h1, h2, h3, h4⟩ := hb
  have hs := h.blk k x u h1 h3
  cases x with
  | own cells =>
    obtain ⟨b', vs, rfl, g2, g3⟩ := hs
    simp only [blockOf, Option.some.injEq] at h4
    exact h4 ▸ g3.1
  | arr kind n f =>
    obtain ⟨b', rfl, g3⟩ := hs
    simp only [blockOf, Option.some.injEq] at h4
    exact h4 ▸ g3.1
  | vec o e sz n xs => exact VecSat.lt hs h4
  | row n sz f => cases h2
  | gone => cases h2
theorem Sat.rd_lt {H : List Blk} {B : List Value} {w : World} (h : Sat H B w) {k b : Nat} (hb : RdBlk H B k b) : b < w.heap.size := by
  obtain ⟨n, sz, f, u, h1, hn, hz, h3, h4⟩ := hb
  obtain ⟨p, cap, rfl, -, -, g⟩ := h.blk k _ u h1 h3
  obtain ⟨a, rfl, hc⟩ := g 0 0 hn hz
  simp only [blockOf, Option.some.injEq] at h4
  have := cell_lt hc
  rw [addr_add_block] at this
  exact h4 ▸ this
theorem Keeps.grown {w0 w w' : World} {bs : List Nat} (h : Keeps bs w0 w) {r : Option Nat} (hg : w.grownBy w' r) (hr : ∀ b, r = some b → b ∈ bs ∨ w0.heap.size ≤ b) : Keeps bs w0 w' :=
  ⟨hg.os.trans h.os, hg.tape.trans h.tape, hg.output.trans h.output, Nat.le_trans h.size hg.size, fun k hk hn => (hg.block k (Nat.lt_of_lt_of_le hk h.size) (fun e => by
    rcases hr k e.symm with g | g
    · exact hn g
    · omega)).trans (h.block k hk hn)⟩
theorem below_grown {w w' : World} (h : Below w.heap.size w w') : w.grownBy w' none := ⟨h.os, h.tape, h.output, h.size, fun k hk _ => h.block k hk⟩
/-- one letter's block is written (what others there are stays) -/
theorem Mem.upd {w0 : World} {bs : List Nat} {H : List Blk} {B : List Value} {w w' : World} (h : Mem w0 bs H B w) {k : Nat} {x y : Blk} {u : Value} (hk : H[k]? = some x) (hx : x.excl = true) (hu : B[k]? = some u)
    (hg : w.grownBy w' (blockOf u)) (hy : y.excl = true) (hsat : BlkSat B w' u y) : Mem w0 bs (H.set k y) B w' := by
  have hkl : k < H.length := (List.getElem?_eq_some_iff.1 hk).1
  have old : ∀ j c, ExBlk (H.set k y) B j c → ExBlk H B j c := by
    rintro j c ⟨z, v, h1, h2, h3, h4⟩
    by_cases e : k = j
    · subst e; exact ⟨x, v, hk, hx, h3, h4⟩
    · rw [List.getElem?_set_ne e] at h1; exact ⟨z, v, h1, h2, h3, h4⟩
  have oldr : ∀ j c, RdBlk (H.set k y) B j c → RdBlk H B j c := by
    rintro j c ⟨n, sz, f, v, h1, h2⟩
    by_cases e : k = j
    · subst e; rw [List.getElem?_set_self hkl] at h1; simp only [Option.some.injEq] at h1; subst h1; cases hy
    · rw [List.getElem?_set_ne e] at h1; exact ⟨n, sz, f, v, h1, h2⟩
  refine ⟨⟨by simp [h.sat.len], fun j z v hj hv => ?_, fun j l c h1 h2 => h.sat.sep j l c (old _ _ h1) (old _ _ h2), fun j l c h1 h2 => h.sat.far j l c (old _ _ h1) (oldr _ _ h2)⟩, ?_, fun j c h1 => h.good j c (old _ _ h1)⟩
  · by_cases e : k = j
    · subst e
      rw [List.getElem?_set_self hkl] at hj
      simp only [Option.some.injEq] at hj
      subst hj
      rw [hu] at hv
      simp only [Option.some.injEq] at hv
      subst hv
      exact hsat
    · rw [List.getElem?_set_ne e] at hj
      have hs := h.sat.blk j z v hj hv
      cases hz : z.excl
      · cases z with
        | gone => trivial
        | row n sz f =>
          obtain ⟨p, cap, rfl, h1, h2, h3⟩ := hs
          refine ⟨p, cap, rfl, h1, h2, fun i l hi hl => ?_⟩
          obtain ⟨a, rfl, hc⟩ := h3 i l hi hl
          refine ⟨a, rfl, (World.cell?_of_block ?_).trans hc⟩
          refine hg.block _ (cell_lt hc) (fun e' => ?_)
          rw [addr_add_block] at e'
          exact h.sat.far k j a.block ⟨x, u, hk, hx, hu, e'.symm⟩ ⟨n, sz, f, _, hj, by omega, by omega, hv, rfl⟩
        | own _ => cases hz
        | arr _ _ _ => cases hz
        | vec _ _ _ _ _ => cases hz
      · refine hs.kept hg.size fun b hb hlt => hg.block b hlt fun e' => ?_
        exact e (h.sat.sep k j b ⟨x, u, hk, hx, hu, e'.symm⟩ ⟨z, v, hj, hz, hv, hb⟩)
  · exact h.keeps.grown hg fun b hb => h.good k b ⟨x, u, hk, hx, hu, hb⟩
theorem getElem?_concat {α : Type} (l : List α) (x : α) (k : Nat) {y : α} (h : (l ++ [x])[k]? = some y) : l[k]? = some y ∨ (k = l.length ∧ y = x) := by
  rcases Nat.lt_trichotomy k l.length with hk | hk | hk
  · rw [List.getElem?_append_left hk] at h; exact .inl h
  · subst hk; simp only [List.getElem?_concat_length, Option.some.injEq] at h; exact .inr ⟨rfl, h.symm⟩
  · rw [List.getElem?_eq_none (by simp; omega)] at h; cases h
theorem ex_concat {H : List Blk} {B : List Value} (hl : B.length = H.length) {y : Blk} {u : Value} {k b : Nat} (h : ExBlk (H ++ [y]) (B ++ [u]) k b) : ExBlk H B k b ∨ (k = H.length ∧ y.excl = true ∧ blockOf u = some b) := by
  obtain ⟨x, v, h1, h2, h3, h4⟩ := h
  rcases getElem?_concat _ _ _ h1 with g | ⟨rfl, rfl⟩
  · have hk := (List.getElem?_eq_some_iff.1 g).1
    rw [List.getElem?_append_left (by omega)] at h3
    exact .inl ⟨x, v, g, h2, h3, h4⟩
  · rw [← hl, List.getElem?_concat_length, Option.some.injEq] at h3
    subst h3
    exact .inr ⟨rfl, h2, h4⟩
theorem rd_concat {H : List Blk} {B : List Value} (hl : B.length = H.length) {y : Blk} {u : Value} {k b : Nat} (h : RdBlk (H ++ [y]) (B ++ [u]) k b) : RdBlk H B k b ∨ (k = H.length ∧ y.excl = false ∧ blockOf u = some b) := by
  obtain ⟨n, sz, f, v, h1, h2, h5, h3, h4⟩ := h
  rcases getElem?_concat _ _ _ h1 with g | ⟨rfl, g⟩
  · have hk := (List.getElem?_eq_some_iff.1 g).1
    rw [List.getElem?_append_left (by omega)] at h3
    exact .inl ⟨n, sz, f, v, g, h2, h5, h3, h4⟩
  · rw [← hl, List.getElem?_concat_length, Option.some.injEq] at h3
    subst h3
    subst g
    exact .inr ⟨rfl, rfl, h4⟩
/-- a new letter, its block of one's own -/
theorem Mem.add {w0 : World} {bs : List Nat} {H : List Blk} {B : List Value} {w w' : World} (h : Mem w0 bs H B w) (hg : w.grownBy w' none) {y : Blk} {u : Value} (hnew : ∀ b, blockOf u = some b → w.heap.size ≤ b)
    (hsat : BlkSat (B ++ [u]) w' u y) : Mem w0 bs (H ++ [y]) (B ++ [u]) w' := by
  have hpre : B <+: B ++ [u] := List.prefix_append _ _
  refine ⟨⟨by simp [h.sat.len], fun k x v hk hv => ?_, fun k j b hk hj => ?_, fun k j b hk hj => ?_⟩, h.keeps.grown hg (fun b hb => by cases hb), fun k b hk => ?_⟩
  · rcases getElem?_concat _ _ _ hk with g | ⟨rfl, rfl⟩
    · have hkl := (List.getElem?_eq_some_iff.1 g).1
      rw [List.getElem?_append_left (by rw [h.sat.len]; exact hkl)] at hv
      exact ((h.sat.blk k x v g hv).mono hpre).kept hg.size fun b _ hlt => hg.block b hlt (by simp)
    · rw [← h.sat.len, List.getElem?_concat_length, Option.some.injEq] at hv
      subst hv
      exact hsat
  · rcases ex_concat h.sat.len hk with g | ⟨rfl, _, g⟩ <;> rcases ex_concat h.sat.len hj with g' | ⟨rfl, _, g'⟩
    · exact h.sat.sep k j b g g'
    · have := h.sat.ex_lt g; have := hnew b g'; omega
    · have := h.sat.ex_lt g'; have := hnew b g; omega
    · rfl
  · rcases ex_concat h.sat.len hk with g | ⟨rfl, hy, g⟩ <;> rcases rd_concat h.sat.len hj with g' | ⟨rfl, hy', g'⟩
    · exact h.sat.far k j b g g'
    · have := h.sat.ex_lt g; have := hnew b g'; omega
    · have := h.sat.rd_lt g'; have := hnew b g; omega
    · rw [hy] at hy'; cases hy'
  · rcases ex_concat h.sat.len hk with g | ⟨rfl, _, g⟩
    · exact h.good k b g
    · exact .inr (by have := hnew b g; have := h.keeps.size; omega)
/-- a letter of which no more is known -/
theorem Mem.drop {w0 : World} {bs : List Nat} {H : List Blk} {B : List Value} {w : World} (h : Mem w0 bs H B w) (k : Nat) : Mem w0 bs (H.set k .gone) B w := by
  have old : ∀ j c, ExBlk (H.set k .gone) B j c → ExBlk H B j c := by
    rintro j c ⟨z, v, h1, h2, h3, h4⟩
    by_cases e : k = j
    · subst e
      have hl := (List.getElem?_eq_some_iff.1 h1).1
      rw [List.getElem?_set_self (by simpa using hl)] at h1
      simp only [Option.some.injEq] at h1
      subst h1; cases h2
    · rw [List.getElem?_set_ne e] at h1; exact ⟨z, v, h1, h2, h3, h4⟩
  have oldr : ∀ j c, RdBlk (H.set k .gone) B j c → RdBlk H B j c := by
    rintro j c ⟨n, sz, f, v, h1, h2⟩
    by_cases e : k = j
    · subst e
      have hl := (List.getElem?_eq_some_iff.1 h1).1
      rw [List.getElem?_set_self (by simpa using hl)] at h1
      cases h1
    · rw [List.getElem?_set_ne e] at h1; exact ⟨n, sz, f, v, h1, h2⟩
  refine ⟨⟨by simp [h.sat.len], fun j z v hj hv => ?_, fun j l c h1 h2 => h.sat.sep j l c (old _ _ h1) (old _ _ h2), fun j l c h1 h2 => h.sat.far j l c (old _ _ h1) (oldr _ _ h2)⟩, h.keeps, fun j c h1 => h.good j c (old _ _ h1)⟩
  by_cases e : k = j
  · subst e
    have hl := (List.getElem?_eq_some_iff.1 hj).1
    rw [List.getElem?_set_self (by simpa using hl)] at hj
    simp only [Option.some.injEq] at hj
    subst hj; trivial
  · rw [List.getElem?_set_ne e] at hj; exact h.sat.blk j z v hj hv
/-- a letter's block is handed on to a new letter (or left behind) -/
theorem Mem.pass {w0 : World} {bs : List Nat} {H : List Blk} {B : List Value} {w w' : World} (h : Mem w0 bs H B w) {k : Nat} {x y : Blk} {u v : Value} (hk : H[k]? = some x) (hx : x.excl = true) (hu : B[k]? = some u)
    (hg : w.grownBy w' (blockOf u)) (hb : ∀ b, blockOf v = some b → blockOf u = some b ∨ w.heap.size ≤ b) (hsat : BlkSat (B ++ [v]) w' v y) (hy : y.excl = true) : Mem w0 bs (H.set k .gone ++ [y]) (B ++ [v]) w' := by
  have hd := h.drop k
  have hkl : k < H.length := (List.getElem?_eq_some_iff.1 hk).1
  have hpre : B <+: B ++ [v] := List.prefix_append _ _
  have hne : ∀ j b, ExBlk (H.set k .gone) B j b → blockOf u ≠ some b := by
    rintro j b ⟨z, s, h1, h2, h3, h4⟩ e
    by_cases ej : k = j
    · subst ej; rw [List.getElem?_set_self hkl] at h1; simp only [Option.some.injEq] at h1; subst h1; cases h2
    · rw [List.getElem?_set_ne ej] at h1
      exact ej (h.sat.sep k j b ⟨x, u, hk, hx, hu, e⟩ ⟨z, s, h1, h2, h3, h4⟩)
  have hner : ∀ j b, RdBlk (H.set k .gone) B j b → blockOf u ≠ some b := by
    rintro j b ⟨n, sz, f, s, h1, h2, h5, h3, h4⟩ e
    by_cases ej : k = j
    · subst ej; rw [List.getElem?_set_self hkl] at h1; cases h1
    · rw [List.getElem?_set_ne ej] at h1
      exact h.sat.far k j b ⟨x, u, hk, hx, hu, e⟩ ⟨n, sz, f, s, h1, h2, h5, h3, h4⟩
  have hvb : ∀ b, blockOf v = some b → (∀ j, ¬ ExBlk (H.set k .gone) B j b) ∧ (∀ j, ¬ RdBlk (H.set k .gone) B j b) := by
    intro b hbv
    rcases hb b hbv with g | g
    · exact ⟨fun j hj => hne j b hj g, fun j hj => hner j b hj g⟩
    · exact ⟨fun j hj => by have := hd.sat.ex_lt hj; omega, fun j hj => by have := hd.sat.rd_lt hj; omega⟩
  have hgood := fun b hb => h.good k b ⟨x, u, hk, hx, hu, hb⟩
  refine ⟨⟨by simp [h.sat.len], fun j z s hj hs => ?_, fun j l b hj hl => ?_, fun j l b hj hl => ?_⟩, h.keeps.grown hg hgood, fun j b hj => ?_⟩
  · rcases getElem?_concat _ _ _ hj with g | ⟨rfl, rfl⟩
    · have hjl := (List.getElem?_eq_some_iff.1 g).1
      rw [List.getElem?_append_left (by rw [h.sat.len]; simpa using hjl)] at hs
      have hsj := hd.sat.blk j z s g hs
      cases hz : z.excl
      · cases z with
        | gone => trivial
        | row n sz f =>
          obtain ⟨p, cap, rfl, h1, h2, h3⟩ := hsj
          refine ⟨p, cap, rfl, h1, h2, fun i l hi hl => ?_⟩
          obtain ⟨a, rfl, hc⟩ := h3 i l hi hl
          refine ⟨a, rfl, (World.cell?_of_block ?_).trans hc⟩
          refine hg.block _ (cell_lt hc) (fun e' => ?_)
          rw [addr_add_block] at e'
          exact hner j a.block ⟨n, sz, f, _, g, by omega, by omega, hs, rfl⟩ e'.symm
        | own _ => cases hz
        | arr _ _ _ => cases hz
        | vec _ _ _ _ _ => cases hz
      · exact (hsj.mono hpre).kept hg.size fun b hb hlt => hg.block b hlt fun e' => hne j b ⟨z, s, g, hz, hs, hb⟩ e'.symm
    · rw [show (H.set k .gone).length = B.length by simp [h.sat.len], List.getElem?_concat_length, Option.some.injEq] at hs
      subst hs
      exact hsat
  · rcases ex_concat hd.sat.len hj with g | ⟨rfl, _, g⟩ <;> rcases ex_concat hd.sat.len hl with g' | ⟨rfl, _, g'⟩
    · exact hd.sat.sep j l b g g'
    · exact absurd g ((hvb b g').1 j)
    · exact absurd g' ((hvb b g).1 l)
    · rfl
  · rcases ex_concat hd.sat.len hj with g | ⟨rfl, hy1, g⟩ <;> rcases rd_concat hd.sat.len hl with g' | ⟨rfl, hy', g'⟩
    · exact hd.sat.far j l b g g'
    · rw [hy] at hy'; cases hy'
    · exact (hvb b g).2 l g'
    · rw [hy] at hy'; cases hy'
  · rcases ex_concat hd.sat.len hj with g | ⟨rfl, _, g⟩
    · exact hd.good j b g
    · rcases hb b g with g' | g'
      · exact hgood b g'
      · exact .inr (by have := h.keeps.size; omega)
theorem Sat.below {H : List Blk} {B : List Value} {w w' : World} (h : Sat H B w) (hb : Below w.heap.size w w') : Sat H B w' :=
  ⟨h.len, fun k x u hk hu => (h.blk k x u hk hu).kept hb.size fun b _ hlt => hb.block b hlt, h.sep, h.far⟩
theorem Mem.below {w0 : World} {bs : List Nat} {H : List Blk} {B : List Value} {w w' : World} (h : Mem w0 bs H B w) (hb : Below w.heap.size w w') : Mem w0 bs H B w' :=
  ⟨h.sat.below hb, h.keeps.grown (below_grown hb) (fun b hb => by cases hb), h.good⟩
theorem Mem.drew {w0 : World} {bs : List Nat} {H : List Blk} {B : List Value} {w : World} (h : Mem w0 bs H B w) : Mem w0 bs H B { w with drawn := w.drawn + 1 } :=
  h.below ⟨rfl, rfl, rfl, Nat.le_refl _, fun _ _ => rfl⟩
/-- a new row of one's own -/
theorem Mem.alloc {w0 : World} {bs : List Nat} {H : List Blk} {B : List Value} {w : World} (h : Mem w0 bs H B w) {cells : List SV} {vs : List Value} (hc : SV.tos B cells = some vs) (t : TypeId) :
    Mem w0 bs (H ++ [.own cells]) (B ++ [.pointer (some ⟨w.heap.size, 0, none⟩)]) (w.alloc (.cells vs.toArray t)) :=
  h.add (World.grownBy_alloc w _ none) (fun b hb => by simp only [blockOf, Option.some.injEq] at hb; omega) ⟨w.heap.size, vs, rfl, SV.tos_mono (List.prefix_append _ _) hc, own_new w _ t⟩
theorem Mem.own_at {w0 : World} {bs : List Nat} {H : List Blk} {B : List Value} {w : World} (h : Mem w0 bs H B w) {k : Nat} {cells : List SV} (hk : H[k]? = some (.own cells)) :
    ∃ b vs, B[k]? = some (.pointer (some ⟨b, 0, none⟩)) ∧ SV.tos B cells = some vs ∧ Own w b vs.toArray := by
  obtain ⟨u, hu⟩ := h.sat.getB hk
  obtain ⟨b, vs, rfl, h2⟩ := h.sat.blk k _ u hk hu
  exact ⟨b, vs, hu, h2⟩
theorem Mem.row_at {w0 : World} {bs : List Nat} {H : List Blk} {B : List Value} {w : World} (h : Mem w0 bs H B w) {k n sz : Nat} {f : Nat → Nat → Value} (hk : H[k]? = some (.row n sz f)) :
    ∃ p cap, B[k]? = some (.slice p n cap) ∧ n ≤ cap ∧ cap ≤ maxLen ∧ ∀ i j, i < n → j < sz → ∃ a, p = some a ∧ w.cell? (a.add (i * sz + j)) = some (f i j) := by
  obtain ⟨u, hu⟩ := h.sat.getB hk
  obtain ⟨p, cap, rfl, h2⟩ := h.sat.blk k _ u hk hu
  exact ⟨p, cap, hu, h2⟩
theorem own_eq {w : World} {b : Nat} {xs ys : Array Value} (h : Own w b xs) (e : xs = ys) : Own w b ys := e ▸ h
theorem grown_setCell (w : World) (b i : Nat) (x : Value) : w.grownBy (w.setCell ⟨b, i, none⟩ x) (some b) :=
  ⟨rfl, rfl, rfl, by simp, fun k _ hne => Below.heap_setCell _ _ _ _ (fun e => hne (by rw [e]))⟩
/-- one cell of one's own row is written -/
theorem Mem.set1 {w0 : World} {bs : List Nat} {H : List Blk} {B : List Value} {w : World} (h : Mem w0 bs H B w) {k : Nat} {cells : List SV} (hk : H[k]? = some (.own cells)) {b : Nat} (hb : B[k]? = some (.pointer (some ⟨b, 0, none⟩)))
    {i : Nat} (hi : i < cells.length) {s : SV} {x : Value} (hs : s.to B = some x) : Mem w0 bs (H.set k (.own (cells.set i s))) B (w.setCell ⟨b, i, none⟩ x) := by
  refine h.upd hk rfl hb (grown_setCell w b i x) rfl ?_
  obtain ⟨b', vs, g1, g2, g3⟩ := h.own_at hk
  rw [hb] at g1
  simp only [Option.some.injEq, Value.pointer.injEq, Addr.mk.injEq] at g1
  obtain ⟨rfl, -⟩ := g1
  refine ⟨b, vs.set i x, rfl, ?_, own_eq (own_set g3 i (by simpa [tos_length g2] using hi) x) (by simp)⟩
  have : ∀ (l : List SV) (xs : List Value) (i : Nat), SV.tos B l = some xs → SV.tos B (l.set i s) = some (xs.set i x) := by
    intro l
    induction l with
    | nil => intro xs i e; simp only [SV.tos, Option.some.injEq] at e; subst e; rfl
    | cons t l ih =>
      intro xs i e
      simp only [SV.tos] at e
      split at e
      · rename_i y ys h1 h2
        simp only [Option.some.injEq] at e; subst e
        cases i with
        | zero => simp [SV.tos, hs, h2]
        | succ i => simp [SV.tos, h1, ih ys i h2]
      · cases e
  exact this _ _ _ g2
end Go.Proofs.Ytapogkodlempkaa.Sym
