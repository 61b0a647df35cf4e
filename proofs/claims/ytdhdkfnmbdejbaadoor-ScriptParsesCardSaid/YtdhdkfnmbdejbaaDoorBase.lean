/- Small lemmas that all other texts of this claim use: what a world below a mark keeps, and how a returned value is told. -/
import Derived.Test.YtdhdkfnmbdejbaaDoorRows
import Derived.Handy
import Derived.ProofKit
import Derived.ShutString
import Derived.ChangeOld
import Derived.WalkLawsBesides
import Derived.WalkSpells
import Derived.Lib.Hide
import Derived.Deep.Light
import Derived.PlainAid
import Derived.BigQuiet
import Derived.Deep.QuietTactic
import Derived.Deep.LoopGhost
namespace Go.Proofs.YtdhdkfnmbdejbaaDoor
set_option linter.unusedVariables false
set_option linter.unusedSimpArgs false
open Go.RowKit

theorem bcell {W w1 : World} (hb : Below W.heap.size W w1) : (∀ b o, b < W.heap.size → w1.cell? ⟨b, o, none⟩ = W.cell? ⟨b, o, none⟩) ∧ (∀ b o, b < W.heap.size → w1.frozen? ⟨b, o, none⟩ = W.frozen? ⟨b, o, none⟩) :=
  ⟨fun b o h => hb.cell (p := ⟨b, o, none⟩) h, fun b o h => hb.frozen (p := ⟨b, o, none⟩) h⟩
theorem ret_v {u v : Value} (h : u = v) : Ending.returned u = Ending.returned v := by rw [h]
theorem ret_i {k : IntKind} {a b : Int} (h : a = b) : Ending.returned (.int k a) = Ending.returned (.int k b) := by rw [h]
theorem ret_b {a b : Bool} (h : a = b) : Ending.returned (.bool a) = Ending.returned (.bool b) := by rw [h]
theorem ret_s {a b : ByteArray} (h : a = b) : Ending.returned (.string a) = Ending.returned (.string b) := by rw [h]
/-- contracts that leave the world as it is, for a region that draws its order -/
theorem quiet_add_left {P : Program} {f : FuncId} {args : Array Value} {w : World} {a n : Nat} {v : Value}
    (h : Calls P f args (w.drewN (a + n)) fun e w' => e = .returned v ∧ w.drewN (a + n) = w') :
    Calls P f args (w.drewN (a + n)) fun e w'' => e = .returned v ∧ ∃ m, w'' = w.drewN (a + m) :=
  h.mono fun _ _ ⟨he, hm⟩ => ⟨he, n, hm.symm⟩
theorem quiet_left {P : Program} {f : FuncId} {args : Array Value} {w : World} {n : Nat} {v : Value}
    (h : Calls P f args (w.drewN n) fun e w' => e = .returned v ∧ w.drewN n = w') : Calls P f args (w.drewN n) fun e w'' => e = .returned v ∧ ∃ m, w'' = w.drewN m :=
  h.mono fun _ _ ⟨he, hm⟩ => ⟨he, n, hm.symm⟩
theorem below_drewN {B : Nat} {a w : World} (h : Below B a w) (n : Nat) : Below B a (w.drewN n) := ⟨h.os, h.tape, h.output, h.size, h.block⟩
theorem size_drewN (w : World) (n : Nat) : (w.drewN n).heap.size = w.heap.size := rfl
theorem below_of {w w0 w1 : World} (h0 : Below w.heap.size w w0) (hb : Below w0.heap.size w0 w1) : Below w.heap.size w w1 := h0.trans (hb.mono h0.size)
theorem below_alloc {w w0 : World} (h0 : Below w.heap.size w w0) (o : Obj) : Below w.heap.size w (w0.alloc o) := h0.alloc h0.size o
theorem below_size {w w0 : World} (h0 : Below w.heap.size w w0) : w.heap.size ≤ w0.heap.size := h0.size
/-- block B of a world is a row of cells of the call's own: what each holds, that each may be written. -/
def Own (W : World) (B : Nat) (cs : Array Value) : Prop := B < W.heap.size ∧ (∀ j, W.cell? ⟨B, j, none⟩ = cs[j]?) ∧ ∀ j, W.frozen? ⟨B, j, none⟩ = false
theorem own_new (w : World) (cs : Array Value) (t : TypeId) : Own (w.alloc (.cells cs t)) w.heap.size cs :=
  ⟨by simp, fun j => by simp, fun j => by simp [go_sem]⟩
theorem own_new' (w : World) (cs : Array Value) (t : TypeId) {B : Nat} (h : B = w.heap.size) : Own (w.alloc (.cells cs t)) B cs := by
  subst h; exact own_new w cs t
theorem own_alloc {W : World} {B : Nat} {cs : Array Value} (h : Own W B cs) (o : Obj) : Own (W.alloc o) B cs :=
  ⟨by have := h.1; simp; omega, fun j => by exact (World.cell?_alloc_lt (w := W) (o := o) (a := ⟨B, j, none⟩) (h := h.1)).trans (h.2.1 j), fun j => by rw [World.frozen?_alloc_old _ _ _ (by have := h.1; simp; omega)]; exact h.2.2 j⟩
theorem own_drewN {W : World} {B : Nat} {cs : Array Value} (h : Own W B cs) (n : Nat) : Own (W.drewN n) B cs := h
theorem own_drew {W : World} {B : Nat} {cs : Array Value} (h : Own W B cs) : Own W.drew B cs := h
theorem own_below {W w1 : World} {B : Nat} {cs : Array Value} (h : Own W B cs) (hb : Below W.heap.size W w1) : Own w1 B cs :=
  ⟨Nat.lt_of_lt_of_le h.1 hb.size, fun j => by rw [hb.cell (p := ⟨B, j, none⟩) h.1]; exact h.2.1 j, fun j => by rw [hb.frozen (p := ⟨B, j, none⟩) h.1]; exact h.2.2 j⟩
theorem own_step {W w1 : World} {B : Nat} {cs : Array Value} {G : Prop} (hb : Below W.heap.size W w1) (h : Own W B cs) (k : Own w1 B cs → G) : G := k (own_below h hb)
theorem frozen?_set (W : World) (p q : Addr) (v : Value) : (W.setCell p v).frozen? q = W.frozen? q := by
  simp
theorem own_set_other {W : World} {B : Nat} {cs : Array Value} (h : Own W B cs) {p : Addr} (hp : p.block ≠ B) (v : Value) : Own (W.setCell p v) B cs :=
  ⟨by have := h.1; simpa [World.size_setCell] using this, fun j => by exact (World.cell?_setCell_other (w := W) (a := p) (b := ⟨B, j, none⟩) (v := v) (h := fun e => hp (by rw [e]))).trans (h.2.1 j), fun j => by rw [frozen?_set]; exact h.2.2 j⟩
theorem own_set {W : World} {B : Nat} {cs : Array Value} (h : Own W B cs) (i : Nat) (hi : i < cs.size) (v : Value) : Own (W.setCell ⟨B, i, none⟩ v) B (cs.set i v) := by
  refine ⟨by have := h.1; simpa [World.size_setCell] using this, fun j => ?_, fun j => by rw [frozen?_set]; exact h.2.2 j⟩
  by_cases e : j = i
  · subst e
    rw [World.cell?_setCell_same (w := W) (a := ⟨B, j, none⟩) (v := v) (h := (h.2.1 j).trans (Array.getElem?_eq_getElem hi))]
    simp [hi]
  · rw [World.cell?_setCell_other (w := W) (a := ⟨B, i, none⟩) (b := ⟨B, j, none⟩) (v := v) (h := fun h => e (by injection h with _ h2; exact h2.symm)), h.2.1 j, Array.getElem?_set]
    simp [Ne.symm e]
theorem cell?_set_none {W : World} {a : Addr} {v : Value} (h : W.cell? a = none) : (W.setCell a v).cell? a = none := by
  rcases hg : W.heap[a.block]? with _ | o
  · simp [World.setCell, World.cell?, Array.getElem?_modify, hg]
  · cases o <;> simp [World.setCell, World.cell?, Array.getElem?_modify, hg] at h ⊢
    intro hs; simpa [hs] using h hs
theorem own_setT {W : World} {B : Nat} {cs : Array Value} {i : Nat} {v : Value} (h : Own W B cs) : Own (W.setCell ⟨B, i, none⟩ v) B (cs.setIfInBounds i v) := by
  by_cases hi : i < cs.size
  · rw [Array.setIfInBounds_def, dif_pos hi]; exact own_set h i hi v
  · rw [Array.setIfInBounds_def, dif_neg hi]
    refine ⟨by have := h.1; simpa [World.size_setCell] using this, fun j => ?_, fun j => by rw [frozen?_set]; exact h.2.2 j⟩
    by_cases e : j = i
    · subst e
      rw [cell?_set_none (by rw [h.2.1 j, Array.getElem?_eq_none (by omega)]), Array.getElem?_eq_none (by omega)]
    · rw [World.cell?_setCell_other (w := W) (a := ⟨B, i, none⟩) (b := ⟨B, j, none⟩) (v := v) (h := fun h => e (by injection h with _ h2; exact h2.symm)), h.2.1 j]
theorem own_set_otherH {W : World} {B : Nat} {cs : Array Value} {p : Addr} {v : Value} (hp : p.block ≠ B) (h : Own W B cs) : Own (W.setCell p v) B cs := own_set_other h hp v
theorem own_conv {W : World} {B : Nat} {cs cs' : Array Value} (h : Own W B cs) (e : cs = cs') : Own W B cs' := e ▸ h
theorem lt_of_cell {W : World} {p : Addr} {u : Value} (h : W.cell? p = some u) : p.block < W.heap.size := by
  rcases Nat.lt_or_ge p.block W.heap.size with h' | h'
  · exact h'
  · simp [World.cell?, Array.getElem?_eq_none h'] at h
theorem old_cell {W w1 : World} {p : Addr} {v : Value} (hb : Below W.heap.size W w1) (h : W.cell? p = some v) : w1.cell? p = some v := (hb.cell (lt_of_cell h)).trans h
theorem alloc_cell {W : World} {p : Addr} {v : Value} (h : W.cell? p = some v) (o : Obj) : (W.alloc o).cell? p = some v := (World.cell?_alloc_lt (w := W) (o := o) (a := p) (h := lt_of_cell h)).trans h
set_option maxRecDepth 100000 in
theorem list1 (l : List Value) (h : l.length = 1) : ∃ c0 : Value, l = [c0] := by
  match l, h with
  | [c0], _ => exact ⟨_, rfl⟩
set_option maxRecDepth 100000 in
theorem list2 (l : List Value) (h : l.length = 2) : ∃ c0 c1 : Value, l = [c0, c1] := by
  match l, h with
  | [c0, c1], _ => exact ⟨_, _, rfl⟩
set_option maxRecDepth 100000 in
theorem list3 (l : List Value) (h : l.length = 3) : ∃ c0 c1 c2 : Value, l = [c0, c1, c2] := by
  match l, h with
  | [c0, c1, c2], _ => exact ⟨_, _, _, rfl⟩
set_option maxRecDepth 100000 in
theorem list4 (l : List Value) (h : l.length = 4) : ∃ c0 c1 c2 c3 : Value, l = [c0, c1, c2, c3] := by
  match l, h with
  | [c0, c1, c2, c3], _ => exact ⟨_, _, _, _, rfl⟩
set_option maxRecDepth 100000 in
theorem list5 (l : List Value) (h : l.length = 5) : ∃ c0 c1 c2 c3 c4 : Value, l = [c0, c1, c2, c3, c4] := by
  match l, h with
  | [c0, c1, c2, c3, c4], _ => exact ⟨_, _, _, _, _, rfl⟩
set_option maxRecDepth 100000 in
theorem list6 (l : List Value) (h : l.length = 6) : ∃ c0 c1 c2 c3 c4 c5 : Value, l = [c0, c1, c2, c3, c4, c5] := by
  match l, h with
  | [c0, c1, c2, c3, c4, c5], _ => exact ⟨_, _, _, _, _, _, rfl⟩
set_option maxRecDepth 100000 in
theorem list7 (l : List Value) (h : l.length = 7) : ∃ c0 c1 c2 c3 c4 c5 c6 : Value, l = [c0, c1, c2, c3, c4, c5, c6] := by
  match l, h with
  | [c0, c1, c2, c3, c4, c5, c6], _ => exact ⟨_, _, _, _, _, _, _, rfl⟩
set_option maxRecDepth 100000 in
theorem list8 (l : List Value) (h : l.length = 8) : ∃ c0 c1 c2 c3 c4 c5 c6 c7 : Value, l = [c0, c1, c2, c3, c4, c5, c6, c7] := by
  match l, h with
  | [c0, c1, c2, c3, c4, c5, c6, c7], _ => exact ⟨_, _, _, _, _, _, _, _, rfl⟩
set_option maxRecDepth 100000 in
theorem list9 (l : List Value) (h : l.length = 9) : ∃ c0 c1 c2 c3 c4 c5 c6 c7 c8 : Value, l = [c0, c1, c2, c3, c4, c5, c6, c7, c8] := by
  match l, h with
  | [c0, c1, c2, c3, c4, c5, c6, c7, c8], _ => exact ⟨_, _, _, _, _, _, _, _, _, rfl⟩
set_option maxRecDepth 100000 in
theorem list10 (l : List Value) (h : l.length = 10) : ∃ c0 c1 c2 c3 c4 c5 c6 c7 c8 c9 : Value, l = [c0, c1, c2, c3, c4, c5, c6, c7, c8, c9] := by
  match l, h with
  | [c0, c1, c2, c3, c4, c5, c6, c7, c8, c9], _ => exact ⟨_, _, _, _, _, _, _, _, _, _, rfl⟩
set_option maxRecDepth 100000 in
theorem list11 (l : List Value) (h : l.length = 11) : ∃ c0 c1 c2 c3 c4 c5 c6 c7 c8 c9 c10 : Value, l = [c0, c1, c2, c3, c4, c5, c6, c7, c8, c9, c10] := by
  match l, h with
  | [c0, c1, c2, c3, c4, c5, c6, c7, c8, c9, c10], _ => exact ⟨_, _, _, _, _, _, _, _, _, _, _, rfl⟩
set_option maxRecDepth 100000 in
theorem list12 (l : List Value) (h : l.length = 12) : ∃ c0 c1 c2 c3 c4 c5 c6 c7 c8 c9 c10 c11 : Value, l = [c0, c1, c2, c3, c4, c5, c6, c7, c8, c9, c10, c11] := by
  match l, h with
  | [c0, c1, c2, c3, c4, c5, c6, c7, c8, c9, c10, c11], _ => exact ⟨_, _, _, _, _, _, _, _, _, _, _, _, rfl⟩
set_option maxRecDepth 100000 in
theorem list13 (l : List Value) (h : l.length = 13) : ∃ c0 c1 c2 c3 c4 c5 c6 c7 c8 c9 c10 c11 c12 : Value, l = [c0, c1, c2, c3, c4, c5, c6, c7, c8, c9, c10, c11, c12] := by
  match l, h with
  | [c0, c1, c2, c3, c4, c5, c6, c7, c8, c9, c10, c11, c12], _ => exact ⟨_, _, _, _, _, _, _, _, _, _, _, _, _, rfl⟩
set_option maxRecDepth 100000 in
theorem list14 (l : List Value) (h : l.length = 14) : ∃ c0 c1 c2 c3 c4 c5 c6 c7 c8 c9 c10 c11 c12 c13 : Value, l = [c0, c1, c2, c3, c4, c5, c6, c7, c8, c9, c10, c11, c12, c13] := by
  match l, h with
  | [c0, c1, c2, c3, c4, c5, c6, c7, c8, c9, c10, c11, c12, c13], _ => exact ⟨_, _, _, _, _, _, _, _, _, _, _, _, _, _, rfl⟩
set_option maxRecDepth 100000 in
theorem list15 (l : List Value) (h : l.length = 15) : ∃ c0 c1 c2 c3 c4 c5 c6 c7 c8 c9 c10 c11 c12 c13 c14 : Value, l = [c0, c1, c2, c3, c4, c5, c6, c7, c8, c9, c10, c11, c12, c13, c14] := by
  match l, h with
  | [c0, c1, c2, c3, c4, c5, c6, c7, c8, c9, c10, c11, c12, c13, c14], _ => exact ⟨_, _, _, _, _, _, _, _, _, _, _, _, _, _, _, rfl⟩
set_option maxRecDepth 100000 in
theorem list16 (l : List Value) (h : l.length = 16) : ∃ c0 c1 c2 c3 c4 c5 c6 c7 c8 c9 c10 c11 c12 c13 c14 c15 : Value, l = [c0, c1, c2, c3, c4, c5, c6, c7, c8, c9, c10, c11, c12, c13, c14, c15] := by
  match l, h with
  | [c0, c1, c2, c3, c4, c5, c6, c7, c8, c9, c10, c11, c12, c13, c14, c15], _ => exact ⟨_, _, _, _, _, _, _, _, _, _, _, _, _, _, _, _, rfl⟩
set_option maxRecDepth 100000 in
theorem list17 (l : List Value) (h : l.length = 17) : ∃ c0 c1 c2 c3 c4 c5 c6 c7 c8 c9 c10 c11 c12 c13 c14 c15 c16 : Value, l = [c0, c1, c2, c3, c4, c5, c6, c7, c8, c9, c10, c11, c12, c13, c14, c15, c16] := by
  match l, h with
  | [c0, c1, c2, c3, c4, c5, c6, c7, c8, c9, c10, c11, c12, c13, c14, c15, c16], _ => exact ⟨_, _, _, _, _, _, _, _, _, _, _, _, _, _, _, _, _, rfl⟩
set_option maxRecDepth 100000 in
theorem list18 (l : List Value) (h : l.length = 18) : ∃ c0 c1 c2 c3 c4 c5 c6 c7 c8 c9 c10 c11 c12 c13 c14 c15 c16 c17 : Value, l = [c0, c1, c2, c3, c4, c5, c6, c7, c8, c9, c10, c11, c12, c13, c14, c15, c16, c17] := by
  match l, h with
  | [c0, c1, c2, c3, c4, c5, c6, c7, c8, c9, c10, c11, c12, c13, c14, c15, c16, c17], _ => exact ⟨_, _, _, _, _, _, _, _, _, _, _, _, _, _, _, _, _, _, rfl⟩
set_option maxRecDepth 100000 in
theorem list19 (l : List Value) (h : l.length = 19) : ∃ c0 c1 c2 c3 c4 c5 c6 c7 c8 c9 c10 c11 c12 c13 c14 c15 c16 c17 c18 : Value, l = [c0, c1, c2, c3, c4, c5, c6, c7, c8, c9, c10, c11, c12, c13, c14, c15, c16, c17, c18] := by
  match l, h with
  | [c0, c1, c2, c3, c4, c5, c6, c7, c8, c9, c10, c11, c12, c13, c14, c15, c16, c17, c18], _ => exact ⟨_, _, _, _, _, _, _, _, _, _, _, _, _, _, _, _, _, _, _, rfl⟩
set_option maxRecDepth 100000 in
theorem list20 (l : List Value) (h : l.length = 20) : ∃ c0 c1 c2 c3 c4 c5 c6 c7 c8 c9 c10 c11 c12 c13 c14 c15 c16 c17 c18 c19 : Value, l = [c0, c1, c2, c3, c4, c5, c6, c7, c8, c9, c10, c11, c12, c13, c14, c15, c16, c17, c18, c19] := by
  match l, h with
  | [c0, c1, c2, c3, c4, c5, c6, c7, c8, c9, c10, c11, c12, c13, c14, c15, c16, c17, c18, c19], _ => exact ⟨_, _, _, _, _, _, _, _, _, _, _, _, _, _, _, _, _, _, _, _, rfl⟩
end Go.Proofs.YtdhdkfnmbdejbaaDoor
