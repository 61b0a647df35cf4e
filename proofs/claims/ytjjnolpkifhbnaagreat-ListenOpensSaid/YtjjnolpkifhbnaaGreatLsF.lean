/- opts.Find: a range over slices.All. No conditions. -/
import Derived.Test.YtjjnolpkifhbnaaGreatOpA
import Derived.RangeFuncBox
import Derived.RangeFuncLeaves
import Derived.RangeFuncWrites
import Derived.RangeFuncNested
import Derived.Shelf.Abstract
import Derived.WalkKit
import Derived.OwnWalkIn
import Derived.TacticsInMore
import Derived.LoopNIn
import Derived.LoopIn
namespace Go.Proofs.YtjjnolpkifhbnaaGreat
set_option linter.unusedVariables false
set_option linter.unusedSimpArgs false
open Go.RowKit Sym Go.ChangeShapes Go.WideShapes Go.ChangeMaps Go.Shelf
attribute [local go_sem] Oper.semAt_some

/-- what has come when k rounds are over -/
def upto {α : Type} (f : Nat → α) (k : Nat) : List α := (List.range k).map f
theorem upto_succ {α : Type} (f : Nat → α) (k : Nat) : upto f (k + 1) = upto f k ++ [f k] := by simp [upto, List.range_succ]
theorem upto_length {α : Type} (f : Nat → α) (k : Nat) : (upto f k).length = k := by simp [upto]
def Op.v (o : Op) : Value := .agg #[.int .i64 o.kind, .string o.val]
/-- options in memory, in blocks below n0 -/
def RowAt (n0 : Nat) (W : World) (v : Value) (n : Nat) (g : Nat → Op) : Prop :=
  ∃ p cap, v = .slice p n cap ∧ n ≤ cap ∧ cap ≤ maxLen ∧ ∀ i j, i < n → j < 2 → ∃ a, p = some a ∧ a.block < n0 ∧ W.cell? (a.add (i * 2 + j)) = some ((g i).c j)
theorem RowAt.below {n0 : Nat} {A B : World} (h : Below n0 A B) {v : Value} {n : Nat} {g : Nat → Op} : RowAt n0 A v n g → RowAt n0 B v n g := by
  rintro ⟨p, cap, e, h1, h2, h3⟩
  refine ⟨p, cap, e, h1, h2, fun i j hi hj => ?_⟩
  obtain ⟨a, e1, e2, e3⟩ := h3 i j hi hj
  exact ⟨a, e1, e2, (h.cell (p := a.add (i * 2 + j)) (by rw [addr_add_block]; exact e2)).trans e3⟩
set_option maxRecDepth 100000 in
set_option maxHeartbeats 2000000 in
theorem all1_in (l Bs n0 n : Nat) (v : Value) (g : Nat → Op) (J Jx : List (Nat × Op) → World → Prop)
    (hY : ∀ pre x W, J pre W → pre.length < n → YieldAt Fence.wide 1 Tryz.prog l #[.int .i64 (x.1 : Int), x.2.v] W fun e W' =>
      (e = .returned (.bool true) ∧ J (pre ++ [x]) W' ∧ Below n0 W W') ∨ (e = .returned (.bool false) ∧ Jx (pre ++ [x]) W'))
    (W : World) (hJa : AbidesFrom W.heap.size J) (hn0 : n0 ≤ W.heap.size) (hn : n ≤ maxLen) (hBs : W.cell? ⟨Bs, 0, none⟩ = some v) (hv : RowAt n0 W v n g) (h0 : J [] W) :
    CallsIn Fence.wide 2 Tryz.prog 78 #[.func (.yield l) #[] #[], .pointer (some ⟨Bs, 0, none⟩)] W fun e W' => (∃ v, e = .returned v) ∧
      ((∃ ys, ys = upto (fun j => (j, g j)) n ∧ J ys W') ∨ (∃ pre, (∃ k, k ≤ n ∧ pre = upto (fun j => (j, g j)) k) ∧ Jx pre W')) := by
  refine callsIn_of_wp Tryz.func78 rfl trivial ?_ rfl
  have hv0 := hv
  obtain ⟨p, cap, rfl, -, -, -⟩ := hv0
  simp only [Tryz.ntmps78, List.size_toArray, List.length_cons, List.length_nil, Nat.reduceAdd, Nat.reduceSub, Array.replicate_succ, Array.replicate_zero, List.push_toArray, List.append_toArray, List.nil_append, List.cons_append]
  unfold maxLen at hn
  gi_wp2
  gi_loopw [7] (fun i wr => ∃ k : Nat, k ≤ n ∧ i = .int .i64 k ∧ J (upto (fun j => (j, g j)) k) wr ∧ Below n0 W wr)
    (fun i _ => n - (intOf i).toNat)
  case atStart => exact ⟨0, Nat.zero_le _, rfl, h0, Below.refl _ _⟩
  case round =>
    obtain ⟨k, hk, rfl, hJs, hnx⟩ := hrel
    by_cases hlt : k < n
    · obtain ⟨q, cap', eq, -, -, hcell⟩ := hv.below hnx
      simp only [Value.slice.injEq] at eq
      obtain ⟨rfl, -, rfl⟩ := eq
      obtain ⟨a, rfl, hab, hc0⟩ := hcell k 0 hlt (by decide)
      obtain ⟨a', e', -, hc1⟩ := hcell k 1 hlt (by decide)
      simp only [Option.some.injEq] at e'
      subst e'
      have hc0 : wr.cell? (a.add (k * 2)) = some (.int .i64 (g k).kind) := hc0
      have hc1 : wr.cell? ⟨(a.add (k * 2)).block, (a.add (k * 2)).off + 1, none⟩ = some (.string (g k).val) := by
        have e : a.add (k * 2 + 1) = (a.add (k * 2)).add 1 := (addr_add_add _ _ _).symm
        rw [e] at hc1; exact hc1
      clear hcell hv
      have hJ2 : J (upto (fun j => (j, g j)) k) (wr.alloc (.cells #[.int .i64 (g k).kind, .string (g k).val] 47)) := hJa _ _ _ none hJs (World.grownBy_alloc _ _ none) (fun r e => by cases e)
      have hnx2 : Below n0 W (wr.alloc (.cells #[.int .i64 (g k).kind, .string (g k).val] 47)) := hnx.alloc (Nat.le_trans hn0 hnx.size) _
      obtain ⟨fn, tmps, assign, body, hy, hR⟩ := hY _ (k, g k) _ hJ2 (by rw [upto_length]; exact hlt)
      simp only [Op.v] at hy
      generalize ha : a.add (k * 2) = a2 at hc0 hc1
      gi_wp2
      refine hR.mono ?_
      rintro e W3 (⟨rfl, hJ3, hk3⟩ | ⟨rfl, hJx3⟩)
      · gi_wp2
        go_roundw
        case rel => exact ⟨k + 1, by omega, by simp, by rw [upto_succ]; exact hJ3, hnx2.trans hk3⟩
        case measure => simp [intOf]; omega
      · gi_wp2
        refine bodyPost_ret (results_none rfl _ _ _) rfl ?_
        exact ⟨⟨_, rfl⟩, .inr ⟨_, ⟨k + 1, by omega, (upto_succ _ _).symm⟩, hJx3⟩⟩
    · obtain rfl : k = n := by omega
      gi_wp2
      go_end0
      exact ⟨⟨_, rfl⟩, .inl ⟨_, rfl, hJs⟩⟩
set_option maxHeartbeats 1000000 in
theorem slices_all (a : Option Addr) (len cap : Nat) (w : World) :
    CallsIn Fence.wide 1 Tryz.prog 55 #[.slice a len cap] w fun e w' => e = .returned (.func (.func 78) #[] #[.pointer (some ⟨w.heap.size, 0, none⟩)]) ∧ w' = w.alloc (.cells #[.slice a len cap] 22) := by
  refine callsIn_of_wp Tryz.func55 rfl trivial ?_ rfl
  simp only [Tryz.ntmps55, List.size_toArray, List.length_cons, List.length_nil, Nat.reduceAdd, Nat.reduceSub, Array.replicate_succ, Array.replicate_zero, List.push_toArray, List.append_toArray, List.nil_append, List.cons_append]
  gi_wp2
  go_ret
  exact ⟨rfl, rfl⟩
theorem opts_all (a : Option Addr) (len cap : Nat) (w : World) :
    CallsIn Fence.wide 2 Tryz.prog 31 #[.slice a len cap] w fun e w' => e = .returned (.func (.func 78) #[] #[.pointer (some ⟨w.heap.size, 0, none⟩)]) ∧ w' = w.alloc (.cells #[.slice a len cap] 22) := by
  refine callsIn_of_wp Tryz.func31 rfl trivial ?_ rfl
  have hfn : Fence.wide.fn 55 := trivial
  simp only [Tryz.ntmps31, List.size_toArray, List.length_cons, List.length_nil, Nat.reduceAdd, Nat.reduceSub, Array.replicate_succ, Array.replicate_zero, List.push_toArray, List.append_toArray, List.nil_append, List.cons_append]
  gi_wp2_with (gi_at_call 55; refine (slices_all _ _ _ _).mono ?_; rintro e w' ⟨rfl, rfl⟩)
  go_ret
  exact ⟨rfl, rfl⟩
theorem all_stops (Bs n0 n : Nat) (v : Value) (g : Nat → Op) (w : World) (hn : n ≤ maxLen) (hBs : Bs < w.heap.size) (hn0 : n0 ≤ w.heap.size) (hc : w.cell? ⟨Bs, 0, none⟩ = some v) (hv : RowAt n0 w v n g) :
    SeqStopsK Fence.wide 2 Tryz.prog 78 #[.pointer (some ⟨Bs, 0, none⟩)] (fun x : Nat × Op => #[Value.int .i64 (x.1 : Int), x.2.v]) (Below n0) (fun ys => ys = upto (fun j => (j, g j)) n)
      (fun pre => ∃ k, k ≤ n ∧ pre = upto (fun j => (j, g j)) k) n w := fun l J Jx W hW hJa _ hY h0 => by
  have hc' := (hW.cell (p := ⟨Bs, 0, none⟩) hBs).trans hc
  exact all1_in l Bs n0 n v g J Jx hY W hJa (Nat.le_trans hn0 hW.size) hn hc' (hv.below (hW.mono hn0)) h0
def isK (g : Nat → Op) (k : Int) (i : Nat) : Bool := decide ((g i).kind = k)
def findE (n : Nat) (g : Nat → Op) (k : Int) : Nat := firstOf (isK g k) n 0
/-- the bytes of the first option of a kind -/
def findV (n : Nat) (g : Nat → Op) (k : Int) : ByteArray := if findE n g k < n then (g (findE n g k)).val else ⟨⟨[]⟩⟩
def findB (n : Nat) (g : Nat → Op) (k : Int) : Bool := Nat.blt (findE n g k) n
theorem find_no {n : Nat} {g : Nat → Op} {kd : Int} (h : ∀ i, i < n → (g i).kind ≠ kd) (k : Int) (hk : k = kd) : Ending.returned (.tuple #[.string (findV n g k), .bool (findB n g k)]) = .returned (.tuple #[.string ⟨#[]⟩, .bool false]) := by
  subst hk
  obtain ⟨h1, -, h3⟩ := firstOf_le (isK g k) n
  have hE : ¬ findE n g k < n := fun hl => by
    have := h3 hl
    unfold isK at this
    exact h _ hl (of_decide_eq_true this)
  have hb : findB n g k = false := by unfold findB; rw [← Bool.not_eq_true, Nat.blt_eq]; exact hE
  rw [hb]
  unfold findV
  rw [if_neg hE]
theorem find_yes {n : Nat} {g : Nat → Op} {kd : Int} {k : Nat} (h : ∀ i, i < k → (g i).kind ≠ kd) (hk : (g k).kind = kd) (hlt : k < n) : Ending.returned (.tuple #[.string (findV n g kd), .bool (findB n g kd)]) = .returned (.tuple #[.string (g k).val, .bool true]) := by
  obtain ⟨h1, h2, h3⟩ := firstOf_le (isK g kd) n
  have hE : findE n g kd = k := by
    show firstOf (isK g kd) n 0 = k
    rcases Nat.lt_trichotomy (firstOf (isK g kd) n 0) k with hl | he | hg
    · have := h3 (by omega)
      unfold isK at this
      exact absurd (of_decide_eq_true this) (h _ hl)
    · exact he
    · have := h2 k hg
      unfold isK at this
      exact absurd hk (of_decide_eq_false this)
  have hb : findB n g kd = true := by unfold findB; rw [Nat.blt_eq, hE]; exact hlt
  rw [hb]
  unfold findV
  rw [if_pos (by rw [hE]; exact hlt), hE]
/-- an option in a block of its own -/
def Box2 (W : World) (B : Nat) (o : Op) : Prop := W.heap[B]? = some (.cells #[.int .i64 o.kind, .string o.val] 47 (0, 0))
theorem box2_new (W : World) (o : Op) : Box2 (W.alloc (.cells #[.int .i64 o.kind, .string o.val] 47)) W.heap.size o := heap_alloc_new W _
theorem box2_kept {W W' : World} {B : Nat} {o : Op} {row : Option Nat} (h : Box2 W B o) (hg : W.grownBy W' row) (hr : ∀ r, row = some r → ∃ o : Obj, W.heap[r]? = some o ∧ o.isCells = false) : Box2 W' B o := by
  refine (hg.block B (Array.getElem?_eq_some_iff.1 h).1 (fun e => ?_)).trans h
  obtain ⟨o', ho, hc⟩ := hr B e.symm
  rw [show W.heap[B]? = _ from h] at ho
  cases ho; cases hc
theorem box2_cells {W : World} {B : Nat} {o : Op} (h : Box2 W B o) : W.cell? ⟨B, 0, none⟩ = some (.int .i64 o.kind) ∧ W.cell? ⟨B, 1, none⟩ = some (.string o.val) := by
  constructor <;> simp [World.cell?, show W.heap[B]? = _ from h]
set_option maxRecDepth 100000 in
set_option maxHeartbeats 2000000 in
theorem opts_Find_in (n : Nat) (g : Nat → Op) (kd : Int) (v : Value) (w : World) (hn : n ≤ maxLen) (hv : RowAt w.heap.size w v n g) :
    CallsIn Fence.wide 3 Tryz.prog 13 #[v, .int .i64 kd] w fun e w' => e = .returned (.tuple #[.string (findV n g kd), .bool (findB n g kd)]) ∧ Below w.heap.size w w' := by
  have hv0 := hv
  obtain ⟨p, cap, rfl, -, -, -⟩ := hv0
  refine callsIn_of_wp_marks Tryz.func13 rfl trivial ?_ rfl
  simp only [Tryz.ntmps13, List.size_toArray, List.length_cons, List.length_nil, Nat.reduceAdd, Nat.reduceSub, Array.replicate_succ, Array.replicate_zero, List.push_toArray, List.append_toArray, List.nil_append, List.cons_append]
  have hfn : Fence.wide.fn 31 := trivial
  gi_wp2_with (gi_at_call 31; refine (callsIn_wide.2 (callsIn_wide.1 (opts_all _ _ _ _))).mono ?_; rintro e w' ⟨rfl, rfl⟩)
  have bK := ((Boxed.new w 3 (.int .i64 kd)).alloc (.cells #[.string ⟨#[]⟩] 9)).alloc (.cells #[.bool false] 4)
  have bV := (Boxed.new (w.alloc (.cells #[.int .i64 kd] 3)) 9 (.string ⟨#[]⟩)).alloc (.cells #[.bool false] 4)
  have bB := Boxed.new ((w.alloc (.cells #[.int .i64 kd] 3)).alloc (.cells #[.string ⟨#[]⟩] 9)) 4 (.bool false)
  have bS := Boxed.new (((w.alloc (.cells #[.int .i64 kd] 3)).alloc (.cells #[.string ⟨#[]⟩] 9)).alloc (.cells #[.bool false] 4)) 22 (.slice p n cap)
  have bK := bK.alloc (.cells #[.slice p n cap] 22)
  have bV := bV.alloc (.cells #[.slice p n cap] 22)
  have bB := bB.alloc (.cells #[.slice p n cap] 22)
  simp only [World.size_alloc] at bK bV bB bS
  have hB0 : Below w.heap.size w ((((w.alloc (.cells #[.int .i64 kd] 3)).alloc (.cells #[.string ⟨#[]⟩] 9)).alloc (.cells #[.bool false] 4)).alloc (.cells #[.slice p n cap] 22)) := ((((Below.refl _ w).alloc (Nat.le_refl _) _).alloc (by simp) _).alloc (by simp; omega) _).alloc (by simp; omega) _
  have hsz : ((((w.alloc (.cells #[.int .i64 kd] 3)).alloc (.cells #[.string ⟨#[]⟩] 9)).alloc (.cells #[.bool false] 4)).alloc (.cells #[.slice p n cap] 22)).heap.size = w.heap.size + 4 := by simp
  obtain ⟨W0, hW0⟩ : ∃ W0, (((w.alloc (.cells #[.int .i64 kd] 3)).alloc (.cells #[.string ⟨#[]⟩] 9)).alloc (.cells #[.bool false] 4)).alloc (.cells #[.slice p n cap] 22) = W0 := ⟨_, rfl⟩
  rw [hW0] at bK bV bB bS hB0 hsz ⊢
  clear hW0
  refine wpIn_rangeFunc_ownH rfl (by decide) (gf := 78) (lb := #[.pointer (some ⟨w.heap.size + 1 + 1 + 1, 0, none⟩)]) rfl trivial (enters_of Tryz.func78 (by kernel_rfl) rfl)
    (all_stops (w.heap.size + 1 + 1 + 1) w.heap.size n (.slice p n cap) g W0 hn (by omega) (by omega) bS.cell (hv.below hB0)) belowK_t (belowK_b (by omega)) (Below.refl _ _) (fun _ => rfl)
    (fun pre W => ((Boxed W w.heap.size 3 (.int .i64 kd) ∧ Boxed W (w.heap.size + 1) 9 (.string ⟨#[]⟩)) ∧ Boxed W (w.heap.size + 1 + 1) 4 (.bool false)) ∧ ((∀ x ∈ pre, x.2.kind ≠ kd) ∧ Below w.heap.size w W))
    (fun c pre W => (c = .ret ∧ ∃ ini last, pre = ini ++ [last] ∧ (∀ x ∈ ini, x.2.kind ≠ kd) ∧ last.2.kind = kd ∧ Boxed W (w.heap.size + 1) 9 (.string last.2.val) ∧ Boxed W (w.heap.size + 1 + 1) 4 (.bool true)) ∧ Below w.heap.size w W)
    (OwnFrom.and (OwnFrom.and (OwnFrom.and (Own.from (boxed_own _ _ _) _) (Own.from (boxed_own _ _ _) _)) (Own.from (boxed_own _ _ _) _)) (OwnFrom.and (ownFrom_pure _ _) (ownFrom_below (Nat.le_refl _) (by omega))))
    (fun c => OwnFrom.and (Own.from (fun s A B row hs hg hr => by
      obtain ⟨hc, ini, last, e1, e2, e3, e4, e5⟩ := hs
      exact ⟨hc, ini, last, e1, e2, e3, boxed_own _ _ (fun (_ : Unit) => Value.string last.2.val) () A B row e4 hg hr, boxed_own _ _ (fun (_ : Unit) => Value.bool true) () A B row e5 hg hr⟩) _) (ownFrom_below (Nat.le_refl _) (by omega)))
    ⟨⟨⟨bK, bV⟩, bB⟩, by simp, hB0⟩
    (fun x a' W => ∃ Bx, w.heap.size + 1 + 1 < Bx ∧ Box2 W Bx x.2 ∧ a' = { tmps := #[.slice p n cap, .int .i64 kd, undef, .pointer (some ⟨w.heap.size, 0, none⟩), .pointer (some ⟨w.heap.size + 1, 0, none⟩), .pointer (some ⟨w.heap.size + 1 + 1, 0, none⟩), undef, .pointer (some ⟨Bx, 0, none⟩), .slice p n cap, .func (.func 78) #[] #[.pointer (some ⟨w.heap.size + 1 + 1 + 1, 0, none⟩)], .int .i64 (x.1 : Int), x.2.v, undef, undef, undef, undef, undef, undef], defers := [] })
    (fun x a' _ X Y row hs hg hr => by obtain ⟨Bx, h1, h2, h3⟩ := hs; exact ⟨Bx, h1, box2_kept h2 hg (fun r e => (hr r e).2), h3⟩)
    ?assign ?body ?done ?stop
  case assign =>
    rintro l pre x W K ⟨⟨⟨bK1, bV1⟩, bB1⟩, hne, hB1⟩ hK
    have hsW := hB1.size
    simp only [Op.v]
    gi_wp2
    exact hK _ _ ((KeepsOthers.alloc _ _).from _) ((Below.refl _ W).alloc hsW _) ⟨⟨⟨bK1.alloc _, bV1.alloc _⟩, bB1.alloc _⟩, hne, hB1.alloc hsW _⟩ ⟨W.heap.size, bB1.lt, box2_new W _, rfl⟩
  case body =>
    rintro l pre x a' W hl hr ⟨⟨⟨bK1, bV1⟩, bB1⟩, hne, hB1⟩ ⟨Bx, hBx, bX, rfl⟩ hlt
    have cK := bK1.cell
    have cV := bV1.cell
    have fV := bV1.frozen
    have cB := bB1.cell
    have fB := bB1.frozen
    obtain ⟨cx, cy⟩ := box2_cells bX
    by_cases hx : x.2.kind = kd
    · gi_wp2
      exact ⟨((KeepsOthers.setCell _ _ _).trans (KeepsOthers.setCell _ _ _)).from _, ⟨rfl, pre, x, rfl, hne, hx, (bV1.set _).other (by omega) _, (bB1.other (by omega) _).set _⟩, (hB1.setCell (p := ⟨w.heap.size + 1, 0, none⟩) (by simp) _).setCell (p := ⟨w.heap.size + 1 + 1, 0, none⟩) (by simp; omega) _⟩
    · gi_wp2
      exact ⟨KeepsFrom.refl _ _, Below.refl _ _, ⟨⟨bK1, bV1⟩, bB1⟩, fun y hy => (List.mem_append.1 hy).elim (hne y) (fun e => by simp at e; subst e; exact hx), hB1⟩
  case done =>
    rintro D ys W hD rfl ⟨⟨⟨bK1, bV1⟩, bB1⟩, hne, hB1⟩ hK
    have cV := bV1.cell
    have fV := bV1.frozen
    have cB := bB1.cell
    have fB := bB1.frozen
    gi_wp2
    have hK' := ((KeepsOthers.setCell W ⟨w.heap.size + 1, 0, none⟩ (.string ⟨#[]⟩)).trans (KeepsOthers.setCell _ ⟨w.heap.size + 1 + 1, 0, none⟩ (.bool false))).same D _ hK rfl
    have dV := ((bV1.set (.string ⟨#[]⟩)).other (B' := w.heap.size + 1 + 1) (by omega) (.bool false)).cell
    have dB := ((bB1.other (B' := w.heap.size + 1) (by omega) (.string ⟨#[]⟩)).set (.bool false)).cell
    have hB2 := (hB1.setCell (p := ⟨w.heap.size + 1, 0, none⟩) (by simp) (.string ⟨#[]⟩)).setCell (p := ⟨w.heap.size + 1 + 1, 0, none⟩) (by simp; omega) (.bool false)
    refine ⟨by simp, .inl ⟨_, _, rfl, run_takeDeferred hK', ?_⟩⟩
    have c1 := cell_kept dV (grownBy_putObj' _ D (.deferred none)) (fun r e => by cases e; exact ⟨_, hK', rfl⟩)
    have c2 := cell_kept dB (grownBy_putObj' _ D (.deferred none)) (fun r e => by cases e; exact ⟨_, hK', rfl⟩)
    have hno : ∀ i, i < n → (g i).kind ≠ kd := fun i hi => hne (i, g i) (by simp only [upto, List.mem_map, List.mem_range]; exact ⟨i, hi, rfl⟩)
    refine ⟨.tuple #[.string ⟨#[]⟩, .bool false], ?_, ?_, hB2.trans (belowK_b (w := w) (Nat.le_refl _) _ D _ _ (by omega) hK' rfl rfl)⟩
    · simp [results, Tryz.f13, go_sem, c1, c2]
    · rw [find_no hno kd rfl]
  case stop =>
    rintro D c pre W hD ⟨k, hk, rfl⟩ ⟨⟨rfl, ini, last, e1, e2, e3, bV1, bB1⟩, hB1⟩ hK
    have cV := bV1.cell
    have cB := bB1.cell
    gi_wp2
    refine ⟨by simp, .inl ⟨_, _, rfl, run_takeDeferred hK, ?_⟩⟩
    have c1 := cell_kept cV (grownBy_putObj' _ D (.deferred none)) (fun r e => by cases e; exact ⟨_, hK, rfl⟩)
    have c2 := cell_kept cB (grownBy_putObj' _ D (.deferred none)) (fun r e => by cases e; exact ⟨_, hK, rfl⟩)
    obtain ⟨k', rfl⟩ : ∃ k', k = k' + 1 := by
      cases k with
      | zero => simp [upto] at e1
      | succ k' => exact ⟨k', rfl⟩
    rw [upto_succ] at e1
    obtain ⟨rfl, e5⟩ := List.append_inj' e1 rfl
    obtain rfl : (k', g k') = last := by simpa using e5
    have hno : ∀ i, i < k' → (g i).kind ≠ kd := fun i hi => e2 (i, g i) (by simp only [upto, List.mem_map, List.mem_range]; exact ⟨i, hi, rfl⟩)
    refine ⟨.tuple #[.string (g k').val, .bool true], ?_, ?_, hB1.trans (belowK_b (w := w) (Nat.le_refl _) _ D _ _ (by omega) hK rfl rfl)⟩
    · simp [results, Tryz.f13, go_sem, c1, c2]
    · rw [find_yes hno e3 (by omega)]
theorem row_at {w : World} {v : Value} {n : Nat} {g : Nat → Op} (h : ∀ B, BlkSat B w v (.row n 2 fun i j => (g i).c j)) : RowAt w.heap.size w v n g := by
  obtain ⟨p, cap, e, h1, h2, h3⟩ := h []
  refine ⟨p, cap, e, h1, h2, fun i j hi hj => ?_⟩
  obtain ⟨a, e1, e2⟩ := h3 i j hi hj
  exact ⟨a, e1, by have := lt_of_cell e2; rwa [addr_add_block] at this, e2⟩
theorem opts_Find (n : Nat) (g : Nat → Op) (hn : n ≤ maxLen) (kd : Int) (v : Value) (w : World) (hv : ∀ B, BlkSat B w v (.row n 2 fun i j => (g i).c j)) : Calls Tryz.prog 13 #[v, .int .i64 kd] w fun e w' => e = .returned (.tuple #[.string (findV n g kd), .bool (findB n g kd)]) ∧ Below w.heap.size w w' :=
  callsIn_wide.1 (opts_Find_in n g kd v w hn (row_at hv))
def fFind : List SV → List Blk → Option (List Prop × Value)
  | [s, .v (.int .i64 k)], H => (rowIn 2 H s).bind fun q => some ([q.1 ≤ maxLen ∧ AllOp q.1 q.2], .tuple #[.string (findV q.1 (opF q.2) k), .bool (findB q.1 (opF q.2) k)])
  | _, _ => none
theorem fFind_ok : ReadOk Tryz.prog 13 fFind := by
  intro ss H p v h bs B w vs hm hv hp
  unfold fFind at h
  split at h
  · simp only [Option.bind_eq_some_iff, Option.some.injEq, Prod.mk.injEq] at h
    obtain ⟨⟨n, f⟩, hr, rfl, rfl⟩ := h
    obtain ⟨x0, r0, e0, v0, rfl⟩ := tos_cons hv
    obtain ⟨x1, r1, e1, v1, rfl⟩ := tos_cons v0
    obtain rfl := tos_nil v1
    simp only [SV.to, Option.some.injEq] at e1
    subst e1
    obtain ⟨h1, h2⟩ := hp _ (List.mem_cons_self ..)
    exact opts_Find n (opF f) h1 _ x0 w (op_row (rowIn_ok hm e0 hr) h2)
  · cases h
end Go.Proofs.YtjjnolpkifhbnaaGreat
