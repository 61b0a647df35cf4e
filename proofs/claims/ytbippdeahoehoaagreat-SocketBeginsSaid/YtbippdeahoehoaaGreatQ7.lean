/- Parts of a proof: LsF, PmC, PmD, PmE, PmF, PmG, PmH, PmI, SoA, SoB, SoC, SoD, SoE, SoF, SoG, SoH, SoI, SoJ, SoK, SoL, SoM, SoO, SoQ, SoN, SoN0. No conditions. -/
import Derived.Test.YtbippdeahoehoaaGreatQ6
import Derived.RangeFuncBox
import Derived.RangeFuncLeaves
import Derived.RangeFuncWrites
import Derived.RangeFuncNested
import Derived.Shelf.Abstract
import Derived.WalkKit
import Derived.OwnWalkIn
import Derived.TacticsInMore
import Derived.LoopNIn
import Derived.LoopIn
set_option linter.unusedVariables false
set_option linter.unusedSimpArgs false
namespace Go.Proofs.YtbippdeahoehoaaGreat
open Go.RowKit Sym Go.ChangeShapes Go.WideShapes Go.ChangeMaps Go.Shelf
attribute [local go_sem] Oper.semAt_some
def upto {α : Type} (f : Nat → α) (k : Nat) : List α := (List.range k).map f
theorem upto_succ {α : Type} (f : Nat → α) (k : Nat) : upto f (k + 1) = upto f k ++ [f k] := by simp [upto, List.range_succ]
theorem upto_length {α : Type} (f : Nat → α) (k : Nat) : (upto f k).length = k := by simp [upto]
def Op.v (o : Op) : Value := .agg #[.int .i64 o.kind, .string o.val]
def RowAt (n0 : Nat) (W : World) (v : Value) (n : Nat) (g : Nat → Op) : Prop :=
  ∃ p cap, v = .slice p n cap ∧ n ≤ cap ∧ cap ≤ maxLen ∧ ∀ i j, i < n → j < 2 → ∃ a, p = some a ∧ a.block < n0 ∧ W.cell? (a.add (i * 2 + j)) = some ((g i).c j)
theorem RowAt.below {n0 : Nat} {A B : World} (h : Below n0 A B) {v : Value} {n : Nat} {g : Nat → Op} : RowAt n0 A v n g → RowAt n0 B v n g := by
  rintro ⟨p, cap, e, h1, h2, h3⟩
  refine ⟨p, cap, e, h1, h2, fun i j hi hj => ?_⟩
  obtain ⟨a, e1, e2, e3⟩ := h3 i j hi hj
  exact ⟨a, e1, e2, (h.cell (p := a.add (i * 2 + j)) (by rw [addr_add_block]; exact e2)).trans e3⟩
set_option maxRecDepth 100000 in
set_option maxHeartbeats 2000000 in
theorem all1_in (l Bs n0 n : Nat) (v : Value) (g : Nat → Op) (J Jx : List (Nat × Op) → World → Prop)
    (hY : ∀ pre x W, J pre W → pre.length < n → YieldAt Fence.wide 1 Tryz.prog l #[.int .i64 (x.1 : Int), x.2.v] W fun e W' =>
      (e = .returned (.bool true) ∧ J (pre ++ [x]) W' ∧ Below n0 W W') ∨ (e = .returned (.bool false) ∧ Jx (pre ++ [x]) W'))
    (W : World) (hJa : AbidesFrom W.heap.size J) (hn0 : n0 ≤ W.heap.size) (hn : n ≤ maxLen) (hBs : W.cell? ⟨Bs, 0, none⟩ = some v) (hv : RowAt n0 W v n g) (h0 : J [] W) :
    CallsIn Fence.wide 2 Tryz.prog 387 #[.func (.yield l) #[] #[], .pointer (some ⟨Bs, 0, none⟩)] W fun e W' => (∃ v, e = .returned v) ∧
      ((∃ ys, ys = upto (fun j => (j, g j)) n ∧ J ys W') ∨ (∃ pre, (∃ k, k ≤ n ∧ pre = upto (fun j => (j, g j)) k) ∧ Jx pre W')) := by
  refine callsIn_of_wp Tryz.func387 rfl trivial ?_ rfl
  have hv0 := hv
  obtain ⟨p, cap, rfl, -, -, -⟩ := hv0
  simp only [Tryz.ntmps387, List.size_toArray, List.length_cons, List.length_nil, Nat.reduceAdd, Nat.reduceSub, Array.replicate_succ, Array.replicate_zero, List.push_toArray, List.append_toArray, List.nil_append, List.cons_append]
  unfold maxLen at hn
  gi_wp2
  gi_loopw [7] (fun i wr => ∃ k : Nat, k ≤ n ∧ i = .int .i64 k ∧ J (upto (fun j => (j, g j)) k) wr ∧ Below n0 W wr)
    (fun i _ => n - (intOf i).toNat)
  case atStart => exact ⟨0, Nat.zero_le _, rfl, h0, Below.refl _ _⟩
  case round =>
    obtain ⟨k, hk, rfl, hJs, hnx⟩ := hrel
    by_cases hlt : k < n
    · obtain ⟨q, cap', eq, -, -, hcell⟩ := hv.below hnx
      simp only [Value.slice.injEq] at eq
      obtain ⟨rfl, -, rfl⟩ := eq
      obtain ⟨a, rfl, hab, hc0⟩ := hcell k 0 hlt (by decide)
      obtain ⟨a', e', -, hc1⟩ := hcell k 1 hlt (by decide)
      simp only [Option.some.injEq] at e'
      subst e'
      have hc0 : wr.cell? (a.add (k * 2)) = some (.int .i64 (g k).kind) := hc0
      have hc1 : wr.cell? ⟨(a.add (k * 2)).block, (a.add (k * 2)).off + 1, none⟩ = some (.string (g k).val) := by
        have e : a.add (k * 2 + 1) = (a.add (k * 2)).add 1 := (addr_add_add _ _ _).symm
        rw [e] at hc1; exact hc1
      clear hcell hv
      have hJ2 : J (upto (fun j => (j, g j)) k) (wr.alloc (.cells #[.int .i64 (g k).kind, .string (g k).val] 229)) := hJa _ _ _ none hJs (World.grownBy_alloc _ _ none) (fun r e => by cases e)
      have hnx2 : Below n0 W (wr.alloc (.cells #[.int .i64 (g k).kind, .string (g k).val] 229)) := hnx.alloc (Nat.le_trans hn0 hnx.size) _
      obtain ⟨fn, tmps, assign, body, hy, hR⟩ := hY _ (k, g k) _ hJ2 (by rw [upto_length]; exact hlt)
      simp only [Op.v] at hy
      generalize ha : a.add (k * 2) = a2 at hc0 hc1
      gi_wp2
      refine hR.mono ?_
      rintro e W3 (⟨rfl, hJ3, hk3⟩ | ⟨rfl, hJx3⟩)
      · gi_wp2
        go_roundw
        case rel => exact ⟨k + 1, by omega, by simp, by rw [upto_succ]; exact hJ3, hnx2.trans hk3⟩
        case measure => simp [intOf]; omega
      · gi_wp2
        refine bodyPost_ret (results_none rfl _ _ _) rfl ?_
        exact ⟨⟨_, rfl⟩, .inr ⟨_, ⟨k + 1, by omega, (upto_succ _ _).symm⟩, hJx3⟩⟩
    · obtain rfl : k = n := by omega
      gi_wp2
      go_end0
      exact ⟨⟨_, rfl⟩, .inl ⟨_, rfl, hJs⟩⟩
set_option maxHeartbeats 1000000 in
theorem slices_all (a : Option Addr) (len cap : Nat) (w : World) :
    CallsIn Fence.wide 1 Tryz.prog 302 #[.slice a len cap] w fun e w' => e = .returned (.func (.func 387) #[] #[.pointer (some ⟨w.heap.size, 0, none⟩)]) ∧ w' = w.alloc (.cells #[.slice a len cap] 108) := by
  refine callsIn_of_wp Tryz.func302 rfl trivial ?_ rfl
  simp only [Tryz.ntmps302, List.size_toArray, List.length_cons, List.length_nil, Nat.reduceAdd, Nat.reduceSub, Array.replicate_succ, Array.replicate_zero, List.push_toArray, List.append_toArray, List.nil_append, List.cons_append]
  gi_wp2
  go_ret
  exact ⟨rfl, rfl⟩
theorem opts_all (a : Option Addr) (len cap : Nat) (w : World) :
    CallsIn Fence.wide 2 Tryz.prog 194 #[.slice a len cap] w fun e w' => e = .returned (.func (.func 387) #[] #[.pointer (some ⟨w.heap.size, 0, none⟩)]) ∧ w' = w.alloc (.cells #[.slice a len cap] 108) := by
  refine callsIn_of_wp Tryz.func194 rfl trivial ?_ rfl
  have hfn : Fence.wide.fn 302 := trivial
  simp only [Tryz.ntmps194, List.size_toArray, List.length_cons, List.length_nil, Nat.reduceAdd, Nat.reduceSub, Array.replicate_succ, Array.replicate_zero, List.push_toArray, List.append_toArray, List.nil_append, List.cons_append]
  gi_wp2_with (gi_at_call 302; refine (slices_all _ _ _ _).mono ?_; rintro e w' ⟨rfl, rfl⟩)
  go_ret
  exact ⟨rfl, rfl⟩
theorem all_stops (Bs n0 n : Nat) (v : Value) (g : Nat → Op) (w : World) (hn : n ≤ maxLen) (hBs : Bs < w.heap.size) (hn0 : n0 ≤ w.heap.size) (hc : w.cell? ⟨Bs, 0, none⟩ = some v) (hv : RowAt n0 w v n g) :
    SeqStopsK Fence.wide 2 Tryz.prog 387 #[.pointer (some ⟨Bs, 0, none⟩)] (fun x : Nat × Op => #[Value.int .i64 (x.1 : Int), x.2.v]) (Below n0) (fun ys => ys = upto (fun j => (j, g j)) n)
      (fun pre => ∃ k, k ≤ n ∧ pre = upto (fun j => (j, g j)) k) n w := fun l J Jx W hW hJa _ hY h0 => by
  have hc' := (hW.cell (p := ⟨Bs, 0, none⟩) hBs).trans hc
  exact all1_in l Bs n0 n v g J Jx hY W hJa (Nat.le_trans hn0 hW.size) hn hc' (hv.below (hW.mono hn0)) h0
def isK (g : Nat → Op) (k : Int) (i : Nat) : Bool := decide ((g i).kind = k)
def findOE (n : Nat) (g : Nat → Op) (k : Int) : Nat := firstOf (isK g k) n 0
def findOV (n : Nat) (g : Nat → Op) (k : Int) : ByteArray := if findOE n g k < n then (g (findOE n g k)).val else ⟨⟨[]⟩⟩
def findOB (n : Nat) (g : Nat → Op) (k : Int) : Bool := Nat.blt (findOE n g k) n
theorem find_no {n : Nat} {g : Nat → Op} {kd : Int} (h : ∀ i, i < n → (g i).kind ≠ kd) (k : Int) (hk : k = kd) : Ending.returned (.tuple #[.string (findOV n g k), .bool (findOB n g k)]) = .returned (.tuple #[.string ⟨#[]⟩, .bool false]) := by
  subst hk
  obtain ⟨h1, -, h3⟩ := firstOf_le (isK g k) n
  have hE : ¬ findOE n g k < n := fun hl => by
    have := h3 hl
    unfold isK at this
    exact h _ hl (of_decide_eq_true this)
  have hb : findOB n g k = false := by unfold findOB; rw [← Bool.not_eq_true, Nat.blt_eq]; exact hE
  rw [hb]
  unfold findOV
  rw [if_neg hE]
theorem find_yes {n : Nat} {g : Nat → Op} {kd : Int} {k : Nat} (h : ∀ i, i < k → (g i).kind ≠ kd) (hk : (g k).kind = kd) (hlt : k < n) : Ending.returned (.tuple #[.string (findOV n g kd), .bool (findOB n g kd)]) = .returned (.tuple #[.string (g k).val, .bool true]) := by
  obtain ⟨h1, h2, h3⟩ := firstOf_le (isK g kd) n
  have hE : findOE n g kd = k := by
    show firstOf (isK g kd) n 0 = k
    rcases Nat.lt_trichotomy (firstOf (isK g kd) n 0) k with hl | he | hg
    · have := h3 (by omega)
      unfold isK at this
      exact absurd (of_decide_eq_true this) (h _ hl)
    · exact he
    · have := h2 k hg
      unfold isK at this
      exact absurd hk (of_decide_eq_false this)
  have hb : findOB n g kd = true := by unfold findOB; rw [Nat.blt_eq, hE]; exact hlt
  rw [hb]
  unfold findOV
  rw [if_pos (by rw [hE]; exact hlt), hE]
def Box2 (W : World) (B : Nat) (o : Op) : Prop := W.heap[B]? = some (.cells #[.int .i64 o.kind, .string o.val] 229 (0, 0))
theorem box2_new (W : World) (o : Op) : Box2 (W.alloc (.cells #[.int .i64 o.kind, .string o.val] 229)) W.heap.size o := heap_alloc_new W _
theorem box2_kept {W W' : World} {B : Nat} {o : Op} {row : Option Nat} (h : Box2 W B o) (hg : W.grownBy W' row) (hr : ∀ r, row = some r → ∃ o : Obj, W.heap[r]? = some o ∧ o.isCells = false) : Box2 W' B o := by
  refine (hg.block B (Array.getElem?_eq_some_iff.1 h).1 (fun e => ?_)).trans h
  obtain ⟨o', ho, hc⟩ := hr B e.symm
  rw [show W.heap[B]? = _ from h] at ho
  cases ho; cases hc
theorem box2_cells {W : World} {B : Nat} {o : Op} (h : Box2 W B o) : W.cell? ⟨B, 0, none⟩ = some (.int .i64 o.kind) ∧ W.cell? ⟨B, 1, none⟩ = some (.string o.val) := by
  constructor <;> simp [World.cell?, show W.heap[B]? = _ from h]
set_option maxRecDepth 100000 in
set_option maxHeartbeats 2000000 in
theorem opts_Find_in (n : Nat) (g : Nat → Op) (kd : Int) (v : Value) (w : World) (hn : n ≤ maxLen) (hv : RowAt w.heap.size w v n g) :
    CallsIn Fence.wide 3 Tryz.prog 102 #[v, .int .i64 kd] w fun e w' => e = .returned (.tuple #[.string (findOV n g kd), .bool (findOB n g kd)]) ∧ Below w.heap.size w w' := by
  have hv0 := hv
  obtain ⟨p, cap, rfl, -, -, -⟩ := hv0
  refine callsIn_of_wp_marks Tryz.func102 rfl trivial ?_ rfl
  simp only [Tryz.ntmps102, List.size_toArray, List.length_cons, List.length_nil, Nat.reduceAdd, Nat.reduceSub, Array.replicate_succ, Array.replicate_zero, List.push_toArray, List.append_toArray, List.nil_append, List.cons_append]
  have hfn : Fence.wide.fn 194 := trivial
  gi_wp2_with (gi_at_call 194; refine (callsIn_wide.2 (callsIn_wide.1 (opts_all _ _ _ _))).mono ?_; rintro e w' ⟨rfl, rfl⟩)
  have bK := ((Boxed.new w 3 (.int .i64 kd)).alloc (.cells #[.string ⟨#[]⟩] 9)).alloc (.cells #[.bool false] 4)
  have bV := (Boxed.new (w.alloc (.cells #[.int .i64 kd] 3)) 9 (.string ⟨#[]⟩)).alloc (.cells #[.bool false] 4)
  have bB := Boxed.new ((w.alloc (.cells #[.int .i64 kd] 3)).alloc (.cells #[.string ⟨#[]⟩] 9)) 4 (.bool false)
  have bS := Boxed.new (((w.alloc (.cells #[.int .i64 kd] 3)).alloc (.cells #[.string ⟨#[]⟩] 9)).alloc (.cells #[.bool false] 4)) 108 (.slice p n cap)
  have bK := bK.alloc (.cells #[.slice p n cap] 108)
  have bV := bV.alloc (.cells #[.slice p n cap] 108)
  have bB := bB.alloc (.cells #[.slice p n cap] 108)
  simp only [World.size_alloc] at bK bV bB bS
  have hB0 : Below w.heap.size w ((((w.alloc (.cells #[.int .i64 kd] 3)).alloc (.cells #[.string ⟨#[]⟩] 9)).alloc (.cells #[.bool false] 4)).alloc (.cells #[.slice p n cap] 108)) := ((((Below.refl _ w).alloc (Nat.le_refl _) _).alloc (by simp) _).alloc (by simp; omega) _).alloc (by simp; omega) _
  have hsz : ((((w.alloc (.cells #[.int .i64 kd] 3)).alloc (.cells #[.string ⟨#[]⟩] 9)).alloc (.cells #[.bool false] 4)).alloc (.cells #[.slice p n cap] 108)).heap.size = w.heap.size + 4 := by simp
  obtain ⟨W0, hW0⟩ : ∃ W0, (((w.alloc (.cells #[.int .i64 kd] 3)).alloc (.cells #[.string ⟨#[]⟩] 9)).alloc (.cells #[.bool false] 4)).alloc (.cells #[.slice p n cap] 108) = W0 := ⟨_, rfl⟩
  rw [hW0] at bK bV bB bS hB0 hsz ⊢
  clear hW0
  refine wpIn_rangeFunc_ownH rfl (by decide) (gf := 387) (lb := #[.pointer (some ⟨w.heap.size + 1 + 1 + 1, 0, none⟩)]) rfl trivial (enters_of Tryz.func387 (by kernel_rfl) rfl)
    (all_stops (w.heap.size + 1 + 1 + 1) w.heap.size n (.slice p n cap) g W0 hn (by omega) (by omega) bS.cell (hv.below hB0)) belowK_t (belowK_b (by omega)) (Below.refl _ _) (fun _ => rfl)
    (fun pre W => ((Boxed W w.heap.size 3 (.int .i64 kd) ∧ Boxed W (w.heap.size + 1) 9 (.string ⟨#[]⟩)) ∧ Boxed W (w.heap.size + 1 + 1) 4 (.bool false)) ∧ ((∀ x ∈ pre, x.2.kind ≠ kd) ∧ Below w.heap.size w W))
    (fun c pre W => (c = .ret ∧ ∃ ini last, pre = ini ++ [last] ∧ (∀ x ∈ ini, x.2.kind ≠ kd) ∧ last.2.kind = kd ∧ Boxed W (w.heap.size + 1) 9 (.string last.2.val) ∧ Boxed W (w.heap.size + 1 + 1) 4 (.bool true)) ∧ Below w.heap.size w W)
    (OwnFrom.and (OwnFrom.and (OwnFrom.and (Own.from (boxed_own _ _ _) _) (Own.from (boxed_own _ _ _) _)) (Own.from (boxed_own _ _ _) _)) (OwnFrom.and (ownFrom_pure _ _) (ownFrom_below (Nat.le_refl _) (by omega))))
    (fun c => OwnFrom.and (Own.from (fun s A B row hs hg hr => by
      obtain ⟨hc, ini, last, e1, e2, e3, e4, e5⟩ := hs
      exact ⟨hc, ini, last, e1, e2, e3, boxed_own _ _ (fun (_ : Unit) => Value.string last.2.val) () A B row e4 hg hr, boxed_own _ _ (fun (_ : Unit) => Value.bool true) () A B row e5 hg hr⟩) _) (ownFrom_below (Nat.le_refl _) (by omega)))
    ⟨⟨⟨bK, bV⟩, bB⟩, by simp, hB0⟩
    (fun x a' W => ∃ Bx, w.heap.size + 1 + 1 < Bx ∧ Box2 W Bx x.2 ∧ a' = { tmps := #[.slice p n cap, .int .i64 kd, undef, .pointer (some ⟨w.heap.size, 0, none⟩), .pointer (some ⟨w.heap.size + 1, 0, none⟩), .pointer (some ⟨w.heap.size + 1 + 1, 0, none⟩), undef, .pointer (some ⟨Bx, 0, none⟩), .slice p n cap, .func (.func 387) #[] #[.pointer (some ⟨w.heap.size + 1 + 1 + 1, 0, none⟩)], .int .i64 (x.1 : Int), x.2.v, undef, undef, undef, undef, undef, undef], defers := [] })
    (fun x a' _ X Y row hs hg hr => by obtain ⟨Bx, h1, h2, h3⟩ := hs; exact ⟨Bx, h1, box2_kept h2 hg (fun r e => (hr r e).2), h3⟩)
    ?assign ?body ?done ?stop
  case assign =>
    rintro l pre x W K ⟨⟨⟨bK1, bV1⟩, bB1⟩, hne, hB1⟩ hK
    have hsW := hB1.size
    simp only [Op.v]
    gi_wp2
    exact hK _ _ ((KeepsOthers.alloc _ _).from _) ((Below.refl _ W).alloc hsW _) ⟨⟨⟨bK1.alloc _, bV1.alloc _⟩, bB1.alloc _⟩, hne, hB1.alloc hsW _⟩ ⟨W.heap.size, bB1.lt, box2_new W _, rfl⟩
  case body =>
    rintro l pre x a' W hl hr ⟨⟨⟨bK1, bV1⟩, bB1⟩, hne, hB1⟩ ⟨Bx, hBx, bX, rfl⟩ hlt
    have cK := bK1.cell
    have cV := bV1.cell
    have fV := bV1.frozen
    have cB := bB1.cell
    have fB := bB1.frozen
    obtain ⟨cx, cy⟩ := box2_cells bX
    by_cases hx : x.2.kind = kd
    · gi_wp2
      exact ⟨((KeepsOthers.setCell _ _ _).trans (KeepsOthers.setCell _ _ _)).from _, ⟨rfl, pre, x, rfl, hne, hx, (bV1.set _).other (by omega) _, (bB1.other (by omega) _).set _⟩, (hB1.setCell (p := ⟨w.heap.size + 1, 0, none⟩) (by simp) _).setCell (p := ⟨w.heap.size + 1 + 1, 0, none⟩) (by simp; omega) _⟩
    · gi_wp2
      exact ⟨KeepsFrom.refl _ _, Below.refl _ _, ⟨⟨bK1, bV1⟩, bB1⟩, fun y hy => (List.mem_append.1 hy).elim (hne y) (fun e => by simp at e; subst e; exact hx), hB1⟩
  case done =>
    rintro D ys W hD rfl ⟨⟨⟨bK1, bV1⟩, bB1⟩, hne, hB1⟩ hK
    have cV := bV1.cell
    have fV := bV1.frozen
    have cB := bB1.cell
    have fB := bB1.frozen
    gi_wp2
    have hK' := ((KeepsOthers.setCell W ⟨w.heap.size + 1, 0, none⟩ (.string ⟨#[]⟩)).trans (KeepsOthers.setCell _ ⟨w.heap.size + 1 + 1, 0, none⟩ (.bool false))).same D _ hK rfl
    have dV := ((bV1.set (.string ⟨#[]⟩)).other (B' := w.heap.size + 1 + 1) (by omega) (.bool false)).cell
    have dB := ((bB1.other (B' := w.heap.size + 1) (by omega) (.string ⟨#[]⟩)).set (.bool false)).cell
    have hB2 := (hB1.setCell (p := ⟨w.heap.size + 1, 0, none⟩) (by simp) (.string ⟨#[]⟩)).setCell (p := ⟨w.heap.size + 1 + 1, 0, none⟩) (by simp; omega) (.bool false)
    refine ⟨by simp, .inl ⟨_, _, rfl, run_takeDeferred hK', ?_⟩⟩
    have c1 := cell_kept dV (grownBy_putObj' _ D (.deferred none)) (fun r e => by cases e; exact ⟨_, hK', rfl⟩)
    have c2 := cell_kept dB (grownBy_putObj' _ D (.deferred none)) (fun r e => by cases e; exact ⟨_, hK', rfl⟩)
    have hno : ∀ i, i < n → (g i).kind ≠ kd := fun i hi => hne (i, g i) (by simp only [upto, List.mem_map, List.mem_range]; exact ⟨i, hi, rfl⟩)
    refine ⟨.tuple #[.string ⟨#[]⟩, .bool false], ?_, ?_, hB2.trans (belowK_b (w := w) (Nat.le_refl _) _ D _ _ (by omega) hK' rfl rfl)⟩
    · simp [results, Tryz.f102, go_sem, c1, c2]
    · rw [find_no hno kd rfl]
  case stop =>
    rintro D c pre W hD ⟨k, hk, rfl⟩ ⟨⟨rfl, ini, last, e1, e2, e3, bV1, bB1⟩, hB1⟩ hK
    have cV := bV1.cell
    have cB := bB1.cell
    gi_wp2
    refine ⟨by simp, .inl ⟨_, _, rfl, run_takeDeferred hK, ?_⟩⟩
    have c1 := cell_kept cV (grownBy_putObj' _ D (.deferred none)) (fun r e => by cases e; exact ⟨_, hK, rfl⟩)
    have c2 := cell_kept cB (grownBy_putObj' _ D (.deferred none)) (fun r e => by cases e; exact ⟨_, hK, rfl⟩)
    obtain ⟨k', rfl⟩ : ∃ k', k = k' + 1 := by
      cases k with
      | zero => simp [upto] at e1
      | succ k' => exact ⟨k', rfl⟩
    rw [upto_succ] at e1
    obtain ⟨rfl, e5⟩ := List.append_inj' e1 rfl
    obtain rfl : (k', g k') = last := by simpa using e5
    have hno : ∀ i, i < k' → (g i).kind ≠ kd := fun i hi => e2 (i, g i) (by simp only [upto, List.mem_map, List.mem_range]; exact ⟨i, hi, rfl⟩)
    refine ⟨.tuple #[.string (g k').val, .bool true], ?_, ?_, hB1.trans (belowK_b (w := w) (Nat.le_refl _) _ D _ _ (by omega) hK rfl rfl)⟩
    · simp [results, Tryz.f102, go_sem, c1, c2]
    · rw [find_yes hno e3 (by omega)]
theorem row_at {w : World} {v : Value} {n : Nat} {g : Nat → Op} (h : ∀ B, BlkSat B w v (.row n 2 fun i j => (g i).c j)) : RowAt w.heap.size w v n g := by
  obtain ⟨p, cap, e, h1, h2, h3⟩ := h []
  refine ⟨p, cap, e, h1, h2, fun i j hi hj => ?_⟩
  obtain ⟨a, e1, e2⟩ := h3 i j hi hj
  exact ⟨a, e1, by have := lt_of_cell e2; rwa [addr_add_block] at this, e2⟩
theorem opts_Find (n : Nat) (g : Nat → Op) (hn : n ≤ maxLen) (kd : Int) (v : Value) (w : World) (hv : ∀ B, BlkSat B w v (.row n 2 fun i j => (g i).c j)) : Calls Tryz.prog 102 #[v, .int .i64 kd] w fun e w' => e = .returned (.tuple #[.string (findOV n g kd), .bool (findOB n g kd)]) ∧ Below w.heap.size w w' :=
  callsIn_wide.1 (opts_Find_in n g kd v w hn (row_at hv))
end Go.Proofs.YtbippdeahoehoaaGreat
namespace Go.Proofs.YtbippdeahoehoaaGreat
open Go.RowKit Sym Go.ChangeShapes Go.WideShapes Go.ChangeMaps
def addD (k : FuncId) (h : List Value → Option (DP × Value)) (S : Tab) : Tab := fun f xs => bif Nat.beq f k then (match h xs with | some (q, v) => some (@T.chk _ q.p q.d (.leaf v)) | none => none) else S f xs
theorem addD_ok {P : Program} {k : FuncId} {h : List Value → Option (DP × Value)} {S : Tab} (hS : TabOk P S) (hg : isGo P k = true) (hh : ∀ xs q v, h xs = some (q, v) → q.p → ∀ w, Calls P k xs.toArray w fun e w' => e = .returned v ∧ Below w.heap.size w w') : TabOk P (addD k h S) := by
  intro f xs t ht
  unfold addD at ht
  cases hb : Nat.beq f k
  · rw [hb] at ht; exact hS f xs t ht
  · rw [hb, cond_true] at ht
    obtain rfl : f = k := Nat.eq_of_beq_eq_true hb
    split at ht
    · rename_i q v hq
      simp only [Option.some.injEq] at ht
      subst ht
      refine ⟨hg, fun v' hv' w => ?_⟩
      obtain ⟨h1, h2⟩ := hv'
      have h2 : v = v' := h2
      subst h2
      exact hh xs q v hq h1 w
    · cases ht
def dOctPut : List Value → Option (DP × Value) | [.string s, .int .i64 n, .int .i64 k] => some (dp (0 ≤ k ∧ k ≤ 8 ∧ s.size ≤ 1099511627776), .string (Oct.put s n k)) | _ => none
def dOctOf : List Value → Option (DP × Value) | [.string s] => some (dp (s.size ≤ maxLen), .int .i64 (wrap64 (valU s))) | _ => none
def dSha : List Value → Option (DP × Value) | [.string s] => some (dp (s.size ≤ 1000000000000), .string (shaOf s)) | _ => none
def SPm : Tab := addD 203 dOctPut <| addD 261 dOctOf <| addD 356 dSha noS
theorem SPm_ok : TabOk Tryz.prog SPm := by
  refine addD_ok (addD_ok (addD_ok noS_ok (by kernel_rfl) ?_) (by kernel_rfl) ?_) (by kernel_rfl) ?_
  · intro xs q v h hq w
    unfold dSha at h
    split at h
    · simp only [Option.some.injEq, Prod.mk.injEq] at h
      obtain ⟨rfl, rfl⟩ := h
      exact sha_Of _ (Nat.le_trans hq (by decide)) w
    · cases h
  · intro xs q v h hq w
    unfold dOctOf at h
    split at h
    · simp only [Option.some.injEq, Prod.mk.injEq] at h
      obtain ⟨rfl, rfl⟩ := h
      exact of_same (oct_of _ hq w)
    · cases h
  · intro xs q v h hq w
    unfold dOctPut at h
    split at h
    · simp only [Option.some.injEq, Prod.mk.injEq] at h
      obtain ⟨rfl, rfl⟩ := h
      exact oct_put_tab _ _ _ hq w
    · cases h
def plainB : Blk → Blk
  | .lst e sz n cells => (match plains cells with | some xs => .vec false e sz n xs | none => .lst e sz n cells)
  | b => b
theorem plainB_excl (x : Blk) : (plainB x).excl = x.excl := by
  cases x with
  | lst e sz n cells => simp only [plainB]; split <;> rfl
  | _ => rfl
theorem plainB_row {x : Blk} {n sz : Nat} {f : Nat → Nat → Value} (h : plainB x = .row n sz f) : x = .row n sz f := by
  cases x with
  | lst e sz n cells => simp only [plainB] at h; split at h <;> cases h
  | _ => exact h
theorem plainB_sat {B : List Value} {w : World} {u : Value} {x : Blk} (h : BlkSat B w u x) : BlkSat B w u (plainB x) := by
  cases x with
  | lst e sz n cells =>
    simp only [plainB]
    split
    · rename_i xs hx
      obtain ⟨ys, h1, h2⟩ := h
      rw [plains_to hx, Option.some.injEq] at h1
      subst h1
      exact h2
    · exact h
  | _ => exact h
theorem plainB_mem {w0 : World} {bs : List Nat} {H : List Blk} {B : List Value} {w : World} (h : Mem w0 bs H B w) : Mem w0 bs (H.map plainB) B w := by
  have get : ∀ {k : Nat} {x : Blk}, (H.map plainB)[k]? = some x → ∃ y, H[k]? = some y ∧ x = plainB y := by
    intro k x hk
    rw [List.getElem?_map, Option.map_eq_some_iff] at hk
    obtain ⟨y, hy, rfl⟩ := hk
    exact ⟨y, hy, rfl⟩
  have ex : ∀ k b, ExBlk (H.map plainB) B k b → ExBlk H B k b := by
    rintro k b ⟨x, u, h1, h2, h3, h4⟩
    obtain ⟨y, hy, rfl⟩ := get h1
    exact ⟨y, u, hy, by rw [← plainB_excl]; exact h2, h3, h4⟩
  have rd : ∀ k b, RdBlk (H.map plainB) B k b → RdBlk H B k b := by
    rintro k b ⟨n, sz, f, u, h1, h2, h3, h4, h5⟩
    obtain ⟨y, hy, e⟩ := get h1
    exact ⟨n, sz, f, u, by rw [hy, plainB_row e.symm], h2, h3, h4, h5⟩
  refine ⟨⟨by simp [h.sat.len], fun k x u hk hu => ?_, fun k j b h1 h2 => h.sat.sep k j b (ex _ _ h1) (ex _ _ h2), fun k j b h1 h2 => h.sat.far k j b (ex _ _ h1) (rd _ _ h2)⟩, h.keeps, fun k b h1 => h.good k b (ex _ _ h1)⟩
  obtain ⟨y, hy, rfl⟩ := get hk
  exact plainB_sat (h.sat.blk k y u hy hu)
def plainH (h : List SV → List Blk → Option (T (SV × List Blk))) : List SV → List Blk → Option (T (SV × List Blk)) := fun ss H => h ss (H.map plainB)
theorem plainH_ok {P : Program} {k : FuncId} {h : List SV → List Blk → Option (T (SV × List Blk))} (hh : EntryOk P k h) : EntryOk P k (plainH h) :=
  fun ss H t ht bs B w vs hm hv Qs hq => hh ss _ t ht bs B w vs (plainB_mem hm) hv Qs hq
def fMacK : List SV → List Blk → Option (T (SV × List Blk))
  | [s, .ref 0], [.vec o e 1 n xs] => (match s.plain, strsL xs with
    | some (.string key), some l => bif Nat.beq l.length n then some (.chk (n ≤ maxLen ∧ key.size ≤ 1000000000000 ∧ (catL l).size ≤ 100000000000) (.leaf (.c (.string (macOf key (catL l))), [.vec o e 1 n xs]))) else none
    | _, _ => none)
  | _, _ => none
theorem fMacK_ok : EntryOk Tryz.prog 260 fMacK := by
  intro ss H t ht bs B w vs hm hv Qs hq
  unfold fMacK at ht
  split at ht
  · rename_i s o e n xs
    split at ht
    · rename_i key l hs hl
      cases hb : Nat.beq l.length n
      · rw [hb] at ht; cases ht
      · rw [hb, cond_true, Option.some.injEq] at ht
        subst ht
        have hf : fMacV [.v (.string key), .ref 0] [.vec o e 1 n xs] = some (.need (n ≤ maxLen ∧ key.size ≤ 1000000000000 ∧ (catL l).size ≤ 100000000000) (.leaf (.v (.string (macOf key (catL l))), [.vec o e 1 n xs]))) := by
          unfold fMacV
          simp only [hl, hb, cond_true]
        have hv2 : SV.tos B [.v (.string key), .ref 0] = some vs := by
          rw [← hv]
          simp only [SV.tos, SV.plain_to hs B]
          rfl
        refine (fMacV_ok _ _ _ hf bs B w vs hm hv2 (fun r => r = (.v (.string (macOf key (catL l))), [.vec o e 1 n xs])) ⟨hq.1, rfl⟩).mono ?_
        rintro e' w' ⟨s', H', B', x, h1, h2, h3, h4, h5⟩
        simp only [Prod.mk.injEq] at h1
        obtain ⟨rfl, rfl⟩ := h1
        exact ⟨_, _, B', x, hq.2, h2, h3, h4, h5⟩
    · cases ht
  · cases ht
def fGrowK : List SV → List Blk → Option (T (SV × List Blk))
  | [s, r], [] => (match nilV s, r.plain with
    | true, some (.int .i64 z) => some (.chk (0 ≤ z ∧ z * 24 ≤ 140737488355328) (.leaf (.ref 0, [.vec false 229 2 0 []])))
    | _, _ => none)
  | _, _ => none
theorem fGrowK_ok : EntryOk Tryz.prog 333 fGrowK := by
  intro ss H t ht bs B w vs hm hv Qs hq
  unfold fGrowK at ht
  split at ht
  · rename_i s r
    split at ht
    · rename_i z hs hr
      simp only [Option.some.injEq] at ht
      subst ht
      have hv2 : SV.tos B [.v (.slice none 0 0), .v (.int .i64 z)] = some vs := by
        rw [← hv]
        simp only [SV.tos, nilV_to hs B, SV.plain_to hr B]
        rfl
      refine (fGrowO_ok [.v (.slice none 0 0), .v (.int .i64 z)] [] _ rfl bs B w vs hm hv2 (fun r => r = (.ref 0, [.vec true 229 2 0 []])) ⟨hq.1, rfl⟩).mono ?_
      rintro e' w' ⟨s', H', B', x, h1, h2, h3, h4, h5⟩
      simp only [Prod.mk.injEq] at h1
      obtain ⟨rfl, rfl⟩ := h1
      obtain ⟨u, hu⟩ := h5.sat.getB (k := 0) rfl
      exact ⟨_, _, B', x, hq.2, h2, h3, h4, h5.upd (k := 0) (y := .vec false 229 2 0 []) rfl rfl hu ⟨rfl, rfl, rfl, Nat.le_refl _, fun _ _ _ => rfl⟩ rfl (show BlkSat B' w' u (.vec false 229 2 0 []) from h5.sat.blk 0 (.vec true 229 2 0 []) u rfl hu)⟩
    · cases ht
  · cases ht
def allOpB (n : Nat) (f : Nat → Nat → Value) : Bool := (List.range n).all fun i => (match f i 0 with | .int .i64 _ => true | _ => false) && (match f i 1 with | .string _ => true | _ => false)
theorem allOpB_ok {n : Nat} {f : Nat → Nat → Value} (h : allOpB n f = true) : AllOp n f := by
  intro i hi j hj
  unfold allOpB at h
  rw [List.all_eq_true] at h
  have := h i (List.mem_range.2 hi)
  rw [Bool.and_eq_true] at this
  obtain ⟨h1, h2⟩ := this
  match j, hj with
  | 0, _ =>
    split at h1
    · rename_i z hz; rw [hz]; show _ = Value.int .i64 (intV (f i 0)); rw [hz]; rfl
    · cases h1
  | 1, _ =>
    split at h2
    · rename_i z hz; rw [hz]; show _ = Value.string (strV (f i 1)); rw [hz]; rfl
    · cases h2
def fFindK : List SV → List Blk → Option (T (SV × List Blk))
  | [s, r], H => (match rowIn 2 H s, r.plain with
    | some (n, f), some (.int .i64 k) => bif allOpB n f then some (.chk (n ≤ maxLen) (.leaf (.tup [.c (.string (findOV n (opF f) k)), boolS (findOB n (opF f) k)], H))) else none
    | _, _ => none)
  | _, _ => none
theorem fFindK_ok : EntryOk Tryz.prog 102 fFindK := by
  intro ss H t ht bs B w vs hm hv Qs hq
  unfold fFindK at ht
  split at ht
  · rename_i s r
    split at ht
    · rename_i n f k hr hk
      cases hb : allOpB n f
      · rw [hb] at ht; cases ht
      · rw [hb, cond_true, Option.some.injEq] at ht
        subst ht
        obtain ⟨x0, r0, e0, v0, rfl⟩ := tos_cons hv
        obtain ⟨x1, r1, e1, v1, rfl⟩ := tos_cons v0
        obtain rfl := tos_nil v1
        rw [SV.plain_to hk B, Option.some.injEq] at e1
        subst e1
        refine (opts_Find n (opF f) hq.1 k x0 w (op_row (rowIn_ok hm e0 hr) (allOpB_ok hb))).mono ?_
        rintro e w' ⟨rfl, hbl⟩
        refine ⟨_, H, B, _, hq.2, List.prefix_refl _, rfl, ?_, hm.below hbl⟩
        simp only [SV.to, SV.tos, boolS_to, Option.map_some]
    · cases ht
  · cases ht
def FPm0 : LTab := addT 260 (plainH fMacK) <| addT 333 fGrowK <| addT 102 (plainH fFindK) <| addT 19 fNewP <| addT 44 fFindP <| addT 36 fAllP <| addT 87 fAddP noF
theorem FPm0_ok : LOk Tryz.prog FPm0 :=
  addT_ok (addT_ok (addT_ok (addT_ok (addT_ok (addT_ok (addT_ok noF_ok (by kernel_rfl) fAddP_ok) (by kernel_rfl) fAllP_ok) (by kernel_rfl) fFindP_ok) (by kernel_rfl) fNewP_ok) (by kernel_rfl) (plainH_ok fFindK_ok)) (by kernel_rfl) fGrowK_ok) (by kernel_rfl) (plainH_ok fMacK_ok)
theorem closedR {f : FuncId} {fn : Func} (hf : Tryz.prog.funcs[f]? = some fn) (hb : fn.body.isSome = true) {n sz : Nat} {g : Nat → Nat → Value} {k : Nat} {s : SV} {x : Value} (hs : s.to [] = some x) (hr : okIs s (runXK Tryz.prog (anyC Tryz.prog 0 SPm FPm0 k) fn [.ref 0] [.row n sz g]) = true) (v : Value) (w : World) (hv : ∀ B, BlkSat B w v (.row n sz g)) :
    Calls Tryz.prog f #[v] w fun e w' => e = .returned x ∧ Below w.heap.size w w' := by
  have hm : Mem w [] [.row n sz g] [v] w := mem_row (hv _)
  unfold okIs at hr
  split at hr
  · rename_i r hrun
    refine (calls_of_runXK (anyC_ok (m := 0) follows SPm_ok FPm0_ok k) follows hf hb (vs := [v]) rfl hm hrun).mono ?_
    rintro e w' ⟨B', y, h1, h2, rfl, h4⟩
    have := SV.to_mono (List.nil_prefix (l := B')) hs
    rw [sameSV_eq hr, this, Option.some.injEq] at h2
    subst h2
    exact ⟨rfl, h4.keeps.below⟩
  · cases hr
def fewB (n : Nat) (f : Nat → Nat → Value) : Bool := Nat.ble n 1000 && (List.range n).all fun i => Nat.ble (strV (f i 1)).size 1000000
theorem fewB_ok {n : Nat} {f : Nat → Nat → Value} (h : fewB n f = true) : Few n (opF f) := by
  unfold fewB at h
  rw [Bool.and_eq_true, List.all_eq_true] at h
  exact ⟨Nat.le_of_ble_eq_true h.1, fun i hi => Nat.le_of_ble_eq_true (h.2 i (List.mem_range.2 hi))⟩
def fPutK (P : Program) (fc : Func) : List SV → List Blk → Option (T (SV × List Blk))
  | [s], H => (match rowIn 2 H s with
    | some (n, f) => bif allOpB n f && fewB n f && okIs (.c (.int .i64 (chkO n (opF f)))) (runXK P (anyC P 0 SPm FPm0 6) fc [.ref 0] [.row n 2 fun i j => (opF f i).c j]) then
        some (.leaf (.tup [.c (.string (putS n (opF f))), .c (.int .i64 (chkO n (opF f)))], H)) else none
    | none => none)
  | _, _ => none
theorem fPutK_ok : EntryOk Tryz.prog 251 (fPutK Tryz.prog Tryz.f158) := by
  intro ss H t ht bs B w vs hm hv Qs hq
  unfold fPutK at ht
  split at ht
  · rename_i s
    split at ht
    · rename_i n f hr
      cases hb : (allOpB n f && fewB n f && okIs (.c (.int .i64 (chkO n (opF f)))) (runXK Tryz.prog (anyC Tryz.prog 0 SPm FPm0 6) Tryz.f158 [.ref 0] [.row n 2 fun i j => (opF f i).c j]))
      · rw [hb] at ht; cases ht
      · rw [hb, cond_true, Option.some.injEq] at ht
        subst ht
        simp only [Bool.and_eq_true] at hb
        obtain ⟨⟨hb1, hb2⟩, hb3⟩ := hb
        obtain ⟨x0, r0, e0, v0, rfl⟩ := tos_cons hv
        obtain rfl := tos_nil v0
        refine (opts_PutH n (opF f) (fewB_ok hb2) (fun v w hv => closedR (x := .int .i64 (chkO n (opF f))) Tryz.func158 (by kernel_rfl) rfl hb3 v w hv) x0 w (op_row (rowIn_ok hm e0 hr) (allOpB_ok hb1))).mono ?_
        rintro e w' ⟨rfl, hbl⟩
        exact ⟨_, H, B, _, hq, List.prefix_refl _, rfl, rfl, hm.below hbl⟩
    · cases ht
  · cases ht
def oneRun (_ j : Nat) : Value := match j with | 0 => .int .i64 0 | _ => .int .i64 1
theorem avec_check (v : Value) (w : World) (hv : ∀ B, BlkSat B w v (.row 1 2 oneRun)) : Calls Tryz.prog 207 #[v] w fun e w' => e = .returned (.int .i64 0) ∧ Below w.heap.size w w' :=
  closedR (k := 6) (s := .c (.int .i64 0)) Tryz.func207 (by kernel_rfl) rfl (by kernel_rfl) v w hv
set_option maxRecDepth 100000 in
set_option maxHeartbeats 2000000 in
theorem avec_put (v : Value) (w : World) (hv : ∀ B, BlkSat B w v (.row 1 2 oneRun)) : Calls Tryz.prog 226 #[v] w fun e w' => e = .returned (.tuple #[.string ⟨⟨[0]⟩⟩, .int .i64 0]) ∧ Below w.heap.size w w' := by
  obtain ⟨p, cap, rfl, hc1, hc2, hc3⟩ := hv [v]
  have hch := fun v w hv => avec_check v w hv
  go_enter Tryz.func226, Tryz.ntmps226
  go_wp2_with (go_at_call 207; refine (hch _ _ hv).mono ?_; rintro e w1 ⟨rfl, hb1⟩)
  go_loopw [15] (fun i wr => ∃ k : Nat, k ≤ 1 ∧ i = .int .i64 k ∧ IsBld w1.heap.size w1.heap.size (List.replicate k 0) wr ∧ Below w1.heap.size w1 wr) (fun i _ => 1 - (intOf i).toNat)
  case atStart => exact ⟨0, Nat.zero_le _, rfl, Lib.IsBuilderF.of (Lib.fresh_isBuilder 474 5 w1), (Below.refl _ w1).alloc (Nat.le_refl _) _⟩
  case round =>
    obtain ⟨k, hk, rfl, hI, hbl⟩ := hrel
    have hbs := hbl.size
    by_cases hlt : k < 1
    · obtain rfl : k = 0 := by omega
      obtain ⟨a, rfl, h0⟩ := hc3 0 0 (by decide) (by decide)
      obtain ⟨a', ha', h1⟩ := hc3 0 1 (by decide) (by decide)
      obtain rfl : a = a' := by simpa using ha'
      obtain ⟨r0, r1, rb⟩ := two_cells h0 h1
      have g0 := ((hb1.trans (hbl.mono hb1.size)).cell (p := a.add (0 * 2)) rb).trans r0
      have g1 := ((hb1.trans (hbl.mono hb1.size)).cell (p := ⟨(a.add (0 * 2)).block, (a.add (0 * 2)).off + 1, none⟩) rb).trans r1
      have ha0 : a.add (0 * 2) = a := by simp [Addr.add]
      rw [ha0] at g0 g1
      simp only [oneRun] at g0 g1
      clear h0 h1 r0 r1 ha'
      have hbw := bld_lt hI
      go_wp2_with (go_at_call 330; refine (bld_byte w1.heap.size w1.heap.size [] 0 _ rfl _ (Lib.IsBuilderF.alloc hI _) (by simp) (by simp; omega)).mono ?_)
      rintro e w2 ⟨rfl, hI2, hb2, hk2⟩
      have hbl2 := (below_alloc hbl (.cells #[.int .i64 0, .int .i64 1] 348)).trans hb2
      go_wp2
      go_roundw
      case rel => exact ⟨1, by omega, by go_num, hI2, hbl2⟩
      case measure => simp [intOf]
    · obtain rfl : k = 1 := by omega
      clear hc3
      go_wp2_with (go_at_call 331; refine (Tryz.Builder_String_any_f w1.heap.size w1.heap.size _ _ hI hbs).mono ?_)
      rintro e w3 ⟨rfl, hI3, hb3⟩
      go_wp2
      go_ret2
      exact ⟨rfl, hb1.trans ((hbl.trans hb3).mono hb1.size)⟩
def isOneRun (n : Nat) (f : Nat → Nat → Value) : Bool := Nat.beq n 1 && sameV (f 0 0) (.int .i64 0) && sameV (f 0 1) (.int .i64 1)
def fVecK : List SV → List Blk → Option (T (SV × List Blk))
  | [s], H => (match rowIn 2 H s with
    | some (n, f) => bif isOneRun n f then some (.leaf (.tup [.c (.string ⟨⟨[0]⟩⟩), .c (.int .i64 0)], H)) else none
    | none => none)
  | _, _ => none
theorem fVecK_ok : EntryOk Tryz.prog 226 fVecK := by
  intro ss H t ht bs B w vs hm hv Qs hq
  unfold fVecK at ht
  split at ht
  · rename_i s
    split at ht
    · rename_i n f hr
      cases hb : isOneRun n f
      · rw [hb] at ht; cases ht
      · rw [hb, cond_true, Option.some.injEq] at ht
        subst ht
        unfold isOneRun at hb
        simp only [Bool.and_eq_true] at hb
        obtain ⟨⟨hb1, hb2⟩, hb3⟩ := hb
        obtain rfl := Nat.eq_of_beq_eq_true hb1
        obtain ⟨x0, r0, e0, v0, rfl⟩ := tos_cons hv
        obtain rfl := tos_nil v0
        refine (avec_put x0 w (fun B => row_congr (rowIn_ok hm e0 hr B) fun i j hi hj => ?_)).mono ?_
        · obtain rfl : i = 0 := by omega
          match j, hj with
          | 0, _ => exact sameV_eq hb2
          | 1, _ => exact sameV_eq hb3
        · rintro e w' ⟨rfl, hbl⟩
          exact ⟨_, H, B, _, hq, List.prefix_refl _, rfl, rfl, hm.below hbl⟩
    · cases ht
  · cases ht
end Go.Proofs.YtbippdeahoehoaaGreat
namespace Go.Proofs.YtbippdeahoehoaaGreat
open Go.RowKit Sym Go.ChangeShapes Go.WideShapes Go.ChangeMaps Go.Shelf
attribute [local go_sem] Oper.semAt_some
theorem setCell_held {W : World} {p : Addr} {v : Value} (h : W.cell? p = some v) : W.setCell p v = W := by
  obtain ⟨heap, tape, drawn, os, out⟩ := W
  simp only [World.setCell, World.mk.injEq, and_self, and_true]
  apply Array.ext_getElem?
  intro i
  rw [Array.getElem?_modify]
  split
  · rename_i e
    subst e
    simp only [World.cell?] at h
    split at h
    · rename_i c e2 fz hc
      rw [hc]
      by_cases hs : p.spot.isSome = true
      · rw [if_pos hs] at h; cases h
      · rw [if_neg hs] at h
        simp only [Option.map_some, hs, Bool.false_eq_true, if_false, Option.some.injEq, Obj.cells.injEq, and_self, and_true]
        apply Array.ext_getElem?
        intro j
        rw [Array.getElem?_setIfInBounds]
        split
        · rename_i e3; subst e3; rw [if_pos (Array.getElem?_eq_some_iff.1 h).1, h]
        · rfl
    · cases h
  · rfl
theorem func_not_nil (fn : Fn) (xs ys : Array Value) (w : World) : (binOp .eql 460 (.func fn xs ys) .nilFunc).run Tryz.prog w = .ok (.bool false) w := by
  show (do let r ← Op.equal 460 (.func fn xs ys) .nilFunc; pure (Value.bool r) : Sem Value).run Tryz.prog w = _
  have heq : (Op.equal 460 (.func fn xs ys) .nilFunc).run Tryz.prog w = .ok false w := by
    unfold Op.equal
    exact run_equalIn_func_nil _ Tryz.underlying460 fn xs ys w
  simp [go_sem, heq]
theorem slice_is_nil0 (d : Nat) (w : World) : (Op.equalIn (d + 1) 455 (.slice none 0 0) (.slice none 0 0)).run Tryz.prog w = .ok true w := by
  simp [Op.equalIn, run_underlying Tryz.underlying455]
theorem slice_is_nil (w : World) : (binOp .eql 455 (.slice none 0 0) (.slice none 0 0)).run Tryz.prog w = .ok (.bool true) w := by
  show (do let r ← Op.equal 455 (.slice none 0 0) (.slice none 0 0); pure (Value.bool r) : Sem Value).run Tryz.prog w = _
  have heq : (Op.equal 455 (.slice none 0 0) (.slice none 0 0)).run Tryz.prog w = .ok true w := by
    exact slice_is_nil0 9999 w
  simp [go_sem, heq]
set_option maxRecDepth 100000 in
theorem clone_nil (w : World) : CallsIn Fence.wide 1 Tryz.prog 425 #[.slice none 0 0] w fun e w' => e = .returned (.slice none 0 0) ∧ w' = w := by
  refine callsIn_of_wp Tryz.func425 rfl trivial ?_ rfl
  simp only [Tryz.ntmps425, List.size_toArray, List.length_cons, List.length_nil, Nat.reduceAdd, Nat.reduceSub, Array.replicate_succ, Array.replicate_zero, List.push_toArray, List.append_toArray, List.nil_append, List.cons_append]
  have hnn := slice_is_nil
  gi_wp2
  go_ret
  exact ⟨rfl, rfl⟩
set_option maxRecDepth 100000 in
theorem sweep_all (b : Nat) (w : World) :
    CallsIn Fence.wide 2 Tryz.prog 389 #[.pointer (some ⟨b, 0, none⟩)] w fun e w' => e = .returned (.func (.func 424) #[] #[.pointer (some ⟨w.heap.size, 0, none⟩)]) ∧ w' = w.alloc (.cells #[.pointer (some ⟨b, 0, none⟩)] 385) := by
  refine callsIn_of_wp Tryz.func389 rfl trivial ?_ rfl
  simp only [Tryz.ntmps389, List.size_toArray, List.length_cons, List.length_nil, Nat.reduceAdd, Nat.reduceSub, Array.replicate_succ, Array.replicate_zero, List.push_toArray, List.append_toArray, List.nil_append, List.cons_append]
  gi_wp2
  go_ret
  exact ⟨rfl, rfl⟩
set_option maxRecDepth 100000 in
theorem sweep_stops (b Bs n0 : Nat) (w : World) (h1 : w.cell? ⟨Bs, 0, none⟩ = some (.pointer (some ⟨b, 0, none⟩))) (h2 : w.cell? ⟨b, 0, none⟩ = some (.slice none 0 0)) :
    SeqStopsK Fence.wide 2 Tryz.prog 424 #[.pointer (some ⟨Bs, 0, none⟩)] (fun x : Value => #[x]) (Below n0) (fun ys => ys = []) (fun _ => False) 0 w := fun l J Jx W hW hJa _ hY h0 => by
  have h1 := (hW.cell (p := ⟨Bs, 0, none⟩) (lt_of_cell h1)).trans h1
  have h2 := (hW.cell (p := ⟨b, 0, none⟩) (lt_of_cell h2)).trans h2
  refine callsIn_of_wp Tryz.func424 rfl trivial ?_ rfl
  simp only [Tryz.ntmps424, List.size_toArray, List.length_cons, List.length_nil, Nat.reduceAdd, Nat.reduceSub, Array.replicate_succ, Array.replicate_zero, List.push_toArray, List.append_toArray, List.nil_append, List.cons_append]
  have hfn : Fence.wide.fn 425 := trivial
  clear hY hJa
  gi_wp2_with (gi_at_call 425; refine (clone_nil _).mono ?_; rintro e w' ⟨rfl, rfl⟩)
  gi_loopw [13] (fun i wr => i = .int .i64 0 ∧ J [] wr) (fun i _ => 0)
  case atStart => exact ⟨rfl, h0⟩
  case round =>
    obtain ⟨rfl, h0⟩ := hrel
    gi_wp2
    go_end0
    exact ⟨⟨_, rfl⟩, .inl ⟨[], rfl, h0⟩⟩
set_option maxRecDepth 100000 in
set_option maxHeartbeats 2000000 in
theorem dock_Sweep_in (b : Nat) (gf : Fn) (xs ys : Array Value) (w : World) (hc : w.cell? ⟨b, 0, none⟩ = some (.slice none 0 0)) (hz : w.frozen? ⟨b, 0, none⟩ = false) :
    CallsIn Fence.wide 3 Tryz.prog 309 #[.pointer (some ⟨b, 0, none⟩), .func gf xs ys] w fun e w' => e = .returned (.slice none 0 0) ∧ Below w.heap.size w w' := by
  refine callsIn_of_wp_marks Tryz.func309 rfl trivial ?_ rfl
  simp only [Tryz.ntmps309, List.size_toArray, List.length_cons, List.length_nil, Nat.reduceAdd, Nat.reduceSub, Array.replicate_succ, Array.replicate_zero, List.push_toArray, List.append_toArray, List.nil_append, List.cons_append]
  have hfn : Fence.wide.fn 389 := trivial
  have hlt := lt_of_cell hc
  have hnn := func_not_nil gf xs ys
  gi_wp2_with (gi_at_call 389; refine (callsIn_wide.2 (callsIn_wide.1 (sweep_all _ _))).mono ?_; rintro e w' ⟨rfl, rfl⟩)
  have bG := ((Boxed.new w 460 (.func gf xs ys)).alloc (.cells #[.slice none 0 0] 455)).alloc (.cells #[.slice none 0 0] 455)
  have bO := (Boxed.new (w.alloc (.cells #[.func gf xs ys] 460)) 455 (.slice none 0 0)).alloc (.cells #[.slice none 0 0] 455)
  have bR := Boxed.new ((w.alloc (.cells #[.func gf xs ys] 460)).alloc (.cells #[.slice none 0 0] 455)) 455 (.slice none 0 0)
  have bS := Boxed.new (((w.alloc (.cells #[.func gf xs ys] 460)).alloc (.cells #[.slice none 0 0] 455)).alloc (.cells #[.slice none 0 0] 455)) 385 (.pointer (some ⟨b, 0, none⟩))
  have bO := bO.alloc (.cells #[.pointer (some ⟨b, 0, none⟩)] 385)
  have bR := bR.alloc (.cells #[.pointer (some ⟨b, 0, none⟩)] 385)
  simp only [World.size_alloc] at bO bR bS
  have hB0 : Below w.heap.size w ((((w.alloc (.cells #[.func gf xs ys] 460)).alloc (.cells #[.slice none 0 0] 455)).alloc (.cells #[.slice none 0 0] 455)).alloc (.cells #[.pointer (some ⟨b, 0, none⟩)] 385)) := ((((Below.refl _ w).alloc (Nat.le_refl _) _).alloc (by simp) _).alloc (by simp; omega) _).alloc (by simp; omega) _
  have hsz : ((((w.alloc (.cells #[.func gf xs ys] 460)).alloc (.cells #[.slice none 0 0] 455)).alloc (.cells #[.slice none 0 0] 455)).alloc (.cells #[.pointer (some ⟨b, 0, none⟩)] 385)).heap.size = w.heap.size + 4 := by simp
  obtain ⟨W0, hW0⟩ : ∃ W0, (((w.alloc (.cells #[.func gf xs ys] 460)).alloc (.cells #[.slice none 0 0] 455)).alloc (.cells #[.slice none 0 0] 455)).alloc (.cells #[.pointer (some ⟨b, 0, none⟩)] 385) = W0 := ⟨_, rfl⟩
  rw [hW0] at bO bR bS hB0 hsz ⊢
  clear hW0
  refine wpIn_rangeFunc_ownH rfl (by decide) (gf := 424) (lb := #[.pointer (some ⟨w.heap.size + 1 + 1 + 1, 0, none⟩)]) rfl trivial (enters_of Tryz.func424 (by kernel_rfl) rfl)
    (sweep_stops b (w.heap.size + 1 + 1 + 1) w.heap.size W0 bS.cell ((hB0.cell (p := ⟨b, 0, none⟩) hlt).trans hc)) belowK_t (belowK_b (by omega)) (Below.refl _ _) (fun _ => rfl)
    (fun pre W => (Boxed W (w.heap.size + 1) 455 (.slice none 0 0) ∧ Boxed W (w.heap.size + 1 + 1) 455 (.slice none 0 0)) ∧ Below w.heap.size w W)
    (fun _ _ _ => False)
    (OwnFrom.and (OwnFrom.and (Own.from (boxed_own _ _ _) _) (Own.from (boxed_own _ _ _) _)) (ownFrom_below (Nat.le_refl _) (by omega)))
    (fun c => fun _ _ _ _ h _ _ => h.elim)
    ⟨⟨bO, bR⟩, hB0⟩
    (fun x a' W => True)
    (fun x a' _ X Y row hs hg hr => trivial)
    ?assign ?body ?done ?stop
  case assign =>
    rintro l pre x W K ⟨⟨bO1, bR1⟩, hB1⟩ hK
    gi_wp2
    exact hK _ _ (KeepsFrom.refl _ _) (Below.refl _ _) ⟨⟨bO1, bR1⟩, hB1⟩ trivial
  case body =>
    rintro l pre x a' W hl hr _ _ hlt
    exact absurd hlt (by simp)
  case done =>
    rintro D ys W hD rfl ⟨⟨bO1, bR1⟩, hB1⟩ hK
    have cO := bO1.cell
    have cR := bR1.cell
    have c1 := (hB1.cell (p := ⟨b, 0, none⟩) hlt).trans hc
    have z1 := (hB1.frozen (p := ⟨b, 0, none⟩) hlt).trans hz
    have hh := setCell_held c1
    gi_wp2
    refine ⟨by simp, .inl ⟨_, _, rfl, run_takeDeferred hK, ?_⟩⟩
    refine ⟨.slice none 0 0, ?_, rfl, hB1.trans (belowK_b (w := w) (Nat.le_refl _) _ D _ _ (by omega) hK rfl rfl)⟩
    simp [results, Tryz.f309, go_sem]
  case stop =>
    rintro D c pre W hD h
    exact h.elim
theorem dock_Sweep (b : Nat) (gf : Fn) (xs ys : Array Value) (w : World) (hc : w.cell? ⟨b, 0, none⟩ = some (.slice none 0 0)) (hz : w.frozen? ⟨b, 0, none⟩ = false) :
    Calls Tryz.prog 309 #[.pointer (some ⟨b, 0, none⟩), .func gf xs ys] w fun e w' => e = .returned (.slice none 0 0) ∧ Below w.heap.size w w' :=
  callsIn_wide.1 (dock_Sweep_in b gf xs ys w hc hz)
def isFn : SV → Bool
  | .clo _ _ _ => true
  | .c (.func _ _ _) => true
  | .v (.func _ _ _) => true
  | _ => false
theorem isFn_to {s : SV} (h : isFn s = true) {B : List Value} {v : Value} (hv : s.to B = some v) : ∃ g xs ys, v = .func g xs ys := by
  unfold isFn at h
  split at h
  · simp only [SV.to] at hv
    split at hv
    · simp only [Option.some.injEq] at hv
      exact ⟨_, _, _, hv.symm⟩
    · cases hv
  · simp only [SV.to, Option.some.injEq] at hv
    exact ⟨_, _, _, hv.symm⟩
  · simp only [SV.to, Option.some.injEq] at hv
    exact ⟨_, _, _, hv.symm⟩
  · cases h
def fSweepK : List SV → List Blk → Option (T (SV × List Blk))
  | [.ptr k 0, f], H => (match H[k]? with
    | some (.own (s :: _)) => bif sameS0 s (.c (.slice none 0 0)) && isFn f then some (.leaf (.c (.slice none 0 0), H)) else none
    | _ => none)
  | _, _ => none
theorem fSweepK_ok : EntryOk Tryz.prog 309 fSweepK := by
  intro ss H t ht bs B w vs hm hv Qs hq
  unfold fSweepK at ht
  split at ht
  · rename_i k fn
    split at ht
    · rename_i s l h0
      cases hb : (sameS0 s (.c (.slice none 0 0)) && isFn fn)
      · rw [hb] at ht; cases ht
      · rw [hb, cond_true, Option.some.injEq] at ht
        subst ht
        rw [Bool.and_eq_true] at hb
        obtain rfl := sameS0_eq hb.1
        obtain ⟨p0, r0, e0, v0, rfl⟩ := tos_cons hv
        obtain ⟨p1, r1, e1, v1, rfl⟩ := tos_cons v0
        obtain rfl := tos_nil v1
        obtain ⟨tb, us, g1, g2, g3⟩ := hm.own_at h0
        simp only [SV.to, g1, Option.some.injEq] at e0
        subst e0
        obtain ⟨c0, r2, f0, f1, rfl⟩ := tos_cons g2
        simp only [SV.to, Option.some.injEq] at f0
        subst f0
        obtain ⟨gf, xs, ys, rfl⟩ := isFn_to hb.2 e1
        refine (dock_Sweep tb gf xs ys w (by have := g3.2.1 0; simpa using this) (by have := g3.2.2 0; simpa using this)).mono ?_
        rintro e w' ⟨rfl, hbl⟩
        exact ⟨_, H, B, _, hq, List.prefix_refl _, rfl, rfl, hm.below hbl⟩
    · cases ht
  · cases ht
end Go.Proofs.YtbippdeahoehoaaGreat
namespace Go.Proofs.YtbippdeahoehoaaGreat
open Go.RowKit Sym
def FPm (P : Program) (fc : Func) : LTab := addT 251 (plainH (fPutK P fc)) <| addT 226 (plainH fVecK) <| addT 309 fSweepK FPm0
theorem FPm_ok : LOk Tryz.prog (FPm Tryz.prog Tryz.f158) :=
  addT_ok (addT_ok (addT_ok FPm0_ok (by kernel_rfl) fSweepK_ok) (by kernel_rfl) (plainH_ok fVecK_ok)) (by kernel_rfl) (plainH_ok fPutK_ok)
def memoB (P : Program) (C : Cfg) (fn : Func) (args : List SV) (H : List Blk) (r : SV) (H' : List Blk) : Bool := match runXK P C fn args H with
  | .ok q => (match (canK H.length q).go with
    | .ok q => sameSV q.1 r && sameH q.2 H'
    | .er _ => false)
  | .er _ => false
def addM (f : FuncId) (args : List SV) (H : List Blk) (r : SV) (H' : List Blk) (F : LTab) : LTab := fun g ss K =>
  bif Nat.beq f g && sameL ss args && sameH K H then some (.leaf (r, H')) else F g ss K
theorem addM_ok {P : Program} {C : Cfg} {F : LTab} {f : FuncId} {fn : Func} {args : List SV} {H : List Blk} {r : SV} {H' : List Blk} (hF : LOk P F) (hC : CfgOk P C) (hP : P.follows .mixedOrders = true) (hg : isGo P f = true) (hf : P.funcs[f]? = some fn) (hb : fn.body.isSome = true) (hr : memoB P C fn args H r H' = true) :
    LOk P (addM f args H r H' F) := by
  intro g ss K t ht
  unfold addM at ht
  cases hc : (Nat.beq f g && sameL ss args && sameH K H)
  · rw [hc] at ht; exact hF g ss K t ht
  · rw [hc, cond_true, Option.some.injEq] at ht
    subst ht
    simp only [Bool.and_eq_true] at hc
    obtain ⟨⟨h1, h2⟩, h3⟩ := hc
    obtain rfl := Nat.eq_of_beq_eq_true h1
    obtain rfl := sameL_eq h2
    obtain rfl := sameH_eq h3
    refine ⟨hg, fun bs B w vs hm hv Qs hq => ?_⟩
    unfold memoB at hr
    split at hr
    · rename_i q0 hq0
      split at hr
      · rename_i q hq1
        rw [Bool.and_eq_true] at hr
        refine (calls_of_runXK hC hP hf hb hv hm hq0).mono ?_
        rintro e w' ⟨B', x, g1, g2, rfl, g4⟩
        obtain ⟨s, H2, B2, k1, k2, k3, k4⟩ := canK_ok (Qs := fun y => y = q) hm.sat.len g1 g2 g4 (T.go_ok hq1 rfl)
        subst k1
        have e1 := sameSV_eq hr.1
        have e2 := sameH_eq hr.2
        simp only at e1 e2
        subst e1
        subst e2
        exact ⟨_, _, B2, x, hq, k2, rfl, k3, k4⟩
      · cases hr
    · cases hr
def bs (l : List Nat) : ByteArray := ⟨(l.map UInt8.ofNat).toArray⟩
def eqU : List UInt8 → List UInt8 → Bool
  | [], [] => true
  | a :: l, b :: m => Nat.beq a.toNat b.toNat && eqU l m
  | _, _ => false
theorem eqU_eq : ∀ {l m : List UInt8}, eqU l m = true → l = m
  | [], [], _ => rfl
  | a :: l, b :: m, h => by
    simp only [eqU, Bool.and_eq_true, Nat.beq_eq] at h
    rw [UInt8.toNat_inj.1 h.1, eqU_eq h.2]
  | [], _ :: _, h => by cases h
  | _ :: _, [], h => by cases h
def eqB (a b : ByteArray) : Bool := eqU a.data.toList b.data.toList
theorem eqB_eq {a b : ByteArray} (h : eqB a b = true) : a = b := by
  have := eqU_eq h
  cases a; cases b
  simp only at this
  rw [ByteArray.mk.injEq]
  exact Array.toList_inj.1 this
def addMc (key text out : ByteArray) (F : LTab) : LTab := fun g ss H => bif Nat.beq g 260 then (match ss, H.map plainB with
    | [s, .ref 0], [.vec o e 1 n xs] => (match s.plain, strsL xs with
      | some (.string k), some l => bif Nat.beq l.length n && eqB k key && eqB (catL l) text then some (.chk (n ≤ maxLen ∧ k.size ≤ 1000000000000 ∧ (catL l).size ≤ 100000000000) (.leaf (.c (.string out), [.vec o e 1 n xs]))) else F g ss H
      | _, _ => F g ss H)
    | _, _ => F g ss H) else F g ss H
theorem addMc_ok {key text out : ByteArray} {F : LTab} (hF : LOk Tryz.prog F) (hm : macOf key text = out) : LOk Tryz.prog (addMc key text out F) := by
  intro g ss H t ht
  unfold addMc at ht
  cases hg : Nat.beq g 260
  · rw [hg, cond_false] at ht; exact hF g ss H t ht
  rw [hg, cond_true] at ht
  have eg := Nat.eq_of_beq_eq_true hg
  subst eg
  split at ht
  · rename_i s o e n xs hH
    split at ht
    · rename_i k l hs hl
      cases hb : (Nat.beq l.length n && eqB k key && eqB (catL l) text)
      · rw [hb, cond_false] at ht; exact hF _ _ _ t ht
      · rw [hb, cond_true, Option.some.injEq] at ht
        subst ht
        simp only [Bool.and_eq_true] at hb
        obtain ⟨⟨h1, h2⟩, h3⟩ := hb
        have hf : fMacK [s, .ref 0] [.vec o e 1 n xs] = some (.chk (n ≤ maxLen ∧ k.size ≤ 1000000000000 ∧ (catL l).size ≤ 100000000000) (.leaf (.c (.string (macOf k (catL l))), [.vec o e 1 n xs]))) := by
          unfold fMacK
          simp only [hs, hl, h1, cond_true]
        refine ⟨by kernel_rfl, fun bs B w vs hm' hv Qs hq => ?_⟩
        have e2 := eqB_eq h2
        have e3 := eqB_eq h3
        rw [e2, e3, hm, ← e2, ← e3] at hf
        have := plainB_mem hm'
        rw [hH] at this
        exact fMacK_ok _ _ _ hf bs B w vs this hv Qs hq
    · exact hF _ _ _ t ht
  · exact hF _ _ _ t ht
end Go.Proofs.YtbippdeahoehoaaGreat
namespace Go.Proofs.YtbippdeahoehoaaGreat
open Go.RowKit Sym Go.ChangeShapes Go.WideShapes Go.ChangeMaps
def intCells (l : List Int) : List Value := l.map (Value.int .i64)
theorem intCells_append (a b : List Int) : intCells (a ++ b) = intCells a ++ intCells b := List.map_append ..
theorem allOne_int (z : Int) : allOneP [Value.int .i64 z] := by
  intro x hx
  simp only [List.mem_singleton] at hx
  subst hx
  rfl
def adN (f : Nat → Bool) : Nat → List Int
  | 0 => []
  | i + 1 => adN f i ++ (if f i = true then [(i : Int)] else [])
theorem adN_yes {f : Nat → Bool} {i : Nat} (h : f i = true) : adN f (i + 1) = adN f i ++ [(i : Int)] := by
  show adN f i ++ _ = _
  rw [if_pos h]
theorem adN_no {f : Nat → Bool} {i : Nat} (h : ¬ f i = true) : adN f (i + 1) = adN f i := by
  show adN f i ++ _ = _
  rw [if_neg h, List.append_nil]
theorem adN_length (f : Nat → Bool) : ∀ i, (adN f i).length ≤ i
  | 0 => Nat.le_refl _
  | i + 1 => by
    have := adN_length f i
    unfold adN
    split <;> simp <;> omega
abbrev bV (f : Nat → Bool) (i : Nat) : SV := .v (.bool (f i))
abbrev b16 (f : Nat → Bool) : List SV := [bV f 0, bV f 1, bV f 2, bV f 3, bV f 4, bV f 5, bV f 6, bV f 7, bV f 8, bV f 9, bV f 10, bV f 11, bV f 12, bV f 13, bV f 14, bV f 15]
abbrev v16 (f : Nat → Bool) : Value := .agg #[.bool (f 0), .bool (f 1), .bool (f 2), .bool (f 3), .bool (f 4), .bool (f 5), .bool (f 6), .bool (f 7), .bool (f 8), .bool (f 9), .bool (f 10), .bool (f 11), .bool (f 12), .bool (f 13), .bool (f 14), .bool (f 15)]
def al_st (f : Nat → Bool) (xs : List Int) (i : Int) : St := ⟨[(3, some (.ref 1)), (6, some (.v (v16 f))), (7, some (.v (.int .i64 i)))], [.own (b16 f), .vec true 3 1 xs.length (intCells xs)]⟩
set_option maxRecDepth 100000 in
theorem al_round (f : Nat → Bool) (xs : List Int) (i : Int) : roundM Tryz.prog (onlyS Tryz.prog noS) noL Tryz.f58.ntmps 0 (loopAt Tryz.f58 0) 1 [6, 7] [(3, 3, 1)] [] (al_st f xs i) = .ite (decide (i < (16 : Int))) (.chk ((0 : Int) ≤ i ∧ i < (16 : Int)) (.chk (cellIs (Array.mk [Value.bool (f 0), Value.bool (f 1), Value.bool (f 2), Value.bool (f 3), Value.bool (f 4), Value.bool (f 5), Value.bool (f 6), Value.bool (f 7), Value.bool (f 8), Value.bool (f 9), Value.bool (f 10), Value.bool (f 11), Value.bool (f 12), Value.bool (f 13), Value.bool (f 14), Value.bool (f 15)]) i.toNat Ki.bool) (.ite (boolV (cellOf (Array.mk [Value.bool (f 0), Value.bool (f 1), Value.bool (f 2), Value.bool (f 3), Value.bool (f 4), Value.bool (f 5), Value.bool (f 6), Value.bool (f 7), Value.bool (f 8), Value.bool (f 9), Value.bool (f 10), Value.bool (f 11), Value.bool (f 12), Value.bool (f 13), Value.bool (f 14), Value.bool (f 15)]) i.toNat)) (.chk (xs.length + 1 ≤ 9223372036854775807 ∧ (xs.length + 1) * 8 ≤ 140737488355328) (.chk (allOneP [Value.int IntKind.i64 i]) (.leaf (Ex.normal, St.mk [(3, some (SV.ref 1)), (6, some (SV.v (Value.agg (Array.mk [Value.bool (f 0), Value.bool (f 1), Value.bool (f 2), Value.bool (f 3), Value.bool (f 4), Value.bool (f 5), Value.bool (f 6), Value.bool (f 7), Value.bool (f 8), Value.bool (f 9), Value.bool (f 10), Value.bool (f 11), Value.bool (f 12), Value.bool (f 13), Value.bool (f 14), Value.bool (f 15)])))), (7, some (.v (.int .i64 (IntKind.i64.wrap (i + (1 : Int))))))] [.own [SV.v (Value.bool (f 0)), SV.v (Value.bool (f 1)), SV.v (Value.bool (f 2)), SV.v (Value.bool (f 3)), SV.v (Value.bool (f 4)), SV.v (Value.bool (f 5)), SV.v (Value.bool (f 6)), SV.v (Value.bool (f 7)), SV.v (Value.bool (f 8)), SV.v (Value.bool (f 9)), SV.v (Value.bool (f 10)), SV.v (Value.bool (f 11)), SV.v (Value.bool (f 12)), SV.v (Value.bool (f 13)), SV.v (Value.bool (f 14)), SV.v (Value.bool (f 15))], Blk.vec true 3 1 (xs.length + 1) (intCells xs ++ [Value.int IntKind.i64 i])])))) (.leaf (Ex.normal, St.mk [(3, some (SV.ref 1)), (6, some (SV.v (Value.agg (Array.mk [Value.bool (f 0), Value.bool (f 1), Value.bool (f 2), Value.bool (f 3), Value.bool (f 4), Value.bool (f 5), Value.bool (f 6), Value.bool (f 7), Value.bool (f 8), Value.bool (f 9), Value.bool (f 10), Value.bool (f 11), Value.bool (f 12), Value.bool (f 13), Value.bool (f 14), Value.bool (f 15)])))), (7, some (.v (.int .i64 (IntKind.i64.wrap (i + (1 : Int))))))] [.own [SV.v (Value.bool (f 0)), SV.v (Value.bool (f 1)), SV.v (Value.bool (f 2)), SV.v (Value.bool (f 3)), SV.v (Value.bool (f 4)), SV.v (Value.bool (f 5)), SV.v (Value.bool (f 6)), SV.v (Value.bool (f 7)), SV.v (Value.bool (f 8)), SV.v (Value.bool (f 9)), SV.v (Value.bool (f 10)), SV.v (Value.bool (f 11)), SV.v (Value.bool (f 12)), SV.v (Value.bool (f 13)), SV.v (Value.bool (f 14)), SV.v (Value.bool (f 15))], Blk.vec true 3 1 xs.length (intCells xs)]))))) (.leaf (Ex.exit 0, St.mk [(3, some (SV.ref 1)), (6, some (SV.v (Value.agg (Array.mk [Value.bool (f 0), Value.bool (f 1), Value.bool (f 2), Value.bool (f 3), Value.bool (f 4), Value.bool (f 5), Value.bool (f 6), Value.bool (f 7), Value.bool (f 8), Value.bool (f 9), Value.bool (f 10), Value.bool (f 11), Value.bool (f 12), Value.bool (f 13), Value.bool (f 14), Value.bool (f 15)])))), (7, some (.v (.int .i64 i)))] [.own [SV.v (Value.bool (f 0)), SV.v (Value.bool (f 1)), SV.v (Value.bool (f 2)), SV.v (Value.bool (f 3)), SV.v (Value.bool (f 4)), SV.v (Value.bool (f 5)), SV.v (Value.bool (f 6)), SV.v (Value.bool (f 7)), SV.v (Value.bool (f 8)), SV.v (Value.bool (f 9)), SV.v (Value.bool (f 10)), SV.v (Value.bool (f 11)), SV.v (Value.bool (f 12)), SV.v (Value.bool (f 13)), SV.v (Value.bool (f 14)), SV.v (Value.bool (f 15))], Blk.vec true 3 1 xs.length (intCells xs)])) := by kernel_rfl
def Lal (P' : Program) (fn : Func) (f : Nat → Bool) (xs : List Int) (e : Int) : Nat → St → Option (T (Ex × St)) :=
  addL 0 (fun st => .need (st.H.length = 1) (.need (st.tidy 1 [6, 7] [(3, 3, 1)] [] = al_st f [] (0 : Int)) ((roundM P' (onlyS P' noS) noL fn.ntmps 0 (loopAt fn 0) 1 [6, 7] [(3, 3, 1)] [] (closeAt [] (al_st f xs e))).bind (lastX 0)))) noL
set_option maxRecDepth 100000 in
theorem al_run (f : Nat → Bool) (xs : List Int) (e : Int) : runF Tryz.prog (onlyS Tryz.prog noS) (Lal Tryz.prog Tryz.f58 f xs e) Tryz.f58 (Tryz.f58.body.getD .skip) [.agg (b16 f)] [] = .need (1 = 1) (.need (St.mk [(3, some (SV.ref 1)), (6, some (SV.v (Value.agg (Array.mk [Value.bool (f 0), Value.bool (f 1), Value.bool (f 2), Value.bool (f 3), Value.bool (f 4), Value.bool (f 5), Value.bool (f 6), Value.bool (f 7), Value.bool (f 8), Value.bool (f 9), Value.bool (f 10), Value.bool (f 11), Value.bool (f 12), Value.bool (f 13), Value.bool (f 14), Value.bool (f 15)])))), (7, some (.v (.int .i64 0)))] [.own [SV.v (Value.bool (f 0)), SV.v (Value.bool (f 1)), SV.v (Value.bool (f 2)), SV.v (Value.bool (f 3)), SV.v (Value.bool (f 4)), SV.v (Value.bool (f 5)), SV.v (Value.bool (f 6)), SV.v (Value.bool (f 7)), SV.v (Value.bool (f 8)), SV.v (Value.bool (f 9)), SV.v (Value.bool (f 10)), SV.v (Value.bool (f 11)), SV.v (Value.bool (f 12)), SV.v (Value.bool (f 13)), SV.v (Value.bool (f 14)), SV.v (Value.bool (f 15))], Blk.vec true 3 1 0 []] = St.mk [(3, some (SV.ref 1)), (6, some (SV.v (Value.agg (Array.mk [Value.bool (f 0), Value.bool (f 1), Value.bool (f 2), Value.bool (f 3), Value.bool (f 4), Value.bool (f 5), Value.bool (f 6), Value.bool (f 7), Value.bool (f 8), Value.bool (f 9), Value.bool (f 10), Value.bool (f 11), Value.bool (f 12), Value.bool (f 13), Value.bool (f 14), Value.bool (f 15)])))), (7, some (.v (.int .i64 0)))] [.own [SV.v (Value.bool (f 0)), SV.v (Value.bool (f 1)), SV.v (Value.bool (f 2)), SV.v (Value.bool (f 3)), SV.v (Value.bool (f 4)), SV.v (Value.bool (f 5)), SV.v (Value.bool (f 6)), SV.v (Value.bool (f 7)), SV.v (Value.bool (f 8)), SV.v (Value.bool (f 9)), SV.v (Value.bool (f 10)), SV.v (Value.bool (f 11)), SV.v (Value.bool (f 12)), SV.v (Value.bool (f 13)), SV.v (Value.bool (f 14)), SV.v (Value.bool (f 15))], Blk.vec true 3 1 0 []]) (.ite (decide (e < (16 : Int))) (.chk ((0 : Int) ≤ e ∧ e < (16 : Int)) (.chk (cellIs (Array.mk [Value.bool (f 0), Value.bool (f 1), Value.bool (f 2), Value.bool (f 3), Value.bool (f 4), Value.bool (f 5), Value.bool (f 6), Value.bool (f 7), Value.bool (f 8), Value.bool (f 9), Value.bool (f 10), Value.bool (f 11), Value.bool (f 12), Value.bool (f 13), Value.bool (f 14), Value.bool (f 15)]) e.toNat Ki.bool) (.ite (boolV (cellOf (Array.mk [Value.bool (f 0), Value.bool (f 1), Value.bool (f 2), Value.bool (f 3), Value.bool (f 4), Value.bool (f 5), Value.bool (f 6), Value.bool (f 7), Value.bool (f 8), Value.bool (f 9), Value.bool (f 10), Value.bool (f 11), Value.bool (f 12), Value.bool (f 13), Value.bool (f 14), Value.bool (f 15)]) e.toNat)) (.chk (xs.length + 1 ≤ 9223372036854775807 ∧ (xs.length + 1) * 8 ≤ 140737488355328) (.chk (allOneP [Value.int IntKind.i64 e]) (T.stuck 39))) (T.stuck 39)))) (.leaf (SV.ref 1, [.own [SV.v (Value.bool (f 0)), SV.v (Value.bool (f 1)), SV.v (Value.bool (f 2)), SV.v (Value.bool (f 3)), SV.v (Value.bool (f 4)), SV.v (Value.bool (f 5)), SV.v (Value.bool (f 6)), SV.v (Value.bool (f 7)), SV.v (Value.bool (f 8)), SV.v (Value.bool (f 9)), SV.v (Value.bool (f 10)), SV.v (Value.bool (f 11)), SV.v (Value.bool (f 12)), SV.v (Value.bool (f 13)), SV.v (Value.bool (f 14)), SV.v (Value.bool (f 15))], Blk.vec true 3 1 xs.length (intCells xs)])))) := by kernel_rfl
abbrev a16 (f : Nat → Bool) : Array Value := Array.mk [Value.bool (f 0), Value.bool (f 1), Value.bool (f 2), Value.bool (f 3), Value.bool (f 4), Value.bool (f 5), Value.bool (f 6), Value.bool (f 7), Value.bool (f 8), Value.bool (f 9), Value.bool (f 10), Value.bool (f 11), Value.bool (f 12), Value.bool (f 13), Value.bool (f 14), Value.bool (f 15)]
theorem a16_get (f : Nat → Bool) {i : Nat} (h : i < 16) : (a16 f)[i]? = some (.bool (f i)) := by
  match i, h with
  | 0, _ => rfl
  | 1, _ => rfl
  | 2, _ => rfl
  | 3, _ => rfl
  | 4, _ => rfl
  | 5, _ => rfl
  | 6, _ => rfl
  | 7, _ => rfl
  | 8, _ => rfl
  | 9, _ => rfl
  | 10, _ => rfl
  | 11, _ => rfl
  | 12, _ => rfl
  | 13, _ => rfl
  | 14, _ => rfl
  | 15, _ => rfl
  | n + 16, h => omega
theorem a16_of (f : Nat → Bool) {i : Nat} (h : i < 16) : cellOf (a16 f) i = .bool (f i) := by
  show (a16 f).getD i undef = _
  rw [Array.getD_eq_getD_getElem?, a16_get f h]; rfl
theorem a16_is (f : Nat → Bool) {i : Nat} (h : i < 16) : cellIs (a16 f) i Ki.bool := by
  unfold cellIs; rw [a16_get f h, a16_of f h]; rfl
set_option maxRecDepth 100000 in
theorem al_step (f : Nat → Bool) : ∀ i : Nat, i ≤ 16 → i ≠ 16 → (roundM Tryz.prog (onlyS Tryz.prog noS) noL Tryz.f58.ntmps 0 (loopAt Tryz.f58 0) 1 [6, 7] [(3, 3, 1)] [] (al_st f (adN f i) (i : Nat))).ok fun r => r.1 = .normal ∧ ∃ j, j ≤ 16 ∧ 16 - j < 16 - i ∧ r.2 = al_st f (adN f j) (j : Nat) := by
  intro i hi hne
  have e2 : IntKind.i64.wrap ((i : Int) + 1) = ((i + 1 : Nat) : Int) := by rw [w64i (by omega) (by omega)]; rfl
  have el := adN_length f i
  rw [al_round]
  simp only [Int.toNat_natCast, e2, a16_of f (show i < 16 by omega)]
  refine t_ite (fun _ => t_chk ⟨by omega, by omega⟩ (t_chk (a16_is f (by omega)) (t_ite (fun h => ?_) fun h => ?_))) fun h => absurd (show (i : Int) < 16 by omega) (of_decide_eq_false h)
  · have h : f i = true := h
    exact t_chk ⟨by omega, by omega⟩ (t_chk (allOne_int _) (t_leaf ⟨rfl, i + 1, by omega, by omega, by unfold al_st; rw [adN_yes h, List.length_append, intCells_append]; rfl⟩))
  · have h : f i = false := h
    exact t_leaf ⟨rfl, i + 1, by omega, by omega, by unfold al_st; rw [adN_no (by rw [h]; exact Bool.false_ne_true)]⟩
def fAllF (f : Nat → Bool) : List SV → List Blk → Option (T (SV × List Blk))
  | [.agg l], [] => some (.need (l = b16 f) (.leaf (.ref 1, [.gone, .vec true 3 1 (adN f 16).length (intCells (adN f 16))])))
  | [.v (.agg a)], [] => some (.need (a = a16 f) (.leaf (.ref 1, [.gone, .vec true 3 1 (adN f 16).length (intCells (adN f 16))])))
  | _, _ => none
set_option maxRecDepth 100000 in
theorem all_any (f : Nat → Bool) (bs : List Nat) (B : List Value) (w : World) (vs : List Value) (hm : Mem w bs [] B w) (hv : SV.tos B [.agg (b16 f)] = some vs) (Qs : SV × List Blk → Prop) (hq : Qs (.ref 1, [.gone, .vec true 3 1 (adN f 16).length (intCells (adN f 16))])) :
    Calls Tryz.prog 58 vs.toArray w fun e w' => ∃ s H' B' x, Qs (s, H') ∧ B <+: B' ∧ e = .returned x ∧ s.to B' = some x ∧ Mem w bs H' B' w' := by
  have run := al_run f (adN f 16) 16
  refine (inl_ok (L := Lal Tryz.prog Tryz.f58 f (adN f 16) 16) (onlyS_ok noS_ok) follows Tryz.func58 (by kernel_rfl) (by kernel_rfl) (one_loop (b := loopAt Tryz.f58 0) (id := 0) (by kernel_rfl) fun st t h' => ?_) [.agg (b16 f)] [] _ rfl bs B w vs hm hv (fun r => r.1 = .ref 1 ∧ r.2 = [.own (b16 f), .vec true 3 1 (adN f 16).length (intCells (adN f 16))]) ?_).mono ?_
  · rw [addL_same h']
    exact loop_cnt (N := Tryz.f58.ntmps) (onlyS_ok noS_ok) follows (by kernel_rfl) (noloops (by kernel_rfl)) (fun i => i ≤ 16) (fun i => al_st f (adN f i) (i : Nat)) (fun i => 16 - i) 1 [6, 7] [(3, 3, 1)] [] 16 [] (al_step f) (Nat.zero_le _)
  · rw [run]
    exact t_need rfl (t_need rfl (t_ite (fun h => absurd (of_decide_eq_true h) (Int.lt_irrefl _)) fun _ => t_leaf ⟨rfl, rfl⟩))
  · rintro e w' ⟨s1, H1, B1, x, ⟨h1, h2⟩, hpr, he', hx, hm'⟩
    dsimp only at h1 h2
    subst h1 h2
    exact ⟨_, _, B1, x, hq, hpr, he', hx, hm'.drop 0⟩
theorem fAllF_ok (f : Nat → Bool) : EntryOk Tryz.prog 58 (fAllF f) := by
  intro ss H t ht bs B w vs hm hv Qs hq
  unfold fAllF at ht
  split at ht
  · simp only [Option.some.injEq] at ht
    subst ht
    obtain ⟨hl, hq⟩ := hq
    subst hl
    exact all_any f bs B w vs hm hv Qs hq
  · simp only [Option.some.injEq] at ht
    subst ht
    obtain ⟨hl, hq⟩ := hq
    subst hl
    exact all_any f bs B w vs hm (by rw [← hv]; rfl) Qs hq
  · cases ht
abbrev b32 (F : Nat → Bool) : List SV := [bV F 0, bV F 1, bV F 2, bV F 3, bV F 4, bV F 5, bV F 6, bV F 7, bV F 8, bV F 9, bV F 10, bV F 11, bV F 12, bV F 13, bV F 14, bV F 15, bV F 16, bV F 17, bV F 18, bV F 19, bV F 20, bV F 21, bV F 22, bV F 23, bV F 24, bV F 25, bV F 26, bV F 27, bV F 28, bV F 29, bV F 30, bV F 31]
abbrev CAd (P : Program) (F : Nat → Bool) (fr fo : Func) : Cfg := both P noS (addT 58 (fAllF F) <| addT 71 (trimE (inl P (onlyS P noS) noL fr)) <| addT 57 (trimE (inl P (onlyS P noS) noL fo)) noF) [58, 71, 57]
theorem CAd_ok (F : Nat → Bool) : CfgOk Tryz.prog (CAd Tryz.prog F Tryz.f71 Tryz.f57) := both_ok noS_ok (addT_ok (addT_ok (addT_ok noF_ok (by kernel_rfl) (trimE_ok (inl_ok (onlyS_ok noS_ok) follows Tryz.func57 (by kernel_rfl) (by kernel_rfl) (noloops (by kernel_rfl))))) (by kernel_rfl) (trimE_ok (inl_ok (onlyS_ok noS_ok) follows Tryz.func71 (by kernel_rfl) (by kernel_rfl) (noloops (by kernel_rfl))))) (by kernel_rfl) (fAllF_ok F))
abbrev vAll (F : Nat → Bool) : Blk := .vec true 3 1 (adN F 16).length (intCells (adN F 16))
def adT (F : Nat → Bool) (k : Nat) : T (SV × List Blk) := .chk ((0 : Int) ≤ (k : Int) ∧ (k : Int) < (16 : Int)) (.ite (F k) (.leaf (.c (.int .i64 9), [.own (b32 F)])) (.need (a16 F = a16 F) (.ite (decide (((adN F 16).length : Int) ≥ (4 : Int))) (.leaf (.c (.int .i64 6), [.own (b32 F), .gone, vAll F])) (.chk ((0 : Int) ≤ (k : Int) ∧ (k : Int) < (16 : Int)) (.leaf (.c (.int .i64 0), [.own ((b32 F).set k .tt), .gone, vAll F]))))))
set_option maxRecDepth 100000 in
theorem ad_run0 (F : Nat → Bool) : runF Tryz.prog (CAd Tryz.prog F Tryz.f71 Tryz.f57) noL Tryz.f41 (Tryz.f41.body.getD .skip) [.ptr 0 0, .tt, .c (.int .i64 0)] [.own (b32 F)] = adT F 0 := by kernel_rfl
set_option maxRecDepth 100000 in
theorem ad_run1 (F : Nat → Bool) : runF Tryz.prog (CAd Tryz.prog F Tryz.f71 Tryz.f57) noL Tryz.f41 (Tryz.f41.body.getD .skip) [.ptr 0 0, .tt, .c (.int .i64 1)] [.own (b32 F)] = adT F 1 := by kernel_rfl
set_option maxRecDepth 100000 in
theorem ad_run2 (F : Nat → Bool) : runF Tryz.prog (CAd Tryz.prog F Tryz.f71 Tryz.f57) noL Tryz.f41 (Tryz.f41.body.getD .skip) [.ptr 0 0, .tt, .c (.int .i64 2)] [.own (b32 F)] = adT F 2 := by kernel_rfl
set_option maxRecDepth 100000 in
theorem ad_run3 (F : Nat → Bool) : runF Tryz.prog (CAd Tryz.prog F Tryz.f71 Tryz.f57) noL Tryz.f41 (Tryz.f41.body.getD .skip) [.ptr 0 0, .tt, .c (.int .i64 3)] [.own (b32 F)] = adT F 3 := by kernel_rfl
set_option maxRecDepth 100000 in
theorem ad_run4 (F : Nat → Bool) : runF Tryz.prog (CAd Tryz.prog F Tryz.f71 Tryz.f57) noL Tryz.f41 (Tryz.f41.body.getD .skip) [.ptr 0 0, .tt, .c (.int .i64 4)] [.own (b32 F)] = adT F 4 := by kernel_rfl
set_option maxRecDepth 100000 in
theorem ad_run5 (F : Nat → Bool) : runF Tryz.prog (CAd Tryz.prog F Tryz.f71 Tryz.f57) noL Tryz.f41 (Tryz.f41.body.getD .skip) [.ptr 0 0, .tt, .c (.int .i64 5)] [.own (b32 F)] = adT F 5 := by kernel_rfl
set_option maxRecDepth 100000 in
theorem ad_run6 (F : Nat → Bool) : runF Tryz.prog (CAd Tryz.prog F Tryz.f71 Tryz.f57) noL Tryz.f41 (Tryz.f41.body.getD .skip) [.ptr 0 0, .tt, .c (.int .i64 6)] [.own (b32 F)] = adT F 6 := by kernel_rfl
set_option maxRecDepth 100000 in
theorem ad_run7 (F : Nat → Bool) : runF Tryz.prog (CAd Tryz.prog F Tryz.f71 Tryz.f57) noL Tryz.f41 (Tryz.f41.body.getD .skip) [.ptr 0 0, .tt, .c (.int .i64 7)] [.own (b32 F)] = adT F 7 := by kernel_rfl
set_option maxRecDepth 100000 in
theorem ad_run8 (F : Nat → Bool) : runF Tryz.prog (CAd Tryz.prog F Tryz.f71 Tryz.f57) noL Tryz.f41 (Tryz.f41.body.getD .skip) [.ptr 0 0, .tt, .c (.int .i64 8)] [.own (b32 F)] = adT F 8 := by kernel_rfl
set_option maxRecDepth 100000 in
theorem ad_run9 (F : Nat → Bool) : runF Tryz.prog (CAd Tryz.prog F Tryz.f71 Tryz.f57) noL Tryz.f41 (Tryz.f41.body.getD .skip) [.ptr 0 0, .tt, .c (.int .i64 9)] [.own (b32 F)] = adT F 9 := by kernel_rfl
set_option maxRecDepth 100000 in
theorem ad_run10 (F : Nat → Bool) : runF Tryz.prog (CAd Tryz.prog F Tryz.f71 Tryz.f57) noL Tryz.f41 (Tryz.f41.body.getD .skip) [.ptr 0 0, .tt, .c (.int .i64 10)] [.own (b32 F)] = adT F 10 := by kernel_rfl
set_option maxRecDepth 100000 in
theorem ad_run11 (F : Nat → Bool) : runF Tryz.prog (CAd Tryz.prog F Tryz.f71 Tryz.f57) noL Tryz.f41 (Tryz.f41.body.getD .skip) [.ptr 0 0, .tt, .c (.int .i64 11)] [.own (b32 F)] = adT F 11 := by kernel_rfl
set_option maxRecDepth 100000 in
theorem ad_run12 (F : Nat → Bool) : runF Tryz.prog (CAd Tryz.prog F Tryz.f71 Tryz.f57) noL Tryz.f41 (Tryz.f41.body.getD .skip) [.ptr 0 0, .tt, .c (.int .i64 12)] [.own (b32 F)] = adT F 12 := by kernel_rfl
set_option maxRecDepth 100000 in
theorem ad_run13 (F : Nat → Bool) : runF Tryz.prog (CAd Tryz.prog F Tryz.f71 Tryz.f57) noL Tryz.f41 (Tryz.f41.body.getD .skip) [.ptr 0 0, .tt, .c (.int .i64 13)] [.own (b32 F)] = adT F 13 := by kernel_rfl
set_option maxRecDepth 100000 in
theorem ad_run14 (F : Nat → Bool) : runF Tryz.prog (CAd Tryz.prog F Tryz.f71 Tryz.f57) noL Tryz.f41 (Tryz.f41.body.getD .skip) [.ptr 0 0, .tt, .c (.int .i64 14)] [.own (b32 F)] = adT F 14 := by kernel_rfl
set_option maxRecDepth 100000 in
theorem ad_run15 (F : Nat → Bool) : runF Tryz.prog (CAd Tryz.prog F Tryz.f71 Tryz.f57) noL Tryz.f41 (Tryz.f41.body.getD .skip) [.ptr 0 0, .tt, .c (.int .i64 15)] [.own (b32 F)] = adT F 15 := by kernel_rfl
theorem ad_run (F : Nat → Bool) {k : Nat} (hk : k < 16) : runF Tryz.prog (CAd Tryz.prog F Tryz.f71 Tryz.f57) noL Tryz.f41 (Tryz.f41.body.getD .skip) [.ptr 0 0, .tt, .c (.int .i64 (k : Int))] [.own (b32 F)] = adT F k :=
  match k, hk with
  | 0, _ => ad_run0 F
  | 1, _ => ad_run1 F
  | 2, _ => ad_run2 F
  | 3, _ => ad_run3 F
  | 4, _ => ad_run4 F
  | 5, _ => ad_run5 F
  | 6, _ => ad_run6 F
  | 7, _ => ad_run7 F
  | 8, _ => ad_run8 F
  | 9, _ => ad_run9 F
  | 10, _ => ad_run10 F
  | 11, _ => ad_run11 F
  | 12, _ => ad_run12 F
  | 13, _ => ad_run13 F
  | 14, _ => ad_run14 F
  | 15, _ => ad_run15 F
  | n + 16, h => absurd h (by omega)
set_option maxRecDepth 100000 in
theorem ri_run (F : Nat → Bool) (z : Int) : runF Tryz.prog (onlyS Tryz.prog noS) noL Tryz.f71 (Tryz.f71.body.getD .skip) [.ptr 0 0, .v (.int .i64 z)] [.own (b32 F)] = .ite (decide (z < (0 : Int))) (.leaf (.c (.int .i64 3), [.own [SV.v (Value.bool (F 0)), SV.v (Value.bool (F 1)), SV.v (Value.bool (F 2)), SV.v (Value.bool (F 3)), SV.v (Value.bool (F 4)), SV.v (Value.bool (F 5)), SV.v (Value.bool (F 6)), SV.v (Value.bool (F 7)), SV.v (Value.bool (F 8)), SV.v (Value.bool (F 9)), SV.v (Value.bool (F 10)), SV.v (Value.bool (F 11)), SV.v (Value.bool (F 12)), SV.v (Value.bool (F 13)), SV.v (Value.bool (F 14)), SV.v (Value.bool (F 15)), SV.v (Value.bool (F 16)), SV.v (Value.bool (F 17)), SV.v (Value.bool (F 18)), SV.v (Value.bool (F 19)), SV.v (Value.bool (F 20)), SV.v (Value.bool (F 21)), SV.v (Value.bool (F 22)), SV.v (Value.bool (F 23)), SV.v (Value.bool (F 24)), SV.v (Value.bool (F 25)), SV.v (Value.bool (F 26)), SV.v (Value.bool (F 27)), SV.v (Value.bool (F 28)), SV.v (Value.bool (F 29)), SV.v (Value.bool (F 30)), SV.v (Value.bool (F 31))]])) (.ite (decide (z ≥ (16 : Int))) (.leaf (.c (.int .i64 3), [.own [SV.v (Value.bool (F 0)), SV.v (Value.bool (F 1)), SV.v (Value.bool (F 2)), SV.v (Value.bool (F 3)), SV.v (Value.bool (F 4)), SV.v (Value.bool (F 5)), SV.v (Value.bool (F 6)), SV.v (Value.bool (F 7)), SV.v (Value.bool (F 8)), SV.v (Value.bool (F 9)), SV.v (Value.bool (F 10)), SV.v (Value.bool (F 11)), SV.v (Value.bool (F 12)), SV.v (Value.bool (F 13)), SV.v (Value.bool (F 14)), SV.v (Value.bool (F 15)), SV.v (Value.bool (F 16)), SV.v (Value.bool (F 17)), SV.v (Value.bool (F 18)), SV.v (Value.bool (F 19)), SV.v (Value.bool (F 20)), SV.v (Value.bool (F 21)), SV.v (Value.bool (F 22)), SV.v (Value.bool (F 23)), SV.v (Value.bool (F 24)), SV.v (Value.bool (F 25)), SV.v (Value.bool (F 26)), SV.v (Value.bool (F 27)), SV.v (Value.bool (F 28)), SV.v (Value.bool (F 29)), SV.v (Value.bool (F 30)), SV.v (Value.bool (F 31))]])) (.leaf (.c (.int .i64 0), [.own [SV.v (Value.bool (F 0)), SV.v (Value.bool (F 1)), SV.v (Value.bool (F 2)), SV.v (Value.bool (F 3)), SV.v (Value.bool (F 4)), SV.v (Value.bool (F 5)), SV.v (Value.bool (F 6)), SV.v (Value.bool (F 7)), SV.v (Value.bool (F 8)), SV.v (Value.bool (F 9)), SV.v (Value.bool (F 10)), SV.v (Value.bool (F 11)), SV.v (Value.bool (F 12)), SV.v (Value.bool (F 13)), SV.v (Value.bool (F 14)), SV.v (Value.bool (F 15)), SV.v (Value.bool (F 16)), SV.v (Value.bool (F 17)), SV.v (Value.bool (F 18)), SV.v (Value.bool (F 19)), SV.v (Value.bool (F 20)), SV.v (Value.bool (F 21)), SV.v (Value.bool (F 22)), SV.v (Value.bool (F 23)), SV.v (Value.bool (F 24)), SV.v (Value.bool (F 25)), SV.v (Value.bool (F 26)), SV.v (Value.bool (F 27)), SV.v (Value.bool (F 28)), SV.v (Value.bool (F 29)), SV.v (Value.bool (F 30)), SV.v (Value.bool (F 31))]]))) := by kernel_rfl
def fRightO (F : Nat → Bool) : List SV → List Blk → Option (T (SV × List Blk))
  | [.ptr 0 0, .v (.int .i64 z)], [.own l] => some (.need (l = b32 F) (.need (z < 0 ∨ 16 ≤ z) (.leaf (.c (.int .i64 3), [.own (b32 F)]))))
  | _, _ => none
theorem fRightO_ok (F : Nat → Bool) : EntryOk Tryz.prog 71 (fRightO F) := by
  intro ss H t ht bs B w vs hm hv Qs hq
  unfold fRightO at ht
  split at ht
  · rename_i z l
    simp only [Option.some.injEq] at ht
    subst ht
    obtain ⟨hl, hz, hq⟩ := hq
    subst hl
    refine inl_ok (L := noL) (onlyS_ok noS_ok) follows Tryz.func71 (by kernel_rfl) (by kernel_rfl) (noloops (by kernel_rfl)) [.ptr 0 0, .v (.int .i64 z)] [.own (b32 F)] _ rfl bs B w vs hm hv Qs ?_
    rw [ri_run]
    refine t_ite (fun _ => t_leaf hq) fun h1 => t_ite (fun _ => t_leaf hq) fun h2 => ?_
    have h1 := of_decide_eq_false h1
    have h2 := of_decide_eq_false h2
    omega
  · cases ht
abbrev CAo (P : Program) (F : Nat → Bool) : Cfg := both P noS (addT 71 (fRightO F) noF) [58, 71, 57]
theorem CAo_ok (F : Nat → Bool) : CfgOk Tryz.prog (CAo Tryz.prog F) := both_ok noS_ok (addT_ok noF_ok (by kernel_rfl) (fRightO_ok F))
set_option maxRecDepth 100000 in
theorem ad_out (F : Nat → Bool) (z : Int) : runF Tryz.prog (CAo Tryz.prog F) noL Tryz.f41 (Tryz.f41.body.getD .skip) [.ptr 0 0, .tt, .v (.int .i64 z)] [.own (b32 F)] = .need ([SV.v (Value.bool (F 0)), SV.v (Value.bool (F 1)), SV.v (Value.bool (F 2)), SV.v (Value.bool (F 3)), SV.v (Value.bool (F 4)), SV.v (Value.bool (F 5)), SV.v (Value.bool (F 6)), SV.v (Value.bool (F 7)), SV.v (Value.bool (F 8)), SV.v (Value.bool (F 9)), SV.v (Value.bool (F 10)), SV.v (Value.bool (F 11)), SV.v (Value.bool (F 12)), SV.v (Value.bool (F 13)), SV.v (Value.bool (F 14)), SV.v (Value.bool (F 15)), SV.v (Value.bool (F 16)), SV.v (Value.bool (F 17)), SV.v (Value.bool (F 18)), SV.v (Value.bool (F 19)), SV.v (Value.bool (F 20)), SV.v (Value.bool (F 21)), SV.v (Value.bool (F 22)), SV.v (Value.bool (F 23)), SV.v (Value.bool (F 24)), SV.v (Value.bool (F 25)), SV.v (Value.bool (F 26)), SV.v (Value.bool (F 27)), SV.v (Value.bool (F 28)), SV.v (Value.bool (F 29)), SV.v (Value.bool (F 30)), SV.v (Value.bool (F 31))] = [SV.v (Value.bool (F 0)), SV.v (Value.bool (F 1)), SV.v (Value.bool (F 2)), SV.v (Value.bool (F 3)), SV.v (Value.bool (F 4)), SV.v (Value.bool (F 5)), SV.v (Value.bool (F 6)), SV.v (Value.bool (F 7)), SV.v (Value.bool (F 8)), SV.v (Value.bool (F 9)), SV.v (Value.bool (F 10)), SV.v (Value.bool (F 11)), SV.v (Value.bool (F 12)), SV.v (Value.bool (F 13)), SV.v (Value.bool (F 14)), SV.v (Value.bool (F 15)), SV.v (Value.bool (F 16)), SV.v (Value.bool (F 17)), SV.v (Value.bool (F 18)), SV.v (Value.bool (F 19)), SV.v (Value.bool (F 20)), SV.v (Value.bool (F 21)), SV.v (Value.bool (F 22)), SV.v (Value.bool (F 23)), SV.v (Value.bool (F 24)), SV.v (Value.bool (F 25)), SV.v (Value.bool (F 26)), SV.v (Value.bool (F 27)), SV.v (Value.bool (F 28)), SV.v (Value.bool (F 29)), SV.v (Value.bool (F 30)), SV.v (Value.bool (F 31))]) (.need (z < (0 : Int) ∨ (16 : Int) ≤ z) (.leaf (.c (.int .i64 3), [.own [SV.v (Value.bool (F 0)), SV.v (Value.bool (F 1)), SV.v (Value.bool (F 2)), SV.v (Value.bool (F 3)), SV.v (Value.bool (F 4)), SV.v (Value.bool (F 5)), SV.v (Value.bool (F 6)), SV.v (Value.bool (F 7)), SV.v (Value.bool (F 8)), SV.v (Value.bool (F 9)), SV.v (Value.bool (F 10)), SV.v (Value.bool (F 11)), SV.v (Value.bool (F 12)), SV.v (Value.bool (F 13)), SV.v (Value.bool (F 14)), SV.v (Value.bool (F 15)), SV.v (Value.bool (F 16)), SV.v (Value.bool (F 17)), SV.v (Value.bool (F 18)), SV.v (Value.bool (F 19)), SV.v (Value.bool (F 20)), SV.v (Value.bool (F 21)), SV.v (Value.bool (F 22)), SV.v (Value.bool (F 23)), SV.v (Value.bool (F 24)), SV.v (Value.bool (F 25)), SV.v (Value.bool (F 26)), SV.v (Value.bool (F 27)), SV.v (Value.bool (F 28)), SV.v (Value.bool (F 29)), SV.v (Value.bool (F 30)), SV.v (Value.bool (F 31))]]))) := by kernel_rfl
def adE (F : Nat → Bool) (z : Int) : Int := if z < 0 ∨ 16 ≤ z then 3 else if F z.toNat = true then 9 else if 4 ≤ (adN F 16).length then 6 else 0
def adU (F : Nat → Bool) (z : Int) : Nat → Bool := if adE F z = 0 then (fun i => if i = z.toNat then true else F i) else F
theorem b32_tos (B : List Value) (F : Nat → Bool) : SV.tos B (b32 F) = some ((List.range 32).map fun j => .bool (F j)) := rfl
theorem set_cut (F : Nat → Bool) {k : Nat} (hk : k < 16) : ∃ l, cutBlk 1 (.own ((b32 F).set k .tt)) = .own l ∧ ∀ B, SV.tos B l = some ((List.range 32).map fun j => .bool (if j = k then true else F j)) := by
  match k, hk with
  | 0, _ => exact ⟨_, rfl, fun B => rfl⟩
  | 1, _ => exact ⟨_, rfl, fun B => rfl⟩
  | 2, _ => exact ⟨_, rfl, fun B => rfl⟩
  | 3, _ => exact ⟨_, rfl, fun B => rfl⟩
  | 4, _ => exact ⟨_, rfl, fun B => rfl⟩
  | 5, _ => exact ⟨_, rfl, fun B => rfl⟩
  | 6, _ => exact ⟨_, rfl, fun B => rfl⟩
  | 7, _ => exact ⟨_, rfl, fun B => rfl⟩
  | 8, _ => exact ⟨_, rfl, fun B => rfl⟩
  | 9, _ => exact ⟨_, rfl, fun B => rfl⟩
  | 10, _ => exact ⟨_, rfl, fun B => rfl⟩
  | 11, _ => exact ⟨_, rfl, fun B => rfl⟩
  | 12, _ => exact ⟨_, rfl, fun B => rfl⟩
  | 13, _ => exact ⟨_, rfl, fun B => rfl⟩
  | 14, _ => exact ⟨_, rfl, fun B => rfl⟩
  | 15, _ => exact ⟨_, rfl, fun B => rfl⟩
  | n + 16, h => omega
theorem mem_swap {w0 : World} {bs : List Nat} {x y : Blk} {B : List Value} {w : World} (hm : Mem w0 bs [x] B w) (hx : x.excl = true) (hy : y.excl = true) (h : ∀ u, BlkSat B w u x → BlkSat B w u y) : Mem w0 bs [y] B w := by
  have ex : ∀ k b, ExBlk [y] B k b → ExBlk [x] B k b := by
    rintro k b ⟨z, u, h1, h2, h3⟩
    cases k with
    | zero => exact ⟨x, u, by simp, hx, h3⟩
    | succ k => simp at h1
  have rd : ∀ k b, ¬ RdBlk [y] B k b := by
    rintro k b ⟨m, z, g, u, h1, h2⟩
    cases k with
    | zero => simp only [List.getElem?_cons_zero, Option.some.injEq] at h1; subst h1; cases hy
    | succ k => simp at h1
  refine ⟨⟨by simpa using hm.sat.len, fun k z u hk hu => ?_, fun k j b h1 h2 => hm.sat.sep k j b (ex _ _ h1) (ex _ _ h2), fun k j b _ h2 => rd _ _ h2⟩, hm.keeps, fun k b h1 => hm.good k b (ex _ _ h1)⟩
  cases k with
  | zero =>
    simp only [List.getElem?_cons_zero, Option.some.injEq] at hk
    subst hk
    exact h u (hm.sat.blk 0 x u (by simp) hu)
  | succ k => simp at hk
theorem to_bools {w0 : World} {bs : List Nat} {l : List SV} {F : Nat → Bool} {B : List Value} {w : World} (hm : Mem w0 bs [.own l] B w) (h : SV.tos B l = some ((List.range 32).map fun j => .bool (F j))) : Mem w0 bs [.ext (.bools 32 F)] B w :=
  mem_swap hm rfl rfl fun u hu => by
    obtain ⟨b, vs, rfl, h1, h2⟩ := hu
    rw [h, Option.some.injEq] at h1
    subst h1
    exact ⟨b, rfl, h2⟩
theorem of_bools {w0 : World} {bs : List Nat} {F : Nat → Bool} {B : List Value} {w : World} (hm : Mem w0 bs [.ext (.bools 32 F)] B w) : Mem w0 bs [.own (b32 F)] B w :=
  mem_swap hm rfl rfl fun u hu => by
    obtain ⟨b, rfl, h2⟩ := hu
    exact ⟨b, _, rfl, b32_tos B F, h2⟩
set_option maxRecDepth 100000 in
theorem add_any (F : Nat → Bool) (z : Int) {bs : List Nat} {B : List Value} {w : World} {vs : List Value} (hm : Mem w bs [.own (b32 F)] B w) (hv : SV.tos B [.ptr 0 0, .tt, .v (.int .i64 z)] = some vs) {Qs : SV × List Blk → Prop} (hq : Qs (.v (.int .i64 (adE F z)), [.ext (.bools 32 (adU F z))])) :
    Calls Tryz.prog 41 vs.toArray w fun e w' => ∃ s H' B' x, Qs (s, H') ∧ B <+: B' ∧ e = .returned x ∧ s.to B' = some x ∧ Mem w bs H' B' w' := by
  have fin : ∀ (r : SV × List Blk) (B' : List Value) (w' : World) (x : Value), r.1.plain = some (.int .i64 (adE F z)) → (∃ l, r.2 = [.own l] ∧ ∀ B, SV.tos B l = some ((List.range 32).map fun j => .bool (adU F z j))) → B <+: B' → r.1.to B' = some x → Mem w bs r.2 B' w' → ∃ s H' B' y, Qs (s, H') ∧ B <+: B' ∧ Ending.returned x = .returned y ∧ s.to B' = some y ∧ Mem w bs H' B' w' := by
    rintro ⟨s, H'⟩ B' w' x h1 ⟨l, h2, h3⟩ hp hx hm'
    simp only at h1 h2 hx hm'
    subst h2
    rw [SV.plain_to h1, Option.some.injEq] at hx
    subst hx
    exact ⟨_, _, B', _, hq, hp, rfl, rfl, to_bools hm' (h3 B')⟩
  by_cases hz : z < 0 ∨ 16 ≤ z
  · have e1 : adE F z = 3 := if_pos hz
    have e2 : adU F z = F := if_neg (by rw [e1]; decide)
    refine (inl_ok (L := noL) (CAo_ok F) follows Tryz.func41 (by kernel_rfl) (by kernel_rfl) (noloops (by kernel_rfl)) [.ptr 0 0, .tt, .v (.int .i64 z)] [.own (b32 F)] _ rfl bs B w vs hm hv (fun r => r = (.c (.int .i64 3), [.own (b32 F)])) ?_).mono ?_
    · rw [ad_out]
      exact t_need rfl (t_need hz (t_leaf rfl))
    · rintro e w' ⟨s, H', B', x, h1, hp, rfl, hx, hm'⟩
      cases h1
      exact fin (.c (.int .i64 3), [.own (b32 F)]) B' w' x (by rw [e1]; rfl) ⟨_, rfl, fun B => by rw [e2]; rfl⟩ hp hx hm'
  · obtain ⟨k, rfl, hk⟩ : ∃ k : Nat, z = (k : Int) ∧ k < 16 := ⟨z.toNat, by omega, by omega⟩
    have hT := trimE_ok (inl_ok (L := noL) (CAd_ok F) follows Tryz.func41 (by kernel_rfl) (by kernel_rfl) (noloops (by kernel_rfl)))
    have hC := hT [.ptr 0 0, .tt, .c (.int .i64 (k : Int))] [.own (b32 F)] _ rfl bs B w vs hm (by rw [← hv]; rfl) (fun r => r.1.plain = some (.int .i64 (adE F k)) ∧ ∃ l, r.2 = [.own l] ∧ ∀ B, SV.tos B l = some ((List.range 32).map fun j => .bool (adU F k j))) ?_
    · refine hC.mono ?_
      rintro e w' ⟨s, H', B', x, ⟨h1, h2⟩, hp, rfl, hx, hm'⟩
      exact fin (s, H') B' w' x h1 h2 hp hx hm'
    · rw [ad_run F hk]
      have h16 : ¬ ((k : Int) < 0 ∨ 16 ≤ (k : Int)) := hz
      refine t_chk ⟨by omega, by omega⟩ (t_ite (fun h => ?_) fun h => t_need rfl (t_ite (fun h2 => ?_) fun h2 => t_chk ⟨by omega, by omega⟩ ?_))
      · have e1 : adE F k = 9 := by unfold adE; rw [if_neg h16, if_pos (by simpa using h)]
        have e2 : adU F k = F := if_neg (by rw [e1]; decide)
        rw [e1, e2]
        exact ⟨rfl, _, rfl, fun B => rfl⟩
      · have h2 : 4 ≤ (adN F 16).length := by have := of_decide_eq_true h2; omega
        have e1 : adE F k = 6 := by unfold adE; rw [if_neg h16, if_neg (by simp [h]), if_pos h2]
        have e2 : adU F k = F := if_neg (by rw [e1]; decide)
        rw [e1, e2]
        exact ⟨rfl, _, rfl, fun B => rfl⟩
      · have h2 : ¬ 4 ≤ (adN F 16).length := by have := of_decide_eq_false h2; omega
        have e1 : adE F k = 0 := by unfold adE; rw [if_neg h16, if_neg (by simp [h]), if_neg h2]
        have e2 : adU F k = fun i => if i = k then true else F i := by unfold adU; rw [if_pos e1]; rfl
        rw [e1, e2]
        obtain ⟨l, h5, h6⟩ := set_cut F hk
        exact ⟨rfl, l, congrArg (fun x => [x]) h5, h6⟩
def isTT : SV → Bool
  | .tt => true
  | .v (.bool true) => true
  | .c (.bool true) => true
  | _ => false
theorem isTT_eq {s : SV} (h : isTT s = true) (B : List Value) : s.to B = some (.bool true) := by
  unfold isTT at h
  split at h
  · rfl
  · rfl
  · rfl
  · cases h
def isFF : SV → Bool
  | .ff => true
  | .v (.bool false) => true
  | .c (.bool false) => true
  | _ => false
theorem isFF_eq {s : SV} (h : isFF s = true) (B : List Value) : s.to B = some (.bool false) := by
  unfold isFF at h
  split at h
  · rfl
  · rfl
  · rfl
  · cases h
def noB : Nat → Bool := fun _ => false
def fAdd : List SV → List Blk → Option (T (SV × List Blk))
  | [.ptr 0 0, o, a], [.ext (.bools 32 F)] => (match isTT o, a.plain with
    | true, some (.int .i64 z) => some (.leaf (.v (.int .i64 (adE F z)), [.ext (.bools 32 (adU F z))]))
    | _, _ => none)
  | [.ptr 0 0, o, a], [.own l] => (match isTT o && Nat.beq l.length 32 && l.all isFF, a.plain with
    | true, some (.int .i64 z) => some (.leaf (.v (.int .i64 (adE noB z)), [.ext (.bools 32 (adU noB z))]))
    | _, _ => none)
  | _, _ => none
theorem ff_tos {B : List Value} : ∀ {l : List SV}, l.all isFF = true → SV.tos B l = some (List.replicate l.length (.bool false))
  | [], _ => rfl
  | s :: l, h => by
    simp only [List.all_cons, Bool.and_eq_true] at h
    simp only [SV.tos, isFF_eq h.1, ff_tos h.2, List.length_cons, List.replicate_succ]
theorem fAdd_ok : EntryOk Tryz.prog 41 fAdd := by
  intro ss H t ht bs B w vs hm hv Qs hq
  unfold fAdd at ht
  split at ht
  · rename_i o a F
    split at ht
    · rename_i z ho ha
      simp only [Option.some.injEq] at ht
      subst ht
      refine add_any F z (of_bools hm) ?_ hq
      rw [← hv]
      simp only [SV.tos, isTT_eq ho, SV.plain_to ha]
      rfl
    · cases ht
  · rename_i o a l
    split at ht
    · rename_i z ho ha
      simp only [Option.some.injEq] at ht
      subst ht
      simp only [Bool.and_eq_true, Nat.beq_eq] at ho
      obtain ⟨⟨h1, h2⟩, h3⟩ := ho
      have hm2 : Mem w bs [.ext (.bools 32 noB)] B w := to_bools hm (by rw [ff_tos h3, h2]; rfl)
      refine add_any noB z (of_bools hm2) ?_ hq
      rw [← hv]
      simp only [SV.tos, isTT_eq h1, SV.plain_to ha]
      rfl
    · cases ht
  · cases ht
theorem mem_swap1 {w0 : World} {bs : List Nat} {x y : Blk} {H : List Blk} {B : List Value} {w : World} (hm : Mem w0 bs (x :: H) B w) (hx : x.excl = true) (hy : y.excl = true) (h : ∀ u, BlkSat B w u x → BlkSat B w u y) : Mem w0 bs (y :: H) B w := by
  have ex : ∀ k b, ExBlk (y :: H) B k b → ExBlk (x :: H) B k b := by
    rintro k b ⟨z, u, h1, h2, h3⟩
    cases k with
    | zero => exact ⟨x, u, by simp, hx, h3⟩
    | succ k => exact ⟨z, u, by simpa using h1, h2, h3⟩
  have rd : ∀ k b, RdBlk (y :: H) B k b → RdBlk (x :: H) B k b := by
    rintro k b ⟨m, z, g, u, h1, h2⟩
    cases k with
    | zero => simp only [List.getElem?_cons_zero, Option.some.injEq] at h1; subst h1; cases hy
    | succ k => exact ⟨m, z, g, u, by simpa using h1, h2⟩
  refine ⟨⟨by simpa using hm.sat.len, fun k z u hk hu => ?_, fun k j b h1 h2 => hm.sat.sep k j b (ex _ _ h1) (ex _ _ h2), fun k j b h1 h2 => hm.sat.far k j b (ex _ _ h1) (rd _ _ h2)⟩, hm.keeps, fun k b h1 => hm.good k b (ex _ _ h1)⟩
  cases k with
  | zero =>
    simp only [List.getElem?_cons_zero, Option.some.injEq] at hk
    subst hk
    exact h u (hm.sat.blk 0 x u (by simp) hu)
  | succ k => exact hm.sat.blk (k + 1) z u (by simpa using hk) hu
def inlF (P : Program) (C : Cfg) (k : Nat) (fn : Func) : List SV → List Blk → Option (T (SV × List Blk)) := fun ss H => some (canT H.length (runF P C (LFew P C fn k) fn (fn.body.getD .skip) ss H))
theorem inlF_ok {C : Cfg} (hC : CfgOk Tryz.prog C) {k : Nat} {f : FuncId} {fn : Func} (hf : Tryz.prog.funcs[f]? = some fn) (hb : fn.body.isSome = true) (hlex : lexAll C (fn.body.getD .skip) = true) : EntryOk Tryz.prog f (inlF Tryz.prog C k fn) := by
  intro ss H t h bs B w vs hm hvs Qs hq
  simp only [inlF, Option.some.injEq] at h
  exact canT_ok hC follows hf hb hlex (LFew_ok hC follows) h hm hvs hq
abbrev FNa : LTab := addT 41 fAdd noF
theorem FNa_ok : LOk Tryz.prog FNa := addT_ok noF_ok (by kernel_rfl) fAdd_ok
abbrev CNa (P : Program) : Cfg := both P noS FNa [41]
theorem CNa_ok : CfgOk Tryz.prog (CNa Tryz.prog) := both_ok noS_ok FNa_ok
abbrev FSo (P : Program) (fn fc : Func) : LTab := addT 18 (inlF P (CNa P) 5 fn) <| addT 51 (trimE (inl P (onlyS P noS) noL fc)) FNa
abbrev fsSo : List Nat := [41, 18, 51]
theorem FSo_ok : LOk Tryz.prog (FSo Tryz.prog Tryz.f18 Tryz.f51) := addT_ok (addT_ok FNa_ok (by kernel_rfl) (trimE_ok (inl_ok (L := noL) (onlyS_ok noS_ok) follows Tryz.func51 (by kernel_rfl) (by kernel_rfl) (noloops (by kernel_rfl))))) (by kernel_rfl) (inlF_ok CNa_ok Tryz.func18 (by kernel_rfl) (by kernel_rfl))
abbrev CSo (P : Program) (fn fc : Func) : Cfg := both P noS (FSo P fn fc) fsSo
theorem CSo_ok : CfgOk Tryz.prog (CSo Tryz.prog Tryz.f18 Tryz.f51) := both_ok noS_ok FSo_ok
abbrev rowA (n : Nat) (a : Nat → Int) : Blk := .row n 1 fun i _ => .int .i64 (a i)
abbrev cfgS (sv : Int) (mu : Bool) (mo ho : Int) (key : ByteArray) : SV := .agg [.ref 0, .v (.int .i64 sv), .v (.bool mu), .v (.int .i64 mo), .v (.int .i64 ho), .v (.string key)]
set_option maxRecDepth 100000 in
theorem sn_run (side sv : Int) (mu : Bool) (mo ho : Int) (key : ByteArray) (n : Nat) (a : Nat → Int) : runO Tryz.prog (CSo Tryz.prog Tryz.f18 Tryz.f51) (LFew Tryz.prog (CSo Tryz.prog Tryz.f18 Tryz.f51) Tryz.f16 5) Tryz.f16 [.v (.int .i64 side), cfgS sv mu mo ho key] [rowA n a] = .ite (!decide (side = (0 : Int))) (.ite (!decide (side = (1 : Int))) (.leaf (Value.int IntKind.i64 7)) (.ite (decide (sv < (0 : Int))) (.leaf (Value.int IntKind.i64 3)) (.ite (decide (sv ≥ (4294967296 : Int))) (.leaf (Value.int IntKind.i64 3)) (.ite (decide ((↑n : Int) = (0 : Int))) (.leaf (Value.int IntKind.i64 8)) (.ite (decide ((0 : Int) < (↑n : Int))) (.chk ((0 : Int) ≤ (0 : Int) ∧ (0 : Int) < (↑n : Int)) (.chk (0 < n) (.ite (!decide (adE noB (a 0) = (0 : Int))) (.leaf (Value.int IntKind.i64 (adE noB (a 0)))) (.ite (decide ((1 : Int) < (↑n : Int))) (.chk ((0 : Int) ≤ (1 : Int) ∧ (1 : Int) < (↑n : Int)) (.chk (1 < n) (.ite (!decide (adE (adU noB (a 0)) (a 1) = (0 : Int))) (.leaf (Value.int IntKind.i64 (adE (adU noB (a 0)) (a 1)))) (.ite (decide ((2 : Int) < (↑n : Int))) (.chk ((0 : Int) ≤ (2 : Int) ∧ (2 : Int) < (↑n : Int)) (.chk (2 < n) (.ite (!decide (adE (adU (adU noB (a 0)) (a 1)) (a 2) = (0 : Int))) (.leaf (Value.int IntKind.i64 (adE (adU (adU noB (a 0)) (a 1)) (a 2)))) (.ite (decide ((3 : Int) < (↑n : Int))) (.chk ((0 : Int) ≤ (3 : Int) ∧ (3 : Int) < (↑n : Int)) (.chk (3 < n) (.ite (!decide (adE (adU (adU (adU noB (a 0)) (a 1)) (a 2)) (a 3) = (0 : Int))) (.leaf (Value.int IntKind.i64 (adE (adU (adU (adU noB (a 0)) (a 1)) (a 2)) (a 3)))) (.ite (decide ((4 : Int) < (↑n : Int))) (.chk ((0 : Int) ≤ (4 : Int) ∧ (4 : Int) < (↑n : Int)) (.chk (4 < n) (.ite (!decide (adE (adU (adU (adU (adU noB (a 0)) (a 1)) (a 2)) (a 3)) (a 4) = (0 : Int))) (.leaf (Value.int IntKind.i64 (adE (adU (adU (adU (adU noB (a 0)) (a 1)) (a 2)) (a 3)) (a 4)))) (T.stuck 38)))) (.ite (decide ((↑key.size : Int) = (0 : Int))) (.leaf (Value.int IntKind.i64 11)) (.ite (decide ((↑key.size : Int) > (64 : Int))) (.leaf (Value.int IntKind.i64 11)) (.ite (decide (mo < (0 : Int))) (.leaf (Value.int IntKind.i64 7)) (.ite (decide (mo > (2 : Int))) (.leaf (Value.int IntKind.i64 7)) (.ite (decide (ho < (0 : Int))) (.leaf (Value.int IntKind.i64 3)) (.ite (decide (ho > (60 : Int))) (.leaf (Value.int IntKind.i64 3)) (.leaf (Value.int IntKind.i64 0)))))))))))) (.ite (decide ((↑key.size : Int) = (0 : Int))) (.leaf (Value.int IntKind.i64 11)) (.ite (decide ((↑key.size : Int) > (64 : Int))) (.leaf (Value.int IntKind.i64 11)) (.ite (decide (mo < (0 : Int))) (.leaf (Value.int IntKind.i64 7)) (.ite (decide (mo > (2 : Int))) (.leaf (Value.int IntKind.i64 7)) (.ite (decide (ho < (0 : Int))) (.leaf (Value.int IntKind.i64 3)) (.ite (decide (ho > (60 : Int))) (.leaf (Value.int IntKind.i64 3)) (.leaf (Value.int IntKind.i64 0)))))))))))) (.ite (decide ((↑key.size : Int) = (0 : Int))) (.leaf (Value.int IntKind.i64 11)) (.ite (decide ((↑key.size : Int) > (64 : Int))) (.leaf (Value.int IntKind.i64 11)) (.ite (decide (mo < (0 : Int))) (.leaf (Value.int IntKind.i64 7)) (.ite (decide (mo > (2 : Int))) (.leaf (Value.int IntKind.i64 7)) (.ite (decide (ho < (0 : Int))) (.leaf (Value.int IntKind.i64 3)) (.ite (decide (ho > (60 : Int))) (.leaf (Value.int IntKind.i64 3)) (.leaf (Value.int IntKind.i64 0)))))))))))) (.ite (decide ((↑key.size : Int) = (0 : Int))) (.leaf (Value.int IntKind.i64 11)) (.ite (decide ((↑key.size : Int) > (64 : Int))) (.leaf (Value.int IntKind.i64 11)) (.ite (decide (mo < (0 : Int))) (.leaf (Value.int IntKind.i64 7)) (.ite (decide (mo > (2 : Int))) (.leaf (Value.int IntKind.i64 7)) (.ite (decide (ho < (0 : Int))) (.leaf (Value.int IntKind.i64 3)) (.ite (decide (ho > (60 : Int))) (.leaf (Value.int IntKind.i64 3)) (.leaf (Value.int IntKind.i64 0)))))))))))) (.ite (decide ((↑key.size : Int) = (0 : Int))) (.leaf (Value.int IntKind.i64 11)) (.ite (decide ((↑key.size : Int) > (64 : Int))) (.leaf (Value.int IntKind.i64 11)) (.ite (decide (mo < (0 : Int))) (.leaf (Value.int IntKind.i64 7)) (.ite (decide (mo > (2 : Int))) (.leaf (Value.int IntKind.i64 7)) (.ite (decide (ho < (0 : Int))) (.leaf (Value.int IntKind.i64 3)) (.ite (decide (ho > (60 : Int))) (.leaf (Value.int IntKind.i64 3)) (.leaf (Value.int IntKind.i64 0))))))))))))) (.ite (decide (sv < (0 : Int))) (.leaf (Value.int IntKind.i64 3)) (.ite (decide (sv ≥ (4294967296 : Int))) (.leaf (Value.int IntKind.i64 3)) (.ite (decide ((↑n : Int) = (0 : Int))) (.leaf (Value.int IntKind.i64 8)) (.ite (decide ((0 : Int) < (↑n : Int))) (.chk ((0 : Int) ≤ (0 : Int) ∧ (0 : Int) < (↑n : Int)) (.chk (0 < n) (.ite (!decide (adE noB (a 0) = (0 : Int))) (.leaf (Value.int IntKind.i64 (adE noB (a 0)))) (.ite (decide ((1 : Int) < (↑n : Int))) (.chk ((0 : Int) ≤ (1 : Int) ∧ (1 : Int) < (↑n : Int)) (.chk (1 < n) (.ite (!decide (adE (adU noB (a 0)) (a 1) = (0 : Int))) (.leaf (Value.int IntKind.i64 (adE (adU noB (a 0)) (a 1)))) (.ite (decide ((2 : Int) < (↑n : Int))) (.chk ((0 : Int) ≤ (2 : Int) ∧ (2 : Int) < (↑n : Int)) (.chk (2 < n) (.ite (!decide (adE (adU (adU noB (a 0)) (a 1)) (a 2) = (0 : Int))) (.leaf (Value.int IntKind.i64 (adE (adU (adU noB (a 0)) (a 1)) (a 2)))) (.ite (decide ((3 : Int) < (↑n : Int))) (.chk ((0 : Int) ≤ (3 : Int) ∧ (3 : Int) < (↑n : Int)) (.chk (3 < n) (.ite (!decide (adE (adU (adU (adU noB (a 0)) (a 1)) (a 2)) (a 3) = (0 : Int))) (.leaf (Value.int IntKind.i64 (adE (adU (adU (adU noB (a 0)) (a 1)) (a 2)) (a 3)))) (.ite (decide ((4 : Int) < (↑n : Int))) (.chk ((0 : Int) ≤ (4 : Int) ∧ (4 : Int) < (↑n : Int)) (.chk (4 < n) (.ite (!decide (adE (adU (adU (adU (adU noB (a 0)) (a 1)) (a 2)) (a 3)) (a 4) = (0 : Int))) (.leaf (Value.int IntKind.i64 (adE (adU (adU (adU (adU noB (a 0)) (a 1)) (a 2)) (a 3)) (a 4)))) (T.stuck 38)))) (.ite (decide ((↑key.size : Int) = (0 : Int))) (.leaf (Value.int IntKind.i64 11)) (.ite (decide ((↑key.size : Int) > (64 : Int))) (.leaf (Value.int IntKind.i64 11)) (.ite (decide (mo < (0 : Int))) (.leaf (Value.int IntKind.i64 7)) (.ite (decide (mo > (2 : Int))) (.leaf (Value.int IntKind.i64 7)) (.ite (decide (ho < (0 : Int))) (.leaf (Value.int IntKind.i64 3)) (.ite (decide (ho > (60 : Int))) (.leaf (Value.int IntKind.i64 3)) (.leaf (Value.int IntKind.i64 0)))))))))))) (.ite (decide ((↑key.size : Int) = (0 : Int))) (.leaf (Value.int IntKind.i64 11)) (.ite (decide ((↑key.size : Int) > (64 : Int))) (.leaf (Value.int IntKind.i64 11)) (.ite (decide (mo < (0 : Int))) (.leaf (Value.int IntKind.i64 7)) (.ite (decide (mo > (2 : Int))) (.leaf (Value.int IntKind.i64 7)) (.ite (decide (ho < (0 : Int))) (.leaf (Value.int IntKind.i64 3)) (.ite (decide (ho > (60 : Int))) (.leaf (Value.int IntKind.i64 3)) (.leaf (Value.int IntKind.i64 0)))))))))))) (.ite (decide ((↑key.size : Int) = (0 : Int))) (.leaf (Value.int IntKind.i64 11)) (.ite (decide ((↑key.size : Int) > (64 : Int))) (.leaf (Value.int IntKind.i64 11)) (.ite (decide (mo < (0 : Int))) (.leaf (Value.int IntKind.i64 7)) (.ite (decide (mo > (2 : Int))) (.leaf (Value.int IntKind.i64 7)) (.ite (decide (ho < (0 : Int))) (.leaf (Value.int IntKind.i64 3)) (.ite (decide (ho > (60 : Int))) (.leaf (Value.int IntKind.i64 3)) (.leaf (Value.int IntKind.i64 0)))))))))))) (.ite (decide ((↑key.size : Int) = (0 : Int))) (.leaf (Value.int IntKind.i64 11)) (.ite (decide ((↑key.size : Int) > (64 : Int))) (.leaf (Value.int IntKind.i64 11)) (.ite (decide (mo < (0 : Int))) (.leaf (Value.int IntKind.i64 7)) (.ite (decide (mo > (2 : Int))) (.leaf (Value.int IntKind.i64 7)) (.ite (decide (ho < (0 : Int))) (.leaf (Value.int IntKind.i64 3)) (.ite (decide (ho > (60 : Int))) (.leaf (Value.int IntKind.i64 3)) (.leaf (Value.int IntKind.i64 0)))))))))))) (.ite (decide ((↑key.size : Int) = (0 : Int))) (.leaf (Value.int IntKind.i64 11)) (.ite (decide ((↑key.size : Int) > (64 : Int))) (.leaf (Value.int IntKind.i64 11)) (.ite (decide (mo < (0 : Int))) (.leaf (Value.int IntKind.i64 7)) (.ite (decide (mo > (2 : Int))) (.leaf (Value.int IntKind.i64 7)) (.ite (decide (ho < (0 : Int))) (.leaf (Value.int IntKind.i64 3)) (.ite (decide (ho > (60 : Int))) (.leaf (Value.int IntKind.i64 3)) (.leaf (Value.int IntKind.i64 0)))))))))))) := by kernel_rfl
def ints (f : Nat → Nat → Value) (i : Nat) : Int := intV (f i 0)
def IntP (n : Nat) (f : Nat → Nat → Value) : Prop := n ≤ 1000000 ∧ ∀ i, i < n → f i 0 = .int .i64 (ints f i)
theorem int_row {w : World} {u : Value} {n : Nat} {f : Nat → Nat → Value} (h : ∀ B, BlkSat B w u (.row n 1 f)) (hp : IntP n f) : ∀ B, BlkSat B w u (rowA n (ints f)) := fun B => row_congr (h B) fun i j hi hj => by
  obtain rfl : j = 0 := by omega
  exact hp.2 i hi
def hasF (f : Nat → Int) (z : Int) (i : Nat) : Bool := decide (f i = z)
def hasI (n : Nat) (f : Nat → Int) (z : Int) : Nat := firstOf (hasF f z) n 0
def hasN (n : Nat) (f : Nat → Int) (z : Int) : Bool := decide (hasI n f z < n)
theorem hasI_le (n : Nat) (f : Nat → Int) (z : Int) : hasI n f z ≤ n ∧ (∀ j, j < hasI n f z → ¬ f j = z) ∧ (hasI n f z < n → f (hasI n f z) = z) := by
  obtain ⟨h1, h2, h3, h4⟩ := firstOf_spec (hasF f z) n 0
  refine ⟨by unfold hasI; omega, fun j hj => ?_, fun h => ?_⟩
  · have := h3 j (Nat.zero_le _) hj
    unfold hasF at this
    exact of_decide_eq_false this
  · have h : hasF f z (hasI n f z) = true := h4 (by unfold hasI at h; omega)
    unfold hasF at h
    exact of_decide_eq_true h
def ha_st (n : Nat) (f : Nat → Int) (z i : Int) : St := ⟨[(0, some (.ref 0)), (1, some (.v (.int .i64 z))), (5, some (.v (.int .i64 i)))], [rowA n f]⟩
set_option maxRecDepth 100000 in
theorem ha_round (n : Nat) (f : Nat → Int) (z i : Int) : roundM Tryz.prog (onlyS Tryz.prog noS) noL Tryz.f56.ntmps 0 (loopAt Tryz.f56 0) 1 [0, 1, 5] [] [] (ha_st n f z i) = .ite (decide (i < (↑n : Int))) (.chk ((0 : Int) ≤ i ∧ i < (↑n : Int)) (.chk (i.toNat < n) (.ite (decide (f i.toNat = z)) (.leaf (Ex.ret, St.mk [(4, some SV.tt), (17, some SV.tt), (17, some (SV.v (Value.bool (decide (f i.toNat = z))))), (16, some (.v (.int .i64 z))), (15, some (.v (.int .i64 (f i.toNat)))), (14, some (SV.elt 0 1 i.toNat 0)), (13, some (.v (.int .i64 i))), (12, some (SV.ref 0)), (9, some SV.tt), (9, some (SV.v (Value.bool (decide (i < (↑n : Int)))))), (8, some (.v (.int .i64 (↑n : Int)))), (7, some (SV.ref 0)), (6, some (.v (.int .i64 i))), (0, some (SV.ref 0)), (1, some (.v (.int .i64 z))), (5, some (.v (.int .i64 i)))] [Blk.row n 1 fun i x => Value.int IntKind.i64 (f i)])) (.leaf (Ex.normal, St.mk [(0, some (SV.ref 0)), (1, some (.v (.int .i64 z))), (5, some (.v (.int .i64 (IntKind.i64.wrap (i + (1 : Int))))))] [Blk.row n 1 fun i x => Value.int IntKind.i64 (f i)]))))) (.leaf (Ex.exit 0, St.mk [(0, some (SV.ref 0)), (1, some (.v (.int .i64 z))), (5, some (.v (.int .i64 i)))] [Blk.row n 1 fun i x => Value.int IntKind.i64 (f i)])) := by kernel_rfl
def Lha (P' : Program) (fn : Func) (n : Nat) (f : Nat → Int) (z e : Int) : Nat → St → Option (T (Ex × St)) :=
  addL 0 (fun st => .need (st.H.length = 1) (.need (st.tidy 1 [0, 1, 5] [] [] = ha_st n f z (0 : Int)) ((roundM P' (onlyS P' noS) noL fn.ntmps 0 (loopAt fn 0) 1 [0, 1, 5] [] [] (closeAt [] (ha_st n f z e))).bind (lastX 0)))) noL
set_option maxRecDepth 100000 in
theorem ha_run (n : Nat) (f : Nat → Int) (z e : Int) : runO Tryz.prog (onlyS Tryz.prog noS) (Lha Tryz.prog Tryz.f56 n f z e) Tryz.f56 [.ref 0, .v (.int .i64 z)] [rowA n f] = .need (1 = 1) (.need (St.mk [(0, some (SV.ref 0)), (1, some (.v (.int .i64 z))), (5, some (.v (.int .i64 0)))] [Blk.row n 1 fun i x => Value.int IntKind.i64 (f i)] = St.mk [(0, some (SV.ref 0)), (1, some (.v (.int .i64 z))), (5, some (.v (.int .i64 0)))] [Blk.row n 1 fun i x => Value.int IntKind.i64 (f i)]) (.ite (decide (e < (↑n : Int))) (.chk ((0 : Int) ≤ e ∧ e < (↑n : Int)) (.chk (e.toNat < n) (.ite (decide (f e.toNat = z)) (.leaf (Value.bool true)) (T.stuck 39)))) (.leaf (Value.bool false)))) := by kernel_rfl
set_option maxRecDepth 100000 in
theorem ha_step (n : Nat) (f : Nat → Int) (z : Int) (hn : n ≤ 1000000) : ∀ i : Nat, i ≤ hasI n f z → i ≠ hasI n f z → (roundM Tryz.prog (onlyS Tryz.prog noS) noL Tryz.f56.ntmps 0 (loopAt Tryz.f56 0) 1 [0, 1, 5] [] [] (ha_st n f z (i : Nat))).ok fun r => r.1 = .normal ∧ ∃ j, j ≤ hasI n f z ∧ hasI n f z - j < hasI n f z - i ∧ r.2 = ha_st n f z (j : Nat) := by
  intro i hi hne
  obtain ⟨h1, h2, -⟩ := hasI_le n f z
  have h3 := h2 i (by omega)
  have e2 : IntKind.i64.wrap ((i : Int) + 1) = ((i + 1 : Nat) : Int) := by rw [w64i (by omega) (by omega)]; rfl
  rw [ha_round]
  simp only [Int.toNat_natCast, e2]
  exact t_ite (fun _ => t_chk ⟨by omega, by omega⟩ (t_chk (by omega) (t_ite (fun h => absurd (of_decide_eq_true h) h3) fun _ => t_leaf ⟨rfl, i + 1, by omega, by omega, rfl⟩))) fun h => absurd (show (i : Int) < n by omega) (of_decide_eq_false h)
set_option maxRecDepth 100000 in
theorem ref36_has (n : Nat) (f : Nat → Int) (z : Int) (hn : n ≤ 1000000) (v : Value) (w : World) (hv : ∀ B, BlkSat B w v (rowA n f)) : Calls Tryz.prog 56 #[v, .int .i64 z] w fun e w' => e = .returned (.bool (hasN n f z)) ∧ Below w.heap.size w w' := by
  obtain ⟨h1, h2, h3⟩ := hasI_le n f z
  refine calls_runO (onlyS_ok noS_ok) follows Tryz.func56 (by kernel_rfl) (by kernel_rfl) (one_loop (b := loopAt Tryz.f56 0) (id := 0) (by kernel_rfl) fun st t h' => ?_) (ha_run n f z (hasI n f z)) ?_ (mem_row (hv [v])) rfl
  · rw [addL_same h']
    exact loop_cnt (N := Tryz.f56.ntmps) (onlyS_ok noS_ok) follows (by kernel_rfl) (noloops (by kernel_rfl)) (fun i => i ≤ hasI n f z) (fun i => ha_st n f z (i : Nat)) (fun i => hasI n f z - i) 1 [0, 1, 5] [] [] (hasI n f z) [] (ha_step n f z hn) (Nat.zero_le _)
  · simp only [Int.toNat_natCast]
    refine t_need trivial (t_need trivial (t_ite (fun h => ?_) fun h => t_leaf ?_))
    · have h := of_decide_eq_true h
      refine t_chk ⟨by omega, by omega⟩ (t_chk (by omega) (t_ite (fun _ => t_leaf ?_) fun h4 => absurd (h3 (by omega)) (of_decide_eq_false h4)))
      rw [show hasN n f z = true from decide_eq_true (by omega)]
    · have h := of_decide_eq_false h
      rw [show hasN n f z = false from decide_eq_false (by omega)]
def rdHas : List SV → List Blk → Option (List Prop × Value)
  | [s, t], H => (match rowIn 1 H s, t.plain with
    | some (n, f), some (.int .i64 z) => some ([IntP n f], .bool (hasN n (ints f) z))
    | _, _ => none)
  | _, _ => none
theorem rdHas_ok : ReadOk Tryz.prog 56 rdHas := by
  intro ss H q x h bs B w vs hm hv hp
  unfold rdHas at h
  split at h
  · split at h
    · rename_i s t n f z hr hz
      simp only [Option.some.injEq, Prod.mk.injEq] at h
      obtain ⟨rfl, rfl⟩ := h
      obtain ⟨x0, r0, e0, v0, rfl⟩ := tos_cons hv
      obtain ⟨x1, r1, e1, v1, rfl⟩ := tos_cons v0
      obtain rfl := tos_nil v1
      rw [SV.plain_to hz, Option.some.injEq] at e1
      subst e1
      have p1 := hp _ (List.mem_cons_self ..)
      exact ref36_has n (ints f) z p1.1 x0 w (int_row (rowIn_ok hm e0 hr) p1)
    · cases h
  · cases h
abbrev FRa (P : Program) (fi : Func) : LTab := addT 55 (trimE (inl P (onlyS P noS) noL fi)) <| addR 56 rdHas noF
theorem FRa_ok : LOk Tryz.prog (FRa Tryz.prog Tryz.f55) := addT_ok (addR_ok noF_ok (by kernel_rfl) rdHas_ok) (by kernel_rfl) (trimE_ok (inl_ok (L := noL) (onlyS_ok noS_ok) follows Tryz.func55 (by kernel_rfl) (by kernel_rfl) (noloops (by kernel_rfl))))
abbrev CRa (P : Program) (fi : Func) : Cfg := both P noS (FRa P fi) [55, 56]
theorem CRa_ok : CfgOk Tryz.prog (CRa Tryz.prog Tryz.f55) := both_ok noS_ok FRa_ok
abbrev vecI (xs : List Int) : Blk := .vec true 3 1 xs.length (intCells xs)
def ra_st (xs : List Int) (z : Int) (ys : List Int) (i : Int) : St := ⟨[(6, some (.ref 1)), (0, some (.ref 0)), (1, some (.v (.int .i64 z))), (7, some (.v (.int .i64 i)))], [vecI xs, vecI ys]⟩
set_option maxRecDepth 100000 in
theorem ra_round (xs : List Int) (z : Int) (ys : List Int) (i : Int) : roundM Tryz.prog (CRa Tryz.prog Tryz.f55) noL Tryz.f26.ntmps 1 (loopAt Tryz.f26 0) 1 [0, 1, 7] [(6, 3, 1)] [] (ra_st xs z ys i) = .ite (decide (i < (16 : Int))) (.ite (decide (i = z)) (.chk (ys.length + 1 ≤ 9223372036854775807 ∧ (ys.length + 1) * 8 ≤ 140737488355328) (.chk (allOneP [Value.int IntKind.i64 i]) (.leaf (Ex.normal, St.mk [(6, some (SV.ref 1)), (0, some (SV.ref 0)), (1, some (.v (.int .i64 z))), (7, some (.v (.int .i64 (IntKind.i64.wrap (i + (1 : Int))))))] [Blk.vec true 3 1 xs.length (intCells xs), Blk.vec true 3 1 (ys.length + 1) (intCells ys ++ [Value.int IntKind.i64 i])])))) (.need (IntP xs.length fun i j => cellAt (intCells xs) (i * 1 + j)) (.ite (hasN xs.length (ints fun i j => cellAt (intCells xs) (i * 1 + j)) i) (.chk (ys.length + 1 ≤ 9223372036854775807 ∧ (ys.length + 1) * 8 ≤ 140737488355328) (.chk (allOneP [Value.int IntKind.i64 i]) (.leaf (Ex.normal, St.mk [(6, some (SV.ref 1)), (0, some (SV.ref 0)), (1, some (.v (.int .i64 z))), (7, some (.v (.int .i64 (IntKind.i64.wrap (i + (1 : Int))))))] [Blk.vec true 3 1 xs.length (intCells xs), Blk.vec true 3 1 (ys.length + 1) (intCells ys ++ [Value.int IntKind.i64 i])])))) (.leaf (Ex.normal, St.mk [(6, some (SV.ref 1)), (0, some (SV.ref 0)), (1, some (.v (.int .i64 z))), (7, some (.v (.int .i64 (IntKind.i64.wrap (i + (1 : Int))))))] [Blk.vec true 3 1 xs.length (intCells xs), Blk.vec true 3 1 ys.length (intCells ys)]))))) (.leaf (Ex.exit 1, St.mk [(6, some (SV.ref 1)), (0, some (SV.ref 0)), (1, some (.v (.int .i64 z))), (7, some (.v (.int .i64 i)))] [Blk.vec true 3 1 xs.length (intCells xs), Blk.vec true 3 1 ys.length (intCells ys)])) := by kernel_rfl
def Lra (P' : Program) (fi fn : Func) (xs : List Int) (z : Int) (ys : List Int) (e : Int) : Nat → St → Option (T (Ex × St)) :=
  addL 1 (fun st => .need (st.H.length = 1) (.need (st.tidy 1 [0, 1, 7] [(6, 3, 1)] [] = ra_st xs z [] (0 : Int)) ((roundM P' (CRa P' fi) noL fn.ntmps 1 (loopAt fn 0) 1 [0, 1, 7] [(6, 3, 1)] [] (closeAt [] (ra_st xs z ys e))).bind (lastX 1)))) noL
set_option maxRecDepth 100000 in
theorem ra_run (xs : List Int) (z : Int) (ys : List Int) (e : Int) : runF Tryz.prog (CRa Tryz.prog Tryz.f55) (Lra Tryz.prog Tryz.f55 Tryz.f26 xs z ys e) Tryz.f26 (Tryz.f26.body.getD .skip) [.ref 0, .v (.int .i64 z)] [vecI xs] = .ite (decide (z ≥ (0 : Int))) (.ite (!decide (z ≤ (15 : Int))) (.leaf (SV.tup [SV.ref 0, .c (.int .i64 3)], [Blk.vec true 3 1 xs.length (intCells xs)])) (.need (IntP xs.length fun i j => cellAt (intCells xs) (i * 1 + j)) (.ite (hasN xs.length (ints fun i j => cellAt (intCells xs) (i * 1 + j)) z) (.leaf (SV.tup [SV.ref 0, .c (.int .i64 9)], [Blk.vec true 3 1 xs.length (intCells xs)])) (.ite (decide ((↑xs.length : Int) ≥ (4 : Int))) (.leaf (SV.tup [SV.ref 0, .c (.int .i64 6)], [Blk.vec true 3 1 xs.length (intCells xs)])) (.need (1 = 1) (.need (St.mk [(6, some (SV.ref 1)), (0, some (SV.ref 0)), (1, some (.v (.int .i64 z))), (7, some (.v (.int .i64 0)))] [Blk.vec true 3 1 xs.length (intCells xs), Blk.vec true 3 1 0 []] = St.mk [(6, some (SV.ref 1)), (0, some (SV.ref 0)), (1, some (.v (.int .i64 z))), (7, some (.v (.int .i64 0)))] [Blk.vec true 3 1 xs.length (intCells xs), Blk.vec true 3 1 0 []]) (.ite (decide (e < (16 : Int))) (.ite (decide (e = z)) (.chk (ys.length + 1 ≤ 9223372036854775807 ∧ (ys.length + 1) * 8 ≤ 140737488355328) (.chk (allOneP [Value.int IntKind.i64 e]) (T.stuck 39))) (.need (IntP xs.length fun i j => cellAt (intCells xs) (i * 1 + j)) (.ite (hasN xs.length (ints fun i j => cellAt (intCells xs) (i * 1 + j)) e) (.chk (ys.length + 1 ≤ 9223372036854775807 ∧ (ys.length + 1) * 8 ≤ 140737488355328) (.chk (allOneP [Value.int IntKind.i64 e]) (T.stuck 39))) (T.stuck 39)))) (.leaf (SV.tup [SV.ref 1, .c (.int .i64 0)], [Blk.vec true 3 1 xs.length (intCells xs), Blk.vec true 3 1 ys.length (intCells ys)]))))))))) (.leaf (SV.tup [SV.ref 0, .c (.int .i64 3)], [Blk.vec true 3 1 xs.length (intCells xs)])) := by kernel_rfl
def rn_st (z : Int) (ys : List Int) (i : Int) : St := ⟨[(6, some (.ref 0)), (0, some (.v (.slice none 0 0))), (1, some (.v (.int .i64 z))), (7, some (.v (.int .i64 i)))], [vecI ys]⟩
set_option maxRecDepth 100000 in
theorem rn_round (z : Int) (ys : List Int) (i : Int) : roundM Tryz.prog (CRa Tryz.prog Tryz.f55) noL Tryz.f26.ntmps 1 (loopAt Tryz.f26 0) 0 [0, 1, 7] [(6, 3, 1)] [] (rn_st z ys i) = .ite (decide (i < (16 : Int))) (.ite (decide (i = z)) (.chk (ys.length + 1 ≤ 9223372036854775807 ∧ (ys.length + 1) * 8 ≤ 140737488355328) (.chk (allOneP [Value.int IntKind.i64 i]) (.leaf (Ex.normal, St.mk [(6, some (SV.ref 0)), (0, some (SV.v (Value.slice none 0 0))), (1, some (.v (.int .i64 z))), (7, some (.v (.int .i64 (IntKind.i64.wrap (i + (1 : Int))))))] [Blk.vec true 3 1 (ys.length + 1) (intCells ys ++ [Value.int IntKind.i64 i])])))) (.need (IntP 0 fun x x_1 => undef) (.ite (hasN 0 (ints fun x x_1 => undef) i) (.chk (ys.length + 1 ≤ 9223372036854775807 ∧ (ys.length + 1) * 8 ≤ 140737488355328) (.chk (allOneP [Value.int IntKind.i64 i]) (.leaf (Ex.normal, St.mk [(6, some (SV.ref 0)), (0, some (SV.v (Value.slice none 0 0))), (1, some (.v (.int .i64 z))), (7, some (.v (.int .i64 (IntKind.i64.wrap (i + (1 : Int))))))] [Blk.vec true 3 1 (ys.length + 1) (intCells ys ++ [Value.int IntKind.i64 i])])))) (.leaf (Ex.normal, St.mk [(6, some (SV.ref 0)), (0, some (SV.v (Value.slice none 0 0))), (1, some (.v (.int .i64 z))), (7, some (.v (.int .i64 (IntKind.i64.wrap (i + (1 : Int))))))] [Blk.vec true 3 1 ys.length (intCells ys)]))))) (.leaf (Ex.exit 1, St.mk [(6, some (SV.ref 0)), (0, some (SV.v (Value.slice none 0 0))), (1, some (.v (.int .i64 z))), (7, some (.v (.int .i64 i)))] [Blk.vec true 3 1 ys.length (intCells ys)])) := by kernel_rfl
def Lrn (P' : Program) (fi fn : Func) (z : Int) (ys : List Int) (e : Int) : Nat → St → Option (T (Ex × St)) :=
  addL 1 (fun st => .need (st.H.length = 0) (.need (st.tidy 0 [0, 1, 7] [(6, 3, 1)] [] = rn_st z [] (0 : Int)) ((roundM P' (CRa P' fi) noL fn.ntmps 1 (loopAt fn 0) 0 [0, 1, 7] [(6, 3, 1)] [] (closeAt [] (rn_st z ys e))).bind (lastX 1)))) noL
set_option maxRecDepth 100000 in
theorem rn_run (z : Int) (ys : List Int) (e : Int) : runF Tryz.prog (CRa Tryz.prog Tryz.f55) (Lrn Tryz.prog Tryz.f55 Tryz.f26 z ys e) Tryz.f26 (Tryz.f26.body.getD .skip) [.v (.slice none 0 0), .v (.int .i64 z)] [] = .ite (decide (z ≥ (0 : Int))) (.ite (!decide (z ≤ (15 : Int))) (.leaf (SV.v (Value.tuple (Array.mk [Value.slice none 0 0, Value.int IntKind.i64 3])), [])) (.need (IntP 0 fun x x_1 => undef) (.ite (hasN 0 (ints fun x x_1 => undef) z) (.leaf (SV.v (Value.tuple (Array.mk [Value.slice none 0 0, Value.int IntKind.i64 9])), [])) (.ite false (.leaf (SV.v (Value.tuple (Array.mk [Value.slice none 0 0, Value.int IntKind.i64 6])), [])) (.need (0 = 0) (.need (St.mk [(6, some (SV.ref 0)), (0, some (SV.v (Value.slice none 0 0))), (1, some (.v (.int .i64 z))), (7, some (.v (.int .i64 0)))] [Blk.vec true 3 1 0 []] = St.mk [(6, some (SV.ref 0)), (0, some (SV.v (Value.slice none 0 0))), (1, some (.v (.int .i64 z))), (7, some (.v (.int .i64 0)))] [Blk.vec true 3 1 0 []]) (.ite (decide (e < (16 : Int))) (.ite (decide (e = z)) (.chk (ys.length + 1 ≤ 9223372036854775807 ∧ (ys.length + 1) * 8 ≤ 140737488355328) (.chk (allOneP [Value.int IntKind.i64 e]) (T.stuck 39))) (.need (IntP 0 fun x x_1 => undef) (.ite (hasN 0 (ints fun x x_1 => undef) e) (.chk (ys.length + 1 ≤ 9223372036854775807 ∧ (ys.length + 1) * 8 ≤ 140737488355328) (.chk (allOneP [Value.int IntKind.i64 e]) (T.stuck 39))) (T.stuck 39)))) (.leaf (SV.tup [SV.ref 0, .c (.int .i64 0)], [Blk.vec true 3 1 ys.length (intCells ys)]))))))))) (.leaf (SV.v (Value.tuple (Array.mk [Value.slice none 0 0, Value.int IntKind.i64 3])), [])) := by kernel_rfl
theorem intC_get (xs : List Int) (i : Nat) (h : i < xs.length) : cellAt (intCells xs) (i * 1 + 0) = .int .i64 xs[i] := by
  unfold cellAt intCells
  rw [Nat.mul_one, Nat.add_zero, List.getD_eq_getElem?_getD, List.getElem?_map, List.getElem?_eq_getElem h]
  rfl
abbrev rowOf (xs : List Int) : Nat → Nat → Value := fun i j => cellAt (intCells xs) (i * 1 + j)
theorem ints_of (xs : List Int) (i : Nat) (h : i < xs.length) : ints (rowOf xs) i = xs[i] := by
  unfold ints
  show intV (cellAt (intCells xs) (i * 1 + 0)) = _
  rw [intC_get xs i h]; rfl
theorem intP_of (xs : List Int) (h : xs.length ≤ 1000000) : IntP xs.length (rowOf xs) := ⟨h, fun i hi => by
  show cellAt (intCells xs) (i * 1 + 0) = _
  rw [intC_get xs i hi, ints_of xs i hi]⟩
theorem has_of (xs : List Int) (z : Int) : hasN xs.length (ints (rowOf xs)) z = decide (z ∈ xs) := by
  obtain ⟨h1, h2, h3⟩ := hasI_le xs.length (ints (rowOf xs)) z
  unfold hasN
  by_cases hlt : hasI xs.length (ints (rowOf xs)) z < xs.length
  · have h := h3 hlt
    rw [ints_of xs _ hlt] at h
    rw [decide_eq_true hlt, decide_eq_true (h ▸ List.getElem_mem hlt)]
  · rw [decide_eq_false hlt, decide_eq_false]
    intro hm
    obtain ⟨i, hi, e⟩ := List.getElem_of_mem hm
    exact h2 i (by omega) (by rw [ints_of xs i hi]; exact e)
theorem has_nil (f : Nat → Int) (z : Int) : hasN 0 f z = false := decide_eq_false (Nat.not_lt_zero _)
theorem intP_nil (f : Nat → Nat → Value) : IntP 0 f := ⟨Nat.zero_le _, fun i hi => absurd hi (Nat.not_lt_zero _)⟩
def raN (xs : List Int) (z : Int) : Nat → List Int
  | 0 => []
  | i + 1 => raN xs z i ++ (if (i : Int) = z ∨ (i : Int) ∈ xs then [(i : Int)] else [])
theorem raN_yes {xs : List Int} {z : Int} {i : Nat} (h : (i : Int) = z ∨ (i : Int) ∈ xs) : raN xs z (i + 1) = raN xs z i ++ [(i : Int)] := by
  show raN xs z i ++ _ = _
  rw [if_pos h]
theorem raN_no {xs : List Int} {z : Int} {i : Nat} (h : ¬ ((i : Int) = z ∨ (i : Int) ∈ xs)) : raN xs z (i + 1) = raN xs z i := by
  show raN xs z i ++ _ = _
  rw [if_neg h, List.append_nil]
theorem raN_length (xs : List Int) (z : Int) : ∀ i, (raN xs z i).length ≤ i
  | 0 => Nat.le_refl _
  | i + 1 => by
    have := raN_length xs z i
    unfold raN
    split <;> simp <;> omega
def raE (xs : List Int) (z : Int) : Int := if z < 0 ∨ 16 ≤ z then 3 else if z ∈ xs then 9 else if 4 ≤ xs.length then 6 else 0
set_option maxRecDepth 100000 in
theorem ra_step (xs : List Int) (z : Int) (hx : xs.length ≤ 1000000) : ∀ i : Nat, i ≤ 16 → i ≠ 16 → (roundM Tryz.prog (CRa Tryz.prog Tryz.f55) noL Tryz.f26.ntmps 1 (loopAt Tryz.f26 0) 1 [0, 1, 7] [(6, 3, 1)] [] (ra_st xs z (raN xs z i) (i : Nat))).ok fun r => r.1 = .normal ∧ ∃ j, j ≤ 16 ∧ 16 - j < 16 - i ∧ r.2 = ra_st xs z (raN xs z j) (j : Nat) := by
  intro i hi hne
  have e2 : IntKind.i64.wrap ((i : Int) + 1) = ((i + 1 : Nat) : Int) := by rw [w64i (by omega) (by omega)]; rfl
  have el := raN_length xs z i
  rw [ra_round]
  simp only [e2, has_of]
  have yes : (i : Int) = z ∨ (i : Int) ∈ xs → (St.mk [(6, some (SV.ref 1)), (0, some (SV.ref 0)), (1, some (.v (.int .i64 z))), (7, some (.v (.int .i64 ((i + 1 : Nat) : Int))))] [Blk.vec true 3 1 xs.length (intCells xs), Blk.vec true 3 1 ((raN xs z i).length + 1) (intCells (raN xs z i) ++ [Value.int IntKind.i64 i])]) = ra_st xs z (raN xs z (i + 1)) ((i + 1 : Nat) : Int) := fun h => by
    unfold ra_st vecI; rw [raN_yes h, List.length_append, intCells_append]; rfl
  refine t_ite (fun _ => t_ite (fun h => ?_) fun h => t_need (intP_of xs hx) (t_ite (fun h2 => ?_) fun h2 => ?_)) fun h => absurd (show (i : Int) < 16 by omega) (of_decide_eq_false h)
  · exact t_chk ⟨by omega, by omega⟩ (t_chk (allOne_int _) (t_leaf ⟨rfl, i + 1, by omega, by omega, yes (.inl (of_decide_eq_true h))⟩))
  · exact t_chk ⟨by omega, by omega⟩ (t_chk (allOne_int _) (t_leaf ⟨rfl, i + 1, by omega, by omega, yes (.inr (of_decide_eq_true h2))⟩))
  · have hb : ¬ ((i : Int) = z ∨ (i : Int) ∈ xs) := fun e => e.elim (of_decide_eq_false h) (of_decide_eq_false h2)
    exact t_leaf ⟨rfl, i + 1, by omega, by omega, by unfold ra_st; rw [raN_no hb]⟩
set_option maxRecDepth 100000 in
theorem rn_step (z : Int) : ∀ i : Nat, i ≤ 16 → i ≠ 16 → (roundM Tryz.prog (CRa Tryz.prog Tryz.f55) noL Tryz.f26.ntmps 1 (loopAt Tryz.f26 0) 0 [0, 1, 7] [(6, 3, 1)] [] (rn_st z (raN [] z i) (i : Nat))).ok fun r => r.1 = .normal ∧ ∃ j, j ≤ 16 ∧ 16 - j < 16 - i ∧ r.2 = rn_st z (raN [] z j) (j : Nat) := by
  intro i hi hne
  have e2 : IntKind.i64.wrap ((i : Int) + 1) = ((i + 1 : Nat) : Int) := by rw [w64i (by omega) (by omega)]; rfl
  have el := raN_length [] z i
  rw [rn_round]
  simp only [e2, has_nil]
  refine t_ite (fun _ => t_ite (fun h => ?_) fun h => t_need (intP_nil _) (t_ite (fun h2 => by cases h2) fun h2 => ?_)) fun h => absurd (show (i : Int) < 16 by omega) (of_decide_eq_false h)
  · exact t_chk ⟨by omega, by omega⟩ (t_chk (allOne_int _) (t_leaf ⟨rfl, i + 1, by omega, by omega, by unfold rn_st vecI; rw [raN_yes (.inl (of_decide_eq_true h)), List.length_append, intCells_append]; rfl⟩))
  · have hb : ¬ ((i : Int) = z ∨ (i : Int) ∈ ([] : List Int)) := fun e => e.elim (of_decide_eq_false h) (fun e => by cases e)
    exact t_leaf ⟨rfl, i + 1, by omega, by omega, by unfold rn_st; rw [raN_no hb]⟩
def fRAdd : List SV → List Blk → Option (T (SV × List Blk))
  | [s, t], [] => (match nilV s, t.plain with
    | true, some (.int .i64 z) => some (.ite (decide (raE [] z = 0)) (.leaf (.tup [.ref 0, .c (.int .i64 0)], [vecI (raN [] z 16)])) (.leaf (.tup [.c (.slice none 0 0), .v (.int .i64 (raE [] z))], [])))
    | _, _ => none)
  | [.ref 0, t], [.vec true 3 1 n xs] => (match t.plain with
    | some (.int .i64 z) => some (.need (n = (xs.map intV).length ∧ n ≤ 1000000 ∧ xs = intCells (xs.map intV)) (.ite (decide (raE (xs.map intV) z = 0)) (.leaf (.tup [.ref 1, .c (.int .i64 0)], [.vec true 3 1 n xs, vecI (raN (xs.map intV) z 16)])) (.leaf (.tup [.ref 0, .v (.int .i64 (raE (xs.map intV) z))], [.vec true 3 1 n xs]))))
    | _ => none)
  | _, _ => none
theorem raE_lo {xs : List Int} {z : Int} (h : ¬ z ≥ 0) : raE xs z = 3 := if_pos (by omega)
theorem raE_hi {xs : List Int} {z : Int} (h : ¬ z ≤ 15) : raE xs z = 3 := if_pos (by omega)
theorem raE_in {xs : List Int} {z : Int} (h : z ≥ 0) (h1 : z ≤ 15) (h2 : z ∈ xs) : raE xs z = 9 := by unfold raE; rw [if_neg (by omega), if_pos h2]
theorem raE_full {xs : List Int} {z : Int} (h : z ≥ 0) (h1 : z ≤ 15) (h2 : ¬ z ∈ xs) (h3 : 4 ≤ xs.length) : raE xs z = 6 := by unfold raE; rw [if_neg (by omega), if_neg h2, if_pos h3]
theorem raE_ok {xs : List Int} {z : Int} (h : z ≥ 0) (h1 : z ≤ 15) (h2 : ¬ z ∈ xs) (h3 : ¬ 4 ≤ xs.length) : raE xs z = 0 := by unfold raE; rw [if_neg (by omega), if_neg h2, if_neg h3]
theorem not_tt {b : Bool} (h : (!b) = true) : b = false := by cases b <;> simp_all
theorem not_ff {b : Bool} (h : (!b) = false) : b = true := by cases b <;> simp_all
theorem ok_ite {α : Type} {Q : α → Prop} {p : Prop} [Decidable p] {a b : T α} (h : (T.ite (decide p) a b).ok Q) : (p → a.ok Q) ∧ (¬ p → b.ok Q) := ⟨fun hp => h.1 (decide_eq_true hp), fun hp => h.2 (decide_eq_false hp)⟩
set_option maxRecDepth 100000 in
theorem radd_any (xs : List Int) (z : Int) (hx : xs.length ≤ 1000000) {bs : List Nat} {B : List Value} {w : World} {vs : List Value} (hm : Mem w bs [vecI xs] B w) (hv : SV.tos B [.ref 0, .v (.int .i64 z)] = some vs) {Qs : SV × List Blk → Prop} (h0 : raE xs z = 0 → Qs (.tup [.ref 1, .c (.int .i64 0)], [vecI xs, vecI (raN xs z 16)])) (h1 : ¬ raE xs z = 0 → Qs (.tup [.ref 0, .v (.int .i64 (raE xs z))], [vecI xs])) :
    Calls Tryz.prog 26 vs.toArray w fun e w' => ∃ s H' B' x, Qs (s, H') ∧ B <+: B' ∧ e = .returned x ∧ s.to B' = some x ∧ Mem w bs H' B' w' := by
  refine (inl_ok (L := Lra Tryz.prog Tryz.f55 Tryz.f26 xs z (raN xs z 16) 16) CRa_ok follows Tryz.func26 (by kernel_rfl) (by kernel_rfl) (one_loop (b := loopAt Tryz.f26 0) (id := 1) (by kernel_rfl) fun st t h' => ?_) [.ref 0, .v (.int .i64 z)] [vecI xs] _ rfl bs B w vs hm hv (fun r => (raE xs z = 0 ∧ r = (.tup [.ref 1, .c (.int .i64 0)], [vecI xs, vecI (raN xs z 16)])) ∨ (¬ raE xs z = 0 ∧ r = (.tup [.ref 0, .c (.int .i64 (raE xs z))], [vecI xs]))) ?_).mono ?_
  · rw [addL_same h']
    exact loop_cnt (N := Tryz.f26.ntmps) CRa_ok follows (by kernel_rfl) (noloops (by kernel_rfl)) (fun i => i ≤ 16) (fun i => ra_st xs z (raN xs z i) (i : Nat)) (fun i => 16 - i) 1 [0, 1, 7] [(6, 3, 1)] [] 16 [] (ra_step xs z hx) (Nat.zero_le _)
  · rw [ra_run]
    simp only [has_of]
    refine t_ite (fun k1 => t_ite (fun k2 => t_leaf ?_) fun k2 => t_need (intP_of xs hx) (t_ite (fun k3 => t_leaf ?_) fun k3 => t_ite (fun k4 => t_leaf ?_) fun k4 => t_need trivial (t_need trivial (t_ite (fun h => absurd (of_decide_eq_true h) (Int.lt_irrefl _)) fun _ => t_leaf ?_)))) fun k1 => t_leaf ?_
    · have k2 := of_decide_eq_false (not_tt k2)
      have e := raE_hi (xs := xs) k2
      exact .inr ⟨by rw [e]; decide, by rw [e]⟩
    · have k2 := of_decide_eq_true (not_ff k2)
      have e := raE_in (of_decide_eq_true k1) k2 (of_decide_eq_true k3)
      exact .inr ⟨by rw [e]; decide, by rw [e]⟩
    · have k2 := of_decide_eq_true (not_ff k2)
      have e := raE_full (of_decide_eq_true k1) k2 (of_decide_eq_false k3) (by have := of_decide_eq_true k4; omega)
      exact .inr ⟨by rw [e]; decide, by rw [e]⟩
    · have k2 := of_decide_eq_true (not_ff k2)
      exact .inl ⟨raE_ok (of_decide_eq_true k1) k2 (of_decide_eq_false k3) (by have := of_decide_eq_false k4; omega), rfl⟩
    · have e := raE_lo (xs := xs) (of_decide_eq_false k1)
      exact .inr ⟨by rw [e]; decide, by rw [e]⟩
  · rintro e w' ⟨s1, H1, B1, x, hr, hpr, he', hx', hm'⟩
    rcases hr with ⟨hz, hr⟩ | ⟨hz, hr⟩
    · cases hr
      exact ⟨_, _, B1, x, h0 hz, hpr, he', hx', hm'⟩
    · cases hr
      exact ⟨_, _, B1, x, h1 hz, hpr, he', by rw [← hx']; rfl, hm'⟩
set_option maxRecDepth 100000 in
theorem raddn_any (z : Int) {bs : List Nat} {B : List Value} {w : World} {vs : List Value} (hm : Mem w bs [] B w) (hv : SV.tos B [.v (.slice none 0 0), .v (.int .i64 z)] = some vs) {Qs : SV × List Blk → Prop} (h0 : raE [] z = 0 → Qs (.tup [.ref 0, .c (.int .i64 0)], [vecI (raN [] z 16)])) (h1 : ¬ raE [] z = 0 → Qs (.tup [.c (.slice none 0 0), .v (.int .i64 (raE [] z))], [])) :
    Calls Tryz.prog 26 vs.toArray w fun e w' => ∃ s H' B' x, Qs (s, H') ∧ B <+: B' ∧ e = .returned x ∧ s.to B' = some x ∧ Mem w bs H' B' w' := by
  refine (inl_ok (L := Lrn Tryz.prog Tryz.f55 Tryz.f26 z (raN [] z 16) 16) CRa_ok follows Tryz.func26 (by kernel_rfl) (by kernel_rfl) (one_loop (b := loopAt Tryz.f26 0) (id := 1) (by kernel_rfl) fun st t h' => ?_) [.v (.slice none 0 0), .v (.int .i64 z)] [] _ rfl bs B w vs hm hv (fun r => (raE [] z = 0 ∧ r = (.tup [.ref 0, .c (.int .i64 0)], [vecI (raN [] z 16)])) ∨ (¬ raE [] z = 0 ∧ r = (.v (.tuple #[.slice none 0 0, .int .i64 (raE [] z)]), []))) ?_).mono ?_
  · rw [addL_same h']
    exact loop_cnt (N := Tryz.f26.ntmps) CRa_ok follows (by kernel_rfl) (noloops (by kernel_rfl)) (fun i => i ≤ 16) (fun i => rn_st z (raN [] z i) (i : Nat)) (fun i => 16 - i) 0 [0, 1, 7] [(6, 3, 1)] [] 16 [] (rn_step z) (Nat.zero_le _)
  · rw [rn_run]
    simp only [has_nil]
    have nm : ¬ z ∈ ([] : List Int) := fun e => by cases e
    refine t_ite (fun k1 => t_ite (fun k2 => t_leaf ?_) fun k2 => t_need (intP_nil _) (t_ite (fun k3 => by cases k3) fun k3 => t_ite (fun k4 => by cases k4) fun k4 => t_need trivial (t_need trivial (t_ite (fun h => absurd (of_decide_eq_true h) (Int.lt_irrefl _)) fun _ => t_leaf ?_)))) fun k1 => t_leaf ?_
    · have k2 := of_decide_eq_false (not_tt k2)
      have e := raE_hi (xs := []) k2
      exact .inr ⟨by rw [e]; decide, by rw [e]⟩
    · have k2 := of_decide_eq_true (not_ff k2)
      exact .inl ⟨raE_ok (of_decide_eq_true k1) k2 nm (by decide), rfl⟩
    · have e := raE_lo (xs := []) (of_decide_eq_false k1)
      exact .inr ⟨by rw [e]; decide, by rw [e]⟩
  · rintro e w' ⟨s1, H1, B1, x, hr, hpr, he', hx', hm'⟩
    rcases hr with ⟨hz, hr⟩ | ⟨hz, hr⟩
    · cases hr
      exact ⟨_, _, B1, x, h0 hz, hpr, he', hx', hm'⟩
    · cases hr
      exact ⟨_, _, B1, x, h1 hz, hpr, he', by rw [← hx']; rfl, hm'⟩
theorem fRAdd_ok : EntryOk Tryz.prog 26 fRAdd := by
  intro ss H t ht bs B w vs hm hv Qs hq
  unfold fRAdd at ht
  split at ht
  · rename_i s t1
    split at ht
    · rename_i z hs hz
      simp only [Option.some.injEq] at ht
      subst ht
      obtain ⟨q0, q1⟩ := ok_ite hq
      refine raddn_any z hm ?_ q0 q1
      rw [← hv]
      simp only [SV.tos, nilV_to hs, SV.plain_to hz]
      rfl
    · cases ht
  · rename_i t1 n xs
    split at ht
    · rename_i z hz
      simp only [Option.some.injEq] at ht
      subst ht
      obtain ⟨⟨e1, e2, e3⟩, hq⟩ := hq
      obtain ⟨q0, q1⟩ := ok_ite hq
      generalize xs.map intV = l at *
      subst e1 e3
      refine radd_any l z e2 hm ?_ q0 q1
      rw [← hv]
      simp only [SV.tos, SV.plain_to hz]
      rfl
    · cases ht
  · cases ht
theorem adN_up (F : Nat → Bool) (k : Nat) (hk : F k = false) : ∀ i, (adN (fun j => if j = k then true else F j) i).length = (adN F i).length + (if k < i then 1 else 0)
  | 0 => by simp [adN]
  | i + 1 => by
    have ih := adN_up F k hk i
    by_cases e : i = k
    · subst e
      rw [adN_yes (by simp), adN_no (by rw [hk]; exact Bool.false_ne_true), List.length_append, ih]
      simp
    · by_cases hf : F i = true
      · rw [adN_yes (by simp [e, hf]), adN_yes hf, List.length_append, List.length_append, ih]
        have : (k < i + 1) ↔ (k < i) := by omega
        simp only [this]
        simp; omega
      · rw [adN_no (by simp [e, hf]), adN_no hf, ih]
        have : (k < i + 1) ↔ (k < i) := by omega
        simp only [this]
theorem adE_zero {F : Nat → Bool} {z : Int} (h : adE F z = 0) : 0 ≤ z ∧ z < 16 ∧ F z.toNat = false ∧ (adN F 16).length < 4 := by
  unfold adE at h
  split at h
  · cases h
  · split at h
    · cases h
    · rename_i h2
      split at h
      · cases h
      · rename_i h3
        exact ⟨by omega, by omega, by simpa using h2, by omega⟩
theorem adU_length {F : Nat → Bool} {z : Int} (h : adE F z = 0) : (adN (adU F z) 16).length = (adN F 16).length + 1 := by
  obtain ⟨h1, h2, h3, -⟩ := adE_zero h
  unfold adU
  rw [if_pos h, adN_up F z.toNat h3 16, if_pos (by omega)]
theorem noB_length : (adN noB 16).length = 0 := rfl
theorem five {a : Nat → Int} (h0 : adE noB (a 0) = 0) (h1 : adE (adU noB (a 0)) (a 1) = 0) (h2 : adE (adU (adU noB (a 0)) (a 1)) (a 2) = 0) (h3 : adE (adU (adU (adU noB (a 0)) (a 1)) (a 2)) (a 3) = 0) (h4 : adE (adU (adU (adU (adU noB (a 0)) (a 1)) (a 2)) (a 3)) (a 4) = 0) : False := by
  have l0 := adU_length h0
  have l1 := adU_length h1
  have l2 := adU_length h2
  have l3 := adU_length h3
  obtain ⟨-, -, -, l4⟩ := adE_zero h4
  have := noB_length
  omega
def rE (a : Nat → Int) (n : Nat) : Nat → Nat → (Nat → Bool) → Int
  | 0, _, _ => 0
  | m + 1, i, F => if i < n then (if adE F (a i) = 0 then rE a n m (i + 1) (adU F (a i)) else adE F (a i)) else 0
def rF (a : Nat → Int) (n : Nat) : Nat → Nat → (Nat → Bool) → Nat → Bool
  | 0, _, F => F
  | m + 1, i, F => if i < n then rF a n m (i + 1) (adU F (a i)) else F
def tailE (mo ho : Int) (key : ByteArray) : Int := if key.size = 0 ∨ 64 < key.size then 11 else if mo < 0 ∨ 2 < mo then 7 else if ho < 0 ∨ 60 < ho then 3 else 0
def headE (side sv : Int) (n : Nat) : Int := if ¬ side = 0 ∧ ¬ side = 1 then 7 else if sv < 0 ∨ 4294967296 ≤ sv then 3 else if n = 0 then 8 else 0
def newE (side sv mo ho : Int) (key : ByteArray) (n : Nat) (a : Nat → Int) : Int := if headE side sv n = 0 then (if rE a n 5 0 noB = 0 then tailE mo ho key else rE a n 5 0 noB) else headE side sv n
theorem newE_head {side sv mo ho : Int} {key : ByteArray} {n : Nat} {a : Nat → Int} {e : Int} (h : headE side sv n = e) (he : ¬ e = 0) : newE side sv mo ho key n a = e := by unfold newE; rw [h, if_neg he]
theorem newE_mid {side sv mo ho : Int} {key : ByteArray} {n : Nat} {a : Nat → Int} {e : Int} (h : headE side sv n = 0) (h2 : rE a n 5 0 noB = e) (he : ¬ e = 0) : newE side sv mo ho key n a = e := by unfold newE; rw [if_pos h, h2, if_neg he]
theorem newE_tail {side sv mo ho : Int} {key : ByteArray} {n : Nat} {a : Nat → Int} {e : Int} (h : headE side sv n = 0) (h2 : rE a n 5 0 noB = 0) (h3 : tailE mo ho key = e) : newE side sv mo ho key n a = e := by unfold newE; rw [if_pos h, if_pos h2, h3]
theorem rE_go {a : Nat → Int} {n m i : Nat} {F : Nat → Bool} (h : i < n) (h2 : adE F (a i) = 0) : rE a n (m + 1) i F = rE a n m (i + 1) (adU F (a i)) := by show (if _ then _ else _) = _; rw [if_pos h, if_pos h2]
theorem rE_no {a : Nat → Int} {n m i : Nat} {F : Nat → Bool} (h : i < n) (h2 : ¬ adE F (a i) = 0) : rE a n (m + 1) i F = adE F (a i) := by show (if _ then _ else _) = _; rw [if_pos h, if_neg h2]
theorem rE_end {a : Nat → Int} {n m i : Nat} {F : Nat → Bool} (h : ¬ i < n) : rE a n (m + 1) i F = 0 := by show (if _ then _ else _) = _; rw [if_neg h]
theorem head_side {side sv : Int} {n : Nat} (h : ¬ side = 0) (h1 : ¬ side = 1) : headE side sv n = 7 := by unfold headE; rw [if_pos ⟨h, h1⟩]
theorem head_sv {side sv : Int} {n : Nat} (h : side = 0 ∨ side = 1) (h1 : sv < 0 ∨ 4294967296 ≤ sv) : headE side sv n = 3 := by unfold headE; rw [if_neg (by omega), if_pos h1]
theorem head_n {side sv : Int} {n : Nat} (h : side = 0 ∨ side = 1) (h1 : ¬ (sv < 0 ∨ 4294967296 ≤ sv)) (h2 : n = 0) : headE side sv n = 8 := by unfold headE; rw [if_neg (by omega), if_neg h1, if_pos h2]
theorem head_ok {side sv : Int} {n : Nat} (h : side = 0 ∨ side = 1) (h1 : ¬ (sv < 0 ∨ 4294967296 ≤ sv)) (h2 : ¬ n = 0) : headE side sv n = 0 := by unfold headE; rw [if_neg (by omega), if_neg h1, if_neg h2]
theorem t_iteP {α : Type} {Q : α → Prop} {p : Prop} [Decidable p] {t e : T α} (h1 : p → t.ok Q) (h2 : ¬ p → e.ok Q) : (T.ite (decide p) t e).ok Q := ⟨fun h => h1 (of_decide_eq_true h), fun h => h2 (of_decide_eq_false h)⟩
theorem t_iteN {α : Type} {Q : α → Prop} {p : Prop} [Decidable p] {t e : T α} (h1 : ¬ p → t.ok Q) (h2 : p → e.ok Q) : (T.ite (!decide p) t e).ok Q := ⟨fun h => h1 (of_decide_eq_false (not_tt h)), fun h => h2 (of_decide_eq_true (not_ff h))⟩
theorem tail_long {mo ho : Int} {key : ByteArray} (h : key.size = 0 ∨ 64 < key.size) : tailE mo ho key = 11 := if_pos h
theorem tail_mode {mo ho : Int} {key : ByteArray} (h : ¬ (key.size = 0 ∨ 64 < key.size)) (h1 : mo < 0 ∨ 2 < mo) : tailE mo ho key = 7 := by unfold tailE; rw [if_neg h, if_pos h1]
theorem tail_hold {mo ho : Int} {key : ByteArray} (h : ¬ (key.size = 0 ∨ 64 < key.size)) (h1 : ¬ (mo < 0 ∨ 2 < mo)) (h2 : ho < 0 ∨ 60 < ho) : tailE mo ho key = 3 := by unfold tailE; rw [if_neg h, if_neg h1, if_pos h2]
theorem tail_ok {mo ho : Int} {key : ByteArray} (h : ¬ (key.size = 0 ∨ 64 < key.size)) (h1 : ¬ (mo < 0 ∨ 2 < mo)) (h2 : ¬ (ho < 0 ∨ 60 < ho)) : tailE mo ho key = 0 := by unfold tailE; rw [if_neg h, if_neg h1, if_neg h2]
def tailT (mo ho : Int) (key : ByteArray) : T Value := .ite (decide ((key.size : Int) = (0 : Int))) (.leaf (Value.int IntKind.i64 11)) (.ite (decide ((key.size : Int) > (64 : Int))) (.leaf (Value.int IntKind.i64 11)) (.ite (decide (mo < (0 : Int))) (.leaf (Value.int IntKind.i64 7)) (.ite (decide (mo > (2 : Int))) (.leaf (Value.int IntKind.i64 7)) (.ite (decide (ho < (0 : Int))) (.leaf (Value.int IntKind.i64 3)) (.ite (decide (ho > (60 : Int))) (.leaf (Value.int IntKind.i64 3)) (.leaf (Value.int IntKind.i64 0)))))))
set_option maxRecDepth 100000 in
set_option maxHeartbeats 4000000 in
theorem sound_tree (side sv : Int) (mu : Bool) (mo ho : Int) (key : ByteArray) (n : Nat) (a : Nat → Int) : (runO Tryz.prog (CSo Tryz.prog Tryz.f18 Tryz.f51) (LFew Tryz.prog (CSo Tryz.prog Tryz.f18 Tryz.f51) Tryz.f16 5) Tryz.f16 [.v (.int .i64 side), cfgS sv mu mo ho key] [rowA n a]).ok fun x => x = .int .i64 (newE side sv mo ho key n a) := by
  rw [sn_run]
  refine (fun (main : side = 0 ∨ side = 1 → T.ok _ _) => t_iteN (fun s0 => t_iteN (fun s1 => t_leaf (by rw [newE_head (head_side s0 s1) (by decide)])) (fun s1 => main (.inr s1))) (fun s0 => main (.inl s0))) (fun hs => ?_)
  refine t_iteP (fun h => t_leaf (by rw [newE_head (head_sv hs (.inl h)) (by decide)])) fun v0 => t_iteP (fun h => t_leaf (by rw [newE_head (head_sv hs (.inr h)) (by decide)])) fun v1 => t_iteP (fun h => t_leaf (by rw [newE_head (head_n hs (by omega) (by omega)) (by decide)])) fun hn => ?_
  have hh : headE side sv n = 0 := head_ok hs (by omega) (by omega)
  have tail : rE a n 5 0 noB = 0 → (tailT mo ho key).ok fun x => x = .int .i64 (newE side sv mo ho key n a) := fun hr => by
    have h5 : ∀ {E : Int}, tailE mo ho key = E → Value.int .i64 E = .int .i64 (newE side sv mo ho key n a) := fun h => by rw [newE_tail hh hr h]
    unfold tailT
    exact t_iteP (fun h => t_leaf (h5 (tail_long (by omega)))) fun k0 => t_iteP (fun h => t_leaf (h5 (tail_long (by omega)))) fun k1 => t_iteP (fun h => t_leaf (h5 (tail_mode (by omega) (by omega)))) fun k2 => t_iteP (fun h => t_leaf (h5 (tail_mode (by omega) (by omega)))) fun k3 => t_iteP (fun h => t_leaf (h5 (tail_hold (by omega) (by omega) (by omega)))) fun k4 => t_iteP (fun h => t_leaf (h5 (tail_hold (by omega) (by omega) (by omega)))) fun k5 => t_leaf (h5 (tail_ok (by omega) (by omega) (by omega)))
  · skip
    have mid : ∀ {E : Int}, rE a n 5 0 noB = E → ¬ E = 0 → Value.int .i64 E = .int .i64 (newE side sv mo ho key n a) := fun h h2 => by rw [newE_mid hh h h2]
    refine t_iteP (fun n0 => t_chk ⟨by omega, by omega⟩ (t_chk (by omega) (t_iteN (fun e0 => t_leaf (mid (rE_no (by omega) e0) e0)) fun e0 => ?_))) fun n0 => tail (rE_end (by omega))
    have g0 := rE_go (a := a) (n := n) (m := 4) (i := 0) (F := noB) (by omega) e0
    refine t_iteP (fun n1 => t_chk ⟨by omega, by omega⟩ (t_chk (by omega) (t_iteN (fun e1 => t_leaf (mid (g0.trans (rE_no (by omega) e1)) e1)) fun e1 => ?_))) fun n1 => tail (g0.trans (rE_end (by omega)))
    have g1 := g0.trans (rE_go (a := a) (n := n) (m := 3) (i := 1) (by omega) e1)
    refine t_iteP (fun n2 => t_chk ⟨by omega, by omega⟩ (t_chk (by omega) (t_iteN (fun e2 => t_leaf (mid (g1.trans (rE_no (by omega) e2)) e2)) fun e2 => ?_))) fun n2 => tail (g1.trans (rE_end (by omega)))
    have g2 := g1.trans (rE_go (a := a) (n := n) (m := 2) (i := 2) (by omega) e2)
    refine t_iteP (fun n3 => t_chk ⟨by omega, by omega⟩ (t_chk (by omega) (t_iteN (fun e3 => t_leaf (mid (g2.trans (rE_no (by omega) e3)) e3)) fun e3 => ?_))) fun n3 => tail (g2.trans (rE_end (by omega)))
    have g3 := g2.trans (rE_go (a := a) (n := n) (m := 1) (i := 3) (by omega) e3)
    exact t_iteP (fun n4 => t_chk ⟨by omega, by omega⟩ (t_chk (by omega) (t_iteN (fun e4 => t_leaf (mid (g3.trans (rE_no (by omega) e4)) e4)) fun e4 => (five e0 e1 e2 e3 e4).elim))) fun n4 => tail (g3.trans (rE_end (by omega)))
def plain5 : List SV → Option (Int × Bool × Int × Int × ByteArray)
  | [a, b, c, d, e] => (match a.plain, b.plain, c.plain, d.plain, e.plain with
    | some (.int .i64 sv), some (.bool mu), some (.int .i64 mo), some (.int .i64 ho), some (.string key) => some (sv, mu, mo, ho, key)
    | _, _, _, _, _ => none)
  | _ => none
theorem plain5_to {l : List SV} {sv mo ho : Int} {mu : Bool} {key : ByteArray} (h : plain5 l = some (sv, mu, mo, ho, key)) (B : List Value) : SV.tos B l = some [.int .i64 sv, .bool mu, .int .i64 mo, .int .i64 ho, .string key] := by
  unfold plain5 at h
  split at h
  · split at h
    · rename_i h1 h2 h3 h4 h5
      simp only [Option.some.injEq, Prod.mk.injEq] at h
      obtain ⟨rfl, rfl, rfl, rfl, rfl⟩ := h
      simp only [SV.tos, SV.plain_to h1, SV.plain_to h2, SV.plain_to h3, SV.plain_to h4, SV.plain_to h5]
    · cases h
  · cases h
theorem sound_any (side sv : Int) (mu : Bool) (mo ho : Int) (key : ByteArray) (n : Nat) (a : Nat → Int) (v : Value) (w : World) (hv : ∀ B, BlkSat B w v (rowA n a)) : Calls Tryz.prog 16 #[.int .i64 side, .agg #[v, .int .i64 sv, .bool mu, .int .i64 mo, .int .i64 ho, .string key]] w fun e w' => e = .returned (.int .i64 (newE side sv mo ho key n a)) ∧ Below w.heap.size w w' :=
  calls_runO CSo_ok follows Tryz.func16 (by kernel_rfl) (lexAllF_ok (by kernel_rfl)) (LFew_ok CSo_ok follows) rfl (sound_tree side sv mu mo ho key n a) (mem_row (hv [v])) (vs := [.int .i64 side, .agg #[v, .int .i64 sv, .bool mu, .int .i64 mo, .int .i64 ho, .string key]]) rfl
def rdSound : List SV → List Blk → Option (List Prop × Value)
  | [s, .agg (r :: l)], H => (match s.plain, plain5 l, rowIn 1 H r with
    | some (.int .i64 side), some (sv, mu, mo, ho, key), some (n, f) => some ([IntP n f], .int .i64 (newE side sv mo ho key n (ints f)))
    | _, _, _ => none)
  | _, _ => none
theorem rdSound_ok : ReadOk Tryz.prog 16 rdSound := by
  intro ss H q x h bs B w vs hm hv hp
  unfold rdSound at h
  split at h
  · rename_i s r l
    split at h
    · rename_i side sv mu mo ho key n f hs hl hr
      simp only [Option.some.injEq, Prod.mk.injEq] at h
      obtain ⟨rfl, rfl⟩ := h
      obtain ⟨x0, r0, e0, v0, rfl⟩ := tos_cons hv
      obtain ⟨x1, r1, e1, v1, rfl⟩ := tos_cons v0
      obtain rfl := tos_nil v1
      rw [SV.plain_to hs, Option.some.injEq] at e0
      subst e0
      simp only [SV.to, Option.map_eq_some_iff] at e1
      obtain ⟨us, e1, rfl⟩ := e1
      obtain ⟨u, us', e2, e3, rfl⟩ := tos_cons e1
      rw [plain5_to hl, Option.some.injEq] at e3
      subst e3
      exact sound_any side sv mu mo ho key n (ints f) u w (int_row (rowIn_ok hm e2 hr) (hp _ (List.mem_cons_self ..)))
    · cases h
  · cases h
set_option maxRecDepth 100000 in
theorem na_run (n : Nat) (xs : List Value) : canT 1 (runF Tryz.prog (CNa Tryz.prog) (LFew Tryz.prog (CNa Tryz.prog) Tryz.f18 5) Tryz.f18 (Tryz.f18.body.getD .skip) [.ref 0, .c (.slice none 0 0)] [.vec true 3 1 n xs]) = .ite (decide ((0 : Int) < (↑n : Int))) (.chk ((0 : Int) ≤ (0 : Int) ∧ (0 : Int) < (↑n : Int)) (.chk (0 < n) (.chk (List.take 1 (List.drop 0 xs) = [Value.int IntKind.i64 (intV (cellAt xs 0))]) (.ite (decide ((1 : Int) < (↑n : Int))) (.chk ((0 : Int) ≤ (1 : Int) ∧ (1 : Int) < (↑n : Int)) (.chk (1 < n) (.chk (List.take 1 (List.drop 1 xs) = [Value.int IntKind.i64 (intV (cellAt xs 1))]) (.ite (decide ((2 : Int) < (↑n : Int))) (.chk ((0 : Int) ≤ (2 : Int) ∧ (2 : Int) < (↑n : Int)) (.chk (2 < n) (.chk (List.take 1 (List.drop 2 xs) = [Value.int IntKind.i64 (intV (cellAt xs 2))]) (.ite (decide ((3 : Int) < (↑n : Int))) (.chk ((0 : Int) ≤ (3 : Int) ∧ (3 : Int) < (↑n : Int)) (.chk (3 < n) (.chk (List.take 1 (List.drop 3 xs) = [Value.int IntKind.i64 (intV (cellAt xs 3))]) (.ite (decide ((4 : Int) < (↑n : Int))) (.chk ((0 : Int) ≤ (4 : Int) ∧ (4 : Int) < (↑n : Int)) (.chk (4 < n) (.chk (List.take 1 (List.drop 4 xs) = [Value.int IntKind.i64 (intV (cellAt xs 4))]) (T.stuck 38)))) (.leaf (.ptr 1 0, [Blk.vec true 3 1 n xs, Blk.ext (XD.bools 32 (adU (adU (adU (adU noB (intV (cellAt xs 0))) (intV (cellAt xs 1))) (intV (cellAt xs 2))) (intV (cellAt xs 3))))])))))) (.leaf (.ptr 1 0, [Blk.vec true 3 1 n xs, Blk.ext (XD.bools 32 (adU (adU (adU noB (intV (cellAt xs 0))) (intV (cellAt xs 1))) (intV (cellAt xs 2))))])))))) (.leaf (.ptr 1 0, [Blk.vec true 3 1 n xs, Blk.ext (XD.bools 32 (adU (adU noB (intV (cellAt xs 0))) (intV (cellAt xs 1))))])))))) (.leaf (.ptr 1 0, [Blk.vec true 3 1 n xs, Blk.ext (XD.bools 32 (adU noB (intV (cellAt xs 0))))])))))) (.leaf (.ptr 1 0, [Blk.vec true 3 1 n xs, .own [SV.v (Value.bool false), SV.v (Value.bool false), SV.v (Value.bool false), SV.v (Value.bool false), SV.v (Value.bool false), SV.v (Value.bool false), SV.v (Value.bool false), SV.v (Value.bool false), SV.v (Value.bool false), SV.v (Value.bool false), SV.v (Value.bool false), SV.v (Value.bool false), SV.v (Value.bool false), SV.v (Value.bool false), SV.v (Value.bool false), SV.v (Value.bool false), SV.v (Value.bool false), SV.v (Value.bool false), SV.v (Value.bool false), SV.v (Value.bool false), SV.v (Value.bool false), SV.v (Value.bool false), SV.v (Value.bool false), SV.v (Value.bool false), SV.v (Value.bool false), SV.v (Value.bool false), SV.v (Value.bool false), SV.v (Value.bool false), SV.v (Value.bool false), SV.v (Value.bool false), SV.v (Value.bool false), SV.v (Value.bool false)]])) := by kernel_rfl
set_option maxRecDepth 100000 in
theorem cl_run (m : Nat) (xs : List Value) : runF Tryz.prog (onlyS Tryz.prog noS) noL Tryz.f17 (Tryz.f17.body.getD .skip) [.ref 0] [.vec true 3 1 (m + 1) xs] = .chk (0 + (m + 1) ≤ 9223372036854775807 ∧ (0 + (m + 1)) * 8 ≤ 140737488355328) (.chk (allOneP xs) (.leaf (SV.ref 2, [Blk.vec true 3 1 (m + 1) xs, Blk.gone, Blk.vec false 3 1 (0 + (m + 1)) ([] ++ xs)]))) := by kernel_rfl
abbrev iC (z : Int) : SV := .c (.int .i64 z)
abbrev nilC : SV := .c (.slice none 0 0)
def FDq : LTab := addM 20 [] [] (.ptr 0 0) [.own [.ptr 1 0, iC 0], .own [nilC, iC 32]] <| addM 21 [] [] (.ptr 0 0) [.own [.ptr 1 0, iC 1, iC (-1), iC 0], .own [nilC, iC 8]] <| addM 54 [] [] (.ptr 0 0) [.own [.ptr 1 0, iC 0], .own [nilC, iC 33]] <| addM 52 [iC 32] [] (.ptr 0 0) [.own [nilC, iC 32]] noF
abbrev C0 (P : Program) : Cfg := anyC P 0 noS noF 5
theorem C0_ok : CfgOk Tryz.prog (C0 Tryz.prog) := anyC_ok follows noS_ok noF_ok 5
theorem FDq_ok : LOk Tryz.prog FDq :=
  addM_ok (addM_ok (addM_ok (addM_ok noF_ok C0_ok follows (by kernel_rfl) Tryz.func52 (by kernel_rfl) (by kernel_rfl)) C0_ok follows (by kernel_rfl) Tryz.func54 (by kernel_rfl) (by kernel_rfl)) C0_ok follows (by kernel_rfl) Tryz.func21 (by kernel_rfl) (by kernel_rfl)) C0_ok follows (by kernel_rfl) Tryz.func20 (by kernel_rfl) (by kernel_rfl)
def rowP (n : Nat) (xs : List Value) : Prop := 1 ≤ n ∧ n ≤ 4 ∧ ∀ i, i < n → List.take 1 (List.drop i xs) = [Value.int .i64 (intV (cellAt xs i))]
abbrev cellI (xs : List Value) (i : Nat) : Int := intV (cellAt xs i)
def fNewA : List SV → List Blk → Option (T (SV × List Blk))
  | [.ref 0, s], [.vec o 3 1 n xs] => (match nilV s with
    | true => some (.need (rowP n xs) (.leaf (.ptr 1 0, [.vec true 3 1 n xs, .ext (.bools 32 (rF (cellI xs) n 5 0 noB))])))
    | false => none)
  | _, _ => none
theorem rF_go {a : Nat → Int} {n m i : Nat} {F : Nat → Bool} (h : i < n) : rF a n (m + 1) i F = rF a n m (i + 1) (adU F (a i)) := by show (if _ then _ else _) = _; rw [if_pos h]
theorem rF_end {a : Nat → Int} {n m i : Nat} {F : Nat → Bool} (h : ¬ i < n) : rF a n (m + 1) i F = F := by show (if _ then _ else _) = _; rw [if_neg h]
set_option maxRecDepth 100000 in
theorem fNewA_ok : EntryOk Tryz.prog 18 fNewA := by
  intro ss H t ht bs B w vs hm hv Qs hq
  unfold fNewA at ht
  split at ht
  · rename_i s o n xs
    split at ht
    · rename_i hs
      simp only [Option.some.injEq] at ht
      subst ht
      obtain ⟨⟨h1, h4, hx⟩, hq⟩ := hq
      have hm : Mem w bs [.vec true 3 1 n xs] B w := mem_swap1 hm rfl rfl fun u hu => hu
      refine canT_ok CNa_ok follows Tryz.func18 (by kernel_rfl) (by kernel_rfl) (LFew_ok (k := 5) CNa_ok follows) (ss := [.ref 0, .c (.slice none 0 0)]) rfl hm (by rw [← hv]; simp only [SV.tos, nilV_to hs]; rfl) ?_
      show (canT 1 _).ok Qs
      rw [na_run]
      have e0 := rF_go (a := cellI xs) (n := n) (m := 4) (i := 0) (F := noB) (by omega)
      refine t_iteP (fun _ => t_chk ⟨by omega, by omega⟩ (t_chk (by omega) (t_chk (hx 0 (by omega)) (t_iteP (fun k1 => ?_) fun k1 => ?_)))) fun h => absurd (show (0 : Int) < n by omega) h
      · have e1 := e0.trans (rF_go (a := cellI xs) (n := n) (m := 3) (i := 1) (by omega))
        refine t_chk ⟨by omega, by omega⟩ (t_chk (by omega) (t_chk (hx 1 (by omega)) (t_iteP (fun k2 => ?_) fun k2 => ?_)))
        · have e2 := e1.trans (rF_go (a := cellI xs) (n := n) (m := 2) (i := 2) (by omega))
          refine t_chk ⟨by omega, by omega⟩ (t_chk (by omega) (t_chk (hx 2 (by omega)) (t_iteP (fun k3 => ?_) fun k3 => ?_)))
          · have e3 := e2.trans (rF_go (a := cellI xs) (n := n) (m := 1) (i := 3) (by omega))
            refine t_chk ⟨by omega, by omega⟩ (t_chk (by omega) (t_chk (hx 3 (by omega)) (t_iteP (fun k4 => absurd k4 (by omega)) fun k4 => ?_)))
            rw [e3.trans (rF_end (by omega))] at hq
            exact t_leaf hq
          · rw [e2.trans (rF_end (by omega))] at hq
            exact t_leaf hq
        · rw [e1.trans (rF_end (by omega))] at hq
          exact t_leaf hq
      · rw [e0.trans (rF_end (by omega))] at hq
        exact t_leaf hq
    · cases ht
  · cases ht
def fCloneI : List SV → List Blk → Option (T (SV × List Blk))
  | [.ref 0], [.vec o 3 1 n xs] => some (.need (1 ≤ n ∧ n ≤ 1000 ∧ allOneP xs) (.leaf (.ref 2, [.vec true 3 1 n xs, .gone, .vec false 3 1 n xs])))
  | _, _ => none
set_option maxRecDepth 100000 in
theorem fCloneI_ok : EntryOk Tryz.prog 17 fCloneI := by
  intro ss H t ht bs B w vs hm hv Qs hq
  unfold fCloneI at ht
  split at ht
  · rename_i o n xs
    simp only [Option.some.injEq] at ht
    subst ht
    obtain ⟨⟨h1, h2, h3⟩, hq⟩ := hq
    have hm : Mem w bs [.vec true 3 1 n xs] B w := mem_swap1 hm rfl rfl fun u hu => hu
    obtain ⟨m, rfl⟩ : ∃ m, n = m + 1 := ⟨n - 1, by omega⟩
    refine inl_ok (L := noL) (onlyS_ok noS_ok) follows Tryz.func17 (by kernel_rfl) (by kernel_rfl) (noloops (by kernel_rfl)) [.ref 0] [.vec true 3 1 (m + 1) xs] _ rfl bs B w vs hm hv Qs ?_
    rw [cl_run, Nat.zero_add, List.nil_append]
    exact t_chk ⟨by omega, by omega⟩ (t_chk h3 hq)
  · cases ht
set_option maxRecDepth 100000 in
theorem hc_run (mo ho : Int) : runF Tryz.prog (onlyS Tryz.prog noS) noL Tryz.f51 (Tryz.f51.body.getD .skip) [.agg [.v (.int .i64 mo), .v (.int .i64 ho)]] [] = .ite (decide (mo < (0 : Int))) (.leaf (.c (.int .i64 7), [.own [.v (.int .i64 mo), .v (.int .i64 ho)]])) (.ite (decide (mo > (2 : Int))) (.leaf (.c (.int .i64 7), [.own [.v (.int .i64 mo), .v (.int .i64 ho)]])) (.ite (decide (ho < (0 : Int))) (.leaf (.c (.int .i64 3), [.own [.v (.int .i64 mo), .v (.int .i64 ho)]])) (.ite (decide (ho > (60 : Int))) (.leaf (.c (.int .i64 3), [.own [.v (.int .i64 mo), .v (.int .i64 ho)]])) (.leaf (.c (.int .i64 0), [.own [.v (.int .i64 mo), .v (.int .i64 ho)]]))))) := by kernel_rfl
def okT (mo ho : Int) : Prop := 0 ≤ mo ∧ mo ≤ 2 ∧ 0 ≤ ho ∧ ho ≤ 60
def fChk0 : List SV → List Blk → Option (T (SV × List Blk))
  | [.agg [a, b]], [] => (match a.plain, b.plain with
    | some (.int .i64 mo), some (.int .i64 ho) => some (.need (okT mo ho) (.leaf (iC 0, [])))
    | _, _ => none)
  | [.v (.agg ⟨[.int .i64 mo, .int .i64 ho]⟩)], [] => some (.need (okT mo ho) (.leaf (iC 0, [])))
  | _, _ => none
theorem chk0_any (mo ho : Int) (hT : okT mo ho) {bs : List Nat} {B : List Value} {w : World} {vs : List Value} (hm : Mem w bs [] B w) (hv : SV.tos B [.agg [.v (.int .i64 mo), .v (.int .i64 ho)]] = some vs) {Qs : SV × List Blk → Prop} (hq : Qs (iC 0, [])) :
    Calls Tryz.prog 51 vs.toArray w fun e w' => ∃ s H' B' x, Qs (s, H') ∧ B <+: B' ∧ e = .returned x ∧ s.to B' = some x ∧ Mem w bs H' B' w' := by
  obtain ⟨h1, h2, h3, h4⟩ := hT
  refine trimE_ok (inl_ok (L := noL) (onlyS_ok noS_ok) follows Tryz.func51 (by kernel_rfl) (by kernel_rfl) (noloops (by kernel_rfl))) [.agg [.v (.int .i64 mo), .v (.int .i64 ho)]] [] _ rfl bs B w vs hm hv Qs ?_
  rw [hc_run]
  exact t_iteP (fun h => absurd h (by omega)) fun _ => t_iteP (fun h => absurd h (by omega)) fun _ => t_iteP (fun h => absurd h (by omega)) fun _ => t_iteP (fun h => absurd h (by omega)) fun _ => hq
set_option maxRecDepth 100000 in
theorem fChk0_ok : EntryOk Tryz.prog 51 fChk0 := by
  intro ss H t ht bs B w vs hm hv Qs hq
  unfold fChk0 at ht
  split at ht
  · rename_i a b
    split at ht
    · rename_i mo ho ha hb
      simp only [Option.some.injEq] at ht
      subst ht
      obtain ⟨hT, hq⟩ := hq
      exact chk0_any mo ho hT hm (by rw [← hv]; simp only [SV.tos, SV.to, SV.plain_to ha, SV.plain_to hb]) hq
    · cases ht
  · rename_i mo ho
    simp only [Option.some.injEq] at ht
    subst ht
    obtain ⟨hT, hq⟩ := hq
    exact chk0_any mo ho hT hm hv hq
  · cases ht
abbrev FOq (P : Program) (_ : Func) : LTab := addT 51 fChk0 FDq
theorem FOq_ok : LOk Tryz.prog (FOq Tryz.prog Tryz.f51) := addT_ok FDq_ok (by kernel_rfl) fChk0_ok
abbrev COq (P : Program) (fc : Func) : Cfg := both P noS (FOq P fc) [51, 54, 52]
theorem COq_ok : CfgOk Tryz.prog (COq Tryz.prog Tryz.f51) := both_ok noS_ok FOq_ok
abbrev FNq (P : Program) (fc fo fl : Func) : LTab := addR 16 rdSound <| addT 18 fNewA <| addT 19 fNewP <| addT 22 (inlF P (COq P fc) 1 fo) <| addT 23 (inlF P (onlyS P noS) 1 fl) <| addT 17 fCloneI FDq
abbrev fsNq : List Nat := [16, 18, 19, 22, 23, 17, 20, 21]
theorem FNq_ok : LOk Tryz.prog (FNq Tryz.prog Tryz.f51 Tryz.f22 Tryz.f23) :=
  addR_ok (addT_ok (addT_ok (addT_ok (addT_ok (addT_ok FDq_ok (by kernel_rfl) fCloneI_ok) (by kernel_rfl) (inlF_ok (onlyS_ok noS_ok) Tryz.func23 (by kernel_rfl) (by kernel_rfl))) (by kernel_rfl) (inlF_ok COq_ok Tryz.func22 (by kernel_rfl) (by kernel_rfl))) (by kernel_rfl) fNewP_ok) (by kernel_rfl) fNewA_ok) (by kernel_rfl) rdSound_ok
abbrev CNq (P : Program) (fc fo fl : Func) : Cfg := both P noS (FNq P fc fo fl) fsNq
theorem CNq_ok : CfgOk Tryz.prog (CNq Tryz.prog Tryz.f51 Tryz.f22 Tryz.f23) := both_ok noS_ok FNq_ok
set_option maxRecDepth 100000 in
theorem pn_run (side sv : Int) (mu : Bool) (mo ho : Int) (key : ByteArray) (n : Nat) (xs : List Value) : canT 1 (runF Tryz.prog (CNq Tryz.prog Tryz.f51 Tryz.f22 Tryz.f23) noL Tryz.f6 (Tryz.f6.body.getD .skip) [.v (.int .i64 side), cfgS sv mu mo ho key] [.vec true 3 1 n xs]) = .need (IntP n fun i j => cellAt xs (i * 1 + j)) (.ite (!decide (newE side sv mo ho key n (ints fun i j => cellAt xs (i * 1 + j)) = (0 : Int))) (.leaf (SV.v (Value.tuple (Array.mk [Value.pointer none, Value.int IntKind.i64 (newE side sv mo ho key n (ints fun i j => cellAt xs (i * 1 + j)))])), [Blk.vec true 3 1 n xs])) (.need (1 ≤ n ∧ n ≤ 1000 ∧ allOneP xs) (.need (rowP n xs) (.need (okT mo ho) (.ite (decide (side = (1 : Int))) (.leaf (SV.tup [.ptr 1 0, .c (.int .i64 0)], [Blk.vec true 3 1 n xs, .own [.v (.int .i64 side), SV.ref 2, .v (.int .i64 sv), SV.v (Value.bool mu), .v (.int .i64 mo), .v (.int .i64 ho), .v (.string key), .c (.int .i64 1), .c (.int .i64 0), .c (.int .i64 0), .ptr 3 0, .ptr 4 0, SV.c (Value.slice none 0 0), .ptr 6 0, .ptr 8 0, .ptr 12 0, .ptr 14 0, SV.c (Value.string (ByteArray.mk (Array.mk []))), SV.c (Value.string (ByteArray.mk (Array.mk []))), SV.c (Value.bool false), .c (.int .i64 0), .c (.int .i64 0), SV.c (Value.slice none 0 0), .c (.int .i64 0), .c (.int .i64 0), SV.c (Value.bool false)], Blk.vec true 3 1 n xs, Blk.ext (XD.bools 32 (rF (cellI xs) n 5 0 noB)), .own [SV.ref 5], Blk.pm 53 [] [], .own [.ptr 7 0, .c (.int .i64 0)], .own [SV.c (Value.slice none 0 0), .c (.int .i64 32)], .own [.ptr 9 0, .ptr 11 0, .v (.int .i64 mo), .v (.int .i64 ho), .c (.int .i64 0), .c (.int .i64 0), .c (.int .i64 0), .c (.int .i64 0), .c (.int .i64 0), .c (.int .i64 0), .c (.int .i64 0)], .own [.ptr 10 0, .c (.int .i64 0)], .own [SV.c (Value.slice none 0 0), .c (.int .i64 33)], .own [SV.c (Value.slice none 0 0), .c (.int .i64 32)], .own [.ptr 13 0, .c (.int .i64 1), .c (.int .i64 (-1)), .c (.int .i64 0)], .own [SV.c (Value.slice none 0 0), .c (.int .i64 8)], .own [.v (.string key), .v (.int .i64 sv)]])) (.leaf (SV.tup [.ptr 1 0, .c (.int .i64 0)], [Blk.vec true 3 1 n xs, .own [.v (.int .i64 side), SV.ref 2, .v (.int .i64 sv), SV.v (Value.bool mu), .v (.int .i64 mo), .v (.int .i64 ho), .v (.string key), .c (.int .i64 0), .c (.int .i64 0), .c (.int .i64 0), .ptr 3 0, .ptr 4 0, SV.c (Value.slice none 0 0), .ptr 6 0, .ptr 8 0, .ptr 12 0, SV.c (Value.pointer none), SV.c (Value.string (ByteArray.mk (Array.mk []))), SV.c (Value.string (ByteArray.mk (Array.mk []))), SV.c (Value.bool false), .c (.int .i64 0), .c (.int .i64 0), SV.c (Value.slice none 0 0), .c (.int .i64 0), .c (.int .i64 0), SV.c (Value.bool false)], Blk.vec true 3 1 n xs, Blk.ext (XD.bools 32 (rF (cellI xs) n 5 0 noB)), .own [SV.ref 5], Blk.pm 53 [] [], .own [.ptr 7 0, .c (.int .i64 0)], .own [SV.c (Value.slice none 0 0), .c (.int .i64 32)], .own [.ptr 9 0, .ptr 11 0, .v (.int .i64 mo), .v (.int .i64 ho), .c (.int .i64 0), .c (.int .i64 0), .c (.int .i64 0), .c (.int .i64 0), .c (.int .i64 0), .c (.int .i64 0), .c (.int .i64 0)], .own [.ptr 10 0, .c (.int .i64 0)], .own [SV.c (Value.slice none 0 0), .c (.int .i64 33)], .own [SV.c (Value.slice none 0 0), .c (.int .i64 32)], .own [.ptr 13 0, .c (.int .i64 1), .c (.int .i64 (-1)), .c (.int .i64 0)], .own [SV.c (Value.slice none 0 0), .c (.int .i64 8)]]))))))) := by kernel_rfl
abbrev FRq (P : Program) (fc fn : Func) : LTab := addT 26 fRAdd <| addT 27 (trimE (inl P (onlyS P noS) noL fc)) <| addT 25 (inlF P (onlyS P noS) 1 fn) <| addM 24 [] [] (.ptr 0 0) [.own [nilC, iC 1, iC (-1), iC 0]] noF
theorem FRq_ok : LOk Tryz.prog (FRq Tryz.prog Tryz.f27 Tryz.f25) :=
  addT_ok (addT_ok (addT_ok (addM_ok noF_ok C0_ok follows (by kernel_rfl) Tryz.func24 (by kernel_rfl) (by kernel_rfl)) (by kernel_rfl) (inlF_ok (onlyS_ok noS_ok) Tryz.func25 (by kernel_rfl) (by kernel_rfl))) (by kernel_rfl) (trimE_ok (inl_ok (L := noL) (onlyS_ok noS_ok) follows Tryz.func27 (by kernel_rfl) (by kernel_rfl) (noloops (by kernel_rfl))))) (by kernel_rfl) fRAdd_ok
abbrev CRq (P : Program) (fc fn : Func) : Cfg := both P noS (FRq P fc fn) [26, 27, 25, 24]
theorem CRq_ok : CfgOk Tryz.prog (CRq Tryz.prog Tryz.f27 Tryz.f25) := both_ok noS_ok FRq_ok
def gL (a : Nat → Int) : Nat → List Int
  | 0 => []
  | i + 1 => raN (gL a i) (a i) 16
def stopB (a : Nat → Int) (i : Nat) : Bool := !decide (raE (gL a i) (a i) = 0)
def stopN (a : Nat → Int) (n : Nat) : Nat := firstOf (stopB a) n 0
abbrev strE : SV := .v (.string (ByteArray.mk (Array.mk [])))
abbrev iV (z : Int) : SV := .v (.int .i64 z)
abbrev nilVs : SV := .v (.slice none 0 0)
abbrev sockR (side sv : Int) (mu : Bool) (mo ho : Int) (key : ByteArray) (own : SV) : List SV := [iV side, .ref 0, iV sv, .v (.bool mu), iV mo, iV ho, .v (.string key), iV side, iV 0, iV 0, own, nilVs, nilVs, nilVs, nilVs, iV 0, .ptr 3 0, .ptr 2 0, strE, strE, .v (.bool false), iV 0, iV 0, iV 0, iV 0, .v (.bool false), nilVs]
def rq_st (side sv : Int) (mu : Bool) (mo ho : Int) (key : ByteArray) (n : Nat) (a : Nat → Int) (xs : List Int) (i : Int) : St := ⟨[(3, some (.ptr 1 0)), (6, some (.ptr 5 0)), (7, some (iV i))],
  [rowA n a, .own [.ref 0, iV sv, .v (.bool mu), iV mo, iV ho, .v (.string key)], .own [nilVs, iV 1, iV (-1), iV 0], .own [iV mo, iV ho, iV 0, .ptr 4 0, nilVs, iV 0, iV 0, iV 0, iV 0, iV 0], .own [nilVs, iV 0], .own (sockR side sv mu mo ho key (.ref 6)), vecI xs]⟩
abbrev tauR (st : St) : St := st.ord 6 [3, 6, 7] [(.cell 5 10 [], 3, 1)] []
set_option maxRecDepth 100000 in
theorem rq_round (side sv : Int) (mu : Bool) (mo ho : Int) (key : ByteArray) (n : Nat) (a : Nat → Int) (xs : List Int) (i : Int) : roundG Tryz.prog (CRq Tryz.prog Tryz.f27 Tryz.f25) noL Tryz.f7.ntmps 0 (loopAt Tryz.f7 0) tauR (rq_st side sv mu mo ho key n a xs i) = .ite (decide (i < (↑n : Int))) (.chk ((0 : Int) ≤ i ∧ i < (↑n : Int)) (.chk (i.toNat < n) (.need (xs.length = (List.map intV (intCells xs)).length ∧ xs.length ≤ 1000000 ∧ intCells xs = intCells (List.map intV (intCells xs))) (.ite (decide (raE (List.map intV (intCells xs)) (a i.toNat) = (0 : Int))) (.leaf (Ex.normal, St.mk [(3, some (.ptr 1 0)), (6, some (.ptr 5 0)), (7, some (.v (.int .i64 (IntKind.i64.wrap (i + (1 : Int))))))] [Blk.row n 1 fun i x => Value.int IntKind.i64 (a i), .own [SV.ref 0, .v (.int .i64 sv), SV.v (Value.bool mu), .v (.int .i64 mo), .v (.int .i64 ho), .v (.string key)], .own [SV.v (Value.slice none 0 0), .v (.int .i64 1), .v (.int .i64 (-1)), .v (.int .i64 0)], .own [.v (.int .i64 mo), .v (.int .i64 ho), .v (.int .i64 0), .ptr 4 0, SV.v (Value.slice none 0 0), .v (.int .i64 0), .v (.int .i64 0), .v (.int .i64 0), .v (.int .i64 0), .v (.int .i64 0)], .own [SV.v (Value.slice none 0 0), .v (.int .i64 0)], .own [.v (.int .i64 side), SV.ref 0, .v (.int .i64 sv), SV.v (Value.bool mu), .v (.int .i64 mo), .v (.int .i64 ho), .v (.string key), .v (.int .i64 side), .v (.int .i64 0), .v (.int .i64 0), SV.ref 6, SV.v (Value.slice none 0 0), SV.v (Value.slice none 0 0), SV.v (Value.slice none 0 0), SV.v (Value.slice none 0 0), .v (.int .i64 0), .ptr 3 0, .ptr 2 0, .v (.string (ByteArray.mk (Array.mk []))), .v (.string (ByteArray.mk (Array.mk []))), SV.v (Value.bool false), .v (.int .i64 0), .v (.int .i64 0), .v (.int .i64 0), .v (.int .i64 0), SV.v (Value.bool false), SV.v (Value.slice none 0 0)], Blk.vec true 3 1 (raN (List.map intV (intCells xs)) (a i.toNat) 16).length (intCells (raN (List.map intV (intCells xs)) (a i.toNat) 16))])) (.ite (!decide (raE (List.map intV (intCells xs)) (a i.toNat) = (0 : Int))) (.leaf (Ex.ret, St.mk [(5, some (.v (.int .i64 (raE (List.map intV (intCells xs)) (a i.toNat))))), (4, some (SV.c (Value.pointer none))), (60, some (.v (.int .i64 (raE (List.map intV (intCells xs)) (a i.toNat))))), (59, some SV.tt), (59, some (SV.v (Value.bool !decide (raE (List.map intV (intCells xs)) (a i.toNat) = (0 : Int))))), (58, some (.v (.int .i64 (raE (List.map intV (intCells xs)) (a i.toNat))))), (9, some (.v (.int .i64 (raE (List.map intV (intCells xs)) (a i.toNat))))), (8, some (SV.ref 6)), (57, some (.v (.int .i64 (raE (List.map intV (intCells xs)) (a i.toNat))))), (56, some (SV.ref 6)), (45, some (SV.tup [SV.ref 6, .v (.int .i64 (raE (List.map intV (intCells xs)) (a i.toNat)))])), (55, some (SV.tup [SV.ref 6, .v (.int .i64 (raE (List.map intV (intCells xs)) (a i.toNat)))])), (54, some (.v (.int .i64 (a i.toNat)))), (53, some (SV.elt 0 1 i.toNat 0)), (52, some (.v (.int .i64 i))), (51, some (SV.ref 0)), (50, some (.ptr 1 0)), (49, some (SV.ref 6)), (48, some (.ptr 5 10)), (47, some (.ptr 5 0)), (46, some (.ptr 5 0)), (42, some SV.tt), (42, some (SV.v (Value.bool (decide (i < (↑n : Int)))))), (41, some (.v (.int .i64 (↑n : Int)))), (40, some (SV.ref 0)), (39, some (.ptr 1 0)), (38, some (.v (.int .i64 i))), (3, some (.ptr 1 0)), (6, some (.ptr 5 0)), (7, some (.v (.int .i64 i)))] [Blk.row n 1 fun i x => Value.int IntKind.i64 (a i), .own [SV.ref 0, .v (.int .i64 sv), SV.v (Value.bool mu), .v (.int .i64 mo), .v (.int .i64 ho), .v (.string key)], .own [SV.v (Value.slice none 0 0), .v (.int .i64 1), .v (.int .i64 (-1)), .v (.int .i64 0)], .own [.v (.int .i64 mo), .v (.int .i64 ho), .v (.int .i64 0), .ptr 4 0, SV.v (Value.slice none 0 0), .v (.int .i64 0), .v (.int .i64 0), .v (.int .i64 0), .v (.int .i64 0), .v (.int .i64 0)], .own [SV.v (Value.slice none 0 0), .v (.int .i64 0)], .own [.v (.int .i64 side), SV.ref 0, .v (.int .i64 sv), SV.v (Value.bool mu), .v (.int .i64 mo), .v (.int .i64 ho), .v (.string key), .v (.int .i64 side), .v (.int .i64 0), .v (.int .i64 0), SV.ref 6, SV.v (Value.slice none 0 0), SV.v (Value.slice none 0 0), SV.v (Value.slice none 0 0), SV.v (Value.slice none 0 0), .v (.int .i64 0), .ptr 3 0, .ptr 2 0, .v (.string (ByteArray.mk (Array.mk []))), .v (.string (ByteArray.mk (Array.mk []))), SV.v (Value.bool false), .v (.int .i64 0), .v (.int .i64 0), .v (.int .i64 0), .v (.int .i64 0), SV.v (Value.bool false), SV.v (Value.slice none 0 0)], Blk.vec true 3 1 xs.length (intCells xs)])) (.leaf (Ex.normal, St.mk [(3, some (.ptr 1 0)), (6, some (.ptr 5 0)), (7, some (.v (.int .i64 (IntKind.i64.wrap (i + (1 : Int))))))] [Blk.row n 1 fun i x => Value.int IntKind.i64 (a i), .own [SV.ref 0, .v (.int .i64 sv), SV.v (Value.bool mu), .v (.int .i64 mo), .v (.int .i64 ho), .v (.string key)], .own [SV.v (Value.slice none 0 0), .v (.int .i64 1), .v (.int .i64 (-1)), .v (.int .i64 0)], .own [.v (.int .i64 mo), .v (.int .i64 ho), .v (.int .i64 0), .ptr 4 0, SV.v (Value.slice none 0 0), .v (.int .i64 0), .v (.int .i64 0), .v (.int .i64 0), .v (.int .i64 0), .v (.int .i64 0)], .own [SV.v (Value.slice none 0 0), .v (.int .i64 0)], .own [.v (.int .i64 side), SV.ref 0, .v (.int .i64 sv), SV.v (Value.bool mu), .v (.int .i64 mo), .v (.int .i64 ho), .v (.string key), .v (.int .i64 side), .v (.int .i64 0), .v (.int .i64 0), SV.ref 6, SV.v (Value.slice none 0 0), SV.v (Value.slice none 0 0), SV.v (Value.slice none 0 0), SV.v (Value.slice none 0 0), .v (.int .i64 0), .ptr 3 0, .ptr 2 0, .v (.string (ByteArray.mk (Array.mk []))), .v (.string (ByteArray.mk (Array.mk []))), SV.v (Value.bool false), .v (.int .i64 0), .v (.int .i64 0), .v (.int .i64 0), .v (.int .i64 0), SV.v (Value.bool false), SV.v (Value.slice none 0 0)], Blk.vec true 3 1 xs.length (intCells xs)]))))))) (.leaf (Ex.exit 0, St.mk [(3, some (.ptr 1 0)), (6, some (.ptr 5 0)), (7, some (.v (.int .i64 i)))] [Blk.row n 1 fun i x => Value.int IntKind.i64 (a i), .own [SV.ref 0, .v (.int .i64 sv), SV.v (Value.bool mu), .v (.int .i64 mo), .v (.int .i64 ho), .v (.string key)], .own [SV.v (Value.slice none 0 0), .v (.int .i64 1), .v (.int .i64 (-1)), .v (.int .i64 0)], .own [.v (.int .i64 mo), .v (.int .i64 ho), .v (.int .i64 0), .ptr 4 0, SV.v (Value.slice none 0 0), .v (.int .i64 0), .v (.int .i64 0), .v (.int .i64 0), .v (.int .i64 0), .v (.int .i64 0)], .own [SV.v (Value.slice none 0 0), .v (.int .i64 0)], .own [.v (.int .i64 side), SV.ref 0, .v (.int .i64 sv), SV.v (Value.bool mu), .v (.int .i64 mo), .v (.int .i64 ho), .v (.string key), .v (.int .i64 side), .v (.int .i64 0), .v (.int .i64 0), SV.ref 6, SV.v (Value.slice none 0 0), SV.v (Value.slice none 0 0), SV.v (Value.slice none 0 0), SV.v (Value.slice none 0 0), .v (.int .i64 0), .ptr 3 0, .ptr 2 0, .v (.string (ByteArray.mk (Array.mk []))), .v (.string (ByteArray.mk (Array.mk []))), SV.v (Value.bool false), .v (.int .i64 0), .v (.int .i64 0), .v (.int .i64 0), .v (.int .i64 0), SV.v (Value.bool false), SV.v (Value.slice none 0 0)], Blk.vec true 3 1 xs.length (intCells xs)])) := by kernel_rfl
def Lrq (P' : Program) (fc f35 fn : Func) (side sv : Int) (mu : Bool) (mo ho : Int) (key : ByteArray) (n : Nat) (a : Nat → Int) (xs : List Int) (e : Int) : Nat → St → Option (T (Ex × St)) :=
  addL 0 (fun st => .need (st.H.length = 6) (.need (tauR st = rq_st side sv mu mo ho key n a [] (0 : Int)) ((roundG P' (CRq P' fc f35) noL fn.ntmps 0 (loopAt fn 0) tauR (closeAt [] (rq_st side sv mu mo ho key n a xs e))).bind (lastX 0)))) noL
set_option maxRecDepth 100000 in
theorem rq_run (side sv : Int) (mu : Bool) (mo ho : Int) (key : ByteArray) (n : Nat) (a : Nat → Int) (xs : List Int) (e : Int) : canT 1 (runF Tryz.prog (CRq Tryz.prog Tryz.f27 Tryz.f25) (Lrq Tryz.prog Tryz.f27 Tryz.f25 Tryz.f7 side sv mu mo ho key n a xs e) Tryz.f7 (Tryz.f7.body.getD .skip) [.v (.int .i64 side), cfgS sv mu mo ho key] [rowA n a]) = .ite (!decide (side = (0 : Int))) (.ite (!decide (side = (1 : Int))) (.leaf (SV.v (Value.tuple (Array.mk [Value.pointer none, Value.int IntKind.i64 7])), [Blk.row n 1 fun i x => Value.int IntKind.i64 (a i)])) (.ite (decide (sv < (0 : Int))) (.leaf (SV.v (Value.tuple (Array.mk [Value.pointer none, Value.int IntKind.i64 3])), [Blk.row n 1 fun i x => Value.int IntKind.i64 (a i)])) (.ite (decide (sv ≥ (4294967296 : Int))) (.leaf (SV.v (Value.tuple (Array.mk [Value.pointer none, Value.int IntKind.i64 3])), [Blk.row n 1 fun i x => Value.int IntKind.i64 (a i)])) (.ite (decide ((↑n : Int) = (0 : Int))) (.leaf (SV.v (Value.tuple (Array.mk [Value.pointer none, Value.int IntKind.i64 8])), [Blk.row n 1 fun i x => Value.int IntKind.i64 (a i)])) (.need (6 = 6) (.need (St.mk [(3, some (.ptr 1 0)), (6, some (.ptr 5 0)), (7, some (.v (.int .i64 0)))] [Blk.row n 1 fun i x => Value.int IntKind.i64 (a i), .own [SV.ref 0, .v (.int .i64 sv), SV.v (Value.bool mu), .v (.int .i64 mo), .v (.int .i64 ho), .v (.string key)], .own [SV.v (Value.slice none 0 0), .v (.int .i64 1), .v (.int .i64 (-1)), .v (.int .i64 0)], .own [.v (.int .i64 mo), .v (.int .i64 ho), .v (.int .i64 0), .ptr 4 0, SV.v (Value.slice none 0 0), .v (.int .i64 0), .v (.int .i64 0), .v (.int .i64 0), .v (.int .i64 0), .v (.int .i64 0)], .own [SV.v (Value.slice none 0 0), .v (.int .i64 0)], .own [.v (.int .i64 side), SV.ref 0, .v (.int .i64 sv), SV.v (Value.bool mu), .v (.int .i64 mo), .v (.int .i64 ho), .v (.string key), .v (.int .i64 side), .v (.int .i64 0), .v (.int .i64 0), SV.ref 6, SV.v (Value.slice none 0 0), SV.v (Value.slice none 0 0), SV.v (Value.slice none 0 0), SV.v (Value.slice none 0 0), .v (.int .i64 0), .ptr 3 0, .ptr 2 0, .v (.string (ByteArray.mk (Array.mk []))), .v (.string (ByteArray.mk (Array.mk []))), SV.v (Value.bool false), .v (.int .i64 0), .v (.int .i64 0), .v (.int .i64 0), .v (.int .i64 0), SV.v (Value.bool false), SV.v (Value.slice none 0 0)], Blk.vec true 3 1 0 []] = St.mk [(3, some (.ptr 1 0)), (6, some (.ptr 5 0)), (7, some (.v (.int .i64 0)))] [Blk.row n 1 fun i x => Value.int IntKind.i64 (a i), .own [SV.ref 0, .v (.int .i64 sv), SV.v (Value.bool mu), .v (.int .i64 mo), .v (.int .i64 ho), .v (.string key)], .own [SV.v (Value.slice none 0 0), .v (.int .i64 1), .v (.int .i64 (-1)), .v (.int .i64 0)], .own [.v (.int .i64 mo), .v (.int .i64 ho), .v (.int .i64 0), .ptr 4 0, SV.v (Value.slice none 0 0), .v (.int .i64 0), .v (.int .i64 0), .v (.int .i64 0), .v (.int .i64 0), .v (.int .i64 0)], .own [SV.v (Value.slice none 0 0), .v (.int .i64 0)], .own [.v (.int .i64 side), SV.ref 0, .v (.int .i64 sv), SV.v (Value.bool mu), .v (.int .i64 mo), .v (.int .i64 ho), .v (.string key), .v (.int .i64 side), .v (.int .i64 0), .v (.int .i64 0), SV.ref 6, SV.v (Value.slice none 0 0), SV.v (Value.slice none 0 0), SV.v (Value.slice none 0 0), SV.v (Value.slice none 0 0), .v (.int .i64 0), .ptr 3 0, .ptr 2 0, .v (.string (ByteArray.mk (Array.mk []))), .v (.string (ByteArray.mk (Array.mk []))), SV.v (Value.bool false), .v (.int .i64 0), .v (.int .i64 0), .v (.int .i64 0), .v (.int .i64 0), SV.v (Value.bool false), SV.v (Value.slice none 0 0)], Blk.vec true 3 1 0 []]) (.ite (decide (e < (↑n : Int))) (.chk ((0 : Int) ≤ e ∧ e < (↑n : Int)) (.chk (e.toNat < n) (.need (xs.length = (List.map intV (intCells xs)).length ∧ xs.length ≤ 1000000 ∧ intCells xs = intCells (List.map intV (intCells xs))) (.ite (decide (raE (List.map intV (intCells xs)) (a e.toNat) = (0 : Int))) (T.stuck 39) (.ite (!decide (raE (List.map intV (intCells xs)) (a e.toNat) = (0 : Int))) (.leaf (SV.v (Value.tuple (Array.mk [Value.pointer none, Value.int IntKind.i64 (raE (List.map intV (intCells xs)) (a e.toNat))])), [Blk.row n 1 fun i x => Value.int IntKind.i64 (a i)])) (T.stuck 39)))))) (.ite (decide ((↑key.size : Int) = (0 : Int))) (.leaf (SV.v (Value.tuple (Array.mk [Value.pointer none, Value.int IntKind.i64 11])), [Blk.row n 1 fun i x => Value.int IntKind.i64 (a i)])) (.ite (decide ((↑key.size : Int) > (64 : Int))) (.leaf (SV.v (Value.tuple (Array.mk [Value.pointer none, Value.int IntKind.i64 11])), [Blk.row n 1 fun i x => Value.int IntKind.i64 (a i)])) (.ite (decide (mo < (0 : Int))) (.leaf (SV.v (Value.tuple (Array.mk [Value.pointer none, Value.int IntKind.i64 7])), [Blk.row n 1 fun i x => Value.int IntKind.i64 (a i)])) (.ite (decide (mo > (2 : Int))) (.leaf (SV.v (Value.tuple (Array.mk [Value.pointer none, Value.int IntKind.i64 7])), [Blk.row n 1 fun i x => Value.int IntKind.i64 (a i)])) (.ite (decide (ho < (0 : Int))) (.leaf (SV.v (Value.tuple (Array.mk [Value.pointer none, Value.int IntKind.i64 3])), [Blk.row n 1 fun i x => Value.int IntKind.i64 (a i)])) (.ite (decide (ho > (60 : Int))) (.leaf (SV.v (Value.tuple (Array.mk [Value.pointer none, Value.int IntKind.i64 3])), [Blk.row n 1 fun i x => Value.int IntKind.i64 (a i)])) (.leaf (SV.tup [.ptr 1 0, .c (.int .i64 0)], [Blk.row n 1 fun i x => Value.int IntKind.i64 (a i), .own [.v (.int .i64 side), SV.ref 0, .v (.int .i64 sv), SV.v (Value.bool mu), .v (.int .i64 mo), .v (.int .i64 ho), .v (.string key), .v (.int .i64 side), .v (.int .i64 0), .v (.int .i64 0), SV.ref 2, SV.v (Value.slice none 0 0), SV.v (Value.slice none 0 0), SV.v (Value.slice none 0 0), SV.v (Value.slice none 0 0), .v (.int .i64 0), .ptr 3 0, .ptr 5 0, .v (.string (ByteArray.mk (Array.mk []))), .v (.string (ByteArray.mk (Array.mk []))), SV.v (Value.bool false), .v (.int .i64 0), .v (.int .i64 0), .v (.int .i64 0), .v (.int .i64 0), SV.v (Value.bool false), SV.v (Value.slice none 0 0)], Blk.vec true 3 1 xs.length (intCells xs), .own [.v (.int .i64 mo), .v (.int .i64 ho), .v (.int .i64 0), .ptr 4 0, SV.v (Value.slice none 0 0), .v (.int .i64 0), .v (.int .i64 0), .v (.int .i64 0), .v (.int .i64 0), .v (.int .i64 0)], .own [SV.v (Value.slice none 0 0), .v (.int .i64 0)], .own [SV.v (Value.slice none 0 0), .v (.int .i64 1), .v (.int .i64 (-1)), .v (.int .i64 0)]]))))))))))))))) (.ite (decide (sv < (0 : Int))) (.leaf (SV.v (Value.tuple (Array.mk [Value.pointer none, Value.int IntKind.i64 3])), [Blk.row n 1 fun i x => Value.int IntKind.i64 (a i)])) (.ite (decide (sv ≥ (4294967296 : Int))) (.leaf (SV.v (Value.tuple (Array.mk [Value.pointer none, Value.int IntKind.i64 3])), [Blk.row n 1 fun i x => Value.int IntKind.i64 (a i)])) (.ite (decide ((↑n : Int) = (0 : Int))) (.leaf (SV.v (Value.tuple (Array.mk [Value.pointer none, Value.int IntKind.i64 8])), [Blk.row n 1 fun i x => Value.int IntKind.i64 (a i)])) (.need (6 = 6) (.need (St.mk [(3, some (.ptr 1 0)), (6, some (.ptr 5 0)), (7, some (.v (.int .i64 0)))] [Blk.row n 1 fun i x => Value.int IntKind.i64 (a i), .own [SV.ref 0, .v (.int .i64 sv), SV.v (Value.bool mu), .v (.int .i64 mo), .v (.int .i64 ho), .v (.string key)], .own [SV.v (Value.slice none 0 0), .v (.int .i64 1), .v (.int .i64 (-1)), .v (.int .i64 0)], .own [.v (.int .i64 mo), .v (.int .i64 ho), .v (.int .i64 0), .ptr 4 0, SV.v (Value.slice none 0 0), .v (.int .i64 0), .v (.int .i64 0), .v (.int .i64 0), .v (.int .i64 0), .v (.int .i64 0)], .own [SV.v (Value.slice none 0 0), .v (.int .i64 0)], .own [.v (.int .i64 side), SV.ref 0, .v (.int .i64 sv), SV.v (Value.bool mu), .v (.int .i64 mo), .v (.int .i64 ho), .v (.string key), .v (.int .i64 side), .v (.int .i64 0), .v (.int .i64 0), SV.ref 6, SV.v (Value.slice none 0 0), SV.v (Value.slice none 0 0), SV.v (Value.slice none 0 0), SV.v (Value.slice none 0 0), .v (.int .i64 0), .ptr 3 0, .ptr 2 0, .v (.string (ByteArray.mk (Array.mk []))), .v (.string (ByteArray.mk (Array.mk []))), SV.v (Value.bool false), .v (.int .i64 0), .v (.int .i64 0), .v (.int .i64 0), .v (.int .i64 0), SV.v (Value.bool false), SV.v (Value.slice none 0 0)], Blk.vec true 3 1 0 []] = St.mk [(3, some (.ptr 1 0)), (6, some (.ptr 5 0)), (7, some (.v (.int .i64 0)))] [Blk.row n 1 fun i x => Value.int IntKind.i64 (a i), .own [SV.ref 0, .v (.int .i64 sv), SV.v (Value.bool mu), .v (.int .i64 mo), .v (.int .i64 ho), .v (.string key)], .own [SV.v (Value.slice none 0 0), .v (.int .i64 1), .v (.int .i64 (-1)), .v (.int .i64 0)], .own [.v (.int .i64 mo), .v (.int .i64 ho), .v (.int .i64 0), .ptr 4 0, SV.v (Value.slice none 0 0), .v (.int .i64 0), .v (.int .i64 0), .v (.int .i64 0), .v (.int .i64 0), .v (.int .i64 0)], .own [SV.v (Value.slice none 0 0), .v (.int .i64 0)], .own [.v (.int .i64 side), SV.ref 0, .v (.int .i64 sv), SV.v (Value.bool mu), .v (.int .i64 mo), .v (.int .i64 ho), .v (.string key), .v (.int .i64 side), .v (.int .i64 0), .v (.int .i64 0), SV.ref 6, SV.v (Value.slice none 0 0), SV.v (Value.slice none 0 0), SV.v (Value.slice none 0 0), SV.v (Value.slice none 0 0), .v (.int .i64 0), .ptr 3 0, .ptr 2 0, .v (.string (ByteArray.mk (Array.mk []))), .v (.string (ByteArray.mk (Array.mk []))), SV.v (Value.bool false), .v (.int .i64 0), .v (.int .i64 0), .v (.int .i64 0), .v (.int .i64 0), SV.v (Value.bool false), SV.v (Value.slice none 0 0)], Blk.vec true 3 1 0 []]) (.ite (decide (e < (↑n : Int))) (.chk ((0 : Int) ≤ e ∧ e < (↑n : Int)) (.chk (e.toNat < n) (.need (xs.length = (List.map intV (intCells xs)).length ∧ xs.length ≤ 1000000 ∧ intCells xs = intCells (List.map intV (intCells xs))) (.ite (decide (raE (List.map intV (intCells xs)) (a e.toNat) = (0 : Int))) (T.stuck 39) (.ite (!decide (raE (List.map intV (intCells xs)) (a e.toNat) = (0 : Int))) (.leaf (SV.v (Value.tuple (Array.mk [Value.pointer none, Value.int IntKind.i64 (raE (List.map intV (intCells xs)) (a e.toNat))])), [Blk.row n 1 fun i x => Value.int IntKind.i64 (a i)])) (T.stuck 39)))))) (.ite (decide ((↑key.size : Int) = (0 : Int))) (.leaf (SV.v (Value.tuple (Array.mk [Value.pointer none, Value.int IntKind.i64 11])), [Blk.row n 1 fun i x => Value.int IntKind.i64 (a i)])) (.ite (decide ((↑key.size : Int) > (64 : Int))) (.leaf (SV.v (Value.tuple (Array.mk [Value.pointer none, Value.int IntKind.i64 11])), [Blk.row n 1 fun i x => Value.int IntKind.i64 (a i)])) (.ite (decide (mo < (0 : Int))) (.leaf (SV.v (Value.tuple (Array.mk [Value.pointer none, Value.int IntKind.i64 7])), [Blk.row n 1 fun i x => Value.int IntKind.i64 (a i)])) (.ite (decide (mo > (2 : Int))) (.leaf (SV.v (Value.tuple (Array.mk [Value.pointer none, Value.int IntKind.i64 7])), [Blk.row n 1 fun i x => Value.int IntKind.i64 (a i)])) (.ite (decide (ho < (0 : Int))) (.leaf (SV.v (Value.tuple (Array.mk [Value.pointer none, Value.int IntKind.i64 3])), [Blk.row n 1 fun i x => Value.int IntKind.i64 (a i)])) (.ite (decide (ho > (60 : Int))) (.leaf (SV.v (Value.tuple (Array.mk [Value.pointer none, Value.int IntKind.i64 3])), [Blk.row n 1 fun i x => Value.int IntKind.i64 (a i)])) (.leaf (SV.tup [.ptr 1 0, .c (.int .i64 0)], [Blk.row n 1 fun i x => Value.int IntKind.i64 (a i), .own [.v (.int .i64 side), SV.ref 0, .v (.int .i64 sv), SV.v (Value.bool mu), .v (.int .i64 mo), .v (.int .i64 ho), .v (.string key), .v (.int .i64 side), .v (.int .i64 0), .v (.int .i64 0), SV.ref 2, SV.v (Value.slice none 0 0), SV.v (Value.slice none 0 0), SV.v (Value.slice none 0 0), SV.v (Value.slice none 0 0), .v (.int .i64 0), .ptr 3 0, .ptr 5 0, .v (.string (ByteArray.mk (Array.mk []))), .v (.string (ByteArray.mk (Array.mk []))), SV.v (Value.bool false), .v (.int .i64 0), .v (.int .i64 0), .v (.int .i64 0), .v (.int .i64 0), SV.v (Value.bool false), SV.v (Value.slice none 0 0)], Blk.vec true 3 1 xs.length (intCells xs), .own [.v (.int .i64 mo), .v (.int .i64 ho), .v (.int .i64 0), .ptr 4 0, SV.v (Value.slice none 0 0), .v (.int .i64 0), .v (.int .i64 0), .v (.int .i64 0), .v (.int .i64 0), .v (.int .i64 0)], .own [SV.v (Value.slice none 0 0), .v (.int .i64 0)], .own [SV.v (Value.slice none 0 0), .v (.int .i64 1), .v (.int .i64 (-1)), .v (.int .i64 0)]])))))))))))))) := by kernel_rfl
theorem mem_adN (F : Nat → Bool) (z : Int) : ∀ i, z ∈ adN F i ↔ 0 ≤ z ∧ z < i ∧ F z.toNat = true
  | 0 => by simp [adN]; omega
  | i + 1 => by
    have ih := mem_adN F z i
    by_cases h : F i = true
    · rw [adN_yes h, List.mem_append, ih, List.mem_singleton]
      constructor
      · rintro (⟨h1, h2, h3⟩ | rfl)
        · exact ⟨h1, by omega, h3⟩
        · exact ⟨by omega, by omega, by simpa using h⟩
      · rintro ⟨h1, h2, h3⟩
        by_cases e : z = i
        · exact .inr e
        · exact .inl ⟨h1, by omega, h3⟩
    · rw [adN_no h, ih]
      constructor
      · rintro ⟨h1, h2, h3⟩; exact ⟨h1, by omega, h3⟩
      · rintro ⟨h1, h2, h3⟩
        refine ⟨h1, ?_, h3⟩
        by_cases e : z = i
        · subst e; exact absurd (by simpa using h3) h
        · omega
theorem raE_adE (F : Nat → Bool) (z : Int) : raE (adN F 16) z = adE F z := by
  unfold raE adE
  by_cases h : z < 0 ∨ 16 ≤ z
  · rw [if_pos h, if_pos h]
  · rw [if_neg h, if_neg h]
    have : (z ∈ adN F 16) ↔ F z.toNat = true := by
      rw [mem_adN]
      constructor
      · exact fun h => h.2.2
      · exact fun h3 => ⟨by omega, by omega, h3⟩
    by_cases h2 : F z.toNat = true
    · rw [if_pos (this.2 h2), if_pos h2]
    · rw [if_neg (fun h => h2 (this.1 h)), if_neg h2]
theorem raN_adN (F : Nat → Bool) (z : Int) (h : adE F z = 0) : ∀ i, i ≤ 16 → raN (adN F 16) z i = adN (adU F z) i
  | 0, _ => rfl
  | i + 1, hi => by
    obtain ⟨h1, h2, h3, -⟩ := adE_zero h
    have ih := raN_adN F z h i (by omega)
    have e : adU F z i = true ↔ ((i : Int) = z ∨ (i : Int) ∈ adN F 16) := by
      unfold adU
      rw [if_pos h, mem_adN]
      by_cases hc : i = z.toNat
      · rw [if_pos hc]; exact ⟨fun _ => .inl (by omega), fun _ => rfl⟩
      · rw [if_neg hc]
        constructor
        · exact fun hf => .inr ⟨by omega, by omega, by simpa using hf⟩
        · rintro (h4 | ⟨-, -, h4⟩)
          · omega
          · simpa using h4
    by_cases hy : adU F z i = true
    · rw [raN_yes (e.1 hy), adN_yes hy, ih]
    · rw [raN_no (fun q => hy (e.2 q)), adN_no hy, ih]
def fF (a : Nat → Int) : Nat → Nat → Bool
  | 0 => noB
  | i + 1 => adU (fF a i) (a i)
theorem noB_nil : adN noB 16 = [] := List.length_eq_zero_iff.1 noB_length
theorem gL_fF (a : Nat → Int) (n : Nat) : ∀ i, i ≤ stopN a n → gL a i = adN (fF a i) 16 ∧ (adN (fF a i) 16).length = i
  | 0, _ => ⟨noB_nil.symm, noB_length⟩
  | i + 1, hi => by
    obtain ⟨h1, h2⟩ := gL_fF a n i (by omega)
    obtain ⟨-, -, h3, -⟩ := firstOf_spec (stopB a) n 0
    have h4 := h3 i (Nat.zero_le _) (by unfold stopN at hi; omega)
    have h5 : adE (fF a i) (a i) = 0 := by
      unfold stopB at h4
      rw [← raE_adE, ← h1]
      exact of_decide_eq_true (not_ff h4)
    refine ⟨?_, ?_⟩
    · show raN (gL a i) (a i) 16 = _
      rw [h1, raN_adN _ _ h5 16 (Nat.le_refl _)]; rfl
    · show (adN (adU (fF a i) (a i)) 16).length = _
      rw [adU_length h5, h2]
theorem stop_le (a : Nat → Int) (n : Nat) : stopN a n ≤ n := by
  obtain ⟨-, h, -, -⟩ := firstOf_spec (stopB a) n 0
  unfold stopN; omega
theorem stop_bad {a : Nat → Int} {n : Nat} (h : stopN a n < n) : ¬ raE (gL a (stopN a n)) (a (stopN a n)) = 0 := by
  obtain ⟨-, -, -, h4⟩ := firstOf_spec (stopB a) n 0
  have h5 : stopB a (stopN a n) = true := h4 (by unfold stopN at h; omega)
  unfold stopB at h5
  exact of_decide_eq_false (not_tt h5)
theorem stop_good {a : Nat → Int} {n i : Nat} (h : i < stopN a n) : raE (gL a i) (a i) = 0 := by
  obtain ⟨-, -, h3, -⟩ := firstOf_spec (stopB a) n 0
  have h4 := h3 i (Nat.zero_le _) (by unfold stopN at h; omega)
  unfold stopB at h4
  exact of_decide_eq_true (not_ff h4)
theorem stop_four (a : Nat → Int) (n : Nat) : stopN a n ≤ 4 := by
  by_cases h : stopN a n ≤ 4
  · exact h
  · obtain ⟨h1, h2⟩ := gL_fF a n 4 (by omega)
    have h3 := stop_good (a := a) (n := n) (i := 4) (by omega)
    rw [h1, raE_adE] at h3
    obtain ⟨-, -, -, h4⟩ := adE_zero h3
    omega
def resR (a : Nat → Int) (n : Nat) : Int := if stopN a n < n then raE (gL a (stopN a n)) (a (stopN a n)) else 0
theorem rE_res (a : Nat → Int) (n : Nat) : ∀ m i, i + m = 5 → i ≤ stopN a n → rE a n m i (fF a i) = resR a n
  | 0, i, h, hi => by have := stop_four a n; omega
  | m + 1, i, h, hi => by
    by_cases hn : i < n
    · obtain ⟨h1, -⟩ := gL_fF a n i hi
      by_cases he : adE (fF a i) (a i) = 0
      · have : i < stopN a n := by
          by_cases e : i = stopN a n
          · have := stop_bad (a := a) (n := n) (by omega)
            rw [← e, h1, raE_adE] at this
            exact absurd he this
          · omega
        rw [rE_go hn he]
        exact rE_res a n m (i + 1) (by omega) this
      · rw [rE_no hn he]
        have e : i = stopN a n := by
          by_cases e : i = stopN a n
          · exact e
          · have := stop_good (a := a) (n := n) (i := i) (by omega)
            rw [h1, raE_adE] at this
            exact absurd this he
        unfold resR
        rw [← e, if_pos hn, h1, raE_adE]
    · rw [rE_end hn]
      have := stop_le a n
      unfold resR
      rw [if_neg (by omega)]
theorem rE_all (a : Nat → Int) (n : Nat) : rE a n 5 0 noB = resR a n := rE_res a n 5 0 rfl (Nat.zero_le _)
theorem rF_fF (a : Nat → Int) (n : Nat) : ∀ m i, i ≤ n → n ≤ i + m → rF a n m i (fF a i) = fF a n
  | 0, i, h, h2 => by obtain rfl : i = n := by omega
                      rfl
  | m + 1, i, h, h2 => by
    by_cases hn : i < n
    · rw [rF_go hn]; exact rF_fF a n m (i + 1) (by omega) (by omega)
    · obtain rfl : i = n := by omega
      rw [rF_end hn]
theorem res_zero {a : Nat → Int} {n : Nat} (h : resR a n = 0) : stopN a n = n := by
  have := stop_le a n
  unfold resR at h
  by_cases hlt : stopN a n < n
  · rw [if_pos hlt] at h; exact absurd h (stop_bad hlt)
  · omega
theorem own_ok {a : Nat → Int} {n : Nat} (h : resR a n = 0) : n ≤ 4 ∧ gL a n = adN (rF a n 5 0 noB) 16 := by
  have e := res_zero h
  have h4 := stop_four a n
  rw [e] at h4
  refine ⟨h4, ?_⟩
  rw [(gL_fF a n n (by omega)).1]
  exact congrArg (fun F => adN F 16) (rF_fF a n 5 0 (Nat.zero_le _) (by omega)).symm
theorem newE_zero {side sv mo ho : Int} {key : ByteArray} {n : Nat} {a : Nat → Int} (h : newE side sv mo ho key n a = 0) : headE side sv n = 0 ∧ resR a n = 0 ∧ tailE mo ho key = 0 := by
  unfold newE at h
  by_cases h1 : headE side sv n = 0
  · rw [if_pos h1, rE_all] at h
    by_cases h2 : resR a n = 0
    · rw [if_pos h2] at h; exact ⟨h1, h2, h⟩
    · rw [if_neg h2] at h; exact absurd h h2
  · rw [if_neg h1] at h; exact absurd h h1
theorem tail_zero {mo ho : Int} {key : ByteArray} (h : tailE mo ho key = 0) : okT mo ho := by
  unfold tailE at h
  split at h
  · cases h
  · split at h
    · cases h
    · split at h
      · cases h
      · exact ⟨by omega, by omega, by omega, by omega⟩
theorem head_zero {side sv : Int} {n : Nat} (h : headE side sv n = 0) : (side = 0 ∨ side = 1) ∧ 1 ≤ n := by
  unfold headE at h
  split at h
  · cases h
  · split at h
    · cases h
    · split at h
      · cases h
      · exact ⟨by omega, by omega⟩
theorem back_ints (l : List Int) : List.map intV (intCells l) = l := by
  unfold intCells
  rw [List.map_map]
  exact List.map_id'' (fun _ => rfl) l
abbrev lettersR (side sv : Int) (mu : Bool) (mo ho : Int) (key : ByteArray) (xs : List Int) : List Blk := [.own [iV side, .ref 0, iV sv, .v (.bool mu), iV mo, iV ho, .v (.string key), iV side, iV 0, iV 0, .ref 2, nilVs, nilVs, nilVs, nilVs, iV 0, .ptr 3 0, .ptr 5 0, strE, strE, .v (.bool false), iV 0, iV 0, iV 0, iV 0, .v (.bool false), nilVs], vecI xs, .own [iV mo, iV ho, iV 0, .ptr 4 0, nilVs, iV 0, iV 0, iV 0, iV 0, iV 0], .own [nilVs, iV 0], .own [nilVs, iV 1, iV (-1), iV 0]]
set_option maxRecDepth 100000 in
theorem rq_step (side sv : Int) (mu : Bool) (mo ho : Int) (key : ByteArray) (n : Nat) (a : Nat → Int) (hn : n ≤ 1000) : ∀ i : Nat, i ≤ stopN a n → i ≠ stopN a n → (roundG Tryz.prog (CRq Tryz.prog Tryz.f27 Tryz.f25) noL Tryz.f7.ntmps 0 (loopAt Tryz.f7 0) tauR (rq_st side sv mu mo ho key n a (gL a i) (i : Nat))).ok fun r => r.1 = .normal ∧ ∃ j, j ≤ stopN a n ∧ stopN a n - j < stopN a n - i ∧ r.2 = rq_st side sv mu mo ho key n a (gL a j) (j : Nat) := by
  intro i hi hne
  have hs := stop_le a n
  have h4 := stop_four a n
  have e2 : IntKind.i64.wrap ((i : Int) + 1) = ((i + 1 : Nat) : Int) := by rw [w64i (by omega) (by omega)]; rfl
  have hl := (gL_fF a n i hi)
  have hlen : (gL a i).length ≤ 1000000 := by rw [hl.1, hl.2]; omega
  have hg := stop_good (a := a) (n := n) (i := i) (by omega)
  rw [rq_round]
  simp only [Int.toNat_natCast, e2, back_ints]
  refine t_iteP (fun _ => t_chk ⟨by omega, by omega⟩ (t_chk (by omega) (t_need ⟨trivial, hlen, trivial⟩ (t_iteP (fun _ => t_leaf ⟨rfl, i + 1, by omega, by omega, rfl⟩) fun h => absurd hg h)))) fun h => absurd (show (i : Int) < n by omega) h
set_option maxRecDepth 100000 in
set_option maxHeartbeats 4000000 in
theorem rnew_any (side sv : Int) (mu : Bool) (mo ho : Int) (key : ByteArray) (n : Nat) (a : Nat → Int) (hn : n ≤ 1000) {bs : List Nat} {B : List Value} {w : World} {vs : List Value} (hm : Mem w bs [rowA n a] B w) (hv : SV.tos B [.v (.int .i64 side), cfgS sv mu mo ho key] = some vs) {Qs : SV × List Blk → Prop}
    (h0 : newE side sv mo ho key n a = 0 → Qs (.tup [.ptr 1 0, iC 0], rowA n a :: lettersR side sv mu mo ho key (adN (rF a n 5 0 noB) 16))) (h1 : ¬ newE side sv mo ho key n a = 0 → Qs (.tup [.c (.pointer none), iV (newE side sv mo ho key n a)], [rowA n a])) :
    Calls Tryz.prog 7 vs.toArray w fun e w' => ∃ s H' B' x, Qs (s, H') ∧ B <+: B' ∧ e = .returned x ∧ s.to B' = some x ∧ Mem w bs H' B' w' := by
  have hs := stop_le a n
  have h4 := stop_four a n
  have hl := gL_fF a n (stopN a n) (Nat.le_refl _)
  have hlen : (gL a (stopN a n)).length ≤ 1000000 := by rw [hl.1, hl.2]; omega
  refine (canT_ok CRq_ok follows Tryz.func7 (by kernel_rfl) (lexAllF_ok (by kernel_rfl)) (L := Lrq Tryz.prog Tryz.f27 Tryz.f25 Tryz.f7 side sv mu mo ho key n a (gL a (stopN a n)) (stopN a n : Nat)) (one_loop (b := loopAt Tryz.f7 0) (id := 0) (by kernel_rfl) fun st t h' => ?_) (ss := [.v (.int .i64 side), cfgS sv mu mo ho key]) rfl hm hv (Qs := fun r => (newE side sv mo ho key n a = 0 ∧ r = (.tup [.ptr 1 0, iC 0], rowA n a :: lettersR side sv mu mo ho key (gL a n))) ∨ (¬ newE side sv mo ho key n a = 0 ∧ r = (.v (.tuple #[.pointer none, .int .i64 (newE side sv mo ho key n a)]), [rowA n a]))) ?_).mono ?_
  · rw [addL_same h']
    exact loopG_cnt (N := Tryz.f7.ntmps) CRq_ok follows (lexAllF_ok (by kernel_rfl)) (noloops (by kernel_rfl)) (fun i => i ≤ stopN a n) (fun i => rq_st side sv mu mo ho key n a (gL a i) (i : Nat)) (fun i => stopN a n - i) 6 (τ := tauR) (ord_ok [3, 6, 7] [(.cell 5 10 [], 3, 1)] []) (stopN a n) [] (rq_step side sv mu mo ho key n a hn) (i0 := 0) (Nat.zero_le _)
  · show (canT 1 _).ok _
    rw [rq_run]
    simp only [Int.toNat_natCast, back_ints]
    have er : ∀ {E : Int}, newE side sv mo ho key n a = E → ¬ E = 0 → (newE side sv mo ho key n a = 0 ∧ ((SV.v (.tuple #[.pointer none, .int .i64 E]), [rowA n a]) : SV × List Blk) = (.tup [.ptr 1 0, iC 0], rowA n a :: lettersR side sv mu mo ho key (gL a n))) ∨ (¬ newE side sv mo ho key n a = 0 ∧ ((SV.v (.tuple #[.pointer none, .int .i64 E]), [rowA n a]) : SV × List Blk) = (.v (.tuple #[.pointer none, .int .i64 (newE side sv mo ho key n a)]), [rowA n a])) := fun h h2 => .inr ⟨by rw [h]; exact h2, by rw [h]⟩
    refine (fun (main : side = 0 ∨ side = 1 → T.ok _ _) => t_iteN (fun s0 => t_iteN (fun s1 => t_leaf (by exact er (newE_head (head_side s0 s1) (by decide)) (by decide))) (fun s1 => main (.inr s1))) (fun s0 => main (.inl s0))) (fun hs => ?_)
    refine t_iteP (fun h => t_leaf (by exact er (newE_head (head_sv hs (.inl h)) (by decide)) (by decide))) fun v0 => t_iteP (fun h => t_leaf (by exact er (newE_head (head_sv hs (.inr h)) (by decide)) (by decide))) fun v1 => t_iteP (fun h => t_leaf (by exact er (newE_head (head_n hs (by omega) (by omega)) (by decide)) (by decide))) fun hn0 => ?_
    have hh : headE side sv n = 0 := head_ok hs (by omega) (by omega)
    refine t_need trivial (t_need trivial (t_iteP (fun hlt => ?_) fun hlt => ?_))
    · have hlt : stopN a n < n := by omega
      have hb := stop_bad hlt
      have hE : newE side sv mo ho key n a = raE (gL a (stopN a n)) (a (stopN a n)) := newE_mid hh (by rw [rE_all]; unfold resR; rw [if_pos hlt]) hb
      exact t_chk ⟨by omega, by omega⟩ (t_chk (by omega) (t_need ⟨trivial, hlen, trivial⟩ (t_iteP (fun h => absurd h hb) fun _ => t_iteN (fun _ => t_leaf (by exact er hE hb)) fun h => absurd h hb)))
    · have e : stopN a n = n := by omega
      have hr : rE a n 5 0 noB = 0 := by rw [rE_all]; unfold resR; rw [if_neg (by omega)]
      rw [e]
      refine t_iteP (fun h => t_leaf (by exact er (newE_tail hh hr (tail_long (by omega))) (by decide))) fun k0 => t_iteP (fun h => t_leaf (by exact er (newE_tail hh hr (tail_long (by omega))) (by decide))) fun k1 => t_iteP (fun h => t_leaf (by exact er (newE_tail hh hr (tail_mode (by omega) (by omega))) (by decide))) fun k2 => t_iteP (fun h => t_leaf (by exact er (newE_tail hh hr (tail_mode (by omega) (by omega))) (by decide))) fun k3 => t_iteP (fun h => t_leaf (by exact er (newE_tail hh hr (tail_hold (by omega) (by omega) (by omega))) (by decide))) fun k4 => t_iteP (fun h => t_leaf (by exact er (newE_tail hh hr (tail_hold (by omega) (by omega) (by omega))) (by decide))) fun k5 => t_leaf (.inl ⟨newE_tail hh hr (tail_ok (by omega) (by omega) (by omega)), rfl⟩)
  · rintro e w' ⟨s1, H1, B1, x, hr, hpr, he', hx', hm'⟩
    rcases hr with ⟨hz, hr⟩ | ⟨hz, hr⟩
    · cases hr
      obtain ⟨-, h5, -⟩ := newE_zero hz
      rw [(own_ok h5).2] at hm'
      exact ⟨_, _, B1, x, h0 hz, hpr, he', hx', hm'⟩
    · cases hr
      exact ⟨_, _, B1, x, h1 hz, hpr, he', by rw [← hx']; rfl, hm'⟩
abbrev lettersP (side sv : Int) (mu : Bool) (mo ho : Int) (key : ByteArray) (n : Nat) (xs : List Value) (F : Nat → Bool) (st : Int) (li : SV) (rest : List Blk) : List Blk := [.own [iV side, .ref 2, iV sv, .v (.bool mu), iV mo, iV ho, .v (.string key), iC st, iC 0, iC 0, .ptr 3 0, .ptr 4 0, nilC, .ptr 6 0, .ptr 8 0, .ptr 12 0, li, .c (.string (ByteArray.mk (Array.mk []))), .c (.string (ByteArray.mk (Array.mk []))), .c (.bool false), iC 0, iC 0, nilC, iC 0, iC 0, .c (.bool false)], .vec true 3 1 n xs, .ext (.bools 32 F), .own [.ref 5], .pm 53 [] [], .own [.ptr 7 0, iC 0], .own [nilC, iC 32], .own [.ptr 9 0, .ptr 11 0, iV mo, iV ho, iC 0, iC 0, iC 0, iC 0, iC 0, iC 0, iC 0], .own [.ptr 10 0, iC 0], .own [nilC, iC 33], .own [nilC, iC 32], .own [.ptr 13 0, iC 1, iC (-1), iC 0], .own [nilC, iC 8]] ++ rest
def isRowI (n : Nat) (xs : List Value) : Prop := n ≤ 1000 ∧ IntP n (fun i j => cellAt xs (i * 1 + j)) ∧ allOneP xs ∧ ∀ i, i < n → List.take 1 (List.drop i xs) = [Value.int .i64 (intV (cellAt xs i))]
theorem ints_cell (xs : List Value) : (ints fun i j => cellAt xs (i * 1 + j)) = cellI xs := by
  funext i
  show intV (cellAt xs (i * 1 + 0)) = _
  rw [Nat.mul_one, Nat.add_zero]
set_option maxRecDepth 100000 in
set_option maxHeartbeats 4000000 in
theorem pnew_any (side sv : Int) (mu : Bool) (mo ho : Int) (key : ByteArray) (n : Nat) (xs : List Value) (hx : isRowI n xs) {bs : List Nat} {B : List Value} {w : World} {vs : List Value} (hm : Mem w bs [.vec true 3 1 n xs] B w) (hv : SV.tos B [.v (.int .i64 side), cfgS sv mu mo ho key] = some vs) {Qs : SV × List Blk → Prop}
    (h0 : newE side sv mo ho key n (cellI xs) = 0 → side = 0 → Qs (.tup [.ptr 1 0, iC 0], .vec true 3 1 n xs :: lettersP side sv mu mo ho key n xs (rF (cellI xs) n 5 0 noB) 0 (.c (.pointer none)) []))
    (h1 : newE side sv mo ho key n (cellI xs) = 0 → side = 1 → Qs (.tup [.ptr 1 0, iC 0], .vec true 3 1 n xs :: lettersP side sv mu mo ho key n xs (rF (cellI xs) n 5 0 noB) 1 (.ptr 14 0) [.own [.v (.string key), iV sv]]))
    (h2 : ¬ newE side sv mo ho key n (cellI xs) = 0 → Qs (.tup [.c (.pointer none), iV (newE side sv mo ho key n (cellI xs))], [.vec true 3 1 n xs])) :
    Calls Tryz.prog 6 vs.toArray w fun e w' => ∃ s H' B' x, Qs (s, H') ∧ B <+: B' ∧ e = .returned x ∧ s.to B' = some x ∧ Mem w bs H' B' w' := by
  obtain ⟨hn, hi, ho1, hr⟩ := hx
  refine (canT_ok CNq_ok follows Tryz.func6 (by kernel_rfl) (lexAllF_ok (by kernel_rfl)) (L := noL) (noloops (by kernel_rfl)) (ss := [.v (.int .i64 side), cfgS sv mu mo ho key]) rfl hm hv (Qs := fun r => Qs r ∨ (¬ newE side sv mo ho key n (cellI xs) = 0 ∧ r = (.v (.tuple #[.pointer none, .int .i64 (newE side sv mo ho key n (cellI xs))]), [.vec true 3 1 n xs]))) ?_).mono ?_
  · show (canT 1 _).ok _
    rw [pn_run, ints_cell]
    refine t_need hi (t_iteN (fun h => t_leaf (.inr ⟨h, rfl⟩)) fun h => ?_)
    obtain ⟨k1, k2, k3⟩ := newE_zero h
    obtain ⟨k4, k5⟩ := head_zero k1
    obtain ⟨k6, -⟩ := own_ok k2
    exact t_need ⟨k5, hn, ho1⟩ (t_need ⟨k5, k6, hr⟩ (t_need (tail_zero k3) (t_iteP (fun e => t_leaf (.inl (h1 h e))) fun e => t_leaf (.inl (h0 h (by omega))))))
  · rintro e w' ⟨s1, H1, B1, x, hr, hpr, he', hx', hm'⟩
    rcases hr with hr | ⟨hz, hr⟩
    · exact ⟨_, _, B1, x, hr, hpr, he', hx', hm'⟩
    · cases hr
      exact ⟨_, _, B1, x, h2 hz, hpr, he', by rw [← hx']; rfl, hm'⟩
abbrev CAt (P : Program) (F : Nat → Bool) (fo : Func) : Cfg := both P noS (addT 58 (fAllF F) <| addT 57 (trimE (inl P (onlyS P noS) noL fo)) noF) [58, 57]
theorem CAt_ok (F : Nat → Bool) : CfgOk Tryz.prog (CAt Tryz.prog F Tryz.f57) := both_ok noS_ok (addT_ok (addT_ok noF_ok (by kernel_rfl) (trimE_ok (inl_ok (onlyS_ok noS_ok) follows Tryz.func57 (by kernel_rfl) (by kernel_rfl) (noloops (by kernel_rfl))))) (by kernel_rfl) (fAllF_ok F))
set_option maxRecDepth 100000 in
theorem at_run (F : Nat → Bool) : canT 1 (runF Tryz.prog (CAt Tryz.prog F Tryz.f57) noL Tryz.f30 (Tryz.f30.body.getD .skip) [.ptr 0 0, .tt] [.own (b32 F)]) = .need (Array.mk [Value.bool (F 0), Value.bool (F 1), Value.bool (F 2), Value.bool (F 3), Value.bool (F 4), Value.bool (F 5), Value.bool (F 6), Value.bool (F 7), Value.bool (F 8), Value.bool (F 9), Value.bool (F 10), Value.bool (F 11), Value.bool (F 12), Value.bool (F 13), Value.bool (F 14), Value.bool (F 15)] = Array.mk [Value.bool (F 0), Value.bool (F 1), Value.bool (F 2), Value.bool (F 3), Value.bool (F 4), Value.bool (F 5), Value.bool (F 6), Value.bool (F 7), Value.bool (F 8), Value.bool (F 9), Value.bool (F 10), Value.bool (F 11), Value.bool (F 12), Value.bool (F 13), Value.bool (F 14), Value.bool (F 15)]) (.leaf (SV.ref 1, [.own [SV.v (Value.bool (F 0)), SV.v (Value.bool (F 1)), SV.v (Value.bool (F 2)), SV.v (Value.bool (F 3)), SV.v (Value.bool (F 4)), SV.v (Value.bool (F 5)), SV.v (Value.bool (F 6)), SV.v (Value.bool (F 7)), SV.v (Value.bool (F 8)), SV.v (Value.bool (F 9)), SV.v (Value.bool (F 10)), SV.v (Value.bool (F 11)), SV.v (Value.bool (F 12)), SV.v (Value.bool (F 13)), SV.v (Value.bool (F 14)), SV.v (Value.bool (F 15)), SV.v (Value.bool (F 16)), SV.v (Value.bool (F 17)), SV.v (Value.bool (F 18)), SV.v (Value.bool (F 19)), SV.v (Value.bool (F 20)), SV.v (Value.bool (F 21)), SV.v (Value.bool (F 22)), SV.v (Value.bool (F 23)), SV.v (Value.bool (F 24)), SV.v (Value.bool (F 25)), SV.v (Value.bool (F 26)), SV.v (Value.bool (F 27)), SV.v (Value.bool (F 28)), SV.v (Value.bool (F 29)), SV.v (Value.bool (F 30)), SV.v (Value.bool (F 31))], Blk.vec true 3 1 (adN F 16).length (intCells (adN F 16))])) := by kernel_rfl
set_option maxRecDepth 100000 in
theorem af_run (F : Nat → Bool) : canT 1 (runF Tryz.prog (CAt Tryz.prog (fun i => F (16 + i)) Tryz.f57) noL Tryz.f30 (Tryz.f30.body.getD .skip) [.ptr 0 0, .ff] [.own (b32 F)]) = .need (Array.mk [Value.bool (F 16), Value.bool (F 17), Value.bool (F 18), Value.bool (F 19), Value.bool (F 20), Value.bool (F 21), Value.bool (F 22), Value.bool (F 23), Value.bool (F 24), Value.bool (F 25), Value.bool (F 26), Value.bool (F 27), Value.bool (F 28), Value.bool (F 29), Value.bool (F 30), Value.bool (F 31)] = Array.mk [Value.bool (F 16), Value.bool (F 17), Value.bool (F 18), Value.bool (F 19), Value.bool (F 20), Value.bool (F 21), Value.bool (F 22), Value.bool (F 23), Value.bool (F 24), Value.bool (F 25), Value.bool (F 26), Value.bool (F 27), Value.bool (F 28), Value.bool (F 29), Value.bool (F 30), Value.bool (F 31)]) (.leaf (SV.ref 1, [.own [SV.v (Value.bool (F 0)), SV.v (Value.bool (F 1)), SV.v (Value.bool (F 2)), SV.v (Value.bool (F 3)), SV.v (Value.bool (F 4)), SV.v (Value.bool (F 5)), SV.v (Value.bool (F 6)), SV.v (Value.bool (F 7)), SV.v (Value.bool (F 8)), SV.v (Value.bool (F 9)), SV.v (Value.bool (F 10)), SV.v (Value.bool (F 11)), SV.v (Value.bool (F 12)), SV.v (Value.bool (F 13)), SV.v (Value.bool (F 14)), SV.v (Value.bool (F 15)), SV.v (Value.bool (F 16)), SV.v (Value.bool (F 17)), SV.v (Value.bool (F 18)), SV.v (Value.bool (F 19)), SV.v (Value.bool (F 20)), SV.v (Value.bool (F 21)), SV.v (Value.bool (F 22)), SV.v (Value.bool (F 23)), SV.v (Value.bool (F 24)), SV.v (Value.bool (F 25)), SV.v (Value.bool (F 26)), SV.v (Value.bool (F 27)), SV.v (Value.bool (F 28)), SV.v (Value.bool (F 29)), SV.v (Value.bool (F 30)), SV.v (Value.bool (F 31))], Blk.vec true 3 1 (adN (fun i => F (16 + i)) 16).length (intCells (adN (fun i => F (16 + i)) 16))])) := by kernel_rfl
def fAllO : List SV → List Blk → Option (T (SV × List Blk))
  | [.ptr 0 0, o], [.ext (.bools 32 F)] => bif isTT o then some (.leaf (.ref 1, [.ext (.bools 32 F), vAll F])) else bif isFF o then some (.leaf (.ref 1, [.ext (.bools 32 F), vAll fun i => F (16 + i)])) else none
  | _, _ => none
theorem to_bools1 {w0 : World} {bs : List Nat} {l : List SV} {F : Nat → Bool} {H : List Blk} {B : List Value} {w : World} (hm : Mem w0 bs (.own l :: H) B w) (h : SV.tos B l = some ((List.range 32).map fun j => .bool (F j))) : Mem w0 bs (.ext (.bools 32 F) :: H) B w :=
  mem_swap1 hm rfl rfl fun u hu => by
    obtain ⟨b, vs, rfl, h1, h2⟩ := hu
    rw [h, Option.some.injEq] at h1
    subst h1
    exact ⟨b, rfl, h2⟩
set_option maxRecDepth 100000 in
theorem fAllO_ok : EntryOk Tryz.prog 30 fAllO := by
  intro ss H t ht bs B w vs hm hv Qs hq
  unfold fAllO at ht
  split at ht
  · rename_i o F
    cases hT : isTT o
    · rw [hT, cond_false] at ht
      cases hF : isFF o
      · rw [hF] at ht; cases ht
      · rw [hF, cond_true, Option.some.injEq] at ht
        subst ht
        refine (canT_ok (CAt_ok fun i => F (16 + i)) follows Tryz.func30 (by kernel_rfl) (by kernel_rfl) (L := noL) (noloops (by kernel_rfl)) (ss := [.ptr 0 0, .ff]) rfl (of_bools hm) (by rw [← hv]; simp only [SV.tos, isFF_eq hF]; rfl) (Qs := fun r => r = (.ref 1, [.own (b32 F), vAll fun i => F (16 + i)])) ?_).mono ?_
        · show (canT 1 _).ok _
          rw [af_run]
          exact t_need rfl (t_leaf rfl)
        · rintro e w' ⟨s1, H1, B1, x, hr, hpr, he', hx', hm'⟩
          cases hr
          exact ⟨_, _, B1, x, hq, hpr, he', hx', to_bools1 hm' (b32_tos B1 F)⟩
    · rw [hT, cond_true, Option.some.injEq] at ht
      subst ht
      refine (canT_ok (CAt_ok F) follows Tryz.func30 (by kernel_rfl) (by kernel_rfl) (L := noL) (noloops (by kernel_rfl)) (ss := [.ptr 0 0, .tt]) rfl (of_bools hm) (by rw [← hv]; simp only [SV.tos, isTT_eq hT]; rfl) (Qs := fun r => r = (.ref 1, [.own (b32 F), vAll F])) ?_).mono ?_
      · show (canT 1 _).ok _
        rw [at_run]
        exact t_need rfl (t_leaf rfl)
      · rintro e w' ⟨s1, H1, B1, x, hr, hpr, he', hx', hm'⟩
        cases hr
        exact ⟨_, _, B1, x, hq, hpr, he', hx', to_bools1 hm' (b32_tos B1 F)⟩
  · cases ht
abbrev lettersV (side sv : Int) (mu : Bool) (mo ho : Int) (key : ByteArray) (n : Nat) (xs : List Value) (F : Nat → Bool) (st : Int) (li : SV) (rest : List Blk) : List Blk := [.own [iV side, .ref 1, iV sv, .v (.bool mu), iV mo, iV ho, .v (.string key), iC st, iC 0, iC 0, .ptr 2 0, .ptr 3 0, nilC, .ptr 5 0, .ptr 7 0, .ptr 11 0, li, .c (.string (ByteArray.mk (Array.mk []))), .c (.string (ByteArray.mk (Array.mk []))), .c (.bool false), iC 0, iC 0, nilC, iC 0, iC 0, .c (.bool false)], .vec true 3 1 n xs, .ext (.bools 32 F), .own [.ref 4], .pm 53 [] [], .own [.ptr 6 0, iC 0], .own [nilC, iC 32], .own [.ptr 8 0, .ptr 10 0, iV mo, iV ho, iC 0, iC 0, iC 0, iC 0, iC 0, iC 0, iC 0], .own [.ptr 9 0, iC 0], .own [nilC, iC 33], .own [nilC, iC 32], .own [.ptr 12 0, iC 1, iC (-1), iC 0], .own [nilC, iC 8]] ++ rest
theorem rE_congr {a b : Nat → Int} {n : Nat} (h : ∀ i, i < n → a i = b i) : ∀ m i F, rE a n m i F = rE b n m i F
  | 0, _, _ => rfl
  | m + 1, i, F => by
    show (if _ then _ else _) = (if _ then _ else _)
    by_cases hi : i < n
    · rw [if_pos hi, if_pos hi, h i hi, rE_congr h m]
    · rw [if_neg hi, if_neg hi]
theorem rF_congr {a b : Nat → Int} {n : Nat} (h : ∀ i, i < n → a i = b i) : ∀ m i F, rF a n m i F = rF b n m i F
  | 0, _, _ => rfl
  | m + 1, i, F => by
    show (if _ then _ else _) = (if _ then _ else _)
    by_cases hi : i < n
    · rw [if_pos hi, if_pos hi, h i hi, rF_congr h m]
    · rw [if_neg hi, if_neg hi]
theorem newE_congr {a b : Nat → Int} {n : Nat} (h : ∀ i, i < n → a i = b i) (side sv mo ho : Int) (key : ByteArray) : newE side sv mo ho key n a = newE side sv mo ho key n b := by
  unfold newE; rw [rE_congr h]
def fPNew (a : Nat → Int) : List SV → List Blk → Option (T (SV × List Blk))
  | [s, .agg (.ref 0 :: l)], [.vec o 3 1 n xs] => (match s.plain, plain5 l with
    | some (.int .i64 side), some (sv, mu, mo, ho, key) => some (.need (isRowI n xs ∧ ∀ i, i < n → cellI xs i = a i) (.ite (decide (newE side sv mo ho key n a = 0))
        (.ite (decide (side = 1)) (.leaf (.tup [.ptr 1 0, iC 0], .vec true 3 1 n xs :: lettersP side sv mu mo ho key n xs (rF a n 5 0 noB) 1 (.ptr 14 0) [.own [.v (.string key), iV sv]]))
          (.leaf (.tup [.ptr 1 0, iC 0], .vec true 3 1 n xs :: lettersP side sv mu mo ho key n xs (rF a n 5 0 noB) 0 (.c (.pointer none)) [])))
        (.leaf (.tup [.c (.pointer none), iV (newE side sv mo ho key n a)], [.vec true 3 1 n xs]))))
    | _, _ => none)
  | _, _ => none
theorem fPNew_ok (a : Nat → Int) : EntryOk Tryz.prog 6 (fPNew a) := by
  intro ss H t ht bs B w vs hm hv Qs hq
  unfold fPNew at ht
  split at ht
  · rename_i s l o n xs
    split at ht
    · rename_i side sv mu mo ho key hs hl
      simp only [Option.some.injEq] at ht
      subst ht
      obtain ⟨⟨hx, hc⟩, hq⟩ := hq
      obtain ⟨q0, q1⟩ := ok_ite hq
      have hm : Mem w bs [.vec true 3 1 n xs] B w := mem_swap1 hm rfl rfl fun u hu => hu
      have hE := newE_congr hc side sv mo ho key
      have hF := rF_congr hc 5 0 noB
      refine pnew_any side sv mu mo ho key n xs hx hm ?_ (fun h e => ?_) (fun h e => ?_) fun h => ?_
      · rw [← hv]
        simp only [SV.tos, SV.to, SV.plain_to hs, plain5_to hl]
      · rw [hF]; exact (ok_ite (q0 (hE ▸ h))).2 (by omega)
      · rw [hF]; exact (ok_ite (q0 (hE ▸ h))).1 e
      · rw [hE]; exact q1 (fun k => h (hE.trans k))
    · cases ht
  · cases ht
def fRNew (a : Nat → Int) : List SV → List Blk → Option (T (SV × List Blk))
  | [s, .agg (.ref 0 :: l)], [.row n 1 f] => (match s.plain, plain5 l with
    | some (.int .i64 side), some (sv, mu, mo, ho, key) => some (.need (n ≤ 1000 ∧ ∀ i, i < n → f i 0 = .int .i64 (a i)) (.ite (decide (newE side sv mo ho key n a = 0))
        (.leaf (.tup [.ptr 1 0, iC 0], rowA n a :: lettersR side sv mu mo ho key (adN (rF a n 5 0 noB) 16)))
        (.leaf (.tup [.c (.pointer none), iV (newE side sv mo ho key n a)], [rowA n a]))))
    | _, _ => none)
  | _, _ => none
theorem mem_row1 {w0 : World} {bs : List Nat} {n sz : Nat} {f f' : Nat → Nat → Value} {B : List Value} {w : World} (hm : Mem w0 bs [.row n sz f] B w) (e : ∀ i j, i < n → j < sz → f i j = f' i j) : Mem w0 bs [.row n sz f'] B w := by
  have ex : ∀ k b, ¬ ExBlk [.row n sz f'] B k b := by
    rintro k b ⟨x, u, h1, h2, h3⟩
    cases k with
    | zero => simp only [List.getElem?_cons_zero, Option.some.injEq] at h1; subst h1; cases h2
    | succ k => simp at h1
  refine ⟨⟨by simpa using hm.sat.len, fun k x u hk hu => ?_, fun k j b h1 _ => (ex _ _ h1).elim, fun k j b h1 _ => (ex _ _ h1).elim⟩, hm.keeps, fun k b h1 => (ex _ _ h1).elim⟩
  cases k with
  | zero =>
    simp only [List.getElem?_cons_zero, Option.some.injEq] at hk
    subst hk
    exact row_congr (hm.sat.blk 0 _ u (by simp) hu) fun i j hi hj => e i j hi hj
  | succ k => simp at hk
theorem fRNew_ok (a : Nat → Int) : EntryOk Tryz.prog 7 (fRNew a) := by
  intro ss H t ht bs B w vs hm hv Qs hq
  unfold fRNew at ht
  split at ht
  · rename_i s l n f
    split at ht
    · rename_i side sv mu mo ho key hs hl
      simp only [Option.some.injEq] at ht
      subst ht
      obtain ⟨⟨hn, hc⟩, hq⟩ := hq
      obtain ⟨q0, q1⟩ := ok_ite hq
      refine rnew_any side sv mu mo ho key n a hn (mem_row1 hm fun i j hi hj => ?_) ?_ q0 q1
      · obtain rfl : j = 0 := by omega
        exact hc i hi
      · rw [← hv]
        simp only [SV.tos, SV.to, SV.plain_to hs, plain5_to hl]
    · cases ht
  · cases ht
theorem mem_rows2 {w : World} {u v : Value} {n m sz tz : Nat} {f g : Nat → Nat → Value} (h : ∀ B, BlkSat B w u (.row n sz f)) (h' : ∀ B, BlkSat B w v (.row m tz g)) : Mem w [] [.row n sz f, .row m tz g] [u, v] w := by
  have noex : ∀ k b, ¬ ExBlk [.row n sz f, .row m tz g] [u, v] k b := by
    rintro k b ⟨x, y, g1, g2, -, -⟩
    match k with
    | 0 => simp only [List.getElem?_cons_zero, Option.some.injEq] at g1; subst g1; cases g2
    | 1 => simp only [List.getElem?_cons_succ, List.getElem?_cons_zero, Option.some.injEq] at g1; subst g1; cases g2
    | k + 2 => simp at g1
  refine ⟨⟨rfl, fun k x y h1 h2 => ?_, fun k j b h1 h2 => absurd h1 (noex k b), fun k j b h1 h2 => absurd h1 (noex k b)⟩, .refl _ _, fun k b h1 => absurd h1 (noex k b)⟩
  match k with
  | 0 => simp only [List.getElem?_cons_zero, Option.some.injEq] at h1 h2; subst h1; subst h2; exact h _
  | 1 => simp only [List.getElem?_cons_succ, List.getElem?_cons_zero, Option.some.injEq] at h1 h2; subst h1; subst h2; exact h' _
  | k + 2 => simp at h1
def is_st (n : Nat) (a : Nat → Int) (i : Int) : St := ⟨[(0, some (.ref 0)), (1, some (.ref 1)), (5, some (.v (.int .i64 i)))], [rowA n a, rowA n a]⟩
set_option maxRecDepth 100000 in
theorem is_round (n : Nat) (a : Nat → Int) (i : Int) : roundM Tryz.prog (onlyS Tryz.prog noS) noL Tryz.f28.ntmps 0 (loopAt Tryz.f28 0) 2 [0, 1, 5] [] [] (is_st n a i) = .ite (decide (i < (↑n : Int))) (.ite (decide (i < (↑n : Int))) (.chk ((0 : Int) ≤ i ∧ i < (↑n : Int)) (.chk (i.toNat < n) (.chk ((0 : Int) ≤ i ∧ i < (↑n : Int)) (.chk (i.toNat < n) (.ite (!decide (a i.toNat = a i.toNat)) (.leaf (Ex.ret, St.mk [(4, some SV.ff), (31, some SV.tt), (31, some (SV.v (Value.bool !decide (a i.toNat = a i.toNat)))), (30, some (.v (.int .i64 (a i.toNat)))), (29, some (SV.elt 1 1 i.toNat 0)), (28, some (.v (.int .i64 i))), (27, some (SV.ref 1)), (26, some (.v (.int .i64 (a i.toNat)))), (25, some (SV.elt 0 1 i.toNat 0)), (24, some (.v (.int .i64 i))), (23, some (SV.ref 0)), (20, some SV.tt), (20, some (SV.v (Value.bool (decide (i < (↑n : Int)))))), (19, some (SV.v (Value.bool (decide (i < (↑n : Int)))))), (18, some (.v (.int .i64 (↑n : Int)))), (17, some (SV.ref 1)), (16, some (.v (.int .i64 i))), (15, some SV.tt), (14, some (SV.v (Value.bool (decide (i < (↑n : Int)))))), (13, some (.v (.int .i64 (↑n : Int)))), (12, some (SV.ref 0)), (11, some (.v (.int .i64 i))), (0, some (SV.ref 0)), (1, some (SV.ref 1)), (5, some (.v (.int .i64 i)))] [Blk.row n 1 fun i x => Value.int IntKind.i64 (a i), Blk.row n 1 fun i x => Value.int IntKind.i64 (a i)])) (.leaf (Ex.normal, St.mk [(0, some (SV.ref 0)), (1, some (SV.ref 1)), (5, some (.v (.int .i64 (IntKind.i64.wrap (i + (1 : Int))))))] [Blk.row n 1 fun i x => Value.int IntKind.i64 (a i), Blk.row n 1 fun i x => Value.int IntKind.i64 (a i)]))))))) (.leaf (Ex.exit 0, St.mk [(0, some (SV.ref 0)), (1, some (SV.ref 1)), (5, some (.v (.int .i64 i)))] [Blk.row n 1 fun i x => Value.int IntKind.i64 (a i), Blk.row n 1 fun i x => Value.int IntKind.i64 (a i)]))) (.leaf (Ex.exit 0, St.mk [(0, some (SV.ref 0)), (1, some (SV.ref 1)), (5, some (.v (.int .i64 i)))] [Blk.row n 1 fun i x => Value.int IntKind.i64 (a i), Blk.row n 1 fun i x => Value.int IntKind.i64 (a i)])) := by kernel_rfl
def Lis (P' : Program) (fn : Func) (n : Nat) (a : Nat → Int) (e : Int) : Nat → St → Option (T (Ex × St)) :=
  addL 0 (fun st => .need (st.H.length = 2) (.need (st.tidy 2 [0, 1, 5] [] [] = is_st n a (0 : Int)) ((roundM P' (onlyS P' noS) noL fn.ntmps 0 (loopAt fn 0) 2 [0, 1, 5] [] [] (closeAt [] (is_st n a e))).bind (lastX 0)))) noL
set_option maxRecDepth 100000 in
theorem is_run (n : Nat) (a : Nat → Int) (e : Int) : runO Tryz.prog (onlyS Tryz.prog noS) (Lis Tryz.prog Tryz.f28 n a e) Tryz.f28 [.ref 0, .ref 1] [rowA n a, rowA n a] = .ite (!decide ((↑n : Int) = (↑n : Int))) (.leaf (Value.bool false)) (.need (2 = 2) (.need (St.mk [(0, some (SV.ref 0)), (1, some (SV.ref 1)), (5, some (.v (.int .i64 0)))] [Blk.row n 1 fun i x => Value.int IntKind.i64 (a i), Blk.row n 1 fun i x => Value.int IntKind.i64 (a i)] = St.mk [(0, some (SV.ref 0)), (1, some (SV.ref 1)), (5, some (.v (.int .i64 0)))] [Blk.row n 1 fun i x => Value.int IntKind.i64 (a i), Blk.row n 1 fun i x => Value.int IntKind.i64 (a i)]) (.ite (decide (e < (↑n : Int))) (.ite (decide (e < (↑n : Int))) (.chk ((0 : Int) ≤ e ∧ e < (↑n : Int)) (.chk (e.toNat < n) (.chk ((0 : Int) ≤ e ∧ e < (↑n : Int)) (.chk (e.toNat < n) (.ite (!decide (a e.toNat = a e.toNat)) (.leaf (Value.bool false)) (T.stuck 39)))))) (.leaf (Value.bool true))) (.leaf (Value.bool true))))) := by kernel_rfl
set_option maxRecDepth 100000 in
theorem is_step (n : Nat) (a : Nat → Int) (hn : n ≤ 1000000) : ∀ i : Nat, i ≤ n → i ≠ n → (roundM Tryz.prog (onlyS Tryz.prog noS) noL Tryz.f28.ntmps 0 (loopAt Tryz.f28 0) 2 [0, 1, 5] [] [] (is_st n a (i : Nat))).ok fun r => r.1 = .normal ∧ ∃ j, j ≤ n ∧ n - j < n - i ∧ r.2 = is_st n a (j : Nat) := by
  intro i hi hne
  have e2 : IntKind.i64.wrap ((i : Int) + 1) = ((i + 1 : Nat) : Int) := by rw [w64i (by omega) (by omega)]; rfl
  have b1 : (0 : Int) ≤ (i : Int) ∧ (i : Int) < n := ⟨by omega, by omega⟩
  have b2 : i < n := by omega
  rw [is_round, Int.toNat_natCast, e2]
  have fin : ∃ j, j ≤ n ∧ n - j < n - i ∧ is_st n a ((i + 1 : Nat) : Int) = is_st n a (j : Nat) := ⟨i + 1, by omega, by omega, rfl⟩
  refine t_iteP (fun _ => t_iteP (fun _ => ?_) fun h => absurd b1.2 h) fun h => absurd b1.2 h
  refine t_chk b1 (t_chk b2 (t_chk b1 (t_chk b2 (t_iteN (fun h => absurd rfl h) fun _ => t_leaf ⟨rfl, fin⟩))))
set_option maxRecDepth 100000 in
theorem ints_same (n : Nat) (a : Nat → Int) (hn : n ≤ 1000000) (v u : Value) (w : World) (hv : ∀ B, BlkSat B w v (rowA n a)) (hu : ∀ B, BlkSat B w u (rowA n a)) : Calls Tryz.prog 28 #[v, u] w fun e w' => e = .returned (.bool true) ∧ Below w.heap.size w w' := by
  refine calls_runO (onlyS_ok noS_ok) follows Tryz.func28 (by kernel_rfl) (by kernel_rfl) (one_loop (b := loopAt Tryz.f28 0) (id := 0) (by kernel_rfl) fun st t h' => ?_) (is_run n a n) ?_ (mem_rows2 hv hu) rfl
  · rw [addL_same h']
    exact loop_cnt (N := Tryz.f28.ntmps) (onlyS_ok noS_ok) follows (by kernel_rfl) (noloops (by kernel_rfl)) (fun i => i ≤ n) (fun i => is_st n a (i : Nat)) (fun i => n - i) 2 [0, 1, 5] [] [] n [] (is_step n a hn) (Nat.zero_le _)
  · refine t_iteN (fun h => absurd rfl h) fun _ => t_need rfl (t_need rfl (t_iteP (fun h => absurd h (Int.lt_irrefl _)) fun _ => t_leaf rfl))
def rdInts : List SV → List Blk → Option (List Prop × Value)
  | [s, t], H => (match rowIn 1 H s, rowIn 1 H t with
    | some (n, f), some (m, g) => some ([m = n ∧ IntP n f ∧ ∀ i, i < n → g i 0 = f i 0], .bool true)
    | _, _ => none)
  | _, _ => none
theorem rdInts_ok : ReadOk Tryz.prog 28 rdInts := by
  intro ss H q x h bs B w vs hm hv hp
  unfold rdInts at h
  split at h
  · split at h
    · rename_i s t n f m g hr hr2
      simp only [Option.some.injEq, Prod.mk.injEq] at h
      obtain ⟨rfl, rfl⟩ := h
      obtain ⟨x0, r0, e0, v0, rfl⟩ := tos_cons hv
      obtain ⟨x1, r1, e1, v1, rfl⟩ := tos_cons v0
      obtain rfl := tos_nil v1
      obtain ⟨rfl, p1, p2⟩ := hp _ (List.mem_cons_self ..)
      refine ints_same m (ints f) p1.1 x0 x1 w (int_row (rowIn_ok hm e0 hr) p1) (fun B => row_congr (rowIn_ok hm e1 hr2 B) fun i j hi hj => ?_)
      obtain rfl : j = 0 := by omega
      rw [p2 i hi, p1.2 i hi]
    · cases h
  · cases h
structure VwFn where
  dd : Func
  dc : Func
  dw : Func
  sl : Func
  sc : Func
  ql : Func
  ow : Func
  oR : Func
  ll : Func
  oc : Func
abbrev FL0 (P : Program) (v : VwFn) : LTab := addT 59 (inlF P (onlyS P noS) 1 v.dd) <| addT 61 (inlF P (onlyS P noS) 1 v.dc) <| addT 127 (inlF P (onlyS P noS) 1 v.dw) <| noF
abbrev CL0 (P : Program) (v : VwFn) : Cfg := both P noS (FL0 P v) [59, 61, 127]
abbrev FL1 (P : Program) (v : VwFn) : LTab := addT 60 (inlF P (CL0 P v) 1 v.sl) <| addT 62 (inlF P (CL0 P v) 1 v.sc) <| FL0 P v
abbrev CL1 (P : Program) (v : VwFn) : Cfg := both P noS (FL1 P v) [59, 61, 127, 60, 62]
abbrev FL2 (P : Program) (v : VwFn) : LTab := addT 30 fAllO <| addT 36 fAllP <| addT 31 (inlF P (CL1 P v) 1 v.ql) <| addT 32 (inlF P (CL1 P v) 1 v.ow) <| addT 33 (inlF P (CL1 P v) 1 v.oR) <| addT 34 (inlF P (CL1 P v) 1 v.ll) <| addT 35 (inlF P (CL1 P v) 1 v.oc) <| noF
abbrev CL2 (P : Program) (v : VwFn) : Cfg := ⟨noS, liftG (FL2 P v), fun o => effE P [30, 36, 59, 61, 127, 60, 62, 31, 32, 33, 34, 35] o || (match o.dst with | some d => Nat.beq d 61 | none => false), [], [(3, [0, 2, 3])]⟩
theorem FL0_ok : LOk Tryz.prog (FL0 Tryz.prog (VwFn.mk Tryz.f59 Tryz.f61 Tryz.f127 Tryz.f60 Tryz.f62 Tryz.f31 Tryz.f32 Tryz.f33 Tryz.f34 Tryz.f35)) := (addT_ok (addT_ok (addT_ok noF_ok (by kernel_rfl) (inlF_ok (onlyS_ok noS_ok) Tryz.func127 (by kernel_rfl) (by kernel_rfl))) (by kernel_rfl) (inlF_ok (onlyS_ok noS_ok) Tryz.func61 (by kernel_rfl) (by kernel_rfl))) (by kernel_rfl) (inlF_ok (onlyS_ok noS_ok) Tryz.func59 (by kernel_rfl) (by kernel_rfl)))
theorem CL0_ok : CfgOk Tryz.prog (CL0 Tryz.prog (VwFn.mk Tryz.f59 Tryz.f61 Tryz.f127 Tryz.f60 Tryz.f62 Tryz.f31 Tryz.f32 Tryz.f33 Tryz.f34 Tryz.f35)) := both_ok noS_ok FL0_ok
theorem FL1_ok : LOk Tryz.prog (FL1 Tryz.prog (VwFn.mk Tryz.f59 Tryz.f61 Tryz.f127 Tryz.f60 Tryz.f62 Tryz.f31 Tryz.f32 Tryz.f33 Tryz.f34 Tryz.f35)) := (addT_ok (addT_ok FL0_ok (by kernel_rfl) (inlF_ok CL0_ok Tryz.func62 (by kernel_rfl) (by kernel_rfl))) (by kernel_rfl) (inlF_ok CL0_ok Tryz.func60 (by kernel_rfl) (by kernel_rfl)))
theorem CL1_ok : CfgOk Tryz.prog (CL1 Tryz.prog (VwFn.mk Tryz.f59 Tryz.f61 Tryz.f127 Tryz.f60 Tryz.f62 Tryz.f31 Tryz.f32 Tryz.f33 Tryz.f34 Tryz.f35)) := both_ok noS_ok FL1_ok
theorem FL2_ok : LOk Tryz.prog (FL2 Tryz.prog (VwFn.mk Tryz.f59 Tryz.f61 Tryz.f127 Tryz.f60 Tryz.f62 Tryz.f31 Tryz.f32 Tryz.f33 Tryz.f34 Tryz.f35)) := addT_ok (addT_ok (addT_ok (addT_ok (addT_ok (addT_ok (addT_ok noF_ok (by kernel_rfl) (inlF_ok CL1_ok Tryz.func35 (by kernel_rfl) (by kernel_rfl))) (by kernel_rfl) (inlF_ok CL1_ok Tryz.func34 (by kernel_rfl) (by kernel_rfl))) (by kernel_rfl) (inlF_ok CL1_ok Tryz.func33 (by kernel_rfl) (by kernel_rfl))) (by kernel_rfl) (inlF_ok CL1_ok Tryz.func32 (by kernel_rfl) (by kernel_rfl))) (by kernel_rfl) (inlF_ok CL1_ok Tryz.func31 (by kernel_rfl) (by kernel_rfl))) (by kernel_rfl) fAllP_ok) (by kernel_rfl) fAllO_ok
theorem CL2_ok : CfgOk Tryz.prog (CL2 Tryz.prog (VwFn.mk Tryz.f59 Tryz.f61 Tryz.f127 Tryz.f60 Tryz.f62 Tryz.f31 Tryz.f32 Tryz.f33 Tryz.f34 Tryz.f35)) := ⟨noS_ok, liftG_ok FL2_ok⟩
set_option maxRecDepth 100000 in
theorem vw0_run (side sv : Int) (mu : Bool) (mo ho : Int) (key : ByteArray) (n : Nat) (xs : List Value) (F : Nat → Bool) : canT 13 (runF Tryz.prog (CL2 Tryz.prog (VwFn.mk Tryz.f59 Tryz.f61 Tryz.f127 Tryz.f60 Tryz.f62 Tryz.f31 Tryz.f32 Tryz.f33 Tryz.f34 Tryz.f35)) (LFew Tryz.prog (CL2 Tryz.prog (VwFn.mk Tryz.f59 Tryz.f61 Tryz.f127 Tryz.f60 Tryz.f62 Tryz.f31 Tryz.f32 Tryz.f33 Tryz.f34 Tryz.f35)) Tryz.f9 1) Tryz.f9 (Tryz.f9.body.getD .skip) [.ptr 0 0] (lettersV side sv mu mo ho key n xs F 0 (.c (.pointer none)) [])) = .need (agree (.leaf (St.mk [(0, some (.ptr 0 0)), (2, some (.ptr 13 0)), (3, some (.ptr 14 0))] [.own [.v (.int .i64 side), SV.ref 1, .v (.int .i64 sv), SV.v (Value.bool mu), .v (.int .i64 mo), .v (.int .i64 ho), .v (.string key), .c (.int .i64 0), .c (.int .i64 0), .c (.int .i64 0), .ptr 2 0, .ptr 3 0, SV.c (Value.slice none 0 0), .ptr 5 0, .ptr 7 0, .ptr 11 0, SV.c (Value.pointer none), SV.c (Value.string (ByteArray.mk (Array.mk []))), SV.c (Value.string (ByteArray.mk (Array.mk []))), SV.c (Value.bool false), .c (.int .i64 0), .c (.int .i64 0), SV.c (Value.slice none 0 0), .c (.int .i64 0), .c (.int .i64 0), SV.c (Value.bool false)], Blk.vec true 3 1 n xs, Blk.ext (XD.bools 32 F), .own [SV.ref 4], Blk.pm 53 [] [], .own [.ptr 6 0, .c (.int .i64 0)], .own [SV.c (Value.slice none 0 0), .c (.int .i64 32)], .own [.ptr 8 0, .ptr 10 0, .v (.int .i64 mo), .v (.int .i64 ho), .c (.int .i64 0), .c (.int .i64 0), .c (.int .i64 0), .c (.int .i64 0), .c (.int .i64 0), .c (.int .i64 0), .c (.int .i64 0)], .own [.ptr 9 0, .c (.int .i64 0)], .own [SV.c (Value.slice none 0 0), .c (.int .i64 33)], .own [SV.c (Value.slice none 0 0), .c (.int .i64 32)], .own [.ptr 12 0, .c (.int .i64 1), .c (.int .i64 (-1)), .c (.int .i64 0)], .own [SV.c (Value.slice none 0 0), .c (.int .i64 8)], .own [.c (.int .i64 0), SV.c (Value.bool false), .c (.int .i64 0), SV.c (Value.slice none 0 0), SV.c (Value.slice none 0 0), SV.c (Value.slice none 0 0), .c (.int .i64 0), .c (.int .i64 0), .c (.int .i64 0), .c (.int .i64 0), .c (.int .i64 0), .c (.int .i64 0), .c (.int .i64 0), .c (.int .i64 0), .c (.int .i64 0), .c (.int .i64 0)], .own [.c (.int .i64 0), SV.c (Value.bool false), .c (.int .i64 0), SV.c (Value.slice none 0 0), SV.ref 15, SV.ref 16, .c (.int .i64 0), .c (.int .i64 0), .c (.int .i64 0), .c (.int .i64 0), .c (.int .i64 0), .v (.int .i64 0), .v (.int .i64 0), .v (.int .i64 0), .v (.int .i64 0), .v (.int .i64 0)], Blk.vec true 3 1 (adN F 16).length (intCells (adN F 16)), Blk.vec true 3 1 (adN (fun i => F (16 + i)) 16).length (intCells (adN (fun i => F (16 + i)) 16))])) (St.mk [(0, some (.ptr 0 0)), (2, some (.ptr 13 0)), (3, some (.ptr 14 0))] [.own [.v (.int .i64 side), SV.ref 1, .v (.int .i64 sv), SV.v (Value.bool mu), .v (.int .i64 mo), .v (.int .i64 ho), .v (.string key), .c (.int .i64 0), .c (.int .i64 0), .c (.int .i64 0), .ptr 2 0, .ptr 3 0, SV.c (Value.slice none 0 0), .ptr 5 0, .ptr 7 0, .ptr 11 0, SV.c (Value.pointer none), SV.c (Value.string (ByteArray.mk (Array.mk []))), SV.c (Value.string (ByteArray.mk (Array.mk []))), SV.c (Value.bool false), .c (.int .i64 0), .c (.int .i64 0), SV.c (Value.slice none 0 0), .c (.int .i64 0), .c (.int .i64 0), SV.c (Value.bool false)], Blk.vec true 3 1 n xs, Blk.ext (XD.bools 32 F), .own [SV.ref 4], Blk.pm 53 [] [], .own [.ptr 6 0, .c (.int .i64 0)], .own [SV.c (Value.slice none 0 0), .c (.int .i64 32)], .own [.ptr 8 0, .ptr 10 0, .v (.int .i64 mo), .v (.int .i64 ho), .c (.int .i64 0), .c (.int .i64 0), .c (.int .i64 0), .c (.int .i64 0), .c (.int .i64 0), .c (.int .i64 0), .c (.int .i64 0)], .own [.ptr 9 0, .c (.int .i64 0)], .own [SV.c (Value.slice none 0 0), .c (.int .i64 33)], .own [SV.c (Value.slice none 0 0), .c (.int .i64 32)], .own [.ptr 12 0, .c (.int .i64 1), .c (.int .i64 (-1)), .c (.int .i64 0)], .own [SV.c (Value.slice none 0 0), .c (.int .i64 8)], .own [.c (.int .i64 0), SV.c (Value.bool false), .c (.int .i64 0), SV.c (Value.slice none 0 0), SV.c (Value.slice none 0 0), SV.c (Value.slice none 0 0), .c (.int .i64 0), .c (.int .i64 0), .c (.int .i64 0), .c (.int .i64 0), .c (.int .i64 0), .c (.int .i64 0), .c (.int .i64 0), .c (.int .i64 0), .c (.int .i64 0), .c (.int .i64 0)], .own [.c (.int .i64 0), SV.c (Value.bool false), .c (.int .i64 0), SV.c (Value.slice none 0 0), SV.ref 15, SV.ref 16, .c (.int .i64 0), .c (.int .i64 0), .c (.int .i64 0), .c (.int .i64 0), .c (.int .i64 0), .v (.int .i64 0), .v (.int .i64 0), .v (.int .i64 0), .v (.int .i64 0), .v (.int .i64 0)], Blk.vec true 3 1 (adN F 16).length (intCells (adN F 16)), Blk.vec true 3 1 (adN (fun i => F (16 + i)) 16).length (intCells (adN (fun i => F (16 + i)) 16))])) (.need (agree (.leaf (St.mk [(0, some (.ptr 0 0)), (2, some (.ptr 13 0)), (3, some (.ptr 14 0))] [.own [.v (.int .i64 side), SV.ref 1, .v (.int .i64 sv), SV.v (Value.bool mu), .v (.int .i64 mo), .v (.int .i64 ho), .v (.string key), .c (.int .i64 0), .c (.int .i64 0), .c (.int .i64 0), .ptr 2 0, .ptr 3 0, SV.c (Value.slice none 0 0), .ptr 5 0, .ptr 7 0, .ptr 11 0, SV.c (Value.pointer none), SV.c (Value.string (ByteArray.mk (Array.mk []))), SV.c (Value.string (ByteArray.mk (Array.mk []))), SV.c (Value.bool false), .c (.int .i64 0), .c (.int .i64 0), SV.c (Value.slice none 0 0), .c (.int .i64 0), .c (.int .i64 0), SV.c (Value.bool false)], Blk.vec true 3 1 n xs, Blk.ext (XD.bools 32 F), .own [SV.ref 4], Blk.pm 53 [] [], .own [.ptr 6 0, .c (.int .i64 0)], .own [SV.c (Value.slice none 0 0), .c (.int .i64 32)], .own [.ptr 8 0, .ptr 10 0, .v (.int .i64 mo), .v (.int .i64 ho), .c (.int .i64 0), .c (.int .i64 0), .c (.int .i64 0), .c (.int .i64 0), .c (.int .i64 0), .c (.int .i64 0), .c (.int .i64 0)], .own [.ptr 9 0, .c (.int .i64 0)], .own [SV.c (Value.slice none 0 0), .c (.int .i64 33)], .own [SV.c (Value.slice none 0 0), .c (.int .i64 32)], .own [.ptr 12 0, .c (.int .i64 1), .c (.int .i64 (-1)), .c (.int .i64 0)], .own [SV.c (Value.slice none 0 0), .c (.int .i64 8)], .own [.c (.int .i64 0), SV.c (Value.bool false), .c (.int .i64 0), SV.c (Value.slice none 0 0), SV.c (Value.slice none 0 0), SV.c (Value.slice none 0 0), .c (.int .i64 0), .c (.int .i64 0), .c (.int .i64 0), .c (.int .i64 0), .c (.int .i64 0), .c (.int .i64 0), .c (.int .i64 0), .c (.int .i64 0), .c (.int .i64 0), .c (.int .i64 0)], .own [.c (.int .i64 0), SV.c (Value.bool false), .c (.int .i64 0), SV.c (Value.slice none 0 0), SV.ref 15, SV.ref 16, .c (.int .i64 0), .c (.int .i64 0), .c (.int .i64 0), .c (.int .i64 0), .c (.int .i64 0), .v (.int .i64 0), .v (.int .i64 0), .v (.int .i64 0), .v (.int .i64 0), .v (.int .i64 0)], Blk.vec true 3 1 (adN F 16).length (intCells (adN F 16)), Blk.vec true 3 1 (adN (fun i => F (16 + i)) 16).length (intCells (adN (fun i => F (16 + i)) 16))])) (St.mk [(0, some (.ptr 0 0)), (2, some (.ptr 13 0)), (3, some (.ptr 14 0))] [.own [.v (.int .i64 side), SV.ref 1, .v (.int .i64 sv), SV.v (Value.bool mu), .v (.int .i64 mo), .v (.int .i64 ho), .v (.string key), .c (.int .i64 0), .c (.int .i64 0), .c (.int .i64 0), .ptr 2 0, .ptr 3 0, SV.c (Value.slice none 0 0), .ptr 5 0, .ptr 7 0, .ptr 11 0, SV.c (Value.pointer none), SV.c (Value.string (ByteArray.mk (Array.mk []))), SV.c (Value.string (ByteArray.mk (Array.mk []))), SV.c (Value.bool false), .c (.int .i64 0), .c (.int .i64 0), SV.c (Value.slice none 0 0), .c (.int .i64 0), .c (.int .i64 0), SV.c (Value.bool false)], Blk.vec true 3 1 n xs, Blk.ext (XD.bools 32 F), .own [SV.ref 4], Blk.pm 53 [] [], .own [.ptr 6 0, .c (.int .i64 0)], .own [SV.c (Value.slice none 0 0), .c (.int .i64 32)], .own [.ptr 8 0, .ptr 10 0, .v (.int .i64 mo), .v (.int .i64 ho), .c (.int .i64 0), .c (.int .i64 0), .c (.int .i64 0), .c (.int .i64 0), .c (.int .i64 0), .c (.int .i64 0), .c (.int .i64 0)], .own [.ptr 9 0, .c (.int .i64 0)], .own [SV.c (Value.slice none 0 0), .c (.int .i64 33)], .own [SV.c (Value.slice none 0 0), .c (.int .i64 32)], .own [.ptr 12 0, .c (.int .i64 1), .c (.int .i64 (-1)), .c (.int .i64 0)], .own [SV.c (Value.slice none 0 0), .c (.int .i64 8)], .own [.c (.int .i64 0), SV.c (Value.bool false), .c (.int .i64 0), SV.c (Value.slice none 0 0), SV.c (Value.slice none 0 0), SV.c (Value.slice none 0 0), .c (.int .i64 0), .c (.int .i64 0), .c (.int .i64 0), .c (.int .i64 0), .c (.int .i64 0), .c (.int .i64 0), .c (.int .i64 0), .c (.int .i64 0), .c (.int .i64 0), .c (.int .i64 0)], .own [.c (.int .i64 0), SV.c (Value.bool false), .c (.int .i64 0), SV.c (Value.slice none 0 0), SV.ref 15, SV.ref 16, .c (.int .i64 0), .c (.int .i64 0), .c (.int .i64 0), .c (.int .i64 0), .c (.int .i64 0), .v (.int .i64 0), .v (.int .i64 0), .v (.int .i64 0), .v (.int .i64 0), .v (.int .i64 0)], Blk.vec true 3 1 (adN F 16).length (intCells (adN F 16)), Blk.vec true 3 1 (adN (fun i => F (16 + i)) 16).length (intCells (adN (fun i => F (16 + i)) 16))])) (.need (agree (.leaf (St.mk [(0, some (.ptr 0 0)), (2, some (.ptr 13 0)), (3, some (.ptr 14 0))] [.own [.v (.int .i64 side), SV.ref 1, .v (.int .i64 sv), SV.v (Value.bool mu), .v (.int .i64 mo), .v (.int .i64 ho), .v (.string key), .c (.int .i64 0), .c (.int .i64 0), .c (.int .i64 0), .ptr 2 0, .ptr 3 0, SV.c (Value.slice none 0 0), .ptr 5 0, .ptr 7 0, .ptr 11 0, SV.c (Value.pointer none), SV.c (Value.string (ByteArray.mk (Array.mk []))), SV.c (Value.string (ByteArray.mk (Array.mk []))), SV.c (Value.bool false), .c (.int .i64 0), .c (.int .i64 0), SV.c (Value.slice none 0 0), .c (.int .i64 0), .c (.int .i64 0), SV.c (Value.bool false)], Blk.vec true 3 1 n xs, Blk.ext (XD.bools 32 F), .own [SV.ref 4], Blk.pm 53 [] [], .own [.ptr 6 0, .c (.int .i64 0)], .own [SV.c (Value.slice none 0 0), .c (.int .i64 32)], .own [.ptr 8 0, .ptr 10 0, .v (.int .i64 mo), .v (.int .i64 ho), .c (.int .i64 0), .c (.int .i64 0), .c (.int .i64 0), .c (.int .i64 0), .c (.int .i64 0), .c (.int .i64 0), .c (.int .i64 0)], .own [.ptr 9 0, .c (.int .i64 0)], .own [SV.c (Value.slice none 0 0), .c (.int .i64 33)], .own [SV.c (Value.slice none 0 0), .c (.int .i64 32)], .own [.ptr 12 0, .c (.int .i64 1), .c (.int .i64 (-1)), .c (.int .i64 0)], .own [SV.c (Value.slice none 0 0), .c (.int .i64 8)], .own [.c (.int .i64 0), SV.c (Value.bool false), .c (.int .i64 0), SV.c (Value.slice none 0 0), SV.c (Value.slice none 0 0), SV.c (Value.slice none 0 0), .c (.int .i64 0), .c (.int .i64 0), .c (.int .i64 0), .c (.int .i64 0), .c (.int .i64 0), .c (.int .i64 0), .c (.int .i64 0), .c (.int .i64 0), .c (.int .i64 0), .c (.int .i64 0)], .own [.c (.int .i64 0), SV.c (Value.bool false), .c (.int .i64 0), SV.c (Value.slice none 0 0), SV.ref 15, SV.ref 16, .c (.int .i64 0), .c (.int .i64 0), .c (.int .i64 0), .c (.int .i64 0), .c (.int .i64 0), .v (.int .i64 0), .v (.int .i64 0), .v (.int .i64 0), .v (.int .i64 0), .v (.int .i64 0)], Blk.vec true 3 1 (adN F 16).length (intCells (adN F 16)), Blk.vec true 3 1 (adN (fun i => F (16 + i)) 16).length (intCells (adN (fun i => F (16 + i)) 16))])) (St.mk [(0, some (.ptr 0 0)), (2, some (.ptr 13 0)), (3, some (.ptr 14 0))] [.own [.v (.int .i64 side), SV.ref 1, .v (.int .i64 sv), SV.v (Value.bool mu), .v (.int .i64 mo), .v (.int .i64 ho), .v (.string key), .c (.int .i64 0), .c (.int .i64 0), .c (.int .i64 0), .ptr 2 0, .ptr 3 0, SV.c (Value.slice none 0 0), .ptr 5 0, .ptr 7 0, .ptr 11 0, SV.c (Value.pointer none), SV.c (Value.string (ByteArray.mk (Array.mk []))), SV.c (Value.string (ByteArray.mk (Array.mk []))), SV.c (Value.bool false), .c (.int .i64 0), .c (.int .i64 0), SV.c (Value.slice none 0 0), .c (.int .i64 0), .c (.int .i64 0), SV.c (Value.bool false)], Blk.vec true 3 1 n xs, Blk.ext (XD.bools 32 F), .own [SV.ref 4], Blk.pm 53 [] [], .own [.ptr 6 0, .c (.int .i64 0)], .own [SV.c (Value.slice none 0 0), .c (.int .i64 32)], .own [.ptr 8 0, .ptr 10 0, .v (.int .i64 mo), .v (.int .i64 ho), .c (.int .i64 0), .c (.int .i64 0), .c (.int .i64 0), .c (.int .i64 0), .c (.int .i64 0), .c (.int .i64 0), .c (.int .i64 0)], .own [.ptr 9 0, .c (.int .i64 0)], .own [SV.c (Value.slice none 0 0), .c (.int .i64 33)], .own [SV.c (Value.slice none 0 0), .c (.int .i64 32)], .own [.ptr 12 0, .c (.int .i64 1), .c (.int .i64 (-1)), .c (.int .i64 0)], .own [SV.c (Value.slice none 0 0), .c (.int .i64 8)], .own [.c (.int .i64 0), SV.c (Value.bool false), .c (.int .i64 0), SV.c (Value.slice none 0 0), SV.c (Value.slice none 0 0), SV.c (Value.slice none 0 0), .c (.int .i64 0), .c (.int .i64 0), .c (.int .i64 0), .c (.int .i64 0), .c (.int .i64 0), .c (.int .i64 0), .c (.int .i64 0), .c (.int .i64 0), .c (.int .i64 0), .c (.int .i64 0)], .own [.c (.int .i64 0), SV.c (Value.bool false), .c (.int .i64 0), SV.c (Value.slice none 0 0), SV.ref 15, SV.ref 16, .c (.int .i64 0), .c (.int .i64 0), .c (.int .i64 0), .c (.int .i64 0), .c (.int .i64 0), .v (.int .i64 0), .v (.int .i64 0), .v (.int .i64 0), .v (.int .i64 0), .v (.int .i64 0)], Blk.vec true 3 1 (adN F 16).length (intCells (adN F 16)), Blk.vec true 3 1 (adN (fun i => F (16 + i)) 16).length (intCells (adN (fun i => F (16 + i)) 16))])) (.need (agree (.leaf (St.mk [(0, some (.ptr 0 0)), (2, some (.ptr 13 0)), (3, some (.ptr 14 0))] [.own [.v (.int .i64 side), SV.ref 1, .v (.int .i64 sv), SV.v (Value.bool mu), .v (.int .i64 mo), .v (.int .i64 ho), .v (.string key), .c (.int .i64 0), .c (.int .i64 0), .c (.int .i64 0), .ptr 2 0, .ptr 3 0, SV.c (Value.slice none 0 0), .ptr 5 0, .ptr 7 0, .ptr 11 0, SV.c (Value.pointer none), SV.c (Value.string (ByteArray.mk (Array.mk []))), SV.c (Value.string (ByteArray.mk (Array.mk []))), SV.c (Value.bool false), .c (.int .i64 0), .c (.int .i64 0), SV.c (Value.slice none 0 0), .c (.int .i64 0), .c (.int .i64 0), SV.c (Value.bool false)], Blk.vec true 3 1 n xs, Blk.ext (XD.bools 32 F), .own [SV.ref 4], Blk.pm 53 [] [], .own [.ptr 6 0, .c (.int .i64 0)], .own [SV.c (Value.slice none 0 0), .c (.int .i64 32)], .own [.ptr 8 0, .ptr 10 0, .v (.int .i64 mo), .v (.int .i64 ho), .c (.int .i64 0), .c (.int .i64 0), .c (.int .i64 0), .c (.int .i64 0), .c (.int .i64 0), .c (.int .i64 0), .c (.int .i64 0)], .own [.ptr 9 0, .c (.int .i64 0)], .own [SV.c (Value.slice none 0 0), .c (.int .i64 33)], .own [SV.c (Value.slice none 0 0), .c (.int .i64 32)], .own [.ptr 12 0, .c (.int .i64 1), .c (.int .i64 (-1)), .c (.int .i64 0)], .own [SV.c (Value.slice none 0 0), .c (.int .i64 8)], .own [.c (.int .i64 0), SV.c (Value.bool false), .c (.int .i64 0), SV.c (Value.slice none 0 0), SV.c (Value.slice none 0 0), SV.c (Value.slice none 0 0), .c (.int .i64 0), .c (.int .i64 0), .c (.int .i64 0), .c (.int .i64 0), .c (.int .i64 0), .c (.int .i64 0), .c (.int .i64 0), .c (.int .i64 0), .c (.int .i64 0), .c (.int .i64 0)], .own [.c (.int .i64 0), SV.c (Value.bool false), .c (.int .i64 0), SV.c (Value.slice none 0 0), SV.ref 15, SV.ref 16, .c (.int .i64 0), .c (.int .i64 0), .c (.int .i64 0), .c (.int .i64 0), .c (.int .i64 0), .v (.int .i64 0), .v (.int .i64 0), .v (.int .i64 0), .v (.int .i64 0), .v (.int .i64 0)], Blk.vec true 3 1 (adN F 16).length (intCells (adN F 16)), Blk.vec true 3 1 (adN (fun i => F (16 + i)) 16).length (intCells (adN (fun i => F (16 + i)) 16))])) (St.mk [(0, some (.ptr 0 0)), (2, some (.ptr 13 0)), (3, some (.ptr 14 0))] [.own [.v (.int .i64 side), SV.ref 1, .v (.int .i64 sv), SV.v (Value.bool mu), .v (.int .i64 mo), .v (.int .i64 ho), .v (.string key), .c (.int .i64 0), .c (.int .i64 0), .c (.int .i64 0), .ptr 2 0, .ptr 3 0, SV.c (Value.slice none 0 0), .ptr 5 0, .ptr 7 0, .ptr 11 0, SV.c (Value.pointer none), SV.c (Value.string (ByteArray.mk (Array.mk []))), SV.c (Value.string (ByteArray.mk (Array.mk []))), SV.c (Value.bool false), .c (.int .i64 0), .c (.int .i64 0), SV.c (Value.slice none 0 0), .c (.int .i64 0), .c (.int .i64 0), SV.c (Value.bool false)], Blk.vec true 3 1 n xs, Blk.ext (XD.bools 32 F), .own [SV.ref 4], Blk.pm 53 [] [], .own [.ptr 6 0, .c (.int .i64 0)], .own [SV.c (Value.slice none 0 0), .c (.int .i64 32)], .own [.ptr 8 0, .ptr 10 0, .v (.int .i64 mo), .v (.int .i64 ho), .c (.int .i64 0), .c (.int .i64 0), .c (.int .i64 0), .c (.int .i64 0), .c (.int .i64 0), .c (.int .i64 0), .c (.int .i64 0)], .own [.ptr 9 0, .c (.int .i64 0)], .own [SV.c (Value.slice none 0 0), .c (.int .i64 33)], .own [SV.c (Value.slice none 0 0), .c (.int .i64 32)], .own [.ptr 12 0, .c (.int .i64 1), .c (.int .i64 (-1)), .c (.int .i64 0)], .own [SV.c (Value.slice none 0 0), .c (.int .i64 8)], .own [.c (.int .i64 0), SV.c (Value.bool false), .c (.int .i64 0), SV.c (Value.slice none 0 0), SV.c (Value.slice none 0 0), SV.c (Value.slice none 0 0), .c (.int .i64 0), .c (.int .i64 0), .c (.int .i64 0), .c (.int .i64 0), .c (.int .i64 0), .c (.int .i64 0), .c (.int .i64 0), .c (.int .i64 0), .c (.int .i64 0), .c (.int .i64 0)], .own [.c (.int .i64 0), SV.c (Value.bool false), .c (.int .i64 0), SV.c (Value.slice none 0 0), SV.ref 15, SV.ref 16, .c (.int .i64 0), .c (.int .i64 0), .c (.int .i64 0), .c (.int .i64 0), .c (.int .i64 0), .v (.int .i64 0), .v (.int .i64 0), .v (.int .i64 0), .v (.int .i64 0), .v (.int .i64 0)], Blk.vec true 3 1 (adN F 16).length (intCells (adN F 16)), Blk.vec true 3 1 (adN (fun i => F (16 + i)) 16).length (intCells (adN (fun i => F (16 + i)) 16))])) (.need (agree (.leaf (St.mk [(0, some (.ptr 0 0)), (2, some (.ptr 13 0)), (3, some (.ptr 14 0))] [.own [.v (.int .i64 side), SV.ref 1, .v (.int .i64 sv), SV.v (Value.bool mu), .v (.int .i64 mo), .v (.int .i64 ho), .v (.string key), .c (.int .i64 0), .c (.int .i64 0), .c (.int .i64 0), .ptr 2 0, .ptr 3 0, SV.c (Value.slice none 0 0), .ptr 5 0, .ptr 7 0, .ptr 11 0, SV.c (Value.pointer none), SV.c (Value.string (ByteArray.mk (Array.mk []))), SV.c (Value.string (ByteArray.mk (Array.mk []))), SV.c (Value.bool false), .c (.int .i64 0), .c (.int .i64 0), SV.c (Value.slice none 0 0), .c (.int .i64 0), .c (.int .i64 0), SV.c (Value.bool false)], Blk.vec true 3 1 n xs, Blk.ext (XD.bools 32 F), .own [SV.ref 4], Blk.pm 53 [] [], .own [.ptr 6 0, .c (.int .i64 0)], .own [SV.c (Value.slice none 0 0), .c (.int .i64 32)], .own [.ptr 8 0, .ptr 10 0, .v (.int .i64 mo), .v (.int .i64 ho), .c (.int .i64 0), .c (.int .i64 0), .c (.int .i64 0), .c (.int .i64 0), .c (.int .i64 0), .c (.int .i64 0), .c (.int .i64 0)], .own [.ptr 9 0, .c (.int .i64 0)], .own [SV.c (Value.slice none 0 0), .c (.int .i64 33)], .own [SV.c (Value.slice none 0 0), .c (.int .i64 32)], .own [.ptr 12 0, .c (.int .i64 1), .c (.int .i64 (-1)), .c (.int .i64 0)], .own [SV.c (Value.slice none 0 0), .c (.int .i64 8)], .own [.c (.int .i64 0), SV.c (Value.bool false), .c (.int .i64 0), SV.c (Value.slice none 0 0), SV.c (Value.slice none 0 0), SV.c (Value.slice none 0 0), .c (.int .i64 0), .c (.int .i64 0), .c (.int .i64 0), .c (.int .i64 0), .c (.int .i64 0), .c (.int .i64 0), .c (.int .i64 0), .c (.int .i64 0), .c (.int .i64 0), .c (.int .i64 0)], .own [.c (.int .i64 0), SV.c (Value.bool false), .c (.int .i64 0), SV.c (Value.slice none 0 0), SV.ref 15, SV.ref 16, .c (.int .i64 0), .c (.int .i64 0), .c (.int .i64 0), .c (.int .i64 0), .c (.int .i64 0), .v (.int .i64 0), .v (.int .i64 0), .v (.int .i64 0), .v (.int .i64 0), .v (.int .i64 0)], Blk.vec true 3 1 (adN F 16).length (intCells (adN F 16)), Blk.vec true 3 1 (adN (fun i => F (16 + i)) 16).length (intCells (adN (fun i => F (16 + i)) 16))])) (St.mk [(0, some (.ptr 0 0)), (2, some (.ptr 13 0)), (3, some (.ptr 14 0))] [.own [.v (.int .i64 side), SV.ref 1, .v (.int .i64 sv), SV.v (Value.bool mu), .v (.int .i64 mo), .v (.int .i64 ho), .v (.string key), .c (.int .i64 0), .c (.int .i64 0), .c (.int .i64 0), .ptr 2 0, .ptr 3 0, SV.c (Value.slice none 0 0), .ptr 5 0, .ptr 7 0, .ptr 11 0, SV.c (Value.pointer none), SV.c (Value.string (ByteArray.mk (Array.mk []))), SV.c (Value.string (ByteArray.mk (Array.mk []))), SV.c (Value.bool false), .c (.int .i64 0), .c (.int .i64 0), SV.c (Value.slice none 0 0), .c (.int .i64 0), .c (.int .i64 0), SV.c (Value.bool false)], Blk.vec true 3 1 n xs, Blk.ext (XD.bools 32 F), .own [SV.ref 4], Blk.pm 53 [] [], .own [.ptr 6 0, .c (.int .i64 0)], .own [SV.c (Value.slice none 0 0), .c (.int .i64 32)], .own [.ptr 8 0, .ptr 10 0, .v (.int .i64 mo), .v (.int .i64 ho), .c (.int .i64 0), .c (.int .i64 0), .c (.int .i64 0), .c (.int .i64 0), .c (.int .i64 0), .c (.int .i64 0), .c (.int .i64 0)], .own [.ptr 9 0, .c (.int .i64 0)], .own [SV.c (Value.slice none 0 0), .c (.int .i64 33)], .own [SV.c (Value.slice none 0 0), .c (.int .i64 32)], .own [.ptr 12 0, .c (.int .i64 1), .c (.int .i64 (-1)), .c (.int .i64 0)], .own [SV.c (Value.slice none 0 0), .c (.int .i64 8)], .own [.c (.int .i64 0), SV.c (Value.bool false), .c (.int .i64 0), SV.c (Value.slice none 0 0), SV.c (Value.slice none 0 0), SV.c (Value.slice none 0 0), .c (.int .i64 0), .c (.int .i64 0), .c (.int .i64 0), .c (.int .i64 0), .c (.int .i64 0), .c (.int .i64 0), .c (.int .i64 0), .c (.int .i64 0), .c (.int .i64 0), .c (.int .i64 0)], .own [.c (.int .i64 0), SV.c (Value.bool false), .c (.int .i64 0), SV.c (Value.slice none 0 0), SV.ref 15, SV.ref 16, .c (.int .i64 0), .c (.int .i64 0), .c (.int .i64 0), .c (.int .i64 0), .c (.int .i64 0), .v (.int .i64 0), .v (.int .i64 0), .v (.int .i64 0), .v (.int .i64 0), .v (.int .i64 0)], Blk.vec true 3 1 (adN F 16).length (intCells (adN F 16)), Blk.vec true 3 1 (adN (fun i => F (16 + i)) 16).length (intCells (adN (fun i => F (16 + i)) 16))])) (.need (agree (.leaf (St.mk [(0, some (.ptr 0 0)), (2, some (.ptr 13 0)), (3, some (.ptr 14 0))] [.own [.v (.int .i64 side), SV.ref 1, .v (.int .i64 sv), SV.v (Value.bool mu), .v (.int .i64 mo), .v (.int .i64 ho), .v (.string key), .c (.int .i64 0), .c (.int .i64 0), .c (.int .i64 0), .ptr 2 0, .ptr 3 0, SV.c (Value.slice none 0 0), .ptr 5 0, .ptr 7 0, .ptr 11 0, SV.c (Value.pointer none), SV.c (Value.string (ByteArray.mk (Array.mk []))), SV.c (Value.string (ByteArray.mk (Array.mk []))), SV.c (Value.bool false), .c (.int .i64 0), .c (.int .i64 0), SV.c (Value.slice none 0 0), .c (.int .i64 0), .c (.int .i64 0), SV.c (Value.bool false)], Blk.vec true 3 1 n xs, Blk.ext (XD.bools 32 F), .own [SV.ref 4], Blk.pm 53 [] [], .own [.ptr 6 0, .c (.int .i64 0)], .own [SV.c (Value.slice none 0 0), .c (.int .i64 32)], .own [.ptr 8 0, .ptr 10 0, .v (.int .i64 mo), .v (.int .i64 ho), .c (.int .i64 0), .c (.int .i64 0), .c (.int .i64 0), .c (.int .i64 0), .c (.int .i64 0), .c (.int .i64 0), .c (.int .i64 0)], .own [.ptr 9 0, .c (.int .i64 0)], .own [SV.c (Value.slice none 0 0), .c (.int .i64 33)], .own [SV.c (Value.slice none 0 0), .c (.int .i64 32)], .own [.ptr 12 0, .c (.int .i64 1), .c (.int .i64 (-1)), .c (.int .i64 0)], .own [SV.c (Value.slice none 0 0), .c (.int .i64 8)], .own [.c (.int .i64 0), SV.c (Value.bool false), .c (.int .i64 0), SV.c (Value.slice none 0 0), SV.c (Value.slice none 0 0), SV.c (Value.slice none 0 0), .c (.int .i64 0), .c (.int .i64 0), .c (.int .i64 0), .c (.int .i64 0), .c (.int .i64 0), .c (.int .i64 0), .c (.int .i64 0), .c (.int .i64 0), .c (.int .i64 0), .c (.int .i64 0)], .own [.c (.int .i64 0), SV.c (Value.bool false), .c (.int .i64 0), SV.c (Value.slice none 0 0), SV.ref 15, SV.ref 16, .c (.int .i64 0), .c (.int .i64 0), .c (.int .i64 0), .c (.int .i64 0), .c (.int .i64 0), .v (.int .i64 0), .v (.int .i64 0), .v (.int .i64 0), .v (.int .i64 0), .v (.int .i64 0)], Blk.vec true 3 1 (adN F 16).length (intCells (adN F 16)), Blk.vec true 3 1 (adN (fun i => F (16 + i)) 16).length (intCells (adN (fun i => F (16 + i)) 16))])) (St.mk [(0, some (.ptr 0 0)), (2, some (.ptr 13 0)), (3, some (.ptr 14 0))] [.own [.v (.int .i64 side), SV.ref 1, .v (.int .i64 sv), SV.v (Value.bool mu), .v (.int .i64 mo), .v (.int .i64 ho), .v (.string key), .c (.int .i64 0), .c (.int .i64 0), .c (.int .i64 0), .ptr 2 0, .ptr 3 0, SV.c (Value.slice none 0 0), .ptr 5 0, .ptr 7 0, .ptr 11 0, SV.c (Value.pointer none), SV.c (Value.string (ByteArray.mk (Array.mk []))), SV.c (Value.string (ByteArray.mk (Array.mk []))), SV.c (Value.bool false), .c (.int .i64 0), .c (.int .i64 0), SV.c (Value.slice none 0 0), .c (.int .i64 0), .c (.int .i64 0), SV.c (Value.bool false)], Blk.vec true 3 1 n xs, Blk.ext (XD.bools 32 F), .own [SV.ref 4], Blk.pm 53 [] [], .own [.ptr 6 0, .c (.int .i64 0)], .own [SV.c (Value.slice none 0 0), .c (.int .i64 32)], .own [.ptr 8 0, .ptr 10 0, .v (.int .i64 mo), .v (.int .i64 ho), .c (.int .i64 0), .c (.int .i64 0), .c (.int .i64 0), .c (.int .i64 0), .c (.int .i64 0), .c (.int .i64 0), .c (.int .i64 0)], .own [.ptr 9 0, .c (.int .i64 0)], .own [SV.c (Value.slice none 0 0), .c (.int .i64 33)], .own [SV.c (Value.slice none 0 0), .c (.int .i64 32)], .own [.ptr 12 0, .c (.int .i64 1), .c (.int .i64 (-1)), .c (.int .i64 0)], .own [SV.c (Value.slice none 0 0), .c (.int .i64 8)], .own [.c (.int .i64 0), SV.c (Value.bool false), .c (.int .i64 0), SV.c (Value.slice none 0 0), SV.c (Value.slice none 0 0), SV.c (Value.slice none 0 0), .c (.int .i64 0), .c (.int .i64 0), .c (.int .i64 0), .c (.int .i64 0), .c (.int .i64 0), .c (.int .i64 0), .c (.int .i64 0), .c (.int .i64 0), .c (.int .i64 0), .c (.int .i64 0)], .own [.c (.int .i64 0), SV.c (Value.bool false), .c (.int .i64 0), SV.c (Value.slice none 0 0), SV.ref 15, SV.ref 16, .c (.int .i64 0), .c (.int .i64 0), .c (.int .i64 0), .c (.int .i64 0), .c (.int .i64 0), .v (.int .i64 0), .v (.int .i64 0), .v (.int .i64 0), .v (.int .i64 0), .v (.int .i64 0)], Blk.vec true 3 1 (adN F 16).length (intCells (adN F 16)), Blk.vec true 3 1 (adN (fun i => F (16 + i)) 16).length (intCells (adN (fun i => F (16 + i)) 16))])) (.need (agree (.leaf (St.mk [(0, some (.ptr 0 0)), (2, some (.ptr 13 0)), (3, some (.ptr 14 0))] [.own [.v (.int .i64 side), SV.ref 1, .v (.int .i64 sv), SV.v (Value.bool mu), .v (.int .i64 mo), .v (.int .i64 ho), .v (.string key), .c (.int .i64 0), .c (.int .i64 0), .c (.int .i64 0), .ptr 2 0, .ptr 3 0, SV.c (Value.slice none 0 0), .ptr 5 0, .ptr 7 0, .ptr 11 0, SV.c (Value.pointer none), SV.c (Value.string (ByteArray.mk (Array.mk []))), SV.c (Value.string (ByteArray.mk (Array.mk []))), SV.c (Value.bool false), .c (.int .i64 0), .c (.int .i64 0), SV.c (Value.slice none 0 0), .c (.int .i64 0), .c (.int .i64 0), SV.c (Value.bool false)], Blk.vec true 3 1 n xs, Blk.ext (XD.bools 32 F), .own [SV.ref 4], Blk.pm 53 [] [], .own [.ptr 6 0, .c (.int .i64 0)], .own [SV.c (Value.slice none 0 0), .c (.int .i64 32)], .own [.ptr 8 0, .ptr 10 0, .v (.int .i64 mo), .v (.int .i64 ho), .c (.int .i64 0), .c (.int .i64 0), .c (.int .i64 0), .c (.int .i64 0), .c (.int .i64 0), .c (.int .i64 0), .c (.int .i64 0)], .own [.ptr 9 0, .c (.int .i64 0)], .own [SV.c (Value.slice none 0 0), .c (.int .i64 33)], .own [SV.c (Value.slice none 0 0), .c (.int .i64 32)], .own [.ptr 12 0, .c (.int .i64 1), .c (.int .i64 (-1)), .c (.int .i64 0)], .own [SV.c (Value.slice none 0 0), .c (.int .i64 8)], .own [.c (.int .i64 0), SV.c (Value.bool false), .c (.int .i64 0), SV.c (Value.slice none 0 0), SV.c (Value.slice none 0 0), SV.c (Value.slice none 0 0), .c (.int .i64 0), .c (.int .i64 0), .c (.int .i64 0), .c (.int .i64 0), .c (.int .i64 0), .c (.int .i64 0), .c (.int .i64 0), .c (.int .i64 0), .c (.int .i64 0), .c (.int .i64 0)], .own [.c (.int .i64 0), SV.c (Value.bool false), .c (.int .i64 0), SV.c (Value.slice none 0 0), SV.ref 15, SV.ref 16, .c (.int .i64 0), .c (.int .i64 0), .c (.int .i64 0), .c (.int .i64 0), .c (.int .i64 0), .v (.int .i64 0), .v (.int .i64 0), .v (.int .i64 0), .v (.int .i64 0), .v (.int .i64 0)], Blk.vec true 3 1 (adN F 16).length (intCells (adN F 16)), Blk.vec true 3 1 (adN (fun i => F (16 + i)) 16).length (intCells (adN (fun i => F (16 + i)) 16))])) (St.mk [(0, some (.ptr 0 0)), (2, some (.ptr 13 0)), (3, some (.ptr 14 0))] [.own [.v (.int .i64 side), SV.ref 1, .v (.int .i64 sv), SV.v (Value.bool mu), .v (.int .i64 mo), .v (.int .i64 ho), .v (.string key), .c (.int .i64 0), .c (.int .i64 0), .c (.int .i64 0), .ptr 2 0, .ptr 3 0, SV.c (Value.slice none 0 0), .ptr 5 0, .ptr 7 0, .ptr 11 0, SV.c (Value.pointer none), SV.c (Value.string (ByteArray.mk (Array.mk []))), SV.c (Value.string (ByteArray.mk (Array.mk []))), SV.c (Value.bool false), .c (.int .i64 0), .c (.int .i64 0), SV.c (Value.slice none 0 0), .c (.int .i64 0), .c (.int .i64 0), SV.c (Value.bool false)], Blk.vec true 3 1 n xs, Blk.ext (XD.bools 32 F), .own [SV.ref 4], Blk.pm 53 [] [], .own [.ptr 6 0, .c (.int .i64 0)], .own [SV.c (Value.slice none 0 0), .c (.int .i64 32)], .own [.ptr 8 0, .ptr 10 0, .v (.int .i64 mo), .v (.int .i64 ho), .c (.int .i64 0), .c (.int .i64 0), .c (.int .i64 0), .c (.int .i64 0), .c (.int .i64 0), .c (.int .i64 0), .c (.int .i64 0)], .own [.ptr 9 0, .c (.int .i64 0)], .own [SV.c (Value.slice none 0 0), .c (.int .i64 33)], .own [SV.c (Value.slice none 0 0), .c (.int .i64 32)], .own [.ptr 12 0, .c (.int .i64 1), .c (.int .i64 (-1)), .c (.int .i64 0)], .own [SV.c (Value.slice none 0 0), .c (.int .i64 8)], .own [.c (.int .i64 0), SV.c (Value.bool false), .c (.int .i64 0), SV.c (Value.slice none 0 0), SV.c (Value.slice none 0 0), SV.c (Value.slice none 0 0), .c (.int .i64 0), .c (.int .i64 0), .c (.int .i64 0), .c (.int .i64 0), .c (.int .i64 0), .c (.int .i64 0), .c (.int .i64 0), .c (.int .i64 0), .c (.int .i64 0), .c (.int .i64 0)], .own [.c (.int .i64 0), SV.c (Value.bool false), .c (.int .i64 0), SV.c (Value.slice none 0 0), SV.ref 15, SV.ref 16, .c (.int .i64 0), .c (.int .i64 0), .c (.int .i64 0), .c (.int .i64 0), .c (.int .i64 0), .v (.int .i64 0), .v (.int .i64 0), .v (.int .i64 0), .v (.int .i64 0), .v (.int .i64 0)], Blk.vec true 3 1 (adN F 16).length (intCells (adN F 16)), Blk.vec true 3 1 (adN (fun i => F (16 + i)) 16).length (intCells (adN (fun i => F (16 + i)) 16))])) (.need (agree (.leaf (St.mk [(0, some (.ptr 0 0)), (2, some (.ptr 13 0)), (3, some (.ptr 14 0))] [.own [.v (.int .i64 side), SV.ref 1, .v (.int .i64 sv), SV.v (Value.bool mu), .v (.int .i64 mo), .v (.int .i64 ho), .v (.string key), .c (.int .i64 0), .c (.int .i64 0), .c (.int .i64 0), .ptr 2 0, .ptr 3 0, SV.c (Value.slice none 0 0), .ptr 5 0, .ptr 7 0, .ptr 11 0, SV.c (Value.pointer none), SV.c (Value.string (ByteArray.mk (Array.mk []))), SV.c (Value.string (ByteArray.mk (Array.mk []))), SV.c (Value.bool false), .c (.int .i64 0), .c (.int .i64 0), SV.c (Value.slice none 0 0), .c (.int .i64 0), .c (.int .i64 0), SV.c (Value.bool false)], Blk.vec true 3 1 n xs, Blk.ext (XD.bools 32 F), .own [SV.ref 4], Blk.pm 53 [] [], .own [.ptr 6 0, .c (.int .i64 0)], .own [SV.c (Value.slice none 0 0), .c (.int .i64 32)], .own [.ptr 8 0, .ptr 10 0, .v (.int .i64 mo), .v (.int .i64 ho), .c (.int .i64 0), .c (.int .i64 0), .c (.int .i64 0), .c (.int .i64 0), .c (.int .i64 0), .c (.int .i64 0), .c (.int .i64 0)], .own [.ptr 9 0, .c (.int .i64 0)], .own [SV.c (Value.slice none 0 0), .c (.int .i64 33)], .own [SV.c (Value.slice none 0 0), .c (.int .i64 32)], .own [.ptr 12 0, .c (.int .i64 1), .c (.int .i64 (-1)), .c (.int .i64 0)], .own [SV.c (Value.slice none 0 0), .c (.int .i64 8)], .own [.c (.int .i64 0), SV.c (Value.bool false), .c (.int .i64 0), SV.c (Value.slice none 0 0), SV.c (Value.slice none 0 0), SV.c (Value.slice none 0 0), .c (.int .i64 0), .c (.int .i64 0), .c (.int .i64 0), .c (.int .i64 0), .c (.int .i64 0), .c (.int .i64 0), .c (.int .i64 0), .c (.int .i64 0), .c (.int .i64 0), .c (.int .i64 0)], .own [.c (.int .i64 0), SV.c (Value.bool false), .c (.int .i64 0), SV.c (Value.slice none 0 0), SV.ref 15, SV.ref 16, .c (.int .i64 0), .c (.int .i64 0), .c (.int .i64 0), .c (.int .i64 0), .c (.int .i64 0), .v (.int .i64 0), .v (.int .i64 0), .v (.int .i64 0), .v (.int .i64 0), .v (.int .i64 0)], Blk.vec true 3 1 (adN F 16).length (intCells (adN F 16)), Blk.vec true 3 1 (adN (fun i => F (16 + i)) 16).length (intCells (adN (fun i => F (16 + i)) 16))])) (St.mk [(0, some (.ptr 0 0)), (2, some (.ptr 13 0)), (3, some (.ptr 14 0))] [.own [.v (.int .i64 side), SV.ref 1, .v (.int .i64 sv), SV.v (Value.bool mu), .v (.int .i64 mo), .v (.int .i64 ho), .v (.string key), .c (.int .i64 0), .c (.int .i64 0), .c (.int .i64 0), .ptr 2 0, .ptr 3 0, SV.c (Value.slice none 0 0), .ptr 5 0, .ptr 7 0, .ptr 11 0, SV.c (Value.pointer none), SV.c (Value.string (ByteArray.mk (Array.mk []))), SV.c (Value.string (ByteArray.mk (Array.mk []))), SV.c (Value.bool false), .c (.int .i64 0), .c (.int .i64 0), SV.c (Value.slice none 0 0), .c (.int .i64 0), .c (.int .i64 0), SV.c (Value.bool false)], Blk.vec true 3 1 n xs, Blk.ext (XD.bools 32 F), .own [SV.ref 4], Blk.pm 53 [] [], .own [.ptr 6 0, .c (.int .i64 0)], .own [SV.c (Value.slice none 0 0), .c (.int .i64 32)], .own [.ptr 8 0, .ptr 10 0, .v (.int .i64 mo), .v (.int .i64 ho), .c (.int .i64 0), .c (.int .i64 0), .c (.int .i64 0), .c (.int .i64 0), .c (.int .i64 0), .c (.int .i64 0), .c (.int .i64 0)], .own [.ptr 9 0, .c (.int .i64 0)], .own [SV.c (Value.slice none 0 0), .c (.int .i64 33)], .own [SV.c (Value.slice none 0 0), .c (.int .i64 32)], .own [.ptr 12 0, .c (.int .i64 1), .c (.int .i64 (-1)), .c (.int .i64 0)], .own [SV.c (Value.slice none 0 0), .c (.int .i64 8)], .own [.c (.int .i64 0), SV.c (Value.bool false), .c (.int .i64 0), SV.c (Value.slice none 0 0), SV.c (Value.slice none 0 0), SV.c (Value.slice none 0 0), .c (.int .i64 0), .c (.int .i64 0), .c (.int .i64 0), .c (.int .i64 0), .c (.int .i64 0), .c (.int .i64 0), .c (.int .i64 0), .c (.int .i64 0), .c (.int .i64 0), .c (.int .i64 0)], .own [.c (.int .i64 0), SV.c (Value.bool false), .c (.int .i64 0), SV.c (Value.slice none 0 0), SV.ref 15, SV.ref 16, .c (.int .i64 0), .c (.int .i64 0), .c (.int .i64 0), .c (.int .i64 0), .c (.int .i64 0), .v (.int .i64 0), .v (.int .i64 0), .v (.int .i64 0), .v (.int .i64 0), .v (.int .i64 0)], Blk.vec true 3 1 (adN F 16).length (intCells (adN F 16)), Blk.vec true 3 1 (adN (fun i => F (16 + i)) 16).length (intCells (adN (fun i => F (16 + i)) 16))])) (.leaf (SV.agg [.c (.int .i64 0), SV.c (Value.bool false), .c (.int .i64 0), SV.c (Value.slice none 0 0), SV.ref 13, SV.ref 14, .c (.int .i64 0), .c (.int .i64 0), .c (.int .i64 0), .c (.int .i64 0), .c (.int .i64 0), .v (.int .i64 0), .v (.int .i64 0), .v (.int .i64 0), .v (.int .i64 0), .v (.int .i64 0)], [.own [.v (.int .i64 side), SV.ref 1, .v (.int .i64 sv), SV.v (Value.bool mu), .v (.int .i64 mo), .v (.int .i64 ho), .v (.string key), .c (.int .i64 0), .c (.int .i64 0), .c (.int .i64 0), .ptr 2 0, .ptr 3 0, SV.c (Value.slice none 0 0), .ptr 5 0, .ptr 7 0, .ptr 11 0, SV.c (Value.pointer none), SV.c (Value.string (ByteArray.mk (Array.mk []))), SV.c (Value.string (ByteArray.mk (Array.mk []))), SV.c (Value.bool false), .c (.int .i64 0), .c (.int .i64 0), SV.c (Value.slice none 0 0), .c (.int .i64 0), .c (.int .i64 0), SV.c (Value.bool false)], Blk.vec true 3 1 n xs, Blk.ext (XD.bools 32 F), .own [SV.ref 4], Blk.pm 53 [] [], .own [.ptr 6 0, .c (.int .i64 0)], .own [SV.c (Value.slice none 0 0), .c (.int .i64 32)], .own [.ptr 8 0, .ptr 10 0, .v (.int .i64 mo), .v (.int .i64 ho), .c (.int .i64 0), .c (.int .i64 0), .c (.int .i64 0), .c (.int .i64 0), .c (.int .i64 0), .c (.int .i64 0), .c (.int .i64 0)], .own [.ptr 9 0, .c (.int .i64 0)], .own [SV.c (Value.slice none 0 0), .c (.int .i64 33)], .own [SV.c (Value.slice none 0 0), .c (.int .i64 32)], .own [.ptr 12 0, .c (.int .i64 1), .c (.int .i64 (-1)), .c (.int .i64 0)], .own [SV.c (Value.slice none 0 0), .c (.int .i64 8)], Blk.vec true 3 1 (adN F 16).length (intCells (adN F 16)), Blk.vec true 3 1 (adN (fun i => F (16 + i)) 16).length (intCells (adN (fun i => F (16 + i)) 16))]))))))))) := by kernel_rfl
end Go.Proofs.YtbippdeahoehoaaGreat
