/- Paths: numbers of places, and how two paths are told apart, where the world is told. No conditions. -/
import Derived.Test.YtenngklohffoaaaPthX
import Derived.Shelf.SlSortCmp.QuietGrown
import Derived.Lib.Small
import Derived.Maps.RangeWalk
import Derived.Sort.OwnSorted
import Derived.Deep.QuietTactic
import Derived.BigQuiet
import Derived.StillTailTactics
namespace Go.Proofs.Ytenngklohffoaaa
set_option linter.unusedVariables false
set_option linter.unusedSimpArgs false
open Go.RowKit Sym Go.Maps Go.WideMaps Go.Sort Go.Lib

theorem held_at (n : Int) (w : World) : Calls Try.prog 26 #[.int .i64 n] w fun e w' => e = .returned (.int .i64 (clampI 15 n)) ∧ w = w' := by
  go_enter Try.func26, Try.ntmps26
  go_wp2
  all_goals (go_ret; refine ⟨ret_i ?_, rfl⟩; unfold clampI; (repeat' split) <;> omega)
def idN (x y : Int) : Int := 16 * clampI 15 x + clampI 15 y
theorem id_at (x y : Int) (w : World) : Calls Try.prog 14 #[.agg #[.int .i64 x, .int .i64 y]] w fun e w' => e = .returned (.int .i64 (idN x y)) ∧ ∃ q os, w' = grow (w.drewN q) os := by
  have hA := clampI_bd 15 x (by omega)
  have hB := clampI_bd 15 y (by omega)
  have w1 : IntKind.i64.wrap (16 * clampI 15 x) = 16 * clampI 15 x := w64 _ (by omega) (by omega)
  have w2 : IntKind.i64.wrap (16 * clampI 15 x + clampI 15 y) = 16 * clampI 15 x + clampI 15 y := w64 _ (by omega) (by omega)
  have c0 : (w.alloc (Obj.cells #[.int .i64 x, .int .i64 y] 23)).cell? ⟨w.heap.size, 0, none⟩ = some (.int .i64 x) := by simp
  have c1 : (w.alloc (Obj.cells #[.int .i64 x, .int .i64 y] 23)).cell? ⟨w.heap.size, 1, none⟩ = some (.int .i64 y) := by simp
  go_enter Try.func14, Try.ntmps14
  go_wp2
  go_quiet (first | (go_at_call 26; first | exact quiet_left (held_at _ _) | exact quiet_add_left (held_at _ _)))
  go_wp2
  go_ret
  exact ⟨rfl, nq, #[Obj.cells #[.int .i64 x, .int .i64 y] 23], rfl⟩
theorem below_grow {w : World} (q : Nat) (os : Array Obj) : Below w.heap.size w (grow (w.drewN q) os) :=
  ⟨rfl, rfl, rfl, by simp [grow, World.drewN], fun k hk => by
    show (grow (w.drewN q) os).heap[k]? = _
    simp only [grow]
    rw [Array.getElem?_append_left (by exact hk)]; rfl⟩
theorem id_below (x y : Int) (w : World) : Calls Try.prog 14 #[.agg #[.int .i64 x, .int .i64 y]] w fun e w' => e = .returned (.int .i64 (idN x y)) ∧ Below w.heap.size w w' :=
  (id_at x y w).mono fun _ _ ⟨he, q, os, h⟩ => ⟨he, h ▸ below_grow q os⟩
/-! the place of a number -/
set_option maxRecDepth 100000 in
theorem plN_run (n : Int) : runV Try.prog (onlyS Try.prog noS) noL Try.f15 [.int .i64 n] = .leaf (Value.agg (Array.mk [Value.int IntKind.i64 (IntKind.i64.wrap ((if (255 : Int) < if (0 : Int) > n then (0 : Int) else n then (255 : Int) else if (0 : Int) > n then (0 : Int) else n).tdiv (16 : Int))), Value.int IntKind.i64 ((if (255 : Int) < if (0 : Int) > n then (0 : Int) else n then (255 : Int) else if (0 : Int) > n then (0 : Int) else n).tmod (16 : Int))])) := by kernel_rfl
theorem place_at (n : Int) (w : World) : Calls Try.prog 15 #[.int .i64 n] w fun e w' => e = .returned (.agg #[.int .i64 ((clampI 255 n) / 16), .int .i64 ((clampI 255 n) % 16)]) ∧ Below w.heap.size w w' := by
  refine calls_runV (onlyS_ok noS_ok) follows Try.func15 (by kernel_rfl) (by kernel_rfl) (noloops (by kernel_rfl)) (plN_run n) ?_ w
  have hN := clampI_bd 255 n (by omega)
  rw [clamp255 n]
  generalize clampI 255 n = N at *
  have d1 : N.tdiv 16 = N / 16 := tdiv16 _ (by omega)
  have d2 : N.tmod 16 = N % 16 := tmod16 _ (by omega)
  have w3 : IntKind.i64.wrap (N / 16) = N / 16 := w64 _ (by omega) (by omega)
  rw [d1, d2, w3]
  exact t_leaf rfl
/-! a region that reads and calls what only makes memory -/
structure BelowBy (W : World) where
  w : World
  h : Below W.heap.size W w
instance (W : World) : Inhabited (BelowBy W) := ⟨⟨W, Below.refl _ _⟩⟩
theorem wp_region_below {P : Program} {id : Nat} {Q : Exit → Act → World → Prop} {a : Act} {w : World} {l : List Oper} (hm : P.follows .mixedOrders = true) (hB : Region.lexB .any l.toArray = true)
    (h : wpQuiet P l.toArray (fun w' => ∃ p : BelowBy w, w' = p.w) (fun a' => ∀ w', (∃ p : BelowBy w, w' = p.w) → Q .normal a' w') l a) : (Code.region id l.toArray true).wp P Q a w :=
  wp_region_quiet (C := fun w' => ∃ p : BelowBy w, w' = p.w) hm hB ⟨⟨w.drew, (Below.refl _ _).drew⟩, rfl⟩ (by simpa using h)
theorem below_left {P : Program} {f : FuncId} {args : Array Value} {W : World} {p : BelowBy W} {v : Value}
    (h : Calls P f args p.w fun e w' => e = .returned v ∧ Below p.w.heap.size p.w w') : Calls P f args p.w fun e w'' => e = .returned v ∧ ∃ q : BelowBy W, w'' = q.w :=
  h.mono fun _ w' ⟨he, hb⟩ => ⟨he, ⟨w', p.h.trans (hb.mono p.h.size)⟩, rfl⟩
theorem cell_by {W : World} {a : Addr} {v : Value} (h : W.cell? a = some v) (p : BelowBy W) : p.w.cell? a = some v := (p.h.cell (p := a) (lt_of_cell h)).trans h
/-! two paths -/
theorem compare_at (x y : Int) (w : World) : Calls Try.prog 22 #[.int .i64 x, .int .i64 y] w fun e w' => e = .returned (.int .i64 (compareInt x y)) ∧ w' = w := by
  have hn : ∀ (x : Int) (w : World), Calls Try.prog 36 #[.int .i64 x] w fun e w' => e = .returned (.bool false) ∧ w' = w := by
    intro x w
    go_enter Try.func36, Try.ntmps36
    go_wp2
    go_ret
    simp
  go_enter Try.func22, Try.ntmps22
  go_wp2_with (go_at_call 36; refine (hn _ _).mono ?_; rintro e w' ⟨rfl, rfl⟩)
  all_goals (go_ret; refine ⟨?_, rfl⟩; refine ret_i ?_; unfold compareInt; simp_all; try (split <;> first | omega | (split <;> omega)))
set_option maxRecDepth 100000 in
theorem all_order {p p' : Nat} {x y x' y' : Int} {W : World} (h0 : W.cell? ⟨p, 0, none⟩ = some (.int .i64 x)) (h1 : W.cell? ⟨p, 1, none⟩ = some (.int .i64 y)) (h0' : W.cell? ⟨p', 0, none⟩ = some (.int .i64 x')) (h1' : W.cell? ⟨p', 1, none⟩ = some (.int .i64 y')) :
    Calls Try.prog 21 #[.pointer (some ⟨p, 0, none⟩), .pointer (some ⟨p', 0, none⟩)] W fun e w' => e = .returned (.int .i64 (compareInt (idN x y) (idN x' y'))) ∧ ∃ q os, w' = grow (W.drewN q) os := by
  have mixed : Try.prog.follows .mixedOrders = true := by kernel_rfl
  have g0 := cell_grown (lt_of_cell h0) h0
  have g1 := cell_grown (lt_of_cell h1) h1
  have g0' := cell_grown (lt_of_cell h0') h0'
  have g1' := cell_grown (lt_of_cell h1') h1'
  go_enter Try.func21, Try.ntmps21
  go_wp2
  go_quiet_grown (first | (go_at_call 14; exact Calls.grown_of (id_at _ _ _)) | (go_at_call 22; exact Calls.grown_of ((compare_at _ _ _).mono fun _ _ ⟨he, hw⟩ => ⟨he, 0, #[], by rw [hw, grow_empty]; rfl⟩)))
  go_wp2
  go_ret
  exact ⟨rfl, nq, osq, rfl⟩
end Go.Proofs.Ytenngklohffoaaa
