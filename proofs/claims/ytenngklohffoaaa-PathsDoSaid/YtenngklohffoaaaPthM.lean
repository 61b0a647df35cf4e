/- Paths: maps from places to what is told by a pointer. No conditions. -/
import Derived.Test.YtenngklohffoaaaPthB
import Derived.Maps.Own
import Derived.Maps.OwnOps
import Derived.DeepKeys4
namespace Go.Proofs.Ytenngklohffoaaa
set_option linter.unusedVariables false
set_option linter.unusedSimpArgs false
open Go.RowKit Sym Go.Maps Go.WideMaps

theorem lawPlace : KeyLaw Try.prog 23 := deep_law_laid (show laidOutB Try.prog = true by kernel_rfl) (m := 2) (by omega) (of_decide_eq_true (by kernel_rfl)) (by kernel_rfl) (by kernel_rfl)
theorem keyedPlace : Keyed Try.prog 23 := Keyed.of_law lawPlace
/-- an element as it stands -/
def R0 : Value → Option (DataW Value × List MemPlace) := fun v => some (.held v, [])
/-- what stands there; none: nil -/
def heldV : DataW Value → Value
  | .held v => v
  | _ => .pointer none
def kPl (P : Program) (a b : Int) : Option Lit := keyOf P 23 (.agg #[.int .i64 a, .int .i64 b])
theorem k23 : ∃ l, kPl Try.prog 2 3 = some l := Option.isSome_iff_exists.1 (show (kPl Try.prog 2 3).isSome = true by kernel_rfl)
theorem pm_look {b n : Nat} {D : DataW Value} {w : World} (h : w.ownsMap Try.prog 23 R0 b n D) {x y : Int} {l : Lit} (hk : kPl Try.prog x y = some l) :
    (Instr.lookup 62 (.map (some b)) (.agg #[.int .i64 x, .int .i64 y]) false).run Try.prog w = .ok (heldV (D.atKey l (.held (.pointer none)))) w := by
  obtain ⟨v, ps, hrun, hv⟩ := h.lookup keyedPlace (t := 62) (e := 28) (by kernel_rfl) (z := .pointer none) (by kernel_rfl) (zd := .held (.pointer none)) (zp := []) rfl hk
  unfold R0 at hv
  simp only [Option.some.injEq, Prod.mk.injEq] at hv
  rw [hrun, ← hv.1]; rfl
theorem pm_put {b n : Nat} {D : DataW Value} {w : World} (h : w.ownsMap Try.prog 23 R0 b n D) (hn : n < maxLen) {x y : Int} {l : Lit} (hk : kPl Try.prog x y = some l) (v : Value) :
    ∃ w', (Instr.mapUpdate 62 (.map (some b)) (.agg #[.int .i64 x, .int .i64 y]) v).run Try.prog w = .ok () w' ∧ w'.ownsMap Try.prog 23 R0 b (n + 1) (D.put l (.held v)) ∧ w.grownBy w' (some b) :=
  h.update keyedPlace (e := 28) (by kernel_rfl) hn hk rfl
end Go.Proofs.Ytenngklohffoaaa
