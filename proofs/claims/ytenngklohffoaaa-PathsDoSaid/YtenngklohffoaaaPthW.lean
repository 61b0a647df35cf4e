/- Paths: the path of a place. No conditions. -/
import Derived.Test.YtenngklohffoaaaPthR
namespace Go.Proofs.Ytenngklohffoaaa
set_option linter.unusedVariables false
set_option linter.unusedSimpArgs false
open Go.RowKit Sym Go.Maps Go.WideMaps

set_option maxRecDepth 100000 in
theorem find_at {b tb n : Nat} {D : DataW Value} {l : Lit} {x y : Int} {w : World} (hk : kPl Try.prog x y = some l) (htb : w.cell? ⟨tb, 0, none⟩ = some (.map (some b))) (hown : w.ownsMap Try.prog 23 R0 b n D) :
    Calls Try.prog 7 #[.pointer (some ⟨tb, 0, none⟩), .agg #[.int .i64 x, .int .i64 y]] w fun e w' => e = .returned (heldV (D.atKey l (.held (.pointer none)))) ∧ Below w.heap.size w w' := by
  have hsl : tb < w.heap.size := lt_of_cell htb
  have hown1 := hown.alloc (Obj.cells #[.int .i64 x, .int .i64 y] 23)
  have hbel : Below w.heap.size w (w.alloc (Obj.cells #[.int .i64 x, .int .i64 y] 23)) := (Below.refl _ _).alloc (Nat.le_refl _) _
  have htb1 := (hbel.cell (p := ⟨tb, 0, none⟩) hsl).trans htb
  have c0 : (w.alloc (Obj.cells #[.int .i64 x, .int .i64 y] 23)).cell? ⟨w.heap.size, 0, none⟩ = some (.int .i64 x) := by simp
  have c1 : (w.alloc (Obj.cells #[.int .i64 x, .int .i64 y] 23)).cell? ⟨w.heap.size, 1, none⟩ = some (.int .i64 y) := by simp
  go_enter Try.func7, Try.ntmps7
  go_wp2
  generalize w.alloc (Obj.cells #[.int .i64 x, .int .i64 y] 23) = W at *
  have hlook := fun q => pm_look (w := W.drewN q) (n := n) (b := b) (D := D) hown1 hk
  go_quiet (fail)
  go_wp2
  go_ret
  exact ⟨rfl, below_drewN hbel _⟩
end Go.Proofs.Ytenngklohffoaaa
