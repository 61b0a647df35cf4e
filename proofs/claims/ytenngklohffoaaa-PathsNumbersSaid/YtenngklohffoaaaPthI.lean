/- Paths: how many have joined; what is swept. No conditions but what the sort says. -/
import Derived.Test.YtenngklohffoaaaPthQ
namespace Go.Proofs.Ytenngklohffoaaa
set_option linter.unusedVariables false
set_option linter.unusedSimpArgs false
open Go.RowKit Sym Go.Maps Go.WideMaps Go.Sort Go.Lib Go.Shelf

theorem row_slice {w : World} {base : Nat} {e : TypeId} {sz : Nat} {u : Value} {n : Nat} {xs : List Value} (h : w.ownsRow base e sz u n xs) : ∃ p cap, u = .slice p n cap := by
  rcases h.2 with ⟨rfl, h0⟩ | ⟨g, cap, cur, rfl, _⟩
  · exact ⟨none, 0, by rw [h0]⟩
  · exact ⟨_, _, rfl⟩
set_option maxRecDepth 100000 in
theorem joinedN_any (hS : SortLaw) {w : World} {tb b : Nat} {L : List PRow} (h : FullAt w tb b L) :
    Calls Try.prog 12 #[.pointer (some ⟨tb, 0, none⟩)] w fun e w' => e = .returned (.int .i64 (tripsN L)) ∧ Below w.heap.size w w' := by
  go_enter Try.func12, Try.ntmps12
  go_wp2_with (go_at_call 11; refine (trips_any hS h).mono ?_; rintro e wa ⟨ua, rs, rfl, hO, hrow, hb⟩; have hl : tripsN rs = tripsN L := (hO.1.filter isJ).length_eq; rw [hl] at hrow; obtain ⟨p, cap, rfl⟩ := row_slice hrow)
  go_ret
  exact ⟨rfl, hb⟩
/-- what is left once what is gone is swept -/
def sweepL (L : List PRow) : List PRow := L.filter fun r => !decide (r.st = 4)
def goneN (L : List PRow) : Nat := (L.filter fun r => decide (r.st = 4)).length
end Go.Proofs.Ytenngklohffoaaa
