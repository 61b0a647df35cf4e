/- The statement on feeds, from its arguments. No conditions but that the library's table reads as it is laid. -/
import Derived.Test.YtdhdkfnmbdejbaaDoorSgU
namespace Go.Proofs.YtdhdkfnmbdejbaaDoor
set_option linter.unusedVariables false
set_option linter.unusedSimpArgs false
open Go.ChangeShapes Go.WideShapes Go.ChangeAt Go.RowKit

theorem scriptFeeds_walk {H : Type} {enc : TypeId × Value → H} {W : World} {base : Nat} {sp : Nat → Bool} {v0 v1 v2 : Value} {d0 d1 d2 : DataW H} {p0 p1 p2 : List MemPlace}
    (a0 : Value.okWide Tryd.prog W .any base 3 v0) (h0 : DataW.Trod enc Tryd.prog W 0 sp true 3 v0 d0 p0)
    (a1 : Value.okWide Tryd.prog W .any base 32 v1) (h1 : DataW.Trod enc Tryd.prog W 0 sp true 32 v1 d1 p1)
    (a2 : Value.okWide Tryd.prog W .any base 3 v2) (h2 : DataW.Trod enc Tryd.prog W 0 sp true 3 v2 d2 p2) (ht : TabW W) :
    Calls Tryd.prog 5 #[v0, v1, v2] W fun e W' => e = .returned (.bool true) ∧ Below W.heap.size W W' := by
  obtain ⟨n0, rfl, -, -, -⟩ := open_int Tryd.underlying3 a0 h0
  obtain ⟨n2, rfl, -, -, -⟩ := open_int Tryd.underlying3 a2 h2
  obtain ⟨ls, hT⟩ := open_txt a1 h1
  exact feeds_any n0 n2 hT ht
end Go.Proofs.YtdhdkfnmbdejbaaDoor
