/- The argument of the law BoundReckons, opened. -/
import Derived.Test.YtnhfhnphmjhamaaBound
namespace Go.Proofs.Ytnhfhnphmjhamaa
open Go.RowKit Go.ChangeShapes Go.WideShapes

set_option maxRecDepth 100000 in
theorem list16 (l : List Value) (h : l.length = 16) : ∃ c0 c1 c2 c3 c4 c5 c6 c7 c8 c9 c10 c11 c12 c13 c14 c15 : Value, l = [c0, c1, c2, c3, c4, c5, c6, c7, c8, c9, c10, c11, c12, c13, c14, c15] := by
  match l, h with
  | [c0, c1, c2, c3, c4, c5, c6, c7, c8, c9, c10, c11, c12, c13, c14, c15], _ => exact ⟨_, _, _, _, _, _, _, _, _, _, _, _, _, _, _, _, rfl⟩
set_option maxRecDepth 100000 in
theorem boundReckons_walk {H : Type} {enc : TypeId × Value → H} {base : Nat} {v0 : Value} {d0 : DataW H} {p0 : List MemPlace} {W : World} (hv0 : Value.okWide Try.prog W .any base 27 v0)
    (h0 : DataW.Trod enc Try.prog W 0 (fun _ => true) true 27 v0 d0 p0) : Calls Try.prog 3 #[v0] W fun e w' => e = .returned (.bool true) ∧ Below W.heap.size W w' := by
  obtain ⟨cs, rfl, hsz⟩ := okWide_struct Try.underlying27 hv0
  have hC : Try.prog.cellsOf 27 = 16 := by kernel_rfl
  rw [hC] at hsz
  obtain ⟨l⟩ := cs
  obtain ⟨c0, c1, c2, c3, c4, c5, c6, c7, c8, c9, c10, c11, c12, c13, c14, c15, rfl⟩ := list16 l (by simpa using hsz)
  obtain ⟨fuel, hf⟩ := h0
  obtain ⟨xs, n, _, _, _, hlen, hg⟩ := DataW.trod_struct Try.underlying27 hf
  obtain ⟨y0, h1⟩ : ∃ y, xs[0]? = some y := by cases xs <;> simp_all
  rw [← hg 0 _ rfl] at h1
  have hC3 : Try.prog.cellsOf 3 = 1 := by kernel_rfl
  simp [Value.cells, hC3] at h1
  obtain ⟨s, e, _, _⟩ := DataW.trod_int Try.underlying3 h1
  simp at e
  subst e
  exact reckons_any s _ _ _ _ _ _ _ _ _ _ _ _ _ _ _ W
end Go.Proofs.Ytnhfhnphmjhamaa
