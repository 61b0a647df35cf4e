/- Never back: the argument of the law SpanForth, opened. -/
import Derived.Test.YtnhfhnphmjhamaaSpan3
namespace Go.Proofs.Ytnhfhnphmjhamaa
set_option linter.unusedVariables false
set_option linter.unusedSimpArgs false
open Go.RowKit Go.ChangeShapes Go.WideShapes

def asBool : Value → Bool | .bool b => b | _ => false
def asInt : Value → Int | .int _ n => n | _ => 0
set_option maxRecDepth 100000 in
theorem spanForth_walk {H : Type} {enc : TypeId × Value → H} {base : Nat} {v0 v1 v2 : Value} {d0 d1 d2 : DataW H} {p0 p1 p2 : List MemPlace} {W : World} (hv0 : Value.okWide Try.prog W .any base 3 v0)
    (h0 : DataW.Trod enc Try.prog W 0 (fun _ => true) true 3 v0 d0 p0) (hv1 : Value.okWide Try.prog W .any base 3 v1) (h1 : DataW.Trod enc Try.prog W 0 (fun _ => true) true 3 v1 d1 p1)
    (hv2 : Value.okWide Try.prog W .any base 39 v2) (h2 : DataW.Trod enc Try.prog W 0 (fun _ => true) true 39 v2 d2 p2) :
    Calls Try.prog 5 #[v0, v1, v2] W fun e w' => e = .returned (.bool true) ∧ Below W.heap.size W w' := by
  obtain ⟨iss, rfl, rfl, rfl, w0⟩ := open_int Try.underlying3 hv0 h0
  obtain ⟨isr, rfl, rfl, rfl, w1⟩ := open_int Try.underlying3 hv1 h1
  obtain ⟨len, f, hr, hlm, hf⟩ := open_rows 4 (by kernel_rfl) (by decide) Try.underlying39 hv2 h2
  refine spanForth_any iss isr v2 len f (fun i => asBool (f i 0)) (fun i => asInt (f i 1)) (fun i => asInt (f i 2)) (fun i => asInt (f i 3)) W hlm hr fun i hi => ?_
  obtain ⟨fuel, x, hx⟩ := hf i hi
  obtain ⟨xs, n, _, _, _, hlen, hg⟩ := DataW.trod_struct Try.underlying41 hx
  have hC : Try.prog.cellsOf 3 = 1 := by kernel_rfl
  have hC' : Try.prog.cellsOf 4 = 1 := by kernel_rfl
  obtain ⟨y0, e0⟩ : ∃ y, xs[0]? = some y := ⟨_, List.getElem?_eq_getElem (by rw [hlen]; decide)⟩
  obtain ⟨y1, e1⟩ : ∃ y, xs[1]? = some y := ⟨_, List.getElem?_eq_getElem (by rw [hlen]; decide)⟩
  obtain ⟨y2, e2⟩ : ∃ y, xs[2]? = some y := ⟨_, List.getElem?_eq_getElem (by rw [hlen]; decide)⟩
  obtain ⟨y3, e3⟩ : ∃ y, xs[3]? = some y := ⟨_, List.getElem?_eq_getElem (by rw [hlen]; decide)⟩
  rw [← hg 0 _ rfl] at e0
  rw [← hg 1 _ rfl] at e1
  rw [← hg 2 _ rfl] at e2
  rw [← hg 3 _ rfl] at e3
  simp [List.range_succ, hC, hC'] at e0 e1 e2 e3
  obtain ⟨b, q0, _⟩ := DataW.trod_bool Try.underlying4 e0
  obtain ⟨n1, q1, _⟩ := DataW.trod_int Try.underlying3 e1
  obtain ⟨n2, q2, _⟩ := DataW.trod_int Try.underlying3 e2
  obtain ⟨n3, q3, _⟩ := DataW.trod_int Try.underlying3 e3
  simp at q0 q1 q2 q3
  simp [q0, q1, q2, q3, asBool, asInt]
end Go.Proofs.Ytnhfhnphmjhamaa
