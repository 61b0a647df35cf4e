/- Paths: whatever comes and goes: the law's walk, from its argument. No conditions. -/
import Derived.Test.YtenngklohffoaaaPth14
import Derived.Test.YtenngklohffoaaaStrs
import Derived.ShutString
namespace Go.Proofs.Ytenngklohffoaaa
set_option linter.unusedVariables false
set_option linter.unusedSimpArgs false
open Go.RowKit Sym Go.ChangeShapes Go.WideShapes Go.ChangeMaps

theorem intV_in {x : Value} {z : Int} (h : x = .int .i64 z) : x = .int .i64 (intV x) := by rw [h]; rfl
set_option maxRecDepth 100000 in
theorem open_acts {H : Type} {enc : TypeId × Value → H} {W : World} {base fuel : Nat} {sp : Nat → Bool} {f : Nat → Value} {x : DataW H × List MemPlace} (hx : DataW.trod enc Try.prog W base sp true fuel 50 ((List.range 6).map f) = some x) :
    ∃ o : OpR, f 0 = .int .i64 o.kd ∧ f 1 = .int .i64 o.x ∧ f 2 = .int .i64 o.y ∧ f 3 = .int .i64 o.st ∧ f 4 = .int .i64 o.pr ∧ f 5 = .int .i64 o.se ∧ wf64 o.x ∧ wf64 o.y := by
  obtain ⟨xs, n, _, _, _, hlen, hg⟩ := DataW.trod_struct Try.underlying50 hx
  have ci : Try.prog.cellsOf 3 = 1 := by kernel_rfl
  have cp : Try.prog.cellsOf 23 = 2 := by kernel_rfl
  have int_at : ∀ (n : Nat) (v : Value) (y : DataW H × List MemPlace), DataW.trod enc Try.prog W base sp true n 3 [v] = some y → ∃ z, v = .int .i64 z ∧ wf64 z := by
    intro n v y hy
    obtain ⟨z, e, _, hw⟩ := DataW.trod_int Try.underlying3 hy
    simp at e
    refine ⟨z, e, ?_⟩
    simp only [Lit.wf, Bool.and_eq_true, decide_eq_true_eq] at hw
    exact ⟨hw.1, hw.2⟩
  obtain ⟨u0, hu0⟩ : ∃ u, xs[0]? = some u := ⟨_, List.getElem?_eq_getElem (by rw [hlen]; decide)⟩
  obtain ⟨u1, hu1⟩ : ∃ u, xs[1]? = some u := ⟨_, List.getElem?_eq_getElem (by rw [hlen]; decide)⟩
  obtain ⟨u2, hu2⟩ : ∃ u, xs[2]? = some u := ⟨_, List.getElem?_eq_getElem (by rw [hlen]; decide)⟩
  obtain ⟨u3, hu3⟩ : ∃ u, xs[3]? = some u := ⟨_, List.getElem?_eq_getElem (by rw [hlen]; decide)⟩
  obtain ⟨u4, hu4⟩ : ∃ u, xs[4]? = some u := ⟨_, List.getElem?_eq_getElem (by rw [hlen]; decide)⟩
  rw [← hg 0 _ rfl] at hu0
  rw [← hg 1 _ rfl] at hu1
  rw [← hg 2 _ rfl] at hu2
  rw [← hg 3 _ rfl] at hu3
  rw [← hg 4 _ rfl] at hu4
  simp [List.range_succ, ci, cp] at hu0 hu1 hu2 hu3 hu4
  obtain ⟨k, e0, -⟩ := int_at _ _ _ hu0
  obtain ⟨st, e3, -⟩ := int_at _ _ _ hu2
  obtain ⟨pr, e4, -⟩ := int_at _ _ _ hu3
  obtain ⟨se, e5, -⟩ := int_at _ _ _ hu4
  obtain ⟨ys, n', _, _, _, hlen', hg'⟩ := DataW.trod_struct Try.underlying23 hu1
  obtain ⟨w0, hw0⟩ : ∃ u, ys[0]? = some u := ⟨_, List.getElem?_eq_getElem (by rw [hlen']; decide)⟩
  obtain ⟨w1, hw1⟩ : ∃ u, ys[1]? = some u := ⟨_, List.getElem?_eq_getElem (by rw [hlen']; decide)⟩
  rw [← hg' 0 _ rfl] at hw0
  rw [← hg' 1 _ rfl] at hw1
  simp [List.range_succ, ci] at hw0 hw1
  obtain ⟨x, e1, wx⟩ := int_at _ _ _ hw0
  obtain ⟨y, e2, wy⟩ := int_at _ _ _ hw1
  exact ⟨⟨k, x, y, st, pr, se⟩, e0, e1, e2, e3, e4, e5, wx, wy⟩
set_option maxRecDepth 100000 in
theorem pathsDo_walk {H : Type} {enc : TypeId × Value → H} {base : Nat} {v0 : Value} {d0 : DataW H} {p0 : List MemPlace} {W : World} (hv0 : Value.okWide Try.prog W .any base 47 v0)
    (h0 : DataW.Trod enc Try.prog W 0 (fun _ => true) true 47 v0 d0 p0) :
    Calls Try.prog 4 #[v0] W fun e W' => e = .returned (.bool true) ∧ Below W.heap.size W W' := by
  obtain ⟨len, f, h1, h2, h3⟩ := open_rows 6 (by kernel_rfl) (by omega) Try.underlying47 hv0 h0
  rcases h1 with ⟨rfl, rfl⟩ | ⟨a, cap, rfl, hl, hm, hc⟩
  · exact pathsDo_any (p := none) (n := 0) (cap := 0) (fun i hi => absurd hi (Nat.not_lt_zero _)) h2
  · refine pathsDo_any (p := some a) (n := len) (cap := cap) (fun i hi => ?_) h2
    obtain ⟨fuel, x, hx⟩ := h3 i hi
    obtain ⟨o, e0, e1, e2, e3, e4, e5, wx, wy⟩ := open_acts hx
    obtain ⟨hsp, hlt, hj⟩ := hc i hi
    have hbk : (a.add (i * 6)).block = a.block := addr_add_block a _
    have hof : (a.add (i * 6)).off = a.off + i * 6 := by unfold Addr.add; split <;> simp_all
    have ha : a.add (i * 6) = ⟨a.block, a.off + i * 6 + 0, none⟩ := by
      obtain ⟨bb, oo, ss⟩ := a
      simp only at hsp
      subst hsp
      unfold Addr.add
      by_cases h0 : i * 6 = 0 <;> simp [h0]
    refine ⟨a, o, rfl, ⟨by rw [ha, ← e0]; exact hj 0 (by omega), ?_, ?_, ?_, ?_, ?_⟩, wx, wy⟩
    · rw [hbk, hof, ← e1]; exact hj 1 (by omega)
    · rw [hbk, hof, ← e2]; exact hj 2 (by omega)
    · rw [hbk, hof, ← e3]; exact hj 3 (by omega)
    · rw [hbk, hof, ← e4]; exact hj 4 (by omega)
    · rw [hbk, hof, ← e5]; exact hj 5 (by omega)
end Go.Proofs.Ytenngklohffoaaa
