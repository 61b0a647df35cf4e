/- The statement that what is written is read, from its arguments. No conditions but that the library's table reads as it is laid. -/
import Derived.Test.YtdhdkfnmbdejbaaDoorSgY
import Derived.Test.YtdhdkfnmbdejbaaDoorSgU
import Derived.ChangeMaps5
namespace Go.Proofs.YtdhdkfnmbdejbaaDoor
set_option linter.unusedVariables false
set_option linter.unusedSimpArgs false
open Go.ChangeShapes Go.WideShapes Go.ChangeAt Go.RowKit Go.ChangeMaps

theorem num_u8 {k : Int} (h : (Lit.int IntKind.u8 k).wf = true) : ∃ n : Nat, k = (n : Int) ∧ n < 256 := by
  have : 0 ≤ k ∧ k ≤ 255 := by simp [Lit.wf, IntKind.min, IntKind.max, IntKind.bits, IntKind.signed] at h; omega
  exact ⟨k.toNat, by omega, by omega⟩
theorem num_u32 {k : Int} (h : (Lit.int IntKind.u32 k).wf = true) : ∃ n : Nat, k = (n : Int) ∧ n < 4294967296 := by
  have : 0 ≤ k ∧ k ≤ 4294967295 := by simp [Lit.wf, IntKind.min, IntKind.max, IntKind.bits, IntKind.signed] at h; omega
  exact ⟨k.toNat, by omega, by omega⟩
set_option maxRecDepth 100000 in
theorem open_u32x3 {H : Type} {enc : TypeId × Value → H} {W : World} {base b0 : Nat} {r : Reach} {v : Value} {d : DataW H} {p : List MemPlace} {sp : Nat → Bool} (hv : Value.okWide Tryd.prog W r b0 31 v) (h : DataW.Trod enc Tryd.prog W base sp true 31 v d p) :
    ∃ a b c : Nat, v = .agg #[.int .u32 a, .int .u32 b, .int .u32 c] ∧ a < 4294967296 ∧ b < 4294967296 ∧ c < 4294967296 := by
  simp only [Value.okWide, Tryd.underlying31] at hv
  obtain ⟨cs, rfl, hsz, -⟩ := hv
  rw [show Tryd.prog.cellsOf 31 = 3 from by kernel_rfl] at hsz
  obtain ⟨l⟩ := cs
  obtain ⟨fuel, hf⟩ := h
  have hl : l.length = 3 := by simpa using hsz
  match l, hl with
  | [x, y, z], _ =>
    have hf : DataW.trod enc Tryd.prog W base sp true fuel 31 [x, y, z] = some (d, p) := hf
    obtain ⟨xs, m, -, -, -, hlen, hg⟩ := DataW.trod_array Tryd.underlying31 hf
    have ci : Tryd.prog.cellsOf 30 = 1 := by kernel_rfl
    have one : ∀ i, i < 3 → ∀ c, (([x, y, z] : List Value).drop i).take 1 = [c] → ∃ k : Nat, c = .int .u32 k ∧ k < 4294967296 := by
      intro i hi c hc
      obtain ⟨u, hu⟩ : ∃ u, xs[i]? = some u := ⟨_, List.getElem?_eq_getElem (by rw [hlen]; exact hi)⟩
      rw [← hg i hi, ci, Nat.mul_one, hc] at hu
      obtain ⟨k, e, -, wk⟩ := DataW.trod_int Tryd.underlying30 hu
      simp at e
      obtain ⟨n, rfl, hn⟩ := num_u32 wk
      exact ⟨n, e, hn⟩
    obtain ⟨a, rfl, ha⟩ := one 0 (by decide) x rfl
    obtain ⟨b, rfl, hb⟩ := one 1 (by decide) y rfl
    obtain ⟨c, rfl, hc⟩ := one 2 (by decide) z rfl
    exact ⟨a, b, c, rfl, ha, hb, hc⟩
theorem scriptBack_walk {H : Type} {enc : TypeId × Value → H} {W : World} {base : Nat} {sp : Nat → Bool} {v0 v1 v2 v3 : Value} {d0 d1 d2 d3 : DataW H} {p0 p1 p2 p3 : List MemPlace}
    (a0 : Value.okWide Tryd.prog W .any base 5 v0) (h0 : DataW.Trod enc Tryd.prog W 0 sp true 5 v0 d0 p0)
    (a1 : Value.okWide Tryd.prog W .any base 4 v1) (h1 : DataW.Trod enc Tryd.prog W 0 sp true 4 v1 d1 p1)
    (a2 : Value.okWide Tryd.prog W .any base 31 v2) (h2 : DataW.Trod enc Tryd.prog W 0 sp true 31 v2 d2 p2)
    (a3 : Value.okWide Tryd.prog W .any base 9 v3) (h3 : DataW.Trod enc Tryd.prog W 0 sp true 9 v3 d3 p3) (ht : TabW W) :
    Calls Tryd.prog 4 #[v0, v1, v2, v3] W fun e W' => e = .returned (.bool true) ∧ Below W.heap.size W W' := by
  obtain ⟨k, rfl, -, -, wk⟩ := open_int Tryd.underlying5 a0 h0
  obtain ⟨s, rfl, -, -⟩ := open_bool Tryd.underlying4 a1 h1
  obtain ⟨x, y, z, rfl, hx, hy, hz⟩ := open_u32x3 a2 h2
  obtain ⟨b, rfl, -, -, -⟩ := open_string Tryd.underlying9 a3 h3
  obtain ⟨n, rfl, hn⟩ := num_u8 wk
  exact back_any n x y z hn hx hy hz s b ht
theorem laid_same : Rows.scriptBackRow.laid = Rows.scriptFeedsRow.laid := by kernel_rfl
theorem laid_tabB {W : World} (h : laidMetH Tryd.prog Rows.scriptBackRow.laid W) : TabW W := by
  rw [laid_same] at h
  exact laid_tab h
theorem door_metB (os : Os) (args : Array Value) : laidMetH Tryd.prog Rows.scriptBackRow.laid ((World.doorLaid Tryd.prog 24 os).forCall (fun _ _ => 0) ⟨#[], args, []⟩).memory := by
  rw [laid_same]
  exact door_met os args
end Go.Proofs.YtdhdkfnmbdejbaaDoor
