/- The statement on parsing and writing, from its arguments. No conditions but that the library's table reads as it is laid. -/
import Derived.Test.YtdhdkfnmbdejbaaDoorSgXb
import Derived.Test.YtdhdkfnmbdejbaaDoorSgU
import Derived.ChangeMaps5
namespace Go.Proofs.YtdhdkfnmbdejbaaDoor
set_option linter.unusedVariables false
set_option linter.unusedSimpArgs false
open Go.ChangeShapes Go.WideShapes Go.ChangeAt Go.RowKit Go.ChangeMaps

theorem num_i64 {k : Int} (h : (Lit.int IntKind.i64 k).wf = true) : In64 k := by
  have : -9223372036854775808 ≤ k ∧ k ≤ 9223372036854775807 := by simp [Lit.wf, IntKind.min, IntKind.max, IntKind.bits, IntKind.signed] at h; omega
  exact this
set_option maxRecDepth 100000 in
theorem scriptParses_walk {H : Type} {enc : TypeId × Value → H} {W : World} {base : Nat} {sp : Nat → Bool} {v0 v1 : Value} {d0 d1 : DataW H} {p0 p1 : List MemPlace}
    (a0 : Value.okWide Tryd.prog W .any base 9 v0) (h0 : DataW.Trod enc Tryd.prog W 0 sp true 9 v0 d0 p0)
    (a1 : Value.okWide Tryd.prog W .any base 23 v1) (h1 : DataW.Trod enc Tryd.prog W 0 sp true 23 v1 d1 p1) (ht : TabW W) :
    Calls Tryd.prog 3 #[v0, v1] W fun e W' => e = .returned (.bool true) ∧ Below W.heap.size W W' := by
  obtain ⟨b, rfl, -, -, -⟩ := open_string Tryd.underlying9 a0 h0
  obtain ⟨cs, rfl, hsz⟩ := okWide_struct Tryd.underlying23 a1
  rw [show Tryd.prog.cellsOf 23 = 6 from by kernel_rfl] at hsz
  obtain ⟨l⟩ := cs
  obtain ⟨kk_c, ss_c, nx_c, ny_c, nz_c, dd_c, rfl⟩ := list6 l (by simpa using hsz)
  obtain ⟨fuel, hf⟩ := h1
  obtain ⟨xs, n, _, _, _, hlen, hg⟩ := DataW.trod_struct Tryd.underlying23 hf
  obtain ⟨y, hy⟩ : ∃ y, xs[0]? = some y := ⟨_, List.getElem?_eq_getElem (by rw [hlen]; decide)⟩
  rw [← hg 0 _ rfl] at hy
  simp [Value.cells, show Tryd.prog.cellsOf 3 = 1 from by kernel_rfl] at hy
  obtain ⟨kk, e, _, w_kk⟩ := DataW.trod_int Tryd.underlying3 hy
  simp at e
  subst e
  clear hy
  obtain ⟨y, hy⟩ : ∃ y, xs[1]? = some y := ⟨_, List.getElem?_eq_getElem (by rw [hlen]; decide)⟩
  rw [← hg 1 _ rfl] at hy
  simp [Value.cells, show Tryd.prog.cellsOf 3 = 1 from by kernel_rfl] at hy
  obtain ⟨ss, e, _, w_ss⟩ := DataW.trod_int Tryd.underlying3 hy
  simp at e
  subst e
  clear hy
  obtain ⟨y, hy⟩ : ∃ y, xs[2]? = some y := ⟨_, List.getElem?_eq_getElem (by rw [hlen]; decide)⟩
  rw [← hg 2 _ rfl] at hy
  simp [Value.cells, show Tryd.prog.cellsOf 3 = 1 from by kernel_rfl] at hy
  obtain ⟨nx, e, _, w_nx⟩ := DataW.trod_int Tryd.underlying3 hy
  simp at e
  subst e
  clear hy
  obtain ⟨y, hy⟩ : ∃ y, xs[3]? = some y := ⟨_, List.getElem?_eq_getElem (by rw [hlen]; decide)⟩
  rw [← hg 3 _ rfl] at hy
  simp [Value.cells, show Tryd.prog.cellsOf 3 = 1 from by kernel_rfl] at hy
  obtain ⟨ny, e, _, w_ny⟩ := DataW.trod_int Tryd.underlying3 hy
  simp at e
  subst e
  clear hy
  obtain ⟨y, hy⟩ : ∃ y, xs[4]? = some y := ⟨_, List.getElem?_eq_getElem (by rw [hlen]; decide)⟩
  rw [← hg 4 _ rfl] at hy
  simp [Value.cells, show Tryd.prog.cellsOf 3 = 1 from by kernel_rfl] at hy
  obtain ⟨nz, e, _, w_nz⟩ := DataW.trod_int Tryd.underlying3 hy
  simp at e
  subst e
  clear hy
  obtain ⟨y, hy⟩ : ∃ y, xs[5]? = some y := ⟨_, List.getElem?_eq_getElem (by rw [hlen]; decide)⟩
  rw [← hg 5 _ rfl] at hy
  simp [Value.cells, show Tryd.prog.cellsOf 9 = 1 from by kernel_rfl] at hy
  obtain ⟨dd, e, _, w_dd⟩ := DataW.trod_string Tryd.underlying9 hy
  simp at e
  subst e
  clear hy
  clear hg hlen hf hsz
  exact parses_any b ⟨kk, ss, nx, ny, nz, dd⟩ (num_i64 w_nx) (num_i64 w_ny) (num_i64 w_nz) ht
theorem laid_sameP : Rows.scriptParsesRow.laid = Rows.scriptFeedsRow.laid := by kernel_rfl
theorem laid_tabP {W : World} (h : laidMetH Tryd.prog Rows.scriptParsesRow.laid W) : TabW W := by
  rw [laid_sameP] at h
  exact laid_tab h
theorem door_metP (os : Os) (args : Array Value) : laidMetH Tryd.prog Rows.scriptParsesRow.laid ((World.doorLaid Tryd.prog 24 os).forCall (fun _ _ => 0) ⟨#[], args, []⟩).memory := by
  rw [laid_sameP]
  exact door_met os args
end Go.Proofs.YtdhdkfnmbdejbaaDoor
