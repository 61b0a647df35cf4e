/- The card's premise gives the library's table; arguments. No conditions. -/
import Derived.Test.YtdhdkfnmbdejbaaDoorSgT
import Derived.Test.YtdhdkfnmbdejbaaDoorTie
import Derived.LaidMore
import Derived.Lib.LaidTab
import Derived.Stop.LaidErr
import Derived.SliceStrings
namespace Go.Proofs.YtdhdkfnmbdejbaaDoor
set_option linter.unusedVariables false
set_option linter.unusedSimpArgs false
open Go.ChangeShapes Go.WideShapes Go.ChangeAt Go.RowKit

theorem gTab : Tryd.prog.globalNamed "internal/strconv.uint64pow10" = some 0 := by kernel_rfl
theorem tTab : (Tryd.prog.globals[0]?).map (·.type) = some 97 := by kernel_rfl
theorem uTab : Tryd.prog.underlying 97 = some (.array 20 87) := by kernel_rfl
theorem laid_tab {W : World} (h : laidMetH Tryd.prog Rows.scriptFeedsRow.laid W) : TabW W := by
  rw [MakeChecks.laidMetH_plain _ _ _ (by kernel_rfl)] at h
  have h2 : laidMet Tryd.prog [("internal/strconv.uint64pow10", Lib.tabData .u64 Lib.pow10Tab)] W := laidMet.tail (laidMet.tail h)
  exact Lib.tabIs_of_head gTab tTab uTab (by kernel_rfl) (by kernel_rfl) (by kernel_rfl) h2
theorem door_met (os : Os) (args : Array Value) : laidMetH Tryd.prog Rows.scriptFeedsRow.laid ((World.doorLaid Tryd.prog 24 os).forCall (fun _ _ => 0) ⟨#[], args, []⟩).memory :=
  laidMetH_of_parts3 (fuel := 8) (laidMet_of_run' 8 (by kernel_rfl) (by kernel_rfl)) (by kernel_rfl) (by kernel_rfl)
theorem open_txt {H : Type} {enc : TypeId × Value → H} {W : World} {base b0 : Nat} {r : Reach} {v : Value} {d : DataW H} {p : List MemPlace} {sp : Nat → Bool}
    (hv : Value.okWide Tryd.prog W r b0 32 v) (h : DataW.Trod enc Tryd.prog W base sp true 32 v d p) : ∃ ls, TxtAt W v ls := by
  obtain ⟨fuel, hf⟩ := h
  obtain ⟨a0, len0, cap0, rfl⟩ := okWide_slice Tryd.underlying32 hv
  have hc1 : Tryd.prog.cellsOf 9 = 1 := by kernel_rfl
  rcases open_strings Tryd.underlying32 Tryd.underlying9 hc1 hf with ⟨hc, -⟩ | ⟨a, len, cap, ss, hc, hb, h1, h2, h3, -, h5, -⟩
  · have hv0 : Value.slice a0 len0 cap0 = .slice none 0 0 := by simpa [Value.cells] using hc
    rw [hv0]
    exact ⟨[], none, 0, rfl, Nat.le_refl _, Nat.zero_le _, fun i hi => by cases hi⟩
  · have hv0 : Value.slice a0 len0 cap0 = .slice (some a) len cap := by simpa [Value.cells] using hc
    rw [hv0]
    have hlen : len ≤ ss.length := by rw [h3]; split <;> omega
    have hl2 : (ss.take len).length = len := by rw [List.length_take]; omega
    refine ⟨ss.take len, some a, cap, by rw [hl2], by rw [hl2]; exact h1, h2, fun i hi => ?_⟩
    rw [hl2] at hi
    have := h5 i (by omega)
    rw [List.getElem_take]
    have e : ss.getD i ByteArray.empty = ss[i] := by rw [List.getD_eq_getElem?_getD, List.getElem?_eq_getElem (by omega)]; rfl
    rw [e] at this
    have hsp : a.spot = none := by
      have h1 := World.cell?_spot (h5 0 (by omega))
      simpa [Addr.add] using h1
    refine ⟨a, rfl, ?_, hsp⟩
    rw [← this]
    congr 1
    obtain ⟨bb, oo, sp⟩ := a
    simp only at hsp
    subst hsp
    unfold Addr.add
    by_cases h0 : i = 0
    · subst h0; simp
    · simp [h0]
end Go.Proofs.YtdhdkfnmbdejbaaDoor
