/- sha.Of, and the reference's padding. Conditions: texts shorter than 2 to the 40. -/
import Derived.Test.YtjjnolpkifhbnaaGreatShaC
namespace Go.Proofs.YtjjnolpkifhbnaaGreat
set_option linter.unusedVariables false
set_option linter.unusedSimpArgs false
open Go.RowKit Sym Sha

set_option maxRecDepth 100000 in
theorem begin_run  : runV Tryz.prog (onlyS Tryz.prog SSha6) noL Tryz.f107 [] = .leaf (Value.agg (Array.mk [Value.int IntKind.u32 1779033703, Value.int IntKind.u32 3144134277, Value.int IntKind.u32 1013904242, Value.int IntKind.u32 2773480762, Value.int IntKind.u32 1359893119, Value.int IntKind.u32 2600822924, Value.int IntKind.u32 528734635, Value.int IntKind.u32 1541459225])) := by kernel_rfl
def tBegin : List Value → Option (List Prop × Value) | [] => some ([], hv H0) | _ => none
theorem sha_begin (w : World) : Calls Tryz.prog 107 #[] w fun e w' => e = .returned (hv H0) ∧ Below w.heap.size w w' := by
  refine calls_runV (onlyS_ok SSha6_ok) follows Tryz.func107 (by kernel_rfl) (by kernel_rfl) noL_ok (begin_run) ?_ w
  rfl
def SSha7 : Tab := addS 107 tBegin SSha6
theorem SSha7_ok : TabOk Tryz.prog SSha7 := addS_ok SSha6_ok (by kernel_rfl) (by (intro xs p v h hp w; unfold tBegin at h; (split at h) <;> first | (cases h; done) | (simp only [Option.some.injEq, Prod.mk.injEq] at h; obtain ⟨rfl, rfl⟩ := h; exact sha_begin w)))
def FSha2 (P : Program) (fAdd fNew : Func) : LTab := addF 98 fSum (addT 95 (trimE (inl P (both P SSha7 FSha1 [108]) noL fAdd)) (addT 94 (inl P (onlyS P SSha7) noL fNew) FSha1))
theorem FSha2_ok : LOk Tryz.prog (FSha2 Tryz.prog Tryz.f95 Tryz.f94) :=
  addF_ok (addT_ok (addT_ok FSha1_ok (by kernel_rfl) (inl_ok (onlyS_ok SSha7_ok) follows Tryz.func94 (by kernel_rfl) (by kernel_rfl) (noloops (by kernel_rfl)))) (by kernel_rfl) (trimE_ok (inl_ok (both_ok SSha7_ok FSha1_ok) follows Tryz.func95 (by kernel_rfl) (by kernel_rfl) (noloops (by kernel_rfl))))) (by kernel_rfl) fSum_ok
set_option maxRecDepth 100000 in
theorem of_run (s : ByteArray) : runV Tryz.prog (both Tryz.prog SSha7 (FSha2 Tryz.prog Tryz.f95 Tryz.f94) [108, 95, 98, 94]) noL Tryz.f92 [.string s] = .need (0 + s.size ≤ 9223372036854775807) (.need ((ba (restA (ByteArray.mk #[] ++ s).data.toList)).size < 64 ∧ (0 : Int) ≤ IntKind.i64.wrap ((0 : Int) + (↑s.size : Int)) ∧ IntKind.i64.wrap ((0 : Int) + (↑s.size : Int)) ≤ (1099511627776 : Int)) (.leaf (Value.string (ba (txt (foldA (foldA (H8.mk (1779033703 : Int) (3144134277 : Int) (1013904242 : Int) (2773480762 : Int) (1359893119 : Int) (2600822924 : Int) (528734635 : Int) (1541459225 : Int)) (Array.mk ((Array.mk []).toList ++ s.1.toList)).toList) ((ba (restA (ByteArray.mk #[] ++ s).data.toList)).1.toList ++ tail (ba (restA (Array.mk ((Array.mk []).toList ++ s.1.toList)).toList)).size (IntKind.i64.wrap ((0 : Int) + (↑s.size : Int))).toNat))))))) := by kernel_rfl
theorem sha_Of (s : ByteArray) (hs : s.size ≤ 1099511627776) (w : World) : Calls Tryz.prog 92 #[.string s] w fun e w' => e = .returned (.string (shaOf s)) ∧ Below w.heap.size w w' := by
  refine calls_runV (both_ok SSha7_ok FSha2_ok) follows Tryz.func92 (by kernel_rfl) (by kernel_rfl) (noloops (by kernel_rfl)) (of_run s) ?_ w
  have hw : IntKind.i64.wrap (0 + (s.size : Int)) = (s.size : Int) := by rw [w64 _ (by omega) (by omega)]; omega
  have h0 : (ByteArray.mk #[] ++ s).data.toList = s.data.toList := by rw [ByteArray.data_append]; simp
  have hr := restA_length s.data.toList
  refine ⟨by omega, ⟨?_, by rw [hw]; omega, by rw [hw]; omega⟩, ?_⟩
  · rw [h0, ba_len, hr]; omega
  · show Value.string (ba (txt (foldA (foldA H0 (ByteArray.mk #[] ++ s).data.toList) (restA (ByteArray.mk #[] ++ s).data.toList ++ tail (ba (restA (ByteArray.mk #[] ++ s).data.toList)).size (IntKind.i64.wrap (0 + (s.size : Int))).toNat)))) = _
    rw [h0, hw, ba_len, Int.toNat_natCast, show s.size = s.data.toList.length by simp, sum_pieces]
    rfl
end Go.Proofs.YtjjnolpkifhbnaaGreat
