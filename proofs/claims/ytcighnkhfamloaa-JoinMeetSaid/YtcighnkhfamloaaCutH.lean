/- Bytes that are read from the front on: the contracts. No conditions. -/
import Derived.Test.YtcighnkhfamloaaCutG
namespace Go.Proofs.Ytcighnkhfamloaa
set_option linter.unusedVariables false
set_option linter.unusedSimpArgs false
open Go.RowKit Sym Sha Go.ChangeShapes Go.WideShapes Go.ChangeMaps

theorem ext_sizeC (s : ByteArray) (a k : Int) (h : 0 ≤ a ∧ 1 ≤ k ∧ k ≤ 7 ∧ a + k ≤ s.size) : (s.extract a.toNat (a + k).toNat).size = k.toNat := by rw [ByteArray.size_extract]; omega
theorem opens2 {B : List Value} {s0 k0 s1 : SV} {vs : List Value} (h : SV.tos B [s0, k0] = some vs) (e : openS k0 = s1) : SV.tos B [s0, s1] = some vs := by
  rw [← h]; simp only [SV.tos]; rw [← openS_to k0, e]
set_option maxRecDepth 100000 in
theorem fNumC_ok : EntryOk Try.prog 80 fNumC := by
  intro ss H t ht bs B w vs hm hv Qs hq
  unfold fNumC at ht
  split at ht
  · split at ht
    · rename_i k s a hk hc
      simp only [Option.some.injEq] at ht
      subst ht
      obtain ⟨⟨q1, q2, q3, q4, q5⟩, hq⟩ := hq
      refine trimT_ok (both_ok SOct_ok FCut2_ok) follows Try.func80 (by kernel_rfl) (by kernel_rfl) (noloops (by kernel_rfl)) (num0_run s a k) (cutOpen_mem hc hm) (opens2 hv hk) ?_
      have e2 : IntKind.i64.wrap ((s.size : Int) - a) = (s.size : Int) - a := w64 _ (by omega) (by omega)
      have e1 : IntKind.i64.wrap (a + k) = a + k := w64 _ (by omega) (by omega)
      have e3 : IntKind.i64.wrap (a + k - k) = a := by rw [w64 _ (by omega) (by omega)]; omega
      rw [e2, e1, e3]
      by_cases hs : a + k ≤ s.size
      · have e4 := ext_sizeC s a k ⟨q1, q3, q4, hs⟩
        have e5 := (wrap_valU (s.extract a.toNat (a + k).toNat) 7 (by omega) (by omega)).1
        rw [e5]
        have hq := hq.1 (decide_eq_true hs)
        simp only [T.ok, decide_eq_true_eq, decide_eq_false_iff_not]
        repeat' (first | refine And.intro ?_ ?_ | intro _)
        all_goals first | omega | exact hq
      · have hq := hq.2 (decide_eq_false hs)
        simp only [T.ok, decide_eq_true_eq, decide_eq_false_iff_not]
        repeat' (first | refine And.intro ?_ ?_ | intro _)
        all_goals first | omega | exact hq
    · rename_i k s a hk hc
      simp only [Option.some.injEq] at ht
      subst ht
      obtain ⟨q1, hq⟩ := hq
      refine trimT_ok (both_ok SOct_ok FCut2_ok) follows Try.func80 (by kernel_rfl) (by kernel_rfl) (noloops (by kernel_rfl)) (num1_run s a k) (cutOpen_mem hc hm) (opens2 hv hk) ?_
      exact ⟨fun _ => hq, fun _ => hq⟩
    · cases ht
  · cases ht
set_option maxRecDepth 100000 in
theorem fBytesC_ok : EntryOk Try.prog 81 fBytesC := by
  intro ss H t ht bs B w vs hm hv Qs hq
  unfold fBytesC at ht
  split at ht
  · split at ht
    · rename_i k s a hk hc
      simp only [Option.some.injEq] at ht
      subst ht
      obtain ⟨⟨q1, q2, q3, q4, q5⟩, hq⟩ := hq
      refine trimT_ok (both_ok noS_ok FCut1_ok) follows Try.func81 (by kernel_rfl) (by kernel_rfl) (noloops (by kernel_rfl)) (bytes0_run s a k) (cutOpen_mem hc hm) (opens2 hv hk) ?_
      have e2 : IntKind.i64.wrap ((s.size : Int) - a) = (s.size : Int) - a := w64 _ (by omega) (by omega)
      have e1 : IntKind.i64.wrap (a + k) = a + k := w64 _ (by omega) (by omega)
      have e3 : IntKind.i64.wrap (a + k - k) = a := by rw [w64 _ (by omega) (by omega)]; omega
      rw [e2, e1, e3]
      by_cases hs : a + k ≤ s.size
      · have hq := hq.1 (decide_eq_true hs)
        simp only [T.ok, decide_eq_true_eq, decide_eq_false_iff_not]
        repeat' (first | refine And.intro ?_ ?_ | intro _)
        all_goals first | omega | exact hq
      · have hq := hq.2 (decide_eq_false hs)
        simp only [T.ok, decide_eq_true_eq, decide_eq_false_iff_not]
        repeat' (first | refine And.intro ?_ ?_ | intro _)
        all_goals first | omega | exact hq
    · rename_i k s a hk hc
      simp only [Option.some.injEq] at ht
      subst ht
      exact trimT_ok (both_ok noS_ok FCut1_ok) follows Try.func81 (by kernel_rfl) (by kernel_rfl) (noloops (by kernel_rfl)) (bytes1_run s a k) (cutOpen_mem hc hm) (opens2 hv hk) hq
    · cases ht
  · cases ht
set_option maxRecDepth 100000 in
theorem fDoneC_ok : EntryOk Try.prog 82 fDoneC := by
  intro ss H t ht bs B w vs hm hv Qs hq
  unfold fDoneC at ht
  split at ht
  · split at ht
    · rename_i s a hc
      simp only [Option.some.injEq] at ht
      subst ht
      obtain ⟨⟨q1, q2, q5⟩, hq⟩ := hq
      refine trimT_ok (both_ok noS_ok FCut1_ok) follows Try.func82 (by kernel_rfl) (by kernel_rfl) (noloops (by kernel_rfl)) (done0_run s a) (cutOpen_mem hc hm) hv ?_
      have e2 : IntKind.i64.wrap ((s.size : Int) - a) = (s.size : Int) - a := w64 _ (by omega) (by omega)
      rw [e2]
      refine ⟨fun h => hq.1 (decide_eq_true ?_), fun h => hq.2 (decide_eq_false ?_)⟩
      · have h := of_decide_eq_true h; omega
      · have h := of_decide_eq_false h; omega
    · rename_i s a hc
      simp only [Option.some.injEq] at ht
      subst ht
      exact trimT_ok (both_ok noS_ok FCut1_ok) follows Try.func82 (by kernel_rfl) (by kernel_rfl) (noloops (by kernel_rfl)) (done1_run s a) (cutOpen_mem hc hm) hv hq
    · cases ht
  · cases ht
end Go.Proofs.Ytcighnkhfamloaa
