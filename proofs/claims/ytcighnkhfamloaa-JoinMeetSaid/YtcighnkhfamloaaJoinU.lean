/- Joining: the offer of any text. No conditions. -/
import Derived.Test.YtcighnkhfamloaaJoinR
namespace Go.Proofs.Ytcighnkhfamloaa
set_option linter.unusedVariables false
set_option linter.unusedSimpArgs false
open Go.RowKit Sym Sha Go.ChangeShapes Go.WideShapes Go.ChangeMaps

theorem byte_in (s : ByteArray) : 0 ≤ byteAt s 0 ∧ byteAt s 0 < 256 := by
  unfold byteAt
  have := (s.data.toList.getD (0 : Int).toNat 0).toNat_lt
  omega
theorem val_first (s : ByteArray) (h : 1 ≤ s.size) : valU (s.extract 0 1) = byteAt s 0 := by
  have hl : s.data.toList.length = s.size := by simp
  have e : (s.extract 0 1).data.toList = [s.data.toList.getD 0 0] := by
    have : (s.extract 0 1).data.toList = s.data.toList.take 1 := by simp
    rw [this]
    cases hs : s.data.toList with
    | nil => rw [hs] at hl; simp at hl; omega
    | cons x l => simp
  unfold valU byteAt
  rw [e]
  have hx := (s.data.toList.getD 0 0).toNat_lt
  show ((Oct.val [s.data.toList.getD 0 0] % 18446744073709551616 : Nat) : Int) = _
  have : Oct.val [s.data.toList.getD 0 0] = (s.data.toList.getD 0 0).toNat := by simp [Oct.val]
  rw [this]
  show _ = (((s.data.toList.getD 0 0).toNat : Nat) : Int)
  omega
theorem ba_nil_iff (s : ByteArray) : s = ByteArray.mk (Array.mk []) ↔ s.size = 0 := by
  constructor
  · rintro rfl; rfl
  · intro h
    have : s.data.toList = [] := List.length_eq_zero_iff.1 (by simpa using h)
    cases s with
    | mk d => simp at this; subst this; rfl
set_option maxRecDepth 100000 in
theorem join_read (s : ByteArray) (h : s.size ≤ 1000000) (w : World) : Calls Try.prog 15 #[.string s] w fun e w' => e = .returned (readV s) ∧ Below w.heap.size w w' := by
  refine calls_runV (both_ok noS_ok FCutC_ok) follows Try.func15 (by kernel_rfl) (by kernel_rfl) (noloops (by kernel_rfl)) (read_run s) ?_ w
  have hb := byte_in s
  have w1 := fun h => (wrap_valU (s.extract 1 5) 4 (by rw [ByteArray.size_extract]; omega) h).2
  have w2 := fun h => (wrap_valU (s.extract 5 9) 4 (by rw [ByteArray.size_extract]; omega) h).2
  have w1 := w1 (by omega)
  have w2 := w2 (by omega)
  unfold readV readW readK readA readB readE
  by_cases h0 : s.size = 0
  · have e0 := (ba_nil_iff s).2 h0
    refine ⟨fun _ => ?_, fun k => absurd e0 (of_decide_eq_false k)⟩
    simp [T.ok, h0]
  · have e0 : ¬ s = ByteArray.mk (Array.mk []) := fun e => h0 ((ba_nil_iff s).1 e)
    have p : (0 : Int) < s.size := by omega
    have p1 : (1 : Int) ≤ s.size := by omega
    have p2 : 1 ≤ s.size := by omega
    have p3 : 0 < s.size := by omega
    have vf := val_first s p2
    by_cases h2 : byteAt s 0 > 2
    · have n0 : ¬ byteAt s 0 = 0 := by omega
      have n1 : ¬ byteAt s 0 = 1 := by omega
      have n2 : ¬ byteAt s 0 = 2 := by omega
      simp [T.ok, h0, e0, h2, p, p1, p2, p3, vf, n0, n1, n2, h] <;> omega
    · by_cases hz : byteAt s 0 = 0
      · by_cases h1 : s.size = 1
        · simp [T.ok, h0, e0, hz, h1, vf, h] <;> omega
        · have h1' : ¬ (s.size : Int) = 1 := by omega
          have h1'' : (1 : Int) < s.size := by omega
          have h1n : 1 < s.size := by omega
          simp [T.ok, h0, e0, hz, h1, h1', h1'', h1n, p, p1, p2, p3, vf, h] <;> omega
      · have pos : byteAt s 0 > 0 := by omega
        by_cases h9 : s.size = 9
        · by_cases e1 : byteAt s 0 = 1
          · simp [T.ok, e0, h9, e1, vf, h] <;> omega
          · have e2 : byteAt s 0 = 2 := by omega
            simp [T.ok, e0, h9, e2, vf, w1, w2, h] <;> omega
        · have h9' : ¬ (s.size : Int) = 9 := by omega
          by_cases hs : s.size < 9
          · have hs' : ¬ (1 : Int) + 8 ≤ s.size := by omega
            by_cases e1 : byteAt s 0 = 1
            · simp [T.ok, h0, e0, h9, h9', hs', e1, p, p1, p2, p3, vf, h] <;> omega
            · have e2 : byteAt s 0 = 2 := by omega
              by_cases hs5 : s.size < 5
              · have hs5' : ¬ (1 : Int) + 4 ≤ s.size := by omega
                simp [T.ok, h0, e0, h9, h9', hs5', e2, p, p1, p2, p3, vf, h] <;> omega
              · have hs5' : (1 : Int) + 4 ≤ s.size := by omega
                have hs6 : ¬ (1 : Int) + 4 + 4 ≤ s.size := by omega
                have hs7 : (5 : Int) ≤ s.size := by omega
                simp [T.ok, h0, e0, h9, h9', hs5', hs6, hs7, e2, p, p1, p2, p3, vf, h] <;> omega
          · have hs' : (1 : Int) + 8 ≤ s.size := by omega
            have hs3 : (9 : Int) < s.size := by omega
            have hs4 : (9 : Int) ≤ s.size := by omega
            have hs5' : (1 : Int) + 4 ≤ s.size := by omega
            have hs6 : (1 : Int) + 4 + 4 ≤ s.size := by omega
            have hs7 : (5 : Int) ≤ s.size := by omega
            have hs9 : 9 < s.size := by omega
            by_cases e1 : byteAt s 0 = 1
            · simp [T.ok, h0, e0, h9, h9', hs', hs3, hs4, hs9, e1, p, p1, p2, p3, vf, h] <;> omega
            · have e2 : byteAt s 0 = 2 := by omega
              simp [T.ok, h0, e0, h9, h9', hs', hs3, hs4, hs5', hs6, hs7, hs9, e2, p, p1, p2, p3, vf, h] <;> omega
set_option maxRecDepth 100000 in
theorem ref29_read (s : ByteArray) (h : s.size ≤ 1000000) (w : World) : Calls Try.prog 16 #[.string s] w fun e w' => e = .returned (readV s) ∧ Below w.heap.size w w' := by
  refine calls_runV (onlyS_ok SOct_ok) follows Try.func16 (by kernel_rfl) (by kernel_rfl) noL_ok (readR_run s) ?_ w
  have hb := byte_in s
  have w1 := fun h => (wrap_valU (s.extract 1 5) 4 (by rw [ByteArray.size_extract]; omega) h).2
  have w2 := fun h => (wrap_valU (s.extract 5 9) 4 (by rw [ByteArray.size_extract]; omega) h).2
  have w1 := w1 (by omega)
  have w2 := w2 (by omega)
  unfold readV readW readK readA readB readE
  by_cases h0 : s.size = 0
  · have e0 := (ba_nil_iff s).2 h0
    refine ⟨fun _ => ?_, fun k => absurd e0 (of_decide_eq_false k)⟩
    simp [T.ok, h0]
  · have e0 : ¬ s = ByteArray.mk (Array.mk []) := fun e => h0 ((ba_nil_iff s).1 e)
    have p : (0 : Int) < s.size := by omega
    have p1 : (1 : Int) ≤ s.size := by omega
    have p2 : 1 ≤ s.size := by omega
    have p3 : 0 < s.size := by omega
    have vf := val_first s p2
    by_cases h2 : byteAt s 0 > 2
    · have n0 : ¬ byteAt s 0 = 0 := by omega
      have n1 : ¬ byteAt s 0 = 1 := by omega
      have n2 : ¬ byteAt s 0 = 2 := by omega
      simp [T.ok, h0, e0, h2, p, p1, p2, p3, vf, n0, n1, n2, h] <;> omega
    · by_cases hz : byteAt s 0 = 0
      · by_cases h1 : s.size = 1
        · simp [T.ok, h0, e0, hz, h1, vf, h] <;> omega
        · have h1' : ¬ (s.size : Int) = 1 := by omega
          have h1'' : (1 : Int) < s.size := by omega
          have h1n : 1 < s.size := by omega
          simp [T.ok, h0, e0, hz, h1, h1', h1'', h1n, p, p1, p2, p3, vf, h] <;> omega
      · have pos : byteAt s 0 > 0 := by omega
        by_cases h9 : s.size = 9
        · by_cases e1 : byteAt s 0 = 1
          · simp [T.ok, e0, h9, e1, vf, h] <;> omega
          · have e2 : byteAt s 0 = 2 := by omega
            simp [T.ok, e0, h9, e2, vf, w1, w2, h] <;> omega
        · have h9' : ¬ (s.size : Int) = 9 := by omega
          by_cases hs : s.size < 9
          · have hs' : ¬ (1 : Int) + 8 ≤ s.size := by omega
            by_cases e1 : byteAt s 0 = 1
            · simp [T.ok, h0, e0, h9, h9', hs', e1, p, p1, p2, p3, vf, h] <;> omega
            · have e2 : byteAt s 0 = 2 := by omega
              by_cases hs5 : s.size < 5
              · have hs5' : ¬ (1 : Int) + 4 ≤ s.size := by omega
                simp [T.ok, h0, e0, h9, h9', hs5', e2, p, p1, p2, p3, vf, h] <;> omega
              · have hs5' : (1 : Int) + 4 ≤ s.size := by omega
                have hs6 : ¬ (1 : Int) + 4 + 4 ≤ s.size := by omega
                have hs7 : (5 : Int) ≤ s.size := by omega
                simp [T.ok, h0, e0, h9, h9', hs5', hs6, hs7, e2, p, p1, p2, p3, vf, h] <;> omega
          · have hs' : (1 : Int) + 8 ≤ s.size := by omega
            have hs3 : (9 : Int) < s.size := by omega
            have hs4 : (9 : Int) ≤ s.size := by omega
            have hs5' : (1 : Int) + 4 ≤ s.size := by omega
            have hs6 : (1 : Int) + 4 + 4 ≤ s.size := by omega
            have hs7 : (5 : Int) ≤ s.size := by omega
            have hs9 : 9 < s.size := by omega
            by_cases e1 : byteAt s 0 = 1
            · simp [T.ok, h0, e0, h9, h9', hs', hs3, hs4, hs9, e1, p, p1, p2, p3, vf, h] <;> omega
            · have e2 : byteAt s 0 = 2 := by omega
              simp [T.ok, h0, e0, h9, h9', hs', hs3, hs4, hs5', hs6, hs7, hs9, e2, p, p1, p2, p3, vf, h] <;> omega
end Go.Proofs.Ytcighnkhfamloaa
