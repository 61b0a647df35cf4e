/- Cookies: opened; the laws. No conditions. -/
import Derived.Test.YtapogkodlempkaaCookD
namespace Go.Proofs.Ytapogkodlempkaa
set_option linter.unusedVariables false
set_option linter.unusedSimpArgs false
open Go.RowKit Sym Sha Go.ChangeShapes Go.WideShapes Go.ChangeMaps

def openV (k : ByteArray) (f t : Int) (s : ByteArray) : Value := .tuple #[(openN k f t s).v, .int .i64 (openE k f t s)]
theorem open_bad {k : ByteArray} {f t : Int} {s : ByteArray} {e : Int} (h : openE k f t s = e) (he : e ≠ 0) : Value.tuple #[.agg #[.int .i64 0, .int .i64 0, .int .i64 0, .int .i64 0, .string ⟨⟨[]⟩⟩], .int .i64 e] = openV k f t s := by
  unfold openV openN
  rw [if_neg (by rw [h]; exact he), h]; rfl
theorem open_good {k : ByteArray} {f t : Int} {s : ByteArray} (h : openE k f t s = 0) : Value.tuple #[.agg #[.int .i64 (valU ((body s).extract 0 6)), .int .i64 (valU ((body s).extract 6 12)), .int .i64 (valU ((body s).extract 12 16)), .int .i64 (valU ((body s).extract 16 22)), .string ((body s).extract 22 (body s).size)], .int .i64 0] = openV k f t s := by
  unfold openV openN
  rw [if_pos h, h]; rfl
theorem openE_1 {k : ByteArray} {f t : Int} {s : ByteArray} (h : s.size < 38) : openE k f t s = 1 := by unfold openE; rw [if_pos h]
theorem openE_11 {k : ByteArray} {f t : Int} {s : ByteArray} (h : s.size > 78) : openE k f t s = 11 := by unfold openE; rw [if_neg (by omega), if_pos h]
theorem openE_14 {k : ByteArray} {f t : Int} {s : ByteArray} (h0 : ¬ s.size < 38) (h1 : ¬ s.size > 78) (h : ¬ s.extract (s.size - 16) s.size = markB k f t (body s)) : openE k f t s = 14 := by unfold openE; rw [if_neg h0, if_neg h1, if_pos h]
theorem openE_3 {k : ByteArray} {f t : Int} {s : ByteArray} (h0 : ¬ s.size < 38) (h1 : ¬ s.size > 78) (h : s.extract (s.size - 16) s.size = markB k f t (body s)) (hv : valU ((body s).extract 16 22) > 1099511627776) : openE k f t s = 3 := by
  unfold openE; rw [if_neg h0, if_neg h1, if_neg (fun g => g h), if_pos hv]
theorem nat_sub16 (s : ByteArray) (h : ¬ s.size < 38) : IntKind.i64.wrap ((s.size : Int) - 16) = ((s.size - 16 : Nat) : Int) ∨ s.size > 9223372036854775807 := by
  by_cases hb : s.size > 9223372036854775807
  · exact .inr hb
  · left; rw [w64 _ (by omega) (by omega)]; omega
set_option maxRecDepth 100000 in
theorem ref16_Open (k : ByteArray) (f t : Int) (s : ByteArray) (hk : k.size ≤ 1000000000000) (hs : s.size ≤ 1000000) (w : World) : Calls Try.prog 52 #[.string k, .agg #[.int .i64 f, .int .i64 t], .string s] w fun e w' => e = .returned (openV k f t s) ∧ Below w.heap.size w w' := by
  refine calls_runV (CC_ok SCook2_ok) follows Try.func52 (by kernel_rfl) (by kernel_rfl) (noloops (by kernel_rfl)) (open16_run k f t s) ?_ w
  have hw : ¬ s.size < 38 → IntKind.i64.wrap ((s.size : Int) - 16) = ((s.size - 16 : Nat) : Int) := fun h => by rw [w64 _ (by omega) (by omega)]; omega
  refine ⟨fun h => ?_, fun h1 => ⟨fun h => ?_, fun h2 => ?_⟩⟩
  · have h := of_decide_eq_true h
    exact open_bad (openE_1 (by omega)) (by decide)
  · have h := of_decide_eq_true h
    exact open_bad (openE_11 (by omega)) (by decide)
  · have h1 := of_decide_eq_false h1
    have h2 := of_decide_eq_false h2
    have n1 : ¬ s.size < 38 := by omega
    have n2 : ¬ s.size > 78 := by omega
    rw [hw n1]
    simp only [Int.toNat_natCast]
    have hb : (body s).size = s.size - 16 := by unfold body; rw [ByteArray.size_extract]; omega
    have q : (0 : Int) ≤ ((s.size - 16 : Nat) : Int) ∧ ((s.size - 16 : Nat) : Int) ≤ s.size := by omega
    have qb : ((body s).size : Int) = (s.size : Int) - 16 := by omega
    refine ⟨⟨q.1, q.2, by omega⟩, ⟨by omega, q.1, q.2⟩, ⟨hk, ?_⟩, fun h => ?_, fun h3 => ⟨⟨by omega, q.1, q.2⟩, ⟨by first | trivial | omega, by first | trivial | omega, by first | trivial | omega, by first | trivial | omega, ?_, ?_⟩, ⟨by first | trivial | omega, by first | trivial | omega, by first | trivial | omega, by first | trivial | omega, ?_, ?_⟩, ⟨by first | trivial | omega, by first | trivial | omega, by first | trivial | omega, by first | trivial | omega, ?_, ?_⟩, ⟨by first | trivial | omega, by first | trivial | omega, by first | trivial | omega, by first | trivial | omega, ?_, ?_⟩, ⟨by first | trivial | omega, by first | trivial | omega, ?_, ?_⟩, fun h => ?_, fun h4 => ?_⟩⟩
    · show (body s).size ≤ _
      omega
    · exact open_bad (openE_14 n1 n2 (fun g => ndt h g)) (by decide)
    · show 0 + 6 ≤ ((body s).size : Int)
      omega
    · show (body s).size ≤ _
      omega
    · show 0 + 6 + 6 ≤ ((body s).size : Int)
      omega
    · show (body s).size ≤ _
      omega
    · show 0 + 6 + 6 + 4 ≤ ((body s).size : Int)
      omega
    · show (body s).size ≤ _
      omega
    · show 0 + 6 + 6 + 4 + 6 ≤ ((body s).size : Int)
      omega
    · show (body s).size ≤ _
      omega
    · show 0 + 6 + 6 + 4 + 6 ≤ ((body s).size : Int)
      omega
    · show (body s).size ≤ _
      omega
    · have h := of_decide_eq_true h
      exact open_bad (openE_3 n1 n2 (ndf h3) h) (by decide)
    · have h4 := of_decide_eq_false h4
      have h4 : ¬ valU ((body s).extract 16 22) > 1099511627776 := h4
      exact open_good (openE_zero.2 ⟨⟨by omega, by omega⟩, ndf h3, by omega⟩)
set_option maxRecDepth 100000 in
theorem cookie_Open (k : ByteArray) (f t : Int) (s : ByteArray) (hk : k.size ≤ 1000000000000) (hs : s.size ≤ 1000000) (w : World) : Calls Try.prog 51 #[.string k, .agg #[.int .i64 f, .int .i64 t], .string s] w fun e w' => e = .returned (openV k f t s) ∧ Below w.heap.size w w' := by
  refine calls_runV (CC_ok SCook2_ok) follows Try.func51 (by kernel_rfl) (by kernel_rfl) (noloops (by kernel_rfl)) (open_run k f t s) ?_ w
  have hw0 : IntKind.i64.wrap ((s.size : Int) - 16) = (s.size : Int) - 16 := w64 _ (by omega) (by omega)
  have hw : ¬ s.size < 38 → IntKind.i64.wrap ((s.size : Int) - 16) = ((s.size - 16 : Nat) : Int) := fun h => by rw [hw0]; omega
  refine ⟨fun h => ?_, fun h1 => ⟨fun h => ?_, fun h2 => ?_⟩⟩
  · have h := of_decide_eq_true h
    rw [hw0] at h
    exact open_bad (openE_1 (by omega)) (by decide)
  · have h := of_decide_eq_true h
    rw [hw0] at h
    exact open_bad (openE_11 (by omega)) (by decide)
  · have h1 := of_decide_eq_false h1
    have h2 := of_decide_eq_false h2
    rw [hw0] at h1 h2
    have n1 : ¬ s.size < 38 := by omega
    have n2 : ¬ s.size > 78 := by omega
    rw [hw n1]
    simp only [Int.toNat_natCast]
    have hb : (body s).size = s.size - 16 := by unfold body; rw [ByteArray.size_extract]; omega
    have q : (0 : Int) ≤ ((s.size - 16 : Nat) : Int) ∧ ((s.size - 16 : Nat) : Int) ≤ s.size := by omega
    have qb : ((body s).size : Int) = (s.size : Int) - 16 := by omega
    refine ⟨⟨by omega, q.1, q.2⟩, ⟨hk, ?_⟩, ⟨q.1, q.2, by omega⟩, ?_, fun h => ?_, fun h3 => ⟨⟨by omega, q.1, q.2⟩, ⟨by first | trivial | omega, by first | trivial | omega, by first | trivial | omega, by first | trivial | omega, ?_, ?_⟩, ⟨by first | trivial | omega, by first | trivial | omega, by first | trivial | omega, by first | trivial | omega, ?_, ?_⟩, ⟨by first | trivial | omega, by first | trivial | omega, by first | trivial | omega, by first | trivial | omega, ?_, ?_⟩, ⟨by first | trivial | omega, by first | trivial | omega, by first | trivial | omega, by first | trivial | omega, ?_, ?_⟩, ⟨by first | trivial | omega, by first | trivial | omega, ?_, ?_⟩, fun h => ?_, fun h4 => ?_⟩⟩
    · show (body s).size ≤ _
      omega
    · rw [markB_size]; omega
    · exact open_bad (openE_14 n1 n2 (fun g => ndt h g.symm)) (by decide)
    · show 0 + 6 ≤ ((body s).size : Int)
      omega
    · show (body s).size ≤ _
      omega
    · show 0 + 6 + 6 ≤ ((body s).size : Int)
      omega
    · show (body s).size ≤ _
      omega
    · show 0 + 6 + 6 + 4 ≤ ((body s).size : Int)
      omega
    · show (body s).size ≤ _
      omega
    · show 0 + 6 + 6 + 4 + 6 ≤ ((body s).size : Int)
      omega
    · show (body s).size ≤ _
      omega
    · show 0 + 6 + 6 + 4 + 6 ≤ ((body s).size : Int)
      omega
    · show (body s).size ≤ _
      omega
    · have h := of_decide_eq_true h
      exact open_bad (openE_3 n1 n2 (ndf h3).symm h) (by decide)
    · have h4 := of_decide_eq_false h4
      have h4 : ¬ valU ((body s).extract 16 22) > 1099511627776 := h4
      exact open_good (openE_zero.2 ⟨⟨by omega, by omega⟩, (ndf h3).symm, by omega⟩)
end Go.Proofs.Ytapogkodlempkaa
