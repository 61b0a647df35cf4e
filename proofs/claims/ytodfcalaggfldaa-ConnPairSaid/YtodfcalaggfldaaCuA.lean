/- Bytes that are read from the front on: trees. No conditions. -/
import Derived.Test.YtodfcalaggfldaaTabOct
import Derived.Test.YtodfcalaggfldaaPlA
import Derived.Test.YtodfcalaggfldaaSymG
namespace Go.Proofs.Ytodfcalaggfldaa
set_option linter.unusedVariables false
set_option linter.unusedSimpArgs false
open Go.RowKit Sym Sha Go.ChangeShapes Go.WideShapes Go.ChangeMaps

/-! bytes that are read from the front on -/
def FCut1 (P : Program) (fTake fLeft : Func) : LTab := addT 123 (inl P (onlyS P noS) noL fLeft) (addT 129 (inl P (onlyS P noS) noL fTake) noF)
def FCut2 (P : Program) (fTake fLeft fBytes : Func) : LTab := addT 122 (inl P (both P noS (FCut1 P fTake fLeft) [129]) noL fBytes) (FCut1 P fTake fLeft)
theorem FCut1_ok : LOk Try.prog (FCut1 Try.prog Try.f129 Try.f123) :=
  addT_ok (addT_ok noF_ok (by kernel_rfl) (inl_ok (onlyS_ok noS_ok) follows Try.func129 (by kernel_rfl) (by kernel_rfl) (noloops (by kernel_rfl)))) (by kernel_rfl) (inl_ok (onlyS_ok noS_ok) follows Try.func123 (by kernel_rfl) (by kernel_rfl) (noloops (by kernel_rfl)))
theorem FCut2_ok : LOk Try.prog (FCut2 Try.prog Try.f129 Try.f123 Try.f122) :=
  addT_ok FCut1_ok (by kernel_rfl) (inl_ok (both_ok noS_ok FCut1_ok) follows Try.func122 (by kernel_rfl) (by kernel_rfl) (noloops (by kernel_rfl)))
set_option maxRecDepth 100000 in
theorem num_run (s : ByteArray) (a k : Int) : trimT 1 (runF Try.prog (both Try.prog SOct (FCut2 Try.prog Try.f129 Try.f123 Try.f122) [129, 122]) noL Try.f119 (Try.f119.body.getD .skip) [.ptr 0 0, .v (.int .i64 k)] [.own [.v (.string s), .v (.int .i64 a), .v (.int .i64 0)]]) = .ite (decide (k < (1 : Int))) (.ite false (.leaf (.c (.int .i64 0), [.own [.v (.string s), .v (.int .i64 a), .v (.int .i64 0)]])) (.leaf (.c (.int .i64 0), [.own [.v (.string s), .v (.int .i64 a), .c (.int .i64 3)]]))) (.ite false (.leaf (.c (.int .i64 0), [.own [.v (.string s), .v (.int .i64 a), .v (.int .i64 0)]])) (.ite (decide (k > (7 : Int))) (.leaf (.c (.int .i64 0), [.own [.v (.string s), .v (.int .i64 a), .c (.int .i64 3)]])) (.ite (decide (k > IntKind.i64.wrap ((↑s.size : Int) - a))) (.leaf (.c (.int .i64 0), [.own [.v (.string s), .v (.int .i64 a), .c (.int .i64 1)]])) (.ite false (.leaf (.c (.int .i64 0), [.own [.v (.string s), .v (.int .i64 a), .v (.int .i64 0)]])) (.ite false (.need (0 ≤ 9223372036854775807) (.leaf (.v (.int .i64 0), [.own [.v (.string s), .v (.int .i64 a), .v (.int .i64 0)]]))) (.ite (decide (k < (0 : Int))) (.need (0 ≤ 9223372036854775807) (.leaf (.v (.int .i64 0), [.own [.v (.string s), .v (.int .i64 a), .c (.int .i64 3)]]))) (.ite (decide (k > IntKind.i64.wrap ((↑s.size : Int) - a))) (.need (0 ≤ 9223372036854775807) (.leaf (.v (.int .i64 0), [.own [.v (.string s), .v (.int .i64 a), .c (.int .i64 1)]]))) (.ite false (.need (0 ≤ 9223372036854775807) (.leaf (.v (.int .i64 0), [.own [.v (.string s), .v (.int .i64 a), .v (.int .i64 0)]]))) (.need ((0 : Int) ≤ IntKind.i64.wrap (IntKind.i64.wrap (a + k) - k) ∧ IntKind.i64.wrap (IntKind.i64.wrap (a + k) - k) ≤ IntKind.i64.wrap (a + k) ∧ IntKind.i64.wrap (a + k) ≤ (↑s.size : Int)) (.need ((s.extract (IntKind.i64.wrap (IntKind.i64.wrap (a + k) - k)).toNat (IntKind.i64.wrap (a + k)).toNat).size ≤ 9223372036854775807) (.leaf (.v (.int .i64 (wrap64 (valU (s.extract (IntKind.i64.wrap (IntKind.i64.wrap (a + k) - k)).toNat (IntKind.i64.wrap (a + k)).toNat)))), [.own [.v (.string s), .v (.int .i64 (IntKind.i64.wrap (a + k))), .v (.int .i64 0)]])))))))))))) := by kernel_rfl
set_option maxRecDepth 100000 in
theorem rest_run (s : ByteArray) (a : Int) : trimT 1 (runF Try.prog (both Try.prog noS (FCut2 Try.prog Try.f129 Try.f123 Try.f122) [122, 123]) noL Try.f89 (Try.f89.body.getD .skip) [.ptr 0 0] [.own [.v (.string s), .v (.int .i64 a), .v (.int .i64 0)]]) = .ite false (.leaf (SV.c (Value.string (ByteArray.mk (Array.mk []))), [.own [.v (.string s), .v (.int .i64 a), .v (.int .i64 0)]])) (.ite (decide (IntKind.i64.wrap ((↑s.size : Int) - a) < (0 : Int))) (.leaf (SV.c (Value.string (ByteArray.mk (Array.mk []))), [.own [.v (.string s), .v (.int .i64 a), .c (.int .i64 3)]])) (.ite (decide (IntKind.i64.wrap ((↑s.size : Int) - a) > IntKind.i64.wrap ((↑s.size : Int) - a))) (.leaf (SV.c (Value.string (ByteArray.mk (Array.mk []))), [.own [.v (.string s), .v (.int .i64 a), .c (.int .i64 1)]])) (.ite false (.leaf (SV.c (Value.string (ByteArray.mk (Array.mk []))), [.own [.v (.string s), .v (.int .i64 a), .v (.int .i64 0)]])) (.need ((0 : Int) ≤ IntKind.i64.wrap (IntKind.i64.wrap (a + IntKind.i64.wrap ((↑s.size : Int) - a)) - IntKind.i64.wrap ((↑s.size : Int) - a)) ∧ IntKind.i64.wrap (IntKind.i64.wrap (a + IntKind.i64.wrap ((↑s.size : Int) - a)) - IntKind.i64.wrap ((↑s.size : Int) - a)) ≤ IntKind.i64.wrap (a + IntKind.i64.wrap ((↑s.size : Int) - a)) ∧ IntKind.i64.wrap (a + IntKind.i64.wrap ((↑s.size : Int) - a)) ≤ (↑s.size : Int)) (.leaf (.v (.string (s.extract (IntKind.i64.wrap (IntKind.i64.wrap (a + IntKind.i64.wrap ((↑s.size : Int) - a)) - IntKind.i64.wrap ((↑s.size : Int) - a))).toNat (IntKind.i64.wrap (a + IntKind.i64.wrap ((↑s.size : Int) - a))).toNat)), [.own [.v (.string s), .v (.int .i64 (IntKind.i64.wrap (a + IntKind.i64.wrap ((↑s.size : Int) - a)))), .v (.int .i64 0)]])))))) := by kernel_rfl


end Go.Proofs.Ytodfcalaggfldaa
namespace Go.Proofs.Ytodfcalaggfldaa
set_option linter.unusedVariables false
set_option linter.unusedSimpArgs false
open Go.RowKit Sym Sha Go.ChangeShapes Go.WideShapes Go.ChangeMaps

def fCutNum : List SV → List Blk → Option (T (SV × List Blk))
  | [.ptr 0 0, .v (.int .i64 k)], [.own [.v (.string s), .v (.int .i64 a), .v (.int .i64 z)]] => some (.need (z = 0 ∧ 0 ≤ a ∧ 1 ≤ k ∧ k ≤ 7 ∧ a + k ≤ s.size ∧ s.size ≤ 1000000) (.leaf (.v (.int .i64 (valU (s.extract a.toNat (a + k).toNat))), [.own [.v (.string s), .v (.int .i64 (a + k)), .v (.int .i64 0)]])))
  | _, _ => none
def fCutRest : List SV → List Blk → Option (T (SV × List Blk))
  | [.ptr 0 0], [.own [.v (.string s), .v (.int .i64 a), .v (.int .i64 z)]] => some (.need (z = 0 ∧ 0 ≤ a ∧ a ≤ s.size ∧ s.size ≤ 1000000) (.leaf (.v (.string (s.extract a.toNat s.size)), [.own [.v (.string s), .v (.int .i64 s.size), .v (.int .i64 0)]])))
  | _, _ => none
theorem ext_size (s : ByteArray) (a k : Int) (h : 0 ≤ a ∧ 1 ≤ k ∧ k ≤ 7 ∧ a + k ≤ s.size) : (s.extract a.toNat (a + k).toNat).size = k.toNat := by rw [ByteArray.size_extract]; omega
set_option maxRecDepth 100000 in
theorem fCutNum_ok : EntryOk Try.prog 119 fCutNum := by
  intro ss H t ht bs B w vs hm hv Qs hq
  unfold fCutNum at ht
  split at ht
  · rename_i k s a z
    simp only [Option.some.injEq] at ht
    subst ht
    obtain ⟨⟨rfl, q1, q2, q3, q4, q5⟩, hq⟩ := hq
    refine trimT_ok (both_ok SOct_ok FCut2_ok) follows Try.func119 (by kernel_rfl) (by kernel_rfl) (noloops (by kernel_rfl)) (num_run s a k) hm hv ?_
    have e1 : IntKind.i64.wrap (a + k) = a + k := w64 _ (by omega) (by omega)
    have e2 : IntKind.i64.wrap ((s.size : Int) - a) = (s.size : Int) - a := w64 _ (by omega) (by omega)
    have e3 : IntKind.i64.wrap (a + k - k) = a := by rw [w64 _ (by omega) (by omega)]; omega
    have e4 := ext_size s a k ⟨q1, q2, q3, q4⟩
    have e5 := (wrap_valU (s.extract a.toNat (a + k).toNat) 7 (by omega) (by omega)).1
    simp only [e1, e2, e3, e5, T.ok, decide_eq_true_eq, decide_eq_false_iff_not, Bool.true_eq_false, Bool.false_eq_true, reduceCtorEq, false_implies, true_implies, and_true, true_and]
    repeat' (first | refine And.intro ?_ ?_ | intro _)
    all_goals first | omega | exact hq
  · cases ht
set_option maxRecDepth 100000 in
theorem fCutRest_ok : EntryOk Try.prog 89 fCutRest := by
  intro ss H t ht bs B w vs hm hv Qs hq
  unfold fCutRest at ht
  split at ht
  · rename_i s a z
    simp only [Option.some.injEq] at ht
    subst ht
    obtain ⟨⟨rfl, q1, q4, q5⟩, hq⟩ := hq
    refine trimT_ok (both_ok noS_ok FCut2_ok) follows Try.func89 (by kernel_rfl) (by kernel_rfl) (noloops (by kernel_rfl)) (rest_run s a) hm hv ?_
    have e2 : IntKind.i64.wrap ((s.size : Int) - a) = (s.size : Int) - a := w64 _ (by omega) (by omega)
    have e1 : IntKind.i64.wrap (a + ((s.size : Int) - a)) = s.size := by rw [w64 _ (by omega) (by omega)]; omega
    have e3 : IntKind.i64.wrap ((s.size : Int) - ((s.size : Int) - a)) = a := by rw [w64 _ (by omega) (by omega)]; omega
    simp only [e2, e1, e3, T.ok, decide_eq_true_eq, decide_eq_false_iff_not, Bool.true_eq_false, Bool.false_eq_true, reduceCtorEq, false_implies, true_implies, and_true, true_and, Int.toNat_natCast]
    repeat' (first | refine And.intro ?_ ?_ | intro _)
    all_goals first | omega | exact hq
  · cases ht
def fCutLeft : List SV → List Blk → Option (T (SV × List Blk))
  | [.ptr 0 0], [.own [.v (.string s), .v (.int .i64 a), .v (.int .i64 z)]] => some (.need (0 ≤ a ∧ a ≤ s.size ∧ s.size ≤ 1000000) (.leaf (.v (.int .i64 ((s.size : Int) - a)), [.own [.v (.string s), .v (.int .i64 a), .v (.int .i64 z)]])))
  | _, _ => none
set_option maxRecDepth 100000 in
theorem left_run (s : ByteArray) (a z : Int) : trimT 1 (runF Try.prog (onlyS Try.prog noS) noL Try.f123 (Try.f123.body.getD .skip) [.ptr 0 0] [.own [.v (.string s), .v (.int .i64 a), .v (.int .i64 z)]]) = .leaf (.v (.int .i64 (IntKind.i64.wrap ((↑s.size : Int) - a))), [.own [.v (.string s), .v (.int .i64 a), .v (.int .i64 z)]]) := by kernel_rfl
set_option maxRecDepth 100000 in
theorem fCutLeft_ok : EntryOk Try.prog 123 fCutLeft := by
  intro ss H t ht bs B w vs hm hv Qs hq
  unfold fCutLeft at ht
  split at ht
  · rename_i s a z
    simp only [Option.some.injEq] at ht
    subst ht
    obtain ⟨⟨q1, q2, q3⟩, hq⟩ := hq
    refine trimT_ok (onlyS_ok noS_ok) follows Try.func123 (by kernel_rfl) (by kernel_rfl) (noloops (by kernel_rfl)) (left_run s a z) hm hv ?_
    have e2 : IntKind.i64.wrap ((s.size : Int) - a) = (s.size : Int) - a := w64 _ (by omega) (by omega)
    rw [e2]
    exact hq
  · cases ht
end Go.Proofs.Ytodfcalaggfldaa
namespace Go.Proofs.Ytodfcalaggfldaa
set_option linter.unusedVariables false
set_option linter.unusedSimpArgs false
open Go.RowKit Sym Sha Go.ChangeShapes Go.WideShapes Go.ChangeMaps

set_option maxRecDepth 100000 in
theorem num0_run (s : ByteArray) (a k : Int) : trimT 1 (runF Try.prog (both Try.prog SOct (FCut2 Try.prog Try.f129 Try.f123 Try.f122) [129, 122]) noL Try.f119 (Try.f119.body.getD .skip) [.ptr 0 0, .v (.int .i64 k)] [.own [.v (.string s), .v (.int .i64 a), .c (.int .i64 0)]]) = .ite (decide (k < (1 : Int))) (.leaf (.c (.int .i64 0), [.own [.v (.string s), .v (.int .i64 a), .c (.int .i64 3)]])) (.ite (decide (k > (7 : Int))) (.leaf (.c (.int .i64 0), [.own [.v (.string s), .v (.int .i64 a), .c (.int .i64 3)]])) (.ite (decide (k > IntKind.i64.wrap ((↑s.size : Int) - a))) (.leaf (.c (.int .i64 0), [.own [.v (.string s), .v (.int .i64 a), .c (.int .i64 1)]])) (.ite (decide (k < (0 : Int))) (.need (0 ≤ 9223372036854775807) (.leaf (.v (.int .i64 0), [.own [.v (.string s), .v (.int .i64 a), .c (.int .i64 3)]]))) (.ite (decide (k > IntKind.i64.wrap ((↑s.size : Int) - a))) (.need (0 ≤ 9223372036854775807) (.leaf (.v (.int .i64 0), [.own [.v (.string s), .v (.int .i64 a), .c (.int .i64 1)]]))) (.need ((0 : Int) ≤ IntKind.i64.wrap (IntKind.i64.wrap (a + k) - k) ∧ IntKind.i64.wrap (IntKind.i64.wrap (a + k) - k) ≤ IntKind.i64.wrap (a + k) ∧ IntKind.i64.wrap (a + k) ≤ (↑s.size : Int)) (.need ((s.extract (IntKind.i64.wrap (IntKind.i64.wrap (a + k) - k)).toNat (IntKind.i64.wrap (a + k)).toNat).size ≤ 9223372036854775807) (.leaf (.v (.int .i64 (wrap64 (valU (s.extract (IntKind.i64.wrap (IntKind.i64.wrap (a + k) - k)).toNat (IntKind.i64.wrap (a + k)).toNat)))), [.own [.v (.string s), .v (.int .i64 (IntKind.i64.wrap (a + k))), .c (.int .i64 0)]])))))))) := by kernel_rfl
set_option maxRecDepth 100000 in
theorem num1_run (s : ByteArray) (a k : Int) : trimT 1 (runF Try.prog (both Try.prog SOct (FCut2 Try.prog Try.f129 Try.f123 Try.f122) [129, 122]) noL Try.f119 (Try.f119.body.getD .skip) [.ptr 0 0, .v (.int .i64 k)] [.own [.v (.string s), .v (.int .i64 a), .c (.int .i64 1)]]) = .ite (decide (k < (1 : Int))) (.leaf (.c (.int .i64 0), [.own [.v (.string s), .v (.int .i64 a), .c (.int .i64 1)]])) (.leaf (.c (.int .i64 0), [.own [.v (.string s), .v (.int .i64 a), .c (.int .i64 1)]])) := by kernel_rfl
set_option maxRecDepth 100000 in
theorem bytes0_run (s : ByteArray) (a k : Int) : trimT 1 (runF Try.prog (both Try.prog noS (FCut1 Try.prog Try.f129 Try.f123) [129]) noL Try.f122 (Try.f122.body.getD .skip) [.ptr 0 0, .v (.int .i64 k)] [.own [.v (.string s), .v (.int .i64 a), .c (.int .i64 0)]]) = .ite (decide (k < (0 : Int))) (.leaf (SV.c (Value.string (ByteArray.mk (Array.mk []))), [.own [.v (.string s), .v (.int .i64 a), .c (.int .i64 3)]])) (.ite (decide (k > IntKind.i64.wrap ((↑s.size : Int) - a))) (.leaf (SV.c (Value.string (ByteArray.mk (Array.mk []))), [.own [.v (.string s), .v (.int .i64 a), .c (.int .i64 1)]])) (.need ((0 : Int) ≤ IntKind.i64.wrap (IntKind.i64.wrap (a + k) - k) ∧ IntKind.i64.wrap (IntKind.i64.wrap (a + k) - k) ≤ IntKind.i64.wrap (a + k) ∧ IntKind.i64.wrap (a + k) ≤ (↑s.size : Int)) (.leaf (.v (.string (s.extract (IntKind.i64.wrap (IntKind.i64.wrap (a + k) - k)).toNat (IntKind.i64.wrap (a + k)).toNat)), [.own [.v (.string s), .v (.int .i64 (IntKind.i64.wrap (a + k))), .c (.int .i64 0)]])))) := by kernel_rfl
set_option maxRecDepth 100000 in
theorem bytes1_run (s : ByteArray) (a k : Int) : trimT 1 (runF Try.prog (both Try.prog noS (FCut1 Try.prog Try.f129 Try.f123) [129]) noL Try.f122 (Try.f122.body.getD .skip) [.ptr 0 0, .v (.int .i64 k)] [.own [.v (.string s), .v (.int .i64 a), .c (.int .i64 1)]]) = .leaf (SV.c (Value.string (ByteArray.mk (Array.mk []))), [.own [.v (.string s), .v (.int .i64 a), .c (.int .i64 1)]]) := by kernel_rfl


/-- the first two cells as any values, the third one as it is -/
def cutOpen : List Blk → Option (ByteArray × Int × Int)
  | [.own [s0, a0, .c (.int .i64 e)]] => (match openS s0, openS a0 with
    | .v (.string s), .v (.int .i64 a) => some (s, a, e)
    | _, _ => none)
  | _ => none
theorem cutOpen_mem {w0 : World} {bs : List Nat} {H : List Blk} {B : List Value} {w : World} {s : ByteArray} {a e : Int} (h : cutOpen H = some (s, a, e)) (hm : Mem w0 bs H B w) : Mem w0 bs [.own [.v (.string s), .v (.int .i64 a), .c (.int .i64 e)]] B w := by
  unfold cutOpen at h
  split at h
  · rename_i s0 a0 e0
    split at h
    · rename_i s' a' hs ha
      simp only [Option.some.injEq, Prod.mk.injEq] at h
      obtain ⟨rfl, rfl, rfl⟩ := h
      obtain ⟨u, hu⟩ := hm.sat.getB (k := 0) rfl
      obtain ⟨b, vs, rfl, h2, h3⟩ := hm.sat.blk 0 _ u rfl hu
      have hsat : BlkSat B w (.pointer (some ⟨b, 0, none⟩)) (.own [.v (.string s'), .v (.int .i64 a'), .c (.int .i64 e0)]) := by
        refine ⟨b, vs, rfl, ?_, h3⟩
        rw [← h2]
        simp only [SV.tos]
        rw [← openS_to s0, ← openS_to a0, hs, ha]
      exact hm.upd (k := 0) (x := .own [s0, a0, .c (.int .i64 e0)]) rfl rfl hu (grown_self w _) rfl hsat
    · cases h
  · cases h
def ownC (s : ByteArray) (a e : Int) : List Blk := [.own [.v (.string s), .v (.int .i64 a), .c (.int .i64 e)]]
def fNumC : List SV → List Blk → Option (T (SV × List Blk))
  | [.ptr 0 0, k0], H => match openS k0, cutOpen H with
    | .v (.int .i64 k), some (s, a, 0) => some (.need (0 ≤ a ∧ a ≤ s.size ∧ 1 ≤ k ∧ k ≤ 7 ∧ s.size ≤ 1000000) (.ite (decide (a + k ≤ s.size)) (.leaf (.v (.int .i64 (valU (s.extract a.toNat (a + k).toNat))), ownC s (a + k) 0)) (.leaf (.c (.int .i64 0), ownC s a 1))))
    | .v (.int .i64 k), some (s, a, 1) => some (.need (1 ≤ k) (.leaf (.c (.int .i64 0), ownC s a 1)))
    | _, _ => none
  | _, _ => none
def fBytesC : List SV → List Blk → Option (T (SV × List Blk))
  | [.ptr 0 0, k0], H => match openS k0, cutOpen H with
    | .v (.int .i64 k), some (s, a, 0) => some (.need (0 ≤ a ∧ a ≤ s.size ∧ 0 ≤ k ∧ k ≤ 1000000 ∧ s.size ≤ 1000000) (.ite (decide (a + k ≤ s.size)) (.leaf (.v (.string (s.extract a.toNat (a + k).toNat)), ownC s (a + k) 0)) (.leaf (.c (.string ⟨⟨[]⟩⟩), ownC s a 1))))
    | .v (.int .i64 _), some (s, a, 1) => some (.leaf (.c (.string ⟨⟨[]⟩⟩), ownC s a 1))
    | _, _ => none
  | _, _ => none
def fDoneC : List SV → List Blk → Option (T (SV × List Blk))
  | [.ptr 0 0], H => match cutOpen H with
    | some (s, a, 0) => some (.need (0 ≤ a ∧ a ≤ s.size ∧ s.size ≤ 1000000) (.ite (decide (a < s.size)) (.leaf (.c (.int .i64 2), ownC s a 0)) (.leaf (.c (.int .i64 0), ownC s a 0))))
    | some (s, a, 1) => some (.leaf (.c (.int .i64 1), ownC s a 1))
    | _ => none
  | _, _ => none
end Go.Proofs.Ytodfcalaggfldaa
namespace Go.Proofs.Ytodfcalaggfldaa
set_option linter.unusedVariables false
set_option linter.unusedSimpArgs false
open Go.RowKit Sym Sha Go.ChangeShapes Go.WideShapes Go.ChangeMaps

theorem ext_sizeC (s : ByteArray) (a k : Int) (h : 0 ≤ a ∧ 1 ≤ k ∧ k ≤ 7 ∧ a + k ≤ s.size) : (s.extract a.toNat (a + k).toNat).size = k.toNat := by rw [ByteArray.size_extract]; omega
theorem opens2 {B : List Value} {s0 k0 s1 : SV} {vs : List Value} (h : SV.tos B [s0, k0] = some vs) (e : openS k0 = s1) : SV.tos B [s0, s1] = some vs := by
  rw [← h]; simp only [SV.tos]; rw [← openS_to k0, e]
set_option maxRecDepth 100000 in
theorem fNumC_ok : EntryOk Try.prog 119 fNumC := by
  intro ss H t ht bs B w vs hm hv Qs hq
  unfold fNumC at ht
  split at ht
  · split at ht
    · rename_i k s a hk hc
      simp only [Option.some.injEq] at ht
      subst ht
      obtain ⟨⟨q1, q2, q3, q4, q5⟩, hq⟩ := hq
      refine trimT_ok (both_ok SOct_ok FCut2_ok) follows Try.func119 (by kernel_rfl) (by kernel_rfl) (noloops (by kernel_rfl)) (num0_run s a k) (cutOpen_mem hc hm) (opens2 hv hk) ?_
      have e2 : IntKind.i64.wrap ((s.size : Int) - a) = (s.size : Int) - a := w64 _ (by omega) (by omega)
      have e1 : IntKind.i64.wrap (a + k) = a + k := w64 _ (by omega) (by omega)
      have e3 : IntKind.i64.wrap (a + k - k) = a := by rw [w64 _ (by omega) (by omega)]; omega
      rw [e2, e1, e3]
      by_cases hs : a + k ≤ s.size
      · have e4 := ext_sizeC s a k ⟨q1, q3, q4, hs⟩
        have e5 := (wrap_valU (s.extract a.toNat (a + k).toNat) 7 (by omega) (by omega)).1
        rw [e5]
        have hq := hq.1 (decide_eq_true hs)
        simp only [T.ok, decide_eq_true_eq, decide_eq_false_iff_not]
        repeat' (first | refine And.intro ?_ ?_ | intro _)
        all_goals first | omega | exact hq
      · have hq := hq.2 (decide_eq_false hs)
        simp only [T.ok, decide_eq_true_eq, decide_eq_false_iff_not]
        repeat' (first | refine And.intro ?_ ?_ | intro _)
        all_goals first | omega | exact hq
    · rename_i k s a hk hc
      simp only [Option.some.injEq] at ht
      subst ht
      obtain ⟨q1, hq⟩ := hq
      refine trimT_ok (both_ok SOct_ok FCut2_ok) follows Try.func119 (by kernel_rfl) (by kernel_rfl) (noloops (by kernel_rfl)) (num1_run s a k) (cutOpen_mem hc hm) (opens2 hv hk) ?_
      exact ⟨fun _ => hq, fun _ => hq⟩
    · cases ht
  · cases ht
set_option maxRecDepth 100000 in
theorem fBytesC_ok : EntryOk Try.prog 122 fBytesC := by
  intro ss H t ht bs B w vs hm hv Qs hq
  unfold fBytesC at ht
  split at ht
  · split at ht
    · rename_i k s a hk hc
      simp only [Option.some.injEq] at ht
      subst ht
      obtain ⟨⟨q1, q2, q3, q4, q5⟩, hq⟩ := hq
      refine trimT_ok (both_ok noS_ok FCut1_ok) follows Try.func122 (by kernel_rfl) (by kernel_rfl) (noloops (by kernel_rfl)) (bytes0_run s a k) (cutOpen_mem hc hm) (opens2 hv hk) ?_
      have e2 : IntKind.i64.wrap ((s.size : Int) - a) = (s.size : Int) - a := w64 _ (by omega) (by omega)
      have e1 : IntKind.i64.wrap (a + k) = a + k := w64 _ (by omega) (by omega)
      have e3 : IntKind.i64.wrap (a + k - k) = a := by rw [w64 _ (by omega) (by omega)]; omega
      rw [e2, e1, e3]
      by_cases hs : a + k ≤ s.size
      · have hq := hq.1 (decide_eq_true hs)
        simp only [T.ok, decide_eq_true_eq, decide_eq_false_iff_not]
        repeat' (first | refine And.intro ?_ ?_ | intro _)
        all_goals first | omega | exact hq
      · have hq := hq.2 (decide_eq_false hs)
        simp only [T.ok, decide_eq_true_eq, decide_eq_false_iff_not]
        repeat' (first | refine And.intro ?_ ?_ | intro _)
        all_goals first | omega | exact hq
    · rename_i k s a hk hc
      simp only [Option.some.injEq] at ht
      subst ht
      exact trimT_ok (both_ok noS_ok FCut1_ok) follows Try.func122 (by kernel_rfl) (by kernel_rfl) (noloops (by kernel_rfl)) (bytes1_run s a k) (cutOpen_mem hc hm) (opens2 hv hk) hq
    · cases ht
  · cases ht
end Go.Proofs.Ytodfcalaggfldaa
namespace Go.Proofs.Ytodfcalaggfldaa
set_option linter.unusedVariables false
set_option linter.unusedSimpArgs false
open Go.RowKit Sym Sha Go.ChangeShapes Go.WideShapes Go.ChangeMaps

set_option maxRecDepth 100000 in
theorem newC_run (s : ByteArray) : runF Try.prog (onlyS Try.prog noS) noL Try.f85 (Try.f85.body.getD .skip) [.v (.string s)] [] = .leaf (.ptr 0 0, [.own [.v (.string s), .v (.int .i64 0), .v (.int .i64 0)]]) := by kernel_rfl
def fNewC : List SV → List Blk → Option (T (SV × List Blk))
  | [s0], [] => match openS s0 with
    | .v (.string s) => some (.leaf (.ptr 0 0, ownC s 0 0))
    | _ => none
  | _, _ => none
theorem own_same {w0 : World} {bs : List Nat} {B : List Value} {w : World} {l l' : List SV} (h : SV.tos B l = SV.tos B l') (hm : Mem w0 bs [.own l] B w) : Mem w0 bs [.own l'] B w := by
  obtain ⟨u, hu⟩ := hm.sat.getB (k := 0) rfl
  obtain ⟨b, vs, rfl, h2, h3⟩ := hm.sat.blk 0 _ u rfl hu
  exact hm.upd (k := 0) (x := .own l) (y := .own l') rfl rfl hu (grown_self w _) rfl ⟨b, vs, rfl, by rw [← h]; exact h2, h3⟩
set_option maxRecDepth 100000 in
theorem fNewC_ok : EntryOk Try.prog 85 fNewC := by
  intro ss H t ht bs B w vs hm hv Qs hq
  unfold fNewC at ht
  split at ht
  · rename_i s0
    split at ht
    · rename_i s hs
      simp only [Option.some.injEq] at ht
      subst ht
      have hv' : SV.tos B [.v (.string s)] = some vs := by
        rw [← hv]; simp only [SV.tos]; rw [← openS_to s0, hs]
      have key := inl_ok (onlyS_ok noS_ok) follows Try.func85 (by kernel_rfl) (by kernel_rfl) (noloops (by kernel_rfl)) [.v (.string s)] [] _ rfl bs B w vs hm hv' (fun r => r = (.ptr 0 0, [.own [.v (.string s), .v (.int .i64 0), .v (.int .i64 0)]])) (by rw [newC_run]; exact rfl)
      refine key.mono ?_
      rintro e w' ⟨s1, H1, B1, x, hr, hp, he, hx, hm'⟩
      simp only [Prod.mk.injEq] at hr
      obtain ⟨rfl, rfl⟩ := hr
      exact ⟨_, _, B1, x, hq, hp, he, hx, own_same (l := [.v (.string s), .v (.int .i64 0), .v (.int .i64 0)]) rfl hm'⟩
    · cases ht
  · cases ht
end Go.Proofs.Ytodfcalaggfldaa
