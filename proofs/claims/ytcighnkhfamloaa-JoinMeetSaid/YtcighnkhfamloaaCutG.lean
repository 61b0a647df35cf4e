/- Bytes that are read from the front on: also where too few are left. No conditions. -/
import Derived.Test.YtcighnkhfamloaaCutF
import Derived.Test.YtcighnkhfamloaaSymG
namespace Go.Proofs.Ytcighnkhfamloaa
set_option linter.unusedVariables false
set_option linter.unusedSimpArgs false
open Go.RowKit Sym Sha Go.ChangeShapes Go.WideShapes Go.ChangeMaps

set_option maxRecDepth 100000 in
theorem num0_run (s : ByteArray) (a k : Int) : trimT 1 (runF Try.prog (both Try.prog SOct (FCut2 Try.prog Try.f148 Try.f150 Try.f81) [148, 81]) noL Try.f80 (Try.f80.body.getD .skip) [.ptr 0 0, .v (.int .i64 k)] [.own [.v (.string s), .v (.int .i64 a), .c (.int .i64 0)]]) = T.ite (decide (k < (1 : Int))) (T.leaf (SV.c (Value.int IntKind.i64 (0 : Int)), [Blk.own [SV.v (Value.string s), SV.v (Value.int IntKind.i64 a), SV.c (Value.int IntKind.i64 (3 : Int))]])) (T.ite (decide (k > (7 : Int))) (T.leaf (SV.c (Value.int IntKind.i64 (0 : Int)), [Blk.own [SV.v (Value.string s), SV.v (Value.int IntKind.i64 a), SV.c (Value.int IntKind.i64 (3 : Int))]])) (T.ite (decide (k > IntKind.i64.wrap ((↑s.size : Int) - a))) (T.leaf (SV.c (Value.int IntKind.i64 (0 : Int)), [Blk.own [SV.v (Value.string s), SV.v (Value.int IntKind.i64 a), SV.c (Value.int IntKind.i64 (1 : Int))]])) (T.ite (decide (k < (0 : Int))) (T.need ((0 : Nat) ≤ (9223372036854775807 : Nat)) (T.leaf (SV.v (Value.int IntKind.i64 (0 : Int)), [Blk.own [SV.v (Value.string s), SV.v (Value.int IntKind.i64 a), SV.c (Value.int IntKind.i64 (3 : Int))]]))) (T.ite (decide (k > IntKind.i64.wrap ((↑s.size : Int) - a))) (T.need ((0 : Nat) ≤ (9223372036854775807 : Nat)) (T.leaf (SV.v (Value.int IntKind.i64 (0 : Int)), [Blk.own [SV.v (Value.string s), SV.v (Value.int IntKind.i64 a), SV.c (Value.int IntKind.i64 (1 : Int))]]))) (T.need ((0 : Int) ≤ IntKind.i64.wrap (IntKind.i64.wrap (a + k) - k) ∧ IntKind.i64.wrap (IntKind.i64.wrap (a + k) - k) ≤ IntKind.i64.wrap (a + k) ∧ IntKind.i64.wrap (a + k) ≤ (↑s.size : Int)) (T.need ((s.extract (IntKind.i64.wrap (IntKind.i64.wrap (a + k) - k)).toNat (IntKind.i64.wrap (a + k)).toNat).size ≤ (9223372036854775807 : Nat)) (T.leaf (SV.v (Value.int IntKind.i64 (wrap64 (valU (s.extract (IntKind.i64.wrap (IntKind.i64.wrap (a + k) - k)).toNat (IntKind.i64.wrap (a + k)).toNat)))), [Blk.own [SV.v (Value.string s), SV.v (Value.int IntKind.i64 (IntKind.i64.wrap (a + k))), SV.c (Value.int IntKind.i64 (0 : Int))]])))))))) := by kernel_rfl
set_option maxRecDepth 100000 in
theorem num1_run (s : ByteArray) (a k : Int) : trimT 1 (runF Try.prog (both Try.prog SOct (FCut2 Try.prog Try.f148 Try.f150 Try.f81) [148, 81]) noL Try.f80 (Try.f80.body.getD .skip) [.ptr 0 0, .v (.int .i64 k)] [.own [.v (.string s), .v (.int .i64 a), .c (.int .i64 1)]]) = T.ite (decide (k < (1 : Int))) (T.leaf (SV.c (Value.int IntKind.i64 (0 : Int)), [Blk.own [SV.v (Value.string s), SV.v (Value.int IntKind.i64 a), SV.c (Value.int IntKind.i64 (1 : Int))]])) (T.leaf (SV.c (Value.int IntKind.i64 (0 : Int)), [Blk.own [SV.v (Value.string s), SV.v (Value.int IntKind.i64 a), SV.c (Value.int IntKind.i64 (1 : Int))]])) := by kernel_rfl
set_option maxRecDepth 100000 in
theorem bytes0_run (s : ByteArray) (a k : Int) : trimT 1 (runF Try.prog (both Try.prog noS (FCut1 Try.prog Try.f148 Try.f150) [148]) noL Try.f81 (Try.f81.body.getD .skip) [.ptr 0 0, .v (.int .i64 k)] [.own [.v (.string s), .v (.int .i64 a), .c (.int .i64 0)]]) = T.ite (decide (k < (0 : Int))) (T.leaf (SV.c (Value.string (ByteArray.mk (Array.mk []))), [Blk.own [SV.v (Value.string s), SV.v (Value.int IntKind.i64 a), SV.c (Value.int IntKind.i64 (3 : Int))]])) (T.ite (decide (k > IntKind.i64.wrap ((↑s.size : Int) - a))) (T.leaf (SV.c (Value.string (ByteArray.mk (Array.mk []))), [Blk.own [SV.v (Value.string s), SV.v (Value.int IntKind.i64 a), SV.c (Value.int IntKind.i64 (1 : Int))]])) (T.need ((0 : Int) ≤ IntKind.i64.wrap (IntKind.i64.wrap (a + k) - k) ∧ IntKind.i64.wrap (IntKind.i64.wrap (a + k) - k) ≤ IntKind.i64.wrap (a + k) ∧ IntKind.i64.wrap (a + k) ≤ (↑s.size : Int)) (T.leaf (SV.v (Value.string (s.extract (IntKind.i64.wrap (IntKind.i64.wrap (a + k) - k)).toNat (IntKind.i64.wrap (a + k)).toNat)), [Blk.own [SV.v (Value.string s), SV.v (Value.int IntKind.i64 (IntKind.i64.wrap (a + k))), SV.c (Value.int IntKind.i64 (0 : Int))]])))) := by kernel_rfl
set_option maxRecDepth 100000 in
theorem bytes1_run (s : ByteArray) (a k : Int) : trimT 1 (runF Try.prog (both Try.prog noS (FCut1 Try.prog Try.f148 Try.f150) [148]) noL Try.f81 (Try.f81.body.getD .skip) [.ptr 0 0, .v (.int .i64 k)] [.own [.v (.string s), .v (.int .i64 a), .c (.int .i64 1)]]) = T.leaf (SV.c (Value.string (ByteArray.mk (Array.mk []))), [Blk.own [SV.v (Value.string s), SV.v (Value.int IntKind.i64 a), SV.c (Value.int IntKind.i64 (1 : Int))]]) := by kernel_rfl
set_option maxRecDepth 100000 in
theorem done0_run (s : ByteArray) (a : Int) : trimT 1 (runF Try.prog (both Try.prog noS (FCut1 Try.prog Try.f148 Try.f150) [150]) noL Try.f82 (Try.f82.body.getD .skip) [.ptr 0 0] [.own [.v (.string s), .v (.int .i64 a), .c (.int .i64 0)]]) = T.ite (decide (IntKind.i64.wrap ((↑s.size : Int) - a) > (0 : Int))) (T.leaf (SV.c (Value.int IntKind.i64 (2 : Int)), [Blk.own [SV.v (Value.string s), SV.v (Value.int IntKind.i64 a), SV.c (Value.int IntKind.i64 (0 : Int))]])) (T.leaf (SV.c (Value.int IntKind.i64 (0 : Int)), [Blk.own [SV.v (Value.string s), SV.v (Value.int IntKind.i64 a), SV.c (Value.int IntKind.i64 (0 : Int))]])) := by kernel_rfl
set_option maxRecDepth 100000 in
theorem done1_run (s : ByteArray) (a : Int) : trimT 1 (runF Try.prog (both Try.prog noS (FCut1 Try.prog Try.f148 Try.f150) [150]) noL Try.f82 (Try.f82.body.getD .skip) [.ptr 0 0] [.own [.v (.string s), .v (.int .i64 a), .c (.int .i64 1)]]) = T.leaf (SV.c (Value.int IntKind.i64 (1 : Int)), [Blk.own [SV.v (Value.string s), SV.v (Value.int IntKind.i64 a), SV.c (Value.int IntKind.i64 (1 : Int))]]) := by kernel_rfl
/-- the first two cells as any values, the third one as it is -/
def cutOpen : List Blk → Option (ByteArray × Int × Int)
  | [.own [s0, a0, .c (.int .i64 e)]] => (match openS s0, openS a0 with
    | .v (.string s), .v (.int .i64 a) => some (s, a, e)
    | _, _ => none)
  | _ => none
theorem cutOpen_mem {w0 : World} {bs : List Nat} {H : List Blk} {B : List Value} {w : World} {s : ByteArray} {a e : Int} (h : cutOpen H = some (s, a, e)) (hm : Mem w0 bs H B w) : Mem w0 bs [.own [.v (.string s), .v (.int .i64 a), .c (.int .i64 e)]] B w := by
  unfold cutOpen at h
  split at h
  · rename_i s0 a0 e0
    split at h
    · rename_i s' a' hs ha
      simp only [Option.some.injEq, Prod.mk.injEq] at h
      obtain ⟨rfl, rfl, rfl⟩ := h
      obtain ⟨u, hu⟩ := hm.sat.getB (k := 0) rfl
      obtain ⟨b, vs, rfl, h2, h3⟩ := hm.sat.blk 0 _ u rfl hu
      have hsat : BlkSat B w (.pointer (some ⟨b, 0, none⟩)) (.own [.v (.string s'), .v (.int .i64 a'), .c (.int .i64 e0)]) := by
        refine ⟨b, vs, rfl, ?_, h3⟩
        rw [← h2]
        simp only [SV.tos]
        rw [← openS_to s0, ← openS_to a0, hs, ha]
      exact hm.upd (k := 0) (x := .own [s0, a0, .c (.int .i64 e0)]) rfl rfl hu (grown_self w _) rfl hsat
    · cases h
  · cases h
def ownC (s : ByteArray) (a e : Int) : List Blk := [.own [.v (.string s), .v (.int .i64 a), .c (.int .i64 e)]]
def fNumC : List SV → List Blk → Option (T (SV × List Blk))
  | [.ptr 0 0, k0], H => match openS k0, cutOpen H with
    | .v (.int .i64 k), some (s, a, 0) => some (.need (0 ≤ a ∧ a ≤ s.size ∧ 1 ≤ k ∧ k ≤ 7 ∧ s.size ≤ 1000000) (.ite (decide (a + k ≤ s.size)) (.leaf (.v (.int .i64 (valU (s.extract a.toNat (a + k).toNat))), ownC s (a + k) 0)) (.leaf (.c (.int .i64 0), ownC s a 1))))
    | .v (.int .i64 k), some (s, a, 1) => some (.need (1 ≤ k) (.leaf (.c (.int .i64 0), ownC s a 1)))
    | _, _ => none
  | _, _ => none
def fBytesC : List SV → List Blk → Option (T (SV × List Blk))
  | [.ptr 0 0, k0], H => match openS k0, cutOpen H with
    | .v (.int .i64 k), some (s, a, 0) => some (.need (0 ≤ a ∧ a ≤ s.size ∧ 0 ≤ k ∧ k ≤ 1000000 ∧ s.size ≤ 1000000) (.ite (decide (a + k ≤ s.size)) (.leaf (.v (.string (s.extract a.toNat (a + k).toNat)), ownC s (a + k) 0)) (.leaf (.c (.string ⟨⟨[]⟩⟩), ownC s a 1))))
    | .v (.int .i64 _), some (s, a, 1) => some (.leaf (.c (.string ⟨⟨[]⟩⟩), ownC s a 1))
    | _, _ => none
  | _, _ => none
def fDoneC : List SV → List Blk → Option (T (SV × List Blk))
  | [.ptr 0 0], H => match cutOpen H with
    | some (s, a, 0) => some (.need (0 ≤ a ∧ a ≤ s.size ∧ s.size ≤ 1000000) (.ite (decide (a < s.size)) (.leaf (.c (.int .i64 2), ownC s a 0)) (.leaf (.c (.int .i64 0), ownC s a 0))))
    | some (s, a, 1) => some (.leaf (.c (.int .i64 1), ownC s a 1))
    | _ => none
  | _, _ => none
end Go.Proofs.Ytcighnkhfamloaa
