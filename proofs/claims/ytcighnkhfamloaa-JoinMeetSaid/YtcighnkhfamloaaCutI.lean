/- Bytes that are read from the front on: where they begin. No conditions. -/
import Derived.Test.YtcighnkhfamloaaCutH
namespace Go.Proofs.Ytcighnkhfamloaa
set_option linter.unusedVariables false
set_option linter.unusedSimpArgs false
open Go.RowKit Sym Sha Go.ChangeShapes Go.WideShapes Go.ChangeMaps

set_option maxRecDepth 100000 in
theorem newC_run (s : ByteArray) : runF Try.prog (onlyS Try.prog noS) noL Try.f79 (Try.f79.body.getD .skip) [.v (.string s)] [] = T.leaf (SV.ptr (0 : Nat) (0 : Nat), [Blk.own [SV.v (Value.string s), SV.v (Value.int IntKind.i64 (0 : Int)), SV.v (Value.int IntKind.i64 (0 : Int))]]) := by kernel_rfl
def fNewC : List SV → List Blk → Option (T (SV × List Blk))
  | [s0], [] => match openS s0 with
    | .v (.string s) => some (.leaf (.ptr 0 0, ownC s 0 0))
    | _ => none
  | _, _ => none
theorem own_same {w0 : World} {bs : List Nat} {B : List Value} {w : World} {l l' : List SV} (h : SV.tos B l = SV.tos B l') (hm : Mem w0 bs [.own l] B w) : Mem w0 bs [.own l'] B w := by
  obtain ⟨u, hu⟩ := hm.sat.getB (k := 0) rfl
  obtain ⟨b, vs, rfl, h2, h3⟩ := hm.sat.blk 0 _ u rfl hu
  exact hm.upd (k := 0) (x := .own l) (y := .own l') rfl rfl hu (grown_self w _) rfl ⟨b, vs, rfl, by rw [← h]; exact h2, h3⟩
set_option maxRecDepth 100000 in
theorem fNewC_ok : EntryOk Try.prog 79 fNewC := by
  intro ss H t ht bs B w vs hm hv Qs hq
  unfold fNewC at ht
  split at ht
  · rename_i s0
    split at ht
    · rename_i s hs
      simp only [Option.some.injEq] at ht
      subst ht
      have hv' : SV.tos B [.v (.string s)] = some vs := by
        rw [← hv]; simp only [SV.tos]; rw [← openS_to s0, hs]
      have key := inl_ok (onlyS_ok noS_ok) follows Try.func79 (by kernel_rfl) (by kernel_rfl) (noloops (by kernel_rfl)) [.v (.string s)] [] _ rfl bs B w vs hm hv' (fun r => r = (.ptr 0 0, [.own [.v (.string s), .v (.int .i64 0), .v (.int .i64 0)]])) (by rw [newC_run]; exact rfl)
      refine key.mono ?_
      rintro e w' ⟨s1, H1, B1, x, hr, hp, he, hx, hm'⟩
      simp only [Prod.mk.injEq] at hr
      obtain ⟨rfl, rfl⟩ := hr
      exact ⟨_, _, B1, x, hq, hp, he, hx, own_same (l := [.v (.string s), .v (.int .i64 0), .v (.int .i64 0)]) rfl hm'⟩
    · cases ht
  · cases ht
def FCutC : LTab := addT 79 fNewC <| addT 80 fNumC <| addT 81 fBytesC <| addT 82 fDoneC noF
theorem FCutC_ok : LOk Try.prog FCutC :=
  addT_ok (addT_ok (addT_ok (addT_ok noF_ok (by kernel_rfl) fDoneC_ok) (by kernel_rfl) fBytesC_ok) (by kernel_rfl) fNumC_ok) (by kernel_rfl) fNewC_ok
abbrev CCut (P : Program) (S : Tab) : Cfg := both P S FCutC [79, 80, 81, 82]
end Go.Proofs.Ytcighnkhfamloaa
