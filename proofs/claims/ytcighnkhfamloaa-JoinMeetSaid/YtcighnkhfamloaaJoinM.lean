/- Who has the keys is let in: tables. No conditions. -/
import Derived.Test.YtcighnkhfamloaaJoinV
namespace Go.Proofs.Ytcighnkhfamloaa
set_option linter.unusedVariables false
set_option linter.unusedSimpArgs false
open Go.RowKit Sym Sha Go.ChangeShapes Go.WideShapes Go.ChangeMaps

def SMeet (P : Program) (fKnown fExtra : Func) (xe : List (Nat × Spot × List Int)) (tg : ByteArray → ByteArray → ByteArray → ByteArray) (tk : ByteArray → ByteArray → Int) : Tab := addS 13 tTrue29 <| addS 15 tRead (SJoinV P fKnown fExtra xe tg tk)
theorem SMeet_ok (xe : List (Nat × Spot × List Int)) : TabOk Try.prog (SMeet Try.prog Try.f31 Try.f17 xe tagP tokP) := by
  refine addS_ok (addS_ok (SJoinV_ok xe) (by kernel_rfl) ?_) (by kernel_rfl) ?_
  · (intro xs p v h hp w; unfold tRead at h; (split at h) <;> first | (cases h; done) | (simp only [Option.some.injEq, Prod.mk.injEq] at h; obtain ⟨rfl, rfl⟩ := h; exact join_read _ (hp _ (List.mem_cons_self ..)) w))
  · (intro xs p v h hp w; unfold tTrue29 at h; (split at h) <;> first | (cases h; done) | (simp only [Option.some.injEq, Prod.mk.injEq] at h; obtain ⟨rfl, rfl⟩ := h; exact works29 w))
def FMeet (P : Program) (S : Tab) (x : XS) (fFirst fLet fHeard fAsked fAsk fAnswer fGreet fGreat : Func) : LTab := addT 14 (inlU P (onlyS P noS) fGreat 1) (FV3 P S x fFirst fLet fHeard fAsked fAsk fAnswer fGreet)
theorem FMeet_ok {S : Tab} (hS : TabOk Try.prog S) (x : XS) : LOk Try.prog (FMeet Try.prog S x Try.f92 Try.f29 Try.f27 Try.f23 Try.f21 Try.f28 Try.f30 Try.f14) :=
  addT_ok (FV3_ok hS x) (by kernel_rfl) (inlU_ok (onlyS_ok noS_ok) 1 Try.func14 (by kernel_rfl) (by kernel_rfl) (by kernel_rfl) (by kernel_rfl) (by kernel_rfl))
abbrev CMeet (P : Program) (S : Tab) (x : XS) (fFirst fLet fHeard fAsked fAsk fAnswer fGreet fGreat : Func) (xs : XL) (ms : List (Nat × List Nat)) : Cfg := bothM P S (FMeet P S x fFirst fLet fHeard fAsked fAsk fAnswer fGreet fGreat) (14 :: fsV) xs ms
def ms29 : List (Nat × List Nat) := [(18, [5, 6, 11, 12, 13, 14, 15, 16, 17]), (20, [13, 15, 16, 17, 19, 20, 21])]
def xe1 : XL := [(2, .slot 8 [], [1])]
def xe2 : XL := [(2, .slot 8 [], [2])]
def hNo : Hint := fun _ => none
def hKey1 : Hint := fun k => match k with | 3 => some 1 | _ => none
def hKey0 : Hint := fun k => match k with | 3 => some 0 | _ => none
def xFst : XS := ⟨[1], hNo, true, [1], [(1, .slot 17 [], [1]), (4, .slot 37 [], [0])], hKey1, true, [1], [(1, .slot 13 [], [1])], hKey0, [(4, .slot 17 [], [0])]⟩
def xDeaf : XS := ⟨[1], hNo, true, [0], [(1, .slot 17 [], [1]), (4, .slot 37 [], [1])], hNo, false, [0], [(1, .slot 13 [], [0])], hNo, []⟩
def xPln : XS := ⟨[0], hNo, false, [0], [(1, .slot 17 [], [0])], hNo, false, [0], [(1, .slot 13 [], [0])], hNo, []⟩
end Go.Proofs.Ytcighnkhfamloaa
