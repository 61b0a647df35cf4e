/-
  No cell of these rows narrows 'for every input' (looked for: loops, veiled, ifaces, maps, wideKeys, modest, calm, conditions, laid).
  DERIVED. THE GIVEN ROWS OF THIS SEAT. 3 by the template 'for every input the law returns true; each argument reads behind the call as it read before'; 0 by the template 'total and deterministic' (their statements: YtopeaafcepgnhaaGreatTotals.lean).
  GIVEN WITH THE SEED: the statements are not yours to turn. If you find one false, say at which input.
  Laid BY PROGRAM, IN A SANDBOX (cutbox-rows.mjs): the forced cells as the released guide's own fill.sh prints them over the translation 8bdb1654d7a17d3d… (all of the seat's roots in one cut). By AI agents, Wed Nov 11 2026. No macro, syntax, notation, axiom, sorry.
-/
import Derived.Test.YtopeaafcepgnhaaGreatChecked
import GoSem.Claim
import GoSem.ClaimJoined
import GoSem.ClaimMapViews
import Derived.JoinedTies
import Derived.KernelRfl
namespace Go.Proofs.YtopeaafcepgnhaaGreat
/- THE CELL 'sum', in the pinned program and in every row, IS THE sha256 OF THE DUMP (.gsa) THAT YtopeaafcepgnhaaGreatProg.lean LOADS. Nothing in Lean hashes anything: it is a label: what it is worth is what the hold of that sum in a sandbox is worth. -/
noncomputable def Tryz.pinned : Pinned := { name := "ytopeaafcepgnhaagreat", sum := "8bdb1654d7a17d3de3f8f86b1aacb88e96b9614ea0f504ff5899e11b1687cf5f", checked := Tryz.checked }
namespace Rows
def none {H : Type} : Left H := { results := [], args := [] }

/-- 'anabranchlaw24.ConnDoes': WHATEVER THE INPUT: true; the input reads as it did. -/
def connDoesSpec : ChangeSpec := { name := "connDoes", fn := fun _ => fun
  | [d1, d2, d3, d4] => { results := [.lit (.bool true)], args := [d1, d2, d3, d4] }
  | _ => none }
def connDoesRow : OpenClaim := { program := "ytopeaafcepgnhaagreat", sum := "8bdb1654d7a17d3de3f8f86b1aacb88e96b9614ea0f504ff5899e11b1687cf5f", func := "anabranch/anabranchlaw24.ConnDoes", spec := "connDoes", unfollowed := true, recurses := true, apart := false }
def ConnDoesSaid : Prop := connDoesRow.holds Tryz.pinned (OpenSpec.ofChange connDoesSpec)

/-- ITS FALSE NEIGHBOUR: 'it returns false'. Refute it at one input. -/
def connDoesWrong : ChangeSpec := { name := "connDoes", fn := fun _ => fun
  | [d1, d2, d3, d4] => { results := [.lit (.bool false)], args := [d1, d2, d3, d4] }
  | _ => none }
def ConnDoesWrongFalsely : Prop := connDoesRow.holds Tryz.pinned (OpenSpec.ofChange connDoesWrong)

/-- 'anabranchlaw24.ConnNumbers': WHATEVER THE INPUT: true; the input reads as it did. -/
def connNumbersSpec : ChangeSpec := { name := "connNumbers", fn := fun _ => fun
  | [d1, d2, d3] => { results := [.lit (.bool true)], args := [d1, d2, d3] }
  | _ => none }
def connNumbersRow : OpenClaim := { program := "ytopeaafcepgnhaagreat", sum := "8bdb1654d7a17d3de3f8f86b1aacb88e96b9614ea0f504ff5899e11b1687cf5f", func := "anabranch/anabranchlaw24.ConnNumbers", spec := "connNumbers", unfollowed := true, recurses := true, apart := false }
def ConnNumbersSaid : Prop := connNumbersRow.holds Tryz.pinned (OpenSpec.ofChange connNumbersSpec)

/-- ITS FALSE NEIGHBOUR: 'it returns false'. Refute it at one input. -/
def connNumbersWrong : ChangeSpec := { name := "connNumbers", fn := fun _ => fun
  | [d1, d2, d3] => { results := [.lit (.bool false)], args := [d1, d2, d3] }
  | _ => none }
def ConnNumbersWrongFalsely : Prop := connNumbersRow.holds Tryz.pinned (OpenSpec.ofChange connNumbersWrong)

/-- 'anabranchlaw24.ConnEnds': WHATEVER THE INPUT: true; the input reads as it did. -/
def connEndsSpec : ChangeSpec := { name := "connEnds", fn := fun _ => fun
  | [d1, d2, d3] => { results := [.lit (.bool true)], args := [d1, d2, d3] }
  | _ => none }
def connEndsRow : OpenClaim := { program := "ytopeaafcepgnhaagreat", sum := "8bdb1654d7a17d3de3f8f86b1aacb88e96b9614ea0f504ff5899e11b1687cf5f", func := "anabranch/anabranchlaw24.ConnEnds", spec := "connEnds", unfollowed := true, recurses := true, apart := false }
def ConnEndsSaid : Prop := connEndsRow.holds Tryz.pinned (OpenSpec.ofChange connEndsSpec)

/-- ITS FALSE NEIGHBOUR: 'it returns false'. Refute it at one input. -/
def connEndsWrong : ChangeSpec := { name := "connEnds", fn := fun _ => fun
  | [d1, d2, d3] => { results := [.lit (.bool false)], args := [d1, d2, d3] }
  | _ => none }
def ConnEndsWrongFalsely : Prop := connEndsRow.holds Tryz.pinned (OpenSpec.ofChange connEndsWrong)

/- THE SECOND FORM. 'bulk': how many values and letters a reading holds, each counted each time it is reached (what is shared counts as often as it is met; a slice's spare places count too). A statement '..UptoSaid' is the law's where the arguments, and the package variables that the reading takes, are together of bulk at most 1048576: NARROWER than '..Said'. Prove '..Said' where nothing that the law and all that it calls make is longer than what came in: it says more and counts as full. Else prove '..UptoSaid'. A law counts once. -/
mutual
def uptoBulk {H : Type} : DataW H → Nat
  | .lit (.string bytes) => bytes.length + 1
  | .lit _ => 1
  | .nil => 1
  | .ptr d => uptoBulk d + 1
  | .slice elems spare => uptoBulkAll elems + uptoBulkAll spare + 1
  | .agg parts => uptoBulkAll parts + 1
  | .iface _ d => uptoBulk d + 1
  | .map entries => uptoBulkEntries entries + 1
  | .held _ => 1
def uptoBulkAll {H : Type} : List (DataW H) → Nat
  | [] => 0
  | d :: r => uptoBulk d + uptoBulkAll r
def uptoBulkEntries {H : Type} : List (Lit × DataW H) → Nat
  | [] => 0
  | x :: r => uptoBulkEntry x + uptoBulkEntries r
def uptoBulkEntry {H : Type} : Lit × DataW H → Nat
  | (.string bytes, d) => bytes.length + uptoBulk d + 1
  | (_, d) => uptoBulk d + 1
 end
def uptoSmall : (H : Type) → List (DataW H) → Bool := fun _ ds => decide (uptoBulkAll ds ≤ 1048576)
def OpenSpec.upto (s : _root_.Go.ChangeSpec) : _root_.Go.OpenSpec := { _root_.Go.OpenSpec.ofChange s with cond := some uptoSmall }

/-- 'anabranchlaw24.ConnDoes', WHERE WHAT IT READS IS OF BULK AT MOST 1048576: true; the input reads as it did. -/
def connDoesUptoRow : OpenClaim := { program := "ytopeaafcepgnhaagreat", sum := "8bdb1654d7a17d3de3f8f86b1aacb88e96b9614ea0f504ff5899e11b1687cf5f", func := "anabranch/anabranchlaw24.ConnDoes", spec := "connDoes", unfollowed := true, recurses := true, apart := false, narrowed := true }
def ConnDoesUptoSaid : Prop := connDoesUptoRow.holds Tryz.pinned (OpenSpec.upto connDoesSpec)

/-- 'anabranchlaw24.ConnNumbers', WHERE WHAT IT READS IS OF BULK AT MOST 1048576: true; the input reads as it did. -/
def connNumbersUptoRow : OpenClaim := { program := "ytopeaafcepgnhaagreat", sum := "8bdb1654d7a17d3de3f8f86b1aacb88e96b9614ea0f504ff5899e11b1687cf5f", func := "anabranch/anabranchlaw24.ConnNumbers", spec := "connNumbers", unfollowed := true, recurses := true, apart := false, narrowed := true }
def ConnNumbersUptoSaid : Prop := connNumbersUptoRow.holds Tryz.pinned (OpenSpec.upto connNumbersSpec)

/-- 'anabranchlaw24.ConnEnds', WHERE WHAT IT READS IS OF BULK AT MOST 1048576: true; the input reads as it did. -/
def connEndsUptoRow : OpenClaim := { program := "ytopeaafcepgnhaagreat", sum := "8bdb1654d7a17d3de3f8f86b1aacb88e96b9614ea0f504ff5899e11b1687cf5f", func := "anabranch/anabranchlaw24.ConnEnds", spec := "connEnds", unfollowed := true, recurses := true, apart := false, narrowed := true }
def ConnEndsUptoSaid : Prop := connEndsUptoRow.holds Tryz.pinned (OpenSpec.upto connEndsSpec)

end Rows
end Go.Proofs.YtopeaafcepgnhaaGreat
