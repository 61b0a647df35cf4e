/-
  No cell of these rows narrows 'for every input' (looked for: loops, veiled, ifaces, maps, wideKeys, modest, calm, conditions, laid).
  DERIVED. THE GIVEN ROWS OF THIS SEAT. 12 by the template 'for every input the law returns true; each argument reads behind the call as it read before'; 0 by the template 'total and deterministic' (their statements: YtnhfhnphmjhamaaTotals.lean).
  GIVEN WITH THE SEED: the statements are not yours to turn. If you find one false, say at which input.
  Laid BY PROGRAM, IN A SANDBOX (cutbox-rows.mjs): the forced cells as the released guide's own fill.sh prints them over the translation 4996cd0f345b7e39… (all of the seat's roots in one cut). By AI agents, Wed Nov 11 2026. No macro, syntax, notation, axiom, sorry.
-/
import Derived.Test.YtnhfhnphmjhamaaChecked
import GoSem.Claim
import GoSem.ClaimJoined
import GoSem.ClaimMapViews
import Derived.JoinedTies
import Derived.KernelRfl
namespace Go.Proofs.Ytnhfhnphmjhamaa
/- THE CELL 'sum', in the pinned program and in every row, IS THE sha256 OF THE DUMP (.gsa) THAT YtnhfhnphmjhamaaProg.lean LOADS. Nothing in Lean hashes anything: it is a label: what it is worth is what the hold of that sum in a sandbox is worth. -/
noncomputable def Try.pinned : Pinned := { name := "ytnhfhnphmjhamaa", sum := "4996cd0f345b7e3924ad0a7910663ff374d830bd1ca5ffb5d4d6b94d13fbde07", checked := Try.checked }
namespace Rows
def none {H : Type} : Left H := { results := [], args := [] }

/-- 'anabranchlaw41.BoundReckons': WHATEVER THE INPUT: true; the input reads as it did. -/
def boundReckonsSpec : ChangeSpec := { name := "boundReckons", fn := fun _ => fun
  | [d] => { results := [.lit (.bool true)], args := [d] }
  | _ => none }
def boundReckonsRow : OpenClaim := { program := "ytnhfhnphmjhamaa", sum := "4996cd0f345b7e3924ad0a7910663ff374d830bd1ca5ffb5d4d6b94d13fbde07", func := "anabranch/anabranchlaw41.BoundReckons", spec := "boundReckons", apart := false }
def BoundReckonsSaid : Prop := boundReckonsRow.holds Try.pinned (OpenSpec.ofChange boundReckonsSpec)

/-- ITS FALSE NEIGHBOUR: 'it returns false'. Refute it at one input. -/
def boundReckonsWrong : ChangeSpec := { name := "boundReckons", fn := fun _ => fun
  | [d] => { results := [.lit (.bool false)], args := [d] }
  | _ => none }
def BoundReckonsWrongFalsely : Prop := boundReckonsRow.holds Try.pinned (OpenSpec.ofChange boundReckonsWrong)

/-- 'anabranchlaw14.SpanNext': WHATEVER THE INPUT: true; the input reads as it did. -/
def spanNextSpec : ChangeSpec := { name := "spanNext", fn := fun _ => fun
  | [d1, d2] => { results := [.lit (.bool true)], args := [d1, d2] }
  | _ => none }
def spanNextRow : OpenClaim := { program := "ytnhfhnphmjhamaa", sum := "4996cd0f345b7e3924ad0a7910663ff374d830bd1ca5ffb5d4d6b94d13fbde07", func := "anabranch/anabranchlaw14.SpanNext", spec := "spanNext", apart := false }
def SpanNextSaid : Prop := spanNextRow.holds Try.pinned (OpenSpec.ofChange spanNextSpec)

/-- ITS FALSE NEIGHBOUR: 'it returns false'. Refute it at one input. -/
def spanNextWrong : ChangeSpec := { name := "spanNext", fn := fun _ => fun
  | [d1, d2] => { results := [.lit (.bool false)], args := [d1, d2] }
  | _ => none }
def SpanNextWrongFalsely : Prop := spanNextRow.holds Try.pinned (OpenSpec.ofChange spanNextWrong)

/-- 'anabranchlaw14.SpanForth': WHATEVER THE INPUT: true; the input reads as it did. -/
def spanForthSpec : ChangeSpec := { name := "spanForth", fn := fun _ => fun
  | [d1, d2, d3] => { results := [.lit (.bool true)], args := [d1, d2, d3] }
  | _ => none }
def spanForthRow : OpenClaim := { program := "ytnhfhnphmjhamaa", sum := "4996cd0f345b7e3924ad0a7910663ff374d830bd1ca5ffb5d4d6b94d13fbde07", func := "anabranch/anabranchlaw14.SpanForth", spec := "spanForth", apart := false }
def SpanForthSaid : Prop := spanForthRow.holds Try.pinned (OpenSpec.ofChange spanForthSpec)

/-- ITS FALSE NEIGHBOUR: 'it returns false'. Refute it at one input. -/
def spanForthWrong : ChangeSpec := { name := "spanForth", fn := fun _ => fun
  | [d1, d2, d3] => { results := [.lit (.bool false)], args := [d1, d2, d3] }
  | _ => none }
def SpanForthWrongFalsely : Prop := spanForthRow.holds Try.pinned (OpenSpec.ofChange spanForthWrong)

/-- 'anabranchlaw44.AuditTells': WHATEVER THE INPUT: true; the input reads as it did. -/
def auditTellsSpec : ChangeSpec := { name := "auditTells", fn := fun _ => fun
  | [d1, d2] => { results := [.lit (.bool true)], args := [d1, d2] }
  | _ => none }
def auditTellsRow : OpenClaim := { program := "ytnhfhnphmjhamaa", sum := "4996cd0f345b7e3924ad0a7910663ff374d830bd1ca5ffb5d4d6b94d13fbde07", func := "anabranch/anabranchlaw44.AuditTells", spec := "auditTells", apart := false }
def AuditTellsSaid : Prop := auditTellsRow.holds Try.pinned (OpenSpec.ofChange auditTellsSpec)

/-- ITS FALSE NEIGHBOUR: 'it returns false'. Refute it at one input. -/
def auditTellsWrong : ChangeSpec := { name := "auditTells", fn := fun _ => fun
  | [d1, d2] => { results := [.lit (.bool false)], args := [d1, d2] }
  | _ => none }
def AuditTellsWrongFalsely : Prop := auditTellsRow.holds Try.pinned (OpenSpec.ofChange auditTellsWrong)

/-- 'anabranchlaw09.HeadPuts': WHATEVER THE INPUT: true; the input reads as it did. -/
def headPutsSpec : ChangeSpec := { name := "headPuts", fn := fun _ => fun
  | [d1, d2] => { results := [.lit (.bool true)], args := [d1, d2] }
  | _ => none }
def headPutsRow : OpenClaim := { program := "ytnhfhnphmjhamaa", sum := "4996cd0f345b7e3924ad0a7910663ff374d830bd1ca5ffb5d4d6b94d13fbde07", func := "anabranch/anabranchlaw09.HeadPuts", spec := "headPuts", apart := false }
def HeadPutsSaid : Prop := headPutsRow.holds Try.pinned (OpenSpec.ofChange headPutsSpec)

/-- ITS FALSE NEIGHBOUR: 'it returns false'. Refute it at one input. -/
def headPutsWrong : ChangeSpec := { name := "headPuts", fn := fun _ => fun
  | [d1, d2] => { results := [.lit (.bool false)], args := [d1, d2] }
  | _ => none }
def HeadPutsWrongFalsely : Prop := headPutsRow.holds Try.pinned (OpenSpec.ofChange headPutsWrong)

/-- 'anabranchlaw09.HeadGets': WHATEVER THE INPUT: true; the input reads as it did. -/
def headGetsSpec : ChangeSpec := { name := "headGets", fn := fun _ => fun
  | [d] => { results := [.lit (.bool true)], args := [d] }
  | _ => none }
def headGetsRow : OpenClaim := { program := "ytnhfhnphmjhamaa", sum := "4996cd0f345b7e3924ad0a7910663ff374d830bd1ca5ffb5d4d6b94d13fbde07", func := "anabranch/anabranchlaw09.HeadGets", spec := "headGets", apart := false }
def HeadGetsSaid : Prop := headGetsRow.holds Try.pinned (OpenSpec.ofChange headGetsSpec)

/-- ITS FALSE NEIGHBOUR: 'it returns false'. Refute it at one input. -/
def headGetsWrong : ChangeSpec := { name := "headGets", fn := fun _ => fun
  | [d] => { results := [.lit (.bool false)], args := [d] }
  | _ => none }
def HeadGetsWrongFalsely : Prop := headGetsRow.holds Try.pinned (OpenSpec.ofChange headGetsWrong)

/-- 'anabranchlaw09.HeadTells': WHATEVER THE INPUT: true; the input reads as it did. -/
def headTellsSpec : ChangeSpec := { name := "headTells", fn := fun _ => fun
  | [d1, d2] => { results := [.lit (.bool true)], args := [d1, d2] }
  | _ => none }
def headTellsRow : OpenClaim := { program := "ytnhfhnphmjhamaa", sum := "4996cd0f345b7e3924ad0a7910663ff374d830bd1ca5ffb5d4d6b94d13fbde07", func := "anabranch/anabranchlaw09.HeadTells", spec := "headTells", apart := false }
def HeadTellsSaid : Prop := headTellsRow.holds Try.pinned (OpenSpec.ofChange headTellsSpec)

/-- ITS FALSE NEIGHBOUR: 'it returns false'. Refute it at one input. -/
def headTellsWrong : ChangeSpec := { name := "headTells", fn := fun _ => fun
  | [d1, d2] => { results := [.lit (.bool false)], args := [d1, d2] }
  | _ => none }
def HeadTellsWrongFalsely : Prop := headTellsRow.holds Try.pinned (OpenSpec.ofChange headTellsWrong)

/-- 'anabranchlaw05.ShaOf': WHATEVER THE INPUT: true; the input reads as it did. -/
def shaOfSpec : ChangeSpec := { name := "shaOf", fn := fun _ => fun
  | [d] => { results := [.lit (.bool true)], args := [d] }
  | _ => none }
def shaOfRow : OpenClaim := { program := "ytnhfhnphmjhamaa", sum := "4996cd0f345b7e3924ad0a7910663ff374d830bd1ca5ffb5d4d6b94d13fbde07", func := "anabranch/anabranchlaw05.ShaOf", spec := "shaOf", inPlace := ["internal/abi.NoEscape", "internal/bytealg.MakeNoZero"], apart := false }
def ShaOfSaid : Prop := shaOfRow.holds Try.pinned (OpenSpec.ofChange shaOfSpec)

/-- ITS FALSE NEIGHBOUR: 'it returns false'. Refute it at one input. -/
def shaOfWrong : ChangeSpec := { name := "shaOf", fn := fun _ => fun
  | [d] => { results := [.lit (.bool false)], args := [d] }
  | _ => none }
def ShaOfWrongFalsely : Prop := shaOfRow.holds Try.pinned (OpenSpec.ofChange shaOfWrong)

/-- 'anabranchlaw05.ShaPieces': WHATEVER THE INPUT: true; the input reads as it did. -/
def shaPiecesSpec : ChangeSpec := { name := "shaPieces", fn := fun _ => fun
  | [d] => { results := [.lit (.bool true)], args := [d] }
  | _ => none }
def shaPiecesRow : OpenClaim := { program := "ytnhfhnphmjhamaa", sum := "4996cd0f345b7e3924ad0a7910663ff374d830bd1ca5ffb5d4d6b94d13fbde07", func := "anabranch/anabranchlaw05.ShaPieces", spec := "shaPieces", inPlace := ["internal/abi.NoEscape", "internal/bytealg.MakeNoZero"], apart := false }
def ShaPiecesSaid : Prop := shaPiecesRow.holds Try.pinned (OpenSpec.ofChange shaPiecesSpec)

/-- ITS FALSE NEIGHBOUR: 'it returns false'. Refute it at one input. -/
def shaPiecesWrong : ChangeSpec := { name := "shaPieces", fn := fun _ => fun
  | [d] => { results := [.lit (.bool false)], args := [d] }
  | _ => none }
def ShaPiecesWrongFalsely : Prop := shaPiecesRow.holds Try.pinned (OpenSpec.ofChange shaPiecesWrong)

/-- 'anabranchlaw05.ShaEdges': WHATEVER THE INPUT: true; the input reads as it did. -/
def shaEdgesSpec : ChangeSpec := { name := "shaEdges", fn := fun _ => fun
  | [d1, d2] => { results := [.lit (.bool true)], args := [d1, d2] }
  | _ => none }
def shaEdgesRow : OpenClaim := { program := "ytnhfhnphmjhamaa", sum := "4996cd0f345b7e3924ad0a7910663ff374d830bd1ca5ffb5d4d6b94d13fbde07", func := "anabranch/anabranchlaw05.ShaEdges", spec := "shaEdges", inPlace := ["internal/abi.NoEscape", "internal/bytealg.MakeNoZero"], apart := false }
def ShaEdgesSaid : Prop := shaEdgesRow.holds Try.pinned (OpenSpec.ofChange shaEdgesSpec)

/-- ITS FALSE NEIGHBOUR: 'it returns false'. Refute it at one input. -/
def shaEdgesWrong : ChangeSpec := { name := "shaEdges", fn := fun _ => fun
  | [d1, d2] => { results := [.lit (.bool false)], args := [d1, d2] }
  | _ => none }
def ShaEdgesWrongFalsely : Prop := shaEdgesRow.holds Try.pinned (OpenSpec.ofChange shaEdgesWrong)

/-- 'anabranchlaw06.MacOf': WHATEVER THE INPUT: true; the input reads as it did. -/
def macOfSpec : ChangeSpec := { name := "macOf", fn := fun _ => fun
  | [d1, d2] => { results := [.lit (.bool true)], args := [d1, d2] }
  | _ => none }
def macOfRow : OpenClaim := { program := "ytnhfhnphmjhamaa", sum := "4996cd0f345b7e3924ad0a7910663ff374d830bd1ca5ffb5d4d6b94d13fbde07", func := "anabranch/anabranchlaw06.MacOf", spec := "macOf", inPlace := ["internal/abi.NoEscape", "internal/bytealg.MakeNoZero"], unfollowed := true, recurses := true, apart := false }
def MacOfSaid : Prop := macOfRow.holds Try.pinned (OpenSpec.ofChange macOfSpec)

/-- ITS FALSE NEIGHBOUR: 'it returns false'. Refute it at one input. -/
def macOfWrong : ChangeSpec := { name := "macOf", fn := fun _ => fun
  | [d1, d2] => { results := [.lit (.bool false)], args := [d1, d2] }
  | _ => none }
def MacOfWrongFalsely : Prop := macOfRow.holds Try.pinned (OpenSpec.ofChange macOfWrong)

/-- 'anabranchlaw06.MacLong': WHATEVER THE INPUT: true; the input reads as it did. -/
def macLongSpec : ChangeSpec := { name := "macLong", fn := fun _ => fun
  | [d1, d2, d3] => { results := [.lit (.bool true)], args := [d1, d2, d3] }
  | _ => none }
def macLongRow : OpenClaim := { program := "ytnhfhnphmjhamaa", sum := "4996cd0f345b7e3924ad0a7910663ff374d830bd1ca5ffb5d4d6b94d13fbde07", func := "anabranch/anabranchlaw06.MacLong", spec := "macLong", inPlace := ["internal/abi.NoEscape", "internal/bytealg.MakeNoZero"], unfollowed := true, recurses := true, apart := false }
def MacLongSaid : Prop := macLongRow.holds Try.pinned (OpenSpec.ofChange macLongSpec)

/-- ITS FALSE NEIGHBOUR: 'it returns false'. Refute it at one input. -/
def macLongWrong : ChangeSpec := { name := "macLong", fn := fun _ => fun
  | [d1, d2, d3] => { results := [.lit (.bool false)], args := [d1, d2, d3] }
  | _ => none }
def MacLongWrongFalsely : Prop := macLongRow.holds Try.pinned (OpenSpec.ofChange macLongWrong)

/- THE SECOND FORM. 'bulk': how many values and letters a reading holds, each counted each time it is reached (what is shared counts as often as it is met; a slice's spare places count too). A statement '..UptoSaid' is the law's where the arguments, and the package variables that the reading takes, are together of bulk at most 1048576: NARROWER than '..Said'. Prove '..Said' where nothing that the law and all that it calls make is longer than what came in: it says more and counts as full. Else prove '..UptoSaid'. A law counts once. -/
mutual
def uptoBulk {H : Type} : DataW H → Nat
  | .lit (.string bytes) => bytes.length + 1
  | .lit _ => 1
  | .nil => 1
  | .ptr d => uptoBulk d + 1
  | .slice elems spare => uptoBulkAll elems + uptoBulkAll spare + 1
  | .agg parts => uptoBulkAll parts + 1
  | .iface _ d => uptoBulk d + 1
  | .map entries => uptoBulkEntries entries + 1
  | .held _ => 1
def uptoBulkAll {H : Type} : List (DataW H) → Nat
  | [] => 0
  | d :: r => uptoBulk d + uptoBulkAll r
def uptoBulkEntries {H : Type} : List (Lit × DataW H) → Nat
  | [] => 0
  | x :: r => uptoBulkEntry x + uptoBulkEntries r
def uptoBulkEntry {H : Type} : Lit × DataW H → Nat
  | (.string bytes, d) => bytes.length + uptoBulk d + 1
  | (_, d) => uptoBulk d + 1
 end
def uptoSmall : (H : Type) → List (DataW H) → Bool := fun _ ds => decide (uptoBulkAll ds ≤ 1048576)
def OpenSpec.upto (s : _root_.Go.ChangeSpec) : _root_.Go.OpenSpec := { _root_.Go.OpenSpec.ofChange s with cond := some uptoSmall }

/-- 'anabranchlaw41.BoundReckons', WHERE WHAT IT READS IS OF BULK AT MOST 1048576: true; the input reads as it did. -/
def boundReckonsUptoRow : OpenClaim := { program := "ytnhfhnphmjhamaa", sum := "4996cd0f345b7e3924ad0a7910663ff374d830bd1ca5ffb5d4d6b94d13fbde07", func := "anabranch/anabranchlaw41.BoundReckons", spec := "boundReckons", apart := false, narrowed := true }
def BoundReckonsUptoSaid : Prop := boundReckonsUptoRow.holds Try.pinned (OpenSpec.upto boundReckonsSpec)

/-- 'anabranchlaw14.SpanNext', WHERE WHAT IT READS IS OF BULK AT MOST 1048576: true; the input reads as it did. -/
def spanNextUptoRow : OpenClaim := { program := "ytnhfhnphmjhamaa", sum := "4996cd0f345b7e3924ad0a7910663ff374d830bd1ca5ffb5d4d6b94d13fbde07", func := "anabranch/anabranchlaw14.SpanNext", spec := "spanNext", apart := false, narrowed := true }
def SpanNextUptoSaid : Prop := spanNextUptoRow.holds Try.pinned (OpenSpec.upto spanNextSpec)

/-- 'anabranchlaw14.SpanForth', WHERE WHAT IT READS IS OF BULK AT MOST 1048576: true; the input reads as it did. -/
def spanForthUptoRow : OpenClaim := { program := "ytnhfhnphmjhamaa", sum := "4996cd0f345b7e3924ad0a7910663ff374d830bd1ca5ffb5d4d6b94d13fbde07", func := "anabranch/anabranchlaw14.SpanForth", spec := "spanForth", apart := false, narrowed := true }
def SpanForthUptoSaid : Prop := spanForthUptoRow.holds Try.pinned (OpenSpec.upto spanForthSpec)

/-- 'anabranchlaw44.AuditTells', WHERE WHAT IT READS IS OF BULK AT MOST 1048576: true; the input reads as it did. -/
def auditTellsUptoRow : OpenClaim := { program := "ytnhfhnphmjhamaa", sum := "4996cd0f345b7e3924ad0a7910663ff374d830bd1ca5ffb5d4d6b94d13fbde07", func := "anabranch/anabranchlaw44.AuditTells", spec := "auditTells", apart := false, narrowed := true }
def AuditTellsUptoSaid : Prop := auditTellsUptoRow.holds Try.pinned (OpenSpec.upto auditTellsSpec)

/-- 'anabranchlaw09.HeadPuts', WHERE WHAT IT READS IS OF BULK AT MOST 1048576: true; the input reads as it did. -/
def headPutsUptoRow : OpenClaim := { program := "ytnhfhnphmjhamaa", sum := "4996cd0f345b7e3924ad0a7910663ff374d830bd1ca5ffb5d4d6b94d13fbde07", func := "anabranch/anabranchlaw09.HeadPuts", spec := "headPuts", apart := false, narrowed := true }
def HeadPutsUptoSaid : Prop := headPutsUptoRow.holds Try.pinned (OpenSpec.upto headPutsSpec)

/-- 'anabranchlaw09.HeadGets', WHERE WHAT IT READS IS OF BULK AT MOST 1048576: true; the input reads as it did. -/
def headGetsUptoRow : OpenClaim := { program := "ytnhfhnphmjhamaa", sum := "4996cd0f345b7e3924ad0a7910663ff374d830bd1ca5ffb5d4d6b94d13fbde07", func := "anabranch/anabranchlaw09.HeadGets", spec := "headGets", apart := false, narrowed := true }
def HeadGetsUptoSaid : Prop := headGetsUptoRow.holds Try.pinned (OpenSpec.upto headGetsSpec)

/-- 'anabranchlaw09.HeadTells', WHERE WHAT IT READS IS OF BULK AT MOST 1048576: true; the input reads as it did. -/
def headTellsUptoRow : OpenClaim := { program := "ytnhfhnphmjhamaa", sum := "4996cd0f345b7e3924ad0a7910663ff374d830bd1ca5ffb5d4d6b94d13fbde07", func := "anabranch/anabranchlaw09.HeadTells", spec := "headTells", apart := false, narrowed := true }
def HeadTellsUptoSaid : Prop := headTellsUptoRow.holds Try.pinned (OpenSpec.upto headTellsSpec)

/-- 'anabranchlaw05.ShaOf', WHERE WHAT IT READS IS OF BULK AT MOST 1048576: true; the input reads as it did. -/
def shaOfUptoRow : OpenClaim := { program := "ytnhfhnphmjhamaa", sum := "4996cd0f345b7e3924ad0a7910663ff374d830bd1ca5ffb5d4d6b94d13fbde07", func := "anabranch/anabranchlaw05.ShaOf", spec := "shaOf", inPlace := ["internal/abi.NoEscape", "internal/bytealg.MakeNoZero"], apart := false, narrowed := true }
def ShaOfUptoSaid : Prop := shaOfUptoRow.holds Try.pinned (OpenSpec.upto shaOfSpec)

/-- 'anabranchlaw05.ShaPieces', WHERE WHAT IT READS IS OF BULK AT MOST 1048576: true; the input reads as it did. -/
def shaPiecesUptoRow : OpenClaim := { program := "ytnhfhnphmjhamaa", sum := "4996cd0f345b7e3924ad0a7910663ff374d830bd1ca5ffb5d4d6b94d13fbde07", func := "anabranch/anabranchlaw05.ShaPieces", spec := "shaPieces", inPlace := ["internal/abi.NoEscape", "internal/bytealg.MakeNoZero"], apart := false, narrowed := true }
def ShaPiecesUptoSaid : Prop := shaPiecesUptoRow.holds Try.pinned (OpenSpec.upto shaPiecesSpec)

/-- 'anabranchlaw05.ShaEdges', WHERE WHAT IT READS IS OF BULK AT MOST 1048576: true; the input reads as it did. -/
def shaEdgesUptoRow : OpenClaim := { program := "ytnhfhnphmjhamaa", sum := "4996cd0f345b7e3924ad0a7910663ff374d830bd1ca5ffb5d4d6b94d13fbde07", func := "anabranch/anabranchlaw05.ShaEdges", spec := "shaEdges", inPlace := ["internal/abi.NoEscape", "internal/bytealg.MakeNoZero"], apart := false, narrowed := true }
def ShaEdgesUptoSaid : Prop := shaEdgesUptoRow.holds Try.pinned (OpenSpec.upto shaEdgesSpec)

/-- 'anabranchlaw06.MacOf', WHERE WHAT IT READS IS OF BULK AT MOST 1048576: true; the input reads as it did. -/
def macOfUptoRow : OpenClaim := { program := "ytnhfhnphmjhamaa", sum := "4996cd0f345b7e3924ad0a7910663ff374d830bd1ca5ffb5d4d6b94d13fbde07", func := "anabranch/anabranchlaw06.MacOf", spec := "macOf", inPlace := ["internal/abi.NoEscape", "internal/bytealg.MakeNoZero"], unfollowed := true, recurses := true, apart := false, narrowed := true }
def MacOfUptoSaid : Prop := macOfUptoRow.holds Try.pinned (OpenSpec.upto macOfSpec)

/-- 'anabranchlaw06.MacLong', WHERE WHAT IT READS IS OF BULK AT MOST 1048576: true; the input reads as it did. -/
def macLongUptoRow : OpenClaim := { program := "ytnhfhnphmjhamaa", sum := "4996cd0f345b7e3924ad0a7910663ff374d830bd1ca5ffb5d4d6b94d13fbde07", func := "anabranch/anabranchlaw06.MacLong", spec := "macLong", inPlace := ["internal/abi.NoEscape", "internal/bytealg.MakeNoZero"], unfollowed := true, recurses := true, apart := false, narrowed := true }
def MacLongUptoSaid : Prop := macLongUptoRow.holds Try.pinned (OpenSpec.upto macLongSpec)

end Rows
end Go.Proofs.Ytnhfhnphmjhamaa
