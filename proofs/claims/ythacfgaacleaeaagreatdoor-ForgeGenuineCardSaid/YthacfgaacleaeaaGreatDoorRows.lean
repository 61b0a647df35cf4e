/-
  NARROWER THAN 'FOR EVERY INPUT', by the rows' own cells (each row's printed sentence says how): ForgeChecks: laid · ForgeBytes: laid · ForgeNone: laid · ForgeJoins: laid · ForgeGenuine: laid.
  DERIVED. THE GIVEN ROWS OF THIS SEAT. 5 by the template 'for every input the law returns true; each argument reads behind the call as it read before'; 0 by the template 'total and deterministic' (their statements: YthacfgaacleaeaaGreatDoorTotals.lean).
  GIVEN WITH THE SEED: the statements are not yours to turn. If you find one false, say at which input.
  Laid BY PROGRAM, IN A SANDBOX (cutbox-rows.mjs): the forced cells as the released guide's own fill.sh prints them over the translation b2f495669a3f434b… (all of the seat's roots in one cut). By AI agents, Wed Nov 11 2026. No macro, syntax, notation, axiom, sorry.
-/
import Derived.Test.YthacfgaacleaeaaGreatDoorChecked
import GoSem.Claim
import GoSem.ClaimJoined
import GoSem.ClaimMapViews
import Derived.JoinedTies
import Derived.KernelRfl
namespace Go.Proofs.YthacfgaacleaeaaGreatDoor
/- THE CELL 'sum', in the pinned program and in every row, IS THE sha256 OF THE DUMP (.gsa) THAT YthacfgaacleaeaaGreatDoorProg.lean LOADS. Nothing in Lean hashes anything: it is a label: what it is worth is what the hold of that sum in a sandbox is worth. -/
noncomputable def Tryz.pinned : Pinned := { name := "ythacfgaacleaeaagreatdoor", sum := "b2f495669a3f434ba81757f23461249031130a87f8ed23efa4613e2b721f2864", checked := Tryz.checked }
namespace Rows
def none {H : Type} : Left H := { results := [], args := [] }

/- WHAT THE LISTED PACKAGE-LEVEL VARIABLES READ AS WHEN THE CALL BEGINS. Each datum BY PROGRAM (the guide's laid-datum.mjs) off the statement by which the dump's own 'gosem.cut.vars' lays the variable. In a bare row this is a premise. The card (YthacfgaacleaeaaGreatDoorCards.lean) ties it to the program's text. -/
def laid_errors_errorType {H : Type} : DataW H := .iface "internal/reflectlite.rtype" (.agg [.ptr (.lit (.string [101, 114, 114, 111, 114]))])

/-- 'anabranchlaw40.ForgeChecks': WHATEVER THE INPUT: true; the input reads as it did. -/
def forgeChecksSpec : ChangeSpec := { name := "forgeChecks", fn := fun _ => fun
  | [d1, d2, d3, d4] => { results := [.lit (.bool true)], args := [d1, d2, d3, d4] }
  | _ => none }
def forgeChecksRow : OpenClaim := { program := "ythacfgaacleaeaagreatdoor", sum := "b2f495669a3f434ba81757f23461249031130a87f8ed23efa4613e2b721f2864", func := "anabranch/anabranchlaw40.ForgeChecks", spec := "forgeChecks", inPlace := ["internal/abi.NoEscape", "internal/bytealg.MakeNoZero", "internal/reflectlite.ValueOf", "(internal/reflectlite.Value).Type", "(internal/reflectlite.Value).IsNil", "internal/reflectlite.TypeOf", "(internal/reflectlite.Value).Elem", "(internal/reflectlite.Value).Set"], unfollowed := true, recurses := true, named := ["errors.errorType"], apart := false, laid := [("errors.errorType", laid_errors_errorType)] }
def ForgeChecksSaid : Prop := forgeChecksRow.holds Tryz.pinned (OpenSpec.ofChange forgeChecksSpec)

/-- ITS FALSE NEIGHBOUR: 'it returns false'. Refute it at one input. -/
def forgeChecksWrong : ChangeSpec := { name := "forgeChecks", fn := fun _ => fun
  | [d1, d2, d3, d4] => { results := [.lit (.bool false)], args := [d1, d2, d3, d4] }
  | _ => none }
def ForgeChecksWrongFalsely : Prop := forgeChecksRow.holds Tryz.pinned (OpenSpec.ofChange forgeChecksWrong)

/-- 'anabranchlaw40.ForgeBytes': WHATEVER THE INPUT: true; the input reads as it did. -/
def forgeBytesSpec : ChangeSpec := { name := "forgeBytes", fn := fun _ => fun
  | [d1, d2] => { results := [.lit (.bool true)], args := [d1, d2] }
  | _ => none }
def forgeBytesRow : OpenClaim := { program := "ythacfgaacleaeaagreatdoor", sum := "b2f495669a3f434ba81757f23461249031130a87f8ed23efa4613e2b721f2864", func := "anabranch/anabranchlaw40.ForgeBytes", spec := "forgeBytes", inPlace := ["internal/abi.NoEscape", "internal/bytealg.MakeNoZero", "internal/reflectlite.ValueOf", "(internal/reflectlite.Value).Type", "(internal/reflectlite.Value).IsNil", "internal/reflectlite.TypeOf", "(internal/reflectlite.Value).Elem", "(internal/reflectlite.Value).Set"], unfollowed := true, recurses := true, named := ["errors.errorType"], apart := false, laid := [("errors.errorType", laid_errors_errorType)] }
def ForgeBytesSaid : Prop := forgeBytesRow.holds Tryz.pinned (OpenSpec.ofChange forgeBytesSpec)

/-- ITS FALSE NEIGHBOUR: 'it returns false'. Refute it at one input. -/
def forgeBytesWrong : ChangeSpec := { name := "forgeBytes", fn := fun _ => fun
  | [d1, d2] => { results := [.lit (.bool false)], args := [d1, d2] }
  | _ => none }
def ForgeBytesWrongFalsely : Prop := forgeBytesRow.holds Tryz.pinned (OpenSpec.ofChange forgeBytesWrong)

/-- 'anabranchlaw40.ForgeNone': WHATEVER THE INPUT: true; the input reads as it did. -/
def forgeNoneSpec : ChangeSpec := { name := "forgeNone", fn := fun _ => fun
  | [d1, d2, d3, d4] => { results := [.lit (.bool true)], args := [d1, d2, d3, d4] }
  | _ => none }
def forgeNoneRow : OpenClaim := { program := "ythacfgaacleaeaagreatdoor", sum := "b2f495669a3f434ba81757f23461249031130a87f8ed23efa4613e2b721f2864", func := "anabranch/anabranchlaw40.ForgeNone", spec := "forgeNone", inPlace := ["internal/abi.NoEscape", "internal/bytealg.MakeNoZero", "internal/reflectlite.ValueOf", "(internal/reflectlite.Value).Type", "(internal/reflectlite.Value).IsNil", "internal/reflectlite.TypeOf", "(internal/reflectlite.Value).Elem", "(internal/reflectlite.Value).Set"], unfollowed := true, recurses := true, named := ["errors.errorType"], apart := false, laid := [("errors.errorType", laid_errors_errorType)] }
def ForgeNoneSaid : Prop := forgeNoneRow.holds Tryz.pinned (OpenSpec.ofChange forgeNoneSpec)

/-- ITS FALSE NEIGHBOUR: 'it returns false'. Refute it at one input. -/
def forgeNoneWrong : ChangeSpec := { name := "forgeNone", fn := fun _ => fun
  | [d1, d2, d3, d4] => { results := [.lit (.bool false)], args := [d1, d2, d3, d4] }
  | _ => none }
def ForgeNoneWrongFalsely : Prop := forgeNoneRow.holds Tryz.pinned (OpenSpec.ofChange forgeNoneWrong)

/-- 'anabranchlaw40.ForgeJoins': WHATEVER THE INPUT: true; the input reads as it did. -/
def forgeJoinsSpec : ChangeSpec := { name := "forgeJoins", fn := fun _ => fun
  | [d1, d2, d3] => { results := [.lit (.bool true)], args := [d1, d2, d3] }
  | _ => none }
def forgeJoinsRow : OpenClaim := { program := "ythacfgaacleaeaagreatdoor", sum := "b2f495669a3f434ba81757f23461249031130a87f8ed23efa4613e2b721f2864", func := "anabranch/anabranchlaw40.ForgeJoins", spec := "forgeJoins", inPlace := ["internal/abi.NoEscape", "internal/bytealg.MakeNoZero", "internal/reflectlite.ValueOf", "(internal/reflectlite.Value).Type", "(internal/reflectlite.Value).IsNil", "internal/reflectlite.TypeOf", "(internal/reflectlite.Value).Elem", "(internal/reflectlite.Value).Set"], unfollowed := true, recurses := true, named := ["errors.errorType"], apart := false, laid := [("errors.errorType", laid_errors_errorType)] }
def ForgeJoinsSaid : Prop := forgeJoinsRow.holds Tryz.pinned (OpenSpec.ofChange forgeJoinsSpec)

/-- ITS FALSE NEIGHBOUR: 'it returns false'. Refute it at one input. -/
def forgeJoinsWrong : ChangeSpec := { name := "forgeJoins", fn := fun _ => fun
  | [d1, d2, d3] => { results := [.lit (.bool false)], args := [d1, d2, d3] }
  | _ => none }
def ForgeJoinsWrongFalsely : Prop := forgeJoinsRow.holds Tryz.pinned (OpenSpec.ofChange forgeJoinsWrong)

/-- 'anabranchlaw40.ForgeGenuine': WHATEVER THE INPUT: true; the input reads as it did. -/
def forgeGenuineSpec : ChangeSpec := { name := "forgeGenuine", fn := fun _ => fun
  | [d1, d2, d3, d4, d5, d6] => { results := [.lit (.bool true)], args := [d1, d2, d3, d4, d5, d6] }
  | _ => none }
def forgeGenuineRow : OpenClaim := { program := "ythacfgaacleaeaagreatdoor", sum := "b2f495669a3f434ba81757f23461249031130a87f8ed23efa4613e2b721f2864", func := "anabranch/anabranchlaw40.ForgeGenuine", spec := "forgeGenuine", inPlace := ["internal/abi.NoEscape", "internal/bytealg.MakeNoZero", "internal/reflectlite.ValueOf", "(internal/reflectlite.Value).Type", "(internal/reflectlite.Value).IsNil", "internal/reflectlite.TypeOf", "(internal/reflectlite.Value).Elem", "(internal/reflectlite.Value).Set"], unfollowed := true, recurses := true, named := ["errors.errorType"], apart := false, laid := [("errors.errorType", laid_errors_errorType)] }
def ForgeGenuineSaid : Prop := forgeGenuineRow.holds Tryz.pinned (OpenSpec.ofChange forgeGenuineSpec)

/-- ITS FALSE NEIGHBOUR: 'it returns false'. Refute it at one input. -/
def forgeGenuineWrong : ChangeSpec := { name := "forgeGenuine", fn := fun _ => fun
  | [d1, d2, d3, d4, d5, d6] => { results := [.lit (.bool false)], args := [d1, d2, d3, d4, d5, d6] }
  | _ => none }
def ForgeGenuineWrongFalsely : Prop := forgeGenuineRow.holds Tryz.pinned (OpenSpec.ofChange forgeGenuineWrong)

/- THE SECOND FORM. 'bulk': how many values and letters a reading holds, each counted each time it is reached (what is shared counts as often as it is met; a slice's spare places count too). A statement '..UptoSaid' is the law's where the arguments, and the package variables that the reading takes, are together of bulk at most 1048576: NARROWER than '..Said'. Prove '..Said' where nothing that the law and all that it calls make is longer than what came in: it says more and counts as full. Else prove '..UptoSaid'. A law counts once. -/
mutual
def uptoBulk {H : Type} : DataW H → Nat
  | .lit (.string bytes) => bytes.length + 1
  | .lit _ => 1
  | .nil => 1
  | .ptr d => uptoBulk d + 1
  | .slice elems spare => uptoBulkAll elems + uptoBulkAll spare + 1
  | .agg parts => uptoBulkAll parts + 1
  | .iface _ d => uptoBulk d + 1
  | .map entries => uptoBulkEntries entries + 1
  | .held _ => 1
def uptoBulkAll {H : Type} : List (DataW H) → Nat
  | [] => 0
  | d :: r => uptoBulk d + uptoBulkAll r
def uptoBulkEntries {H : Type} : List (Lit × DataW H) → Nat
  | [] => 0
  | x :: r => uptoBulkEntry x + uptoBulkEntries r
def uptoBulkEntry {H : Type} : Lit × DataW H → Nat
  | (.string bytes, d) => bytes.length + uptoBulk d + 1
  | (_, d) => uptoBulk d + 1
 end
def uptoSmall : (H : Type) → List (DataW H) → Bool := fun _ ds => decide (uptoBulkAll ds ≤ 1048576)
def OpenSpec.upto (s : _root_.Go.ChangeSpec) : _root_.Go.OpenSpec := { _root_.Go.OpenSpec.ofChange s with cond := some uptoSmall }

/-- 'anabranchlaw40.ForgeChecks', WHERE WHAT IT READS IS OF BULK AT MOST 1048576: true; the input reads as it did. -/
def forgeChecksUptoRow : OpenClaim := { program := "ythacfgaacleaeaagreatdoor", sum := "b2f495669a3f434ba81757f23461249031130a87f8ed23efa4613e2b721f2864", func := "anabranch/anabranchlaw40.ForgeChecks", spec := "forgeChecks", inPlace := ["internal/abi.NoEscape", "internal/bytealg.MakeNoZero", "internal/reflectlite.ValueOf", "(internal/reflectlite.Value).Type", "(internal/reflectlite.Value).IsNil", "internal/reflectlite.TypeOf", "(internal/reflectlite.Value).Elem", "(internal/reflectlite.Value).Set"], unfollowed := true, recurses := true, named := ["errors.errorType"], apart := false, laid := [("errors.errorType", laid_errors_errorType)], narrowed := true }
def ForgeChecksUptoSaid : Prop := forgeChecksUptoRow.holds Tryz.pinned (OpenSpec.upto forgeChecksSpec)

/-- 'anabranchlaw40.ForgeBytes', WHERE WHAT IT READS IS OF BULK AT MOST 1048576: true; the input reads as it did. -/
def forgeBytesUptoRow : OpenClaim := { program := "ythacfgaacleaeaagreatdoor", sum := "b2f495669a3f434ba81757f23461249031130a87f8ed23efa4613e2b721f2864", func := "anabranch/anabranchlaw40.ForgeBytes", spec := "forgeBytes", inPlace := ["internal/abi.NoEscape", "internal/bytealg.MakeNoZero", "internal/reflectlite.ValueOf", "(internal/reflectlite.Value).Type", "(internal/reflectlite.Value).IsNil", "internal/reflectlite.TypeOf", "(internal/reflectlite.Value).Elem", "(internal/reflectlite.Value).Set"], unfollowed := true, recurses := true, named := ["errors.errorType"], apart := false, laid := [("errors.errorType", laid_errors_errorType)], narrowed := true }
def ForgeBytesUptoSaid : Prop := forgeBytesUptoRow.holds Tryz.pinned (OpenSpec.upto forgeBytesSpec)

/-- 'anabranchlaw40.ForgeNone', WHERE WHAT IT READS IS OF BULK AT MOST 1048576: true; the input reads as it did. -/
def forgeNoneUptoRow : OpenClaim := { program := "ythacfgaacleaeaagreatdoor", sum := "b2f495669a3f434ba81757f23461249031130a87f8ed23efa4613e2b721f2864", func := "anabranch/anabranchlaw40.ForgeNone", spec := "forgeNone", inPlace := ["internal/abi.NoEscape", "internal/bytealg.MakeNoZero", "internal/reflectlite.ValueOf", "(internal/reflectlite.Value).Type", "(internal/reflectlite.Value).IsNil", "internal/reflectlite.TypeOf", "(internal/reflectlite.Value).Elem", "(internal/reflectlite.Value).Set"], unfollowed := true, recurses := true, named := ["errors.errorType"], apart := false, laid := [("errors.errorType", laid_errors_errorType)], narrowed := true }
def ForgeNoneUptoSaid : Prop := forgeNoneUptoRow.holds Tryz.pinned (OpenSpec.upto forgeNoneSpec)

/-- 'anabranchlaw40.ForgeJoins', WHERE WHAT IT READS IS OF BULK AT MOST 1048576: true; the input reads as it did. -/
def forgeJoinsUptoRow : OpenClaim := { program := "ythacfgaacleaeaagreatdoor", sum := "b2f495669a3f434ba81757f23461249031130a87f8ed23efa4613e2b721f2864", func := "anabranch/anabranchlaw40.ForgeJoins", spec := "forgeJoins", inPlace := ["internal/abi.NoEscape", "internal/bytealg.MakeNoZero", "internal/reflectlite.ValueOf", "(internal/reflectlite.Value).Type", "(internal/reflectlite.Value).IsNil", "internal/reflectlite.TypeOf", "(internal/reflectlite.Value).Elem", "(internal/reflectlite.Value).Set"], unfollowed := true, recurses := true, named := ["errors.errorType"], apart := false, laid := [("errors.errorType", laid_errors_errorType)], narrowed := true }
def ForgeJoinsUptoSaid : Prop := forgeJoinsUptoRow.holds Tryz.pinned (OpenSpec.upto forgeJoinsSpec)

/-- 'anabranchlaw40.ForgeGenuine', WHERE WHAT IT READS IS OF BULK AT MOST 1048576: true; the input reads as it did. -/
def forgeGenuineUptoRow : OpenClaim := { program := "ythacfgaacleaeaagreatdoor", sum := "b2f495669a3f434ba81757f23461249031130a87f8ed23efa4613e2b721f2864", func := "anabranch/anabranchlaw40.ForgeGenuine", spec := "forgeGenuine", inPlace := ["internal/abi.NoEscape", "internal/bytealg.MakeNoZero", "internal/reflectlite.ValueOf", "(internal/reflectlite.Value).Type", "(internal/reflectlite.Value).IsNil", "internal/reflectlite.TypeOf", "(internal/reflectlite.Value).Elem", "(internal/reflectlite.Value).Set"], unfollowed := true, recurses := true, named := ["errors.errorType"], apart := false, laid := [("errors.errorType", laid_errors_errorType)], narrowed := true }
def ForgeGenuineUptoSaid : Prop := forgeGenuineUptoRow.holds Tryz.pinned (OpenSpec.upto forgeGenuineSpec)

end Rows
end Go.Proofs.YthacfgaacleaeaaGreatDoor
