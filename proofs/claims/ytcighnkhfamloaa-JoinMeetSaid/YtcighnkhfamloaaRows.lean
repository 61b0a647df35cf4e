/-
  No cell of these rows narrows 'for every input' (looked for: loops, veiled, ifaces, maps, wideKeys, modest, calm, conditions, laid).
  DERIVED. THE GIVEN ROWS OF THIS SEAT. 10 by the template 'for every input the law returns true; each argument reads behind the call as it read before'; 0 by the template 'total and deterministic' (their statements: YtcighnkhfamloaaTotals.lean).
  GIVEN WITH THE SEED: the statements are not yours to turn. If you find one false, say at which input.
  Laid BY PROGRAM, IN A SANDBOX (cutbox-rows.mjs): the forced cells as the released guide's own fill.sh prints them over the translation 7130fcc06b38f73a… (all of the seat's roots in one cut). By AI agents, Wed Nov 11 2026. No macro, syntax, notation, axiom, sorry.
-/
import Derived.Test.YtcighnkhfamloaaChecked
import GoSem.Claim
import GoSem.ClaimJoined
import GoSem.ClaimMapViews
import Derived.JoinedTies
import Derived.KernelRfl
namespace Go.Proofs.Ytcighnkhfamloaa
/- THE CELL 'sum', in the pinned program and in every row, IS THE sha256 OF THE DUMP (.gsa) THAT YtcighnkhfamloaaProg.lean LOADS. Nothing in Lean hashes anything: it is a label: what it is worth is what the hold of that sum in a sandbox is worth. -/
noncomputable def Try.pinned : Pinned := { name := "ytcighnkhfamloaa", sum := "7130fcc06b38f73a5097a7537ca1fc42524355b8533b048eba28416b09557e88", checked := Try.checked }
namespace Rows
def none {H : Type} : Left H := { results := [], args := [] }

/-- 'anabranchlaw29.JoinCodes': WHATEVER THE INPUT: true; the input reads as it did. -/
def joinCodesSpec : ChangeSpec := { name := "joinCodes", fn := fun _ => fun
  | [d1, d2, d3, d4] => { results := [.lit (.bool true)], args := [d1, d2, d3, d4] }
  | _ => none }
def joinCodesRow : OpenClaim := { program := "ytcighnkhfamloaa", sum := "7130fcc06b38f73a5097a7537ca1fc42524355b8533b048eba28416b09557e88", func := "anabranch/anabranchlaw29.JoinCodes", spec := "joinCodes", inPlace := ["internal/abi.NoEscape", "internal/bytealg.MakeNoZero"], unfollowed := true, recurses := true, plainKeys := false, apart := false }
def JoinCodesSaid : Prop := joinCodesRow.holds Try.pinned (OpenSpec.ofChange joinCodesSpec)

/-- ITS FALSE NEIGHBOUR: 'it returns false'. Refute it at one input. -/
def joinCodesWrong : ChangeSpec := { name := "joinCodes", fn := fun _ => fun
  | [d1, d2, d3, d4] => { results := [.lit (.bool false)], args := [d1, d2, d3, d4] }
  | _ => none }
def JoinCodesWrongFalsely : Prop := joinCodesRow.holds Try.pinned (OpenSpec.ofChange joinCodesWrong)

/-- 'anabranchlaw29.JoinMeet': WHATEVER THE INPUT: true; the input reads as it did. -/
def joinMeetSpec : ChangeSpec := { name := "joinMeet", fn := fun _ => fun
  | [d1, d2, d3, d4, d5] => { results := [.lit (.bool true)], args := [d1, d2, d3, d4, d5] }
  | _ => none }
def joinMeetRow : OpenClaim := { program := "ytcighnkhfamloaa", sum := "7130fcc06b38f73a5097a7537ca1fc42524355b8533b048eba28416b09557e88", func := "anabranch/anabranchlaw29.JoinMeet", spec := "joinMeet", inPlace := ["internal/abi.NoEscape", "internal/bytealg.MakeNoZero"], unfollowed := true, recurses := true, plainKeys := false, apart := false }
def JoinMeetSaid : Prop := joinMeetRow.holds Try.pinned (OpenSpec.ofChange joinMeetSpec)

/-- ITS FALSE NEIGHBOUR: 'it returns false'. Refute it at one input. -/
def joinMeetWrong : ChangeSpec := { name := "joinMeet", fn := fun _ => fun
  | [d1, d2, d3, d4, d5] => { results := [.lit (.bool false)], args := [d1, d2, d3, d4, d5] }
  | _ => none }
def JoinMeetWrongFalsely : Prop := joinMeetRow.holds Try.pinned (OpenSpec.ofChange joinMeetWrong)

/-- 'anabranchlaw13.WheelPieces': WHATEVER THE INPUT: true; the input reads as it did. -/
def wheelPiecesSpec : ChangeSpec := { name := "wheelPieces", fn := fun _ => fun
  | [d1, d2, d3] => { results := [.lit (.bool true)], args := [d1, d2, d3] }
  | _ => none }
def wheelPiecesRow : OpenClaim := { program := "ytcighnkhfamloaa", sum := "7130fcc06b38f73a5097a7537ca1fc42524355b8533b048eba28416b09557e88", func := "anabranch/anabranchlaw13.WheelPieces", spec := "wheelPieces", unfollowed := true, recurses := true, plainKeys := false, apart := false }
def WheelPiecesSaid : Prop := wheelPiecesRow.holds Try.pinned (OpenSpec.ofChange wheelPiecesSpec)

/-- ITS FALSE NEIGHBOUR: 'it returns false'. Refute it at one input. -/
def wheelPiecesWrong : ChangeSpec := { name := "wheelPieces", fn := fun _ => fun
  | [d1, d2, d3] => { results := [.lit (.bool false)], args := [d1, d2, d3] }
  | _ => none }
def WheelPiecesWrongFalsely : Prop := wheelPiecesRow.holds Try.pinned (OpenSpec.ofChange wheelPiecesWrong)

/-- 'anabranchlaw13.WheelNext': WHATEVER THE INPUT: true; the input reads as it did. -/
def wheelNextSpec : ChangeSpec := { name := "wheelNext", fn := fun _ => fun
  | [d] => { results := [.lit (.bool true)], args := [d] }
  | _ => none }
def wheelNextRow : OpenClaim := { program := "ytcighnkhfamloaa", sum := "7130fcc06b38f73a5097a7537ca1fc42524355b8533b048eba28416b09557e88", func := "anabranch/anabranchlaw13.WheelNext", spec := "wheelNext", unfollowed := true, recurses := true, plainKeys := false, apart := false }
def WheelNextSaid : Prop := wheelNextRow.holds Try.pinned (OpenSpec.ofChange wheelNextSpec)

/-- ITS FALSE NEIGHBOUR: 'it returns false'. Refute it at one input. -/
def wheelNextWrong : ChangeSpec := { name := "wheelNext", fn := fun _ => fun
  | [d] => { results := [.lit (.bool false)], args := [d] }
  | _ => none }
def WheelNextWrongFalsely : Prop := wheelNextRow.holds Try.pinned (OpenSpec.ofChange wheelNextWrong)

/-- 'anabranchlaw30.PathsNumbers': WHATEVER THE INPUT: true; the input reads as it did. -/
def pathsNumbersSpec : ChangeSpec := { name := "pathsNumbers", fn := fun _ => fun
  | [d1, d2] => { results := [.lit (.bool true)], args := [d1, d2] }
  | _ => none }
def pathsNumbersRow : OpenClaim := { program := "ytcighnkhfamloaa", sum := "7130fcc06b38f73a5097a7537ca1fc42524355b8533b048eba28416b09557e88", func := "anabranch/anabranchlaw30.PathsNumbers", spec := "pathsNumbers", unfollowed := true, recurses := true, plainKeys := false, apart := false }
def PathsNumbersSaid : Prop := pathsNumbersRow.holds Try.pinned (OpenSpec.ofChange pathsNumbersSpec)

/-- ITS FALSE NEIGHBOUR: 'it returns false'. Refute it at one input. -/
def pathsNumbersWrong : ChangeSpec := { name := "pathsNumbers", fn := fun _ => fun
  | [d1, d2] => { results := [.lit (.bool false)], args := [d1, d2] }
  | _ => none }
def PathsNumbersWrongFalsely : Prop := pathsNumbersRow.holds Try.pinned (OpenSpec.ofChange pathsNumbersWrong)

/-- 'anabranchlaw30.PathsDo': WHATEVER THE INPUT: true; the input reads as it did. -/
def pathsDoSpec : ChangeSpec := { name := "pathsDo", fn := fun _ => fun
  | [d] => { results := [.lit (.bool true)], args := [d] }
  | _ => none }
def pathsDoRow : OpenClaim := { program := "ytcighnkhfamloaa", sum := "7130fcc06b38f73a5097a7537ca1fc42524355b8533b048eba28416b09557e88", func := "anabranch/anabranchlaw30.PathsDo", spec := "pathsDo", unfollowed := true, recurses := true, plainKeys := false, apart := false }
def PathsDoSaid : Prop := pathsDoRow.holds Try.pinned (OpenSpec.ofChange pathsDoSpec)

/-- ITS FALSE NEIGHBOUR: 'it returns false'. Refute it at one input. -/
def pathsDoWrong : ChangeSpec := { name := "pathsDo", fn := fun _ => fun
  | [d] => { results := [.lit (.bool false)], args := [d] }
  | _ => none }
def PathsDoWrongFalsely : Prop := pathsDoRow.holds Try.pinned (OpenSpec.ofChange pathsDoWrong)

/-- 'anabranchlaw10.PacketPuts': WHATEVER THE INPUT: true; the input reads as it did. -/
def packetPutsSpec : ChangeSpec := { name := "packetPuts", fn := fun _ => fun
  | [d1, d2, d3] => { results := [.lit (.bool true)], args := [d1, d2, d3] }
  | _ => none }
def packetPutsRow : OpenClaim := { program := "ytcighnkhfamloaa", sum := "7130fcc06b38f73a5097a7537ca1fc42524355b8533b048eba28416b09557e88", func := "anabranch/anabranchlaw10.PacketPuts", spec := "packetPuts", inPlace := ["internal/abi.NoEscape"], unfollowed := true, recurses := true, plainKeys := false, apart := false }
def PacketPutsSaid : Prop := packetPutsRow.holds Try.pinned (OpenSpec.ofChange packetPutsSpec)

/-- ITS FALSE NEIGHBOUR: 'it returns false'. Refute it at one input. -/
def packetPutsWrong : ChangeSpec := { name := "packetPuts", fn := fun _ => fun
  | [d1, d2, d3] => { results := [.lit (.bool false)], args := [d1, d2, d3] }
  | _ => none }
def PacketPutsWrongFalsely : Prop := packetPutsRow.holds Try.pinned (OpenSpec.ofChange packetPutsWrong)

/-- 'anabranchlaw10.PacketGets': WHATEVER THE INPUT: true; the input reads as it did. -/
def packetGetsSpec : ChangeSpec := { name := "packetGets", fn := fun _ => fun
  | [d1, d2] => { results := [.lit (.bool true)], args := [d1, d2] }
  | _ => none }
def packetGetsRow : OpenClaim := { program := "ytcighnkhfamloaa", sum := "7130fcc06b38f73a5097a7537ca1fc42524355b8533b048eba28416b09557e88", func := "anabranch/anabranchlaw10.PacketGets", spec := "packetGets", inPlace := ["internal/abi.NoEscape"], unfollowed := true, recurses := true, plainKeys := false, apart := false }
def PacketGetsSaid : Prop := packetGetsRow.holds Try.pinned (OpenSpec.ofChange packetGetsSpec)

/-- ITS FALSE NEIGHBOUR: 'it returns false'. Refute it at one input. -/
def packetGetsWrong : ChangeSpec := { name := "packetGets", fn := fun _ => fun
  | [d1, d2] => { results := [.lit (.bool false)], args := [d1, d2] }
  | _ => none }
def PacketGetsWrongFalsely : Prop := packetGetsRow.holds Try.pinned (OpenSpec.ofChange packetGetsWrong)

/-- 'anabranchlaw10.PacketAlike': WHATEVER THE INPUT: true; the input reads as it did. -/
def packetAlikeSpec : ChangeSpec := { name := "packetAlike", fn := fun _ => fun
  | [d1, d2, d3] => { results := [.lit (.bool true)], args := [d1, d2, d3] }
  | _ => none }
def packetAlikeRow : OpenClaim := { program := "ytcighnkhfamloaa", sum := "7130fcc06b38f73a5097a7537ca1fc42524355b8533b048eba28416b09557e88", func := "anabranch/anabranchlaw10.PacketAlike", spec := "packetAlike", inPlace := ["internal/abi.NoEscape"], unfollowed := true, recurses := true, plainKeys := false, apart := false }
def PacketAlikeSaid : Prop := packetAlikeRow.holds Try.pinned (OpenSpec.ofChange packetAlikeSpec)

/-- ITS FALSE NEIGHBOUR: 'it returns false'. Refute it at one input. -/
def packetAlikeWrong : ChangeSpec := { name := "packetAlike", fn := fun _ => fun
  | [d1, d2, d3] => { results := [.lit (.bool false)], args := [d1, d2, d3] }
  | _ => none }
def PacketAlikeWrongFalsely : Prop := packetAlikeRow.holds Try.pinned (OpenSpec.ofChange packetAlikeWrong)

/-- 'anabranchlaw44.AuditTells': WHATEVER THE INPUT: true; the input reads as it did. -/
def auditTellsSpec : ChangeSpec := { name := "auditTells", fn := fun _ => fun
  | [d1, d2] => { results := [.lit (.bool true)], args := [d1, d2] }
  | _ => none }
def auditTellsRow : OpenClaim := { program := "ytcighnkhfamloaa", sum := "7130fcc06b38f73a5097a7537ca1fc42524355b8533b048eba28416b09557e88", func := "anabranch/anabranchlaw44.AuditTells", spec := "auditTells", plainKeys := false, apart := false }
def AuditTellsSaid : Prop := auditTellsRow.holds Try.pinned (OpenSpec.ofChange auditTellsSpec)

/-- ITS FALSE NEIGHBOUR: 'it returns false'. Refute it at one input. -/
def auditTellsWrong : ChangeSpec := { name := "auditTells", fn := fun _ => fun
  | [d1, d2] => { results := [.lit (.bool false)], args := [d1, d2] }
  | _ => none }
def AuditTellsWrongFalsely : Prop := auditTellsRow.holds Try.pinned (OpenSpec.ofChange auditTellsWrong)

/- THE SECOND FORM. 'bulk': how many values and letters a reading holds, each counted each time it is reached (what is shared counts as often as it is met; a slice's spare places count too). A statement '..UptoSaid' is the law's where the arguments, and the package variables that the reading takes, are together of bulk at most 1048576: NARROWER than '..Said'. Prove '..Said' where nothing that the law and all that it calls make is longer than what came in: it says more and counts as full. Else prove '..UptoSaid'. A law counts once. -/
mutual
def uptoBulk {H : Type} : DataW H → Nat
  | .lit (.string bytes) => bytes.length + 1
  | .lit _ => 1
  | .nil => 1
  | .ptr d => uptoBulk d + 1
  | .slice elems spare => uptoBulkAll elems + uptoBulkAll spare + 1
  | .agg parts => uptoBulkAll parts + 1
  | .iface _ d => uptoBulk d + 1
  | .map entries => uptoBulkEntries entries + 1
  | .held _ => 1
def uptoBulkAll {H : Type} : List (DataW H) → Nat
  | [] => 0
  | d :: r => uptoBulk d + uptoBulkAll r
def uptoBulkEntries {H : Type} : List (Lit × DataW H) → Nat
  | [] => 0
  | x :: r => uptoBulkEntry x + uptoBulkEntries r
def uptoBulkEntry {H : Type} : Lit × DataW H → Nat
  | (.string bytes, d) => bytes.length + uptoBulk d + 1
  | (_, d) => uptoBulk d + 1
 end
def uptoSmall : (H : Type) → List (DataW H) → Bool := fun _ ds => decide (uptoBulkAll ds ≤ 1048576)
def OpenSpec.upto (s : _root_.Go.ChangeSpec) : _root_.Go.OpenSpec := { _root_.Go.OpenSpec.ofChange s with cond := some uptoSmall }

/-- 'anabranchlaw29.JoinCodes', WHERE WHAT IT READS IS OF BULK AT MOST 1048576: true; the input reads as it did. -/
def joinCodesUptoRow : OpenClaim := { program := "ytcighnkhfamloaa", sum := "7130fcc06b38f73a5097a7537ca1fc42524355b8533b048eba28416b09557e88", func := "anabranch/anabranchlaw29.JoinCodes", spec := "joinCodes", inPlace := ["internal/abi.NoEscape", "internal/bytealg.MakeNoZero"], unfollowed := true, recurses := true, plainKeys := false, apart := false, narrowed := true }
def JoinCodesUptoSaid : Prop := joinCodesUptoRow.holds Try.pinned (OpenSpec.upto joinCodesSpec)

/-- 'anabranchlaw29.JoinMeet', WHERE WHAT IT READS IS OF BULK AT MOST 1048576: true; the input reads as it did. -/
def joinMeetUptoRow : OpenClaim := { program := "ytcighnkhfamloaa", sum := "7130fcc06b38f73a5097a7537ca1fc42524355b8533b048eba28416b09557e88", func := "anabranch/anabranchlaw29.JoinMeet", spec := "joinMeet", inPlace := ["internal/abi.NoEscape", "internal/bytealg.MakeNoZero"], unfollowed := true, recurses := true, plainKeys := false, apart := false, narrowed := true }
def JoinMeetUptoSaid : Prop := joinMeetUptoRow.holds Try.pinned (OpenSpec.upto joinMeetSpec)

/-- 'anabranchlaw13.WheelPieces', WHERE WHAT IT READS IS OF BULK AT MOST 1048576: true; the input reads as it did. -/
def wheelPiecesUptoRow : OpenClaim := { program := "ytcighnkhfamloaa", sum := "7130fcc06b38f73a5097a7537ca1fc42524355b8533b048eba28416b09557e88", func := "anabranch/anabranchlaw13.WheelPieces", spec := "wheelPieces", unfollowed := true, recurses := true, plainKeys := false, apart := false, narrowed := true }
def WheelPiecesUptoSaid : Prop := wheelPiecesUptoRow.holds Try.pinned (OpenSpec.upto wheelPiecesSpec)

/-- 'anabranchlaw13.WheelNext', WHERE WHAT IT READS IS OF BULK AT MOST 1048576: true; the input reads as it did. -/
def wheelNextUptoRow : OpenClaim := { program := "ytcighnkhfamloaa", sum := "7130fcc06b38f73a5097a7537ca1fc42524355b8533b048eba28416b09557e88", func := "anabranch/anabranchlaw13.WheelNext", spec := "wheelNext", unfollowed := true, recurses := true, plainKeys := false, apart := false, narrowed := true }
def WheelNextUptoSaid : Prop := wheelNextUptoRow.holds Try.pinned (OpenSpec.upto wheelNextSpec)

/-- 'anabranchlaw30.PathsNumbers', WHERE WHAT IT READS IS OF BULK AT MOST 1048576: true; the input reads as it did. -/
def pathsNumbersUptoRow : OpenClaim := { program := "ytcighnkhfamloaa", sum := "7130fcc06b38f73a5097a7537ca1fc42524355b8533b048eba28416b09557e88", func := "anabranch/anabranchlaw30.PathsNumbers", spec := "pathsNumbers", unfollowed := true, recurses := true, plainKeys := false, apart := false, narrowed := true }
def PathsNumbersUptoSaid : Prop := pathsNumbersUptoRow.holds Try.pinned (OpenSpec.upto pathsNumbersSpec)

/-- 'anabranchlaw30.PathsDo', WHERE WHAT IT READS IS OF BULK AT MOST 1048576: true; the input reads as it did. -/
def pathsDoUptoRow : OpenClaim := { program := "ytcighnkhfamloaa", sum := "7130fcc06b38f73a5097a7537ca1fc42524355b8533b048eba28416b09557e88", func := "anabranch/anabranchlaw30.PathsDo", spec := "pathsDo", unfollowed := true, recurses := true, plainKeys := false, apart := false, narrowed := true }
def PathsDoUptoSaid : Prop := pathsDoUptoRow.holds Try.pinned (OpenSpec.upto pathsDoSpec)

/-- 'anabranchlaw10.PacketPuts', WHERE WHAT IT READS IS OF BULK AT MOST 1048576: true; the input reads as it did. -/
def packetPutsUptoRow : OpenClaim := { program := "ytcighnkhfamloaa", sum := "7130fcc06b38f73a5097a7537ca1fc42524355b8533b048eba28416b09557e88", func := "anabranch/anabranchlaw10.PacketPuts", spec := "packetPuts", inPlace := ["internal/abi.NoEscape"], unfollowed := true, recurses := true, plainKeys := false, apart := false, narrowed := true }
def PacketPutsUptoSaid : Prop := packetPutsUptoRow.holds Try.pinned (OpenSpec.upto packetPutsSpec)

/-- 'anabranchlaw10.PacketGets', WHERE WHAT IT READS IS OF BULK AT MOST 1048576: true; the input reads as it did. -/
def packetGetsUptoRow : OpenClaim := { program := "ytcighnkhfamloaa", sum := "7130fcc06b38f73a5097a7537ca1fc42524355b8533b048eba28416b09557e88", func := "anabranch/anabranchlaw10.PacketGets", spec := "packetGets", inPlace := ["internal/abi.NoEscape"], unfollowed := true, recurses := true, plainKeys := false, apart := false, narrowed := true }
def PacketGetsUptoSaid : Prop := packetGetsUptoRow.holds Try.pinned (OpenSpec.upto packetGetsSpec)

/-- 'anabranchlaw10.PacketAlike', WHERE WHAT IT READS IS OF BULK AT MOST 1048576: true; the input reads as it did. -/
def packetAlikeUptoRow : OpenClaim := { program := "ytcighnkhfamloaa", sum := "7130fcc06b38f73a5097a7537ca1fc42524355b8533b048eba28416b09557e88", func := "anabranch/anabranchlaw10.PacketAlike", spec := "packetAlike", inPlace := ["internal/abi.NoEscape"], unfollowed := true, recurses := true, plainKeys := false, apart := false, narrowed := true }
def PacketAlikeUptoSaid : Prop := packetAlikeUptoRow.holds Try.pinned (OpenSpec.upto packetAlikeSpec)

/-- 'anabranchlaw44.AuditTells', WHERE WHAT IT READS IS OF BULK AT MOST 1048576: true; the input reads as it did. -/
def auditTellsUptoRow : OpenClaim := { program := "ytcighnkhfamloaa", sum := "7130fcc06b38f73a5097a7537ca1fc42524355b8533b048eba28416b09557e88", func := "anabranch/anabranchlaw44.AuditTells", spec := "auditTells", plainKeys := false, apart := false, narrowed := true }
def AuditTellsUptoSaid : Prop := auditTellsUptoRow.holds Try.pinned (OpenSpec.upto auditTellsSpec)

end Rows
end Go.Proofs.Ytcighnkhfamloaa
