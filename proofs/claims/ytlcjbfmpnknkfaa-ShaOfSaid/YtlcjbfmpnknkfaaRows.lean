/-
  No cell of these rows narrows 'for every input' (looked for: loops, veiled, ifaces, maps, wideKeys, modest, calm, conditions, laid).
  DERIVED. THE GIVEN ROWS OF THIS SEAT. 23 by the template 'for every input the law returns true; each argument reads behind the call as it read before'; 0 by the template 'total and deterministic' (their statements: YtlcjbfmpnknkfaaTotals.lean).
  GIVEN WITH THE SEED: the statements are not yours to turn. If you find one false, say at which input.
  Laid BY PROGRAM, IN A SANDBOX (cutbox-rows.mjs): the forced cells as the released guide's own fill.sh prints them over the translation 2da6f3f68e60b28d… (all of the seat's roots in one cut). By AI agents, Wed Nov 11 2026. No macro, syntax, notation, axiom, sorry.
-/
import Derived.Test.YtlcjbfmpnknkfaaChecked
import GoSem.Claim
import GoSem.ClaimJoined
import GoSem.ClaimMapViews
import Derived.JoinedTies
import Derived.KernelRfl
namespace Go.Proofs.Ytlcjbfmpnknkfaa
/- THE CELL 'sum', in the pinned program and in every row, IS THE sha256 OF THE DUMP (.gsa) THAT YtlcjbfmpnknkfaaProg.lean LOADS. Nothing in Lean hashes anything: it is a label: what it is worth is what the hold of that sum in a sandbox is worth. -/
noncomputable def Try.pinned : Pinned := { name := "ytlcjbfmpnknkfaa", sum := "2da6f3f68e60b28dbc29159356c7bf1329e62ad2ad39096135719add909c52f1", checked := Try.checked }
namespace Rows
def none {H : Type} : Left H := { results := [], args := [] }

/-- 'anabranchlaw44.AuditTells': WHATEVER THE INPUT: true; the input reads as it did. -/
def auditTellsSpec : ChangeSpec := { name := "auditTells", fn := fun _ => fun
  | [d1, d2] => { results := [.lit (.bool true)], args := [d1, d2] }
  | _ => none }
def auditTellsRow : OpenClaim := { program := "ytlcjbfmpnknkfaa", sum := "2da6f3f68e60b28dbc29159356c7bf1329e62ad2ad39096135719add909c52f1", func := "anabranch/anabranchlaw44.AuditTells", spec := "auditTells", plainKeys := false, apart := false }
def AuditTellsSaid : Prop := auditTellsRow.holds Try.pinned (OpenSpec.ofChange auditTellsSpec)

/-- ITS FALSE NEIGHBOUR: 'it returns false'. Refute it at one input. -/
def auditTellsWrong : ChangeSpec := { name := "auditTells", fn := fun _ => fun
  | [d1, d2] => { results := [.lit (.bool false)], args := [d1, d2] }
  | _ => none }
def AuditTellsWrongFalsely : Prop := auditTellsRow.holds Try.pinned (OpenSpec.ofChange auditTellsWrong)

/-- 'anabranchlaw05.ShaOf': WHATEVER THE INPUT: true; the input reads as it did. -/
def shaOfSpec : ChangeSpec := { name := "shaOf", fn := fun _ => fun
  | [d] => { results := [.lit (.bool true)], args := [d] }
  | _ => none }
def shaOfRow : OpenClaim := { program := "ytlcjbfmpnknkfaa", sum := "2da6f3f68e60b28dbc29159356c7bf1329e62ad2ad39096135719add909c52f1", func := "anabranch/anabranchlaw05.ShaOf", spec := "shaOf", inPlace := ["internal/abi.NoEscape", "internal/bytealg.MakeNoZero"], plainKeys := false, apart := false }
def ShaOfSaid : Prop := shaOfRow.holds Try.pinned (OpenSpec.ofChange shaOfSpec)

/-- ITS FALSE NEIGHBOUR: 'it returns false'. Refute it at one input. -/
def shaOfWrong : ChangeSpec := { name := "shaOf", fn := fun _ => fun
  | [d] => { results := [.lit (.bool false)], args := [d] }
  | _ => none }
def ShaOfWrongFalsely : Prop := shaOfRow.holds Try.pinned (OpenSpec.ofChange shaOfWrong)

/-- 'anabranchlaw05.ShaPieces': WHATEVER THE INPUT: true; the input reads as it did. -/
def shaPiecesSpec : ChangeSpec := { name := "shaPieces", fn := fun _ => fun
  | [d] => { results := [.lit (.bool true)], args := [d] }
  | _ => none }
def shaPiecesRow : OpenClaim := { program := "ytlcjbfmpnknkfaa", sum := "2da6f3f68e60b28dbc29159356c7bf1329e62ad2ad39096135719add909c52f1", func := "anabranch/anabranchlaw05.ShaPieces", spec := "shaPieces", inPlace := ["internal/abi.NoEscape", "internal/bytealg.MakeNoZero"], plainKeys := false, apart := false }
def ShaPiecesSaid : Prop := shaPiecesRow.holds Try.pinned (OpenSpec.ofChange shaPiecesSpec)

/-- ITS FALSE NEIGHBOUR: 'it returns false'. Refute it at one input. -/
def shaPiecesWrong : ChangeSpec := { name := "shaPieces", fn := fun _ => fun
  | [d] => { results := [.lit (.bool false)], args := [d] }
  | _ => none }
def ShaPiecesWrongFalsely : Prop := shaPiecesRow.holds Try.pinned (OpenSpec.ofChange shaPiecesWrong)

/-- 'anabranchlaw05.ShaEdges': WHATEVER THE INPUT: true; the input reads as it did. -/
def shaEdgesSpec : ChangeSpec := { name := "shaEdges", fn := fun _ => fun
  | [d1, d2] => { results := [.lit (.bool true)], args := [d1, d2] }
  | _ => none }
def shaEdgesRow : OpenClaim := { program := "ytlcjbfmpnknkfaa", sum := "2da6f3f68e60b28dbc29159356c7bf1329e62ad2ad39096135719add909c52f1", func := "anabranch/anabranchlaw05.ShaEdges", spec := "shaEdges", inPlace := ["internal/abi.NoEscape", "internal/bytealg.MakeNoZero"], plainKeys := false, apart := false }
def ShaEdgesSaid : Prop := shaEdgesRow.holds Try.pinned (OpenSpec.ofChange shaEdgesSpec)

/-- ITS FALSE NEIGHBOUR: 'it returns false'. Refute it at one input. -/
def shaEdgesWrong : ChangeSpec := { name := "shaEdges", fn := fun _ => fun
  | [d1, d2] => { results := [.lit (.bool false)], args := [d1, d2] }
  | _ => none }
def ShaEdgesWrongFalsely : Prop := shaEdgesRow.holds Try.pinned (OpenSpec.ofChange shaEdgesWrong)

/-- 'anabranchlaw06.MacOf': WHATEVER THE INPUT: true; the input reads as it did. -/
def macOfSpec : ChangeSpec := { name := "macOf", fn := fun _ => fun
  | [d1, d2] => { results := [.lit (.bool true)], args := [d1, d2] }
  | _ => none }
def macOfRow : OpenClaim := { program := "ytlcjbfmpnknkfaa", sum := "2da6f3f68e60b28dbc29159356c7bf1329e62ad2ad39096135719add909c52f1", func := "anabranch/anabranchlaw06.MacOf", spec := "macOf", inPlace := ["internal/abi.NoEscape", "internal/bytealg.MakeNoZero"], unfollowed := true, recurses := true, plainKeys := false, apart := false }
def MacOfSaid : Prop := macOfRow.holds Try.pinned (OpenSpec.ofChange macOfSpec)

/-- ITS FALSE NEIGHBOUR: 'it returns false'. Refute it at one input. -/
def macOfWrong : ChangeSpec := { name := "macOf", fn := fun _ => fun
  | [d1, d2] => { results := [.lit (.bool false)], args := [d1, d2] }
  | _ => none }
def MacOfWrongFalsely : Prop := macOfRow.holds Try.pinned (OpenSpec.ofChange macOfWrong)

/-- 'anabranchlaw06.MacLong': WHATEVER THE INPUT: true; the input reads as it did. -/
def macLongSpec : ChangeSpec := { name := "macLong", fn := fun _ => fun
  | [d1, d2, d3] => { results := [.lit (.bool true)], args := [d1, d2, d3] }
  | _ => none }
def macLongRow : OpenClaim := { program := "ytlcjbfmpnknkfaa", sum := "2da6f3f68e60b28dbc29159356c7bf1329e62ad2ad39096135719add909c52f1", func := "anabranch/anabranchlaw06.MacLong", spec := "macLong", inPlace := ["internal/abi.NoEscape", "internal/bytealg.MakeNoZero"], unfollowed := true, recurses := true, plainKeys := false, apart := false }
def MacLongSaid : Prop := macLongRow.holds Try.pinned (OpenSpec.ofChange macLongSpec)

/-- ITS FALSE NEIGHBOUR: 'it returns false'. Refute it at one input. -/
def macLongWrong : ChangeSpec := { name := "macLong", fn := fun _ => fun
  | [d1, d2, d3] => { results := [.lit (.bool false)], args := [d1, d2, d3] }
  | _ => none }
def MacLongWrongFalsely : Prop := macLongRow.holds Try.pinned (OpenSpec.ofChange macLongWrong)

/-- 'anabranchlaw06.MacTells': WHATEVER THE INPUT: true; the input reads as it did. -/
def macTellsSpec : ChangeSpec := { name := "macTells", fn := fun _ => fun
  | [d1, d2, d3, d4] => { results := [.lit (.bool true)], args := [d1, d2, d3, d4] }
  | _ => none }
def macTellsRow : OpenClaim := { program := "ytlcjbfmpnknkfaa", sum := "2da6f3f68e60b28dbc29159356c7bf1329e62ad2ad39096135719add909c52f1", func := "anabranch/anabranchlaw06.MacTells", spec := "macTells", inPlace := ["internal/abi.NoEscape", "internal/bytealg.MakeNoZero"], unfollowed := true, recurses := true, plainKeys := false, apart := false }
def MacTellsSaid : Prop := macTellsRow.holds Try.pinned (OpenSpec.ofChange macTellsSpec)

/-- ITS FALSE NEIGHBOUR: 'it returns false'. Refute it at one input. -/
def macTellsWrong : ChangeSpec := { name := "macTells", fn := fun _ => fun
  | [d1, d2, d3, d4] => { results := [.lit (.bool false)], args := [d1, d2, d3, d4] }
  | _ => none }
def MacTellsWrongFalsely : Prop := macTellsRow.holds Try.pinned (OpenSpec.ofChange macTellsWrong)

/-- 'anabranchlaw26.KeysApart': WHATEVER THE INPUT: true; the input reads as it did. -/
def keysApartSpec : ChangeSpec := { name := "keysApart", fn := fun _ => fun
  | [d1, d2, d3, d4] => { results := [.lit (.bool true)], args := [d1, d2, d3, d4] }
  | _ => none }
def keysApartRow : OpenClaim := { program := "ytlcjbfmpnknkfaa", sum := "2da6f3f68e60b28dbc29159356c7bf1329e62ad2ad39096135719add909c52f1", func := "anabranch/anabranchlaw26.KeysApart", spec := "keysApart", inPlace := ["internal/abi.NoEscape", "internal/bytealg.MakeNoZero"], unfollowed := true, recurses := true, plainKeys := false, apart := false }
def KeysApartSaid : Prop := keysApartRow.holds Try.pinned (OpenSpec.ofChange keysApartSpec)

/-- ITS FALSE NEIGHBOUR: 'it returns false'. Refute it at one input. -/
def keysApartWrong : ChangeSpec := { name := "keysApart", fn := fun _ => fun
  | [d1, d2, d3, d4] => { results := [.lit (.bool false)], args := [d1, d2, d3, d4] }
  | _ => none }
def KeysApartWrongFalsely : Prop := keysApartRow.holds Try.pinned (OpenSpec.ofChange keysApartWrong)

/-- 'anabranchlaw26.KeysTells': WHATEVER THE INPUT: true; the input reads as it did. -/
def keysTellsSpec : ChangeSpec := { name := "keysTells", fn := fun _ => fun
  | [d1, d2, d3] => { results := [.lit (.bool true)], args := [d1, d2, d3] }
  | _ => none }
def keysTellsRow : OpenClaim := { program := "ytlcjbfmpnknkfaa", sum := "2da6f3f68e60b28dbc29159356c7bf1329e62ad2ad39096135719add909c52f1", func := "anabranch/anabranchlaw26.KeysTells", spec := "keysTells", inPlace := ["internal/abi.NoEscape", "internal/bytealg.MakeNoZero"], unfollowed := true, recurses := true, plainKeys := false, apart := false }
def KeysTellsSaid : Prop := keysTellsRow.holds Try.pinned (OpenSpec.ofChange keysTellsSpec)

/-- ITS FALSE NEIGHBOUR: 'it returns false'. Refute it at one input. -/
def keysTellsWrong : ChangeSpec := { name := "keysTells", fn := fun _ => fun
  | [d1, d2, d3] => { results := [.lit (.bool false)], args := [d1, d2, d3] }
  | _ => none }
def KeysTellsWrongFalsely : Prop := keysTellsRow.holds Try.pinned (OpenSpec.ofChange keysTellsWrong)

/-- 'anabranchlaw16.CookieSeals': WHATEVER THE INPUT: true; the input reads as it did. -/
def cookieSealsSpec : ChangeSpec := { name := "cookieSeals", fn := fun _ => fun
  | [d1, d2, d3] => { results := [.lit (.bool true)], args := [d1, d2, d3] }
  | _ => none }
def cookieSealsRow : OpenClaim := { program := "ytlcjbfmpnknkfaa", sum := "2da6f3f68e60b28dbc29159356c7bf1329e62ad2ad39096135719add909c52f1", func := "anabranch/anabranchlaw16.CookieSeals", spec := "cookieSeals", inPlace := ["internal/abi.NoEscape", "internal/bytealg.MakeNoZero"], unfollowed := true, recurses := true, plainKeys := false, apart := false }
def CookieSealsSaid : Prop := cookieSealsRow.holds Try.pinned (OpenSpec.ofChange cookieSealsSpec)

/-- ITS FALSE NEIGHBOUR: 'it returns false'. Refute it at one input. -/
def cookieSealsWrong : ChangeSpec := { name := "cookieSeals", fn := fun _ => fun
  | [d1, d2, d3] => { results := [.lit (.bool false)], args := [d1, d2, d3] }
  | _ => none }
def CookieSealsWrongFalsely : Prop := cookieSealsRow.holds Try.pinned (OpenSpec.ofChange cookieSealsWrong)

/-- 'anabranchlaw16.CookieOpens': WHATEVER THE INPUT: true; the input reads as it did. -/
def cookieOpensSpec : ChangeSpec := { name := "cookieOpens", fn := fun _ => fun
  | [d1, d2, d3] => { results := [.lit (.bool true)], args := [d1, d2, d3] }
  | _ => none }
def cookieOpensRow : OpenClaim := { program := "ytlcjbfmpnknkfaa", sum := "2da6f3f68e60b28dbc29159356c7bf1329e62ad2ad39096135719add909c52f1", func := "anabranch/anabranchlaw16.CookieOpens", spec := "cookieOpens", inPlace := ["internal/abi.NoEscape", "internal/bytealg.MakeNoZero"], unfollowed := true, recurses := true, plainKeys := false, apart := false }
def CookieOpensSaid : Prop := cookieOpensRow.holds Try.pinned (OpenSpec.ofChange cookieOpensSpec)

/-- ITS FALSE NEIGHBOUR: 'it returns false'. Refute it at one input. -/
def cookieOpensWrong : ChangeSpec := { name := "cookieOpens", fn := fun _ => fun
  | [d1, d2, d3] => { results := [.lit (.bool false)], args := [d1, d2, d3] }
  | _ => none }
def CookieOpensWrongFalsely : Prop := cookieOpensRow.holds Try.pinned (OpenSpec.ofChange cookieOpensWrong)

/-- 'anabranchlaw16.CookieFresh': WHATEVER THE INPUT: true; the input reads as it did. -/
def cookieFreshSpec : ChangeSpec := { name := "cookieFresh", fn := fun _ => fun
  | [d1, d2, d3] => { results := [.lit (.bool true)], args := [d1, d2, d3] }
  | _ => none }
def cookieFreshRow : OpenClaim := { program := "ytlcjbfmpnknkfaa", sum := "2da6f3f68e60b28dbc29159356c7bf1329e62ad2ad39096135719add909c52f1", func := "anabranch/anabranchlaw16.CookieFresh", spec := "cookieFresh", inPlace := ["internal/abi.NoEscape", "internal/bytealg.MakeNoZero"], unfollowed := true, recurses := true, plainKeys := false, apart := false }
def CookieFreshSaid : Prop := cookieFreshRow.holds Try.pinned (OpenSpec.ofChange cookieFreshSpec)

/-- ITS FALSE NEIGHBOUR: 'it returns false'. Refute it at one input. -/
def cookieFreshWrong : ChangeSpec := { name := "cookieFresh", fn := fun _ => fun
  | [d1, d2, d3] => { results := [.lit (.bool false)], args := [d1, d2, d3] }
  | _ => none }
def CookieFreshWrongFalsely : Prop := cookieFreshRow.holds Try.pinned (OpenSpec.ofChange cookieFreshWrong)

/-- 'anabranchlaw29.JoinNot': WHATEVER THE INPUT: true; the input reads as it did. -/
def joinNotSpec : ChangeSpec := { name := "joinNot", fn := fun _ => fun
  | [d1, d2, d3, d4] => { results := [.lit (.bool true)], args := [d1, d2, d3, d4] }
  | _ => none }
def joinNotRow : OpenClaim := { program := "ytlcjbfmpnknkfaa", sum := "2da6f3f68e60b28dbc29159356c7bf1329e62ad2ad39096135719add909c52f1", func := "anabranch/anabranchlaw29.JoinNot", spec := "joinNot", inPlace := ["internal/abi.NoEscape", "internal/bytealg.MakeNoZero"], unfollowed := true, recurses := true, plainKeys := false, apart := false }
def JoinNotSaid : Prop := joinNotRow.holds Try.pinned (OpenSpec.ofChange joinNotSpec)

/-- ITS FALSE NEIGHBOUR: 'it returns false'. Refute it at one input. -/
def joinNotWrong : ChangeSpec := { name := "joinNot", fn := fun _ => fun
  | [d1, d2, d3, d4] => { results := [.lit (.bool false)], args := [d1, d2, d3, d4] }
  | _ => none }
def JoinNotWrongFalsely : Prop := joinNotRow.holds Try.pinned (OpenSpec.ofChange joinNotWrong)

/-- 'anabranchlaw13.WheelPieces': WHATEVER THE INPUT: true; the input reads as it did. -/
def wheelPiecesSpec : ChangeSpec := { name := "wheelPieces", fn := fun _ => fun
  | [d1, d2, d3] => { results := [.lit (.bool true)], args := [d1, d2, d3] }
  | _ => none }
def wheelPiecesRow : OpenClaim := { program := "ytlcjbfmpnknkfaa", sum := "2da6f3f68e60b28dbc29159356c7bf1329e62ad2ad39096135719add909c52f1", func := "anabranch/anabranchlaw13.WheelPieces", spec := "wheelPieces", unfollowed := true, recurses := true, plainKeys := false, apart := false }
def WheelPiecesSaid : Prop := wheelPiecesRow.holds Try.pinned (OpenSpec.ofChange wheelPiecesSpec)

/-- ITS FALSE NEIGHBOUR: 'it returns false'. Refute it at one input. -/
def wheelPiecesWrong : ChangeSpec := { name := "wheelPieces", fn := fun _ => fun
  | [d1, d2, d3] => { results := [.lit (.bool false)], args := [d1, d2, d3] }
  | _ => none }
def WheelPiecesWrongFalsely : Prop := wheelPiecesRow.holds Try.pinned (OpenSpec.ofChange wheelPiecesWrong)

/-- 'anabranchlaw13.WheelNext': WHATEVER THE INPUT: true; the input reads as it did. -/
def wheelNextSpec : ChangeSpec := { name := "wheelNext", fn := fun _ => fun
  | [d] => { results := [.lit (.bool true)], args := [d] }
  | _ => none }
def wheelNextRow : OpenClaim := { program := "ytlcjbfmpnknkfaa", sum := "2da6f3f68e60b28dbc29159356c7bf1329e62ad2ad39096135719add909c52f1", func := "anabranch/anabranchlaw13.WheelNext", spec := "wheelNext", unfollowed := true, recurses := true, plainKeys := false, apart := false }
def WheelNextSaid : Prop := wheelNextRow.holds Try.pinned (OpenSpec.ofChange wheelNextSpec)

/-- ITS FALSE NEIGHBOUR: 'it returns false'. Refute it at one input. -/
def wheelNextWrong : ChangeSpec := { name := "wheelNext", fn := fun _ => fun
  | [d] => { results := [.lit (.bool false)], args := [d] }
  | _ => none }
def WheelNextWrongFalsely : Prop := wheelNextRow.holds Try.pinned (OpenSpec.ofChange wheelNextWrong)

/-- 'anabranchlaw29.JoinCodes': WHATEVER THE INPUT: true; the input reads as it did. -/
def joinCodesSpec : ChangeSpec := { name := "joinCodes", fn := fun _ => fun
  | [d1, d2, d3, d4] => { results := [.lit (.bool true)], args := [d1, d2, d3, d4] }
  | _ => none }
def joinCodesRow : OpenClaim := { program := "ytlcjbfmpnknkfaa", sum := "2da6f3f68e60b28dbc29159356c7bf1329e62ad2ad39096135719add909c52f1", func := "anabranch/anabranchlaw29.JoinCodes", spec := "joinCodes", inPlace := ["internal/abi.NoEscape", "internal/bytealg.MakeNoZero"], unfollowed := true, recurses := true, plainKeys := false, apart := false }
def JoinCodesSaid : Prop := joinCodesRow.holds Try.pinned (OpenSpec.ofChange joinCodesSpec)

/-- ITS FALSE NEIGHBOUR: 'it returns false'. Refute it at one input. -/
def joinCodesWrong : ChangeSpec := { name := "joinCodes", fn := fun _ => fun
  | [d1, d2, d3, d4] => { results := [.lit (.bool false)], args := [d1, d2, d3, d4] }
  | _ => none }
def JoinCodesWrongFalsely : Prop := joinCodesRow.holds Try.pinned (OpenSpec.ofChange joinCodesWrong)

/-- 'anabranchlaw29.JoinMeet': WHATEVER THE INPUT: true; the input reads as it did. -/
def joinMeetSpec : ChangeSpec := { name := "joinMeet", fn := fun _ => fun
  | [d1, d2, d3, d4, d5] => { results := [.lit (.bool true)], args := [d1, d2, d3, d4, d5] }
  | _ => none }
def joinMeetRow : OpenClaim := { program := "ytlcjbfmpnknkfaa", sum := "2da6f3f68e60b28dbc29159356c7bf1329e62ad2ad39096135719add909c52f1", func := "anabranch/anabranchlaw29.JoinMeet", spec := "joinMeet", inPlace := ["internal/abi.NoEscape", "internal/bytealg.MakeNoZero"], unfollowed := true, recurses := true, plainKeys := false, apart := false }
def JoinMeetSaid : Prop := joinMeetRow.holds Try.pinned (OpenSpec.ofChange joinMeetSpec)

/-- ITS FALSE NEIGHBOUR: 'it returns false'. Refute it at one input. -/
def joinMeetWrong : ChangeSpec := { name := "joinMeet", fn := fun _ => fun
  | [d1, d2, d3, d4, d5] => { results := [.lit (.bool false)], args := [d1, d2, d3, d4, d5] }
  | _ => none }
def JoinMeetWrongFalsely : Prop := joinMeetRow.holds Try.pinned (OpenSpec.ofChange joinMeetWrong)

/-- 'anabranchlaw30.PathsNumbers': WHATEVER THE INPUT: true; the input reads as it did. -/
def pathsNumbersSpec : ChangeSpec := { name := "pathsNumbers", fn := fun _ => fun
  | [d1, d2] => { results := [.lit (.bool true)], args := [d1, d2] }
  | _ => none }
def pathsNumbersRow : OpenClaim := { program := "ytlcjbfmpnknkfaa", sum := "2da6f3f68e60b28dbc29159356c7bf1329e62ad2ad39096135719add909c52f1", func := "anabranch/anabranchlaw30.PathsNumbers", spec := "pathsNumbers", unfollowed := true, recurses := true, plainKeys := false, apart := false }
def PathsNumbersSaid : Prop := pathsNumbersRow.holds Try.pinned (OpenSpec.ofChange pathsNumbersSpec)

/-- ITS FALSE NEIGHBOUR: 'it returns false'. Refute it at one input. -/
def pathsNumbersWrong : ChangeSpec := { name := "pathsNumbers", fn := fun _ => fun
  | [d1, d2] => { results := [.lit (.bool false)], args := [d1, d2] }
  | _ => none }
def PathsNumbersWrongFalsely : Prop := pathsNumbersRow.holds Try.pinned (OpenSpec.ofChange pathsNumbersWrong)

/-- 'anabranchlaw10.PacketPuts': WHATEVER THE INPUT: true; the input reads as it did. -/
def packetPutsSpec : ChangeSpec := { name := "packetPuts", fn := fun _ => fun
  | [d1, d2, d3] => { results := [.lit (.bool true)], args := [d1, d2, d3] }
  | _ => none }
def packetPutsRow : OpenClaim := { program := "ytlcjbfmpnknkfaa", sum := "2da6f3f68e60b28dbc29159356c7bf1329e62ad2ad39096135719add909c52f1", func := "anabranch/anabranchlaw10.PacketPuts", spec := "packetPuts", inPlace := ["internal/abi.NoEscape"], unfollowed := true, recurses := true, plainKeys := false, apart := false }
def PacketPutsSaid : Prop := packetPutsRow.holds Try.pinned (OpenSpec.ofChange packetPutsSpec)

/-- ITS FALSE NEIGHBOUR: 'it returns false'. Refute it at one input. -/
def packetPutsWrong : ChangeSpec := { name := "packetPuts", fn := fun _ => fun
  | [d1, d2, d3] => { results := [.lit (.bool false)], args := [d1, d2, d3] }
  | _ => none }
def PacketPutsWrongFalsely : Prop := packetPutsRow.holds Try.pinned (OpenSpec.ofChange packetPutsWrong)

/-- 'anabranchlaw10.PacketGets': WHATEVER THE INPUT: true; the input reads as it did. -/
def packetGetsSpec : ChangeSpec := { name := "packetGets", fn := fun _ => fun
  | [d1, d2] => { results := [.lit (.bool true)], args := [d1, d2] }
  | _ => none }
def packetGetsRow : OpenClaim := { program := "ytlcjbfmpnknkfaa", sum := "2da6f3f68e60b28dbc29159356c7bf1329e62ad2ad39096135719add909c52f1", func := "anabranch/anabranchlaw10.PacketGets", spec := "packetGets", inPlace := ["internal/abi.NoEscape"], unfollowed := true, recurses := true, plainKeys := false, apart := false }
def PacketGetsSaid : Prop := packetGetsRow.holds Try.pinned (OpenSpec.ofChange packetGetsSpec)

/-- ITS FALSE NEIGHBOUR: 'it returns false'. Refute it at one input. -/
def packetGetsWrong : ChangeSpec := { name := "packetGets", fn := fun _ => fun
  | [d1, d2] => { results := [.lit (.bool false)], args := [d1, d2] }
  | _ => none }
def PacketGetsWrongFalsely : Prop := packetGetsRow.holds Try.pinned (OpenSpec.ofChange packetGetsWrong)

/-- 'anabranchlaw10.PacketAlike': WHATEVER THE INPUT: true; the input reads as it did. -/
def packetAlikeSpec : ChangeSpec := { name := "packetAlike", fn := fun _ => fun
  | [d1, d2, d3] => { results := [.lit (.bool true)], args := [d1, d2, d3] }
  | _ => none }
def packetAlikeRow : OpenClaim := { program := "ytlcjbfmpnknkfaa", sum := "2da6f3f68e60b28dbc29159356c7bf1329e62ad2ad39096135719add909c52f1", func := "anabranch/anabranchlaw10.PacketAlike", spec := "packetAlike", inPlace := ["internal/abi.NoEscape"], unfollowed := true, recurses := true, plainKeys := false, apart := false }
def PacketAlikeSaid : Prop := packetAlikeRow.holds Try.pinned (OpenSpec.ofChange packetAlikeSpec)

/-- ITS FALSE NEIGHBOUR: 'it returns false'. Refute it at one input. -/
def packetAlikeWrong : ChangeSpec := { name := "packetAlike", fn := fun _ => fun
  | [d1, d2, d3] => { results := [.lit (.bool false)], args := [d1, d2, d3] }
  | _ => none }
def PacketAlikeWrongFalsely : Prop := packetAlikeRow.holds Try.pinned (OpenSpec.ofChange packetAlikeWrong)

/-- 'anabranchlaw30.PathsDo': WHATEVER THE INPUT: true; the input reads as it did. -/
def pathsDoSpec : ChangeSpec := { name := "pathsDo", fn := fun _ => fun
  | [d] => { results := [.lit (.bool true)], args := [d] }
  | _ => none }
def pathsDoRow : OpenClaim := { program := "ytlcjbfmpnknkfaa", sum := "2da6f3f68e60b28dbc29159356c7bf1329e62ad2ad39096135719add909c52f1", func := "anabranch/anabranchlaw30.PathsDo", spec := "pathsDo", unfollowed := true, recurses := true, plainKeys := false, apart := false }
def PathsDoSaid : Prop := pathsDoRow.holds Try.pinned (OpenSpec.ofChange pathsDoSpec)

/-- ITS FALSE NEIGHBOUR: 'it returns false'. Refute it at one input. -/
def pathsDoWrong : ChangeSpec := { name := "pathsDo", fn := fun _ => fun
  | [d] => { results := [.lit (.bool false)], args := [d] }
  | _ => none }
def PathsDoWrongFalsely : Prop := pathsDoRow.holds Try.pinned (OpenSpec.ofChange pathsDoWrong)

/-- 'anabranchlaw24.ConnPair': WHATEVER THE INPUT: true; the input reads as it did. -/
def connPairSpec : ChangeSpec := { name := "connPair", fn := fun _ => fun
  | [d1, d2, d3, d4] => { results := [.lit (.bool true)], args := [d1, d2, d3, d4] }
  | _ => none }
def connPairRow : OpenClaim := { program := "ytlcjbfmpnknkfaa", sum := "2da6f3f68e60b28dbc29159356c7bf1329e62ad2ad39096135719add909c52f1", func := "anabranch/anabranchlaw24.ConnPair", spec := "connPair", unfollowed := true, recurses := true, plainKeys := false, apart := false }
def ConnPairSaid : Prop := connPairRow.holds Try.pinned (OpenSpec.ofChange connPairSpec)

/-- ITS FALSE NEIGHBOUR: 'it returns false'. Refute it at one input. -/
def connPairWrong : ChangeSpec := { name := "connPair", fn := fun _ => fun
  | [d1, d2, d3, d4] => { results := [.lit (.bool false)], args := [d1, d2, d3, d4] }
  | _ => none }
def ConnPairWrongFalsely : Prop := connPairRow.holds Try.pinned (OpenSpec.ofChange connPairWrong)

/- THE SECOND FORM. 'bulk': how many values and letters a reading holds, each counted each time it is reached (what is shared counts as often as it is met; a slice's spare places count too). A statement '..UptoSaid' is the law's where the arguments, and the package variables that the reading takes, are together of bulk at most 1048576: NARROWER than '..Said'. Prove '..Said' where nothing that the law and all that it calls make is longer than what came in: it says more and counts as full. Else prove '..UptoSaid'. A law counts once. -/
mutual
def uptoBulk {H : Type} : DataW H → Nat
  | .lit (.string bytes) => bytes.length + 1
  | .lit _ => 1
  | .nil => 1
  | .ptr d => uptoBulk d + 1
  | .slice elems spare => uptoBulkAll elems + uptoBulkAll spare + 1
  | .agg parts => uptoBulkAll parts + 1
  | .iface _ d => uptoBulk d + 1
  | .map entries => uptoBulkEntries entries + 1
  | .held _ => 1
def uptoBulkAll {H : Type} : List (DataW H) → Nat
  | [] => 0
  | d :: r => uptoBulk d + uptoBulkAll r
def uptoBulkEntries {H : Type} : List (Lit × DataW H) → Nat
  | [] => 0
  | x :: r => uptoBulkEntry x + uptoBulkEntries r
def uptoBulkEntry {H : Type} : Lit × DataW H → Nat
  | (.string bytes, d) => bytes.length + uptoBulk d + 1
  | (_, d) => uptoBulk d + 1
 end
def uptoSmall : (H : Type) → List (DataW H) → Bool := fun _ ds => decide (uptoBulkAll ds ≤ 1048576)
def OpenSpec.upto (s : _root_.Go.ChangeSpec) : _root_.Go.OpenSpec := { _root_.Go.OpenSpec.ofChange s with cond := some uptoSmall }

/-- 'anabranchlaw44.AuditTells', WHERE WHAT IT READS IS OF BULK AT MOST 1048576: true; the input reads as it did. -/
def auditTellsUptoRow : OpenClaim := { program := "ytlcjbfmpnknkfaa", sum := "2da6f3f68e60b28dbc29159356c7bf1329e62ad2ad39096135719add909c52f1", func := "anabranch/anabranchlaw44.AuditTells", spec := "auditTells", plainKeys := false, apart := false, narrowed := true }
def AuditTellsUptoSaid : Prop := auditTellsUptoRow.holds Try.pinned (OpenSpec.upto auditTellsSpec)

/-- 'anabranchlaw05.ShaOf', WHERE WHAT IT READS IS OF BULK AT MOST 1048576: true; the input reads as it did. -/
def shaOfUptoRow : OpenClaim := { program := "ytlcjbfmpnknkfaa", sum := "2da6f3f68e60b28dbc29159356c7bf1329e62ad2ad39096135719add909c52f1", func := "anabranch/anabranchlaw05.ShaOf", spec := "shaOf", inPlace := ["internal/abi.NoEscape", "internal/bytealg.MakeNoZero"], plainKeys := false, apart := false, narrowed := true }
def ShaOfUptoSaid : Prop := shaOfUptoRow.holds Try.pinned (OpenSpec.upto shaOfSpec)

/-- 'anabranchlaw05.ShaPieces', WHERE WHAT IT READS IS OF BULK AT MOST 1048576: true; the input reads as it did. -/
def shaPiecesUptoRow : OpenClaim := { program := "ytlcjbfmpnknkfaa", sum := "2da6f3f68e60b28dbc29159356c7bf1329e62ad2ad39096135719add909c52f1", func := "anabranch/anabranchlaw05.ShaPieces", spec := "shaPieces", inPlace := ["internal/abi.NoEscape", "internal/bytealg.MakeNoZero"], plainKeys := false, apart := false, narrowed := true }
def ShaPiecesUptoSaid : Prop := shaPiecesUptoRow.holds Try.pinned (OpenSpec.upto shaPiecesSpec)

/-- 'anabranchlaw05.ShaEdges', WHERE WHAT IT READS IS OF BULK AT MOST 1048576: true; the input reads as it did. -/
def shaEdgesUptoRow : OpenClaim := { program := "ytlcjbfmpnknkfaa", sum := "2da6f3f68e60b28dbc29159356c7bf1329e62ad2ad39096135719add909c52f1", func := "anabranch/anabranchlaw05.ShaEdges", spec := "shaEdges", inPlace := ["internal/abi.NoEscape", "internal/bytealg.MakeNoZero"], plainKeys := false, apart := false, narrowed := true }
def ShaEdgesUptoSaid : Prop := shaEdgesUptoRow.holds Try.pinned (OpenSpec.upto shaEdgesSpec)

/-- 'anabranchlaw06.MacOf', WHERE WHAT IT READS IS OF BULK AT MOST 1048576: true; the input reads as it did. -/
def macOfUptoRow : OpenClaim := { program := "ytlcjbfmpnknkfaa", sum := "2da6f3f68e60b28dbc29159356c7bf1329e62ad2ad39096135719add909c52f1", func := "anabranch/anabranchlaw06.MacOf", spec := "macOf", inPlace := ["internal/abi.NoEscape", "internal/bytealg.MakeNoZero"], unfollowed := true, recurses := true, plainKeys := false, apart := false, narrowed := true }
def MacOfUptoSaid : Prop := macOfUptoRow.holds Try.pinned (OpenSpec.upto macOfSpec)

/-- 'anabranchlaw06.MacLong', WHERE WHAT IT READS IS OF BULK AT MOST 1048576: true; the input reads as it did. -/
def macLongUptoRow : OpenClaim := { program := "ytlcjbfmpnknkfaa", sum := "2da6f3f68e60b28dbc29159356c7bf1329e62ad2ad39096135719add909c52f1", func := "anabranch/anabranchlaw06.MacLong", spec := "macLong", inPlace := ["internal/abi.NoEscape", "internal/bytealg.MakeNoZero"], unfollowed := true, recurses := true, plainKeys := false, apart := false, narrowed := true }
def MacLongUptoSaid : Prop := macLongUptoRow.holds Try.pinned (OpenSpec.upto macLongSpec)

/-- 'anabranchlaw06.MacTells', WHERE WHAT IT READS IS OF BULK AT MOST 1048576: true; the input reads as it did. -/
def macTellsUptoRow : OpenClaim := { program := "ytlcjbfmpnknkfaa", sum := "2da6f3f68e60b28dbc29159356c7bf1329e62ad2ad39096135719add909c52f1", func := "anabranch/anabranchlaw06.MacTells", spec := "macTells", inPlace := ["internal/abi.NoEscape", "internal/bytealg.MakeNoZero"], unfollowed := true, recurses := true, plainKeys := false, apart := false, narrowed := true }
def MacTellsUptoSaid : Prop := macTellsUptoRow.holds Try.pinned (OpenSpec.upto macTellsSpec)

/-- 'anabranchlaw26.KeysApart', WHERE WHAT IT READS IS OF BULK AT MOST 1048576: true; the input reads as it did. -/
def keysApartUptoRow : OpenClaim := { program := "ytlcjbfmpnknkfaa", sum := "2da6f3f68e60b28dbc29159356c7bf1329e62ad2ad39096135719add909c52f1", func := "anabranch/anabranchlaw26.KeysApart", spec := "keysApart", inPlace := ["internal/abi.NoEscape", "internal/bytealg.MakeNoZero"], unfollowed := true, recurses := true, plainKeys := false, apart := false, narrowed := true }
def KeysApartUptoSaid : Prop := keysApartUptoRow.holds Try.pinned (OpenSpec.upto keysApartSpec)

/-- 'anabranchlaw26.KeysTells', WHERE WHAT IT READS IS OF BULK AT MOST 1048576: true; the input reads as it did. -/
def keysTellsUptoRow : OpenClaim := { program := "ytlcjbfmpnknkfaa", sum := "2da6f3f68e60b28dbc29159356c7bf1329e62ad2ad39096135719add909c52f1", func := "anabranch/anabranchlaw26.KeysTells", spec := "keysTells", inPlace := ["internal/abi.NoEscape", "internal/bytealg.MakeNoZero"], unfollowed := true, recurses := true, plainKeys := false, apart := false, narrowed := true }
def KeysTellsUptoSaid : Prop := keysTellsUptoRow.holds Try.pinned (OpenSpec.upto keysTellsSpec)

/-- 'anabranchlaw16.CookieSeals', WHERE WHAT IT READS IS OF BULK AT MOST 1048576: true; the input reads as it did. -/
def cookieSealsUptoRow : OpenClaim := { program := "ytlcjbfmpnknkfaa", sum := "2da6f3f68e60b28dbc29159356c7bf1329e62ad2ad39096135719add909c52f1", func := "anabranch/anabranchlaw16.CookieSeals", spec := "cookieSeals", inPlace := ["internal/abi.NoEscape", "internal/bytealg.MakeNoZero"], unfollowed := true, recurses := true, plainKeys := false, apart := false, narrowed := true }
def CookieSealsUptoSaid : Prop := cookieSealsUptoRow.holds Try.pinned (OpenSpec.upto cookieSealsSpec)

/-- 'anabranchlaw16.CookieOpens', WHERE WHAT IT READS IS OF BULK AT MOST 1048576: true; the input reads as it did. -/
def cookieOpensUptoRow : OpenClaim := { program := "ytlcjbfmpnknkfaa", sum := "2da6f3f68e60b28dbc29159356c7bf1329e62ad2ad39096135719add909c52f1", func := "anabranch/anabranchlaw16.CookieOpens", spec := "cookieOpens", inPlace := ["internal/abi.NoEscape", "internal/bytealg.MakeNoZero"], unfollowed := true, recurses := true, plainKeys := false, apart := false, narrowed := true }
def CookieOpensUptoSaid : Prop := cookieOpensUptoRow.holds Try.pinned (OpenSpec.upto cookieOpensSpec)

/-- 'anabranchlaw16.CookieFresh', WHERE WHAT IT READS IS OF BULK AT MOST 1048576: true; the input reads as it did. -/
def cookieFreshUptoRow : OpenClaim := { program := "ytlcjbfmpnknkfaa", sum := "2da6f3f68e60b28dbc29159356c7bf1329e62ad2ad39096135719add909c52f1", func := "anabranch/anabranchlaw16.CookieFresh", spec := "cookieFresh", inPlace := ["internal/abi.NoEscape", "internal/bytealg.MakeNoZero"], unfollowed := true, recurses := true, plainKeys := false, apart := false, narrowed := true }
def CookieFreshUptoSaid : Prop := cookieFreshUptoRow.holds Try.pinned (OpenSpec.upto cookieFreshSpec)

/-- 'anabranchlaw29.JoinNot', WHERE WHAT IT READS IS OF BULK AT MOST 1048576: true; the input reads as it did. -/
def joinNotUptoRow : OpenClaim := { program := "ytlcjbfmpnknkfaa", sum := "2da6f3f68e60b28dbc29159356c7bf1329e62ad2ad39096135719add909c52f1", func := "anabranch/anabranchlaw29.JoinNot", spec := "joinNot", inPlace := ["internal/abi.NoEscape", "internal/bytealg.MakeNoZero"], unfollowed := true, recurses := true, plainKeys := false, apart := false, narrowed := true }
def JoinNotUptoSaid : Prop := joinNotUptoRow.holds Try.pinned (OpenSpec.upto joinNotSpec)

/-- 'anabranchlaw13.WheelPieces', WHERE WHAT IT READS IS OF BULK AT MOST 1048576: true; the input reads as it did. -/
def wheelPiecesUptoRow : OpenClaim := { program := "ytlcjbfmpnknkfaa", sum := "2da6f3f68e60b28dbc29159356c7bf1329e62ad2ad39096135719add909c52f1", func := "anabranch/anabranchlaw13.WheelPieces", spec := "wheelPieces", unfollowed := true, recurses := true, plainKeys := false, apart := false, narrowed := true }
def WheelPiecesUptoSaid : Prop := wheelPiecesUptoRow.holds Try.pinned (OpenSpec.upto wheelPiecesSpec)

/-- 'anabranchlaw13.WheelNext', WHERE WHAT IT READS IS OF BULK AT MOST 1048576: true; the input reads as it did. -/
def wheelNextUptoRow : OpenClaim := { program := "ytlcjbfmpnknkfaa", sum := "2da6f3f68e60b28dbc29159356c7bf1329e62ad2ad39096135719add909c52f1", func := "anabranch/anabranchlaw13.WheelNext", spec := "wheelNext", unfollowed := true, recurses := true, plainKeys := false, apart := false, narrowed := true }
def WheelNextUptoSaid : Prop := wheelNextUptoRow.holds Try.pinned (OpenSpec.upto wheelNextSpec)

/-- 'anabranchlaw29.JoinCodes', WHERE WHAT IT READS IS OF BULK AT MOST 1048576: true; the input reads as it did. -/
def joinCodesUptoRow : OpenClaim := { program := "ytlcjbfmpnknkfaa", sum := "2da6f3f68e60b28dbc29159356c7bf1329e62ad2ad39096135719add909c52f1", func := "anabranch/anabranchlaw29.JoinCodes", spec := "joinCodes", inPlace := ["internal/abi.NoEscape", "internal/bytealg.MakeNoZero"], unfollowed := true, recurses := true, plainKeys := false, apart := false, narrowed := true }
def JoinCodesUptoSaid : Prop := joinCodesUptoRow.holds Try.pinned (OpenSpec.upto joinCodesSpec)

/-- 'anabranchlaw29.JoinMeet', WHERE WHAT IT READS IS OF BULK AT MOST 1048576: true; the input reads as it did. -/
def joinMeetUptoRow : OpenClaim := { program := "ytlcjbfmpnknkfaa", sum := "2da6f3f68e60b28dbc29159356c7bf1329e62ad2ad39096135719add909c52f1", func := "anabranch/anabranchlaw29.JoinMeet", spec := "joinMeet", inPlace := ["internal/abi.NoEscape", "internal/bytealg.MakeNoZero"], unfollowed := true, recurses := true, plainKeys := false, apart := false, narrowed := true }
def JoinMeetUptoSaid : Prop := joinMeetUptoRow.holds Try.pinned (OpenSpec.upto joinMeetSpec)

/-- 'anabranchlaw30.PathsNumbers', WHERE WHAT IT READS IS OF BULK AT MOST 1048576: true; the input reads as it did. -/
def pathsNumbersUptoRow : OpenClaim := { program := "ytlcjbfmpnknkfaa", sum := "2da6f3f68e60b28dbc29159356c7bf1329e62ad2ad39096135719add909c52f1", func := "anabranch/anabranchlaw30.PathsNumbers", spec := "pathsNumbers", unfollowed := true, recurses := true, plainKeys := false, apart := false, narrowed := true }
def PathsNumbersUptoSaid : Prop := pathsNumbersUptoRow.holds Try.pinned (OpenSpec.upto pathsNumbersSpec)

/-- 'anabranchlaw10.PacketPuts', WHERE WHAT IT READS IS OF BULK AT MOST 1048576: true; the input reads as it did. -/
def packetPutsUptoRow : OpenClaim := { program := "ytlcjbfmpnknkfaa", sum := "2da6f3f68e60b28dbc29159356c7bf1329e62ad2ad39096135719add909c52f1", func := "anabranch/anabranchlaw10.PacketPuts", spec := "packetPuts", inPlace := ["internal/abi.NoEscape"], unfollowed := true, recurses := true, plainKeys := false, apart := false, narrowed := true }
def PacketPutsUptoSaid : Prop := packetPutsUptoRow.holds Try.pinned (OpenSpec.upto packetPutsSpec)

/-- 'anabranchlaw10.PacketGets', WHERE WHAT IT READS IS OF BULK AT MOST 1048576: true; the input reads as it did. -/
def packetGetsUptoRow : OpenClaim := { program := "ytlcjbfmpnknkfaa", sum := "2da6f3f68e60b28dbc29159356c7bf1329e62ad2ad39096135719add909c52f1", func := "anabranch/anabranchlaw10.PacketGets", spec := "packetGets", inPlace := ["internal/abi.NoEscape"], unfollowed := true, recurses := true, plainKeys := false, apart := false, narrowed := true }
def PacketGetsUptoSaid : Prop := packetGetsUptoRow.holds Try.pinned (OpenSpec.upto packetGetsSpec)

/-- 'anabranchlaw10.PacketAlike', WHERE WHAT IT READS IS OF BULK AT MOST 1048576: true; the input reads as it did. -/
def packetAlikeUptoRow : OpenClaim := { program := "ytlcjbfmpnknkfaa", sum := "2da6f3f68e60b28dbc29159356c7bf1329e62ad2ad39096135719add909c52f1", func := "anabranch/anabranchlaw10.PacketAlike", spec := "packetAlike", inPlace := ["internal/abi.NoEscape"], unfollowed := true, recurses := true, plainKeys := false, apart := false, narrowed := true }
def PacketAlikeUptoSaid : Prop := packetAlikeUptoRow.holds Try.pinned (OpenSpec.upto packetAlikeSpec)

/-- 'anabranchlaw30.PathsDo', WHERE WHAT IT READS IS OF BULK AT MOST 1048576: true; the input reads as it did. -/
def pathsDoUptoRow : OpenClaim := { program := "ytlcjbfmpnknkfaa", sum := "2da6f3f68e60b28dbc29159356c7bf1329e62ad2ad39096135719add909c52f1", func := "anabranch/anabranchlaw30.PathsDo", spec := "pathsDo", unfollowed := true, recurses := true, plainKeys := false, apart := false, narrowed := true }
def PathsDoUptoSaid : Prop := pathsDoUptoRow.holds Try.pinned (OpenSpec.upto pathsDoSpec)

/-- 'anabranchlaw24.ConnPair', WHERE WHAT IT READS IS OF BULK AT MOST 1048576: true; the input reads as it did. -/
def connPairUptoRow : OpenClaim := { program := "ytlcjbfmpnknkfaa", sum := "2da6f3f68e60b28dbc29159356c7bf1329e62ad2ad39096135719add909c52f1", func := "anabranch/anabranchlaw24.ConnPair", spec := "connPair", unfollowed := true, recurses := true, plainKeys := false, apart := false, narrowed := true }
def ConnPairUptoSaid : Prop := connPairUptoRow.holds Try.pinned (OpenSpec.upto connPairSpec)

end Rows
end Go.Proofs.Ytlcjbfmpnknkfaa
