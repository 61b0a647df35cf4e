/-
  No cell of these rows narrows 'for every input' (looked for: loops, veiled, ifaces, maps, wideKeys, modest, calm, conditions, laid).
  DERIVED. THE GIVEN ROWS OF THIS SEAT. 16 by the template 'for every input the law returns true; each argument reads behind the call as it read before'; 0 by the template 'total and deterministic' (their statements: YtapogkodlempkaaTotals.lean).
  GIVEN WITH THE SEED: the statements are not yours to turn. If you find one false, say at which input.
  Laid BY PROGRAM, IN A SANDBOX (cutbox-rows.mjs): the forced cells as the released guide's own fill.sh prints them over the translation 8fc8a03a19205486… (all of the seat's roots in one cut). By AI agents, Wed Nov 11 2026. No macro, syntax, notation, axiom, sorry.
-/
import Derived.Test.YtapogkodlempkaaChecked
import GoSem.Claim
import GoSem.ClaimJoined
import GoSem.ClaimMapViews
import Derived.JoinedTies
import Derived.KernelRfl
namespace Go.Proofs.Ytapogkodlempkaa
/- THE CELL 'sum', in the pinned program and in every row, IS THE sha256 OF THE DUMP (.gsa) THAT YtapogkodlempkaaProg.lean LOADS. Nothing in Lean hashes anything: it is a label: what it is worth is what the hold of that sum in a sandbox is worth. -/
noncomputable def Try.pinned : Pinned := { name := "ytapogkodlempkaa", sum := "8fc8a03a192054862b62807547c2e4b34f0e4628a822980a64131d00aee329e1", checked := Try.checked }
namespace Rows
def none {H : Type} : Left H := { results := [], args := [] }

/-- 'anabranchlaw05.ShaPieces': WHATEVER THE INPUT: true; the input reads as it did. -/
def shaPiecesSpec : ChangeSpec := { name := "shaPieces", fn := fun _ => fun
  | [d] => { results := [.lit (.bool true)], args := [d] }
  | _ => none }
def shaPiecesRow : OpenClaim := { program := "ytapogkodlempkaa", sum := "8fc8a03a192054862b62807547c2e4b34f0e4628a822980a64131d00aee329e1", func := "anabranch/anabranchlaw05.ShaPieces", spec := "shaPieces", inPlace := ["internal/abi.NoEscape", "internal/bytealg.MakeNoZero"], apart := false }
def ShaPiecesSaid : Prop := shaPiecesRow.holds Try.pinned (OpenSpec.ofChange shaPiecesSpec)

/-- ITS FALSE NEIGHBOUR: 'it returns false'. Refute it at one input. -/
def shaPiecesWrong : ChangeSpec := { name := "shaPieces", fn := fun _ => fun
  | [d] => { results := [.lit (.bool false)], args := [d] }
  | _ => none }
def ShaPiecesWrongFalsely : Prop := shaPiecesRow.holds Try.pinned (OpenSpec.ofChange shaPiecesWrong)

/-- 'anabranchlaw05.ShaEdges': WHATEVER THE INPUT: true; the input reads as it did. -/
def shaEdgesSpec : ChangeSpec := { name := "shaEdges", fn := fun _ => fun
  | [d1, d2] => { results := [.lit (.bool true)], args := [d1, d2] }
  | _ => none }
def shaEdgesRow : OpenClaim := { program := "ytapogkodlempkaa", sum := "8fc8a03a192054862b62807547c2e4b34f0e4628a822980a64131d00aee329e1", func := "anabranch/anabranchlaw05.ShaEdges", spec := "shaEdges", inPlace := ["internal/abi.NoEscape", "internal/bytealg.MakeNoZero"], apart := false }
def ShaEdgesSaid : Prop := shaEdgesRow.holds Try.pinned (OpenSpec.ofChange shaEdgesSpec)

/-- ITS FALSE NEIGHBOUR: 'it returns false'. Refute it at one input. -/
def shaEdgesWrong : ChangeSpec := { name := "shaEdges", fn := fun _ => fun
  | [d1, d2] => { results := [.lit (.bool false)], args := [d1, d2] }
  | _ => none }
def ShaEdgesWrongFalsely : Prop := shaEdgesRow.holds Try.pinned (OpenSpec.ofChange shaEdgesWrong)

/-- 'anabranchlaw06.MacOf': WHATEVER THE INPUT: true; the input reads as it did. -/
def macOfSpec : ChangeSpec := { name := "macOf", fn := fun _ => fun
  | [d1, d2] => { results := [.lit (.bool true)], args := [d1, d2] }
  | _ => none }
def macOfRow : OpenClaim := { program := "ytapogkodlempkaa", sum := "8fc8a03a192054862b62807547c2e4b34f0e4628a822980a64131d00aee329e1", func := "anabranch/anabranchlaw06.MacOf", spec := "macOf", inPlace := ["internal/abi.NoEscape", "internal/bytealg.MakeNoZero"], unfollowed := true, recurses := true, apart := false }
def MacOfSaid : Prop := macOfRow.holds Try.pinned (OpenSpec.ofChange macOfSpec)

/-- ITS FALSE NEIGHBOUR: 'it returns false'. Refute it at one input. -/
def macOfWrong : ChangeSpec := { name := "macOf", fn := fun _ => fun
  | [d1, d2] => { results := [.lit (.bool false)], args := [d1, d2] }
  | _ => none }
def MacOfWrongFalsely : Prop := macOfRow.holds Try.pinned (OpenSpec.ofChange macOfWrong)

/-- 'anabranchlaw06.MacLong': WHATEVER THE INPUT: true; the input reads as it did. -/
def macLongSpec : ChangeSpec := { name := "macLong", fn := fun _ => fun
  | [d1, d2, d3] => { results := [.lit (.bool true)], args := [d1, d2, d3] }
  | _ => none }
def macLongRow : OpenClaim := { program := "ytapogkodlempkaa", sum := "8fc8a03a192054862b62807547c2e4b34f0e4628a822980a64131d00aee329e1", func := "anabranch/anabranchlaw06.MacLong", spec := "macLong", inPlace := ["internal/abi.NoEscape", "internal/bytealg.MakeNoZero"], unfollowed := true, recurses := true, apart := false }
def MacLongSaid : Prop := macLongRow.holds Try.pinned (OpenSpec.ofChange macLongSpec)

/-- ITS FALSE NEIGHBOUR: 'it returns false'. Refute it at one input. -/
def macLongWrong : ChangeSpec := { name := "macLong", fn := fun _ => fun
  | [d1, d2, d3] => { results := [.lit (.bool false)], args := [d1, d2, d3] }
  | _ => none }
def MacLongWrongFalsely : Prop := macLongRow.holds Try.pinned (OpenSpec.ofChange macLongWrong)

/-- 'anabranchlaw06.MacTells': WHATEVER THE INPUT: true; the input reads as it did. -/
def macTellsSpec : ChangeSpec := { name := "macTells", fn := fun _ => fun
  | [d1, d2, d3, d4] => { results := [.lit (.bool true)], args := [d1, d2, d3, d4] }
  | _ => none }
def macTellsRow : OpenClaim := { program := "ytapogkodlempkaa", sum := "8fc8a03a192054862b62807547c2e4b34f0e4628a822980a64131d00aee329e1", func := "anabranch/anabranchlaw06.MacTells", spec := "macTells", inPlace := ["internal/abi.NoEscape", "internal/bytealg.MakeNoZero"], unfollowed := true, recurses := true, apart := false }
def MacTellsSaid : Prop := macTellsRow.holds Try.pinned (OpenSpec.ofChange macTellsSpec)

/-- ITS FALSE NEIGHBOUR: 'it returns false'. Refute it at one input. -/
def macTellsWrong : ChangeSpec := { name := "macTells", fn := fun _ => fun
  | [d1, d2, d3, d4] => { results := [.lit (.bool false)], args := [d1, d2, d3, d4] }
  | _ => none }
def MacTellsWrongFalsely : Prop := macTellsRow.holds Try.pinned (OpenSpec.ofChange macTellsWrong)

/-- 'anabranchlaw26.KeysApart': WHATEVER THE INPUT: true; the input reads as it did. -/
def keysApartSpec : ChangeSpec := { name := "keysApart", fn := fun _ => fun
  | [d1, d2, d3, d4] => { results := [.lit (.bool true)], args := [d1, d2, d3, d4] }
  | _ => none }
def keysApartRow : OpenClaim := { program := "ytapogkodlempkaa", sum := "8fc8a03a192054862b62807547c2e4b34f0e4628a822980a64131d00aee329e1", func := "anabranch/anabranchlaw26.KeysApart", spec := "keysApart", inPlace := ["internal/abi.NoEscape", "internal/bytealg.MakeNoZero"], unfollowed := true, recurses := true, apart := false }
def KeysApartSaid : Prop := keysApartRow.holds Try.pinned (OpenSpec.ofChange keysApartSpec)

/-- ITS FALSE NEIGHBOUR: 'it returns false'. Refute it at one input. -/
def keysApartWrong : ChangeSpec := { name := "keysApart", fn := fun _ => fun
  | [d1, d2, d3, d4] => { results := [.lit (.bool false)], args := [d1, d2, d3, d4] }
  | _ => none }
def KeysApartWrongFalsely : Prop := keysApartRow.holds Try.pinned (OpenSpec.ofChange keysApartWrong)

/-- 'anabranchlaw26.KeysTells': WHATEVER THE INPUT: true; the input reads as it did. -/
def keysTellsSpec : ChangeSpec := { name := "keysTells", fn := fun _ => fun
  | [d1, d2, d3] => { results := [.lit (.bool true)], args := [d1, d2, d3] }
  | _ => none }
def keysTellsRow : OpenClaim := { program := "ytapogkodlempkaa", sum := "8fc8a03a192054862b62807547c2e4b34f0e4628a822980a64131d00aee329e1", func := "anabranch/anabranchlaw26.KeysTells", spec := "keysTells", inPlace := ["internal/abi.NoEscape", "internal/bytealg.MakeNoZero"], unfollowed := true, recurses := true, apart := false }
def KeysTellsSaid : Prop := keysTellsRow.holds Try.pinned (OpenSpec.ofChange keysTellsSpec)

/-- ITS FALSE NEIGHBOUR: 'it returns false'. Refute it at one input. -/
def keysTellsWrong : ChangeSpec := { name := "keysTells", fn := fun _ => fun
  | [d1, d2, d3] => { results := [.lit (.bool false)], args := [d1, d2, d3] }
  | _ => none }
def KeysTellsWrongFalsely : Prop := keysTellsRow.holds Try.pinned (OpenSpec.ofChange keysTellsWrong)

/-- 'anabranchlaw16.CookieSeals': WHATEVER THE INPUT: true; the input reads as it did. -/
def cookieSealsSpec : ChangeSpec := { name := "cookieSeals", fn := fun _ => fun
  | [d1, d2, d3] => { results := [.lit (.bool true)], args := [d1, d2, d3] }
  | _ => none }
def cookieSealsRow : OpenClaim := { program := "ytapogkodlempkaa", sum := "8fc8a03a192054862b62807547c2e4b34f0e4628a822980a64131d00aee329e1", func := "anabranch/anabranchlaw16.CookieSeals", spec := "cookieSeals", inPlace := ["internal/abi.NoEscape", "internal/bytealg.MakeNoZero"], unfollowed := true, recurses := true, apart := false }
def CookieSealsSaid : Prop := cookieSealsRow.holds Try.pinned (OpenSpec.ofChange cookieSealsSpec)

/-- ITS FALSE NEIGHBOUR: 'it returns false'. Refute it at one input. -/
def cookieSealsWrong : ChangeSpec := { name := "cookieSeals", fn := fun _ => fun
  | [d1, d2, d3] => { results := [.lit (.bool false)], args := [d1, d2, d3] }
  | _ => none }
def CookieSealsWrongFalsely : Prop := cookieSealsRow.holds Try.pinned (OpenSpec.ofChange cookieSealsWrong)

/-- 'anabranchlaw16.CookieOpens': WHATEVER THE INPUT: true; the input reads as it did. -/
def cookieOpensSpec : ChangeSpec := { name := "cookieOpens", fn := fun _ => fun
  | [d1, d2, d3] => { results := [.lit (.bool true)], args := [d1, d2, d3] }
  | _ => none }
def cookieOpensRow : OpenClaim := { program := "ytapogkodlempkaa", sum := "8fc8a03a192054862b62807547c2e4b34f0e4628a822980a64131d00aee329e1", func := "anabranch/anabranchlaw16.CookieOpens", spec := "cookieOpens", inPlace := ["internal/abi.NoEscape", "internal/bytealg.MakeNoZero"], unfollowed := true, recurses := true, apart := false }
def CookieOpensSaid : Prop := cookieOpensRow.holds Try.pinned (OpenSpec.ofChange cookieOpensSpec)

/-- ITS FALSE NEIGHBOUR: 'it returns false'. Refute it at one input. -/
def cookieOpensWrong : ChangeSpec := { name := "cookieOpens", fn := fun _ => fun
  | [d1, d2, d3] => { results := [.lit (.bool false)], args := [d1, d2, d3] }
  | _ => none }
def CookieOpensWrongFalsely : Prop := cookieOpensRow.holds Try.pinned (OpenSpec.ofChange cookieOpensWrong)

/-- 'anabranchlaw16.CookieFresh': WHATEVER THE INPUT: true; the input reads as it did. -/
def cookieFreshSpec : ChangeSpec := { name := "cookieFresh", fn := fun _ => fun
  | [d1, d2, d3] => { results := [.lit (.bool true)], args := [d1, d2, d3] }
  | _ => none }
def cookieFreshRow : OpenClaim := { program := "ytapogkodlempkaa", sum := "8fc8a03a192054862b62807547c2e4b34f0e4628a822980a64131d00aee329e1", func := "anabranch/anabranchlaw16.CookieFresh", spec := "cookieFresh", inPlace := ["internal/abi.NoEscape", "internal/bytealg.MakeNoZero"], unfollowed := true, recurses := true, apart := false }
def CookieFreshSaid : Prop := cookieFreshRow.holds Try.pinned (OpenSpec.ofChange cookieFreshSpec)

/-- ITS FALSE NEIGHBOUR: 'it returns false'. Refute it at one input. -/
def cookieFreshWrong : ChangeSpec := { name := "cookieFresh", fn := fun _ => fun
  | [d1, d2, d3] => { results := [.lit (.bool false)], args := [d1, d2, d3] }
  | _ => none }
def CookieFreshWrongFalsely : Prop := cookieFreshRow.holds Try.pinned (OpenSpec.ofChange cookieFreshWrong)

/-- 'anabranchlaw29.JoinNot': WHATEVER THE INPUT: true; the input reads as it did. -/
def joinNotSpec : ChangeSpec := { name := "joinNot", fn := fun _ => fun
  | [d1, d2, d3, d4] => { results := [.lit (.bool true)], args := [d1, d2, d3, d4] }
  | _ => none }
def joinNotRow : OpenClaim := { program := "ytapogkodlempkaa", sum := "8fc8a03a192054862b62807547c2e4b34f0e4628a822980a64131d00aee329e1", func := "anabranch/anabranchlaw29.JoinNot", spec := "joinNot", inPlace := ["internal/abi.NoEscape", "internal/bytealg.MakeNoZero"], unfollowed := true, recurses := true, apart := false }
def JoinNotSaid : Prop := joinNotRow.holds Try.pinned (OpenSpec.ofChange joinNotSpec)

/-- ITS FALSE NEIGHBOUR: 'it returns false'. Refute it at one input. -/
def joinNotWrong : ChangeSpec := { name := "joinNot", fn := fun _ => fun
  | [d1, d2, d3, d4] => { results := [.lit (.bool false)], args := [d1, d2, d3, d4] }
  | _ => none }
def JoinNotWrongFalsely : Prop := joinNotRow.holds Try.pinned (OpenSpec.ofChange joinNotWrong)

/-- 'anabranchlaw29.JoinCodes': WHATEVER THE INPUT: true; the input reads as it did. -/
def joinCodesSpec : ChangeSpec := { name := "joinCodes", fn := fun _ => fun
  | [d1, d2, d3, d4] => { results := [.lit (.bool true)], args := [d1, d2, d3, d4] }
  | _ => none }
def joinCodesRow : OpenClaim := { program := "ytapogkodlempkaa", sum := "8fc8a03a192054862b62807547c2e4b34f0e4628a822980a64131d00aee329e1", func := "anabranch/anabranchlaw29.JoinCodes", spec := "joinCodes", inPlace := ["internal/abi.NoEscape", "internal/bytealg.MakeNoZero"], unfollowed := true, recurses := true, apart := false }
def JoinCodesSaid : Prop := joinCodesRow.holds Try.pinned (OpenSpec.ofChange joinCodesSpec)

/-- ITS FALSE NEIGHBOUR: 'it returns false'. Refute it at one input. -/
def joinCodesWrong : ChangeSpec := { name := "joinCodes", fn := fun _ => fun
  | [d1, d2, d3, d4] => { results := [.lit (.bool false)], args := [d1, d2, d3, d4] }
  | _ => none }
def JoinCodesWrongFalsely : Prop := joinCodesRow.holds Try.pinned (OpenSpec.ofChange joinCodesWrong)

/-- 'anabranchlaw29.JoinMeet': WHATEVER THE INPUT: true; the input reads as it did. -/
def joinMeetSpec : ChangeSpec := { name := "joinMeet", fn := fun _ => fun
  | [d1, d2, d3, d4, d5] => { results := [.lit (.bool true)], args := [d1, d2, d3, d4, d5] }
  | _ => none }
def joinMeetRow : OpenClaim := { program := "ytapogkodlempkaa", sum := "8fc8a03a192054862b62807547c2e4b34f0e4628a822980a64131d00aee329e1", func := "anabranch/anabranchlaw29.JoinMeet", spec := "joinMeet", inPlace := ["internal/abi.NoEscape", "internal/bytealg.MakeNoZero"], unfollowed := true, recurses := true, apart := false }
def JoinMeetSaid : Prop := joinMeetRow.holds Try.pinned (OpenSpec.ofChange joinMeetSpec)

/-- ITS FALSE NEIGHBOUR: 'it returns false'. Refute it at one input. -/
def joinMeetWrong : ChangeSpec := { name := "joinMeet", fn := fun _ => fun
  | [d1, d2, d3, d4, d5] => { results := [.lit (.bool false)], args := [d1, d2, d3, d4, d5] }
  | _ => none }
def JoinMeetWrongFalsely : Prop := joinMeetRow.holds Try.pinned (OpenSpec.ofChange joinMeetWrong)

/-- 'anabranchlaw10.PacketPuts': WHATEVER THE INPUT: true; the input reads as it did. -/
def packetPutsSpec : ChangeSpec := { name := "packetPuts", fn := fun _ => fun
  | [d1, d2, d3] => { results := [.lit (.bool true)], args := [d1, d2, d3] }
  | _ => none }
def packetPutsRow : OpenClaim := { program := "ytapogkodlempkaa", sum := "8fc8a03a192054862b62807547c2e4b34f0e4628a822980a64131d00aee329e1", func := "anabranch/anabranchlaw10.PacketPuts", spec := "packetPuts", inPlace := ["internal/abi.NoEscape"], unfollowed := true, recurses := true, apart := false }
def PacketPutsSaid : Prop := packetPutsRow.holds Try.pinned (OpenSpec.ofChange packetPutsSpec)

/-- ITS FALSE NEIGHBOUR: 'it returns false'. Refute it at one input. -/
def packetPutsWrong : ChangeSpec := { name := "packetPuts", fn := fun _ => fun
  | [d1, d2, d3] => { results := [.lit (.bool false)], args := [d1, d2, d3] }
  | _ => none }
def PacketPutsWrongFalsely : Prop := packetPutsRow.holds Try.pinned (OpenSpec.ofChange packetPutsWrong)

/-- 'anabranchlaw10.PacketGets': WHATEVER THE INPUT: true; the input reads as it did. -/
def packetGetsSpec : ChangeSpec := { name := "packetGets", fn := fun _ => fun
  | [d1, d2] => { results := [.lit (.bool true)], args := [d1, d2] }
  | _ => none }
def packetGetsRow : OpenClaim := { program := "ytapogkodlempkaa", sum := "8fc8a03a192054862b62807547c2e4b34f0e4628a822980a64131d00aee329e1", func := "anabranch/anabranchlaw10.PacketGets", spec := "packetGets", inPlace := ["internal/abi.NoEscape"], unfollowed := true, recurses := true, apart := false }
def PacketGetsSaid : Prop := packetGetsRow.holds Try.pinned (OpenSpec.ofChange packetGetsSpec)

/-- ITS FALSE NEIGHBOUR: 'it returns false'. Refute it at one input. -/
def packetGetsWrong : ChangeSpec := { name := "packetGets", fn := fun _ => fun
  | [d1, d2] => { results := [.lit (.bool false)], args := [d1, d2] }
  | _ => none }
def PacketGetsWrongFalsely : Prop := packetGetsRow.holds Try.pinned (OpenSpec.ofChange packetGetsWrong)

/-- 'anabranchlaw10.PacketAlike': WHATEVER THE INPUT: true; the input reads as it did. -/
def packetAlikeSpec : ChangeSpec := { name := "packetAlike", fn := fun _ => fun
  | [d1, d2, d3] => { results := [.lit (.bool true)], args := [d1, d2, d3] }
  | _ => none }
def packetAlikeRow : OpenClaim := { program := "ytapogkodlempkaa", sum := "8fc8a03a192054862b62807547c2e4b34f0e4628a822980a64131d00aee329e1", func := "anabranch/anabranchlaw10.PacketAlike", spec := "packetAlike", inPlace := ["internal/abi.NoEscape"], unfollowed := true, recurses := true, apart := false }
def PacketAlikeSaid : Prop := packetAlikeRow.holds Try.pinned (OpenSpec.ofChange packetAlikeSpec)

/-- ITS FALSE NEIGHBOUR: 'it returns false'. Refute it at one input. -/
def packetAlikeWrong : ChangeSpec := { name := "packetAlike", fn := fun _ => fun
  | [d1, d2, d3] => { results := [.lit (.bool false)], args := [d1, d2, d3] }
  | _ => none }
def PacketAlikeWrongFalsely : Prop := packetAlikeRow.holds Try.pinned (OpenSpec.ofChange packetAlikeWrong)

/- THE SECOND FORM. 'bulk': how many values and letters a reading holds, each counted each time it is reached (what is shared counts as often as it is met; a slice's spare places count too). A statement '..UptoSaid' is the law's where the arguments, and the package variables that the reading takes, are together of bulk at most 1048576: NARROWER than '..Said'. Prove '..Said' where nothing that the law and all that it calls make is longer than what came in: it says more and counts as full. Else prove '..UptoSaid'. A law counts once. -/
mutual
def uptoBulk {H : Type} : DataW H → Nat
  | .lit (.string bytes) => bytes.length + 1
  | .lit _ => 1
  | .nil => 1
  | .ptr d => uptoBulk d + 1
  | .slice elems spare => uptoBulkAll elems + uptoBulkAll spare + 1
  | .agg parts => uptoBulkAll parts + 1
  | .iface _ d => uptoBulk d + 1
  | .map entries => uptoBulkEntries entries + 1
  | .held _ => 1
def uptoBulkAll {H : Type} : List (DataW H) → Nat
  | [] => 0
  | d :: r => uptoBulk d + uptoBulkAll r
def uptoBulkEntries {H : Type} : List (Lit × DataW H) → Nat
  | [] => 0
  | x :: r => uptoBulkEntry x + uptoBulkEntries r
def uptoBulkEntry {H : Type} : Lit × DataW H → Nat
  | (.string bytes, d) => bytes.length + uptoBulk d + 1
  | (_, d) => uptoBulk d + 1
 end
def uptoSmall : (H : Type) → List (DataW H) → Bool := fun _ ds => decide (uptoBulkAll ds ≤ 1048576)
def OpenSpec.upto (s : _root_.Go.ChangeSpec) : _root_.Go.OpenSpec := { _root_.Go.OpenSpec.ofChange s with cond := some uptoSmall }

/-- 'anabranchlaw05.ShaPieces', WHERE WHAT IT READS IS OF BULK AT MOST 1048576: true; the input reads as it did. -/
def shaPiecesUptoRow : OpenClaim := { program := "ytapogkodlempkaa", sum := "8fc8a03a192054862b62807547c2e4b34f0e4628a822980a64131d00aee329e1", func := "anabranch/anabranchlaw05.ShaPieces", spec := "shaPieces", inPlace := ["internal/abi.NoEscape", "internal/bytealg.MakeNoZero"], apart := false, narrowed := true }
def ShaPiecesUptoSaid : Prop := shaPiecesUptoRow.holds Try.pinned (OpenSpec.upto shaPiecesSpec)

/-- 'anabranchlaw05.ShaEdges', WHERE WHAT IT READS IS OF BULK AT MOST 1048576: true; the input reads as it did. -/
def shaEdgesUptoRow : OpenClaim := { program := "ytapogkodlempkaa", sum := "8fc8a03a192054862b62807547c2e4b34f0e4628a822980a64131d00aee329e1", func := "anabranch/anabranchlaw05.ShaEdges", spec := "shaEdges", inPlace := ["internal/abi.NoEscape", "internal/bytealg.MakeNoZero"], apart := false, narrowed := true }
def ShaEdgesUptoSaid : Prop := shaEdgesUptoRow.holds Try.pinned (OpenSpec.upto shaEdgesSpec)

/-- 'anabranchlaw06.MacOf', WHERE WHAT IT READS IS OF BULK AT MOST 1048576: true; the input reads as it did. -/
def macOfUptoRow : OpenClaim := { program := "ytapogkodlempkaa", sum := "8fc8a03a192054862b62807547c2e4b34f0e4628a822980a64131d00aee329e1", func := "anabranch/anabranchlaw06.MacOf", spec := "macOf", inPlace := ["internal/abi.NoEscape", "internal/bytealg.MakeNoZero"], unfollowed := true, recurses := true, apart := false, narrowed := true }
def MacOfUptoSaid : Prop := macOfUptoRow.holds Try.pinned (OpenSpec.upto macOfSpec)

/-- 'anabranchlaw06.MacLong', WHERE WHAT IT READS IS OF BULK AT MOST 1048576: true; the input reads as it did. -/
def macLongUptoRow : OpenClaim := { program := "ytapogkodlempkaa", sum := "8fc8a03a192054862b62807547c2e4b34f0e4628a822980a64131d00aee329e1", func := "anabranch/anabranchlaw06.MacLong", spec := "macLong", inPlace := ["internal/abi.NoEscape", "internal/bytealg.MakeNoZero"], unfollowed := true, recurses := true, apart := false, narrowed := true }
def MacLongUptoSaid : Prop := macLongUptoRow.holds Try.pinned (OpenSpec.upto macLongSpec)

/-- 'anabranchlaw06.MacTells', WHERE WHAT IT READS IS OF BULK AT MOST 1048576: true; the input reads as it did. -/
def macTellsUptoRow : OpenClaim := { program := "ytapogkodlempkaa", sum := "8fc8a03a192054862b62807547c2e4b34f0e4628a822980a64131d00aee329e1", func := "anabranch/anabranchlaw06.MacTells", spec := "macTells", inPlace := ["internal/abi.NoEscape", "internal/bytealg.MakeNoZero"], unfollowed := true, recurses := true, apart := false, narrowed := true }
def MacTellsUptoSaid : Prop := macTellsUptoRow.holds Try.pinned (OpenSpec.upto macTellsSpec)

/-- 'anabranchlaw26.KeysApart', WHERE WHAT IT READS IS OF BULK AT MOST 1048576: true; the input reads as it did. -/
def keysApartUptoRow : OpenClaim := { program := "ytapogkodlempkaa", sum := "8fc8a03a192054862b62807547c2e4b34f0e4628a822980a64131d00aee329e1", func := "anabranch/anabranchlaw26.KeysApart", spec := "keysApart", inPlace := ["internal/abi.NoEscape", "internal/bytealg.MakeNoZero"], unfollowed := true, recurses := true, apart := false, narrowed := true }
def KeysApartUptoSaid : Prop := keysApartUptoRow.holds Try.pinned (OpenSpec.upto keysApartSpec)

/-- 'anabranchlaw26.KeysTells', WHERE WHAT IT READS IS OF BULK AT MOST 1048576: true; the input reads as it did. -/
def keysTellsUptoRow : OpenClaim := { program := "ytapogkodlempkaa", sum := "8fc8a03a192054862b62807547c2e4b34f0e4628a822980a64131d00aee329e1", func := "anabranch/anabranchlaw26.KeysTells", spec := "keysTells", inPlace := ["internal/abi.NoEscape", "internal/bytealg.MakeNoZero"], unfollowed := true, recurses := true, apart := false, narrowed := true }
def KeysTellsUptoSaid : Prop := keysTellsUptoRow.holds Try.pinned (OpenSpec.upto keysTellsSpec)

/-- 'anabranchlaw16.CookieSeals', WHERE WHAT IT READS IS OF BULK AT MOST 1048576: true; the input reads as it did. -/
def cookieSealsUptoRow : OpenClaim := { program := "ytapogkodlempkaa", sum := "8fc8a03a192054862b62807547c2e4b34f0e4628a822980a64131d00aee329e1", func := "anabranch/anabranchlaw16.CookieSeals", spec := "cookieSeals", inPlace := ["internal/abi.NoEscape", "internal/bytealg.MakeNoZero"], unfollowed := true, recurses := true, apart := false, narrowed := true }
def CookieSealsUptoSaid : Prop := cookieSealsUptoRow.holds Try.pinned (OpenSpec.upto cookieSealsSpec)

/-- 'anabranchlaw16.CookieOpens', WHERE WHAT IT READS IS OF BULK AT MOST 1048576: true; the input reads as it did. -/
def cookieOpensUptoRow : OpenClaim := { program := "ytapogkodlempkaa", sum := "8fc8a03a192054862b62807547c2e4b34f0e4628a822980a64131d00aee329e1", func := "anabranch/anabranchlaw16.CookieOpens", spec := "cookieOpens", inPlace := ["internal/abi.NoEscape", "internal/bytealg.MakeNoZero"], unfollowed := true, recurses := true, apart := false, narrowed := true }
def CookieOpensUptoSaid : Prop := cookieOpensUptoRow.holds Try.pinned (OpenSpec.upto cookieOpensSpec)

/-- 'anabranchlaw16.CookieFresh', WHERE WHAT IT READS IS OF BULK AT MOST 1048576: true; the input reads as it did. -/
def cookieFreshUptoRow : OpenClaim := { program := "ytapogkodlempkaa", sum := "8fc8a03a192054862b62807547c2e4b34f0e4628a822980a64131d00aee329e1", func := "anabranch/anabranchlaw16.CookieFresh", spec := "cookieFresh", inPlace := ["internal/abi.NoEscape", "internal/bytealg.MakeNoZero"], unfollowed := true, recurses := true, apart := false, narrowed := true }
def CookieFreshUptoSaid : Prop := cookieFreshUptoRow.holds Try.pinned (OpenSpec.upto cookieFreshSpec)

/-- 'anabranchlaw29.JoinNot', WHERE WHAT IT READS IS OF BULK AT MOST 1048576: true; the input reads as it did. -/
def joinNotUptoRow : OpenClaim := { program := "ytapogkodlempkaa", sum := "8fc8a03a192054862b62807547c2e4b34f0e4628a822980a64131d00aee329e1", func := "anabranch/anabranchlaw29.JoinNot", spec := "joinNot", inPlace := ["internal/abi.NoEscape", "internal/bytealg.MakeNoZero"], unfollowed := true, recurses := true, apart := false, narrowed := true }
def JoinNotUptoSaid : Prop := joinNotUptoRow.holds Try.pinned (OpenSpec.upto joinNotSpec)

/-- 'anabranchlaw29.JoinCodes', WHERE WHAT IT READS IS OF BULK AT MOST 1048576: true; the input reads as it did. -/
def joinCodesUptoRow : OpenClaim := { program := "ytapogkodlempkaa", sum := "8fc8a03a192054862b62807547c2e4b34f0e4628a822980a64131d00aee329e1", func := "anabranch/anabranchlaw29.JoinCodes", spec := "joinCodes", inPlace := ["internal/abi.NoEscape", "internal/bytealg.MakeNoZero"], unfollowed := true, recurses := true, apart := false, narrowed := true }
def JoinCodesUptoSaid : Prop := joinCodesUptoRow.holds Try.pinned (OpenSpec.upto joinCodesSpec)

/-- 'anabranchlaw29.JoinMeet', WHERE WHAT IT READS IS OF BULK AT MOST 1048576: true; the input reads as it did. -/
def joinMeetUptoRow : OpenClaim := { program := "ytapogkodlempkaa", sum := "8fc8a03a192054862b62807547c2e4b34f0e4628a822980a64131d00aee329e1", func := "anabranch/anabranchlaw29.JoinMeet", spec := "joinMeet", inPlace := ["internal/abi.NoEscape", "internal/bytealg.MakeNoZero"], unfollowed := true, recurses := true, apart := false, narrowed := true }
def JoinMeetUptoSaid : Prop := joinMeetUptoRow.holds Try.pinned (OpenSpec.upto joinMeetSpec)

/-- 'anabranchlaw10.PacketPuts', WHERE WHAT IT READS IS OF BULK AT MOST 1048576: true; the input reads as it did. -/
def packetPutsUptoRow : OpenClaim := { program := "ytapogkodlempkaa", sum := "8fc8a03a192054862b62807547c2e4b34f0e4628a822980a64131d00aee329e1", func := "anabranch/anabranchlaw10.PacketPuts", spec := "packetPuts", inPlace := ["internal/abi.NoEscape"], unfollowed := true, recurses := true, apart := false, narrowed := true }
def PacketPutsUptoSaid : Prop := packetPutsUptoRow.holds Try.pinned (OpenSpec.upto packetPutsSpec)

/-- 'anabranchlaw10.PacketGets', WHERE WHAT IT READS IS OF BULK AT MOST 1048576: true; the input reads as it did. -/
def packetGetsUptoRow : OpenClaim := { program := "ytapogkodlempkaa", sum := "8fc8a03a192054862b62807547c2e4b34f0e4628a822980a64131d00aee329e1", func := "anabranch/anabranchlaw10.PacketGets", spec := "packetGets", inPlace := ["internal/abi.NoEscape"], unfollowed := true, recurses := true, apart := false, narrowed := true }
def PacketGetsUptoSaid : Prop := packetGetsUptoRow.holds Try.pinned (OpenSpec.upto packetGetsSpec)

/-- 'anabranchlaw10.PacketAlike', WHERE WHAT IT READS IS OF BULK AT MOST 1048576: true; the input reads as it did. -/
def packetAlikeUptoRow : OpenClaim := { program := "ytapogkodlempkaa", sum := "8fc8a03a192054862b62807547c2e4b34f0e4628a822980a64131d00aee329e1", func := "anabranch/anabranchlaw10.PacketAlike", spec := "packetAlike", inPlace := ["internal/abi.NoEscape"], unfollowed := true, recurses := true, apart := false, narrowed := true }
def PacketAlikeUptoSaid : Prop := packetAlikeUptoRow.holds Try.pinned (OpenSpec.upto packetAlikeSpec)

end Rows
end Go.Proofs.Ytapogkodlempkaa
