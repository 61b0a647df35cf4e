/-
  DERIVED. GIVEN WITH THE SEED: THE CARDS: each row of YtdhdkfnmbdejbaaDoorRows.lean that lists a variable, with what it lists TIED to the program's text (the seventh form; the later family's looks); each row that meets fmt, with fmt's text TOLD by the authors' own Lean function (tested against real Go, not proved from fmt's source: count such statements apart). THE CARD IS WHAT COUNTS. Prove the row's statement (the work); the ties are given (YtdhdkfnmbdejbaaDoorTie.lean); close each card by the builder's one call (the guide's Derived/Test/ToyasCard.lean, 'card_holds'). Laid BY PROGRAM, IN A SANDBOX (cutbox-door.mjs). By AI agents, Wed Nov 11 2026. No macro, syntax, notation, axiom, sorry.
-/
import Derived.Test.YtdhdkfnmbdejbaaDoorRows
import GoSem.ClaimSeven
namespace Go.Proofs.YtdhdkfnmbdejbaaDoor
namespace Rows

/-- THE TIED CARD OF 'anabranchlaw43.ScriptParses'. -/
def scriptParsesCard : Claim7 := { stood := { row := scriptParsesRow, standIns := [], harness := (true, "c7c8a9eb3f20bf1a234a5c01f5a706540d134904bdd2da77fd782a78a5b8c6c5"), looks := false }, kinds := [], alts := [], laidByText := true, laidKinds := [.data, .data, .data], laidTests := true, laidLooks := .later }
def ScriptParsesCardSaid : Prop := Claim7.holds Tryd.pinned (.plain (OpenSpec.ofChange scriptParsesSpec)) scriptParsesCard

/-- THE TIED CARD OF 'anabranchlaw43.ScriptBack'. -/
def scriptBackCard : Claim7 := { stood := { row := scriptBackRow, standIns := [], harness := (true, "c7c8a9eb3f20bf1a234a5c01f5a706540d134904bdd2da77fd782a78a5b8c6c5"), looks := false }, kinds := [], alts := [], laidByText := true, laidKinds := [.data, .data, .data], laidTests := true, laidLooks := .later }
def ScriptBackCardSaid : Prop := Claim7.holds Tryd.pinned (.plain (OpenSpec.ofChange scriptBackSpec)) scriptBackCard

/-- THE TIED CARD OF 'anabranchlaw43.ScriptFeeds'. -/
def scriptFeedsCard : Claim7 := { stood := { row := scriptFeedsRow, standIns := [], harness := (true, "c7c8a9eb3f20bf1a234a5c01f5a706540d134904bdd2da77fd782a78a5b8c6c5"), looks := false }, kinds := [], alts := [], laidByText := true, laidKinds := [.data, .data, .data], laidTests := true, laidLooks := .later }
def ScriptFeedsCardSaid : Prop := Claim7.holds Tryd.pinned (.plain (OpenSpec.ofChange scriptFeedsSpec)) scriptFeedsCard

/-- THE SECOND FORM's CARD OF 'anabranchlaw43.ScriptParses'. -/
def scriptParsesUptoCard : Claim7 := { stood := { row := scriptParsesUptoRow, standIns := [], harness := (true, "c7c8a9eb3f20bf1a234a5c01f5a706540d134904bdd2da77fd782a78a5b8c6c5"), looks := false }, kinds := [], alts := [], laidByText := true, laidKinds := [.data, .data, .data], laidTests := true, laidLooks := .later }
def ScriptParsesUptoCardSaid : Prop := Claim7.holds Tryd.pinned (.plain (OpenSpec.upto scriptParsesSpec)) scriptParsesUptoCard

/-- THE SECOND FORM's CARD OF 'anabranchlaw43.ScriptBack'. -/
def scriptBackUptoCard : Claim7 := { stood := { row := scriptBackUptoRow, standIns := [], harness := (true, "c7c8a9eb3f20bf1a234a5c01f5a706540d134904bdd2da77fd782a78a5b8c6c5"), looks := false }, kinds := [], alts := [], laidByText := true, laidKinds := [.data, .data, .data], laidTests := true, laidLooks := .later }
def ScriptBackUptoCardSaid : Prop := Claim7.holds Tryd.pinned (.plain (OpenSpec.upto scriptBackSpec)) scriptBackUptoCard

/-- THE SECOND FORM's CARD OF 'anabranchlaw43.ScriptFeeds'. -/
def scriptFeedsUptoCard : Claim7 := { stood := { row := scriptFeedsUptoRow, standIns := [], harness := (true, "c7c8a9eb3f20bf1a234a5c01f5a706540d134904bdd2da77fd782a78a5b8c6c5"), looks := false }, kinds := [], alts := [], laidByText := true, laidKinds := [.data, .data, .data], laidTests := true, laidLooks := .later }
def ScriptFeedsUptoCardSaid : Prop := Claim7.holds Tryd.pinned (.plain (OpenSpec.upto scriptFeedsSpec)) scriptFeedsUptoCard
end Rows
end Go.Proofs.YtdhdkfnmbdejbaaDoor
