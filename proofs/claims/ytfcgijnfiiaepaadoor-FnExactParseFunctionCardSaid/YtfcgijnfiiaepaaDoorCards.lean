/-
  DERIVED. GIVEN WITH THE SEED: THE CARDS: each row of YtfcgijnfiiaepaaDoorRows.lean that lists a variable, with what it lists TIED to the program's text (the seventh form; the later family's looks); each row that meets fmt, with fmt's text TOLD by the authors' own Lean function (tested against real Go, not proved from fmt's source: count such statements apart). THE CARD IS WHAT COUNTS. Prove the row's statement (the work); the ties are given (YtfcgijnfiiaepaaDoorTie.lean); close each card by the builder's one call (the guide's Derived/Test/ToyasCard.lean, 'card_holds'). Laid BY PROGRAM, IN A SANDBOX (cutbox-door.mjs). By AI agents, Wed Nov 11 2026. No macro, syntax, notation, axiom, sorry.
-/
import Derived.Test.YtfcgijnfiiaepaaDoorRows
import GoSem.ClaimSeven
namespace Go.Proofs.YtfcgijnfiiaepaaDoor
namespace Rows

/-- THE TIED CARD OF 'laws.FnExactParseFunction'. -/
def fnExactParseFunctionCard : Claim7 := { stood := { row := fnExactParseFunctionRow, standIns := [], harness := (true, "5b2f9ffdfd584dcae422417253561099f93f06af1bf899bb391c8ebe0084b0fb"), looks := false }, kinds := [], alts := [], laidByText := true, laidKinds := [.data, .data, .data, .data, .pinned], laidTests := true, laidLooks := .later }
def FnExactParseFunctionCardSaid : Prop := Claim7.holds Tryd.pinned (.plain (OpenSpec.ofChange fnExactParseFunctionSpec)) fnExactParseFunctionCard

/-- THE TIED CARD OF 'laws.FnIntegerEncodings'. -/
def fnIntegerEncodingsCard : Claim7 := { stood := { row := fnIntegerEncodingsRow, standIns := [], harness := (true, "5b2f9ffdfd584dcae422417253561099f93f06af1bf899bb391c8ebe0084b0fb"), looks := false }, kinds := [], alts := [], laidByText := true, laidKinds := [.data, .data, .data], laidTests := true, laidLooks := .later }
def FnIntegerEncodingsCardSaid : Prop := Claim7.holds Tryd.pinned (.plain (OpenSpec.ofChange fnIntegerEncodingsSpec)) fnIntegerEncodingsCard

/-- THE SECOND FORM's CARD OF 'laws.FnExactParseFunction'. -/
def fnExactParseFunctionUptoCard : Claim7 := { stood := { row := fnExactParseFunctionUptoRow, standIns := [], harness := (true, "5b2f9ffdfd584dcae422417253561099f93f06af1bf899bb391c8ebe0084b0fb"), looks := false }, kinds := [], alts := [], laidByText := true, laidKinds := [.data, .data, .data, .data, .pinned], laidTests := true, laidLooks := .later }
def FnExactParseFunctionUptoCardSaid : Prop := Claim7.holds Tryd.pinned (.plain (OpenSpec.upto fnExactParseFunctionSpec)) fnExactParseFunctionUptoCard

/-- THE SECOND FORM's CARD OF 'laws.FnIntegerEncodings'. -/
def fnIntegerEncodingsUptoCard : Claim7 := { stood := { row := fnIntegerEncodingsUptoRow, standIns := [], harness := (true, "5b2f9ffdfd584dcae422417253561099f93f06af1bf899bb391c8ebe0084b0fb"), looks := false }, kinds := [], alts := [], laidByText := true, laidKinds := [.data, .data, .data], laidTests := true, laidLooks := .later }
def FnIntegerEncodingsUptoCardSaid : Prop := Claim7.holds Tryd.pinned (.plain (OpenSpec.upto fnIntegerEncodingsSpec)) fnIntegerEncodingsUptoCard
end Rows
end Go.Proofs.YtfcgijnfiiaepaaDoor
