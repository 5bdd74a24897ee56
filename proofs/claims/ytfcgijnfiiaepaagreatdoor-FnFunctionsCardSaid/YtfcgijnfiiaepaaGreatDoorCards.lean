/-
  DERIVED. GIVEN WITH THE SEED: THE CARDS: each row of YtfcgijnfiiaepaaGreatDoorRows.lean that lists a variable, with what it lists TIED to the program's text (the seventh form; the later family's looks); each row that meets fmt, with fmt's text TOLD by the authors' own Lean function (tested against real Go, not proved from fmt's source: count such statements apart). THE CARD IS WHAT COUNTS. Prove the row's statement (the work); the ties are given (YtfcgijnfiiaepaaGreatDoorTie.lean); close each card by the builder's one call (the guide's Derived/Test/ToyasCard.lean, 'card_holds'). Laid BY PROGRAM, IN A SANDBOX (cutbox-door.mjs). By AI agents, Wed Nov 11 2026. No macro, syntax, notation, axiom, sorry.
-/
import Derived.Test.YtfcgijnfiiaepaaGreatDoorRows
import GoSem.ClaimSeven
namespace Go.Proofs.YtfcgijnfiiaepaaGreatDoor
namespace Rows

/-- THE TIED CARD OF 'laws.FnFunctions'. -/
def fnFunctionsCard : Claim7 := { stood := { row := fnFunctionsRow, standIns := [], harness := (true, "1d697852d30d85b50946809398e3f897a04424029f01d75b08947c768b7244c0"), looks := false }, kinds := [], alts := [], laidByText := true, laidKinds := [.data, .data, .data, .data, .pinned], laidTests := true, laidLooks := .later }
def FnFunctionsCardSaid : Prop := Claim7.holds Tryz.pinned (.plain (OpenSpec.ofChange fnFunctionsSpec)) fnFunctionsCard

/-- THE SECOND FORM's CARD OF 'laws.FnFunctions'. -/
def fnFunctionsUptoCard : Claim7 := { stood := { row := fnFunctionsUptoRow, standIns := [], harness := (true, "1d697852d30d85b50946809398e3f897a04424029f01d75b08947c768b7244c0"), looks := false }, kinds := [], alts := [], laidByText := true, laidKinds := [.data, .data, .data, .data, .pinned], laidTests := true, laidLooks := .later }
def FnFunctionsUptoCardSaid : Prop := Claim7.holds Tryz.pinned (.plain (OpenSpec.upto fnFunctionsSpec)) fnFunctionsUptoCard
end Rows
end Go.Proofs.YtfcgijnfiiaepaaGreatDoor
