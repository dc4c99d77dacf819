/-
  DERIVED. GIVEN WITH THE SEED: THE CARDS: each row of YtedciihjgbkjgacGreatDoorRows.lean that lists a variable, with what it lists TIED to the program's text (the seventh form; the later family's looks); each row that meets fmt, with fmt's text TOLD by the authors' own Lean function (tested against real Go, not proved from fmt's source: count such statements apart). THE CARD IS WHAT COUNTS. Prove the row's statement (the work); the ties are given (YtedciihjgbkjgacGreatDoorTie.lean); close each card by the builder's one call (the guide's Derived/Test/ToyasCard.lean, 'card_holds'). Laid BY PROGRAM, IN A SANDBOX (cutbox-door.mjs). By AI agents, Wed Nov 11 2026. No macro, syntax, notation, axiom, sorry.
-/
import Derived.Test.YtedciihjgbkjgacGreatDoorRows
import GoSem.ClaimSeven
namespace Go.Proofs.YtedciihjgbkjgacGreatDoor
namespace Rows

/-- THE TIED CARD OF 'laws.FnQueryFormat'. -/
def fnQueryFormatCard : Claim7 := { stood := { row := fnQueryFormatRow, standIns := [], harness := (true, "8d52e82cc75477312698566e770198cabb858cb8fb85de44b023c76248b1e324"), looks := false }, kinds := [], alts := [], laidByText := true, laidKinds := [.data, .data, .data, .data, .pinned], laidTests := true, laidLooks := .later }
def FnQueryFormatCardSaid : Prop := Claim7.holds Tryz.pinned (.plain (OpenSpec.ofChange fnQueryFormatSpec)) fnQueryFormatCard

/-- THE SECOND FORM's CARD OF 'laws.FnQueryFormat'. -/
def fnQueryFormatUptoCard : Claim7 := { stood := { row := fnQueryFormatUptoRow, standIns := [], harness := (true, "8d52e82cc75477312698566e770198cabb858cb8fb85de44b023c76248b1e324"), looks := false }, kinds := [], alts := [], laidByText := true, laidKinds := [.data, .data, .data, .data, .pinned], laidTests := true, laidLooks := .later }
def FnQueryFormatUptoCardSaid : Prop := Claim7.holds Tryz.pinned (.plain (OpenSpec.upto fnQueryFormatSpec)) fnQueryFormatUptoCard
end Rows
end Go.Proofs.YtedciihjgbkjgacGreatDoor
