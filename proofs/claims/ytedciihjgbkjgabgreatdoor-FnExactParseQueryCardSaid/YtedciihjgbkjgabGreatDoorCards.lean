/-
  DERIVED. GIVEN WITH THE SEED: THE CARDS: each row of YtedciihjgbkjgabGreatDoorRows.lean that lists a variable, with what it lists TIED to the program's text (the seventh form; the later family's looks); each row that meets fmt, with fmt's text TOLD by the authors' own Lean function (tested against real Go, not proved from fmt's source: count such statements apart). THE CARD IS WHAT COUNTS. Prove the row's statement (the work); the ties are given (YtedciihjgbkjgabGreatDoorTie.lean); close each card by the builder's one call (the guide's Derived/Test/ToyasCard.lean, 'card_holds'). Laid BY PROGRAM, IN A SANDBOX (cutbox-door.mjs). By AI agents, Wed Nov 11 2026. No macro, syntax, notation, axiom, sorry.
-/
import Derived.Test.YtedciihjgbkjgabGreatDoorRows
import GoSem.ClaimSeven
namespace Go.Proofs.YtedciihjgbkjgabGreatDoor
namespace Rows

/-- THE TIED CARD OF 'laws.FnDenialConstraints'. -/
def fnDenialConstraintsCard : Claim7 := { stood := { row := fnDenialConstraintsRow, standIns := [], harness := (true, "5ff05c5738d009ee7e2eae950b9bf82769956d847d041028b8d83f87bb5b57bf"), looks := false }, kinds := [], alts := [], laidByText := true, laidKinds := [.data, .data, .data], laidTests := true, laidLooks := .later }
def FnDenialConstraintsCardSaid : Prop := Claim7.holds Tryz.pinned (.plain (OpenSpec.ofChange fnDenialConstraintsSpec)) fnDenialConstraintsCard

/-- THE TIED CARD OF 'laws.FnExactParseQuery'. -/
def fnExactParseQueryCard : Claim7 := { stood := { row := fnExactParseQueryRow, standIns := [], harness := (true, "5ff05c5738d009ee7e2eae950b9bf82769956d847d041028b8d83f87bb5b57bf"), looks := false }, kinds := [], alts := [], laidByText := true, laidKinds := [.data, .data, .data, .data, .pinned], laidTests := true, laidLooks := .later }
def FnExactParseQueryCardSaid : Prop := Claim7.holds Tryz.pinned (.plain (OpenSpec.ofChange fnExactParseQuerySpec)) fnExactParseQueryCard

/-- THE SECOND FORM's CARD OF 'laws.FnDenialConstraints'. -/
def fnDenialConstraintsUptoCard : Claim7 := { stood := { row := fnDenialConstraintsUptoRow, standIns := [], harness := (true, "5ff05c5738d009ee7e2eae950b9bf82769956d847d041028b8d83f87bb5b57bf"), looks := false }, kinds := [], alts := [], laidByText := true, laidKinds := [.data, .data, .data], laidTests := true, laidLooks := .later }
def FnDenialConstraintsUptoCardSaid : Prop := Claim7.holds Tryz.pinned (.plain (OpenSpec.upto fnDenialConstraintsSpec)) fnDenialConstraintsUptoCard

/-- THE SECOND FORM's CARD OF 'laws.FnExactParseQuery'. -/
def fnExactParseQueryUptoCard : Claim7 := { stood := { row := fnExactParseQueryUptoRow, standIns := [], harness := (true, "5ff05c5738d009ee7e2eae950b9bf82769956d847d041028b8d83f87bb5b57bf"), looks := false }, kinds := [], alts := [], laidByText := true, laidKinds := [.data, .data, .data, .data, .pinned], laidTests := true, laidLooks := .later }
def FnExactParseQueryUptoCardSaid : Prop := Claim7.holds Tryz.pinned (.plain (OpenSpec.upto fnExactParseQuerySpec)) fnExactParseQueryUptoCard
end Rows
end Go.Proofs.YtedciihjgbkjgabGreatDoor
