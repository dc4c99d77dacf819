/-
  DERIVED. GIVEN WITH THE SEED: THE CARDS: each row of YtahjpaicfppkoaaDoorRows.lean that lists a variable, with what it lists TIED to the program's text (the seventh form; the later family's looks); each row that meets fmt, with fmt's text TOLD by the authors' own Lean function (tested against real Go, not proved from fmt's source: count such statements apart). THE CARD IS WHAT COUNTS. Prove the row's statement (the work); the ties are given (YtahjpaicfppkoaaDoorTie.lean); close each card by the builder's one call (the guide's Derived/Test/ToyasCard.lean, 'card_holds'). Laid BY PROGRAM, IN A SANDBOX (cutbox-door.mjs). By AI agents, Wed Nov 11 2026. No macro, syntax, notation, axiom, sorry.
-/
import Derived.Test.YtahjpaicfppkoaaDoorRows
import GoSem.ClaimSeven
namespace Go.Proofs.YtahjpaicfppkoaaDoor
namespace Rows

/-- THE TIED CARD OF 'laws.FnTermFormat'. -/
def fnTermFormatCard : Claim7 := { stood := { row := fnTermFormatRow, standIns := [], harness := (true, "64d5879efbf09a180410e1e0b9ad6553aaa9e560f66252c69e8d4725f05cc9ba"), looks := false }, kinds := [], alts := [], laidByText := true, laidKinds := [.data, .data, .data], laidTests := true, laidLooks := .later }
def FnTermFormatCardSaid : Prop := Claim7.holds Tryd.pinned (.plain (OpenSpec.ofChange fnTermFormatSpec)) fnTermFormatCard

/-- THE SECOND FORM's CARD OF 'laws.FnTermFormat'. -/
def fnTermFormatUptoCard : Claim7 := { stood := { row := fnTermFormatUptoRow, standIns := [], harness := (true, "64d5879efbf09a180410e1e0b9ad6553aaa9e560f66252c69e8d4725f05cc9ba"), looks := false }, kinds := [], alts := [], laidByText := true, laidKinds := [.data, .data, .data], laidTests := true, laidLooks := .later }
def FnTermFormatUptoCardSaid : Prop := Claim7.holds Tryd.pinned (.plain (OpenSpec.upto fnTermFormatSpec)) fnTermFormatUptoCard
end Rows
end Go.Proofs.YtahjpaicfppkoaaDoor
