/-
  DERIVED. GIVEN WITH THE SEED: THE CARDS: each row of YtpegfljmblehnaaDoorRows.lean that lists a variable, with what it lists TIED to the program's text (the seventh form; the later family's looks); each row that meets fmt, with fmt's text TOLD by the authors' own Lean function (tested against real Go, not proved from fmt's source: count such statements apart). THE CARD IS WHAT COUNTS. Prove the row's statement (the work); the ties are given (YtpegfljmblehnaaDoorTie.lean); close each card by the builder's one call (the guide's Derived/Test/ToyasCard.lean, 'card_holds'). Laid BY PROGRAM, IN A SANDBOX (cutbox-door.mjs). By AI agents, Wed Nov 11 2026. No macro, syntax, notation, axiom, sorry.
-/
import Derived.Test.YtpegfljmblehnaaDoorRows
import GoSem.ClaimSeven
namespace Go.Proofs.YtpegfljmblehnaaDoor
namespace Rows

/-- THE TIED CARD OF 'laws.FnExactFormatTerm'. -/
def fnExactFormatTermCard : Claim7 := { stood := { row := fnExactFormatTermRow, standIns := [], harness := (true, "15dca222007048aae68865fb3af2919e712b0b59a711ab0c83e90f323d444046"), looks := false }, kinds := [], alts := [], laidByText := true, laidKinds := [.data, .data, .data], laidTests := true, laidLooks := .later }
def FnExactFormatTermCardSaid : Prop := Claim7.holds Tryd.pinned (.plain (OpenSpec.ofChange fnExactFormatTermSpec)) fnExactFormatTermCard

/-- THE TIED CARD OF 'laws.FnExactFormatConstraint'. -/
def fnExactFormatConstraintCard : Claim7 := { stood := { row := fnExactFormatConstraintRow, standIns := [], harness := (true, "15dca222007048aae68865fb3af2919e712b0b59a711ab0c83e90f323d444046"), looks := false }, kinds := [], alts := [], laidByText := true, laidKinds := [.data, .data, .data], laidTests := true, laidLooks := .later }
def FnExactFormatConstraintCardSaid : Prop := Claim7.holds Tryd.pinned (.plain (OpenSpec.ofChange fnExactFormatConstraintSpec)) fnExactFormatConstraintCard

/-- THE TIED CARD OF 'laws.FnExactFormatQuery'. -/
def fnExactFormatQueryCard : Claim7 := { stood := { row := fnExactFormatQueryRow, standIns := [], harness := (true, "15dca222007048aae68865fb3af2919e712b0b59a711ab0c83e90f323d444046"), looks := false }, kinds := [], alts := [], laidByText := true, laidKinds := [.data, .data, .data], laidTests := true, laidLooks := .later }
def FnExactFormatQueryCardSaid : Prop := Claim7.holds Tryd.pinned (.plain (OpenSpec.ofChange fnExactFormatQuerySpec)) fnExactFormatQueryCard

/-- THE SECOND FORM's CARD OF 'laws.FnExactFormatTerm'. -/
def fnExactFormatTermUptoCard : Claim7 := { stood := { row := fnExactFormatTermUptoRow, standIns := [], harness := (true, "15dca222007048aae68865fb3af2919e712b0b59a711ab0c83e90f323d444046"), looks := false }, kinds := [], alts := [], laidByText := true, laidKinds := [.data, .data, .data], laidTests := true, laidLooks := .later }
def FnExactFormatTermUptoCardSaid : Prop := Claim7.holds Tryd.pinned (.plain (OpenSpec.upto fnExactFormatTermSpec)) fnExactFormatTermUptoCard

/-- THE SECOND FORM's CARD OF 'laws.FnExactFormatConstraint'. -/
def fnExactFormatConstraintUptoCard : Claim7 := { stood := { row := fnExactFormatConstraintUptoRow, standIns := [], harness := (true, "15dca222007048aae68865fb3af2919e712b0b59a711ab0c83e90f323d444046"), looks := false }, kinds := [], alts := [], laidByText := true, laidKinds := [.data, .data, .data], laidTests := true, laidLooks := .later }
def FnExactFormatConstraintUptoCardSaid : Prop := Claim7.holds Tryd.pinned (.plain (OpenSpec.upto fnExactFormatConstraintSpec)) fnExactFormatConstraintUptoCard

/-- THE SECOND FORM's CARD OF 'laws.FnExactFormatQuery'. -/
def fnExactFormatQueryUptoCard : Claim7 := { stood := { row := fnExactFormatQueryUptoRow, standIns := [], harness := (true, "15dca222007048aae68865fb3af2919e712b0b59a711ab0c83e90f323d444046"), looks := false }, kinds := [], alts := [], laidByText := true, laidKinds := [.data, .data, .data], laidTests := true, laidLooks := .later }
def FnExactFormatQueryUptoCardSaid : Prop := Claim7.holds Tryd.pinned (.plain (OpenSpec.upto fnExactFormatQuerySpec)) fnExactFormatQueryUptoCard
end Rows
end Go.Proofs.YtpegfljmblehnaaDoor
