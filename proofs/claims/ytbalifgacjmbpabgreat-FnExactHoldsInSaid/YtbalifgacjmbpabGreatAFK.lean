
/- THE KEY VARIABLES OF AN ATOM. Conditions: none. -/
import Derived.Test.YtbalifgacjmbpabGreatAF7
import Derived.Test.YtbalifgacjmbpabGreatAFMR
import Derived.Test.YtbalifgacjmbpabGreatAFV
namespace Go.Proofs.YtbalifgacjmbpabGreat.A
open Go
set_option linter.unusedSimpArgs false
set_option linter.unusedVariables false
set_option maxRecDepth 100000

def keyVars (l : List Rel) (a : RI) : List Int := if inB a.r 0 ((l.length : Int) - 1) && inB (l.getD a.r.toNat default).kl 0 a.l.length then varsOf (a.l.take (l.getD a.r.toNat default).kl.toNat) else []
theorem keyVars_len (l : List Rel) (a : RI) : (keyVars l a).length ≤ 4 := by
  unfold keyVars; split
  · exact varsOf_len _
  · simp
end Go.Proofs.YtbalifgacjmbpabGreat.A
