
/- DATABASES THAT SATISFY CONSTRAINTS. Conditions: none. -/
import Derived.Test.YtkcbnbbbijlhcajAFC3
namespace Go.Proofs.Ytkcbnbbbijlhcaj.A
open Go
set_option linter.unusedSimpArgs false
set_option linter.unusedVariables false
set_option maxRecDepth 100000

def satB (d : Db) (l : List Den) : Bool := goodDb d && (((edgesOf d l).length : Int) == 0)
theorem specSatisfiesConstraints_sat (d : Db) (l : List Den) (h : d.fit) (hl : l.length ≤ 9223372036854775807) : Sat Try.prog 6 [lDb d, lDens l] [lBool (satB d l)] [g2, g1] := by
  refine sat_of_body mixed Try.func6 rfl (by kernel_rfl) (by kernel_rfl) (rs := [.tmp 4]) rfl rfl rfl ?_
  unfold satB
  simp -implicitDefEqProofs only [go_sem]
  rcases g : goodDb d
  · refine call_of (specIsValidDatabase_sat d h) (by simp -implicitDefEqProofs only [go_sem, g]) (by kernel_rfl) (by simp -implicitDefEqProofs only [go_sem, g]) ?_
    simp -implicitDefEqProofs only [go_sem, g]
  refine call_of (specIsValidDatabase_sat d h) (by simp -implicitDefEqProofs only [go_sem, g]) (by kernel_rfl) (by simp -implicitDefEqProofs only [go_sem, g]) ?_
  simp -implicitDefEqProofs only [go_sem, g]
  refine call_of (specConflictEdges_sat d l h hl) (by simp -implicitDefEqProofs only [go_sem]) (by kernel_rfl) (by simp -implicitDefEqProofs only [go_sem]) ?_
  simp -implicitDefEqProofs only [go_sem]
theorem implSatisfiesConstraints_sat (d : Db) (l : List Den) (h : d.fit) (hl : l.length ≤ 9223372036854775807) : Sat Try.prog 9 [lDb d, lDens l] [lBool (satB d l)] [g2, g1] := by
  refine sat_of_body mixed Try.func9 rfl (by kernel_rfl) (by kernel_rfl) (rs := [.tmp 4]) rfl rfl rfl ?_
  unfold satB
  simp -implicitDefEqProofs only [go_sem]
  rcases g : goodDb d
  · refine call_of (implIsValidDatabase_sat d h) (by simp -implicitDefEqProofs only [go_sem, g]) (by kernel_rfl) (by simp -implicitDefEqProofs only [go_sem, g]) ?_
    simp -implicitDefEqProofs only [go_sem, g]
  refine call_of (implIsValidDatabase_sat d h) (by simp -implicitDefEqProofs only [go_sem, g]) (by kernel_rfl) (by simp -implicitDefEqProofs only [go_sem, g]) ?_
  simp -implicitDefEqProofs only [go_sem, g]
  refine call_of (implConflictEdges_sat d l h hl) (by simp -implicitDefEqProofs only [go_sem]) (by kernel_rfl) (by simp -implicitDefEqProofs only [go_sem]) ?_
  simp -implicitDefEqProofs only [go_sem]
end Go.Proofs.Ytkcbnbbbijlhcaj.A
