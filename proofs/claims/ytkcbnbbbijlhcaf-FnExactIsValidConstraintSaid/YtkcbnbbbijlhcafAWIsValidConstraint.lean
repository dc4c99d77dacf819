
/- THE WALK OF THE LAW OF IsValidConstraint. Conditions: none. -/
import Derived.Test.YtkcbnbbbijlhcafAFC1
namespace Go.Proofs.Ytkcbnbbbijlhcaf.A
open Go
set_option linter.unusedSimpArgs false
set_option linter.unusedVariables false
set_option maxRecDepth 100000
/-- THE LAW OF IsValidConstraint. -/
theorem lawIsValidConstraint_sat (a0 : Db) (a1 : Den) (h0 : a0.fit) : Sat Try.prog 3 [lDb a0, lDen a1] [lBool true] [g2, g7] := by
  refine sat_of_body mixed Try.func3 rfl (by kernel_rfl) (by kernel_rfl) (rs := [.tmp 4]) rfl rfl rfl ?_
  simp -implicitDefEqProofs only [go_sem]
  have z0 := szDb_ok a0 1048576 (by omega)
  refine call_of (szDatabase_sat a0 1048576 (by omega) h0) (by simp -implicitDefEqProofs only [go_sem]) (by kernel_rfl) (by simp -implicitDefEqProofs only [go_sem]) ?_
  simp -implicitDefEqProofs only [go_sem]
  first | (refine ⟨by kernel_rfl, ?_⟩) | (show trOk _ _ = true; kernel_rfl) | skip
  refine cond_split (fun c0 => ?_) fun c0 => ?_
  · simp -implicitDefEqProofs only [go_sem]
  have o0 := z0.2 (of_decide_eq_false c0)
  simp -implicitDefEqProofs only [go_sem]
  refine call_of (toDatabase_sat a0 o0) (by simp -implicitDefEqProofs only [go_sem]) (by kernel_rfl) (by simp -implicitDefEqProofs only [go_sem]) ?_
  simp -implicitDefEqProofs only [go_sem]
  first | (refine ⟨by kernel_rfl, ?_⟩) | (show trOk _ _ = true; kernel_rfl) | skip
  refine call_of (toDenialConstraint_sat a1) (by simp -implicitDefEqProofs only [go_sem]) (by kernel_rfl) (by simp -implicitDefEqProofs only [go_sem]) ?_
  simp -implicitDefEqProofs only [go_sem]
  first | (refine ⟨by kernel_rfl, ?_⟩) | (show trOk _ _ = true; kernel_rfl) | skip
  refine call_of (specIsValidConstraint_sat a0 a1 h0) (by simp -implicitDefEqProofs only [go_sem]) (by kernel_rfl) (by simp -implicitDefEqProofs only [go_sem]) ?_
  simp -implicitDefEqProofs only [go_sem]
  first | (refine ⟨by kernel_rfl, ?_⟩) | (show trOk _ _ = true; kernel_rfl) | skip
  refine call_of (toDatabase_sat a0 o0) (by simp -implicitDefEqProofs only [go_sem]) (by kernel_rfl) (by simp -implicitDefEqProofs only [go_sem]) ?_
  simp -implicitDefEqProofs only [go_sem]
  first | (refine ⟨by kernel_rfl, ?_⟩) | (show trOk _ _ = true; kernel_rfl) | skip
  refine call_of (toDenialConstraint_sat a1) (by simp -implicitDefEqProofs only [go_sem]) (by kernel_rfl) (by simp -implicitDefEqProofs only [go_sem]) ?_
  simp -implicitDefEqProofs only [go_sem]
  first | (refine ⟨by kernel_rfl, ?_⟩) | (show trOk _ _ = true; kernel_rfl) | skip
  refine call_of (implIsValidConstraint_sat a0 a1 h0) (by simp -implicitDefEqProofs only [go_sem]) (by kernel_rfl) (by simp -implicitDefEqProofs only [go_sem]) ?_
  simp -implicitDefEqProofs only [go_sem]
  first | (refine ⟨by kernel_rfl, ?_⟩) | (show trOk _ _ = true; kernel_rfl) | skip
  refine call_of (toDatabase_sat a0 o0) (by simp -implicitDefEqProofs only [go_sem]) (by kernel_rfl) (by simp -implicitDefEqProofs only [go_sem]) ?_
  simp -implicitDefEqProofs only [go_sem]
  first | (refine ⟨by kernel_rfl, ?_⟩) | (show trOk _ _ = true; kernel_rfl) | skip
  refine call_of (eqDatabase_sat a0 a0 h0) (by simp -implicitDefEqProofs only [go_sem]) (by kernel_rfl) (by simp -implicitDefEqProofs only [go_sem]) ?_
  simp -implicitDefEqProofs only [go_sem]
  first | (refine ⟨by kernel_rfl, ?_⟩) | (show trOk _ _ = true; kernel_rfl) | skip
end Go.Proofs.Ytkcbnbbbijlhcaf.A
