
/- THE WALK OF THE LAW OF SatisfiesConstraints. Conditions: none. -/
import Derived.Test.YtkcbnbbbijlhcajAFC4
namespace Go.Proofs.Ytkcbnbbbijlhcaj.A
open Go
set_option linter.unusedSimpArgs false
set_option linter.unusedVariables false
set_option maxRecDepth 100000
/-- THE LAW OF SatisfiesConstraints. -/
theorem lawSatisfiesConstraints_sat (a0 : Db) (a1 : List Den) (h0 : a0.fit) (h1 : a1.length ≤ 9223372036854775807) : Sat Try.prog 3 [lDb a0, lDens a1] [lBool true] [g2, g1] := by
  refine sat_of_body mixed Try.func3 rfl (by kernel_rfl) (by kernel_rfl) (rs := [.tmp 4]) rfl rfl rfl ?_
  simp -implicitDefEqProofs only [go_sem]
  have z0 := szDb_ok a0 1048576 (by omega)
  refine call_of (szDatabase_sat a0 1048576 (by omega) h0) (by simp -implicitDefEqProofs only [go_sem]) (by kernel_rfl) (by simp -implicitDefEqProofs only [go_sem]) ?_
  simp -implicitDefEqProofs only [go_sem]
  try (refine ⟨by kernel_rfl, ?_⟩)
  refine cond_split (fun c0 => ?_) fun c0 => ?_
  · simp -implicitDefEqProofs only [go_sem]
  have o0 := z0.2 (of_decide_eq_false c0)
  simp -implicitDefEqProofs only [go_sem]
  have z1 := szDens_ok a1 (szDb a0 1048576) z0.1
  refine call_of (szDenialConstraintS_sat a1 (szDb a0 1048576) z0.1 h1) (by simp -implicitDefEqProofs only [go_sem]) (by kernel_rfl) (by simp -implicitDefEqProofs only [go_sem]) ?_
  simp -implicitDefEqProofs only [go_sem]
  try (refine ⟨by kernel_rfl, ?_⟩)
  refine cond_split (fun c1 => ?_) fun c1 => ?_
  · simp -implicitDefEqProofs only [go_sem]
  have o1 := z1.2 (of_decide_eq_false c1)
  simp -implicitDefEqProofs only [go_sem]
  have n1 : a1.length ≤ 1048576 := o1
  refine call_of (toDatabase_sat a0 o0) (by simp -implicitDefEqProofs only [go_sem]) (by kernel_rfl) (by simp -implicitDefEqProofs only [go_sem]) ?_
  simp -implicitDefEqProofs only [go_sem]
  try (refine ⟨by kernel_rfl, ?_⟩)
  refine call_of (toDenialConstraintS_sat a1 o1) (by simp -implicitDefEqProofs only [go_sem]) (by kernel_rfl) (by simp -implicitDefEqProofs only [go_sem]) ?_
  simp -implicitDefEqProofs only [go_sem]
  try (refine ⟨by kernel_rfl, ?_⟩)
  refine call_of (specSatisfiesConstraints_sat a0 a1 h0 h1) (by simp -implicitDefEqProofs only [go_sem]) (by kernel_rfl) (by simp -implicitDefEqProofs only [go_sem]) ?_
  simp -implicitDefEqProofs only [go_sem]
  try (refine ⟨by kernel_rfl, ?_⟩)
  refine call_of (toDatabase_sat a0 o0) (by simp -implicitDefEqProofs only [go_sem]) (by kernel_rfl) (by simp -implicitDefEqProofs only [go_sem]) ?_
  simp -implicitDefEqProofs only [go_sem]
  try (refine ⟨by kernel_rfl, ?_⟩)
  refine call_of (toDenialConstraintS_sat a1 o1) (by simp -implicitDefEqProofs only [go_sem]) (by kernel_rfl) (by simp -implicitDefEqProofs only [go_sem]) ?_
  simp -implicitDefEqProofs only [go_sem]
  try (refine ⟨by kernel_rfl, ?_⟩)
  refine call_of (implSatisfiesConstraints_sat a0 a1 h0 h1) (by simp -implicitDefEqProofs only [go_sem]) (by kernel_rfl) (by simp -implicitDefEqProofs only [go_sem]) ?_
  simp -implicitDefEqProofs only [go_sem]
  try (refine ⟨by kernel_rfl, ?_⟩)
  refine call_of (toDatabase_sat a0 o0) (by simp -implicitDefEqProofs only [go_sem]) (by kernel_rfl) (by simp -implicitDefEqProofs only [go_sem]) ?_
  simp -implicitDefEqProofs only [go_sem]
  try (refine ⟨by kernel_rfl, ?_⟩)
  refine call_of (eqDatabase_sat a0 a0 h0) (by simp -implicitDefEqProofs only [go_sem]) (by kernel_rfl) (by simp -implicitDefEqProofs only [go_sem]) ?_
  simp -implicitDefEqProofs only [go_sem]
  try (refine ⟨by kernel_rfl, ?_⟩)
  refine call_of (toDenialConstraintS_sat a1 o1) (by simp -implicitDefEqProofs only [go_sem]) (by kernel_rfl) (by simp -implicitDefEqProofs only [go_sem]) ?_
  simp -implicitDefEqProofs only [go_sem]
  try (refine ⟨by kernel_rfl, ?_⟩)
  refine call_of (eqDenialConstraintS_sat a1 a1 h1) (by simp -implicitDefEqProofs only [go_sem]) (by kernel_rfl) (by simp -implicitDefEqProofs only [go_sem]) ?_
  simp -implicitDefEqProofs only [go_sem]
  try (refine ⟨by kernel_rfl, ?_⟩)
end Go.Proofs.Ytkcbnbbbijlhcaj.A
