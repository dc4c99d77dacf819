
/- THE WALK OF THE LAW OF UnattackedAtoms. Conditions: none. -/
import Derived.Test.YtoinfljgjdmooaaAFAt4
namespace Go.Proofs.Ytoinfljgjdmooaa.A
open Go
set_option linter.unusedSimpArgs false
set_option linter.unusedVariables false
set_option maxRecDepth 100000
set_option maxHeartbeats 8000000 in
/-- THE LAW OF UnattackedAtoms. -/
theorem lawUnattackedAtoms_sat (a0 : List Rel) (a1 : Qu) (h0 : a0.length ≤ 9223372036854775807 ∧ ∀ x ∈ a0, x.fit) (h1 : a1.fit) : Sat Try.prog 8 [lRels a0, lQu a1] [lBool true] [g1, g3] := by
  refine sat_of_body mixed Try.func8 rfl (by kernel_rfl) (by kernel_rfl) (rs := [.tmp 4]) rfl rfl rfl ?_
  simp -implicitDefEqProofs (maxSteps := 2000000) only [go_sem]
  have z0 := szAll_ok szRel_ok a0 1048576 (by omega)
  refine call_of (szRelationS_sat a0 1048576 (by omega) h0.1 h0.2) (by simp -implicitDefEqProofs (maxSteps := 2000000) only [go_sem]) (by kernel_rfl) (by simp -implicitDefEqProofs (maxSteps := 2000000) only [go_sem]) ?_
  simp -implicitDefEqProofs (maxSteps := 2000000) only [go_sem]
  first | (with_reducible refine tr_and ?_ ?_; focus kernel_rfl) | (with_reducible refine tr_only ?_; kernel_rfl) | skip
  refine cond_split (fun c0 => ?_) fun c0 => ?_
  · simp -implicitDefEqProofs (maxSteps := 2000000) only [go_sem]
  have o0 := z0.2 (of_decide_eq_false c0)
  simp -implicitDefEqProofs (maxSteps := 2000000) only [go_sem]
  have n0 := o0.1
  have z1 := szQu_ok a1 (szAll szRel a0 1048576) z0.1
  refine call_of (szQuery_sat a1 (szAll szRel a0 1048576) z0.1 h1) (by simp -implicitDefEqProofs (maxSteps := 2000000) only [go_sem]) (by kernel_rfl) (by simp -implicitDefEqProofs (maxSteps := 2000000) only [go_sem]) ?_
  simp -implicitDefEqProofs (maxSteps := 2000000) only [go_sem]
  first | (with_reducible refine tr_and ?_ ?_; focus kernel_rfl) | (with_reducible refine tr_only ?_; kernel_rfl) | skip
  refine cond_split (fun c1 => ?_) fun c1 => ?_
  · simp -implicitDefEqProofs (maxSteps := 2000000) only [go_sem]
  have o1 := z1.2 (of_decide_eq_false c1)
  simp -implicitDefEqProofs (maxSteps := 2000000) only [go_sem]
  have n1 := numQu_ok o1
  have nv := unatt_len a0 a1
  refine call_of (toRelationS_sat a0 o0.1) (by simp -implicitDefEqProofs (maxSteps := 2000000) only [go_sem]) (by kernel_rfl) (by simp -implicitDefEqProofs (maxSteps := 2000000) only [go_sem]) ?_
  simp -implicitDefEqProofs (maxSteps := 2000000) only [go_sem]
  first | (with_reducible refine tr_and ?_ ?_; focus kernel_rfl) | (with_reducible refine tr_only ?_; kernel_rfl) | skip
  refine call_of (toQuery_sat a1 o1) (by simp -implicitDefEqProofs (maxSteps := 2000000) only [go_sem]) (by kernel_rfl) (by simp -implicitDefEqProofs (maxSteps := 2000000) only [go_sem]) ?_
  simp -implicitDefEqProofs (maxSteps := 2000000) only [go_sem]
  first | (with_reducible refine tr_and ?_ ?_; focus kernel_rfl) | (with_reducible refine tr_only ?_; kernel_rfl) | skip
  refine call_of (specUnattackedAtoms_sat a0 a1 h0.1 h1) (by simp -implicitDefEqProofs (maxSteps := 2000000) only [go_sem]) (callOk_still (by kernel_rfl) (by simp only [List.all_cons, List.all_nil, LV.still, LV.leaves, Leaf.still, ints_still, ris_still, eds_still, rels_still, iss_still, Bool.and_self, Bool.and_true])) (by simp -implicitDefEqProofs (maxSteps := 2000000) only [go_sem]) ?_
  simp -implicitDefEqProofs (maxSteps := 2000000) only [go_sem]
  first | (with_reducible refine tr_and ?_ ?_; focus kernel_rfl) | (with_reducible refine tr_only ?_; kernel_rfl) | skip
  refine call_of (toRelationS_sat a0 o0.1) (by simp -implicitDefEqProofs (maxSteps := 2000000) only [go_sem]) (by kernel_rfl) (by simp -implicitDefEqProofs (maxSteps := 2000000) only [go_sem]) ?_
  simp -implicitDefEqProofs (maxSteps := 2000000) only [go_sem]
  first | (with_reducible refine tr_and ?_ ?_; focus kernel_rfl) | (with_reducible refine tr_only ?_; kernel_rfl) | skip
  refine call_of (toQuery_sat a1 o1) (by simp -implicitDefEqProofs (maxSteps := 2000000) only [go_sem]) (by kernel_rfl) (by simp -implicitDefEqProofs (maxSteps := 2000000) only [go_sem]) ?_
  simp -implicitDefEqProofs (maxSteps := 2000000) only [go_sem]
  first | (with_reducible refine tr_and ?_ ?_; focus kernel_rfl) | (with_reducible refine tr_only ?_; kernel_rfl) | skip
  refine call_of (implUnattackedAtoms_sat a0 a1 h0.1 o1) (by simp -implicitDefEqProofs (maxSteps := 2000000) only [go_sem]) (callOk_still (by kernel_rfl) (by simp only [List.all_cons, List.all_nil, LV.still, LV.leaves, Leaf.still, ints_still, ris_still, eds_still, rels_still, iss_still, Bool.and_self, Bool.and_true])) (by simp -implicitDefEqProofs (maxSteps := 2000000) only [go_sem]) ?_
  simp -implicitDefEqProofs (maxSteps := 2000000) only [go_sem]
  first | (with_reducible refine tr_and ?_ ?_; focus kernel_rfl) | (with_reducible refine tr_only ?_; kernel_rfl) | skip
  refine call_of (eqIntS_sat (unatt a0 a1) (unatt a0 a1) (by omega)) (by simp -implicitDefEqProofs (maxSteps := 2000000) only [go_sem]) (by kernel_rfl) (by simp -implicitDefEqProofs (maxSteps := 2000000) only [go_sem]) ?_
  simp -implicitDefEqProofs (maxSteps := 2000000) only [go_sem]
  first | (with_reducible refine tr_and ?_ ?_; focus kernel_rfl) | (with_reducible refine tr_only ?_; kernel_rfl) | skip
  refine call_of (toRelationS_sat a0 o0.1) (by simp -implicitDefEqProofs (maxSteps := 2000000) only [go_sem]) (by kernel_rfl) (by simp -implicitDefEqProofs (maxSteps := 2000000) only [go_sem]) ?_
  simp -implicitDefEqProofs (maxSteps := 2000000) only [go_sem]
  first | (with_reducible refine tr_and ?_ ?_; focus kernel_rfl) | (with_reducible refine tr_only ?_; kernel_rfl) | skip
  refine call_of (eqRelationS_sat a0 a0 h0.1) (by simp -implicitDefEqProofs (maxSteps := 2000000) only [go_sem]) (by kernel_rfl) (by simp -implicitDefEqProofs (maxSteps := 2000000) only [go_sem]) ?_
  simp -implicitDefEqProofs (maxSteps := 2000000) only [go_sem]
  first | (with_reducible refine tr_and ?_ ?_; focus kernel_rfl) | (with_reducible refine tr_only ?_; kernel_rfl) | skip
  refine call_of (toQuery_sat a1 o1) (by simp -implicitDefEqProofs (maxSteps := 2000000) only [go_sem]) (by kernel_rfl) (by simp -implicitDefEqProofs (maxSteps := 2000000) only [go_sem]) ?_
  simp -implicitDefEqProofs (maxSteps := 2000000) only [go_sem]
  first | (with_reducible refine tr_and ?_ ?_; focus kernel_rfl) | (with_reducible refine tr_only ?_; kernel_rfl) | skip
  refine call_of (eqQuery_sat a1 a1 h1) (by simp -implicitDefEqProofs (maxSteps := 2000000) only [go_sem]) (by kernel_rfl) (by simp -implicitDefEqProofs (maxSteps := 2000000) only [go_sem]) ?_
  simp -implicitDefEqProofs (maxSteps := 2000000) only [go_sem]
  first | (with_reducible refine tr_and ?_ ?_; focus kernel_rfl) | (with_reducible refine tr_only ?_; kernel_rfl) | skip
  refine call_of (markRelationS_sat a0 1 (by omega) h0.1) (by simp -implicitDefEqProofs (maxSteps := 2000000) only [go_sem]) (by kernel_rfl) (by simp -implicitDefEqProofs (maxSteps := 2000000) only [go_sem]) ?_
  simp -implicitDefEqProofs (maxSteps := 2000000) only [go_sem]
  first | (with_reducible refine tr_and ?_ ?_; focus kernel_rfl) | (with_reducible refine tr_only ?_; kernel_rfl) | skip
  refine call_of (markQuery_sat a1 (1 + ((3 * a0.length : Nat) : Int)) (by omega) h1) (by simp -implicitDefEqProofs (maxSteps := 2000000) only [go_sem]) (by kernel_rfl) (by simp -implicitDefEqProofs (maxSteps := 2000000) only [go_sem]) ?_
  simp -implicitDefEqProofs (maxSteps := 2000000) only [go_sem]
  first | (with_reducible refine tr_and ?_ ?_; focus kernel_rfl) | (with_reducible refine tr_only ?_; kernel_rfl) | skip
  rw [decide_eq_false (show ¬ (1 + ((3 * a0.length : Nat) : Int) + ((numQu a1 : Nat) : Int) < 0) by omega)]
  simp -implicitDefEqProofs (maxSteps := 2000000) only [go_sem]
  refine call_of (eqIntS_sat (unatt a0 a1) (unatt a0 a1) (by omega)) (by simp -implicitDefEqProofs (maxSteps := 2000000) only [go_sem]) (by kernel_rfl) (by simp -implicitDefEqProofs (maxSteps := 2000000) only [go_sem]) ?_
  simp -implicitDefEqProofs (maxSteps := 2000000) only [go_sem]
  first | (with_reducible refine tr_and ?_ ?_; focus kernel_rfl) | (with_reducible refine tr_only ?_; kernel_rfl) | skip
  refine call_of (markIntS_sat (unatt a0 a1) 1 (by omega)) (by simp -implicitDefEqProofs (maxSteps := 2000000) only [go_sem]) (by kernel_rfl) (by simp -implicitDefEqProofs (maxSteps := 2000000) only [go_sem]) ?_
  simp -implicitDefEqProofs (maxSteps := 2000000) only [go_sem]
  first | (with_reducible refine tr_and ?_ ?_; focus kernel_rfl) | (with_reducible refine tr_only ?_; kernel_rfl) | skip
  refine call_of (heldIntS_sat (unatt a0 a1).length 1 (by omega)) (by simp -implicitDefEqProofs (maxSteps := 2000000) only [go_sem]) (by kernel_rfl) (by simp -implicitDefEqProofs (maxSteps := 2000000) only [go_sem]) ?_
  simp -implicitDefEqProofs (maxSteps := 2000000) only [go_sem]
  first | (with_reducible refine tr_and ?_ ?_; focus kernel_rfl) | (with_reducible refine tr_only ?_; kernel_rfl) | skip
  rw [decide_eq_false (show ¬ (1 + (((unatt a0 a1).length : Nat) : Int) < 0) by omega)]
  simp -implicitDefEqProofs (maxSteps := 2000000) only [go_sem]
  refine call_of (toRelationS_sat a0 o0.1) (by simp -implicitDefEqProofs (maxSteps := 2000000) only [go_sem]) (by kernel_rfl) (by simp -implicitDefEqProofs (maxSteps := 2000000) only [go_sem]) ?_
  simp -implicitDefEqProofs (maxSteps := 2000000) only [go_sem]
  first | (with_reducible refine tr_and ?_ ?_; focus kernel_rfl) | (with_reducible refine tr_only ?_; kernel_rfl) | skip
  refine call_of (toQuery_sat a1 o1) (by simp -implicitDefEqProofs (maxSteps := 2000000) only [go_sem]) (by kernel_rfl) (by simp -implicitDefEqProofs (maxSteps := 2000000) only [go_sem]) ?_
  simp -implicitDefEqProofs (maxSteps := 2000000) only [go_sem]
  first | (with_reducible refine tr_and ?_ ?_; focus kernel_rfl) | (with_reducible refine tr_only ?_; kernel_rfl) | skip
  refine call_of (implUnattackedAtoms_sat a0 a1 h0.1 o1) (by simp -implicitDefEqProofs (maxSteps := 2000000) only [go_sem]) (callOk_still (by kernel_rfl) (by simp only [List.all_cons, List.all_nil, LV.still, LV.leaves, Leaf.still, ints_still, ris_still, eds_still, rels_still, iss_still, Bool.and_self, Bool.and_true])) (by simp -implicitDefEqProofs (maxSteps := 2000000) only [go_sem]) ?_
  simp -implicitDefEqProofs (maxSteps := 2000000) only [go_sem]
  first | (with_reducible refine tr_and ?_ ?_; focus kernel_rfl) | (with_reducible refine tr_only ?_; kernel_rfl) | skip
  refine call_of (eqIntS_sat (unatt a0 a1) (unatt a0 a1) (by omega)) (by simp -implicitDefEqProofs (maxSteps := 2000000) only [go_sem]) (by kernel_rfl) (by simp -implicitDefEqProofs (maxSteps := 2000000) only [go_sem]) ?_
  simp -implicitDefEqProofs (maxSteps := 2000000) only [go_sem]
  first | (with_reducible refine tr_and ?_ ?_; focus kernel_rfl) | (with_reducible refine tr_only ?_; kernel_rfl) | skip
  refine call_of (heldIntS_sat (unatt a0 a1).length 1 (by omega)) (by simp -implicitDefEqProofs (maxSteps := 2000000) only [go_sem]) (by kernel_rfl) (by simp -implicitDefEqProofs (maxSteps := 2000000) only [go_sem]) ?_
  simp -implicitDefEqProofs (maxSteps := 2000000) only [go_sem]
  first | (with_reducible refine tr_and ?_ ?_; focus kernel_rfl) | (with_reducible refine tr_only ?_; kernel_rfl) | skip
  rw [decide_eq_false (show ¬ (1 + (((unatt a0 a1).length : Nat) : Int) < 0) by omega)]
  simp -implicitDefEqProofs (maxSteps := 2000000) only [go_sem]
end Go.Proofs.Ytoinfljgjdmooaa.A
