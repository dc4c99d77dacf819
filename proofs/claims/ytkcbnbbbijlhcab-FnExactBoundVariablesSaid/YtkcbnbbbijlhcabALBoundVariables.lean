
/- THE LAW FnExactBoundVariables: for every input it returns true, and the input reads as it did. Conditions: none. -/
import Derived.Test.YtkcbnbbbijlhcabRows
import Derived.Test.YtkcbnbbbijlhcabALK
import Derived.Test.YtkcbnbbbijlhcabAF5
namespace Go.Proofs.Ytkcbnbbbijlhcab.lawBoundVariables
open Go.ChangeShapes Go.WideShapes Go.ChangeAt Go.RowKit
open Go.Proofs.Ytkcbnbbbijlhcab.A
set_option linter.unusedVariables false
theorem own : ownKnob Try.prog.godebug = none := by kernel_rfl
theorem laid : laidOutB Try.prog = true := by kernel_rfl
theorem rowed : mapsRowed Try.prog = true := by kernel_rfl
theorem full : ((List.range Try.prog.types.size).all fun t => match Try.prog.underlying t with | some (.slice e) => decide (0 < Try.prog.cellsOf e) | _ => true) = true := by kernel_rfl
set_option maxRecDepth 100000 in
theorem lifted (os : Os) (started : os.Started) (H : Type) (enc : TypeId × Value → H) :
    ReturnsInHanded {} Try.checked os 3 .any (Rows.fnExactBoundVariablesSpec.pre6 enc Try.prog Try.f3 Rows.fnExactBoundVariablesRow.domain false) (Rows.fnExactBoundVariablesSpec.post enc Try.prog Try.f3 false true false false) := by
  refine returnsInHanded_of_change_sized (C := Try.checked) own started (by kernel_rfl) Try.func3
    (ChangeSpec.witness6 (enc := enc) (C := Try.checked) false ⟨#[], #[.agg #[.int .i64 0, .slice none 0 0, .slice none 0 0]], []⟩ 8 (by kernel_rfl) (by kernel_rfl) (by kernel_rfl) (by kernel_rfl)) ?_
  intro W base args ds gs before hval hW _ _ _
  obtain ⟨p, q, hA, hV, hpq, _⟩ := id hW
  rw [Try.params3] at hA hval
  obtain ⟨v0, vs0, d0, ds0, p0, q0, e0, rfl, rfl, h0, r0⟩ := trodAll_cons hA
  obtain ⟨rfl, rfl, rfl⟩ := trodAll_nil r0
  obtain ⟨rfl, _⟩ := trodVars_none hV
  obtain rfl : args = #[v0] := by cases args; simp_all
  have rI := readsC_int (enc := enc) (W := W) und3
  have rIs := readsC_ints (enc := enc) (W := W) und23 (by kernel_rfl) und3
  have lIs := readsL_ints (enc := enc) (W := W) und23 (by kernel_rfl) und3
  have rA : ReadsC enc Try.prog W 45 (cRI 0) RI.fit := readsC_map (readsC_pair Try.underlying45 (by kernel_rfl) (by kernel_rfl) rI rIs) (fun x => ⟨x.1, x.2⟩) (fun _ => rfl) (fun _ h => h.2)
  have lAs := readsL_rows (w := 2) rA und22 (by kernel_rfl) (by omega) (fun _ => rfl) (ris 0) (fun _ => rfl)
  obtain ⟨a0, b0, c0, -, gb0, gc0, l0⟩ := arg_three Try.underlying25 (by kernel_rfl) (by kernel_rfl) (readsL_int (enc := enc) (W := W) und3) lAs lIs (hval 0 _ v0 rfl rfl) h0
  exact law_calls laid rowed full Try.func3 rfl (by kernel_rfl) rfl rfl (by kernel_rfl) rfl und4 hW (lawBoundVariables_sat ⟨a0, b0, c0⟩ ⟨gb0, gc0⟩) ⟨l0 _, trivial⟩ rfl rfl rfl
theorem over : Rows.fnExactBoundVariablesRow.holds Try.pinned (OpenSpec.ofChange Rows.fnExactBoundVariablesSpec) :=
  OpenClaim.holds_of_wide 3 Try.f3 rfl rfl rfl rfl rfl rfl rfl ⟨rfl, rfl, rfl, rfl, rfl⟩ rfl rfl rfl rfl rfl (by kernel_rfl) Try.func3 (by kernel_rfl)
    (of_decide_eq_true (by kernel_rfl)) (by unfold Func.isWrapper; first | (rw [if_pos (by decide +kernel)]; kernel_rfl) | (rw [if_neg (by decide +kernel)]; exact ⟨rfl, rfl⟩))
    (fun os started H enc _ => lifted os started H enc)
end Go.Proofs.Ytkcbnbbbijlhcab.lawBoundVariables
namespace Go.Proofs.Ytkcbnbbbijlhcab
/-- The row, under a short name, for the claim. -/
theorem fnExactBoundVariables_holds : Rows.FnExactBoundVariablesSaid := lawBoundVariables.over
#print axioms fnExactBoundVariables_holds
end Go.Proofs.Ytkcbnbbbijlhcab
