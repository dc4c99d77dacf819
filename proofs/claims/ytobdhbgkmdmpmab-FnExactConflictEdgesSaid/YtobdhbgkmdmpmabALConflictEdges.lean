
/- THE LAW FnExactConflictEdges: for every input it returns true, and the input reads as it did. Conditions: none. -/
import Derived.Test.YtobdhbgkmdmpmabRows
import Derived.Test.YtobdhbgkmdmpmabALK2
import Derived.Test.YtobdhbgkmdmpmabAWConflictEdges
namespace Go.Proofs.Ytobdhbgkmdmpmab.lawConflictEdges
open Go.ChangeShapes Go.WideShapes Go.ChangeAt Go.RowKit
open Go.Proofs.Ytobdhbgkmdmpmab.A
set_option linter.unusedVariables false
theorem own : ownKnob Try.prog.godebug = none := by kernel_rfl
theorem laid : laidOutB Try.prog = true := by kernel_rfl
theorem rowed : mapsRowed Try.prog = true := by kernel_rfl
theorem full : ((List.range Try.prog.types.size).all fun t => match Try.prog.underlying t with | some (.slice e) => decide (0 < Try.prog.cellsOf e) | _ => true) = true := by kernel_rfl
set_option maxRecDepth 100000 in
theorem lifted (os : Os) (started : os.Started) (H : Type) (enc : TypeId × Value → H) :
    ReturnsInHanded {} Try.checked os 3 .any (Rows.fnExactConflictEdgesSpec.pre6 enc Try.prog Try.f3 Rows.fnExactConflictEdgesRow.domain false) (Rows.fnExactConflictEdgesSpec.post enc Try.prog Try.f3 false true false false) := by
  refine returnsInHanded_of_change_sized (C := Try.checked) own started (by kernel_rfl) Try.func3
    (ChangeSpec.witness6 (enc := enc) (C := Try.checked) false ⟨#[], #[.agg #[.slice none 0 0, .slice none 0 0], .slice none 0 0], []⟩ 8 (by kernel_rfl) (by kernel_rfl) (by kernel_rfl) (by kernel_rfl)) ?_
  intro W base args ds gs before hval hW _ _ _
  obtain ⟨p, q, hA, hV, hpq, _⟩ := id hW
  rw [Try.params3] at hA hval
  obtain ⟨v0, vs0, d0, ds0, p0, q0, e0, rfl, rfl, h0, r0⟩ := trodAll_cons hA
  obtain ⟨v1, vs1, d1, ds1, p1, q1, e1, rfl, rfl, h1, r1⟩ := trodAll_cons r0
  subst e1
  obtain ⟨rfl, rfl, rfl⟩ := trodAll_nil r1
  obtain ⟨rfl, _⟩ := trodVars_none hV
  obtain rfl : args = #[v0, v1] := by cases args; simp_all
  have rI := readsC_int (enc := enc) (W := W) und3
  have rIs := readsC_ints (enc := enc) (W := W) und46 (by kernel_rfl) und3
  have rS := readsC_str (enc := enc) (W := W) und9
  have rR : ReadsC enc Try.prog W 89 cRel Rel.fit := readsC_map (readsC_three Try.underlying89 (by kernel_rfl) (by kernel_rfl) rS rI rI) (fun x => ⟨x.1, x.2.1, x.2.2⟩) (fun _ => rfl) (fun _ h => h.1)
  have lRs := readsL_rows (w := 3) rR und22 (by kernel_rfl) (by omega) (fun _ => rfl) rels (fun _ => rfl)
  have rF : ReadsC enc Try.prog W 91 (cRI 0) RI.fit := readsC_map (readsC_pair Try.underlying91 (by kernel_rfl) (by kernel_rfl) rI rIs) (fun x => ⟨x.1, x.2⟩) (fun _ => rfl) (fun _ h => h.2)
  have lFs := readsL_rows (w := 2) rF und23 (by kernel_rfl) (by omega) (fun _ => rfl) (ris 0) (fun _ => rfl)
  have rD : ReadsC enc Try.prog W 71 cDen (fun _ => True) := readsC_den Try.underlying71 (by kernel_rfl) (by kernel_rfl) und3 und3 und3 und3 und3 und3 und3
  have lDs := readsL_rows (w := 7) rD und26 (by kernel_rfl) (by omega) (fun _ => rfl) dens (fun _ => rfl)
  obtain ⟨a0, b0, ga0, gb0, l0⟩ := arg_pair Try.underlying25 (by kernel_rfl) (by kernel_rfl) lRs lFs (hval 0 _ v0 rfl rfl) h0
  obtain ⟨a1, g1, l1⟩ := arg_one lDs (okWide_slice_ne und26 (hval 1 _ v1 rfl rfl)) h1
  exact law_calls laid rowed full Try.func3 rfl (by kernel_rfl) rfl rfl (by kernel_rfl) rfl und4 hW (lawConflictEdges_sat ⟨a0, b0⟩ a1 ⟨ga0, gb0⟩ g1.1) ⟨l0 _, l1 _, trivial⟩ rfl rfl rfl
theorem over : Rows.fnExactConflictEdgesRow.holds Try.pinned (OpenSpec.ofChange Rows.fnExactConflictEdgesSpec) :=
  OpenClaim.holds_of_wide 3 Try.f3 rfl rfl rfl rfl rfl rfl rfl ⟨rfl, rfl, rfl, rfl, rfl⟩ rfl rfl rfl rfl rfl (by kernel_rfl) Try.func3 (by kernel_rfl)
    (of_decide_eq_true (by kernel_rfl)) (by unfold Func.isWrapper; first | (rw [if_pos (by decide +kernel)]; kernel_rfl) | (rw [if_neg (by decide +kernel)]; exact ⟨rfl, rfl⟩))
    (fun os started H enc _ => lifted os started H enc)
end Go.Proofs.Ytobdhbgkmdmpmab.lawConflictEdges
namespace Go.Proofs.Ytobdhbgkmdmpmab
/-- The row, under a short name, for the claim. -/
theorem fnExactConflictEdges_holds : Rows.FnExactConflictEdgesSaid := lawConflictEdges.over
#print axioms fnExactConflictEdges_holds
end Go.Proofs.Ytobdhbgkmdmpmab
