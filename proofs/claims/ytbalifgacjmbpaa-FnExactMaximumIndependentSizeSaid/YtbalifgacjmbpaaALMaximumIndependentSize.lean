
/- THE LAW FnExactMaximumIndependentSize: for every input it returns true, and the input reads as it did. Conditions: none. -/
import Derived.Test.YtbalifgacjmbpaaRows
import Derived.Test.YtbalifgacjmbpaaALK
import Derived.Test.YtbalifgacjmbpaaAWMaximumIndependentSize
namespace Go.Proofs.Ytbalifgacjmbpaa.lawMaximumIndependentSize
open Go.ChangeShapes Go.WideShapes Go.ChangeAt Go.RowKit
open Go.Proofs.Ytbalifgacjmbpaa.A
set_option linter.unusedVariables false
theorem own : ownKnob Try.prog.godebug = none := by kernel_rfl
theorem laid : laidOutB Try.prog = true := by kernel_rfl
theorem rowed : mapsRowed Try.prog = true := by kernel_rfl
theorem full : ((List.range Try.prog.types.size).all fun t => match Try.prog.underlying t with | some (.slice e) => decide (0 < Try.prog.cellsOf e) | _ => true) = true := by kernel_rfl
set_option maxRecDepth 100000 in
theorem lifted (os : Os) (started : os.Started) (H : Type) (enc : TypeId × Value → H) :
    ReturnsInHanded {} Try.checked os 4 .any (Rows.fnExactMaximumIndependentSizeSpec.pre6 enc Try.prog Try.f4 Rows.fnExactMaximumIndependentSizeRow.domain false) (Rows.fnExactMaximumIndependentSizeSpec.post enc Try.prog Try.f4 false true false false) := by
  refine returnsInHanded_of_change_sized (C := Try.checked) own started (by kernel_rfl) Try.func4
    (ChangeSpec.witness6 (enc := enc) (C := Try.checked) false ⟨#[], #[.int .i64 0, .slice none 0 0], []⟩ 8 (by kernel_rfl) (by kernel_rfl) (by kernel_rfl) (by kernel_rfl)) ?_
  intro W base args ds gs before hval hW _ _ _
  obtain ⟨p, q, hA, hV, hpq, _⟩ := id hW
  rw [Try.params4] at hA hval
  obtain ⟨v0, vs0, d0, ds0, p0, q0, e0, rfl, rfl, h0, r0⟩ := trodAll_cons hA
  obtain ⟨v1, vs1, d1, ds1, p1, q1, e1, rfl, rfl, h1, r1⟩ := trodAll_cons r0
  subst e1
  obtain ⟨rfl, rfl, rfl⟩ := trodAll_nil r1
  obtain ⟨rfl, _⟩ := trodVars_none hV
  obtain rfl : args = #[v0, v1] := by cases args; simp_all
  have rI := readsC_int (enc := enc) (W := W) und3
  have rE : ReadsC enc Try.prog W 61 cEd (fun _ => True) := readsC_map (readsC_pair Try.underlying61 (by kernel_rfl) (by kernel_rfl) rI rI) (fun x => ⟨x.1, x.2⟩) (fun _ => rfl) (fun _ _ => trivial)
  have lEs := readsL_rows (w := 2) rE und22 (by kernel_rfl) (by omega) (fun _ => rfl) eds (fun _ => rfl)
  obtain ⟨a0, rfl, g0⟩ := open_int und3 (hval 0 _ v0 rfl rfl) h0
  obtain ⟨a1, g1, l1⟩ := arg_one lEs (okWide_slice_ne und22 (hval 1 _ v1 rfl rfl)) h1
  exact law_calls laid rowed full Try.func4 rfl (by kernel_rfl) rfl rfl (by kernel_rfl) rfl und4 hW (lawMaximumIndependentSize_sat a0 a1 g1.1) ⟨rfl, l1 _, trivial⟩ rfl rfl rfl
theorem over : Rows.fnExactMaximumIndependentSizeRow.holds Try.pinned (OpenSpec.ofChange Rows.fnExactMaximumIndependentSizeSpec) :=
  OpenClaim.holds_of_wide 4 Try.f4 rfl rfl rfl rfl rfl rfl rfl ⟨rfl, rfl, rfl, rfl, rfl⟩ rfl rfl rfl rfl rfl (by kernel_rfl) Try.func4 (by kernel_rfl)
    (of_decide_eq_true (by kernel_rfl)) (by unfold Func.isWrapper; first | (rw [if_pos (by decide +kernel)]; kernel_rfl) | (rw [if_neg (by decide +kernel)]; exact ⟨rfl, rfl⟩))
    (fun os started H enc _ => lifted os started H enc)
end Go.Proofs.Ytbalifgacjmbpaa.lawMaximumIndependentSize
namespace Go.Proofs.Ytbalifgacjmbpaa
/-- The row, under a short name, for the claim. -/
theorem fnExactMaximumIndependentSize_holds : Rows.FnExactMaximumIndependentSizeSaid := lawMaximumIndependentSize.over
#print axioms fnExactMaximumIndependentSize_holds
end Go.Proofs.Ytbalifgacjmbpaa
