
/- THE LAW FnExactBindVariable: for every input it returns true, and the input reads as it did. Conditions: none. -/
import Derived.Test.YtbalifgacjmbpaaRows
import Derived.Test.YtbalifgacjmbpaaALK
import Derived.Test.YtbalifgacjmbpaaAWBindVariable
namespace Go.Proofs.Ytbalifgacjmbpaa.lawBindVariable
open Go.ChangeShapes Go.WideShapes Go.ChangeAt Go.RowKit
open Go.Proofs.Ytbalifgacjmbpaa.A
set_option linter.unusedVariables false
theorem own : ownKnob Try.prog.godebug = none := by kernel_rfl
theorem laid : laidOutB Try.prog = true := by kernel_rfl
theorem rowed : mapsRowed Try.prog = true := by kernel_rfl
theorem full : ((List.range Try.prog.types.size).all fun t => match Try.prog.underlying t with | some (.slice e) => decide (0 < Try.prog.cellsOf e) | _ => true) = true := by kernel_rfl
set_option maxRecDepth 100000 in
theorem lifted (os : Os) (started : os.Started) (H : Type) (enc : TypeId × Value → H) :
    ReturnsInHanded {} Try.checked os 6 .any (Rows.fnExactBindVariableSpec.pre6 enc Try.prog Try.f6 Rows.fnExactBindVariableRow.domain false) (Rows.fnExactBindVariableSpec.post enc Try.prog Try.f6 false true false false) := by
  refine returnsInHanded_of_change_sized (C := Try.checked) own started (by kernel_rfl) Try.func6
    (ChangeSpec.witness6 (enc := enc) (C := Try.checked) false ⟨#[], #[.agg #[.int .i64 0, .slice none 0 0, .slice none 0 0], .int .i64 0, .int .i64 0], []⟩ 8 (by kernel_rfl) (by kernel_rfl) (by kernel_rfl) (by kernel_rfl)) ?_
  intro W base args ds gs before hval hW _ _ _
  obtain ⟨p, q, hA, hV, hpq, _⟩ := id hW
  rw [Try.params6] at hA hval
  obtain ⟨v0, vs0, d0, ds0, p0, q0, e0, rfl, rfl, h0, r0⟩ := trodAll_cons hA
  obtain ⟨v1, vs1, d1, ds1, p1, q1, e1, rfl, rfl, h1, r1⟩ := trodAll_cons r0
  subst e1
  obtain ⟨v2, vs2, d2, ds2, p2, q2, e2, rfl, rfl, h2, r2⟩ := trodAll_cons r1
  subst e2
  obtain ⟨rfl, rfl, rfl⟩ := trodAll_nil r2
  obtain ⟨rfl, _⟩ := trodVars_none hV
  obtain rfl : args = #[v0, v1, v2] := by cases args; simp_all
  have rI := readsC_int (enc := enc) (W := W) und3
  have rIs := readsC_ints (enc := enc) (W := W) und34 (by kernel_rfl) und3
  have lIs := readsL_ints (enc := enc) (W := W) und34 (by kernel_rfl) und3
  have rA : ReadsC enc Try.prog W 87 (cRI 0) RI.fit := readsC_map (readsC_pair Try.underlying87 (by kernel_rfl) (by kernel_rfl) rI rIs) (fun x => ⟨x.1, x.2⟩) (fun _ => rfl) (fun _ h => h.2)
  have lAs := readsL_rows (w := 2) rA und41 (by kernel_rfl) (by omega) (fun _ => rfl) (ris 0) (fun _ => rfl)
  obtain ⟨a0, b0, c0, -, gb0, gc0, l0⟩ := arg_three Try.underlying43 (by kernel_rfl) (by kernel_rfl) (readsL_int (enc := enc) (W := W) und3) lAs lIs (hval 0 _ v0 rfl rfl) h0
  obtain ⟨a1, rfl, g1⟩ := open_int und3 (hval 1 _ v1 rfl rfl) h1
  obtain ⟨a2, rfl, g2⟩ := open_int und3 (hval 2 _ v2 rfl rfl) h2
  exact law_calls laid rowed full Try.func6 rfl (by kernel_rfl) rfl rfl (by kernel_rfl) rfl und4 hW (lawBindVariable_sat ⟨a0, b0, c0⟩ a1 a2 ⟨gb0, gc0⟩) ⟨l0 _, rfl, rfl, trivial⟩ rfl rfl rfl
theorem over : Rows.fnExactBindVariableRow.holds Try.pinned (OpenSpec.ofChange Rows.fnExactBindVariableSpec) :=
  OpenClaim.holds_of_wide 6 Try.f6 rfl rfl rfl rfl rfl rfl rfl ⟨rfl, rfl, rfl, rfl, rfl⟩ rfl rfl rfl rfl rfl (by kernel_rfl) Try.func6 (by kernel_rfl)
    (of_decide_eq_true (by kernel_rfl)) (by unfold Func.isWrapper; first | (rw [if_pos (by decide +kernel)]; kernel_rfl) | (rw [if_neg (by decide +kernel)]; exact ⟨rfl, rfl⟩))
    (fun os started H enc _ => lifted os started H enc)
end Go.Proofs.Ytbalifgacjmbpaa.lawBindVariable
namespace Go.Proofs.Ytbalifgacjmbpaa
/-- The row, under a short name, for the claim. -/
theorem fnExactBindVariable_holds : Rows.FnExactBindVariableSaid := lawBindVariable.over
#print axioms fnExactBindVariable_holds
end Go.Proofs.Ytbalifgacjmbpaa
