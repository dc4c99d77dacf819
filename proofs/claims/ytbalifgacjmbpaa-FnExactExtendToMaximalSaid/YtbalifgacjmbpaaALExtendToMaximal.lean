
/- THE LAW FnExactExtendToMaximal: for every input it returns true, and the input reads as it did. Conditions: none. -/
import Derived.Test.YtbalifgacjmbpaaRows
import Derived.Test.YtbalifgacjmbpaaALK
import Derived.Test.YtbalifgacjmbpaaAWExtendToMaximal
namespace Go.Proofs.Ytbalifgacjmbpaa.lawExtendToMaximal
open Go.ChangeShapes Go.WideShapes Go.ChangeAt Go.RowKit
open Go.Proofs.Ytbalifgacjmbpaa.A
set_option linter.unusedVariables false
theorem own : ownKnob Try.prog.godebug = none := by kernel_rfl
theorem laid : laidOutB Try.prog = true := by kernel_rfl
theorem rowed : mapsRowed Try.prog = true := by kernel_rfl
theorem full : ((List.range Try.prog.types.size).all fun t => match Try.prog.underlying t with | some (.slice e) => decide (0 < Try.prog.cellsOf e) | _ => true) = true := by kernel_rfl
set_option maxRecDepth 100000 in
theorem lifted (os : Os) (started : os.Started) (H : Type) (enc : TypeId × Value → H) :
    ReturnsInHanded {} Try.checked os 5 .any (Rows.fnExactExtendToMaximalSpec.pre6 enc Try.prog Try.f5 Rows.fnExactExtendToMaximalRow.domain false) (Rows.fnExactExtendToMaximalSpec.post enc Try.prog Try.f5 false true false false) := by
  refine returnsInHanded_of_change_sized (C := Try.checked) own started (by kernel_rfl) Try.func5
    (ChangeSpec.witness6 (enc := enc) (C := Try.checked) false ⟨#[], #[.int .i64 0, .slice none 0 0, .slice none 0 0], []⟩ 8 (by kernel_rfl) (by kernel_rfl) (by kernel_rfl) (by kernel_rfl)) ?_
  intro W base args ds gs before hval hW _ _ _
  obtain ⟨p, q, hA, hV, hpq, _⟩ := id hW
  rw [Try.params5] at hA hval
  obtain ⟨v0, vs0, d0, ds0, p0, q0, e0, rfl, rfl, h0, r0⟩ := trodAll_cons hA
  obtain ⟨v1, vs1, d1, ds1, p1, q1, e1, rfl, rfl, h1, r1⟩ := trodAll_cons r0
  subst e1
  obtain ⟨v2, vs2, d2, ds2, p2, q2, e2, rfl, rfl, h2, r2⟩ := trodAll_cons r1
  subst e2
  obtain ⟨rfl, rfl, rfl⟩ := trodAll_nil r2
  obtain ⟨rfl, _⟩ := trodVars_none hV
  obtain rfl : args = #[v0, v1, v2] := by cases args; simp_all
  have rI := readsC_int (enc := enc) (W := W) und3
  have rE : ReadsC enc Try.prog W 61 cEd (fun _ => True) := readsC_map (readsC_pair Try.underlying61 (by kernel_rfl) (by kernel_rfl) rI rI) (fun x => ⟨x.1, x.2⟩) (fun _ => rfl) (fun _ _ => trivial)
  have lEs := readsL_rows (w := 2) rE und22 (by kernel_rfl) (by omega) (fun _ => rfl) eds (fun _ => rfl)
  have rIs := readsC_ints (enc := enc) (W := W) und34 (by kernel_rfl) und3
  have lIs := readsL_ints (enc := enc) (W := W) und34 (by kernel_rfl) und3
  obtain ⟨a0, rfl, g0⟩ := open_int und3 (hval 0 _ v0 rfl rfl) h0
  obtain ⟨a1, g1, l1⟩ := arg_one lEs (okWide_slice_ne und22 (hval 1 _ v1 rfl rfl)) h1
  obtain ⟨a2, g2, l2⟩ := arg_one lIs (okWide_slice_ne und34 (hval 2 _ v2 rfl rfl)) h2
  exact law_calls laid rowed full Try.func5 rfl (by kernel_rfl) rfl rfl (by kernel_rfl) rfl und4 hW (lawExtendToMaximal_sat a0 a1 a2 g1.1 g2) ⟨rfl, l1 _, l2 _, trivial⟩ rfl rfl rfl
theorem over : Rows.fnExactExtendToMaximalRow.holds Try.pinned (OpenSpec.ofChange Rows.fnExactExtendToMaximalSpec) :=
  OpenClaim.holds_of_wide 5 Try.f5 rfl rfl rfl rfl rfl rfl rfl ⟨rfl, rfl, rfl, rfl, rfl⟩ rfl rfl rfl rfl rfl (by kernel_rfl) Try.func5 (by kernel_rfl)
    (of_decide_eq_true (by kernel_rfl)) (by unfold Func.isWrapper; first | (rw [if_pos (by decide +kernel)]; kernel_rfl) | (rw [if_neg (by decide +kernel)]; exact ⟨rfl, rfl⟩))
    (fun os started H enc _ => lifted os started H enc)
end Go.Proofs.Ytbalifgacjmbpaa.lawExtendToMaximal
namespace Go.Proofs.Ytbalifgacjmbpaa
/-- The row, under a short name, for the claim. -/
theorem fnExactExtendToMaximal_holds : Rows.FnExactExtendToMaximalSaid := lawExtendToMaximal.over
#print axioms fnExactExtendToMaximal_holds
end Go.Proofs.Ytbalifgacjmbpaa
