
/- THE LAW FnExactHoldsIn: for every input it returns true, and the input reads as it did. Conditions: none. -/
import Derived.Test.YtbalifgacjmbpabGreatRows
import Derived.Test.YtbalifgacjmbpabGreatALK
import Derived.Test.YtbalifgacjmbpabGreatAWHoldsIn
namespace Go.Proofs.YtbalifgacjmbpabGreat.lawHoldsIn
open Go.ChangeShapes Go.WideShapes Go.ChangeAt Go.RowKit
open Go.Proofs.YtbalifgacjmbpabGreat.A
set_option linter.unusedVariables false
theorem own : ownKnob Tryz.prog.godebug = none := by kernel_rfl
theorem laid : laidOutB Tryz.prog = true := by kernel_rfl
theorem rowed : mapsRowed Tryz.prog = true := by kernel_rfl
theorem full : ((List.range Tryz.prog.types.size).all fun t => match Tryz.prog.underlying t with | some (.slice e) => decide (0 < Tryz.prog.cellsOf e) | _ => true) = true := by kernel_rfl
set_option maxRecDepth 100000 in
theorem lifted (os : Os) (started : os.Started) (H : Type) (enc : TypeId × Value → H) :
    ReturnsInHanded {} Tryz.checked os 4 .any (Rows.fnExactHoldsInSpec.pre6 enc Tryz.prog Tryz.f4 Rows.fnExactHoldsInRow.domain false) (Rows.fnExactHoldsInSpec.post enc Tryz.prog Tryz.f4 false true false false) := by
  refine returnsInHanded_of_change_sized (C := Tryz.checked) own started (by kernel_rfl) Tryz.func4
    (ChangeSpec.witness6 (enc := enc) (C := Tryz.checked) false ⟨#[], #[.agg #[.slice none 0 0, .slice none 0 0], .slice none 0 0, .agg #[.int .i64 0, .slice none 0 0, .slice none 0 0]], []⟩ 8 (by kernel_rfl) (by kernel_rfl) (by kernel_rfl) (by kernel_rfl)) ?_
  intro W base args ds gs before hval hW _ _ _
  obtain ⟨p, q, hA, hV, hpq, _⟩ := id hW
  rw [Tryz.params4] at hA hval
  obtain ⟨v0, vs0, d0, ds0, p0, q0, e0, rfl, rfl, h0, r0⟩ := trodAll_cons hA
  obtain ⟨v1, vs1, d1, ds1, p1, q1, e1, rfl, rfl, h1, r1⟩ := trodAll_cons r0
  subst e1
  obtain ⟨v2, vs2, d2, ds2, p2, q2, e2, rfl, rfl, h2, r2⟩ := trodAll_cons r1
  subst e2
  obtain ⟨rfl, rfl, rfl⟩ := trodAll_nil r2
  obtain ⟨rfl, _⟩ := trodVars_none hV
  obtain rfl : args = #[v0, v1, v2] := by cases args; simp_all
  have rI := readsC_int (enc := enc) (W := W) und3
  have rIs := readsC_ints (enc := enc) (W := W) und27 (by kernel_rfl) und3
  have rS := readsC_str (enc := enc) (W := W) und9
  have rR : ReadsC enc Tryz.prog W 99 cRel Rel.fit := readsC_map (readsC_three Tryz.underlying99 (by kernel_rfl) (by kernel_rfl) rS rI rI) (fun x => ⟨x.1, x.2.1, x.2.2⟩) (fun _ => rfl) (fun _ h => h.1)
  have lRs := readsL_rows (w := 3) rR und22 (by kernel_rfl) (by omega) (fun _ => rfl) rels (fun _ => rfl)
  have rF : ReadsC enc Tryz.prog W 101 (cRI 0) RI.fit := readsC_map (readsC_pair Tryz.underlying101 (by kernel_rfl) (by kernel_rfl) rI rIs) (fun x => ⟨x.1, x.2⟩) (fun _ => rfl) (fun _ h => h.2)
  have lFs := readsL_rows (w := 2) rF und23 (by kernel_rfl) (by omega) (fun _ => rfl) (ris 0) (fun _ => rfl)
  have lIs := readsL_ints (enc := enc) (W := W) und27 (by kernel_rfl) und3
  have rA : ReadsC enc Tryz.prog W 103 (cRI 0) RI.fit := readsC_map (readsC_pair Tryz.underlying103 (by kernel_rfl) (by kernel_rfl) rI rIs) (fun x => ⟨x.1, x.2⟩) (fun _ => rfl) (fun _ h => h.2)
  have lAs := readsL_rows (w := 2) rA und26 (by kernel_rfl) (by omega) (fun _ => rfl) (ris 0) (fun _ => rfl)
  obtain ⟨a0, b0, ga0, gb0, l0⟩ := arg_pair Tryz.underlying25 (by kernel_rfl) (by kernel_rfl) lRs lFs (hval 0 _ v0 rfl rfl) h0
  obtain ⟨a1, g1, l1⟩ := arg_one lIs (okWide_slice_ne und27 (hval 1 _ v1 rfl rfl)) h1
  obtain ⟨a2, b2, c2, -, gb2, gc2, l2⟩ := arg_three Tryz.underlying29 (by kernel_rfl) (by kernel_rfl) (readsL_int (enc := enc) (W := W) und3) lAs lIs (hval 2 _ v2 rfl rfl) h2
  exact law_calls laid rowed full Tryz.func4 rfl (by kernel_rfl) rfl rfl (by kernel_rfl) rfl und4 hW (lawHoldsIn_sat ⟨a0, b0⟩ a1 ⟨a2, b2, c2⟩ ⟨ga0, gb0⟩ g1 ⟨gb2, gc2⟩) ⟨l0 _, l1 _, l2 _, trivial⟩ rfl rfl rfl
theorem over : Rows.fnExactHoldsInRow.holds Tryz.pinned (OpenSpec.ofChange Rows.fnExactHoldsInSpec) :=
  OpenClaim.holds_of_wide 4 Tryz.f4 rfl rfl rfl rfl rfl rfl rfl ⟨rfl, rfl, rfl, rfl, rfl⟩ rfl rfl rfl rfl rfl (by kernel_rfl) Tryz.func4 (by kernel_rfl)
    (of_decide_eq_true (by kernel_rfl)) (by unfold Func.isWrapper; first | (rw [if_pos (by decide +kernel)]; kernel_rfl) | (rw [if_neg (by decide +kernel)]; exact ⟨rfl, rfl⟩))
    (fun os started H enc _ => lifted os started H enc)
end Go.Proofs.YtbalifgacjmbpabGreat.lawHoldsIn
namespace Go.Proofs.YtbalifgacjmbpabGreat
/-- The row, under a short name, for the claim. -/
theorem fnExactHoldsIn_holds : Rows.FnExactHoldsInSaid := lawHoldsIn.over
#print axioms fnExactHoldsIn_holds
end Go.Proofs.YtbalifgacjmbpabGreat
