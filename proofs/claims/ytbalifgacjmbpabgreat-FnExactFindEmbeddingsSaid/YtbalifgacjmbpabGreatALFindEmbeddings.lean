
/- THE LAW FnExactFindEmbeddings: for every input it returns true, and the input reads as it did. Conditions: none. -/
import Derived.Test.YtbalifgacjmbpabGreatRows
import Derived.Test.YtbalifgacjmbpabGreatALK
import Derived.Test.YtbalifgacjmbpabGreatAWFindEmbeddings
namespace Go.Proofs.YtbalifgacjmbpabGreat.lawFindEmbeddings
open Go.ChangeShapes Go.WideShapes Go.ChangeAt Go.RowKit
open Go.Proofs.YtbalifgacjmbpabGreat.A
set_option linter.unusedVariables false
theorem own : ownKnob Tryz.prog.godebug = none := by kernel_rfl
theorem laid : laidOutB Tryz.prog = true := by kernel_rfl
theorem rowed : mapsRowed Tryz.prog = true := by kernel_rfl
theorem full : ((List.range Tryz.prog.types.size).all fun t => match Tryz.prog.underlying t with | some (.slice e) => decide (0 < Tryz.prog.cellsOf e) | _ => true) = true := by kernel_rfl
set_option maxRecDepth 100000 in
theorem lifted (os : Os) (started : os.Started) (H : Type) (enc : TypeId × Value → H) :
    ReturnsInHanded {} Tryz.checked os 3 .any (Rows.fnExactFindEmbeddingsSpec.pre6 enc Tryz.prog Tryz.f3 Rows.fnExactFindEmbeddingsRow.domain false) (Rows.fnExactFindEmbeddingsSpec.post enc Tryz.prog Tryz.f3 false true false false) := by
  refine returnsInHanded_of_change_sized (C := Tryz.checked) own started (by kernel_rfl) Tryz.func3
    (ChangeSpec.witness6 (enc := enc) (C := Tryz.checked) false ⟨#[], #[.agg #[.slice none 0 0, .slice none 0 0], .agg #[.int .i64 0, .slice none 0 0, .slice none 0 0]], []⟩ 8 (by kernel_rfl) (by kernel_rfl) (by kernel_rfl) (by kernel_rfl)) ?_
  intro W base args ds gs before hval hW _ _ _
  obtain ⟨p, q, hA, hV, hpq, _⟩ := id hW
  rw [Tryz.params3] at hA hval
  obtain ⟨v0, vs0, d0, ds0, p0, q0, e0, rfl, rfl, h0, r0⟩ := trodAll_cons hA
  obtain ⟨v1, vs1, d1, ds1, p1, q1, e1, rfl, rfl, h1, r1⟩ := trodAll_cons r0
  subst e1
  obtain ⟨rfl, rfl, rfl⟩ := trodAll_nil r1
  obtain ⟨rfl, _⟩ := trodVars_none hV
  obtain rfl : args = #[v0, v1] := by cases args; simp_all
  have rI := readsC_int (enc := enc) (W := W) und3
  have rIs := readsC_ints (enc := enc) (W := W) und27 (by kernel_rfl) und3
  have rS := readsC_str (enc := enc) (W := W) und9
  have rR : ReadsC enc Tryz.prog W 99 cRel Rel.fit := readsC_map (readsC_three Tryz.underlying99 (by kernel_rfl) (by kernel_rfl) rS rI rI) (fun x => ⟨x.1, x.2.1, x.2.2⟩) (fun _ => rfl) (fun _ h => h.1)
  have lRs := readsL_rows (w := 3) rR und22 (by kernel_rfl) (by omega) (fun _ => rfl) rels (fun _ => rfl)
  have rF : ReadsC enc Tryz.prog W 101 (cRI 0) RI.fit := readsC_map (readsC_pair Tryz.underlying101 (by kernel_rfl) (by kernel_rfl) rI rIs) (fun x => ⟨x.1, x.2⟩) (fun _ => rfl) (fun _ h => h.2)
  have lFs := readsL_rows (w := 2) rF und23 (by kernel_rfl) (by omega) (fun _ => rfl) (ris 0) (fun _ => rfl)
  have lIs := readsL_ints (enc := enc) (W := W) und27 (by kernel_rfl) und3
  have rA : ReadsC enc Tryz.prog W 103 (cRI 0) RI.fit := readsC_map (readsC_pair Tryz.underlying103 (by kernel_rfl) (by kernel_rfl) rI rIs) (fun x => ⟨x.1, x.2⟩) (fun _ => rfl) (fun _ h => h.2)
  have lAs := readsL_rows (w := 2) rA und26 (by kernel_rfl) (by omega) (fun _ => rfl) (ris 0) (fun _ => rfl)
  obtain ⟨a0, b0, ga0, gb0, l0⟩ := arg_pair Tryz.underlying25 (by kernel_rfl) (by kernel_rfl) lRs lFs (hval 0 _ v0 rfl rfl) h0
  obtain ⟨a1, b1, c1, -, gb1, gc1, l1⟩ := arg_three Tryz.underlying29 (by kernel_rfl) (by kernel_rfl) (readsL_int (enc := enc) (W := W) und3) lAs lIs (hval 1 _ v1 rfl rfl) h1
  exact law_calls laid rowed full Tryz.func3 rfl (by kernel_rfl) rfl rfl (by kernel_rfl) rfl und4 hW (lawFindEmbeddings_sat ⟨a0, b0⟩ ⟨a1, b1, c1⟩ ⟨ga0, gb0⟩ ⟨gb1, gc1⟩) ⟨l0 _, l1 _, trivial⟩ rfl rfl rfl
theorem over : Rows.fnExactFindEmbeddingsRow.holds Tryz.pinned (OpenSpec.ofChange Rows.fnExactFindEmbeddingsSpec) :=
  OpenClaim.holds_of_wide 3 Tryz.f3 rfl rfl rfl rfl rfl rfl rfl ⟨rfl, rfl, rfl, rfl, rfl⟩ rfl rfl rfl rfl rfl (by kernel_rfl) Tryz.func3 (by kernel_rfl)
    (of_decide_eq_true (by kernel_rfl)) (by unfold Func.isWrapper; first | (rw [if_pos (by decide +kernel)]; kernel_rfl) | (rw [if_neg (by decide +kernel)]; exact ⟨rfl, rfl⟩))
    (fun os started H enc _ => lifted os started H enc)
end Go.Proofs.YtbalifgacjmbpabGreat.lawFindEmbeddings
namespace Go.Proofs.YtbalifgacjmbpabGreat
/-- The row, under a short name, for the claim. -/
theorem fnExactFindEmbeddings_holds : Rows.FnExactFindEmbeddingsSaid := lawFindEmbeddings.over
#print axioms fnExactFindEmbeddings_holds
end Go.Proofs.YtbalifgacjmbpabGreat
