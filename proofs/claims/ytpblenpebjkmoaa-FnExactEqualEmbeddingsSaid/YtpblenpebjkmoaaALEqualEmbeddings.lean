/- THE LAW FnExactEqualEmbeddings: for every input it returns true, and the input reads as it did. Conditions: none. -/
import Derived.Test.YtpblenpebjkmoaaRows
import Derived.Test.YtpblenpebjkmoaaA40
import Derived.Test.YtpblenpebjkmoaaAF2
namespace Go.Proofs.Ytpblenpebjkmoaa.lawEqualEmbeddings
open Go.ChangeShapes Go.WideShapes Go.ChangeAt Go.RowKit
open Go.Proofs.Ytpblenpebjkmoaa.A
set_option linter.unusedVariables false
theorem own : ownKnob Try.prog.godebug = none := by kernel_rfl
theorem laid : laidOutB Try.prog = true := by kernel_rfl
theorem rowed : mapsRowed Try.prog = true := by kernel_rfl
theorem full : ((List.range Try.prog.types.size).all fun t => match Try.prog.underlying t with | some (.slice e) => decide (0 < Try.prog.cellsOf e) | _ => true) = true := by kernel_rfl
set_option maxRecDepth 100000 in
theorem lifted (os : Os) (started : os.Started) (H : Type) (enc : TypeId × Value → H) :
    ReturnsInHanded {} Try.checked os 8 .any (Rows.fnExactEqualEmbeddingsSpec.pre6 enc Try.prog Try.f8 Rows.fnExactEqualEmbeddingsRow.domain false) (Rows.fnExactEqualEmbeddingsSpec.post enc Try.prog Try.f8 false true false false) := by
  refine returnsInHanded_of_change_sized (C := Try.checked) own started (by kernel_rfl) Try.func8
    (ChangeSpec.witness6 (enc := enc) (C := Try.checked) false ⟨#[], #[.agg #[.slice none 0 0, .slice none 0 0], .agg #[.slice none 0 0, .slice none 0 0]], []⟩ 8 (by kernel_rfl) (by kernel_rfl) (by kernel_rfl) (by kernel_rfl)) ?_
  intro W base args ds gs before hval hW _ _ _
  obtain ⟨p, q, hA, hV, hpq, _⟩ := id hW
  rw [Try.params8] at hA hval
  obtain ⟨v0, vs0, d0, ds0, p0, q0, e0, rfl, rfl, h0, r0⟩ := trodAll_cons hA
  obtain ⟨v1, vs1, d1, ds1, p1, q1, e1, rfl, rfl, h1, r1⟩ := trodAll_cons r0
  obtain ⟨rfl, rfl, rfl⟩ := trodAll_nil r1
  obtain ⟨rfl, _⟩ := trodVars_none hV
  subst e1
  obtain rfl : args = #[v0, v1] := by cases args; simp_all
  have ri := readsL_slice (enc := enc) (W := W) (t := 29) (w := 1) und29 (by kernel_rfl) (by omega) (fun _ => rfl) (readsC_int und3)
  obtain ⟨a0, b0, g0, k0, l0⟩ := arg_pair Try.underlying31 (by kernel_rfl) (by kernel_rfl) ri ri (hval 0 _ v0 rfl rfl) h0
  obtain ⟨a1, b1, g1, k1, l1⟩ := arg_pair Try.underlying31 (by kernel_rfl) (by kernel_rfl) ri ri (hval 1 _ v1 rfl rfl) h1
  refine law_calls laid rowed full Try.func8 rfl (by kernel_rfl) rfl rfl (by kernel_rfl) rfl und4 hW (lawEqualEmbeddings_sat ⟨a0, b0⟩ ⟨a1, b1⟩ g0.1 k0.1 g1.1 k1.1) ?_ rfl rfl rfl
  rw [lEmb, lEmb, ints_eq, ints_eq, ints_eq, ints_eq]
  exact ⟨l0 _, l1 _, trivial⟩
theorem over : Rows.fnExactEqualEmbeddingsRow.holds Try.pinned (OpenSpec.ofChange Rows.fnExactEqualEmbeddingsSpec) :=
  OpenClaim.holds_of_wide 8 Try.f8 rfl rfl rfl rfl rfl rfl rfl ⟨rfl, rfl, rfl, rfl, rfl⟩ rfl rfl rfl rfl rfl (by kernel_rfl) Try.func8 (by kernel_rfl)
    (of_decide_eq_true (by kernel_rfl)) (by unfold Func.isWrapper; first | (rw [if_pos (by decide +kernel)]; kernel_rfl) | (rw [if_neg (by decide +kernel)]; exact ⟨rfl, rfl⟩))
    (fun os started H enc _ => lifted os started H enc)
end Go.Proofs.Ytpblenpebjkmoaa.lawEqualEmbeddings
namespace Go.Proofs.Ytpblenpebjkmoaa
/-- The row, under a short name, for the claim. -/
theorem fnExactEqualEmbeddings_holds : Rows.FnExactEqualEmbeddingsSaid := lawEqualEmbeddings.over
#print axioms fnExactEqualEmbeddings_holds
end Go.Proofs.Ytpblenpebjkmoaa
