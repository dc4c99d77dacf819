/- THE LAW FnExactFormatClass: for every input it returns true, and the input reads as it did. Conditions: none. -/
import Derived.Test.YtpblenpebjkmoaaRows
import Derived.Test.YtpblenpebjkmoaaA40
import Derived.Test.YtpblenpebjkmoaaAFClass
namespace Go.Proofs.Ytpblenpebjkmoaa.lawFormatClass
open Go.ChangeShapes Go.WideShapes Go.ChangeAt Go.RowKit
open Go.Proofs.Ytpblenpebjkmoaa.A
set_option linter.unusedVariables false
theorem own : ownKnob Try.prog.godebug = none := by kernel_rfl
theorem laid : laidOutB Try.prog = true := by kernel_rfl
theorem rowed : mapsRowed Try.prog = true := by kernel_rfl
theorem full : ((List.range Try.prog.types.size).all fun t => match Try.prog.underlying t with | some (.slice e) => decide (0 < Try.prog.cellsOf e) | _ => true) = true := by kernel_rfl
set_option maxRecDepth 100000 in
theorem lifted (os : Os) (started : os.Started) (H : Type) (enc : TypeId × Value → H) :
    ReturnsInHanded {} Try.checked os 5 .any (Rows.fnExactFormatClassSpec.pre6 enc Try.prog Try.f5 Rows.fnExactFormatClassRow.domain false) (Rows.fnExactFormatClassSpec.post enc Try.prog Try.f5 false true false false) := by
  refine returnsInHanded_of_change_sized (C := Try.checked) own started (by kernel_rfl) Try.func5
    (ChangeSpec.witness6 (enc := enc) (C := Try.checked) false ⟨#[], #[.int .i64 0], []⟩ 8 (by kernel_rfl) (by kernel_rfl) (by kernel_rfl) (by kernel_rfl)) ?_
  intro W base args ds gs before hval hW _ _ _
  obtain ⟨p, q, hA, hV, hpq, _⟩ := id hW
  rw [Try.params5] at hA hval
  obtain ⟨v0, vs0, d0, ds0, p0, q0, e0, rfl, rfl, h0, r0⟩ := trodAll_cons hA
  obtain ⟨rfl, rfl, rfl⟩ := trodAll_nil r0
  obtain ⟨rfl, _⟩ := trodVars_none hV
  obtain rfl : args = #[v0] := by cases args; simp_all
  obtain ⟨a0, rfl, -⟩ := open_int und3 (hval 0 _ v0 rfl rfl) h0
  exact law_calls laid rowed full Try.func5 rfl (by kernel_rfl) rfl rfl (by kernel_rfl) rfl und4 hW (lawFormatClass_sat a0) ⟨rfl, trivial⟩ rfl rfl rfl
theorem over : Rows.fnExactFormatClassRow.holds Try.pinned (OpenSpec.ofChange Rows.fnExactFormatClassSpec) :=
  OpenClaim.holds_of_wide 5 Try.f5 rfl rfl rfl rfl rfl rfl rfl ⟨rfl, rfl, rfl, rfl, rfl⟩ rfl rfl rfl rfl rfl (by kernel_rfl) Try.func5 (by kernel_rfl)
    (of_decide_eq_true (by kernel_rfl)) (by unfold Func.isWrapper; first | (rw [if_pos (by decide +kernel)]; kernel_rfl) | (rw [if_neg (by decide +kernel)]; exact ⟨rfl, rfl⟩))
    (fun os started H enc _ => lifted os started H enc)
end Go.Proofs.Ytpblenpebjkmoaa.lawFormatClass
namespace Go.Proofs.Ytpblenpebjkmoaa
/-- The row, under a short name, for the claim. -/
theorem fnExactFormatClass_holds : Rows.FnExactFormatClassSaid := lawFormatClass.over
#print axioms fnExactFormatClass_holds
end Go.Proofs.Ytpblenpebjkmoaa
