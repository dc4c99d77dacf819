
/- WHAT A LAW READS: constraints. Conditions: none. -/
import Derived.Test.YtobdhbgkmdmpmabALK
import Derived.Test.YtobdhbgkmdmpmabAFC1
namespace Go.Proofs.Ytobdhbgkmdmpmab.A
open Go Go.ChangeShapes Go.WideShapes Go.ChangeAt Go.RowKit
set_option linter.unusedVariables false
variable {H : Type} {enc : TypeId × Value → H} {P : Program} {W : World}
theorem arg_den {t : TypeId} {f0 f1 f2 f3 f4 f5 f6 : Field} (ht : P.underlying t = some (.struct #[f0, f1, f2, f3, f4, f5, f6])) (hone : oneCells P [f0, f1, f2, f3, f4, f5, f6] = true) (hsz : P.cellsOf t = 7)
    (h0 : P.underlying f0.type = some (.int .i64)) (h1 : P.underlying f1.type = some (.int .i64)) (h2 : P.underlying f2.type = some (.int .i64)) (h3 : P.underlying f3.type = some (.int .i64)) (h4 : P.underlying f4.type = some (.int .i64)) (h5 : P.underlying f5.type = some (.int .i64)) (h6 : P.underlying f6.type = some (.int .i64))
    {base : Nat} {v : Value} (hv : Value.okWide P W .any base t v) {d : DataW H} {ps : List MemPlace} (h : DataW.Trod enc P W 0 (fun _ => true) true t v d ps) : ∃ x : Den, ∀ k, LVRep W (lab0 W) k (lDen x) v := by
  obtain ⟨cs, rfl, hl, n', hf⟩ := arg_struct ht hone hsz hv h
  obtain ⟨v0, y0, a0, b0⟩ := hf 0 f0 rfl
  obtain ⟨v1, y1, a1, b1⟩ := hf 1 f1 rfl
  obtain ⟨v2, y2, a2, b2⟩ := hf 2 f2 rfl
  obtain ⟨v3, y3, a3, b3⟩ := hf 3 f3 rfl
  obtain ⟨v4, y4, a4, b4⟩ := hf 4 f4 rfl
  obtain ⟨v5, y5, a5, b5⟩ := hf 5 f5 rfl
  obtain ⟨v6, y6, a6, b6⟩ := hf 6 f6 rfl
  have hcs : cs.toList = [v0, v1, v2, v3, v4, v5, v6] := by
    revert hl a0 a1 a2 a3 a4 a5 a6
    generalize cs.toList = l
    intro hl a0 a1 a2 a3 a4 a5 a6
    match l, hl with
    | [u0, u1, u2, u3, u4, u5, u6], _ => simp at a0 a1 a2 a3 a4 a5 a6; rw [a0, a1, a2, a3, a4, a5, a6]
  obtain ⟨z0, -, c0⟩ := readsL_int h0 _ _ _ b0
  obtain ⟨z1, -, c1⟩ := readsL_int h1 _ _ _ b1
  obtain ⟨z2, -, c2⟩ := readsL_int h2 _ _ _ b2
  obtain ⟨z3, -, c3⟩ := readsL_int h3 _ _ _ b3
  obtain ⟨z4, -, c4⟩ := readsL_int h4 _ _ _ b4
  obtain ⟨z5, -, c5⟩ := readsL_int h5 _ _ _ b5
  obtain ⟨z6, -, c6⟩ := readsL_int h6 _ _ _ b6
  refine ⟨⟨z0, z1, z2, z3, z4, z5, z6⟩, fun k => ⟨cs, rfl, ?_⟩⟩
  rw [hcs]
  exact ⟨c0 _, c1 _, c2 _, c3 _, c4 _, c5 _, c6 _, trivial⟩
theorem readsC_den {t : TypeId} {f0 f1 f2 f3 f4 f5 f6 : Field} (ht : P.underlying t = some (.struct #[f0, f1, f2, f3, f4, f5, f6])) (hone : oneCells P [f0, f1, f2, f3, f4, f5, f6] = true) (hsz : P.cellsOf t = 7)
    (h0 : P.underlying f0.type = some (.int .i64)) (h1 : P.underlying f1.type = some (.int .i64)) (h2 : P.underlying f2.type = some (.int .i64)) (h3 : P.underlying f3.type = some (.int .i64)) (h4 : P.underlying f4.type = some (.int .i64)) (h5 : P.underlying f5.type = some (.int .i64)) (h6 : P.underlying f6.type = some (.int .i64)) :
    ReadsC enc P W t cDen (fun _ => True) := by
  intro n cs x h
  obtain ⟨hl, n', hf⟩ := struct_cells ht hone hsz h
  obtain ⟨v0, y0, a0, b0⟩ := hf 0 f0 rfl
  obtain ⟨v1, y1, a1, b1⟩ := hf 1 f1 rfl
  obtain ⟨v2, y2, a2, b2⟩ := hf 2 f2 rfl
  obtain ⟨v3, y3, a3, b3⟩ := hf 3 f3 rfl
  obtain ⟨v4, y4, a4, b4⟩ := hf 4 f4 rfl
  obtain ⟨v5, y5, a5, b5⟩ := hf 5 f5 rfl
  obtain ⟨v6, y6, a6, b6⟩ := hf 6 f6 rfl
  have hcs : cs = [v0, v1, v2, v3, v4, v5, v6] := by
    match cs, hl with
    | [u0, u1, u2, u3, u4, u5, u6], _ => simp at a0 a1 a2 a3 a4 a5 a6; rw [a0, a1, a2, a3, a4, a5, a6]
  subst hcs
  obtain ⟨z0, -, c0⟩ := readsC_int h0 _ _ _ b0
  obtain ⟨z1, -, c1⟩ := readsC_int h1 _ _ _ b1
  obtain ⟨z2, -, c2⟩ := readsC_int h2 _ _ _ b2
  obtain ⟨z3, -, c3⟩ := readsC_int h3 _ _ _ b3
  obtain ⟨z4, -, c4⟩ := readsC_int h4 _ _ _ b4
  obtain ⟨z5, -, c5⟩ := readsC_int h5 _ _ _ b5
  obtain ⟨z6, -, c6⟩ := readsC_int h6 _ _ _ b6
  exact ⟨⟨z0, z1, z2, z3, z4, z5, z6⟩, trivial, c0.1, c1.1, c2.1, c3.1, c4.1, c5.1, c6.1, trivial⟩
end Go.Proofs.Ytobdhbgkmdmpmab.A
