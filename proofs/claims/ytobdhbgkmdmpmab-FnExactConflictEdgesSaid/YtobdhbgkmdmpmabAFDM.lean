
/- MARKS OF CONSTRAINTS. Conditions: none. -/
import Derived.Test.YtobdhbgkmdmpmabAFC1
namespace Go.Proofs.Ytobdhbgkmdmpmab.A
open Go
set_option linter.unusedSimpArgs false
set_option linter.unusedVariables false
set_option maxRecDepth 100000

set_option maxHeartbeats 4000000 in
theorem markDenialConstraintS_sat (a : List Den) (k : Int) (h : 0 ≤ k ∧ k + ((7 * a.length : Nat) : Int) ≤ 9223372036854775807) : Sat Try.prog 15 [oDens a, lInt k] [lInt (k + ((7 * a.length : Nat) : Int))] [g1, g1] := by
  refine sat_of_body mixed Try.func15 rfl (by kernel_rfl) (by kernel_rfl) (rs := [.tmp 4]) rfl rfl rfl ?_
  simp -implicitDefEqProofs (maxSteps := 2000000) only [go_sem]
  refine awp_loop (Nat × List Den) (fun x => mkSt [(0, .one (.ref 0 7 0 a.length)), (1, .sc (.int .i64 (k + ((7 * x.1 : Nat) : Int)))), (5, .sc (.int .i64 x.1))] [] [(0, (7, dens x.2))] 1000)
    (fun x => x.1 ≤ a.length ∧ x.2.length = a.length) (fun x => a.length - x.1) (0, a) ⟨by simp, rfl⟩ (le_st _ _ [⟨0, some 0, false, 7, _⟩] [] _ rfl (by simp -implicitDefEqProofs (maxSteps := 2000000) only [go_sem, Nat.mul_zero] <;> rfl) (by simp -implicitDefEqProofs (maxSteps := 2000000) only [go_sem, Nat.mul_zero] <;> rfl) (by simp -implicitDefEqProofs (maxSteps := 2000000) only [go_sem, Nat.mul_zero] <;> rfl)) ?_
  rintro ⟨i, b⟩ ⟨h1, h2⟩
  simp only at h1 h2
  by_cases c1 : i < a.length
  · have hb : k + ((7 * i : Nat) : Int) + 7 ≤ 9223372036854775807 := by omega
    generalize hq : k + ((7 * i : Nat) : Int) = q at hb ⊢
    have hq0 : 0 ≤ q := by omega
    have w1 : IntKind.i64.wrap (q + 1) = q + 1 := IntWalk.i64_in _ (by omega)
    have w2 : IntKind.i64.wrap (q + 1 + 1) = q + 1 + 1 := IntWalk.i64_in _ (by omega)
    have w3 : IntKind.i64.wrap (q + 1 + 1 + 1) = q + 1 + 1 + 1 := IntWalk.i64_in _ (by omega)
    have w4 : IntKind.i64.wrap (q + 1 + 1 + 1 + 1) = q + 1 + 1 + 1 + 1 := IntWalk.i64_in _ (by omega)
    have w5 : IntKind.i64.wrap (q + 1 + 1 + 1 + 1 + 1) = q + 1 + 1 + 1 + 1 + 1 := IntWalk.i64_in _ (by omega)
    have w6 : IntKind.i64.wrap (q + 1 + 1 + 1 + 1 + 1 + 1) = q + 1 + 1 + 1 + 1 + 1 + 1 := IntWalk.i64_in _ (by omega)
    have w7 : IntKind.i64.wrap (q + 1 + 1 + 1 + 1 + 1 + 1 + 1) = k + ((7 * (i + 1) : Nat) : Int) := by rw [IntWalk.i64_in _ (by omega)]; omega
    simp -implicitDefEqProofs (maxSteps := 2000000) only [go_sem, c1, h2, List.length_take, Nat.min_self, w1, w2, w3, w4, w5, w6, w7]
    rw [i64_succ (by omega)]
    exact ⟨(i + 1, b.set i ⟨q, q + 1, q + 1 + 1, q + 1 + 1 + 1, q + 1 + 1 + 1 + 1, q + 1 + 1 + 1 + 1 + 1, q + 1 + 1 + 1 + 1 + 1 + 1⟩), ⟨c1, by simpa using h2⟩, by simp; omega, (le_st _ _ [⟨0, some 0, false, 7, _⟩] [] _ rfl (by simp -implicitDefEqProofs (maxSteps := 2000000) only [go_sem, c1, h2] <;> rfl) (by simp -implicitDefEqProofs (maxSteps := 2000000) only [go_sem, c1, h2] <;> rfl) (by simp -implicitDefEqProofs (maxSteps := 2000000) only [go_sem, c1, h2] <;> rfl))⟩
  · obtain rfl : i = a.length := by omega
    simp -implicitDefEqProofs (maxSteps := 2000000) only [go_sem, c1, h2, List.length_take, Nat.min_self]
end Go.Proofs.Ytobdhbgkmdmpmab.A
