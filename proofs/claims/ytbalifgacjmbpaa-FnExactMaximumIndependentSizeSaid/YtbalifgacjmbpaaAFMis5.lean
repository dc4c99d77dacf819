
/- THE GREATEST SIZE OF AN INDEPENDENT SET. Conditions: none. -/
import Derived.Test.YtbalifgacjmbpaaAFMis4
namespace Go.Proofs.Ytbalifgacjmbpaa.A
open Go
set_option linter.unusedSimpArgs false
set_option linter.unusedVariables false
set_option maxRecDepth 100000

def longer (m : Int) (t : List Int) : Int := if (t.length : Int) > m then t.length else m
def longest (l : List (List Int)) : Int := l.foldl longer 0
theorem longest_step {l : List (List Int)} {k : Nat} (h : k < l.length) : longest (l.take (k + 1)) = longer (longest (l.take k)) (l.getD k []) := by
  unfold longest
  rw [take_snoc [] h, List.foldl_append]; rfl
theorem specMaximumIndependentSize_sat (n : Int) (l : List Edge) (hl : l.length ≤ 9223372036854775807) : Sat Try.prog 17 [lInt n, lEds l] [lInt (longest (mis n l))] [g1, g1] := by
  refine sat_of_body mixed Try.func17 rfl (by kernel_rfl) (by kernel_rfl) (rs := [.tmp 4]) rfl rfl rfl ?_
  have nv := mis_len n l
  simp -implicitDefEqProofs (maxSteps := 2000000) only [go_sem]
  refine call_of (specMaximalIndependentSets_sat n l hl) (by simp -implicitDefEqProofs (maxSteps := 2000000) only [go_sem]) (callOk_still (by kernel_rfl) (by simp only [List.all_cons, List.all_nil, LV.still, LV.leaves, Leaf.still, ints_still, ris_still, eds_still, rels_still, iss_still, Bool.and_self, Bool.and_true])) (by simp -implicitDefEqProofs (maxSteps := 2000000) only [go_sem]) ?_
  simp -implicitDefEqProofs (maxSteps := 2000000) only [go_sem]
  refine awp_loop Nat (fun k => mkSt [(5, .sc (.int .i64 (longest ((mis n l).take k)))), (6, .one (.ref 960 1 0 (mis n l).length)), (7, .sc (.int .i64 k))] [] [(960, (1, iss 999 (mis n l)))] 1000)
    (fun k => k ≤ (mis n l).length) (fun k => (mis n l).length - k) 0 (by omega) (le_st' _ _ [⟨960, some _, false, 1, _⟩] [] _ (by simp -implicitDefEqProofs (maxSteps := 2000000) only [go_sem, List.take_zero, longest, List.foldl_nil] <;> and_intros <;> rfl) (by simp -implicitDefEqProofs (maxSteps := 2000000) only [go_sem, List.take_zero, longest, List.foldl_nil] <;> and_intros <;> rfl) (by simp -implicitDefEqProofs (maxSteps := 2000000) only [go_sem, List.take_zero, longest, List.foldl_nil] <;> and_intros <;> rfl) (by rfl)) ?_
  rintro k h1
  by_cases c1 : k < (mis n l).length
  · simp -implicitDefEqProofs (maxSteps := 2000000) only [go_sem, c1]
    rw [i64_succ (by omega)]
    refine ⟨k + 1, c1, by omega, ?_⟩
    rw [longest_step c1, longer]
    exact (le_st' _ _ [⟨960, some _, false, 1, _⟩] [] _ (by simp -implicitDefEqProofs (maxSteps := 2000000) only [go_sem] <;> and_intros <;> rfl) (by simp -implicitDefEqProofs (maxSteps := 2000000) only [go_sem] <;> and_intros <;> rfl) (by simp -implicitDefEqProofs (maxSteps := 2000000) only [go_sem] <;> and_intros <;> rfl) (by rfl))
  · obtain rfl : k = (mis n l).length := by omega
    rw [List.take_length]
    simp -implicitDefEqProofs (maxSteps := 2000000) only [go_sem, c1]
theorem implMaximumIndependentSize_sat (n : Int) (l : List Edge) (hl : l.length ≤ 9223372036854775807) : Sat Try.prog 18 [lInt n, lEds l] [lInt (longest (mis n l))] [g1, g1] := by
  refine sat_of_body mixed Try.func18 rfl (by kernel_rfl) (by kernel_rfl) (rs := [.tmp 4]) rfl rfl rfl ?_
  have nv := mis_len n l
  simp -implicitDefEqProofs (maxSteps := 2000000) only [go_sem]
  refine call_of (implMaximalIndependentSets_sat n l hl) (by simp -implicitDefEqProofs (maxSteps := 2000000) only [go_sem]) (callOk_still (by kernel_rfl) (by simp only [List.all_cons, List.all_nil, LV.still, LV.leaves, Leaf.still, ints_still, ris_still, eds_still, rels_still, iss_still, Bool.and_self, Bool.and_true])) (by simp -implicitDefEqProofs (maxSteps := 2000000) only [go_sem]) ?_
  simp -implicitDefEqProofs (maxSteps := 2000000) only [go_sem]
  refine awp_loop Nat (fun k => mkSt [(5, .sc (.int .i64 (longest ((mis n l).take k)))), (10, .one (.ref 960 1 0 (mis n l).length)), (11, .sc (.int .i64 (mis n l).length)), (12, .sc (.int .i64 k))] [] [(960, (1, iss 999 (mis n l)))] 1000)
    (fun k => k ≤ (mis n l).length) (fun k => (mis n l).length - k) 0 (by omega) (le_st' _ _ [⟨960, some _, false, 1, _⟩] [] _ (by simp -implicitDefEqProofs (maxSteps := 2000000) only [go_sem, List.take_zero, longest, List.foldl_nil] <;> and_intros <;> rfl) (by simp -implicitDefEqProofs (maxSteps := 2000000) only [go_sem, List.take_zero, longest, List.foldl_nil] <;> and_intros <;> rfl) (by simp -implicitDefEqProofs (maxSteps := 2000000) only [go_sem, List.take_zero, longest, List.foldl_nil] <;> and_intros <;> rfl) (by rfl)) ?_
  rintro k h1
  by_cases c1 : k < (mis n l).length
  · simp -implicitDefEqProofs (maxSteps := 2000000) only [go_sem, c1]
    rw [i64_succ (by omega)]
    refine ⟨k + 1, c1, by omega, ?_⟩
    rw [longest_step c1, longer]
    exact (le_st' _ _ [⟨960, some _, false, 1, _⟩] [] _ (by simp -implicitDefEqProofs (maxSteps := 2000000) only [go_sem] <;> and_intros <;> rfl) (by simp -implicitDefEqProofs (maxSteps := 2000000) only [go_sem] <;> and_intros <;> rfl) (by simp -implicitDefEqProofs (maxSteps := 2000000) only [go_sem] <;> and_intros <;> rfl) (by rfl))
  · obtain rfl : k = (mis n l).length := by omega
    rw [List.take_length]
    simp -implicitDefEqProofs (maxSteps := 2000000) only [go_sem, c1]
end Go.Proofs.Ytbalifgacjmbpaa.A
