
/- UNIONS AND THE VARIABLES OF AN ATOM. Conditions: none. -/
import Derived.Test.YtbalifgacjmbpabGreatAFSort
import Derived.Test.YtbalifgacjmbpabGreatAFU
import Derived.Test.YtbalifgacjmbpabGreatAFMQ
namespace Go.Proofs.YtbalifgacjmbpabGreat.A
open Go
set_option linter.unusedSimpArgs false
set_option linter.unusedVariables false
set_option maxRecDepth 100000

theorem flat_step {l : List (List Int)} {i : Nat} (h : i < l.length) : (l.take (i + 1)).flatten = (l.take i).flatten ++ l.getD i [] := by
  rw [take_snoc [] h, List.flatten_append]; simp
theorem flat_le {l : List (List Int)} (i : Nat) : (l.take i).flatten.length ≤ l.flatten.length := by
  have h : l.flatten = (l.take i).flatten ++ (l.drop i).flatten := by rw [← List.flatten_append, List.take_append_drop]
  rw [h, List.length_append]; omega
theorem slicesConcat_sat (l : List (List Int)) (hl : l.length ≤ 1048576) (h : l.flatten.length ≤ 4194304) : Sat Tryz.prog 93 [lISS l] [oInts l.flatten] [g1] := by
  refine sat_of_body mixed Tryz.func93 rfl (by kernel_rfl) (by kernel_rfl) (rs := [.tmp 2]) rfl rfl rfl ?_
  simp -implicitDefEqProofs (maxSteps := 2000000) only [go_sem]
  refine awp_loop Nat (fun k => mkSt [(0, .one (.im 1 (iss 0 l))), (3, .sc (.int .i64 (l.take k).flatten.length)), (9, .one (.im 1 (iss 0 l))), (10, .sc (.int .i64 l.length)), (11, .sc (.int .i64 k))] [] [] 1000)
    (fun k => k ≤ l.length) (fun k => l.length - k) 0 (by omega) (le_st _ _ [] [] _ rfl (by simp -implicitDefEqProofs (maxSteps := 2000000) only [go_sem] <;> rfl) trivial trivial) ?_
  rintro k h1
  have f1 := flat_le (l := l) k
  by_cases c1 : k < l.length
  · have f2 := flat_le (l := l) (k + 1)
    have f3 := flat_step c1
    have f4 := congrArg List.length f3
    rw [List.length_append] at f4
    simp -implicitDefEqProofs (maxSteps := 2000000) only [go_sem, c1]
    rw [IntWalk.i64_in _ (by omega), show ((l.take k).flatten.length : Int) + ((l.getD k []).length : Int) = ((l.take (k + 1)).flatten.length : Int) by omega]
    rw [decide_eq_false (show ¬ (((l.take (k + 1)).flatten.length : Int) < 0) by omega)]
    simp -implicitDefEqProofs (maxSteps := 2000000) only [go_sem]
    rw [i64_succ (by omega)]
    exact ⟨k + 1, c1, by omega, (le_st _ _ [] [] _ rfl (by simp -implicitDefEqProofs (maxSteps := 2000000) only [go_sem] <;> rfl) trivial trivial)⟩
  simp -implicitDefEqProofs (maxSteps := 2000000) only [go_sem, c1]
  obtain rfl : k = l.length := by omega
  rw [List.take_length]
  refine call_of (slicesGrow_sat l.flatten.length h) (by simp -implicitDefEqProofs (maxSteps := 2000000) only [go_sem]) (by kernel_rfl) (by simp -implicitDefEqProofs (maxSteps := 2000000) only [go_sem]) ?_
  simp -implicitDefEqProofs (maxSteps := 2000000) only [go_sem]
  refine awp_loop Nat (fun k => mkSt [(6, .one (.ref 960 1 0 (l.take k).flatten.length)), (25, .one (.im 1 (iss 0 l))), (26, .sc (.int .i64 l.length)), (27, .sc (.int .i64 k))] [] [(960, (1, ints (l.take k).flatten))] 2000)
    (fun k => k ≤ l.length) (fun k => l.length - k) 0 (by omega) (le_st' _ _ [⟨960, some _, false, 1, _⟩] [] _ (by simp -implicitDefEqProofs (maxSteps := 2000000) only [go_sem] <;> and_intros <;> rfl) (by simp -implicitDefEqProofs (maxSteps := 2000000) only [go_sem] <;> and_intros <;> rfl) (by simp -implicitDefEqProofs (maxSteps := 2000000) only [go_sem] <;> and_intros <;> rfl) (by rfl)) ?_
  rintro k h1
  have f1 := flat_le (l := l) k
  by_cases c1 : k < l.length
  · have f2 := flat_le (l := l) (k + 1)
    have f3 := flat_step c1
    have f4 := congrArg List.length f3
    rw [List.length_append] at f4
    simp -implicitDefEqProofs (maxSteps := 2000000) only [go_sem, c1]
    refine ⟨by omega, ?_⟩
    rw [i64_succ (by omega)]
    refine ⟨k + 1, c1, by omega, ?_⟩
    rw [f3]
    exact (le_st' _ _ [⟨960, some _, false, 1, _⟩] [] _ (by simp -implicitDefEqProofs (maxSteps := 2000000) only [go_sem] <;> and_intros <;> rfl) (by simp -implicitDefEqProofs (maxSteps := 2000000) only [go_sem] <;> and_intros <;> rfl) (by simp -implicitDefEqProofs (maxSteps := 2000000) only [go_sem] <;> and_intros <;> rfl) (by rfl))
  · obtain rfl : k = l.length := by omega
    simp -implicitDefEqProofs (maxSteps := 2000000) only [go_sem, c1]
    rfl
theorem frz_two (a b : List Int) : frz [[Cell.sl 0 (iv a)], [Cell.sl 0 (iv b)]] = iss 0 [a, b] := rfl
theorem union_sat (a b : List Int) (h : a.length + b.length ≤ 4194304) : Sat Tryz.prog 64 [lInts a, lInts b] [oInts (uni a b)] [g1, g1] := by
  refine sat_of_body mixed Tryz.func64 rfl (by kernel_rfl) (by kernel_rfl) (rs := [.tmp 4]) rfl rfl rfl ?_
  simp -implicitDefEqProofs (maxSteps := 2000000) only [go_sem]
  refine call_of (slicesConcat_sat [a, b] (by simp) (by simp; omega)) (by simp -implicitDefEqProofs (maxSteps := 2000000) only [go_sem, frz_two]) (callOk_still (by kernel_rfl) (by simp only [List.all_cons, List.all_nil, LV.still, LV.leaves, Leaf.still, ints_still, ris_still, eds_still, rels_still, iss_still, ems_still, Bool.and_self, Bool.and_true])) (by simp -implicitDefEqProofs (maxSteps := 2000000) only [go_sem, frz_two]) ?_
  simp -implicitDefEqProofs (maxSteps := 2000000) only [go_sem, frz_two]
  refine call_of (slicesSort_sat (a ++ b) (by simp; omega)) (by simp -implicitDefEqProofs (maxSteps := 2000000) only [go_sem]) (by kernel_rfl) (by simp -implicitDefEqProofs (maxSteps := 2000000) only [go_sem]) ?_
  simp -implicitDefEqProofs (maxSteps := 2000000) only [go_sem]
  refine call_of (slicesCompact_sat ((a ++ b).mergeSort fun x y => decide (x ≤ y)) (by rw [List.length_mergeSort, List.length_append]; omega)) (by simp -implicitDefEqProofs (maxSteps := 2000000) only [go_sem, List.length_mergeSort, List.length_append]) (by kernel_rfl) (by simp -implicitDefEqProofs (maxSteps := 2000000) only [go_sem, List.length_mergeSort, List.length_append]) ?_
  simp -implicitDefEqProofs (maxSteps := 2000000) only [go_sem, List.length_mergeSort, List.length_append]
  exact ⟨rfl, rfl⟩
/-- The variables of an atom. -/
def varsOf (l : List Int) : List Int := selN (fun v => decide (v ∈ l)) 4
theorem varsOf_len (l : List Int) : (varsOf l).length ≤ 4 := selN_len _ 4
theorem varsOf_uni (l : List Int) : uni (l.filter fun x => decide (0 ≤ x) && decide (x ≤ 3)) [] = varsOf l := by
  refine strict_eq (uni_strict _ _) (selN_strict _ _) fun x => ?_
  rw [varsOf, uni_mem, selN_mem, List.mem_filter]
  simp only [List.not_mem_nil, or_false, Bool.and_eq_true, decide_eq_true_eq]
  constructor
  · rintro ⟨h1, h2, h3⟩; exact ⟨h2, by omega, h1⟩
  · rintro ⟨h1, h2, h3⟩; exact ⟨h3, h1, by omega⟩
theorem implAtomVariables_sat (a : RI) (h : a.ok) : Sat Tryz.prog 113 [lRI a] [oInts (varsOf a.l)] [g2] := by
  unfold RI.ok at h
  refine sat_of_body mixed Tryz.func113 rfl (by kernel_rfl) (by kernel_rfl) (rs := [.tmp 2]) rfl rfl rfl ?_
  rw [← varsOf_uni]
  generalize hp : (fun x : Int => decide (0 ≤ x) && decide (x ≤ 3)) = p
  simp -implicitDefEqProofs (maxSteps := 2000000) only [go_sem]
  refine awp_loop Nat (fun k => mkSt [(3, .one (.ref 960 1 0 ((a.l.take k).filter p).length)), (8, .one (.im 1 (ints a.l))), (9, .sc (.int .i64 a.l.length)), (10, .sc (.int .i64 k))] [] [(960, (1, ints ((a.l.take k).filter p)))] 2000)
    (fun k => k ≤ a.l.length) (fun k => a.l.length - k) 0 (by omega) (le_st' _ _ [⟨960, some _, false, 1, _⟩] [] _ (by simp -implicitDefEqProofs (maxSteps := 2000000) only [go_sem] <;> and_intros <;> rfl) (by simp -implicitDefEqProofs (maxSteps := 2000000) only [go_sem] <;> and_intros <;> rfl) (by simp -implicitDefEqProofs (maxSteps := 2000000) only [go_sem] <;> and_intros <;> rfl) (by rfl)) ?_
  rintro k h1
  have hl : ((a.l.take k).filter p).length ≤ a.l.length := Nat.le_trans (List.length_filter_le _ _) (by rw [List.length_take]; omega)
  by_cases c1 : k < a.l.length
  · have t := take_snoc 0 c1
    simp -implicitDefEqProofs (maxSteps := 2000000) only [go_sem, c1]
    refine call_of (within_sat (a.l.getD k 0) 0 3) (by simp -implicitDefEqProofs (maxSteps := 2000000) only [go_sem, c1]) (by kernel_rfl) (by simp -implicitDefEqProofs (maxSteps := 2000000) only [go_sem, c1]) ?_
    simp -implicitDefEqProofs (maxSteps := 2000000) only [go_sem, c1]
    rcases d : (decide (0 ≤ a.l.getD k 0) && decide (a.l.getD k 0 ≤ 3))
    · simp -implicitDefEqProofs (maxSteps := 2000000) only [go_sem, d]
      rw [i64_succ (by omega)]
      refine ⟨k + 1, c1, by omega, ?_⟩
      rw [t, List.filter_append, List.filter_cons_of_neg (by rw [← hp]; show ¬ ((decide (0 ≤ a.l.getD k 0) && decide (a.l.getD k 0 ≤ 3)) = true); rw [d]; simp), List.filter_nil, List.append_nil]
      exact (le_st' _ _ [⟨960, some _, false, 1, _⟩] [] _ (by simp -implicitDefEqProofs (maxSteps := 2000000) only [go_sem] <;> and_intros <;> rfl) (by simp -implicitDefEqProofs (maxSteps := 2000000) only [go_sem] <;> and_intros <;> rfl) (by simp -implicitDefEqProofs (maxSteps := 2000000) only [go_sem] <;> and_intros <;> rfl) (by rfl))
    · simp -implicitDefEqProofs (maxSteps := 2000000) only [go_sem, d]
      refine ⟨by omega, ?_⟩
      rw [i64_succ (by omega)]
      refine ⟨k + 1, c1, by omega, ?_⟩
      rw [t, List.filter_append, List.filter_cons_of_pos (by rw [← hp]; exact d), List.filter_nil]
      exact (le_st' _ _ [⟨960, some _, false, 1, _⟩] [] _ (by simp -implicitDefEqProofs (maxSteps := 2000000) only [go_sem] <;> and_intros <;> rfl) (by simp -implicitDefEqProofs (maxSteps := 2000000) only [go_sem] <;> and_intros <;> rfl) (by simp -implicitDefEqProofs (maxSteps := 2000000) only [go_sem] <;> and_intros <;> rfl) (by rfl))
  · obtain rfl : k = a.l.length := by omega
    simp -implicitDefEqProofs (maxSteps := 2000000) only [go_sem, c1]
    rw [List.take_length] at hl
    refine call_of (union_sat (a.l.filter p) [] (by simp; omega)) (by simp -implicitDefEqProofs (maxSteps := 2000000) only [go_sem, ints_nil]) (callOk_still (by kernel_rfl) (by simp only [List.all_cons, List.all_nil, LV.still, LV.leaves, Leaf.still, ints_still, ris_still, eds_still, rels_still, iss_still, ems_still, Bool.and_self, Bool.and_true])) (by simp -implicitDefEqProofs (maxSteps := 2000000) only [go_sem, ints_nil]) ?_
    simp -implicitDefEqProofs (maxSteps := 2000000) only [go_sem, ints_nil]
    rfl
end Go.Proofs.YtbalifgacjmbpabGreat.A
