
/- THE SMALLEST FUNCTIONS: lists of numbers. Conditions: none. -/
import Derived.Test.YtbalifgacjmbpabGreatAD
namespace Go.Proofs.YtbalifgacjmbpabGreat.A
open Go
set_option linter.unusedSimpArgs false
set_option linter.unusedVariables false
set_option maxRecDepth 100000

theorem l1In_sat (x a b : Int) : Sat Tryz.prog 96 [.one (.sc (.int .i64 x)), .one (.sc (.int .i64 a)), .one (.sc (.int .i64 b))] [.one (.sc (.bool (decide (a ≤ x) && decide (x ≤ b))))] [.one .gone, .one .gone, .one .gone] := by
  refine sat_of_body mixed Tryz.func96 rfl (by kernel_rfl) (by kernel_rfl) (rs := [.tmp 6]) rfl rfl rfl ?_
  by_cases h1 : a ≤ x <;> by_cases h2 : x ≤ b <;> simp -implicitDefEqProofs (maxSteps := 2000000) only [go_sem, h1, h2, ge_iff_le, Bool.and_true, Bool.and_false]
theorem within_sat (x a b : Int) : Sat Tryz.prog 110 [.one (.sc (.int .i64 x)), .one (.sc (.int .i64 a)), .one (.sc (.int .i64 b))] [.one (.sc (.bool (decide (a ≤ x) && decide (x ≤ b))))] [.one .gone, .one .gone, .one .gone] := by
  refine sat_of_body mixed Tryz.func110 rfl (by kernel_rfl) (by kernel_rfl) (rs := [.tmp 6]) rfl rfl rfl ?_
  by_cases h1 : a ≤ x <;> by_cases h2 : x ≤ b <;> simp -implicitDefEqProofs (maxSteps := 2000000) only [go_sem, h1, h2, Bool.and_true, Bool.and_false]

def cmpInts : List Int → List Int → Int
  | [], [] => 0
  | [], _ :: _ => -1
  | _ :: _, [] => 1
  | a :: l, b :: m => if a < b then -1 else if a > b then 1 else cmpInts l m
theorem cmpInts_zero : ∀ {a b : List Int}, cmpInts a b = 0 ↔ a = b
  | [], [] => by simp [cmpInts]
  | [], _ :: _ => by simp [cmpInts]
  | _ :: _, [] => by simp [cmpInts]
  | a :: l, b :: m => by
    unfold cmpInts
    rcases Int.lt_trichotomy a b with h | h | h
    · simp [h]; omega
    · subst h; simp [cmpInts_zero]
    · rw [if_neg (by omega), if_pos h]; simp; omega
theorem cmp_beq (a b : List Int) : (cmpInts a b == 0) = decide (a = b) := by
  rw [Bool.eq_iff_iff]; simp [cmpInts_zero]
theorem cmp_bne (a b : List Int) : (cmpInts a b != 0) = !decide (a = b) := by rw [bne, cmp_beq]
attribute [go_sem] beq_self_eq_true bne_self_eq_false Bool.and_self Bool.true_and Bool.false_and Bool.and_true Bool.and_false Bool.not_true Bool.not_false Bool.true_or Bool.false_or Bool.or_true Bool.or_false
theorem l3Ints_sat (a b : List Int) (ha : a.length ≤ 9223372036854775807) : Sat Tryz.prog 133 [.one (.im 1 (ints a)), .one (.im 1 (ints b))] [.one (.sc (.int .i64 (cmpInts a b)))] [.one .gone, .one .gone] := by
  refine sat_of_body mixed Tryz.func133 rfl (by kernel_rfl) (by kernel_rfl) (rs := [.tmp 4]) rfl rfl rfl ?_
  simp -implicitDefEqProofs (maxSteps := 2000000) only [go_sem]
  refine awp_loop Nat (fun k => mkSt [(0, .one (.im 1 (ints a))), (1, .one (.im 1 (ints b))), (5, .sc (.int .i64 k))] [] [] 1000)
    (fun k => k ≤ a.length ∧ k ≤ b.length ∧ cmpInts (a.drop k) (b.drop k) = cmpInts a b) (fun k => a.length - k) 0 ⟨by omega, by omega, rfl⟩ (le_st _ _ [] [] _ rfl (by simp -implicitDefEqProofs (maxSteps := 2000000) only [go_sem] <;> rfl) trivial trivial) ?_
  rintro k ⟨h1, h2, h3⟩
  by_cases c1 : k < a.length
  · by_cases c2 : k < b.length
    · rw [drop_cons 0 c1, drop_cons 0 c2] at h3
      simp -implicitDefEqProofs (maxSteps := 2000000) only [go_sem, c1, c2]
      refine cond_split (fun d => ?_) fun d => ?_
      · simp -implicitDefEqProofs (maxSteps := 2000000) only [go_sem]
        rw [← h3, cmpInts, if_pos (by simpa using d)]
      simp -implicitDefEqProofs (maxSteps := 2000000) only [go_sem, c1, c2]
      refine cond_split (fun e => ?_) fun e => ?_
      · simp -implicitDefEqProofs (maxSteps := 2000000) only [go_sem]
        rw [← h3, cmpInts, if_neg (by simpa using d), if_pos (by simpa using e)]
      simp -implicitDefEqProofs (maxSteps := 2000000) only [go_sem]
      rw [i64_succ (by omega)]
      refine ⟨k + 1, ⟨c1, c2, ?_⟩, by omega, (le_st _ _ [] [] _ rfl (by simp -implicitDefEqProofs (maxSteps := 2000000) only [go_sem] <;> rfl) trivial trivial)⟩
      rw [← h3, cmpInts, if_neg (by simpa using d), if_neg (by simpa using e)]
    · obtain rfl : k = b.length := by omega
      rw [drop_cons 0 c1, List.drop_length] at h3
      simp -implicitDefEqProofs (maxSteps := 2000000) only [go_sem, c1, c2]
      refine cond_split (fun d => ?_) fun d => ?_
      · have := of_decide_eq_true d; omega
      simp -implicitDefEqProofs (maxSteps := 2000000) only [go_sem]
      refine cond_split (fun e => ?_) fun e => ?_
      · simp -implicitDefEqProofs (maxSteps := 2000000) only [go_sem]
        rw [← h3, cmpInts]
      · have := of_decide_eq_false e; omega
  · obtain rfl : k = a.length := by omega
    simp -implicitDefEqProofs (maxSteps := 2000000) only [go_sem, c1]
    refine cond_split (fun d => ?_) fun d => ?_
    · simp -implicitDefEqProofs (maxSteps := 2000000) only [go_sem]
      have d := of_decide_eq_true d
      rw [drop_cons 0 d, List.drop_length] at h3
      rw [← h3, cmpInts]
    · simp -implicitDefEqProofs (maxSteps := 2000000) only [go_sem]
      have d := of_decide_eq_false d
      obtain e : a.length = b.length := by omega
      refine cond_split (fun f => ?_) fun f => ?_
      · have := of_decide_eq_true f; omega
      simp -implicitDefEqProofs (maxSteps := 2000000) only [go_sem]
      rw [e, List.drop_length] at h3
      rw [← e, List.drop_length] at h3
      rw [← h3, cmpInts]

/-- Two lists, element by element. -/
theorem eqList_step {a b : List Int} {k : Nat} (h1 : k < a.length) (h2 : k < b.length) (h : a.take k = b.take k) (e : a.getD k 0 = b.getD k 0) : a.take (k + 1) = b.take (k + 1) := by
  rw [take_snoc 0 h1, take_snoc 0 h2, h, e]
theorem eqList_ne {a b : List Int} {k : Nat} (e : a.getD k 0 ≠ b.getD k 0) : a ≠ b := fun h => e (by rw [h])
theorem eqIntS_sat (a b : List Int) (ha : a.length ≤ 9223372036854775807) : Sat Tryz.prog 24 [.one (.im 1 (ints a)), .one (.im 1 (ints b))] [.one (.sc (.bool (decide (a = b))))] [.one .gone, .one .gone] := by
  refine sat_of_body mixed Tryz.func24 rfl (by kernel_rfl) (by kernel_rfl) (rs := [.tmp 4]) rfl rfl rfl ?_
  simp -implicitDefEqProofs (maxSteps := 2000000) only [go_sem]
  refine cond_split (fun d => ?_) fun d => ?_
  · simp -implicitDefEqProofs (maxSteps := 2000000) only [go_sem]
    have d : ¬ (a.length : Int) = b.length := by simpa using d
    rw [decide_eq_false (fun h => d (by rw [h]))]
  have d : a.length = b.length := cast_ne d
  simp -implicitDefEqProofs (maxSteps := 2000000) only [go_sem]
  refine awp_loop Nat (fun k => mkSt [(0, .one (.im 1 (ints a))), (1, .one (.im 1 (ints b))), (5, .sc (.int .i64 k))] [] [] 1000)
    (fun k => k ≤ a.length ∧ a.take k = b.take k) (fun k => a.length - k) 0 ⟨by omega, rfl⟩ (le_st _ _ [] [] _ rfl (by simp -implicitDefEqProofs (maxSteps := 2000000) only [go_sem] <;> rfl) trivial trivial) ?_
  rintro k ⟨h1, h2⟩
  by_cases c1 : k < a.length
  · have c2 : k < b.length := by omega
    simp -implicitDefEqProofs (maxSteps := 2000000) only [go_sem, c1, c2]
    refine cond_split (fun e => ?_) fun e => ?_
    · simp -implicitDefEqProofs (maxSteps := 2000000) only [go_sem]
      rw [decide_eq_false (eqList_ne (by simpa using e))]
    simp -implicitDefEqProofs (maxSteps := 2000000) only [go_sem]
    rw [i64_succ (by omega)]
    exact ⟨k + 1, ⟨c1, eqList_step c1 c2 h2 (by simpa using e)⟩, by omega, (le_st _ _ [] [] _ rfl (by simp -implicitDefEqProofs (maxSteps := 2000000) only [go_sem] <;> rfl) trivial trivial)⟩
  · simp -implicitDefEqProofs (maxSteps := 2000000) only [go_sem, c1]
    rw [List.take_of_length_le (by omega), List.take_of_length_le (by omega)] at h2
    rw [decide_eq_true h2]
theorem slicesEqual_sat (a b : List Int) (ha : a.length ≤ 9223372036854775807) : Sat Tryz.prog 149 [.one (.im 1 (ints a)), .one (.im 1 (ints b))] [.one (.sc (.bool (decide (a = b))))] [.one .gone, .one .gone] := by
  refine sat_of_body mixed Tryz.func149 rfl (by kernel_rfl) (by kernel_rfl) (rs := [.tmp 4]) rfl rfl rfl ?_
  simp -implicitDefEqProofs (maxSteps := 2000000) only [go_sem]
  refine cond_split (fun d => ?_) fun d => ?_
  · simp -implicitDefEqProofs (maxSteps := 2000000) only [go_sem]
    have d : ¬ (a.length : Int) = b.length := by simpa using d
    rw [decide_eq_false (fun h => d (by rw [h]))]
  have d : a.length = b.length := cast_ne d
  simp -implicitDefEqProofs (maxSteps := 2000000) only [go_sem]
  refine awp_loop Nat (fun k => mkSt [(0, .one (.im 1 (ints a))), (1, .one (.im 1 (ints b))), (12, .sc (.int .i64 a.length)), (13, .sc (.int .i64 k))] [] [] 1000)
    (fun k => k ≤ a.length ∧ a.take k = b.take k) (fun k => a.length - k) 0 ⟨by omega, rfl⟩ (le_st _ _ [] [] _ rfl (by simp -implicitDefEqProofs (maxSteps := 2000000) only [go_sem] <;> rfl) trivial trivial) ?_
  rintro k ⟨h1, h2⟩
  by_cases c1 : k < a.length
  · have c2 : k < b.length := by omega
    simp -implicitDefEqProofs (maxSteps := 2000000) only [go_sem, c1, c2]
    refine cond_split (fun e => ?_) fun e => ?_
    · simp -implicitDefEqProofs (maxSteps := 2000000) only [go_sem]
      rw [decide_eq_false (eqList_ne (by simpa using e))]
    simp -implicitDefEqProofs (maxSteps := 2000000) only [go_sem]
    rw [i64_succ (by omega)]
    exact ⟨k + 1, ⟨c1, eqList_step c1 c2 h2 (by simpa using e)⟩, by omega, (le_st _ _ [] [] _ rfl (by simp -implicitDefEqProofs (maxSteps := 2000000) only [go_sem] <;> rfl) trivial trivial)⟩
  · simp -implicitDefEqProofs (maxSteps := 2000000) only [go_sem, c1]
    rw [List.take_of_length_le (by omega), List.take_of_length_le (by omega)] at h2
    rw [decide_eq_true h2]
/-- What is left of a measure of size. -/
def szl (a : List Int) (n : Int) : Int := if n - a.length < 0 then -1 else n - a.length
theorem szl_le {a : List Int} {n : Int} (h : -1 ≤ n ∧ n ≤ 1048576) : -1 ≤ szl a n ∧ szl a n ≤ 1048576 := by unfold szl; split <;> omega
theorem szl_len {a : List Int} {n : Int} (h : n ≤ 1048576) (h0 : ¬ szl a n < 0) : a.length ≤ 1048576 := by unfold szl at h0; split at h0 <;> omega
theorem szIntS_sat (a : List Int) (n : Int) (h : -1 ≤ n ∧ n ≤ 1048576) (ha : a.length ≤ 9223372036854775807) : Sat Tryz.prog 39 [.one (.im 1 (ints a)), .one (.sc (.int .i64 n))] [.one (.sc (.int .i64 (szl a n)))] [.one .gone, .one .gone] := by
  unfold szl
  refine sat_of_body mixed Tryz.func39 rfl (by kernel_rfl) (by kernel_rfl) (rs := [.tmp 4]) rfl rfl rfl ?_
  simp -implicitDefEqProofs (maxSteps := 2000000) only [go_sem]
  rw [IntWalk.i64_in _ (by omega)]
  refine cond_split (fun d => ?_) fun d => ?_
  · have d := of_decide_eq_true d
    simp -implicitDefEqProofs (maxSteps := 2000000) only [go_sem]
    rw [if_pos d]
  · have d := of_decide_eq_false d
    simp -implicitDefEqProofs (maxSteps := 2000000) only [go_sem]
    rw [if_neg d]
/-- A copy of a list of numbers. -/
theorem toIntS_sat (a : List Int) (ha : a.length ≤ 1048576) : Sat Tryz.prog 22 [.one (.im 1 (ints a))] [.one (.ow 1 (ints a))] [.one .gone] := by
  refine sat_of_body mixed Tryz.func22 rfl (by kernel_rfl) (by kernel_rfl) (rs := [.tmp 2]) rfl rfl rfl ?_
  simp -implicitDefEqProofs (maxSteps := 2000000) only [go_sem]
  refine ⟨by omega, ?_⟩
  refine awp_loop (Nat × List Int) (fun x => mkSt [(0, .one (.im 1 (ints a))), (3, .one (.ref 960 1 0 a.length)), (4, .sc (.int .i64 x.1))] [] [(960, (1, ints x.2))] 1000)
    (fun x => x.1 ≤ a.length ∧ x.2.length = a.length ∧ x.2.take x.1 = a.take x.1) (fun x => a.length - x.1) (0, List.replicate a.length 0) ⟨by simp, by simp, by simp⟩ (le_st _ _ [⟨960, some 1192, false, 1, _⟩] [] _ rfl (by simp -implicitDefEqProofs (maxSteps := 2000000) only [go_sem] <;> rfl) (by simp -implicitDefEqProofs (maxSteps := 2000000) only [go_sem] <;> rfl) (by simp -implicitDefEqProofs (maxSteps := 2000000) only [go_sem] <;> rfl)) ?_
  rintro ⟨k, b⟩ ⟨h1, h2, h3⟩
  simp only at h1 h2 h3
  by_cases c1 : k < a.length
  · simp -implicitDefEqProofs (maxSteps := 2000000) only [go_sem, c1, h2]
    rw [i64_succ (by omega)]
    exact ⟨(k + 1, b.set k (a.getD k 0)), ⟨c1, by simpa using h2, take_set_snoc 0 h2 h3 c1⟩, by simp; omega, (le_st _ _ [⟨960, some 960, false, 1, _⟩] [] _ rfl (by simp -implicitDefEqProofs (maxSteps := 2000000) only [go_sem] <;> rfl) (by simp -implicitDefEqProofs (maxSteps := 2000000) only [go_sem] <;> rfl) (by simp -implicitDefEqProofs (maxSteps := 2000000) only [go_sem] <;> rfl))⟩
  · obtain rfl := of_take h2 h3 (by omega)
    simp -implicitDefEqProofs (maxSteps := 2000000) only [go_sem, c1]
    rfl
end Go.Proofs.YtbalifgacjmbpabGreat.A
