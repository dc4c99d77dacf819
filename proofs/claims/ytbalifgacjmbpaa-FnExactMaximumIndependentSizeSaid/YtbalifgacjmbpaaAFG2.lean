
/- CONFLICT GRAPHS: maximal independent sets. Conditions: none. -/
import Derived.Test.YtbalifgacjmbpaaAFG
import Derived.Test.YtbalifgacjmbpaaAFIns
namespace Go.Proofs.Ytbalifgacjmbpaa.A
open Go
set_option linter.unusedSimpArgs false
set_option linter.unusedVariables false
set_option maxRecDepth 100000

/-- Is the i-th number an index, and behind the one before it. -/
def ixAt (l : List Int) (n : Int) (i : Nat) : Bool := inB (l.getD i 0) 0 (n - 1) && (decide (i = 0) || !decide (l.getD i 0 ≤ l.getD (i - 1) 0))
def ixs (l : List Int) (n : Int) : Bool := upTo (ixAt l n) l.length
theorem areIxs_sat (l : List Int) (n : Int) (h : l.length ≤ 9223372036854775807) (hn : -9223372036854775807 ≤ n ∧ n ≤ 9223372036854775807) : Sat Try.prog 67 [lInts l, lInt n] [lBool (ixs l n)] [g1, g1] := by
  refine sat_of_body mixed Try.func67 rfl (by kernel_rfl) (by kernel_rfl) (rs := [.tmp 4]) rfl rfl rfl ?_
  unfold ixs
  have w0 : IntKind.i64.wrap (n - 1) = n - 1 := IntWalk.i64_in _ (by omega)
  simp -implicitDefEqProofs (maxSteps := 2000000) only [go_sem]
  refine awp_loop Nat (fun k => mkSt [(0, .one (.im 1 (ints l))), (1, .sc (.int .i64 n)), (7, .one (.im 1 (ints l))), (8, .sc (.int .i64 l.length)), (9, .sc (.int .i64 k))] [] [] 1000)
    (fun k => k ≤ l.length ∧ upTo (ixAt l n) k = true) (fun k => l.length - k) 0 ⟨by omega, rfl⟩ (le_st _ _ [] [] _ rfl (by simp -implicitDefEqProofs (maxSteps := 2000000) only [go_sem] <;> rfl) trivial trivial) ?_
  rintro k ⟨h1, h2⟩
  by_cases c1 : k < l.length
  · rcases d1 : inB (l.getD k 0) 0 (n - 1)
    · rw [upTo_false c1 (by rw [ixAt, d1]; rfl)]
      simp -implicitDefEqProofs (maxSteps := 2000000) only [go_sem, c1, w0]
      refine call_of (inW_sat (l.getD k 0) 0 (n - 1)) (by simp -implicitDefEqProofs (maxSteps := 2000000) only [go_sem, d1, c1]) (by kernel_rfl) (by simp -implicitDefEqProofs (maxSteps := 2000000) only [go_sem, d1, c1]) ?_
      simp -implicitDefEqProofs (maxSteps := 2000000) only [go_sem, d1, c1]
    rcases k with _ | j
    · have e : ixAt l n 0 = true := by rw [ixAt, d1]; rfl
      have c0 : (0 : Int) < l.length := by omega
      simp -implicitDefEqProofs (maxSteps := 2000000) only [go_sem, c1, c0, w0]
      refine call_of (inW_sat (l.getD 0 0) 0 (n - 1)) (by simp -implicitDefEqProofs (maxSteps := 2000000) only [go_sem, d1, c1, c0]) (by kernel_rfl) (by simp -implicitDefEqProofs (maxSteps := 2000000) only [go_sem, d1, c1, c0]) ?_
      simp -implicitDefEqProofs (maxSteps := 2000000) only [go_sem, d1, c1, c0]
      exact ⟨1, ⟨c1, upTo_step h2 e⟩, by omega, (le_st _ _ [] [] _ rfl (by simp -implicitDefEqProofs (maxSteps := 2000000) only [go_sem] <;> rfl) trivial trivial)⟩
    · have c2 : j < l.length := by omega
      have c3 : 0 < ((j + 1 : Nat) : Int) := by omega
      have w1 := i64_pred (j := j) (by omega)
      rcases d2 : decide (l.getD (j + 1) 0 ≤ l.getD j 0)
      · have e : ixAt l n (j + 1) = true := by rw [ixAt, d1, Nat.add_sub_cancel, d2]; rfl
        simp -implicitDefEqProofs (maxSteps := 2000000) only [go_sem, c1, w0]
        refine call_of (inW_sat (l.getD (j + 1) 0) 0 (n - 1)) (by simp -implicitDefEqProofs (maxSteps := 2000000) only [go_sem, d1, d2, c1, c2, c3, w1]) (by kernel_rfl) (by simp -implicitDefEqProofs (maxSteps := 2000000) only [go_sem, d1, d2, c1, c2, c3, w1]) ?_
        simp -implicitDefEqProofs (maxSteps := 2000000) only [go_sem, d1, d2, c1, c2, c3, w1]
        rw [i64_succ (by omega)]
        exact ⟨j + 1 + 1, ⟨c1, upTo_step h2 e⟩, by omega, (le_st _ _ [] [] _ rfl (by simp -implicitDefEqProofs (maxSteps := 2000000) only [go_sem] <;> rfl) trivial trivial)⟩
      · rw [upTo_false c1 (show ixAt l n (j + 1) = false by rw [ixAt, d1, Nat.add_sub_cancel, d2]; rfl)]
        simp -implicitDefEqProofs (maxSteps := 2000000) only [go_sem, c1, w0]
        refine call_of (inW_sat (l.getD (j + 1) 0) 0 (n - 1)) (by simp -implicitDefEqProofs (maxSteps := 2000000) only [go_sem, d1, d2, c1, c2, c3, w1]) (by kernel_rfl) (by simp -implicitDefEqProofs (maxSteps := 2000000) only [go_sem, d1, d2, c1, c2, c3, w1]) ?_
        simp -implicitDefEqProofs (maxSteps := 2000000) only [go_sem, d1, d2, c1, c2, c3, w1]
  · obtain rfl : k = l.length := by omega
    simp -implicitDefEqProofs (maxSteps := 2000000) only [go_sem, c1]
    rw [h2]
theorem l8Set_sat (n : Int) (l : List Int) (h : l.length ≤ 9223372036854775807) (hn : 0 ≤ n ∧ n ≤ 9223372036854775807) : Sat Try.prog 43 [lInt n, lInts l] [lBool (ixs l n)] [g1, g1] := by
  refine sat_of_body mixed Try.func43 rfl (by kernel_rfl) (by kernel_rfl) (rs := [.tmp 4]) rfl rfl rfl ?_
  unfold ixs
  have w0 : IntKind.i64.wrap (n - 1) = n - 1 := IntWalk.i64_in _ (by omega)
  simp -implicitDefEqProofs (maxSteps := 2000000) only [go_sem]
  refine awp_loop Nat (fun k => mkSt [(0, .sc (.int .i64 n)), (1, .one (.im 1 (ints l))), (5, .sc (.int .i64 k))] [] [] 1000)
    (fun k => k ≤ l.length ∧ upTo (ixAt l n) k = true) (fun k => l.length - k) 0 ⟨by omega, rfl⟩ (le_st _ _ [] [] _ rfl (by simp -implicitDefEqProofs (maxSteps := 2000000) only [go_sem] <;> rfl) trivial trivial) ?_
  rintro k ⟨h1, h2⟩
  by_cases c1 : k < l.length
  · rcases d1 : inB (l.getD k 0) 0 (n - 1)
    · rw [upTo_false c1 (by rw [ixAt, d1]; rfl)]
      simp -implicitDefEqProofs (maxSteps := 2000000) only [go_sem, c1, w0]
      refine call_of (inB_sat (l.getD k 0) 0 (n - 1)) (by simp -implicitDefEqProofs (maxSteps := 2000000) only [go_sem, d1, c1]) (by kernel_rfl) (by simp -implicitDefEqProofs (maxSteps := 2000000) only [go_sem, d1, c1]) ?_
      simp -implicitDefEqProofs (maxSteps := 2000000) only [go_sem, d1, c1]
      first | (with_reducible refine tr_and ?_ ?_; focus kernel_rfl) | (with_reducible refine tr_only ?_; kernel_rfl) | skip
      first | done | rfl | exact ⟨rfl, rfl⟩ | exact ⟨rfl, rfl, rfl⟩ | (refine tr_and ?_ ?_ <;> first | rfl | exact ⟨rfl, rfl⟩ | kernel_rfl)
    rcases k with _ | j
    · have e : ixAt l n 0 = true := by rw [ixAt, d1]; rfl
      have c0 : (0 : Int) < l.length := by omega
      simp -implicitDefEqProofs (maxSteps := 2000000) only [go_sem, c1, c0, w0]
      refine call_of (inB_sat (l.getD 0 0) 0 (n - 1)) (by simp -implicitDefEqProofs (maxSteps := 2000000) only [go_sem, d1, c1, c0]) (by kernel_rfl) (by simp -implicitDefEqProofs (maxSteps := 2000000) only [go_sem, d1, c1, c0]) ?_
      simp -implicitDefEqProofs (maxSteps := 2000000) only [go_sem, d1, c1, c0]
      first | (with_reducible refine tr_and ?_ ?_; focus kernel_rfl) | (with_reducible refine tr_only ?_; kernel_rfl) | skip
      exact ⟨1, ⟨c1, upTo_step h2 e⟩, by omega, (le_st _ _ [] [] _ rfl (by simp -implicitDefEqProofs (maxSteps := 2000000) only [go_sem] <;> rfl) trivial trivial)⟩
    · have c2 : j < l.length := by omega
      have c3 : 0 < ((j + 1 : Nat) : Int) := by omega
      have w1 := i64_pred (j := j) (by omega)
      rcases d2 : decide (l.getD (j + 1) 0 ≤ l.getD j 0)
      · have e : ixAt l n (j + 1) = true := by rw [ixAt, d1, Nat.add_sub_cancel, d2]; rfl
        simp -implicitDefEqProofs (maxSteps := 2000000) only [go_sem, c1, w0]
        refine call_of (inB_sat (l.getD (j + 1) 0) 0 (n - 1)) (by simp -implicitDefEqProofs (maxSteps := 2000000) only [go_sem, d1, d2, c1, c2, c3, w1]) (by kernel_rfl) (by simp -implicitDefEqProofs (maxSteps := 2000000) only [go_sem, d1, d2, c1, c2, c3, w1]) ?_
        simp -implicitDefEqProofs (maxSteps := 2000000) only [go_sem, d1, d2, c1, c2, c3, w1]
        first | (with_reducible refine tr_and ?_ ?_; focus kernel_rfl) | (with_reducible refine tr_only ?_; kernel_rfl) | skip
        rw [i64_succ (by omega)]
        exact ⟨j + 1 + 1, ⟨c1, upTo_step h2 e⟩, by omega, (le_st _ _ [] [] _ rfl (by simp -implicitDefEqProofs (maxSteps := 2000000) only [go_sem] <;> rfl) trivial trivial)⟩
      · rw [upTo_false c1 (show ixAt l n (j + 1) = false by rw [ixAt, d1, Nat.add_sub_cancel, d2]; rfl)]
        simp -implicitDefEqProofs (maxSteps := 2000000) only [go_sem, c1, w0]
        refine call_of (inB_sat (l.getD (j + 1) 0) 0 (n - 1)) (by simp -implicitDefEqProofs (maxSteps := 2000000) only [go_sem, d1, d2, c1, c2, c3, w1]) (by kernel_rfl) (by simp -implicitDefEqProofs (maxSteps := 2000000) only [go_sem, d1, d2, c1, c2, c3, w1]) ?_
        simp -implicitDefEqProofs (maxSteps := 2000000) only [go_sem, d1, d2, c1, c2, c3, w1]
        first | (with_reducible refine tr_and ?_ ?_; focus kernel_rfl) | (with_reducible refine tr_only ?_; kernel_rfl) | skip
        first | done | rfl | exact ⟨rfl, rfl⟩ | exact ⟨rfl, rfl, rfl⟩ | (refine tr_and ?_ ?_ <;> first | rfl | exact ⟨rfl, rfl⟩ | kernel_rfl)
  · obtain rfl : k = l.length := by omega
    simp -implicitDefEqProofs (maxSteps := 2000000) only [go_sem, c1]
    rw [h2]
theorem takeL1 (s : List Int) (x : Int) : List.take (s.length + 1) (s ++ [x]) = s ++ [x] := List.take_of_length_le (by simp)
attribute [go_sem] takeL1
/-- May a number join a set. -/
def fitsE (l : List Edge) (s : List Int) (x : Int) : Bool := !decide (x ∈ s) && indep l (s ++ [x])
theorem l8Fits_sat (l : List Edge) (s : List Int) (x : Int) (hl : l.length ≤ 9223372036854775807) (hs : s.length ≤ 1048576) : Sat Try.prog 45 [lEds l, lInts s, lInt x] [lBool (fitsE l s x)] [g1, g1, g1] := by
  refine sat_of_body mixed Try.func45 rfl (by kernel_rfl) (by kernel_rfl) (rs := [.tmp 6]) rfl rfl rfl ?_
  unfold fitsE
  simp -implicitDefEqProofs (maxSteps := 2000000) only [go_sem]
  rcases d : decide (x ∈ s)
  · refine call_of (l7Has_sat s x (by omega)) (by simp -implicitDefEqProofs (maxSteps := 2000000) only [go_sem, d]) (by kernel_rfl) (by simp -implicitDefEqProofs (maxSteps := 2000000) only [go_sem, d]) ?_
    simp -implicitDefEqProofs (maxSteps := 2000000) only [go_sem, d]
    repeat (refine ⟨by omega, ?_⟩)
    refine call_of (specIsIndependent_sat l (s ++ [x]) hl (by simp; omega)) (by simp -implicitDefEqProofs (maxSteps := 2000000) only [go_sem]) (by kernel_rfl) (by simp -implicitDefEqProofs (maxSteps := 2000000) only [go_sem]) ?_
    simp -implicitDefEqProofs (maxSteps := 2000000) only [go_sem]
    first | done | rfl | exact ⟨rfl, rfl⟩ | exact ⟨rfl, rfl, rfl⟩ | (refine tr_and ?_ ?_ <;> first | rfl | exact ⟨rfl, rfl⟩ | kernel_rfl)
  · refine call_of (l7Has_sat s x (by omega)) (by simp -implicitDefEqProofs (maxSteps := 2000000) only [go_sem, d]) (by kernel_rfl) (by simp -implicitDefEqProofs (maxSteps := 2000000) only [go_sem, d]) ?_
    simp -implicitDefEqProofs (maxSteps := 2000000) only [go_sem, d]
    first | done | rfl | exact ⟨rfl, rfl⟩ | exact ⟨rfl, rfl, rfl⟩ | (refine tr_and ?_ ?_ <;> first | rfl | exact ⟨rfl, rfl⟩ | kernel_rfl)
def isMax (n : Int) (l : List Edge) (s : List Int) : Bool := goodEds n l && (ixs s n && (indep l s && upTo (fun x => !fitsE l s x) n.toNat))
theorem specIsMaximalIndependent_sat (n : Int) (l : List Edge) (s : List Int) (hl : l.length ≤ 9223372036854775807) (hs : s.length ≤ 1048576) : Sat Try.prog 63 [lInt n, lEds l, lInts s] [lBool (isMax n l s)] [g1, g1, g1] := by
  refine sat_of_body mixed Try.func63 rfl (by kernel_rfl) (by kernel_rfl) (rs := [.tmp 6]) rfl rfl rfl ?_
  unfold isMax
  simp -implicitDefEqProofs (maxSteps := 2000000) only [go_sem]
  rcases g : goodEds n l
  · refine call_of (specAreValidEdges_sat n l hl) (by simp -implicitDefEqProofs (maxSteps := 2000000) only [go_sem, g]) (by kernel_rfl) (by simp -implicitDefEqProofs (maxSteps := 2000000) only [go_sem, g]) ?_
    simp -implicitDefEqProofs (maxSteps := 2000000) only [go_sem, g]
    first | done | rfl | exact ⟨rfl, rfl⟩ | exact ⟨rfl, rfl, rfl⟩ | (refine tr_and ?_ ?_ <;> first | rfl | exact ⟨rfl, rfl⟩ | kernel_rfl)
  have hn : 0 ≤ n ∧ n ≤ 14 := by
    unfold goodEds at g
    rw [Bool.and_eq_true] at g
    exact inB_of g.1
  rcases d1 : ixs s n
  · refine call_of (specAreValidEdges_sat n l hl) (by simp -implicitDefEqProofs (maxSteps := 2000000) only [go_sem, g]) (by kernel_rfl) (by simp -implicitDefEqProofs (maxSteps := 2000000) only [go_sem, g]) ?_
    simp -implicitDefEqProofs (maxSteps := 2000000) only [go_sem, g]
    refine call_of (l8Set_sat n s (by omega) (by omega)) (by simp -implicitDefEqProofs (maxSteps := 2000000) only [go_sem, d1]) (by kernel_rfl) (by simp -implicitDefEqProofs (maxSteps := 2000000) only [go_sem, d1]) ?_
    simp -implicitDefEqProofs (maxSteps := 2000000) only [go_sem, d1]
    first | done | rfl | exact ⟨rfl, rfl⟩ | exact ⟨rfl, rfl, rfl⟩ | (refine tr_and ?_ ?_ <;> first | rfl | exact ⟨rfl, rfl⟩ | kernel_rfl)
  rcases d2 : indep l s
  · refine call_of (specAreValidEdges_sat n l hl) (by simp -implicitDefEqProofs (maxSteps := 2000000) only [go_sem, g]) (by kernel_rfl) (by simp -implicitDefEqProofs (maxSteps := 2000000) only [go_sem, g]) ?_
    simp -implicitDefEqProofs (maxSteps := 2000000) only [go_sem, g]
    refine call_of (l8Set_sat n s (by omega) (by omega)) (by simp -implicitDefEqProofs (maxSteps := 2000000) only [go_sem, d1]) (by kernel_rfl) (by simp -implicitDefEqProofs (maxSteps := 2000000) only [go_sem, d1]) ?_
    simp -implicitDefEqProofs (maxSteps := 2000000) only [go_sem, d1]
    refine call_of (specIsIndependent_sat l s hl (by omega)) (by simp -implicitDefEqProofs (maxSteps := 2000000) only [go_sem, d2]) (by kernel_rfl) (by simp -implicitDefEqProofs (maxSteps := 2000000) only [go_sem, d2]) ?_
    simp -implicitDefEqProofs (maxSteps := 2000000) only [go_sem, d2]
    first | done | rfl | exact ⟨rfl, rfl⟩ | exact ⟨rfl, rfl, rfl⟩ | (refine tr_and ?_ ?_ <;> first | rfl | exact ⟨rfl, rfl⟩ | kernel_rfl)
  obtain ⟨m, rfl⟩ : ∃ m : Nat, n = m := ⟨n.toNat, by omega⟩
  rw [show ((m : Nat) : Int).toNat = m by omega]
  refine call_of (specAreValidEdges_sat m l hl) (by simp -implicitDefEqProofs (maxSteps := 2000000) only [go_sem, g]) (by kernel_rfl) (by simp -implicitDefEqProofs (maxSteps := 2000000) only [go_sem, g]) ?_
  simp -implicitDefEqProofs (maxSteps := 2000000) only [go_sem, g]
  refine call_of (l8Set_sat m s (by omega) (by omega)) (by simp -implicitDefEqProofs (maxSteps := 2000000) only [go_sem, d1]) (by kernel_rfl) (by simp -implicitDefEqProofs (maxSteps := 2000000) only [go_sem, d1]) ?_
  simp -implicitDefEqProofs (maxSteps := 2000000) only [go_sem, d1]
  refine call_of (specIsIndependent_sat l s hl (by omega)) (by simp -implicitDefEqProofs (maxSteps := 2000000) only [go_sem, d2]) (by kernel_rfl) (by simp -implicitDefEqProofs (maxSteps := 2000000) only [go_sem, d2]) ?_
  simp -implicitDefEqProofs (maxSteps := 2000000) only [go_sem, d2]
  refine awp_loop Nat (fun k => mkSt [(0, .sc (.int .i64 m)), (1, .one (.im 2 (eds l))), (2, .one (.im 1 (ints s))), (7, .sc (.int .i64 k))] [] [] 4000)
    (fun k => k ≤ m ∧ upTo (fun x => !fitsE l s x) k = true) (fun k => m - k) 0 ⟨by omega, rfl⟩ (le_st _ _ [] [] _ rfl (by simp -implicitDefEqProofs (maxSteps := 2000000) only [go_sem] <;> rfl) trivial trivial) ?_
  rintro k ⟨h1, h2⟩
  by_cases c1 : k < m
  · rcases d : fitsE l s k
    · simp -implicitDefEqProofs (maxSteps := 2000000) only [go_sem, c1]
      refine call_of (l8Fits_sat l s k hl hs) (by simp -implicitDefEqProofs (maxSteps := 2000000) only [go_sem, d]) (by kernel_rfl) (by simp -implicitDefEqProofs (maxSteps := 2000000) only [go_sem, d]) ?_
      simp -implicitDefEqProofs (maxSteps := 2000000) only [go_sem, d]
      rw [i64_succ (by omega)]
      exact ⟨k + 1, ⟨c1, upTo_step h2 (by rw [d]; rfl)⟩, by omega, (le_st _ _ [] [] _ rfl (by simp -implicitDefEqProofs (maxSteps := 2000000) only [go_sem] <;> rfl) trivial trivial)⟩
    · rw [upTo_false (p := fun x : Nat => !fitsE l s x) c1 (by rw [d]; rfl)]
      simp -implicitDefEqProofs (maxSteps := 2000000) only [go_sem, c1]
      refine call_of (l8Fits_sat l s k hl hs) (by simp -implicitDefEqProofs (maxSteps := 2000000) only [go_sem, d]) (by kernel_rfl) (by simp -implicitDefEqProofs (maxSteps := 2000000) only [go_sem, d]) ?_
      simp -implicitDefEqProofs (maxSteps := 2000000) only [go_sem, d]
      first | done | rfl | exact ⟨rfl, rfl⟩ | exact ⟨rfl, rfl, rfl⟩ | (refine tr_and ?_ ?_ <;> first | rfl | exact ⟨rfl, rfl⟩ | kernel_rfl)
  · obtain rfl : k = m := by omega
    rw [h2]
    simp -implicitDefEqProofs (maxSteps := 2000000) only [go_sem, c1]
    first | done | rfl | exact ⟨rfl, rfl⟩ | exact ⟨rfl, rfl, rfl⟩ | (refine tr_and ?_ ?_ <;> first | rfl | exact ⟨rfl, rfl⟩ | kernel_rfl)
theorem isIndependentSet_sat (n : Int) (l : List Edge) (s : List Int) (hl : l.length ≤ 9223372036854775807) (hs : s.length ≤ 9223372036854775807) : Sat Try.prog 47 [lInt n, lEds l, lInts s] [lBool (goodEds n l && (ixs s n && indep l s))] [g1, g1, g1] := by
  refine sat_of_body mixed Try.func47 rfl (by kernel_rfl) (by kernel_rfl) (rs := [.tmp 6]) rfl rfl rfl ?_
  simp -implicitDefEqProofs (maxSteps := 2000000) only [go_sem]
  rcases g : goodEds n l
  · refine call_of (implAreValidEdges_sat n l hl) (by simp -implicitDefEqProofs (maxSteps := 2000000) only [go_sem, g]) (by kernel_rfl) (by simp -implicitDefEqProofs (maxSteps := 2000000) only [go_sem, g]) ?_
    simp -implicitDefEqProofs (maxSteps := 2000000) only [go_sem, g]
    first | done | rfl | exact ⟨rfl, rfl⟩ | exact ⟨rfl, rfl, rfl⟩ | (refine tr_and ?_ ?_ <;> first | rfl | exact ⟨rfl, rfl⟩ | kernel_rfl)
  have hn : 0 ≤ n ∧ n ≤ 14 := by
    unfold goodEds at g
    rw [Bool.and_eq_true] at g
    exact inB_of g.1
  rcases d1 : ixs s n
  · refine call_of (implAreValidEdges_sat n l hl) (by simp -implicitDefEqProofs (maxSteps := 2000000) only [go_sem, g]) (by kernel_rfl) (by simp -implicitDefEqProofs (maxSteps := 2000000) only [go_sem, g]) ?_
    simp -implicitDefEqProofs (maxSteps := 2000000) only [go_sem, g]
    refine call_of (areIxs_sat s n (by omega) (by omega)) (by simp -implicitDefEqProofs (maxSteps := 2000000) only [go_sem, d1]) (by kernel_rfl) (by simp -implicitDefEqProofs (maxSteps := 2000000) only [go_sem, d1]) ?_
    simp -implicitDefEqProofs (maxSteps := 2000000) only [go_sem, d1]
    first | done | rfl | exact ⟨rfl, rfl⟩ | exact ⟨rfl, rfl, rfl⟩ | (refine tr_and ?_ ?_ <;> first | rfl | exact ⟨rfl, rfl⟩ | kernel_rfl)
  · refine call_of (implAreValidEdges_sat n l hl) (by simp -implicitDefEqProofs (maxSteps := 2000000) only [go_sem, g]) (by kernel_rfl) (by simp -implicitDefEqProofs (maxSteps := 2000000) only [go_sem, g]) ?_
    simp -implicitDefEqProofs (maxSteps := 2000000) only [go_sem, g]
    refine call_of (areIxs_sat s n (by omega) (by omega)) (by simp -implicitDefEqProofs (maxSteps := 2000000) only [go_sem, d1]) (by kernel_rfl) (by simp -implicitDefEqProofs (maxSteps := 2000000) only [go_sem, d1]) ?_
    simp -implicitDefEqProofs (maxSteps := 2000000) only [go_sem, d1]
    refine call_of (implIsIndependent_sat l s hl hs) (by simp -implicitDefEqProofs (maxSteps := 2000000) only [go_sem]) (by kernel_rfl) (by simp -implicitDefEqProofs (maxSteps := 2000000) only [go_sem]) ?_
    simp -implicitDefEqProofs (maxSteps := 2000000) only [go_sem]
    first | done | rfl | exact ⟨rfl, rfl⟩ | exact ⟨rfl, rfl, rfl⟩ | (refine tr_and ?_ ?_ <;> first | rfl | exact ⟨rfl, rfl⟩ | kernel_rfl)
theorem implIsMaximalIndependent_sat (n : Int) (l : List Edge) (s : List Int) (hl : l.length ≤ 9223372036854775807) (hs : s.length ≤ 1048576) : Sat Try.prog 39 [lInt n, lEds l, lInts s] [lBool (isMax n l s)] [g1, g1, g1] := by
  refine sat_of_body mixed Try.func39 rfl (by kernel_rfl) (by kernel_rfl) (rs := [.tmp 6]) rfl rfl rfl ?_
  unfold isMax
  rw [← Bool.and_assoc (ixs s n), ← Bool.and_assoc (goodEds n l)]
  simp -implicitDefEqProofs (maxSteps := 2000000) only [go_sem]
  rcases g : (goodEds n l && (ixs s n && indep l s))
  · refine call_of (isIndependentSet_sat n l s hl (by omega)) (by simp -implicitDefEqProofs (maxSteps := 2000000) only [go_sem, g]) (by kernel_rfl) (by simp -implicitDefEqProofs (maxSteps := 2000000) only [go_sem, g]) ?_
    simp -implicitDefEqProofs (maxSteps := 2000000) only [go_sem, g]
    first | done | rfl | exact ⟨rfl, rfl⟩ | exact ⟨rfl, rfl, rfl⟩ | (refine tr_and ?_ ?_ <;> first | rfl | exact ⟨rfl, rfl⟩ | kernel_rfl)
  have hn : 0 ≤ n ∧ n ≤ 14 := by
    rw [Bool.and_eq_true] at g
    have g := g.1
    unfold goodEds at g
    rw [Bool.and_eq_true] at g
    exact inB_of g.1
  obtain ⟨m, rfl⟩ : ∃ m : Nat, n = m := ⟨n.toNat, by omega⟩
  rw [show ((m : Nat) : Int).toNat = m by omega]
  refine call_of (isIndependentSet_sat m l s hl (by omega)) (by simp -implicitDefEqProofs (maxSteps := 2000000) only [go_sem, g]) (by kernel_rfl) (by simp -implicitDefEqProofs (maxSteps := 2000000) only [go_sem, g]) ?_
  simp -implicitDefEqProofs (maxSteps := 2000000) only [go_sem, g]
  refine awp_loop Nat (fun k => mkSt [(0, .sc (.int .i64 m)), (1, .one (.im 2 (eds l))), (2, .one (.im 1 (ints s))), (13, .sc (.int .i64 m)), (14, .sc (.int .i64 k))] [] [] 4000)
    (fun k => k ≤ m ∧ upTo (fun x => !fitsE l s x) k = true) (fun k => m - k) 0 ⟨by omega, rfl⟩ (le_st _ _ [] [] _ rfl (by simp -implicitDefEqProofs (maxSteps := 2000000) only [go_sem] <;> rfl) trivial trivial) ?_
  rintro k ⟨h1, h2⟩
  by_cases c1 : k < m
  · rcases d : decide ((k : Int) ∈ s)
    · rcases d2 : indep l (s ++ [(k : Int)])
      · simp -implicitDefEqProofs (maxSteps := 2000000) only [go_sem, c1]
        refine call_of (slicesContains_sat s k (by omega)) (by simp -implicitDefEqProofs (maxSteps := 2000000) only [go_sem, d]) (by kernel_rfl) (by simp -implicitDefEqProofs (maxSteps := 2000000) only [go_sem, d]) ?_
        simp -implicitDefEqProofs (maxSteps := 2000000) only [go_sem, d]
        refine call_of (slicesClone_sat s hs) (by simp -implicitDefEqProofs (maxSteps := 2000000) only [go_sem]) (callOk_still (by kernel_rfl) (by simp only [List.all_cons, List.all_nil, LV.still, LV.leaves, Leaf.still, ints_still, ris_still, eds_still, rels_still, iss_still, Bool.and_self, Bool.and_true])) (by simp -implicitDefEqProofs (maxSteps := 2000000) only [go_sem]) ?_
        simp -implicitDefEqProofs (maxSteps := 2000000) only [go_sem]
        repeat (refine ⟨by omega, ?_⟩)
        refine call_of (implIsIndependent_sat l (s ++ [(k : Int)]) hl (by simp; omega)) (by simp -implicitDefEqProofs (maxSteps := 2000000) only [go_sem, d2]) (by kernel_rfl) (by simp -implicitDefEqProofs (maxSteps := 2000000) only [go_sem, d2]) ?_
        simp -implicitDefEqProofs (maxSteps := 2000000) only [go_sem, d2]
        rw [i64_succ (by omega)]
        exact ⟨k + 1, ⟨c1, upTo_step h2 (by rw [fitsE, d, d2]; rfl)⟩, by omega, (le_st _ _ [] [] _ rfl (by simp -implicitDefEqProofs (maxSteps := 2000000) only [go_sem] <;> rfl) trivial trivial)⟩
      · rw [upTo_false (p := fun x : Nat => !fitsE l s x) c1 (by rw [fitsE, d, d2]; rfl)]
        simp -implicitDefEqProofs (maxSteps := 2000000) only [go_sem, c1]
        refine call_of (slicesContains_sat s k (by omega)) (by simp -implicitDefEqProofs (maxSteps := 2000000) only [go_sem, d]) (by kernel_rfl) (by simp -implicitDefEqProofs (maxSteps := 2000000) only [go_sem, d]) ?_
        simp -implicitDefEqProofs (maxSteps := 2000000) only [go_sem, d]
        refine call_of (slicesClone_sat s hs) (by simp -implicitDefEqProofs (maxSteps := 2000000) only [go_sem]) (callOk_still (by kernel_rfl) (by simp only [List.all_cons, List.all_nil, LV.still, LV.leaves, Leaf.still, ints_still, ris_still, eds_still, rels_still, iss_still, Bool.and_self, Bool.and_true])) (by simp -implicitDefEqProofs (maxSteps := 2000000) only [go_sem]) ?_
        simp -implicitDefEqProofs (maxSteps := 2000000) only [go_sem]
        repeat (refine ⟨by omega, ?_⟩)
        refine call_of (implIsIndependent_sat l (s ++ [(k : Int)]) hl (by simp; omega)) (by simp -implicitDefEqProofs (maxSteps := 2000000) only [go_sem, d2]) (by kernel_rfl) (by simp -implicitDefEqProofs (maxSteps := 2000000) only [go_sem, d2]) ?_
        simp -implicitDefEqProofs (maxSteps := 2000000) only [go_sem, d2]
        first | done | rfl | exact ⟨rfl, rfl⟩ | exact ⟨rfl, rfl, rfl⟩ | (refine tr_and ?_ ?_ <;> first | rfl | exact ⟨rfl, rfl⟩ | kernel_rfl)
    · simp -implicitDefEqProofs (maxSteps := 2000000) only [go_sem, c1]
      refine call_of (slicesContains_sat s k (by omega)) (by simp -implicitDefEqProofs (maxSteps := 2000000) only [go_sem, d]) (by kernel_rfl) (by simp -implicitDefEqProofs (maxSteps := 2000000) only [go_sem, d]) ?_
      simp -implicitDefEqProofs (maxSteps := 2000000) only [go_sem, d]
      rw [i64_succ (by omega)]
      exact ⟨k + 1, ⟨c1, upTo_step h2 (by rw [fitsE, d]; rfl)⟩, by omega, (le_st _ _ [] [] _ rfl (by simp -implicitDefEqProofs (maxSteps := 2000000) only [go_sem] <;> rfl) trivial trivial)⟩
  · obtain rfl : k = m := by omega
    rw [h2]
    simp -implicitDefEqProofs (maxSteps := 2000000) only [go_sem, c1]
    first | done | rfl | exact ⟨rfl, rfl⟩ | exact ⟨rfl, rfl, rfl⟩ | (refine tr_and ?_ ?_ <;> first | rfl | exact ⟨rfl, rfl⟩ | kernel_rfl)

theorem ixs_ge {s : List Int} {n : Int} (h : ixs s n = true) : ∀ i : Nat, i < s.length → (i : Int) ≤ s.getD i 0
  | 0, hi => by
    have h1 := upTo_at h hi
    unfold ixAt at h1
    rw [Bool.and_eq_true] at h1
    exact (inB_of h1.1).1
  | i + 1, hi => by
    have ih := ixs_ge h i (by omega)
    have h1 := upTo_at h hi
    unfold ixAt at h1
    rw [Bool.and_eq_true, Nat.add_sub_cancel, decide_eq_false (by omega : ¬ i + 1 = 0), Bool.false_or, Bool.not_eq_true', decide_eq_false_iff_not] at h1
    have := h1.2
    omega
theorem ixs_len {s : List Int} {n : Int} (h : ixs s n = true) (hn : 0 ≤ n) : (s.length : Int) ≤ n := by
  rcases e : s.length with _ | k
  · omega
  · have h1 := ixs_ge h k (by omega)
    have h2 := upTo_at h (show k < s.length by omega)
    unfold ixAt at h2
    rw [Bool.and_eq_true] at h2
    have := (inB_of h2.1).2
    omega
/-! #### a set is extended -/
def extN (l : List Edge) (s : List Int) : Nat → List Int
  | 0 => s
  | k + 1 => if fitsE l (extN l s k) k then extN l s k ++ [(k : Int)] else extN l s k
theorem extN_len (l : List Edge) (s : List Int) : ∀ k, (extN l s k).length ≤ s.length + k
  | 0 => by simp [extN]
  | k + 1 => by
    have := extN_len l s k
    unfold extN
    split
    · simp only [List.length_append, List.length_singleton]; omega
    · omega
def goodSet (n : Int) (l : List Edge) (s : List Int) : Bool := goodEds n l && (ixs s n && indep l s)
def extM (n : Int) (l : List Edge) (s : List Int) : List Int × Bool := if goodSet n l s then (sortI (extN l s n.toNat), true) else ([], false)
theorem extM_len (n : Int) (l : List Edge) (s : List Int) (hs : s.length ≤ 1048576) : (extM n l s).1.length ≤ 1048576 + 14 := by
  unfold extM
  split
  · rename_i g
    unfold goodSet at g
    rw [Bool.and_eq_true] at g
    have g := g.1
    unfold goodEds at g
    rw [Bool.and_eq_true] at g
    have := inB_of g.1
    have := extN_len l s n.toNat
    simp only [sortI_len]
    omega
  · simp
theorem specExtendToMaximal_sat (n : Int) (l : List Edge) (s : List Int) (hl : l.length ≤ 9223372036854775807) (hs : s.length ≤ 1048576) : Sat Try.prog 19 [lInt n, lEds l, lInts s] [oInts (extM n l s).1, lBool (extM n l s).2] [g1, g1, g1] := by
  refine sat_of_body mixed Try.func19 rfl (by kernel_rfl) (by kernel_rfl) (rs := [.tmp 6, .tmp 7]) rfl rfl rfl ?_
  unfold extM
  simp -implicitDefEqProofs (maxSteps := 2000000) only [go_sem]
  rcases g : goodEds n l
  · rw [if_neg (by rw [goodSet, g]; simp)]
    refine call_of (specAreValidEdges_sat n l hl) (by simp -implicitDefEqProofs (maxSteps := 2000000) only [go_sem, g]) (by kernel_rfl) (by simp -implicitDefEqProofs (maxSteps := 2000000) only [go_sem, g]) ?_
    simp -implicitDefEqProofs (maxSteps := 2000000) only [go_sem, g]
    first | done | rfl | exact ⟨rfl, rfl⟩ | exact ⟨rfl, rfl, rfl⟩ | (refine tr_and ?_ ?_ <;> first | rfl | exact ⟨rfl, rfl⟩ | kernel_rfl)
  have hn : 0 ≤ n ∧ n ≤ 14 := by
    unfold goodEds at g
    rw [Bool.and_eq_true] at g
    exact inB_of g.1
  rcases d1 : ixs s n
  · rw [if_neg (by rw [goodSet, d1]; simp)]
    refine call_of (specAreValidEdges_sat n l hl) (by simp -implicitDefEqProofs (maxSteps := 2000000) only [go_sem, g]) (by kernel_rfl) (by simp -implicitDefEqProofs (maxSteps := 2000000) only [go_sem, g]) ?_
    simp -implicitDefEqProofs (maxSteps := 2000000) only [go_sem, g]
    refine call_of (l8Set_sat n s (by omega) (by omega)) (by simp -implicitDefEqProofs (maxSteps := 2000000) only [go_sem, d1]) (by kernel_rfl) (by simp -implicitDefEqProofs (maxSteps := 2000000) only [go_sem, d1]) ?_
    simp -implicitDefEqProofs (maxSteps := 2000000) only [go_sem, d1]
    first | done | rfl | exact ⟨rfl, rfl⟩ | exact ⟨rfl, rfl, rfl⟩ | (refine tr_and ?_ ?_ <;> first | rfl | exact ⟨rfl, rfl⟩ | kernel_rfl)
  rcases d2 : indep l s
  · rw [if_neg (by rw [goodSet, d2]; simp)]
    refine call_of (specAreValidEdges_sat n l hl) (by simp -implicitDefEqProofs (maxSteps := 2000000) only [go_sem, g]) (by kernel_rfl) (by simp -implicitDefEqProofs (maxSteps := 2000000) only [go_sem, g]) ?_
    simp -implicitDefEqProofs (maxSteps := 2000000) only [go_sem, g]
    refine call_of (l8Set_sat n s (by omega) (by omega)) (by simp -implicitDefEqProofs (maxSteps := 2000000) only [go_sem, d1]) (by kernel_rfl) (by simp -implicitDefEqProofs (maxSteps := 2000000) only [go_sem, d1]) ?_
    simp -implicitDefEqProofs (maxSteps := 2000000) only [go_sem, d1]
    refine call_of (specIsIndependent_sat l s hl (by omega)) (by simp -implicitDefEqProofs (maxSteps := 2000000) only [go_sem, d2]) (by kernel_rfl) (by simp -implicitDefEqProofs (maxSteps := 2000000) only [go_sem, d2]) ?_
    simp -implicitDefEqProofs (maxSteps := 2000000) only [go_sem, d2]
    first | done | rfl | exact ⟨rfl, rfl⟩ | exact ⟨rfl, rfl, rfl⟩ | (refine tr_and ?_ ?_ <;> first | rfl | exact ⟨rfl, rfl⟩ | kernel_rfl)
  rw [if_pos (by rw [goodSet, g, d1, d2]; rfl)]
  have hsl := ixs_len d1 hn.1
  obtain ⟨m, rfl⟩ : ∃ m : Nat, n = m := ⟨n.toNat, by omega⟩
  rw [show ((m : Nat) : Int).toNat = m by omega]
  refine call_of (specAreValidEdges_sat m l hl) (by simp -implicitDefEqProofs (maxSteps := 2000000) only [go_sem, g]) (by kernel_rfl) (by simp -implicitDefEqProofs (maxSteps := 2000000) only [go_sem, g]) ?_
  simp -implicitDefEqProofs (maxSteps := 2000000) only [go_sem, g]
  refine call_of (l8Set_sat m s (by omega) (by omega)) (by simp -implicitDefEqProofs (maxSteps := 2000000) only [go_sem, d1]) (by kernel_rfl) (by simp -implicitDefEqProofs (maxSteps := 2000000) only [go_sem, d1]) ?_
  simp -implicitDefEqProofs (maxSteps := 2000000) only [go_sem, d1]
  refine call_of (specIsIndependent_sat l s hl (by omega)) (by simp -implicitDefEqProofs (maxSteps := 2000000) only [go_sem, d2]) (by kernel_rfl) (by simp -implicitDefEqProofs (maxSteps := 2000000) only [go_sem, d2]) ?_
  simp -implicitDefEqProofs (maxSteps := 2000000) only [go_sem, d2]
  repeat (refine ⟨by omega, ?_⟩)
  refine awp_loop Nat (fun k => mkSt [(0, .sc (.int .i64 m)), (1, .one (.im 2 (eds l))), (8, .one (.ref 960 1 0 (extN l s k).length)), (9, .sc (.int .i64 k))] [] [(960, (1, ints (extN l s k)))] 4000)
    (fun k => k ≤ m) (fun k => m - k) 0 (by omega) (le_st' _ _ [⟨960, some _, false, 1, _⟩] [] _ (by simp -implicitDefEqProofs (maxSteps := 2000000) only [go_sem, extN] <;> and_intros <;> rfl) (by simp -implicitDefEqProofs (maxSteps := 2000000) only [go_sem, extN] <;> and_intros <;> rfl) (by simp -implicitDefEqProofs (maxSteps := 2000000) only [go_sem, extN] <;> and_intros <;> rfl) (by rfl)) ?_
  rintro k h1
  have hlen := extN_len l s k
  by_cases c1 : k < m
  · rcases d : fitsE l (extN l s k) k
    · simp -implicitDefEqProofs (maxSteps := 2000000) only [go_sem, c1]
      refine call_of (l8Fits_sat l (extN l s k) k hl (by omega)) (by simp -implicitDefEqProofs (maxSteps := 2000000) only [go_sem, d]) (by kernel_rfl) (by simp -implicitDefEqProofs (maxSteps := 2000000) only [go_sem, d]) ?_
      simp -implicitDefEqProofs (maxSteps := 2000000) only [go_sem, d]
      rw [i64_succ (by omega)]
      refine ⟨k + 1, c1, by omega, ?_⟩
      rw [show extN l s (k + 1) = extN l s k by rw [extN, d]; rfl]
      exact (le_st' _ _ [⟨960, some _, false, 1, _⟩] [] _ (by simp -implicitDefEqProofs (maxSteps := 2000000) only [go_sem] <;> and_intros <;> rfl) (by simp -implicitDefEqProofs (maxSteps := 2000000) only [go_sem] <;> and_intros <;> rfl) (by simp -implicitDefEqProofs (maxSteps := 2000000) only [go_sem] <;> and_intros <;> rfl) (by rfl))
    · simp -implicitDefEqProofs (maxSteps := 2000000) only [go_sem, c1]
      refine call_of (l8Fits_sat l (extN l s k) k hl (by omega)) (by simp -implicitDefEqProofs (maxSteps := 2000000) only [go_sem, d]) (by kernel_rfl) (by simp -implicitDefEqProofs (maxSteps := 2000000) only [go_sem, d]) ?_
      simp -implicitDefEqProofs (maxSteps := 2000000) only [go_sem, d]
      refine ⟨by omega, ?_⟩
      rw [i64_succ (by omega)]
      refine ⟨k + 1, c1, by omega, ?_⟩
      rw [show extN l s (k + 1) = extN l s k ++ [(k : Int)] by rw [extN, d]; rfl]
      exact (le_st' _ _ [⟨960, some _, false, 1, _⟩] [] _ (by simp -implicitDefEqProofs (maxSteps := 2000000) only [go_sem, List.length_append] <;> and_intros <;> rfl) (by simp -implicitDefEqProofs (maxSteps := 2000000) only [go_sem, List.length_append] <;> and_intros <;> rfl) (by simp -implicitDefEqProofs (maxSteps := 2000000) only [go_sem, List.length_append] <;> and_intros <;> rfl) (by rfl))
  · obtain rfl : k = m := by omega
    simp -implicitDefEqProofs (maxSteps := 2000000) only [go_sem, c1]
    refine call_of (l7Sorted_sat (extN l s k) (by omega)) (by simp -implicitDefEqProofs (maxSteps := 2000000) only [go_sem]) (callOk_still (by kernel_rfl) (by simp only [List.all_cons, List.all_nil, LV.still, LV.leaves, Leaf.still, ints_still, ris_still, eds_still, rels_still, iss_still, Bool.and_self, Bool.and_true])) (by simp -implicitDefEqProofs (maxSteps := 2000000) only [go_sem]) ?_
    simp -implicitDefEqProofs (maxSteps := 2000000) only [go_sem]
    first | done | rfl | exact ⟨rfl, rfl⟩ | exact ⟨rfl, rfl, rfl⟩ | (refine tr_and ?_ ?_ <;> first | rfl | exact ⟨rfl, rfl⟩ | kernel_rfl)
theorem implExtendToMaximal_sat (n : Int) (l : List Edge) (s : List Int) (hl : l.length ≤ 9223372036854775807) (hs : s.length ≤ 1048576) : Sat Try.prog 21 [lInt n, lEds l, lInts s] [oInts (extM n l s).1, lBool (extM n l s).2] [g1, g1, g1] := by
  refine sat_of_body mixed Try.func21 rfl (by kernel_rfl) (by kernel_rfl) (rs := [.tmp 6, .tmp 7]) rfl rfl rfl ?_
  unfold extM
  simp -implicitDefEqProofs (maxSteps := 2000000) only [go_sem]
  rcases g : goodSet n l s
  · rw [if_neg (by simp)]
    refine call_of (isIndependentSet_sat n l s hl (by omega)) (by simp -implicitDefEqProofs (maxSteps := 2000000) only [go_sem, show (goodEds n l && (ixs s n && indep l s)) = false from g]) (by kernel_rfl) (by simp -implicitDefEqProofs (maxSteps := 2000000) only [go_sem, show (goodEds n l && (ixs s n && indep l s)) = false from g]) ?_
    simp -implicitDefEqProofs (maxSteps := 2000000) only [go_sem, show (goodEds n l && (ixs s n && indep l s)) = false from g]
    first | done | rfl | exact ⟨rfl, rfl⟩ | exact ⟨rfl, rfl, rfl⟩ | (refine tr_and ?_ ?_ <;> first | rfl | exact ⟨rfl, rfl⟩ | kernel_rfl)
  have hn : 0 ≤ n ∧ n ≤ 14 := by
    unfold goodSet at g
    rw [Bool.and_eq_true] at g
    have g := g.1
    unfold goodEds at g
    rw [Bool.and_eq_true] at g
    exact inB_of g.1
  have hsl : (s.length : Int) ≤ n := by
    unfold goodSet at g
    rw [Bool.and_eq_true, Bool.and_eq_true] at g
    exact ixs_len g.2.1 hn.1
  rw [if_pos rfl]
  obtain ⟨m, rfl⟩ : ∃ m : Nat, n = m := ⟨n.toNat, by omega⟩
  rw [show ((m : Nat) : Int).toNat = m by omega]
  refine call_of (isIndependentSet_sat m l s hl (by omega)) (by simp -implicitDefEqProofs (maxSteps := 2000000) only [go_sem, show (goodEds m l && (ixs s m && indep l s)) = true from g]) (by kernel_rfl) (by simp -implicitDefEqProofs (maxSteps := 2000000) only [go_sem, show (goodEds m l && (ixs s m && indep l s)) = true from g]) ?_
  simp -implicitDefEqProofs (maxSteps := 2000000) only [go_sem, show (goodEds m l && (ixs s m && indep l s)) = true from g]
  repeat (refine ⟨by omega, ?_⟩)
  refine awp_loop Nat (fun k => mkSt [(0, .sc (.int .i64 m)), (1, .one (.im 2 (eds l))), (8, .one (.ref 960 1 0 (extN l s k).length)), (19, .sc (.int .i64 m)), (20, .sc (.int .i64 k))] [] [(960, (1, ints (extN l s k)))] 4000)
    (fun k => k ≤ m) (fun k => m - k) 0 (by omega) (le_st' _ _ [⟨960, some _, false, 1, _⟩] [] _ (by simp -implicitDefEqProofs (maxSteps := 2000000) only [go_sem, extN] <;> and_intros <;> rfl) (by simp -implicitDefEqProofs (maxSteps := 2000000) only [go_sem, extN] <;> and_intros <;> rfl) (by simp -implicitDefEqProofs (maxSteps := 2000000) only [go_sem, extN] <;> and_intros <;> rfl) (by rfl)) ?_
  rintro k h1
  have hlen := extN_len l s k
  by_cases c1 : k < m
  · have wk : IntKind.i64.wrap ((k : Int) + 1) = ((k + 1 : Nat) : Int) := i64_succ (by omega)
    have ho : (extN l s k ++ [(k : Int)]).length ≤ 9223372036854775807 := by simp; omega
    rcases d : decide ((k : Int) ∈ extN l s k)
    · rcases d2 : indep l (extN l s k ++ [(k : Int)])
      · have e : extN l s (k + 1) = extN l s k := by rw [extN, fitsE, d, d2]; rfl
        simp -implicitDefEqProofs (maxSteps := 2000000) only [go_sem, c1]
        refine call_of (slicesClone_sat (extN l s k) (by omega)) (by simp -implicitDefEqProofs (maxSteps := 2000000) only [go_sem]) (callOk_still (by kernel_rfl) (by simp only [List.all_cons, List.all_nil, LV.still, LV.leaves, Leaf.still, ints_still, ris_still, eds_still, rels_still, iss_still, Bool.and_self, Bool.and_true])) (by simp -implicitDefEqProofs (maxSteps := 2000000) only [go_sem]) ?_
        simp -implicitDefEqProofs (maxSteps := 2000000) only [go_sem]
        repeat (refine ⟨by omega, ?_⟩)
        refine call_of (slicesContains_sat (extN l s k) k (by omega)) (by simp -implicitDefEqProofs (maxSteps := 2000000) only [go_sem, d]) (by kernel_rfl) (by simp -implicitDefEqProofs (maxSteps := 2000000) only [go_sem, d]) ?_
        simp -implicitDefEqProofs (maxSteps := 2000000) only [go_sem, d]
        refine call_of (implIsIndependent_sat l (extN l s k ++ [(k : Int)]) hl ho) (by simp -implicitDefEqProofs (maxSteps := 2000000) only [go_sem, d2]) (by kernel_rfl) (by simp -implicitDefEqProofs (maxSteps := 2000000) only [go_sem, d2]) ?_
        simp -implicitDefEqProofs (maxSteps := 2000000) only [go_sem, d2]
        rw [wk]
        refine ⟨k + 1, c1, by omega, ?_⟩
        rw [e]
        exact (le_st' _ _ [⟨960, some _, false, 1, _⟩] [] _ (by simp -implicitDefEqProofs (maxSteps := 2000000) only [go_sem] <;> and_intros <;> rfl) (by simp -implicitDefEqProofs (maxSteps := 2000000) only [go_sem] <;> and_intros <;> rfl) (by simp -implicitDefEqProofs (maxSteps := 2000000) only [go_sem] <;> and_intros <;> rfl) (by rfl))
      · have e : extN l s (k + 1) = extN l s k ++ [(k : Int)] := by rw [extN, fitsE, d, d2]; rfl
        simp -implicitDefEqProofs (maxSteps := 2000000) only [go_sem, c1]
        refine call_of (slicesClone_sat (extN l s k) (by omega)) (by simp -implicitDefEqProofs (maxSteps := 2000000) only [go_sem]) (callOk_still (by kernel_rfl) (by simp only [List.all_cons, List.all_nil, LV.still, LV.leaves, Leaf.still, ints_still, ris_still, eds_still, rels_still, iss_still, Bool.and_self, Bool.and_true])) (by simp -implicitDefEqProofs (maxSteps := 2000000) only [go_sem]) ?_
        simp -implicitDefEqProofs (maxSteps := 2000000) only [go_sem]
        repeat (refine ⟨by omega, ?_⟩)
        refine call_of (slicesContains_sat (extN l s k) k (by omega)) (by simp -implicitDefEqProofs (maxSteps := 2000000) only [go_sem, d]) (by kernel_rfl) (by simp -implicitDefEqProofs (maxSteps := 2000000) only [go_sem, d]) ?_
        simp -implicitDefEqProofs (maxSteps := 2000000) only [go_sem, d]
        refine call_of (implIsIndependent_sat l (extN l s k ++ [(k : Int)]) hl ho) (by simp -implicitDefEqProofs (maxSteps := 2000000) only [go_sem, d2]) (by kernel_rfl) (by simp -implicitDefEqProofs (maxSteps := 2000000) only [go_sem, d2]) ?_
        simp -implicitDefEqProofs (maxSteps := 2000000) only [go_sem, d2]
        rw [wk]
        refine ⟨k + 1, c1, by omega, ?_⟩
        rw [e]
        exact (le_st' _ _ [⟨960, some _, false, 1, _⟩] [] _ (by simp -implicitDefEqProofs (maxSteps := 2000000) only [go_sem, List.length_append] <;> and_intros <;> rfl) (by simp -implicitDefEqProofs (maxSteps := 2000000) only [go_sem, List.length_append] <;> and_intros <;> rfl) (by simp -implicitDefEqProofs (maxSteps := 2000000) only [go_sem, List.length_append] <;> and_intros <;> rfl) (by rfl))
    · have e : extN l s (k + 1) = extN l s k := by rw [extN, fitsE, d]; rfl
      simp -implicitDefEqProofs (maxSteps := 2000000) only [go_sem, c1]
      refine call_of (slicesClone_sat (extN l s k) (by omega)) (by simp -implicitDefEqProofs (maxSteps := 2000000) only [go_sem]) (callOk_still (by kernel_rfl) (by simp only [List.all_cons, List.all_nil, LV.still, LV.leaves, Leaf.still, ints_still, ris_still, eds_still, rels_still, iss_still, Bool.and_self, Bool.and_true])) (by simp -implicitDefEqProofs (maxSteps := 2000000) only [go_sem]) ?_
      simp -implicitDefEqProofs (maxSteps := 2000000) only [go_sem]
      repeat (refine ⟨by omega, ?_⟩)
      refine call_of (slicesContains_sat (extN l s k) k (by omega)) (by simp -implicitDefEqProofs (maxSteps := 2000000) only [go_sem, d]) (by kernel_rfl) (by simp -implicitDefEqProofs (maxSteps := 2000000) only [go_sem, d]) ?_
      simp -implicitDefEqProofs (maxSteps := 2000000) only [go_sem, d]
      rw [wk]
      refine ⟨k + 1, c1, by omega, ?_⟩
      rw [e]
      exact (le_st' _ _ [⟨960, some _, false, 1, _⟩] [] _ (by simp -implicitDefEqProofs (maxSteps := 2000000) only [go_sem] <;> and_intros <;> rfl) (by simp -implicitDefEqProofs (maxSteps := 2000000) only [go_sem] <;> and_intros <;> rfl) (by simp -implicitDefEqProofs (maxSteps := 2000000) only [go_sem] <;> and_intros <;> rfl) (by rfl))
  · obtain rfl : k = m := by omega
    simp -implicitDefEqProofs (maxSteps := 2000000) only [go_sem, c1]
    refine call_of (slicesSort_sat (extN l s k) (by omega)) (by simp -implicitDefEqProofs (maxSteps := 2000000) only [go_sem]) (by kernel_rfl) (by simp -implicitDefEqProofs (maxSteps := 2000000) only [go_sem]) ?_
    simp -implicitDefEqProofs (maxSteps := 2000000) only [go_sem]
    exact ⟨⟨(List.length_mergeSort ..).symm, rfl⟩, by kernel_rfl⟩
end Go.Proofs.Ytbalifgacjmbpaa.A
