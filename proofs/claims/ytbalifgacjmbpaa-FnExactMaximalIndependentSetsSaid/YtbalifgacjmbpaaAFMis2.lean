
/- ALL MAXIMAL INDEPENDENT SETS: the two programs. Conditions: none. -/
import Derived.Test.YtbalifgacjmbpaaAFMis
namespace Go.Proofs.Ytbalifgacjmbpaa.A
open Go
set_option linter.unusedSimpArgs false
set_option linter.unusedVariables false
set_option maxRecDepth 100000

theorem any_stepM {α : Type} {d : α} {l : List α} {k : Nat} {p : α → Bool} (h : k < l.length) : (l.take (k + 1)).any p = ((l.take k).any p || p (l.getD k d)) := by
  rw [take_snoc d h, List.any_append]; simp
theorem walkS_len (n : Nat) (l : List Edge) : ∀ (m : Nat) (s : List Int), (walkS n l m s).length ≤ 2 ^ m
  | 0, s => by unfold walkS; split <;> simp
  | m + 1, s => by
    have h1 := walkS_len n l m (s ++ [((n - (m + 1) : Nat) : Int)])
    have h2 := walkS_len n l m s
    unfold walkS
    rw [List.length_append, Nat.pow_succ]
    split <;> split <;> simp <;> omega
theorem pow14 {m : Nat} (h : m ≤ 14) : 2 ^ m ≤ 16384 := Nat.pow_le_pow_right (by omega) h
theorem ints_nilf : (ints [] = frz []) = True := eq_true rfl
attribute [go_sem] ints_nilf
theorem rst_two (a b : List (List Int)) : rst (iss 999 a ++ iss 1 b) = iss 1 (a ++ b) := by
  rw [show ∀ x y : Rows, rst (x ++ y) = rst x ++ rst y from fun x y => List.map_append .., iss_rst 998, iss_rst 0, iss_append]
set_option maxHeartbeats 4000000 in
theorem l8Walk_step (n : Nat) (l : List Edge) (s : List Int) (x x' : Int) (o1 o2 : List (List Int)) (hn : n ≤ 14) (hl : l.length ≤ 9223372036854775807) (hs : s.length ≤ 14) (wx : IntKind.i64.wrap (x + 1) = x') (ne : (x == (n : Int)) = false) (b1 : o1.length ≤ 16384) (b2 : o2.length ≤ 16384)
    (ih1 : Sat Try.prog 35 [lInt n, lEds l, lInts (s ++ [x]), lInt x'] [oISS o1] [g1, g1, g1, g1]) (ih2 : Sat Try.prog 35 [lInt n, lEds l, lInts s, lInt x'] [oISS o2] [g1, g1, g1, g1]) :
    Sat Try.prog 35 [lInt n, lEds l, lInts s, lInt x] [oISS ((if fitsE l s x then o1 else []) ++ (if metE l x then o2 else []))] [g1, g1, g1, g1] := by
  refine sat_of_body mixed Try.func35 rfl (by kernel_rfl) (by kernel_rfl) (rs := [.tmp 8]) rfl rfl rfl ?_
  rcases d : fitsE l s x
  · rw [if_neg (by simp)]
    simp -implicitDefEqProofs (maxSteps := 2000000) only [go_sem, ne]
    refine call_of (l8Fits_sat l s x hl (by omega)) (by simp -implicitDefEqProofs (maxSteps := 2000000) only [go_sem, d]) (by kernel_rfl) (by simp -implicitDefEqProofs (maxSteps := 2000000) only [go_sem, d]) ?_
    simp -implicitDefEqProofs (maxSteps := 2000000) only [go_sem, d]
    refine awp_loop Nat (fun k => mkSt [(0, .sc (.int .i64 n)), (1, .one (.im 2 (eds l))), (2, .one (.im 1 (ints s))), (3, .sc (.int .i64 x)), (9, .one (.ref 960 1 0 0)), (10, .sc (.bool ((l.take k).any fun e => (e.a == x) || (e.b == x)))), (11, .sc (.int .i64 k))] [] [(960, (1, iss 999 []))] 4000)
      (fun k => k ≤ l.length) (fun k => l.length - k) 0 (by omega) (le_st' _ _ [⟨960, some _, false, 1, _⟩] [] _ (by simp -implicitDefEqProofs (maxSteps := 2000000) only [go_sem, List.take_zero, List.any_nil] <;> and_intros <;> rfl) (by simp -implicitDefEqProofs (maxSteps := 2000000) only [go_sem, List.take_zero, List.any_nil] <;> and_intros <;> rfl) (by simp -implicitDefEqProofs (maxSteps := 2000000) only [go_sem, List.take_zero, List.any_nil] <;> and_intros <;> rfl) (by rfl)) ?_
    rintro k h3
    by_cases c1 : k < l.length
    · have st := any_stepM (d := default) (p := fun e : Edge => (e.a == x) || (e.b == x)) c1
      have wk : IntKind.i64.wrap ((k : Int) + 1) = ((k + 1 : Nat) : Int) := i64_succ (by omega)
      rcases d1 : ((l.take k).any fun e => (e.a == x) || (e.b == x))
      · rcases d2 : (l.getD k default).a == x
        · simp -implicitDefEqProofs (maxSteps := 2000000) only [go_sem, c1, d2]
          rw [wk]
          refine ⟨k + 1, c1, by omega, ?_⟩
          rw [st, d1, d2, Bool.false_or, Bool.false_or]
          exact (le_st' _ _ [⟨960, some _, false, 1, _⟩] [] _ (by simp -implicitDefEqProofs (maxSteps := 2000000) only [go_sem] <;> and_intros <;> rfl) (by simp -implicitDefEqProofs (maxSteps := 2000000) only [go_sem] <;> and_intros <;> rfl) (by simp -implicitDefEqProofs (maxSteps := 2000000) only [go_sem] <;> and_intros <;> rfl) (by rfl))
        · simp -implicitDefEqProofs (maxSteps := 2000000) only [go_sem, c1, d2]
          rw [wk]
          refine ⟨k + 1, c1, by omega, ?_⟩
          rw [st, d1, d2, Bool.false_or, Bool.true_or]
          exact (le_st' _ _ [⟨960, some _, false, 1, _⟩] [] _ (by simp -implicitDefEqProofs (maxSteps := 2000000) only [go_sem] <;> and_intros <;> rfl) (by simp -implicitDefEqProofs (maxSteps := 2000000) only [go_sem] <;> and_intros <;> rfl) (by simp -implicitDefEqProofs (maxSteps := 2000000) only [go_sem] <;> and_intros <;> rfl) (by rfl))
      · simp -implicitDefEqProofs (maxSteps := 2000000) only [go_sem, c1]
        rw [wk]
        refine ⟨k + 1, c1, by omega, ?_⟩
        rw [st, d1, Bool.true_or]
        exact (le_st' _ _ [⟨960, some _, false, 1, _⟩] [] _ (by simp -implicitDefEqProofs (maxSteps := 2000000) only [go_sem] <;> and_intros <;> rfl) (by simp -implicitDefEqProofs (maxSteps := 2000000) only [go_sem] <;> and_intros <;> rfl) (by simp -implicitDefEqProofs (maxSteps := 2000000) only [go_sem] <;> and_intros <;> rfl) (by rfl))
    · obtain rfl : k = l.length := by omega
      rw [List.take_length, show (l.any fun e => (e.a == x) || (e.b == x)) = metE l x from rfl]
      rcases d3 : metE l x
      · simp -implicitDefEqProofs (maxSteps := 2000000) only [go_sem, c1]
        first | done | rfl | exact ⟨rfl, rfl⟩ | exact ⟨rfl, rfl, rfl⟩ | (refine tr_and ?_ ?_ <;> first | rfl | exact ⟨rfl, rfl⟩ | kernel_rfl)
      · simp -implicitDefEqProofs (maxSteps := 2000000) only [go_sem, c1]
        rw [wx]
        refine call_of (ih2) (by simp -implicitDefEqProofs (maxSteps := 2000000) only [go_sem]) (by kernel_rfl) (by simp -implicitDefEqProofs (maxSteps := 2000000) only [go_sem]) ?_
        simp -implicitDefEqProofs (maxSteps := 2000000) only [go_sem]
        split
        · exact ⟨by omega, (rst_two [] o2).symm, by kernel_rfl⟩
        · exact ⟨by omega, (rst_two [] o2).symm, by kernel_rfl⟩
  · rw [if_pos rfl]
    simp -implicitDefEqProofs (maxSteps := 2000000) only [go_sem, ne]
    refine call_of (l8Fits_sat l s x hl (by omega)) (by simp -implicitDefEqProofs (maxSteps := 2000000) only [go_sem, d]) (by kernel_rfl) (by simp -implicitDefEqProofs (maxSteps := 2000000) only [go_sem, d]) ?_
    simp -implicitDefEqProofs (maxSteps := 2000000) only [go_sem, d]
    repeat (refine ⟨by omega, ?_⟩)
    rw [wx]
    refine call_of (ih1) (by simp -implicitDefEqProofs (maxSteps := 2000000) only [go_sem]) (callOk_still (by kernel_rfl) (by simp only [List.all_cons, List.all_nil, LV.still, LV.leaves, Leaf.still, ints_still, ris_still, eds_still, rels_still, iss_still, Bool.and_self, Bool.and_true])) (by simp -implicitDefEqProofs (maxSteps := 2000000) only [go_sem]) ?_
    simp -implicitDefEqProofs (maxSteps := 2000000) only [go_sem]
    refine awp_loop Nat (fun k => mkSt [(0, .sc (.int .i64 n)), (1, .one (.im 2 (eds l))), (2, .one (.im 1 (ints s))), (3, .sc (.int .i64 x)), (9, .one (.ref 960 1 0 o1.length)), (10, .sc (.bool ((l.take k).any fun e => (e.a == x) || (e.b == x)))), (11, .sc (.int .i64 k))] [] [(960, (1, iss 999 o1))] 4000)
      (fun k => k ≤ l.length) (fun k => l.length - k) 0 (by omega) (le_st' _ _ [⟨960, some _, false, 1, _⟩] [] _ (by simp -implicitDefEqProofs (maxSteps := 2000000) only [go_sem, List.take_zero, List.any_nil] <;> and_intros <;> rfl) (by simp -implicitDefEqProofs (maxSteps := 2000000) only [go_sem, List.take_zero, List.any_nil] <;> and_intros <;> rfl) (by simp -implicitDefEqProofs (maxSteps := 2000000) only [go_sem, List.take_zero, List.any_nil] <;> and_intros <;> rfl) (by rfl)) ?_
    rintro k h3
    by_cases c1 : k < l.length
    · have st := any_stepM (d := default) (p := fun e : Edge => (e.a == x) || (e.b == x)) c1
      have wk : IntKind.i64.wrap ((k : Int) + 1) = ((k + 1 : Nat) : Int) := i64_succ (by omega)
      rcases d1 : ((l.take k).any fun e => (e.a == x) || (e.b == x))
      · rcases d2 : (l.getD k default).a == x
        · simp -implicitDefEqProofs (maxSteps := 2000000) only [go_sem, c1, d2]
          rw [wk]
          refine ⟨k + 1, c1, by omega, ?_⟩
          rw [st, d1, d2, Bool.false_or, Bool.false_or]
          exact (le_st' _ _ [⟨960, some _, false, 1, _⟩] [] _ (by simp -implicitDefEqProofs (maxSteps := 2000000) only [go_sem] <;> and_intros <;> rfl) (by simp -implicitDefEqProofs (maxSteps := 2000000) only [go_sem] <;> and_intros <;> rfl) (by simp -implicitDefEqProofs (maxSteps := 2000000) only [go_sem] <;> and_intros <;> rfl) (by rfl))
        · simp -implicitDefEqProofs (maxSteps := 2000000) only [go_sem, c1, d2]
          rw [wk]
          refine ⟨k + 1, c1, by omega, ?_⟩
          rw [st, d1, d2, Bool.false_or, Bool.true_or]
          exact (le_st' _ _ [⟨960, some _, false, 1, _⟩] [] _ (by simp -implicitDefEqProofs (maxSteps := 2000000) only [go_sem] <;> and_intros <;> rfl) (by simp -implicitDefEqProofs (maxSteps := 2000000) only [go_sem] <;> and_intros <;> rfl) (by simp -implicitDefEqProofs (maxSteps := 2000000) only [go_sem] <;> and_intros <;> rfl) (by rfl))
      · simp -implicitDefEqProofs (maxSteps := 2000000) only [go_sem, c1]
        rw [wk]
        refine ⟨k + 1, c1, by omega, ?_⟩
        rw [st, d1, Bool.true_or]
        exact (le_st' _ _ [⟨960, some _, false, 1, _⟩] [] _ (by simp -implicitDefEqProofs (maxSteps := 2000000) only [go_sem] <;> and_intros <;> rfl) (by simp -implicitDefEqProofs (maxSteps := 2000000) only [go_sem] <;> and_intros <;> rfl) (by simp -implicitDefEqProofs (maxSteps := 2000000) only [go_sem] <;> and_intros <;> rfl) (by rfl))
    · obtain rfl : k = l.length := by omega
      rw [List.take_length, show (l.any fun e => (e.a == x) || (e.b == x)) = metE l x from rfl]
      rcases d3 : metE l x
      · simp -implicitDefEqProofs (maxSteps := 2000000) only [go_sem, c1]
        first | done | rfl | exact ⟨rfl, rfl⟩ | exact ⟨rfl, rfl, rfl⟩ | (refine tr_and ?_ ?_ <;> first | rfl | exact ⟨rfl, rfl⟩ | kernel_rfl)
      · simp -implicitDefEqProofs (maxSteps := 2000000) only [go_sem, c1]
        rw [wx]
        refine call_of (ih2) (by simp -implicitDefEqProofs (maxSteps := 2000000) only [go_sem]) (by kernel_rfl) (by simp -implicitDefEqProofs (maxSteps := 2000000) only [go_sem]) ?_
        simp -implicitDefEqProofs (maxSteps := 2000000) only [go_sem]
        split
        · exact ⟨by omega, (rst_two o1 o2).symm, by kernel_rfl⟩
        · exact ⟨by omega, (rst_two o1 o2).symm, by kernel_rfl⟩
theorem l8Walk_sat (n : Nat) (l : List Edge) (hn : n ≤ 14) (hl : l.length ≤ 9223372036854775807) : ∀ (m : Nat) (s : List Int), m ≤ n → s.length + m ≤ 14 → Sat Try.prog 35 [lInt n, lEds l, lInts s, lInt ((n - m : Nat) : Int)] [oISS (walkS n l m s)] [g1, g1, g1, g1]
  | 0, s, h1, h2 => by
    refine sat_of_body mixed Try.func35 rfl (by kernel_rfl) (by kernel_rfl) (rs := [.tmp 8]) rfl rfl rfl ?_
    unfold walkS
    rw [Nat.sub_zero]
    simp -implicitDefEqProofs (maxSteps := 2000000) only [go_sem]
    rcases d : isMax n l s
    · refine call_of (specIsMaximalIndependent_sat n l s hl (by omega)) (by simp -implicitDefEqProofs (maxSteps := 2000000) only [go_sem, d]) (by kernel_rfl) (by simp -implicitDefEqProofs (maxSteps := 2000000) only [go_sem, d]) ?_
      simp -implicitDefEqProofs (maxSteps := 2000000) only [go_sem, d]
      first | done | rfl | exact ⟨rfl, rfl⟩ | exact ⟨rfl, rfl, rfl⟩ | (refine tr_and ?_ ?_ <;> first | rfl | exact ⟨rfl, rfl⟩ | kernel_rfl)
    · refine call_of (specIsMaximalIndependent_sat n l s hl (by omega)) (by simp -implicitDefEqProofs (maxSteps := 2000000) only [go_sem, d]) (by kernel_rfl) (by simp -implicitDefEqProofs (maxSteps := 2000000) only [go_sem, d]) ?_
      simp -implicitDefEqProofs (maxSteps := 2000000) only [go_sem, d]
      repeat (refine ⟨by omega, ?_⟩)
      first | done | rfl | exact ⟨rfl, rfl⟩ | exact ⟨rfl, rfl, rfl⟩ | (refine tr_and ?_ ?_ <;> first | rfl | exact ⟨rfl, rfl⟩ | kernel_rfl)
  | m + 1, s, h1, h2 =>
    l8Walk_step n l s _ _ _ _ hn hl (by omega) (by rw [IntWalk.i64_in _ (by omega)]; omega) (by rw [beq_eq_false_iff_ne]; omega)
      (Nat.le_trans (walkS_len n l m (s ++ [((n - (m + 1) : Nat) : Int)])) (pow14 (by omega))) (Nat.le_trans (walkS_len n l m s) (pow14 (by omega)))
      (l8Walk_sat n l hn hl m (s ++ [((n - (m + 1) : Nat) : Int)]) (by omega) (by simp; omega)) (l8Walk_sat n l hn hl m s (by omega) (by omega))
theorem specMaximalIndependentSets_sat (n : Int) (l : List Edge) (hl : l.length ≤ 9223372036854775807) : Sat Try.prog 9 [lInt n, lEds l] [oISS (mis n l)] [g1, g1] := by
  refine sat_of_body mixed Try.func9 rfl (by kernel_rfl) (by kernel_rfl) (rs := [.tmp 4]) rfl rfl rfl ?_
  unfold mis
  simp -implicitDefEqProofs (maxSteps := 2000000) only [go_sem]
  rcases g : goodEds n l
  · rw [if_neg (by simp)]
    refine call_of (specAreValidEdges_sat n l hl) (by simp -implicitDefEqProofs (maxSteps := 2000000) only [go_sem, g]) (by kernel_rfl) (by simp -implicitDefEqProofs (maxSteps := 2000000) only [go_sem, g]) ?_
    simp -implicitDefEqProofs (maxSteps := 2000000) only [go_sem, g]
    first | done | rfl | exact ⟨rfl, rfl⟩ | exact ⟨rfl, rfl, rfl⟩ | (refine tr_and ?_ ?_ <;> first | rfl | exact ⟨rfl, rfl⟩ | kernel_rfl)
  have hn := goodEds_n g
  rw [if_pos rfl]
  obtain ⟨m, rfl⟩ : ∃ m : Nat, n = m := ⟨n.toNat, by omega⟩
  rw [show ((m : Nat) : Int).toNat = m by omega, ← walk_same m [] (Nat.le_refl _) (fun y hy => by cases hy)]
  have h := l8Walk_sat m l (by omega) hl m [] (Nat.le_refl _) (by simp; omega)
  rw [Nat.sub_self] at h
  refine call_of (specAreValidEdges_sat m l hl) (by simp -implicitDefEqProofs (maxSteps := 2000000) only [go_sem, g]) (by kernel_rfl) (by simp -implicitDefEqProofs (maxSteps := 2000000) only [go_sem, g]) ?_
  simp -implicitDefEqProofs (maxSteps := 2000000) only [go_sem, g]
  refine call_of (h) (by simp -implicitDefEqProofs (maxSteps := 2000000) only [go_sem]) (callOk_still (by kernel_rfl) (by simp only [List.all_cons, List.all_nil, LV.still, LV.leaves, Leaf.still, ints_still, ris_still, eds_still, rels_still, iss_still, Bool.and_self, Bool.and_true])) (by simp -implicitDefEqProofs (maxSteps := 2000000) only [go_sem]) ?_
  simp -implicitDefEqProofs (maxSteps := 2000000) only [go_sem]
  first | done | rfl | exact ⟨rfl, rfl⟩ | exact ⟨rfl, rfl, rfl⟩ | (refine tr_and ?_ ?_ <;> first | rfl | exact ⟨rfl, rfl⟩ | kernel_rfl)
end Go.Proofs.Ytbalifgacjmbpaa.A
