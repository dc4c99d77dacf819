
/- CONFLICT GRAPHS: valid edges, independent sets. Conditions: none. -/
import Derived.Test.YtbalifgacjmbpaaAFE
import Derived.Test.YtbalifgacjmbpaaAFV
import Derived.Test.YtbalifgacjmbpaaAFSort
import Derived.Test.YtbalifgacjmbpaaA43
namespace Go.Proofs.Ytbalifgacjmbpaa.A
open Go
set_option linter.unusedSimpArgs false
set_option linter.unusedVariables false
set_option maxRecDepth 100000

/-- Does the i-th edge stand behind the one before it. -/
def lexAt (l : List Edge) (i : Nat) : Bool := decide (i = 0) || !(decide ((l.getD i default).a < (l.getD (i - 1) default).a) || (((l.getD i default).a == (l.getD (i - 1) default).a) && decide ((l.getD i default).b ≤ (l.getD (i - 1) default).b)))
def edAt (n : Int) (l : List Edge) (i : Nat) : Bool := inB (l.getD i default).a 0 ((l.getD i default).b - 1) && (inB (l.getD i default).b 0 (n - 1) && lexAt l i)
def edRaw (n : Int) (l : List Edge) (i : Nat) : Bool := inB (l.getD i default).a 0 (IntKind.i64.wrap ((l.getD i default).b - 1)) && (inB (l.getD i default).b 0 (IntKind.i64.wrap (n - 1)) && lexAt l i)
def goodEds (n : Int) (l : List Edge) : Bool := inB n 0 14 && upTo (edAt n l) l.length
theorem edRaw_eq {n : Int} (hn : inB n 0 14 = true) (l : List Edge) (i : Nat) : edRaw n l i = edAt n l i := by
  obtain ⟨h1, h2⟩ := inB_of hn
  unfold edRaw edAt
  rw [IntWalk.i64_in (n - 1) (by omega)]
  rcases d : inB (l.getD i default).b 0 (n - 1)
  · simp
  · obtain ⟨h3, h4⟩ := inB_of d
    rw [IntWalk.i64_in _ (by omega)]
theorem upTo_same {p p' : Nat → Bool} : ∀ {n : Nat}, (∀ k, k < n → p k = p' k) → upTo p n = upTo p' n
  | 0, _ => rfl
  | n + 1, h => by rw [upTo, upTo, upTo_same fun k hk => h k (by omega), h n (by omega)]
theorem goodEds_raw (n : Int) (l : List Edge) : goodEds n l = (upTo (edRaw n l) l.length && inB n 0 14) := by
  unfold goodEds
  rcases d : inB n 0 14
  · rw [Bool.and_false]; rfl
  · rw [upTo_same fun k _ => edRaw_eq d l k, Bool.and_true]; rfl
set_option maxHeartbeats 8000000 in
theorem specAreValidEdges_sat (n : Int) (l : List Edge) (h : l.length ≤ 9223372036854775807) : Sat Try.prog 34 [lInt n, lEds l] [lBool (goodEds n l)] [g1, g1] := by
  refine sat_of_body mixed Try.func34 rfl (by kernel_rfl) (by kernel_rfl) (rs := [.tmp 4]) rfl rfl rfl ?_
  have bad : ∀ k, k < l.length → edRaw n l k = false → goodEds n l = false := fun k hk e => by rw [goodEds_raw, upTo_false hk e]; rfl
  simp -implicitDefEqProofs (maxSteps := 2000000) only [go_sem]
  refine awp_loop Nat (fun k => mkSt [(0, .sc (.int .i64 n)), (1, .one (.im 2 (eds l))), (5, .sc (.int .i64 k))] [] [] 1000)
    (fun k => k ≤ l.length ∧ upTo (edRaw n l) k = true) (fun k => l.length - k) 0 ⟨by omega, rfl⟩ (le_st _ _ [] [] _ rfl (by simp -implicitDefEqProofs (maxSteps := 2000000) only [go_sem] <;> rfl) trivial trivial) ?_
  rintro k ⟨h1, h2⟩
  by_cases c1 : k < l.length
  · generalize ewn : IntKind.i64.wrap (n - 1) = wn
    generalize ewb : IntKind.i64.wrap ((l.getD k default).b - 1) = wb
    rcases d1 : inB (l.getD k default).a 0 wb
    · rw [bad k c1 (by rw [edRaw, ewb, d1]; rfl)]
      simp -implicitDefEqProofs (maxSteps := 2000000) only [go_sem, c1, ewn, ewb]
      refine call_of (inB_sat (l.getD k default).a 0 wb) (by simp -implicitDefEqProofs (maxSteps := 2000000) only [go_sem, d1, c1]) (by kernel_rfl) (by simp -implicitDefEqProofs (maxSteps := 2000000) only [go_sem, d1, c1]) ?_
      simp -implicitDefEqProofs (maxSteps := 2000000) only [go_sem, d1, c1]
      first | done | rfl | exact ⟨rfl, rfl⟩ | exact ⟨rfl, rfl, rfl⟩ | (refine tr_and ?_ ?_ <;> first | rfl | exact ⟨rfl, rfl⟩ | kernel_rfl)
    rcases d2 : inB (l.getD k default).b 0 wn
    · rw [bad k c1 (by rw [edRaw, ewb, ewn, d1, d2]; rfl)]
      simp -implicitDefEqProofs (maxSteps := 2000000) only [go_sem, c1, ewn, ewb]
      refine call_of (inB_sat (l.getD k default).a 0 wb) (by simp -implicitDefEqProofs (maxSteps := 2000000) only [go_sem, d1, c1, ewn]) (by kernel_rfl) (by simp -implicitDefEqProofs (maxSteps := 2000000) only [go_sem, d1, c1, ewn]) ?_
      simp -implicitDefEqProofs (maxSteps := 2000000) only [go_sem, d1, c1, ewn]
      refine call_of (inB_sat (l.getD k default).b 0 wn) (by simp -implicitDefEqProofs (maxSteps := 2000000) only [go_sem, d2, c1]) (by kernel_rfl) (by simp -implicitDefEqProofs (maxSteps := 2000000) only [go_sem, d2, c1]) ?_
      simp -implicitDefEqProofs (maxSteps := 2000000) only [go_sem, d2, c1]
      first | done | rfl | exact ⟨rfl, rfl⟩ | exact ⟨rfl, rfl, rfl⟩ | (refine tr_and ?_ ?_ <;> first | rfl | exact ⟨rfl, rfl⟩ | kernel_rfl)
    rcases k with _ | j
    · have e : edRaw n l 0 = true := by rw [edRaw, ewb, ewn, d1, d2]; rfl
      have c0 : (0 : Int) < l.length := by omega
      simp -implicitDefEqProofs (maxSteps := 2000000) only [go_sem, c1, c0, ewn, ewb]
      refine call_of (inB_sat (l.getD 0 default).a 0 wb) (by simp -implicitDefEqProofs (maxSteps := 2000000) only [go_sem, d1, c1, c0, ewn]) (by kernel_rfl) (by simp -implicitDefEqProofs (maxSteps := 2000000) only [go_sem, d1, c1, c0, ewn]) ?_
      simp -implicitDefEqProofs (maxSteps := 2000000) only [go_sem, d1, c1, c0, ewn]
      refine call_of (inB_sat (l.getD 0 default).b 0 wn) (by simp -implicitDefEqProofs (maxSteps := 2000000) only [go_sem, d2, c1, c0]) (by kernel_rfl) (by simp -implicitDefEqProofs (maxSteps := 2000000) only [go_sem, d2, c1, c0]) ?_
      simp -implicitDefEqProofs (maxSteps := 2000000) only [go_sem, d2, c1, c0]
      first | (with_reducible refine tr_and ?_ ?_; focus kernel_rfl) | (with_reducible refine tr_only ?_; kernel_rfl) | skip
      exact ⟨1, ⟨c1, upTo_step h2 e⟩, by omega, (le_st _ _ [] [] _ rfl (by simp -implicitDefEqProofs (maxSteps := 2000000) only [go_sem] <;> rfl) trivial trivial)⟩
    · have c2 : j < l.length := by omega
      have c3 : 0 < ((j + 1 : Nat) : Int) := by omega
      have w1 := i64_pred (j := j) (by omega)
      rcases d3 : decide ((l.getD (j + 1) default).a < (l.getD j default).a)
      case true =>
        rw [bad (j + 1) c1 (by rw [edRaw, ewb, ewn, d1, d2, lexAt, Nat.add_sub_cancel, d3]; rfl)]
        simp -implicitDefEqProofs (maxSteps := 2000000) only [go_sem, c1, ewn, ewb]
        refine call_of (inB_sat (l.getD (j + 1) default).a 0 wb) (by simp -implicitDefEqProofs (maxSteps := 2000000) only [go_sem, d1, c1, ewn]) (by kernel_rfl) (by simp -implicitDefEqProofs (maxSteps := 2000000) only [go_sem, d1, c1, ewn]) ?_
        simp -implicitDefEqProofs (maxSteps := 2000000) only [go_sem, d1, c1, ewn]
        refine call_of (inB_sat (l.getD (j + 1) default).b 0 wn) (by simp -implicitDefEqProofs (maxSteps := 2000000) only [go_sem, d2, d3, c1, c2, c3, w1]) (by kernel_rfl) (by simp -implicitDefEqProofs (maxSteps := 2000000) only [go_sem, d2, d3, c1, c2, c3, w1]) ?_
        simp -implicitDefEqProofs (maxSteps := 2000000) only [go_sem, d2, d3, c1, c2, c3, w1]
        first | done | rfl | exact ⟨rfl, rfl⟩ | exact ⟨rfl, rfl, rfl⟩ | (refine tr_and ?_ ?_ <;> first | rfl | exact ⟨rfl, rfl⟩ | kernel_rfl)
      rcases d4 : (l.getD (j + 1) default).a == (l.getD j default).a
      · have e : edRaw n l (j + 1) = true := by rw [edRaw, ewb, ewn, d1, d2, lexAt, Nat.add_sub_cancel, d3, d4]; rfl
        simp -implicitDefEqProofs (maxSteps := 2000000) only [go_sem, c1, ewn, ewb]
        refine call_of (inB_sat (l.getD (j + 1) default).a 0 wb) (by simp -implicitDefEqProofs (maxSteps := 2000000) only [go_sem, d1, c1, ewn]) (by kernel_rfl) (by simp -implicitDefEqProofs (maxSteps := 2000000) only [go_sem, d1, c1, ewn]) ?_
        simp -implicitDefEqProofs (maxSteps := 2000000) only [go_sem, d1, c1, ewn]
        refine call_of (inB_sat (l.getD (j + 1) default).b 0 wn) (by simp -implicitDefEqProofs (maxSteps := 2000000) only [go_sem, d2, d3, d4, c1, c2, c3, w1]) (by kernel_rfl) (by simp -implicitDefEqProofs (maxSteps := 2000000) only [go_sem, d2, d3, d4, c1, c2, c3, w1]) ?_
        simp -implicitDefEqProofs (maxSteps := 2000000) only [go_sem, d2, d3, d4, c1, c2, c3, w1]
        first | (with_reducible refine tr_and ?_ ?_; focus kernel_rfl) | (with_reducible refine tr_only ?_; kernel_rfl) | skip
        rw [i64_succ (by omega)]
        exact ⟨j + 1 + 1, ⟨c1, upTo_step h2 e⟩, by omega, (le_st _ _ [] [] _ rfl (by simp -implicitDefEqProofs (maxSteps := 2000000) only [go_sem] <;> rfl) trivial trivial)⟩
      rcases d5 : decide ((l.getD (j + 1) default).b ≤ (l.getD j default).b)
      · have e : edRaw n l (j + 1) = true := by rw [edRaw, ewb, ewn, d1, d2, lexAt, Nat.add_sub_cancel, d3, d4, d5]; rfl
        simp -implicitDefEqProofs (maxSteps := 2000000) only [go_sem, c1, ewn, ewb]
        refine call_of (inB_sat (l.getD (j + 1) default).a 0 wb) (by simp -implicitDefEqProofs (maxSteps := 2000000) only [go_sem, d1, c1, ewn]) (by kernel_rfl) (by simp -implicitDefEqProofs (maxSteps := 2000000) only [go_sem, d1, c1, ewn]) ?_
        simp -implicitDefEqProofs (maxSteps := 2000000) only [go_sem, d1, c1, ewn]
        refine call_of (inB_sat (l.getD (j + 1) default).b 0 wn) (by simp -implicitDefEqProofs (maxSteps := 2000000) only [go_sem, d2, d3, d4, d5, c1, c2, c3, w1]) (by kernel_rfl) (by simp -implicitDefEqProofs (maxSteps := 2000000) only [go_sem, d2, d3, d4, d5, c1, c2, c3, w1]) ?_
        simp -implicitDefEqProofs (maxSteps := 2000000) only [go_sem, d2, d3, d4, d5, c1, c2, c3, w1]
        first | (with_reducible refine tr_and ?_ ?_; focus kernel_rfl) | (with_reducible refine tr_only ?_; kernel_rfl) | skip
        rw [i64_succ (by omega)]
        exact ⟨j + 1 + 1, ⟨c1, upTo_step h2 e⟩, by omega, (le_st _ _ [] [] _ rfl (by simp -implicitDefEqProofs (maxSteps := 2000000) only [go_sem] <;> rfl) trivial trivial)⟩
      · rw [bad (j + 1) c1 (by rw [edRaw, ewb, ewn, d1, d2, lexAt, Nat.add_sub_cancel, d3, d4, d5]; rfl)]
        simp -implicitDefEqProofs (maxSteps := 2000000) only [go_sem, c1, ewn, ewb]
        refine call_of (inB_sat (l.getD (j + 1) default).a 0 wb) (by simp -implicitDefEqProofs (maxSteps := 2000000) only [go_sem, d1, c1, ewn]) (by kernel_rfl) (by simp -implicitDefEqProofs (maxSteps := 2000000) only [go_sem, d1, c1, ewn]) ?_
        simp -implicitDefEqProofs (maxSteps := 2000000) only [go_sem, d1, c1, ewn]
        refine call_of (inB_sat (l.getD (j + 1) default).b 0 wn) (by simp -implicitDefEqProofs (maxSteps := 2000000) only [go_sem, d2, d3, d4, d5, c1, c2, c3, w1]) (by kernel_rfl) (by simp -implicitDefEqProofs (maxSteps := 2000000) only [go_sem, d2, d3, d4, d5, c1, c2, c3, w1]) ?_
        simp -implicitDefEqProofs (maxSteps := 2000000) only [go_sem, d2, d3, d4, d5, c1, c2, c3, w1]
        first | done | rfl | exact ⟨rfl, rfl⟩ | exact ⟨rfl, rfl, rfl⟩ | (refine tr_and ?_ ?_ <;> first | rfl | exact ⟨rfl, rfl⟩ | kernel_rfl)
  · obtain rfl : k = l.length := by omega
    rw [goodEds_raw, h2]
    simp -implicitDefEqProofs (maxSteps := 2000000) only [go_sem, c1]
    refine call_of (inB_sat n 0 14) (by simp -implicitDefEqProofs (maxSteps := 2000000) only [go_sem]) (by kernel_rfl) (by simp -implicitDefEqProofs (maxSteps := 2000000) only [go_sem]) ?_
    simp -implicitDefEqProofs (maxSteps := 2000000) only [go_sem]
    first | done | rfl | exact ⟨rfl, rfl⟩ | exact ⟨rfl, rfl, rfl⟩ | (refine tr_and ?_ ?_ <;> first | rfl | exact ⟨rfl, rfl⟩ | kernel_rfl)
set_option maxHeartbeats 8000000 in
theorem implAreValidEdges_sat (n : Int) (l : List Edge) (h : l.length ≤ 9223372036854775807) : Sat Try.prog 37 [lInt n, lEds l] [lBool (goodEds n l)] [g1, g1] := by
  refine sat_of_body mixed Try.func37 rfl (by kernel_rfl) (by kernel_rfl) (rs := [.tmp 4]) rfl rfl rfl ?_
  simp -implicitDefEqProofs (maxSteps := 2000000) only [go_sem]
  rcases d0 : inB n 0 14
  · rw [show goodEds n l = false by rw [goodEds, d0]; rfl]
    refine call_of (inW_sat n 0 14) (by simp -implicitDefEqProofs (maxSteps := 2000000) only [go_sem, d0]) (by kernel_rfl) (by simp -implicitDefEqProofs (maxSteps := 2000000) only [go_sem, d0]) ?_
    simp -implicitDefEqProofs (maxSteps := 2000000) only [go_sem, d0]
    first | done | rfl | exact ⟨rfl, rfl⟩ | exact ⟨rfl, rfl, rfl⟩ | (refine tr_and ?_ ?_ <;> first | rfl | exact ⟨rfl, rfl⟩ | kernel_rfl)
  refine call_of (inW_sat n 0 14) (by simp -implicitDefEqProofs (maxSteps := 2000000) only [go_sem, d0]) (by kernel_rfl) (by simp -implicitDefEqProofs (maxSteps := 2000000) only [go_sem, d0]) ?_
  simp -implicitDefEqProofs (maxSteps := 2000000) only [go_sem, d0]
  have ge : goodEds n l = upTo (edAt n l) l.length := by rw [goodEds, d0]; rfl
  have bad : ∀ k, k < l.length → edAt n l k = false → goodEds n l = false := fun k hk e => by rw [ge, upTo_false hk e]
  refine awp_loop Nat (fun k => mkSt [(0, .sc (.int .i64 n)), (1, .one (.im 2 (eds l))), (10, .one (.im 2 (eds l))), (11, .sc (.int .i64 l.length)), (12, .sc (.int .i64 k))] [] [] 2000)
    (fun k => k ≤ l.length ∧ upTo (edAt n l) k = true) (fun k => l.length - k) 0 ⟨by omega, rfl⟩ (le_st _ _ [] [] _ rfl (by simp -implicitDefEqProofs (maxSteps := 2000000) only [go_sem] <;> rfl) trivial trivial) ?_
  rintro k ⟨h1, h2⟩
  by_cases c1 : k < l.length
  · rcases d1 : decide ((l.getD k default).a < 0)
    case true =>
      rw [bad k c1 (by rw [edAt, inB, decide_eq_false (by have := of_decide_eq_true d1; omega)]; rfl)]
      simp -implicitDefEqProofs (maxSteps := 2000000) only [go_sem, c1, d1]
      first | (with_reducible refine tr_and ?_ ?_; focus kernel_rfl) | (with_reducible refine tr_only ?_; kernel_rfl) | skip
      first | done | rfl | exact ⟨rfl, rfl⟩ | exact ⟨rfl, rfl, rfl⟩ | (refine tr_and ?_ ?_ <;> first | rfl | exact ⟨rfl, rfl⟩ | kernel_rfl)
    rcases d2 : decide ((l.getD k default).a ≥ (l.getD k default).b)
    case true =>
      rw [bad k c1 (by rw [edAt, inB, decide_eq_false (show ¬ (l.getD k default).a ≤ (l.getD k default).b - 1 by have := of_decide_eq_true d2; omega), Bool.and_false]; rfl)]
      simp -implicitDefEqProofs (maxSteps := 2000000) only [go_sem, c1, d1, d2]
      first | (with_reducible refine tr_and ?_ ?_; focus kernel_rfl) | (with_reducible refine tr_only ?_; kernel_rfl) | skip
      first | done | rfl | exact ⟨rfl, rfl⟩ | exact ⟨rfl, rfl, rfl⟩ | (refine tr_and ?_ ?_ <;> first | rfl | exact ⟨rfl, rfl⟩ | kernel_rfl)
    rcases d3 : decide ((l.getD k default).b ≥ n)
    case true =>
      rw [bad k c1 (by rw [edAt, inB, inB, decide_eq_false (show ¬ (l.getD k default).b ≤ n - 1 by have := of_decide_eq_true d3; omega)]; simp)]
      simp -implicitDefEqProofs (maxSteps := 2000000) only [go_sem, c1, d1, d2, d3]
      first | (with_reducible refine tr_and ?_ ?_; focus kernel_rfl) | (with_reducible refine tr_only ?_; kernel_rfl) | skip
      first | done | rfl | exact ⟨rfl, rfl⟩ | exact ⟨rfl, rfl, rfl⟩ | (refine tr_and ?_ ?_ <;> first | rfl | exact ⟨rfl, rfl⟩ | kernel_rfl)
    have hin : inB (l.getD k default).a 0 ((l.getD k default).b - 1) = true ∧ inB (l.getD k default).b 0 (n - 1) = true := by
      have e1 := of_decide_eq_false d1
      have e2 := of_decide_eq_false d2
      have e3 := of_decide_eq_false d3
      unfold inB
      simp only [Bool.and_eq_true, decide_eq_true_eq]
      omega
    rcases k with _ | j
    · have e : edAt n l 0 = true := by rw [edAt, hin.1, hin.2]; rfl
      have c0 : (0 : Int) < l.length := by omega
      simp -implicitDefEqProofs (maxSteps := 2000000) only [go_sem, c1, c0, d1, d2, d3]
      first | (with_reducible refine tr_and ?_ ?_; focus kernel_rfl) | (with_reducible refine tr_only ?_; kernel_rfl) | skip
      exact ⟨1, ⟨c1, upTo_step h2 e⟩, by omega, (le_st _ _ [] [] _ rfl (by simp -implicitDefEqProofs (maxSteps := 2000000) only [go_sem] <;> rfl) trivial trivial)⟩
    · have c2 : j < l.length := by omega
      have c3 : 0 < ((j + 1 : Nat) : Int) := by omega
      have w1 := i64_pred (j := j) (by omega)
      have sym : ((l.getD (j + 1) default).a == (l.getD j default).a) = ((l.getD j default).a == (l.getD (j + 1) default).a) := by rw [Bool.eq_iff_iff, beq_iff_eq, beq_iff_eq]; exact ⟨Eq.symm, Eq.symm⟩
      rcases d4 : decide ((l.getD j default).a > (l.getD (j + 1) default).a)
      case true =>
        rw [bad (j + 1) c1 (by rw [edAt, hin.1, hin.2, lexAt, Nat.add_sub_cancel, show decide ((l.getD (j + 1) default).a < (l.getD j default).a) = true from d4]; rfl)]
        simp -implicitDefEqProofs (maxSteps := 2000000) only [go_sem, c1, c2, c3, w1, d1, d2, d3, d4]
        first | (with_reducible refine tr_and ?_ ?_; focus kernel_rfl) | (with_reducible refine tr_only ?_; kernel_rfl) | skip
        first | done | rfl | exact ⟨rfl, rfl⟩ | exact ⟨rfl, rfl, rfl⟩ | (refine tr_and ?_ ?_ <;> first | rfl | exact ⟨rfl, rfl⟩ | kernel_rfl)
      rcases d5 : (l.getD j default).a == (l.getD (j + 1) default).a
      · have e : edAt n l (j + 1) = true := by rw [edAt, hin.1, hin.2, lexAt, Nat.add_sub_cancel, show decide ((l.getD (j + 1) default).a < (l.getD j default).a) = false from d4, sym, d5]; rfl
        simp -implicitDefEqProofs (maxSteps := 2000000) only [go_sem, c1, c2, c3, w1, d1, d2, d3, d4, d5]
        first | (with_reducible refine tr_and ?_ ?_; focus kernel_rfl) | (with_reducible refine tr_only ?_; kernel_rfl) | skip
        rw [i64_succ (by omega)]
        exact ⟨j + 1 + 1, ⟨c1, upTo_step h2 e⟩, by omega, (le_st _ _ [] [] _ rfl (by simp -implicitDefEqProofs (maxSteps := 2000000) only [go_sem] <;> rfl) trivial trivial)⟩
      rcases d6 : decide ((l.getD j default).b ≥ (l.getD (j + 1) default).b)
      · have e : edAt n l (j + 1) = true := by rw [edAt, hin.1, hin.2, lexAt, Nat.add_sub_cancel, show decide ((l.getD (j + 1) default).a < (l.getD j default).a) = false from d4, sym, d5, show decide ((l.getD (j + 1) default).b ≤ (l.getD j default).b) = false from d6]; rfl
        simp -implicitDefEqProofs (maxSteps := 2000000) only [go_sem, c1, c2, c3, w1, d1, d2, d3, d4, d5, d6]
        first | (with_reducible refine tr_and ?_ ?_; focus kernel_rfl) | (with_reducible refine tr_only ?_; kernel_rfl) | skip
        rw [i64_succ (by omega)]
        exact ⟨j + 1 + 1, ⟨c1, upTo_step h2 e⟩, by omega, (le_st _ _ [] [] _ rfl (by simp -implicitDefEqProofs (maxSteps := 2000000) only [go_sem] <;> rfl) trivial trivial)⟩
      · rw [bad (j + 1) c1 (by rw [edAt, hin.1, hin.2, lexAt, Nat.add_sub_cancel, show decide ((l.getD (j + 1) default).a < (l.getD j default).a) = false from d4, sym, d5, show decide ((l.getD (j + 1) default).b ≤ (l.getD j default).b) = true from d6]; rfl)]
        simp -implicitDefEqProofs (maxSteps := 2000000) only [go_sem, c1, c2, c3, w1, d1, d2, d3, d4, d5, d6]
        first | (with_reducible refine tr_and ?_ ?_; focus kernel_rfl) | (with_reducible refine tr_only ?_; kernel_rfl) | skip
        first | done | rfl | exact ⟨rfl, rfl⟩ | exact ⟨rfl, rfl, rfl⟩ | (refine tr_and ?_ ?_ <;> first | rfl | exact ⟨rfl, rfl⟩ | kernel_rfl)
  · obtain rfl : k = l.length := by omega
    rw [ge, h2]
    simp -implicitDefEqProofs (maxSteps := 2000000) only [go_sem, c1]

/-! #### independent sets -/
def edNo (s : List Int) (l : List Edge) (k : Nat) : Bool := !(decide ((l.getD k default).a ∈ s) && decide ((l.getD k default).b ∈ s))
def indep (l : List Edge) (s : List Int) : Bool := upTo (edNo s l) l.length
theorem specIsIndependent_sat (l : List Edge) (s : List Int) (hl : l.length ≤ 9223372036854775807) (hs : s.length ≤ 9223372036854775807) : Sat Try.prog 44 [lEds l, lInts s] [lBool (indep l s)] [g1, g1] := by
  refine sat_of_body mixed Try.func44 rfl (by kernel_rfl) (by kernel_rfl) (rs := [.tmp 4]) rfl rfl rfl ?_
  simp -implicitDefEqProofs (maxSteps := 2000000) only [go_sem]
  refine awp_loop Nat (fun k => mkSt [(0, .one (.im 2 (eds l))), (1, .one (.im 1 (ints s))), (5, .sc (.int .i64 k))] [] [] 1000)
    (fun k => k ≤ l.length ∧ upTo (edNo s l) k = true) (fun k => l.length - k) 0 ⟨by omega, rfl⟩ (le_st _ _ [] [] _ rfl (by simp -implicitDefEqProofs (maxSteps := 2000000) only [go_sem] <;> rfl) trivial trivial) ?_
  rintro k ⟨h1, h2⟩
  by_cases c1 : k < l.length
  · rcases d1 : decide ((l.getD k default).a ∈ s)
    · simp -implicitDefEqProofs (maxSteps := 2000000) only [go_sem, c1]
      refine call_of (l7Has_sat s (l.getD k default).a hs) (by simp -implicitDefEqProofs (maxSteps := 2000000) only [go_sem, d1, c1]) (by kernel_rfl) (by simp -implicitDefEqProofs (maxSteps := 2000000) only [go_sem, d1, c1]) ?_
      simp -implicitDefEqProofs (maxSteps := 2000000) only [go_sem, d1, c1]
      rw [i64_succ (by omega)]
      exact ⟨k + 1, ⟨c1, upTo_step h2 (by rw [edNo, d1]; rfl)⟩, by omega, (le_st _ _ [] [] _ rfl (by simp -implicitDefEqProofs (maxSteps := 2000000) only [go_sem] <;> rfl) trivial trivial)⟩
    rcases d2 : decide ((l.getD k default).b ∈ s)
    · simp -implicitDefEqProofs (maxSteps := 2000000) only [go_sem, c1]
      refine call_of (l7Has_sat s (l.getD k default).a hs) (by simp -implicitDefEqProofs (maxSteps := 2000000) only [go_sem, d1, c1]) (by kernel_rfl) (by simp -implicitDefEqProofs (maxSteps := 2000000) only [go_sem, d1, c1]) ?_
      simp -implicitDefEqProofs (maxSteps := 2000000) only [go_sem, d1, c1]
      refine call_of (l7Has_sat s (l.getD k default).b hs) (by simp -implicitDefEqProofs (maxSteps := 2000000) only [go_sem, d2, c1]) (by kernel_rfl) (by simp -implicitDefEqProofs (maxSteps := 2000000) only [go_sem, d2, c1]) ?_
      simp -implicitDefEqProofs (maxSteps := 2000000) only [go_sem, d2, c1]
      rw [i64_succ (by omega)]
      exact ⟨k + 1, ⟨c1, upTo_step h2 (by rw [edNo, d1, d2]; rfl)⟩, by omega, (le_st _ _ [] [] _ rfl (by simp -implicitDefEqProofs (maxSteps := 2000000) only [go_sem] <;> rfl) trivial trivial)⟩
    · rw [show indep l s = false from upTo_false c1 (by rw [edNo, d1, d2]; rfl)]
      simp -implicitDefEqProofs (maxSteps := 2000000) only [go_sem, c1]
      refine call_of (l7Has_sat s (l.getD k default).a hs) (by simp -implicitDefEqProofs (maxSteps := 2000000) only [go_sem, d1, c1]) (by kernel_rfl) (by simp -implicitDefEqProofs (maxSteps := 2000000) only [go_sem, d1, c1]) ?_
      simp -implicitDefEqProofs (maxSteps := 2000000) only [go_sem, d1, c1]
      refine call_of (l7Has_sat s (l.getD k default).b hs) (by simp -implicitDefEqProofs (maxSteps := 2000000) only [go_sem, d2, c1]) (by kernel_rfl) (by simp -implicitDefEqProofs (maxSteps := 2000000) only [go_sem, d2, c1]) ?_
      simp -implicitDefEqProofs (maxSteps := 2000000) only [go_sem, d2, c1]
  · obtain rfl : k = l.length := by omega
    simp -implicitDefEqProofs (maxSteps := 2000000) only [go_sem, c1]
    rw [show indep l s = true from h2]
theorem isIndependent1_sat (s : List Int) (x : Edge) (hs : s.length ≤ 9223372036854775807) : Sat Try.prog 65 [.agg [.sc (.int .i64 x.a), .sc (.int .i64 x.b)], .one (.ip [.im 1 (ints s)])] [lBool (decide (x.a ∈ s) && decide (x.b ∈ s))] [g2, g1] := by
  refine sat_of_body mixed Try.func65 rfl (by kernel_rfl) (by kernel_rfl) (rs := [.tmp 3]) rfl rfl rfl ?_
  rcases x with ⟨a, b⟩
  simp -implicitDefEqProofs (maxSteps := 2000000) only [go_sem]
  rcases d1 : decide (a ∈ s)
  · refine call_of (slicesContains_sat s a hs) (by simp -implicitDefEqProofs (maxSteps := 2000000) only [go_sem, d1]) (by kernel_rfl) (by simp -implicitDefEqProofs (maxSteps := 2000000) only [go_sem, d1]) ?_
    simp -implicitDefEqProofs (maxSteps := 2000000) only [go_sem, d1]
    first | done | rfl | exact ⟨rfl, rfl⟩ | exact ⟨rfl, rfl, rfl⟩ | (refine tr_and ?_ ?_ <;> first | rfl | exact ⟨rfl, rfl⟩ | kernel_rfl)
  · refine call_of (slicesContains_sat s a hs) (by simp -implicitDefEqProofs (maxSteps := 2000000) only [go_sem, d1]) (by kernel_rfl) (by simp -implicitDefEqProofs (maxSteps := 2000000) only [go_sem, d1]) ?_
    simp -implicitDefEqProofs (maxSteps := 2000000) only [go_sem, d1]
    refine call_of (slicesContains_sat s b hs) (by simp -implicitDefEqProofs (maxSteps := 2000000) only [go_sem]) (by kernel_rfl) (by simp -implicitDefEqProofs (maxSteps := 2000000) only [go_sem]) ?_
    simp -implicitDefEqProofs (maxSteps := 2000000) only [go_sem]
    first | done | rfl | exact ⟨rfl, rfl⟩ | exact ⟨rfl, rfl, rfl⟩ | (refine tr_and ?_ ?_ <;> first | rfl | exact ⟨rfl, rfl⟩ | kernel_rfl)
theorem edsIndex_sat (l : List Edge) (s : List Int) (h : l.length ≤ 9223372036854775807) (hs : s.length ≤ 9223372036854775807) : Sat Try.prog 75 [lEds l, .one (.fn 65 [[.im 1 (ints s)]])] [lInt (firstNo (edNo s l) l.length 0)] [g1, g1] := by
  refine sat_of_body mixed Try.func75 rfl (by kernel_rfl) (by kernel_rfl) (rs := [.tmp 4]) rfl rfl rfl ?_
  simp -implicitDefEqProofs (maxSteps := 2000000) only [go_sem]
  refine awp_loop Nat (fun k => mkSt [(0, .one (.im 2 (eds l))), (1, .one (.fni 65 [[.im 1 (ints s)]])), (7, .sc (.int .i64 l.length)), (8, .sc (.int .i64 k))] [] [] 1000)
    (fun k => k ≤ l.length ∧ firstNo (edNo s l) (l.length - k) k = firstNo (edNo s l) l.length 0) (fun k => l.length - k) 0 ⟨by omega, rfl⟩ (le_st _ _ [] [] _ rfl (by simp -implicitDefEqProofs (maxSteps := 2000000) only [go_sem] <;> rfl) trivial trivial) ?_
  rintro k ⟨h1, h2⟩
  by_cases c1 : k < l.length
  · rw [show l.length - k = (l.length - (k + 1)) + 1 by omega, firstNo] at h2
    rcases d : (decide ((l.getD k default).a ∈ s) && decide ((l.getD k default).b ∈ s))
    · rw [if_pos (by rw [edNo, d]; rfl)] at h2
      simp -implicitDefEqProofs (maxSteps := 2000000) only [go_sem, c1]
      refine call_of (isIndependent1_sat s (l.getD k default) hs) (by simp -implicitDefEqProofs (maxSteps := 2000000) only [go_sem, d, c1]) (by kernel_rfl) (by simp -implicitDefEqProofs (maxSteps := 2000000) only [go_sem, d, c1]) ?_
      simp -implicitDefEqProofs (maxSteps := 2000000) only [go_sem, d, c1]
      rw [i64_succ (by omega)]
      exact ⟨k + 1, ⟨c1, h2⟩, by omega, (le_st _ _ [] [] _ rfl (by simp -implicitDefEqProofs (maxSteps := 2000000) only [go_sem] <;> rfl) trivial trivial)⟩
    · rw [if_neg (by rw [edNo, d]; simp)] at h2
      simp -implicitDefEqProofs (maxSteps := 2000000) only [go_sem, c1]
      refine call_of (isIndependent1_sat s (l.getD k default) hs) (by simp -implicitDefEqProofs (maxSteps := 2000000) only [go_sem, d, c1]) (by kernel_rfl) (by simp -implicitDefEqProofs (maxSteps := 2000000) only [go_sem, d, c1]) ?_
      simp -implicitDefEqProofs (maxSteps := 2000000) only [go_sem, d, c1]
      rw [← h2]
  · obtain rfl : k = l.length := by omega
    rw [Nat.sub_self, firstNo] at h2
    simp -implicitDefEqProofs (maxSteps := 2000000) only [go_sem, c1]
    rw [← h2]
theorem edsContains_sat (l : List Edge) (s : List Int) (h : l.length ≤ 9223372036854775807) (hs : s.length ≤ 9223372036854775807) : Sat Try.prog 64 [lEds l, .one (.fn 65 [[.im 1 (ints s)]])] [lBool (!indep l s)] [g1, g1] := by
  refine sat_of_body mixed Try.func64 rfl (by kernel_rfl) (by kernel_rfl) (rs := [.tmp 4]) rfl rfl rfl ?_
  simp -implicitDefEqProofs (maxSteps := 2000000) only [go_sem]
  refine call_of (edsIndex_sat l s h hs) (by simp -implicitDefEqProofs (maxSteps := 2000000) only [go_sem]) (by kernel_rfl) (by simp -implicitDefEqProofs (maxSteps := 2000000) only [go_sem]) ?_
  simp -implicitDefEqProofs (maxSteps := 2000000) only [go_sem]
  rw [firstNo_ge _ _ _ rfl, Nat.zero_add]
  rfl
theorem implIsIndependent_sat (l : List Edge) (s : List Int) (h : l.length ≤ 9223372036854775807) (hs : s.length ≤ 9223372036854775807) : Sat Try.prog 41 [lEds l, lInts s] [lBool (indep l s)] [g1, g1] := by
  refine sat_of_body mixed Try.func41 rfl (by kernel_rfl) (by kernel_rfl) (rs := [.tmp 4]) rfl rfl rfl ?_
  simp -implicitDefEqProofs (maxSteps := 2000000) only [go_sem]
  refine call_of (edsContains_sat l s h hs) (by simp -implicitDefEqProofs (maxSteps := 2000000) only [go_sem]) (by kernel_rfl) (by simp -implicitDefEqProofs (maxSteps := 2000000) only [go_sem]) ?_
  simp -implicitDefEqProofs (maxSteps := 2000000) only [go_sem]
  rw [Bool.not_not]
end Go.Proofs.Ytbalifgacjmbpaa.A
