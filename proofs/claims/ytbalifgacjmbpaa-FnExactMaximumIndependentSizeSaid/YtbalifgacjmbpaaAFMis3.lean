
/- ALL MAXIMAL INDEPENDENT SETS: the program's search. Conditions: none. -/
import Derived.Test.YtbalifgacjmbpaaAFMis2
import Derived.Test.YtbalifgacjmbpaaA44
namespace Go.Proofs.Ytbalifgacjmbpaa.A
open Go
set_option linter.unusedSimpArgs false
set_option linter.unusedVariables false
set_option maxRecDepth 100000

abbrev misT (n : Int) (l : List Edge) (o : List (List Int)) : List CV := [.flds [.sc (.int .i64 n)], .flds [.im 2 (eds l)], .own 1 (iss 999 o), .self 38]
theorem misT_stm (n : Int) (l : List Edge) (o : List (List Int)) : ∀ w rows, CV.own w rows ∈ misT n l o → stm 999 rows = rows := by
  intro w rows h
  simp at h
  obtain ⟨rfl, rfl⟩ := h
  exact iss_stm 999 998 o
theorem rep1 {α : Type} (a : α) : List.replicate 1 a = [a] := rfl
theorem search_zero (n : Nat) (l : List Edge) (s : List Int) (o : List (List Int)) (hl : l.length ≤ 9223372036854775807) (hs : s.length ≤ 14) (ho : o.length ≤ 32768) :
    RSat Try.prog 38 [lInt n, lInts s] (misT n l o) (misT n l (o ++ if isMax n l s then [s] else [])) := by
  refine rsat_of_body Try.func38 rfl (by kernel_rfl) rfl rfl (misT_stm _ _ _) ?_
  refine bwp_awp mixed (by kernel_rfl) ?_
  simp -implicitDefEqProofs (maxSteps := 2000000) only [go_sem]
  rcases d : isMax n l s
  · refine call_of (implIsMaximalIndependent_sat n l s hl (by omega)) (by simp -implicitDefEqProofs (maxSteps := 2000000) only [go_sem, d]) (by kernel_rfl) (by simp -implicitDefEqProofs (maxSteps := 2000000) only [go_sem, d]) ?_
    simp -implicitDefEqProofs (maxSteps := 2000000) only [go_sem, d]
    exact (le_st' _ _ [⟨960, some _, false, 1, _⟩] [] _ (by simp -implicitDefEqProofs (maxSteps := 2000000) only [go_sem] <;> and_intros <;> rfl) (by simp -implicitDefEqProofs (maxSteps := 2000000) only [go_sem] <;> and_intros <;> rfl) (by simp -implicitDefEqProofs (maxSteps := 2000000) only [go_sem] <;> and_intros <;> rfl) (by rfl))
  · refine call_of (implIsMaximalIndependent_sat n l s hl (by omega)) (by simp -implicitDefEqProofs (maxSteps := 2000000) only [go_sem, d]) (by kernel_rfl) (by simp -implicitDefEqProofs (maxSteps := 2000000) only [go_sem, d]) ?_
    simp -implicitDefEqProofs (maxSteps := 2000000) only [go_sem, d]
    repeat (refine ⟨by omega, ?_⟩)
    first | (with_reducible refine tr_and ?_ ?_; focus kernel_rfl) | (with_reducible refine tr_only ?_; kernel_rfl) | skip
    exact (le_st' _ _ [⟨960, some _, false, 1, _⟩] [] _ (by simp -implicitDefEqProofs (maxSteps := 2000000) only [go_sem, rep1, List.set_cons_zero, iss_one] <;> and_intros <;> rfl) (by simp -implicitDefEqProofs (maxSteps := 2000000) only [go_sem, rep1, List.set_cons_zero, iss_one] <;> and_intros <;> rfl) (by simp -implicitDefEqProofs (maxSteps := 2000000) only [go_sem, rep1, List.set_cons_zero, iss_one] <;> and_intros <;> rfl) (by rfl))
theorem search_step (n : Nat) (l : List Edge) (s : List Int) (x x' : Int) (o o1 w1 w2 : List (List Int)) (hl : l.length ≤ 9223372036854775807) (hs : s.length ≤ 14) (ho : o.length ≤ 32768) (wx : IntKind.i64.wrap (x + 1) = x') (ne : (x == (n : Int)) = false)
    (e1 : o1 = o ++ if indep l (s ++ [x]) then w1 else [])
    (ih1 : indep l (s ++ [x]) = true → RSat Try.prog 38 [lInt x', lInts (s ++ [x])] (misT n l o) (misT n l (o ++ w1)))
    (ih2 : RSat Try.prog 38 [lInt x', lInts s] (misT n l o1) (misT n l (o1 ++ w2))) :
    RSat Try.prog 38 [lInt x, lInts s] (misT n l o) (misT n l (o1 ++ w2)) := by
  refine rsat_of_body Try.func38 rfl (by kernel_rfl) rfl rfl (misT_stm _ _ _) ?_
  refine bwp_seq mixed (by kernel_rfl) ?_
  simp -implicitDefEqProofs (maxSteps := 2000000) only [go_sem, ne]
  refine bwp_seqB (bwp_seq mixed (by kernel_rfl) ?_)
  simp -implicitDefEqProofs (maxSteps := 2000000) only [go_sem]
  refine call_of (slicesClone_sat s (by omega)) (by simp -implicitDefEqProofs (maxSteps := 2000000) only [go_sem]) (callOk_still (by kernel_rfl) (by simp only [List.all_cons, List.all_nil, LV.still, LV.leaves, Leaf.still, ints_still, ris_still, eds_still, rels_still, iss_still, Bool.and_self, Bool.and_true])) (by simp -implicitDefEqProofs (maxSteps := 2000000) only [go_sem]) ?_
  simp -implicitDefEqProofs (maxSteps := 2000000) only [go_sem]
  repeat (refine ⟨by omega, ?_⟩)
  refine bwp_seq mixed (by kernel_rfl) ?_
  simp -implicitDefEqProofs (maxSteps := 2000000) only [go_sem]
  rcases d : indep l (s ++ [x])
  · have e1 : o1 = o := by rw [e1, d]; simp
    subst e1
    refine call_of (implIsIndependent_sat l (s ++ [x]) hl (by simp; omega)) (by simp -implicitDefEqProofs (maxSteps := 2000000) only [go_sem, d]) (by kernel_rfl) (by simp -implicitDefEqProofs (maxSteps := 2000000) only [go_sem, d]) ?_
    simp -implicitDefEqProofs (maxSteps := 2000000) only [go_sem, d]
    refine bwp_cond (t := false) (by simp -implicitDefEqProofs (maxSteps := 2000000) only [go_sem]) (fun h => by cases h) fun _ => bwp_skip ?_
    simp -implicitDefEqProofs (maxSteps := 2000000) only [go_sem]
    refine bwp_call ih2 [900, 901, 902, 903] 960 960 2000 [] rfl rfl rfl (by kernel_rfl) (by kernel_rfl) (by simp -implicitDefEqProofs (maxSteps := 2000000) only [go_sem, wx]; rfl) ?_
    simp -implicitDefEqProofs (maxSteps := 2000000) only [go_sem]
    exact (le_st' _ _ [⟨960, some _, false, 1, _⟩] [] _ (by simp -implicitDefEqProofs (maxSteps := 2000000) only [go_sem] <;> and_intros <;> rfl) (by simp -implicitDefEqProofs (maxSteps := 2000000) only [go_sem] <;> and_intros <;> rfl) (by simp -implicitDefEqProofs (maxSteps := 2000000) only [go_sem] <;> and_intros <;> rfl) (by rfl))
  · have e1 : o1 = o ++ w1 := by rw [e1, d]; simp
    subst e1
    refine call_of (implIsIndependent_sat l (s ++ [x]) hl (by simp; omega)) (by simp -implicitDefEqProofs (maxSteps := 2000000) only [go_sem, d]) (by kernel_rfl) (by simp -implicitDefEqProofs (maxSteps := 2000000) only [go_sem, d]) ?_
    simp -implicitDefEqProofs (maxSteps := 2000000) only [go_sem, d]
    refine bwp_cond (t := true) (by simp -implicitDefEqProofs (maxSteps := 2000000) only [go_sem]) (fun _ => ?_) fun h => by cases h
    refine bwp_call (ih1 d) [900, 901, 902, 903] 960 960 2000 [(0, .sc (.int .i64 x)), (1, .one (.im 1 (ints s))), (5, .one (.vad 903 0))] rfl rfl rfl (by kernel_rfl) (by kernel_rfl) (by simp -implicitDefEqProofs (maxSteps := 2000000) only [go_sem, wx]; rfl) ?_
    simp -implicitDefEqProofs (maxSteps := 2000000) only [go_sem]
    refine bwp_call ih2 [900, 901, 902, 903] 960 960 2000 [] rfl rfl rfl (by kernel_rfl) (by kernel_rfl) (by simp -implicitDefEqProofs (maxSteps := 2000000) only [go_sem, wx]; rfl) ?_
    simp -implicitDefEqProofs (maxSteps := 2000000) only [go_sem]
    exact (le_st' _ _ [⟨960, some _, false, 1, _⟩] [] _ (by simp -implicitDefEqProofs (maxSteps := 2000000) only [go_sem, Nat.add_assoc] <;> and_intros <;> rfl) (by simp -implicitDefEqProofs (maxSteps := 2000000) only [go_sem, Nat.add_assoc] <;> and_intros <;> rfl) (by simp -implicitDefEqProofs (maxSteps := 2000000) only [go_sem, Nat.add_assoc] <;> and_intros <;> rfl) (by rfl))
end Go.Proofs.Ytbalifgacjmbpaa.A
