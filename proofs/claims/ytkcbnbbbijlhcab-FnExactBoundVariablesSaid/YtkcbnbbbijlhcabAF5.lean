
/- BoundVariables. Conditions: none. -/
import Derived.Test.YtkcbnbbbijlhcabAFMQ
namespace Go.Proofs.Ytkcbnbbbijlhcab.A
open Go
set_option linter.unusedSimpArgs false
set_option linter.unusedVariables false
set_option maxRecDepth 100000

/-- The numbers below k that something picks. -/
def selN (p : Int → Bool) : Nat → List Int
  | 0 => []
  | k + 1 => if p k then selN p k ++ [(k : Int)] else selN p k
theorem selN_len (p : Int → Bool) : ∀ k, (selN p k).length ≤ k
  | 0 => by simp [selN]
  | k + 1 => by
    have := selN_len p k
    unfold selN; split
    · simp; omega
    · omega
def bvs (q : Qu) : List Int := selN (fun v => !decide (v ∈ q.free)) (min q.vc 4).toNat
theorem bvs_len (q : Qu) : (bvs q).length ≤ 4 := by
  have := selN_len (fun v => !decide (v ∈ q.free)) (min q.vc 4).toNat
  unfold bvs; omega
theorem selN_no {p : Int → Bool} {k : Nat} (h : p k = false) : selN p (k + 1) = selN p k := by simp [selN, h]
theorem selN_yes {p : Int → Bool} {k : Nat} (h : p k = true) : selN p (k + 1) = selN p k ++ [(k : Int)] := by simp [selN, h]
theorem specBoundVariables_sat (q : Qu) (h : q.fit) : Sat Try.prog 5 [lQu q] [oInts (bvs q)] [g3] := by
  refine sat_of_body mixed Try.func5 rfl (by kernel_rfl) (by kernel_rfl) (rs := [.tmp 2]) rfl rfl rfl ?_
  unfold bvs
  generalize hp : (fun v => !decide (v ∈ q.free)) = p
  simp -implicitDefEqProofs only [go_sem]
  refine awp_loop Nat (fun k => mkSt [(1, .one (.vad 1000 0)), (3, .one (.ref 960 1 0 (selN p k).length)), (4, .sc (.int .i64 k))] [(1000, sQu q)] [(960, (1, ints (selN p k)))] 2000)
    (fun k => k ≤ (min q.vc 4).toNat) (fun k => 4 - k) 0 (by omega) (le_st _ _ [⟨960, some 1128, false, 1, _⟩] [] _ rfl (by simp -implicitDefEqProofs only [go_sem] <;> rfl) (by simp -implicitDefEqProofs only [go_sem] <;> rfl) (by simp -implicitDefEqProofs only [go_sem] <;> rfl)) ?_
  rintro k h1
  have hl := selN_len p k
  by_cases c1 : (k : Int) < q.vc
  · by_cases c2 : k < 4
    · have c3 : (k : Int) < 4 := by omega
      simp -implicitDefEqProofs only [go_sem, c1, c3]
      refine call_of (l7Has_sat q.free k h.2) (by simp -implicitDefEqProofs only [go_sem, c1, c3]) (by kernel_rfl) (by simp -implicitDefEqProofs only [go_sem, c1, c3]) ?_
      simp -implicitDefEqProofs only [go_sem, c1, c3]
      rcases d : decide ((k : Int) ∈ q.free)
      · simp -implicitDefEqProofs only [go_sem, d]
        refine ⟨by omega, ?_⟩
        rw [i64_succ (by omega)]
        refine ⟨k + 1, by omega, by omega, ?_⟩
        rw [selN_yes (by rw [← hp]; simpa using d)]
        exact (le_st _ _ [⟨960, some 3024, false, 1, _⟩] [] _ rfl (by simp -implicitDefEqProofs only [go_sem] <;> rfl) (by simp -implicitDefEqProofs only [go_sem] <;> rfl) (by simp -implicitDefEqProofs only [go_sem] <;> rfl))
      · simp -implicitDefEqProofs only [go_sem, d]
        rw [i64_succ (by omega)]
        refine ⟨k + 1, by omega, by omega, ?_⟩
        rw [selN_no (by rw [← hp]; simpa using d)]
        exact (le_st _ _ [⟨960, some 960, false, 1, _⟩] [] _ rfl (by simp -implicitDefEqProofs only [go_sem] <;> rfl) (by simp -implicitDefEqProofs only [go_sem] <;> rfl) (by simp -implicitDefEqProofs only [go_sem] <;> rfl))
    · have c3 : ¬ (k : Int) < 4 := by omega
      simp -implicitDefEqProofs only [go_sem, c1, c3]
      rw [show k = (min q.vc 4).toNat by omega]
      exact ⟨rfl, rfl⟩
  · simp -implicitDefEqProofs only [go_sem, c1]
    rw [show k = (min q.vc 4).toNat by omega]
    exact ⟨rfl, rfl⟩
theorem implBoundVariables_sat (q : Qu) (h : q.fit) : Sat Try.prog 7 [lQu q] [oInts (bvs q)] [g3] := by
  refine sat_of_body mixed Try.func7 rfl (by kernel_rfl) (by kernel_rfl) (rs := [.tmp 2]) rfl rfl rfl ?_
  unfold bvs
  generalize hp : (fun v => !decide (v ∈ q.free)) = p
  simp -implicitDefEqProofs only [go_sem]
  refine awp_loop Nat (fun k => mkSt [(1, .one (.vad 1000 0)), (3, .one (.ref 960 1 0 (selN p k).length)), (8, .sc (.int .i64 (if 4 < q.vc then 4 else q.vc))), (9, .sc (.int .i64 k))] [(1000, sQu q)] [(960, (1, ints (selN p k)))] 2000)
    (fun k => k ≤ (min q.vc 4).toNat) (fun k => 4 - k) 0 (by omega) (le_st _ _ [⟨960, some 1128, false, 1, _⟩] [] _ rfl (by simp -implicitDefEqProofs only [go_sem] <;> rfl) (by simp -implicitDefEqProofs only [go_sem] <;> rfl) (by simp -implicitDefEqProofs only [go_sem] <;> rfl)) ?_
  rintro k h1
  have hl := selN_len p k
  by_cases c1 : (k : Int) < (if 4 < q.vc then 4 else q.vc)
  · have c2 : k < (min q.vc 4).toNat := by split at c1 <;> omega
    simp -implicitDefEqProofs only [go_sem, c1]
    refine call_of (slicesContains_sat q.free k h.2) (by simp -implicitDefEqProofs only [go_sem, c1]) (by kernel_rfl) (by simp -implicitDefEqProofs only [go_sem, c1]) ?_
    simp -implicitDefEqProofs only [go_sem, c1]
    rcases d : decide ((k : Int) ∈ q.free)
    · simp -implicitDefEqProofs only [go_sem, d]
      refine ⟨by omega, ?_⟩
      rw [i64_succ (by omega)]
      refine ⟨k + 1, by omega, by omega, ?_⟩
      rw [selN_yes (by rw [← hp]; simpa using d)]
      exact (le_st _ _ [⟨960, some 2704, false, 1, _⟩] [] _ rfl (by simp -implicitDefEqProofs only [go_sem] <;> rfl) (by simp -implicitDefEqProofs only [go_sem] <;> rfl) (by simp -implicitDefEqProofs only [go_sem] <;> rfl))
    · simp -implicitDefEqProofs only [go_sem, d]
      rw [i64_succ (by omega)]
      refine ⟨k + 1, by omega, by omega, ?_⟩
      rw [selN_no (by rw [← hp]; simpa using d)]
      exact (le_st _ _ [⟨960, some 960, false, 1, _⟩] [] _ rfl (by simp -implicitDefEqProofs only [go_sem] <;> rfl) (by simp -implicitDefEqProofs only [go_sem] <;> rfl) (by simp -implicitDefEqProofs only [go_sem] <;> rfl))
  · simp -implicitDefEqProofs only [go_sem, c1]
    rw [show k = (min q.vc 4).toNat by split at c1 <;> omega]
    exact ⟨rfl, rfl⟩
/-- THE LAW OF BoundVariables. -/
theorem lawBoundVariables_sat (a : Qu) (h1 : a.fit) : Sat Try.prog 3 [lQu a] [lBool true] [g3] := by
  refine sat_of_body mixed Try.func3 rfl (by kernel_rfl) (by kernel_rfl) (rs := [.tmp 2]) rfl rfl rfl ?_
  simp -implicitDefEqProofs only [go_sem]
  have z1 := szQu_ok a 1048576 (by omega)
  refine call_of (szQuery_sat a 1048576 (by omega) h1) (by simp -implicitDefEqProofs only [go_sem]) (by kernel_rfl) (by simp -implicitDefEqProofs only [go_sem]) ?_
  simp -implicitDefEqProofs only [go_sem]
  refine cond_split (fun c1 => ?_) fun c1 => ?_
  · simp -implicitDefEqProofs only [go_sem]
  have o1 := z1.2 (of_decide_eq_false c1)
  have n1 := numQu_ok o1
  have n2 := bvs_len a
  simp -implicitDefEqProofs only [go_sem]
  refine call_of (toQuery_sat a o1) (by simp -implicitDefEqProofs only [go_sem]) (by kernel_rfl) (by simp -implicitDefEqProofs only [go_sem]) ?_
  simp -implicitDefEqProofs only [go_sem]
  refine call_of (specBoundVariables_sat a h1) (by simp -implicitDefEqProofs only [go_sem]) (callOk_still (by kernel_rfl) (by simp only [List.all_cons, List.all_nil, LV.still, LV.leaves, Leaf.still, ints_still, ris_still, eds_still, rels_still, iss_still, Bool.and_self, Bool.and_true])) (by simp -implicitDefEqProofs only [go_sem]) ?_
  simp -implicitDefEqProofs only [go_sem]
  refine call_of (toQuery_sat a o1) (by simp -implicitDefEqProofs only [go_sem]) (by kernel_rfl) (by simp -implicitDefEqProofs only [go_sem]) ?_
  simp -implicitDefEqProofs only [go_sem]
  refine call_of (implBoundVariables_sat a h1) (by simp -implicitDefEqProofs only [go_sem]) (callOk_still (by kernel_rfl) (by simp only [List.all_cons, List.all_nil, LV.still, LV.leaves, Leaf.still, ints_still, ris_still, eds_still, rels_still, iss_still, Bool.and_self, Bool.and_true])) (by simp -implicitDefEqProofs only [go_sem]) ?_
  simp -implicitDefEqProofs only [go_sem]
  refine call_of (eqIntS_sat (bvs a) (bvs a) (by omega)) (by simp -implicitDefEqProofs only [go_sem]) (by kernel_rfl) (by simp -implicitDefEqProofs only [go_sem]) ?_
  simp -implicitDefEqProofs only [go_sem]
  refine call_of (toQuery_sat a o1) (by simp -implicitDefEqProofs only [go_sem]) (by kernel_rfl) (by simp -implicitDefEqProofs only [go_sem]) ?_
  simp -implicitDefEqProofs only [go_sem]
  refine call_of (eqQuery_sat a a h1) (by simp -implicitDefEqProofs only [go_sem]) (by kernel_rfl) (by simp -implicitDefEqProofs only [go_sem]) ?_
  simp -implicitDefEqProofs only [go_sem]
  refine ⟨by kernel_rfl, ?_⟩
  refine call_of (markQuery_sat a 1 (by omega) h1) (by simp -implicitDefEqProofs only [go_sem]) (by kernel_rfl) (by simp -implicitDefEqProofs only [go_sem]) ?_
  simp -implicitDefEqProofs only [go_sem]
  rw [decide_eq_false (show ¬ (1 + (numQu a : Int) < 0) by omega)]
  simp -implicitDefEqProofs only [go_sem]
  refine call_of (eqIntS_sat (bvs a) (bvs a) (by omega)) (by simp -implicitDefEqProofs only [go_sem]) (by kernel_rfl) (by simp -implicitDefEqProofs only [go_sem]) ?_
  simp -implicitDefEqProofs only [go_sem]
  refine call_of (markIntS_sat (bvs a) 1 (by omega)) (by simp -implicitDefEqProofs only [go_sem]) (by kernel_rfl) (by simp -implicitDefEqProofs only [go_sem]) ?_
  simp -implicitDefEqProofs only [go_sem]
  refine call_of (heldIntS_sat (bvs a).length 1 (by omega)) (by simp -implicitDefEqProofs only [go_sem]) (by kernel_rfl) (by simp -implicitDefEqProofs only [go_sem]) ?_
  simp -implicitDefEqProofs only [go_sem]
  rw [decide_eq_false (show ¬ (1 + ((bvs a).length : Int) < 0) by omega)]
  simp -implicitDefEqProofs only [go_sem]
  refine call_of (toQuery_sat a o1) (by simp -implicitDefEqProofs only [go_sem]) (by kernel_rfl) (by simp -implicitDefEqProofs only [go_sem]) ?_
  simp -implicitDefEqProofs only [go_sem]
  refine call_of (implBoundVariables_sat a h1) (by simp -implicitDefEqProofs only [go_sem]) (callOk_still (by kernel_rfl) (by simp only [List.all_cons, List.all_nil, LV.still, LV.leaves, Leaf.still, ints_still, ris_still, eds_still, rels_still, iss_still, Bool.and_self, Bool.and_true])) (by simp -implicitDefEqProofs only [go_sem]) ?_
  simp -implicitDefEqProofs only [go_sem]
  refine call_of (eqIntS_sat (bvs a) (bvs a) (by omega)) (by simp -implicitDefEqProofs only [go_sem]) (by kernel_rfl) (by simp -implicitDefEqProofs only [go_sem]) ?_
  simp -implicitDefEqProofs only [go_sem]
  refine call_of (heldIntS_sat (bvs a).length 1 (by omega)) (by simp -implicitDefEqProofs only [go_sem]) (by kernel_rfl) (by simp -implicitDefEqProofs only [go_sem]) ?_
  simp -implicitDefEqProofs only [go_sem]
  rw [decide_eq_false (show ¬ (1 + ((bvs a).length : Int) < 0) by omega)]
  simp -implicitDefEqProofs only [go_sem]
end Go.Proofs.Ytkcbnbbbijlhcab.A
