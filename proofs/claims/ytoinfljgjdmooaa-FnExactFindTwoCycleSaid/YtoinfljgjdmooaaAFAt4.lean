
/- WEAK ATTACKS, ATOMS THAT NONE ATTACKS, CYCLES OF TWO. Conditions: none. -/
import Derived.Test.YtoinfljgjdmooaaAFAt3
namespace Go.Proofs.Ytoinfljgjdmooaa.A
open Go
set_option linter.unusedSimpArgs false
set_option linter.unusedVariables false
set_option maxRecDepth 100000

theorem hasA_in {l : List Rel} {q : Qu} {i k : Int} (h : hasA l q i k = true) : goodQu l q = true ∧ ∃ n m : Nat, i = n ∧ k = m ∧ n < q.atoms.length ∧ m < q.atoms.length := by
  unfold hasA at h
  simp only [Bool.and_eq_true] at h
  have h1 := inB_of h.2.1
  have h2 := inB_of h.2.2.1
  exact ⟨h.1, i.toNat, k.toNat, by omega, by omega, by omega, by omega⟩
def weakA (l : List Rel) (q : Qu) (i k : Int) : Bool := hasA l q i k && dets l q (keyVars l (q.atoms.getD i.toNat default)) (keyVars l (q.atoms.getD k.toNat default))
theorem specIsWeakAttack_sat (l : List Rel) (q : Qu) (i k : Int) (hl : l.length ≤ 9223372036854775807) (hq : q.fit) : Sat Try.prog 26 [lRels l, lQu q, lInt i, lInt k] [lBool (weakA l q i k)] [g1, g3, g1, g1] := by
  refine sat_of_body mixed Try.func26 rfl (by kernel_rfl) (by kernel_rfl) (rs := [.tmp 8]) rfl rfl rfl ?_
  unfold weakA
  simp -implicitDefEqProofs (maxSteps := 2000000) only [go_sem]
  rcases d : hasA l q i k
  · refine call_of (specHasAttack_sat l q i k hl hq) (by simp -implicitDefEqProofs (maxSteps := 2000000) only [go_sem, d]) (by kernel_rfl) (by simp -implicitDefEqProofs (maxSteps := 2000000) only [go_sem, d]) ?_
    simp -implicitDefEqProofs (maxSteps := 2000000) only [go_sem, d]
    first | done | rfl | exact ⟨rfl, rfl⟩ | exact ⟨rfl, rfl, rfl⟩ | (refine tr_and ?_ ?_ <;> first | rfl | exact ⟨rfl, rfl⟩ | kernel_rfl)
  obtain ⟨g, n, m, rfl, rfl, c1, c2⟩ := hasA_in d
  have h1 := keyVars_len l (q.atoms.getD n default)
  have h2 := keyVars_len l (q.atoms.getD m default)
  refine call_of (specHasAttack_sat l q n m hl hq) (by simp -implicitDefEqProofs (maxSteps := 2000000) only [go_sem, d, c1, c2]) (by kernel_rfl) (by simp -implicitDefEqProofs (maxSteps := 2000000) only [go_sem, d, c1, c2]) ?_
  simp -implicitDefEqProofs (maxSteps := 2000000) only [go_sem, d, c1, c2]
  refine call_of (specKeyVariables_sat l (q.atoms.getD n default) hl (hq.1.2 _ (mem_getD default c1))) (by simp -implicitDefEqProofs (maxSteps := 2000000) only [go_sem, c1, c2]) (callOk_still (by kernel_rfl) (by simp only [List.all_cons, List.all_nil, LV.still, LV.leaves, Leaf.still, ints_still, ris_still, eds_still, rels_still, iss_still, Bool.and_self, Bool.and_true])) (by simp -implicitDefEqProofs (maxSteps := 2000000) only [go_sem, c1, c2]) ?_
  simp -implicitDefEqProofs (maxSteps := 2000000) only [go_sem, c1, c2]
  refine call_of (specKeyVariables_sat l (q.atoms.getD m default) hl (hq.1.2 _ (mem_getD default c2))) (by simp -implicitDefEqProofs (maxSteps := 2000000) only [go_sem, c1, c2]) (callOk_still (by kernel_rfl) (by simp only [List.all_cons, List.all_nil, LV.still, LV.leaves, Leaf.still, ints_still, ris_still, eds_still, rels_still, iss_still, Bool.and_self, Bool.and_true])) (by simp -implicitDefEqProofs (maxSteps := 2000000) only [go_sem, c1, c2]) ?_
  simp -implicitDefEqProofs (maxSteps := 2000000) only [go_sem, c1, c2]
  refine call_of (specDetermines_sat l q (keyVars l (q.atoms.getD n default)) (keyVars l (q.atoms.getD m default)) hl hq (by omega) (by omega)) (by simp -implicitDefEqProofs (maxSteps := 2000000) only [go_sem]) (by kernel_rfl) (by simp -implicitDefEqProofs (maxSteps := 2000000) only [go_sem]) ?_
  simp -implicitDefEqProofs (maxSteps := 2000000) only [go_sem]
  first | done | rfl | exact ⟨rfl, rfl⟩ | exact ⟨rfl, rfl, rfl⟩ | (refine tr_and ?_ ?_ <;> first | rfl | exact ⟨rfl, rfl⟩ | kernel_rfl)
theorem implIsWeakAttack_sat (l : List Rel) (q : Qu) (i k : Int) (hl : l.length ≤ 9223372036854775807) (hq : q.ok) : Sat Try.prog 27 [lRels l, lQu q, lInt i, lInt k] [lBool (weakA l q i k)] [g1, g3, g1, g1] := by
  refine sat_of_body mixed Try.func27 rfl (by kernel_rfl) (by kernel_rfl) (rs := [.tmp 8]) rfl rfl rfl ?_
  unfold weakA
  simp -implicitDefEqProofs (maxSteps := 2000000) only [go_sem]
  rcases d : hasA l q i k
  · refine call_of (implHasAttack_sat l q i k hl hq) (by simp -implicitDefEqProofs (maxSteps := 2000000) only [go_sem, d]) (by kernel_rfl) (by simp -implicitDefEqProofs (maxSteps := 2000000) only [go_sem, d]) ?_
    simp -implicitDefEqProofs (maxSteps := 2000000) only [go_sem, d]
    first | done | rfl | exact ⟨rfl, rfl⟩ | exact ⟨rfl, rfl, rfl⟩ | (refine tr_and ?_ ?_ <;> first | rfl | exact ⟨rfl, rfl⟩ | kernel_rfl)
  obtain ⟨g, n, m, rfl, rfl, c1, c2⟩ := hasA_in d
  have h1 := keyVars_len l (q.atoms.getD n default)
  have h2 := keyVars_len l (q.atoms.getD m default)
  refine call_of (implHasAttack_sat l q n m hl hq) (by simp -implicitDefEqProofs (maxSteps := 2000000) only [go_sem, d, c1, c2]) (by kernel_rfl) (by simp -implicitDefEqProofs (maxSteps := 2000000) only [go_sem, d, c1, c2]) ?_
  simp -implicitDefEqProofs (maxSteps := 2000000) only [go_sem, d, c1, c2]
  refine call_of (implKeyVariables_sat l (q.atoms.getD n default) hl (hq.1.2 _ (mem_getD default c1))) (by simp -implicitDefEqProofs (maxSteps := 2000000) only [go_sem, c1, c2]) (callOk_still (by kernel_rfl) (by simp only [List.all_cons, List.all_nil, LV.still, LV.leaves, Leaf.still, ints_still, ris_still, eds_still, rels_still, iss_still, Bool.and_self, Bool.and_true])) (by simp -implicitDefEqProofs (maxSteps := 2000000) only [go_sem, c1, c2]) ?_
  simp -implicitDefEqProofs (maxSteps := 2000000) only [go_sem, c1, c2]
  refine call_of (implKeyVariables_sat l (q.atoms.getD m default) hl (hq.1.2 _ (mem_getD default c2))) (by simp -implicitDefEqProofs (maxSteps := 2000000) only [go_sem, c1, c2]) (callOk_still (by kernel_rfl) (by simp only [List.all_cons, List.all_nil, LV.still, LV.leaves, Leaf.still, ints_still, ris_still, eds_still, rels_still, iss_still, Bool.and_self, Bool.and_true])) (by simp -implicitDefEqProofs (maxSteps := 2000000) only [go_sem, c1, c2]) ?_
  simp -implicitDefEqProofs (maxSteps := 2000000) only [go_sem, c1, c2]
  refine call_of (implDetermines_sat l q (keyVars l (q.atoms.getD n default)) (keyVars l (q.atoms.getD m default)) hl hq (by omega) (by omega)) (by simp -implicitDefEqProofs (maxSteps := 2000000) only [go_sem]) (by kernel_rfl) (by simp -implicitDefEqProofs (maxSteps := 2000000) only [go_sem]) ?_
  simp -implicitDefEqProofs (maxSteps := 2000000) only [go_sem]
  first | done | rfl | exact ⟨rfl, rfl⟩ | exact ⟨rfl, rfl, rfl⟩ | (refine tr_and ?_ ?_ <;> first | rfl | exact ⟨rfl, rfl⟩ | kernel_rfl)

/-! #### cycles of two -/
def findR (p : Nat → Bool) : Nat → Nat → Option Nat
  | 0, _ => none
  | m + 1, k => if p k then some k else findR p m (k + 1)
def findA (p : Nat → Nat → Bool) (n : Nat) : Nat → Nat → Int × Int × Bool
  | 0, _ => (-1, -1, false)
  | m + 1, i => match findR (p i) (n - (i + 1)) (i + 1) with
    | some k => (i, k, true)
    | none => findA p n m (i + 1)
def both2 (l : List Rel) (q : Qu) (i k : Nat) : Bool := hasA l q i k && hasA l q k i
def twoC (l : List Rel) (q : Qu) : Int × Int × Bool := findA (both2 l q) q.atoms.length q.atoms.length 0
theorem specFindTwoCycle_sat (l : List Rel) (q : Qu) (hl : l.length ≤ 9223372036854775807) (hq : q.fit) : Sat Try.prog 24 [lRels l, lQu q] [lInt (twoC l q).1, lInt (twoC l q).2.1, lBool (twoC l q).2.2] [g1, g3] := by
  refine sat_of_body mixed Try.func24 rfl (by kernel_rfl) (by kernel_rfl) (rs := [.tmp 4, .tmp 5, .tmp 6]) rfl rfl rfl ?_
  have hb := hq.1.1
  simp -implicitDefEqProofs (maxSteps := 2000000) only [go_sem]
  refine awp_loop Nat (fun i => mkSt [(0, .one (.im 3 (rels l))), (3, .one (.vad 1000 0)), (7, .sc (.int .i64 i))] [(1000, sQu q)] [] 4000)
    (fun i => i ≤ q.atoms.length ∧ findA (both2 l q) q.atoms.length (q.atoms.length - i) i = twoC l q) (fun i => q.atoms.length - i) 0 ⟨by omega, rfl⟩ (le_st _ _ [] [] _ rfl (by simp -implicitDefEqProofs (maxSteps := 2000000) only [go_sem] <;> rfl) (by simp -implicitDefEqProofs (maxSteps := 2000000) only [go_sem] <;> rfl) (by simp -implicitDefEqProofs (maxSteps := 2000000) only [go_sem] <;> rfl)) ?_
  rintro i ⟨h1, h2⟩
  by_cases k1 : i < q.atoms.length
  · rw [show q.atoms.length - i = (q.atoms.length - (i + 1)) + 1 by omega, findA] at h2
    simp -implicitDefEqProofs (maxSteps := 2000000) only [go_sem, k1]
    rw [i64_succ (by omega)]
    refine awp_loop Nat (fun k => mkSt [(0, .one (.im 3 (rels l))), (3, .one (.vad 1000 0)), (7, .sc (.int .i64 i)), (8, .sc (.int .i64 k))] [(1000, sQu q)] [] 6000)
      (fun k => k ≤ q.atoms.length ∧ findR (both2 l q i) (q.atoms.length - k) k = findR (both2 l q i) (q.atoms.length - (i + 1)) (i + 1)) (fun k => q.atoms.length - k) (i + 1) ⟨by omega, rfl⟩ (le_st _ _ [] [] _ rfl (by simp -implicitDefEqProofs (maxSteps := 2000000) only [go_sem] <;> rfl) (by simp -implicitDefEqProofs (maxSteps := 2000000) only [go_sem] <;> rfl) (by simp -implicitDefEqProofs (maxSteps := 2000000) only [go_sem] <;> rfl)) ?_
    rintro k ⟨h3, h4⟩
    by_cases k2 : k < q.atoms.length
    · rw [show q.atoms.length - k = (q.atoms.length - (k + 1)) + 1 by omega, findR] at h4
      rcases d1 : hasA l q i k
      · rw [if_neg (by rw [both2, d1]; simp)] at h4
        simp -implicitDefEqProofs (maxSteps := 2000000) only [go_sem, k2]
        refine call_of (specHasAttack_sat l q i k hl hq) (by simp -implicitDefEqProofs (maxSteps := 2000000) only [go_sem, d1]) (by kernel_rfl) (by simp -implicitDefEqProofs (maxSteps := 2000000) only [go_sem, d1]) ?_
        simp -implicitDefEqProofs (maxSteps := 2000000) only [go_sem, d1]
        rw [i64_succ (by omega)]
        exact ⟨k + 1, ⟨k2, h4⟩, by omega, (le_st _ _ [] [] _ rfl (by simp -implicitDefEqProofs (maxSteps := 2000000) only [go_sem] <;> rfl) (by simp -implicitDefEqProofs (maxSteps := 2000000) only [go_sem] <;> rfl) (by simp -implicitDefEqProofs (maxSteps := 2000000) only [go_sem] <;> rfl))⟩
      rcases d2 : hasA l q k i
      · rw [if_neg (by rw [both2, d1, d2]; simp)] at h4
        simp -implicitDefEqProofs (maxSteps := 2000000) only [go_sem, k2]
        refine call_of (specHasAttack_sat l q i k hl hq) (by simp -implicitDefEqProofs (maxSteps := 2000000) only [go_sem, d1]) (by kernel_rfl) (by simp -implicitDefEqProofs (maxSteps := 2000000) only [go_sem, d1]) ?_
        simp -implicitDefEqProofs (maxSteps := 2000000) only [go_sem, d1]
        refine call_of (specHasAttack_sat l q k i hl hq) (by simp -implicitDefEqProofs (maxSteps := 2000000) only [go_sem, d2]) (by kernel_rfl) (by simp -implicitDefEqProofs (maxSteps := 2000000) only [go_sem, d2]) ?_
        simp -implicitDefEqProofs (maxSteps := 2000000) only [go_sem, d2]
        rw [i64_succ (by omega)]
        exact ⟨k + 1, ⟨k2, h4⟩, by omega, (le_st _ _ [] [] _ rfl (by simp -implicitDefEqProofs (maxSteps := 2000000) only [go_sem] <;> rfl) (by simp -implicitDefEqProofs (maxSteps := 2000000) only [go_sem] <;> rfl) (by simp -implicitDefEqProofs (maxSteps := 2000000) only [go_sem] <;> rfl))⟩
      · rw [if_pos (by rw [both2, d1, d2]; rfl)] at h4
        rw [← h4] at h2
        rw [← h2]
        simp -implicitDefEqProofs (maxSteps := 2000000) only [go_sem, k2]
        refine call_of (specHasAttack_sat l q i k hl hq) (by simp -implicitDefEqProofs (maxSteps := 2000000) only [go_sem, d1]) (by kernel_rfl) (by simp -implicitDefEqProofs (maxSteps := 2000000) only [go_sem, d1]) ?_
        simp -implicitDefEqProofs (maxSteps := 2000000) only [go_sem, d1]
        refine call_of (specHasAttack_sat l q k i hl hq) (by simp -implicitDefEqProofs (maxSteps := 2000000) only [go_sem, d2]) (by kernel_rfl) (by simp -implicitDefEqProofs (maxSteps := 2000000) only [go_sem, d2]) ?_
        simp -implicitDefEqProofs (maxSteps := 2000000) only [go_sem, d2]
    · obtain rfl : k = q.atoms.length := by omega
      rw [Nat.sub_self, findR] at h4
      rw [← h4] at h2
      simp -implicitDefEqProofs (maxSteps := 2000000) only [go_sem, k2]
      rw [i64_succ (by omega)]
      exact ⟨i + 1, ⟨k1, h2⟩, by omega, (le_st _ _ [] [] _ rfl (by simp -implicitDefEqProofs (maxSteps := 2000000) only [go_sem] <;> rfl) (by simp -implicitDefEqProofs (maxSteps := 2000000) only [go_sem] <;> rfl) (by simp -implicitDefEqProofs (maxSteps := 2000000) only [go_sem] <;> rfl))⟩
  · obtain rfl : i = q.atoms.length := by omega
    rw [Nat.sub_self, findA] at h2
    rw [← h2]
    simp -implicitDefEqProofs (maxSteps := 2000000) only [go_sem, k1]
theorem implFindTwoCycle_sat (l : List Rel) (q : Qu) (hl : l.length ≤ 9223372036854775807) (hq : q.ok) : Sat Try.prog 25 [lRels l, lQu q] [lInt (twoC l q).1, lInt (twoC l q).2.1, lBool (twoC l q).2.2] [g1, g3] := by
  refine sat_of_body mixed Try.func25 rfl (by kernel_rfl) (by kernel_rfl) (rs := [.tmp 4, .tmp 5, .tmp 6]) rfl rfl rfl ?_
  have hb := hq.1.1
  simp -implicitDefEqProofs (maxSteps := 2000000) only [go_sem]
  refine awp_loop Nat (fun i => mkSt [(0, .one (.im 3 (rels l))), (3, .one (.vad 1000 0)), (11, .sc (.int .i64 q.atoms.length)), (12, .sc (.int .i64 i))] [(1000, sQu q)] [] 4000)
    (fun i => i ≤ q.atoms.length ∧ findA (both2 l q) q.atoms.length (q.atoms.length - i) i = twoC l q) (fun i => q.atoms.length - i) 0 ⟨by omega, rfl⟩ (le_st _ _ [] [] _ rfl (by simp -implicitDefEqProofs (maxSteps := 2000000) only [go_sem] <;> rfl) (by simp -implicitDefEqProofs (maxSteps := 2000000) only [go_sem] <;> rfl) (by simp -implicitDefEqProofs (maxSteps := 2000000) only [go_sem] <;> rfl)) ?_
  rintro i ⟨h1, h2⟩
  by_cases k1 : i < q.atoms.length
  · rw [show q.atoms.length - i = (q.atoms.length - (i + 1)) + 1 by omega, findA] at h2
    simp -implicitDefEqProofs (maxSteps := 2000000) only [go_sem, k1]
    rw [i64_succ (by omega)]
    refine awp_loop Nat (fun k => mkSt [(0, .one (.im 3 (rels l))), (3, .one (.vad 1000 0)), (7, .sc (.int .i64 i)), (8, .sc (.int .i64 k)), (11, .sc (.int .i64 q.atoms.length)), (12, .sc (.int .i64 i))] [(1000, sQu q)] [] 6000)
      (fun k => k ≤ q.atoms.length ∧ findR (both2 l q i) (q.atoms.length - k) k = findR (both2 l q i) (q.atoms.length - (i + 1)) (i + 1)) (fun k => q.atoms.length - k) (i + 1) ⟨by omega, rfl⟩ (le_st _ _ [] [] _ rfl (by simp -implicitDefEqProofs (maxSteps := 2000000) only [go_sem] <;> rfl) (by simp -implicitDefEqProofs (maxSteps := 2000000) only [go_sem] <;> rfl) (by simp -implicitDefEqProofs (maxSteps := 2000000) only [go_sem] <;> rfl)) ?_
    rintro k ⟨h3, h4⟩
    by_cases k2 : k < q.atoms.length
    · rw [show q.atoms.length - k = (q.atoms.length - (k + 1)) + 1 by omega, findR] at h4
      rcases d1 : hasA l q i k
      · rw [if_neg (by rw [both2, d1]; simp)] at h4
        simp -implicitDefEqProofs (maxSteps := 2000000) only [go_sem, k2]
        refine call_of (implHasAttack_sat l q i k hl hq) (by simp -implicitDefEqProofs (maxSteps := 2000000) only [go_sem, d1]) (by kernel_rfl) (by simp -implicitDefEqProofs (maxSteps := 2000000) only [go_sem, d1]) ?_
        simp -implicitDefEqProofs (maxSteps := 2000000) only [go_sem, d1]
        rw [i64_succ (by omega)]
        exact ⟨k + 1, ⟨k2, h4⟩, by omega, (le_st _ _ [] [] _ rfl (by simp -implicitDefEqProofs (maxSteps := 2000000) only [go_sem] <;> rfl) (by simp -implicitDefEqProofs (maxSteps := 2000000) only [go_sem] <;> rfl) (by simp -implicitDefEqProofs (maxSteps := 2000000) only [go_sem] <;> rfl))⟩
      rcases d2 : hasA l q k i
      · rw [if_neg (by rw [both2, d1, d2]; simp)] at h4
        simp -implicitDefEqProofs (maxSteps := 2000000) only [go_sem, k2]
        refine call_of (implHasAttack_sat l q i k hl hq) (by simp -implicitDefEqProofs (maxSteps := 2000000) only [go_sem, d1]) (by kernel_rfl) (by simp -implicitDefEqProofs (maxSteps := 2000000) only [go_sem, d1]) ?_
        simp -implicitDefEqProofs (maxSteps := 2000000) only [go_sem, d1]
        refine call_of (implHasAttack_sat l q k i hl hq) (by simp -implicitDefEqProofs (maxSteps := 2000000) only [go_sem, d2]) (by kernel_rfl) (by simp -implicitDefEqProofs (maxSteps := 2000000) only [go_sem, d2]) ?_
        simp -implicitDefEqProofs (maxSteps := 2000000) only [go_sem, d2]
        rw [i64_succ (by omega)]
        exact ⟨k + 1, ⟨k2, h4⟩, by omega, (le_st _ _ [] [] _ rfl (by simp -implicitDefEqProofs (maxSteps := 2000000) only [go_sem] <;> rfl) (by simp -implicitDefEqProofs (maxSteps := 2000000) only [go_sem] <;> rfl) (by simp -implicitDefEqProofs (maxSteps := 2000000) only [go_sem] <;> rfl))⟩
      · rw [if_pos (by rw [both2, d1, d2]; rfl)] at h4
        rw [← h4] at h2
        rw [← h2]
        simp -implicitDefEqProofs (maxSteps := 2000000) only [go_sem, k2]
        refine call_of (implHasAttack_sat l q i k hl hq) (by simp -implicitDefEqProofs (maxSteps := 2000000) only [go_sem, d1]) (by kernel_rfl) (by simp -implicitDefEqProofs (maxSteps := 2000000) only [go_sem, d1]) ?_
        simp -implicitDefEqProofs (maxSteps := 2000000) only [go_sem, d1]
        refine call_of (implHasAttack_sat l q k i hl hq) (by simp -implicitDefEqProofs (maxSteps := 2000000) only [go_sem, d2]) (by kernel_rfl) (by simp -implicitDefEqProofs (maxSteps := 2000000) only [go_sem, d2]) ?_
        simp -implicitDefEqProofs (maxSteps := 2000000) only [go_sem, d2]
    · obtain rfl : k = q.atoms.length := by omega
      rw [Nat.sub_self, findR] at h4
      rw [← h4] at h2
      simp -implicitDefEqProofs (maxSteps := 2000000) only [go_sem, k2]
      rw [i64_succ (by omega)]
      exact ⟨i + 1, ⟨k1, h2⟩, by omega, (le_st _ _ [] [] _ rfl (by simp -implicitDefEqProofs (maxSteps := 2000000) only [go_sem] <;> rfl) (by simp -implicitDefEqProofs (maxSteps := 2000000) only [go_sem] <;> rfl) (by simp -implicitDefEqProofs (maxSteps := 2000000) only [go_sem] <;> rfl))⟩
  · obtain rfl : i = q.atoms.length := by omega
    rw [Nat.sub_self, findA] at h2
    rw [← h2]
    simp -implicitDefEqProofs (maxSteps := 2000000) only [go_sem, k1]

/-! #### atoms that none attacks -/
def freeOf (l : List Rel) (q : Qu) (k : Int) : Bool := upTo (fun i => !hasA l q i k) q.atoms.length
def unatt (l : List Rel) (q : Qu) : List Int := if goodQu l q then selN (freeOf l q) q.atoms.length else []
theorem unatt_len (l : List Rel) (q : Qu) : (unatt l q).length ≤ 3 := by
  unfold unatt; split
  · rename_i g
    have := atoms3 g
    have := selN_len (freeOf l q) q.atoms.length
    omega
  · simp
theorem specUnattackedAtoms_sat (l : List Rel) (q : Qu) (hl : l.length ≤ 9223372036854775807) (hq : q.fit) : Sat Try.prog 30 [lRels l, lQu q] [oInts (unatt l q)] [g1, g3] := by
  refine sat_of_body mixed Try.func30 rfl (by kernel_rfl) (by kernel_rfl) (rs := [.tmp 4]) rfl rfl rfl ?_
  have hb := hq.1.1
  rcases g : goodQu l q
  · rw [show unatt l q = [] by rw [unatt, g]; rfl]
    simp -implicitDefEqProofs (maxSteps := 2000000) only [go_sem]
    refine awp_loop Nat (fun k => mkSt [(0, .one (.im 3 (rels l))), (3, .one (.vad 1000 0)), (5, .one (.ref 960 1 0 0)), (6, .sc (.int .i64 k))] [(1000, sQu q)] [(960, (1, ints []))] 4000)
      (fun k => k = 0) (fun k => 0) 0 rfl (le_st' _ _ [⟨960, some _, false, 1, _⟩] [] _ (by simp -implicitDefEqProofs (maxSteps := 2000000) only [go_sem] <;> and_intros <;> rfl) (by simp -implicitDefEqProofs (maxSteps := 2000000) only [go_sem] <;> and_intros <;> rfl) (by simp -implicitDefEqProofs (maxSteps := 2000000) only [go_sem] <;> and_intros <;> rfl) (by rfl)) ?_
    rintro k rfl
    by_cases c1 : 0 < q.atoms.length
    · have c0 : (0 : Int) < q.atoms.length := by omega
      simp -implicitDefEqProofs (maxSteps := 2000000) only [go_sem, c0]
      refine call_of (specIsValidQuery_sat l q hl hq) (by simp -implicitDefEqProofs (maxSteps := 2000000) only [go_sem, g, c0]) (by kernel_rfl) (by simp -implicitDefEqProofs (maxSteps := 2000000) only [go_sem, g, c0]) ?_
      simp -implicitDefEqProofs (maxSteps := 2000000) only [go_sem, g, c0]
      first | done | rfl | exact ⟨rfl, rfl⟩ | exact ⟨rfl, rfl, rfl⟩ | (refine tr_and ?_ ?_ <;> first | rfl | exact ⟨rfl, rfl⟩ | kernel_rfl)
    · have c0 : ¬ (0 : Int) < q.atoms.length := by omega
      simp -implicitDefEqProofs (maxSteps := 2000000) only [go_sem, c0]
      first | done | rfl | exact ⟨rfl, rfl⟩ | exact ⟨rfl, rfl, rfl⟩ | (refine tr_and ?_ ?_ <;> first | rfl | exact ⟨rfl, rfl⟩ | kernel_rfl)
  have h3 := atoms3 g
  rw [show unatt l q = selN (freeOf l q) q.atoms.length by rw [unatt, g]; rfl]
  simp -implicitDefEqProofs (maxSteps := 2000000) only [go_sem]
  refine awp_loop Nat (fun k => mkSt [(0, .one (.im 3 (rels l))), (3, .one (.vad 1000 0)), (5, .one (.ref 960 1 0 (selN (freeOf l q) k).length)), (6, .sc (.int .i64 k))] [(1000, sQu q)] [(960, (1, ints (selN (freeOf l q) k)))] 4000)
    (fun k => k ≤ q.atoms.length) (fun k => q.atoms.length - k) 0 (by omega) (le_st' _ _ [⟨960, some _, false, 1, _⟩] [] _ (by simp -implicitDefEqProofs (maxSteps := 2000000) only [go_sem] <;> and_intros <;> rfl) (by simp -implicitDefEqProofs (maxSteps := 2000000) only [go_sem] <;> and_intros <;> rfl) (by simp -implicitDefEqProofs (maxSteps := 2000000) only [go_sem] <;> and_intros <;> rfl) (by rfl)) ?_
  rintro k h1
  have hsl := selN_len (freeOf l q) k
  by_cases k1 : k < q.atoms.length
  · have wk : IntKind.i64.wrap ((k : Int) + 1) = ((k + 1 : Nat) : Int) := i64_succ (by omega)
    simp -implicitDefEqProofs (maxSteps := 2000000) only [go_sem, k1]
    refine call_of (specIsValidQuery_sat l q hl hq) (by simp -implicitDefEqProofs (maxSteps := 2000000) only [go_sem, g, k1]) (by kernel_rfl) (by simp -implicitDefEqProofs (maxSteps := 2000000) only [go_sem, g, k1]) ?_
    simp -implicitDefEqProofs (maxSteps := 2000000) only [go_sem, g, k1]
    refine awp_loop Nat (fun i => mkSt [(0, .one (.im 3 (rels l))), (3, .one (.vad 1000 0)), (5, .one (.ref 960 1 0 (selN (freeOf l q) k).length)), (6, .sc (.int .i64 k)), (7, .sc (.bool (!upTo (fun i => !hasA l q i k) i))), (8, .sc (.int .i64 i))] [(1000, sQu q)] [(960, (1, ints (selN (freeOf l q) k)))] 6000)
      (fun i => i ≤ q.atoms.length) (fun i => q.atoms.length - i) 0 (by omega) (le_st' _ _ [⟨960, some _, false, 1, _⟩] [] _ (by simp -implicitDefEqProofs (maxSteps := 2000000) only [go_sem, upTo] <;> and_intros <;> rfl) (by simp -implicitDefEqProofs (maxSteps := 2000000) only [go_sem, upTo] <;> and_intros <;> rfl) (by simp -implicitDefEqProofs (maxSteps := 2000000) only [go_sem, upTo] <;> and_intros <;> rfl) (by rfl)) ?_
    rintro i h2
    by_cases k2 : i < q.atoms.length
    · have wi : IntKind.i64.wrap ((i : Int) + 1) = ((i + 1 : Nat) : Int) := i64_succ (by omega)
      rcases d0 : upTo (fun i => !hasA l q i k) i
      · simp -implicitDefEqProofs (maxSteps := 2000000) only [go_sem, k2, wi, Bool.not_false]
        refine ⟨i + 1, k2, by omega, ?_⟩
        rw [show upTo (fun i => !hasA l q i k) (i + 1) = false by rw [upTo, d0]; rfl]
        exact (le_st' _ _ [⟨960, some _, false, 1, _⟩] [] _ (by simp -implicitDefEqProofs (maxSteps := 2000000) only [go_sem] <;> and_intros <;> rfl) (by simp -implicitDefEqProofs (maxSteps := 2000000) only [go_sem] <;> and_intros <;> rfl) (by simp -implicitDefEqProofs (maxSteps := 2000000) only [go_sem] <;> and_intros <;> rfl) (by rfl))
      · simp -implicitDefEqProofs (maxSteps := 2000000) only [go_sem, k2, Bool.not_true]
        refine call_of (specHasAttack_sat l q i k hl hq) (by simp -implicitDefEqProofs (maxSteps := 2000000) only [go_sem, k2]) (by kernel_rfl) (by simp -implicitDefEqProofs (maxSteps := 2000000) only [go_sem, k2]) ?_
        simp -implicitDefEqProofs (maxSteps := 2000000) only [go_sem, k2]
        rw [wi]
        refine ⟨i + 1, k2, by omega, ?_⟩
        rw [show upTo (fun i => !hasA l q i k) (i + 1) = !hasA l q i k by rw [upTo, d0]; rfl, Bool.not_not]
        exact (le_st' _ _ [⟨960, some _, false, 1, _⟩] [] _ (by simp -implicitDefEqProofs (maxSteps := 2000000) only [go_sem] <;> and_intros <;> rfl) (by simp -implicitDefEqProofs (maxSteps := 2000000) only [go_sem] <;> and_intros <;> rfl) (by simp -implicitDefEqProofs (maxSteps := 2000000) only [go_sem] <;> and_intros <;> rfl) (by rfl))
    · obtain rfl : i = q.atoms.length := by omega
      rcases d0 : upTo (fun i => !hasA l q i k) q.atoms.length
      · simp -implicitDefEqProofs (maxSteps := 2000000) only [go_sem, k2, wk, Bool.not_false]
        refine ⟨k + 1, k1, by omega, ?_⟩
        rw [selN_no (show freeOf l q k = false from d0)]
        exact (le_st' _ _ [⟨960, some _, false, 1, _⟩] [] _ (by simp -implicitDefEqProofs (maxSteps := 2000000) only [go_sem] <;> and_intros <;> rfl) (by simp -implicitDefEqProofs (maxSteps := 2000000) only [go_sem] <;> and_intros <;> rfl) (by simp -implicitDefEqProofs (maxSteps := 2000000) only [go_sem] <;> and_intros <;> rfl) (by rfl))
      · simp -implicitDefEqProofs (maxSteps := 2000000) only [go_sem, k2, Bool.not_true]
        refine ⟨by omega, ?_⟩
        rw [wk]
        refine ⟨k + 1, k1, by omega, ?_⟩
        rw [selN_yes (show freeOf l q k = true from d0)]
        exact (le_st' _ _ [⟨960, some _, false, 1, _⟩] [] _ (by simp -implicitDefEqProofs (maxSteps := 2000000) only [go_sem] <;> and_intros <;> rfl) (by simp -implicitDefEqProofs (maxSteps := 2000000) only [go_sem] <;> and_intros <;> rfl) (by simp -implicitDefEqProofs (maxSteps := 2000000) only [go_sem] <;> and_intros <;> rfl) (by rfl))
  · obtain rfl : k = q.atoms.length := by omega
    simp -implicitDefEqProofs (maxSteps := 2000000) only [go_sem, k1]
    first | done | rfl | exact ⟨rfl, rfl⟩ | exact ⟨rfl, rfl, rfl⟩ | (refine tr_and ?_ ?_ <;> first | rfl | exact ⟨rfl, rfl⟩ | kernel_rfl)
theorem hasA_nat {l : List Rel} {q : Qu} {i k : Nat} (g : goodQu l q = true) (hi : i < q.atoms.length) (hk : k < q.atoms.length) :
    (((i : Int) != k) && meetB (varsOf (q.atoms.getD k default).l) (att q.atoms (clos l q.atoms i (uni (q.free ++ keyVars l (q.atoms.getD i default)) [])) i)) = hasA l q i k := by
  have i1 : inB (i : Int) 0 ((q.atoms.length : Int) - 1) = true := by unfold inB; simp only [Bool.and_eq_true, decide_eq_true_eq]; omega
  have i2 : inB (k : Int) 0 ((q.atoms.length : Int) - 1) = true := by unfold inB; simp only [Bool.and_eq_true, decide_eq_true_eq]; omega
  rw [hasA, g, i1, i2, attV_eq g hi]
  rfl
theorem unattacked_sat (l : List Rel) (q : Qu) (hl : l.length ≤ 9223372036854775807) (hq : q.ok) (g : goodQu l q = true) : Sat Try.prog 57 [lRels l, lRIs q.atoms, lInts q.free] [oInts (unatt l q)] [g1, g1, g1] := by
  refine sat_of_body mixed Try.func57 rfl (by kernel_rfl) (by kernel_rfl) (rs := [.tmp 6]) rfl rfl rfl ?_
  have h3 := atoms3 g
  rw [show unatt l q = selN (freeOf l q) q.atoms.length by rw [unatt, g]; rfl]
  simp -implicitDefEqProofs (maxSteps := 2000000) only [go_sem]
  refine awp_loop Nat (fun k => mkSt [(0, .one (.im 3 (rels l))), (1, .one (.im 2 (ris 0 q.atoms))), (2, .one (.im 1 (ints q.free))), (7, .one (.ref 960 1 0 (selN (freeOf l q) k).length)), (13, .sc (.int .i64 q.atoms.length)), (14, .sc (.int .i64 k))] [] [(960, (1, ints (selN (freeOf l q) k)))] 4000)
    (fun k => k ≤ q.atoms.length) (fun k => q.atoms.length - k) 0 (by omega) (le_st' _ _ [⟨960, some _, false, 1, _⟩] [] _ (by simp -implicitDefEqProofs (maxSteps := 2000000) only [go_sem] <;> and_intros <;> rfl) (by simp -implicitDefEqProofs (maxSteps := 2000000) only [go_sem] <;> and_intros <;> rfl) (by simp -implicitDefEqProofs (maxSteps := 2000000) only [go_sem] <;> and_intros <;> rfl) (by rfl)) ?_
  rintro k h1
  have hsl := selN_len (freeOf l q) k
  by_cases k1 : k < q.atoms.length
  · have wk : IntKind.i64.wrap ((k : Int) + 1) = ((k + 1 : Nat) : Int) := i64_succ (by omega)
    simp -implicitDefEqProofs (maxSteps := 2000000) only [go_sem, k1]
    refine awp_loop Nat (fun i => mkSt [(0, .one (.im 3 (rels l))), (1, .one (.im 2 (ris 0 q.atoms))), (2, .one (.im 1 (ints q.free))), (7, .one (.ref 960 1 0 (selN (freeOf l q) k).length)), (8, .sc (.int .i64 k)), (9, .sc (.bool (upTo (fun i => !hasA l q i k) i))), (13, .sc (.int .i64 q.atoms.length)), (14, .sc (.int .i64 k)), (18, .sc (.int .i64 q.atoms.length)), (19, .sc (.int .i64 i))] [] [(960, (1, ints (selN (freeOf l q) k)))] 6000)
      (fun i => i ≤ q.atoms.length) (fun i => q.atoms.length - i) 0 (by omega) (le_st' _ _ [⟨960, some _, false, 1, _⟩] [] _ (by simp -implicitDefEqProofs (maxSteps := 2000000) only [go_sem, upTo] <;> and_intros <;> rfl) (by simp -implicitDefEqProofs (maxSteps := 2000000) only [go_sem, upTo] <;> and_intros <;> rfl) (by simp -implicitDefEqProofs (maxSteps := 2000000) only [go_sem, upTo] <;> and_intros <;> rfl) (by rfl)) ?_
    rintro i h2
    by_cases k2 : i < q.atoms.length
    · have wi : IntKind.i64.wrap ((i : Int) + 1) = ((i + 1 : Nat) : Int) := i64_succ (by omega)
      rcases d0 : upTo (fun i => !hasA l q i k) i
      · simp -implicitDefEqProofs (maxSteps := 2000000) only [go_sem, k2, wi]
        refine ⟨i + 1, k2, by omega, ?_⟩
        rw [show upTo (fun i => !hasA l q i k) (i + 1) = false by rw [upTo, d0]; rfl]
        exact (le_st' _ _ [⟨960, some _, false, 1, _⟩] [] _ (by simp -implicitDefEqProofs (maxSteps := 2000000) only [go_sem] <;> and_intros <;> rfl) (by simp -implicitDefEqProofs (maxSteps := 2000000) only [go_sem] <;> and_intros <;> rfl) (by simp -implicitDefEqProofs (maxSteps := 2000000) only [go_sem] <;> and_intros <;> rfl) (by rfl))
      · simp -implicitDefEqProofs (maxSteps := 2000000) only [go_sem, k2]
        have hn := hasA_nat g k2 k1
        refine call_of (attacks_sat l q.atoms q.free i k hl hq.1.1 hq.1.2 hq.2 k2 k1 (by rw [start_keys g]; exact start_small _ _)) (by simp -implicitDefEqProofs (maxSteps := 2000000) only [go_sem, k2, hn]) (by kernel_rfl) (by simp -implicitDefEqProofs (maxSteps := 2000000) only [go_sem, k2, hn]) ?_
        simp -implicitDefEqProofs (maxSteps := 2000000) only [go_sem, k2, hn]
        rw [wi]
        refine ⟨i + 1, k2, by omega, ?_⟩
        rw [show upTo (fun i => !hasA l q i k) (i + 1) = !hasA l q i k by rw [upTo, d0]; rfl]
        exact (le_st' _ _ [⟨960, some _, false, 1, _⟩] [] _ (by simp -implicitDefEqProofs (maxSteps := 2000000) only [go_sem] <;> and_intros <;> rfl) (by simp -implicitDefEqProofs (maxSteps := 2000000) only [go_sem] <;> and_intros <;> rfl) (by simp -implicitDefEqProofs (maxSteps := 2000000) only [go_sem] <;> and_intros <;> rfl) (by rfl))
    · obtain rfl : i = q.atoms.length := by omega
      rcases d0 : upTo (fun i => !hasA l q i k) q.atoms.length
      · simp -implicitDefEqProofs (maxSteps := 2000000) only [go_sem, k2, wk]
        refine ⟨k + 1, k1, by omega, ?_⟩
        rw [selN_no (show freeOf l q k = false from d0)]
        exact (le_st' _ _ [⟨960, some _, false, 1, _⟩] [] _ (by simp -implicitDefEqProofs (maxSteps := 2000000) only [go_sem] <;> and_intros <;> rfl) (by simp -implicitDefEqProofs (maxSteps := 2000000) only [go_sem] <;> and_intros <;> rfl) (by simp -implicitDefEqProofs (maxSteps := 2000000) only [go_sem] <;> and_intros <;> rfl) (by rfl))
      · simp -implicitDefEqProofs (maxSteps := 2000000) only [go_sem, k2]
        refine ⟨by omega, ?_⟩
        rw [wk]
        refine ⟨k + 1, k1, by omega, ?_⟩
        rw [selN_yes (show freeOf l q k = true from d0)]
        exact (le_st' _ _ [⟨960, some _, false, 1, _⟩] [] _ (by simp -implicitDefEqProofs (maxSteps := 2000000) only [go_sem] <;> and_intros <;> rfl) (by simp -implicitDefEqProofs (maxSteps := 2000000) only [go_sem] <;> and_intros <;> rfl) (by simp -implicitDefEqProofs (maxSteps := 2000000) only [go_sem] <;> and_intros <;> rfl) (by rfl))
  · obtain rfl : k = q.atoms.length := by omega
    simp -implicitDefEqProofs (maxSteps := 2000000) only [go_sem, k1]
    first | done | rfl | exact ⟨rfl, rfl⟩ | exact ⟨rfl, rfl, rfl⟩ | (refine tr_and ?_ ?_ <;> first | rfl | exact ⟨rfl, rfl⟩ | kernel_rfl)
theorem implUnattackedAtoms_sat (l : List Rel) (q : Qu) (hl : l.length ≤ 9223372036854775807) (hq : q.ok) : Sat Try.prog 31 [lRels l, lQu q] [oInts (unatt l q)] [g1, g3] := by
  refine sat_of_body mixed Try.func31 rfl (by kernel_rfl) (by kernel_rfl) (rs := [.tmp 4]) rfl rfl rfl ?_
  simp -implicitDefEqProofs (maxSteps := 2000000) only [go_sem]
  rcases g : goodQu l q
  · rw [show unatt l q = [] by rw [unatt, g]; rfl]
    refine call_of (implIsValidQuery_sat l q hl hq) (by simp -implicitDefEqProofs (maxSteps := 2000000) only [go_sem, g]) (by kernel_rfl) (by simp -implicitDefEqProofs (maxSteps := 2000000) only [go_sem, g]) ?_
    simp -implicitDefEqProofs (maxSteps := 2000000) only [go_sem, g]
    first | done | rfl | exact ⟨rfl, rfl⟩ | exact ⟨rfl, rfl, rfl⟩ | (refine tr_and ?_ ?_ <;> first | rfl | exact ⟨rfl, rfl⟩ | kernel_rfl)
  refine call_of (implIsValidQuery_sat l q hl hq) (by simp -implicitDefEqProofs (maxSteps := 2000000) only [go_sem, g]) (by kernel_rfl) (by simp -implicitDefEqProofs (maxSteps := 2000000) only [go_sem, g]) ?_
  simp -implicitDefEqProofs (maxSteps := 2000000) only [go_sem, g]
  refine call_of (unattacked_sat l q hl hq g) (by simp -implicitDefEqProofs (maxSteps := 2000000) only [go_sem]) (callOk_still (by kernel_rfl) (by simp only [List.all_cons, List.all_nil, LV.still, LV.leaves, Leaf.still, ints_still, ris_still, eds_still, rels_still, iss_still, Bool.and_self, Bool.and_true])) (by simp -implicitDefEqProofs (maxSteps := 2000000) only [go_sem]) ?_
  simp -implicitDefEqProofs (maxSteps := 2000000) only [go_sem]
  first | done | rfl | exact ⟨rfl, rfl⟩ | exact ⟨rfl, rfl, rfl⟩ | (refine tr_and ?_ ?_ <;> first | rfl | exact ⟨rfl, rfl⟩ | kernel_rfl)
end Go.Proofs.Ytoinfljgjdmooaa.A
