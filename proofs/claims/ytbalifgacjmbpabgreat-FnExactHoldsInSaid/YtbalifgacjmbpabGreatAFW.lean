
/- FACTS IN ORDER; VALID DATABASES. Conditions: none. -/
import Derived.Test.YtbalifgacjmbpabGreatAFV
namespace Go.Proofs.YtbalifgacjmbpabGreat.A
open Go
set_option linter.unusedSimpArgs false
set_option linter.unusedVariables false
set_option maxRecDepth 100000

def cmpI (a b : Int) : Int := if a < b then -1 else if a > b then 1 else 0
theorem compare_sat (a b : Int) : Sat Tryz.prog 137 [lInt a, lInt b] [lInt (cmpI a b)] [g1, g1] := by
  refine sat_of_body mixed Tryz.func137 rfl (by kernel_rfl) (by kernel_rfl) (rs := [.tmp 4]) rfl rfl rfl ?_
  unfold cmpI
  simp -implicitDefEqProofs (maxSteps := 2000000) only [go_sem]
  refine cond_split (fun d => ?_) fun d => ?_
  · simp -implicitDefEqProofs (maxSteps := 2000000) only [go_sem]
    rw [if_pos (of_decide_eq_true d)]
  rw [if_neg (of_decide_eq_false d)]
  simp -implicitDefEqProofs (maxSteps := 2000000) only [go_sem]
  refine cond_split (fun e => ?_) fun e => ?_
  · simp -implicitDefEqProofs (maxSteps := 2000000) only [go_sem]
    rw [if_pos (of_decide_eq_true e)]
  · simp -implicitDefEqProofs (maxSteps := 2000000) only [go_sem]
    rw [if_neg (of_decide_eq_false e)]
theorem isNaN_sat (a : Int) : Sat Tryz.prog 147 [lInt a] [lBool false] [g1] := by
  refine sat_of_body mixed Tryz.func147 rfl (by kernel_rfl) (by kernel_rfl) (rs := [.tmp 2]) rfl rfl rfl ?_
  simp -implicitDefEqProofs (maxSteps := 2000000) only [go_sem]
theorem cmpCompare_sat (a b : Int) : Sat Tryz.prog 153 [lInt a, lInt b] [lInt (cmpI a b)] [g1, g1] := by
  refine sat_of_body mixed Tryz.func153 rfl (by kernel_rfl) (by kernel_rfl) (rs := [.tmp 4]) rfl rfl rfl ?_
  unfold cmpI
  simp -implicitDefEqProofs (maxSteps := 2000000) only [go_sem]
  refine call_of (isNaN_sat a) (by simp -implicitDefEqProofs (maxSteps := 2000000) only [go_sem]) (by kernel_rfl) (by simp -implicitDefEqProofs (maxSteps := 2000000) only [go_sem]) ?_
  simp -implicitDefEqProofs (maxSteps := 2000000) only [go_sem]
  refine call_of (isNaN_sat b) (by simp -implicitDefEqProofs (maxSteps := 2000000) only [go_sem]) (by kernel_rfl) (by simp -implicitDefEqProofs (maxSteps := 2000000) only [go_sem]) ?_
  simp -implicitDefEqProofs (maxSteps := 2000000) only [go_sem]
  refine cond_split (fun d => ?_) fun d => ?_
  · simp -implicitDefEqProofs (maxSteps := 2000000) only [go_sem]
    rw [if_pos (of_decide_eq_true d)]
  rw [if_neg (of_decide_eq_false d)]
  simp -implicitDefEqProofs (maxSteps := 2000000) only [go_sem]
  refine cond_split (fun e => ?_) fun e => ?_
  · simp -implicitDefEqProofs (maxSteps := 2000000) only [go_sem]
    rw [if_pos (of_decide_eq_true e)]
  · simp -implicitDefEqProofs (maxSteps := 2000000) only [go_sem]
    rw [if_neg (of_decide_eq_false e)]
theorem slicesCompare_sat (a b : List Int) (ha : a.length ≤ 9223372036854775807) : Sat Tryz.prog 138 [lInts a, lInts b] [lInt (cmpInts a b)] [g1, g1] := by
  refine sat_of_body mixed Tryz.func138 rfl (by kernel_rfl) (by kernel_rfl) (rs := [.tmp 4]) rfl rfl rfl ?_
  simp -implicitDefEqProofs (maxSteps := 2000000) only [go_sem]
  refine awp_loop Nat (fun k => mkSt [(0, .one (.im 1 (ints a))), (1, .one (.im 1 (ints b))), (9, .one (.im 1 (ints a))), (10, .sc (.int .i64 a.length)), (11, .sc (.int .i64 k))] [] [] 1000)
    (fun k => k ≤ a.length ∧ k ≤ b.length ∧ cmpInts (a.drop k) (b.drop k) = cmpInts a b) (fun k => a.length - k) 0 ⟨by omega, by omega, rfl⟩ (le_st _ _ [] [] _ rfl (by simp -implicitDefEqProofs (maxSteps := 2000000) only [go_sem] <;> rfl) trivial trivial) ?_
  rintro k ⟨h1, h2, h3⟩
  by_cases c1 : k < a.length
  · rw [drop_cons 0 c1] at h3
    by_cases c2 : k < b.length
    · have c3 : ¬ b.length ≤ k := by omega
      rw [drop_cons 0 c2, cmpInts] at h3
      simp -implicitDefEqProofs (maxSteps := 2000000) only [go_sem, c1, c2, c3]
      refine call_of (cmpCompare_sat (a.getD k 0) (b.getD k 0)) (by simp -implicitDefEqProofs (maxSteps := 2000000) only [go_sem]) (by kernel_rfl) (by simp -implicitDefEqProofs (maxSteps := 2000000) only [go_sem]) ?_
      simp -implicitDefEqProofs (maxSteps := 2000000) only [go_sem]
      unfold cmpI
      by_cases e1 : a.getD k 0 < b.getD k 0
      · rw [if_pos e1] at h3 ⊢
        simp -implicitDefEqProofs (maxSteps := 2000000) only [go_sem]
        rw [← h3]
      rw [if_neg e1] at h3 ⊢
      by_cases e2 : a.getD k 0 > b.getD k 0
      · rw [if_pos e2] at h3 ⊢
        simp -implicitDefEqProofs (maxSteps := 2000000) only [go_sem]
        rw [← h3]
      rw [if_neg e2] at h3 ⊢
      simp -implicitDefEqProofs (maxSteps := 2000000) only [go_sem]
      rw [i64_succ (by omega)]
      exact ⟨k + 1, ⟨c1, c2, h3⟩, by omega, (le_st _ _ [] [] _ rfl (by simp -implicitDefEqProofs (maxSteps := 2000000) only [go_sem] <;> rfl) trivial trivial)⟩
    · obtain rfl : k = b.length := by omega
      rw [List.drop_length, cmpInts] at h3
      simp -implicitDefEqProofs (maxSteps := 2000000) only [go_sem, c1, Nat.le_refl]
      rw [← h3]
  · obtain rfl : k = a.length := by omega
    simp -implicitDefEqProofs (maxSteps := 2000000) only [go_sem, c1]
    rw [List.drop_length] at h3
    refine cond_split (fun d => ?_) fun d => ?_
    · simp -implicitDefEqProofs (maxSteps := 2000000) only [go_sem]
      have d := of_decide_eq_true d
      rw [drop_cons 0 (by omega), cmpInts] at h3
      rw [← h3]
    · simp -implicitDefEqProofs (maxSteps := 2000000) only [go_sem]
      have d := of_decide_eq_false d
      rw [List.drop_of_length_le (by omega), cmpInts] at h3
      rw [← h3]
def cmpRI (a b : RI) : Int := if a.r < b.r then -1 else if a.r > b.r then 1 else cmpInts a.l b.l
theorem specCompareFacts_sat (a b : RI) (h : a.fit) : Sat Tryz.prog 105 [lRI a, lRI b] [lInt (cmpRI a b)] [g2, g2] := by
  refine sat_of_body mixed Tryz.func105 rfl (by kernel_rfl) (by kernel_rfl) (rs := [.tmp 4]) rfl rfl rfl ?_
  unfold cmpRI
  simp -implicitDefEqProofs (maxSteps := 2000000) only [go_sem]
  refine cond_split (fun d => ?_) fun d => ?_
  · simp -implicitDefEqProofs (maxSteps := 2000000) only [go_sem]
    rw [if_pos (of_decide_eq_true d)]
  rw [if_neg (of_decide_eq_false d)]
  simp -implicitDefEqProofs (maxSteps := 2000000) only [go_sem]
  refine cond_split (fun e => ?_) fun e => ?_
  · simp -implicitDefEqProofs (maxSteps := 2000000) only [go_sem]
    rw [if_pos (of_decide_eq_true e)]
  rw [if_neg (of_decide_eq_false e)]
  simp -implicitDefEqProofs (maxSteps := 2000000) only [go_sem]
  refine call_of (l3Ints_sat a.l b.l h) (by simp -implicitDefEqProofs (maxSteps := 2000000) only [go_sem]) (by kernel_rfl) (by simp -implicitDefEqProofs (maxSteps := 2000000) only [go_sem]) ?_
  simp -implicitDefEqProofs (maxSteps := 2000000) only [go_sem]
theorem implCompareFacts_sat (a b : RI) (h : a.fit) : Sat Tryz.prog 109 [lRI a, lRI b] [lInt (cmpRI a b)] [g2, g2] := by
  refine sat_of_body mixed Tryz.func109 rfl (by kernel_rfl) (by kernel_rfl) (rs := [.tmp 4]) rfl rfl rfl ?_
  unfold cmpRI
  simp -implicitDefEqProofs (maxSteps := 2000000) only [go_sem]
  refine cond_split (fun d => ?_) fun d => ?_
  · simp -implicitDefEqProofs (maxSteps := 2000000) only [go_sem]
    refine call_of (compare_sat a.r b.r) (by simp -implicitDefEqProofs (maxSteps := 2000000) only [go_sem]) (by kernel_rfl) (by simp -implicitDefEqProofs (maxSteps := 2000000) only [go_sem]) ?_
    simp -implicitDefEqProofs (maxSteps := 2000000) only [go_sem]
    have d : ¬ a.r = b.r := by simpa using d
    unfold cmpI
    split
    · rfl
    · rw [if_pos (by omega), if_pos (by omega)]
  · have d : a.r = b.r := by simpa using d
    rw [if_neg (by omega), if_neg (by omega)]
    simp -implicitDefEqProofs (maxSteps := 2000000) only [go_sem]
    refine call_of (slicesCompare_sat a.l b.l h) (by simp -implicitDefEqProofs (maxSteps := 2000000) only [go_sem]) (by kernel_rfl) (by simp -implicitDefEqProofs (maxSteps := 2000000) only [go_sem]) ?_
    simp -implicitDefEqProofs (maxSteps := 2000000) only [go_sem]
/-- Is the i-th fact valid, and behind the one before it. -/
def factOk (d : Db) (i : Nat) : Bool := goodFact d.rels (d.facts.getD i default) && (decide (i = 0) || !decide (cmpRI (d.facts.getD (i - 1) default) (d.facts.getD i default) ≥ 0))
def goodDb (d : Db) : Bool := goodRels d.rels && (decide ((d.facts.length : Int) ≤ 14) && upTo (factOk d) d.facts.length)
theorem specIsValidDatabase_sat (d : Db) (h : d.fit) : Sat Tryz.prog 72 [lDb d] [lBool (goodDb d)] [g2] := by
  refine sat_of_body mixed Tryz.func72 rfl (by kernel_rfl) (by kernel_rfl) (rs := [.tmp 2]) rfl rfl rfl ?_
  have hm := fun k (hk : k < d.facts.length) => h.2.2 _ (mem_getD default hk)
  rcases g : goodRels d.rels
  · rw [show goodDb d = false by rw [goodDb, g]; rfl]
    simp -implicitDefEqProofs (maxSteps := 2000000) only [go_sem]
    refine awp_loop Nat (fun k => mkSt [(1, .one (.vad 1000 0)), (3, .sc (.int .i64 k))] [(1000, sDb d)] [] 2000)
      (fun k => k = 0) (fun k => 0) 0 rfl (le_st _ _ [] [] _ rfl (by simp -implicitDefEqProofs (maxSteps := 2000000) only [go_sem] <;> rfl) (by simp -implicitDefEqProofs (maxSteps := 2000000) only [go_sem] <;> rfl) (by simp -implicitDefEqProofs (maxSteps := 2000000) only [go_sem] <;> rfl)) ?_
    rintro k rfl
    by_cases c1 : 0 < d.facts.length
    · have c0 : (0 : Int) < d.facts.length := by omega
      simp -implicitDefEqProofs (maxSteps := 2000000) only [go_sem, c1, c0]
      refine call_of (specIsValidFact_sat d.rels (d.facts.getD 0 default) h.1.1 (hm 0 c1)) (by simp -implicitDefEqProofs (maxSteps := 2000000) only [go_sem, g, c1, c0]) (by kernel_rfl) (by simp -implicitDefEqProofs (maxSteps := 2000000) only [go_sem, g, c1, c0]) ?_
      simp -implicitDefEqProofs (maxSteps := 2000000) only [go_sem, g, c1, c0]
    · have c0 : ¬ (0 : Int) < d.facts.length := by omega
      simp -implicitDefEqProofs (maxSteps := 2000000) only [go_sem, c1, c0]
      refine call_of (specAreValidRelations_sat d.rels h.1.1) (by simp -implicitDefEqProofs (maxSteps := 2000000) only [go_sem, g]) (by kernel_rfl) (by simp -implicitDefEqProofs (maxSteps := 2000000) only [go_sem, g]) ?_
      simp -implicitDefEqProofs (maxSteps := 2000000) only [go_sem, g]
  simp -implicitDefEqProofs (maxSteps := 2000000) only [go_sem]
  refine awp_loop Nat (fun k => mkSt [(1, .one (.vad 1000 0)), (3, .sc (.int .i64 k))] [(1000, sDb d)] [] 2000)
    (fun k => k ≤ d.facts.length ∧ upTo (factOk d) k = true) (fun k => d.facts.length - k) 0 ⟨by omega, rfl⟩ (le_st _ _ [] [] _ rfl (by simp -implicitDefEqProofs (maxSteps := 2000000) only [go_sem] <;> rfl) (by simp -implicitDefEqProofs (maxSteps := 2000000) only [go_sem] <;> rfl) (by simp -implicitDefEqProofs (maxSteps := 2000000) only [go_sem] <;> rfl)) ?_
  rintro k ⟨h1, h2⟩
  have hbig := h.2.1
  by_cases c1 : k < d.facts.length
  · rcases d1 : goodFact d.rels (d.facts.getD k default)
    · have e : factOk d k = false := by rw [factOk, d1]; rfl
      rw [show goodDb d = false by rw [goodDb, g, upTo_false c1 e]; simp]
      simp -implicitDefEqProofs (maxSteps := 2000000) only [go_sem, c1]
      refine call_of (specIsValidFact_sat d.rels (d.facts.getD k default) h.1.1 (hm k c1)) (by simp -implicitDefEqProofs (maxSteps := 2000000) only [go_sem, g, d1, c1]) (by kernel_rfl) (by simp -implicitDefEqProofs (maxSteps := 2000000) only [go_sem, g, d1, c1]) ?_
      simp -implicitDefEqProofs (maxSteps := 2000000) only [go_sem, g, d1, c1]
    rcases k with _ | j
    · have e : factOk d 0 = true := by rw [factOk, d1]; rfl
      have c0 : (0 : Int) < d.facts.length := by omega
      simp -implicitDefEqProofs (maxSteps := 2000000) only [go_sem, c1, c0]
      refine call_of (specIsValidFact_sat d.rels (d.facts.getD 0 default) h.1.1 (hm 0 c1)) (by simp -implicitDefEqProofs (maxSteps := 2000000) only [go_sem, g, d1, c1, c0]) (by kernel_rfl) (by simp -implicitDefEqProofs (maxSteps := 2000000) only [go_sem, g, d1, c1, c0]) ?_
      simp -implicitDefEqProofs (maxSteps := 2000000) only [go_sem, g, d1, c1, c0]
      exact ⟨1, ⟨c1, upTo_step h2 e⟩, by omega, (le_st _ _ [] [] _ rfl (by simp -implicitDefEqProofs (maxSteps := 2000000) only [go_sem] <;> rfl) (by simp -implicitDefEqProofs (maxSteps := 2000000) only [go_sem] <;> rfl) (by simp -implicitDefEqProofs (maxSteps := 2000000) only [go_sem] <;> rfl))⟩
    · have c2 : j < d.facts.length := by omega
      have c3 : 0 < ((j + 1 : Nat) : Int) := by omega
      have w1 := i64_pred (j := j) (by omega)
      rcases d2 : decide (cmpRI (d.facts.getD j default) (d.facts.getD (j + 1) default) ≥ 0)
      · have e : factOk d (j + 1) = true := by rw [factOk, d1, Nat.add_sub_cancel, d2]; rfl
        simp -implicitDefEqProofs (maxSteps := 2000000) only [go_sem, c1]
        refine call_of (specIsValidFact_sat d.rels (d.facts.getD (j + 1) default) h.1.1 (hm _ c1)) (by simp -implicitDefEqProofs (maxSteps := 2000000) only [go_sem, g, d1, c1, c2, c3, w1]) (by kernel_rfl) (by simp -implicitDefEqProofs (maxSteps := 2000000) only [go_sem, g, d1, c1, c2, c3, w1]) ?_
        simp -implicitDefEqProofs (maxSteps := 2000000) only [go_sem, g, d1, c1, c2, c3, w1]
        refine call_of (specCompareFacts_sat (d.facts.getD j default) (d.facts.getD (j + 1) default) (hm _ c2)) (by simp -implicitDefEqProofs (maxSteps := 2000000) only [go_sem, d2]) (by kernel_rfl) (by simp -implicitDefEqProofs (maxSteps := 2000000) only [go_sem, d2]) ?_
        simp -implicitDefEqProofs (maxSteps := 2000000) only [go_sem, d2]
        rw [i64_succ (by omega)]
        exact ⟨j + 1 + 1, ⟨c1, upTo_step h2 e⟩, by omega, (le_st _ _ [] [] _ rfl (by simp -implicitDefEqProofs (maxSteps := 2000000) only [go_sem] <;> rfl) (by simp -implicitDefEqProofs (maxSteps := 2000000) only [go_sem] <;> rfl) (by simp -implicitDefEqProofs (maxSteps := 2000000) only [go_sem] <;> rfl))⟩
      · have e : factOk d (j + 1) = false := by rw [factOk, d1, Nat.add_sub_cancel, d2]; rfl
        rw [show goodDb d = false by rw [goodDb, g, upTo_false c1 e]; simp]
        simp -implicitDefEqProofs (maxSteps := 2000000) only [go_sem, c1]
        refine call_of (specIsValidFact_sat d.rels (d.facts.getD (j + 1) default) h.1.1 (hm _ c1)) (by simp -implicitDefEqProofs (maxSteps := 2000000) only [go_sem, g, d1, c1, c2, c3, w1]) (by kernel_rfl) (by simp -implicitDefEqProofs (maxSteps := 2000000) only [go_sem, g, d1, c1, c2, c3, w1]) ?_
        simp -implicitDefEqProofs (maxSteps := 2000000) only [go_sem, g, d1, c1, c2, c3, w1]
        refine call_of (specCompareFacts_sat (d.facts.getD j default) (d.facts.getD (j + 1) default) (hm _ c2)) (by simp -implicitDefEqProofs (maxSteps := 2000000) only [go_sem, d2]) (by kernel_rfl) (by simp -implicitDefEqProofs (maxSteps := 2000000) only [go_sem, d2]) ?_
        simp -implicitDefEqProofs (maxSteps := 2000000) only [go_sem, d2]
  · obtain rfl : k = d.facts.length := by omega
    simp -implicitDefEqProofs (maxSteps := 2000000) only [go_sem, c1]
    refine call_of (specAreValidRelations_sat d.rels h.1.1) (by simp -implicitDefEqProofs (maxSteps := 2000000) only [go_sem, g]) (by kernel_rfl) (by simp -implicitDefEqProofs (maxSteps := 2000000) only [go_sem, g]) ?_
    simp -implicitDefEqProofs (maxSteps := 2000000) only [go_sem, g]
    rw [goodDb, g, h2]
    simp
theorem implIsValidDatabase_sat (d : Db) (h : d.fit) : Sat Tryz.prog 78 [lDb d] [lBool (goodDb d)] [g2] := by
  refine sat_of_body mixed Tryz.func78 rfl (by kernel_rfl) (by kernel_rfl) (rs := [.tmp 2]) rfl rfl rfl ?_
  have hm := fun k (hk : k < d.facts.length) => h.2.2 _ (mem_getD default hk)
  have hbig := h.2.1
  simp -implicitDefEqProofs (maxSteps := 2000000) only [go_sem]
  rcases g : goodRels d.rels
  · rw [show goodDb d = false by rw [goodDb, g]; rfl]
    refine call_of (implAreValidRelations_sat d.rels h.1.1) (by simp -implicitDefEqProofs (maxSteps := 2000000) only [go_sem, g]) (by kernel_rfl) (by simp -implicitDefEqProofs (maxSteps := 2000000) only [go_sem, g]) ?_
    simp -implicitDefEqProofs (maxSteps := 2000000) only [go_sem, g]
  by_cases c14 : (d.facts.length : Int) > 14
  · rw [show goodDb d = false by rw [goodDb, g, decide_eq_false (by omega)]; rfl]
    refine call_of (implAreValidRelations_sat d.rels h.1.1) (by simp -implicitDefEqProofs (maxSteps := 2000000) only [go_sem, g, c14]) (by kernel_rfl) (by simp -implicitDefEqProofs (maxSteps := 2000000) only [go_sem, g, c14]) ?_
    simp -implicitDefEqProofs (maxSteps := 2000000) only [go_sem, g, c14]
  rw [show goodDb d = upTo (factOk d) d.facts.length by rw [goodDb, g, decide_eq_true (by omega)]; rfl]
  refine call_of (implAreValidRelations_sat d.rels h.1.1) (by simp -implicitDefEqProofs (maxSteps := 2000000) only [go_sem, g, c14]) (by kernel_rfl) (by simp -implicitDefEqProofs (maxSteps := 2000000) only [go_sem, g, c14]) ?_
  simp -implicitDefEqProofs (maxSteps := 2000000) only [go_sem, g, c14]
  refine awp_loop Nat (fun k => mkSt [(1, .one (.vad 1000 0)), (16, .one (.im 2 (ris 0 d.facts))), (17, .sc (.int .i64 d.facts.length)), (18, .sc (.int .i64 k))] [(1000, sDb d)] [] 2000)
    (fun k => k ≤ d.facts.length ∧ upTo (factOk d) k = true) (fun k => d.facts.length - k) 0 ⟨by omega, rfl⟩ (le_st _ _ [] [] _ rfl (by simp -implicitDefEqProofs (maxSteps := 2000000) only [go_sem] <;> rfl) (by simp -implicitDefEqProofs (maxSteps := 2000000) only [go_sem] <;> rfl) (by simp -implicitDefEqProofs (maxSteps := 2000000) only [go_sem] <;> rfl)) ?_
  rintro k ⟨h1, h2⟩
  by_cases c1 : k < d.facts.length
  · rcases d1 : goodFact d.rels (d.facts.getD k default)
    · have e : factOk d k = false := by rw [factOk, d1]; rfl
      rw [upTo_false c1 e]
      simp -implicitDefEqProofs (maxSteps := 2000000) only [go_sem, c1]
      refine call_of (isFact_sat d.rels (d.facts.getD k default) h.1.1 (hm k c1)) (by simp -implicitDefEqProofs (maxSteps := 2000000) only [go_sem, d1, c1]) (by kernel_rfl) (by simp -implicitDefEqProofs (maxSteps := 2000000) only [go_sem, d1, c1]) ?_
      simp -implicitDefEqProofs (maxSteps := 2000000) only [go_sem, d1, c1]
    rcases k with _ | j
    · have e : factOk d 0 = true := by rw [factOk, d1]; rfl
      have c0 : (0 : Int) < d.facts.length := by omega
      simp -implicitDefEqProofs (maxSteps := 2000000) only [go_sem, c1, c0]
      refine call_of (isFact_sat d.rels (d.facts.getD 0 default) h.1.1 (hm 0 c1)) (by simp -implicitDefEqProofs (maxSteps := 2000000) only [go_sem, d1, c1, c0]) (by kernel_rfl) (by simp -implicitDefEqProofs (maxSteps := 2000000) only [go_sem, d1, c1, c0]) ?_
      simp -implicitDefEqProofs (maxSteps := 2000000) only [go_sem, d1, c1, c0]
      exact ⟨1, ⟨c1, upTo_step h2 e⟩, by omega, (le_st _ _ [] [] _ rfl (by simp -implicitDefEqProofs (maxSteps := 2000000) only [go_sem] <;> rfl) (by simp -implicitDefEqProofs (maxSteps := 2000000) only [go_sem] <;> rfl) (by simp -implicitDefEqProofs (maxSteps := 2000000) only [go_sem] <;> rfl))⟩
    · have c2 : j < d.facts.length := by omega
      have c3 : 0 < ((j + 1 : Nat) : Int) := by omega
      have w1 := i64_pred (j := j) (by omega)
      rcases d2 : decide (cmpRI (d.facts.getD j default) (d.facts.getD (j + 1) default) ≥ 0)
      · have e : factOk d (j + 1) = true := by rw [factOk, d1, Nat.add_sub_cancel, d2]; rfl
        simp -implicitDefEqProofs (maxSteps := 2000000) only [go_sem, c1]
        refine call_of (isFact_sat d.rels (d.facts.getD (j + 1) default) h.1.1 (hm _ c1)) (by simp -implicitDefEqProofs (maxSteps := 2000000) only [go_sem, d1, c1, c2, c3, w1]) (by kernel_rfl) (by simp -implicitDefEqProofs (maxSteps := 2000000) only [go_sem, d1, c1, c2, c3, w1]) ?_
        simp -implicitDefEqProofs (maxSteps := 2000000) only [go_sem, d1, c1, c2, c3, w1]
        refine call_of (implCompareFacts_sat (d.facts.getD j default) (d.facts.getD (j + 1) default) (hm _ c2)) (by simp -implicitDefEqProofs (maxSteps := 2000000) only [go_sem, d2]) (by kernel_rfl) (by simp -implicitDefEqProofs (maxSteps := 2000000) only [go_sem, d2]) ?_
        simp -implicitDefEqProofs (maxSteps := 2000000) only [go_sem, d2]
        rw [i64_succ (by omega)]
        exact ⟨j + 1 + 1, ⟨c1, upTo_step h2 e⟩, by omega, (le_st _ _ [] [] _ rfl (by simp -implicitDefEqProofs (maxSteps := 2000000) only [go_sem] <;> rfl) (by simp -implicitDefEqProofs (maxSteps := 2000000) only [go_sem] <;> rfl) (by simp -implicitDefEqProofs (maxSteps := 2000000) only [go_sem] <;> rfl))⟩
      · have e : factOk d (j + 1) = false := by rw [factOk, d1, Nat.add_sub_cancel, d2]; rfl
        rw [upTo_false c1 e]
        simp -implicitDefEqProofs (maxSteps := 2000000) only [go_sem, c1]
        refine call_of (isFact_sat d.rels (d.facts.getD (j + 1) default) h.1.1 (hm _ c1)) (by simp -implicitDefEqProofs (maxSteps := 2000000) only [go_sem, d1, c1, c2, c3, w1]) (by kernel_rfl) (by simp -implicitDefEqProofs (maxSteps := 2000000) only [go_sem, d1, c1, c2, c3, w1]) ?_
        simp -implicitDefEqProofs (maxSteps := 2000000) only [go_sem, d1, c1, c2, c3, w1]
        refine call_of (implCompareFacts_sat (d.facts.getD j default) (d.facts.getD (j + 1) default) (hm _ c2)) (by simp -implicitDefEqProofs (maxSteps := 2000000) only [go_sem, d2]) (by kernel_rfl) (by simp -implicitDefEqProofs (maxSteps := 2000000) only [go_sem, d2]) ?_
        simp -implicitDefEqProofs (maxSteps := 2000000) only [go_sem, d2]
  · obtain rfl : k = d.facts.length := by omega
    simp -implicitDefEqProofs (maxSteps := 2000000) only [go_sem, c1]
    rw [h2]
end Go.Proofs.YtbalifgacjmbpabGreat.A
