
/- RELATIONS, FACTS AND DATABASES: size, copy, comparison, marks. Conditions: none. -/
import Derived.Test.YtbalifgacjmbpabGreatAFMQ
namespace Go.Proofs.YtbalifgacjmbpabGreat.A
open Go
set_option linter.unusedSimpArgs false
set_option linter.unusedVariables false
set_option maxRecDepth 100000

def szRel (a : Rel) (n : Int) : Int := if n - a.name.size < 0 then -1 else n - a.name.size
def Rel.ok (a : Rel) : Prop := a.name.size ≤ 1048576
def Rel.fit (a : Rel) : Prop := a.name.size ≤ 9223372036854775807
theorem szRel_ok : SzOk szRel Rel.ok := by
  intro a n h
  unfold szRel Rel.ok
  split
  · exact ⟨by omega, fun h => absurd (by omega) h⟩
  · exact ⟨by omega, fun h => by omega⟩
theorem szRelation_sat (a : Rel) (n : Int) (h : -1 ≤ n ∧ n ≤ 1048576) (h1 : a.fit) : Sat Tryz.prog 69 [lRel a, lInt n] [lInt (szRel a n)] [g3, g1] := by
  refine sat_of_body mixed Tryz.func69 rfl (by kernel_rfl) (by kernel_rfl) (rs := [.tmp 4]) rfl rfl rfl ?_
  unfold szRel
  unfold Rel.fit at h1
  simp -implicitDefEqProofs (maxSteps := 2000000) only [go_sem]
  rw [IntWalk.i64_in _ (by omega)]
  refine cond_split (fun d => ?_) fun d => ?_
  · simp -implicitDefEqProofs (maxSteps := 2000000) only [go_sem]
    rw [if_pos (of_decide_eq_true d)]
  · simp -implicitDefEqProofs (maxSteps := 2000000) only [go_sem]
    rw [if_neg (of_decide_eq_false d)]
theorem szRelationS_sat (a : List Rel) (n : Int) (h : -1 ≤ n ∧ n ≤ 1048576) (h1 : a.length ≤ 9223372036854775807) (h2 : ∀ x ∈ a, x.fit) : Sat Tryz.prog 36 [lRels a, lInt n] [lInt (szAll szRel a n)] [g1, g1] := by
  refine sat_of_body mixed Tryz.func36 rfl (by kernel_rfl) (by kernel_rfl) (rs := [.tmp 4]) rfl rfl rfl ?_
  simp -implicitDefEqProofs (maxSteps := 2000000) only [go_sem]
  rw [IntWalk.i64_in _ (by omega)]
  refine cond_split (fun d => ?_) fun d => ?_
  · simp -implicitDefEqProofs (maxSteps := 2000000) only [go_sem]
    have d := of_decide_eq_true d
    rw [szAll, if_pos d]
  have d := of_decide_eq_false d
  simp -implicitDefEqProofs (maxSteps := 2000000) only [go_sem]
  refine awp_loop (Nat × Int) (fun x => mkSt [(0, .one (.im 3 (rels a))), (1, .sc (.int .i64 x.2)), (5, .sc (.int .i64 x.1))] [] [] 1000)
    (fun x => x.1 ≤ a.length ∧ (-1 ≤ x.2 ∧ x.2 ≤ 1048576) ∧ szF szRel (a.drop x.1) x.2 = szAll szRel a n) (fun x => a.length - x.1) (0, n - a.length) ⟨by simp, by simp; omega, by rw [szAll, if_neg d]; rfl⟩ (le_st _ _ [] [] _ rfl (by simp -implicitDefEqProofs (maxSteps := 2000000) only [go_sem] <;> rfl) trivial trivial) ?_
  rintro ⟨k, m⟩ ⟨c1, c2, c3⟩
  simp only at c1 c2 c3
  by_cases c : k < a.length
  · rw [drop_cons default c, szF] at c3
    have e := szRel_ok (a.getD k default) m c2
    simp -implicitDefEqProofs (maxSteps := 2000000) only [go_sem, c]
    refine call_of (szRelation_sat (a.getD k default) m c2 (h2 _ (mem_getD _ c))) (by simp -implicitDefEqProofs (maxSteps := 2000000) only [go_sem]) (by kernel_rfl) (by simp -implicitDefEqProofs (maxSteps := 2000000) only [go_sem]) ?_
    simp -implicitDefEqProofs (maxSteps := 2000000) only [go_sem]
    refine cond_split (fun f => ?_) fun f => ?_
    · simp -implicitDefEqProofs (maxSteps := 2000000) only [go_sem]
      rw [if_pos (of_decide_eq_true f)] at c3
      rw [← c3]
    simp -implicitDefEqProofs (maxSteps := 2000000) only [go_sem]
    rw [if_neg (of_decide_eq_false f)] at c3
    rw [i64_succ (by omega)]
    exact ⟨(k + 1, szRel (a.getD k default) m), ⟨c, e.1, c3⟩, by simp; omega, (le_st _ _ [] [] _ rfl (by simp -implicitDefEqProofs (maxSteps := 2000000) only [go_sem] <;> rfl) trivial trivial)⟩
  · simp -implicitDefEqProofs (maxSteps := 2000000) only [go_sem, c]
    rw [List.drop_of_length_le (by omega), szF] at c3
    rw [c3]
theorem toRelation_sat (a : Rel) : Sat Tryz.prog 75 [lRel a] [lRel a] [g3] := by
  refine sat_of_body mixed Tryz.func75 rfl (by kernel_rfl) (by kernel_rfl) (rs := [.cell 2 107]) rfl rfl rfl ?_
  simp -implicitDefEqProofs (maxSteps := 2000000) only [go_sem]
theorem toRelationS_sat (a : List Rel) (h : a.length ≤ 1048576) : Sat Tryz.prog 43 [lRels a] [oRels a] [g1] := by
  refine sat_of_body mixed Tryz.func43 rfl (by kernel_rfl) (by kernel_rfl) (rs := [.tmp 2]) rfl rfl rfl ?_
  simp -implicitDefEqProofs (maxSteps := 2000000) only [go_sem]
  refine ⟨by omega, ?_⟩
  refine awp_loop (Nat × List Rel) (fun x => mkSt [(0, .one (.im 3 (rels a))), (3, .one (.ref 960 3 0 a.length)), (4, .sc (.int .i64 x.1))] [] [(960, (3, rels x.2))] 1000)
    (fun x => x.1 ≤ a.length ∧ x.2.length = a.length ∧ x.2.take x.1 = a.take x.1) (fun x => a.length - x.1) (0, List.replicate a.length ⟨ByteArray.empty, 0, 0⟩) ⟨by simp, by simp, by simp⟩ (le_st _ _ [⟨960, some 1192, false, 3, _⟩] [] _ rfl (by simp -implicitDefEqProofs (maxSteps := 2000000) only [go_sem] <;> rfl) (by simp -implicitDefEqProofs (maxSteps := 2000000) only [go_sem] <;> rfl) (by simp -implicitDefEqProofs (maxSteps := 2000000) only [go_sem] <;> rfl)) ?_
  rintro ⟨k, b⟩ ⟨h1, h2, h3⟩
  simp only at h1 h2 h3
  by_cases c1 : k < a.length
  · simp -implicitDefEqProofs (maxSteps := 2000000) only [go_sem, c1, h2]
    refine call_of (toRelation_sat (a.getD k default)) (by simp -implicitDefEqProofs (maxSteps := 2000000) only [go_sem, h2, c1]) (by kernel_rfl) (by simp -implicitDefEqProofs (maxSteps := 2000000) only [go_sem, h2, c1]) ?_
    simp -implicitDefEqProofs (maxSteps := 2000000) only [go_sem, h2, c1]
    rw [i64_succ (by omega)]
    exact ⟨(k + 1, b.set k (a.getD k default)), ⟨c1, by simpa using h2, take_set_snoc default h2 h3 c1⟩, by simp; omega, (le_st _ _ [⟨960, some 960, false, 3, _⟩] [] _ rfl (by simp -implicitDefEqProofs (maxSteps := 2000000) only [go_sem] <;> rfl) (by simp -implicitDefEqProofs (maxSteps := 2000000) only [go_sem] <;> rfl) (by simp -implicitDefEqProofs (maxSteps := 2000000) only [go_sem] <;> rfl))⟩
  · obtain rfl := of_take h2 h3 (by omega)
    simp -implicitDefEqProofs (maxSteps := 2000000) only [go_sem, c1]
    rfl
theorem Rel.eq_iff (a b : Rel) : decide (a = b) = (decide (a.name = b.name) && (decide (a.ar = b.ar) && decide (a.kl = b.kl))) := by cases a; cases b; simp
theorem eqRelation_sat (a b : Rel) : Sat Tryz.prog 83 [lRel a, lRel b] [lBool (decide (a = b))] [g3, g3] := by
  refine sat_of_body mixed Tryz.func83 rfl (by kernel_rfl) (by kernel_rfl) (rs := [.tmp 4]) rfl rfl rfl ?_
  rw [Rel.eq_iff]
  simp -implicitDefEqProofs (maxSteps := 2000000) only [go_sem]
  refine cond_split (fun d => ?_) fun d => ?_
  · have d : ¬ a.name = b.name := by simpa using d
    simp -implicitDefEqProofs (maxSteps := 2000000) only [go_sem, d, decide_false]
  have d : decide (a.name = b.name) = true := by simpa using d
  simp -implicitDefEqProofs (maxSteps := 2000000) only [go_sem, d]
  refine cond_split (fun e => ?_) fun e => ?_
  · have e : ¬ a.ar = b.ar := by simpa using e
    simp -implicitDefEqProofs (maxSteps := 2000000) only [go_sem, e, decide_false]
  have e : decide (a.ar = b.ar) = true := by simpa using e
  simp -implicitDefEqProofs (maxSteps := 2000000) only [go_sem, e]
  refine cond_split (fun f => ?_) fun f => ?_
  · have f : ¬ a.kl = b.kl := by simpa using f
    simp -implicitDefEqProofs (maxSteps := 2000000) only [go_sem, f, decide_false]
  have f : decide (a.kl = b.kl) = true := by simpa using f
  simp -implicitDefEqProofs (maxSteps := 2000000) only [go_sem, f]
theorem eqRelationS_sat (a b : List Rel) (ha : a.length ≤ 9223372036854775807) : Sat Tryz.prog 52 [lRels a, lRels b] [lBool (decide (a = b))] [g1, g1] := by
  refine sat_of_body mixed Tryz.func52 rfl (by kernel_rfl) (by kernel_rfl) (rs := [.tmp 4]) rfl rfl rfl ?_
  simp -implicitDefEqProofs (maxSteps := 2000000) only [go_sem]
  refine cond_split (fun d => ?_) fun d => ?_
  · simp -implicitDefEqProofs (maxSteps := 2000000) only [go_sem]
    have d : ¬ (a.length : Int) = b.length := by simpa using d
    rw [decide_eq_false (fun h => d (by rw [h]))]
  have d : a.length = b.length := cast_ne d
  simp -implicitDefEqProofs (maxSteps := 2000000) only [go_sem]
  refine awp_loop Nat (fun k => mkSt [(0, .one (.im 3 (rels a))), (1, .one (.im 3 (rels b))), (5, .sc (.int .i64 k))] [] [] 1000)
    (fun k => k ≤ a.length ∧ a.take k = b.take k) (fun k => a.length - k) 0 ⟨by omega, rfl⟩ (le_st _ _ [] [] _ rfl (by simp -implicitDefEqProofs (maxSteps := 2000000) only [go_sem] <;> rfl) trivial trivial) ?_
  rintro k ⟨h1, h2⟩
  by_cases c1 : k < a.length
  · have c2 : k < b.length := by omega
    simp -implicitDefEqProofs (maxSteps := 2000000) only [go_sem, c1, c2]
    refine call_of (eqRelation_sat (a.getD k default) (b.getD k default)) (by simp -implicitDefEqProofs (maxSteps := 2000000) only [go_sem]) (by kernel_rfl) (by simp -implicitDefEqProofs (maxSteps := 2000000) only [go_sem]) ?_
    simp -implicitDefEqProofs (maxSteps := 2000000) only [go_sem]
    refine cond_split (fun e => ?_) fun e => ?_
    · simp -implicitDefEqProofs (maxSteps := 2000000) only [go_sem]
      rw [decide_eq_false (list_ne (d := default) (k := k) (by simpa using e))]
    simp -implicitDefEqProofs (maxSteps := 2000000) only [go_sem]
    rw [i64_succ (by omega)]
    exact ⟨k + 1, ⟨c1, list_step default c1 c2 h2 (by simpa using e)⟩, by omega, (le_st _ _ [] [] _ rfl (by simp -implicitDefEqProofs (maxSteps := 2000000) only [go_sem] <;> rfl) trivial trivial)⟩
  · simp -implicitDefEqProofs (maxSteps := 2000000) only [go_sem, c1]
    rw [List.take_of_length_le (by omega), List.take_of_length_le (by omega)] at h2
    rw [decide_eq_true h2]

/-! #### facts -/
theorem szFact_sat (a : RI) (n : Int) (h : -1 ≤ n ∧ n ≤ 1048576) (h1 : a.fit) : Sat Tryz.prog 70 [lRI a, lInt n] [lInt (szRI a n)] [g2, g1] := by
  refine sat_of_body mixed Tryz.func70 rfl (by kernel_rfl) (by kernel_rfl) (rs := [.tmp 4]) rfl rfl rfl ?_
  simp -implicitDefEqProofs (maxSteps := 2000000) only [go_sem]
  refine call_of (szIntS_sat a.l n h h1) (by simp -implicitDefEqProofs (maxSteps := 2000000) only [go_sem]) (by kernel_rfl) (by simp -implicitDefEqProofs (maxSteps := 2000000) only [go_sem]) ?_
  simp -implicitDefEqProofs (maxSteps := 2000000) only [go_sem]
  refine cond_split (fun d => ?_) fun d => ?_
  · simp -implicitDefEqProofs (maxSteps := 2000000) only [go_sem]
    have d := of_decide_eq_true d
    have := (szl_ok a.l n h).1
    rw [szRI, show szl a.l n = -1 by omega]
  · simp -implicitDefEqProofs (maxSteps := 2000000) only [go_sem]
    rw [szRI]
theorem szFactS_sat (a : List RI) (n : Int) (h : -1 ≤ n ∧ n ≤ 1048576) (h1 : a.length ≤ 9223372036854775807) (h2 : ∀ x ∈ a, x.fit) : Sat Tryz.prog 37 [lRIs a, lInt n] [lInt (szAll szRI a n)] [g1, g1] := by
  refine sat_of_body mixed Tryz.func37 rfl (by kernel_rfl) (by kernel_rfl) (rs := [.tmp 4]) rfl rfl rfl ?_
  simp -implicitDefEqProofs (maxSteps := 2000000) only [go_sem]
  rw [IntWalk.i64_in _ (by omega)]
  refine cond_split (fun d => ?_) fun d => ?_
  · simp -implicitDefEqProofs (maxSteps := 2000000) only [go_sem]
    have d := of_decide_eq_true d
    rw [szAll, if_pos d]
  have d := of_decide_eq_false d
  simp -implicitDefEqProofs (maxSteps := 2000000) only [go_sem]
  refine awp_loop (Nat × Int) (fun x => mkSt [(0, .one (.im 2 (ris 0 a))), (1, .sc (.int .i64 x.2)), (5, .sc (.int .i64 x.1))] [] [] 1000)
    (fun x => x.1 ≤ a.length ∧ (-1 ≤ x.2 ∧ x.2 ≤ 1048576) ∧ szF szRI (a.drop x.1) x.2 = szAll szRI a n) (fun x => a.length - x.1) (0, n - a.length) ⟨by simp, by simp; omega, by rw [szAll, if_neg d]; rfl⟩ (le_st _ _ [] [] _ rfl (by simp -implicitDefEqProofs (maxSteps := 2000000) only [go_sem] <;> rfl) trivial trivial) ?_
  rintro ⟨k, m⟩ ⟨c1, c2, c3⟩
  simp only at c1 c2 c3
  by_cases c : k < a.length
  · rw [drop_cons default c, szF] at c3
    have e := szRI_ok (a.getD k default) m c2
    simp -implicitDefEqProofs (maxSteps := 2000000) only [go_sem, c]
    refine call_of (szFact_sat (a.getD k default) m c2 (h2 _ (mem_getD _ c))) (by simp -implicitDefEqProofs (maxSteps := 2000000) only [go_sem]) (by kernel_rfl) (by simp -implicitDefEqProofs (maxSteps := 2000000) only [go_sem]) ?_
    simp -implicitDefEqProofs (maxSteps := 2000000) only [go_sem]
    refine cond_split (fun f => ?_) fun f => ?_
    · simp -implicitDefEqProofs (maxSteps := 2000000) only [go_sem]
      rw [if_pos (of_decide_eq_true f)] at c3
      rw [← c3]
    simp -implicitDefEqProofs (maxSteps := 2000000) only [go_sem]
    rw [if_neg (of_decide_eq_false f)] at c3
    rw [i64_succ (by omega)]
    exact ⟨(k + 1, szRI (a.getD k default) m), ⟨c, e.1, c3⟩, by simp; omega, (le_st _ _ [] [] _ rfl (by simp -implicitDefEqProofs (maxSteps := 2000000) only [go_sem] <;> rfl) trivial trivial)⟩
  · simp -implicitDefEqProofs (maxSteps := 2000000) only [go_sem, c]
    rw [List.drop_of_length_le (by omega), szF] at c3
    rw [c3]
theorem toFact_sat (a : RI) (h : a.ok) : Sat Tryz.prog 76 [lRI a] [oRI a] [g2] := by
  refine sat_of_body mixed Tryz.func76 rfl (by kernel_rfl) (by kernel_rfl) (rs := [.cell 2 76]) rfl rfl rfl ?_
  simp -implicitDefEqProofs (maxSteps := 2000000) only [go_sem]
  refine call_of (toIntS_sat a.l h) (by simp -implicitDefEqProofs (maxSteps := 2000000) only [go_sem]) (by kernel_rfl) (by simp -implicitDefEqProofs (maxSteps := 2000000) only [go_sem]) ?_
  simp -implicitDefEqProofs (maxSteps := 2000000) only [go_sem]
  rfl
theorem toFactS_sat (a : List RI) (h : a.length ≤ 1048576) (hx : ∀ x ∈ a, x.ok) : Sat Tryz.prog 44 [lRIs a] [oRIs a] [g1] := by
  refine sat_of_body mixed Tryz.func44 rfl (by kernel_rfl) (by kernel_rfl) (rs := [.tmp 2]) rfl rfl rfl ?_
  simp -implicitDefEqProofs (maxSteps := 2000000) only [go_sem]
  refine ⟨by omega, ?_⟩
  refine awp_loop (Nat × List RI) (fun x => mkSt [(0, .one (.im 2 (ris 0 a))), (3, .one (.ref 960 2 0 a.length)), (4, .sc (.int .i64 x.1))] [] [(960, (2, ris 999 x.2))] 1000)
    (fun x => x.1 ≤ a.length ∧ x.2.length = a.length ∧ x.2.take x.1 = a.take x.1) (fun x => a.length - x.1) (0, List.replicate a.length ⟨0, []⟩) ⟨by simp, by simp, by simp⟩ (le_st _ _ [⟨960, some 1192, false, 2, _⟩] [] _ rfl (by simp -implicitDefEqProofs (maxSteps := 2000000) only [go_sem] <;> rfl) (by simp -implicitDefEqProofs (maxSteps := 2000000) only [go_sem] <;> rfl) (by simp -implicitDefEqProofs (maxSteps := 2000000) only [go_sem] <;> rfl)) ?_
  rintro ⟨k, b⟩ ⟨h1, h2, h3⟩
  simp only at h1 h2 h3
  by_cases c1 : k < a.length
  · simp -implicitDefEqProofs (maxSteps := 2000000) only [go_sem, c1, h2]
    refine call_of (toFact_sat (a.getD k default) (hx _ (mem_getD _ c1))) (by simp -implicitDefEqProofs (maxSteps := 2000000) only [go_sem, h2, c1]) (by kernel_rfl) (by simp -implicitDefEqProofs (maxSteps := 2000000) only [go_sem, h2, c1]) ?_
    simp -implicitDefEqProofs (maxSteps := 2000000) only [go_sem, h2, c1]
    rw [i64_succ (by omega)]
    exact ⟨(k + 1, b.set k (a.getD k default)), ⟨c1, by simpa using h2, take_set_snoc default h2 h3 c1⟩, by simp; omega, (le_st _ _ [⟨960, some 960, false, 2, _⟩] [] _ rfl (by simp -implicitDefEqProofs (maxSteps := 2000000) only [go_sem] <;> rfl) (by simp -implicitDefEqProofs (maxSteps := 2000000) only [go_sem] <;> rfl) (by simp -implicitDefEqProofs (maxSteps := 2000000) only [go_sem] <;> rfl))⟩
  · obtain rfl := of_take h2 h3 (by omega)
    simp -implicitDefEqProofs (maxSteps := 2000000) only [go_sem, c1]
    rfl
theorem eqFact_sat (a b : RI) (h : a.fit) : Sat Tryz.prog 84 [lRI a, lRI b] [lBool (decide (a = b))] [g2, g2] := by
  refine sat_of_body mixed Tryz.func84 rfl (by kernel_rfl) (by kernel_rfl) (rs := [.tmp 4]) rfl rfl rfl ?_
  rw [RI.eq_iff]
  simp -implicitDefEqProofs (maxSteps := 2000000) only [go_sem]
  refine cond_split (fun d => ?_) fun d => ?_
  · have d : ¬ a.r = b.r := by simpa using d
    simp -implicitDefEqProofs (maxSteps := 2000000) only [go_sem, d, decide_false]
  have d : a.r = b.r := by simpa using d
  simp -implicitDefEqProofs (maxSteps := 2000000) only [go_sem, d, decide_true]
  refine call_of (eqIntS_sat a.l b.l h) (by simp -implicitDefEqProofs (maxSteps := 2000000) only [go_sem]) (by kernel_rfl) (by simp -implicitDefEqProofs (maxSteps := 2000000) only [go_sem]) ?_
  simp -implicitDefEqProofs (maxSteps := 2000000) only [go_sem]
  refine cond_split (fun e => ?_) fun e => ?_
  · have e : decide (a.l = b.l) = false := by simpa using e
    simp -implicitDefEqProofs (maxSteps := 2000000) only [go_sem, e]
  · have e : decide (a.l = b.l) = true := by simpa using e
    simp -implicitDefEqProofs (maxSteps := 2000000) only [go_sem, e]
theorem eqFactS_sat (a b : List RI) (ha : a.length ≤ 9223372036854775807) (h : ∀ x ∈ a, x.fit) : Sat Tryz.prog 53 [lRIs a, lRIs b] [lBool (decide (a = b))] [g1, g1] := by
  refine sat_of_body mixed Tryz.func53 rfl (by kernel_rfl) (by kernel_rfl) (rs := [.tmp 4]) rfl rfl rfl ?_
  simp -implicitDefEqProofs (maxSteps := 2000000) only [go_sem]
  refine cond_split (fun d => ?_) fun d => ?_
  · simp -implicitDefEqProofs (maxSteps := 2000000) only [go_sem]
    have d : ¬ (a.length : Int) = b.length := by simpa using d
    rw [decide_eq_false (fun h => d (by rw [h]))]
  have d : a.length = b.length := cast_ne d
  simp -implicitDefEqProofs (maxSteps := 2000000) only [go_sem]
  refine awp_loop Nat (fun k => mkSt [(0, .one (.im 2 (ris 0 a))), (1, .one (.im 2 (ris 0 b))), (5, .sc (.int .i64 k))] [] [] 1000)
    (fun k => k ≤ a.length ∧ a.take k = b.take k) (fun k => a.length - k) 0 ⟨by omega, rfl⟩ (le_st _ _ [] [] _ rfl (by simp -implicitDefEqProofs (maxSteps := 2000000) only [go_sem] <;> rfl) trivial trivial) ?_
  rintro k ⟨h1, h2⟩
  by_cases c1 : k < a.length
  · have c2 : k < b.length := by omega
    simp -implicitDefEqProofs (maxSteps := 2000000) only [go_sem, c1, c2]
    refine call_of (eqFact_sat (a.getD k default) (b.getD k default) (h _ (mem_getD _ c1))) (by simp -implicitDefEqProofs (maxSteps := 2000000) only [go_sem]) (by kernel_rfl) (by simp -implicitDefEqProofs (maxSteps := 2000000) only [go_sem]) ?_
    simp -implicitDefEqProofs (maxSteps := 2000000) only [go_sem]
    refine cond_split (fun e => ?_) fun e => ?_
    · simp -implicitDefEqProofs (maxSteps := 2000000) only [go_sem]
      rw [decide_eq_false (list_ne (d := default) (k := k) (by simpa using e))]
    simp -implicitDefEqProofs (maxSteps := 2000000) only [go_sem]
    rw [i64_succ (by omega)]
    exact ⟨k + 1, ⟨c1, list_step default c1 c2 h2 (by simpa using e)⟩, by omega, (le_st _ _ [] [] _ rfl (by simp -implicitDefEqProofs (maxSteps := 2000000) only [go_sem] <;> rfl) trivial trivial)⟩
  · simp -implicitDefEqProofs (maxSteps := 2000000) only [go_sem, c1]
    rw [List.take_of_length_le (by omega), List.take_of_length_le (by omega)] at h2
    rw [decide_eq_true h2]

/-! #### databases -/
def szDb (d : Db) (n : Int) : Int := if szAll szRel d.rels n < 0 then -1 else szAll szRI d.facts (szAll szRel d.rels n)
def Db.ok (d : Db) : Prop := (d.rels.length ≤ 1048576 ∧ ∀ x ∈ d.rels, x.ok) ∧ (d.facts.length ≤ 1048576 ∧ ∀ x ∈ d.facts, x.ok)
def Db.fit (d : Db) : Prop := (d.rels.length ≤ 9223372036854775807 ∧ ∀ x ∈ d.rels, x.fit) ∧ (d.facts.length ≤ 9223372036854775807 ∧ ∀ x ∈ d.facts, x.fit)
theorem Rel.ok.fit {a : Rel} (h : a.ok) : a.fit := by unfold Rel.ok at h; unfold Rel.fit; omega
theorem Db.ok.fit {d : Db} (h : d.ok) : d.fit := by
  unfold Db.ok at h; unfold Db.fit
  exact ⟨⟨by omega, fun x hx => (h.1.2 x hx).fit⟩, by omega, fun x hx => (h.2.2 x hx).fit⟩
theorem szDb_ok : SzOk szDb Db.ok := by
  intro d n h
  unfold szDb Db.ok
  have h1 := szAll_ok szRel_ok d.rels n h
  split
  · exact ⟨by omega, fun h => absurd (by omega) h⟩
  · rename_i c
    have h2 := szAll_ok szRI_ok d.facts _ h1.1
    exact ⟨h2.1, fun h3 => ⟨h1.2 c, h2.2 h3⟩⟩
theorem szDatabase_sat (d : Db) (n : Int) (h : -1 ≤ n ∧ n ≤ 1048576) (hd : d.fit) : Sat Tryz.prog 8 [lDb d, lInt n] [lInt (szDb d n)] [g2, g1] := by
  refine sat_of_body mixed Tryz.func8 rfl (by kernel_rfl) (by kernel_rfl) (rs := [.tmp 4]) rfl rfl rfl ?_
  simp -implicitDefEqProofs (maxSteps := 2000000) only [go_sem]
  have h1 := (szAll_ok szRel_ok d.rels n h).1
  refine call_of (szRelationS_sat d.rels n h hd.1.1 hd.1.2) (by simp -implicitDefEqProofs (maxSteps := 2000000) only [go_sem]) (by kernel_rfl) (by simp -implicitDefEqProofs (maxSteps := 2000000) only [go_sem]) ?_
  simp -implicitDefEqProofs (maxSteps := 2000000) only [go_sem]
  refine cond_split (fun c => ?_) fun c => ?_
  · simp -implicitDefEqProofs (maxSteps := 2000000) only [go_sem]
    rw [szDb, if_pos (of_decide_eq_true c)]
  simp -implicitDefEqProofs (maxSteps := 2000000) only [go_sem]
  refine call_of (szFactS_sat d.facts (szAll szRel d.rels n) h1 hd.2.1 hd.2.2) (by simp -implicitDefEqProofs (maxSteps := 2000000) only [go_sem]) (by kernel_rfl) (by simp -implicitDefEqProofs (maxSteps := 2000000) only [go_sem]) ?_
  simp -implicitDefEqProofs (maxSteps := 2000000) only [go_sem]
  rw [szDb, if_neg (of_decide_eq_false c)]
  refine cond_split (fun f => ?_) fun f => ?_
  · simp -implicitDefEqProofs (maxSteps := 2000000) only [go_sem]
    have := (szAll_ok szRI_ok d.facts _ h1).1
    have f := of_decide_eq_true f
    rw [show szAll szRI d.facts (szAll szRel d.rels n) = -1 by omega]
  · simp -implicitDefEqProofs (maxSteps := 2000000) only [go_sem]
theorem toDatabase_sat (d : Db) (h : d.ok) : Sat Tryz.prog 11 [lDb d] [oDb d] [g2] := by
  refine sat_of_body mixed Tryz.func11 rfl (by kernel_rfl) (by kernel_rfl) (rs := [.cell 2 37]) rfl rfl rfl ?_
  simp -implicitDefEqProofs (maxSteps := 2000000) only [go_sem]
  refine call_of (toRelationS_sat d.rels h.1.1) (by simp -implicitDefEqProofs (maxSteps := 2000000) only [go_sem]) (by kernel_rfl) (by simp -implicitDefEqProofs (maxSteps := 2000000) only [go_sem]) ?_
  simp -implicitDefEqProofs (maxSteps := 2000000) only [go_sem]
  refine call_of (toFactS_sat d.facts h.2.1 h.2.2) (by simp -implicitDefEqProofs (maxSteps := 2000000) only [go_sem]) (by kernel_rfl) (by simp -implicitDefEqProofs (maxSteps := 2000000) only [go_sem]) ?_
  simp -implicitDefEqProofs (maxSteps := 2000000) only [go_sem]
  rfl
theorem Db.eq_iff (a b : Db) : decide (a = b) = (decide (a.rels = b.rels) && decide (a.facts = b.facts)) := by cases a; cases b; simp
theorem eqDatabase_sat (a b : Db) (h : a.fit) : Sat Tryz.prog 15 [lDb a, lDb b] [lBool (decide (a = b))] [g2, g2] := by
  refine sat_of_body mixed Tryz.func15 rfl (by kernel_rfl) (by kernel_rfl) (rs := [.tmp 4]) rfl rfl rfl ?_
  rw [Db.eq_iff]
  simp -implicitDefEqProofs (maxSteps := 2000000) only [go_sem]
  refine call_of (eqRelationS_sat a.rels b.rels h.1.1) (by simp -implicitDefEqProofs (maxSteps := 2000000) only [go_sem]) (by kernel_rfl) (by simp -implicitDefEqProofs (maxSteps := 2000000) only [go_sem]) ?_
  simp -implicitDefEqProofs (maxSteps := 2000000) only [go_sem]
  refine cond_split (fun e => ?_) fun e => ?_
  · have e : decide (a.rels = b.rels) = false := by simpa using e
    simp -implicitDefEqProofs (maxSteps := 2000000) only [go_sem, e]
  have e : decide (a.rels = b.rels) = true := by simpa using e
  simp -implicitDefEqProofs (maxSteps := 2000000) only [go_sem, e]
  refine call_of (eqFactS_sat a.facts b.facts h.2.1 h.2.2) (by simp -implicitDefEqProofs (maxSteps := 2000000) only [go_sem]) (by kernel_rfl) (by simp -implicitDefEqProofs (maxSteps := 2000000) only [go_sem]) ?_
  simp -implicitDefEqProofs (maxSteps := 2000000) only [go_sem]
  refine cond_split (fun f => ?_) fun f => ?_
  · have f : decide (a.facts = b.facts) = false := by simpa using f
    simp -implicitDefEqProofs (maxSteps := 2000000) only [go_sem, f]
  · have f : decide (a.facts = b.facts) = true := by simpa using f
    simp -implicitDefEqProofs (maxSteps := 2000000) only [go_sem, f]
end Go.Proofs.YtbalifgacjmbpabGreat.A
