
/- EqualQueries. Conditions: none. -/
import Derived.Test.YtkcbnbbbijlhcaaAF3
namespace Go.Proofs.Ytkcbnbbbijlhcaa.A
open Go
set_option linter.unusedSimpArgs false
set_option linter.unusedVariables false
set_option maxRecDepth 100000

theorem specEqualQueries_sat (a b : Qu) (h : a.fit) : Sat Try.prog 5 [lQu a, lQu b] [lBool (decide (a = b))] [g3, g3] := by
  refine sat_of_body mixed Try.func5 rfl (by kernel_rfl) (by kernel_rfl) (rs := [.tmp 4]) rfl rfl rfl ?_
  rw [Qu.eq_iff]
  simp -implicitDefEqProofs only [go_sem]
  rcases d1 : a.vc != b.vc
  case true =>
    have e1 : ¬ a.vc = b.vc := by simpa using d1
    simp -implicitDefEqProofs only [go_sem, d1, e1, decide_false]
  have e1 : decide (a.vc = b.vc) = true := by simpa using d1
  simp -implicitDefEqProofs only [go_sem, d1, e1]
  refine call_of (l3Ints_sat a.free b.free h.2) (by simp -implicitDefEqProofs only [go_sem]) (by kernel_rfl) (by simp -implicitDefEqProofs only [go_sem]) ?_
  simp -implicitDefEqProofs only [go_sem]
  rw [cmp_bne]
  rcases d2 : decide (a.free = b.free)
  · simp -implicitDefEqProofs only [go_sem, d2]
  simp -implicitDefEqProofs only [go_sem, d2]
  refine cond_split (fun d3 => ?_) fun d3 => ?_
  · simp -implicitDefEqProofs only [go_sem]
    have d3 : ¬ (a.atoms.length : Int) = b.atoms.length := by simpa using d3
    rw [decide_eq_false (fun h => d3 (by rw [h]))]
  have d3 : a.atoms.length = b.atoms.length := cast_ne d3
  simp -implicitDefEqProofs only [go_sem]
  refine awp_loop Nat (fun k => mkSt [(2, .one (.vad 1000 0)), (3, .one (.vad 1064 0)), (5, .sc (.int .i64 k))] [(1000, sQu a), (1064, sQu b)] [] 2000)
    (fun k => k ≤ a.atoms.length ∧ a.atoms.take k = b.atoms.take k) (fun k => a.atoms.length - k) 0 ⟨by omega, rfl⟩ (le_st _ _ [] [] _ rfl (by simp -implicitDefEqProofs only [go_sem] <;> rfl) (by simp -implicitDefEqProofs only [go_sem] <;> rfl) (by simp -implicitDefEqProofs only [go_sem] <;> rfl)) ?_
  rintro k ⟨h1, h2⟩
  by_cases c1 : k < a.atoms.length
  · have c2 : k < b.atoms.length := by omega
    simp -implicitDefEqProofs only [go_sem, c1, c2]
    rcases d4 : (a.atoms.getD k default).r != (b.atoms.getD k default).r
    case true =>
      simp -implicitDefEqProofs only [go_sem, d4]
      rw [decide_eq_false (list_ne (d := default) (k := k) (fun h => by rw [h] at d4; simp at d4))]
    simp -implicitDefEqProofs only [go_sem, d4, c1, c2]
    refine call_of (l3Ints_sat (a.atoms.getD k default).l (b.atoms.getD k default).l (h.1.2 _ (mem_getD _ c1))) (by simp -implicitDefEqProofs only [go_sem]) (by kernel_rfl) (by simp -implicitDefEqProofs only [go_sem]) ?_
    simp -implicitDefEqProofs only [go_sem, d4, c1, c2]
    rw [cmp_bne]
    rcases d5 : decide ((a.atoms.getD k default).l = (b.atoms.getD k default).l)
    · simp -implicitDefEqProofs only [go_sem, d5]
      rw [decide_eq_false (list_ne (d := default) (k := k) (fun h => by rw [h] at d5; simp at d5))]
    simp -implicitDefEqProofs only [go_sem, d5]
    rw [i64_succ (by have := h.1.1; omega)]
    refine ⟨k + 1, ⟨c1, list_step default c1 c2 h2 ?_⟩, by omega, (le_st _ _ [] [] _ rfl (by simp -implicitDefEqProofs only [go_sem] <;> rfl) (by simp -implicitDefEqProofs only [go_sem] <;> rfl) (by simp -implicitDefEqProofs only [go_sem] <;> rfl))⟩
    have h := RI.eq_iff (a.atoms.getD k default) (b.atoms.getD k default)
    rw [d5, show decide ((a.atoms.getD k default).r = (b.atoms.getD k default).r) = true by simpa using d4] at h
    simpa using h
  · simp -implicitDefEqProofs only [go_sem, c1]
    rw [List.take_of_length_le (by omega), List.take_of_length_le (by omega)] at h2
    rw [decide_eq_true h2]
theorem equalAtoms_sat (a b : RI) (h : a.fit) : Sat Try.prog 15 [lRI a, lRI b] [lBool (decide (a = b))] [g2, g2] := by
  refine sat_of_body mixed Try.func15 rfl (by kernel_rfl) (by kernel_rfl) (rs := [.tmp 4]) rfl rfl rfl ?_
  rw [RI.eq_iff]
  simp -implicitDefEqProofs only [go_sem]
  rcases d : a.r == b.r
  · have e : ¬ a.r = b.r := by simpa using d
    simp -implicitDefEqProofs only [go_sem, d, e, decide_false]
  have e : a.r = b.r := by simpa using d
  simp -implicitDefEqProofs only [go_sem, d, e, decide_true]
  refine call_of (slicesEqual_sat a.l b.l h) (by simp -implicitDefEqProofs only [go_sem]) (by kernel_rfl) (by simp -implicitDefEqProofs only [go_sem]) ?_
  simp -implicitDefEqProofs only [go_sem, d, e]
theorem equalFunc_sat (a b : List RI) (ha : a.length ≤ 9223372036854775807) (h : ∀ x ∈ a, x.fit) : Sat Try.prog 14 [lRIs a, lRIs b, .one (.fn 15 [])] [lBool (decide (a = b))] [g1, g1, g1] := by
  refine sat_of_body mixed Try.func14 rfl (by kernel_rfl) (by kernel_rfl) (rs := [.tmp 6]) rfl rfl rfl ?_
  simp -implicitDefEqProofs only [go_sem]
  refine cond_split (fun d => ?_) fun d => ?_
  · simp -implicitDefEqProofs only [go_sem]
    have d : ¬ (a.length : Int) = b.length := by simpa using d
    rw [decide_eq_false (fun h => d (by rw [h]))]
  have d : a.length = b.length := cast_ne d
  simp -implicitDefEqProofs only [go_sem]
  refine awp_loop Nat (fun k => mkSt [(0, .one (.im 2 (ris 0 a))), (1, .one (.im 2 (ris 0 b))), (2, .one (.fni 15 [])), (15, .one (.im 2 (ris 0 a))), (16, .sc (.int .i64 a.length)), (17, .sc (.int .i64 k))] [] [] 1000)
    (fun k => k ≤ a.length ∧ a.take k = b.take k) (fun k => a.length - k) 0 ⟨by omega, rfl⟩ (le_st _ _ [] [] _ rfl (by simp -implicitDefEqProofs only [go_sem] <;> rfl) trivial trivial) ?_
  rintro k ⟨h1, h2⟩
  by_cases c1 : k < a.length
  · have c2 : k < b.length := by omega
    simp -implicitDefEqProofs only [go_sem, c1, c2]
    refine call_of (equalAtoms_sat (a.getD k default) (b.getD k default) (h _ (mem_getD _ c1))) (by simp -implicitDefEqProofs only [go_sem]) (by kernel_rfl) (by simp -implicitDefEqProofs only [go_sem]) ?_
    simp -implicitDefEqProofs only [go_sem]
    refine cond_split (fun e => ?_) fun e => ?_
    · simp -implicitDefEqProofs only [go_sem]
      rw [decide_eq_false (list_ne (d := default) (k := k) (by simpa using e))]
    simp -implicitDefEqProofs only [go_sem]
    rw [i64_succ (by omega)]
    exact ⟨k + 1, ⟨c1, list_step default c1 c2 h2 (by simpa using e)⟩, by omega, (le_st _ _ [] [] _ rfl (by simp -implicitDefEqProofs only [go_sem] <;> rfl) trivial trivial)⟩
  · simp -implicitDefEqProofs only [go_sem, c1]
    rw [List.take_of_length_le (by omega), List.take_of_length_le (by omega)] at h2
    rw [decide_eq_true h2]
theorem implEqualQueries_sat (a b : Qu) (h : a.fit) : Sat Try.prog 7 [lQu a, lQu b] [lBool (decide (a = b))] [g3, g3] := by
  refine sat_of_body mixed Try.func7 rfl (by kernel_rfl) (by kernel_rfl) (rs := [.tmp 4]) rfl rfl rfl ?_
  rw [Qu.eq_iff]
  simp -implicitDefEqProofs only [go_sem]
  rcases d : a.vc == b.vc
  · have e : ¬ a.vc = b.vc := by simpa using d
    simp -implicitDefEqProofs only [go_sem, d, e, decide_false]
  have e : a.vc = b.vc := by simpa using d
  simp -implicitDefEqProofs only [go_sem, d, e, decide_true]
  refine call_of (equalFunc_sat a.atoms b.atoms h.1.1 h.1.2) (by simp -implicitDefEqProofs only [go_sem]) (by kernel_rfl) (by simp -implicitDefEqProofs only [go_sem]) ?_
  simp -implicitDefEqProofs only [go_sem, d, e]
  rcases f : decide (a.atoms = b.atoms)
  · simp -implicitDefEqProofs only [go_sem, f]
  simp -implicitDefEqProofs only [go_sem, f]
  refine call_of (slicesEqual_sat a.free b.free h.2) (by simp -implicitDefEqProofs only [go_sem]) (by kernel_rfl) (by simp -implicitDefEqProofs only [go_sem]) ?_
  simp -implicitDefEqProofs only [go_sem, f]
/-- THE LAW OF EqualQueries. -/
theorem lawEqualQueries_sat (a b : Qu) (h1 : a.fit) (h2 : b.fit) : Sat Try.prog 3 [lQu a, lQu b] [lBool true] [g3, g3] := by
  refine sat_of_body mixed Try.func3 rfl (by kernel_rfl) (by kernel_rfl) (rs := [.tmp 4]) rfl rfl rfl ?_
  simp -implicitDefEqProofs only [go_sem]
  have z1 := szQu_ok a 1048576 (by omega)
  refine call_of (szQuery_sat a 1048576 (by omega) h1) (by simp -implicitDefEqProofs only [go_sem]) (by kernel_rfl) (by simp -implicitDefEqProofs only [go_sem]) ?_
  simp -implicitDefEqProofs only [go_sem]
  refine cond_split (fun c1 => ?_) fun c1 => ?_
  · simp -implicitDefEqProofs only [go_sem]
  have o1 := z1.2 (of_decide_eq_false c1)
  simp -implicitDefEqProofs only [go_sem]
  have z2 := szQu_ok b _ z1.1
  refine call_of (szQuery_sat b (szQu a 1048576) z1.1 h2) (by simp -implicitDefEqProofs only [go_sem]) (by kernel_rfl) (by simp -implicitDefEqProofs only [go_sem]) ?_
  simp -implicitDefEqProofs only [go_sem]
  refine cond_split (fun c2 => ?_) fun c2 => ?_
  · simp -implicitDefEqProofs only [go_sem]
  have o2 := z2.2 (of_decide_eq_false c2)
  simp -implicitDefEqProofs only [go_sem]
  refine call_of (toQuery_sat a o1) (by simp -implicitDefEqProofs only [go_sem]) (by kernel_rfl) (by simp -implicitDefEqProofs only [go_sem]) ?_
  simp -implicitDefEqProofs only [go_sem]
  refine call_of (toQuery_sat b o2) (by simp -implicitDefEqProofs only [go_sem]) (by kernel_rfl) (by simp -implicitDefEqProofs only [go_sem]) ?_
  simp -implicitDefEqProofs only [go_sem]
  refine call_of (specEqualQueries_sat a b h1) (by simp -implicitDefEqProofs only [go_sem]) (by kernel_rfl) (by simp -implicitDefEqProofs only [go_sem]) ?_
  simp -implicitDefEqProofs only [go_sem]
  refine ⟨by kernel_rfl, ?_⟩
  refine call_of (toQuery_sat a o1) (by simp -implicitDefEqProofs only [go_sem]) (by kernel_rfl) (by simp -implicitDefEqProofs only [go_sem]) ?_
  simp -implicitDefEqProofs only [go_sem]
  refine call_of (toQuery_sat b o2) (by simp -implicitDefEqProofs only [go_sem]) (by kernel_rfl) (by simp -implicitDefEqProofs only [go_sem]) ?_
  simp -implicitDefEqProofs only [go_sem]
  refine call_of (implEqualQueries_sat a b h1) (by simp -implicitDefEqProofs only [go_sem]) (by kernel_rfl) (by simp -implicitDefEqProofs only [go_sem]) ?_
  simp -implicitDefEqProofs only [go_sem]
  refine call_of (toQuery_sat a o1) (by simp -implicitDefEqProofs only [go_sem]) (by kernel_rfl) (by simp -implicitDefEqProofs only [go_sem]) ?_
  simp -implicitDefEqProofs only [go_sem]
  refine call_of (eqQuery_sat a a h1) (by simp -implicitDefEqProofs only [go_sem]) (by kernel_rfl) (by simp -implicitDefEqProofs only [go_sem]) ?_
  simp -implicitDefEqProofs only [go_sem]
  refine ⟨by kernel_rfl, ?_⟩
  refine call_of (toQuery_sat b o2) (by simp -implicitDefEqProofs only [go_sem]) (by kernel_rfl) (by simp -implicitDefEqProofs only [go_sem]) ?_
  simp -implicitDefEqProofs only [go_sem]
  refine call_of (eqQuery_sat b b h2) (by simp -implicitDefEqProofs only [go_sem]) (by kernel_rfl) (by simp -implicitDefEqProofs only [go_sem]) ?_
  simp -implicitDefEqProofs only [go_sem]
  rfl
end Go.Proofs.Ytkcbnbbbijlhcaa.A
