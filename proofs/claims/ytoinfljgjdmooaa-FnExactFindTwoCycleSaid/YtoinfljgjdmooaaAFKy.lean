
/- KEY CLOSURES. Conditions: none. -/
import Derived.Test.YtoinfljgjdmooaaAFCl3
namespace Go.Proofs.Ytoinfljgjdmooaa.A
open Go
set_option linter.unusedSimpArgs false
set_option linter.unusedVariables false
set_option maxRecDepth 100000

def kcl (l : List Rel) (q : Qu) (k : Int) : List Int := if goodQu l q && inB k 0 ((q.atoms.length : Int) - 1) then acl l q k (keyVars l (q.atoms.getD k.toNat default)) else []
theorem kcl_len (l : List Rel) (q : Qu) (k : Int) : (kcl l q k).length ≤ 4 := by
  unfold kcl; split
  · exact acl_len _ _ _ _
  · simp
theorem specKeyClosure_sat (l : List Rel) (q : Qu) (k : Int) (hl : l.length ≤ 9223372036854775807) (hq : q.fit) : Sat Try.prog 11 [lRels l, lQu q, lInt k] [oInts (kcl l q k)] [g1, g3, g1] := by
  refine sat_of_body mixed Try.func11 rfl (by kernel_rfl) (by kernel_rfl) (rs := [.tmp 6]) rfl rfl rfl ?_
  have hb := hq.1.1
  have w0 : IntKind.i64.wrap ((q.atoms.length : Int) - 1) = (q.atoms.length : Int) - 1 := IntWalk.i64_in _ (by omega)
  simp -implicitDefEqProofs (maxSteps := 2000000) only [go_sem]
  rcases g : goodQu l q
  · rw [show kcl l q k = [] by rw [kcl, g]; rfl]
    refine call_of (specIsValidQuery_sat l q hl hq) (by simp -implicitDefEqProofs (maxSteps := 2000000) only [go_sem, g]) (by kernel_rfl) (by simp -implicitDefEqProofs (maxSteps := 2000000) only [go_sem, g]) ?_
    simp -implicitDefEqProofs (maxSteps := 2000000) only [go_sem, g]
    first | done | rfl | exact ⟨rfl, rfl⟩ | exact ⟨rfl, rfl, rfl⟩ | (refine tr_and ?_ ?_ <;> first | rfl | exact ⟨rfl, rfl⟩ | kernel_rfl)
  rcases i1 : inB k 0 ((q.atoms.length : Int) - 1)
  · rw [show kcl l q k = [] by rw [kcl, i1, Bool.and_false]; rfl]
    refine call_of (specIsValidQuery_sat l q hl hq) (by simp -implicitDefEqProofs (maxSteps := 2000000) only [go_sem, g, w0]) (by kernel_rfl) (by simp -implicitDefEqProofs (maxSteps := 2000000) only [go_sem, g, w0]) ?_
    simp -implicitDefEqProofs (maxSteps := 2000000) only [go_sem, g, w0]
    refine call_of (inB_sat k 0 ((q.atoms.length : Int) - 1)) (by simp -implicitDefEqProofs (maxSteps := 2000000) only [go_sem, i1]) (by kernel_rfl) (by simp -implicitDefEqProofs (maxSteps := 2000000) only [go_sem, i1]) ?_
    simp -implicitDefEqProofs (maxSteps := 2000000) only [go_sem, i1]
    first | done | rfl | exact ⟨rfl, rfl⟩ | exact ⟨rfl, rfl, rfl⟩ | (refine tr_and ?_ ?_ <;> first | rfl | exact ⟨rfl, rfl⟩ | kernel_rfl)
  obtain ⟨r1, r2⟩ := inB_of i1
  obtain ⟨m, rfl⟩ : ∃ m : Nat, k = m := ⟨k.toNat, by omega⟩
  have c1 : m < q.atoms.length := by omega
  have hkl := keyVars_len l (q.atoms.getD m default)
  rw [show kcl l q m = acl l q m (keyVars l (q.atoms.getD m default)) by rw [kcl, g, i1]; rfl]
  refine call_of (specIsValidQuery_sat l q hl hq) (by simp -implicitDefEqProofs (maxSteps := 2000000) only [go_sem, g, w0]) (by kernel_rfl) (by simp -implicitDefEqProofs (maxSteps := 2000000) only [go_sem, g, w0]) ?_
  simp -implicitDefEqProofs (maxSteps := 2000000) only [go_sem, g, w0]
  refine call_of (inB_sat m 0 ((q.atoms.length : Int) - 1)) (by simp -implicitDefEqProofs (maxSteps := 2000000) only [go_sem, i1, c1]) (by kernel_rfl) (by simp -implicitDefEqProofs (maxSteps := 2000000) only [go_sem, i1, c1]) ?_
  simp -implicitDefEqProofs (maxSteps := 2000000) only [go_sem, i1, c1]
  refine call_of (specKeyVariables_sat l (q.atoms.getD m default) hl (hq.1.2 _ (mem_getD default c1))) (by simp -implicitDefEqProofs (maxSteps := 2000000) only [go_sem, c1]) (callOk_still (by kernel_rfl) (by simp only [List.all_cons, List.all_nil, LV.still, LV.leaves, Leaf.still, ints_still, ris_still, eds_still, rels_still, iss_still, Bool.and_self, Bool.and_true])) (by simp -implicitDefEqProofs (maxSteps := 2000000) only [go_sem, c1]) ?_
  simp -implicitDefEqProofs (maxSteps := 2000000) only [go_sem, c1]
  refine call_of (specAttributeClosure_sat l q m (keyVars l (q.atoms.getD m default)) hl hq (by omega)) (by simp -implicitDefEqProofs (maxSteps := 2000000) only [go_sem]) (callOk_still (by kernel_rfl) (by simp only [List.all_cons, List.all_nil, LV.still, LV.leaves, Leaf.still, ints_still, ris_still, eds_still, rels_still, iss_still, Bool.and_self, Bool.and_true])) (by simp -implicitDefEqProofs (maxSteps := 2000000) only [go_sem]) ?_
  simp -implicitDefEqProofs (maxSteps := 2000000) only [go_sem]
  first | done | rfl | exact ⟨rfl, rfl⟩ | exact ⟨rfl, rfl, rfl⟩ | (refine tr_and ?_ ?_ <;> first | rfl | exact ⟨rfl, rfl⟩ | kernel_rfl)
theorem implKeyClosure_sat (l : List Rel) (q : Qu) (k : Int) (hl : l.length ≤ 9223372036854775807) (hq : q.ok) : Sat Try.prog 14 [lRels l, lQu q, lInt k] [oInts (kcl l q k)] [g1, g3, g1] := by
  refine sat_of_body mixed Try.func14 rfl (by kernel_rfl) (by kernel_rfl) (rs := [.tmp 6]) rfl rfl rfl ?_
  have hb := hq.1.1
  have w0 : IntKind.i64.wrap ((q.atoms.length : Int) - 1) = (q.atoms.length : Int) - 1 := IntWalk.i64_in _ (by omega)
  simp -implicitDefEqProofs (maxSteps := 2000000) only [go_sem]
  rcases g : goodQu l q
  · rw [show kcl l q k = [] by rw [kcl, g]; rfl]
    refine call_of (implIsValidQuery_sat l q hl hq) (by simp -implicitDefEqProofs (maxSteps := 2000000) only [go_sem, g]) (by kernel_rfl) (by simp -implicitDefEqProofs (maxSteps := 2000000) only [go_sem, g]) ?_
    simp -implicitDefEqProofs (maxSteps := 2000000) only [go_sem, g]
    first | done | rfl | exact ⟨rfl, rfl⟩ | exact ⟨rfl, rfl, rfl⟩ | (refine tr_and ?_ ?_ <;> first | rfl | exact ⟨rfl, rfl⟩ | kernel_rfl)
  rcases i1 : inB k 0 ((q.atoms.length : Int) - 1)
  · rw [show kcl l q k = [] by rw [kcl, i1, Bool.and_false]; rfl]
    refine call_of (implIsValidQuery_sat l q hl hq) (by simp -implicitDefEqProofs (maxSteps := 2000000) only [go_sem, g, w0]) (by kernel_rfl) (by simp -implicitDefEqProofs (maxSteps := 2000000) only [go_sem, g, w0]) ?_
    simp -implicitDefEqProofs (maxSteps := 2000000) only [go_sem, g, w0]
    refine call_of (inW_sat k 0 ((q.atoms.length : Int) - 1)) (by simp -implicitDefEqProofs (maxSteps := 2000000) only [go_sem, i1]) (by kernel_rfl) (by simp -implicitDefEqProofs (maxSteps := 2000000) only [go_sem, i1]) ?_
    simp -implicitDefEqProofs (maxSteps := 2000000) only [go_sem, i1]
    first | done | rfl | exact ⟨rfl, rfl⟩ | exact ⟨rfl, rfl, rfl⟩ | (refine tr_and ?_ ?_ <;> first | rfl | exact ⟨rfl, rfl⟩ | kernel_rfl)
  obtain ⟨r1, r2⟩ := inB_of i1
  obtain ⟨m, rfl⟩ : ∃ m : Nat, k = m := ⟨k.toNat, by omega⟩
  have c1 : m < q.atoms.length := by omega
  have hkl := keyVars_len l (q.atoms.getD m default)
  rw [show kcl l q m = acl l q m (keyVars l (q.atoms.getD m default)) by rw [kcl, g, i1]; rfl]
  refine call_of (implIsValidQuery_sat l q hl hq) (by simp -implicitDefEqProofs (maxSteps := 2000000) only [go_sem, g, w0]) (by kernel_rfl) (by simp -implicitDefEqProofs (maxSteps := 2000000) only [go_sem, g, w0]) ?_
  simp -implicitDefEqProofs (maxSteps := 2000000) only [go_sem, g, w0]
  refine call_of (inW_sat m 0 ((q.atoms.length : Int) - 1)) (by simp -implicitDefEqProofs (maxSteps := 2000000) only [go_sem, i1, c1]) (by kernel_rfl) (by simp -implicitDefEqProofs (maxSteps := 2000000) only [go_sem, i1, c1]) ?_
  simp -implicitDefEqProofs (maxSteps := 2000000) only [go_sem, i1, c1]
  refine call_of (implKeyVariables_sat l (q.atoms.getD m default) hl (hq.1.2 _ (mem_getD default c1))) (by simp -implicitDefEqProofs (maxSteps := 2000000) only [go_sem, c1]) (callOk_still (by kernel_rfl) (by simp only [List.all_cons, List.all_nil, LV.still, LV.leaves, Leaf.still, ints_still, ris_still, eds_still, rels_still, iss_still, Bool.and_self, Bool.and_true])) (by simp -implicitDefEqProofs (maxSteps := 2000000) only [go_sem, c1]) ?_
  simp -implicitDefEqProofs (maxSteps := 2000000) only [go_sem, c1]
  refine call_of (implAttributeClosure_sat l q m (keyVars l (q.atoms.getD m default)) hl hq (by omega)) (by simp -implicitDefEqProofs (maxSteps := 2000000) only [go_sem]) (callOk_still (by kernel_rfl) (by simp only [List.all_cons, List.all_nil, LV.still, LV.leaves, Leaf.still, ints_still, ris_still, eds_still, rels_still, iss_still, Bool.and_self, Bool.and_true])) (by simp -implicitDefEqProofs (maxSteps := 2000000) only [go_sem]) ?_
  simp -implicitDefEqProofs (maxSteps := 2000000) only [go_sem]
  first | done | rfl | exact ⟨rfl, rfl⟩ | exact ⟨rfl, rfl, rfl⟩ | (refine tr_and ?_ ?_ <;> first | rfl | exact ⟨rfl, rfl⟩ | kernel_rfl)
end Go.Proofs.Ytoinfljgjdmooaa.A
