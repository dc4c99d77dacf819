
/- THE KEY VARIABLES OF AN ATOM. Conditions: none. -/
import Derived.Test.YtoinfljgjdmooaaAF7
import Derived.Test.YtoinfljgjdmooaaAFMR
import Derived.Test.YtoinfljgjdmooaaAFV
namespace Go.Proofs.Ytoinfljgjdmooaa.A
open Go
set_option linter.unusedSimpArgs false
set_option linter.unusedVariables false
set_option maxRecDepth 100000

def keyVars (l : List Rel) (a : RI) : List Int := if inB a.r 0 ((l.length : Int) - 1) && inB (l.getD a.r.toNat default).kl 0 a.l.length then varsOf (a.l.take (l.getD a.r.toNat default).kl.toNat) else []
theorem keyVars_len (l : List Rel) (a : RI) : (keyVars l a).length ≤ 4 := by
  unfold keyVars; split
  · exact varsOf_len _
  · simp
theorem specKeyVariables_sat (l : List Rel) (a : RI) (h : l.length ≤ 9223372036854775807) (ha : a.fit) : Sat Try.prog 38 [lRels l, lRI a] [oInts (keyVars l a)] [g1, g2] := by
  refine sat_of_body mixed Try.func38 rfl (by kernel_rfl) (by kernel_rfl) (rs := [.tmp 4]) rfl rfl rfl ?_
  rcases a with ⟨r, ts⟩
  have w0 : IntKind.i64.wrap ((l.length : Int) - 1) = (l.length : Int) - 1 := IntWalk.i64_in _ (by omega)
  simp -implicitDefEqProofs (maxSteps := 2000000) only [go_sem, w0]
  rcases i1 : inB r 0 ((l.length : Int) - 1)
  · rw [show keyVars l ⟨r, ts⟩ = [] by rw [keyVars, i1]; rfl]
    refine call_of (inB_sat r 0 ((l.length : Int) - 1)) (by simp -implicitDefEqProofs (maxSteps := 2000000) only [go_sem, i1]) (by kernel_rfl) (by simp -implicitDefEqProofs (maxSteps := 2000000) only [go_sem, i1]) ?_
    simp -implicitDefEqProofs (maxSteps := 2000000) only [go_sem, i1]
    first | done | rfl | exact ⟨rfl, rfl⟩ | exact ⟨rfl, rfl, rfl⟩ | (refine tr_and ?_ ?_ <;> first | rfl | exact ⟨rfl, rfl⟩ | kernel_rfl)
  obtain ⟨r1, r2⟩ := inB_of i1
  obtain ⟨m, rfl⟩ : ∃ m : Nat, r = m := ⟨r.toNat, by omega⟩
  have c1 : m < l.length := by omega
  rcases i2 : inB (l.getD m default).kl 0 ts.length
  · rw [show keyVars l ⟨m, ts⟩ = [] by rw [keyVars]; simp only [Int.toNat_natCast, i1, i2]; rfl]
    refine call_of (inB_sat m 0 ((l.length : Int) - 1)) (by simp -implicitDefEqProofs (maxSteps := 2000000) only [go_sem, i1, c1]) (by kernel_rfl) (by simp -implicitDefEqProofs (maxSteps := 2000000) only [go_sem, i1, c1]) ?_
    simp -implicitDefEqProofs (maxSteps := 2000000) only [go_sem, i1, c1]
    refine call_of (inB_sat (l.getD m default).kl 0 ts.length) (by simp -implicitDefEqProofs (maxSteps := 2000000) only [go_sem, i2]) (by kernel_rfl) (by simp -implicitDefEqProofs (maxSteps := 2000000) only [go_sem, i2]) ?_
    simp -implicitDefEqProofs (maxSteps := 2000000) only [go_sem, i2]
    first | done | rfl | exact ⟨rfl, rfl⟩ | exact ⟨rfl, rfl, rfl⟩ | (refine tr_and ?_ ?_ <;> first | rfl | exact ⟨rfl, rfl⟩ | kernel_rfl)
  obtain ⟨r3, r4⟩ := inB_of i2
  obtain ⟨K, hK⟩ : ∃ K : Nat, (l.getD m default).kl = K := ⟨(l.getD m default).kl.toNat, by omega⟩
  have c2 : K ≤ ts.length := by omega
  rw [hK] at i2
  rw [show keyVars l ⟨m, ts⟩ = varsOf (ts.take K) by rw [keyVars]; simp only [Int.toNat_natCast, i1, hK, i2]; rfl]
  refine call_of (inB_sat m 0 ((l.length : Int) - 1)) (by simp -implicitDefEqProofs (maxSteps := 2000000) only [go_sem, i1, c1]) (by kernel_rfl) (by simp -implicitDefEqProofs (maxSteps := 2000000) only [go_sem, i1, c1]) ?_
  simp -implicitDefEqProofs (maxSteps := 2000000) only [go_sem, i1, c1]
  refine call_of (inB_sat K 0 ts.length) (by simp -implicitDefEqProofs (maxSteps := 2000000) only [go_sem, i2, c1, hK, c2, Nat.zero_le]) (by kernel_rfl) (by simp -implicitDefEqProofs (maxSteps := 2000000) only [go_sem, i2, c1, hK, c2, Nat.zero_le]) ?_
  simp -implicitDefEqProofs (maxSteps := 2000000) only [go_sem, i2, c1, hK, c2, Nat.zero_le]
  refine call_of (specAtomVariables_sat ⟨0, ts.take K⟩ (by unfold RI.fit at ha ⊢; simp only [List.length_take] at ha ⊢; omega)) (by simp -implicitDefEqProofs (maxSteps := 2000000) only [go_sem]) (callOk_still (by kernel_rfl) (by simp only [List.all_cons, List.all_nil, LV.still, LV.leaves, Leaf.still, ints_still, ris_still, eds_still, rels_still, iss_still, Bool.and_self, Bool.and_true])) (by simp -implicitDefEqProofs (maxSteps := 2000000) only [go_sem]) ?_
  simp -implicitDefEqProofs (maxSteps := 2000000) only [go_sem]
  first | done | rfl | exact ⟨rfl, rfl⟩ | exact ⟨rfl, rfl, rfl⟩ | (refine tr_and ?_ ?_ <;> first | rfl | exact ⟨rfl, rfl⟩ | kernel_rfl)
theorem implKeyVariables_sat (l : List Rel) (a : RI) (h : l.length ≤ 9223372036854775807) (ha : a.ok) : Sat Try.prog 45 [lRels l, lRI a] [oInts (keyVars l a)] [g1, g2] := by
  refine sat_of_body mixed Try.func45 rfl (by kernel_rfl) (by kernel_rfl) (rs := [.tmp 4]) rfl rfl rfl ?_
  rcases a with ⟨r, ts⟩
  have w0 : IntKind.i64.wrap ((l.length : Int) - 1) = (l.length : Int) - 1 := IntWalk.i64_in _ (by omega)
  simp -implicitDefEqProofs (maxSteps := 2000000) only [go_sem, w0]
  rcases i1 : inB r 0 ((l.length : Int) - 1)
  · rw [show keyVars l ⟨r, ts⟩ = [] by rw [keyVars, i1]; rfl]
    refine call_of (inW_sat r 0 ((l.length : Int) - 1)) (by simp -implicitDefEqProofs (maxSteps := 2000000) only [go_sem, i1]) (by kernel_rfl) (by simp -implicitDefEqProofs (maxSteps := 2000000) only [go_sem, i1]) ?_
    simp -implicitDefEqProofs (maxSteps := 2000000) only [go_sem, i1]
    first | done | rfl | exact ⟨rfl, rfl⟩ | exact ⟨rfl, rfl, rfl⟩ | (refine tr_and ?_ ?_ <;> first | rfl | exact ⟨rfl, rfl⟩ | kernel_rfl)
  obtain ⟨r1, r2⟩ := inB_of i1
  obtain ⟨m, rfl⟩ : ∃ m : Nat, r = m := ⟨r.toNat, by omega⟩
  have c1 : m < l.length := by omega
  rcases i2 : inB (l.getD m default).kl 0 ts.length
  · rw [show keyVars l ⟨m, ts⟩ = [] by rw [keyVars]; simp only [Int.toNat_natCast, i1, i2]; rfl]
    refine call_of (inW_sat m 0 ((l.length : Int) - 1)) (by simp -implicitDefEqProofs (maxSteps := 2000000) only [go_sem, i1, c1]) (by kernel_rfl) (by simp -implicitDefEqProofs (maxSteps := 2000000) only [go_sem, i1, c1]) ?_
    simp -implicitDefEqProofs (maxSteps := 2000000) only [go_sem, i1, c1]
    refine call_of (inW_sat (l.getD m default).kl 0 ts.length) (by simp -implicitDefEqProofs (maxSteps := 2000000) only [go_sem, i2]) (by kernel_rfl) (by simp -implicitDefEqProofs (maxSteps := 2000000) only [go_sem, i2]) ?_
    simp -implicitDefEqProofs (maxSteps := 2000000) only [go_sem, i2]
    first | done | rfl | exact ⟨rfl, rfl⟩ | exact ⟨rfl, rfl, rfl⟩ | (refine tr_and ?_ ?_ <;> first | rfl | exact ⟨rfl, rfl⟩ | kernel_rfl)
  obtain ⟨r3, r4⟩ := inB_of i2
  obtain ⟨K, hK⟩ : ∃ K : Nat, (l.getD m default).kl = K := ⟨(l.getD m default).kl.toNat, by omega⟩
  have c2 : K ≤ ts.length := by omega
  rw [hK] at i2
  rw [show keyVars l ⟨m, ts⟩ = varsOf (ts.take K) by rw [keyVars]; simp only [Int.toNat_natCast, i1, hK, i2]; rfl]
  refine call_of (inW_sat m 0 ((l.length : Int) - 1)) (by simp -implicitDefEqProofs (maxSteps := 2000000) only [go_sem, i1, c1]) (by kernel_rfl) (by simp -implicitDefEqProofs (maxSteps := 2000000) only [go_sem, i1, c1]) ?_
  simp -implicitDefEqProofs (maxSteps := 2000000) only [go_sem, i1, c1]
  refine call_of (inW_sat K 0 ts.length) (by simp -implicitDefEqProofs (maxSteps := 2000000) only [go_sem, i2, c1, hK, c2, Nat.zero_le]) (by kernel_rfl) (by simp -implicitDefEqProofs (maxSteps := 2000000) only [go_sem, i2, c1, hK, c2, Nat.zero_le]) ?_
  simp -implicitDefEqProofs (maxSteps := 2000000) only [go_sem, i2, c1, hK, c2, Nat.zero_le]
  refine call_of (implAtomVariables_sat ⟨0, ts.take K⟩ (by unfold RI.ok at ha ⊢; simp only [List.length_take] at ha ⊢; omega)) (by simp -implicitDefEqProofs (maxSteps := 2000000) only [go_sem]) (callOk_still (by kernel_rfl) (by simp only [List.all_cons, List.all_nil, LV.still, LV.leaves, Leaf.still, ints_still, ris_still, eds_still, rels_still, iss_still, Bool.and_self, Bool.and_true])) (by simp -implicitDefEqProofs (maxSteps := 2000000) only [go_sem]) ?_
  simp -implicitDefEqProofs (maxSteps := 2000000) only [go_sem]
  first | done | rfl | exact ⟨rfl, rfl⟩ | exact ⟨rfl, rfl, rfl⟩ | (refine tr_and ?_ ?_ <;> first | rfl | exact ⟨rfl, rfl⟩ | kernel_rfl)
end Go.Proofs.Ytoinfljgjdmooaa.A
