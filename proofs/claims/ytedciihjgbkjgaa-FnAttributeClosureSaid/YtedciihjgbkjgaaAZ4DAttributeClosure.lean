/- Packed by pack.py: WDAttributeClosure LKB LDAttributeClosure -/
import Derived.Test.YtedciihjgbkjgaaAZ3DAttributeClosure
import Derived.Test.YtedciihjgbkjgaaAZ1DAttributeClosure
import Derived.Test.YtedciihjgbkjgaaRows

/- THE WALK OF THE LAW FnAttributeClosure. Conditions: none. -/
namespace Go.Proofs.Ytedciihjgbkjgaa.A
open Go
set_option linter.unusedSimpArgs false
set_option linter.unusedVariables false
set_option maxRecDepth 100000
abbrev lBys0 (l : List Int) : AV := .one (.im 1 (bys l))
abbrev sQa (q : Qu) : List SV := [.sc (.int .i64 q.vc), .im 2 (ris 0 q.atoms), .im 1 (ints q.free)]
theorem bigA_sat (b : List Int) (h : b.length ≤ 9223372036854775807) : Sat Try.prog 6 [lBys b] [lBool (decide ((b.length : Int) > 1048576))] [g1] := by
  refine sat_of_body mixed Try.func6 rfl (by kernel_rfl) (by kernel_rfl) (rs := [.tmp 2]) rfl rfl rfl ?_
  simp -implicitDefEqProofs (maxSteps := 2000000) only [go_sem]
set_option maxHeartbeats 8000000 in
/-- THE LAW FnAttributeClosure. -/
theorem lawDAttributeClosure_sat (b : List Int) (h : b.length ≤ 9223372036854775807) : Sat Try.prog 3 [lBys b] [lBool true] [g1] := by
  refine sat_of_body mixed Try.func3 rfl (by kernel_rfl) (by kernel_rfl) (rs := [.tmp 2]) rfl rfl rfl ?_
  simp -implicitDefEqProofs (maxSteps := 2000000) only [go_sem]
  refine call_of (bigA_sat b h) (by simp -implicitDefEqProofs (maxSteps := 2000000) only [go_sem]) (by kernel_rfl) (by simp -implicitDefEqProofs (maxSteps := 2000000) only [go_sem]) ?_
  simp -implicitDefEqProofs (maxSteps := 2000000) only [go_sem]
  refine cond_split (fun e0 => ?_) fun e0 => ?_
  · simp -implicitDefEqProofs (maxSteps := 2000000) only [go_sem]
  have o0 : b.length ≤ 1048576 := by have := of_decide_eq_false e0; omega
  simp -implicitDefEqProofs (maxSteps := 2000000) only [go_sem]
  obtain ⟨c0, q, s, v, hq, hs, hv, s0⟩ := drawAC_ex b o0
  obtain ⟨c1, r, w, x, hr, hw, hx, s1⟩ := drawDet_ex b o0
  obtain ⟨c2, p, t, hp, ht, s2⟩ := drawKy_ex b o0
  have qok := hq.ok (by decide)
  have qf := qok.fit
  have rok := hr.ok (by decide)
  have rf := rok.fit
  have pok := hp.ok (by decide)
  have pf := pok.fit
  have l0 : (sigs c0).length ≤ 9223372036854775807 := by show 4 ≤ 9223372036854775807; omega
  have l1 : (sigs c1).length ≤ 9223372036854775807 := by show 4 ≤ 9223372036854775807; omega
  have l2 : (sigs c2).length ≤ 9223372036854775807 := by show 4 ≤ 9223372036854775807; omega
  have i0 := acl_idem (sigs c0) q s v
  have i1 := acl_mono (sigs c0) q s v
  have n0 := acl_len (sigs c0) q s v
  have n1 := acl_len (sigs c0) q (-1) v
  refine call_of (s0) (by simp -implicitDefEqProofs (maxSteps := 2000000) only [go_sem]) (by kernel_rfl) (by simp -implicitDefEqProofs (maxSteps := 2000000) only [go_sem]) ?_
  simp -implicitDefEqProofs (maxSteps := 2000000) only [go_sem]
  refine call_of (implAttributeClosure_sat (sigs c0) q s v l0 qok (by omega)) (by simp -implicitDefEqProofs (maxSteps := 2000000) only [go_sem]) (callOk_still (by kernel_rfl) (by simp only [List.all_cons, List.all_nil, LV.still, LV.leaves, Leaf.still, ints_still, ris_still, eds_still, rels_still, iss_still, ems_still, Bool.and_self, Bool.and_true])) (by simp -implicitDefEqProofs (maxSteps := 2000000) only [go_sem]) ?_
  simp -implicitDefEqProofs (maxSteps := 2000000) only [go_sem]
  refine call_of (specAttributeClosure_sat (sigs c0) q s v l0 qf (by omega)) (by simp -implicitDefEqProofs (maxSteps := 2000000) only [go_sem]) (callOk_still (by kernel_rfl) (by simp only [List.all_cons, List.all_nil, LV.still, LV.leaves, Leaf.still, ints_still, ris_still, eds_still, rels_still, iss_still, ems_still, Bool.and_self, Bool.and_true])) (by simp -implicitDefEqProofs (maxSteps := 2000000) only [go_sem]) ?_
  simp -implicitDefEqProofs (maxSteps := 2000000) only [go_sem]
  refine call_of (sameInts_sat (acl (sigs c0) q s v) (acl (sigs c0) q s v) (by omega)) (by simp -implicitDefEqProofs (maxSteps := 2000000) only [go_sem]) (by kernel_rfl) (by simp -implicitDefEqProofs (maxSteps := 2000000) only [go_sem]) ?_
  simp -implicitDefEqProofs (maxSteps := 2000000) only [go_sem]
  refine call_of (implAttributeClosure_sat (sigs c0) q s (acl (sigs c0) q s v) l0 qok (by omega)) (by simp -implicitDefEqProofs (maxSteps := 2000000) only [go_sem]) (callOk_still (by kernel_rfl) (by simp only [List.all_cons, List.all_nil, LV.still, LV.leaves, Leaf.still, ints_still, ris_still, eds_still, rels_still, iss_still, ems_still, Bool.and_self, Bool.and_true])) (by simp -implicitDefEqProofs (maxSteps := 2000000) only [go_sem]) ?_
  simp -implicitDefEqProofs (maxSteps := 2000000) only [go_sem]
  refine call_of (sameInts_sat (acl (sigs c0) q s v) (acl (sigs c0) q s v) (by omega)) (by simp -implicitDefEqProofs (maxSteps := 2000000) only [go_sem, i0]) (by kernel_rfl) (by simp -implicitDefEqProofs (maxSteps := 2000000) only [go_sem, i0]) ?_
  simp -implicitDefEqProofs (maxSteps := 2000000) only [go_sem, i0]
  refine call_of (implAttributeClosure_sat (sigs c0) q (-1) v l0 qok (by omega)) (by simp -implicitDefEqProofs (maxSteps := 2000000) only [go_sem]) (callOk_still (by kernel_rfl) (by simp only [List.all_cons, List.all_nil, LV.still, LV.leaves, Leaf.still, ints_still, ris_still, eds_still, rels_still, iss_still, ems_still, Bool.and_self, Bool.and_true])) (by simp -implicitDefEqProofs (maxSteps := 2000000) only [go_sem]) ?_
  simp -implicitDefEqProofs (maxSteps := 2000000) only [go_sem]
  generalize acl (sigs c0) q s v = A at n0 i1 ⊢
  generalize acl (sigs c0) q (-1) v = B at n1 i1 ⊢
  refine awp_loop Nat (fun k => mkSt [(0, lBys0 b), (7, .one (.im 1 (ints A))), (8, .one (.im 1 (ints B))), (9, .sc (.int .i64 k))] [] [] 8000)
    (fun k => k ≤ A.length) (fun k => A.length - k) 0 (by omega) (le_st' _ _ [] [1273, 1274, 1304, 2216, 3688] _ (by simp -implicitDefEqProofs (maxSteps := 2000000) only [go_sem, ints_frz] <;> and_intros <;> first | rfl | exact List.mem_singleton_self _ | decide | (refine ⟨_, rfl, Eq.symm ?_⟩; simp -implicitDefEqProofs (maxSteps := 2000000) only [go_sem, ints_frz]; done) | (refine ⟨_, rfl, Eq.symm ?_⟩; simp -implicitDefEqProofs (maxSteps := 2000000) only [go_sem, ints_frz]; rfl)) (by simp -implicitDefEqProofs (maxSteps := 2000000) only [go_sem, ints_frz] <;> and_intros <;> first | rfl | exact List.mem_singleton_self _ | decide | (refine ⟨_, rfl, Eq.symm ?_⟩; simp -implicitDefEqProofs (maxSteps := 2000000) only [go_sem, ints_frz]; done) | (refine ⟨_, rfl, Eq.symm ?_⟩; simp -implicitDefEqProofs (maxSteps := 2000000) only [go_sem, ints_frz]; rfl)) (by simp -implicitDefEqProofs (maxSteps := 2000000) only [go_sem, ints_frz] <;> and_intros <;> rfl) (by rfl)) ?_
  rintro k q1
  by_cases c3 : k < A.length
  · have wk : IntKind.i64.wrap ((k : Int) + 1) = ((k + 1 : Nat) : Int) := i64_succ (by omega)
    have hm : decide (A.getD k 0 ∈ B) = true := decide_eq_true (i1 _ (mem_getD 0 c3))
    simp -implicitDefEqProofs (maxSteps := 2000000) only [go_sem, c3]
    refine call_of (has_sat B (A.getD k 0) (by omega)) (by simp -implicitDefEqProofs (maxSteps := 2000000) only [go_sem, c3, hm]) (by kernel_rfl) (by simp -implicitDefEqProofs (maxSteps := 2000000) only [go_sem, c3, hm]) ?_
    simp -implicitDefEqProofs (maxSteps := 2000000) only [go_sem, c3, hm]
    simp -implicitDefEqProofs (maxSteps := 2000000) only [go_sem, wk]
    exact ⟨k + 1, c3, by omega, (le_st _ _ [] [] _ rfl (by simp -implicitDefEqProofs (maxSteps := 2000000) only [go_sem] <;> rfl) (by simp -implicitDefEqProofs (maxSteps := 2000000) only [go_sem] <;> rfl) (by simp -implicitDefEqProofs (maxSteps := 2000000) only [go_sem] <;> rfl))⟩
  · obtain rfl : k = A.length := by omega
    simp -implicitDefEqProofs (maxSteps := 2000000) only [go_sem, c3]
    refine call_of (s1) (by simp -implicitDefEqProofs (maxSteps := 2000000) only [go_sem]) (by kernel_rfl) (by simp -implicitDefEqProofs (maxSteps := 2000000) only [go_sem]) ?_
    simp -implicitDefEqProofs (maxSteps := 2000000) only [go_sem]
    refine call_of (implDetermines_sat (sigs c1) r w x l1 rok (by omega) (by omega)) (by simp -implicitDefEqProofs (maxSteps := 2000000) only [go_sem]) (callOk_still (by kernel_rfl) (by simp only [List.all_cons, List.all_nil, LV.still, LV.leaves, Leaf.still, ints_still, ris_still, eds_still, rels_still, iss_still, ems_still, Bool.and_self, Bool.and_true])) (by simp -implicitDefEqProofs (maxSteps := 2000000) only [go_sem]) ?_
    simp -implicitDefEqProofs (maxSteps := 2000000) only [go_sem]
    refine call_of (s2) (by simp -implicitDefEqProofs (maxSteps := 2000000) only [go_sem]) (by kernel_rfl) (by simp -implicitDefEqProofs (maxSteps := 2000000) only [go_sem]) ?_
    simp -implicitDefEqProofs (maxSteps := 2000000) only [go_sem]
    have hbl := bvs_len p
    have hkl := kcl_len (sigs c2) p t
    have hge : decide (((x.length : Nat) : Int) ≥ 0) = true := decide_eq_true (by omega)
    rcases d1 : dets (sigs c1) r w x
    · refine call_of (specDetermines_sat (sigs c1) r w x l1 rf (by omega) (by omega)) (by simp -implicitDefEqProofs (maxSteps := 2000000) only [go_sem, d1]) (callOk_still (by kernel_rfl) (by simp only [List.all_cons, List.all_nil, LV.still, LV.leaves, Leaf.still, ints_still, ris_still, eds_still, rels_still, iss_still, ems_still, Bool.and_self, Bool.and_true])) (by simp -implicitDefEqProofs (maxSteps := 2000000) only [go_sem, d1]) ?_
      simp -implicitDefEqProofs (maxSteps := 2000000) only [go_sem, d1]
      refine call_of (implKeyClosure_sat (sigs c2) p t l2 pok) (by simp -implicitDefEqProofs (maxSteps := 2000000) only [go_sem]) (callOk_still (by kernel_rfl) (by simp only [List.all_cons, List.all_nil, LV.still, LV.leaves, Leaf.still, ints_still, ris_still, eds_still, rels_still, iss_still, ems_still, Bool.and_self, Bool.and_true])) (by simp -implicitDefEqProofs (maxSteps := 2000000) only [go_sem]) ?_
      simp -implicitDefEqProofs (maxSteps := 2000000) only [go_sem]
      refine call_of (specKeyClosure_sat (sigs c2) p t l2 pf) (by simp -implicitDefEqProofs (maxSteps := 2000000) only [go_sem]) (callOk_still (by kernel_rfl) (by simp only [List.all_cons, List.all_nil, LV.still, LV.leaves, Leaf.still, ints_still, ris_still, eds_still, rels_still, iss_still, ems_still, Bool.and_self, Bool.and_true])) (by simp -implicitDefEqProofs (maxSteps := 2000000) only [go_sem]) ?_
      simp -implicitDefEqProofs (maxSteps := 2000000) only [go_sem]
      refine call_of (sameInts_sat (kcl (sigs c2) p t) (kcl (sigs c2) p t) (by omega)) (by simp -implicitDefEqProofs (maxSteps := 2000000) only [go_sem]) (by kernel_rfl) (by simp -implicitDefEqProofs (maxSteps := 2000000) only [go_sem]) ?_
      simp -implicitDefEqProofs (maxSteps := 2000000) only [go_sem]
      refine call_of (implBoundVariables_sat p pf) (by simp -implicitDefEqProofs (maxSteps := 2000000) only [go_sem]) (callOk_still (by kernel_rfl) (by simp only [List.all_cons, List.all_nil, LV.still, LV.leaves, Leaf.still, ints_still, ris_still, eds_still, rels_still, iss_still, ems_still, Bool.and_self, Bool.and_true])) (by simp -implicitDefEqProofs (maxSteps := 2000000) only [go_sem]) ?_
      simp -implicitDefEqProofs (maxSteps := 2000000) only [go_sem]
      refine call_of (specBoundVariables_sat p pf) (by simp -implicitDefEqProofs (maxSteps := 2000000) only [go_sem]) (callOk_still (by kernel_rfl) (by simp only [List.all_cons, List.all_nil, LV.still, LV.leaves, Leaf.still, ints_still, ris_still, eds_still, rels_still, iss_still, ems_still, Bool.and_self, Bool.and_true])) (by simp -implicitDefEqProofs (maxSteps := 2000000) only [go_sem]) ?_
      simp -implicitDefEqProofs (maxSteps := 2000000) only [go_sem]
      refine call_of (sameInts_sat (bvs p) (bvs p) (by omega)) (by simp -implicitDefEqProofs (maxSteps := 2000000) only [go_sem]) (by kernel_rfl) (by simp -implicitDefEqProofs (maxSteps := 2000000) only [go_sem]) ?_
      simp -implicitDefEqProofs (maxSteps := 2000000) only [go_sem]
      first | (with_reducible refine tr_and ?_ ?_; focus kernel_rfl) | (with_reducible refine tr_only ?_; kernel_rfl) | skip
      first | done | rfl | exact ⟨rfl, rfl⟩ | exact ⟨rfl, rfl, rfl⟩ | (refine tr_and ?_ ?_ <;> first | rfl | exact ⟨rfl, rfl⟩ | kernel_rfl)
    · have g : goodQu (sigs c1) r = true := by unfold dets at d1; rw [Bool.and_eq_true] at d1; exact d1.1
      refine call_of (specDetermines_sat (sigs c1) r w x l1 rf (by omega) (by omega)) (by simp -implicitDefEqProofs (maxSteps := 2000000) only [go_sem, d1]) (callOk_still (by kernel_rfl) (by simp only [List.all_cons, List.all_nil, LV.still, LV.leaves, Leaf.still, ints_still, ris_still, eds_still, rels_still, iss_still, ems_still, Bool.and_self, Bool.and_true])) (by simp -implicitDefEqProofs (maxSteps := 2000000) only [go_sem, d1]) ?_
      simp -implicitDefEqProofs (maxSteps := 2000000) only [go_sem, d1]
      refine call_of (specIsValidQuery_sat (sigs c1) r l1 rf) (by simp -implicitDefEqProofs (maxSteps := 2000000) only [go_sem, g, hge]) (callOk_still (by kernel_rfl) (by simp only [List.all_cons, List.all_nil, LV.still, LV.leaves, Leaf.still, ints_still, ris_still, eds_still, rels_still, iss_still, ems_still, Bool.and_self, Bool.and_true])) (by simp -implicitDefEqProofs (maxSteps := 2000000) only [go_sem, g, hge]) ?_
      simp -implicitDefEqProofs (maxSteps := 2000000) only [go_sem, g, hge]
      refine call_of (implKeyClosure_sat (sigs c2) p t l2 pok) (by simp -implicitDefEqProofs (maxSteps := 2000000) only [go_sem]) (callOk_still (by kernel_rfl) (by simp only [List.all_cons, List.all_nil, LV.still, LV.leaves, Leaf.still, ints_still, ris_still, eds_still, rels_still, iss_still, ems_still, Bool.and_self, Bool.and_true])) (by simp -implicitDefEqProofs (maxSteps := 2000000) only [go_sem]) ?_
      simp -implicitDefEqProofs (maxSteps := 2000000) only [go_sem]
      refine call_of (specKeyClosure_sat (sigs c2) p t l2 pf) (by simp -implicitDefEqProofs (maxSteps := 2000000) only [go_sem]) (callOk_still (by kernel_rfl) (by simp only [List.all_cons, List.all_nil, LV.still, LV.leaves, Leaf.still, ints_still, ris_still, eds_still, rels_still, iss_still, ems_still, Bool.and_self, Bool.and_true])) (by simp -implicitDefEqProofs (maxSteps := 2000000) only [go_sem]) ?_
      simp -implicitDefEqProofs (maxSteps := 2000000) only [go_sem]
      refine call_of (sameInts_sat (kcl (sigs c2) p t) (kcl (sigs c2) p t) (by omega)) (by simp -implicitDefEqProofs (maxSteps := 2000000) only [go_sem]) (by kernel_rfl) (by simp -implicitDefEqProofs (maxSteps := 2000000) only [go_sem]) ?_
      simp -implicitDefEqProofs (maxSteps := 2000000) only [go_sem]
      refine call_of (implBoundVariables_sat p pf) (by simp -implicitDefEqProofs (maxSteps := 2000000) only [go_sem]) (callOk_still (by kernel_rfl) (by simp only [List.all_cons, List.all_nil, LV.still, LV.leaves, Leaf.still, ints_still, ris_still, eds_still, rels_still, iss_still, ems_still, Bool.and_self, Bool.and_true])) (by simp -implicitDefEqProofs (maxSteps := 2000000) only [go_sem]) ?_
      simp -implicitDefEqProofs (maxSteps := 2000000) only [go_sem]
      refine call_of (specBoundVariables_sat p pf) (by simp -implicitDefEqProofs (maxSteps := 2000000) only [go_sem]) (callOk_still (by kernel_rfl) (by simp only [List.all_cons, List.all_nil, LV.still, LV.leaves, Leaf.still, ints_still, ris_still, eds_still, rels_still, iss_still, ems_still, Bool.and_self, Bool.and_true])) (by simp -implicitDefEqProofs (maxSteps := 2000000) only [go_sem]) ?_
      simp -implicitDefEqProofs (maxSteps := 2000000) only [go_sem]
      refine call_of (sameInts_sat (bvs p) (bvs p) (by omega)) (by simp -implicitDefEqProofs (maxSteps := 2000000) only [go_sem]) (by kernel_rfl) (by simp -implicitDefEqProofs (maxSteps := 2000000) only [go_sem]) ?_
      simp -implicitDefEqProofs (maxSteps := 2000000) only [go_sem]
      first | (with_reducible refine tr_and ?_ ?_; focus kernel_rfl) | (with_reducible refine tr_only ?_; kernel_rfl) | skip
      first | done | rfl | exact ⟨rfl, rfl⟩ | exact ⟨rfl, rfl, rfl⟩ | (refine tr_and ?_ ?_ <;> first | rfl | exact ⟨rfl, rfl⟩ | kernel_rfl)
end Go.Proofs.Ytedciihjgbkjgaa.A


/- BYTES READ. Conditions: none. -/
namespace Go.Proofs.Ytedciihjgbkjgaa.A
open Go
set_option linter.unusedVariables false
theorem readsC_byte {H : Type} {enc : TypeId × Value → H} {P : Program} {W : World} {t : TypeId} (ht : P.underlying t = some (.int .u8)) : ReadsC enc P W t cBy (fun _ => True) := by
  intro n cs x h
  obtain ⟨z, rfl⟩ := trod_int ht h
  exact ⟨z, trivial, ⟨rfl, rfl⟩, trivial⟩
end Go.Proofs.Ytedciihjgbkjgaa.A


/- THE LAW FnAttributeClosure: for every input it returns true, and the input reads as it did. Conditions: none. -/
namespace Go.Proofs.Ytedciihjgbkjgaa.lawAttributeClosure
open Go.ChangeShapes Go.WideShapes Go.ChangeAt Go.RowKit
open Go.Proofs.Ytedciihjgbkjgaa.A
set_option linter.unusedVariables false
theorem own : ownKnob Try.prog.godebug = none := by kernel_rfl
theorem laid : laidOutB Try.prog = true := by kernel_rfl
theorem rowed : mapsRowed Try.prog = true := by kernel_rfl
theorem full : ((List.range Try.prog.types.size).all fun t => match Try.prog.underlying t with | some (.slice e) => decide (0 < Try.prog.cellsOf e) | _ => true) = true := by kernel_rfl
set_option maxRecDepth 100000 in
theorem lifted (os : Os) (started : os.Started) (H : Type) (enc : TypeId × Value → H) :
    ReturnsInHanded {} Try.checked os 3 .any (Rows.fnAttributeClosureSpec.pre6 enc Try.prog Try.f3 Rows.fnAttributeClosureRow.domain false) (Rows.fnAttributeClosureSpec.post enc Try.prog Try.f3 false true false false) := by
  refine returnsInHanded_of_change_sized (C := Try.checked) own started (by kernel_rfl) Try.func3
    (ChangeSpec.witness6 (enc := enc) (C := Try.checked) false ⟨#[], #[.slice none 0 0], []⟩ 8 (by kernel_rfl) (by kernel_rfl) (by kernel_rfl) (by kernel_rfl)) ?_
  intro W base args ds gs before hval hW _ _ _
  obtain ⟨p, q, hA, hV, hpq, _⟩ := id hW
  rw [Try.params3] at hA hval
  obtain ⟨v0, vs0, d0, ds0, p0, q0, e0, rfl, rfl, h0, r0⟩ := trodAll_cons hA
  obtain ⟨rfl, rfl, rfl⟩ := trodAll_nil r0
  obtain ⟨rfl, _⟩ := trodVars_none hV
  obtain rfl : args = #[v0] := by cases args; simp_all
  have rB := readsC_byte (enc := enc) (W := W) und5
  have lBs := readsL_rows (w := 1) rB und22 (by kernel_rfl) (by omega) (fun _ => rfl) bys (fun _ => rfl)
  obtain ⟨a0, g0, l0⟩ := arg_one lBs (okWide_slice_ne und22 (hval 0 _ v0 rfl rfl)) h0
  exact law_calls laid rowed full Try.func3 rfl (by kernel_rfl) rfl rfl (by kernel_rfl) rfl und4 hW (lawDAttributeClosure_sat a0 g0.1) ⟨l0 _, trivial⟩ rfl rfl rfl
theorem over : Rows.fnAttributeClosureRow.holds Try.pinned (OpenSpec.ofChange Rows.fnAttributeClosureSpec) :=
  OpenClaim.holds_of_wide 3 Try.f3 rfl rfl rfl rfl rfl rfl rfl ⟨rfl, rfl, rfl, rfl, rfl⟩ rfl rfl rfl rfl rfl (by kernel_rfl) Try.func3 (by kernel_rfl)
    (of_decide_eq_true (by kernel_rfl)) (by unfold Func.isWrapper; first | (rw [if_pos (by decide +kernel)]; kernel_rfl) | (rw [if_neg (by decide +kernel)]; exact ⟨rfl, rfl⟩))
    (fun os started H enc _ => lifted os started H enc)
end Go.Proofs.Ytedciihjgbkjgaa.lawAttributeClosure
namespace Go.Proofs.Ytedciihjgbkjgaa
/-- The row, under a short name, for the claim. -/
theorem fnAttributeClosure_holds : Rows.FnAttributeClosureSaid := lawAttributeClosure.over
#print axioms fnAttributeClosure_holds
end Go.Proofs.Ytedciihjgbkjgaa
