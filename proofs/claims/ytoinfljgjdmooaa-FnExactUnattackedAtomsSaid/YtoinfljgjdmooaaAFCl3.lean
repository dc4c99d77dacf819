
/- ATTRIBUTE CLOSURES, KEY CLOSURES, WHAT DETERMINES WHAT. Conditions: none. -/
import Derived.Test.YtoinfljgjdmooaaAFCl2
namespace Go.Proofs.Ytoinfljgjdmooaa.A
open Go
set_option linter.unusedSimpArgs false
set_option linter.unusedVariables false
set_option maxRecDepth 100000

def start (q : Qu) (vs : List Int) : List Int := selN (fun v => decide (v ∈ vs) || decide (v ∈ q.free)) 4
def acl (l : List Rel) (q : Qu) (skip : Int) (vs : List Int) : List Int := if goodQu l q then clos l q.atoms skip (start q vs) else []
theorem start_small (q : Qu) (vs : List Int) : Small (start q vs) := Small.selN
theorem clos_small {l : List Rel} {ats : List RI} {skip : Int} {c : List Int} (h : Small c) : Small (clos l ats skip c) := iter_small h
theorem acl_len (l : List Rel) (q : Qu) (skip : Int) (vs : List Int) : (acl l q skip vs).length ≤ 4 := by
  unfold acl; split
  · exact (clos_small (start_small q vs)).len
  · simp
theorem free_small {l : List Rel} {q : Qu} (h : goodQu l q = true) : ∀ x ∈ q.free, 0 ≤ x ∧ x < 4 := by
  unfold goodQu at h
  simp only [Bool.and_eq_true] at h
  have hv := inB_of h.2.1
  intro x hx
  obtain ⟨i, hi, rfl⟩ := List.mem_iff_getElem.mp hx
  have h1 := upTo_at h.2.2.2.1 hi
  unfold idxAt at h1
  rw [Bool.and_eq_true, List.getD_eq_getElem?_getD, List.getElem?_eq_getElem hi] at h1
  have h2 := inB_of h1.1
  simp only [Option.getD_some] at h2
  omega
theorem atoms3 {l : List Rel} {q : Qu} (h : goodQu l q = true) : q.atoms.length ≤ 3 := by
  unfold goodQu at h
  simp only [Bool.and_eq_true] at h
  have hv := inB_of h.2.2.1
  omega
theorem start_uni {l : List Rel} {q : Qu} (h : goodQu l q = true) (vs : List Int) : uni (q.free ++ vs.filter fun x => inB x 0 3) [] = start q vs := by
  refine strict_eq (uni_strict _ _) (selN_strict _ _) fun x => ?_
  rw [uni_mem, start, selN_mem, List.mem_append, List.mem_filter]
  have hf := free_small h
  unfold inB
  simp only [List.not_mem_nil, or_false, Bool.and_eq_true, Bool.or_eq_true, decide_eq_true_eq]
  constructor
  · rintro (k | ⟨k, k2⟩)
    · exact ⟨(hf x k).1, (hf x k).2, .inr k⟩
    · exact ⟨k2.1, by omega, .inl k⟩
  · rintro ⟨k1, k2, k | k⟩
    · exact .inr ⟨k, k1, by omega⟩
    · exact .inl k
theorem implAttributeClosure_sat (l : List Rel) (q : Qu) (skip : Int) (vs : List Int) (hl : l.length ≤ 9223372036854775807) (hq : q.ok) (hv : vs.length ≤ 1048576) : Sat Try.prog 44 [lRels l, lQu q, lInt skip, lInts vs] [oInts (acl l q skip vs)] [g1, g3, g1, g1] := by
  refine sat_of_body mixed Try.func44 rfl (by kernel_rfl) (by kernel_rfl) (rs := [.tmp 8]) rfl rfl rfl ?_
  simp -implicitDefEqProofs (maxSteps := 2000000) only [go_sem]
  rcases g : goodQu l q
  · rw [show acl l q skip vs = [] by rw [acl, g]; rfl]
    refine call_of (implIsValidQuery_sat l q hl hq) (by simp -implicitDefEqProofs (maxSteps := 2000000) only [go_sem, g]) (by kernel_rfl) (by simp -implicitDefEqProofs (maxSteps := 2000000) only [go_sem, g]) ?_
    simp -implicitDefEqProofs (maxSteps := 2000000) only [go_sem, g]
    first | done | rfl | exact ⟨rfl, rfl⟩ | exact ⟨rfl, rfl, rfl⟩ | (refine tr_and ?_ ?_ <;> first | rfl | exact ⟨rfl, rfl⟩ | kernel_rfl)
  rw [show acl l q skip vs = clos l q.atoms skip (uni (q.free ++ vs.filter fun x => inB x 0 3) []) by rw [acl, g, start_uni g]; rfl]
  have hff := hq.2
  have h3 := atoms3 g
  refine call_of (implIsValidQuery_sat l q hl hq) (by simp -implicitDefEqProofs (maxSteps := 2000000) only [go_sem, g]) (by kernel_rfl) (by simp -implicitDefEqProofs (maxSteps := 2000000) only [go_sem, g]) ?_
  simp -implicitDefEqProofs (maxSteps := 2000000) only [go_sem, g]
  refine call_of (slicesClone_sat q.free hff) (by simp -implicitDefEqProofs (maxSteps := 2000000) only [go_sem]) (callOk_still (by kernel_rfl) (by simp only [List.all_cons, List.all_nil, LV.still, LV.leaves, Leaf.still, ints_still, ris_still, eds_still, rels_still, iss_still, Bool.and_self, Bool.and_true])) (by simp -implicitDefEqProofs (maxSteps := 2000000) only [go_sem]) ?_
  simp -implicitDefEqProofs (maxSteps := 2000000) only [go_sem]
  generalize hp : (fun x => inB x 0 3) = p
  refine awp_loop Nat (fun k => mkSt [(0, .one (.im 3 (rels l))), (2, .sc (.int .i64 skip)), (5, .one (.vad 1000 0)), (9, .one (.ref 960 1 0 (q.free ++ (vs.take k).filter p).length)), (19, .one (.im 1 (ints vs))), (20, .sc (.int .i64 vs.length)), (21, .sc (.int .i64 k))] [(1000, sQu q)] [(960, (1, ints (q.free ++ (vs.take k).filter p)))] 4000)
    (fun k => k ≤ vs.length) (fun k => vs.length - k) 0 (by omega) (by rw [List.take_zero, List.filter_nil, List.append_nil]; exact (le_st' _ _ [⟨960, some _, false, 1, _⟩] [] _ (by simp -implicitDefEqProofs (maxSteps := 2000000) only [go_sem] <;> and_intros <;> rfl) (by simp -implicitDefEqProofs (maxSteps := 2000000) only [go_sem] <;> and_intros <;> rfl) (by simp -implicitDefEqProofs (maxSteps := 2000000) only [go_sem] <;> and_intros <;> rfl) (by rfl))) ?_
  rintro k h1
  have hll : ((vs.take k).filter p).length ≤ vs.length := Nat.le_trans (List.length_filter_le _ _) (by rw [List.length_take]; omega)
  by_cases c1 : k < vs.length
  · have t := take_snoc 0 c1
    rcases d : inB (vs.getD k 0) 0 3
    · simp -implicitDefEqProofs (maxSteps := 2000000) only [go_sem, c1]
      refine call_of (inW_sat (vs.getD k 0) 0 3) (by simp -implicitDefEqProofs (maxSteps := 2000000) only [go_sem, d, c1]) (by kernel_rfl) (by simp -implicitDefEqProofs (maxSteps := 2000000) only [go_sem, d, c1]) ?_
      simp -implicitDefEqProofs (maxSteps := 2000000) only [go_sem, d, c1]
      rw [i64_succ (by omega)]
      refine ⟨k + 1, c1, by omega, ?_⟩
      rw [t, List.filter_append, List.filter_cons_of_neg (by rw [← hp]; show ¬ (inB (vs.getD k 0) 0 3 = true); rw [d]; simp), List.filter_nil, List.append_nil]
      exact (le_st' _ _ [⟨960, some _, false, 1, _⟩] [] _ (by simp -implicitDefEqProofs (maxSteps := 2000000) only [go_sem] <;> and_intros <;> rfl) (by simp -implicitDefEqProofs (maxSteps := 2000000) only [go_sem] <;> and_intros <;> rfl) (by simp -implicitDefEqProofs (maxSteps := 2000000) only [go_sem] <;> and_intros <;> rfl) (by rfl))
    · simp -implicitDefEqProofs (maxSteps := 2000000) only [go_sem, c1]
      refine call_of (inW_sat (vs.getD k 0) 0 3) (by simp -implicitDefEqProofs (maxSteps := 2000000) only [go_sem, d, c1]) (by kernel_rfl) (by simp -implicitDefEqProofs (maxSteps := 2000000) only [go_sem, d, c1]) ?_
      simp -implicitDefEqProofs (maxSteps := 2000000) only [go_sem, d, c1]
      refine ⟨by omega, ?_⟩
      rw [i64_succ (by omega)]
      refine ⟨k + 1, c1, by omega, ?_⟩
      rw [t, List.filter_append, List.filter_cons_of_pos (by rw [← hp]; exact d), List.filter_nil, ← List.append_assoc]
      exact (le_st' _ _ [⟨960, some _, false, 1, _⟩] [] _ (by simp -implicitDefEqProofs (maxSteps := 2000000) only [go_sem] <;> and_intros <;> rfl) (by simp -implicitDefEqProofs (maxSteps := 2000000) only [go_sem] <;> and_intros <;> rfl) (by simp -implicitDefEqProofs (maxSteps := 2000000) only [go_sem] <;> and_intros <;> rfl) (by rfl))
  · obtain rfl : k = vs.length := by omega
    simp -implicitDefEqProofs (maxSteps := 2000000) only [go_sem, c1]
    rw [List.take_length] at hll
    have hst := start_uni g vs
    rw [hp] at hst
    have ht : List.take (q.free.length + (vs.filter p).length) (q.free ++ vs.filter p) = q.free ++ vs.filter p := by rw [← List.length_append, List.take_length]
    refine call_of (closure_sat l q.atoms skip (q.free ++ vs.filter p) hl hq.1.1 hq.1.2 (by rw [List.length_append]; omega) (by rw [hst]; exact start_small q vs)) (by simp -implicitDefEqProofs (maxSteps := 2000000) only [go_sem, ht]) (callOk_still (by kernel_rfl) (by simp only [List.all_cons, List.all_nil, LV.still, LV.leaves, Leaf.still, ints_still, ris_still, eds_still, rels_still, iss_still, Bool.and_self, Bool.and_true])) (by simp -implicitDefEqProofs (maxSteps := 2000000) only [go_sem, ht]) ?_
    simp -implicitDefEqProofs (maxSteps := 2000000) only [go_sem, ht]
    first | done | rfl | exact ⟨rfl, rfl⟩ | exact ⟨rfl, rfl, rfl⟩ | (refine tr_and ?_ ?_ <;> first | rfl | exact ⟨rfl, rfl⟩ | kernel_rfl)
theorem specAttributeClosure_sat (l : List Rel) (q : Qu) (skip : Int) (vs : List Int) (hl : l.length ≤ 9223372036854775807) (hq : q.fit) (hv : vs.length ≤ 9223372036854775807) : Sat Try.prog 37 [lRels l, lQu q, lInt skip, lInts vs] [oInts (acl l q skip vs)] [g1, g3, g1, g1] := by
  refine sat_of_body mixed Try.func37 rfl (by kernel_rfl) (by kernel_rfl) (rs := [.tmp 8]) rfl rfl rfl ?_
  simp -implicitDefEqProofs (maxSteps := 2000000) only [go_sem]
  rcases g : goodQu l q
  · rw [show acl l q skip vs = [] by rw [acl, g]; rfl]
    refine call_of (specIsValidQuery_sat l q hl hq) (by simp -implicitDefEqProofs (maxSteps := 2000000) only [go_sem, g]) (by kernel_rfl) (by simp -implicitDefEqProofs (maxSteps := 2000000) only [go_sem, g]) ?_
    simp -implicitDefEqProofs (maxSteps := 2000000) only [go_sem, g]
    first | done | rfl | exact ⟨rfl, rfl⟩ | exact ⟨rfl, rfl, rfl⟩ | (refine tr_and ?_ ?_ <;> first | rfl | exact ⟨rfl, rfl⟩ | kernel_rfl)
  rw [show acl l q skip vs = iter l q.atoms skip q.atoms.length (start q vs) q.atoms.length by rw [acl, g]; rfl]
  have hff := hq.2
  have h3 := atoms3 g
  have hs := start_small q vs
  refine call_of (specIsValidQuery_sat l q hl hq) (by simp -implicitDefEqProofs (maxSteps := 2000000) only [go_sem, g]) (by kernel_rfl) (by simp -implicitDefEqProofs (maxSteps := 2000000) only [go_sem, g]) ?_
  simp -implicitDefEqProofs (maxSteps := 2000000) only [go_sem, g]
  refine call_of (l14Both_sat vs q.free hv hff) (by simp -implicitDefEqProofs (maxSteps := 2000000) only [go_sem]) (callOk_still (by kernel_rfl) (by simp only [List.all_cons, List.all_nil, LV.still, LV.leaves, Leaf.still, ints_still, ris_still, eds_still, rels_still, iss_still, Bool.and_self, Bool.and_true])) (by simp -implicitDefEqProofs (maxSteps := 2000000) only [go_sem]) ?_
  simp -implicitDefEqProofs (maxSteps := 2000000) only [go_sem]
  have hst : selN (fun v => decide (v ∈ vs) || decide (v ∈ q.free)) 4 = start q vs := rfl
  rw [hst]
  generalize start q vs = c0 at hs ⊢
  refine awp_loop Nat (fun j => mkSt [(0, .one (.im 3 (rels l))), (2, .sc (.int .i64 skip)), (5, .one (.vad 1000 0)), (9, .one (.ref 960 1 0 (iter l q.atoms skip q.atoms.length c0 j).length)), (10, .sc (.int .i64 j))] [(1000, sQu q)] [(960, (1, ints (iter l q.atoms skip q.atoms.length c0 j)))] 4000)
    (fun j => j ≤ q.atoms.length) (fun j => q.atoms.length - j) 0 (by omega) (le_st' _ _ [⟨960, some _, false, 1, _⟩] [] _ (by simp -implicitDefEqProofs (maxSteps := 2000000) only [go_sem] <;> and_intros <;> rfl) (by simp -implicitDefEqProofs (maxSteps := 2000000) only [go_sem] <;> and_intros <;> rfl) (by simp -implicitDefEqProofs (maxSteps := 2000000) only [go_sem] <;> and_intros <;> rfl) (by rfl)) ?_
  rintro j h1
  have sm := iter_small (l := l) (ats := q.atoms) (skip := skip) (n := q.atoms.length) hs (m := j)
  by_cases c1 : j < q.atoms.length
  · generalize hc : iter l q.atoms skip q.atoms.length c0 j = c at sm ⊢
    have wj : IntKind.i64.wrap ((j : Int) + 1) = ((j + 1 : Nat) : Int) := i64_succ (by omega)
    simp -implicitDefEqProofs (maxSteps := 2000000) only [go_sem, c1]
    refine awp_loop Nat (fun k => mkSt [(0, .one (.im 3 (rels l))), (2, .sc (.int .i64 skip)), (5, .one (.vad 1000 0)), (9, .one (.ref 960 1 0 (passA l q.atoms skip c k).length)), (10, .sc (.int .i64 j)), (11, .sc (.int .i64 k))] [(1000, sQu q)] [(960, (1, ints (passA l q.atoms skip c k)))] 8000)
      (fun k => k ≤ q.atoms.length) (fun k => q.atoms.length - k) 0 (by omega) (le_st' _ _ [⟨960, some _, false, 1, _⟩] [] _ (by simp -implicitDefEqProofs (maxSteps := 2000000) only [go_sem] <;> and_intros <;> rfl) (by simp -implicitDefEqProofs (maxSteps := 2000000) only [go_sem] <;> and_intros <;> rfl) (by simp -implicitDefEqProofs (maxSteps := 2000000) only [go_sem] <;> and_intros <;> rfl) (by rfl)) ?_
    rintro k h4
    have smL : Small (passA l q.atoms skip c k) := passA_small sm
    have hLl := smL.len
    by_cases c2 : k < q.atoms.length
    · have hfa := hq.1.2 _ (mem_getD default c2)
      have hkl := keyVars_len l (q.atoms.getD k default)
      have hvl := varsOf_len (q.atoms.getD k default).l
      have hu := both_uni (v := (q.atoms.getD k default).l) smL
      generalize hL : passA l q.atoms skip c k = L at hLl smL hu ⊢
      have wi : IntKind.i64.wrap ((k : Int) + 1) = ((k + 1 : Nat) : Int) := i64_succ (by omega)
      rcases d1 : ((k : Int) != skip)
      · have e : passA l q.atoms skip c (k + 1) = L := by rw [passA, hL, fire, d1]; rfl
        simp -implicitDefEqProofs (maxSteps := 2000000) only [go_sem, c2, d1, wi]
        refine ⟨k + 1, c2, by omega, ?_⟩
        rw [e]
        exact (le_st' _ _ [⟨960, some _, false, 1, _⟩] [] _ (by simp -implicitDefEqProofs (maxSteps := 2000000) only [go_sem] <;> and_intros <;> rfl) (by simp -implicitDefEqProofs (maxSteps := 2000000) only [go_sem] <;> and_intros <;> rfl) (by simp -implicitDefEqProofs (maxSteps := 2000000) only [go_sem] <;> and_intros <;> rfl) (by rfl))
      rcases d2 : subs (keyVars l (q.atoms.getD k default)) L
      · have e : passA l q.atoms skip c (k + 1) = L := by rw [passA, hL, fire, d1, d2]; rfl
        simp -implicitDefEqProofs (maxSteps := 2000000) only [go_sem, c2, d1]
        refine call_of (specKeyVariables_sat l (q.atoms.getD k default) hl hfa) (by simp -implicitDefEqProofs (maxSteps := 2000000) only [go_sem, c2]) (callOk_still (by kernel_rfl) (by simp only [List.all_cons, List.all_nil, LV.still, LV.leaves, Leaf.still, ints_still, ris_still, eds_still, rels_still, iss_still, Bool.and_self, Bool.and_true])) (by simp -implicitDefEqProofs (maxSteps := 2000000) only [go_sem, c2]) ?_
        simp -implicitDefEqProofs (maxSteps := 2000000) only [go_sem, c2]
        refine call_of (l14Has_sat L (keyVars l (q.atoms.getD k default)) (by omega) (by omega)) (by simp -implicitDefEqProofs (maxSteps := 2000000) only [go_sem, d2]) (by kernel_rfl) (by simp -implicitDefEqProofs (maxSteps := 2000000) only [go_sem, d2]) ?_
        simp -implicitDefEqProofs (maxSteps := 2000000) only [go_sem, d2]
        rw [wi]
        refine ⟨k + 1, c2, by omega, ?_⟩
        rw [e]
        exact (le_st' _ _ [⟨960, some _, false, 1, _⟩] [] _ (by simp -implicitDefEqProofs (maxSteps := 2000000) only [go_sem] <;> and_intros <;> rfl) (by simp -implicitDefEqProofs (maxSteps := 2000000) only [go_sem] <;> and_intros <;> rfl) (by simp -implicitDefEqProofs (maxSteps := 2000000) only [go_sem] <;> and_intros <;> rfl) (by rfl))
      · have e : passA l q.atoms skip c (k + 1) = uni L (varsOf (q.atoms.getD k default).l) := by rw [passA, hL, fire, d1, d2]; rfl
        simp -implicitDefEqProofs (maxSteps := 2000000) only [go_sem, c2, d1]
        refine call_of (specKeyVariables_sat l (q.atoms.getD k default) hl hfa) (by simp -implicitDefEqProofs (maxSteps := 2000000) only [go_sem, c2]) (callOk_still (by kernel_rfl) (by simp only [List.all_cons, List.all_nil, LV.still, LV.leaves, Leaf.still, ints_still, ris_still, eds_still, rels_still, iss_still, Bool.and_self, Bool.and_true])) (by simp -implicitDefEqProofs (maxSteps := 2000000) only [go_sem, c2]) ?_
        simp -implicitDefEqProofs (maxSteps := 2000000) only [go_sem, c2]
        refine call_of (l14Has_sat L (keyVars l (q.atoms.getD k default)) (by omega) (by omega)) (by simp -implicitDefEqProofs (maxSteps := 2000000) only [go_sem, d2, c2]) (by kernel_rfl) (by simp -implicitDefEqProofs (maxSteps := 2000000) only [go_sem, d2, c2]) ?_
        simp -implicitDefEqProofs (maxSteps := 2000000) only [go_sem, d2, c2]
        refine call_of (specAtomVariables_sat (q.atoms.getD k default) hfa) (by simp -implicitDefEqProofs (maxSteps := 2000000) only [go_sem, c2]) (callOk_still (by kernel_rfl) (by simp only [List.all_cons, List.all_nil, LV.still, LV.leaves, Leaf.still, ints_still, ris_still, eds_still, rels_still, iss_still, Bool.and_self, Bool.and_true])) (by simp -implicitDefEqProofs (maxSteps := 2000000) only [go_sem, c2]) ?_
        simp -implicitDefEqProofs (maxSteps := 2000000) only [go_sem, c2]
        refine call_of (l14Both_sat L (varsOf (q.atoms.getD k default).l) (by omega) (by omega)) (by simp -implicitDefEqProofs (maxSteps := 2000000) only [go_sem, hu]) (callOk_still (by kernel_rfl) (by simp only [List.all_cons, List.all_nil, LV.still, LV.leaves, Leaf.still, ints_still, ris_still, eds_still, rels_still, iss_still, Bool.and_self, Bool.and_true])) (by simp -implicitDefEqProofs (maxSteps := 2000000) only [go_sem, hu]) ?_
        simp -implicitDefEqProofs (maxSteps := 2000000) only [go_sem, hu]
        rw [wi]
        refine ⟨k + 1, c2, by omega, ?_⟩
        rw [e]
        exact (le_st' _ _ [⟨960, some _, false, 1, _⟩] [] _ (by simp -implicitDefEqProofs (maxSteps := 2000000) only [go_sem, hu] <;> and_intros <;> rfl) (by simp -implicitDefEqProofs (maxSteps := 2000000) only [go_sem, hu] <;> and_intros <;> rfl) (by simp -implicitDefEqProofs (maxSteps := 2000000) only [go_sem, hu] <;> and_intros <;> rfl) (by rfl))
    · obtain rfl : k = q.atoms.length := by omega
      simp -implicitDefEqProofs (maxSteps := 2000000) only [go_sem, c2, wj]
      refine ⟨j + 1, c1, by omega, ?_⟩
      rw [show iter l q.atoms skip q.atoms.length c0 (j + 1) = passA l q.atoms skip c q.atoms.length by rw [← hc]; rfl]
      exact (le_st' _ _ [⟨960, some _, false, 1, _⟩] [] _ (by simp -implicitDefEqProofs (maxSteps := 2000000) only [go_sem] <;> and_intros <;> rfl) (by simp -implicitDefEqProofs (maxSteps := 2000000) only [go_sem] <;> and_intros <;> rfl) (by simp -implicitDefEqProofs (maxSteps := 2000000) only [go_sem] <;> and_intros <;> rfl) (by rfl))
  · obtain rfl : j = q.atoms.length := by omega
    simp -implicitDefEqProofs (maxSteps := 2000000) only [go_sem, c1]
    first | done | rfl | exact ⟨rfl, rfl⟩ | exact ⟨rfl, rfl, rfl⟩ | (refine tr_and ?_ ?_ <;> first | rfl | exact ⟨rfl, rfl⟩ | kernel_rfl)
def dets (l : List Rel) (q : Qu) (a b : List Int) : Bool := goodQu l q && subs b (acl l q (-1) a)
theorem implDetermines_sat (l : List Rel) (q : Qu) (a b : List Int) (hl : l.length ≤ 9223372036854775807) (hq : q.ok) (ha : a.length ≤ 1048576) (hb : b.length ≤ 9223372036854775807) : Sat Try.prog 54 [lRels l, lQu q, lInts a, lInts b] [lBool (dets l q a b)] [g1, g3, g1, g1] := by
  refine sat_of_body mixed Try.func54 rfl (by kernel_rfl) (by kernel_rfl) (rs := [.tmp 8]) rfl rfl rfl ?_
  unfold dets
  have hn := acl_len l q (-1) a
  simp -implicitDefEqProofs (maxSteps := 2000000) only [go_sem]
  rcases g : goodQu l q
  · refine call_of (implIsValidQuery_sat l q hl hq) (by simp -implicitDefEqProofs (maxSteps := 2000000) only [go_sem, g]) (by kernel_rfl) (by simp -implicitDefEqProofs (maxSteps := 2000000) only [go_sem, g]) ?_
    simp -implicitDefEqProofs (maxSteps := 2000000) only [go_sem, g]
  refine call_of (implIsValidQuery_sat l q hl hq) (by simp -implicitDefEqProofs (maxSteps := 2000000) only [go_sem, g]) (by kernel_rfl) (by simp -implicitDefEqProofs (maxSteps := 2000000) only [go_sem, g]) ?_
  simp -implicitDefEqProofs (maxSteps := 2000000) only [go_sem, g]
  refine call_of (implAttributeClosure_sat l q (-1) a hl hq ha) (by simp -implicitDefEqProofs (maxSteps := 2000000) only [go_sem]) (callOk_still (by kernel_rfl) (by simp only [List.all_cons, List.all_nil, LV.still, LV.leaves, Leaf.still, ints_still, ris_still, eds_still, rels_still, iss_still, Bool.and_self, Bool.and_true])) (by simp -implicitDefEqProofs (maxSteps := 2000000) only [go_sem]) ?_
  simp -implicitDefEqProofs (maxSteps := 2000000) only [go_sem]
  refine call_of (isSubset_sat b (acl l q (-1) a) hb (by omega)) (by simp -implicitDefEqProofs (maxSteps := 2000000) only [go_sem]) (by kernel_rfl) (by simp -implicitDefEqProofs (maxSteps := 2000000) only [go_sem]) ?_
  simp -implicitDefEqProofs (maxSteps := 2000000) only [go_sem]
theorem specDetermines_sat (l : List Rel) (q : Qu) (a b : List Int) (hl : l.length ≤ 9223372036854775807) (hq : q.fit) (ha : a.length ≤ 9223372036854775807) (hb : b.length ≤ 9223372036854775807) : Sat Try.prog 53 [lRels l, lQu q, lInts a, lInts b] [lBool (dets l q a b)] [g1, g3, g1, g1] := by
  refine sat_of_body mixed Try.func53 rfl (by kernel_rfl) (by kernel_rfl) (rs := [.tmp 8]) rfl rfl rfl ?_
  unfold dets
  have hn := acl_len l q (-1) a
  simp -implicitDefEqProofs (maxSteps := 2000000) only [go_sem]
  rcases g : goodQu l q
  · refine call_of (specIsValidQuery_sat l q hl hq) (by simp -implicitDefEqProofs (maxSteps := 2000000) only [go_sem, g]) (by kernel_rfl) (by simp -implicitDefEqProofs (maxSteps := 2000000) only [go_sem, g]) ?_
    simp -implicitDefEqProofs (maxSteps := 2000000) only [go_sem, g]
  refine call_of (specIsValidQuery_sat l q hl hq) (by simp -implicitDefEqProofs (maxSteps := 2000000) only [go_sem, g]) (by kernel_rfl) (by simp -implicitDefEqProofs (maxSteps := 2000000) only [go_sem, g]) ?_
  simp -implicitDefEqProofs (maxSteps := 2000000) only [go_sem, g]
  refine call_of (specAttributeClosure_sat l q (-1) a hl hq ha) (by simp -implicitDefEqProofs (maxSteps := 2000000) only [go_sem]) (callOk_still (by kernel_rfl) (by simp only [List.all_cons, List.all_nil, LV.still, LV.leaves, Leaf.still, ints_still, ris_still, eds_still, rels_still, iss_still, Bool.and_self, Bool.and_true])) (by simp -implicitDefEqProofs (maxSteps := 2000000) only [go_sem]) ?_
  simp -implicitDefEqProofs (maxSteps := 2000000) only [go_sem]
  refine call_of (l14Has_sat (acl l q (-1) a) b (by omega) hb) (by simp -implicitDefEqProofs (maxSteps := 2000000) only [go_sem]) (by kernel_rfl) (by simp -implicitDefEqProofs (maxSteps := 2000000) only [go_sem]) ?_
  simp -implicitDefEqProofs (maxSteps := 2000000) only [go_sem]
end Go.Proofs.Ytoinfljgjdmooaa.A
