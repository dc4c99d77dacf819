
/- WHAT AN ATOM ATTACKS: the two programs. Conditions: none. -/
import Derived.Test.YtoinfljgjdmooaaAFAt
import Derived.Test.YtoinfljgjdmooaaAFKy
namespace Go.Proofs.Ytoinfljgjdmooaa.A
open Go
set_option linter.unusedSimpArgs false
set_option linter.unusedVariables false
set_option maxRecDepth 100000

theorem without_sat (a b : List Int) (ha : a.length ≤ 1048576) (hb : b.length ≤ 9223372036854775807) : Sat Try.prog 71 [lInts a, lInts b] [oInts (without a b)] [g1, g1] := by
  refine sat_of_body mixed Try.func71 rfl (by kernel_rfl) (by kernel_rfl) (rs := [.tmp 4]) rfl rfl rfl ?_
  unfold without
  generalize hp : (fun x => !decide (x ∈ b)) = p
  simp -implicitDefEqProofs (maxSteps := 2000000) only [go_sem]
  refine awp_loop Nat (fun k => mkSt [(1, .one (.im 1 (ints b))), (5, .one (.ref 960 1 0 ((a.take k).filter p).length)), (9, .one (.im 1 (ints a))), (10, .sc (.int .i64 a.length)), (11, .sc (.int .i64 k))] [] [(960, (1, ints ((a.take k).filter p)))] 2000)
    (fun k => k ≤ a.length) (fun k => a.length - k) 0 (by omega) (le_st' _ _ [⟨960, some _, false, 1, _⟩] [] _ (by simp -implicitDefEqProofs (maxSteps := 2000000) only [go_sem] <;> and_intros <;> rfl) (by simp -implicitDefEqProofs (maxSteps := 2000000) only [go_sem] <;> and_intros <;> rfl) (by simp -implicitDefEqProofs (maxSteps := 2000000) only [go_sem] <;> and_intros <;> rfl) (by rfl)) ?_
  rintro k h1
  have hl : ((a.take k).filter p).length ≤ a.length := Nat.le_trans (List.length_filter_le _ _) (by rw [List.length_take]; omega)
  by_cases c1 : k < a.length
  · have t := take_snoc 0 c1
    rcases d : decide (a.getD k 0 ∈ b)
    · simp -implicitDefEqProofs (maxSteps := 2000000) only [go_sem, c1]
      refine call_of (slicesContains_sat b (a.getD k 0) hb) (by simp -implicitDefEqProofs (maxSteps := 2000000) only [go_sem, d, c1]) (by kernel_rfl) (by simp -implicitDefEqProofs (maxSteps := 2000000) only [go_sem, d, c1]) ?_
      simp -implicitDefEqProofs (maxSteps := 2000000) only [go_sem, d, c1]
      refine ⟨by omega, ?_⟩
      rw [i64_succ (by omega)]
      refine ⟨k + 1, c1, by omega, ?_⟩
      rw [t, List.filter_append, List.filter_cons_of_pos (by rw [← hp]; show (!decide (a.getD k 0 ∈ b)) = true; rw [d]; rfl), List.filter_nil]
      exact (le_st' _ _ [⟨960, some _, false, 1, _⟩] [] _ (by simp -implicitDefEqProofs (maxSteps := 2000000) only [go_sem] <;> and_intros <;> rfl) (by simp -implicitDefEqProofs (maxSteps := 2000000) only [go_sem] <;> and_intros <;> rfl) (by simp -implicitDefEqProofs (maxSteps := 2000000) only [go_sem] <;> and_intros <;> rfl) (by rfl))
    · simp -implicitDefEqProofs (maxSteps := 2000000) only [go_sem, c1]
      refine call_of (slicesContains_sat b (a.getD k 0) hb) (by simp -implicitDefEqProofs (maxSteps := 2000000) only [go_sem, d, c1]) (by kernel_rfl) (by simp -implicitDefEqProofs (maxSteps := 2000000) only [go_sem, d, c1]) ?_
      simp -implicitDefEqProofs (maxSteps := 2000000) only [go_sem, d, c1]
      rw [i64_succ (by omega)]
      refine ⟨k + 1, c1, by omega, ?_⟩
      rw [t, List.filter_append, List.filter_cons_of_neg (by rw [← hp]; show ¬ ((!decide (a.getD k 0 ∈ b)) = true); rw [d]; simp), List.filter_nil, List.append_nil]
      exact (le_st' _ _ [⟨960, some _, false, 1, _⟩] [] _ (by simp -implicitDefEqProofs (maxSteps := 2000000) only [go_sem] <;> and_intros <;> rfl) (by simp -implicitDefEqProofs (maxSteps := 2000000) only [go_sem] <;> and_intros <;> rfl) (by simp -implicitDefEqProofs (maxSteps := 2000000) only [go_sem] <;> and_intros <;> rfl) (by rfl))
  · obtain rfl : k = a.length := by omega
    simp -implicitDefEqProofs (maxSteps := 2000000) only [go_sem, c1]
    first | done | rfl | exact ⟨rfl, rfl⟩ | exact ⟨rfl, rfl, rfl⟩ | (refine tr_and ?_ ?_ <;> first | rfl | exact ⟨rfl, rfl⟩ | kernel_rfl)
def attS (l : List Rel) (ats : List RI) (P : List Int) (k : Nat) (c : List Int) (same : Bool) (L : List Int) : St := match same with
  | true => mkSt [(0, .one (.im 3 (rels l))), (1, .one (.im 2 (ris 0 ats))), (9, .one (.ref 962 1 0 P.length)), (10, .one (.ref 960 1 0 c.length)), (11, .one (.ref 960 1 0 c.length)), (36, .one (.im 2 (ris 0 ats))), (37, .sc (.int .i64 ats.length)), (38, .sc (.int .i64 k))] [] [(960, (1, ints c)), (962, (1, ints P))] 9000
  | false => mkSt [(0, .one (.im 3 (rels l))), (1, .one (.im 2 (ris 0 ats))), (9, .one (.ref 962 1 0 P.length)), (10, .one (.ref 960 1 0 c.length)), (11, .one (.ref 961 1 0 L.length)), (36, .one (.im 2 (ris 0 ats))), (37, .sc (.int .i64 ats.length)), (38, .sc (.int .i64 k))] [] [(960, (1, ints c)), (961, (1, ints L)), (962, (1, ints P))] 9000
theorem frz_twoO (n : Nat) (a b : List Int) : frz [[Cell.sl 0 (iv a)], [Cell.sl n (iv b)]] = iss 0 [a, b] := rfl
theorem attacked_sat (l : List Rel) (ats : List RI) (fr : List Int) (k0 : Nat) (hl : l.length ≤ 9223372036854775807) (ha : ats.length ≤ 1048576) (hx : ∀ x ∈ ats, x.ok) (hf : fr.length ≤ 1048576) (hk : k0 < ats.length) (hs : Small (uni (fr ++ keyVars l (ats.getD k0 default)) [])) :
    Sat Try.prog 56 [lRels l, lRIs ats, lInts fr, lInt k0] [oInts (att ats (clos l ats k0 (uni (fr ++ keyVars l (ats.getD k0 default)) [])) k0)] [g1, g1, g1, g1] := by
  refine sat_of_body mixed Try.func56 rfl (by kernel_rfl) (by kernel_rfl) (rs := [.tmp 8]) rfl rfl rfl ?_
  have hok0 := hx _ (mem_getD default hk)
  have hkl := keyVars_len l (ats.getD k0 default)
  have hP := clos_small (l := l) (ats := ats) (skip := (k0 : Int)) hs
  have hvl0 := varsOf_len (ats.getD k0 default).l
  simp -implicitDefEqProofs (maxSteps := 2000000) only [go_sem, hk]
  refine call_of (implKeyVariables_sat l (ats.getD k0 default) hl hok0) (by simp -implicitDefEqProofs (maxSteps := 2000000) only [go_sem, hk]) (callOk_still (by kernel_rfl) (by simp only [List.all_cons, List.all_nil, LV.still, LV.leaves, Leaf.still, ints_still, ris_still, eds_still, rels_still, iss_still, Bool.and_self, Bool.and_true])) (by simp -implicitDefEqProofs (maxSteps := 2000000) only [go_sem, hk]) ?_
  simp -implicitDefEqProofs (maxSteps := 2000000) only [go_sem, hk]
  refine call_of (slicesConcat_sat [fr, keyVars l (ats.getD k0 default)] (by simp) (by simp [-List.getD_eq_getElem?_getD]; omega)) (by simp -implicitDefEqProofs (maxSteps := 2000000) only [go_sem, frz_twoO]) (callOk_still (by kernel_rfl) (by simp only [List.all_cons, List.all_nil, LV.still, LV.leaves, Leaf.still, ints_still, ris_still, eds_still, rels_still, iss_still, Bool.and_self, Bool.and_true])) (by simp -implicitDefEqProofs (maxSteps := 2000000) only [go_sem, frz_twoO]) ?_
  simp -implicitDefEqProofs (maxSteps := 2000000) only [go_sem, frz_twoO]
  have ht : List.take (fr.length + (keyVars l (ats.getD k0 default)).length) (fr ++ keyVars l (ats.getD k0 default)) = fr ++ keyVars l (ats.getD k0 default) := by rw [← List.length_append, List.take_length]
  refine call_of (closure_sat l ats k0 (fr ++ keyVars l (ats.getD k0 default)) hl ha hx (by rw [List.length_append]; omega) hs) (by simp -implicitDefEqProofs (maxSteps := 2000000) only [go_sem, ht, hk]) (callOk_still (by kernel_rfl) (by simp only [List.all_cons, List.all_nil, LV.still, LV.leaves, Leaf.still, ints_still, ris_still, eds_still, rels_still, iss_still, Bool.and_self, Bool.and_true])) (by simp -implicitDefEqProofs (maxSteps := 2000000) only [go_sem, ht, hk]) ?_
  simp -implicitDefEqProofs (maxSteps := 2000000) only [go_sem, ht, hk]
  first | (with_reducible refine tr_and ?_ ?_; focus kernel_rfl) | (with_reducible refine tr_only ?_; kernel_rfl) | skip
  generalize clos l ats k0 (uni (fr ++ keyVars l (ats.getD k0 default)) []) = P at hP ⊢
  have hPl := hP.len
  refine call_of (implAtomVariables_sat (ats.getD k0 default) hok0) (by simp -implicitDefEqProofs (maxSteps := 2000000) only [go_sem, hk]) (callOk_still (by kernel_rfl) (by simp only [List.all_cons, List.all_nil, LV.still, LV.leaves, Leaf.still, ints_still, ris_still, eds_still, rels_still, iss_still, Bool.and_self, Bool.and_true])) (by simp -implicitDefEqProofs (maxSteps := 2000000) only [go_sem, hk]) ?_
  simp -implicitDefEqProofs (maxSteps := 2000000) only [go_sem, hk]
  refine call_of (without_sat (varsOf (ats.getD k0 default).l) P (by omega) (by omega)) (by simp -implicitDefEqProofs (maxSteps := 2000000) only [go_sem, hk]) (callOk_still (by kernel_rfl) (by simp only [List.all_cons, List.all_nil, LV.still, LV.leaves, Leaf.still, ints_still, ris_still, eds_still, rels_still, iss_still, Bool.and_self, Bool.and_true])) (by simp -implicitDefEqProofs (maxSteps := 2000000) only [go_sem, hk]) ?_
  simp -implicitDefEqProofs (maxSteps := 2000000) only [go_sem, hk]
  first | (with_reducible refine tr_and ?_ ?_; focus kernel_rfl) | (with_reducible refine tr_only ?_; kernel_rfl) | skip
  have hO : without (varsOf (ats.getD k0 default).l) P = outs ats P k0 := rfl
  rw [hO]
  have hv := outs_small ats P
  have hs0 := outs_Small ats P k0
  generalize hc0 : outs ats P k0 = c0 at hs0 ⊢
  refine awp_loop Nat (fun j => mkSt [(0, .one (.im 3 (rels l))), (1, .one (.im 2 (ris 0 ats))), (9, .one (.ref 962 1 0 P.length)), (10, .one (.ref 960 1 0 (iterG (condI ats P) (outs ats P) ats.length c0 j).length))] [] [(960, (1, ints (iterG (condI ats P) (outs ats P) ats.length c0 j))), (962, (1, ints P))] 6000)
    (fun j => j ≤ 4 ∧ j ≤ (iterG (condI ats P) (outs ats P) ats.length c0 j).length) (fun j => 4 - j) 0 ⟨by omega, by omega⟩ (le_st' _ _ [⟨960, some _, false, 1, _⟩, ⟨962, some _, false, 1, _⟩] [] _ (by simp -implicitDefEqProofs (maxSteps := 2000000) only [go_sem] <;> and_intros <;> rfl) (by simp -implicitDefEqProofs (maxSteps := 2000000) only [go_sem] <;> and_intros <;> rfl) (by simp -implicitDefEqProofs (maxSteps := 2000000) only [go_sem] <;> and_intros <;> rfl) (by rfl)) ?_
  rintro j ⟨h1, h2⟩
  have sm := iterG_small (cond := condI ats P) (n := ats.length) hv hs0 (m := j)
  generalize hc : iterG (condI ats P) (outs ats P) ats.length c0 j = c at h2 sm ⊢
  have hcl := sm.len
  simp -implicitDefEqProofs (maxSteps := 2000000) only [go_sem]
  refine awp_loop (Nat × Bool × List Int) (fun x => attS l ats P x.1 c x.2.1 x.2.2)
    (fun x => x.1 ≤ ats.length ∧ x.2.2 = passG (condI ats P) (outs ats P) c x.1 ∧ (x.2.1 = true → x.2.2 = c)) (fun x => ats.length - x.1) (0, true, c) ⟨by simp, rfl, fun _ => rfl⟩ (le_st' _ _ [⟨960, some _, false, 1, _⟩, ⟨962, some _, false, 1, _⟩] [] _ (by simp -implicitDefEqProofs (maxSteps := 2000000) only [go_sem] <;> and_intros <;> rfl) (by simp -implicitDefEqProofs (maxSteps := 2000000) only [go_sem] <;> and_intros <;> rfl) (by simp -implicitDefEqProofs (maxSteps := 2000000) only [go_sem] <;> and_intros <;> rfl) (by rfl)) ?_
  rintro ⟨k, same, L⟩ ⟨h3, h4, h5⟩
  simp only at h3 h4 h5
  have smL : Small L := by rw [h4]; exact passG_small hv sm
  have hLl := smL.len
  by_cases c1 : k < ats.length
  · have hok := hx _ (mem_getD default c1)
    have hvl := varsOf_len (ats.getD k default).l
    have hol := without_len (varsOf (ats.getD k default).l) P
    have wi : IntKind.i64.wrap ((k : Int) + 1) = ((k + 1 : Nat) : Int) := i64_succ (by omega)
    have hom := without_meets (outs ats P k) L
    have hOk : without (varsOf (ats.getD k default).l) P = outs ats P k := rfl
    rw [hOk] at hol
    have hll := without_len (outs ats P k) L
    rcases d2 : meetB (outs ats P k) L
    · have e : passG (condI ats P) (outs ats P) c (k + 1) = L := by rw [passG, ← h4, fireG, condI, d2]; rfl
      rw [d2] at hom
      cases same with
      | true =>
        have hLc := h5 rfl
        rw [hLc] at hom
        dsimp only [attS]
        simp -implicitDefEqProofs (maxSteps := 2000000) only [go_sem, c1]
        refine call_of (implAtomVariables_sat (ats.getD k default) hok) (by simp -implicitDefEqProofs (maxSteps := 2000000) only [go_sem, c1]) (callOk_still (by kernel_rfl) (by simp only [List.all_cons, List.all_nil, LV.still, LV.leaves, Leaf.still, ints_still, ris_still, eds_still, rels_still, iss_still, Bool.and_self, Bool.and_true])) (by simp -implicitDefEqProofs (maxSteps := 2000000) only [go_sem, c1]) ?_
        simp -implicitDefEqProofs (maxSteps := 2000000) only [go_sem, c1]
        refine call_of (without_sat (varsOf (ats.getD k default).l) P (by omega) (by omega)) (by simp -implicitDefEqProofs (maxSteps := 2000000) only [go_sem, hOk]) (callOk_still (by kernel_rfl) (by simp only [List.all_cons, List.all_nil, LV.still, LV.leaves, Leaf.still, ints_still, ris_still, eds_still, rels_still, iss_still, Bool.and_self, Bool.and_true])) (by simp -implicitDefEqProofs (maxSteps := 2000000) only [go_sem, hOk]) ?_
        simp -implicitDefEqProofs (maxSteps := 2000000) only [go_sem, hOk]
        refine call_of (without_sat (outs ats P k) c (by omega) (by omega)) (by simp -implicitDefEqProofs (maxSteps := 2000000) only [go_sem, hom]) (callOk_still (by kernel_rfl) (by simp only [List.all_cons, List.all_nil, LV.still, LV.leaves, Leaf.still, ints_still, ris_still, eds_still, rels_still, iss_still, Bool.and_self, Bool.and_true])) (by simp -implicitDefEqProofs (maxSteps := 2000000) only [go_sem, hom]) ?_
        simp -implicitDefEqProofs (maxSteps := 2000000) only [go_sem, hom]
        rw [wi]
        exact ⟨(k + 1, true, L), ⟨c1, e.symm, fun _ => h5 rfl⟩, by simp; omega, (le_st' _ _ [⟨960, some _, false, 1, _⟩, ⟨962, some _, false, 1, _⟩] [] _ (by simp -implicitDefEqProofs (maxSteps := 2000000) only [go_sem] <;> and_intros <;> rfl) (by simp -implicitDefEqProofs (maxSteps := 2000000) only [go_sem] <;> and_intros <;> rfl) (by simp -implicitDefEqProofs (maxSteps := 2000000) only [go_sem] <;> and_intros <;> rfl) (by rfl))⟩
      | false =>
        dsimp only [attS]
        simp -implicitDefEqProofs (maxSteps := 2000000) only [go_sem, c1]
        refine call_of (implAtomVariables_sat (ats.getD k default) hok) (by simp -implicitDefEqProofs (maxSteps := 2000000) only [go_sem, c1]) (callOk_still (by kernel_rfl) (by simp only [List.all_cons, List.all_nil, LV.still, LV.leaves, Leaf.still, ints_still, ris_still, eds_still, rels_still, iss_still, Bool.and_self, Bool.and_true])) (by simp -implicitDefEqProofs (maxSteps := 2000000) only [go_sem, c1]) ?_
        simp -implicitDefEqProofs (maxSteps := 2000000) only [go_sem, c1]
        refine call_of (without_sat (varsOf (ats.getD k default).l) P (by omega) (by omega)) (by simp -implicitDefEqProofs (maxSteps := 2000000) only [go_sem, hOk]) (callOk_still (by kernel_rfl) (by simp only [List.all_cons, List.all_nil, LV.still, LV.leaves, Leaf.still, ints_still, ris_still, eds_still, rels_still, iss_still, Bool.and_self, Bool.and_true])) (by simp -implicitDefEqProofs (maxSteps := 2000000) only [go_sem, hOk]) ?_
        simp -implicitDefEqProofs (maxSteps := 2000000) only [go_sem, hOk]
        refine call_of (without_sat (outs ats P k) L (by omega) (by omega)) (by simp -implicitDefEqProofs (maxSteps := 2000000) only [go_sem, hom]) (callOk_still (by kernel_rfl) (by simp only [List.all_cons, List.all_nil, LV.still, LV.leaves, Leaf.still, ints_still, ris_still, eds_still, rels_still, iss_still, Bool.and_self, Bool.and_true])) (by simp -implicitDefEqProofs (maxSteps := 2000000) only [go_sem, hom]) ?_
        simp -implicitDefEqProofs (maxSteps := 2000000) only [go_sem, hom]
        rw [wi]
        exact ⟨(k + 1, false, L), ⟨c1, e.symm, fun h => by cases h⟩, by simp; omega, (le_st' _ _ [⟨960, some _, false, 1, _⟩, ⟨961, some _, false, 1, _⟩, ⟨962, some _, false, 1, _⟩] [] _ (by simp -implicitDefEqProofs (maxSteps := 2000000) only [go_sem] <;> and_intros <;> rfl) (by simp -implicitDefEqProofs (maxSteps := 2000000) only [go_sem] <;> and_intros <;> rfl) (by simp -implicitDefEqProofs (maxSteps := 2000000) only [go_sem] <;> and_intros <;> rfl) (by rfl))⟩
    · have e : passG (condI ats P) (outs ats P) c (k + 1) = uni L (outs ats P k) := by rw [passG, ← h4, fireG, condI, d2]; rfl
      rw [d2] at hom
      cases same with
      | true =>
        have hLc := h5 rfl
        rw [hLc] at hom e
        dsimp only [attS]
        simp -implicitDefEqProofs (maxSteps := 2000000) only [go_sem, c1]
        refine call_of (implAtomVariables_sat (ats.getD k default) hok) (by simp -implicitDefEqProofs (maxSteps := 2000000) only [go_sem, c1]) (callOk_still (by kernel_rfl) (by simp only [List.all_cons, List.all_nil, LV.still, LV.leaves, Leaf.still, ints_still, ris_still, eds_still, rels_still, iss_still, Bool.and_self, Bool.and_true])) (by simp -implicitDefEqProofs (maxSteps := 2000000) only [go_sem, c1]) ?_
        simp -implicitDefEqProofs (maxSteps := 2000000) only [go_sem, c1]
        refine call_of (without_sat (varsOf (ats.getD k default).l) P (by omega) (by omega)) (by simp -implicitDefEqProofs (maxSteps := 2000000) only [go_sem, hOk]) (callOk_still (by kernel_rfl) (by simp only [List.all_cons, List.all_nil, LV.still, LV.leaves, Leaf.still, ints_still, ris_still, eds_still, rels_still, iss_still, Bool.and_self, Bool.and_true])) (by simp -implicitDefEqProofs (maxSteps := 2000000) only [go_sem, hOk]) ?_
        simp -implicitDefEqProofs (maxSteps := 2000000) only [go_sem, hOk]
        refine call_of (without_sat (outs ats P k) c (by omega) (by omega)) (by simp -implicitDefEqProofs (maxSteps := 2000000) only [go_sem, hom]) (callOk_still (by kernel_rfl) (by simp only [List.all_cons, List.all_nil, LV.still, LV.leaves, Leaf.still, ints_still, ris_still, eds_still, rels_still, iss_still, Bool.and_self, Bool.and_true])) (by simp -implicitDefEqProofs (maxSteps := 2000000) only [go_sem, hom]) ?_
        simp -implicitDefEqProofs (maxSteps := 2000000) only [go_sem, hom]
        refine call_of (union_sat c (outs ats P k) (by omega)) (by simp -implicitDefEqProofs (maxSteps := 2000000) only [go_sem]) (callOk_still (by kernel_rfl) (by simp only [List.all_cons, List.all_nil, LV.still, LV.leaves, Leaf.still, ints_still, ris_still, eds_still, rels_still, iss_still, Bool.and_self, Bool.and_true])) (by simp -implicitDefEqProofs (maxSteps := 2000000) only [go_sem]) ?_
        simp -implicitDefEqProofs (maxSteps := 2000000) only [go_sem]
        rw [wi]
        exact ⟨(k + 1, false, uni c (outs ats P k)), ⟨c1, e.symm, fun h => by cases h⟩, by simp; omega, (le_st' _ _ [⟨960, some _, false, 1, _⟩, ⟨961, some _, false, 1, _⟩, ⟨962, some _, false, 1, _⟩] [] _ (by simp -implicitDefEqProofs (maxSteps := 2000000) only [go_sem] <;> and_intros <;> rfl) (by simp -implicitDefEqProofs (maxSteps := 2000000) only [go_sem] <;> and_intros <;> rfl) (by simp -implicitDefEqProofs (maxSteps := 2000000) only [go_sem] <;> and_intros <;> rfl) (by rfl))⟩
      | false =>
        dsimp only [attS]
        simp -implicitDefEqProofs (maxSteps := 2000000) only [go_sem, c1]
        refine call_of (implAtomVariables_sat (ats.getD k default) hok) (by simp -implicitDefEqProofs (maxSteps := 2000000) only [go_sem, c1]) (callOk_still (by kernel_rfl) (by simp only [List.all_cons, List.all_nil, LV.still, LV.leaves, Leaf.still, ints_still, ris_still, eds_still, rels_still, iss_still, Bool.and_self, Bool.and_true])) (by simp -implicitDefEqProofs (maxSteps := 2000000) only [go_sem, c1]) ?_
        simp -implicitDefEqProofs (maxSteps := 2000000) only [go_sem, c1]
        refine call_of (without_sat (varsOf (ats.getD k default).l) P (by omega) (by omega)) (by simp -implicitDefEqProofs (maxSteps := 2000000) only [go_sem, hOk]) (callOk_still (by kernel_rfl) (by simp only [List.all_cons, List.all_nil, LV.still, LV.leaves, Leaf.still, ints_still, ris_still, eds_still, rels_still, iss_still, Bool.and_self, Bool.and_true])) (by simp -implicitDefEqProofs (maxSteps := 2000000) only [go_sem, hOk]) ?_
        simp -implicitDefEqProofs (maxSteps := 2000000) only [go_sem, hOk]
        refine call_of (without_sat (outs ats P k) L (by omega) (by omega)) (by simp -implicitDefEqProofs (maxSteps := 2000000) only [go_sem, hom]) (callOk_still (by kernel_rfl) (by simp only [List.all_cons, List.all_nil, LV.still, LV.leaves, Leaf.still, ints_still, ris_still, eds_still, rels_still, iss_still, Bool.and_self, Bool.and_true])) (by simp -implicitDefEqProofs (maxSteps := 2000000) only [go_sem, hom]) ?_
        simp -implicitDefEqProofs (maxSteps := 2000000) only [go_sem, hom]
        refine call_of (union_sat L (outs ats P k) (by omega)) (by simp -implicitDefEqProofs (maxSteps := 2000000) only [go_sem]) (callOk_still (by kernel_rfl) (by simp only [List.all_cons, List.all_nil, LV.still, LV.leaves, Leaf.still, ints_still, ris_still, eds_still, rels_still, iss_still, Bool.and_self, Bool.and_true])) (by simp -implicitDefEqProofs (maxSteps := 2000000) only [go_sem]) ?_
        simp -implicitDefEqProofs (maxSteps := 2000000) only [go_sem]
        rw [wi]
        exact ⟨(k + 1, false, uni L (outs ats P k)), ⟨c1, e.symm, fun h => by cases h⟩, by simp; omega, (le_st' _ _ [⟨960, some _, false, 1, _⟩, ⟨961, some _, false, 1, _⟩, ⟨962, some _, false, 1, _⟩] [] _ (by simp -implicitDefEqProofs (maxSteps := 2000000) only [go_sem] <;> and_intros <;> rfl) (by simp -implicitDefEqProofs (maxSteps := 2000000) only [go_sem] <;> and_intros <;> rfl) (by simp -implicitDefEqProofs (maxSteps := 2000000) only [go_sem] <;> and_intros <;> rfl) (by rfl))⟩
  obtain rfl : k = ats.length := by omega
  have fin : L = c → att ats P k0 = c := fun e => by
    have e2 : iterG (condI ats P) (outs ats P) ats.length (outs ats P k0) (j + 1) = iterG (condI ats P) (outs ats P) ats.length (outs ats P k0) j := by
      rw [hc0]
      show passG (condI ats P) (outs ats P) (iterG (condI ats P) (outs ats P) ats.length c0 j) ats.length = _
      rw [hc, ← h4, e]
    rw [← att_done e2, hc0, hc]
  cases same with
  | true =>
    rw [fin (h5 rfl)]
    dsimp only [attS]
    simp -implicitDefEqProofs (maxSteps := 2000000) only [go_sem, c1]
    first | done | rfl | exact ⟨rfl, rfl⟩ | exact ⟨rfl, rfl, rfl⟩ | (refine tr_and ?_ ?_ <;> first | rfl | exact ⟨rfl, rfl⟩ | kernel_rfl)
  | false =>
    dsimp only [attS]
    have hsub := strict_sub_len sm.strict smL.strict fun x hx => by rw [h4]; exact passG_sub x hx
    rcases d3 : ((L.length : Int) == c.length)
    · have hne : (L.length : Int) ≠ c.length := by simpa using d3
      simp -implicitDefEqProofs (maxSteps := 2000000) only [go_sem, c1, d3]
      refine ⟨j + 1, ⟨by omega, ?_⟩, by omega, ?_⟩
      · rw [show iterG (condI ats P) (outs ats P) ats.length c0 (j + 1) = L by rw [h4, ← hc]; rfl]; omega
      · rw [show iterG (condI ats P) (outs ats P) ats.length c0 (j + 1) = L by rw [h4, ← hc]; rfl]
        exact (le_st' _ _ [⟨960, some _, false, 1, _⟩, ⟨962, some _, false, 1, _⟩] [] _ (by simp -implicitDefEqProofs (maxSteps := 2000000) only [go_sem] <;> and_intros <;> rfl) (by simp -implicitDefEqProofs (maxSteps := 2000000) only [go_sem] <;> and_intros <;> rfl) (by simp -implicitDefEqProofs (maxSteps := 2000000) only [go_sem] <;> and_intros <;> rfl) (by rfl))
    · have he : L = c := (hsub.2 (by have := eq_of_beq d3; omega)).symm
      rw [fin he]
      simp -implicitDefEqProofs (maxSteps := 2000000) only [go_sem, c1, d3]
      first | done | rfl | exact ⟨rfl, rfl⟩ | exact ⟨rfl, rfl, rfl⟩ | (refine tr_and ?_ ?_ <;> first | rfl | exact ⟨rfl, rfl⟩ | kernel_rfl)
/-- The variables that an atom attacks. -/
def attV (l : List Rel) (q : Qu) (k : Int) : List Int := if goodQu l q && inB k 0 ((q.atoms.length : Int) - 1) then att q.atoms (kcl l q k) k.toNat else []
theorem attV_small (l : List Rel) (q : Qu) (k : Int) : Small (attV l q k) := by
  unfold attV; split
  · exact att_small _ _ _
  · exact Small.nil
theorem keyVars_small (l : List Rel) (a : RI) : ∀ x ∈ keyVars l a, 0 ≤ x ∧ x < 4 := by
  unfold keyVars; split
  · exact varsOf_small _
  · intro x hx; cases hx
theorem start_keys {l : List Rel} {q : Qu} (h : goodQu l q = true) (a : RI) : uni (q.free ++ keyVars l a) [] = start q (keyVars l a) := by
  rw [← start_uni h]
  congr 2
  refine (List.filter_eq_self.mpr fun x hx => ?_).symm
  have := keyVars_small l a x hx
  unfold inB
  simp only [Bool.and_eq_true, decide_eq_true_eq]
  omega
theorem attV_eq {l : List Rel} {q : Qu} {m : Nat} (g : goodQu l q = true) (hm : m < q.atoms.length) : attV l q m = att q.atoms (clos l q.atoms m (uni (q.free ++ keyVars l (q.atoms.getD m default)) [])) m := by
  have i1 : inB (m : Int) 0 ((q.atoms.length : Int) - 1) = true := by
    unfold inB; simp only [Bool.and_eq_true, decide_eq_true_eq]; omega
  rw [attV, kcl, acl, g, i1, start_keys g]
  rfl
theorem implAttackedVariables_sat (l : List Rel) (q : Qu) (k : Int) (hl : l.length ≤ 9223372036854775807) (hq : q.ok) : Sat Try.prog 29 [lRels l, lQu q, lInt k] [oInts (attV l q k)] [g1, g3, g1] := by
  refine sat_of_body mixed Try.func29 rfl (by kernel_rfl) (by kernel_rfl) (rs := [.tmp 6]) rfl rfl rfl ?_
  have hb := hq.1.1
  have w0 : IntKind.i64.wrap ((q.atoms.length : Int) - 1) = (q.atoms.length : Int) - 1 := IntWalk.i64_in _ (by omega)
  simp -implicitDefEqProofs (maxSteps := 2000000) only [go_sem]
  rcases g : goodQu l q
  · rw [show attV l q k = [] by rw [attV, g]; rfl]
    refine call_of (implIsValidQuery_sat l q hl hq) (by simp -implicitDefEqProofs (maxSteps := 2000000) only [go_sem, g]) (by kernel_rfl) (by simp -implicitDefEqProofs (maxSteps := 2000000) only [go_sem, g]) ?_
    simp -implicitDefEqProofs (maxSteps := 2000000) only [go_sem, g]
    first | done | rfl | exact ⟨rfl, rfl⟩ | exact ⟨rfl, rfl, rfl⟩ | (refine tr_and ?_ ?_ <;> first | rfl | exact ⟨rfl, rfl⟩ | kernel_rfl)
  rcases i1 : inB k 0 ((q.atoms.length : Int) - 1)
  · rw [show attV l q k = [] by rw [attV, i1, Bool.and_false]; rfl]
    refine call_of (implIsValidQuery_sat l q hl hq) (by simp -implicitDefEqProofs (maxSteps := 2000000) only [go_sem, g, w0]) (by kernel_rfl) (by simp -implicitDefEqProofs (maxSteps := 2000000) only [go_sem, g, w0]) ?_
    simp -implicitDefEqProofs (maxSteps := 2000000) only [go_sem, g, w0]
    refine call_of (inW_sat k 0 ((q.atoms.length : Int) - 1)) (by simp -implicitDefEqProofs (maxSteps := 2000000) only [go_sem, i1]) (by kernel_rfl) (by simp -implicitDefEqProofs (maxSteps := 2000000) only [go_sem, i1]) ?_
    simp -implicitDefEqProofs (maxSteps := 2000000) only [go_sem, i1]
    first | done | rfl | exact ⟨rfl, rfl⟩ | exact ⟨rfl, rfl, rfl⟩ | (refine tr_and ?_ ?_ <;> first | rfl | exact ⟨rfl, rfl⟩ | kernel_rfl)
  obtain ⟨r1, r2⟩ := inB_of i1
  obtain ⟨m, rfl⟩ : ∃ m : Nat, k = m := ⟨k.toNat, by omega⟩
  have c1 : m < q.atoms.length := by omega
  rw [attV_eq g c1]
  refine call_of (implIsValidQuery_sat l q hl hq) (by simp -implicitDefEqProofs (maxSteps := 2000000) only [go_sem, g, w0]) (by kernel_rfl) (by simp -implicitDefEqProofs (maxSteps := 2000000) only [go_sem, g, w0]) ?_
  simp -implicitDefEqProofs (maxSteps := 2000000) only [go_sem, g, w0]
  refine call_of (inW_sat m 0 ((q.atoms.length : Int) - 1)) (by simp -implicitDefEqProofs (maxSteps := 2000000) only [go_sem, i1, c1]) (by kernel_rfl) (by simp -implicitDefEqProofs (maxSteps := 2000000) only [go_sem, i1, c1]) ?_
  simp -implicitDefEqProofs (maxSteps := 2000000) only [go_sem, i1, c1]
  refine call_of (attacked_sat l q.atoms q.free m hl hq.1.1 hq.1.2 hq.2 c1 (by rw [start_keys g]; exact start_small _ _)) (by simp -implicitDefEqProofs (maxSteps := 2000000) only [go_sem]) (callOk_still (by kernel_rfl) (by simp only [List.all_cons, List.all_nil, LV.still, LV.leaves, Leaf.still, ints_still, ris_still, eds_still, rels_still, iss_still, Bool.and_self, Bool.and_true])) (by simp -implicitDefEqProofs (maxSteps := 2000000) only [go_sem]) ?_
  simp -implicitDefEqProofs (maxSteps := 2000000) only [go_sem]
  first | done | rfl | exact ⟨rfl, rfl⟩ | exact ⟨rfl, rfl, rfl⟩ | (refine tr_and ?_ ?_ <;> first | rfl | exact ⟨rfl, rfl⟩ | kernel_rfl)
end Go.Proofs.Ytoinfljgjdmooaa.A
