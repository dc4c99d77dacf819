
/- CLOSURES: the two programs. Conditions: none. -/
import Derived.Test.YtoinfljgjdmooaaAFCl
namespace Go.Proofs.Ytoinfljgjdmooaa.A
open Go
set_option linter.unusedSimpArgs false
set_option linter.unusedVariables false
set_option maxRecDepth 100000

/-! #### a predicate of numbers, asked of all numbers of a list -/
theorem intsIndex_sat (f : FuncId) (c : List Fld) (p : Int → Bool) (l : List Int) (h : l.length ≤ 9223372036854775807) (hf : ∀ x, Sat Try.prog f [lInt x, .one (.ip c)] [lBool (!p x)] [g1, g1]) :
    Sat Try.prog 86 [lInts l, .one (.fn f [c])] [lInt (firstNo (fun i => p (l.getD i 0)) l.length 0)] [g1, g1] := by
  refine sat_of_body mixed Try.func86 rfl (by kernel_rfl) (by kernel_rfl) (rs := [.tmp 4]) rfl rfl rfl ?_
  generalize hp : (fun i => p (l.getD i 0)) = p'
  have hp' : ∀ i, p' i = p (l.getD i 0) := fun i => by rw [← hp]
  simp -implicitDefEqProofs (maxSteps := 2000000) only [go_sem]
  refine awp_loop Nat (fun k => mkSt [(0, .one (.im 1 (ints l))), (1, .one (.fni f [c])), (7, .sc (.int .i64 l.length)), (8, .sc (.int .i64 k))] [] [] 1000)
    (fun k => k ≤ l.length ∧ firstNo p' (l.length - k) k = firstNo p' l.length 0) (fun k => l.length - k) 0 ⟨by omega, rfl⟩ (le_st _ _ [] [] _ rfl (by simp -implicitDefEqProofs (maxSteps := 2000000) only [go_sem] <;> rfl) trivial trivial) ?_
  rintro k ⟨h1, h2⟩
  by_cases c1 : k < l.length
  · rw [show l.length - k = (l.length - (k + 1)) + 1 by omega, firstNo, hp'] at h2
    rcases d : p (l.getD k 0)
    · rw [if_neg (by rw [d]; simp)] at h2
      simp -implicitDefEqProofs (maxSteps := 2000000) only [go_sem, c1]
      refine call_of (hf (l.getD k 0)) (by simp -implicitDefEqProofs (maxSteps := 2000000) only [go_sem, d, c1]) (by kernel_rfl) (by simp -implicitDefEqProofs (maxSteps := 2000000) only [go_sem, d, c1]) ?_
      simp -implicitDefEqProofs (maxSteps := 2000000) only [go_sem, d, c1]
      rw [← h2]
    · rw [if_pos d] at h2
      simp -implicitDefEqProofs (maxSteps := 2000000) only [go_sem, c1]
      refine call_of (hf (l.getD k 0)) (by simp -implicitDefEqProofs (maxSteps := 2000000) only [go_sem, d, c1]) (by kernel_rfl) (by simp -implicitDefEqProofs (maxSteps := 2000000) only [go_sem, d, c1]) ?_
      simp -implicitDefEqProofs (maxSteps := 2000000) only [go_sem, d, c1]
      rw [i64_succ (by omega)]
      exact ⟨k + 1, ⟨c1, h2⟩, by omega, (le_st _ _ [] [] _ rfl (by simp -implicitDefEqProofs (maxSteps := 2000000) only [go_sem] <;> rfl) trivial trivial)⟩
  · obtain rfl : k = l.length := by omega
    rw [Nat.sub_self, firstNo] at h2
    simp -implicitDefEqProofs (maxSteps := 2000000) only [go_sem, c1]
    rw [← h2]
theorem intsContains_sat (f : FuncId) (c : List Fld) (p : Int → Bool) (l : List Int) (h : l.length ≤ 9223372036854775807) (hf : ∀ x, Sat Try.prog f [lInt x, .one (.ip c)] [lBool (!p x)] [g1, g1]) :
    Sat Try.prog 80 [lInts l, .one (.fn f [c])] [lBool (!upTo (fun i => p (l.getD i 0)) l.length)] [g1, g1] := by
  refine sat_of_body mixed Try.func80 rfl (by kernel_rfl) (by kernel_rfl) (rs := [.tmp 4]) rfl rfl rfl ?_
  simp -implicitDefEqProofs (maxSteps := 2000000) only [go_sem]
  refine call_of (intsIndex_sat f c p l h hf) (by simp -implicitDefEqProofs (maxSteps := 2000000) only [go_sem]) (by kernel_rfl) (by simp -implicitDefEqProofs (maxSteps := 2000000) only [go_sem]) ?_
  simp -implicitDefEqProofs (maxSteps := 2000000) only [go_sem]
  rw [firstNo_ge _ _ _ rfl, Nat.zero_add]
theorem isSubset1_sat (b : List Int) (h : b.length ≤ 9223372036854775807) (x : Int) : Sat Try.prog 81 [lInt x, .one (.ip [.im 1 (ints b)])] [lBool (!decide (x ∈ b))] [g1, g1] := by
  refine sat_of_body mixed Try.func81 rfl (by kernel_rfl) (by kernel_rfl) (rs := [.tmp 3]) rfl rfl rfl ?_
  simp -implicitDefEqProofs (maxSteps := 2000000) only [go_sem]
  refine call_of (slicesContains_sat b x h) (by simp -implicitDefEqProofs (maxSteps := 2000000) only [go_sem]) (by kernel_rfl) (by simp -implicitDefEqProofs (maxSteps := 2000000) only [go_sem]) ?_
  simp -implicitDefEqProofs (maxSteps := 2000000) only [go_sem]
theorem isSubset_sat (a b : List Int) (ha : a.length ≤ 9223372036854775807) (hb : b.length ≤ 9223372036854775807) : Sat Try.prog 72 [lInts a, lInts b] [lBool (subs a b)] [g1, g1] := by
  refine sat_of_body mixed Try.func72 rfl (by kernel_rfl) (by kernel_rfl) (rs := [.tmp 4]) rfl rfl rfl ?_
  simp -implicitDefEqProofs (maxSteps := 2000000) only [go_sem]
  refine call_of (intsContains_sat 81 [.im 1 (ints b)] (fun x => decide (x ∈ b)) a ha (isSubset1_sat b hb)) (by simp -implicitDefEqProofs (maxSteps := 2000000) only [go_sem]) (by kernel_rfl) (by simp -implicitDefEqProofs (maxSteps := 2000000) only [go_sem]) ?_
  simp -implicitDefEqProofs (maxSteps := 2000000) only [go_sem]
  rw [Bool.not_not]
  rfl
theorem l14Has_sat (b a : List Int) (hb : b.length ≤ 9223372036854775807) (ha : a.length ≤ 9223372036854775807) : Sat Try.prog 60 [lInts b, lInts a] [lBool (subs a b)] [g1, g1] := by
  refine sat_of_body mixed Try.func60 rfl (by kernel_rfl) (by kernel_rfl) (rs := [.tmp 4]) rfl rfl rfl ?_
  unfold subs
  simp -implicitDefEqProofs (maxSteps := 2000000) only [go_sem]
  refine awp_loop Nat (fun k => mkSt [(0, .one (.im 1 (ints b))), (1, .one (.im 1 (ints a))), (5, .sc (.int .i64 k))] [] [] 1000)
    (fun k => k ≤ a.length ∧ upTo (subAt a b) k = true) (fun k => a.length - k) 0 ⟨by omega, rfl⟩ (le_st _ _ [] [] _ rfl (by simp -implicitDefEqProofs (maxSteps := 2000000) only [go_sem] <;> rfl) trivial trivial) ?_
  rintro k ⟨h1, h2⟩
  by_cases c1 : k < a.length
  · rcases d : decide (a.getD k 0 ∈ b)
    · rw [upTo_false c1 (by rw [subAt, d])]
      simp -implicitDefEqProofs (maxSteps := 2000000) only [go_sem, c1]
      refine call_of (l7Has_sat b (a.getD k 0) hb) (by simp -implicitDefEqProofs (maxSteps := 2000000) only [go_sem, d]) (by kernel_rfl) (by simp -implicitDefEqProofs (maxSteps := 2000000) only [go_sem, d]) ?_
      simp -implicitDefEqProofs (maxSteps := 2000000) only [go_sem, d]
    · simp -implicitDefEqProofs (maxSteps := 2000000) only [go_sem, c1]
      refine call_of (l7Has_sat b (a.getD k 0) hb) (by simp -implicitDefEqProofs (maxSteps := 2000000) only [go_sem, d]) (by kernel_rfl) (by simp -implicitDefEqProofs (maxSteps := 2000000) only [go_sem, d]) ?_
      simp -implicitDefEqProofs (maxSteps := 2000000) only [go_sem, d]
      rw [i64_succ (by omega)]
      exact ⟨k + 1, ⟨c1, upTo_step h2 (by rw [subAt, d])⟩, by omega, (le_st _ _ [] [] _ rfl (by simp -implicitDefEqProofs (maxSteps := 2000000) only [go_sem] <;> rfl) trivial trivial)⟩
  · obtain rfl : k = a.length := by omega
    simp -implicitDefEqProofs (maxSteps := 2000000) only [go_sem, c1]
    rw [h2]
theorem l14Both_sat (a b : List Int) (ha : a.length ≤ 9223372036854775807) (hb : b.length ≤ 9223372036854775807) : Sat Try.prog 55 [lInts a, lInts b] [oInts (selN (fun v => decide (v ∈ a) || decide (v ∈ b)) 4)] [g1, g1] := by
  refine sat_of_body mixed Try.func55 rfl (by kernel_rfl) (by kernel_rfl) (rs := [.tmp 4]) rfl rfl rfl ?_
  generalize hp : (fun v => decide (v ∈ a) || decide (v ∈ b)) = p
  simp -implicitDefEqProofs (maxSteps := 2000000) only [go_sem]
  refine awp_loop Nat (fun k => mkSt [(0, .one (.im 1 (ints a))), (1, .one (.im 1 (ints b))), (5, .one (.ref 960 1 0 (selN p k).length)), (6, .sc (.int .i64 k))] [] [(960, (1, ints (selN p k)))] 2000)
    (fun k => k ≤ 4) (fun k => 4 - k) 0 (by omega) (le_st' _ _ [⟨960, some _, false, 1, _⟩] [] _ (by simp -implicitDefEqProofs (maxSteps := 2000000) only [go_sem] <;> and_intros <;> rfl) (by simp -implicitDefEqProofs (maxSteps := 2000000) only [go_sem] <;> and_intros <;> rfl) (by simp -implicitDefEqProofs (maxSteps := 2000000) only [go_sem] <;> and_intros <;> rfl) (by rfl)) ?_
  rintro k h1
  have hl := selN_len p k
  by_cases c1 : k < 4
  · have c3 : (k : Int) < 4 := by omega
    simp -implicitDefEqProofs (maxSteps := 2000000) only [go_sem, c3]
    rcases d1 : decide ((k : Int) ∈ a)
    · rcases d2 : decide ((k : Int) ∈ b)
      · refine call_of (l7Has_sat a k ha) (by simp -implicitDefEqProofs (maxSteps := 2000000) only [go_sem, c3, d1]) (by kernel_rfl) (by simp -implicitDefEqProofs (maxSteps := 2000000) only [go_sem, c3, d1]) ?_
        simp -implicitDefEqProofs (maxSteps := 2000000) only [go_sem, c3, d1]
        refine call_of (l7Has_sat b k hb) (by simp -implicitDefEqProofs (maxSteps := 2000000) only [go_sem, c3, d2]) (by kernel_rfl) (by simp -implicitDefEqProofs (maxSteps := 2000000) only [go_sem, c3, d2]) ?_
        simp -implicitDefEqProofs (maxSteps := 2000000) only [go_sem, c3, d2]
        rw [i64_succ (by omega)]
        refine ⟨k + 1, by omega, by omega, ?_⟩
        rw [selN_no (by rw [← hp]; show (decide ((k : Int) ∈ a) || decide ((k : Int) ∈ b)) = false; rw [d1, d2]; rfl)]
        exact (le_st' _ _ [⟨960, some _, false, 1, _⟩] [] _ (by simp -implicitDefEqProofs (maxSteps := 2000000) only [go_sem] <;> and_intros <;> rfl) (by simp -implicitDefEqProofs (maxSteps := 2000000) only [go_sem] <;> and_intros <;> rfl) (by simp -implicitDefEqProofs (maxSteps := 2000000) only [go_sem] <;> and_intros <;> rfl) (by rfl))
      · refine call_of (l7Has_sat a k ha) (by simp -implicitDefEqProofs (maxSteps := 2000000) only [go_sem, c3, d1]) (by kernel_rfl) (by simp -implicitDefEqProofs (maxSteps := 2000000) only [go_sem, c3, d1]) ?_
        simp -implicitDefEqProofs (maxSteps := 2000000) only [go_sem, c3, d1]
        refine call_of (l7Has_sat b k hb) (by simp -implicitDefEqProofs (maxSteps := 2000000) only [go_sem, c3, d2]) (by kernel_rfl) (by simp -implicitDefEqProofs (maxSteps := 2000000) only [go_sem, c3, d2]) ?_
        simp -implicitDefEqProofs (maxSteps := 2000000) only [go_sem, c3, d2]
        refine ⟨by omega, ?_⟩
        rw [i64_succ (by omega)]
        refine ⟨k + 1, by omega, by omega, ?_⟩
        rw [selN_yes (by rw [← hp]; show (decide ((k : Int) ∈ a) || decide ((k : Int) ∈ b)) = true; rw [d1, d2]; rfl)]
        exact (le_st' _ _ [⟨960, some _, false, 1, _⟩] [] _ (by simp -implicitDefEqProofs (maxSteps := 2000000) only [go_sem] <;> and_intros <;> rfl) (by simp -implicitDefEqProofs (maxSteps := 2000000) only [go_sem] <;> and_intros <;> rfl) (by simp -implicitDefEqProofs (maxSteps := 2000000) only [go_sem] <;> and_intros <;> rfl) (by rfl))
    · refine call_of (l7Has_sat a k ha) (by simp -implicitDefEqProofs (maxSteps := 2000000) only [go_sem, c3, d1]) (by kernel_rfl) (by simp -implicitDefEqProofs (maxSteps := 2000000) only [go_sem, c3, d1]) ?_
      simp -implicitDefEqProofs (maxSteps := 2000000) only [go_sem, c3, d1]
      refine ⟨by omega, ?_⟩
      rw [i64_succ (by omega)]
      refine ⟨k + 1, by omega, by omega, ?_⟩
      rw [selN_yes (by rw [← hp]; show (decide ((k : Int) ∈ a) || decide ((k : Int) ∈ b)) = true; rw [d1]; rfl)]
      exact (le_st' _ _ [⟨960, some _, false, 1, _⟩] [] _ (by simp -implicitDefEqProofs (maxSteps := 2000000) only [go_sem] <;> and_intros <;> rfl) (by simp -implicitDefEqProofs (maxSteps := 2000000) only [go_sem] <;> and_intros <;> rfl) (by simp -implicitDefEqProofs (maxSteps := 2000000) only [go_sem] <;> and_intros <;> rfl) (by rfl))
  · have c3 : ¬ (k : Int) < 4 := by omega
    simp -implicitDefEqProofs (maxSteps := 2000000) only [go_sem, c3]
    obtain rfl : k = 4 := by omega
    first | done | rfl | exact ⟨rfl, rfl⟩ | exact ⟨rfl, rfl, rfl⟩ | (refine tr_and ?_ ?_ <;> first | rfl | exact ⟨rfl, rfl⟩ | kernel_rfl)
theorem both_uni {c v : List Int} (h : Small c) : selN (fun x => decide (x ∈ c) || decide (x ∈ varsOf v)) 4 = uni c (varsOf v) := by
  refine strict_eq (selN_strict _ _) (uni_strict _ _) fun x => ?_
  rw [selN_mem, uni_mem]
  simp only [Bool.or_eq_true, decide_eq_true_eq]
  refine ⟨fun h => h.2.2, fun k => ⟨?_, ?_, k⟩⟩
  · exact k.elim (fun k => (h.small x k).1) (fun k => (varsOf_small v x k).1)
  · exact k.elim (fun k => (h.small x k).2) (fun k => (varsOf_small v x k).2)

/-! #### the closure -/
def closS (l : List Rel) (ats : List RI) (skip : Int) (k : Nat) (c : List Int) (same : Bool) (L : List Int) : St := match same with
  | true => mkSt [(0, .one (.im 3 (rels l))), (1, .one (.im 2 (ris 0 ats))), (2, .sc (.int .i64 skip)), (9, .one (.ref 960 1 0 c.length)), (10, .one (.ref 960 1 0 c.length)), (16, .one (.im 2 (ris 0 ats))), (17, .sc (.int .i64 ats.length)), (18, .sc (.int .i64 k))] [] [(960, (1, ints c))] 8000
  | false => mkSt [(0, .one (.im 3 (rels l))), (1, .one (.im 2 (ris 0 ats))), (2, .sc (.int .i64 skip)), (9, .one (.ref 960 1 0 c.length)), (10, .one (.ref 961 1 0 L.length)), (16, .one (.im 2 (ris 0 ats))), (17, .sc (.int .i64 ats.length)), (18, .sc (.int .i64 k))] [] [(960, (1, ints c)), (961, (1, ints L))] 8000
/-- What a closure comes to. -/
def clos (l : List Rel) (ats : List RI) (skip : Int) (c : List Int) : List Int := iter l ats skip ats.length c ats.length
theorem closure_sat (l : List Rel) (ats : List RI) (skip : Int) (vs : List Int) (hl : l.length ≤ 9223372036854775807) (ha : ats.length ≤ 1048576) (hx : ∀ x ∈ ats, x.ok) (hv : vs.length ≤ 4194304) (hs : Small (uni vs [])) :
    Sat Try.prog 69 [lRels l, lRIs ats, lInt skip, lInts vs] [oInts (clos l ats skip (uni vs []))] [g1, g1, g1, g1] := by
  refine sat_of_body mixed Try.func69 rfl (by kernel_rfl) (by kernel_rfl) (rs := [.tmp 8]) rfl rfl rfl ?_
  generalize hc0 : uni vs [] = c0 at hs ⊢
  simp -implicitDefEqProofs (maxSteps := 2000000) only [go_sem]
  refine call_of (union_sat vs [] (by simp; omega)) (by simp -implicitDefEqProofs (maxSteps := 2000000) only [go_sem, ints_nil, hc0]) (callOk_still (by kernel_rfl) (by simp only [List.all_cons, List.all_nil, LV.still, LV.leaves, Leaf.still, ints_still, ris_still, eds_still, rels_still, iss_still, Bool.and_self, Bool.and_true])) (by simp -implicitDefEqProofs (maxSteps := 2000000) only [go_sem, ints_nil, hc0]) ?_
  simp -implicitDefEqProofs (maxSteps := 2000000) only [go_sem, ints_nil, hc0]
  refine awp_loop Nat (fun j => mkSt [(0, .one (.im 3 (rels l))), (1, .one (.im 2 (ris 0 ats))), (2, .sc (.int .i64 skip)), (9, .one (.ref 960 1 0 (iter l ats skip ats.length c0 j).length))] [] [(960, (1, ints (iter l ats skip ats.length c0 j)))] 4000)
    (fun j => j ≤ 4 ∧ j ≤ (iter l ats skip ats.length c0 j).length) (fun j => 4 - j) 0 ⟨by omega, by omega⟩ (le_st' _ _ [⟨960, some _, false, 1, _⟩] [] _ (by simp -implicitDefEqProofs (maxSteps := 2000000) only [go_sem, hc0] <;> and_intros <;> rfl) (by simp -implicitDefEqProofs (maxSteps := 2000000) only [go_sem, hc0] <;> and_intros <;> rfl) (by simp -implicitDefEqProofs (maxSteps := 2000000) only [go_sem, hc0] <;> and_intros <;> rfl) (by rfl)) ?_
  rintro j ⟨h1, h2⟩
  have sm := iter_small (l := l) (ats := ats) (skip := skip) (n := ats.length) hs (m := j)
  generalize hc : iter l ats skip ats.length c0 j = c at h2 sm ⊢
  have hcl := sm.len
  simp -implicitDefEqProofs (maxSteps := 2000000) only [go_sem]
  refine awp_loop (Nat × Bool × List Int) (fun x => closS l ats skip x.1 c x.2.1 x.2.2)
    (fun x => x.1 ≤ ats.length ∧ x.2.2 = passA l ats skip c x.1 ∧ (x.2.1 = true → x.2.2 = c)) (fun x => ats.length - x.1) (0, true, c) ⟨by simp, rfl, fun _ => rfl⟩ (le_st' _ _ [⟨960, some _, false, 1, _⟩] [] _ (by simp -implicitDefEqProofs (maxSteps := 2000000) only [go_sem] <;> and_intros <;> rfl) (by simp -implicitDefEqProofs (maxSteps := 2000000) only [go_sem] <;> and_intros <;> rfl) (by simp -implicitDefEqProofs (maxSteps := 2000000) only [go_sem] <;> and_intros <;> rfl) (by rfl)) ?_
  rintro ⟨k, same, L⟩ ⟨h3, h4, h5⟩
  simp only at h3 h4 h5
  have smL : Small L := by rw [h4]; exact passA_small sm
  have hLl := smL.len
  by_cases c1 : k < ats.length
  · have hok := hx _ (mem_getD default c1)
    have hkl := keyVars_len l (ats.getD k default)
    have hvl := varsOf_len (ats.getD k default).l
    have wi : IntKind.i64.wrap ((k : Int) + 1) = ((k + 1 : Nat) : Int) := i64_succ (by omega)
    rcases d1 : ((k : Int) != skip)
    · have e : passA l ats skip c (k + 1) = L := by rw [passA, ← h4, fire, d1]; rfl
      cases same with
      | true =>
        dsimp only [closS]
        simp -implicitDefEqProofs (maxSteps := 2000000) only [go_sem, c1, d1, wi]
        exact ⟨(k + 1, true, L), ⟨c1, e.symm, fun _ => h5 rfl⟩, by simp; omega, (le_st' _ _ [⟨960, some _, false, 1, _⟩] [] _ (by simp -implicitDefEqProofs (maxSteps := 2000000) only [go_sem] <;> and_intros <;> rfl) (by simp -implicitDefEqProofs (maxSteps := 2000000) only [go_sem] <;> and_intros <;> rfl) (by simp -implicitDefEqProofs (maxSteps := 2000000) only [go_sem] <;> and_intros <;> rfl) (by rfl))⟩
      | false =>
        dsimp only [closS]
        simp -implicitDefEqProofs (maxSteps := 2000000) only [go_sem, c1, d1, wi]
        exact ⟨(k + 1, false, L), ⟨c1, e.symm, fun h => by cases h⟩, by simp; omega, (le_st' _ _ [⟨960, some _, false, 1, _⟩, ⟨961, some _, false, 1, _⟩] [] _ (by simp -implicitDefEqProofs (maxSteps := 2000000) only [go_sem] <;> and_intros <;> rfl) (by simp -implicitDefEqProofs (maxSteps := 2000000) only [go_sem] <;> and_intros <;> rfl) (by simp -implicitDefEqProofs (maxSteps := 2000000) only [go_sem] <;> and_intros <;> rfl) (by rfl))⟩
    rcases d2 : subs (keyVars l (ats.getD k default)) L
    · have e : passA l ats skip c (k + 1) = L := by rw [passA, ← h4, fire, d1, d2]; rfl
      cases same with
      | true =>
        have hLc := h5 rfl
        rw [hLc] at d2
        dsimp only [closS]
        simp -implicitDefEqProofs (maxSteps := 2000000) only [go_sem, c1, d1]
        refine call_of (implKeyVariables_sat l (ats.getD k default) hl hok) (by simp -implicitDefEqProofs (maxSteps := 2000000) only [go_sem, c1]) (callOk_still (by kernel_rfl) (by simp only [List.all_cons, List.all_nil, LV.still, LV.leaves, Leaf.still, ints_still, ris_still, eds_still, rels_still, iss_still, Bool.and_self, Bool.and_true])) (by simp -implicitDefEqProofs (maxSteps := 2000000) only [go_sem, c1]) ?_
        simp -implicitDefEqProofs (maxSteps := 2000000) only [go_sem, c1]
        refine call_of (isSubset_sat (keyVars l (ats.getD k default)) c (by omega) (by omega)) (by simp -implicitDefEqProofs (maxSteps := 2000000) only [go_sem, d2]) (by kernel_rfl) (by simp -implicitDefEqProofs (maxSteps := 2000000) only [go_sem, d2]) ?_
        simp -implicitDefEqProofs (maxSteps := 2000000) only [go_sem, d2]
        rw [wi]
        exact ⟨(k + 1, true, L), ⟨c1, e.symm, fun _ => h5 rfl⟩, by simp; omega, (le_st' _ _ [⟨960, some _, false, 1, _⟩] [] _ (by simp -implicitDefEqProofs (maxSteps := 2000000) only [go_sem] <;> and_intros <;> rfl) (by simp -implicitDefEqProofs (maxSteps := 2000000) only [go_sem] <;> and_intros <;> rfl) (by simp -implicitDefEqProofs (maxSteps := 2000000) only [go_sem] <;> and_intros <;> rfl) (by rfl))⟩
      | false =>
        dsimp only [closS]
        simp -implicitDefEqProofs (maxSteps := 2000000) only [go_sem, c1, d1]
        refine call_of (implKeyVariables_sat l (ats.getD k default) hl hok) (by simp -implicitDefEqProofs (maxSteps := 2000000) only [go_sem, c1]) (callOk_still (by kernel_rfl) (by simp only [List.all_cons, List.all_nil, LV.still, LV.leaves, Leaf.still, ints_still, ris_still, eds_still, rels_still, iss_still, Bool.and_self, Bool.and_true])) (by simp -implicitDefEqProofs (maxSteps := 2000000) only [go_sem, c1]) ?_
        simp -implicitDefEqProofs (maxSteps := 2000000) only [go_sem, c1]
        refine call_of (isSubset_sat (keyVars l (ats.getD k default)) L (by omega) (by omega)) (by simp -implicitDefEqProofs (maxSteps := 2000000) only [go_sem, d2]) (by kernel_rfl) (by simp -implicitDefEqProofs (maxSteps := 2000000) only [go_sem, d2]) ?_
        simp -implicitDefEqProofs (maxSteps := 2000000) only [go_sem, d2]
        rw [wi]
        exact ⟨(k + 1, false, L), ⟨c1, e.symm, fun h => by cases h⟩, by simp; omega, (le_st' _ _ [⟨960, some _, false, 1, _⟩, ⟨961, some _, false, 1, _⟩] [] _ (by simp -implicitDefEqProofs (maxSteps := 2000000) only [go_sem] <;> and_intros <;> rfl) (by simp -implicitDefEqProofs (maxSteps := 2000000) only [go_sem] <;> and_intros <;> rfl) (by simp -implicitDefEqProofs (maxSteps := 2000000) only [go_sem] <;> and_intros <;> rfl) (by rfl))⟩
    · have e : passA l ats skip c (k + 1) = uni L (varsOf (ats.getD k default).l) := by rw [passA, ← h4, fire, d1, d2]; rfl
      cases same with
      | true =>
        have hLc := h5 rfl
        rw [hLc] at d2 e
        dsimp only [closS]
        simp -implicitDefEqProofs (maxSteps := 2000000) only [go_sem, c1, d1]
        refine call_of (implKeyVariables_sat l (ats.getD k default) hl hok) (by simp -implicitDefEqProofs (maxSteps := 2000000) only [go_sem, c1]) (callOk_still (by kernel_rfl) (by simp only [List.all_cons, List.all_nil, LV.still, LV.leaves, Leaf.still, ints_still, ris_still, eds_still, rels_still, iss_still, Bool.and_self, Bool.and_true])) (by simp -implicitDefEqProofs (maxSteps := 2000000) only [go_sem, c1]) ?_
        simp -implicitDefEqProofs (maxSteps := 2000000) only [go_sem, c1]
        refine call_of (isSubset_sat (keyVars l (ats.getD k default)) c (by omega) (by omega)) (by simp -implicitDefEqProofs (maxSteps := 2000000) only [go_sem, d2]) (by kernel_rfl) (by simp -implicitDefEqProofs (maxSteps := 2000000) only [go_sem, d2]) ?_
        simp -implicitDefEqProofs (maxSteps := 2000000) only [go_sem, d2]
        refine call_of (implAtomVariables_sat (ats.getD k default) hok) (by simp -implicitDefEqProofs (maxSteps := 2000000) only [go_sem]) (callOk_still (by kernel_rfl) (by simp only [List.all_cons, List.all_nil, LV.still, LV.leaves, Leaf.still, ints_still, ris_still, eds_still, rels_still, iss_still, Bool.and_self, Bool.and_true])) (by simp -implicitDefEqProofs (maxSteps := 2000000) only [go_sem]) ?_
        simp -implicitDefEqProofs (maxSteps := 2000000) only [go_sem]
        refine call_of (union_sat c (varsOf (ats.getD k default).l) (by omega)) (by simp -implicitDefEqProofs (maxSteps := 2000000) only [go_sem]) (callOk_still (by kernel_rfl) (by simp only [List.all_cons, List.all_nil, LV.still, LV.leaves, Leaf.still, ints_still, ris_still, eds_still, rels_still, iss_still, Bool.and_self, Bool.and_true])) (by simp -implicitDefEqProofs (maxSteps := 2000000) only [go_sem]) ?_
        simp -implicitDefEqProofs (maxSteps := 2000000) only [go_sem]
        rw [wi]
        exact ⟨(k + 1, false, uni c (varsOf (ats.getD k default).l)), ⟨c1, e.symm, fun h => by cases h⟩, by simp; omega, (le_st' _ _ [⟨960, some _, false, 1, _⟩, ⟨961, some _, false, 1, _⟩] [] _ (by simp -implicitDefEqProofs (maxSteps := 2000000) only [go_sem] <;> and_intros <;> rfl) (by simp -implicitDefEqProofs (maxSteps := 2000000) only [go_sem] <;> and_intros <;> rfl) (by simp -implicitDefEqProofs (maxSteps := 2000000) only [go_sem] <;> and_intros <;> rfl) (by rfl))⟩
      | false =>
        dsimp only [closS]
        simp -implicitDefEqProofs (maxSteps := 2000000) only [go_sem, c1, d1]
        refine call_of (implKeyVariables_sat l (ats.getD k default) hl hok) (by simp -implicitDefEqProofs (maxSteps := 2000000) only [go_sem, c1]) (callOk_still (by kernel_rfl) (by simp only [List.all_cons, List.all_nil, LV.still, LV.leaves, Leaf.still, ints_still, ris_still, eds_still, rels_still, iss_still, Bool.and_self, Bool.and_true])) (by simp -implicitDefEqProofs (maxSteps := 2000000) only [go_sem, c1]) ?_
        simp -implicitDefEqProofs (maxSteps := 2000000) only [go_sem, c1]
        refine call_of (isSubset_sat (keyVars l (ats.getD k default)) L (by omega) (by omega)) (by simp -implicitDefEqProofs (maxSteps := 2000000) only [go_sem, d2]) (by kernel_rfl) (by simp -implicitDefEqProofs (maxSteps := 2000000) only [go_sem, d2]) ?_
        simp -implicitDefEqProofs (maxSteps := 2000000) only [go_sem, d2]
        refine call_of (implAtomVariables_sat (ats.getD k default) hok) (by simp -implicitDefEqProofs (maxSteps := 2000000) only [go_sem]) (callOk_still (by kernel_rfl) (by simp only [List.all_cons, List.all_nil, LV.still, LV.leaves, Leaf.still, ints_still, ris_still, eds_still, rels_still, iss_still, Bool.and_self, Bool.and_true])) (by simp -implicitDefEqProofs (maxSteps := 2000000) only [go_sem]) ?_
        simp -implicitDefEqProofs (maxSteps := 2000000) only [go_sem]
        refine call_of (union_sat L (varsOf (ats.getD k default).l) (by omega)) (by simp -implicitDefEqProofs (maxSteps := 2000000) only [go_sem]) (callOk_still (by kernel_rfl) (by simp only [List.all_cons, List.all_nil, LV.still, LV.leaves, Leaf.still, ints_still, ris_still, eds_still, rels_still, iss_still, Bool.and_self, Bool.and_true])) (by simp -implicitDefEqProofs (maxSteps := 2000000) only [go_sem]) ?_
        simp -implicitDefEqProofs (maxSteps := 2000000) only [go_sem]
        rw [wi]
        exact ⟨(k + 1, false, uni L (varsOf (ats.getD k default).l)), ⟨c1, e.symm, fun h => by cases h⟩, by simp; omega, (le_st' _ _ [⟨960, some _, false, 1, _⟩, ⟨961, some _, false, 1, _⟩] [] _ (by simp -implicitDefEqProofs (maxSteps := 2000000) only [go_sem] <;> and_intros <;> rfl) (by simp -implicitDefEqProofs (maxSteps := 2000000) only [go_sem] <;> and_intros <;> rfl) (by simp -implicitDefEqProofs (maxSteps := 2000000) only [go_sem] <;> and_intros <;> rfl) (by rfl))⟩
  obtain rfl : k = ats.length := by omega
  have fin : L = c → clos l ats skip c0 = c := fun e => by
    have e2 : iter l ats skip ats.length c0 (j + 1) = iter l ats skip ats.length c0 j := by
      show passA l ats skip (iter l ats skip ats.length c0 j) ats.length = _
      rw [hc, ← h4, e]
    rw [clos, ← iter_done hs e2, hc]
  cases same with
  | true =>
    rw [fin (h5 rfl)]
    dsimp only [closS]
    simp -implicitDefEqProofs (maxSteps := 2000000) only [go_sem, c1]
    first | done | rfl | exact ⟨rfl, rfl⟩ | exact ⟨rfl, rfl, rfl⟩ | (refine tr_and ?_ ?_ <;> first | rfl | exact ⟨rfl, rfl⟩ | kernel_rfl)
  | false =>
    dsimp only [closS]
    have hsub := strict_sub_len sm.strict smL.strict fun x hx => by rw [h4]; exact passA_sub x hx
    rcases d3 : ((L.length : Int) == c.length)
    · have hne : (L.length : Int) ≠ c.length := by simpa using d3
      simp -implicitDefEqProofs (maxSteps := 2000000) only [go_sem, c1, d3]
      refine ⟨j + 1, ⟨by omega, ?_⟩, by omega, ?_⟩
      · rw [show iter l ats skip ats.length c0 (j + 1) = L by rw [h4, ← hc]; rfl]; omega
      · rw [show iter l ats skip ats.length c0 (j + 1) = L by rw [h4, ← hc]; rfl]
        exact (le_st' _ _ [⟨960, some _, false, 1, _⟩] [] _ (by simp -implicitDefEqProofs (maxSteps := 2000000) only [go_sem] <;> and_intros <;> rfl) (by simp -implicitDefEqProofs (maxSteps := 2000000) only [go_sem] <;> and_intros <;> rfl) (by simp -implicitDefEqProofs (maxSteps := 2000000) only [go_sem] <;> and_intros <;> rfl) (by rfl))
    · have he : L = c := (hsub.2 (by have := eq_of_beq d3; omega)).symm
      rw [fin he]
      simp -implicitDefEqProofs (maxSteps := 2000000) only [go_sem, c1, d3]
      first | done | rfl | exact ⟨rfl, rfl⟩ | exact ⟨rfl, rfl, rfl⟩ | (refine tr_and ?_ ?_ <;> first | rfl | exact ⟨rfl, rfl⟩ | kernel_rfl)
end Go.Proofs.Ytoinfljgjdmooaa.A
