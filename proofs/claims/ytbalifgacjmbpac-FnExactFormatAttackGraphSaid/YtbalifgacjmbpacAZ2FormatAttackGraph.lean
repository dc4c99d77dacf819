/- Packed by pack.py: FCl2 FCl3 FAt FKy FAt2 FAt3 FAt4 FJoin F2 FEmD FW FQF FEm1 -/
import Derived.Test.YtbalifgacjmbpacAZ1FormatAttackGraph
import Derived.Test.YtbalifgacjmbpacA45

/- CLOSURES: the two programs. Conditions: none. -/
namespace Go.Proofs.Ytbalifgacjmbpac.A
open Go
set_option linter.unusedSimpArgs false
set_option linter.unusedVariables false
set_option maxRecDepth 100000

/-! #### a predicate of numbers, asked of all numbers of a list -/
theorem intsIndex_sat (f : FuncId) (c : List Fld) (p : Int → Bool) (l : List Int) (h : l.length ≤ 9223372036854775807) (hf : ∀ x, Sat Try.prog f [lInt x, .one (.ip c)] [lBool (!p x)] [g1, g1]) :
    Sat Try.prog 89 [lInts l, .one (.fn f [c])] [lInt (firstNo (fun i => p (l.getD i 0)) l.length 0)] [g1, g1] := by
  refine sat_of_body mixed Try.func89 rfl (by kernel_rfl) (by kernel_rfl) (rs := [.tmp 4]) rfl rfl rfl ?_
  generalize hp : (fun i => p (l.getD i 0)) = p'
  have hp' : ∀ i, p' i = p (l.getD i 0) := fun i => by rw [← hp]
  simp -implicitDefEqProofs (maxSteps := 2000000) only [go_sem]
  refine awp_loop Nat (fun k => mkSt [(0, .one (.im 1 (ints l))), (1, .one (.fni f [c])), (7, .sc (.int .i64 l.length)), (8, .sc (.int .i64 k))] [] [] 1000)
    (fun k => k ≤ l.length ∧ firstNo p' (l.length - k) k = firstNo p' l.length 0) (fun k => l.length - k) 0 ⟨by omega, rfl⟩ (le_st _ _ [] [] _ rfl (by simp -implicitDefEqProofs (maxSteps := 2000000) only [go_sem] <;> rfl) trivial trivial) ?_
  rintro k ⟨h1, h2⟩
  by_cases c1 : k < l.length
  · rw [show l.length - k = (l.length - (k + 1)) + 1 by omega, firstNo, hp'] at h2
    rcases d : p (l.getD k 0)
    · rw [if_neg (by rw [d]; simp)] at h2
      simp -implicitDefEqProofs (maxSteps := 2000000) only [go_sem, c1]
      refine call_of (hf (l.getD k 0)) (by simp -implicitDefEqProofs (maxSteps := 2000000) only [go_sem, d, c1]) (by kernel_rfl) (by simp -implicitDefEqProofs (maxSteps := 2000000) only [go_sem, d, c1]) ?_
      simp -implicitDefEqProofs (maxSteps := 2000000) only [go_sem, d, c1]
      rw [← h2]
    · rw [if_pos d] at h2
      simp -implicitDefEqProofs (maxSteps := 2000000) only [go_sem, c1]
      refine call_of (hf (l.getD k 0)) (by simp -implicitDefEqProofs (maxSteps := 2000000) only [go_sem, d, c1]) (by kernel_rfl) (by simp -implicitDefEqProofs (maxSteps := 2000000) only [go_sem, d, c1]) ?_
      simp -implicitDefEqProofs (maxSteps := 2000000) only [go_sem, d, c1]
      rw [i64_succ (by omega)]
      exact ⟨k + 1, ⟨c1, h2⟩, by omega, (le_st _ _ [] [] _ rfl (by simp -implicitDefEqProofs (maxSteps := 2000000) only [go_sem] <;> rfl) trivial trivial)⟩
  · obtain rfl : k = l.length := by omega
    rw [Nat.sub_self, firstNo] at h2
    simp -implicitDefEqProofs (maxSteps := 2000000) only [go_sem, c1]
    rw [← h2]
theorem intsContains_sat (f : FuncId) (c : List Fld) (p : Int → Bool) (l : List Int) (h : l.length ≤ 9223372036854775807) (hf : ∀ x, Sat Try.prog f [lInt x, .one (.ip c)] [lBool (!p x)] [g1, g1]) :
    Sat Try.prog 72 [lInts l, .one (.fn f [c])] [lBool (!upTo (fun i => p (l.getD i 0)) l.length)] [g1, g1] := by
  refine sat_of_body mixed Try.func72 rfl (by kernel_rfl) (by kernel_rfl) (rs := [.tmp 4]) rfl rfl rfl ?_
  simp -implicitDefEqProofs (maxSteps := 2000000) only [go_sem]
  refine call_of (intsIndex_sat f c p l h hf) (by simp -implicitDefEqProofs (maxSteps := 2000000) only [go_sem]) (by kernel_rfl) (by simp -implicitDefEqProofs (maxSteps := 2000000) only [go_sem]) ?_
  simp -implicitDefEqProofs (maxSteps := 2000000) only [go_sem]
  rw [firstNo_ge _ _ _ rfl, Nat.zero_add]
theorem isSubset1_sat (b : List Int) (h : b.length ≤ 9223372036854775807) (x : Int) : Sat Try.prog 73 [lInt x, .one (.ip [.im 1 (ints b)])] [lBool (!decide (x ∈ b))] [g1, g1] := by
  refine sat_of_body mixed Try.func73 rfl (by kernel_rfl) (by kernel_rfl) (rs := [.tmp 3]) rfl rfl rfl ?_
  simp -implicitDefEqProofs (maxSteps := 2000000) only [go_sem]
  refine call_of (slicesContains_sat b x h) (by simp -implicitDefEqProofs (maxSteps := 2000000) only [go_sem]) (by kernel_rfl) (by simp -implicitDefEqProofs (maxSteps := 2000000) only [go_sem]) ?_
  simp -implicitDefEqProofs (maxSteps := 2000000) only [go_sem]
theorem isSubset_sat (a b : List Int) (ha : a.length ≤ 9223372036854775807) (hb : b.length ≤ 9223372036854775807) : Sat Try.prog 63 [lInts a, lInts b] [lBool (subs a b)] [g1, g1] := by
  refine sat_of_body mixed Try.func63 rfl (by kernel_rfl) (by kernel_rfl) (rs := [.tmp 4]) rfl rfl rfl ?_
  simp -implicitDefEqProofs (maxSteps := 2000000) only [go_sem]
  refine call_of (intsContains_sat 73 [.im 1 (ints b)] (fun x => decide (x ∈ b)) a ha (isSubset1_sat b hb)) (by simp -implicitDefEqProofs (maxSteps := 2000000) only [go_sem]) (by kernel_rfl) (by simp -implicitDefEqProofs (maxSteps := 2000000) only [go_sem]) ?_
  simp -implicitDefEqProofs (maxSteps := 2000000) only [go_sem]
  rw [Bool.not_not]
  rfl
theorem l14Has_sat (b a : List Int) (hb : b.length ≤ 9223372036854775807) (ha : a.length ≤ 9223372036854775807) : Sat Try.prog 54 [lInts b, lInts a] [lBool (subs a b)] [g1, g1] := by
  refine sat_of_body mixed Try.func54 rfl (by kernel_rfl) (by kernel_rfl) (rs := [.tmp 4]) rfl rfl rfl ?_
  unfold subs
  simp -implicitDefEqProofs (maxSteps := 2000000) only [go_sem]
  refine awp_loop Nat (fun k => mkSt [(0, .one (.im 1 (ints b))), (1, .one (.im 1 (ints a))), (5, .sc (.int .i64 k))] [] [] 1000)
    (fun k => k ≤ a.length ∧ upTo (subAt a b) k = true) (fun k => a.length - k) 0 ⟨by omega, rfl⟩ (le_st _ _ [] [] _ rfl (by simp -implicitDefEqProofs (maxSteps := 2000000) only [go_sem] <;> rfl) trivial trivial) ?_
  rintro k ⟨h1, h2⟩
  by_cases c1 : k < a.length
  · rcases d : decide (a.getD k 0 ∈ b)
    · rw [upTo_false c1 (by rw [subAt, d])]
      simp -implicitDefEqProofs (maxSteps := 2000000) only [go_sem, c1]
      refine call_of (l7Has_sat b (a.getD k 0) hb) (by simp -implicitDefEqProofs (maxSteps := 2000000) only [go_sem, d]) (by kernel_rfl) (by simp -implicitDefEqProofs (maxSteps := 2000000) only [go_sem, d]) ?_
      simp -implicitDefEqProofs (maxSteps := 2000000) only [go_sem, d]
    · simp -implicitDefEqProofs (maxSteps := 2000000) only [go_sem, c1]
      refine call_of (l7Has_sat b (a.getD k 0) hb) (by simp -implicitDefEqProofs (maxSteps := 2000000) only [go_sem, d]) (by kernel_rfl) (by simp -implicitDefEqProofs (maxSteps := 2000000) only [go_sem, d]) ?_
      simp -implicitDefEqProofs (maxSteps := 2000000) only [go_sem, d]
      rw [i64_succ (by omega)]
      exact ⟨k + 1, ⟨c1, upTo_step h2 (by rw [subAt, d])⟩, by omega, (le_st _ _ [] [] _ rfl (by simp -implicitDefEqProofs (maxSteps := 2000000) only [go_sem] <;> rfl) trivial trivial)⟩
  · obtain rfl : k = a.length := by omega
    simp -implicitDefEqProofs (maxSteps := 2000000) only [go_sem, c1]
    rw [h2]
theorem l14Both_sat (a b : List Int) (ha : a.length ≤ 9223372036854775807) (hb : b.length ≤ 9223372036854775807) : Sat Try.prog 53 [lInts a, lInts b] [oInts (selN (fun v => decide (v ∈ a) || decide (v ∈ b)) 4)] [g1, g1] := by
  refine sat_of_body mixed Try.func53 rfl (by kernel_rfl) (by kernel_rfl) (rs := [.tmp 4]) rfl rfl rfl ?_
  generalize hp : (fun v => decide (v ∈ a) || decide (v ∈ b)) = p
  simp -implicitDefEqProofs (maxSteps := 2000000) only [go_sem]
  refine awp_loop Nat (fun k => mkSt [(0, .one (.im 1 (ints a))), (1, .one (.im 1 (ints b))), (5, .one (.ref 960 1 0 (selN p k).length)), (6, .sc (.int .i64 k))] [] [(960, (1, ints (selN p k)))] 2000)
    (fun k => k ≤ 4) (fun k => 4 - k) 0 (by omega) (le_st' _ _ [⟨960, some _, false, 1, _⟩] [] _ (by simp -implicitDefEqProofs (maxSteps := 2000000) only [go_sem] <;> and_intros <;> rfl) (by simp -implicitDefEqProofs (maxSteps := 2000000) only [go_sem] <;> and_intros <;> rfl) (by simp -implicitDefEqProofs (maxSteps := 2000000) only [go_sem] <;> and_intros <;> rfl) (by rfl)) ?_
  rintro k h1
  have hl := selN_len p k
  by_cases c1 : k < 4
  · have c3 : (k : Int) < 4 := by omega
    simp -implicitDefEqProofs (maxSteps := 2000000) only [go_sem, c3]
    rcases d1 : decide ((k : Int) ∈ a)
    · rcases d2 : decide ((k : Int) ∈ b)
      · refine call_of (l7Has_sat a k ha) (by simp -implicitDefEqProofs (maxSteps := 2000000) only [go_sem, c3, d1]) (by kernel_rfl) (by simp -implicitDefEqProofs (maxSteps := 2000000) only [go_sem, c3, d1]) ?_
        simp -implicitDefEqProofs (maxSteps := 2000000) only [go_sem, c3, d1]
        refine call_of (l7Has_sat b k hb) (by simp -implicitDefEqProofs (maxSteps := 2000000) only [go_sem, c3, d2]) (by kernel_rfl) (by simp -implicitDefEqProofs (maxSteps := 2000000) only [go_sem, c3, d2]) ?_
        simp -implicitDefEqProofs (maxSteps := 2000000) only [go_sem, c3, d2]
        rw [i64_succ (by omega)]
        refine ⟨k + 1, by omega, by omega, ?_⟩
        rw [selN_no (by rw [← hp]; show (decide ((k : Int) ∈ a) || decide ((k : Int) ∈ b)) = false; rw [d1, d2]; rfl)]
        exact (le_st' _ _ [⟨960, some _, false, 1, _⟩] [] _ (by simp -implicitDefEqProofs (maxSteps := 2000000) only [go_sem] <;> and_intros <;> rfl) (by simp -implicitDefEqProofs (maxSteps := 2000000) only [go_sem] <;> and_intros <;> rfl) (by simp -implicitDefEqProofs (maxSteps := 2000000) only [go_sem] <;> and_intros <;> rfl) (by rfl))
      · refine call_of (l7Has_sat a k ha) (by simp -implicitDefEqProofs (maxSteps := 2000000) only [go_sem, c3, d1]) (by kernel_rfl) (by simp -implicitDefEqProofs (maxSteps := 2000000) only [go_sem, c3, d1]) ?_
        simp -implicitDefEqProofs (maxSteps := 2000000) only [go_sem, c3, d1]
        refine call_of (l7Has_sat b k hb) (by simp -implicitDefEqProofs (maxSteps := 2000000) only [go_sem, c3, d2]) (by kernel_rfl) (by simp -implicitDefEqProofs (maxSteps := 2000000) only [go_sem, c3, d2]) ?_
        simp -implicitDefEqProofs (maxSteps := 2000000) only [go_sem, c3, d2]
        refine ⟨by omega, ?_⟩
        rw [i64_succ (by omega)]
        refine ⟨k + 1, by omega, by omega, ?_⟩
        rw [selN_yes (by rw [← hp]; show (decide ((k : Int) ∈ a) || decide ((k : Int) ∈ b)) = true; rw [d1, d2]; rfl)]
        exact (le_st' _ _ [⟨960, some _, false, 1, _⟩] [] _ (by simp -implicitDefEqProofs (maxSteps := 2000000) only [go_sem] <;> and_intros <;> rfl) (by simp -implicitDefEqProofs (maxSteps := 2000000) only [go_sem] <;> and_intros <;> rfl) (by simp -implicitDefEqProofs (maxSteps := 2000000) only [go_sem] <;> and_intros <;> rfl) (by rfl))
    · refine call_of (l7Has_sat a k ha) (by simp -implicitDefEqProofs (maxSteps := 2000000) only [go_sem, c3, d1]) (by kernel_rfl) (by simp -implicitDefEqProofs (maxSteps := 2000000) only [go_sem, c3, d1]) ?_
      simp -implicitDefEqProofs (maxSteps := 2000000) only [go_sem, c3, d1]
      refine ⟨by omega, ?_⟩
      rw [i64_succ (by omega)]
      refine ⟨k + 1, by omega, by omega, ?_⟩
      rw [selN_yes (by rw [← hp]; show (decide ((k : Int) ∈ a) || decide ((k : Int) ∈ b)) = true; rw [d1]; rfl)]
      exact (le_st' _ _ [⟨960, some _, false, 1, _⟩] [] _ (by simp -implicitDefEqProofs (maxSteps := 2000000) only [go_sem] <;> and_intros <;> rfl) (by simp -implicitDefEqProofs (maxSteps := 2000000) only [go_sem] <;> and_intros <;> rfl) (by simp -implicitDefEqProofs (maxSteps := 2000000) only [go_sem] <;> and_intros <;> rfl) (by rfl))
  · have c3 : ¬ (k : Int) < 4 := by omega
    simp -implicitDefEqProofs (maxSteps := 2000000) only [go_sem, c3]
    obtain rfl : k = 4 := by omega
    first | done | rfl | exact ⟨rfl, rfl⟩ | exact ⟨rfl, rfl, rfl⟩ | (refine tr_and ?_ ?_ <;> first | rfl | exact ⟨rfl, rfl⟩ | kernel_rfl)
theorem both_uni {c v : List Int} (h : Small c) : selN (fun x => decide (x ∈ c) || decide (x ∈ varsOf v)) 4 = uni c (varsOf v) := by
  refine strict_eq (selN_strict _ _) (uni_strict _ _) fun x => ?_
  rw [selN_mem, uni_mem]
  simp only [Bool.or_eq_true, decide_eq_true_eq]
  refine ⟨fun h => h.2.2, fun k => ⟨?_, ?_, k⟩⟩
  · exact k.elim (fun k => (h.small x k).1) (fun k => (varsOf_small v x k).1)
  · exact k.elim (fun k => (h.small x k).2) (fun k => (varsOf_small v x k).2)

/-! #### the closure -/
def closS (l : List Rel) (ats : List RI) (skip : Int) (k : Nat) (c : List Int) (same : Bool) (L : List Int) : St := match same with
  | true => mkSt [(0, .one (.im 3 (rels l))), (1, .one (.im 2 (ris 0 ats))), (2, .sc (.int .i64 skip)), (9, .one (.ref 960 1 0 c.length)), (10, .one (.ref 960 1 0 c.length)), (16, .one (.im 2 (ris 0 ats))), (17, .sc (.int .i64 ats.length)), (18, .sc (.int .i64 k))] [] [(960, (1, ints c))] 8000
  | false => mkSt [(0, .one (.im 3 (rels l))), (1, .one (.im 2 (ris 0 ats))), (2, .sc (.int .i64 skip)), (9, .one (.ref 960 1 0 c.length)), (10, .one (.ref 961 1 0 L.length)), (16, .one (.im 2 (ris 0 ats))), (17, .sc (.int .i64 ats.length)), (18, .sc (.int .i64 k))] [] [(960, (1, ints c)), (961, (1, ints L))] 8000
/-- What a closure comes to. -/
def clos (l : List Rel) (ats : List RI) (skip : Int) (c : List Int) : List Int := iter l ats skip ats.length c ats.length
theorem closure_sat (l : List Rel) (ats : List RI) (skip : Int) (vs : List Int) (hl : l.length ≤ 9223372036854775807) (ha : ats.length ≤ 1048576) (hx : ∀ x ∈ ats, x.ok) (hv : vs.length ≤ 4194304) (hs : Small (uni vs [])) :
    Sat Try.prog 71 [lRels l, lRIs ats, lInt skip, lInts vs] [oInts (clos l ats skip (uni vs []))] [g1, g1, g1, g1] := by
  refine sat_of_body mixed Try.func71 rfl (by kernel_rfl) (by kernel_rfl) (rs := [.tmp 8]) rfl rfl rfl ?_
  generalize hc0 : uni vs [] = c0 at hs ⊢
  simp -implicitDefEqProofs (maxSteps := 2000000) only [go_sem]
  refine call_of (union_sat vs [] (by simp; omega)) (by simp -implicitDefEqProofs (maxSteps := 2000000) only [go_sem, ints_nil, hc0]) (callOk_still (by kernel_rfl) (by simp only [List.all_cons, List.all_nil, LV.still, LV.leaves, Leaf.still, ints_still, ris_still, eds_still, rels_still, iss_still, ems_still, Bool.and_self, Bool.and_true])) (by simp -implicitDefEqProofs (maxSteps := 2000000) only [go_sem, ints_nil, hc0]) ?_
  simp -implicitDefEqProofs (maxSteps := 2000000) only [go_sem, ints_nil, hc0]
  refine awp_loop Nat (fun j => mkSt [(0, .one (.im 3 (rels l))), (1, .one (.im 2 (ris 0 ats))), (2, .sc (.int .i64 skip)), (9, .one (.ref 960 1 0 (iter l ats skip ats.length c0 j).length))] [] [(960, (1, ints (iter l ats skip ats.length c0 j)))] 4000)
    (fun j => j ≤ 4 ∧ j ≤ (iter l ats skip ats.length c0 j).length) (fun j => 4 - j) 0 ⟨by omega, by omega⟩ (le_st' _ _ [⟨960, some _, false, 1, _⟩] [] _ (by simp -implicitDefEqProofs (maxSteps := 2000000) only [go_sem, hc0] <;> and_intros <;> rfl) (by simp -implicitDefEqProofs (maxSteps := 2000000) only [go_sem, hc0] <;> and_intros <;> rfl) (by simp -implicitDefEqProofs (maxSteps := 2000000) only [go_sem, hc0] <;> and_intros <;> rfl) (by rfl)) ?_
  rintro j ⟨h1, h2⟩
  have sm := iter_small (l := l) (ats := ats) (skip := skip) (n := ats.length) hs (m := j)
  generalize hc : iter l ats skip ats.length c0 j = c at h2 sm ⊢
  have hcl := sm.len
  simp -implicitDefEqProofs (maxSteps := 2000000) only [go_sem]
  refine awp_loop (Nat × Bool × List Int) (fun x => closS l ats skip x.1 c x.2.1 x.2.2)
    (fun x => x.1 ≤ ats.length ∧ x.2.2 = passA l ats skip c x.1 ∧ (x.2.1 = true → x.2.2 = c)) (fun x => ats.length - x.1) (0, true, c) ⟨by simp, rfl, fun _ => rfl⟩ (le_st' _ _ [⟨960, some _, false, 1, _⟩] [] _ (by simp -implicitDefEqProofs (maxSteps := 2000000) only [go_sem] <;> and_intros <;> rfl) (by simp -implicitDefEqProofs (maxSteps := 2000000) only [go_sem] <;> and_intros <;> rfl) (by simp -implicitDefEqProofs (maxSteps := 2000000) only [go_sem] <;> and_intros <;> rfl) (by rfl)) ?_
  rintro ⟨k, same, L⟩ ⟨h3, h4, h5⟩
  simp only at h3 h4 h5
  have smL : Small L := by rw [h4]; exact passA_small sm
  have hLl := smL.len
  by_cases c1 : k < ats.length
  · have hok := hx _ (mem_getD default c1)
    have hkl := keyVars_len l (ats.getD k default)
    have hvl := varsOf_len (ats.getD k default).l
    have wi : IntKind.i64.wrap ((k : Int) + 1) = ((k + 1 : Nat) : Int) := i64_succ (by omega)
    rcases d1 : ((k : Int) != skip)
    · have e : passA l ats skip c (k + 1) = L := by rw [passA, ← h4, fire, d1]; rfl
      cases same with
      | true =>
        dsimp only [closS]
        simp -implicitDefEqProofs (maxSteps := 2000000) only [go_sem, c1, d1, wi]
        exact ⟨(k + 1, true, L), ⟨c1, e.symm, fun _ => h5 rfl⟩, by simp; omega, (le_st' _ _ [⟨960, some _, false, 1, _⟩] [] _ (by simp -implicitDefEqProofs (maxSteps := 2000000) only [go_sem] <;> and_intros <;> rfl) (by simp -implicitDefEqProofs (maxSteps := 2000000) only [go_sem] <;> and_intros <;> rfl) (by simp -implicitDefEqProofs (maxSteps := 2000000) only [go_sem] <;> and_intros <;> rfl) (by rfl))⟩
      | false =>
        dsimp only [closS]
        simp -implicitDefEqProofs (maxSteps := 2000000) only [go_sem, c1, d1, wi]
        exact ⟨(k + 1, false, L), ⟨c1, e.symm, fun h => by cases h⟩, by simp; omega, (le_st' _ _ [⟨960, some _, false, 1, _⟩, ⟨961, some _, false, 1, _⟩] [] _ (by simp -implicitDefEqProofs (maxSteps := 2000000) only [go_sem] <;> and_intros <;> rfl) (by simp -implicitDefEqProofs (maxSteps := 2000000) only [go_sem] <;> and_intros <;> rfl) (by simp -implicitDefEqProofs (maxSteps := 2000000) only [go_sem] <;> and_intros <;> rfl) (by rfl))⟩
    rcases d2 : subs (keyVars l (ats.getD k default)) L
    · have e : passA l ats skip c (k + 1) = L := by rw [passA, ← h4, fire, d1, d2]; rfl
      cases same with
      | true =>
        have hLc := h5 rfl
        rw [hLc] at d2
        dsimp only [closS]
        simp -implicitDefEqProofs (maxSteps := 2000000) only [go_sem, c1, d1]
        refine call_of (implKeyVariables_sat l (ats.getD k default) hl hok) (by simp -implicitDefEqProofs (maxSteps := 2000000) only [go_sem, c1]) (callOk_still (by kernel_rfl) (by simp only [List.all_cons, List.all_nil, LV.still, LV.leaves, Leaf.still, ints_still, ris_still, eds_still, rels_still, iss_still, ems_still, Bool.and_self, Bool.and_true])) (by simp -implicitDefEqProofs (maxSteps := 2000000) only [go_sem, c1]) ?_
        simp -implicitDefEqProofs (maxSteps := 2000000) only [go_sem, c1]
        refine call_of (isSubset_sat (keyVars l (ats.getD k default)) c (by omega) (by omega)) (by simp -implicitDefEqProofs (maxSteps := 2000000) only [go_sem, d2]) (by kernel_rfl) (by simp -implicitDefEqProofs (maxSteps := 2000000) only [go_sem, d2]) ?_
        simp -implicitDefEqProofs (maxSteps := 2000000) only [go_sem, d2]
        rw [wi]
        exact ⟨(k + 1, true, L), ⟨c1, e.symm, fun _ => h5 rfl⟩, by simp; omega, (le_st' _ _ [⟨960, some _, false, 1, _⟩] [] _ (by simp -implicitDefEqProofs (maxSteps := 2000000) only [go_sem] <;> and_intros <;> rfl) (by simp -implicitDefEqProofs (maxSteps := 2000000) only [go_sem] <;> and_intros <;> rfl) (by simp -implicitDefEqProofs (maxSteps := 2000000) only [go_sem] <;> and_intros <;> rfl) (by rfl))⟩
      | false =>
        dsimp only [closS]
        simp -implicitDefEqProofs (maxSteps := 2000000) only [go_sem, c1, d1]
        refine call_of (implKeyVariables_sat l (ats.getD k default) hl hok) (by simp -implicitDefEqProofs (maxSteps := 2000000) only [go_sem, c1]) (callOk_still (by kernel_rfl) (by simp only [List.all_cons, List.all_nil, LV.still, LV.leaves, Leaf.still, ints_still, ris_still, eds_still, rels_still, iss_still, ems_still, Bool.and_self, Bool.and_true])) (by simp -implicitDefEqProofs (maxSteps := 2000000) only [go_sem, c1]) ?_
        simp -implicitDefEqProofs (maxSteps := 2000000) only [go_sem, c1]
        refine call_of (isSubset_sat (keyVars l (ats.getD k default)) L (by omega) (by omega)) (by simp -implicitDefEqProofs (maxSteps := 2000000) only [go_sem, d2]) (by kernel_rfl) (by simp -implicitDefEqProofs (maxSteps := 2000000) only [go_sem, d2]) ?_
        simp -implicitDefEqProofs (maxSteps := 2000000) only [go_sem, d2]
        rw [wi]
        exact ⟨(k + 1, false, L), ⟨c1, e.symm, fun h => by cases h⟩, by simp; omega, (le_st' _ _ [⟨960, some _, false, 1, _⟩, ⟨961, some _, false, 1, _⟩] [] _ (by simp -implicitDefEqProofs (maxSteps := 2000000) only [go_sem] <;> and_intros <;> rfl) (by simp -implicitDefEqProofs (maxSteps := 2000000) only [go_sem] <;> and_intros <;> rfl) (by simp -implicitDefEqProofs (maxSteps := 2000000) only [go_sem] <;> and_intros <;> rfl) (by rfl))⟩
    · have e : passA l ats skip c (k + 1) = uni L (varsOf (ats.getD k default).l) := by rw [passA, ← h4, fire, d1, d2]; rfl
      cases same with
      | true =>
        have hLc := h5 rfl
        rw [hLc] at d2 e
        dsimp only [closS]
        simp -implicitDefEqProofs (maxSteps := 2000000) only [go_sem, c1, d1]
        refine call_of (implKeyVariables_sat l (ats.getD k default) hl hok) (by simp -implicitDefEqProofs (maxSteps := 2000000) only [go_sem, c1]) (callOk_still (by kernel_rfl) (by simp only [List.all_cons, List.all_nil, LV.still, LV.leaves, Leaf.still, ints_still, ris_still, eds_still, rels_still, iss_still, ems_still, Bool.and_self, Bool.and_true])) (by simp -implicitDefEqProofs (maxSteps := 2000000) only [go_sem, c1]) ?_
        simp -implicitDefEqProofs (maxSteps := 2000000) only [go_sem, c1]
        refine call_of (isSubset_sat (keyVars l (ats.getD k default)) c (by omega) (by omega)) (by simp -implicitDefEqProofs (maxSteps := 2000000) only [go_sem, d2]) (by kernel_rfl) (by simp -implicitDefEqProofs (maxSteps := 2000000) only [go_sem, d2]) ?_
        simp -implicitDefEqProofs (maxSteps := 2000000) only [go_sem, d2]
        refine call_of (implAtomVariables_sat (ats.getD k default) hok) (by simp -implicitDefEqProofs (maxSteps := 2000000) only [go_sem]) (callOk_still (by kernel_rfl) (by simp only [List.all_cons, List.all_nil, LV.still, LV.leaves, Leaf.still, ints_still, ris_still, eds_still, rels_still, iss_still, ems_still, Bool.and_self, Bool.and_true])) (by simp -implicitDefEqProofs (maxSteps := 2000000) only [go_sem]) ?_
        simp -implicitDefEqProofs (maxSteps := 2000000) only [go_sem]
        refine call_of (union_sat c (varsOf (ats.getD k default).l) (by omega)) (by simp -implicitDefEqProofs (maxSteps := 2000000) only [go_sem]) (callOk_still (by kernel_rfl) (by simp only [List.all_cons, List.all_nil, LV.still, LV.leaves, Leaf.still, ints_still, ris_still, eds_still, rels_still, iss_still, ems_still, Bool.and_self, Bool.and_true])) (by simp -implicitDefEqProofs (maxSteps := 2000000) only [go_sem]) ?_
        simp -implicitDefEqProofs (maxSteps := 2000000) only [go_sem]
        rw [wi]
        exact ⟨(k + 1, false, uni c (varsOf (ats.getD k default).l)), ⟨c1, e.symm, fun h => by cases h⟩, by simp; omega, (le_st' _ _ [⟨960, some _, false, 1, _⟩, ⟨961, some _, false, 1, _⟩] [] _ (by simp -implicitDefEqProofs (maxSteps := 2000000) only [go_sem] <;> and_intros <;> rfl) (by simp -implicitDefEqProofs (maxSteps := 2000000) only [go_sem] <;> and_intros <;> rfl) (by simp -implicitDefEqProofs (maxSteps := 2000000) only [go_sem] <;> and_intros <;> rfl) (by rfl))⟩
      | false =>
        dsimp only [closS]
        simp -implicitDefEqProofs (maxSteps := 2000000) only [go_sem, c1, d1]
        refine call_of (implKeyVariables_sat l (ats.getD k default) hl hok) (by simp -implicitDefEqProofs (maxSteps := 2000000) only [go_sem, c1]) (callOk_still (by kernel_rfl) (by simp only [List.all_cons, List.all_nil, LV.still, LV.leaves, Leaf.still, ints_still, ris_still, eds_still, rels_still, iss_still, ems_still, Bool.and_self, Bool.and_true])) (by simp -implicitDefEqProofs (maxSteps := 2000000) only [go_sem, c1]) ?_
        simp -implicitDefEqProofs (maxSteps := 2000000) only [go_sem, c1]
        refine call_of (isSubset_sat (keyVars l (ats.getD k default)) L (by omega) (by omega)) (by simp -implicitDefEqProofs (maxSteps := 2000000) only [go_sem, d2]) (by kernel_rfl) (by simp -implicitDefEqProofs (maxSteps := 2000000) only [go_sem, d2]) ?_
        simp -implicitDefEqProofs (maxSteps := 2000000) only [go_sem, d2]
        refine call_of (implAtomVariables_sat (ats.getD k default) hok) (by simp -implicitDefEqProofs (maxSteps := 2000000) only [go_sem]) (callOk_still (by kernel_rfl) (by simp only [List.all_cons, List.all_nil, LV.still, LV.leaves, Leaf.still, ints_still, ris_still, eds_still, rels_still, iss_still, ems_still, Bool.and_self, Bool.and_true])) (by simp -implicitDefEqProofs (maxSteps := 2000000) only [go_sem]) ?_
        simp -implicitDefEqProofs (maxSteps := 2000000) only [go_sem]
        refine call_of (union_sat L (varsOf (ats.getD k default).l) (by omega)) (by simp -implicitDefEqProofs (maxSteps := 2000000) only [go_sem]) (callOk_still (by kernel_rfl) (by simp only [List.all_cons, List.all_nil, LV.still, LV.leaves, Leaf.still, ints_still, ris_still, eds_still, rels_still, iss_still, ems_still, Bool.and_self, Bool.and_true])) (by simp -implicitDefEqProofs (maxSteps := 2000000) only [go_sem]) ?_
        simp -implicitDefEqProofs (maxSteps := 2000000) only [go_sem]
        rw [wi]
        exact ⟨(k + 1, false, uni L (varsOf (ats.getD k default).l)), ⟨c1, e.symm, fun h => by cases h⟩, by simp; omega, (le_st' _ _ [⟨960, some _, false, 1, _⟩, ⟨961, some _, false, 1, _⟩] [] _ (by simp -implicitDefEqProofs (maxSteps := 2000000) only [go_sem] <;> and_intros <;> rfl) (by simp -implicitDefEqProofs (maxSteps := 2000000) only [go_sem] <;> and_intros <;> rfl) (by simp -implicitDefEqProofs (maxSteps := 2000000) only [go_sem] <;> and_intros <;> rfl) (by rfl))⟩
  obtain rfl : k = ats.length := by omega
  have fin : L = c → clos l ats skip c0 = c := fun e => by
    have e2 : iter l ats skip ats.length c0 (j + 1) = iter l ats skip ats.length c0 j := by
      show passA l ats skip (iter l ats skip ats.length c0 j) ats.length = _
      rw [hc, ← h4, e]
    rw [clos, ← iter_done hs e2, hc]
  cases same with
  | true =>
    rw [fin (h5 rfl)]
    dsimp only [closS]
    simp -implicitDefEqProofs (maxSteps := 2000000) only [go_sem, c1]
    first | done | rfl | exact ⟨rfl, rfl⟩ | exact ⟨rfl, rfl, rfl⟩ | (refine tr_and ?_ ?_ <;> first | rfl | exact ⟨rfl, rfl⟩ | kernel_rfl)
  | false =>
    dsimp only [closS]
    have hsub := strict_sub_len sm.strict smL.strict fun x hx => by rw [h4]; exact passA_sub x hx
    rcases d3 : ((L.length : Int) == c.length)
    · have hne : (L.length : Int) ≠ c.length := by simpa using d3
      simp -implicitDefEqProofs (maxSteps := 2000000) only [go_sem, c1, d3]
      refine ⟨j + 1, ⟨by omega, ?_⟩, by omega, ?_⟩
      · rw [show iter l ats skip ats.length c0 (j + 1) = L by rw [h4, ← hc]; rfl]; omega
      · rw [show iter l ats skip ats.length c0 (j + 1) = L by rw [h4, ← hc]; rfl]
        exact (le_st' _ _ [⟨960, some _, false, 1, _⟩] [] _ (by simp -implicitDefEqProofs (maxSteps := 2000000) only [go_sem] <;> and_intros <;> rfl) (by simp -implicitDefEqProofs (maxSteps := 2000000) only [go_sem] <;> and_intros <;> rfl) (by simp -implicitDefEqProofs (maxSteps := 2000000) only [go_sem] <;> and_intros <;> rfl) (by rfl))
    · have he : L = c := (hsub.2 (by have := eq_of_beq d3; omega)).symm
      rw [fin he]
      simp -implicitDefEqProofs (maxSteps := 2000000) only [go_sem, c1, d3]
      first | done | rfl | exact ⟨rfl, rfl⟩ | exact ⟨rfl, rfl, rfl⟩ | (refine tr_and ?_ ?_ <;> first | rfl | exact ⟨rfl, rfl⟩ | kernel_rfl)
end Go.Proofs.Ytbalifgacjmbpac.A


/- ATTRIBUTE CLOSURES, KEY CLOSURES, WHAT DETERMINES WHAT. Conditions: none. -/
namespace Go.Proofs.Ytbalifgacjmbpac.A
open Go
set_option linter.unusedSimpArgs false
set_option linter.unusedVariables false
set_option maxRecDepth 100000

def start (q : Qu) (vs : List Int) : List Int := selN (fun v => decide (v ∈ vs) || decide (v ∈ q.free)) 4
def acl (l : List Rel) (q : Qu) (skip : Int) (vs : List Int) : List Int := if goodQu l q then clos l q.atoms skip (start q vs) else []
theorem start_small (q : Qu) (vs : List Int) : Small (start q vs) := Small.selN
theorem clos_small {l : List Rel} {ats : List RI} {skip : Int} {c : List Int} (h : Small c) : Small (clos l ats skip c) := iter_small h
theorem acl_len (l : List Rel) (q : Qu) (skip : Int) (vs : List Int) : (acl l q skip vs).length ≤ 4 := by
  unfold acl; split
  · exact (clos_small (start_small q vs)).len
  · simp
theorem free_small {l : List Rel} {q : Qu} (h : goodQu l q = true) : ∀ x ∈ q.free, 0 ≤ x ∧ x < 4 := by
  unfold goodQu at h
  simp only [Bool.and_eq_true] at h
  have hv := inB_of h.2.1
  intro x hx
  obtain ⟨i, hi, rfl⟩ := List.mem_iff_getElem.mp hx
  have h1 := upTo_at h.2.2.2.1 hi
  unfold idxAt at h1
  rw [Bool.and_eq_true, List.getD_eq_getElem?_getD, List.getElem?_eq_getElem hi] at h1
  have h2 := inB_of h1.1
  simp only [Option.getD_some] at h2
  omega
theorem atoms3 {l : List Rel} {q : Qu} (h : goodQu l q = true) : q.atoms.length ≤ 3 := by
  unfold goodQu at h
  simp only [Bool.and_eq_true] at h
  have hv := inB_of h.2.2.1
  omega
theorem start_uni {l : List Rel} {q : Qu} (h : goodQu l q = true) (vs : List Int) : uni (q.free ++ vs.filter fun x => inB x 0 3) [] = start q vs := by
  refine strict_eq (uni_strict _ _) (selN_strict _ _) fun x => ?_
  rw [uni_mem, start, selN_mem, List.mem_append, List.mem_filter]
  have hf := free_small h
  unfold inB
  simp only [List.not_mem_nil, or_false, Bool.and_eq_true, Bool.or_eq_true, decide_eq_true_eq]
  constructor
  · rintro (k | ⟨k, k2⟩)
    · exact ⟨(hf x k).1, (hf x k).2, .inr k⟩
    · exact ⟨k2.1, by omega, .inl k⟩
  · rintro ⟨k1, k2, k | k⟩
    · exact .inr ⟨k, k1, by omega⟩
    · exact .inl k
theorem implAttributeClosure_sat (l : List Rel) (q : Qu) (skip : Int) (vs : List Int) (hl : l.length ≤ 9223372036854775807) (hq : q.ok) (hv : vs.length ≤ 1048576) : Sat Try.prog 64 [lRels l, lQu q, lInt skip, lInts vs] [oInts (acl l q skip vs)] [g1, g3, g1, g1] := by
  refine sat_of_body mixed Try.func64 rfl (by kernel_rfl) (by kernel_rfl) (rs := [.tmp 8]) rfl rfl rfl ?_
  simp -implicitDefEqProofs (maxSteps := 2000000) only [go_sem]
  rcases g : goodQu l q
  · rw [show acl l q skip vs = [] by rw [acl, g]; rfl]
    refine call_of (implIsValidQuery_sat l q hl hq) (by simp -implicitDefEqProofs (maxSteps := 2000000) only [go_sem, g]) (by kernel_rfl) (by simp -implicitDefEqProofs (maxSteps := 2000000) only [go_sem, g]) ?_
    simp -implicitDefEqProofs (maxSteps := 2000000) only [go_sem, g]
    first | done | rfl | exact ⟨rfl, rfl⟩ | exact ⟨rfl, rfl, rfl⟩ | (refine tr_and ?_ ?_ <;> first | rfl | exact ⟨rfl, rfl⟩ | kernel_rfl)
  rw [show acl l q skip vs = clos l q.atoms skip (uni (q.free ++ vs.filter fun x => inB x 0 3) []) by rw [acl, g, start_uni g]; rfl]
  have hff := hq.2
  have h3 := atoms3 g
  refine call_of (implIsValidQuery_sat l q hl hq) (by simp -implicitDefEqProofs (maxSteps := 2000000) only [go_sem, g]) (by kernel_rfl) (by simp -implicitDefEqProofs (maxSteps := 2000000) only [go_sem, g]) ?_
  simp -implicitDefEqProofs (maxSteps := 2000000) only [go_sem, g]
  refine call_of (slicesClone_sat q.free hff) (by simp -implicitDefEqProofs (maxSteps := 2000000) only [go_sem]) (callOk_still (by kernel_rfl) (by simp only [List.all_cons, List.all_nil, LV.still, LV.leaves, Leaf.still, ints_still, ris_still, eds_still, rels_still, iss_still, ems_still, Bool.and_self, Bool.and_true])) (by simp -implicitDefEqProofs (maxSteps := 2000000) only [go_sem]) ?_
  simp -implicitDefEqProofs (maxSteps := 2000000) only [go_sem]
  generalize hp : (fun x => inB x 0 3) = p
  refine awp_loop Nat (fun k => mkSt [(0, .one (.im 3 (rels l))), (2, .sc (.int .i64 skip)), (5, .one (.vad 1000 0)), (9, .one (.ref 960 1 0 (q.free ++ (vs.take k).filter p).length)), (19, .one (.im 1 (ints vs))), (20, .sc (.int .i64 vs.length)), (21, .sc (.int .i64 k))] [(1000, sQu q)] [(960, (1, ints (q.free ++ (vs.take k).filter p)))] 4000)
    (fun k => k ≤ vs.length) (fun k => vs.length - k) 0 (by omega) (by rw [List.take_zero, List.filter_nil, List.append_nil]; exact (le_st' _ _ [⟨960, some _, false, 1, _⟩] [] _ (by simp -implicitDefEqProofs (maxSteps := 2000000) only [go_sem] <;> and_intros <;> rfl) (by simp -implicitDefEqProofs (maxSteps := 2000000) only [go_sem] <;> and_intros <;> rfl) (by simp -implicitDefEqProofs (maxSteps := 2000000) only [go_sem] <;> and_intros <;> rfl) (by rfl))) ?_
  rintro k h1
  have hll : ((vs.take k).filter p).length ≤ vs.length := Nat.le_trans (List.length_filter_le _ _) (by rw [List.length_take]; omega)
  by_cases c1 : k < vs.length
  · have t := take_snoc 0 c1
    rcases d : inB (vs.getD k 0) 0 3
    · simp -implicitDefEqProofs (maxSteps := 2000000) only [go_sem, c1]
      refine call_of (inW_sat (vs.getD k 0) 0 3) (by simp -implicitDefEqProofs (maxSteps := 2000000) only [go_sem, d, c1]) (by kernel_rfl) (by simp -implicitDefEqProofs (maxSteps := 2000000) only [go_sem, d, c1]) ?_
      simp -implicitDefEqProofs (maxSteps := 2000000) only [go_sem, d, c1]
      rw [i64_succ (by omega)]
      refine ⟨k + 1, c1, by omega, ?_⟩
      rw [t, List.filter_append, List.filter_cons_of_neg (by rw [← hp]; show ¬ (inB (vs.getD k 0) 0 3 = true); rw [d]; simp), List.filter_nil, List.append_nil]
      exact (le_st' _ _ [⟨960, some _, false, 1, _⟩] [] _ (by simp -implicitDefEqProofs (maxSteps := 2000000) only [go_sem] <;> and_intros <;> rfl) (by simp -implicitDefEqProofs (maxSteps := 2000000) only [go_sem] <;> and_intros <;> rfl) (by simp -implicitDefEqProofs (maxSteps := 2000000) only [go_sem] <;> and_intros <;> rfl) (by rfl))
    · simp -implicitDefEqProofs (maxSteps := 2000000) only [go_sem, c1]
      refine call_of (inW_sat (vs.getD k 0) 0 3) (by simp -implicitDefEqProofs (maxSteps := 2000000) only [go_sem, d, c1]) (by kernel_rfl) (by simp -implicitDefEqProofs (maxSteps := 2000000) only [go_sem, d, c1]) ?_
      simp -implicitDefEqProofs (maxSteps := 2000000) only [go_sem, d, c1]
      refine ⟨by omega, ?_⟩
      rw [i64_succ (by omega)]
      refine ⟨k + 1, c1, by omega, ?_⟩
      rw [t, List.filter_append, List.filter_cons_of_pos (by rw [← hp]; exact d), List.filter_nil, ← List.append_assoc]
      exact (le_st' _ _ [⟨960, some _, false, 1, _⟩] [] _ (by simp -implicitDefEqProofs (maxSteps := 2000000) only [go_sem] <;> and_intros <;> rfl) (by simp -implicitDefEqProofs (maxSteps := 2000000) only [go_sem] <;> and_intros <;> rfl) (by simp -implicitDefEqProofs (maxSteps := 2000000) only [go_sem] <;> and_intros <;> rfl) (by rfl))
  · obtain rfl : k = vs.length := by omega
    simp -implicitDefEqProofs (maxSteps := 2000000) only [go_sem, c1]
    rw [List.take_length] at hll
    have hst := start_uni g vs
    rw [hp] at hst
    have ht : List.take (q.free.length + (vs.filter p).length) (q.free ++ vs.filter p) = q.free ++ vs.filter p := by rw [← List.length_append, List.take_length]
    refine call_of (closure_sat l q.atoms skip (q.free ++ vs.filter p) hl hq.1.1 hq.1.2 (by rw [List.length_append]; omega) (by rw [hst]; exact start_small q vs)) (by simp -implicitDefEqProofs (maxSteps := 2000000) only [go_sem, ht]) (callOk_still (by kernel_rfl) (by simp only [List.all_cons, List.all_nil, LV.still, LV.leaves, Leaf.still, ints_still, ris_still, eds_still, rels_still, iss_still, ems_still, Bool.and_self, Bool.and_true])) (by simp -implicitDefEqProofs (maxSteps := 2000000) only [go_sem, ht]) ?_
    simp -implicitDefEqProofs (maxSteps := 2000000) only [go_sem, ht]
    first | done | rfl | exact ⟨rfl, rfl⟩ | exact ⟨rfl, rfl, rfl⟩ | (refine tr_and ?_ ?_ <;> first | rfl | exact ⟨rfl, rfl⟩ | kernel_rfl)
theorem specAttributeClosure_sat (l : List Rel) (q : Qu) (skip : Int) (vs : List Int) (hl : l.length ≤ 9223372036854775807) (hq : q.fit) (hv : vs.length ≤ 9223372036854775807) : Sat Try.prog 55 [lRels l, lQu q, lInt skip, lInts vs] [oInts (acl l q skip vs)] [g1, g3, g1, g1] := by
  refine sat_of_body mixed Try.func55 rfl (by kernel_rfl) (by kernel_rfl) (rs := [.tmp 8]) rfl rfl rfl ?_
  simp -implicitDefEqProofs (maxSteps := 2000000) only [go_sem]
  rcases g : goodQu l q
  · rw [show acl l q skip vs = [] by rw [acl, g]; rfl]
    refine call_of (specIsValidQuery_sat l q hl hq) (by simp -implicitDefEqProofs (maxSteps := 2000000) only [go_sem, g]) (by kernel_rfl) (by simp -implicitDefEqProofs (maxSteps := 2000000) only [go_sem, g]) ?_
    simp -implicitDefEqProofs (maxSteps := 2000000) only [go_sem, g]
    first | done | rfl | exact ⟨rfl, rfl⟩ | exact ⟨rfl, rfl, rfl⟩ | (refine tr_and ?_ ?_ <;> first | rfl | exact ⟨rfl, rfl⟩ | kernel_rfl)
  rw [show acl l q skip vs = iter l q.atoms skip q.atoms.length (start q vs) q.atoms.length by rw [acl, g]; rfl]
  have hff := hq.2
  have h3 := atoms3 g
  have hs := start_small q vs
  refine call_of (specIsValidQuery_sat l q hl hq) (by simp -implicitDefEqProofs (maxSteps := 2000000) only [go_sem, g]) (by kernel_rfl) (by simp -implicitDefEqProofs (maxSteps := 2000000) only [go_sem, g]) ?_
  simp -implicitDefEqProofs (maxSteps := 2000000) only [go_sem, g]
  refine call_of (l14Both_sat vs q.free hv hff) (by simp -implicitDefEqProofs (maxSteps := 2000000) only [go_sem]) (callOk_still (by kernel_rfl) (by simp only [List.all_cons, List.all_nil, LV.still, LV.leaves, Leaf.still, ints_still, ris_still, eds_still, rels_still, iss_still, ems_still, Bool.and_self, Bool.and_true])) (by simp -implicitDefEqProofs (maxSteps := 2000000) only [go_sem]) ?_
  simp -implicitDefEqProofs (maxSteps := 2000000) only [go_sem]
  have hst : selN (fun v => decide (v ∈ vs) || decide (v ∈ q.free)) 4 = start q vs := rfl
  rw [hst]
  generalize start q vs = c0 at hs ⊢
  refine awp_loop Nat (fun j => mkSt [(0, .one (.im 3 (rels l))), (2, .sc (.int .i64 skip)), (5, .one (.vad 1000 0)), (9, .one (.ref 960 1 0 (iter l q.atoms skip q.atoms.length c0 j).length)), (10, .sc (.int .i64 j))] [(1000, sQu q)] [(960, (1, ints (iter l q.atoms skip q.atoms.length c0 j)))] 4000)
    (fun j => j ≤ q.atoms.length) (fun j => q.atoms.length - j) 0 (by omega) (le_st' _ _ [⟨960, some _, false, 1, _⟩] [] _ (by simp -implicitDefEqProofs (maxSteps := 2000000) only [go_sem] <;> and_intros <;> rfl) (by simp -implicitDefEqProofs (maxSteps := 2000000) only [go_sem] <;> and_intros <;> rfl) (by simp -implicitDefEqProofs (maxSteps := 2000000) only [go_sem] <;> and_intros <;> rfl) (by rfl)) ?_
  rintro j h1
  have sm := iter_small (l := l) (ats := q.atoms) (skip := skip) (n := q.atoms.length) hs (m := j)
  by_cases c1 : j < q.atoms.length
  · generalize hc : iter l q.atoms skip q.atoms.length c0 j = c at sm ⊢
    have wj : IntKind.i64.wrap ((j : Int) + 1) = ((j + 1 : Nat) : Int) := i64_succ (by omega)
    simp -implicitDefEqProofs (maxSteps := 2000000) only [go_sem, c1]
    refine awp_loop Nat (fun k => mkSt [(0, .one (.im 3 (rels l))), (2, .sc (.int .i64 skip)), (5, .one (.vad 1000 0)), (9, .one (.ref 960 1 0 (passA l q.atoms skip c k).length)), (10, .sc (.int .i64 j)), (11, .sc (.int .i64 k))] [(1000, sQu q)] [(960, (1, ints (passA l q.atoms skip c k)))] 8000)
      (fun k => k ≤ q.atoms.length) (fun k => q.atoms.length - k) 0 (by omega) (le_st' _ _ [⟨960, some _, false, 1, _⟩] [] _ (by simp -implicitDefEqProofs (maxSteps := 2000000) only [go_sem] <;> and_intros <;> rfl) (by simp -implicitDefEqProofs (maxSteps := 2000000) only [go_sem] <;> and_intros <;> rfl) (by simp -implicitDefEqProofs (maxSteps := 2000000) only [go_sem] <;> and_intros <;> rfl) (by rfl)) ?_
    rintro k h4
    have smL : Small (passA l q.atoms skip c k) := passA_small sm
    have hLl := smL.len
    by_cases c2 : k < q.atoms.length
    · have hfa := hq.1.2 _ (mem_getD default c2)
      have hkl := keyVars_len l (q.atoms.getD k default)
      have hvl := varsOf_len (q.atoms.getD k default).l
      have hu := both_uni (v := (q.atoms.getD k default).l) smL
      generalize hL : passA l q.atoms skip c k = L at hLl smL hu ⊢
      have wi : IntKind.i64.wrap ((k : Int) + 1) = ((k + 1 : Nat) : Int) := i64_succ (by omega)
      rcases d1 : ((k : Int) != skip)
      · have e : passA l q.atoms skip c (k + 1) = L := by rw [passA, hL, fire, d1]; rfl
        simp -implicitDefEqProofs (maxSteps := 2000000) only [go_sem, c2, d1, wi]
        refine ⟨k + 1, c2, by omega, ?_⟩
        rw [e]
        exact (le_st' _ _ [⟨960, some _, false, 1, _⟩] [] _ (by simp -implicitDefEqProofs (maxSteps := 2000000) only [go_sem] <;> and_intros <;> rfl) (by simp -implicitDefEqProofs (maxSteps := 2000000) only [go_sem] <;> and_intros <;> rfl) (by simp -implicitDefEqProofs (maxSteps := 2000000) only [go_sem] <;> and_intros <;> rfl) (by rfl))
      rcases d2 : subs (keyVars l (q.atoms.getD k default)) L
      · have e : passA l q.atoms skip c (k + 1) = L := by rw [passA, hL, fire, d1, d2]; rfl
        simp -implicitDefEqProofs (maxSteps := 2000000) only [go_sem, c2, d1]
        refine call_of (specKeyVariables_sat l (q.atoms.getD k default) hl hfa) (by simp -implicitDefEqProofs (maxSteps := 2000000) only [go_sem, c2]) (callOk_still (by kernel_rfl) (by simp only [List.all_cons, List.all_nil, LV.still, LV.leaves, Leaf.still, ints_still, ris_still, eds_still, rels_still, iss_still, ems_still, Bool.and_self, Bool.and_true])) (by simp -implicitDefEqProofs (maxSteps := 2000000) only [go_sem, c2]) ?_
        simp -implicitDefEqProofs (maxSteps := 2000000) only [go_sem, c2]
        refine call_of (l14Has_sat L (keyVars l (q.atoms.getD k default)) (by omega) (by omega)) (by simp -implicitDefEqProofs (maxSteps := 2000000) only [go_sem, d2]) (by kernel_rfl) (by simp -implicitDefEqProofs (maxSteps := 2000000) only [go_sem, d2]) ?_
        simp -implicitDefEqProofs (maxSteps := 2000000) only [go_sem, d2]
        rw [wi]
        refine ⟨k + 1, c2, by omega, ?_⟩
        rw [e]
        exact (le_st' _ _ [⟨960, some _, false, 1, _⟩] [] _ (by simp -implicitDefEqProofs (maxSteps := 2000000) only [go_sem] <;> and_intros <;> rfl) (by simp -implicitDefEqProofs (maxSteps := 2000000) only [go_sem] <;> and_intros <;> rfl) (by simp -implicitDefEqProofs (maxSteps := 2000000) only [go_sem] <;> and_intros <;> rfl) (by rfl))
      · have e : passA l q.atoms skip c (k + 1) = uni L (varsOf (q.atoms.getD k default).l) := by rw [passA, hL, fire, d1, d2]; rfl
        simp -implicitDefEqProofs (maxSteps := 2000000) only [go_sem, c2, d1]
        refine call_of (specKeyVariables_sat l (q.atoms.getD k default) hl hfa) (by simp -implicitDefEqProofs (maxSteps := 2000000) only [go_sem, c2]) (callOk_still (by kernel_rfl) (by simp only [List.all_cons, List.all_nil, LV.still, LV.leaves, Leaf.still, ints_still, ris_still, eds_still, rels_still, iss_still, ems_still, Bool.and_self, Bool.and_true])) (by simp -implicitDefEqProofs (maxSteps := 2000000) only [go_sem, c2]) ?_
        simp -implicitDefEqProofs (maxSteps := 2000000) only [go_sem, c2]
        refine call_of (l14Has_sat L (keyVars l (q.atoms.getD k default)) (by omega) (by omega)) (by simp -implicitDefEqProofs (maxSteps := 2000000) only [go_sem, d2, c2]) (by kernel_rfl) (by simp -implicitDefEqProofs (maxSteps := 2000000) only [go_sem, d2, c2]) ?_
        simp -implicitDefEqProofs (maxSteps := 2000000) only [go_sem, d2, c2]
        refine call_of (specAtomVariables_sat (q.atoms.getD k default) hfa) (by simp -implicitDefEqProofs (maxSteps := 2000000) only [go_sem, c2]) (callOk_still (by kernel_rfl) (by simp only [List.all_cons, List.all_nil, LV.still, LV.leaves, Leaf.still, ints_still, ris_still, eds_still, rels_still, iss_still, ems_still, Bool.and_self, Bool.and_true])) (by simp -implicitDefEqProofs (maxSteps := 2000000) only [go_sem, c2]) ?_
        simp -implicitDefEqProofs (maxSteps := 2000000) only [go_sem, c2]
        refine call_of (l14Both_sat L (varsOf (q.atoms.getD k default).l) (by omega) (by omega)) (by simp -implicitDefEqProofs (maxSteps := 2000000) only [go_sem, hu]) (callOk_still (by kernel_rfl) (by simp only [List.all_cons, List.all_nil, LV.still, LV.leaves, Leaf.still, ints_still, ris_still, eds_still, rels_still, iss_still, ems_still, Bool.and_self, Bool.and_true])) (by simp -implicitDefEqProofs (maxSteps := 2000000) only [go_sem, hu]) ?_
        simp -implicitDefEqProofs (maxSteps := 2000000) only [go_sem, hu]
        rw [wi]
        refine ⟨k + 1, c2, by omega, ?_⟩
        rw [e]
        exact (le_st' _ _ [⟨960, some _, false, 1, _⟩] [] _ (by simp -implicitDefEqProofs (maxSteps := 2000000) only [go_sem, hu] <;> and_intros <;> rfl) (by simp -implicitDefEqProofs (maxSteps := 2000000) only [go_sem, hu] <;> and_intros <;> rfl) (by simp -implicitDefEqProofs (maxSteps := 2000000) only [go_sem, hu] <;> and_intros <;> rfl) (by rfl))
    · obtain rfl : k = q.atoms.length := by omega
      simp -implicitDefEqProofs (maxSteps := 2000000) only [go_sem, c2, wj]
      refine ⟨j + 1, c1, by omega, ?_⟩
      rw [show iter l q.atoms skip q.atoms.length c0 (j + 1) = passA l q.atoms skip c q.atoms.length by rw [← hc]; rfl]
      exact (le_st' _ _ [⟨960, some _, false, 1, _⟩] [] _ (by simp -implicitDefEqProofs (maxSteps := 2000000) only [go_sem] <;> and_intros <;> rfl) (by simp -implicitDefEqProofs (maxSteps := 2000000) only [go_sem] <;> and_intros <;> rfl) (by simp -implicitDefEqProofs (maxSteps := 2000000) only [go_sem] <;> and_intros <;> rfl) (by rfl))
  · obtain rfl : j = q.atoms.length := by omega
    simp -implicitDefEqProofs (maxSteps := 2000000) only [go_sem, c1]
    first | done | rfl | exact ⟨rfl, rfl⟩ | exact ⟨rfl, rfl, rfl⟩ | (refine tr_and ?_ ?_ <;> first | rfl | exact ⟨rfl, rfl⟩ | kernel_rfl)
def dets (l : List Rel) (q : Qu) (a b : List Int) : Bool := goodQu l q && subs b (acl l q (-1) a)
theorem implDetermines_sat (l : List Rel) (q : Qu) (a b : List Int) (hl : l.length ≤ 9223372036854775807) (hq : q.ok) (ha : a.length ≤ 1048576) (hb : b.length ≤ 9223372036854775807) : Sat Try.prog 45 [lRels l, lQu q, lInts a, lInts b] [lBool (dets l q a b)] [g1, g3, g1, g1] := by
  refine sat_of_body mixed Try.func45 rfl (by kernel_rfl) (by kernel_rfl) (rs := [.tmp 8]) rfl rfl rfl ?_
  unfold dets
  have hn := acl_len l q (-1) a
  simp -implicitDefEqProofs (maxSteps := 2000000) only [go_sem]
  rcases g : goodQu l q
  · refine call_of (implIsValidQuery_sat l q hl hq) (by simp -implicitDefEqProofs (maxSteps := 2000000) only [go_sem, g]) (by kernel_rfl) (by simp -implicitDefEqProofs (maxSteps := 2000000) only [go_sem, g]) ?_
    simp -implicitDefEqProofs (maxSteps := 2000000) only [go_sem, g]
  refine call_of (implIsValidQuery_sat l q hl hq) (by simp -implicitDefEqProofs (maxSteps := 2000000) only [go_sem, g]) (by kernel_rfl) (by simp -implicitDefEqProofs (maxSteps := 2000000) only [go_sem, g]) ?_
  simp -implicitDefEqProofs (maxSteps := 2000000) only [go_sem, g]
  refine call_of (implAttributeClosure_sat l q (-1) a hl hq ha) (by simp -implicitDefEqProofs (maxSteps := 2000000) only [go_sem]) (callOk_still (by kernel_rfl) (by simp only [List.all_cons, List.all_nil, LV.still, LV.leaves, Leaf.still, ints_still, ris_still, eds_still, rels_still, iss_still, ems_still, Bool.and_self, Bool.and_true])) (by simp -implicitDefEqProofs (maxSteps := 2000000) only [go_sem]) ?_
  simp -implicitDefEqProofs (maxSteps := 2000000) only [go_sem]
  refine call_of (isSubset_sat b (acl l q (-1) a) hb (by omega)) (by simp -implicitDefEqProofs (maxSteps := 2000000) only [go_sem]) (by kernel_rfl) (by simp -implicitDefEqProofs (maxSteps := 2000000) only [go_sem]) ?_
  simp -implicitDefEqProofs (maxSteps := 2000000) only [go_sem]
theorem specDetermines_sat (l : List Rel) (q : Qu) (a b : List Int) (hl : l.length ≤ 9223372036854775807) (hq : q.fit) (ha : a.length ≤ 9223372036854775807) (hb : b.length ≤ 9223372036854775807) : Sat Try.prog 34 [lRels l, lQu q, lInts a, lInts b] [lBool (dets l q a b)] [g1, g3, g1, g1] := by
  refine sat_of_body mixed Try.func34 rfl (by kernel_rfl) (by kernel_rfl) (rs := [.tmp 8]) rfl rfl rfl ?_
  unfold dets
  have hn := acl_len l q (-1) a
  simp -implicitDefEqProofs (maxSteps := 2000000) only [go_sem]
  rcases g : goodQu l q
  · refine call_of (specIsValidQuery_sat l q hl hq) (by simp -implicitDefEqProofs (maxSteps := 2000000) only [go_sem, g]) (by kernel_rfl) (by simp -implicitDefEqProofs (maxSteps := 2000000) only [go_sem, g]) ?_
    simp -implicitDefEqProofs (maxSteps := 2000000) only [go_sem, g]
  refine call_of (specIsValidQuery_sat l q hl hq) (by simp -implicitDefEqProofs (maxSteps := 2000000) only [go_sem, g]) (by kernel_rfl) (by simp -implicitDefEqProofs (maxSteps := 2000000) only [go_sem, g]) ?_
  simp -implicitDefEqProofs (maxSteps := 2000000) only [go_sem, g]
  refine call_of (specAttributeClosure_sat l q (-1) a hl hq ha) (by simp -implicitDefEqProofs (maxSteps := 2000000) only [go_sem]) (callOk_still (by kernel_rfl) (by simp only [List.all_cons, List.all_nil, LV.still, LV.leaves, Leaf.still, ints_still, ris_still, eds_still, rels_still, iss_still, ems_still, Bool.and_self, Bool.and_true])) (by simp -implicitDefEqProofs (maxSteps := 2000000) only [go_sem]) ?_
  simp -implicitDefEqProofs (maxSteps := 2000000) only [go_sem]
  refine call_of (l14Has_sat (acl l q (-1) a) b (by omega) hb) (by simp -implicitDefEqProofs (maxSteps := 2000000) only [go_sem]) (by kernel_rfl) (by simp -implicitDefEqProofs (maxSteps := 2000000) only [go_sem]) ?_
  simp -implicitDefEqProofs (maxSteps := 2000000) only [go_sem]
end Go.Proofs.Ytbalifgacjmbpac.A


/- WHAT AN ATOM ATTACKS: the plain law. Conditions: none. (No program in sight but the names.) -/
namespace Go.Proofs.Ytbalifgacjmbpac.A
open Go
set_option linter.unusedSimpArgs false
set_option linter.unusedVariables false

section gen
variable {cond : Nat → List Int → Bool} {v : Nat → List Int} {c : List Int} {n : Nat}
/-- A set takes in the i-th list if a condition holds. -/
def fireG (cond : Nat → List Int → Bool) (v : Nat → List Int) (c : List Int) (i : Nat) : List Int := if cond i c then uni c (v i) else c
def passG (cond : Nat → List Int → Bool) (v : Nat → List Int) (c : List Int) : Nat → List Int
  | 0 => c
  | k + 1 => fireG cond v (passG cond v c k) k
theorem fireG_sub {i : Nat} : ∀ x ∈ c, x ∈ fireG cond v c i := by
  intro x hx
  unfold fireG
  split
  · exact (uni_mem _ _ _).mpr (.inl hx)
  · exact hx
theorem fireG_small (hv : ∀ i, ∀ x ∈ v i, 0 ≤ x ∧ x < 4) {i : Nat} (h : Small c) : Small (fireG cond v c i) := by
  unfold fireG
  split
  · exact h.uni (hv i)
  · exact h
theorem passG_sub : ∀ {k : Nat}, ∀ x ∈ c, x ∈ passG cond v c k
  | 0, x, hx => hx
  | k + 1, x, hx => fireG_sub x (passG_sub (k := k) x hx)
theorem passG_mono : ∀ {k m : Nat}, k ≤ m → ∀ x ∈ passG cond v c k, x ∈ passG cond v c m
  | k, 0, h, x, hx => by rw [show k = 0 by omega] at hx; exact hx
  | k, m + 1, h, x, hx => by
    by_cases e : k = m + 1
    · rw [← e]; exact hx
    · exact fireG_sub x (passG_mono (k := k) (m := m) (by omega) x hx)
theorem passG_small (hv : ∀ i, ∀ x ∈ v i, 0 ≤ x ∧ x < 4) (h : Small c) : ∀ {k : Nat}, Small (passG cond v c k)
  | 0 => h
  | k + 1 => fireG_small hv (passG_small hv h (k := k))
theorem passG_new (hv : ∀ i, ∀ x ∈ v i, 0 ≤ x ∧ x < 4) (h : Small c) : ∀ (k : Nat), passG cond v c k = c ∨ ∃ i, i < k ∧ subs (v i) c = false ∧ subs (v i) (passG cond v c k) = true
  | 0 => .inl rfl
  | k + 1 => by
    have ih := passG_new hv h k
    rcases ih with ih | ⟨i, hi, h1, h2⟩
    · rw [passG, ih]
      unfold fireG
      split
      · rcases hs : subs (v k) c
        · exact .inr ⟨k, by omega, hs, subs_iff.mpr fun x hx => (uni_mem _ _ _).mpr (.inr hx)⟩
        · exact .inl (uni_same h.strict (subs_iff.mp hs))
      · exact .inl rfl
    · exact .inr ⟨i, by omega, h1, subs_iff.mpr fun x hx => fireG_sub x (subs_iff.mp h2 x hx)⟩
def tookG (v : Nat → List Int) (c : List Int) (n : Nat) : List Nat := (List.range n).filter fun i => subs (v i) c
theorem tookG_le (v : Nat → List Int) (c : List Int) (n : Nat) : (tookG v c n).length ≤ n := by
  unfold tookG; exact Nat.le_trans (List.length_filter_le _ _) (by rw [List.length_range]; exact Nat.le_refl _)
theorem tookG_lt (hv : ∀ i, ∀ x ∈ v i, 0 ≤ x ∧ x < 4) (h : Small c) (hne : passG cond v c n ≠ c) : (tookG v c n).length < (tookG v (passG cond v c n) n).length := by
  rcases passG_new (cond := cond) hv h n with e | ⟨i, hi, h1, h2⟩
  · exact absurd e hne
  · exact filter_lt (fun x _ hx => subs_iff.mpr fun y hy => passG_sub y (subs_iff.mp hx y hy)) ⟨i, List.mem_range.mpr hi, h1, h2⟩
def iterG (cond : Nat → List Int → Bool) (v : Nat → List Int) (n : Nat) (c : List Int) : Nat → List Int
  | 0 => c
  | m + 1 => passG cond v (iterG cond v n c m) n
theorem iterG_small (hv : ∀ i, ∀ x ∈ v i, 0 ≤ x ∧ x < 4) (h : Small c) : ∀ {m : Nat}, Small (iterG cond v n c m)
  | 0 => h
  | m + 1 => passG_small hv (iterG_small hv h (m := m))
theorem iterG_sub : ∀ {m : Nat}, ∀ x ∈ c, x ∈ iterG cond v n c m
  | 0, x, hx => hx
  | m + 1, x, hx => passG_sub x (iterG_sub (m := m) x hx)
theorem iterG_took (hv : ∀ i, ∀ x ∈ v i, 0 ≤ x ∧ x < 4) (h : Small c) : ∀ m : Nat, (∃ j, j ≤ m ∧ iterG cond v n c (j + 1) = iterG cond v n c j) ∨ m < (tookG v (iterG cond v n c (m + 1)) n).length
  | 0 => by
    by_cases e : iterG cond v n c 1 = iterG cond v n c 0
    · exact .inl ⟨0, by omega, e⟩
    · have := tookG_lt (cond := cond) (n := n) hv (iterG_small hv h (m := 0)) e
      refine .inr ?_
      show 0 < (tookG v (passG cond v (iterG cond v n c 0) n) n).length
      omega
  | m + 1 => by
    rcases iterG_took hv h m with ⟨j, hj, e⟩ | ht
    · exact .inl ⟨j, by omega, e⟩
    · by_cases e : iterG cond v n c (m + 2) = iterG cond v n c (m + 1)
      · exact .inl ⟨m + 1, by omega, e⟩
      · have := tookG_lt (cond := cond) (n := n) hv (iterG_small hv h (m := m + 1)) e
        refine .inr ?_
        show m + 1 < (tookG v (passG cond v (iterG cond v n c (m + 1)) n) n).length
        omega
theorem iterG_stays {j : Nat} (e : iterG cond v n c (j + 1) = iterG cond v n c j) : ∀ d : Nat, iterG cond v n c (j + d) = iterG cond v n c j
  | 0 => rfl
  | d + 1 => by
    have ih := iterG_stays e d
    show passG cond v (iterG cond v n c (j + d)) n = _
    rw [ih]
    exact e
theorem iterG_stable (hv : ∀ i, ∀ x ∈ v i, 0 ≤ x ∧ x < 4) (h : Small c) : iterG cond v n c (n + 1) = iterG cond v n c n := by
  rcases iterG_took (cond := cond) (n := n) hv h n with ⟨i, hi, e'⟩ | ht
  · have h1 := iterG_stays e' (n - i)
    have h2 := iterG_stays e' (n + 1 - i)
    rw [show i + (n - i) = n by omega] at h1
    rw [show i + (n + 1 - i) = n + 1 by omega] at h2
    rw [h1, h2]
  · have := tookG_le v (iterG cond v n c (n + 1)) n
    omega
/-- Where a pass changes nothing no step changes anything. -/
theorem fireG_fix (hv : ∀ i, ∀ x ∈ v i, 0 ≤ x ∧ x < 4) (h : Small c) (e : passG cond v c n = c) {i : Nat} (hi : i < n) : fireG cond v c i = c := by
  have hk : ∀ k, k ≤ n → passG cond v c k = c := fun k hk =>
    strict_eq (passG_small hv h).strict h.strict fun x => ⟨fun hx => by have := passG_mono (cond := cond) (v := v) (c := c) hk x hx; rwa [e] at this, fun hx => passG_sub x hx⟩
  have h1 := hk (i + 1) (by omega)
  rw [passG, hk i (by omega)] at h1
  exact h1
theorem fireG_took (h : Strict c) {i : Nat} (e : fireG cond v c i = c) (hc : cond i c = true) : ∀ x ∈ v i, x ∈ c := by
  intro x hx
  unfold fireG at e
  rw [if_pos hc] at e
  rw [← e]
  exact (uni_mem _ _ _).mpr (.inr hx)
/-- What stays within a set. -/
theorem passG_within {d : List Int} (hd : ∀ i, i < n → ∀ c, (∀ x ∈ c, x ∈ d) → cond i c = true → ∀ x ∈ v i, x ∈ d) (hc : ∀ x ∈ c, x ∈ d) : ∀ {k : Nat}, k ≤ n → ∀ x ∈ passG cond v c k, x ∈ d
  | 0, _, x, hx => hc x hx
  | k + 1, hk, x, hx => by
    have ih := passG_within hd hc (k := k) (by omega)
    rw [passG] at hx
    unfold fireG at hx
    split at hx
    · rename_i hcd
      rcases (uni_mem _ _ _).mp hx with h | h
      · exact ih x h
      · exact hd k (by omega) _ ih hcd x h
    · exact ih x hx
theorem iterG_within {d : List Int} (hd : ∀ i, i < n → ∀ c, (∀ x ∈ c, x ∈ d) → cond i c = true → ∀ x ∈ v i, x ∈ d) (hc : ∀ x ∈ c, x ∈ d) : ∀ {m : Nat}, ∀ x ∈ iterG cond v n c m, x ∈ d
  | 0, x, hx => hc x hx
  | m + 1, x, hx => passG_within hd (iterG_within hd hc (m := m)) (Nat.le_refl _) x hx
end gen

/-! #### attacks -/
def meetB (a b : List Int) : Bool := a.any fun x => decide (x ∈ b)
theorem meetB_mono {a b d : List Int} (h : ∀ x ∈ b, x ∈ d) (hm : meetB a b = true) : meetB a d = true := by
  unfold meetB at hm ⊢
  obtain ⟨x, hx, hb⟩ := List.any_eq_true.mp hm
  exact List.any_eq_true.mpr ⟨x, hx, decide_eq_true (h x (of_decide_eq_true hb))⟩
def without (a b : List Int) : List Int := a.filter fun x => !decide (x ∈ b)
theorem without_len (a b : List Int) : (without a b).length ≤ a.length := List.length_filter_le _ _
theorem without_meets (a b : List Int) : decide ((without a b).length < a.length) = meetB a b := by
  unfold without meetB
  induction a with
  | nil => rfl
  | cons x a ih =>
    have hle : (a.filter fun x => !decide (x ∈ b)).length ≤ a.length := List.length_filter_le _ _
    rcases hx : decide (x ∈ b)
    · rw [List.filter_cons_of_pos (by rw [hx]; rfl), List.any_cons, hx, Bool.false_or, ← ih]
      rw [Bool.eq_iff_iff, decide_eq_true_iff, decide_eq_true_iff]
      simp only [List.length_cons]
      omega
    · rw [List.filter_cons_of_neg (by rw [hx]; simp), List.any_cons, hx, Bool.true_or]
      exact decide_eq_true (by simp only [List.length_cons]; omega)
def outs (ats : List RI) (plus : List Int) (i : Nat) : List Int := without (varsOf (ats.getD i default).l) plus
theorem outs_small (ats : List RI) (plus : List Int) : ∀ i, ∀ x ∈ outs ats plus i, 0 ≤ x ∧ x < 4 := fun i x hx => varsOf_small _ x (List.mem_filter.mp hx).1
theorem outs_Small (ats : List RI) (plus : List Int) (i : Nat) : Small (outs ats plus i) :=
  ⟨List.Pairwise.sublist List.filter_sublist (selN_strict _ _), outs_small ats plus i⟩
def condI (ats : List RI) (plus : List Int) (i : Nat) (c : List Int) : Bool := meetB (outs ats plus i) c
def condS (ats : List RI) (plus : List Int) (k : Nat) (i : Nat) (c : List Int) : Bool := decide (i = k) || meetB (outs ats plus i) c
def att (ats : List RI) (plus : List Int) (k : Nat) : List Int := iterG (condI ats plus) (outs ats plus) ats.length (outs ats plus k) ats.length
theorem att_small (ats : List RI) (plus : List Int) (k : Nat) : Small (att ats plus k) := iterG_small (outs_small ats plus) (outs_Small ats plus k)
theorem Small.nil : Small [] := ⟨List.Pairwise.nil, fun x hx => by cases hx⟩
/-- Both ways lead to the same set. -/
theorem att_spec {ats : List RI} {plus : List Int} {k : Nat} (hk : k < ats.length) : iterG (condS ats plus k) (outs ats plus) ats.length [] (ats.length + 1) = att ats plus k := by
  have hv := outs_small ats plus
  have eB := iterG_stable (cond := condS ats plus k) (n := ats.length) hv Small.nil
  have eA := iterG_stable (cond := condI ats plus) (n := ats.length) hv (outs_Small ats plus k)
  rw [eB]
  have sB := iterG_small (cond := condS ats plus k) (n := ats.length) hv Small.nil (m := ats.length)
  have sA := att_small ats plus k
  have fB : ∀ i, i < ats.length → condS ats plus k i (iterG (condS ats plus k) (outs ats plus) ats.length [] ats.length) = true → ∀ x ∈ outs ats plus i, x ∈ iterG (condS ats plus k) (outs ats plus) ats.length [] ats.length :=
    fun i hi hc => fireG_took sB.strict (fireG_fix hv sB eB hi) hc
  have fA : ∀ i, i < ats.length → condI ats plus i (att ats plus k) = true → ∀ x ∈ outs ats plus i, x ∈ att ats plus k :=
    fun i hi hc => fireG_took sA.strict (fireG_fix hv sA eA hi) hc
  refine strict_eq sB.strict sA.strict fun x => ⟨fun hx => ?_, fun hx => ?_⟩
  · refine iterG_within (d := att ats plus k) (fun i hi c hc hcd => ?_) (fun y hy => by cases hy) x hx
    unfold condS at hcd
    rw [Bool.or_eq_true] at hcd
    rcases hcd with h | h
    · have h := of_decide_eq_true h
      subst h
      exact fun y hy => iterG_sub y hy
    · exact fA i hi (meetB_mono hc h)
  · refine iterG_within (d := iterG (condS ats plus k) (outs ats plus) ats.length [] ats.length) (fun i hi c hc hcd => ?_) (fun y hy => fB k hk (by rw [condS, decide_eq_true rfl]; rfl) y hy) x hx
    refine fB i hi ?_
    rw [condS, meetB_mono hc hcd, Bool.or_true]
theorem att_done {ats : List RI} {plus : List Int} {k j : Nat} (e : iterG (condI ats plus) (outs ats plus) ats.length (outs ats plus k) (j + 1) = iterG (condI ats plus) (outs ats plus) ats.length (outs ats plus k) j) :
    iterG (condI ats plus) (outs ats plus) ats.length (outs ats plus k) j = att ats plus k := by
  have eA := iterG_stable (cond := condI ats plus) (n := ats.length) (outs_small ats plus) (outs_Small ats plus k)
  by_cases h : j ≤ ats.length
  · have h1 := iterG_stays e (ats.length - j)
    rw [show j + (ats.length - j) = ats.length by omega] at h1
    exact h1.symm
  · have h1 := iterG_stays eA (j - ats.length)
    rw [show ats.length + (j - ats.length) = j by omega] at h1
    exact h1
end Go.Proofs.Ytbalifgacjmbpac.A


/- KEY CLOSURES. Conditions: none. -/
namespace Go.Proofs.Ytbalifgacjmbpac.A
open Go
set_option linter.unusedSimpArgs false
set_option linter.unusedVariables false
set_option maxRecDepth 100000

def kcl (l : List Rel) (q : Qu) (k : Int) : List Int := if goodQu l q && inB k 0 ((q.atoms.length : Int) - 1) then acl l q k (keyVars l (q.atoms.getD k.toNat default)) else []
theorem kcl_len (l : List Rel) (q : Qu) (k : Int) : (kcl l q k).length ≤ 4 := by
  unfold kcl; split
  · exact acl_len _ _ _ _
  · simp
theorem specKeyClosure_sat (l : List Rel) (q : Qu) (k : Int) (hl : l.length ≤ 9223372036854775807) (hq : q.fit) : Sat Try.prog 52 [lRels l, lQu q, lInt k] [oInts (kcl l q k)] [g1, g3, g1] := by
  refine sat_of_body mixed Try.func52 rfl (by kernel_rfl) (by kernel_rfl) (rs := [.tmp 6]) rfl rfl rfl ?_
  have hb := hq.1.1
  have w0 : IntKind.i64.wrap ((q.atoms.length : Int) - 1) = (q.atoms.length : Int) - 1 := IntWalk.i64_in _ (by omega)
  simp -implicitDefEqProofs (maxSteps := 2000000) only [go_sem]
  rcases g : goodQu l q
  · rw [show kcl l q k = [] by rw [kcl, g]; rfl]
    refine call_of (specIsValidQuery_sat l q hl hq) (by simp -implicitDefEqProofs (maxSteps := 2000000) only [go_sem, g]) (by kernel_rfl) (by simp -implicitDefEqProofs (maxSteps := 2000000) only [go_sem, g]) ?_
    simp -implicitDefEqProofs (maxSteps := 2000000) only [go_sem, g]
    first | done | rfl | exact ⟨rfl, rfl⟩ | exact ⟨rfl, rfl, rfl⟩ | (refine tr_and ?_ ?_ <;> first | rfl | exact ⟨rfl, rfl⟩ | kernel_rfl)
  rcases i1 : inB k 0 ((q.atoms.length : Int) - 1)
  · rw [show kcl l q k = [] by rw [kcl, i1, Bool.and_false]; rfl]
    refine call_of (specIsValidQuery_sat l q hl hq) (by simp -implicitDefEqProofs (maxSteps := 2000000) only [go_sem, g, w0]) (by kernel_rfl) (by simp -implicitDefEqProofs (maxSteps := 2000000) only [go_sem, g, w0]) ?_
    simp -implicitDefEqProofs (maxSteps := 2000000) only [go_sem, g, w0]
    refine call_of (inB_sat k 0 ((q.atoms.length : Int) - 1)) (by simp -implicitDefEqProofs (maxSteps := 2000000) only [go_sem, i1]) (by kernel_rfl) (by simp -implicitDefEqProofs (maxSteps := 2000000) only [go_sem, i1]) ?_
    simp -implicitDefEqProofs (maxSteps := 2000000) only [go_sem, i1]
    first | done | rfl | exact ⟨rfl, rfl⟩ | exact ⟨rfl, rfl, rfl⟩ | (refine tr_and ?_ ?_ <;> first | rfl | exact ⟨rfl, rfl⟩ | kernel_rfl)
  obtain ⟨r1, r2⟩ := inB_of i1
  obtain ⟨m, rfl⟩ : ∃ m : Nat, k = m := ⟨k.toNat, by omega⟩
  have c1 : m < q.atoms.length := by omega
  have hkl := keyVars_len l (q.atoms.getD m default)
  rw [show kcl l q m = acl l q m (keyVars l (q.atoms.getD m default)) by rw [kcl, g, i1]; rfl]
  refine call_of (specIsValidQuery_sat l q hl hq) (by simp -implicitDefEqProofs (maxSteps := 2000000) only [go_sem, g, w0]) (by kernel_rfl) (by simp -implicitDefEqProofs (maxSteps := 2000000) only [go_sem, g, w0]) ?_
  simp -implicitDefEqProofs (maxSteps := 2000000) only [go_sem, g, w0]
  refine call_of (inB_sat m 0 ((q.atoms.length : Int) - 1)) (by simp -implicitDefEqProofs (maxSteps := 2000000) only [go_sem, i1, c1]) (by kernel_rfl) (by simp -implicitDefEqProofs (maxSteps := 2000000) only [go_sem, i1, c1]) ?_
  simp -implicitDefEqProofs (maxSteps := 2000000) only [go_sem, i1, c1]
  refine call_of (specKeyVariables_sat l (q.atoms.getD m default) hl (hq.1.2 _ (mem_getD default c1))) (by simp -implicitDefEqProofs (maxSteps := 2000000) only [go_sem, c1]) (callOk_still (by kernel_rfl) (by simp only [List.all_cons, List.all_nil, LV.still, LV.leaves, Leaf.still, ints_still, ris_still, eds_still, rels_still, iss_still, ems_still, Bool.and_self, Bool.and_true])) (by simp -implicitDefEqProofs (maxSteps := 2000000) only [go_sem, c1]) ?_
  simp -implicitDefEqProofs (maxSteps := 2000000) only [go_sem, c1]
  refine call_of (specAttributeClosure_sat l q m (keyVars l (q.atoms.getD m default)) hl hq (by omega)) (by simp -implicitDefEqProofs (maxSteps := 2000000) only [go_sem]) (callOk_still (by kernel_rfl) (by simp only [List.all_cons, List.all_nil, LV.still, LV.leaves, Leaf.still, ints_still, ris_still, eds_still, rels_still, iss_still, ems_still, Bool.and_self, Bool.and_true])) (by simp -implicitDefEqProofs (maxSteps := 2000000) only [go_sem]) ?_
  simp -implicitDefEqProofs (maxSteps := 2000000) only [go_sem]
  first | done | rfl | exact ⟨rfl, rfl⟩ | exact ⟨rfl, rfl, rfl⟩ | (refine tr_and ?_ ?_ <;> first | rfl | exact ⟨rfl, rfl⟩ | kernel_rfl)
end Go.Proofs.Ytbalifgacjmbpac.A


/- WHAT AN ATOM ATTACKS: the two programs. Conditions: none. -/
namespace Go.Proofs.Ytbalifgacjmbpac.A
open Go
set_option linter.unusedSimpArgs false
set_option linter.unusedVariables false
set_option maxRecDepth 100000

theorem without_sat (a b : List Int) (ha : a.length ≤ 1048576) (hb : b.length ≤ 9223372036854775807) : Sat Try.prog 61 [lInts a, lInts b] [oInts (without a b)] [g1, g1] := by
  refine sat_of_body mixed Try.func61 rfl (by kernel_rfl) (by kernel_rfl) (rs := [.tmp 4]) rfl rfl rfl ?_
  unfold without
  generalize hp : (fun x => !decide (x ∈ b)) = p
  simp -implicitDefEqProofs (maxSteps := 2000000) only [go_sem]
  refine awp_loop Nat (fun k => mkSt [(1, .one (.im 1 (ints b))), (5, .one (.ref 960 1 0 ((a.take k).filter p).length)), (9, .one (.im 1 (ints a))), (10, .sc (.int .i64 a.length)), (11, .sc (.int .i64 k))] [] [(960, (1, ints ((a.take k).filter p)))] 2000)
    (fun k => k ≤ a.length) (fun k => a.length - k) 0 (by omega) (le_st' _ _ [⟨960, some _, false, 1, _⟩] [] _ (by simp -implicitDefEqProofs (maxSteps := 2000000) only [go_sem] <;> and_intros <;> rfl) (by simp -implicitDefEqProofs (maxSteps := 2000000) only [go_sem] <;> and_intros <;> rfl) (by simp -implicitDefEqProofs (maxSteps := 2000000) only [go_sem] <;> and_intros <;> rfl) (by rfl)) ?_
  rintro k h1
  have hl : ((a.take k).filter p).length ≤ a.length := Nat.le_trans (List.length_filter_le _ _) (by rw [List.length_take]; omega)
  by_cases c1 : k < a.length
  · have t := take_snoc 0 c1
    rcases d : decide (a.getD k 0 ∈ b)
    · simp -implicitDefEqProofs (maxSteps := 2000000) only [go_sem, c1]
      refine call_of (slicesContains_sat b (a.getD k 0) hb) (by simp -implicitDefEqProofs (maxSteps := 2000000) only [go_sem, d, c1]) (by kernel_rfl) (by simp -implicitDefEqProofs (maxSteps := 2000000) only [go_sem, d, c1]) ?_
      simp -implicitDefEqProofs (maxSteps := 2000000) only [go_sem, d, c1]
      refine ⟨by omega, ?_⟩
      rw [i64_succ (by omega)]
      refine ⟨k + 1, c1, by omega, ?_⟩
      rw [t, List.filter_append, List.filter_cons_of_pos (by rw [← hp]; show (!decide (a.getD k 0 ∈ b)) = true; rw [d]; rfl), List.filter_nil]
      exact (le_st' _ _ [⟨960, some _, false, 1, _⟩] [] _ (by simp -implicitDefEqProofs (maxSteps := 2000000) only [go_sem] <;> and_intros <;> rfl) (by simp -implicitDefEqProofs (maxSteps := 2000000) only [go_sem] <;> and_intros <;> rfl) (by simp -implicitDefEqProofs (maxSteps := 2000000) only [go_sem] <;> and_intros <;> rfl) (by rfl))
    · simp -implicitDefEqProofs (maxSteps := 2000000) only [go_sem, c1]
      refine call_of (slicesContains_sat b (a.getD k 0) hb) (by simp -implicitDefEqProofs (maxSteps := 2000000) only [go_sem, d, c1]) (by kernel_rfl) (by simp -implicitDefEqProofs (maxSteps := 2000000) only [go_sem, d, c1]) ?_
      simp -implicitDefEqProofs (maxSteps := 2000000) only [go_sem, d, c1]
      rw [i64_succ (by omega)]
      refine ⟨k + 1, c1, by omega, ?_⟩
      rw [t, List.filter_append, List.filter_cons_of_neg (by rw [← hp]; show ¬ ((!decide (a.getD k 0 ∈ b)) = true); rw [d]; simp), List.filter_nil, List.append_nil]
      exact (le_st' _ _ [⟨960, some _, false, 1, _⟩] [] _ (by simp -implicitDefEqProofs (maxSteps := 2000000) only [go_sem] <;> and_intros <;> rfl) (by simp -implicitDefEqProofs (maxSteps := 2000000) only [go_sem] <;> and_intros <;> rfl) (by simp -implicitDefEqProofs (maxSteps := 2000000) only [go_sem] <;> and_intros <;> rfl) (by rfl))
  · obtain rfl : k = a.length := by omega
    simp -implicitDefEqProofs (maxSteps := 2000000) only [go_sem, c1]
    first | done | rfl | exact ⟨rfl, rfl⟩ | exact ⟨rfl, rfl, rfl⟩ | (refine tr_and ?_ ?_ <;> first | rfl | exact ⟨rfl, rfl⟩ | kernel_rfl)
def attS (l : List Rel) (ats : List RI) (P : List Int) (k : Nat) (c : List Int) (same : Bool) (L : List Int) : St := match same with
  | true => mkSt [(0, .one (.im 3 (rels l))), (1, .one (.im 2 (ris 0 ats))), (9, .one (.ref 962 1 0 P.length)), (10, .one (.ref 960 1 0 c.length)), (11, .one (.ref 960 1 0 c.length)), (36, .one (.im 2 (ris 0 ats))), (37, .sc (.int .i64 ats.length)), (38, .sc (.int .i64 k))] [] [(960, (1, ints c)), (962, (1, ints P))] 9000
  | false => mkSt [(0, .one (.im 3 (rels l))), (1, .one (.im 2 (ris 0 ats))), (9, .one (.ref 962 1 0 P.length)), (10, .one (.ref 960 1 0 c.length)), (11, .one (.ref 961 1 0 L.length)), (36, .one (.im 2 (ris 0 ats))), (37, .sc (.int .i64 ats.length)), (38, .sc (.int .i64 k))] [] [(960, (1, ints c)), (961, (1, ints L)), (962, (1, ints P))] 9000
theorem frz_twoO (n : Nat) (a b : List Int) : frz [[Cell.sl 0 (iv a)], [Cell.sl n (iv b)]] = iss 0 [a, b] := rfl
theorem attacked_sat (l : List Rel) (ats : List RI) (fr : List Int) (k0 : Nat) (hl : l.length ≤ 9223372036854775807) (ha : ats.length ≤ 1048576) (hx : ∀ x ∈ ats, x.ok) (hf : fr.length ≤ 1048576) (hk : k0 < ats.length) (hs : Small (uni (fr ++ keyVars l (ats.getD k0 default)) [])) :
    Sat Try.prog 62 [lRels l, lRIs ats, lInts fr, lInt k0] [oInts (att ats (clos l ats k0 (uni (fr ++ keyVars l (ats.getD k0 default)) [])) k0)] [g1, g1, g1, g1] := by
  refine sat_of_body mixed Try.func62 rfl (by kernel_rfl) (by kernel_rfl) (rs := [.tmp 8]) rfl rfl rfl ?_
  have hok0 := hx _ (mem_getD default hk)
  have hkl := keyVars_len l (ats.getD k0 default)
  have hP := clos_small (l := l) (ats := ats) (skip := (k0 : Int)) hs
  have hvl0 := varsOf_len (ats.getD k0 default).l
  simp -implicitDefEqProofs (maxSteps := 2000000) only [go_sem, hk]
  refine call_of (implKeyVariables_sat l (ats.getD k0 default) hl hok0) (by simp -implicitDefEqProofs (maxSteps := 2000000) only [go_sem, hk]) (callOk_still (by kernel_rfl) (by simp only [List.all_cons, List.all_nil, LV.still, LV.leaves, Leaf.still, ints_still, ris_still, eds_still, rels_still, iss_still, ems_still, Bool.and_self, Bool.and_true])) (by simp -implicitDefEqProofs (maxSteps := 2000000) only [go_sem, hk]) ?_
  simp -implicitDefEqProofs (maxSteps := 2000000) only [go_sem, hk]
  refine call_of (slicesConcat_sat [fr, keyVars l (ats.getD k0 default)] (by simp) (by simp [-List.getD_eq_getElem?_getD]; omega)) (by simp -implicitDefEqProofs (maxSteps := 2000000) only [go_sem, frz_twoO]) (callOk_still (by kernel_rfl) (by simp only [List.all_cons, List.all_nil, LV.still, LV.leaves, Leaf.still, ints_still, ris_still, eds_still, rels_still, iss_still, ems_still, Bool.and_self, Bool.and_true])) (by simp -implicitDefEqProofs (maxSteps := 2000000) only [go_sem, frz_twoO]) ?_
  simp -implicitDefEqProofs (maxSteps := 2000000) only [go_sem, frz_twoO]
  have ht : List.take (fr.length + (keyVars l (ats.getD k0 default)).length) (fr ++ keyVars l (ats.getD k0 default)) = fr ++ keyVars l (ats.getD k0 default) := by rw [← List.length_append, List.take_length]
  refine call_of (closure_sat l ats k0 (fr ++ keyVars l (ats.getD k0 default)) hl ha hx (by rw [List.length_append]; omega) hs) (by simp -implicitDefEqProofs (maxSteps := 2000000) only [go_sem, ht, hk]) (callOk_still (by kernel_rfl) (by simp only [List.all_cons, List.all_nil, LV.still, LV.leaves, Leaf.still, ints_still, ris_still, eds_still, rels_still, iss_still, ems_still, Bool.and_self, Bool.and_true])) (by simp -implicitDefEqProofs (maxSteps := 2000000) only [go_sem, ht, hk]) ?_
  simp -implicitDefEqProofs (maxSteps := 2000000) only [go_sem, ht, hk]
  first | (with_reducible refine tr_and ?_ ?_; focus kernel_rfl) | (with_reducible refine tr_only ?_; kernel_rfl) | skip
  generalize clos l ats k0 (uni (fr ++ keyVars l (ats.getD k0 default)) []) = P at hP ⊢
  have hPl := hP.len
  refine call_of (implAtomVariables_sat (ats.getD k0 default) hok0) (by simp -implicitDefEqProofs (maxSteps := 2000000) only [go_sem, hk]) (callOk_still (by kernel_rfl) (by simp only [List.all_cons, List.all_nil, LV.still, LV.leaves, Leaf.still, ints_still, ris_still, eds_still, rels_still, iss_still, ems_still, Bool.and_self, Bool.and_true])) (by simp -implicitDefEqProofs (maxSteps := 2000000) only [go_sem, hk]) ?_
  simp -implicitDefEqProofs (maxSteps := 2000000) only [go_sem, hk]
  refine call_of (without_sat (varsOf (ats.getD k0 default).l) P (by omega) (by omega)) (by simp -implicitDefEqProofs (maxSteps := 2000000) only [go_sem, hk]) (callOk_still (by kernel_rfl) (by simp only [List.all_cons, List.all_nil, LV.still, LV.leaves, Leaf.still, ints_still, ris_still, eds_still, rels_still, iss_still, ems_still, Bool.and_self, Bool.and_true])) (by simp -implicitDefEqProofs (maxSteps := 2000000) only [go_sem, hk]) ?_
  simp -implicitDefEqProofs (maxSteps := 2000000) only [go_sem, hk]
  first | (with_reducible refine tr_and ?_ ?_; focus kernel_rfl) | (with_reducible refine tr_only ?_; kernel_rfl) | skip
  have hO : without (varsOf (ats.getD k0 default).l) P = outs ats P k0 := rfl
  rw [hO]
  have hv := outs_small ats P
  have hs0 := outs_Small ats P k0
  generalize hc0 : outs ats P k0 = c0 at hs0 ⊢
  refine awp_loop Nat (fun j => mkSt [(0, .one (.im 3 (rels l))), (1, .one (.im 2 (ris 0 ats))), (9, .one (.ref 962 1 0 P.length)), (10, .one (.ref 960 1 0 (iterG (condI ats P) (outs ats P) ats.length c0 j).length))] [] [(960, (1, ints (iterG (condI ats P) (outs ats P) ats.length c0 j))), (962, (1, ints P))] 6000)
    (fun j => j ≤ 4 ∧ j ≤ (iterG (condI ats P) (outs ats P) ats.length c0 j).length) (fun j => 4 - j) 0 ⟨by omega, by omega⟩ (le_st' _ _ [⟨960, some _, false, 1, _⟩, ⟨962, some _, false, 1, _⟩] [] _ (by simp -implicitDefEqProofs (maxSteps := 2000000) only [go_sem] <;> and_intros <;> rfl) (by simp -implicitDefEqProofs (maxSteps := 2000000) only [go_sem] <;> and_intros <;> rfl) (by simp -implicitDefEqProofs (maxSteps := 2000000) only [go_sem] <;> and_intros <;> rfl) (by rfl)) ?_
  rintro j ⟨h1, h2⟩
  have sm := iterG_small (cond := condI ats P) (n := ats.length) hv hs0 (m := j)
  generalize hc : iterG (condI ats P) (outs ats P) ats.length c0 j = c at h2 sm ⊢
  have hcl := sm.len
  simp -implicitDefEqProofs (maxSteps := 2000000) only [go_sem]
  refine awp_loop (Nat × Bool × List Int) (fun x => attS l ats P x.1 c x.2.1 x.2.2)
    (fun x => x.1 ≤ ats.length ∧ x.2.2 = passG (condI ats P) (outs ats P) c x.1 ∧ (x.2.1 = true → x.2.2 = c)) (fun x => ats.length - x.1) (0, true, c) ⟨by simp, rfl, fun _ => rfl⟩ (le_st' _ _ [⟨960, some _, false, 1, _⟩, ⟨962, some _, false, 1, _⟩] [] _ (by simp -implicitDefEqProofs (maxSteps := 2000000) only [go_sem] <;> and_intros <;> rfl) (by simp -implicitDefEqProofs (maxSteps := 2000000) only [go_sem] <;> and_intros <;> rfl) (by simp -implicitDefEqProofs (maxSteps := 2000000) only [go_sem] <;> and_intros <;> rfl) (by rfl)) ?_
  rintro ⟨k, same, L⟩ ⟨h3, h4, h5⟩
  simp only at h3 h4 h5
  have smL : Small L := by rw [h4]; exact passG_small hv sm
  have hLl := smL.len
  by_cases c1 : k < ats.length
  · have hok := hx _ (mem_getD default c1)
    have hvl := varsOf_len (ats.getD k default).l
    have hol := without_len (varsOf (ats.getD k default).l) P
    have wi : IntKind.i64.wrap ((k : Int) + 1) = ((k + 1 : Nat) : Int) := i64_succ (by omega)
    have hom := without_meets (outs ats P k) L
    have hOk : without (varsOf (ats.getD k default).l) P = outs ats P k := rfl
    rw [hOk] at hol
    have hll := without_len (outs ats P k) L
    rcases d2 : meetB (outs ats P k) L
    · have e : passG (condI ats P) (outs ats P) c (k + 1) = L := by rw [passG, ← h4, fireG, condI, d2]; rfl
      rw [d2] at hom
      cases same with
      | true =>
        have hLc := h5 rfl
        rw [hLc] at hom
        dsimp only [attS]
        simp -implicitDefEqProofs (maxSteps := 2000000) only [go_sem, c1]
        refine call_of (implAtomVariables_sat (ats.getD k default) hok) (by simp -implicitDefEqProofs (maxSteps := 2000000) only [go_sem, c1]) (callOk_still (by kernel_rfl) (by simp only [List.all_cons, List.all_nil, LV.still, LV.leaves, Leaf.still, ints_still, ris_still, eds_still, rels_still, iss_still, ems_still, Bool.and_self, Bool.and_true])) (by simp -implicitDefEqProofs (maxSteps := 2000000) only [go_sem, c1]) ?_
        simp -implicitDefEqProofs (maxSteps := 2000000) only [go_sem, c1]
        refine call_of (without_sat (varsOf (ats.getD k default).l) P (by omega) (by omega)) (by simp -implicitDefEqProofs (maxSteps := 2000000) only [go_sem, hOk]) (callOk_still (by kernel_rfl) (by simp only [List.all_cons, List.all_nil, LV.still, LV.leaves, Leaf.still, ints_still, ris_still, eds_still, rels_still, iss_still, ems_still, Bool.and_self, Bool.and_true])) (by simp -implicitDefEqProofs (maxSteps := 2000000) only [go_sem, hOk]) ?_
        simp -implicitDefEqProofs (maxSteps := 2000000) only [go_sem, hOk]
        refine call_of (without_sat (outs ats P k) c (by omega) (by omega)) (by simp -implicitDefEqProofs (maxSteps := 2000000) only [go_sem, hom]) (callOk_still (by kernel_rfl) (by simp only [List.all_cons, List.all_nil, LV.still, LV.leaves, Leaf.still, ints_still, ris_still, eds_still, rels_still, iss_still, ems_still, Bool.and_self, Bool.and_true])) (by simp -implicitDefEqProofs (maxSteps := 2000000) only [go_sem, hom]) ?_
        simp -implicitDefEqProofs (maxSteps := 2000000) only [go_sem, hom]
        rw [wi]
        exact ⟨(k + 1, true, L), ⟨c1, e.symm, fun _ => h5 rfl⟩, by simp; omega, (le_st' _ _ [⟨960, some _, false, 1, _⟩, ⟨962, some _, false, 1, _⟩] [] _ (by simp -implicitDefEqProofs (maxSteps := 2000000) only [go_sem] <;> and_intros <;> rfl) (by simp -implicitDefEqProofs (maxSteps := 2000000) only [go_sem] <;> and_intros <;> rfl) (by simp -implicitDefEqProofs (maxSteps := 2000000) only [go_sem] <;> and_intros <;> rfl) (by rfl))⟩
      | false =>
        dsimp only [attS]
        simp -implicitDefEqProofs (maxSteps := 2000000) only [go_sem, c1]
        refine call_of (implAtomVariables_sat (ats.getD k default) hok) (by simp -implicitDefEqProofs (maxSteps := 2000000) only [go_sem, c1]) (callOk_still (by kernel_rfl) (by simp only [List.all_cons, List.all_nil, LV.still, LV.leaves, Leaf.still, ints_still, ris_still, eds_still, rels_still, iss_still, ems_still, Bool.and_self, Bool.and_true])) (by simp -implicitDefEqProofs (maxSteps := 2000000) only [go_sem, c1]) ?_
        simp -implicitDefEqProofs (maxSteps := 2000000) only [go_sem, c1]
        refine call_of (without_sat (varsOf (ats.getD k default).l) P (by omega) (by omega)) (by simp -implicitDefEqProofs (maxSteps := 2000000) only [go_sem, hOk]) (callOk_still (by kernel_rfl) (by simp only [List.all_cons, List.all_nil, LV.still, LV.leaves, Leaf.still, ints_still, ris_still, eds_still, rels_still, iss_still, ems_still, Bool.and_self, Bool.and_true])) (by simp -implicitDefEqProofs (maxSteps := 2000000) only [go_sem, hOk]) ?_
        simp -implicitDefEqProofs (maxSteps := 2000000) only [go_sem, hOk]
        refine call_of (without_sat (outs ats P k) L (by omega) (by omega)) (by simp -implicitDefEqProofs (maxSteps := 2000000) only [go_sem, hom]) (callOk_still (by kernel_rfl) (by simp only [List.all_cons, List.all_nil, LV.still, LV.leaves, Leaf.still, ints_still, ris_still, eds_still, rels_still, iss_still, ems_still, Bool.and_self, Bool.and_true])) (by simp -implicitDefEqProofs (maxSteps := 2000000) only [go_sem, hom]) ?_
        simp -implicitDefEqProofs (maxSteps := 2000000) only [go_sem, hom]
        rw [wi]
        exact ⟨(k + 1, false, L), ⟨c1, e.symm, fun h => by cases h⟩, by simp; omega, (le_st' _ _ [⟨960, some _, false, 1, _⟩, ⟨961, some _, false, 1, _⟩, ⟨962, some _, false, 1, _⟩] [] _ (by simp -implicitDefEqProofs (maxSteps := 2000000) only [go_sem] <;> and_intros <;> rfl) (by simp -implicitDefEqProofs (maxSteps := 2000000) only [go_sem] <;> and_intros <;> rfl) (by simp -implicitDefEqProofs (maxSteps := 2000000) only [go_sem] <;> and_intros <;> rfl) (by rfl))⟩
    · have e : passG (condI ats P) (outs ats P) c (k + 1) = uni L (outs ats P k) := by rw [passG, ← h4, fireG, condI, d2]; rfl
      rw [d2] at hom
      cases same with
      | true =>
        have hLc := h5 rfl
        rw [hLc] at hom e
        dsimp only [attS]
        simp -implicitDefEqProofs (maxSteps := 2000000) only [go_sem, c1]
        refine call_of (implAtomVariables_sat (ats.getD k default) hok) (by simp -implicitDefEqProofs (maxSteps := 2000000) only [go_sem, c1]) (callOk_still (by kernel_rfl) (by simp only [List.all_cons, List.all_nil, LV.still, LV.leaves, Leaf.still, ints_still, ris_still, eds_still, rels_still, iss_still, ems_still, Bool.and_self, Bool.and_true])) (by simp -implicitDefEqProofs (maxSteps := 2000000) only [go_sem, c1]) ?_
        simp -implicitDefEqProofs (maxSteps := 2000000) only [go_sem, c1]
        refine call_of (without_sat (varsOf (ats.getD k default).l) P (by omega) (by omega)) (by simp -implicitDefEqProofs (maxSteps := 2000000) only [go_sem, hOk]) (callOk_still (by kernel_rfl) (by simp only [List.all_cons, List.all_nil, LV.still, LV.leaves, Leaf.still, ints_still, ris_still, eds_still, rels_still, iss_still, ems_still, Bool.and_self, Bool.and_true])) (by simp -implicitDefEqProofs (maxSteps := 2000000) only [go_sem, hOk]) ?_
        simp -implicitDefEqProofs (maxSteps := 2000000) only [go_sem, hOk]
        refine call_of (without_sat (outs ats P k) c (by omega) (by omega)) (by simp -implicitDefEqProofs (maxSteps := 2000000) only [go_sem, hom]) (callOk_still (by kernel_rfl) (by simp only [List.all_cons, List.all_nil, LV.still, LV.leaves, Leaf.still, ints_still, ris_still, eds_still, rels_still, iss_still, ems_still, Bool.and_self, Bool.and_true])) (by simp -implicitDefEqProofs (maxSteps := 2000000) only [go_sem, hom]) ?_
        simp -implicitDefEqProofs (maxSteps := 2000000) only [go_sem, hom]
        refine call_of (union_sat c (outs ats P k) (by omega)) (by simp -implicitDefEqProofs (maxSteps := 2000000) only [go_sem]) (callOk_still (by kernel_rfl) (by simp only [List.all_cons, List.all_nil, LV.still, LV.leaves, Leaf.still, ints_still, ris_still, eds_still, rels_still, iss_still, ems_still, Bool.and_self, Bool.and_true])) (by simp -implicitDefEqProofs (maxSteps := 2000000) only [go_sem]) ?_
        simp -implicitDefEqProofs (maxSteps := 2000000) only [go_sem]
        rw [wi]
        exact ⟨(k + 1, false, uni c (outs ats P k)), ⟨c1, e.symm, fun h => by cases h⟩, by simp; omega, (le_st' _ _ [⟨960, some _, false, 1, _⟩, ⟨961, some _, false, 1, _⟩, ⟨962, some _, false, 1, _⟩] [] _ (by simp -implicitDefEqProofs (maxSteps := 2000000) only [go_sem] <;> and_intros <;> rfl) (by simp -implicitDefEqProofs (maxSteps := 2000000) only [go_sem] <;> and_intros <;> rfl) (by simp -implicitDefEqProofs (maxSteps := 2000000) only [go_sem] <;> and_intros <;> rfl) (by rfl))⟩
      | false =>
        dsimp only [attS]
        simp -implicitDefEqProofs (maxSteps := 2000000) only [go_sem, c1]
        refine call_of (implAtomVariables_sat (ats.getD k default) hok) (by simp -implicitDefEqProofs (maxSteps := 2000000) only [go_sem, c1]) (callOk_still (by kernel_rfl) (by simp only [List.all_cons, List.all_nil, LV.still, LV.leaves, Leaf.still, ints_still, ris_still, eds_still, rels_still, iss_still, ems_still, Bool.and_self, Bool.and_true])) (by simp -implicitDefEqProofs (maxSteps := 2000000) only [go_sem, c1]) ?_
        simp -implicitDefEqProofs (maxSteps := 2000000) only [go_sem, c1]
        refine call_of (without_sat (varsOf (ats.getD k default).l) P (by omega) (by omega)) (by simp -implicitDefEqProofs (maxSteps := 2000000) only [go_sem, hOk]) (callOk_still (by kernel_rfl) (by simp only [List.all_cons, List.all_nil, LV.still, LV.leaves, Leaf.still, ints_still, ris_still, eds_still, rels_still, iss_still, ems_still, Bool.and_self, Bool.and_true])) (by simp -implicitDefEqProofs (maxSteps := 2000000) only [go_sem, hOk]) ?_
        simp -implicitDefEqProofs (maxSteps := 2000000) only [go_sem, hOk]
        refine call_of (without_sat (outs ats P k) L (by omega) (by omega)) (by simp -implicitDefEqProofs (maxSteps := 2000000) only [go_sem, hom]) (callOk_still (by kernel_rfl) (by simp only [List.all_cons, List.all_nil, LV.still, LV.leaves, Leaf.still, ints_still, ris_still, eds_still, rels_still, iss_still, ems_still, Bool.and_self, Bool.and_true])) (by simp -implicitDefEqProofs (maxSteps := 2000000) only [go_sem, hom]) ?_
        simp -implicitDefEqProofs (maxSteps := 2000000) only [go_sem, hom]
        refine call_of (union_sat L (outs ats P k) (by omega)) (by simp -implicitDefEqProofs (maxSteps := 2000000) only [go_sem]) (callOk_still (by kernel_rfl) (by simp only [List.all_cons, List.all_nil, LV.still, LV.leaves, Leaf.still, ints_still, ris_still, eds_still, rels_still, iss_still, ems_still, Bool.and_self, Bool.and_true])) (by simp -implicitDefEqProofs (maxSteps := 2000000) only [go_sem]) ?_
        simp -implicitDefEqProofs (maxSteps := 2000000) only [go_sem]
        rw [wi]
        exact ⟨(k + 1, false, uni L (outs ats P k)), ⟨c1, e.symm, fun h => by cases h⟩, by simp; omega, (le_st' _ _ [⟨960, some _, false, 1, _⟩, ⟨961, some _, false, 1, _⟩, ⟨962, some _, false, 1, _⟩] [] _ (by simp -implicitDefEqProofs (maxSteps := 2000000) only [go_sem] <;> and_intros <;> rfl) (by simp -implicitDefEqProofs (maxSteps := 2000000) only [go_sem] <;> and_intros <;> rfl) (by simp -implicitDefEqProofs (maxSteps := 2000000) only [go_sem] <;> and_intros <;> rfl) (by rfl))⟩
  obtain rfl : k = ats.length := by omega
  have fin : L = c → att ats P k0 = c := fun e => by
    have e2 : iterG (condI ats P) (outs ats P) ats.length (outs ats P k0) (j + 1) = iterG (condI ats P) (outs ats P) ats.length (outs ats P k0) j := by
      rw [hc0]
      show passG (condI ats P) (outs ats P) (iterG (condI ats P) (outs ats P) ats.length c0 j) ats.length = _
      rw [hc, ← h4, e]
    rw [← att_done e2, hc0, hc]
  cases same with
  | true =>
    rw [fin (h5 rfl)]
    dsimp only [attS]
    simp -implicitDefEqProofs (maxSteps := 2000000) only [go_sem, c1]
    first | done | rfl | exact ⟨rfl, rfl⟩ | exact ⟨rfl, rfl, rfl⟩ | (refine tr_and ?_ ?_ <;> first | rfl | exact ⟨rfl, rfl⟩ | kernel_rfl)
  | false =>
    dsimp only [attS]
    have hsub := strict_sub_len sm.strict smL.strict fun x hx => by rw [h4]; exact passG_sub x hx
    rcases d3 : ((L.length : Int) == c.length)
    · have hne : (L.length : Int) ≠ c.length := by simpa using d3
      simp -implicitDefEqProofs (maxSteps := 2000000) only [go_sem, c1, d3]
      refine ⟨j + 1, ⟨by omega, ?_⟩, by omega, ?_⟩
      · rw [show iterG (condI ats P) (outs ats P) ats.length c0 (j + 1) = L by rw [h4, ← hc]; rfl]; omega
      · rw [show iterG (condI ats P) (outs ats P) ats.length c0 (j + 1) = L by rw [h4, ← hc]; rfl]
        exact (le_st' _ _ [⟨960, some _, false, 1, _⟩, ⟨962, some _, false, 1, _⟩] [] _ (by simp -implicitDefEqProofs (maxSteps := 2000000) only [go_sem] <;> and_intros <;> rfl) (by simp -implicitDefEqProofs (maxSteps := 2000000) only [go_sem] <;> and_intros <;> rfl) (by simp -implicitDefEqProofs (maxSteps := 2000000) only [go_sem] <;> and_intros <;> rfl) (by rfl))
    · have he : L = c := (hsub.2 (by have := eq_of_beq d3; omega)).symm
      rw [fin he]
      simp -implicitDefEqProofs (maxSteps := 2000000) only [go_sem, c1, d3]
      first | done | rfl | exact ⟨rfl, rfl⟩ | exact ⟨rfl, rfl, rfl⟩ | (refine tr_and ?_ ?_ <;> first | rfl | exact ⟨rfl, rfl⟩ | kernel_rfl)
/-- The variables that an atom attacks. -/
def attV (l : List Rel) (q : Qu) (k : Int) : List Int := if goodQu l q && inB k 0 ((q.atoms.length : Int) - 1) then att q.atoms (kcl l q k) k.toNat else []
theorem attV_small (l : List Rel) (q : Qu) (k : Int) : Small (attV l q k) := by
  unfold attV; split
  · exact att_small _ _ _
  · exact Small.nil
theorem keyVars_small (l : List Rel) (a : RI) : ∀ x ∈ keyVars l a, 0 ≤ x ∧ x < 4 := by
  unfold keyVars; split
  · exact varsOf_small _
  · intro x hx; cases hx
theorem start_keys {l : List Rel} {q : Qu} (h : goodQu l q = true) (a : RI) : uni (q.free ++ keyVars l a) [] = start q (keyVars l a) := by
  rw [← start_uni h]
  congr 2
  refine (List.filter_eq_self.mpr fun x hx => ?_).symm
  have := keyVars_small l a x hx
  unfold inB
  simp only [Bool.and_eq_true, decide_eq_true_eq]
  omega
theorem attV_eq {l : List Rel} {q : Qu} {m : Nat} (g : goodQu l q = true) (hm : m < q.atoms.length) : attV l q m = att q.atoms (clos l q.atoms m (uni (q.free ++ keyVars l (q.atoms.getD m default)) [])) m := by
  have i1 : inB (m : Int) 0 ((q.atoms.length : Int) - 1) = true := by
    unfold inB; simp only [Bool.and_eq_true, decide_eq_true_eq]; omega
  rw [attV, kcl, acl, g, i1, start_keys g]
  rfl
end Go.Proofs.Ytbalifgacjmbpac.A


/- WHAT AN ATOM ATTACKS: the reference; attacks between atoms. Conditions: none. -/
namespace Go.Proofs.Ytbalifgacjmbpac.A
open Go
set_option linter.unusedSimpArgs false
set_option linter.unusedVariables false
set_option maxRecDepth 100000

theorem any_stepA {α : Type} {d : α} {l : List α} {k : Nat} {p : α → Bool} (h : k < l.length) : (l.take (k + 1)).any p = ((l.take k).any p || p (l.getD k d)) := by
  rw [take_snoc d h, List.any_append]; simp
theorem passG_all {cond : Nat → List Int → Bool} {v : Nat → List Int} {c : List Int} {p : Int → Prop} (hv : ∀ i, ∀ x ∈ v i, p x) (hc : ∀ x ∈ c, p x) : ∀ (k : Nat), ∀ x ∈ passG cond v c k, p x
  | 0, x, hx => hc x hx
  | k + 1, x, hx => by
    have ih : ∀ x ∈ passG cond v c k, p x := passG_all hv hc k
    rw [passG] at hx
    unfold fireG at hx
    split at hx
    · rcases (uni_mem _ _ _).mp hx with h | h
      · exact ih x h
      · exact hv k x h
    · exact ih x hx
theorem iterG_all {cond : Nat → List Int → Bool} {v : Nat → List Int} {c : List Int} {p : Int → Prop} {n : Nat} (hv : ∀ i, ∀ x ∈ v i, p x) (hc : ∀ x ∈ c, p x) : ∀ (m : Nat), ∀ x ∈ iterG cond v n c m, p x
  | 0, x, hx => hc x hx
  | m + 1, x, hx => passG_all hv (iterG_all hv hc m) n x hx
theorem without_mem {a b : List Int} {x : Int} : x ∈ without a b ↔ x ∈ a ∧ x ∉ b := by
  unfold without
  rw [List.mem_filter]
  simp
theorem meet_without {a b c : List Int} (h : ∀ x ∈ c, x ∉ b) : meetB a c = meetB (without a b) c := by
  rw [Bool.eq_iff_iff]
  unfold meetB
  rw [List.any_eq_true, List.any_eq_true]
  constructor
  · rintro ⟨x, hx, hc⟩
    exact ⟨x, without_mem.mpr ⟨hx, h x (of_decide_eq_true hc)⟩, hc⟩
  · rintro ⟨x, hx, hc⟩
    exact ⟨x, (without_mem.mp hx).1, hc⟩
/-- A set with the first j of some numbers, those outside another set. -/
def addJ (c v P : List Int) (j : Nat) : List Int := selN (fun x => decide (x ∈ c) || decide (x ∈ without (v.take j) P)) 4
theorem addJ_zero {c v P : List Int} (h : Small c) : addJ c v P 0 = c := by
  unfold addJ
  rw [h.eq_selN]
  congr 1
  funext x
  rw [List.take_zero]
  simp only [without, List.filter_nil, List.not_mem_nil, decide_false, Bool.or_false]
  rw [← h.eq_selN]
theorem addJ_skip {c v P : List Int} {j : Nat} (hj : j < v.length) (hp : decide (v.getD j 0 ∈ P) = true) : addJ c v P (j + 1) = addJ c v P j := by
  unfold addJ without
  rw [take_snoc 0 hj, List.filter_append, List.filter_cons_of_neg (by rw [hp]; simp), List.filter_nil, List.append_nil]
theorem addJ_take {c v P : List Int} {j : Nat} (hj : j < v.length) (hp : decide (v.getD j 0 ∈ P) = false) : selN (fun x => decide (x ∈ addJ c v P j) || decide (x ∈ [v.getD j 0])) 4 = addJ c v P (j + 1) := by
  refine strict_eq (selN_strict _ _) (selN_strict _ _) fun x => ?_
  rw [selN_mem, show addJ c v P (j + 1) = selN (fun x => decide (x ∈ c) || decide (x ∈ without (v.take (j + 1)) P)) 4 from rfl, selN_mem]
  have e : without (v.take (j + 1)) P = without (v.take j) P ++ [v.getD j 0] := by
    unfold without
    rw [take_snoc 0 hj, List.filter_append, List.filter_cons_of_pos (by rw [hp]; rfl), List.filter_nil]
  rw [e]
  simp only [Bool.or_eq_true, decide_eq_true_eq, List.mem_append, List.mem_singleton]
  unfold addJ
  rw [selN_mem]
  simp only [Bool.or_eq_true, decide_eq_true_eq]
  constructor
  · rintro ⟨h1, h2, ⟨h3, h4, h5⟩ | h3⟩
    · exact ⟨h1, h2, h5.elim .inl fun h => .inr (.inl h)⟩
    · exact ⟨h1, h2, .inr (.inr h3)⟩
  · rintro ⟨h1, h2, h3 | h3 | h3⟩
    · exact ⟨h1, h2, .inl ⟨h1, h2, .inl h3⟩⟩
    · exact ⟨h1, h2, .inl ⟨h1, h2, .inr h3⟩⟩
    · exact ⟨h1, h2, .inr h3⟩
theorem addJ_full {c P : List Int} {ats : List RI} {i : Nat} (h : Small c) : addJ c (varsOf (ats.getD i default).l) P (varsOf (ats.getD i default).l).length = uni c (outs ats P i) := by
  unfold addJ
  rw [List.take_length]
  refine strict_eq (selN_strict _ _) (uni_strict _ _) fun x => ?_
  rw [selN_mem, uni_mem]
  simp only [Bool.or_eq_true, decide_eq_true_eq]
  refine ⟨fun h => h.2.2, fun k => ⟨?_, ?_, k⟩⟩
  · exact k.elim (fun k => (h.small x k).1) (fun k => (outs_small ats P i x k).1)
  · exact k.elim (fun k => (h.small x k).2) (fun k => (outs_small ats P i x k).2)
theorem addJ_len (c v P : List Int) (j : Nat) : (addJ c v P j).length ≤ 4 := selN_len _ 4
theorem specAttackedVariables_sat (l : List Rel) (q : Qu) (k : Int) (hl : l.length ≤ 9223372036854775807) (hq : q.fit) : Sat Try.prog 31 [lRels l, lQu q, lInt k] [oInts (attV l q k)] [g1, g3, g1] := by
  refine sat_of_body mixed Try.func31 rfl (by kernel_rfl) (by kernel_rfl) (rs := [.tmp 6]) rfl rfl rfl ?_
  have hb := hq.1.1
  have w0 : IntKind.i64.wrap ((q.atoms.length : Int) - 1) = (q.atoms.length : Int) - 1 := IntWalk.i64_in _ (by omega)
  simp -implicitDefEqProofs (maxSteps := 2000000) only [go_sem]
  rcases g : goodQu l q
  · rw [show attV l q k = [] by rw [attV, g]; rfl]
    refine call_of (specIsValidQuery_sat l q hl hq) (by simp -implicitDefEqProofs (maxSteps := 2000000) only [go_sem, g]) (by kernel_rfl) (by simp -implicitDefEqProofs (maxSteps := 2000000) only [go_sem, g]) ?_
    simp -implicitDefEqProofs (maxSteps := 2000000) only [go_sem, g]
    first | done | rfl | exact ⟨rfl, rfl⟩ | exact ⟨rfl, rfl, rfl⟩ | (refine tr_and ?_ ?_ <;> first | rfl | exact ⟨rfl, rfl⟩ | kernel_rfl)
  rcases i1 : inB k 0 ((q.atoms.length : Int) - 1)
  · rw [show attV l q k = [] by rw [attV, i1, Bool.and_false]; rfl]
    refine call_of (specIsValidQuery_sat l q hl hq) (by simp -implicitDefEqProofs (maxSteps := 2000000) only [go_sem, g, w0]) (by kernel_rfl) (by simp -implicitDefEqProofs (maxSteps := 2000000) only [go_sem, g, w0]) ?_
    simp -implicitDefEqProofs (maxSteps := 2000000) only [go_sem, g, w0]
    refine call_of (inB_sat k 0 ((q.atoms.length : Int) - 1)) (by simp -implicitDefEqProofs (maxSteps := 2000000) only [go_sem, i1]) (by kernel_rfl) (by simp -implicitDefEqProofs (maxSteps := 2000000) only [go_sem, i1]) ?_
    simp -implicitDefEqProofs (maxSteps := 2000000) only [go_sem, i1]
    first | done | rfl | exact ⟨rfl, rfl⟩ | exact ⟨rfl, rfl, rfl⟩ | (refine tr_and ?_ ?_ <;> first | rfl | exact ⟨rfl, rfl⟩ | kernel_rfl)
  obtain ⟨r1, r2⟩ := inB_of i1
  obtain ⟨m, rfl⟩ : ∃ m : Nat, k = m := ⟨k.toNat, by omega⟩
  have c1 : m < q.atoms.length := by omega
  have h3 := atoms3 g
  have hPl := kcl_len l q m
  rw [show attV l q m = att q.atoms (kcl l q m) m by rw [attV, g, i1]; rfl]
  refine call_of (specIsValidQuery_sat l q hl hq) (by simp -implicitDefEqProofs (maxSteps := 2000000) only [go_sem, g, w0]) (by kernel_rfl) (by simp -implicitDefEqProofs (maxSteps := 2000000) only [go_sem, g, w0]) ?_
  simp -implicitDefEqProofs (maxSteps := 2000000) only [go_sem, g, w0]
  refine call_of (inB_sat m 0 ((q.atoms.length : Int) - 1)) (by simp -implicitDefEqProofs (maxSteps := 2000000) only [go_sem, i1, c1]) (by kernel_rfl) (by simp -implicitDefEqProofs (maxSteps := 2000000) only [go_sem, i1, c1]) ?_
  simp -implicitDefEqProofs (maxSteps := 2000000) only [go_sem, i1, c1]
  refine call_of (specKeyClosure_sat l q m hl hq) (by simp -implicitDefEqProofs (maxSteps := 2000000) only [go_sem]) (callOk_still (by kernel_rfl) (by simp only [List.all_cons, List.all_nil, LV.still, LV.leaves, Leaf.still, ints_still, ris_still, eds_still, rels_still, iss_still, ems_still, Bool.and_self, Bool.and_true])) (by simp -implicitDefEqProofs (maxSteps := 2000000) only [go_sem]) ?_
  simp -implicitDefEqProofs (maxSteps := 2000000) only [go_sem]
  generalize kcl l q m = P at hPl ⊢
  rw [← att_spec c1]
  have hv := outs_small q.atoms P
  have hp : ∀ i, ∀ x ∈ outs q.atoms P i, x ∉ P := fun i x hx => (without_mem.mp hx).2
  refine awp_loop Nat (fun n => mkSt [(0, .one (.im 3 (rels l))), (2, .sc (.int .i64 m)), (4, .one (.vad 1000 0)), (7, .one (.ref 960 1 0 (iterG (condS q.atoms P m) (outs q.atoms P) q.atoms.length [] n).length)), (8, .one (.ref 962 1 0 P.length)), (9, .sc (.int .i64 n))] [(1000, sQu q)] [(960, (1, ints (iterG (condS q.atoms P m) (outs q.atoms P) q.atoms.length [] n))), (962, (1, ints P))] 4000)
    (fun n => n ≤ q.atoms.length + 1) (fun n => q.atoms.length + 1 - n) 0 (by omega) (le_st' _ _ [⟨960, some _, false, 1, _⟩, ⟨962, some _, false, 1, _⟩] [] _ (by simp -implicitDefEqProofs (maxSteps := 2000000) only [go_sem] <;> and_intros <;> rfl) (by simp -implicitDefEqProofs (maxSteps := 2000000) only [go_sem] <;> and_intros <;> rfl) (by simp -implicitDefEqProofs (maxSteps := 2000000) only [go_sem] <;> and_intros <;> rfl) (by rfl)) ?_
  rintro n h1
  have sm := iterG_small (cond := condS q.atoms P m) (n := q.atoms.length) hv Small.nil (m := n)
  have al := iterG_all (cond := condS q.atoms P m) (n := q.atoms.length) (c := []) hp (fun x hx => by cases hx) n
  by_cases k1 : n ≤ q.atoms.length
  · generalize hc : iterG (condS q.atoms P m) (outs q.atoms P) q.atoms.length [] n = c at sm al ⊢
    have wn : IntKind.i64.wrap ((n : Int) + 1) = ((n + 1 : Nat) : Int) := i64_succ (by omega)
    simp -implicitDefEqProofs (maxSteps := 2000000) only [go_sem, k1]
    refine awp_loop Nat (fun i => mkSt [(0, .one (.im 3 (rels l))), (2, .sc (.int .i64 m)), (4, .one (.vad 1000 0)), (7, .one (.ref 960 1 0 (passG (condS q.atoms P m) (outs q.atoms P) c i).length)), (8, .one (.ref 962 1 0 P.length)), (9, .sc (.int .i64 n)), (10, .sc (.int .i64 i))] [(1000, sQu q)] [(960, (1, ints (passG (condS q.atoms P m) (outs q.atoms P) c i))), (962, (1, ints P))] 6000)
      (fun i => i ≤ q.atoms.length) (fun i => q.atoms.length - i) 0 (by omega) (le_st' _ _ [⟨960, some _, false, 1, _⟩, ⟨962, some _, false, 1, _⟩] [] _ (by simp -implicitDefEqProofs (maxSteps := 2000000) only [go_sem] <;> and_intros <;> rfl) (by simp -implicitDefEqProofs (maxSteps := 2000000) only [go_sem] <;> and_intros <;> rfl) (by simp -implicitDefEqProofs (maxSteps := 2000000) only [go_sem] <;> and_intros <;> rfl) (by rfl)) ?_
    rintro i h2
    have smL : Small (passG (condS q.atoms P m) (outs q.atoms P) c i) := passG_small hv sm
    have alL := passG_all (cond := condS q.atoms P m) hp al i
    by_cases k2 : i < q.atoms.length
    · have hfa := hq.1.2 _ (mem_getD default k2)
      have hvl := varsOf_len (q.atoms.getD i default).l
      have hfull := addJ_full (P := P) (ats := q.atoms) (i := i) smL
      have hzero := addJ_zero (v := varsOf (q.atoms.getD i default).l) (P := P) smL
      have hme := meet_without (a := varsOf (q.atoms.getD i default).l) alL
      have hfire : passG (condS q.atoms P m) (outs q.atoms P) c (i + 1) = fireG (condS q.atoms P m) (outs q.atoms P) (passG (condS q.atoms P m) (outs q.atoms P) c i) i := rfl
      generalize passG (condS q.atoms P m) (outs q.atoms P) c i = L at smL alL hfull hzero hme hfire ⊢
      have hLl := smL.len
      have wi : IntKind.i64.wrap ((i : Int) + 1) = ((i + 1 : Nat) : Int) := i64_succ (by omega)
      simp -implicitDefEqProofs (maxSteps := 2000000) only [go_sem, k2]
      refine call_of (specAtomVariables_sat (q.atoms.getD i default) hfa) (by simp -implicitDefEqProofs (maxSteps := 2000000) only [go_sem, k2]) (callOk_still (by kernel_rfl) (by simp only [List.all_cons, List.all_nil, LV.still, LV.leaves, Leaf.still, ints_still, ris_still, eds_still, rels_still, iss_still, ems_still, Bool.and_self, Bool.and_true])) (by simp -implicitDefEqProofs (maxSteps := 2000000) only [go_sem, k2]) ?_
      simp -implicitDefEqProofs (maxSteps := 2000000) only [go_sem, k2]
      have hO : without (varsOf (q.atoms.getD i default).l) P = outs q.atoms P i := rfl
      rw [hO] at hme
      generalize hV : varsOf (q.atoms.getD i default).l = V at hvl hfull hzero hme ⊢
      rw [show ((i : Int) == (m : Int)) = decide (i = m) by rw [Bool.eq_iff_iff]; simp; omega]
      refine awp_loop Nat (fun j => mkSt [(0, .one (.im 3 (rels l))), (2, .sc (.int .i64 m)), (4, .one (.vad 1000 0)), (7, .one (.ref 960 1 0 L.length)), (8, .one (.ref 962 1 0 P.length)), (9, .sc (.int .i64 n)), (10, .sc (.int .i64 i)), (11, .one (.ref 961 1 0 V.length)), (12, .sc (.bool (decide (i = m) || (V.take j).any fun x => decide (x ∈ L)))), (13, .sc (.int .i64 j))] [(1000, sQu q)] [(960, (1, ints L)), (961, (1, ints V)), (962, (1, ints P))] 8000)
        (fun j => j ≤ V.length) (fun j => V.length - j) 0 (by omega) (by rw [List.take_zero, List.any_nil, Bool.or_false]; exact (le_st' _ _ [⟨960, some _, false, 1, _⟩, ⟨961, some _, false, 1, _⟩, ⟨962, some _, false, 1, _⟩] [] _ (by simp -implicitDefEqProofs (maxSteps := 2000000) only [go_sem] <;> and_intros <;> rfl) (by simp -implicitDefEqProofs (maxSteps := 2000000) only [go_sem] <;> and_intros <;> rfl) (by simp -implicitDefEqProofs (maxSteps := 2000000) only [go_sem] <;> and_intros <;> rfl) (by rfl))) ?_
      rintro j h4
      by_cases k3 : j < V.length
      · have st := any_stepA (d := 0) (p := fun x => decide (x ∈ L)) k3
        have wj : IntKind.i64.wrap ((j : Int) + 1) = ((j + 1 : Nat) : Int) := i64_succ (by omega)
        rcases d0 : (decide (i = m) || (V.take j).any fun x => decide (x ∈ L))
        · simp -implicitDefEqProofs (maxSteps := 2000000) only [go_sem, k3]
          refine call_of (l7Has_sat L (V.getD j 0) (by omega)) (by simp -implicitDefEqProofs (maxSteps := 2000000) only [go_sem, k3]) (by kernel_rfl) (by simp -implicitDefEqProofs (maxSteps := 2000000) only [go_sem, k3]) ?_
          simp -implicitDefEqProofs (maxSteps := 2000000) only [go_sem, k3]
          rw [wj]
          refine ⟨j + 1, k3, by omega, ?_⟩
          rw [st, ← Bool.or_assoc, d0, Bool.false_or]
          exact (le_st' _ _ [⟨960, some _, false, 1, _⟩, ⟨961, some _, false, 1, _⟩, ⟨962, some _, false, 1, _⟩] [] _ (by simp -implicitDefEqProofs (maxSteps := 2000000) only [go_sem] <;> and_intros <;> rfl) (by simp -implicitDefEqProofs (maxSteps := 2000000) only [go_sem] <;> and_intros <;> rfl) (by simp -implicitDefEqProofs (maxSteps := 2000000) only [go_sem] <;> and_intros <;> rfl) (by rfl))
        · simp -implicitDefEqProofs (maxSteps := 2000000) only [go_sem, k3, wj]
          refine ⟨j + 1, k3, by omega, ?_⟩
          rw [st, ← Bool.or_assoc, d0, Bool.true_or]
          exact (le_st' _ _ [⟨960, some _, false, 1, _⟩, ⟨961, some _, false, 1, _⟩, ⟨962, some _, false, 1, _⟩] [] _ (by simp -implicitDefEqProofs (maxSteps := 2000000) only [go_sem] <;> and_intros <;> rfl) (by simp -implicitDefEqProofs (maxSteps := 2000000) only [go_sem] <;> and_intros <;> rfl) (by simp -implicitDefEqProofs (maxSteps := 2000000) only [go_sem] <;> and_intros <;> rfl) (by rfl))
      obtain rfl : j = V.length := by omega
      simp -implicitDefEqProofs (maxSteps := 2000000) only [go_sem, k3]
      try rw [List.take_length]
      have hcd : (decide (i = m) || V.any fun x => decide (x ∈ L)) = condS q.atoms P m i L := by rw [condS, ← hme]; rfl
      rw [hcd]
      rcases d1 : condS q.atoms P m i L
      · refine awp_loop Nat (fun j => mkSt [(0, .one (.im 3 (rels l))), (2, .sc (.int .i64 m)), (4, .one (.vad 1000 0)), (7, .one (.ref 960 1 0 L.length)), (8, .one (.ref 962 1 0 P.length)), (9, .sc (.int .i64 n)), (10, .sc (.int .i64 i)), (11, .one (.ref 961 1 0 V.length)), (12, .sc (.bool false)), (14, .sc (.int .i64 j))] [(1000, sQu q)] [(960, (1, ints L)), (961, (1, ints V)), (962, (1, ints P))] 10000)
          (fun j => j = 0) (fun j => 0) 0 rfl (le_st' _ _ [⟨960, some _, false, 1, _⟩, ⟨961, some _, false, 1, _⟩, ⟨962, some _, false, 1, _⟩] [] _ (by simp -implicitDefEqProofs (maxSteps := 2000000) only [go_sem] <;> and_intros <;> rfl) (by simp -implicitDefEqProofs (maxSteps := 2000000) only [go_sem] <;> and_intros <;> rfl) (by simp -implicitDefEqProofs (maxSteps := 2000000) only [go_sem] <;> and_intros <;> rfl) (by rfl)) ?_
        rintro j rfl
        rcases k4 : decide ((0 : Int) < V.length)
        · simp -implicitDefEqProofs (maxSteps := 2000000) only [go_sem, k4, wi]
          refine ⟨i + 1, k2, by omega, ?_⟩
          rw [hfire, fireG, d1]
          exact (le_st' _ _ [⟨960, some _, false, 1, _⟩, ⟨962, some _, false, 1, _⟩] [] _ (by simp -implicitDefEqProofs (maxSteps := 2000000) only [go_sem] <;> and_intros <;> rfl) (by simp -implicitDefEqProofs (maxSteps := 2000000) only [go_sem] <;> and_intros <;> rfl) (by simp -implicitDefEqProofs (maxSteps := 2000000) only [go_sem] <;> and_intros <;> rfl) (by rfl))
        · simp -implicitDefEqProofs (maxSteps := 2000000) only [go_sem, k4, wi]
          refine ⟨i + 1, k2, by omega, ?_⟩
          rw [hfire, fireG, d1]
          exact (le_st' _ _ [⟨960, some _, false, 1, _⟩, ⟨962, some _, false, 1, _⟩] [] _ (by simp -implicitDefEqProofs (maxSteps := 2000000) only [go_sem] <;> and_intros <;> rfl) (by simp -implicitDefEqProofs (maxSteps := 2000000) only [go_sem] <;> and_intros <;> rfl) (by simp -implicitDefEqProofs (maxSteps := 2000000) only [go_sem] <;> and_intros <;> rfl) (by rfl))
      · refine awp_loop Nat (fun j => mkSt [(0, .one (.im 3 (rels l))), (2, .sc (.int .i64 m)), (4, .one (.vad 1000 0)), (7, .one (.ref 960 1 0 (addJ L V P j).length)), (8, .one (.ref 962 1 0 P.length)), (9, .sc (.int .i64 n)), (10, .sc (.int .i64 i)), (11, .one (.ref 961 1 0 V.length)), (12, .sc (.bool true)), (14, .sc (.int .i64 j))] [(1000, sQu q)] [(960, (1, ints (addJ L V P j))), (961, (1, ints V)), (962, (1, ints P))] 10000)
          (fun j => j ≤ V.length) (fun j => V.length - j) 0 (by omega) (by rw [hzero]; exact (le_st' _ _ [⟨960, some _, false, 1, _⟩, ⟨961, some _, false, 1, _⟩, ⟨962, some _, false, 1, _⟩] [] _ (by simp -implicitDefEqProofs (maxSteps := 2000000) only [go_sem] <;> and_intros <;> rfl) (by simp -implicitDefEqProofs (maxSteps := 2000000) only [go_sem] <;> and_intros <;> rfl) (by simp -implicitDefEqProofs (maxSteps := 2000000) only [go_sem] <;> and_intros <;> rfl) (by rfl))) ?_
        rintro j h5
        have hal := addJ_len L V P j
        by_cases k4 : j < V.length
        · have wj : IntKind.i64.wrap ((j : Int) + 1) = ((j + 1 : Nat) : Int) := i64_succ (by omega)
          rcases d2 : decide (V.getD j 0 ∈ P)
          · have htk := addJ_take (c := L) (v := V) k4 d2
            simp -implicitDefEqProofs (maxSteps := 2000000) only [go_sem, k4]
            refine call_of (l7Has_sat P (V.getD j 0) (by omega)) (by simp -implicitDefEqProofs (maxSteps := 2000000) only [go_sem, d2, k4]) (by kernel_rfl) (by simp -implicitDefEqProofs (maxSteps := 2000000) only [go_sem, d2, k4]) ?_
            simp -implicitDefEqProofs (maxSteps := 2000000) only [go_sem, d2, k4]
            refine call_of (l14Both_sat (addJ L V P j) [V.getD j 0] (by omega) (by simp)) (by simp -implicitDefEqProofs (maxSteps := 2000000) only [go_sem, htk]) (callOk_still (by kernel_rfl) (by simp only [List.all_cons, List.all_nil, LV.still, LV.leaves, Leaf.still, ints_still, ris_still, eds_still, rels_still, iss_still, ems_still, Bool.and_self, Bool.and_true])) (by simp -implicitDefEqProofs (maxSteps := 2000000) only [go_sem, htk]) ?_
            simp -implicitDefEqProofs (maxSteps := 2000000) only [go_sem, htk]
            rw [wj]
            refine ⟨j + 1, k4, by omega, ?_⟩
            exact (le_st' _ _ [⟨960, some _, false, 1, _⟩, ⟨961, some _, false, 1, _⟩, ⟨962, some _, false, 1, _⟩] [] _ (by simp -implicitDefEqProofs (maxSteps := 2000000) only [go_sem, htk] <;> and_intros <;> rfl) (by simp -implicitDefEqProofs (maxSteps := 2000000) only [go_sem, htk] <;> and_intros <;> rfl) (by simp -implicitDefEqProofs (maxSteps := 2000000) only [go_sem, htk] <;> and_intros <;> rfl) (by rfl))
          · simp -implicitDefEqProofs (maxSteps := 2000000) only [go_sem, k4]
            refine call_of (l7Has_sat P (V.getD j 0) (by omega)) (by simp -implicitDefEqProofs (maxSteps := 2000000) only [go_sem, d2, k4]) (by kernel_rfl) (by simp -implicitDefEqProofs (maxSteps := 2000000) only [go_sem, d2, k4]) ?_
            simp -implicitDefEqProofs (maxSteps := 2000000) only [go_sem, d2, k4]
            rw [wj]
            refine ⟨j + 1, k4, by omega, ?_⟩
            rw [addJ_skip k4 d2]
            exact (le_st' _ _ [⟨960, some _, false, 1, _⟩, ⟨961, some _, false, 1, _⟩, ⟨962, some _, false, 1, _⟩] [] _ (by simp -implicitDefEqProofs (maxSteps := 2000000) only [go_sem] <;> and_intros <;> rfl) (by simp -implicitDefEqProofs (maxSteps := 2000000) only [go_sem] <;> and_intros <;> rfl) (by simp -implicitDefEqProofs (maxSteps := 2000000) only [go_sem] <;> and_intros <;> rfl) (by rfl))
        · obtain rfl : j = V.length := by omega
          simp -implicitDefEqProofs (maxSteps := 2000000) only [go_sem, k4, wi]
          refine ⟨i + 1, k2, by omega, ?_⟩
          rw [hfire, fireG, d1, if_pos rfl, ← hfull]
          exact (le_st' _ _ [⟨960, some _, false, 1, _⟩, ⟨962, some _, false, 1, _⟩] [] _ (by simp -implicitDefEqProofs (maxSteps := 2000000) only [go_sem] <;> and_intros <;> rfl) (by simp -implicitDefEqProofs (maxSteps := 2000000) only [go_sem] <;> and_intros <;> rfl) (by simp -implicitDefEqProofs (maxSteps := 2000000) only [go_sem] <;> and_intros <;> rfl) (by rfl))
    · obtain rfl : i = q.atoms.length := by omega
      simp -implicitDefEqProofs (maxSteps := 2000000) only [go_sem, k2, wn]
      refine ⟨n + 1, by omega, by omega, ?_⟩
      rw [show iterG (condS q.atoms P m) (outs q.atoms P) q.atoms.length [] (n + 1) = passG (condS q.atoms P m) (outs q.atoms P) c q.atoms.length by rw [← hc]; rfl]
      exact (le_st' _ _ [⟨960, some _, false, 1, _⟩, ⟨962, some _, false, 1, _⟩] [] _ (by simp -implicitDefEqProofs (maxSteps := 2000000) only [go_sem] <;> and_intros <;> rfl) (by simp -implicitDefEqProofs (maxSteps := 2000000) only [go_sem] <;> and_intros <;> rfl) (by simp -implicitDefEqProofs (maxSteps := 2000000) only [go_sem] <;> and_intros <;> rfl) (by rfl))
  · obtain rfl : n = q.atoms.length + 1 := by omega
    simp -implicitDefEqProofs (maxSteps := 2000000) only [go_sem, k1]
    first | done | rfl | exact ⟨rfl, rfl⟩ | exact ⟨rfl, rfl, rfl⟩ | (refine tr_and ?_ ?_ <;> first | rfl | exact ⟨rfl, rfl⟩ | kernel_rfl)
/-! #### does an atom attack another -/
def hasA (l : List Rel) (q : Qu) (i k : Int) : Bool := goodQu l q && (inB i 0 ((q.atoms.length : Int) - 1) && (inB k 0 ((q.atoms.length : Int) - 1) && ((i != k) && meetB (varsOf (q.atoms.getD k.toNat default).l) (attV l q i))))
theorem any_at {l : List Int} {p : Int → Bool} {k : Nat} (h : k < l.length) (hp : p (l.getD k 0) = true) : l.any p = true := List.any_eq_true.mpr ⟨_, mem_getD 0 h, hp⟩
theorem specHasAttack_sat (l : List Rel) (q : Qu) (i k : Int) (hl : l.length ≤ 9223372036854775807) (hq : q.fit) : Sat Try.prog 16 [lRels l, lQu q, lInt i, lInt k] [lBool (hasA l q i k)] [g1, g3, g1, g1] := by
  refine sat_of_body mixed Try.func16 rfl (by kernel_rfl) (by kernel_rfl) (rs := [.tmp 8]) rfl rfl rfl ?_
  have hb := hq.1.1
  have w0 : IntKind.i64.wrap ((q.atoms.length : Int) - 1) = (q.atoms.length : Int) - 1 := IntWalk.i64_in _ (by omega)
  simp -implicitDefEqProofs (maxSteps := 2000000) only [go_sem]
  rcases g : goodQu l q
  · rw [show hasA l q i k = false by rw [hasA, g]; rfl]
    refine call_of (specIsValidQuery_sat l q hl hq) (by simp -implicitDefEqProofs (maxSteps := 2000000) only [go_sem, g]) (by kernel_rfl) (by simp -implicitDefEqProofs (maxSteps := 2000000) only [go_sem, g]) ?_
    simp -implicitDefEqProofs (maxSteps := 2000000) only [go_sem, g]
  rcases i1 : inB i 0 ((q.atoms.length : Int) - 1)
  · rw [show hasA l q i k = false by rw [hasA, i1]; simp]
    refine call_of (specIsValidQuery_sat l q hl hq) (by simp -implicitDefEqProofs (maxSteps := 2000000) only [go_sem, g, w0]) (by kernel_rfl) (by simp -implicitDefEqProofs (maxSteps := 2000000) only [go_sem, g, w0]) ?_
    simp -implicitDefEqProofs (maxSteps := 2000000) only [go_sem, g, w0]
    refine call_of (inB_sat i 0 ((q.atoms.length : Int) - 1)) (by simp -implicitDefEqProofs (maxSteps := 2000000) only [go_sem, i1]) (by kernel_rfl) (by simp -implicitDefEqProofs (maxSteps := 2000000) only [go_sem, i1]) ?_
    simp -implicitDefEqProofs (maxSteps := 2000000) only [go_sem, i1]
  rcases i2 : inB k 0 ((q.atoms.length : Int) - 1)
  · rw [show hasA l q i k = false by rw [hasA, i2]; simp]
    refine call_of (specIsValidQuery_sat l q hl hq) (by simp -implicitDefEqProofs (maxSteps := 2000000) only [go_sem, g, w0]) (by kernel_rfl) (by simp -implicitDefEqProofs (maxSteps := 2000000) only [go_sem, g, w0]) ?_
    simp -implicitDefEqProofs (maxSteps := 2000000) only [go_sem, g, w0]
    refine call_of (inB_sat i 0 ((q.atoms.length : Int) - 1)) (by simp -implicitDefEqProofs (maxSteps := 2000000) only [go_sem, i1, w0]) (by kernel_rfl) (by simp -implicitDefEqProofs (maxSteps := 2000000) only [go_sem, i1, w0]) ?_
    simp -implicitDefEqProofs (maxSteps := 2000000) only [go_sem, i1, w0]
    refine call_of (inB_sat k 0 ((q.atoms.length : Int) - 1)) (by simp -implicitDefEqProofs (maxSteps := 2000000) only [go_sem, i2]) (by kernel_rfl) (by simp -implicitDefEqProofs (maxSteps := 2000000) only [go_sem, i2]) ?_
    simp -implicitDefEqProofs (maxSteps := 2000000) only [go_sem, i2]
  rcases d1 : i == k
  case true =>
    rw [show hasA l q i k = false by rw [hasA, bne, d1]; simp]
    refine call_of (specIsValidQuery_sat l q hl hq) (by simp -implicitDefEqProofs (maxSteps := 2000000) only [go_sem, g, w0]) (by kernel_rfl) (by simp -implicitDefEqProofs (maxSteps := 2000000) only [go_sem, g, w0]) ?_
    simp -implicitDefEqProofs (maxSteps := 2000000) only [go_sem, g, w0]
    refine call_of (inB_sat i 0 ((q.atoms.length : Int) - 1)) (by simp -implicitDefEqProofs (maxSteps := 2000000) only [go_sem, i1, w0]) (by kernel_rfl) (by simp -implicitDefEqProofs (maxSteps := 2000000) only [go_sem, i1, w0]) ?_
    simp -implicitDefEqProofs (maxSteps := 2000000) only [go_sem, i1, w0]
    refine call_of (inB_sat k 0 ((q.atoms.length : Int) - 1)) (by simp -implicitDefEqProofs (maxSteps := 2000000) only [go_sem, i2, d1]) (by kernel_rfl) (by simp -implicitDefEqProofs (maxSteps := 2000000) only [go_sem, i2, d1]) ?_
    simp -implicitDefEqProofs (maxSteps := 2000000) only [go_sem, i2, d1]
  obtain ⟨r3, r4⟩ := inB_of i2
  obtain ⟨m, rfl⟩ : ∃ m : Nat, k = m := ⟨k.toNat, by omega⟩
  have c2 : m < q.atoms.length := by omega
  rw [show hasA l q i m = meetB (varsOf (q.atoms.getD m default).l) (attV l q i) by rw [hasA, g, i1, i2, bne, d1]; rfl]
  have hA := (attV_small l q i).len
  have hfa := hq.1.2 _ (mem_getD default c2)
  have hvl := varsOf_len (q.atoms.getD m default).l
  refine call_of (specIsValidQuery_sat l q hl hq) (by simp -implicitDefEqProofs (maxSteps := 2000000) only [go_sem, g, w0]) (by kernel_rfl) (by simp -implicitDefEqProofs (maxSteps := 2000000) only [go_sem, g, w0]) ?_
  simp -implicitDefEqProofs (maxSteps := 2000000) only [go_sem, g, w0]
  refine call_of (inB_sat i 0 ((q.atoms.length : Int) - 1)) (by simp -implicitDefEqProofs (maxSteps := 2000000) only [go_sem, i1, w0]) (by kernel_rfl) (by simp -implicitDefEqProofs (maxSteps := 2000000) only [go_sem, i1, w0]) ?_
  simp -implicitDefEqProofs (maxSteps := 2000000) only [go_sem, i1, w0]
  refine call_of (inB_sat m 0 ((q.atoms.length : Int) - 1)) (by simp -implicitDefEqProofs (maxSteps := 2000000) only [go_sem, i2, d1]) (by kernel_rfl) (by simp -implicitDefEqProofs (maxSteps := 2000000) only [go_sem, i2, d1]) ?_
  simp -implicitDefEqProofs (maxSteps := 2000000) only [go_sem, i2, d1]
  refine call_of (specAttackedVariables_sat l q i hl hq) (by simp -implicitDefEqProofs (maxSteps := 2000000) only [go_sem, c2]) (callOk_still (by kernel_rfl) (by simp only [List.all_cons, List.all_nil, LV.still, LV.leaves, Leaf.still, ints_still, ris_still, eds_still, rels_still, iss_still, ems_still, Bool.and_self, Bool.and_true])) (by simp -implicitDefEqProofs (maxSteps := 2000000) only [go_sem, c2]) ?_
  simp -implicitDefEqProofs (maxSteps := 2000000) only [go_sem, c2]
  refine call_of (specAtomVariables_sat (q.atoms.getD m default) hfa) (by simp -implicitDefEqProofs (maxSteps := 2000000) only [go_sem, c2]) (callOk_still (by kernel_rfl) (by simp only [List.all_cons, List.all_nil, LV.still, LV.leaves, Leaf.still, ints_still, ris_still, eds_still, rels_still, iss_still, ems_still, Bool.and_self, Bool.and_true])) (by simp -implicitDefEqProofs (maxSteps := 2000000) only [go_sem, c2]) ?_
  simp -implicitDefEqProofs (maxSteps := 2000000) only [go_sem, c2]
  generalize varsOf (q.atoms.getD m default).l = V at hvl ⊢
  generalize attV l q i = A0 at hA ⊢
  unfold meetB
  refine awp_loop Nat (fun j => mkSt [(9, .one (.ref 960 1 0 A0.length)), (10, .one (.ref 961 1 0 V.length)), (11, .sc (.int .i64 j))] [] [(960, (1, ints A0)), (961, (1, ints V))] 8000)
    (fun j => j ≤ V.length ∧ ((V.take j).any fun x => decide (x ∈ A0)) = false) (fun j => V.length - j) 0 ⟨by omega, rfl⟩ (le_st' _ _ [⟨960, some _, false, 1, _⟩, ⟨961, some _, false, 1, _⟩] [] _ (by simp -implicitDefEqProofs (maxSteps := 2000000) only [go_sem] <;> and_intros <;> rfl) (by simp -implicitDefEqProofs (maxSteps := 2000000) only [go_sem] <;> and_intros <;> rfl) (by simp -implicitDefEqProofs (maxSteps := 2000000) only [go_sem] <;> and_intros <;> rfl) (by rfl)) ?_
  rintro j ⟨h4, h5⟩
  by_cases k3 : j < V.length
  · have st := any_stepA (d := 0) (p := fun x => decide (x ∈ A0)) k3
    rcases d2 : decide (V.getD j 0 ∈ A0)
    · simp -implicitDefEqProofs (maxSteps := 2000000) only [go_sem, k3]
      refine call_of (l7Has_sat A0 (V.getD j 0) (by omega)) (by simp -implicitDefEqProofs (maxSteps := 2000000) only [go_sem, d2]) (by kernel_rfl) (by simp -implicitDefEqProofs (maxSteps := 2000000) only [go_sem, d2]) ?_
      simp -implicitDefEqProofs (maxSteps := 2000000) only [go_sem, d2]
      rw [i64_succ (by omega)]
      exact ⟨j + 1, ⟨k3, by rw [st, h5, d2]; rfl⟩, by omega, (le_st' _ _ [⟨960, some _, false, 1, _⟩, ⟨961, some _, false, 1, _⟩] [] _ (by simp -implicitDefEqProofs (maxSteps := 2000000) only [go_sem] <;> and_intros <;> rfl) (by simp -implicitDefEqProofs (maxSteps := 2000000) only [go_sem] <;> and_intros <;> rfl) (by simp -implicitDefEqProofs (maxSteps := 2000000) only [go_sem] <;> and_intros <;> rfl) (by rfl))⟩
    · rw [any_at k3 d2]
      simp -implicitDefEqProofs (maxSteps := 2000000) only [go_sem, k3]
      refine call_of (l7Has_sat A0 (V.getD j 0) (by omega)) (by simp -implicitDefEqProofs (maxSteps := 2000000) only [go_sem, d2]) (by kernel_rfl) (by simp -implicitDefEqProofs (maxSteps := 2000000) only [go_sem, d2]) ?_
      simp -implicitDefEqProofs (maxSteps := 2000000) only [go_sem, d2]
  · obtain rfl : j = V.length := by omega
    rw [List.take_length] at h5
    rw [h5]
    simp -implicitDefEqProofs (maxSteps := 2000000) only [go_sem, k3]
theorem attacks_sat (l : List Rel) (ats : List RI) (fr : List Int) (i k : Nat) (hl : l.length ≤ 9223372036854775807) (ha : ats.length ≤ 1048576) (hx : ∀ x ∈ ats, x.ok) (hf : fr.length ≤ 1048576) (hi : i < ats.length) (hk : k < ats.length) (hs : Small (uni (fr ++ keyVars l (ats.getD i default)) [])) :
    Sat Try.prog 44 [lRels l, lRIs ats, lInts fr, lInt i, lInt k] [lBool (((i : Int) != k) && meetB (varsOf (ats.getD k default).l) (att ats (clos l ats i (uni (fr ++ keyVars l (ats.getD i default)) [])) i))] [g1, g1, g1, g1, g1] := by
  refine sat_of_body mixed Try.func44 rfl (by kernel_rfl) (by kernel_rfl) (rs := [.tmp 10]) rfl rfl rfl ?_
  have hvl := varsOf_len (ats.getD k default).l
  have hA := (att_small ats (clos l ats i (uni (fr ++ keyVars l (ats.getD i default)) [])) i).len
  simp -implicitDefEqProofs (maxSteps := 2000000) only [go_sem, hk]
  refine call_of (implAtomVariables_sat (ats.getD k default) (hx _ (mem_getD default hk))) (by simp -implicitDefEqProofs (maxSteps := 2000000) only [go_sem, hk]) (callOk_still (by kernel_rfl) (by simp only [List.all_cons, List.all_nil, LV.still, LV.leaves, Leaf.still, ints_still, ris_still, eds_still, rels_still, iss_still, ems_still, Bool.and_self, Bool.and_true])) (by simp -implicitDefEqProofs (maxSteps := 2000000) only [go_sem, hk]) ?_
  simp -implicitDefEqProofs (maxSteps := 2000000) only [go_sem, hk]
  rcases d1 : ((i : Int) != k)
  · simp -implicitDefEqProofs (maxSteps := 2000000) only [go_sem, d1]
  simp -implicitDefEqProofs (maxSteps := 2000000) only [go_sem, d1]
  refine call_of (attacked_sat l ats fr i hl ha hx hf hi hs) (by simp -implicitDefEqProofs (maxSteps := 2000000) only [go_sem]) (callOk_still (by kernel_rfl) (by simp only [List.all_cons, List.all_nil, LV.still, LV.leaves, Leaf.still, ints_still, ris_still, eds_still, rels_still, iss_still, ems_still, Bool.and_self, Bool.and_true])) (by simp -implicitDefEqProofs (maxSteps := 2000000) only [go_sem]) ?_
  simp -implicitDefEqProofs (maxSteps := 2000000) only [go_sem]
  have hw := without_meets (varsOf (ats.getD k default).l) (att ats (clos l ats i (uni (fr ++ keyVars l (ats.getD i default)) [])) i)
  refine call_of (without_sat (varsOf (ats.getD k default).l) (att ats (clos l ats i (uni (fr ++ keyVars l (ats.getD i default)) [])) i) (by omega) (by omega)) (by simp -implicitDefEqProofs (maxSteps := 2000000) only [go_sem, hw]) (callOk_still (by kernel_rfl) (by simp only [List.all_cons, List.all_nil, LV.still, LV.leaves, Leaf.still, ints_still, ris_still, eds_still, rels_still, iss_still, ems_still, Bool.and_self, Bool.and_true])) (by simp -implicitDefEqProofs (maxSteps := 2000000) only [go_sem, hw]) ?_
  simp -implicitDefEqProofs (maxSteps := 2000000) only [go_sem, hw]
theorem implHasAttack_sat (l : List Rel) (q : Qu) (i k : Int) (hl : l.length ≤ 9223372036854775807) (hq : q.ok) : Sat Try.prog 22 [lRels l, lQu q, lInt i, lInt k] [lBool (hasA l q i k)] [g1, g3, g1, g1] := by
  refine sat_of_body mixed Try.func22 rfl (by kernel_rfl) (by kernel_rfl) (rs := [.tmp 8]) rfl rfl rfl ?_
  have hb := hq.1.1
  have w0 : IntKind.i64.wrap ((q.atoms.length : Int) - 1) = (q.atoms.length : Int) - 1 := IntWalk.i64_in _ (by omega)
  simp -implicitDefEqProofs (maxSteps := 2000000) only [go_sem, w0]
  unfold hasA
  rcases g : goodQu l q
  · refine call_of (implIsValidQuery_sat l q hl hq) (by simp -implicitDefEqProofs (maxSteps := 2000000) only [go_sem, g]) (by kernel_rfl) (by simp -implicitDefEqProofs (maxSteps := 2000000) only [go_sem, g]) ?_
    simp -implicitDefEqProofs (maxSteps := 2000000) only [go_sem, g]
  refine call_of (implIsValidQuery_sat l q hl hq) (by simp -implicitDefEqProofs (maxSteps := 2000000) only [go_sem, g]) (by kernel_rfl) (by simp -implicitDefEqProofs (maxSteps := 2000000) only [go_sem, g]) ?_
  simp -implicitDefEqProofs (maxSteps := 2000000) only [go_sem, g]
  rcases i1 : inB i 0 ((q.atoms.length : Int) - 1)
  · refine call_of (inW_sat i 0 ((q.atoms.length : Int) - 1)) (by simp -implicitDefEqProofs (maxSteps := 2000000) only [go_sem, i1]) (by kernel_rfl) (by simp -implicitDefEqProofs (maxSteps := 2000000) only [go_sem, i1]) ?_
    simp -implicitDefEqProofs (maxSteps := 2000000) only [go_sem, i1]
  refine call_of (inW_sat i 0 ((q.atoms.length : Int) - 1)) (by simp -implicitDefEqProofs (maxSteps := 2000000) only [go_sem, i1]) (by kernel_rfl) (by simp -implicitDefEqProofs (maxSteps := 2000000) only [go_sem, i1]) ?_
  simp -implicitDefEqProofs (maxSteps := 2000000) only [go_sem, i1]
  rcases i2 : inB k 0 ((q.atoms.length : Int) - 1)
  · refine call_of (inW_sat k 0 ((q.atoms.length : Int) - 1)) (by simp -implicitDefEqProofs (maxSteps := 2000000) only [go_sem, i2]) (by kernel_rfl) (by simp -implicitDefEqProofs (maxSteps := 2000000) only [go_sem, i2]) ?_
    simp -implicitDefEqProofs (maxSteps := 2000000) only [go_sem, i2]
  refine call_of (inW_sat k 0 ((q.atoms.length : Int) - 1)) (by simp -implicitDefEqProofs (maxSteps := 2000000) only [go_sem, i2]) (by kernel_rfl) (by simp -implicitDefEqProofs (maxSteps := 2000000) only [go_sem, i2]) ?_
  simp -implicitDefEqProofs (maxSteps := 2000000) only [go_sem, i2]
  obtain ⟨r1, r2⟩ := inB_of i1
  obtain ⟨n, rfl⟩ : ∃ m : Nat, i = m := ⟨i.toNat, by omega⟩
  obtain ⟨r3, r4⟩ := inB_of i2
  obtain ⟨m, rfl⟩ : ∃ m : Nat, k = m := ⟨k.toNat, by omega⟩
  have c1 : n < q.atoms.length := by omega
  refine call_of (attacks_sat l q.atoms q.free n m hl hq.1.1 hq.1.2 hq.2 c1 (by omega) (by rw [start_keys g]; exact start_small _ _)) (by simp -implicitDefEqProofs (maxSteps := 2000000) only [go_sem]) (by kernel_rfl) (by simp -implicitDefEqProofs (maxSteps := 2000000) only [go_sem]) ?_
  simp -implicitDefEqProofs (maxSteps := 2000000) only [go_sem]
  rw [attV_eq g c1]
  rfl
end Go.Proofs.Ytbalifgacjmbpac.A


/- WEAK ATTACKS, ATOMS THAT NONE ATTACKS, CYCLES OF TWO. Conditions: none. -/
namespace Go.Proofs.Ytbalifgacjmbpac.A
open Go
set_option linter.unusedSimpArgs false
set_option linter.unusedVariables false
set_option maxRecDepth 100000

theorem hasA_in {l : List Rel} {q : Qu} {i k : Int} (h : hasA l q i k = true) : goodQu l q = true ∧ ∃ n m : Nat, i = n ∧ k = m ∧ n < q.atoms.length ∧ m < q.atoms.length := by
  unfold hasA at h
  simp only [Bool.and_eq_true] at h
  have h1 := inB_of h.2.1
  have h2 := inB_of h.2.2.1
  exact ⟨h.1, i.toNat, k.toNat, by omega, by omega, by omega, by omega⟩
def weakA (l : List Rel) (q : Qu) (i k : Int) : Bool := hasA l q i k && dets l q (keyVars l (q.atoms.getD i.toNat default)) (keyVars l (q.atoms.getD k.toNat default))
theorem specIsWeakAttack_sat (l : List Rel) (q : Qu) (i k : Int) (hl : l.length ≤ 9223372036854775807) (hq : q.fit) : Sat Try.prog 17 [lRels l, lQu q, lInt i, lInt k] [lBool (weakA l q i k)] [g1, g3, g1, g1] := by
  refine sat_of_body mixed Try.func17 rfl (by kernel_rfl) (by kernel_rfl) (rs := [.tmp 8]) rfl rfl rfl ?_
  unfold weakA
  simp -implicitDefEqProofs (maxSteps := 2000000) only [go_sem]
  rcases d : hasA l q i k
  · refine call_of (specHasAttack_sat l q i k hl hq) (by simp -implicitDefEqProofs (maxSteps := 2000000) only [go_sem, d]) (by kernel_rfl) (by simp -implicitDefEqProofs (maxSteps := 2000000) only [go_sem, d]) ?_
    simp -implicitDefEqProofs (maxSteps := 2000000) only [go_sem, d]
    first | done | rfl | exact ⟨rfl, rfl⟩ | exact ⟨rfl, rfl, rfl⟩ | (refine tr_and ?_ ?_ <;> first | rfl | exact ⟨rfl, rfl⟩ | kernel_rfl)
  obtain ⟨g, n, m, rfl, rfl, c1, c2⟩ := hasA_in d
  have h1 := keyVars_len l (q.atoms.getD n default)
  have h2 := keyVars_len l (q.atoms.getD m default)
  refine call_of (specHasAttack_sat l q n m hl hq) (by simp -implicitDefEqProofs (maxSteps := 2000000) only [go_sem, d, c1, c2]) (by kernel_rfl) (by simp -implicitDefEqProofs (maxSteps := 2000000) only [go_sem, d, c1, c2]) ?_
  simp -implicitDefEqProofs (maxSteps := 2000000) only [go_sem, d, c1, c2]
  refine call_of (specKeyVariables_sat l (q.atoms.getD n default) hl (hq.1.2 _ (mem_getD default c1))) (by simp -implicitDefEqProofs (maxSteps := 2000000) only [go_sem, c1, c2]) (callOk_still (by kernel_rfl) (by simp only [List.all_cons, List.all_nil, LV.still, LV.leaves, Leaf.still, ints_still, ris_still, eds_still, rels_still, iss_still, ems_still, Bool.and_self, Bool.and_true])) (by simp -implicitDefEqProofs (maxSteps := 2000000) only [go_sem, c1, c2]) ?_
  simp -implicitDefEqProofs (maxSteps := 2000000) only [go_sem, c1, c2]
  refine call_of (specKeyVariables_sat l (q.atoms.getD m default) hl (hq.1.2 _ (mem_getD default c2))) (by simp -implicitDefEqProofs (maxSteps := 2000000) only [go_sem, c1, c2]) (callOk_still (by kernel_rfl) (by simp only [List.all_cons, List.all_nil, LV.still, LV.leaves, Leaf.still, ints_still, ris_still, eds_still, rels_still, iss_still, ems_still, Bool.and_self, Bool.and_true])) (by simp -implicitDefEqProofs (maxSteps := 2000000) only [go_sem, c1, c2]) ?_
  simp -implicitDefEqProofs (maxSteps := 2000000) only [go_sem, c1, c2]
  refine call_of (specDetermines_sat l q (keyVars l (q.atoms.getD n default)) (keyVars l (q.atoms.getD m default)) hl hq (by omega) (by omega)) (by simp -implicitDefEqProofs (maxSteps := 2000000) only [go_sem]) (by kernel_rfl) (by simp -implicitDefEqProofs (maxSteps := 2000000) only [go_sem]) ?_
  simp -implicitDefEqProofs (maxSteps := 2000000) only [go_sem]
  first | done | rfl | exact ⟨rfl, rfl⟩ | exact ⟨rfl, rfl, rfl⟩ | (refine tr_and ?_ ?_ <;> first | rfl | exact ⟨rfl, rfl⟩ | kernel_rfl)
theorem implIsWeakAttack_sat (l : List Rel) (q : Qu) (i k : Int) (hl : l.length ≤ 9223372036854775807) (hq : q.ok) : Sat Try.prog 23 [lRels l, lQu q, lInt i, lInt k] [lBool (weakA l q i k)] [g1, g3, g1, g1] := by
  refine sat_of_body mixed Try.func23 rfl (by kernel_rfl) (by kernel_rfl) (rs := [.tmp 8]) rfl rfl rfl ?_
  unfold weakA
  simp -implicitDefEqProofs (maxSteps := 2000000) only [go_sem]
  rcases d : hasA l q i k
  · refine call_of (implHasAttack_sat l q i k hl hq) (by simp -implicitDefEqProofs (maxSteps := 2000000) only [go_sem, d]) (by kernel_rfl) (by simp -implicitDefEqProofs (maxSteps := 2000000) only [go_sem, d]) ?_
    simp -implicitDefEqProofs (maxSteps := 2000000) only [go_sem, d]
    first | done | rfl | exact ⟨rfl, rfl⟩ | exact ⟨rfl, rfl, rfl⟩ | (refine tr_and ?_ ?_ <;> first | rfl | exact ⟨rfl, rfl⟩ | kernel_rfl)
  obtain ⟨g, n, m, rfl, rfl, c1, c2⟩ := hasA_in d
  have h1 := keyVars_len l (q.atoms.getD n default)
  have h2 := keyVars_len l (q.atoms.getD m default)
  refine call_of (implHasAttack_sat l q n m hl hq) (by simp -implicitDefEqProofs (maxSteps := 2000000) only [go_sem, d, c1, c2]) (by kernel_rfl) (by simp -implicitDefEqProofs (maxSteps := 2000000) only [go_sem, d, c1, c2]) ?_
  simp -implicitDefEqProofs (maxSteps := 2000000) only [go_sem, d, c1, c2]
  refine call_of (implKeyVariables_sat l (q.atoms.getD n default) hl (hq.1.2 _ (mem_getD default c1))) (by simp -implicitDefEqProofs (maxSteps := 2000000) only [go_sem, c1, c2]) (callOk_still (by kernel_rfl) (by simp only [List.all_cons, List.all_nil, LV.still, LV.leaves, Leaf.still, ints_still, ris_still, eds_still, rels_still, iss_still, ems_still, Bool.and_self, Bool.and_true])) (by simp -implicitDefEqProofs (maxSteps := 2000000) only [go_sem, c1, c2]) ?_
  simp -implicitDefEqProofs (maxSteps := 2000000) only [go_sem, c1, c2]
  refine call_of (implKeyVariables_sat l (q.atoms.getD m default) hl (hq.1.2 _ (mem_getD default c2))) (by simp -implicitDefEqProofs (maxSteps := 2000000) only [go_sem, c1, c2]) (callOk_still (by kernel_rfl) (by simp only [List.all_cons, List.all_nil, LV.still, LV.leaves, Leaf.still, ints_still, ris_still, eds_still, rels_still, iss_still, ems_still, Bool.and_self, Bool.and_true])) (by simp -implicitDefEqProofs (maxSteps := 2000000) only [go_sem, c1, c2]) ?_
  simp -implicitDefEqProofs (maxSteps := 2000000) only [go_sem, c1, c2]
  refine call_of (implDetermines_sat l q (keyVars l (q.atoms.getD n default)) (keyVars l (q.atoms.getD m default)) hl hq (by omega) (by omega)) (by simp -implicitDefEqProofs (maxSteps := 2000000) only [go_sem]) (by kernel_rfl) (by simp -implicitDefEqProofs (maxSteps := 2000000) only [go_sem]) ?_
  simp -implicitDefEqProofs (maxSteps := 2000000) only [go_sem]
  first | done | rfl | exact ⟨rfl, rfl⟩ | exact ⟨rfl, rfl, rfl⟩ | (refine tr_and ?_ ?_ <;> first | rfl | exact ⟨rfl, rfl⟩ | kernel_rfl)

/-! #### cycles of two -/
def findR (p : Nat → Bool) : Nat → Nat → Option Nat
  | 0, _ => none
  | m + 1, k => if p k then some k else findR p m (k + 1)
def findA (p : Nat → Nat → Bool) (n : Nat) : Nat → Nat → Int × Int × Bool
  | 0, _ => (-1, -1, false)
  | m + 1, i => match findR (p i) (n - (i + 1)) (i + 1) with
    | some k => (i, k, true)
    | none => findA p n m (i + 1)
def both2 (l : List Rel) (q : Qu) (i k : Nat) : Bool := hasA l q i k && hasA l q k i
def twoC (l : List Rel) (q : Qu) : Int × Int × Bool := findA (both2 l q) q.atoms.length q.atoms.length 0
def freeOf (l : List Rel) (q : Qu) (k : Int) : Bool := upTo (fun i => !hasA l q i k) q.atoms.length
def unatt (l : List Rel) (q : Qu) : List Int := if goodQu l q then selN (freeOf l q) q.atoms.length else []
theorem unatt_len (l : List Rel) (q : Qu) : (unatt l q).length ≤ 3 := by
  unfold unatt; split
  · rename_i g
    have := atoms3 g
    have := selN_len (freeOf l q) q.atoms.length
    omega
  · simp
theorem hasA_nat {l : List Rel} {q : Qu} {i k : Nat} (g : goodQu l q = true) (hi : i < q.atoms.length) (hk : k < q.atoms.length) :
    (((i : Int) != k) && meetB (varsOf (q.atoms.getD k default).l) (att q.atoms (clos l q.atoms i (uni (q.free ++ keyVars l (q.atoms.getD i default)) [])) i)) = hasA l q i k := by
  have i1 : inB (i : Int) 0 ((q.atoms.length : Int) - 1) = true := by unfold inB; simp only [Bool.and_eq_true, decide_eq_true_eq]; omega
  have i2 : inB (k : Int) 0 ((q.atoms.length : Int) - 1) = true := by unfold inB; simp only [Bool.and_eq_true, decide_eq_true_eq]; omega
  rw [hasA, g, i1, i2, attV_eq g hi]
  rfl
end Go.Proofs.Ytbalifgacjmbpac.A


/- THE LIBRARY'S JOIN OF STRINGS, of this program. Conditions: none. -/
namespace Go.Proofs.Ytbalifgacjmbpac.A
open Go Go.Shelf
set_option linter.unusedVariables false
set_option maxRecDepth 100000
def laysJoin_ren : Go.Shelf.Ren := ⟨fun | 156 => 24 | 165 => 47 | 166 => 48 | 169 => 49 | 240 => 65 | 241 => 66 | 276 => 75 | 277 => 76 | n => n, fun | 0 => 0 | 5 => 5 | 80 => 81 | 3 => 3 | 4 => 4 | 9 => 9 | 20 => 20 | 31 => 52 | 37 => 73 | 70 => 72 | 72 => 75 | 75 => 78 | 76 => 79 | 127 => 89 | 164 => 98 | n => n, fun n => n⟩
theorem laysJoin : Lays.n156 Try.prog laysJoin_ren where
  mixed := by kernel_rfl
  f156 := Try.func24.trans (congrArg some (by kernel_rfl))
  f165 := Try.func47.trans (congrArg some (by kernel_rfl))
  f166 := Try.func48.trans (congrArg some (by kernel_rfl))
  f169 := Try.func49.trans (congrArg some (by kernel_rfl))
  f240 := Try.func65.trans (congrArg some (by kernel_rfl))
  f241 := Try.func66.trans (congrArg some (by kernel_rfl))
  f276 := Try.func75.trans (congrArg some (by kernel_rfl))
  f277 := Try.func76.trans (congrArg some (by kernel_rfl))
  t0 := Try.underlying0
  a0 := Try.isAgg0
  z0 := Try.sizeOf0
  v0 := Try.zeroValue0
  t3 := Try.underlying3
  a3 := Try.isAgg3
  z3 := Try.sizeOf3
  v3 := Try.zeroValue3
  t4 := Try.underlying4
  a4 := Try.isAgg4
  z4 := Try.sizeOf4
  v4 := Try.zeroValue4
  t9 := Try.underlying9
  a9 := Try.isAgg9
  z9 := Try.sizeOf9
  v9 := Try.zeroValue9
  t20 := Try.underlying20
  a20 := Try.isAgg20
  z20 := Try.sizeOf20
  v20 := Try.zeroValue20
  t31 := Try.underlying52
  a31 := Try.isAgg52
  z31 := Try.sizeOf52
  v31 := Try.zeroValue52
  t37 := Try.underlying73
  a37 := Try.isAgg73
  z37 := Try.sizeOf73
  v37 := Try.zeroValue73
  t70 := Try.underlying72
  a70 := Try.isAgg72
  z70 := Try.sizeOf72
  v70 := Try.zeroValue72
  t72 := Try.underlying75
  a72 := Try.isAgg75
  z72 := Try.sizeOf75
  v72 := Try.zeroValue75
  t75 := Try.underlying78
  a75 := Try.isAgg78
  z75 := Try.sizeOf78
  v75 := Try.zeroValue78
  t76 := Try.underlying79
  a76 := Try.isAgg79
  z76 := Try.sizeOf79
  v76 := Try.zeroValue79
  t127 := Try.underlying89
  a127 := Try.isAgg89
  z127 := Try.sizeOf89
  v127 := Try.zeroValue89
  t164 := Try.underlying98
  a164 := Try.isAgg98
  z164 := Try.sizeOf98
  v164 := Try.zeroValue98
theorem extraJoin : Builder.Extra Try.prog laysJoin_ren where
  sizeBuilder := by kernel_rfl
  liesBuilder := by kernel_rfl
  t5 := Try.underlying5
  a5 := Try.isAgg5
  z5 := Try.sizeOf5
  v5 := Try.zeroValue5
  infoByte := by kernel_rfl
  cellsByte := by kernel_rfl
  sizeByte := by kernel_rfl
  neB5 := by decide
def tvs (a : List ByteArray) : List Value := a.map Value.string
def sts (a : List ByteArray) : Rows := lift (tvs a)
theorem tvs_length (a : List ByteArray) : (tvs a).length = a.length := by simp [tvs]
theorem sts_length (a : List ByteArray) : (sts a).length = a.length := by simp [sts, lift, tvs]
theorem sts_eq (a : List ByteArray) : sts a = a.map fun n => [Cell.sc (.string n)] := by simp [sts, lift, tvs]
theorem sts_get {a : List ByteArray} {i : Nat} (h : i < a.length) : (sts a).getD i [] = [Cell.sc (.string (a.getD i default))] := by
  simp [sts_eq, List.getD_eq_getElem?_getD, h]
theorem sts_frz (a : List ByteArray) : frz (sts a) = sts a := frz_lift _
theorem sts_rst (a : List ByteArray) : rst (sts a) = sts a := rst_lift _
theorem sts_stm (n : Nat) (a : List ByteArray) : stm n (sts a) = sts a := stm_lift n _
theorem sts_flat (a : List ByteArray) : flatB (sts a) = true := lift_flatB _
theorem sts_unlift (a : List ByteArray) : lift (unlift (sts a)) = sts a := by unfold sts; rw [unlift_lift]
theorem sts_take (a : List ByteArray) (k : Nat) : (sts a).take k = sts (a.take k) := by simp [sts_eq]
theorem sts_drop (a : List ByteArray) (k : Nat) : (sts a).drop k = sts (a.drop k) := by simp [sts_eq]
theorem sts_append (a b : List ByteArray) : sts a ++ sts b = sts (a ++ b) := by simp [sts_eq]
theorem sts_one (n : ByteArray) : [[Cell.sc (.string n)]] = sts [n] := by simp [sts_eq]
theorem sts_nil : sts [] = [] := rfl
theorem sts_still (a : List ByteArray) : stillRows (sts a) = true := by simp [stillRows, sts_eq, Cell.still]
theorem lift_tvs (a : List ByteArray) : lift (tvs a) = sts a := rfl
attribute [go_sem] lift_tvs tvs_length sts_length sts_get sts_frz sts_rst sts_stm sts_flat sts_unlift sts_take sts_drop sts_append sts_one
abbrev lStrs (xs : List ByteArray) : LV := .one (.im 1 (sts xs))
abbrev oStrs (xs : List ByteArray) : LV := .one (.ow 1 (sts xs))
theorem stringsJoin_sat (xs : List ByteArray) (sep : ByteArray) (hx : xs.length ≤ 140737488355328) (hl : (joinB xs sep).size ≤ 140737488355328) : Sat Try.prog 24 [lStrs xs, .one (.sc (.string sep))] [.one (.sc (.string (joinB xs sep)))] [g1, g1] :=
  join_sat Try.func24 rfl (by kernel_rfl) (Any.strings_Join_none laysJoin extraJoin) (Any.strings_Join laysJoin extraJoin) xs sep hx hl
end Go.Proofs.Ytbalifgacjmbpac.A


/- EMBEDDINGS. Conditions: none. -/
namespace Go.Proofs.Ytbalifgacjmbpac.A
open Go
set_option linter.unusedSimpArgs false
set_option linter.unusedVariables false
set_option maxRecDepth 100000

abbrev lEmb (e : Emb) : LV := .agg [.im 1 (ints e.vs), .im 1 (ints e.fs)]
abbrev oEmb (e : Emb) : LV := .agg [.ow 1 (ints e.vs), .ow 1 (ints e.fs)]
def szEmb (e : Emb) (n : Int) : Int := if szl e.vs n < 0 then -1 else if szl e.fs (szl e.vs n) < 0 then -1 else szl e.fs (szl e.vs n)
theorem szEmb_len {e : Emb} {n : Int} (h : -1 ≤ n ∧ n ≤ 1048576) (h0 : ¬ szEmb e n < 0) : e.vs.length ≤ 1048576 ∧ e.fs.length ≤ 1048576 ∧ -1 ≤ szEmb e n ∧ szEmb e n ≤ 1048576 := by
  unfold szEmb at h0 ⊢
  have a1 := szl_le (a := e.vs) h
  split at h0
  · omega
  · rename_i c1
    have a2 := szl_le (a := e.fs) a1
    split at h0
    · omega
    · rename_i c2
      rw [if_neg c1, if_neg c2]
      exact ⟨szl_len h.2 c1, szl_len a1.2 c2, a2⟩
theorem decide_and {p q : Prop} [Decidable p] [Decidable q] (h : p) : decide (p ∧ q) = decide q := by simp [h]
end Go.Proofs.Ytbalifgacjmbpac.A


/- LISTS OF EMBEDDINGS: how they lie, comparison, marks. Conditions: none. -/
namespace Go.Proofs.Ytbalifgacjmbpac.A
open Go
set_option linter.unusedSimpArgs false
set_option linter.unusedVariables false
set_option maxRecDepth 100000

abbrev lEms (a : List Emb) : LV := .one (.im 2 (ems 0 a))
abbrev oEms (a : List Emb) : LV := .one (.ow 2 (ems 1 a))

def numEm : List Emb → Nat
  | [] => 0
  | a :: l => a.vs.length + a.fs.length + numEm l
def markEm : List Emb → Int → List Emb
  | [], _ => []
  | a :: l, k => ⟨cnt k a.vs.length, cnt (k + a.vs.length) a.fs.length⟩ :: markEm l (k + a.vs.length + a.fs.length)
theorem numEm_nil : numEm [] = 0 := rfl
attribute [go_sem] numEm_nil
theorem markEm_length : ∀ (a : List Emb) (k : Int), (markEm a k).length = a.length
  | [], _ => rfl
  | a :: l, k => by rw [markEm, List.length_cons, List.length_cons, markEm_length]
theorem numEm_take {a : List Emb} {i : Nat} (h : i < a.length) : numEm (a.take (i + 1)) = numEm (a.take i) + (a.getD i default).vs.length + (a.getD i default).fs.length := by
  induction a generalizing i with
  | nil => simp at h
  | cons x a ih =>
    cases i with
    | zero => simp [numEm]
    | succ i =>
      have := ih (i := i) (by simpa using h)
      rw [List.take_succ_cons, List.take_succ_cons, numEm, numEm, this, List.getD_cons_succ]; omega
theorem numEm_le : ∀ {a : List Emb} (i : Nat), numEm (a.take i) ≤ numEm a
  | [], i => by simp [numEm]
  | x :: a, 0 => by simp [numEm]
  | x :: a, i + 1 => by
    rw [List.take_succ_cons, numEm, numEm]
    have := numEm_le (a := a) i
    omega
theorem numEm_small {n m : Nat} : ∀ {a : List Emb}, (∀ x ∈ a, x.vs.length ≤ n ∧ x.fs.length ≤ m) → numEm a ≤ a.length * (n + m)
  | [], _ => by simp [numEm]
  | x :: a, h => by
    have h1 := numEm_small (a := a) fun y hy => h y (List.mem_cons_of_mem _ hy)
    have h2 := h x (List.mem_cons_self ..)
    rw [numEm, List.length_cons, Nat.add_mul]; omega
theorem markEm_get : ∀ {a : List Emb} {k : Int} {i : Nat}, i < a.length → (markEm a k).getD i default = ⟨cnt (k + numEm (a.take i)) (a.getD i default).vs.length, cnt (k + numEm (a.take i) + (a.getD i default).vs.length) (a.getD i default).fs.length⟩
  | x :: a, k, 0, _ => by simp [markEm, numEm]
  | x :: a, k, i + 1, h => by
    rw [markEm, List.getD_cons_succ, markEm_get (by simpa using h), List.getD_cons_succ, List.take_succ_cons, numEm]
    have e : k + (x.vs.length : Int) + (x.fs.length : Int) + (numEm (a.take i) : Int) = k + ((x.vs.length + x.fs.length + numEm (a.take i) : Nat) : Int) := by omega
    rw [e]
theorem markEm_full (a : List Emb) (k : Int) : List.take a.length (markEm a k) = markEm a k := List.take_of_length_le (by rw [markEm_length]; omega)
attribute [go_sem] markEm_full
theorem Emb.eq_iff (a b : Emb) : decide (a = b) = (decide (a.vs = b.vs) && decide (a.fs = b.fs)) := by cases a; cases b; simp
end Go.Proofs.Ytbalifgacjmbpac.A


/- FACTS IN ORDER; VALID DATABASES. Conditions: none. -/
namespace Go.Proofs.Ytbalifgacjmbpac.A
open Go
set_option linter.unusedSimpArgs false
set_option linter.unusedVariables false
set_option maxRecDepth 100000

def cmpI (a b : Int) : Int := if a < b then -1 else if a > b then 1 else 0
theorem isNaN_sat (a : Int) : Sat Try.prog 95 [lInt a] [lBool false] [g1] := by
  refine sat_of_body mixed Try.func95 rfl (by kernel_rfl) (by kernel_rfl) (rs := [.tmp 2]) rfl rfl rfl ?_
  simp -implicitDefEqProofs (maxSteps := 2000000) only [go_sem]
def cmpRI (a b : RI) : Int := if a.r < b.r then -1 else if a.r > b.r then 1 else cmpInts a.l b.l
/-- Is the i-th fact valid, and behind the one before it. -/
def factOk (d : Db) (i : Nat) : Bool := goodFact d.rels (d.facts.getD i default) && (decide (i = 0) || !decide (cmpRI (d.facts.getD (i - 1) default) (d.facts.getD i default) ≥ 0))
def goodDb (d : Db) : Bool := goodRels d.rels && (decide ((d.facts.length : Int) ≤ 14) && upTo (factOk d) d.facts.length)
end Go.Proofs.Ytbalifgacjmbpac.A


/- QUERIES FOR DATABASES. Conditions: none. -/
namespace Go.Proofs.Ytbalifgacjmbpac.A
open Go
set_option linter.unusedSimpArgs false
set_option linter.unusedVariables false
set_option maxRecDepth 100000

def queryFor (d : Db) (q : Qu) : Bool := goodDb d && goodQu d.rels q
end Go.Proofs.Ytbalifgacjmbpac.A


/- EMBEDDINGS: the plain search. Conditions: none. (No program in sight.) -/
namespace Go.Proofs.Ytbalifgacjmbpac.A
open Go
set_option linter.unusedSimpArgs false
set_option linter.unusedVariables false

def stepU (x : List Int) (t f : Int) : Option (List Int) :=
  if t < 0 then (if -1 - t = f then some x else none)
  else if x.getD t.toNat 0 < 0 then some (x.set t.toNat f)
  else if x.getD t.toNat 0 = f then some x else none
def uniS (ts fs vs : List Int) : Nat → Option (List Int)
  | 0 => some vs
  | k + 1 => (uniS ts fs vs k).bind fun x => stepU x (ts.getD k 0) (fs.getD k 0)
theorem stepU_len {x y : List Int} {t f : Int} (h : stepU x t f = some y) : y.length = x.length := by
  unfold stepU at h
  split at h
  · split at h
    · cases h; rfl
    · cases h
  · split at h
    · cases h; simp
    · split at h
      · cases h; rfl
      · cases h
theorem uniS_len {ts fs vs : List Int} : ∀ {k : Nat} {x : List Int}, uniS ts fs vs k = some x → x.length = vs.length
  | 0, x, h => by cases h; rfl
  | k + 1, x, h => by
    rw [uniS] at h
    rcases e : uniS ts fs vs k with _ | y
    · rw [e] at h; cases h
    · rw [e, Option.bind_some] at h
      rw [stepU_len h, uniS_len e]
theorem uniS_none {ts fs vs : List Int} {k : Nat} (h : uniS ts fs vs k = none) : ∀ d : Nat, uniS ts fs vs (k + d) = none
  | 0 => h
  | d + 1 => by rw [← Nat.add_assoc, uniS, uniS_none h d]; rfl
theorem uniS_stop {ts fs vs : List Int} {k n : Nat} (h : uniS ts fs vs k = none) (hn : k ≤ n) : uniS ts fs vs n = none := by
  obtain ⟨d, rfl⟩ := Nat.le.dest hn
  exact uniS_none h d
theorem uniS_step {ts fs vs x : List Int} {k : Nat} (h : uniS ts fs vs k = some x) : uniS ts fs vs (k + 1) = stepU x (ts.getD k 0) (fs.getD k 0) := by
  rw [uniS, h]; rfl
/-- The last state before the search fell. -/
def uniL (ts fs vs : List Int) : Nat → List Int
  | 0 => vs
  | k + 1 => match uniS ts fs vs (k + 1) with
    | some x => x
    | none => uniL ts fs vs k
theorem uniL_some {ts fs vs x : List Int} : ∀ {k : Nat}, uniS ts fs vs k = some x → uniL ts fs vs k = x
  | 0, h => by cases h; rfl
  | k + 1, h => by rw [uniL, h]
theorem uniL_none {ts fs vs x : List Int} {k : Nat} (h : uniS ts fs vs k = some x) (h2 : uniS ts fs vs (k + 1) = none) : ∀ d : Nat, uniL ts fs vs (k + 1 + d) = x
  | 0 => by
    rw [Nat.add_zero, uniL, h2]
    exact uniL_some h
  | d + 1 => by
    rw [← Nat.add_assoc, uniL, show uniS ts fs vs (k + 1 + d + 1) = none from uniS_none (k := k + 1) h2 (d + 1)]
    exact uniL_none h h2 d
theorem uniL_stop {ts fs vs x : List Int} {k n : Nat} (h : uniS ts fs vs k = some x) (h2 : uniS ts fs vs (k + 1) = none) (hn : k < n) : uniL ts fs vs n = x := by
  obtain ⟨d, rfl⟩ := Nat.le.dest (show k + 1 ≤ n from hn)
  exact uniL_none h h2 d
def meet (a f : RI) (vs : List Int) : Option (List Int) := if f.r = a.r then uniS a.l f.l vs a.l.length else none
def meetV (a f : RI) (vs : List Int) : List Int := if f.r = a.r then uniL a.l f.l vs a.l.length else vs
theorem meet_len {a f : RI} {vs x : List Int} (h : meet a f vs = some x) : x.length = vs.length := by
  unfold meet at h
  split at h
  · exact uniS_len h
  · cases h
theorem meetV_eq {a f : RI} {vs x : List Int} (h : meet a f vs = some x) : meetV a f vs = x := by
  unfold meet at h
  unfold meetV
  split at h
  · rw [if_pos (by assumption)]; exact uniL_some h
  · cases h
/-- What one round finds: g tells it of each fact. -/
def found {α : Type} (g : Nat → List α) (k : Nat) : List α := (List.range k).flatMap g
theorem found_zero {α : Type} (g : Nat → List α) : found g 0 = [] := rfl
theorem found_succ {α : Type} (g : Nat → List α) (k : Nat) : found g (k + 1) = found g k ++ g k := by
  unfold found
  rw [List.range_succ, List.flatMap_append]; simp
theorem found_len {α : Type} {g : Nat → List α} {b : Nat} (h : ∀ i, (g i).length ≤ b) : ∀ k, (found g k).length ≤ k * b
  | 0 => by simp [found_zero]
  | k + 1 => by
    rw [found_succ, List.length_append, Nat.add_mul]
    have := found_len h k
    have := h k
    omega
theorem found_mem {α : Type} {g : Nat → List α} {k : Nat} {x : α} : x ∈ found g k ↔ ∃ i, i < k ∧ x ∈ g i := by
  unfold found
  rw [List.mem_flatMap]
  constructor
  · rintro ⟨i, h1, h2⟩; exact ⟨i, by simpa using h1, h2⟩
  · rintro ⟨i, h1, h2⟩; exact ⟨i, by simpa using h1, h2⟩
def atomAt (ats : List RI) (m : Nat) : RI := ats.getD (ats.length - (m + 1)) default
def walkE (ds ats : List RI) : Nat → List Int → List Int → List Emb
  | 0, vs, fs => [⟨vs, fs⟩]
  | m + 1, vs, fs => found (fun i => match meet (atomAt ats m) (ds.getD i default) vs with
    | some x => walkE ds ats m x (fs ++ [(i : Int)])
    | none => []) ds.length
def oneE (ds ats : List RI) (m : Nat) (vs fs : List Int) (i : Nat) : List Emb := match meet (atomAt ats m) (ds.getD i default) vs with
    | some x => walkE ds ats m x (fs ++ [(i : Int)])
    | none => []
theorem walkE_succ (ds ats : List RI) (m : Nat) (vs fs : List Int) : walkE ds ats (m + 1) vs fs = found (oneE ds ats m vs fs) ds.length := rfl
theorem oneE_some {ds ats : List RI} {m i : Nat} {vs fs x : List Int} (h : meet (atomAt ats m) (ds.getD i default) vs = some x) : oneE ds ats m vs fs i = walkE ds ats m x (fs ++ [(i : Int)]) := by unfold oneE; rw [h]
theorem oneE_none {ds ats : List RI} {m i : Nat} {vs fs : List Int} (h : meet (atomAt ats m) (ds.getD i default) vs = none) : oneE ds ats m vs fs i = [] := by unfold oneE; rw [h]
theorem walkE_len {ds ats : List RI} (hd : ds.length ≤ 14) : ∀ (m : Nat) (vs fs : List Int), (walkE ds ats m vs fs).length ≤ 14 ^ m
  | 0, _, _ => by simp [walkE]
  | m + 1, vs, fs => by
    rw [walkE_succ]
    have h1 : ∀ i, (oneE ds ats m vs fs i).length ≤ 14 ^ m := by
      intro i
      unfold oneE
      split
      · exact walkE_len hd m _ _
      · simp
    have h2 := found_len h1 ds.length
    have h3 := Nat.mul_le_mul_right (14 ^ m) hd
    rw [Nat.pow_succ, Nat.mul_comm (14 ^ m)]
    omega
theorem walkE_mem {ds ats : List RI} : ∀ {m : Nat} {vs fs : List Int}, ∀ e ∈ walkE ds ats m vs fs, e.vs.length = vs.length ∧ e.fs.length = fs.length + m
  | 0, vs, fs, e, h => by
    simp only [walkE, List.mem_singleton] at h
    subst h; exact ⟨rfl, rfl⟩
  | m + 1, vs, fs, e, h => by
    rw [walkE_succ, found_mem] at h
    obtain ⟨i, _, h⟩ := h
    unfold oneE at h
    split at h
    · rename_i x hx
      obtain ⟨h1, h2⟩ := walkE_mem e h
      rw [List.length_append, List.length_singleton] at h2
      exact ⟨by rw [h1, meet_len hx], by omega⟩
    · cases h
theorem pow14E {m : Nat} (h : m ≤ 3) : 14 ^ m ≤ 2744 := Nat.pow_le_pow_right (by omega) h
/-- ALL EMBEDDINGS. -/
def embs (d : Db) (q : Qu) : List Emb := if queryFor d q then walkE d.facts q.atoms q.atoms.length (List.replicate q.vc.toNat (-1)) [] else []
theorem queryFor_db {d : Db} {q : Qu} (h : queryFor d q = true) : goodDb d = true := by
  unfold queryFor at h; rw [Bool.and_eq_true] at h; exact h.1
theorem queryFor_qu {d : Db} {q : Qu} (h : queryFor d q = true) : goodQu d.rels q = true := by
  unfold queryFor at h; rw [Bool.and_eq_true] at h; exact h.2
theorem goodDb_len {d : Db} (h : goodDb d = true) : d.facts.length ≤ 14 := by
  unfold goodDb at h
  simp only [Bool.and_eq_true, decide_eq_true_eq] at h
  omega
theorem goodQu_parts {l : List Rel} {q : Qu} (h : goodQu l q = true) : (0 ≤ q.vc ∧ q.vc ≤ 4) ∧ 1 ≤ q.atoms.length ∧ q.atoms.length ≤ 3 := by
  unfold goodQu at h
  simp only [Bool.and_eq_true] at h
  have a1 := inB_of h.2.1
  have a2 := inB_of h.2.2.1
  omega
theorem goodDb_fact {d : Db} (h : goodDb d = true) {i : Nat} (hi : i < d.facts.length) : goodFact d.rels (d.facts.getD i default) = true := by
  unfold goodDb at h
  simp only [Bool.and_eq_true] at h
  have := upTo_at h.2.2 hi
  unfold factOk at this
  rw [Bool.and_eq_true] at this
  exact this.1
theorem goodQu_at {l : List Rel} {q : Qu} (h : goodQu l q = true) {k : Nat} (hk : k < q.atoms.length) : atomOk l q k = true := by
  unfold goodQu at h
  simp only [Bool.and_eq_true] at h
  exact upTo_at h.2.2.2.2.1 hk
theorem meet_lens {d : Db} {q : Qu} (h : queryFor d q = true) {k i : Nat} (hk : k < q.atoms.length) (hi : i < d.facts.length) (e : (d.facts.getD i default).r = (q.atoms.getD k default).r) : (d.facts.getD i default).l.length = (q.atoms.getD k default).l.length := by
  have h1 := goodDb_fact (queryFor_db h) hi
  have h2 := goodQu_at (queryFor_qu h) hk
  unfold goodFact at h1
  unfold atomOk relAt at h2
  simp only [Bool.and_eq_true, beq_iff_eq] at h1 h2
  have a1 := h1.2.1
  have a2 := h2.1.2
  rw [e] at a1
  omega
/-- Terms that name variables of a list or are constants. -/
def tsOk (n : Nat) (ts : List Int) : Prop := ∀ k, k < ts.length → -10 ≤ ts.getD k 0 ∧ ts.getD k 0 < n
theorem tsOk_at {l : List Rel} {q : Qu} (h : goodQu l q = true) {k : Nat} (hk : k < q.atoms.length) : tsOk q.vc.toNat (q.atoms.getD k default).l := by
  have h2 := goodQu_at h hk
  have hp := goodQu_parts h
  unfold atomOk at h2
  simp only [Bool.and_eq_true] at h2
  intro j hj
  have := upTo_at h2.2.2 hj
  unfold termOk at this
  have := inB_of this
  omega
end Go.Proofs.Ytbalifgacjmbpac.A
