
/- A VARIABLE IS BOUND. Conditions: none. -/
import Derived.Test.YtbalifgacjmbpaaAFCopy
import Derived.Test.YtbalifgacjmbpaaAFV
namespace Go.Proofs.Ytbalifgacjmbpaa.A
open Go
set_option linter.unusedSimpArgs false
set_option linter.unusedVariables false
set_option maxRecDepth 100000

def bindT (v val t : Int) : Int := if t = v then -1 - val else if t > v then IntKind.i64.wrap (t - 1) else t
def bindF (v t : Int) : Int := if t > v then IntKind.i64.wrap (t - 1) else t
def bindA (v val : Int) (a : RI) : RI := ⟨a.r, a.l.map (bindT v val)⟩
def freeB (v : Int) : List Int → List Int
  | [] => []
  | t :: l => if t = v then freeB v l else bindF v t :: freeB v l
theorem freeB_append (v : Int) : ∀ a b : List Int, freeB v (a ++ b) = freeB v a ++ freeB v b
  | [], b => rfl
  | t :: a, b => by
    rw [List.cons_append, freeB, freeB, freeB_append v a b]
    split <;> rfl
theorem freeB_len (v : Int) : ∀ a : List Int, (freeB v a).length ≤ a.length
  | [] => by simp [freeB]
  | t :: a => by
    have := freeB_len v a
    rw [freeB]
    split
    · rw [List.length_cons]; omega
    · rw [List.length_cons, List.length_cons]; omega
def bindOk (q : Qu) (v val : Int) : Bool := inB v 0 (IntKind.i64.wrap (q.vc - 1)) && inB val 0 9
def bindQ (q : Qu) (v val : Int) : Qu := if bindOk q v val then ⟨IntKind.i64.wrap (q.vc - 1), q.atoms.map (bindA v val), freeB v q.free⟩ else q
theorem ris_lt (n : Nat) (l : List RI) : stampsLt (n + 1000) (ris 999 l) = True := by
  refine eq_true fun r hr s xs hm => ?_
  obtain ⟨x, _, rfl⟩ := List.mem_map.mp hr
  simp [cRI] at hm
  omega
attribute [go_sem] ris_lt
theorem set_getD {α : Type} {d : α} {l : List α} {i : Nat} (h : i < l.length) : l.set i (l.getD i d) = l := by
  refine List.ext_getElem? fun m => ?_
  rw [List.getElem?_set]
  by_cases e : i = m
  · subst e
    rw [if_pos rfl, if_pos h, List.getD_eq_getElem?_getD, List.getElem?_eq_getElem h]; rfl
  · rw [if_neg e]
theorem freeB_step {v : Int} {l : List Int} {k : Nat} (h : k < l.length) : freeB v (l.take (k + 1)) = freeB v (l.take k) ++ freeB v [l.getD k 0] := by rw [take_snoc 0 h, freeB_append]
theorem map_getA {f : RI → RI} {l : List RI} {i : Nat} (h : i < l.length) : (l.map f).getD i default = f (l.getD i default) := by
  simp [List.getD_eq_getElem?_getD, h]
theorem map_getI {f : Int → Int} {l : List Int} {i : Nat} (h : i < l.length) : (l.map f).getD i 0 = f (l.getD i 0) := by
  simp [List.getD_eq_getElem?_getD, h]
theorem constantB_sat (t : Int) (h : -1000 ≤ t ∧ t ≤ 1000) : Sat Try.prog 58 [lInt t] [lInt (-1 - t)] [g1] := by
  refine sat_of_body mixed Try.func58 rfl (by kernel_rfl) (by kernel_rfl) (rs := [.tmp 2]) rfl rfl rfl ?_
  have w : IntKind.i64.wrap (-1 - t) = -1 - t := IntWalk.i64_in _ (by omega)
  simp -implicitDefEqProofs (maxSteps := 2000000) only [go_sem, w]
  first | done | rfl | exact ⟨rfl, rfl⟩ | exact ⟨rfl, rfl, rfl⟩ | (refine tr_and ?_ ?_ <;> first | rfl | exact ⟨rfl, rfl⟩ | kernel_rfl)
theorem bound_sat (t v : Int) : Sat Try.prog 57 [lInt t, lInt v] [lInt (bindF v t)] [g1, g1] := by
  refine sat_of_body mixed Try.func57 rfl (by kernel_rfl) (by kernel_rfl) (rs := [.tmp 4]) rfl rfl rfl ?_
  unfold bindF
  simp -implicitDefEqProofs (maxSteps := 2000000) only [go_sem]
  refine cond_split (fun d => ?_) fun d => ?_
  · have d := of_decide_eq_true d
    rw [if_pos d]
    simp -implicitDefEqProofs (maxSteps := 2000000) only [go_sem]
    first | done | rfl | exact ⟨rfl, rfl⟩ | exact ⟨rfl, rfl, rfl⟩ | (refine tr_and ?_ ?_ <;> first | rfl | exact ⟨rfl, rfl⟩ | kernel_rfl)
  · have d := of_decide_eq_false d
    rw [if_neg d]
    simp -implicitDefEqProofs (maxSteps := 2000000) only [go_sem]
    first | done | rfl | exact ⟨rfl, rfl⟩ | exact ⟨rfl, rfl, rfl⟩ | (refine tr_and ?_ ?_ <;> first | rfl | exact ⟨rfl, rfl⟩ | kernel_rfl)
abbrev zQu : List SV := [.sc (.int .i64 0), .sc (.slice none 0 0), .sc (.slice none 0 0)]
set_option maxHeartbeats 4000000 in
theorem specBindVariable_sat (q : Qu) (v val : Int) (h : q.ok) : Sat Try.prog 26 [lQu q, lInt v, lInt val] [oQu (bindQ q v val), lBool (bindOk q v val)] [g3, g1, g1] := by
  refine sat_of_body mixed Try.func26 rfl (by kernel_rfl) (by kernel_rfl) (rs := [.cell 6 47, .tmp 7]) rfl rfl rfl ?_
  have hf := h.2
  have ha := h.1.1
  simp -implicitDefEqProofs (maxSteps := 2000000) only [go_sem]
  refine call_of (specCopy_sat q h) (by simp -implicitDefEqProofs (maxSteps := 2000000) only [go_sem]) (callOk_still (by kernel_rfl) (by simp only [List.all_cons, List.all_nil, LV.still, LV.leaves, Leaf.still, ints_still, ris_still, eds_still, rels_still, iss_still, ems_still, Bool.and_self, Bool.and_true])) (by simp -implicitDefEqProofs (maxSteps := 2000000) only [go_sem]) ?_
  simp -implicitDefEqProofs (maxSteps := 2000000) only [go_sem]
  rcases d1 : inB v 0 (IntKind.i64.wrap (q.vc - 1))
  · have e : bindOk q v val = false := by rw [bindOk, d1]; rfl
    rw [bindQ, e, if_neg (by simp)]
    refine call_of (inB_sat v 0 (IntKind.i64.wrap (q.vc - 1))) (by simp -implicitDefEqProofs (maxSteps := 2000000) only [go_sem, d1]) (by kernel_rfl) (by simp -implicitDefEqProofs (maxSteps := 2000000) only [go_sem, d1]) ?_
    simp -implicitDefEqProofs (maxSteps := 2000000) only [go_sem, d1]
    first | done | rfl | exact ⟨rfl, rfl⟩ | exact ⟨rfl, rfl, rfl⟩ | (refine tr_and ?_ ?_ <;> first | rfl | exact ⟨rfl, rfl⟩ | kernel_rfl)
  rcases d2 : inB val 0 9
  · have e : bindOk q v val = false := by rw [bindOk, d2, Bool.and_false]
    rw [bindQ, e, if_neg (by simp)]
    refine call_of (inB_sat v 0 (IntKind.i64.wrap (q.vc - 1))) (by simp -implicitDefEqProofs (maxSteps := 2000000) only [go_sem, d1]) (by kernel_rfl) (by simp -implicitDefEqProofs (maxSteps := 2000000) only [go_sem, d1]) ?_
    simp -implicitDefEqProofs (maxSteps := 2000000) only [go_sem, d1]
    refine call_of (inB_sat val 0 9) (by simp -implicitDefEqProofs (maxSteps := 2000000) only [go_sem, d2]) (by kernel_rfl) (by simp -implicitDefEqProofs (maxSteps := 2000000) only [go_sem, d2]) ?_
    simp -implicitDefEqProofs (maxSteps := 2000000) only [go_sem, d2]
    first | done | rfl | exact ⟨rfl, rfl⟩ | exact ⟨rfl, rfl, rfl⟩ | (refine tr_and ?_ ?_ <;> first | rfl | exact ⟨rfl, rfl⟩ | kernel_rfl)
  have e : bindOk q v val = true := by rw [bindOk, d1, d2]; rfl
  rw [bindQ, e, if_pos rfl]
  obtain ⟨b1, b2⟩ := inB_of d2
  obtain ⟨b3, _⟩ := inB_of d1
  have wv : IntKind.i64.wrap (-1 - val) = -1 - val := IntWalk.i64_in _ (by omega)
  refine call_of (inB_sat v 0 (IntKind.i64.wrap (q.vc - 1))) (by simp -implicitDefEqProofs (maxSteps := 2000000) only [go_sem, d1]) (by kernel_rfl) (by simp -implicitDefEqProofs (maxSteps := 2000000) only [go_sem, d1]) ?_
  simp -implicitDefEqProofs (maxSteps := 2000000) only [go_sem, d1]
  refine call_of (inB_sat val 0 9) (by simp -implicitDefEqProofs (maxSteps := 2000000) only [go_sem, d2]) (by kernel_rfl) (by simp -implicitDefEqProofs (maxSteps := 2000000) only [go_sem, d2]) ?_
  simp -implicitDefEqProofs (maxSteps := 2000000) only [go_sem, d2]
  refine awp_loop (Nat × List RI) (fun x => mkSt [(1, .sc (.int .i64 v)), (2, .sc (.int .i64 val)), (3, .one (.vad 1000 0)), (6, .one (.vad 1064 0)), (8, .one (.vad 1320 0)), (9, .sc (.int .i64 x.1))] [(1000, sQu q), (1064, zQu), (1320, [.sc (.int .i64 (IntKind.i64.wrap (q.vc - 1))), .ref 960 2 0 q.atoms.length, .ref 961 1 0 q.free.length])] [(960, (2, ris 999 x.2)), (961, (1, ints q.free))] 9000)
    (fun x => x.1 ≤ q.atoms.length ∧ x.2.length = q.atoms.length ∧ x.2.take x.1 = (q.atoms.map (bindA v val)).take x.1 ∧ x.2.drop x.1 = q.atoms.drop x.1) (fun x => q.atoms.length - x.1) (0, q.atoms) ⟨by simp, rfl, rfl, rfl⟩ (le_st' _ _ [⟨960, some _, false, 2, _⟩, ⟨961, some _, false, 1, _⟩] [] _ (by simp -implicitDefEqProofs (maxSteps := 2000000) only [go_sem] <;> and_intros <;> rfl) (by simp -implicitDefEqProofs (maxSteps := 2000000) only [go_sem] <;> and_intros <;> rfl) (by simp -implicitDefEqProofs (maxSteps := 2000000) only [go_sem] <;> and_intros <;> rfl) (by rfl)) ?_
  rintro ⟨k, L⟩ ⟨h1, h2, h3, h4⟩
  simp only at h1 h2 h3 h4
  by_cases c1 : k < q.atoms.length
  · have wk : IntKind.i64.wrap ((k : Int) + 1) = ((k + 1 : Nat) : Int) := i64_succ (by omega)
    have e1 := drop_get (d := default) h2 h4 c1
    have c2 : k < L.length := by omega
    obtain ⟨r, ts, hat⟩ : ∃ r ts, q.atoms.getD k default = ⟨r, ts⟩ := ⟨_, _, rfl⟩
    have hts : ts.length ≤ 1048576 := by
      have := h.1.2 _ (mem_getD default c1)
      rw [hat] at this; exact this
    have hL : L.set k ⟨r, ts⟩ = L := by rw [← hat, ← e1]; exact set_getD c2
    simp -implicitDefEqProofs (maxSteps := 2000000) only [go_sem, c1, h2, List.length_take, Nat.min_self]
    rw [← hL]
    refine awp_loop (Nat × List Int) (fun x => mkSt [(1, .sc (.int .i64 v)), (2, .sc (.int .i64 val)), (3, .one (.vad 1000 0)), (6, .one (.vad 1064 0)), (8, .one (.vad 1320 0)), (9, .sc (.int .i64 k)), (10, .sc (.int .i64 x.1))] [(1000, sQu q), (1064, zQu), (1320, [.sc (.int .i64 (IntKind.i64.wrap (q.vc - 1))), .ref 960 2 0 q.atoms.length, .ref 961 1 0 q.free.length])] [(960, (2, ris 999 (L.set k ⟨r, x.2⟩))), (961, (1, ints q.free))] 12000)
      (fun x => x.1 ≤ ts.length ∧ x.2.length = ts.length ∧ x.2.take x.1 = (ts.map (bindT v val)).take x.1 ∧ x.2.drop x.1 = ts.drop x.1) (fun x => ts.length - x.1) (0, ts) ⟨by simp, rfl, rfl, rfl⟩ (le_st' _ _ [⟨960, some _, false, 2, _⟩, ⟨961, some _, false, 1, _⟩] [] _ (by simp -implicitDefEqProofs (maxSteps := 2000000) only [go_sem] <;> and_intros <;> rfl) (by simp -implicitDefEqProofs (maxSteps := 2000000) only [go_sem] <;> and_intros <;> rfl) (by simp -implicitDefEqProofs (maxSteps := 2000000) only [go_sem] <;> and_intros <;> rfl) (by rfl)) ?_
    rintro ⟨j, b⟩ ⟨g1, g2, g3, g4⟩
    simp only at g1 g2 g3 g4
    by_cases c3 : j < ts.length
    · have wj : IntKind.i64.wrap ((j : Int) + 1) = ((j + 1 : Nat) : Int) := i64_succ (by omega)
      have e2 := drop_get (d := 0) g2 g4 c3
      have nx : ∀ t', t' = bindT v val (ts.getD j 0) → (b.set j t').take (j + 1) = (ts.map (bindT v val)).take (j + 1) := fun t' ht =>
        take_set_to (d := 0) (by simpa using g2) g3 (by simpa using c3) (by rw [map_getI c3, ht])
      by_cases d3 : b.getD j 0 = v
      · have f1 : (b.getD j 0 == v) = true := by rw [d3]; simp
        have f2 : decide (b.getD j 0 > v) = false := decide_eq_false (by omega)
        simp -implicitDefEqProofs (maxSteps := 2000000) only [go_sem, c1, c2, c3, h2, g2, List.length_take, Nat.min_self, f1, f2, wv, wj]
        exact ⟨(j + 1, b.set j (-1 - val)), ⟨c3, by simpa using g2, nx _ (by rw [← e2, bindT, if_pos d3]), drop_set _ g4⟩, by simp; omega, (le_st' _ _ [⟨960, some _, false, 2, _⟩, ⟨961, some _, false, 1, _⟩] [] _ (by simp -implicitDefEqProofs (maxSteps := 2000000) only [go_sem, c2, h2, g2] <;> and_intros <;> rfl) (by simp -implicitDefEqProofs (maxSteps := 2000000) only [go_sem, c2, h2, g2] <;> and_intros <;> rfl) (by simp -implicitDefEqProofs (maxSteps := 2000000) only [go_sem, c2, h2, g2] <;> and_intros <;> rfl) (by rfl))⟩
      · have f1 : (b.getD j 0 == v) = false := by rw [beq_eq_false_iff_ne]; exact d3
        by_cases d4 : b.getD j 0 > v
        · have f2 : decide (b.getD j 0 > v) = true := decide_eq_true d4
          simp -implicitDefEqProofs (maxSteps := 2000000) only [go_sem, c1, c2, c3, h2, g2, List.length_take, Nat.min_self, f1, f2, wj]
          exact ⟨(j + 1, b.set j (IntKind.i64.wrap (b.getD j 0 - 1))), ⟨c3, by simpa using g2, nx _ (by rw [← e2, bindT, if_neg d3, if_pos d4]), drop_set _ g4⟩, by simp; omega, (le_st' _ _ [⟨960, some _, false, 2, _⟩, ⟨961, some _, false, 1, _⟩] [] _ (by simp -implicitDefEqProofs (maxSteps := 2000000) only [go_sem, c2, h2, g2] <;> and_intros <;> rfl) (by simp -implicitDefEqProofs (maxSteps := 2000000) only [go_sem, c2, h2, g2] <;> and_intros <;> rfl) (by simp -implicitDefEqProofs (maxSteps := 2000000) only [go_sem, c2, h2, g2] <;> and_intros <;> rfl) (by rfl))⟩
        · have f2 : decide (b.getD j 0 > v) = false := decide_eq_false d4
          have hs : b.set j (b.getD j 0) = b := set_getD (by omega)
          simp -implicitDefEqProofs (maxSteps := 2000000) only [go_sem, c1, c2, c3, h2, g2, List.length_take, Nat.min_self, f1, f2, wj]
          refine ⟨(j + 1, b), ⟨c3, g2, ?_, ?_⟩, by simp; omega, (le_st' _ _ [⟨960, some _, false, 2, _⟩, ⟨961, some _, false, 1, _⟩] [] _ (by simp -implicitDefEqProofs (maxSteps := 2000000) only [go_sem, c2, h2, g2] <;> and_intros <;> rfl) (by simp -implicitDefEqProofs (maxSteps := 2000000) only [go_sem, c2, h2, g2] <;> and_intros <;> rfl) (by simp -implicitDefEqProofs (maxSteps := 2000000) only [go_sem, c2, h2, g2] <;> and_intros <;> rfl) (by rfl))⟩
          · have := nx (b.getD j 0) (by rw [← e2, bindT, if_neg d3, if_neg d4])
            rw [hs] at this; exact this
          · have := drop_set (b.getD j 0) g4
            rw [hs] at this; exact this
    · have hb : b = ts.map (bindT v val) := of_take (by simpa using g2) g3 (by simp; omega)
      simp -implicitDefEqProofs (maxSteps := 2000000) only [go_sem, c1, c2, c3, h2, g2, List.length_take, Nat.min_self, wk]
      refine ⟨(k + 1, L.set k ⟨r, b⟩), ⟨c1, by simpa using h2, ?_, drop_set _ h4⟩, by simp; omega, (le_st' _ _ [⟨960, some _, false, 2, _⟩, ⟨961, some _, false, 1, _⟩] [] _ (by simp -implicitDefEqProofs (maxSteps := 2000000) only [go_sem] <;> and_intros <;> rfl) (by simp -implicitDefEqProofs (maxSteps := 2000000) only [go_sem] <;> and_intros <;> rfl) (by simp -implicitDefEqProofs (maxSteps := 2000000) only [go_sem] <;> and_intros <;> rfl) (by rfl))⟩
      exact take_set_to (d := default) (by simpa using h2) h3 (by simpa using c1) (by rw [map_getA c1, hat, bindA, hb])
  · have hL : L = q.atoms.map (bindA v val) := of_take (by simpa using h2) h3 (by simp; omega)
    simp -implicitDefEqProofs (maxSteps := 2000000) only [go_sem, c1, h2, List.length_take, Nat.min_self]
    rw [hL]
    refine awp_loop Nat (fun k => mkSt [(1, .sc (.int .i64 v)), (3, .one (.vad 1000 0)), (6, .one (.vad 1064 0)), (8, .one (.vad 1320 0)), (12, .sc (.int .i64 k))] [(1000, sQu q), (1064, zQu), (1320, [.sc (.int .i64 (IntKind.i64.wrap (q.vc - 1))), .ref 960 2 0 q.atoms.length, .ref 961 1 0 (freeB v (q.free.take k)).length])] [(960, (2, ris 999 (q.atoms.map (bindA v val)))), (961, (1, ints (freeB v (q.free.take k))))] 14000)
      (fun k => k ≤ q.free.length) (fun k => q.free.length - k) 0 (by omega) (le_st' _ _ [⟨960, some _, false, 2, _⟩, ⟨961, some _, false, 1, _⟩] [] _ (by simp -implicitDefEqProofs (maxSteps := 2000000) only [go_sem, freeB, List.take_zero] <;> and_intros <;> rfl) (by simp -implicitDefEqProofs (maxSteps := 2000000) only [go_sem, freeB, List.take_zero] <;> and_intros <;> rfl) (by simp -implicitDefEqProofs (maxSteps := 2000000) only [go_sem, freeB, List.take_zero] <;> and_intros <;> rfl) (by rfl)) ?_
    rintro m g1
    have hfl := freeB_len v (q.free.take m)
    have hfm : (q.free.take m).length ≤ q.free.length := by rw [List.length_take]; omega
    by_cases c3 : m < q.free.length
    · have wm : IntKind.i64.wrap ((m : Int) + 1) = ((m + 1 : Nat) : Int) := i64_succ (by omega)
      have hst := freeB_step (v := v) c3
      rcases Int.lt_trichotomy (q.free.getD m 0) v with d3 | d3 | d3
      · have f1 : decide (q.free.getD m 0 < v) = true := decide_eq_true d3
        have f2 : decide (q.free.getD m 0 > v) = false := decide_eq_false (by omega)
        rw [freeB, if_neg (by omega), bindF, if_neg (by omega), freeB] at hst
        simp -implicitDefEqProofs (maxSteps := 2000000) only [go_sem, c3, f1, f2]
        repeat (refine ⟨by omega, ?_⟩)
        refine tr_and (by kernel_rfl) ?_
        rw [wm]
        refine ⟨m + 1, c3, by omega, ?_⟩
        rw [hst]
        exact (le_st' _ _ [⟨960, some _, false, 2, _⟩, ⟨961, some _, false, 1, _⟩] [] _ (by simp -implicitDefEqProofs (maxSteps := 2000000) only [go_sem] <;> and_intros <;> rfl) (by simp -implicitDefEqProofs (maxSteps := 2000000) only [go_sem] <;> and_intros <;> rfl) (by simp -implicitDefEqProofs (maxSteps := 2000000) only [go_sem] <;> and_intros <;> rfl) (by rfl))
      · have f1 : decide (q.free.getD m 0 < v) = false := decide_eq_false (by omega)
        have f2 : decide (q.free.getD m 0 > v) = false := decide_eq_false (by omega)
        rw [freeB, if_pos d3, freeB, List.append_nil] at hst
        simp -implicitDefEqProofs (maxSteps := 2000000) only [go_sem, c3, f1, f2]
        rw [wm]
        refine ⟨m + 1, c3, by omega, ?_⟩
        rw [hst]
        exact (le_st' _ _ [⟨960, some _, false, 2, _⟩, ⟨961, some _, false, 1, _⟩] [] _ (by simp -implicitDefEqProofs (maxSteps := 2000000) only [go_sem] <;> and_intros <;> rfl) (by simp -implicitDefEqProofs (maxSteps := 2000000) only [go_sem] <;> and_intros <;> rfl) (by simp -implicitDefEqProofs (maxSteps := 2000000) only [go_sem] <;> and_intros <;> rfl) (by rfl))
      · have f1 : decide (q.free.getD m 0 < v) = false := decide_eq_false (by omega)
        have f2 : decide (q.free.getD m 0 > v) = true := decide_eq_true (by omega)
        rw [freeB, if_neg (by omega), bindF, if_pos (by omega), freeB] at hst
        simp -implicitDefEqProofs (maxSteps := 2000000) only [go_sem, c3, f1, f2]
        repeat (refine ⟨by omega, ?_⟩)
        refine tr_and (by kernel_rfl) ?_
        rw [wm]
        refine ⟨m + 1, c3, by omega, ?_⟩
        rw [hst]
        exact (le_st' _ _ [⟨960, some _, false, 2, _⟩, ⟨961, some _, false, 1, _⟩] [] _ (by simp -implicitDefEqProofs (maxSteps := 2000000) only [go_sem] <;> and_intros <;> rfl) (by simp -implicitDefEqProofs (maxSteps := 2000000) only [go_sem] <;> and_intros <;> rfl) (by simp -implicitDefEqProofs (maxSteps := 2000000) only [go_sem] <;> and_intros <;> rfl) (by rfl))
    · obtain rfl : m = q.free.length := by omega
      rw [List.take_length]
      simp -implicitDefEqProofs (maxSteps := 2000000) only [go_sem, c3]
      kernel_rfl
set_option maxHeartbeats 4000000 in
theorem implBindVariable_sat (q : Qu) (v val : Int) (h : q.ok) : Sat Try.prog 28 [lQu q, lInt v, lInt val] [oQu (bindQ q v val), lBool (bindOk q v val)] [g3, g1, g1] := by
  refine sat_of_body mixed Try.func28 rfl (by kernel_rfl) (by kernel_rfl) (rs := [.cell 6 47, .tmp 7]) rfl rfl rfl ?_
  have hf := h.2
  have ha := h.1.1
  simp -implicitDefEqProofs (maxSteps := 2000000) only [go_sem]
  refine call_of (implCopyQuery_sat q h) (by simp -implicitDefEqProofs (maxSteps := 2000000) only [go_sem]) (callOk_still (by kernel_rfl) (by simp only [List.all_cons, List.all_nil, LV.still, LV.leaves, Leaf.still, ints_still, ris_still, eds_still, rels_still, iss_still, ems_still, Bool.and_self, Bool.and_true])) (by simp -implicitDefEqProofs (maxSteps := 2000000) only [go_sem]) ?_
  simp -implicitDefEqProofs (maxSteps := 2000000) only [go_sem]
  rcases d1 : inB v 0 (IntKind.i64.wrap (q.vc - 1))
  · have e : bindOk q v val = false := by rw [bindOk, d1]; rfl
    rw [bindQ, e, if_neg (by simp)]
    refine call_of (inW_sat v 0 (IntKind.i64.wrap (q.vc - 1))) (by simp -implicitDefEqProofs (maxSteps := 2000000) only [go_sem, d1]) (by kernel_rfl) (by simp -implicitDefEqProofs (maxSteps := 2000000) only [go_sem, d1]) ?_
    simp -implicitDefEqProofs (maxSteps := 2000000) only [go_sem, d1]
    first | done | rfl | exact ⟨rfl, rfl⟩ | exact ⟨rfl, rfl, rfl⟩ | (refine tr_and ?_ ?_ <;> first | rfl | exact ⟨rfl, rfl⟩ | kernel_rfl)
  rcases d2 : inB val 0 9
  · have e : bindOk q v val = false := by rw [bindOk, d2, Bool.and_false]
    rw [bindQ, e, if_neg (by simp)]
    refine call_of (inW_sat v 0 (IntKind.i64.wrap (q.vc - 1))) (by simp -implicitDefEqProofs (maxSteps := 2000000) only [go_sem, d1]) (by kernel_rfl) (by simp -implicitDefEqProofs (maxSteps := 2000000) only [go_sem, d1]) ?_
    simp -implicitDefEqProofs (maxSteps := 2000000) only [go_sem, d1]
    refine call_of (inW_sat val 0 9) (by simp -implicitDefEqProofs (maxSteps := 2000000) only [go_sem, d2]) (by kernel_rfl) (by simp -implicitDefEqProofs (maxSteps := 2000000) only [go_sem, d2]) ?_
    simp -implicitDefEqProofs (maxSteps := 2000000) only [go_sem, d2]
    first | done | rfl | exact ⟨rfl, rfl⟩ | exact ⟨rfl, rfl, rfl⟩ | (refine tr_and ?_ ?_ <;> first | rfl | exact ⟨rfl, rfl⟩ | kernel_rfl)
  have e : bindOk q v val = true := by rw [bindOk, d1, d2]; rfl
  rw [bindQ, e, if_pos rfl]
  obtain ⟨b1, b2⟩ := inB_of d2
  obtain ⟨b3, _⟩ := inB_of d1
  have wv : IntKind.i64.wrap (-1 - val) = -1 - val := IntWalk.i64_in _ (by omega)
  refine call_of (inW_sat v 0 (IntKind.i64.wrap (q.vc - 1))) (by simp -implicitDefEqProofs (maxSteps := 2000000) only [go_sem, d1]) (by kernel_rfl) (by simp -implicitDefEqProofs (maxSteps := 2000000) only [go_sem, d1]) ?_
  simp -implicitDefEqProofs (maxSteps := 2000000) only [go_sem, d1]
  refine call_of (inW_sat val 0 9) (by simp -implicitDefEqProofs (maxSteps := 2000000) only [go_sem, d2]) (by kernel_rfl) (by simp -implicitDefEqProofs (maxSteps := 2000000) only [go_sem, d2]) ?_
  simp -implicitDefEqProofs (maxSteps := 2000000) only [go_sem, d2]
  refine awp_loop (Nat × List RI) (fun x => mkSt [(1, .sc (.int .i64 v)), (2, .sc (.int .i64 val)), (3, .one (.vad 1000 0)), (6, .one (.vad 1064 0)), (8, .one (.vad 1320 0)), (30, .one (.ref 960 2 0 q.atoms.length)), (31, .sc (.int .i64 q.atoms.length)), (32, .sc (.int .i64 x.1))] [(1000, sQu q), (1064, zQu), (1320, [.sc (.int .i64 q.vc), .ref 960 2 0 q.atoms.length, .ref 961 1 0 q.free.length])] [(960, (2, ris 999 x.2)), (961, (1, ints q.free))] 9000)
    (fun x => x.1 ≤ q.atoms.length ∧ x.2.length = q.atoms.length ∧ x.2.take x.1 = (q.atoms.map (bindA v val)).take x.1 ∧ x.2.drop x.1 = q.atoms.drop x.1) (fun x => q.atoms.length - x.1) (0, q.atoms) ⟨by simp, rfl, rfl, rfl⟩ (le_st' _ _ [⟨960, some _, false, 2, _⟩, ⟨961, some _, false, 1, _⟩] [] _ (by simp -implicitDefEqProofs (maxSteps := 2000000) only [go_sem] <;> and_intros <;> rfl) (by simp -implicitDefEqProofs (maxSteps := 2000000) only [go_sem] <;> and_intros <;> rfl) (by simp -implicitDefEqProofs (maxSteps := 2000000) only [go_sem] <;> and_intros <;> rfl) (by rfl)) ?_
  rintro ⟨k, L⟩ ⟨h1, h2, h3, h4⟩
  simp only at h1 h2 h3 h4
  by_cases c1 : k < q.atoms.length
  · have wk : IntKind.i64.wrap ((k : Int) + 1) = ((k + 1 : Nat) : Int) := i64_succ (by omega)
    have e1 := drop_get (d := default) h2 h4 c1
    have c2 : k < L.length := by omega
    obtain ⟨r, ts, hat⟩ : ∃ r ts, q.atoms.getD k default = ⟨r, ts⟩ := ⟨_, _, rfl⟩
    have hts : ts.length ≤ 1048576 := by
      have := h.1.2 _ (mem_getD default c1)
      rw [hat] at this; exact this
    have hL : L.set k ⟨r, ts⟩ = L := by rw [← hat, ← e1]; exact set_getD c2
    rw [hat] at e1
    simp -implicitDefEqProofs (maxSteps := 2000000) only [go_sem, c1, c2, h2, List.length_take, Nat.min_self, e1]
    refine ⟨by rw [solidRin_sl (s' := 999) (xs := iv (L.getD k default).l) (by rw [ris_get c2]; rfl)], ?_⟩
    rw [← hL]
    refine awp_loop (Nat × List Int) (fun x => mkSt [(1, .sc (.int .i64 v)), (2, .sc (.int .i64 val)), (3, .one (.vad 1000 0)), (6, .one (.vad 1064 0)), (8, .one (.vad 1320 0)), (10, .one (.vad 9192 0)), (30, .one (.ref 960 2 0 q.atoms.length)), (31, .sc (.int .i64 q.atoms.length)), (32, .sc (.int .i64 k)), (37, .one (.rin 960 k 1 999 0 ts.length)), (38, .sc (.int .i64 ts.length)), (39, .sc (.int .i64 x.1))]
      [(1000, sQu q), (1064, zQu), (1320, [.sc (.int .i64 q.vc), .ref 960 2 0 q.atoms.length, .ref 961 1 0 q.free.length]), (9192, [.sc (.int .i64 r), .rin 960 k 1 999 0 ts.length])] [(960, (2, ris 999 (L.set k ⟨r, x.2⟩))), (961, (1, ints q.free))] 12000)
      (fun x => x.1 ≤ ts.length ∧ x.2.length = ts.length ∧ x.2.take x.1 = (ts.map (bindT v val)).take x.1 ∧ x.2.drop x.1 = ts.drop x.1) (fun x => ts.length - x.1) (0, ts) ⟨by simp, rfl, rfl, rfl⟩ ?_ ?_
    · rw [hL]
      exact (le_st' _ _ [⟨960, some _, true, 2, _⟩, ⟨961, some _, false, 1, _⟩] [] _ (by simp -implicitDefEqProofs (maxSteps := 2000000) only [go_sem] <;> and_intros <;> rfl) (by simp -implicitDefEqProofs (maxSteps := 2000000) only [go_sem] <;> and_intros <;> rfl) (by simp -implicitDefEqProofs (maxSteps := 2000000) only [go_sem] <;> and_intros <;> rfl) (by rfl))
    rintro ⟨j, b⟩ ⟨g1, g2, g3, g4⟩
    simp only at g1 g2 g3 g4
    by_cases c3 : j < ts.length
    · have wj : IntKind.i64.wrap ((j : Int) + 1) = ((j + 1 : Nat) : Int) := i64_succ (by omega)
      have e2 := drop_get (d := 0) g2 g4 c3
      have nx : ∀ t', t' = bindT v val (ts.getD j 0) → (b.set j t').take (j + 1) = (ts.map (bindT v val)).take (j + 1) := fun t' ht =>
        take_set_to (d := 0) (by simpa using g2) g3 (by simpa using c3) (by rw [map_getI c3, ht])
      have hbl : (L.set k ⟨r, b⟩).length = q.atoms.length := by simpa using h2
      by_cases d3 : b.getD j 0 = v
      · have f1 : (b.getD j 0 == v) = true := by rw [d3]; simp
        simp -implicitDefEqProofs (maxSteps := 2000000) only [go_sem, c1, c2, c3, h2, g2, List.length_take, Nat.min_self]
        refine call_of (bound_sat (b.getD j 0) v) (by simp -implicitDefEqProofs (maxSteps := 2000000) only [go_sem, c2, c3, g2]) (by kernel_rfl) (by simp -implicitDefEqProofs (maxSteps := 2000000) only [go_sem, c2, c3, g2]) ?_
        simp -implicitDefEqProofs (maxSteps := 2000000) only [go_sem, c2, c3, g2]
        refine tr_and (by kernel_rfl) ?_
        simp -implicitDefEqProofs (maxSteps := 2000000) only [go_sem, f1]
        refine call_of (constantB_sat val (by omega)) (by simp -implicitDefEqProofs (maxSteps := 2000000) only [go_sem, c2, c3, g2]) (by kernel_rfl) (by simp -implicitDefEqProofs (maxSteps := 2000000) only [go_sem, c2, c3, g2]) ?_
        simp -implicitDefEqProofs (maxSteps := 2000000) only [go_sem, c2, c3, g2]
        refine tr_and (by kernel_rfl) ?_
        rw [wj]
        exact ⟨(j + 1, b.set j (-1 - val)), ⟨c3, by simpa using g2, nx _ (by rw [← e2, bindT, if_pos d3]), drop_set _ g4⟩, by simp; omega, (le_st' _ _ [⟨960, some _, true, 2, _⟩, ⟨961, some _, false, 1, _⟩] [] _ (by simp -implicitDefEqProofs (maxSteps := 2000000) only [go_sem, c2, h2, g2] <;> and_intros <;> rfl) (by simp -implicitDefEqProofs (maxSteps := 2000000) only [go_sem, c2, h2, g2] <;> and_intros <;> rfl) (by simp -implicitDefEqProofs (maxSteps := 2000000) only [go_sem, c2, h2, g2] <;> and_intros <;> rfl) (by rfl))⟩
      · have f1 : (b.getD j 0 == v) = false := by rw [beq_eq_false_iff_ne]; exact d3
        simp -implicitDefEqProofs (maxSteps := 2000000) only [go_sem, c1, c2, c3, h2, g2, List.length_take, Nat.min_self]
        refine call_of (bound_sat (b.getD j 0) v) (by simp -implicitDefEqProofs (maxSteps := 2000000) only [go_sem, c2, c3, g2]) (by kernel_rfl) (by simp -implicitDefEqProofs (maxSteps := 2000000) only [go_sem, c2, c3, g2]) ?_
        simp -implicitDefEqProofs (maxSteps := 2000000) only [go_sem, c2, c3, g2]
        refine tr_and (by kernel_rfl) ?_
        simp -implicitDefEqProofs (maxSteps := 2000000) only [go_sem, f1]
        rw [wj]
        exact ⟨(j + 1, b.set j (bindF v (b.getD j 0))), ⟨c3, by simpa using g2, nx _ (by rw [← e2, bindT, if_neg d3, bindF]), drop_set _ g4⟩, by simp; omega, (le_st' _ _ [⟨960, some _, true, 2, _⟩, ⟨961, some _, false, 1, _⟩] [] _ (by simp -implicitDefEqProofs (maxSteps := 2000000) only [go_sem, c2, h2, g2] <;> and_intros <;> rfl) (by simp -implicitDefEqProofs (maxSteps := 2000000) only [go_sem, c2, h2, g2] <;> and_intros <;> rfl) (by simp -implicitDefEqProofs (maxSteps := 2000000) only [go_sem, c2, h2, g2] <;> and_intros <;> rfl) (by rfl))⟩
    · have hb : b = ts.map (bindT v val) := of_take (by simpa using g2) g3 (by simp; omega)
      simp -implicitDefEqProofs (maxSteps := 2000000) only [go_sem, c1, c2, c3, h2, g2, List.length_take, Nat.min_self, wk]
      refine ⟨(k + 1, L.set k ⟨r, b⟩), ⟨c1, by simpa using h2, ?_, drop_set _ h4⟩, by simp; omega, (le_st' _ _ [⟨960, some _, false, 2, _⟩, ⟨961, some _, false, 1, _⟩] [] _ (by simp -implicitDefEqProofs (maxSteps := 2000000) only [go_sem] <;> and_intros <;> rfl) (by simp -implicitDefEqProofs (maxSteps := 2000000) only [go_sem] <;> and_intros <;> rfl) (by simp -implicitDefEqProofs (maxSteps := 2000000) only [go_sem] <;> and_intros <;> rfl) (by rfl))⟩
      exact take_set_to (d := default) (by simpa using h2) h3 (by simpa using c1) (by rw [map_getA c1, hat, bindA, hb])
  · have hL : L = q.atoms.map (bindA v val) := of_take (by simpa using h2) h3 (by simp; omega)
    simp -implicitDefEqProofs (maxSteps := 2000000) only [go_sem, c1, h2, List.length_take, Nat.min_self]
    rw [hL]
    refine awp_loop Nat (fun k => mkSt [(1, .sc (.int .i64 v)), (3, .one (.vad 1000 0)), (6, .one (.vad 1064 0)), (8, .one (.vad 1320 0)), (64, .one (.im 1 (ints q.free))), (65, .sc (.int .i64 q.free.length)), (66, .sc (.int .i64 k))] [(1000, sQu q), (1064, zQu), (1320, [.sc (.int .i64 q.vc), .ref 960 2 0 q.atoms.length, .ref 961 1 0 (freeB v (q.free.take k)).length])] [(960, (2, ris 999 (q.atoms.map (bindA v val)))), (961, (1, ints (freeB v (q.free.take k))))] 14000)
      (fun k => k ≤ q.free.length) (fun k => q.free.length - k) 0 (by omega) (le_st' _ _ [⟨960, some _, false, 2, _⟩, ⟨961, none, false, 1, _⟩] [] _ (by simp -implicitDefEqProofs (maxSteps := 2000000) only [go_sem, freeB, List.take_zero] <;> and_intros <;> rfl) (by simp -implicitDefEqProofs (maxSteps := 2000000) only [go_sem, freeB, List.take_zero] <;> and_intros <;> rfl) (by simp -implicitDefEqProofs (maxSteps := 2000000) only [go_sem, freeB, List.take_zero] <;> and_intros <;> rfl) (by rfl)) ?_
    rintro m g1
    have hfl := freeB_len v (q.free.take m)
    have hfm : (q.free.take m).length ≤ q.free.length := by rw [List.length_take]; omega
    by_cases c3 : m < q.free.length
    · have wm : IntKind.i64.wrap ((m : Int) + 1) = ((m + 1 : Nat) : Int) := i64_succ (by omega)
      have hst := freeB_step (v := v) c3
      by_cases d3 : q.free.getD m 0 = v
      · have f1 : (q.free.getD m 0 != v) = false := by rw [bne, d3]; simp
        rw [freeB, if_pos d3, freeB, List.append_nil] at hst
        simp -implicitDefEqProofs (maxSteps := 2000000) only [go_sem, c3, f1]
        rw [wm]
        refine ⟨m + 1, c3, by omega, ?_⟩
        rw [hst]
        exact (le_st' _ _ [⟨960, some _, false, 2, _⟩, ⟨961, some _, false, 1, _⟩] [] _ (by simp -implicitDefEqProofs (maxSteps := 2000000) only [go_sem] <;> and_intros <;> rfl) (by simp -implicitDefEqProofs (maxSteps := 2000000) only [go_sem] <;> and_intros <;> rfl) (by simp -implicitDefEqProofs (maxSteps := 2000000) only [go_sem] <;> and_intros <;> rfl) (by rfl))
      · have f1 : (q.free.getD m 0 != v) = true := by rw [bne, Bool.not_eq_true', beq_eq_false_iff_ne]; exact d3
        rw [freeB, if_neg d3, freeB] at hst
        simp -implicitDefEqProofs (maxSteps := 2000000) only [go_sem, c3, f1]
        refine call_of (bound_sat (q.free.getD m 0) v) (by simp -implicitDefEqProofs (maxSteps := 2000000) only [go_sem]) (by kernel_rfl) (by simp -implicitDefEqProofs (maxSteps := 2000000) only [go_sem]) ?_
        simp -implicitDefEqProofs (maxSteps := 2000000) only [go_sem]
        repeat (refine ⟨by omega, ?_⟩)
        refine tr_and (by kernel_rfl) ?_
        rw [wm]
        refine ⟨m + 1, c3, by omega, ?_⟩
        rw [hst]
        exact (le_st' _ _ [⟨960, some _, false, 2, _⟩, ⟨961, some _, false, 1, _⟩] [] _ (by simp -implicitDefEqProofs (maxSteps := 2000000) only [go_sem, repC, List.set_cons_zero] <;> and_intros <;> rfl) (by simp -implicitDefEqProofs (maxSteps := 2000000) only [go_sem, repC, List.set_cons_zero] <;> and_intros <;> rfl) (by simp -implicitDefEqProofs (maxSteps := 2000000) only [go_sem, repC, List.set_cons_zero] <;> and_intros <;> rfl) (by rfl))
    · obtain rfl : m = q.free.length := by omega
      rw [List.take_length]
      simp -implicitDefEqProofs (maxSteps := 2000000) only [go_sem, c3]
      kernel_rfl
theorem markQu_vc (q : Qu) (k : Int) : (markQu q k).vc = q.vc := rfl
theorem markQu_at (q : Qu) (k : Int) : (markQu q k).atoms = markRI q.atoms k := rfl
theorem markQu_fr (q : Qu) (k : Int) : (markQu q k).free = cnt (k + numRI q.atoms) q.free.length := rfl
theorem markRI_full (a : List RI) (k : Int) : List.take a.length (markRI a k) = markRI a k := List.take_of_length_le (by rw [markRI_length]; omega)
attribute [go_sem] markQu_vc markQu_at markQu_fr markRI_full
theorem bindQ_ok {q : Qu} (v val : Int) (h : q.ok) : (bindQ q v val).ok := by
  unfold bindQ
  split
  · refine ⟨⟨by simpa using h.1.1, fun x hx => ?_⟩, ?_⟩
    · obtain ⟨a, ha, rfl⟩ := List.mem_map.mp hx
      have := h.1.2 a ha
      unfold RI.ok at this ⊢
      simpa [bindA] using this
    · have := freeB_len v q.free
      have := h.2
      show (freeB v q.free).length ≤ _
      omega
  · exact h
end Go.Proofs.Ytbalifgacjmbpaa.A
