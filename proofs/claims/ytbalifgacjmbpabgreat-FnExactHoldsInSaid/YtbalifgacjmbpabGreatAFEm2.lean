
/- EMBEDDINGS: one fact against one atom, the two programs. Conditions: none. -/
import Derived.Test.YtbalifgacjmbpabGreatAFEm1
import Derived.Test.YtbalifgacjmbpabGreatAFRep
import Derived.Test.YtbalifgacjmbpabGreatAFSort
namespace Go.Proofs.YtbalifgacjmbpabGreat.A
open Go
set_option linter.unusedSimpArgs false
set_option linter.unusedVariables false
set_option maxRecDepth 100000

theorem isVariable_sat (t : Int) : Sat Tryz.prog 80 [lInt t] [lBool (decide (0 ≤ t))] [g1] := by
  refine sat_of_body mixed Tryz.func80 rfl (by kernel_rfl) (by kernel_rfl) (rs := [.tmp 2]) rfl rfl rfl ?_
  simp -implicitDefEqProofs (maxSteps := 2000000) only [go_sem]
  first | done | rfl | exact ⟨rfl, rfl⟩ | exact ⟨rfl, rfl, rfl⟩ | (refine tr_and ?_ ?_ <;> first | rfl | exact ⟨rfl, rfl⟩ | kernel_rfl)
theorem constantTerm_sat (t : Int) (h : -1000 ≤ t ∧ t ≤ 1000) : Sat Tryz.prog 81 [lInt t] [lInt (-1 - t)] [g1] := by
  refine sat_of_body mixed Tryz.func81 rfl (by kernel_rfl) (by kernel_rfl) (rs := [.tmp 2]) rfl rfl rfl ?_
  have w : IntKind.i64.wrap (-1 - t) = -1 - t := IntWalk.i64_in _ (by omega)
  simp -implicitDefEqProofs (maxSteps := 2000000) only [go_sem, w]
  first | done | rfl | exact ⟨rfl, rfl⟩ | exact ⟨rfl, rfl, rfl⟩ | (refine tr_and ?_ ?_ <;> first | rfl | exact ⟨rfl, rfl⟩ | kernel_rfl)
theorem set_same {x : List Int} {t : Nat} {f : Int} (h : x.getD t 0 = f) : x.set t f = x := by
  refine List.ext_getElem? fun k => ?_
  rw [List.getElem?_set]
  split
  · rename_i e
    subst e
    split
    · rename_i hk
      rw [← h, List.getD_eq_getElem?_getD, List.getElem?_eq_getElem hk]; rfl
    · rename_i hk
      rw [List.getElem?_eq_none (by omega)]
  · rfl
def uniO (o : Option (List Int)) : List Int := o.getD []
theorem unify_sat (vs ts fs : List Int) (h1 : vs.length ≤ 1048576) (h2 : ts.length ≤ fs.length) (h3 : fs.length ≤ 1048576) (ht : tsOk vs.length ts) :
    Sat Tryz.prog 49 [lInts vs, lInts ts, lInts fs] [oInts ((uniS ts fs vs ts.length).getD []), lBool (uniS ts fs vs ts.length).isSome] [g1, g1, g1] := by
  refine sat_of_body mixed Tryz.func49 rfl (by kernel_rfl) (by kernel_rfl) (rs := [.tmp 6, .tmp 7]) rfl rfl rfl ?_
  simp -implicitDefEqProofs (maxSteps := 2000000) only [go_sem]
  refine call_of (slicesClone_sat vs h1) (by simp -implicitDefEqProofs (maxSteps := 2000000) only [go_sem]) (callOk_still (by kernel_rfl) (by simp only [List.all_cons, List.all_nil, LV.still, LV.leaves, Leaf.still, ints_still, ris_still, eds_still, rels_still, iss_still, ems_still, Bool.and_self, Bool.and_true])) (by simp -implicitDefEqProofs (maxSteps := 2000000) only [go_sem]) ?_
  simp -implicitDefEqProofs (maxSteps := 2000000) only [go_sem]
  refine awp_loop (Nat × List Int) (fun x => mkSt [(2, .one (.im 1 (ints fs))), (8, .one (.ref 960 1 0 vs.length)), (13, .one (.im 1 (ints ts))), (14, .sc (.int .i64 ts.length)), (15, .sc (.int .i64 x.1))] [] [(960, (1, ints x.2))] 2000)
    (fun x => x.1 ≤ ts.length ∧ uniS ts fs vs x.1 = some x.2) (fun x => ts.length - x.1) (0, vs) ⟨by simp, rfl⟩ (le_st' _ _ [⟨960, some _, false, 1, _⟩] [] _ (by simp -implicitDefEqProofs (maxSteps := 2000000) only [go_sem] <;> and_intros <;> rfl) (by simp -implicitDefEqProofs (maxSteps := 2000000) only [go_sem] <;> and_intros <;> rfl) (by simp -implicitDefEqProofs (maxSteps := 2000000) only [go_sem] <;> and_intros <;> rfl) (by rfl)) ?_
  rintro ⟨k, x⟩ ⟨h4, h5⟩
  simp only at h4 h5
  have hx := uniS_len h5
  by_cases c1 : k < ts.length
  · have c2 : k < fs.length := by omega
    obtain ⟨b1, b2⟩ := ht k c1
    have hs := uniS_step h5
    have wk : IntKind.i64.wrap ((k : Int) + 1) = ((k + 1 : Nat) : Int) := i64_succ (by omega)
    by_cases d1 : ts.getD k 0 < 0
    · have e1 : decide (0 ≤ ts.getD k 0) = false := decide_eq_false (by omega)
      by_cases d2 : -1 - ts.getD k 0 = fs.getD k 0
      · have e2 : (-1 - ts.getD k 0 != fs.getD k 0) = false := by rw [bne, d2]; simp
        rw [stepU, if_pos d1, if_pos d2] at hs
        simp -implicitDefEqProofs (maxSteps := 2000000) only [go_sem, c1]
        refine call_of (isVariable_sat (ts.getD k 0)) (by simp -implicitDefEqProofs (maxSteps := 2000000) only [go_sem, e1]) (by kernel_rfl) (by simp -implicitDefEqProofs (maxSteps := 2000000) only [go_sem, e1]) ?_
        simp -implicitDefEqProofs (maxSteps := 2000000) only [go_sem, e1]
        refine call_of (constantTerm_sat (ts.getD k 0) (by omega)) (by simp -implicitDefEqProofs (maxSteps := 2000000) only [go_sem, c2, e2]) (by kernel_rfl) (by simp -implicitDefEqProofs (maxSteps := 2000000) only [go_sem, c2, e2]) ?_
        simp -implicitDefEqProofs (maxSteps := 2000000) only [go_sem, c2, e2]
        first | (with_reducible refine tr_and ?_ ?_; focus kernel_rfl) | (with_reducible refine tr_only ?_; kernel_rfl) | skip
        rw [wk]
        exact ⟨(k + 1, x), ⟨c1, hs⟩, by simp; omega, (le_st' _ _ [⟨960, some _, false, 1, _⟩] [] _ (by simp -implicitDefEqProofs (maxSteps := 2000000) only [go_sem, hx] <;> and_intros <;> rfl) (by simp -implicitDefEqProofs (maxSteps := 2000000) only [go_sem, hx] <;> and_intros <;> rfl) (by simp -implicitDefEqProofs (maxSteps := 2000000) only [go_sem, hx] <;> and_intros <;> rfl) (by rfl))⟩
      · have e2 : (-1 - ts.getD k 0 != fs.getD k 0) = true := by rw [bne, Bool.not_eq_true', beq_eq_false_iff_ne]; exact d2
        rw [stepU, if_pos d1, if_neg d2] at hs
        rw [uniS_stop hs c1]
        simp -implicitDefEqProofs (maxSteps := 2000000) only [go_sem, c1]
        refine call_of (isVariable_sat (ts.getD k 0)) (by simp -implicitDefEqProofs (maxSteps := 2000000) only [go_sem, e1]) (by kernel_rfl) (by simp -implicitDefEqProofs (maxSteps := 2000000) only [go_sem, e1]) ?_
        simp -implicitDefEqProofs (maxSteps := 2000000) only [go_sem, e1]
        refine call_of (constantTerm_sat (ts.getD k 0) (by omega)) (by simp -implicitDefEqProofs (maxSteps := 2000000) only [go_sem, c2, e2]) (by kernel_rfl) (by simp -implicitDefEqProofs (maxSteps := 2000000) only [go_sem, c2, e2]) ?_
        simp -implicitDefEqProofs (maxSteps := 2000000) only [go_sem, c2, e2]
        first | (with_reducible refine tr_and ?_ ?_; focus kernel_rfl) | (with_reducible refine tr_only ?_; kernel_rfl) | skip
        first | done | rfl | exact ⟨rfl, rfl⟩ | exact ⟨rfl, rfl, rfl⟩ | (refine tr_and ?_ ?_ <;> first | rfl | exact ⟨rfl, rfl⟩ | kernel_rfl)
    · have e1 : decide (0 ≤ ts.getD k 0) = true := decide_eq_true (by omega)
      obtain ⟨t, et⟩ : ∃ t : Nat, ts.getD k 0 = t := ⟨(ts.getD k 0).toNat, by omega⟩
      have c3 : t < vs.length := by omega
      rw [et] at hs d1 b2 b1
      rw [stepU, if_neg d1, Int.toNat_natCast] at hs
      rw [et] at e1
      have c4 : t < x.length := by omega
      by_cases d3 : x.getD t 0 < 0
      · rw [if_pos d3] at hs
        have e3 : decide (x.getD t 0 < 0) = true := decide_eq_true d3
        simp -implicitDefEqProofs (maxSteps := 2000000) only [go_sem, c1, et]
        refine call_of (isVariable_sat t) (by simp -implicitDefEqProofs (maxSteps := 2000000) only [go_sem, e1, c2, c3, c4, e3, hx]) (by kernel_rfl) (by simp -implicitDefEqProofs (maxSteps := 2000000) only [go_sem, e1, c2, c3, c4, e3, hx]) ?_
        simp -implicitDefEqProofs (maxSteps := 2000000) only [go_sem, e1, c2, c3, c4, e3, hx]
        rw [wk]
        exact ⟨(k + 1, x.set t (fs.getD k 0)), ⟨c1, hs⟩, by simp; omega, (le_st' _ _ [⟨960, some _, false, 1, _⟩] [] _ (by simp -implicitDefEqProofs (maxSteps := 2000000) only [go_sem, hx] <;> and_intros <;> rfl) (by simp -implicitDefEqProofs (maxSteps := 2000000) only [go_sem, hx] <;> and_intros <;> rfl) (by simp -implicitDefEqProofs (maxSteps := 2000000) only [go_sem, hx] <;> and_intros <;> rfl) (by rfl))⟩
      · rw [if_neg d3] at hs
        have e3 : decide (x.getD t 0 < 0) = false := decide_eq_false d3
        by_cases d4 : x.getD t 0 = fs.getD k 0
        · rw [if_pos d4] at hs
          have e4 : (x.getD t 0 != fs.getD k 0) = false := by rw [bne, d4]; simp
          simp -implicitDefEqProofs (maxSteps := 2000000) only [go_sem, c1, et]
          refine call_of (isVariable_sat t) (by simp -implicitDefEqProofs (maxSteps := 2000000) only [go_sem, e1, c2, c3, c4, e3, e4, hx]) (by kernel_rfl) (by simp -implicitDefEqProofs (maxSteps := 2000000) only [go_sem, e1, c2, c3, c4, e3, e4, hx]) ?_
          simp -implicitDefEqProofs (maxSteps := 2000000) only [go_sem, e1, c2, c3, c4, e3, e4, hx]
          first | (with_reducible refine tr_and ?_ ?_; focus kernel_rfl) | (with_reducible refine tr_only ?_; kernel_rfl) | skip
          rw [wk]
          exact ⟨(k + 1, x), ⟨c1, hs⟩, by simp; omega, (le_st' _ _ [⟨960, some _, false, 1, _⟩] [] _ (by simp -implicitDefEqProofs (maxSteps := 2000000) only [go_sem, hx] <;> and_intros <;> rfl) (by simp -implicitDefEqProofs (maxSteps := 2000000) only [go_sem, hx] <;> and_intros <;> rfl) (by simp -implicitDefEqProofs (maxSteps := 2000000) only [go_sem, hx] <;> and_intros <;> rfl) (by rfl))⟩
        · rw [if_neg d4] at hs
          have e4 : (x.getD t 0 != fs.getD k 0) = true := by rw [bne, Bool.not_eq_true', beq_eq_false_iff_ne]; exact d4
          rw [uniS_stop hs c1]
          simp -implicitDefEqProofs (maxSteps := 2000000) only [go_sem, c1, et]
          refine call_of (isVariable_sat t) (by simp -implicitDefEqProofs (maxSteps := 2000000) only [go_sem, e1, c2, c3, c4, e3, e4, hx]) (by kernel_rfl) (by simp -implicitDefEqProofs (maxSteps := 2000000) only [go_sem, e1, c2, c3, c4, e3, e4, hx]) ?_
          simp -implicitDefEqProofs (maxSteps := 2000000) only [go_sem, e1, c2, c3, c4, e3, e4, hx]
          first | (with_reducible refine tr_and ?_ ?_; focus kernel_rfl) | (with_reducible refine tr_only ?_; kernel_rfl) | skip
          first | done | rfl | exact ⟨rfl, rfl⟩ | exact ⟨rfl, rfl, rfl⟩ | (refine tr_and ?_ ?_ <;> first | rfl | exact ⟨rfl, rfl⟩ | kernel_rfl)
  · obtain rfl : k = ts.length := by omega
    rw [h5]
    simp -implicitDefEqProofs (maxSteps := 2000000) only [go_sem, c1]
    exact ⟨hx.symm, by kernel_rfl⟩
theorem l12Meet_sat (a f : RI) (vs : List Int) (h1 : vs.length ≤ 1048576) (h2 : f.l.length ≤ 1048576) (hl : f.r = a.r → f.l.length = a.l.length) (ht : tsOk vs.length a.l) :
    Sat Tryz.prog 74 [lRI a, lRI f, lInts vs] [oInts (meetV a f vs), lBool (meet a f vs).isSome] [g2, g2, g1] := by
  refine sat_of_body mixed Tryz.func74 rfl (by kernel_rfl) (by kernel_rfl) (rs := [.tmp 6, .tmp 7]) rfl rfl rfl ?_
  rcases a with ⟨ar, ts⟩
  rcases f with ⟨fr, fs⟩
  simp only at h2 hl ht
  unfold meetV meet
  simp only
  simp -implicitDefEqProofs (maxSteps := 2000000) only [go_sem]
  refine ⟨by omega, ?_⟩
  by_cases d0 : fr = ar
  case neg =>
    rw [if_neg d0, if_neg d0]
    have e0 : (fr != ar) = true := by rw [bne, Bool.not_eq_true', beq_eq_false_iff_ne]; exact d0
    simp -implicitDefEqProofs (maxSteps := 2000000) only [go_sem, e0]
    first | done | rfl | exact ⟨rfl, rfl⟩ | exact ⟨rfl, rfl, rfl⟩ | (refine tr_and ?_ ?_ <;> first | rfl | exact ⟨rfl, rfl⟩ | kernel_rfl)
  subst d0
  have hl := hl rfl
  rw [if_pos rfl, if_pos rfl]
  have e0 : (fr != fr) = false := by rw [bne]; simp
  have e1 : ((fs.length : Int) != (ts.length : Int)) = false := by rw [bne, hl]; simp
  simp -implicitDefEqProofs (maxSteps := 2000000) only [go_sem, e0, e1]
  refine awp_loop (Nat × List Int) (fun x => mkSt [(3, .one (.vad 1000 0)), (4, .one (.vad 1064 0)), (8, .one (.ref 960 1 0 vs.length)), (9, .sc (.int .i64 x.1))] [(1000, sRI ⟨fr, ts⟩), (1064, sRI ⟨fr, fs⟩)] [(960, (1, ints x.2))] 4000)
    (fun x => x.1 ≤ ts.length ∧ uniS ts fs vs x.1 = some x.2) (fun x => ts.length - x.1) (0, vs) ⟨by simp, rfl⟩ (le_st' _ _ [⟨960, some _, false, 1, _⟩] [] _ (by simp -implicitDefEqProofs (maxSteps := 2000000) only [go_sem] <;> and_intros <;> rfl) (by simp -implicitDefEqProofs (maxSteps := 2000000) only [go_sem] <;> and_intros <;> rfl) (by simp -implicitDefEqProofs (maxSteps := 2000000) only [go_sem] <;> and_intros <;> rfl) (by rfl)) ?_
  rintro ⟨k, x⟩ ⟨h4, h5⟩
  simp only at h4 h5
  have hx := uniS_len h5
  have hL : List.take vs.length x = x := List.take_of_length_le (by omega)
  by_cases c1 : k < ts.length
  · have c2 : k < fs.length := by omega
    obtain ⟨b1, b2⟩ := ht k c1
    have hs := uniS_step h5
    have wk : IntKind.i64.wrap ((k : Int) + 1) = ((k + 1 : Nat) : Int) := i64_succ (by omega)
    by_cases d1 : ts.getD k 0 < 0
    · have e1 : decide (ts.getD k 0 < 0) = true := decide_eq_true d1
      have w1 : IntKind.i64.wrap (-1 - ts.getD k 0) = -1 - ts.getD k 0 := IntWalk.i64_in _ (by omega)
      by_cases d2 : -1 - ts.getD k 0 = fs.getD k 0
      · have e2 : (-1 - ts.getD k 0 != fs.getD k 0) = false := by rw [bne, d2]; simp
        rw [stepU, if_pos d1, if_pos d2] at hs
        simp -implicitDefEqProofs (maxSteps := 2000000) only [go_sem, c1, c2, e1, e2, w1]
        rw [wk]
        exact ⟨(k + 1, x), ⟨c1, hs⟩, by simp; omega, (le_st' _ _ [⟨960, some _, false, 1, _⟩] [] _ (by simp -implicitDefEqProofs (maxSteps := 2000000) only [go_sem, hx] <;> and_intros <;> rfl) (by simp -implicitDefEqProofs (maxSteps := 2000000) only [go_sem, hx] <;> and_intros <;> rfl) (by simp -implicitDefEqProofs (maxSteps := 2000000) only [go_sem, hx] <;> and_intros <;> rfl) (by rfl))⟩
      · have e2 : (-1 - ts.getD k 0 != fs.getD k 0) = true := by rw [bne, Bool.not_eq_true', beq_eq_false_iff_ne]; exact d2
        rw [stepU, if_pos d1, if_neg d2] at hs
        rw [uniS_stop hs c1, uniL_stop h5 hs c1]
        simp -implicitDefEqProofs (maxSteps := 2000000) only [go_sem, c1, c2, e1, e2, w1]
        exact ⟨⟨hx.symm, rfl⟩, by kernel_rfl⟩
    · have e1 : decide (ts.getD k 0 < 0) = false := decide_eq_false d1
      obtain ⟨t, et⟩ : ∃ t : Nat, ts.getD k 0 = t := ⟨(ts.getD k 0).toNat, by omega⟩
      have c3 : t < vs.length := by omega
      have c4 : t < x.length := by omega
      rw [et] at hs d1 b2 b1 e1
      rw [stepU, if_neg d1, Int.toNat_natCast] at hs
      by_cases d3 : x.getD t 0 < 0
      · rw [if_pos d3] at hs
        have e3 : decide (x.getD t 0 ≥ 0) = false := decide_eq_false (by omega)
        simp -implicitDefEqProofs (maxSteps := 2000000) only [go_sem, c1, et, e1, c2, c3, c4, e3, hx]
        first | (with_reducible refine tr_and ?_ ?_; focus kernel_rfl) | (with_reducible refine tr_only ?_; kernel_rfl) | skip
        rw [wk]
        exact ⟨(k + 1, x.set t (fs.getD k 0)), ⟨c1, hs⟩, by simp; omega, (le_st' _ _ [⟨960, some _, false, 1, _⟩] [] _ (by simp -implicitDefEqProofs (maxSteps := 2000000) only [go_sem, hx] <;> and_intros <;> rfl) (by simp -implicitDefEqProofs (maxSteps := 2000000) only [go_sem, hx] <;> and_intros <;> rfl) (by simp -implicitDefEqProofs (maxSteps := 2000000) only [go_sem, hx] <;> and_intros <;> rfl) (by rfl))⟩
      · rw [if_neg d3] at hs
        have e3 : decide (x.getD t 0 ≥ 0) = true := decide_eq_true (by omega)
        by_cases d4 : x.getD t 0 = fs.getD k 0
        · rw [if_pos d4] at hs
          have e4 : (x.getD t 0 != fs.getD k 0) = false := by rw [bne, d4]; simp
          simp -implicitDefEqProofs (maxSteps := 2000000) only [go_sem, c1, et, e1, c2, c3, c4, e3, e4, hx]
          first | (with_reducible refine tr_and ?_ ?_; focus kernel_rfl) | (with_reducible refine tr_only ?_; kernel_rfl) | skip
          simp -implicitDefEqProofs (maxSteps := 2000000) only [go_sem, c1, et, e1, c2, c3, c4, e3, e4, hx, set_same d4]
          rw [wk]
          exact ⟨(k + 1, x), ⟨c1, hs⟩, by simp; omega, (le_st' _ _ [⟨960, some _, false, 1, _⟩] [] _ (by simp -implicitDefEqProofs (maxSteps := 2000000) only [go_sem, hx, set_same d4] <;> and_intros <;> rfl) (by simp -implicitDefEqProofs (maxSteps := 2000000) only [go_sem, hx, set_same d4] <;> and_intros <;> rfl) (by simp -implicitDefEqProofs (maxSteps := 2000000) only [go_sem, hx, set_same d4] <;> and_intros <;> rfl) (by rfl))⟩
        · rw [if_neg d4] at hs
          have e4 : (x.getD t 0 != fs.getD k 0) = true := by rw [bne, Bool.not_eq_true', beq_eq_false_iff_ne]; exact d4
          rw [uniS_stop hs c1, uniL_stop h5 hs c1]
          simp -implicitDefEqProofs (maxSteps := 2000000) only [go_sem, c1, et, e1, c2, c3, c4, e3, e4, hx]
          first | (with_reducible refine tr_and ?_ ?_; focus kernel_rfl) | (with_reducible refine tr_only ?_; kernel_rfl) | skip
          first | exact ⟨hx.symm, by kernel_rfl⟩ | exact ⟨⟨hx.symm, rfl⟩, by kernel_rfl⟩ | exact ⟨hx.symm, rfl⟩ | rfl | exact ⟨rfl, by kernel_rfl⟩
  · obtain rfl : k = ts.length := by omega
    rw [h5, uniL_some h5]
    simp -implicitDefEqProofs (maxSteps := 2000000) only [go_sem, c1]
    exact ⟨hx.symm, by kernel_rfl⟩
end Go.Proofs.YtbalifgacjmbpabGreat.A
