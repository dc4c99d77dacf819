
/- EMBEDDINGS: the reference's search. Conditions: none. -/
import Derived.Test.YtbalifgacjmbpabGreatAFEm2
namespace Go.Proofs.YtbalifgacjmbpabGreat.A
open Go
set_option linter.unusedSimpArgs false
set_option linter.unusedVariables false
set_option maxRecDepth 100000

/-- What the search leans on: the facts' and atoms' lengths. -/
structure FitE (d : Db) (q : Qu) (n : Nat) : Prop where
  facts : d.facts.length ≤ 14
  atoms : q.atoms.length ≤ 3
  small : n ≤ 4
  vals : ∀ i, i < d.facts.length → (d.facts.getD i default).l.length ≤ 1048576
  lens : ∀ k i, k < q.atoms.length → i < d.facts.length → (d.facts.getD i default).r = (q.atoms.getD k default).r → (d.facts.getD i default).l.length = (q.atoms.getD k default).l.length
  terms : ∀ k, k < q.atoms.length → tsOk n (q.atoms.getD k default).l
theorem goodFact_len {l : List Rel} {f : RI} (h : goodFact l f = true) (hl : goodRels l = true) : f.l.length ≤ 3 := by
  unfold goodFact at h
  simp only [Bool.and_eq_true, beq_iff_eq] at h
  obtain ⟨h1, h2, _⟩ := h
  have h1 := inB_of h1
  have : f.r.toNat < l.length := by omega
  unfold goodRels at hl
  rw [Bool.and_eq_true] at hl
  have h3 := upTo_at hl.1 this
  unfold relOk goodRel at h3
  simp only [Bool.and_eq_true] at h3
  have h4 := inB_of h3.1.2.2.2.1
  omega
theorem fitE {d : Db} {q : Qu} (h : queryFor d q = true) : FitE d q q.vc.toNat := by
  have h1 := goodDb_len (queryFor_db h)
  have h2 := goodQu_parts (queryFor_qu h)
  have hr : goodRels d.rels = true := by
    have := queryFor_db h
    unfold goodDb at this
    rw [Bool.and_eq_true] at this
    exact this.1
  refine ⟨h1, h2.2.2, by omega, fun i hi => ?_, fun k i hk hi e => meet_lens h hk hi e, fun k hk => tsOk_at (queryFor_qu h) hk⟩
  have := goodFact_len (goodDb_fact (queryFor_db h) hi) hr
  omega
theorem ems_rst2 (a b : List Emb) : rst (ems 999 a ++ ems 1 b) = ems 1 (a ++ b) := by
  rw [show ∀ x y : Rows, rst (x ++ y) = rst x ++ rst y from fun x y => List.map_append .., ems_rst 998, ems_rst 0, ems_append]
theorem l12Walk_sat (d : Db) (q : Qu) {n : Nat} (F : FitE d q n) : ∀ (m : Nat) (vs fs : List Int), m ≤ q.atoms.length → vs.length = n → fs.length + m ≤ 3 →
    Sat Tryz.prog 41 [lDb d, lQu q, lInt ((q.atoms.length - m : Nat) : Int), lInts vs, lInts fs] [oEms (walkE d.facts q.atoms m vs fs)] [g2, g3, g1, g1, g1]
  | 0, vs, fs, h1, h2, h3 => by
    have := F.small
    refine sat_of_body mixed Tryz.func41 rfl (by kernel_rfl) (by kernel_rfl) (rs := [.tmp 10]) rfl rfl rfl ?_
    unfold walkE
    rw [Nat.sub_zero]
    simp -implicitDefEqProofs (maxSteps := 2000000) only [go_sem]
    repeat (refine ⟨by omega, ?_⟩)
    first | done | rfl | exact ⟨rfl, rfl⟩ | exact ⟨rfl, rfl, rfl⟩ | (refine tr_and ?_ ?_ <;> first | rfl | exact ⟨rfl, rfl⟩ | kernel_rfl)
  | m + 1, vs, fs, h1, h2, h3 => by
    have f1 := F.facts
    have f2 := F.atoms
    have f3 := F.small
    refine sat_of_body mixed Tryz.func41 rfl (by kernel_rfl) (by kernel_rfl) (rs := [.tmp 10]) rfl rfl rfl ?_
    rw [walkE_succ]
    obtain ⟨j, hj⟩ : ∃ j, j = q.atoms.length - (m + 1) := ⟨_, rfl⟩
    have hj2 : q.atoms.length - m = j + 1 := by omega
    rw [← hj]
    have c0 : j < q.atoms.length := by omega
    have ne : ((j : Int) == (q.atoms.length : Int)) = false := by rw [beq_eq_false_iff_ne]; omega
    have wj : IntKind.i64.wrap ((j : Int) + 1) = ((j + 1 : Nat) : Int) := i64_succ (by omega)
    simp -implicitDefEqProofs (maxSteps := 2000000) only [go_sem, ne]
    refine awp_loop Nat (fun k => mkSt [(2, .sc (.int .i64 j)), (3, .one (.im 1 (ints vs))), (4, .one (.im 1 (ints fs))), (5, .one (.vad 1000 0)), (6, .one (.vad 1064 0)), (11, .one (.ref 960 2 0 (found (oneE d.facts q.atoms m vs fs) k).length)), (12, .sc (.int .i64 k))] [(1000, sDb d), (1064, sQu q)] [(960, (2, ems 999 (found (oneE d.facts q.atoms m vs fs) k)))] 4000)
      (fun k => k ≤ d.facts.length) (fun k => d.facts.length - k) 0 (by omega) (le_st' _ _ [⟨960, some _, false, 2, _⟩] [] _ (by simp -implicitDefEqProofs (maxSteps := 2000000) only [go_sem, found_zero] <;> and_intros <;> rfl) (by simp -implicitDefEqProofs (maxSteps := 2000000) only [go_sem, found_zero] <;> and_intros <;> rfl) (by simp -implicitDefEqProofs (maxSteps := 2000000) only [go_sem, found_zero] <;> and_intros <;> rfl) (by rfl)) ?_
    rintro k h4
    have hlen : (found (oneE d.facts q.atoms m vs fs) k).length ≤ 14 * 14 ^ m := by
      refine Nat.le_trans (found_len (b := 14 ^ m) (fun i => ?_) k) (Nat.mul_le_mul_right _ (by omega))
      unfold oneE
      split
      · exact walkE_len f1 m _ _
      · simp
    have hp := pow14E (m := m) (by omega)
    by_cases c1 : k < d.facts.length
    · have wk : IntKind.i64.wrap ((k : Int) + 1) = ((k + 1 : Nat) : Int) := i64_succ (by omega)
      have hat : atomAt q.atoms m = q.atoms.getD j default := by rw [atomAt, ← hj]
      rcases hm : meet (atomAt q.atoms m) (d.facts.getD k default) vs with _ | x
      · have ho := oneE_none (fs := fs) hm
        rw [hat] at hm
        simp -implicitDefEqProofs (maxSteps := 2000000) only [go_sem, c0, c1]
        refine call_of (l12Meet_sat (q.atoms.getD j default) (d.facts.getD k default) vs (by omega) (F.vals k c1) (F.lens j k c0 c1) (by rw [h2]; exact F.terms j c0)) (by simp -implicitDefEqProofs (maxSteps := 2000000) only [go_sem, hm, Option.isSome_none]) (callOk_still (by kernel_rfl) (by simp only [List.all_cons, List.all_nil, LV.still, LV.leaves, Leaf.still, ints_still, ris_still, eds_still, rels_still, iss_still, ems_still, Bool.and_self, Bool.and_true])) (by simp -implicitDefEqProofs (maxSteps := 2000000) only [go_sem, hm, Option.isSome_none]) ?_
        simp -implicitDefEqProofs (maxSteps := 2000000) only [go_sem, hm, Option.isSome_none]
        first | (with_reducible refine tr_and ?_ ?_; focus kernel_rfl) | (with_reducible refine tr_only ?_; kernel_rfl) | skip
        rw [wk]
        refine ⟨k + 1, c1, by omega, ?_⟩
        rw [found_succ, ho, List.append_nil]
        exact (le_st' _ _ [⟨960, some _, false, 2, _⟩] [] _ (by simp -implicitDefEqProofs (maxSteps := 2000000) only [go_sem] <;> and_intros <;> rfl) (by simp -implicitDefEqProofs (maxSteps := 2000000) only [go_sem] <;> and_intros <;> rfl) (by simp -implicitDefEqProofs (maxSteps := 2000000) only [go_sem] <;> and_intros <;> rfl) (by rfl))
      · have ho := oneE_some (fs := fs) hm
        have hv := meetV_eq hm
        have hxl := meet_len hm
        rw [hat] at hm hv
        have hl2 := walkE_len f1 (ats := q.atoms) m x (fs ++ [(k : Int)])
        have ih := l12Walk_sat d q F m x (fs ++ [(k : Int)]) (by omega) (by omega) (by simp; omega)
        rw [hj2] at ih
        simp -implicitDefEqProofs (maxSteps := 2000000) only [go_sem, c0, c1]
        refine call_of (l12Meet_sat (q.atoms.getD j default) (d.facts.getD k default) vs (by omega) (F.vals k c1) (F.lens j k c0 c1) (by rw [h2]; exact F.terms j c0)) (by simp -implicitDefEqProofs (maxSteps := 2000000) only [go_sem, hm, hv, Option.isSome_some, wj]) (callOk_still (by kernel_rfl) (by simp only [List.all_cons, List.all_nil, LV.still, LV.leaves, Leaf.still, ints_still, ris_still, eds_still, rels_still, iss_still, ems_still, Bool.and_self, Bool.and_true])) (by simp -implicitDefEqProofs (maxSteps := 2000000) only [go_sem, hm, hv, Option.isSome_some, wj]) ?_
        simp -implicitDefEqProofs (maxSteps := 2000000) only [go_sem, hm, hv, Option.isSome_some, wj]
        first | (with_reducible refine tr_and ?_ ?_; focus kernel_rfl) | (with_reducible refine tr_only ?_; kernel_rfl) | skip
        repeat (refine ⟨by omega, ?_⟩)
        refine call_of (ih) (by simp -implicitDefEqProofs (maxSteps := 2000000) only [go_sem]) (callOk_still (by kernel_rfl) (by simp only [List.all_cons, List.all_nil, LV.still, LV.leaves, Leaf.still, ints_still, ris_still, eds_still, rels_still, iss_still, ems_still, Bool.and_self, Bool.and_true])) (by simp -implicitDefEqProofs (maxSteps := 2000000) only [go_sem]) ?_
        simp -implicitDefEqProofs (maxSteps := 2000000) only [go_sem]
        split
        · refine ⟨by omega, tr_and (by kernel_rfl) ?_⟩
          rw [wk]
          refine ⟨k + 1, c1, by omega, ?_⟩
          rw [found_succ, ho]
          exact (le_st' _ _ [⟨960, some _, false, 2, _⟩] [] _ (by simp -implicitDefEqProofs (maxSteps := 2000000) only [go_sem] <;> and_intros <;> rfl) (by simp -implicitDefEqProofs (maxSteps := 2000000) only [go_sem] <;> and_intros <;> rfl) (by simp -implicitDefEqProofs (maxSteps := 2000000) only [go_sem] <;> and_intros <;> rfl) (by rfl))
        · refine ⟨by omega, tr_and (by kernel_rfl) ?_⟩
          rw [wk]
          refine ⟨k + 1, c1, by omega, ?_⟩
          rw [found_succ, ho]
          exact (le_st' _ _ [⟨960, some _, false, 2, _⟩] [] _ (by simp -implicitDefEqProofs (maxSteps := 2000000) only [go_sem] <;> and_intros <;> rfl) (by simp -implicitDefEqProofs (maxSteps := 2000000) only [go_sem] <;> and_intros <;> rfl) (by simp -implicitDefEqProofs (maxSteps := 2000000) only [go_sem] <;> and_intros <;> rfl) (by rfl))
    · obtain rfl : k = d.facts.length := by omega
      simp -implicitDefEqProofs (maxSteps := 2000000) only [go_sem, c1]
      kernel_rfl
end Go.Proofs.YtbalifgacjmbpabGreat.A
