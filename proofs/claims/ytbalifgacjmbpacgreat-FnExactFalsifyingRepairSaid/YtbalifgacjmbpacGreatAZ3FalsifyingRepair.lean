/- Packed by pack.py: FEm3 FEm4 FCl FWit1 FHold FBlk5 FWit2 FCl2 FHld FHld2 FE WFalsifyingRepair LFalsifyingRepair -/
import Derived.Test.YtbalifgacjmbpacGreatAZ2FalsifyingRepair
import Derived.Test.YtbalifgacjmbpacGreatA44
import Derived.Test.YtbalifgacjmbpacGreatAZ1FalsifyingRepair
import Derived.Test.YtbalifgacjmbpacGreatRows

/- EMBEDDINGS: the reference's search. Conditions: none. -/
namespace Go.Proofs.YtbalifgacjmbpacGreat.A
open Go
set_option linter.unusedSimpArgs false
set_option linter.unusedVariables false
set_option maxRecDepth 100000

/-- What the search leans on: the facts' and atoms' lengths. -/
structure FitE (d : Db) (q : Qu) (n : Nat) : Prop where
  facts : d.facts.length ≤ 14
  atoms : q.atoms.length ≤ 3
  small : n ≤ 4
  vals : ∀ i, i < d.facts.length → (d.facts.getD i default).l.length ≤ 1048576
  lens : ∀ k i, k < q.atoms.length → i < d.facts.length → (d.facts.getD i default).r = (q.atoms.getD k default).r → (d.facts.getD i default).l.length = (q.atoms.getD k default).l.length
  terms : ∀ k, k < q.atoms.length → tsOk n (q.atoms.getD k default).l
theorem goodFact_len {l : List Rel} {f : RI} (h : goodFact l f = true) (hl : goodRels l = true) : f.l.length ≤ 3 := by
  unfold goodFact at h
  simp only [Bool.and_eq_true, beq_iff_eq] at h
  obtain ⟨h1, h2, _⟩ := h
  have h1 := inB_of h1
  have : f.r.toNat < l.length := by omega
  unfold goodRels at hl
  rw [Bool.and_eq_true] at hl
  have h3 := upTo_at hl.1 this
  unfold relOk goodRel at h3
  simp only [Bool.and_eq_true] at h3
  have h4 := inB_of h3.1.2.2.2.1
  omega
theorem fitE {d : Db} {q : Qu} (h : queryFor d q = true) : FitE d q q.vc.toNat := by
  have h1 := goodDb_len (queryFor_db h)
  have h2 := goodQu_parts (queryFor_qu h)
  have hr : goodRels d.rels = true := by
    have := queryFor_db h
    unfold goodDb at this
    rw [Bool.and_eq_true] at this
    exact this.1
  refine ⟨h1, h2.2.2, by omega, fun i hi => ?_, fun k i hk hi e => meet_lens h hk hi e, fun k hk => tsOk_at (queryFor_qu h) hk⟩
  have := goodFact_len (goodDb_fact (queryFor_db h) hi) hr
  omega
theorem ems_rst2 (a b : List Emb) : rst (ems 999 a ++ ems 1 b) = ems 1 (a ++ b) := by
  rw [show ∀ x y : Rows, rst (x ++ y) = rst x ++ rst y from fun x y => List.map_append .., ems_rst 998, ems_rst 0, ems_append]
theorem l12Walk_sat (d : Db) (q : Qu) {n : Nat} (F : FitE d q n) : ∀ (m : Nat) (vs fs : List Int), m ≤ q.atoms.length → vs.length = n → fs.length + m ≤ 3 →
    Sat Tryz.prog 106 [lDb d, lQu q, lInt ((q.atoms.length - m : Nat) : Int), lInts vs, lInts fs] [oEms (walkE d.facts q.atoms m vs fs)] [g2, g3, g1, g1, g1]
  | 0, vs, fs, h1, h2, h3 => by
    have := F.small
    refine sat_of_body mixed Tryz.func106 rfl (by kernel_rfl) (by kernel_rfl) (rs := [.tmp 10]) rfl rfl rfl ?_
    unfold walkE
    rw [Nat.sub_zero]
    simp -implicitDefEqProofs (maxSteps := 2000000) only [go_sem]
    repeat (refine ⟨by omega, ?_⟩)
    first | done | rfl | exact ⟨rfl, rfl⟩ | exact ⟨rfl, rfl, rfl⟩ | (refine tr_and ?_ ?_ <;> first | rfl | exact ⟨rfl, rfl⟩ | kernel_rfl)
  | m + 1, vs, fs, h1, h2, h3 => by
    have f1 := F.facts
    have f2 := F.atoms
    have f3 := F.small
    refine sat_of_body mixed Tryz.func106 rfl (by kernel_rfl) (by kernel_rfl) (rs := [.tmp 10]) rfl rfl rfl ?_
    rw [walkE_succ]
    obtain ⟨j, hj⟩ : ∃ j, j = q.atoms.length - (m + 1) := ⟨_, rfl⟩
    have hj2 : q.atoms.length - m = j + 1 := by omega
    rw [← hj]
    have c0 : j < q.atoms.length := by omega
    have ne : ((j : Int) == (q.atoms.length : Int)) = false := by rw [beq_eq_false_iff_ne]; omega
    have wj : IntKind.i64.wrap ((j : Int) + 1) = ((j + 1 : Nat) : Int) := i64_succ (by omega)
    simp -implicitDefEqProofs (maxSteps := 2000000) only [go_sem, ne]
    refine awp_loop Nat (fun k => mkSt [(2, .sc (.int .i64 j)), (3, .one (.im 1 (ints vs))), (4, .one (.im 1 (ints fs))), (5, .one (.vad 1000 0)), (6, .one (.vad 1064 0)), (11, .one (.ref 960 2 0 (found (oneE d.facts q.atoms m vs fs) k).length)), (12, .sc (.int .i64 k))] [(1000, sDb d), (1064, sQu q)] [(960, (2, ems 999 (found (oneE d.facts q.atoms m vs fs) k)))] 4000)
      (fun k => k ≤ d.facts.length) (fun k => d.facts.length - k) 0 (by omega) (le_st' _ _ [⟨960, some _, false, 2, _⟩] [] _ (by simp -implicitDefEqProofs (maxSteps := 2000000) only [go_sem, found_zero] <;> and_intros <;> rfl) (by simp -implicitDefEqProofs (maxSteps := 2000000) only [go_sem, found_zero] <;> and_intros <;> rfl) (by simp -implicitDefEqProofs (maxSteps := 2000000) only [go_sem, found_zero] <;> and_intros <;> rfl) (by rfl)) ?_
    rintro k h4
    have hlen : (found (oneE d.facts q.atoms m vs fs) k).length ≤ 14 * 14 ^ m := by
      refine Nat.le_trans (found_len (b := 14 ^ m) (fun i => ?_) k) (Nat.mul_le_mul_right _ (by omega))
      unfold oneE
      split
      · exact walkE_len f1 m _ _
      · simp
    have hp := pow14E (m := m) (by omega)
    by_cases c1 : k < d.facts.length
    · have wk : IntKind.i64.wrap ((k : Int) + 1) = ((k + 1 : Nat) : Int) := i64_succ (by omega)
      have hat : atomAt q.atoms m = q.atoms.getD j default := by rw [atomAt, ← hj]
      rcases hm : meet (atomAt q.atoms m) (d.facts.getD k default) vs with _ | x
      · have ho := oneE_none (fs := fs) hm
        rw [hat] at hm
        simp -implicitDefEqProofs (maxSteps := 2000000) only [go_sem, c0, c1]
        refine call_of (l12Meet_sat (q.atoms.getD j default) (d.facts.getD k default) vs (by omega) (F.vals k c1) (F.lens j k c0 c1) (by rw [h2]; exact F.terms j c0)) (by simp -implicitDefEqProofs (maxSteps := 2000000) only [go_sem, hm, Option.isSome_none]) (callOk_still (by kernel_rfl) (by simp only [List.all_cons, List.all_nil, LV.still, LV.leaves, Leaf.still, ints_still, ris_still, eds_still, rels_still, iss_still, ems_still, Bool.and_self, Bool.and_true])) (by simp -implicitDefEqProofs (maxSteps := 2000000) only [go_sem, hm, Option.isSome_none]) ?_
        simp -implicitDefEqProofs (maxSteps := 2000000) only [go_sem, hm, Option.isSome_none]
        first | (with_reducible refine tr_and ?_ ?_; focus kernel_rfl) | (with_reducible refine tr_only ?_; kernel_rfl) | skip
        rw [wk]
        refine ⟨k + 1, c1, by omega, ?_⟩
        rw [found_succ, ho, List.append_nil]
        exact (le_st' _ _ [⟨960, some _, false, 2, _⟩] [] _ (by simp -implicitDefEqProofs (maxSteps := 2000000) only [go_sem] <;> and_intros <;> rfl) (by simp -implicitDefEqProofs (maxSteps := 2000000) only [go_sem] <;> and_intros <;> rfl) (by simp -implicitDefEqProofs (maxSteps := 2000000) only [go_sem] <;> and_intros <;> rfl) (by rfl))
      · have ho := oneE_some (fs := fs) hm
        have hv := meetV_eq hm
        have hxl := meet_len hm
        rw [hat] at hm hv
        have hl2 := walkE_len f1 (ats := q.atoms) m x (fs ++ [(k : Int)])
        have ih := l12Walk_sat d q F m x (fs ++ [(k : Int)]) (by omega) (by omega) (by simp; omega)
        rw [hj2] at ih
        simp -implicitDefEqProofs (maxSteps := 2000000) only [go_sem, c0, c1]
        refine call_of (l12Meet_sat (q.atoms.getD j default) (d.facts.getD k default) vs (by omega) (F.vals k c1) (F.lens j k c0 c1) (by rw [h2]; exact F.terms j c0)) (by simp -implicitDefEqProofs (maxSteps := 2000000) only [go_sem, hm, hv, Option.isSome_some, wj]) (callOk_still (by kernel_rfl) (by simp only [List.all_cons, List.all_nil, LV.still, LV.leaves, Leaf.still, ints_still, ris_still, eds_still, rels_still, iss_still, ems_still, Bool.and_self, Bool.and_true])) (by simp -implicitDefEqProofs (maxSteps := 2000000) only [go_sem, hm, hv, Option.isSome_some, wj]) ?_
        simp -implicitDefEqProofs (maxSteps := 2000000) only [go_sem, hm, hv, Option.isSome_some, wj]
        first | (with_reducible refine tr_and ?_ ?_; focus kernel_rfl) | (with_reducible refine tr_only ?_; kernel_rfl) | skip
        repeat (refine ⟨by omega, ?_⟩)
        refine call_of (ih) (by simp -implicitDefEqProofs (maxSteps := 2000000) only [go_sem]) (callOk_still (by kernel_rfl) (by simp only [List.all_cons, List.all_nil, LV.still, LV.leaves, Leaf.still, ints_still, ris_still, eds_still, rels_still, iss_still, ems_still, Bool.and_self, Bool.and_true])) (by simp -implicitDefEqProofs (maxSteps := 2000000) only [go_sem]) ?_
        simp -implicitDefEqProofs (maxSteps := 2000000) only [go_sem]
        split
        · refine ⟨by omega, tr_and (by kernel_rfl) ?_⟩
          rw [wk]
          refine ⟨k + 1, c1, by omega, ?_⟩
          rw [found_succ, ho]
          exact (le_st' _ _ [⟨960, some _, false, 2, _⟩] [] _ (by simp -implicitDefEqProofs (maxSteps := 2000000) only [go_sem] <;> and_intros <;> rfl) (by simp -implicitDefEqProofs (maxSteps := 2000000) only [go_sem] <;> and_intros <;> rfl) (by simp -implicitDefEqProofs (maxSteps := 2000000) only [go_sem] <;> and_intros <;> rfl) (by rfl))
        · refine ⟨by omega, tr_and (by kernel_rfl) ?_⟩
          rw [wk]
          refine ⟨k + 1, c1, by omega, ?_⟩
          rw [found_succ, ho]
          exact (le_st' _ _ [⟨960, some _, false, 2, _⟩] [] _ (by simp -implicitDefEqProofs (maxSteps := 2000000) only [go_sem] <;> and_intros <;> rfl) (by simp -implicitDefEqProofs (maxSteps := 2000000) only [go_sem] <;> and_intros <;> rfl) (by simp -implicitDefEqProofs (maxSteps := 2000000) only [go_sem] <;> and_intros <;> rfl) (by rfl))
    · obtain rfl : k = d.facts.length := by omega
      simp -implicitDefEqProofs (maxSteps := 2000000) only [go_sem, c1]
      kernel_rfl
end Go.Proofs.YtbalifgacjmbpacGreat.A


/- EMBEDDINGS: the reference's function; the program's search. Conditions: none. -/
namespace Go.Proofs.YtbalifgacjmbpacGreat.A
open Go
set_option linter.unusedSimpArgs false
set_option linter.unusedVariables false
set_option maxRecDepth 100000

theorem ints_nilfE : (ints [] = frz []) = True := eq_true rfl
attribute [go_sem] ints_nilfE
theorem specFindEmbeddings_sat (d : Db) (q : Qu) (h : d.fit) (hq : q.fit) : Sat Tryz.prog 80 [lDb d, lQu q] [oEms (embs d q)] [g2, g3] := by
  refine sat_of_body mixed Tryz.func80 rfl (by kernel_rfl) (by kernel_rfl) (rs := [.tmp 4]) rfl rfl rfl ?_
  unfold embs
  simp -implicitDefEqProofs (maxSteps := 2000000) only [go_sem]
  rcases g : queryFor d q
  · rw [if_neg (by simp)]
    refine call_of (specIsQueryFor_sat d q h hq) (by simp -implicitDefEqProofs (maxSteps := 2000000) only [go_sem, g]) (by kernel_rfl) (by simp -implicitDefEqProofs (maxSteps := 2000000) only [go_sem, g]) ?_
    simp -implicitDefEqProofs (maxSteps := 2000000) only [go_sem, g]
    first | done | rfl | exact ⟨rfl, rfl⟩ | exact ⟨rfl, rfl, rfl⟩ | (refine tr_and ?_ ?_ <;> first | rfl | exact ⟨rfl, rfl⟩ | kernel_rfl)
  have F := fitE g
  have hp := goodQu_parts (queryFor_qu g)
  rw [if_pos rfl]
  rcases q with ⟨vc, ats, fr⟩
  simp only at hp F
  obtain ⟨n, rfl⟩ : ∃ n : Nat, vc = n := ⟨vc.toNat, by omega⟩
  rw [Int.toNat_natCast] at F
  have hw := l12Walk_sat d ⟨n, ats, fr⟩ F ats.length (List.replicate n (-1)) [] (Nat.le_refl _) (by simp) (by have := F.atoms; simp only at this; simp; omega)
  simp only [Nat.sub_self] at hw
  refine call_of (specIsQueryFor_sat d ⟨n, ats, fr⟩ h hq) (by simp -implicitDefEqProofs (maxSteps := 2000000) only [go_sem, g]) (by kernel_rfl) (by simp -implicitDefEqProofs (maxSteps := 2000000) only [go_sem, g]) ?_
  simp -implicitDefEqProofs (maxSteps := 2000000) only [go_sem, g]
  refine call_of (l12None_sat F.small) (by simp -implicitDefEqProofs (maxSteps := 2000000) only [go_sem]) (callOk_still (by kernel_rfl) (by simp only [List.all_cons, List.all_nil, LV.still, LV.leaves, Leaf.still, ints_still, ris_still, eds_still, rels_still, iss_still, ems_still, Bool.and_self, Bool.and_true])) (by simp -implicitDefEqProofs (maxSteps := 2000000) only [go_sem]) ?_
  simp -implicitDefEqProofs (maxSteps := 2000000) only [go_sem]
  refine call_of (hw) (by simp -implicitDefEqProofs (maxSteps := 2000000) only [go_sem, List.take_replicate, Nat.min_self]) (callOk_still (by kernel_rfl) (by simp only [List.all_cons, List.all_nil, LV.still, LV.leaves, Leaf.still, ints_still, ris_still, eds_still, rels_still, iss_still, ems_still, Bool.and_self, Bool.and_true])) (by simp -implicitDefEqProofs (maxSteps := 2000000) only [go_sem, List.take_replicate, Nat.min_self]) ?_
  simp -implicitDefEqProofs (maxSteps := 2000000) only [go_sem, List.take_replicate, Nat.min_self]
  first | (with_reducible refine tr_and ?_ ?_; focus kernel_rfl) | (with_reducible refine tr_only ?_; kernel_rfl) | skip
  first | done | rfl | exact ⟨rfl, rfl⟩ | exact ⟨rfl, rfl, rfl⟩ | (refine tr_and ?_ ?_ <;> first | rfl | exact ⟨rfl, rfl⟩ | kernel_rfl)

abbrev embT (d : Db) (q : Qu) (o : List Emb) : List CV := [.flds [.sc (.int .i64 q.vc), .im 2 (ris 0 q.atoms), .im 1 (ints q.free)], .own 2 (ems 999 o), .flds [.im 3 (rels d.rels), .im 2 (ris 0 d.facts)], .self 97]
theorem embT_stm (d : Db) (q : Qu) (o : List Emb) : ∀ w rows, CV.own w rows ∈ embT d q o → stm 999 rows = rows := by
  intro w rows h
  simp at h
  obtain ⟨rfl, rfl⟩ := h
  exact ems_stm 999 998 o
theorem searchE_zero (d : Db) (q : Qu) (vs fs : List Int) (o : List Emb) (h1 : vs.length ≤ 4) (h2 : fs.length = q.atoms.length) (h3 : fs.length ≤ 3) (ho : o.length ≤ 16384) :
    RSat Tryz.prog 97 [lInts vs, lInts fs] (embT d q o) (embT d q (o ++ [⟨vs, fs⟩])) := by
  refine rsat_of_body Tryz.func97 rfl (by kernel_rfl) rfl rfl (embT_stm _ _ _) ?_
  have e : ((fs.length : Int) == (q.atoms.length : Int)) = true := by rw [h2]; simp
  refine bwp_seq mixed (by kernel_rfl) ?_
  simp -implicitDefEqProofs (maxSteps := 2000000) only [go_sem, e]
  refine call_of (slicesClone_sat vs (by omega)) (by simp -implicitDefEqProofs (maxSteps := 2000000) only [go_sem]) (callOk_still (by kernel_rfl) (by simp only [List.all_cons, List.all_nil, LV.still, LV.leaves, Leaf.still, ints_still, ris_still, eds_still, rels_still, iss_still, ems_still, Bool.and_self, Bool.and_true])) (by simp -implicitDefEqProofs (maxSteps := 2000000) only [go_sem]) ?_
  simp -implicitDefEqProofs (maxSteps := 2000000) only [go_sem]
  refine call_of (slicesClone_sat fs (by omega)) (by simp -implicitDefEqProofs (maxSteps := 2000000) only [go_sem]) (callOk_still (by kernel_rfl) (by simp only [List.all_cons, List.all_nil, LV.still, LV.leaves, Leaf.still, ints_still, ris_still, eds_still, rels_still, iss_still, ems_still, Bool.and_self, Bool.and_true])) (by simp -implicitDefEqProofs (maxSteps := 2000000) only [go_sem]) ?_
  simp -implicitDefEqProofs (maxSteps := 2000000) only [go_sem]
  repeat (refine ⟨by omega, ?_⟩)
  first | (with_reducible refine tr_and ?_ ?_; focus kernel_rfl) | (with_reducible refine tr_only ?_; kernel_rfl) | skip
  exact (le_st' _ _ [⟨960, some _, false, 2, _⟩] [] _ (by simp -implicitDefEqProofs (maxSteps := 2000000) only [go_sem, rep1, List.set_cons_zero, ems_one] <;> and_intros <;> rfl) (by simp -implicitDefEqProofs (maxSteps := 2000000) only [go_sem, rep1, List.set_cons_zero, ems_one] <;> and_intros <;> rfl) (by simp -implicitDefEqProofs (maxSteps := 2000000) only [go_sem, rep1, List.set_cons_zero, ems_one] <;> and_intros <;> rfl) (by rfl))
theorem searchE_step (d : Db) (q : Qu) {n : Nat} (F : FitE d q n) (m j : Nat) (hj : j = q.atoms.length - (m + 1)) (c0 : j < q.atoms.length) (vs fs : List Int) (o : List Emb) (h1 : vs.length = n) (h2 : fs.length = j) (ho : o.length + 14 * 14 ^ m ≤ 16384)
    (ih : ∀ (k : Nat) (x : List Int) (o : List Emb), x.length = n → o.length + 14 ^ m ≤ 16384 → RSat Tryz.prog 97 [lInts x, lInts (fs ++ [(k : Int)])] (embT d q o) (embT d q (o ++ walkE d.facts q.atoms m x (fs ++ [(k : Int)])))) :
    RSat Tryz.prog 97 [lInts vs, lInts fs] (embT d q o) (embT d q (o ++ walkE d.facts q.atoms (m + 1) vs fs)) := by
  refine rsat_of_body Tryz.func97 rfl (by kernel_rfl) rfl rfl (embT_stm _ _ _) ?_
  have f1 := F.facts
  have f2 := F.atoms
  have f3 := F.small
  have e : ((fs.length : Int) == (q.atoms.length : Int)) = false := by rw [beq_eq_false_iff_ne]; omega
  have c0' : fs.length < q.atoms.length := by omega
  refine bwp_seq mixed (by kernel_rfl) ?_
  simp -implicitDefEqProofs (maxSteps := 2000000) only [go_sem, e]
  refine bwp_seq mixed (by kernel_rfl) ?_
  simp -implicitDefEqProofs (maxSteps := 2000000) only [go_sem, c0']
  refine bwp_seq mixed (by kernel_rfl) ?_
  simp -implicitDefEqProofs (maxSteps := 2000000) only [go_sem]
  refine bwp_block ?_
  refine bwp_loop Nat (fun k => mkSt [(0, .one (.im 1 (ints vs))), (1, .one (.im 1 (ints fs))), (2, .one (.vad 900 0)), (3, .one (.vad 901 0)), (4, .one (.vad 902 0)), (5, .one (.vad 903 0)), (8, .one (.ipt (fRI (q.atoms.getD fs.length default)) 0)), (34, .one (.im 2 (ris 0 d.facts))), (35, .sc (.int .i64 d.facts.length)), (36, .sc (.int .i64 k))]
    [(900, sQu q), (901, [.ref 960 2 0 (o ++ found (oneE d.facts q.atoms m vs fs) k).length]), (902, sDb d), (903, [.fnv 97 [900, 901, 902, 903]])] [(960, (2, ems 999 (o ++ found (oneE d.facts q.atoms m vs fs) k)))] 4000)
    (fun k => k ≤ d.facts.length) (fun k => d.facts.length - k) 0 (by omega) (le_st' _ _ [⟨960, some _, false, 2, _⟩] [1768] _ (by simp -implicitDefEqProofs (maxSteps := 2000000) only [go_sem, found_zero, List.append_nil] <;> and_intros <;> first | rfl | exact List.mem_singleton_self _) (by simp -implicitDefEqProofs (maxSteps := 2000000) only [go_sem, found_zero, List.append_nil] <;> and_intros <;> rfl) (by simp -implicitDefEqProofs (maxSteps := 2000000) only [go_sem, found_zero, List.append_nil] <;> and_intros <;> rfl) (by rfl)) ?_
  rintro k h4
  have hlen : (found (oneE d.facts q.atoms m vs fs) k).length ≤ k * 14 ^ m := by
    refine found_len (b := 14 ^ m) (fun i => ?_) k
    unfold oneE
    split
    · exact walkE_len f1 m _ _
    · simp
  by_cases c1 : k < d.facts.length
  · have wk : IntKind.i64.wrap ((k : Int) + 1) = ((k + 1 : Nat) : Int) := i64_succ (by omega)
    have hat : atomAt q.atoms m = q.atoms.getD fs.length default := by rw [atomAt, ← hj, h2]
    refine bwp_seq mixed (by kernel_rfl) ?_
    simp -implicitDefEqProofs (maxSteps := 2000000) only [go_sem, c1]
    refine bwp_seq mixed (by kernel_rfl) ?_
    simp -implicitDefEqProofs (maxSteps := 2000000) only [go_sem]
    refine bwp_seqB (bwp_block ?_)
    refine bwp_seq mixed (by kernel_rfl) ?_
    simp -implicitDefEqProofs (maxSteps := 2000000) only [go_sem, c1]
    refine bwp_seq mixed (by kernel_rfl) ?_
    by_cases d1 : (d.facts.getD k default).r = (q.atoms.getD fs.length default).r
    case neg =>
      have e1 : ((d.facts.getD k default).r != (q.atoms.getD fs.length default).r) = true := by rw [bne, Bool.not_eq_true', beq_eq_false_iff_ne]; exact d1
      have hm : meet (atomAt q.atoms m) (d.facts.getD k default) vs = none := by rw [hat, meet, if_neg d1]
      have ho := oneE_none (fs := fs) hm
      simp -implicitDefEqProofs (maxSteps := 2000000) only [go_sem, e1]
      refine bwp_awp mixed (by kernel_rfl) ?_
      simp -implicitDefEqProofs (maxSteps := 2000000) only [go_sem, wk]
      refine ⟨k + 1, c1, by omega, ?_⟩
      rw [found_succ, ho, List.append_nil]
      exact (le_st' _ _ [⟨960, some _, false, 2, _⟩] [] _ (by simp -implicitDefEqProofs (maxSteps := 2000000) only [go_sem] <;> and_intros <;> rfl) (by simp -implicitDefEqProofs (maxSteps := 2000000) only [go_sem] <;> and_intros <;> rfl) (by simp -implicitDefEqProofs (maxSteps := 2000000) only [go_sem] <;> and_intros <;> rfl) (by rfl))
    have e1 : ((d.facts.getD k default).r != (q.atoms.getD fs.length default).r) = false := by rw [bne, d1]; simp
    have hls := F.lens fs.length k c0' c1 d1
    have hvl := F.vals k c1
    simp -implicitDefEqProofs (maxSteps := 2000000) only [go_sem, e1]
    refine bwp_seq mixed (by kernel_rfl) ?_
    simp -implicitDefEqProofs (maxSteps := 2000000) only [go_sem]
    rcases hu : uniS (q.atoms.getD fs.length default).l (d.facts.getD k default).l vs (q.atoms.getD fs.length default).l.length with _ | x
    · have hm : meet (atomAt q.atoms m) (d.facts.getD k default) vs = none := by rw [hat, meet, if_pos d1, hu]
      have ho := oneE_none (fs := fs) hm
      refine call_of (unify_sat vs (q.atoms.getD fs.length default).l (d.facts.getD k default).l (by omega) (by omega) hvl (by rw [h1]; exact F.terms fs.length c0')) (by simp -implicitDefEqProofs (maxSteps := 2000000) only [go_sem, hu, Option.isSome_none, Option.getD_none]) (callOk_still (by kernel_rfl) (by simp only [List.all_cons, List.all_nil, LV.still, LV.leaves, Leaf.still, ints_still, ris_still, eds_still, rels_still, iss_still, ems_still, Bool.and_self, Bool.and_true])) (by simp -implicitDefEqProofs (maxSteps := 2000000) only [go_sem, hu, Option.isSome_none, Option.getD_none]) ?_
      simp -implicitDefEqProofs (maxSteps := 2000000) only [go_sem, hu, Option.isSome_none, Option.getD_none]
      refine bwp_seq mixed (by kernel_rfl) ?_
      simp -implicitDefEqProofs (maxSteps := 2000000) only [go_sem]
      refine bwp_cond (t := false) (by simp -implicitDefEqProofs (maxSteps := 2000000) only [go_sem]) (fun h => by cases h) fun _ => bwp_skip ?_
      simp -implicitDefEqProofs (maxSteps := 2000000) only [go_sem]
      refine bwp_awp mixed (by kernel_rfl) ?_
      simp -implicitDefEqProofs (maxSteps := 2000000) only [go_sem, wk]
      refine ⟨k + 1, c1, by omega, ?_⟩
      rw [found_succ, ho, List.append_nil]
      exact (le_st' _ _ [⟨960, some _, false, 2, _⟩] [] _ (by simp -implicitDefEqProofs (maxSteps := 2000000) only [go_sem] <;> and_intros <;> rfl) (by simp -implicitDefEqProofs (maxSteps := 2000000) only [go_sem] <;> and_intros <;> rfl) (by simp -implicitDefEqProofs (maxSteps := 2000000) only [go_sem] <;> and_intros <;> rfl) (by rfl))
    · have hm : meet (atomAt q.atoms m) (d.facts.getD k default) vs = some x := by rw [hat, meet, if_pos d1, hu]
      have ho := oneE_some (fs := fs) hm
      have hxl := meet_len hm
      refine call_of (unify_sat vs (q.atoms.getD fs.length default).l (d.facts.getD k default).l (by omega) (by omega) hvl (by rw [h1]; exact F.terms fs.length c0')) (by simp -implicitDefEqProofs (maxSteps := 2000000) only [go_sem, hu, Option.isSome_some, Option.getD_some]) (callOk_still (by kernel_rfl) (by simp only [List.all_cons, List.all_nil, LV.still, LV.leaves, Leaf.still, ints_still, ris_still, eds_still, rels_still, iss_still, ems_still, Bool.and_self, Bool.and_true])) (by simp -implicitDefEqProofs (maxSteps := 2000000) only [go_sem, hu, Option.isSome_some, Option.getD_some]) ?_
      simp -implicitDefEqProofs (maxSteps := 2000000) only [go_sem, hu, Option.isSome_some, Option.getD_some]
      refine bwp_seq mixed (by kernel_rfl) ?_
      simp -implicitDefEqProofs (maxSteps := 2000000) only [go_sem]
      refine bwp_cond (t := true) (by simp -implicitDefEqProofs (maxSteps := 2000000) only [go_sem]) (fun _ => ?_) fun h => by cases h
      refine bwp_callD mixed (ih k x (o ++ found (oneE d.facts q.atoms m vs fs) k) (by omega) (by
        have := Nat.mul_le_mul_right (14 ^ m) (show k + 1 ≤ 14 by omega)
        rw [Nat.succ_mul] at this
        rw [List.length_append]; omega)) [900, 901, 902, 903] 960 960 8000
        [(0, .one (.im 1 (ints vs))), (1, .one (.im 1 (ints fs))), (2, .one (.vad 900 0)), (3, .one (.vad 901 0)), (4, .one (.vad 902 0)), (5, .one (.vad 903 0)), (8, .one (.ipt (fRI (q.atoms.getD fs.length default)) 0)), (34, .one (.im 2 (ris 0 d.facts))), (35, .sc (.int .i64 d.facts.length)), (36, .sc (.int .i64 k))]
        rfl rfl rfl (by kernel_rfl) (by kernel_rfl) ?_ ?_
      · simp -implicitDefEqProofs (maxSteps := 2000000) only [go_sem]
        refine call_of (slicesClone_sat fs (by omega)) (by simp -implicitDefEqProofs (maxSteps := 2000000) only [go_sem]) (callOk_still (by kernel_rfl) (by simp only [List.all_cons, List.all_nil, LV.still, LV.leaves, Leaf.still, ints_still, ris_still, eds_still, rels_still, iss_still, ems_still, Bool.and_self, Bool.and_true])) (by simp -implicitDefEqProofs (maxSteps := 2000000) only [go_sem]) ?_
        simp -implicitDefEqProofs (maxSteps := 2000000) only [go_sem]
        repeat (refine ⟨by omega, ?_⟩)
        refine tr_and (by kernel_rfl) ?_
        rfl
      · simp -implicitDefEqProofs (maxSteps := 2000000) only [go_sem]
        refine bwp_awp mixed (by kernel_rfl) ?_
        simp -implicitDefEqProofs (maxSteps := 2000000) only [go_sem, wk]
        refine ⟨k + 1, c1, by omega, ?_⟩
        rw [found_succ, ho]
        exact (le_st' _ _ [⟨960, some _, false, 2, _⟩] [] _ (by simp -implicitDefEqProofs (maxSteps := 2000000) only [go_sem] <;> and_intros <;> rfl) (by simp -implicitDefEqProofs (maxSteps := 2000000) only [go_sem] <;> and_intros <;> rfl) (by simp -implicitDefEqProofs (maxSteps := 2000000) only [go_sem] <;> and_intros <;> rfl) (by rfl))
  · obtain rfl : k = d.facts.length := by omega
    refine bwp_seq mixed (by kernel_rfl) ?_
    simp -implicitDefEqProofs (maxSteps := 2000000) only [go_sem, c1]
    refine bwp_seq mixed (by kernel_rfl) ?_
    simp -implicitDefEqProofs (maxSteps := 2000000) only [go_sem]
    rw [walkE_succ]
    exact (le_st' _ _ [⟨960, some _, false, 2, _⟩] [] _ (by simp -implicitDefEqProofs (maxSteps := 2000000) only [go_sem] <;> and_intros <;> rfl) (by simp -implicitDefEqProofs (maxSteps := 2000000) only [go_sem] <;> and_intros <;> rfl) (by simp -implicitDefEqProofs (maxSteps := 2000000) only [go_sem] <;> and_intros <;> rfl) (by rfl))
theorem searchE_all (d : Db) (q : Qu) {n : Nat} (F : FitE d q n) : ∀ (m : Nat) (vs fs : List Int) (o : List Emb), vs.length = n → fs.length + m = q.atoms.length → o.length + 14 ^ m ≤ 16384 →
    RSat Tryz.prog 97 [lInts vs, lInts fs] (embT d q o) (embT d q (o ++ walkE d.facts q.atoms m vs fs))
  | 0, vs, fs, o, h1, h2, h3 => searchE_zero d q vs fs o (by have := F.small; omega) (by omega) (by have := F.atoms; omega) (by omega)
  | m + 1, vs, fs, o, h1, h2, h3 =>
    searchE_step d q F m fs.length (by omega) (by omega) vs fs o h1 rfl (by rw [Nat.pow_succ] at h3; omega)
      fun k x o h4 h5 => searchE_all d q F m x (fs ++ [(k : Int)]) o h4 (by rw [List.length_append, List.length_singleton]; omega) h5
set_option maxHeartbeats 4000000 in
theorem implFindEmbeddings_sat (d : Db) (q : Qu) (h : d.fit) (hq : q.ok) : Sat Tryz.prog 73 [lDb d, lQu q] [oEms (embs d q)] [g2, g3] := by
  refine sat_of_bodyB Tryz.func73 rfl (by kernel_rfl) (rs := [.tmp 4]) rfl rfl rfl ?_
  unfold embs
  refine bwp_seq mixed (by kernel_rfl) ?_
  simp -implicitDefEqProofs (maxSteps := 2000000) only [go_sem]
  refine bwp_seq mixed (by kernel_rfl) ?_
  simp -implicitDefEqProofs (maxSteps := 2000000) only [go_sem]
  refine bwp_seq mixed (by kernel_rfl) ?_
  simp -implicitDefEqProofs (maxSteps := 2000000) only [go_sem]
  rcases g : queryFor d q
  · rw [if_neg (by simp)]
    refine call_of (implIsQueryFor_sat d q h hq) (by simp -implicitDefEqProofs (maxSteps := 2000000) only [go_sem, g]) (by kernel_rfl) (by simp -implicitDefEqProofs (maxSteps := 2000000) only [go_sem, g]) ?_
    simp -implicitDefEqProofs (maxSteps := 2000000) only [go_sem, g]
    first | done | rfl | exact ⟨rfl, rfl⟩ | exact ⟨rfl, rfl, rfl⟩ | (refine tr_and ?_ ?_ <;> first | rfl | exact ⟨rfl, rfl⟩ | kernel_rfl)
  have F := fitE g
  have hp := goodQu_parts (queryFor_qu g)
  rw [if_pos rfl]
  rcases q with ⟨vc, ats, fr⟩
  simp only at hp F
  obtain ⟨n, rfl⟩ : ∃ n : Nat, vc = n := ⟨vc.toNat, by omega⟩
  rw [Int.toNat_natCast] at F
  have hw := searchE_all d ⟨n, ats, fr⟩ F ats.length (List.replicate n (-1)) [] [] (by simp) (by simp) (by have := pow14E (m := ats.length) (by omega); simp only [List.length_nil]; omega)
  rw [List.nil_append] at hw
  refine call_of (implIsQueryFor_sat d ⟨n, ats, fr⟩ h hq) (by simp -implicitDefEqProofs (maxSteps := 2000000) only [go_sem, g]) (by kernel_rfl) (by simp -implicitDefEqProofs (maxSteps := 2000000) only [go_sem, g]) ?_
  simp -implicitDefEqProofs (maxSteps := 2000000) only [go_sem, g]
  refine bwp_seq mixed (by kernel_rfl) ?_
  simp -implicitDefEqProofs (maxSteps := 2000000) only [go_sem]
  refine bwp_seq mixed (by kernel_rfl) ?_
  simp -implicitDefEqProofs (maxSteps := 2000000) only [go_sem]
  refine bwp_seqB (bwp_callD mixed hw [1064, 1256, 1000, 1640] 1192 960 4000 [(5, .one (.vad 1256 0))] rfl rfl rfl (by kernel_rfl) (by kernel_rfl) ?_ ?_)
  · simp -implicitDefEqProofs (maxSteps := 2000000) only [go_sem]
    refine call_of (unknown_sat F.small) (by simp -implicitDefEqProofs (maxSteps := 2000000) only [go_sem]) (callOk_still (by kernel_rfl) (by simp only [List.all_cons, List.all_nil, LV.still, LV.leaves, Leaf.still, ints_still, ris_still, eds_still, rels_still, iss_still, ems_still, Bool.and_self, Bool.and_true])) (by simp -implicitDefEqProofs (maxSteps := 2000000) only [go_sem]) ?_
    simp -implicitDefEqProofs (maxSteps := 2000000) only [go_sem]
    refine tr_and (by kernel_rfl) ?_
    refine ⟨⟨?_, rfl⟩, rfl⟩
    rw [List.take_replicate, Nat.min_self]
    exact ⟨rfl, rfl⟩
  · simp -implicitDefEqProofs (maxSteps := 2000000) only [go_sem]
    refine bwp_awp mixed (by kernel_rfl) ?_
    simp -implicitDefEqProofs (maxSteps := 2000000) only [go_sem]
    first | done | rfl | exact ⟨rfl, rfl⟩ | exact ⟨rfl, rfl, rfl⟩ | (refine tr_and ?_ ?_ <;> first | rfl | exact ⟨rfl, rfl⟩ | kernel_rfl)
theorem embs_len (d : Db) (q : Qu) : (embs d q).length ≤ 2744 := by
  unfold embs
  split
  · rename_i g
    have F := fitE g
    have := walkE_len (ats := q.atoms) F.facts q.atoms.length (List.replicate q.vc.toNat (-1)) []
    have := pow14E F.atoms
    omega
  · simp
theorem embs_mem {d : Db} {q : Qu} : ∀ e ∈ embs d q, e.vs.length ≤ 4 ∧ e.fs.length ≤ 3 := by
  intro e he
  unfold embs at he
  split at he
  · rename_i g
    have F := fitE g
    obtain ⟨h1, h2⟩ := walkE_mem e he
    have := F.small
    have := F.atoms
    rw [h1, h2]
    simp
    omega
  · cases he
end Go.Proofs.YtbalifgacjmbpacGreat.A


/- CLOSURES: the plain law. Conditions: none. (No program in sight but the names.) -/
namespace Go.Proofs.YtbalifgacjmbpacGreat.A
open Go
set_option linter.unusedSimpArgs false
set_option linter.unusedVariables false

/-- Are all numbers of a list in another. -/
def subAt (a b : List Int) (i : Nat) : Bool := decide (a.getD i 0 ∈ b)
def subs (a b : List Int) : Bool := upTo (subAt a b) a.length
theorem upTo_true {p : Nat → Bool} : ∀ {n : Nat}, (∀ k, k < n → p k = true) → upTo p n = true
  | 0, _ => rfl
  | n + 1, h => upTo_step (upTo_true fun k hk => h k (by omega)) (h n (by omega))
theorem subs_iff {a b : List Int} : subs a b = true ↔ ∀ x ∈ a, x ∈ b := by
  constructor
  · intro h x hx
    obtain ⟨i, hi, rfl⟩ := List.mem_iff_getElem.mp hx
    have h1 := upTo_at h hi
    unfold subAt at h1
    rw [List.getD_eq_getElem?_getD, List.getElem?_eq_getElem hi] at h1
    exact of_decide_eq_true h1
  · intro h
    exact upTo_true fun k hk => decide_eq_true (h _ (mem_getD 0 hk))
/-- One atom's dependency, applied to a set. -/
def fire (l : List Rel) (ats : List RI) (skip : Int) (c : List Int) (i : Nat) : List Int :=
  if ((i : Int) != skip) && subs (keyVars l (ats.getD i default)) c then uni c (varsOf (ats.getD i default).l) else c
/-- The first k atoms' dependencies, one after another. -/
def passA (l : List Rel) (ats : List RI) (skip : Int) (c : List Int) : Nat → List Int
  | 0 => c
  | k + 1 => fire l ats skip (passA l ats skip c k) k
structure Small (c : List Int) : Prop where
  strict : Strict c
  small : ∀ x ∈ c, 0 ≤ x ∧ x < 4
theorem Small.uni {c v : List Int} (h : Small c) (hv : ∀ x ∈ v, 0 ≤ x ∧ x < 4) : Small (uni c v) :=
  ⟨uni_strict _ _, fun x hx => ((uni_mem _ _ _).mp hx).elim (h.small x) (hv x)⟩
theorem varsOf_small (l : List Int) : ∀ x ∈ varsOf l, 0 ≤ x ∧ x < 4 := fun x hx => by
  have := (selN_mem _ _ _).mp hx
  omega
theorem Small.selN {p : Int → Bool} : Small (selN p 4) := ⟨selN_strict _ _, fun x hx => by have := (selN_mem _ _ _).mp hx; omega⟩
theorem Small.eq_selN {c : List Int} (h : Small c) : c = A.selN (fun v => decide (v ∈ c)) 4 := by
  refine strict_eq h.strict (selN_strict _ _) fun x => ?_
  rw [selN_mem]
  exact ⟨fun hx => ⟨(h.small x hx).1, (h.small x hx).2, decide_eq_true hx⟩, fun hx => of_decide_eq_true hx.2.2⟩
theorem Small.len {c : List Int} (h : Small c) : c.length ≤ 4 := by
  rw [h.eq_selN]; exact selN_len _ 4
theorem strict_sub_len : ∀ {a b : List Int}, Strict a → Strict b → (∀ x ∈ a, x ∈ b) → a.length ≤ b.length ∧ (a.length = b.length → a = b)
  | [], b, _, _, _ => ⟨by simp, fun h => by cases b <;> simp at h ⊢⟩
  | x :: a, [], _, _, h => absurd (h x (by simp)) (by simp)
  | x :: a, y :: b, ha, hb, h => by
    obtain ⟨ha1, ha2⟩ := List.pairwise_cons.mp ha
    obtain ⟨hb1, hb2⟩ := List.pairwise_cons.mp hb
    rcases List.mem_cons.mp (h x (by simp)) with e | e
    · subst e
      have h1 := strict_sub_len ha2 hb2 fun z hz => by
        rcases List.mem_cons.mp (h z (List.mem_cons_of_mem _ hz)) with e | e
        · have := ha1 z hz; omega
        · exact e
      exact ⟨by simp only [List.length_cons]; omega, fun hl => by rw [h1.2 (by simpa using hl)]⟩
    · have h1 := strict_sub_len (a := x :: a) ha hb2 fun z hz => by
        rcases List.mem_cons.mp hz with rfl | hz'
        · exact e
        · rcases List.mem_cons.mp (h z hz) with e' | e'
          · have := ha1 z hz'; have := hb1 x e; omega
          · exact e'
      exact ⟨by have := h1.1; simp only [List.length_cons] at this ⊢; omega, fun hl => by have := h1.1; simp only [List.length_cons] at this hl; omega⟩
theorem fire_sub {l : List Rel} {ats : List RI} {skip : Int} {c : List Int} {i : Nat} : ∀ x ∈ c, x ∈ fire l ats skip c i := by
  intro x hx
  unfold fire
  split
  · exact (uni_mem _ _ _).mpr (.inl hx)
  · exact hx
theorem fire_small {l : List Rel} {ats : List RI} {skip : Int} {c : List Int} {i : Nat} (h : Small c) : Small (fire l ats skip c i) := by
  unfold fire
  split
  · exact h.uni (varsOf_small _)
  · exact h
theorem passA_sub {l : List Rel} {ats : List RI} {skip : Int} {c : List Int} : ∀ {k : Nat}, ∀ x ∈ c, x ∈ passA l ats skip c k
  | 0, x, hx => hx
  | k + 1, x, hx => fire_sub x (passA_sub (k := k) x hx)
theorem passA_small {l : List Rel} {ats : List RI} {skip : Int} {c : List Int} (h : Small c) : ∀ {k : Nat}, Small (passA l ats skip c k)
  | 0 => h
  | k + 1 => fire_small (passA_small h (k := k))
theorem uni_same {c v : List Int} (h : Strict c) (hv : ∀ x ∈ v, x ∈ c) : uni c v = c :=
  strict_eq (uni_strict _ _) h fun x => by rw [uni_mem]; exact ⟨fun h => h.elim id (hv x), .inl⟩
/-- A passA that changes a set takes in an atom's variables. -/
theorem passA_new {l : List Rel} {ats : List RI} {skip : Int} {c : List Int} (h : Small c) : ∀ (k : Nat), passA l ats skip c k = c ∨ ∃ i, i < k ∧ subs (varsOf (ats.getD i default).l) c = false ∧ subs (varsOf (ats.getD i default).l) (passA l ats skip c k) = true
  | 0 => .inl rfl
  | k + 1 => by
    have ih := passA_new (l := l) (ats := ats) (skip := skip) h k
    have hmono : ∀ i, subs (varsOf (ats.getD i default).l) (passA l ats skip c k) = true → subs (varsOf (ats.getD i default).l) (passA l ats skip c (k + 1)) = true :=
      fun i hi => subs_iff.mpr fun x hx => fire_sub x (subs_iff.mp hi x hx)
    rcases ih with ih | ⟨i, hi, h1, h2⟩
    · rw [passA, ih]
      unfold fire
      split
      · rcases hs : subs (varsOf (ats.getD k default).l) c
        · exact .inr ⟨k, by omega, hs, subs_iff.mpr fun x hx => (uni_mem _ _ _).mpr (.inr hx)⟩
        · exact .inl (uni_same h.strict (subs_iff.mp hs))
      · exact .inl rfl
    · exact .inr ⟨i, by omega, h1, hmono i h2⟩
def took (ats : List RI) (c : List Int) (n : Nat) : List Nat := (List.range n).filter fun i => subs (varsOf (ats.getD i default).l) c
theorem took_le (ats : List RI) (c : List Int) (n : Nat) : (took ats c n).length ≤ n := by
  unfold took; exact Nat.le_trans (List.length_filter_le _ _) (by rw [List.length_range]; exact Nat.le_refl _)
theorem filter_lt {α : Type} {p p' : α → Bool} : ∀ {l : List α}, (∀ x ∈ l, p x = true → p' x = true) → (∃ x ∈ l, p x = false ∧ p' x = true) → (l.filter p).length < (l.filter p').length
  | [], _, ⟨x, hx, _⟩ => absurd hx (by simp)
  | a :: l, h, ⟨x, hx, h1, h2⟩ => by
    have hle : ∀ {l : List α}, (∀ x ∈ l, p x = true → p' x = true) → (l.filter p).length ≤ (l.filter p').length := by
      intro l
      induction l with
      | nil => intro _; simp
      | cons b l ih =>
        intro h
        have ih := ih fun x hx => h x (List.mem_cons_of_mem _ hx)
        rcases hb : p b
        · rw [List.filter_cons_of_neg (by simp [hb])]
          rcases hb' : p' b
          · rw [List.filter_cons_of_neg (by simp [hb'])]; exact ih
          · rw [List.filter_cons_of_pos hb']; simp only [List.length_cons]; omega
        · rw [List.filter_cons_of_pos hb, List.filter_cons_of_pos (h b (by simp) hb)]; simp only [List.length_cons]; omega
    rcases List.mem_cons.mp hx with rfl | hx
    · rw [List.filter_cons_of_neg (by simp [h1]), List.filter_cons_of_pos h2]
      have := hle (l := l) fun y hy => h y (List.mem_cons_of_mem _ hy)
      simp only [List.length_cons]; omega
    · have ih := filter_lt (p := p) (p' := p') (l := l) (fun y hy => h y (List.mem_cons_of_mem _ hy)) ⟨x, hx, h1, h2⟩
      rcases hb : p a
      · rw [List.filter_cons_of_neg (by simp [hb])]
        rcases hb' : p' a
        · rw [List.filter_cons_of_neg (by simp [hb'])]; exact ih
        · rw [List.filter_cons_of_pos hb']; simp only [List.length_cons]; omega
      · rw [List.filter_cons_of_pos hb, List.filter_cons_of_pos (h a (by simp) hb)]; simp only [List.length_cons]; omega
theorem took_lt {l : List Rel} {ats : List RI} {skip : Int} {c : List Int} {n : Nat} (h : Small c) (hne : passA l ats skip c n ≠ c) : (took ats c n).length < (took ats (passA l ats skip c n) n).length := by
  rcases passA_new (l := l) (ats := ats) (skip := skip) h n with e | ⟨i, hi, h1, h2⟩
  · exact absurd e hne
  · exact filter_lt (fun x _ hx => subs_iff.mpr fun y hy => passA_sub y (subs_iff.mp hx y hy)) ⟨i, List.mem_range.mpr hi, h1, h2⟩
/-- So many passes. -/
def iter (l : List Rel) (ats : List RI) (skip : Int) (n : Nat) (c : List Int) : Nat → List Int
  | 0 => c
  | m + 1 => passA l ats skip (iter l ats skip n c m) n
theorem iter_small {l : List Rel} {ats : List RI} {skip : Int} {n : Nat} {c : List Int} (h : Small c) : ∀ {m : Nat}, Small (iter l ats skip n c m)
  | 0 => h
  | m + 1 => passA_small (iter_small h (m := m))
theorem iter_took {l : List Rel} {ats : List RI} {skip : Int} {n : Nat} {c : List Int} (h : Small c) : ∀ m : Nat, (∃ j, j ≤ m ∧ iter l ats skip n c (j + 1) = iter l ats skip n c j) ∨ m < (took ats (iter l ats skip n c (m + 1)) n).length
  | 0 => by
    by_cases e : iter l ats skip n c 1 = iter l ats skip n c 0
    · exact .inl ⟨0, by omega, e⟩
    · have := took_lt (l := l) (ats := ats) (skip := skip) (n := n) (iter_small h (m := 0)) e
      refine .inr ?_
      show 0 < (took ats (passA l ats skip (iter l ats skip n c 0) n) n).length
      omega
  | m + 1 => by
    rcases iter_took h m with ⟨j, hj, e⟩ | ht
    · exact .inl ⟨j, by omega, e⟩
    · by_cases e : iter l ats skip n c (m + 2) = iter l ats skip n c (m + 1)
      · exact .inl ⟨m + 1, by omega, e⟩
      · have := took_lt (l := l) (ats := ats) (skip := skip) (n := n) (iter_small h (m := m + 1)) e
        refine .inr ?_
        show m + 1 < (took ats (passA l ats skip (iter l ats skip n c (m + 1)) n) n).length
        omega
theorem iter_stays {l : List Rel} {ats : List RI} {skip : Int} {n : Nat} {c : List Int} {j : Nat} (e : iter l ats skip n c (j + 1) = iter l ats skip n c j) : ∀ d : Nat, iter l ats skip n c (j + d) = iter l ats skip n c j
  | 0 => rfl
  | d + 1 => by
    have ih := iter_stays e d
    show passA l ats skip (iter l ats skip n c (j + d)) n = _
    rw [ih]
    exact e
/-- Where a passA changes nothing, as many passes as there are atoms lead there too. -/
theorem iter_done {l : List Rel} {ats : List RI} {skip : Int} {n : Nat} {c : List Int} (h : Small c) {j : Nat} (e : iter l ats skip n c (j + 1) = iter l ats skip n c j) : iter l ats skip n c j = iter l ats skip n c n := by
  rcases iter_took (l := l) (ats := ats) (skip := skip) (n := n) h n with ⟨i, hi, e'⟩ | ht
  · have h1 := iter_stays e' (n - i)
    rw [show i + (n - i) = n by omega] at h1
    rw [h1]
    by_cases hij : i ≤ j
    · have h2 := iter_stays e' (j - i)
      rw [show i + (j - i) = j by omega] at h2
      exact h2
    · have h2 := iter_stays e (i - j)
      rw [show j + (i - j) = i by omega] at h2
      exact h2.symm
  · have := took_le ats (iter l ats skip n c (n + 1)) n
    omega
end Go.Proofs.YtbalifgacjmbpacGreat.A


/- WITNESSES ARE PARTIAL REPAIRS: the plain law. Conditions: none. -/
namespace Go.Proofs.YtbalifgacjmbpacGreat.A
open Go
set_option linter.unusedSimpArgs false
set_option linter.unusedVariables false

theorem meet_rel {a f : RI} {vs x : List Int} (h : meet a f vs = some x) : f.r = a.r := by
  unfold meet at h
  split at h
  · assumption
  · cases h
/-- The chosen facts are of the atoms' relations. -/
theorem walkE_rel {ds ats : List RI} : ∀ {m : Nat} {vs fs : List Int}, fs.length + m = ats.length → (∀ t, t < fs.length → ∃ i : Nat, fs.getD t 0 = i ∧ i < ds.length ∧ (ds.getD i default).r = (ats.getD t default).r) →
    ∀ e ∈ walkE ds ats m vs fs, e.fs.length = ats.length ∧ ∀ t, t < ats.length → ∃ i : Nat, e.fs.getD t 0 = i ∧ i < ds.length ∧ (ds.getD i default).r = (ats.getD t default).r
  | 0, vs, fs, hl, hf, e, he => by
    simp only [walkE, List.mem_singleton] at he
    subst he
    exact ⟨by simpa using hl, fun t ht => hf t (by omega)⟩
  | m + 1, vs, fs, hl, hf, e, he => by
    rw [walkE_succ, found_mem] at he
    obtain ⟨i, hi, he⟩ := he
    unfold oneE at he
    split at he
    · rename_i x hx
      refine walkE_rel (by rw [List.length_append, List.length_singleton]; omega) (fun t ht => ?_) e he
      rw [List.length_append, List.length_singleton] at ht
      rcases Nat.lt_or_ge t fs.length with h | h
      · obtain ⟨j, h1, h2, h3⟩ := hf t h
        refine ⟨j, ?_, h2, h3⟩
        rw [List.getD_eq_getElem?_getD, List.getElem?_append_left h, ← List.getD_eq_getElem?_getD]; exact h1
      · obtain rfl : t = fs.length := by omega
        refine ⟨i, ?_, hi, ?_⟩
        · rw [List.getD_eq_getElem?_getD, List.getElem?_append_right (Nat.le_refl _), Nat.sub_self]; rfl
        · have := meet_rel hx
          rw [this, atomAt]
          congr 2; omega
    · cases he
theorem newRels {l : List Rel} {q : Qu} (h : goodQu l q = true) {s t : Nat} (hs : s < t) (ht : t < q.atoms.length) : (q.atoms.getD s default).r ≠ (q.atoms.getD t default).r := by
  have h1 := goodQu_at h ht
  unfold atomOk at h1
  simp only [Bool.and_eq_true] at h1
  have := upTo_at h1.2.1 hs
  unfold newRel at this
  rw [Bool.not_eq_true', beq_eq_false_iff_ne] at this
  exact this
theorem idxs_of {l : List Int} {n : Int} (h1 : l.Pairwise (· < ·)) (h2 : ∀ x ∈ l, 0 ≤ x ∧ x < n) : idxs l n = true := by
  unfold idxs
  refine upTo_true fun k hk => ?_
  unfold idxAt
  obtain ⟨a1, a2⟩ := h2 _ (mem_getD 0 hk)
  rw [Bool.and_eq_true]
  refine ⟨by unfold inB; rw [decide_eq_true a1, decide_eq_true (show l.getD k 0 ≤ n - 1 by omega)]; rfl, ?_⟩
  rcases k with _ | k
  · rfl
  · rw [Nat.add_sub_cancel, decide_eq_false (by omega : ¬ k + 1 = 0), Bool.false_or, Bool.not_eq_true', decide_eq_false_iff_not]
    have := List.pairwise_iff_getElem.mp h1 k (k + 1) (by omega) hk (by omega)
    rw [List.getD_eq_getElem?_getD, List.getD_eq_getElem?_getD, List.getElem?_eq_getElem hk, List.getElem?_eq_getElem (show k < l.length by omega)]
    simp only [Option.getD_some]
    omega
theorem sortI_lt {l : List Int} (h : l.Nodup) : (sortI l).Pairwise (· < ·) := by
  have h1 := sortI_sorted l
  have h2 : (sortI l).Nodup := (sortI_perm l).nodup_iff.mpr h
  have := h1.and h2
  exact this.imp fun ⟨a, b⟩ => by omega
theorem isPR_of {d : Db} {l : List Int} (g : goodDb d = true) (h1 : l.Pairwise (· < ·)) (h2 : ∀ x ∈ l, 0 ≤ x ∧ x < d.facts.length)
    (h3 : ∀ x ∈ l, ∀ y ∈ l, x ≠ y → (d.facts.getD x.toNat default).r ≠ (d.facts.getD y.toNat default).r) : isPR d l = true := by
  have hix := idxs_of h1 h2
  have hok : selOk d l = true := by unfold selOk; rw [g, hix]; rfl
  have hsel : selD d l = ⟨d.rels, selF d.facts l⟩ := by unfold selD; rw [hok]; rfl
  have hlen : (selF d.facts l).length = l.length := selF_length _ _
  have hget : ∀ k, k < l.length → (selF d.facts l).getD k default = d.facts.getD (l.getD k 0).toNat default := by
    intro k hk
    simp [selF, List.getD_eq_getElem?_getD, hk]
  have hll : (l.length : Int) ≤ d.facts.length := by
    rcases e : l.length with _ | k
    · omega
    · have : ∀ j, j < l.length → (j : Int) ≤ l.getD j 0 := by
        intro j
        induction j with
        | zero => intro hj; exact (h2 _ (mem_getD 0 hj)).1
        | succ j ih =>
          intro hj
          have := idxs_lt hix (j + 1) j hj (by omega)
          have := ih (by omega)
          omega
      have a1 := this k (by omega)
      have a2 := (h2 _ (mem_getD 0 (show k < l.length by omega))).2
      omega
  have hgood : goodDb (selD d l) = true := by
    have gr := (db_of g).1
    have gn := (db_of g).2.1
    rw [hsel]
    unfold goodDb
    simp only [Bool.and_eq_true, decide_eq_true_eq]
    refine ⟨gr, by rw [hlen]; omega, upTo_true fun k hk => ?_⟩
    rw [hlen] at hk
    obtain ⟨a1, a2⟩ := h2 _ (mem_getD 0 hk)
    unfold factOk
    simp only
    rw [hget k hk, fact_of g (by omega), Bool.true_and]
    rcases k with _ | k
    · rfl
    · rw [Nat.add_sub_cancel, decide_eq_false (by omega : ¬ k + 1 = 0), Bool.false_or, Bool.not_eq_true', decide_eq_false_iff_not, hget k (by omega)]
      have b1 := idxs_lt hix (k + 1) k hk (by omega)
      obtain ⟨b2, b3⟩ := h2 _ (mem_getD 0 (show k < l.length by omega))
      have := db_sorted g (show (l.getD k 0).toNat < (l.getD (k + 1) 0).toNat by omega) (by omega)
      omega
  have hfst : ∀ i, i < l.length → isFst (keyR (selD d l)) i = true := by
    intro i hi
    refine isFst_of fun j hj => ?_
    rcases e : keyR (selD d l) j i
    · rfl
    · unfold keyR at e
      rw [sameK_iff, hsel] at e
      have e1 := e.1
      simp only at e1
      rw [hget j (by omega), hget i hi] at e1
      have b1 := idxs_lt hix i j hi hj
      exact absurd e1 (h3 _ (mem_getD 0 (by omega)) _ (mem_getD 0 hi) (by omega))
  unfold isPR cst
  rw [hok, hgood, Bool.true_and, Bool.true_and, decide_eq_true_iff]
  unfold blocksOf blk blkN
  rw [List.length_map, List.length_map]
  have hf : (selD d l).facts.length = l.length := by rw [hsel]; exact hlen
  rw [hf]
  unfold fsts
  rw [List.filter_eq_self.mpr (fun i hi => hfst i (by simpa using hi)), List.length_range]
theorem embs_fs {d : Db} {q : Qu} : ∀ e ∈ embs d q, queryFor d q = true ∧ e.fs.length = q.atoms.length ∧ ∀ t, t < q.atoms.length → ∃ i : Nat, e.fs.getD t 0 = i ∧ i < d.facts.length ∧ (d.facts.getD i default).r = (q.atoms.getD t default).r := by
  intro e he
  unfold embs at he
  split at he
  · rename_i g
    obtain ⟨h1, h2⟩ := walkE_rel (fs := []) (by simp) (fun t ht => by cases ht) e he
    exact ⟨g, h1, h2⟩
  · cases he
theorem witness_ok {d : Db} {q : Qu} : ∀ e ∈ embs d q, isPR d (sortI e.fs) = true := by
  intro e he
  obtain ⟨g, h1, h2⟩ := embs_fs e he
  have hmem : ∀ x ∈ e.fs, ∃ t, t < q.atoms.length ∧ e.fs.getD t 0 = x := by
    intro x hx
    obtain ⟨t, ht, e1⟩ := getD_in hx
    exact ⟨t, by omega, e1⟩
  have hdiff : ∀ s t, s < q.atoms.length → t < q.atoms.length → s ≠ t → (d.facts.getD (e.fs.getD s 0).toNat default).r ≠ (d.facts.getD (e.fs.getD t 0).toNat default).r := by
    intro s t hs ht hne
    obtain ⟨i, a1, a2, a3⟩ := h2 s hs
    obtain ⟨j, b1, b2, b3⟩ := h2 t ht
    rw [a1, b1, Int.toNat_natCast, Int.toNat_natCast, a3, b3]
    rcases Nat.lt_or_ge s t with h | h
    · exact newRels (queryFor_qu g) h ht
    · exact fun e => newRels (queryFor_qu g) (show t < s by omega) hs e.symm
  have hnd : e.fs.Nodup := by
    rw [List.Nodup, List.pairwise_iff_getElem]
    intro s t hs ht hst heq
    refine hdiff s t (by omega) (by omega) (by omega) ?_
    have : e.fs.getD s 0 = e.fs.getD t 0 := by
      rw [List.getD_eq_getElem?_getD, List.getD_eq_getElem?_getD, List.getElem?_eq_getElem hs, List.getElem?_eq_getElem ht, heq]
    rw [this]
  have hin : ∀ x, x ∈ sortI e.fs → x ∈ e.fs := fun x hx => (sortI_perm e.fs).mem_iff.mp hx
  refine isPR_of (queryFor_db g) (sortI_lt hnd) (fun x hx => ?_) (fun x hx y hy hne => ?_)
  · obtain ⟨t, ht, rfl⟩ := hmem x (hin x hx)
    obtain ⟨i, a1, a2, _⟩ := h2 t ht
    omega
  · obtain ⟨s, hs, rfl⟩ := hmem x (hin x hx)
    obtain ⟨t, ht, rfl⟩ := hmem y (hin y hy)
    exact hdiff s t hs ht (fun e => hne (by rw [e]))
def wits (d : Db) (q : Qu) : List (List Int) := (embs d q).map fun e => sortI e.fs
theorem wits_len (d : Db) (q : Qu) : (wits d q).length ≤ 2744 := by
  unfold wits; rw [List.length_map]; exact embs_len d q
theorem wits_mem {d : Db} {q : Qu} : ∀ w ∈ wits d q, w.length ≤ 3 := by
  intro w hw
  obtain ⟨e, he, rfl⟩ := List.mem_map.mp hw
  rw [sortI_len]
  exact (embs_mem e he).2
end Go.Proofs.YtbalifgacjmbpacGreat.A


/- DOES A QUERY HOLD IN CHOSEN FACTS. Conditions: none. -/
namespace Go.Proofs.YtbalifgacjmbpacGreat.A
open Go
set_option linter.unusedSimpArgs false
set_option linter.unusedVariables false
set_option maxRecDepth 100000

theorem selD_ok {d : Db} (l : List Int) (h : d.ok) (hl : l.length ≤ 1048576) : (selD d l).ok := by
  unfold selD
  split
  · refine ⟨h.1, by rw [selF_length]; exact hl, fun x hx => ?_⟩
    obtain ⟨i, _, rfl⟩ := List.mem_map.mp hx
    rcases Nat.lt_or_ge i.toNat d.facts.length with hi | hi
    · exact h.2.2 _ (mem_getD default hi)
    · rw [List.getD_eq_getElem?_getD, List.getElem?_eq_none hi]
      show ([] : List Int).length ≤ _
      simp
  · exact ⟨⟨by simp, fun x hx => by cases hx⟩, by simp, fun x hx => by cases hx⟩
def holdsIn (d : Db) (l : List Int) (q : Qu) : Bool := selOk d l && decide ((0 : Int) < ((embs (selD d l) q).length : Int))
end Go.Proofs.YtbalifgacjmbpacGreat.A


/- BLOCKS AND REPAIRS: the program. Conditions: none. -/
namespace Go.Proofs.YtbalifgacjmbpacGreat.A
open Go
set_option linter.unusedSimpArgs false
set_option linter.unusedVariables false
set_option maxRecDepth 100000

theorem ia_rin_i {st : St} {K : Eff → Prop} {e b : Nat} {z : List Value} {id i j s off len : Nat} {ik : IntKind} {n : Int} : iaK st (some (e, b, z)) (.one (.rin id i j s off len)) (.sc (.int ik n)) K = (0 ≤ n ∧ idxJ e (st.objs id) id i j s off len n.toNat K) := by
  simp only [iaK, idxA, asNat, idxJ, Rows.cell]
  rcases st.objs id with _ | ⟨w, rows⟩
  · rfl
  · simp only
    rcases (List.getD rows i []).getD j .gone with _ | ⟨s', xs⟩ | _ <;> rfl
def apQ (nid w bytes id i j s off len wo : Nat) (rows : Rows) (c : Cell) (K : Eff → Prop) (more : Rows) (ws : List (Nat × Option Obj')) : Prop := match c with
  | .sl s' xs => s' = s ∧ w = 1 ∧ off = 0 ∧ len = xs.length ∧ (xs.length + more.length + 1) * bytes ≤ 70368744177664 ∧
      K ⟨.one (.ref nid w 0 (xs.length + more.length)), (nid, some (w, lift xs ++ more)) :: (id, some (wo, Rows.setCell rows i j .gone)) :: ws, []⟩
  | _ => False
theorem apI_some {nid w bytes id i j s off len wo : Nat} {rows : Rows} {K : Eff → Prop} {more : Rows} {ws : List (Nat × Option Obj')} : apI nid w bytes id i j s off len (some (wo, rows)) K more ws = apQ nid w bytes id i j s off len wo rows ((rows.getD i []).getD j .gone) K more ws := rfl
theorem apQ_sl {nid w bytes id i j s s' off len wo : Nat} {rows : Rows} {xs : List Value} {K : Eff → Prop} {more : Rows} {ws : List (Nat × Option Obj')} : apQ nid w bytes id i j s off len wo rows (.sl s' xs) K more ws = (s' = s ∧ w = 1 ∧ off = 0 ∧ len = xs.length ∧ (xs.length + more.length + 1) * bytes ≤ 70368744177664 ∧
      K ⟨.one (.ref nid w 0 (xs.length + more.length)), (nid, some (w, lift xs ++ more)) :: (id, some (wo, Rows.setCell rows i j .gone)) :: ws, []⟩) := rfl
attribute [go_sem] apI_some apQ_sl
attribute [go_sem low] ia_rin_i
def goneAt (L : List (List Int)) : Rows := iss 999 L ++ [[Cell.gone]]
theorem goneAt_eq (L : List (List Int)) (b : List Int) : Rows.setCell (iss 999 (L ++ [b])) L.length 0 .gone = goneAt L := by
  unfold Rows.setCell goneAt
  rw [iss_get (by simp)]
  rw [← iss_append, List.set_append_right _ _ (by rw [iss_length]; omega), iss_length, Nat.sub_self]
  rfl
theorem goneAt_length (L : List (List Int)) : (goneAt L).length = L.length + 1 := by simp [goneAt, iss_length]
theorem goneAt_get (L : List (List Int)) : (goneAt L).getD L.length [] = [Cell.gone] := by
  unfold goneAt
  rw [List.getD_eq_getElem?_getD, List.getElem?_append_right (by rw [iss_length]; omega), iss_length, Nat.sub_self]; rfl
theorem goneAt_set (L : List (List Int)) (c : Cell) : (goneAt L).set L.length [c] = iss 999 L ++ [[c]] := by
  unfold goneAt
  rw [List.set_append_right _ _ (by rw [iss_length]; omega), iss_length, Nat.sub_self]; rfl
theorem last_get (L : List (List Int)) (b : List Int) : (L ++ [b]).getD L.length [] = b := by
  rw [List.getD_eq_getElem?_getD, List.getElem?_append_right (Nat.le_refl _), Nat.sub_self]; rfl
set_option maxHeartbeats 2000000 in
theorem implBlocks_sat (d : Db) (h : d.fit) (g : goodDb d = true) : Sat Tryz.prog 53 [lDb d] [oISS (blocksOf d)] [g2] := by
  refine sat_of_body mixed Tryz.func53 rfl (by kernel_rfl) (by kernel_rfl) (rs := [.tmp 2]) rfl rfl rfl ?_
  have hn := goodDb_len g
  have E := keyR_eqv g
  unfold blocksOf
  simp -implicitDefEqProofs (maxSteps := 2000000) only [go_sem]
  refine awp_loop Nat (fun k => mkSt [(1, .one (.vad 1000 0)), (3, .one (.ref 960 1 0 (blk (keyR d) k).length)), (9, .one (.im 2 (ris 0 d.facts))), (10, .sc (.int .i64 d.facts.length)), (11, .sc (.int .i64 k))] [(1000, sDb d)] [(960, (1, iss 999 (blk (keyR d) k)))] 4000)
    (fun k => k ≤ d.facts.length) (fun k => d.facts.length - k) 0 (by omega) (le_st' _ _ [⟨960, some _, false, 1, _⟩] [] _ (by simp -implicitDefEqProofs (maxSteps := 2000000) only [go_sem, iss_nil, blk_zero, List.length_nil] <;> and_intros <;> rfl) (by simp -implicitDefEqProofs (maxSteps := 2000000) only [go_sem, iss_nil, blk_zero, List.length_nil] <;> and_intros <;> rfl) (by simp -implicitDefEqProofs (maxSteps := 2000000) only [go_sem, iss_nil, blk_zero, List.length_nil] <;> and_intros <;> rfl) (by rfl)) ?_
  rintro k h1
  have hle : (blk (keyR d) k).length ≤ 14 := by
    have := sum_ge (blk_ne E h1)
    have := blk_sum E h1
    omega
  by_cases c1 : k < d.facts.length
  · have wk : IntKind.i64.wrap ((k : Int) + 1) = ((k + 1 : Nat) : Int) := i64_succ (by omega)
    rcases e : isFst (keyR d) k
    · obtain ⟨L, i, t, e1, e2, e3, e4⟩ := blk_join E c1 e
      have hlen : (blk (keyR d) k).length = L.length + 1 := by rw [e1]; simp
      have wl : IntKind.i64.wrap (((blk (keyR d) k).length : Int) - 1) = (L.length : Int) := by rw [hlen]; exact i64_pred (by omega)
      have cz : decide ((L.length : Int) ≥ 0) = true := by rw [decide_eq_true_iff]; omega
      have ci : i < d.facts.length := by omega
      have e2' : sameK d.rels (d.facts.getD i default) (d.facts.getD k default) = true := e2
      have hz : 0 < t.length + 1 := by omega
      have ht : t.length + 1 ≤ 14 := by
        have := sum_mem (l := blk (keyR d) k) (b := (i : Int) :: t) (by rw [e1]; simp)
        have := blk_sum E h1
        rw [List.length_cons] at *
        omega
      have lg : (blk (keyR d) k).getD L.length [] = (i : Int) :: t := by rw [e1]; exact last_get L _
      have hgo : Rows.setCell (iss 999 (blk (keyR d) k)) L.length 0 .gone = goneAt L := by rw [e1]; exact goneAt_eq L _
      have hl1 : L.length < (blk (keyR d) k).length := by omega
      simp -implicitDefEqProofs (maxSteps := 2000000) only [go_sem, c1, wl, cz, lg, hz, hl1, ci]
      refine call_of (sameKey_sat d.rels (d.facts.getD i default) (d.facts.getD k default) h.1.1 (db_of g).1 (fact_of g ci) (fact_of g c1)) (by simp -implicitDefEqProofs (maxSteps := 2000000) only [go_sem, e2', wl, cz, lg, hz, hl1, hgo, goneAt_length, goneAt_get, goneAt_set]) (by kernel_rfl) (by simp -implicitDefEqProofs (maxSteps := 2000000) only [go_sem, e2', wl, cz, lg, hz, hl1, hgo, goneAt_length, goneAt_get, goneAt_set]) ?_
      simp -implicitDefEqProofs (maxSteps := 2000000) only [go_sem, e2', wl, cz, lg, hz, hl1, hgo, goneAt_length, goneAt_get, goneAt_set]
      first | (with_reducible refine tr_and ?_ ?_; focus kernel_rfl) | (with_reducible refine tr_only ?_; kernel_rfl) | skip
      refine ⟨by omega, by omega, ?_⟩
      rw [wk]
      refine ⟨k + 1, c1, by omega, ?_⟩
      rw [e4]
      exact (le_st' _ _ [⟨960, some _, false, 1, _⟩] [] _ (by simp -implicitDefEqProofs (maxSteps := 2000000) only [go_sem, hlen, List.length_append, iss_one, List.cons_append] <;> and_intros <;> rfl) (by simp -implicitDefEqProofs (maxSteps := 2000000) only [go_sem, hlen, List.length_append, iss_one, List.cons_append] <;> and_intros <;> rfl) (by simp -implicitDefEqProofs (maxSteps := 2000000) only [go_sem, hlen, List.length_append, iss_one, List.cons_append] <;> and_intros <;> rfl) (by rfl))
    · have hst := blk_new E c1 e
      rcases List.eq_nil_or_concat (blk (keyR d) k) with e1 | ⟨L, b, e1⟩
      · have wl : IntKind.i64.wrap (((blk (keyR d) k).length : Int) - 1) = -1 := by rw [e1]; rfl
        have cz : decide ((-1 : Int) ≥ 0) = false := by decide
        simp -implicitDefEqProofs (maxSteps := 2000000) only [go_sem, c1, wl, cz]
        first | (with_reducible refine tr_and ?_ ?_; focus kernel_rfl) | (with_reducible refine tr_only ?_; kernel_rfl) | skip
        rw [if_neg (by simp [flatB, Cell.flatB])]
        refine ⟨by omega, ?_⟩
        rw [wk]
        refine ⟨k + 1, c1, by omega, ?_⟩
        rw [hst]
        exact (le_st' _ _ [⟨960, some _, false, 1, _⟩] [] _ (by simp -implicitDefEqProofs (maxSteps := 2000000) only [go_sem, repS, List.set_cons_zero, iss_one] <;> and_intros <;> rfl) (by simp -implicitDefEqProofs (maxSteps := 2000000) only [go_sem, repS, List.set_cons_zero, iss_one] <;> and_intros <;> rfl) (by simp -implicitDefEqProofs (maxSteps := 2000000) only [go_sem, repS, List.set_cons_zero, iss_one] <;> and_intros <;> rfl) (by rfl))
      · rw [List.concat_eq_append] at e1
        obtain ⟨i, t, rfl, e3, e2⟩ := blk_last E c1 e e1
        have hlen : (blk (keyR d) k).length = L.length + 1 := by rw [e1]; simp
        have wl : IntKind.i64.wrap (((blk (keyR d) k).length : Int) - 1) = (L.length : Int) := by rw [hlen]; exact i64_pred (by omega)
        have cz : decide ((L.length : Int) ≥ 0) = true := by rw [decide_eq_true_iff]; omega
        have ci : i < d.facts.length := by omega
        have e2' : sameK d.rels (d.facts.getD i default) (d.facts.getD k default) = false := e2
        have hz : 0 < t.length + 1 := by omega
        have lg : (blk (keyR d) k).getD L.length [] = (i : Int) :: t := by rw [e1]; exact last_get L _
        have hl1 : L.length < (blk (keyR d) k).length := by omega
        simp -implicitDefEqProofs (maxSteps := 2000000) only [go_sem, c1, wl, cz, lg, hz, hl1, ci]
        refine call_of (sameKey_sat d.rels (d.facts.getD i default) (d.facts.getD k default) h.1.1 (db_of g).1 (fact_of g ci) (fact_of g c1)) (by simp -implicitDefEqProofs (maxSteps := 2000000) only [go_sem, e2', wl, cz, lg, hz, hl1]) (by kernel_rfl) (by simp -implicitDefEqProofs (maxSteps := 2000000) only [go_sem, e2', wl, cz, lg, hz, hl1]) ?_
        simp -implicitDefEqProofs (maxSteps := 2000000) only [go_sem, e2', wl, cz, lg, hz, hl1]
        first | (with_reducible refine tr_and ?_ ?_; focus kernel_rfl) | (with_reducible refine tr_only ?_; kernel_rfl) | skip
        rw [if_neg (by simp [flatB, Cell.flatB])]
        refine ⟨by omega, ?_⟩
        rw [wk]
        refine ⟨k + 1, c1, by omega, ?_⟩
        rw [hst]
        exact (le_st' _ _ [⟨960, some _, false, 1, _⟩] [] _ (by simp -implicitDefEqProofs (maxSteps := 2000000) only [go_sem, repS, List.set_cons_zero, iss_one] <;> and_intros <;> rfl) (by simp -implicitDefEqProofs (maxSteps := 2000000) only [go_sem, repS, List.set_cons_zero, iss_one] <;> and_intros <;> rfl) (by simp -implicitDefEqProofs (maxSteps := 2000000) only [go_sem, repS, List.set_cons_zero, iss_one] <;> and_intros <;> rfl) (by rfl))
  · obtain rfl : k = d.facts.length := by omega
    simp -implicitDefEqProofs (maxSteps := 2000000) only [go_sem, c1]
    first | done | rfl | exact ⟨rfl, rfl⟩ | exact ⟨rfl, rfl, rfl⟩ | (refine tr_and ?_ ?_ <;> first | rfl | exact ⟨rfl, rfl⟩ | kernel_rfl)
theorem implCountRepairs_sat (l : List (List Int)) (h : l.length ≤ 1048576) (hl : ∀ b ∈ l, 0 < b.length) (hp : prodL l ≤ 1048576) : Sat Tryz.prog 54 [lISS l] [lInt (prodL l)] [g1] := by
  refine sat_of_body mixed Tryz.func54 rfl (by kernel_rfl) (by kernel_rfl) (rs := [.tmp 2]) rfl rfl rfl ?_
  simp -implicitDefEqProofs (maxSteps := 2000000) only [go_sem]
  refine awp_loop Nat (fun k => mkSt [(3, .sc (.int .i64 (prodL (l.take k) : Nat))), (6, .one (.im 1 (iss 0 l))), (7, .sc (.int .i64 l.length)), (8, .sc (.int .i64 k))] [] [] 4000)
    (fun k => k ≤ l.length) (fun k => l.length - k) 0 (by omega) (le_st _ _ [] [] _ rfl (by simp -implicitDefEqProofs (maxSteps := 2000000) only [go_sem, List.take_zero, prodL] <;> rfl) (by simp -implicitDefEqProofs (maxSteps := 2000000) only [go_sem, List.take_zero, prodL] <;> rfl) (by simp -implicitDefEqProofs (maxSteps := 2000000) only [go_sem, List.take_zero, prodL] <;> rfl)) ?_
  rintro k h1
  by_cases c1 : k < l.length
  · have wk : IntKind.i64.wrap ((k : Int) + 1) = ((k + 1 : Nat) : Int) := i64_succ (by omega)
    have hpt := prodL_take c1
    have hpp := prodL_part hl (k + 1)
    have wm : IntKind.i64.wrap (((prodL (l.take k) : Nat) : Int) * ((l.getD k []).length : Int)) = ((prodL (l.take (k + 1)) : Nat) : Int) := by
      rw [hpt] at hpp ⊢
      rw [← Int.natCast_mul]
      exact wrapN (by omega)
    simp -implicitDefEqProofs (maxSteps := 2000000) only [go_sem, c1]
    rw [wk, wm]
    exact ⟨k + 1, c1, by omega, (le_st _ _ [] [] _ rfl (by simp -implicitDefEqProofs (maxSteps := 2000000) only [go_sem] <;> rfl) (by simp -implicitDefEqProofs (maxSteps := 2000000) only [go_sem] <;> rfl) (by simp -implicitDefEqProofs (maxSteps := 2000000) only [go_sem] <;> rfl))⟩
  · obtain rfl : k = l.length := by omega
    rw [List.take_length]
    simp -implicitDefEqProofs (maxSteps := 2000000) only [go_sem, c1]
    first | done | rfl | exact ⟨rfl, rfl⟩ | exact ⟨rfl, rfl, rfl⟩ | (refine tr_and ?_ ?_ <;> first | rfl | exact ⟨rfl, rfl⟩ | kernel_rfl)
theorem zeros_set {n j : Nat} (h : j < n) (x : Int) (t : List Int) : (List.replicate (j + 1) (0 : Int) ++ t).set j x = List.replicate j 0 ++ (x :: t) := by
  rw [List.replicate_succ', List.append_assoc, List.set_append_right _ _ (by simp), List.length_replicate, Nat.sub_self]; rfl
theorem implNthRepair_sat (L : List (List Int)) (r : Nat) (hb : L.length ≤ 14) (hn : ∀ b ∈ L, 0 < b.length ∧ b.length ≤ 14) (hr : r ≤ 16384) : Sat Tryz.prog 55 [lISS L, lInt r] [oInts (pickR L r).1] [g1, g1] := by
  refine sat_of_body mixed Tryz.func55 rfl (by kernel_rfl) (by kernel_rfl) (rs := [.tmp 4]) rfl rfl rfl ?_
  have wl : IntKind.i64.wrap ((L.length : Int) - 1) = tOf L.length := by rw [tOf_eq, IntWalk.i64_in _ (by omega)]
  simp -implicitDefEqProofs (maxSteps := 2000000) only [go_sem, wl]
  refine ⟨by omega, ?_⟩
  refine awp_loop Nat (fun j => mkSt [(0, .one (.im 1 (iss 0 L))), (1, .sc (.int .i64 ((pickR (L.drop j) r).2 : Nat))), (5, .one (.ref 960 1 0 L.length)), (6, .sc (.int .i64 (tOf j)))] [] [(960, (1, ints (List.replicate j 0 ++ (pickR (L.drop j) r).1)))] 4000)
    (fun j => j ≤ L.length) (fun j => j) L.length (Nat.le_refl _) (le_st' _ _ [⟨960, some _, false, 1, _⟩] [] _ (by simp -implicitDefEqProofs (maxSteps := 2000000) only [go_sem, List.drop_length, pickR, List.append_nil] <;> and_intros <;> rfl) (by simp -implicitDefEqProofs (maxSteps := 2000000) only [go_sem, List.drop_length, pickR, List.append_nil] <;> and_intros <;> rfl) (by simp -implicitDefEqProofs (maxSteps := 2000000) only [go_sem, List.drop_length, pickR, List.append_nil] <;> and_intros <;> rfl) (by rfl)) ?_
  rintro j h1
  rcases j with _ | j
  · have cz : decide ((-1 : Int) ≥ 0) = false := by decide
    have hpl := pickR_len L r
    simp -implicitDefEqProofs (maxSteps := 2000000) only [go_sem, tOf_zero, cz]
    exact ⟨by omega, by kernel_rfl⟩
  · have c1 : j < L.length := by omega
    have cz : decide ((j : Int) ≥ 0) = true := by rw [decide_eq_true_iff]; omega
    have hbj := hn _ (mem_getD [] c1)
    have hne : ¬ (((L.getD j []).length : Nat) : Int) = 0 := by omega
    have hlt : (pickR (L.drop (j + 1)) r).2 % (L.getD j []).length < (L.getD j []).length := Nat.mod_lt _ hbj.1
    have hpl := pickR_le (L.drop (j + 1)) r
    have hpn : (pickR (L.drop (j + 1)) r).1.length = L.length - (j + 1) := by rw [pickR_len, List.length_drop]
    have hst := pickR_drop c1 r
    have hol : (List.replicate (j + 1) (0 : Int) ++ (pickR (L.drop (j + 1)) r).1).length = L.length := by rw [List.length_append, List.length_replicate, hpn]; omega
    have wd : IntKind.i64.wrap (((pickR (L.drop (j + 1)) r).2 / (L.getD j []).length : Nat) : Int) = (((pickR (L.drop (j + 1)) r).2 / (L.getD j []).length : Nat) : Int) := wrapN (Nat.le_trans (Nat.div_le_self _ _) (by omega))
    have wj : IntKind.i64.wrap ((j : Int) - 1) = tOf j := by rw [tOf_eq, IntWalk.i64_in _ (by omega)]
    obtain ⟨O, hO⟩ : ∃ O, O = List.replicate (j + 1) (0 : Int) ++ (pickR (L.drop (j + 1)) r).1 := ⟨_, rfl⟩
    rw [← hO] at hol ⊢
    have hset := zeros_set c1 ((L.getD j []).getD ((pickR (L.drop (j + 1)) r).2 % (L.getD j []).length) 0) (pickR (L.drop (j + 1)) r).1
    rw [← hO] at hset
    simp -implicitDefEqProofs (maxSteps := 2000000) only [go_sem, tOf_succ, cz, c1, tmodN, tdivN, hlt, hne, wd, wj, hol]
    refine ⟨hne, tr_and (by kernel_rfl) ⟨hne, j, by omega, by omega, ?_⟩⟩
    rw [hst]
    exact (le_st' _ _ [⟨960, some _, false, 1, _⟩] [] _ (by simp -implicitDefEqProofs (maxSteps := 2000000) only [go_sem, hset, hol] <;> and_intros <;> rfl) (by simp -implicitDefEqProofs (maxSteps := 2000000) only [go_sem, hset, hol] <;> and_intros <;> rfl) (by simp -implicitDefEqProofs (maxSteps := 2000000) only [go_sem, hset, hol] <;> and_intros <;> rfl) (by rfl))
end Go.Proofs.YtbalifgacjmbpacGreat.A


/- WITNESSES: the two programs. Conditions: none. -/
namespace Go.Proofs.YtbalifgacjmbpacGreat.A
open Go
set_option linter.unusedSimpArgs false
set_option linter.unusedVariables false
set_option maxRecDepth 100000

theorem wits_take {d : Db} {q : Qu} {k : Nat} (h : k < (embs d q).length) : (wits d q).take (k + 1) = (wits d q).take k ++ [sortI ((embs d q).getD k default).fs] := by
  unfold wits
  rw [take_snoc [] (by simpa using h)]
  simp [List.getD_eq_getElem?_getD, h]
theorem wits_length (d : Db) (q : Qu) : (wits d q).length = (embs d q).length := by simp [wits]
theorem specWitnesses_sat (d : Db) (q : Qu) (h : d.ok) (hq : q.fit) : Sat Tryz.prog 62 [lDb d, lQu q] [oISS (wits d q)] [g2, g3] := by
  refine sat_of_body mixed Tryz.func62 rfl (by kernel_rfl) (by kernel_rfl) (rs := [.tmp 4]) rfl rfl rfl ?_
  have hl := embs_len d q
  simp -implicitDefEqProofs (maxSteps := 2000000) only [go_sem]
  refine call_of (specFindEmbeddings_sat d q h.fit hq) (by simp -implicitDefEqProofs (maxSteps := 2000000) only [go_sem]) (callOk_still (by kernel_rfl) (by simp only [List.all_cons, List.all_nil, LV.still, LV.leaves, Leaf.still, ints_still, ris_still, eds_still, rels_still, iss_still, ems_still, Bool.and_self, Bool.and_true])) (by simp -implicitDefEqProofs (maxSteps := 2000000) only [go_sem]) ?_
  simp -implicitDefEqProofs (maxSteps := 2000000) only [go_sem]
  refine awp_loop Nat (fun k => mkSt [(2, .one (.vad 1000 0)), (5, .one (.ref 960 1 0 ((wits d q).take k).length)), (6, .one (.ref 961 2 0 (embs d q).length)), (7, .sc (.int .i64 k))] [(1000, sDb d)] [(960, (1, iss 999 ((wits d q).take k))), (961, (2, ems 999 (embs d q)))] 4000)
    (fun k => k ≤ (embs d q).length) (fun k => (embs d q).length - k) 0 (by omega) (le_st' _ _ [⟨960, some _, false, 1, _⟩, ⟨961, some _, false, 2, _⟩] [] _ (by simp -implicitDefEqProofs (maxSteps := 2000000) only [go_sem, List.take_zero, iss_nil, List.length_nil] <;> and_intros <;> rfl) (by simp -implicitDefEqProofs (maxSteps := 2000000) only [go_sem, List.take_zero, iss_nil, List.length_nil] <;> and_intros <;> rfl) (by simp -implicitDefEqProofs (maxSteps := 2000000) only [go_sem, List.take_zero, iss_nil, List.length_nil] <;> and_intros <;> rfl) (by rfl)) ?_
  rintro k h1
  have hwl : ((wits d q).take k).length ≤ 2744 := by
    have := wits_length d q
    rw [List.length_take]; omega
  by_cases c1 : k < (embs d q).length
  · have wk : IntKind.i64.wrap ((k : Int) + 1) = ((k + 1 : Nat) : Int) := i64_succ (by omega)
    have hm := mem_getD default c1
    have hfl := (embs_mem _ hm).2
    have hpr := witness_ok _ hm
    have hsl := sortI_len ((embs d q).getD k default).fs
    have hst := wits_take c1
    simp -implicitDefEqProofs (maxSteps := 2000000) only [go_sem, c1]
    refine call_of (l7Sorted_sat ((embs d q).getD k default).fs (by omega)) (by simp -implicitDefEqProofs (maxSteps := 2000000) only [go_sem, c1]) (callOk_still (by kernel_rfl) (by simp only [List.all_cons, List.all_nil, LV.still, LV.leaves, Leaf.still, ints_still, ris_still, eds_still, rels_still, iss_still, ems_still, Bool.and_self, Bool.and_true])) (by simp -implicitDefEqProofs (maxSteps := 2000000) only [go_sem, c1]) ?_
    simp -implicitDefEqProofs (maxSteps := 2000000) only [go_sem, c1]
    refine call_of (isPartialRepair_sat d (sortI ((embs d q).getD k default).fs) h (by omega) (selD_ok _ h (by omega)).fit) (by simp -implicitDefEqProofs (maxSteps := 2000000) only [go_sem, hpr]) (by kernel_rfl) (by simp -implicitDefEqProofs (maxSteps := 2000000) only [go_sem, hpr]) ?_
    simp -implicitDefEqProofs (maxSteps := 2000000) only [go_sem, hpr]
    rw [if_neg (by simp [flatB, Cell.flatB])]
    refine ⟨by omega, ?_⟩
    rw [wk]
    refine ⟨k + 1, c1, by omega, ?_⟩
    rw [hst]
    exact (le_st' _ _ [⟨960, some _, false, 1, _⟩, ⟨961, some _, false, 2, _⟩] [] _ (by simp -implicitDefEqProofs (maxSteps := 2000000) only [go_sem, repS, List.set_cons_zero, iss_one] <;> and_intros <;> rfl) (by simp -implicitDefEqProofs (maxSteps := 2000000) only [go_sem, repS, List.set_cons_zero, iss_one] <;> and_intros <;> rfl) (by simp -implicitDefEqProofs (maxSteps := 2000000) only [go_sem, repS, List.set_cons_zero, iss_one] <;> and_intros <;> rfl) (by rfl))
  · obtain rfl : k = (embs d q).length := by omega
    rw [List.take_of_length_le (by rw [wits_length]; omega)]
    simp -implicitDefEqProofs (maxSteps := 2000000) only [go_sem, c1]
    first | done | rfl | exact ⟨rfl, rfl⟩ | exact ⟨rfl, rfl, rfl⟩ | (refine tr_and ?_ ?_ <;> first | rfl | exact ⟨rfl, rfl⟩ | kernel_rfl)
/-- The embeddings of which the first k were sorted and moved away. -/
def gE (k : Nat) (l : List Emb) : Rows := (l.take k).map (fun e => [Cell.sl 999 (iv e.vs), .gone]) ++ ems 999 (l.drop k)
theorem gE_zero (l : List Emb) : gE 0 l = ems 999 l := by simp [gE]
theorem gE_length {k : Nat} {l : List Emb} (h : k ≤ l.length) : (gE k l).length = l.length := by simp [gE, ems_length]; omega
theorem gE_stm (k : Nat) (l : List Emb) : stm 999 (gE k l) = gE k l := by
  unfold gE
  rw [stm_append, ems_stm 999 998]
  congr 1
  unfold stm
  rw [List.map_map]
  exact List.map_congr_left fun _ _ => rfl
theorem gE_get {k : Nat} {l : List Emb} (h : k < l.length) : (gE k l).getD k [] = [.sl 999 (iv (l.getD k default).vs), .sl 999 (iv (l.getD k default).fs)] := by
  unfold gE
  rw [List.getD_eq_getElem?_getD, List.getElem?_append_right (by simp; omega)]
  simp only [List.length_map, List.length_take, Nat.min_eq_left (Nat.le_of_lt h), Nat.sub_self]
  rw [← List.getD_eq_getElem?_getD, ems_get (by simp; omega)]
  simp [List.getD_eq_getElem?_getD]
theorem gE_move {k : Nat} {l : List Emb} (h : k < l.length) (x : List Int) : Rows.setCell (Rows.setCell (gE k l) k 1 (.sl 999 (iv x))) k 1 .gone = gE (k + 1) l := by
  have h1 : Rows.setCell (gE k l) k 1 (.sl 999 (iv x)) = (gE k l).set k [.sl 999 (iv (l.getD k default).vs), .sl 999 (iv x)] := by unfold Rows.setCell; rw [gE_get h]; rfl
  have hl := gE_length (Nat.le_of_lt h)
  rw [h1]
  unfold Rows.setCell
  rw [getD_set_same (by omega), List.set_set]
  unfold gE
  have hk : ((l.take k).map fun e => [Cell.sl 999 (iv e.vs), Cell.gone]).length = k := by rw [List.length_map, List.length_take]; omega
  rw [List.set_append_right _ _ (by omega), hk, Nat.sub_self, drop_cons default h, take_snoc default h, List.map_append, List.append_assoc]
  rfl
theorem gE_set {k : Nat} {l : List Emb} (h : k < l.length) (x : List Int) : (Rows.setCell (gE k l) k 1 (.sl 999 (iv x))).getD k [] = [.sl 999 (iv (l.getD k default).vs), .sl 999 (iv x)] := by
  have h1 : Rows.setCell (gE k l) k 1 (.sl 999 (iv x)) = (gE k l).set k [.sl 999 (iv (l.getD k default).vs), .sl 999 (iv x)] := by unfold Rows.setCell; rw [gE_get h]; rfl
  rw [h1, getD_set_same (by rw [gE_length (Nat.le_of_lt h)]; omega)]
theorem implWitnesses_sat (d : Db) (q : Qu) (h : d.fit) (hq : q.ok) : Sat Tryz.prog 52 [lDb d, lQu q] [oISS (wits d q)] [g2, g3] := by
  refine sat_of_body mixed Tryz.func52 rfl (by kernel_rfl) (by kernel_rfl) (rs := [.tmp 4]) rfl rfl rfl ?_
  have hl := embs_len d q
  simp -implicitDefEqProofs (maxSteps := 2000000) only [go_sem]
  refine call_of (implFindEmbeddings_sat d q h hq) (by simp -implicitDefEqProofs (maxSteps := 2000000) only [go_sem]) (callOk_still (by kernel_rfl) (by simp only [List.all_cons, List.all_nil, LV.still, LV.leaves, Leaf.still, ints_still, ris_still, eds_still, rels_still, iss_still, ems_still, Bool.and_self, Bool.and_true])) (by simp -implicitDefEqProofs (maxSteps := 2000000) only [go_sem]) ?_
  simp -implicitDefEqProofs (maxSteps := 2000000) only [go_sem]
  refine awp_loop Nat (fun k => mkSt [(5, .one (.ref 960 1 0 ((wits d q).take k).length)), (11, .one (.ref 961 2 0 (embs d q).length)), (12, .sc (.int .i64 (embs d q).length)), (13, .sc (.int .i64 k))] [] [(960, (1, iss 999 ((wits d q).take k))), (961, (2, gE k (embs d q)))] 4000)
    (fun k => k ≤ (embs d q).length) (fun k => (embs d q).length - k) 0 (by omega) (le_st' _ _ [⟨960, some _, false, 1, _⟩, ⟨961, some _, false, 2, _⟩] [] _ (by simp -implicitDefEqProofs (maxSteps := 2000000) only [go_sem, List.take_zero, iss_nil, List.length_nil, gE_zero] <;> and_intros <;> rfl) (by simp -implicitDefEqProofs (maxSteps := 2000000) only [go_sem, List.take_zero, iss_nil, List.length_nil, gE_zero] <;> and_intros <;> rfl) (by simp -implicitDefEqProofs (maxSteps := 2000000) only [go_sem, List.take_zero, iss_nil, List.length_nil, gE_zero] <;> and_intros <;> rfl) (by rfl)) ?_
  rintro k h1
  have hwl : ((wits d q).take k).length ≤ 2744 := by
    have := wits_length d q
    rw [List.length_take]; omega
  by_cases c1 : k < (embs d q).length
  · have wk : IntKind.i64.wrap ((k : Int) + 1) = ((k + 1 : Nat) : Int) := i64_succ (by omega)
    have hm := mem_getD default c1
    have hfl := (embs_mem _ hm).2
    have hst := wits_take c1
    have hg := gE_get c1
    have hgl := gE_length (Nat.le_of_lt c1)
    have hmv := gE_move c1 (sortI ((embs d q).getD k default).fs)
    simp -implicitDefEqProofs (maxSteps := 2000000) only [go_sem, c1, hg, hgl]
    have s0 : solidRin (some (2, gE k (embs d q))) k 0 999 := by rw [solidRin_sl (s' := 999) (xs := iv ((embs d q).getD k default).vs) (by rw [hg]; rfl)]
    have s1 : solidRin (some (2, gE k (embs d q))) k 1 999 := by rw [solidRin_sl (s' := 999) (xs := iv ((embs d q).getD k default).fs) (by rw [hg]; rfl)]
    refine ⟨⟨s0, s1⟩, ?_⟩
    refine call_of (slicesSort_sat ((embs d q).getD k default).fs (by omega)) (by simp -implicitDefEqProofs (maxSteps := 2000000) only [go_sem, hg, hgl, c1]) (callOk_still (by kernel_rfl) (by simp only [List.all_cons, List.all_nil, LV.still, LV.leaves, Leaf.still, ints_still, ris_still, eds_still, rels_still, iss_still, ems_still, Bool.and_self, Bool.and_true])) (by simp -implicitDefEqProofs (maxSteps := 2000000) only [go_sem, hg, hgl, c1]) ?_
    simp -implicitDefEqProofs (maxSteps := 2000000) only [go_sem, hg, hgl, c1]
    have hg2 := gE_set c1 (((embs d q).getD k default).fs.mergeSort)
    have s2 : solidRin (some (2, Rows.setCell (gE k (embs d q)) k 1 (.sl 999 (iv (((embs d q).getD k default).fs.mergeSort))))) k 0 999 := by rw [solidRin_sl (s' := 999) (xs := iv ((embs d q).getD k default).vs) (by rw [hg2]; rfl)]
    have s3 : solidRin (some (2, Rows.setCell (gE k (embs d q)) k 1 (.sl 999 (iv (((embs d q).getD k default).fs.mergeSort))))) k 1 999 := by rw [solidRin_sl (s' := 999) (xs := iv (((embs d q).getD k default).fs.mergeSort)) (by rw [hg2]; rfl)]
    refine ⟨s3, ?_⟩
    have hmv' : ((Rows.setCell (gE k (embs d q)) k 1 (.sl 999 (iv (((embs d q).getD k default).fs.mergeSort)))).setCell k 1 .gone) = gE (k + 1) (embs d q) := gE_move c1 _
    simp -implicitDefEqProofs (maxSteps := 2000000) only [go_sem, hg2, hmv', List.length_mergeSort]
    rw [if_neg (by simp [flatB, Cell.flatB])]
    refine ⟨by omega, ?_⟩
    rw [wk]
    refine ⟨k + 1, c1, by omega, ?_⟩
    rw [hst]
    exact (le_st' _ _ [⟨960, some _, false, 1, _⟩, ⟨961, some _, false, 2, _⟩] [] _ (by simp -implicitDefEqProofs (maxSteps := 2000000) only [go_sem, repS, List.set_cons_zero, iss_one, hg2, hmv', gE_stm, hgl, sortI] <;> and_intros <;> rfl) (by simp -implicitDefEqProofs (maxSteps := 2000000) only [go_sem, repS, List.set_cons_zero, iss_one, hg2, hmv', gE_stm, hgl, sortI] <;> and_intros <;> rfl) (by simp -implicitDefEqProofs (maxSteps := 2000000) only [go_sem, repS, List.set_cons_zero, iss_one, hg2, hmv', gE_stm, hgl, sortI] <;> and_intros <;> rfl) (by rfl))
  · obtain rfl : k = (embs d q).length := by omega
    rw [List.take_of_length_le (by rw [wits_length]; omega)]
    simp -implicitDefEqProofs (maxSteps := 2000000) only [go_sem, c1]
    first | done | rfl | exact ⟨rfl, rfl⟩ | exact ⟨rfl, rfl, rfl⟩ | (refine tr_and ?_ ?_ <;> first | rfl | exact ⟨rfl, rfl⟩ | kernel_rfl)
end Go.Proofs.YtbalifgacjmbpacGreat.A


/- CLOSURES: the two programs. Conditions: none. -/
namespace Go.Proofs.YtbalifgacjmbpacGreat.A
open Go
set_option linter.unusedSimpArgs false
set_option linter.unusedVariables false
set_option maxRecDepth 100000

/-! #### a predicate of numbers, asked of all numbers of a list -/
theorem intsIndex_sat (f : FuncId) (c : List Fld) (p : Int → Bool) (l : List Int) (h : l.length ≤ 9223372036854775807) (hf : ∀ x, Sat Tryz.prog f [lInt x, .one (.ip c)] [lBool (!p x)] [g1, g1]) :
    Sat Tryz.prog 104 [lInts l, .one (.fn f [c])] [lInt (firstNo (fun i => p (l.getD i 0)) l.length 0)] [g1, g1] := by
  refine sat_of_body mixed Tryz.func104 rfl (by kernel_rfl) (by kernel_rfl) (rs := [.tmp 4]) rfl rfl rfl ?_
  generalize hp : (fun i => p (l.getD i 0)) = p'
  have hp' : ∀ i, p' i = p (l.getD i 0) := fun i => by rw [← hp]
  simp -implicitDefEqProofs (maxSteps := 2000000) only [go_sem]
  refine awp_loop Nat (fun k => mkSt [(0, .one (.im 1 (ints l))), (1, .one (.fni f [c])), (7, .sc (.int .i64 l.length)), (8, .sc (.int .i64 k))] [] [] 1000)
    (fun k => k ≤ l.length ∧ firstNo p' (l.length - k) k = firstNo p' l.length 0) (fun k => l.length - k) 0 ⟨by omega, rfl⟩ (le_st _ _ [] [] _ rfl (by simp -implicitDefEqProofs (maxSteps := 2000000) only [go_sem] <;> rfl) trivial trivial) ?_
  rintro k ⟨h1, h2⟩
  by_cases c1 : k < l.length
  · rw [show l.length - k = (l.length - (k + 1)) + 1 by omega, firstNo, hp'] at h2
    rcases d : p (l.getD k 0)
    · rw [if_neg (by rw [d]; simp)] at h2
      simp -implicitDefEqProofs (maxSteps := 2000000) only [go_sem, c1]
      refine call_of (hf (l.getD k 0)) (by simp -implicitDefEqProofs (maxSteps := 2000000) only [go_sem, d, c1]) (by kernel_rfl) (by simp -implicitDefEqProofs (maxSteps := 2000000) only [go_sem, d, c1]) ?_
      simp -implicitDefEqProofs (maxSteps := 2000000) only [go_sem, d, c1]
      rw [← h2]
    · rw [if_pos d] at h2
      simp -implicitDefEqProofs (maxSteps := 2000000) only [go_sem, c1]
      refine call_of (hf (l.getD k 0)) (by simp -implicitDefEqProofs (maxSteps := 2000000) only [go_sem, d, c1]) (by kernel_rfl) (by simp -implicitDefEqProofs (maxSteps := 2000000) only [go_sem, d, c1]) ?_
      simp -implicitDefEqProofs (maxSteps := 2000000) only [go_sem, d, c1]
      rw [i64_succ (by omega)]
      exact ⟨k + 1, ⟨c1, h2⟩, by omega, (le_st _ _ [] [] _ rfl (by simp -implicitDefEqProofs (maxSteps := 2000000) only [go_sem] <;> rfl) trivial trivial)⟩
  · obtain rfl : k = l.length := by omega
    rw [Nat.sub_self, firstNo] at h2
    simp -implicitDefEqProofs (maxSteps := 2000000) only [go_sem, c1]
    rw [← h2]
theorem intsContains_sat (f : FuncId) (c : List Fld) (p : Int → Bool) (l : List Int) (h : l.length ≤ 9223372036854775807) (hf : ∀ x, Sat Tryz.prog f [lInt x, .one (.ip c)] [lBool (!p x)] [g1, g1]) :
    Sat Tryz.prog 77 [lInts l, .one (.fn f [c])] [lBool (!upTo (fun i => p (l.getD i 0)) l.length)] [g1, g1] := by
  refine sat_of_body mixed Tryz.func77 rfl (by kernel_rfl) (by kernel_rfl) (rs := [.tmp 4]) rfl rfl rfl ?_
  simp -implicitDefEqProofs (maxSteps := 2000000) only [go_sem]
  refine call_of (intsIndex_sat f c p l h hf) (by simp -implicitDefEqProofs (maxSteps := 2000000) only [go_sem]) (by kernel_rfl) (by simp -implicitDefEqProofs (maxSteps := 2000000) only [go_sem]) ?_
  simp -implicitDefEqProofs (maxSteps := 2000000) only [go_sem]
  rw [firstNo_ge _ _ _ rfl, Nat.zero_add]
theorem isSubset1_sat (b : List Int) (h : b.length ≤ 9223372036854775807) (x : Int) : Sat Tryz.prog 78 [lInt x, .one (.ip [.im 1 (ints b)])] [lBool (!decide (x ∈ b))] [g1, g1] := by
  refine sat_of_body mixed Tryz.func78 rfl (by kernel_rfl) (by kernel_rfl) (rs := [.tmp 3]) rfl rfl rfl ?_
  simp -implicitDefEqProofs (maxSteps := 2000000) only [go_sem]
  refine call_of (slicesContains_sat b x h) (by simp -implicitDefEqProofs (maxSteps := 2000000) only [go_sem]) (by kernel_rfl) (by simp -implicitDefEqProofs (maxSteps := 2000000) only [go_sem]) ?_
  simp -implicitDefEqProofs (maxSteps := 2000000) only [go_sem]
theorem isSubset_sat (a b : List Int) (ha : a.length ≤ 9223372036854775807) (hb : b.length ≤ 9223372036854775807) : Sat Tryz.prog 58 [lInts a, lInts b] [lBool (subs a b)] [g1, g1] := by
  refine sat_of_body mixed Tryz.func58 rfl (by kernel_rfl) (by kernel_rfl) (rs := [.tmp 4]) rfl rfl rfl ?_
  simp -implicitDefEqProofs (maxSteps := 2000000) only [go_sem]
  refine call_of (intsContains_sat 78 [.im 1 (ints b)] (fun x => decide (x ∈ b)) a ha (isSubset1_sat b hb)) (by simp -implicitDefEqProofs (maxSteps := 2000000) only [go_sem]) (by kernel_rfl) (by simp -implicitDefEqProofs (maxSteps := 2000000) only [go_sem]) ?_
  simp -implicitDefEqProofs (maxSteps := 2000000) only [go_sem]
  rw [Bool.not_not]
  rfl
theorem both_uni {c v : List Int} (h : Small c) : selN (fun x => decide (x ∈ c) || decide (x ∈ varsOf v)) 4 = uni c (varsOf v) := by
  refine strict_eq (selN_strict _ _) (uni_strict _ _) fun x => ?_
  rw [selN_mem, uni_mem]
  simp only [Bool.or_eq_true, decide_eq_true_eq]
  refine ⟨fun h => h.2.2, fun k => ⟨?_, ?_, k⟩⟩
  · exact k.elim (fun k => (h.small x k).1) (fun k => (varsOf_small v x k).1)
  · exact k.elim (fun k => (h.small x k).2) (fun k => (varsOf_small v x k).2)

/-! #### the closure -/
def closS (l : List Rel) (ats : List RI) (skip : Int) (k : Nat) (c : List Int) (same : Bool) (L : List Int) : St := match same with
  | true => mkSt [(0, .one (.im 3 (rels l))), (1, .one (.im 2 (ris 0 ats))), (2, .sc (.int .i64 skip)), (9, .one (.ref 960 1 0 c.length)), (10, .one (.ref 960 1 0 c.length)), (16, .one (.im 2 (ris 0 ats))), (17, .sc (.int .i64 ats.length)), (18, .sc (.int .i64 k))] [] [(960, (1, ints c))] 8000
  | false => mkSt [(0, .one (.im 3 (rels l))), (1, .one (.im 2 (ris 0 ats))), (2, .sc (.int .i64 skip)), (9, .one (.ref 960 1 0 c.length)), (10, .one (.ref 961 1 0 L.length)), (16, .one (.im 2 (ris 0 ats))), (17, .sc (.int .i64 ats.length)), (18, .sc (.int .i64 k))] [] [(960, (1, ints c)), (961, (1, ints L))] 8000
/-- What a closure comes to. -/
def clos (l : List Rel) (ats : List RI) (skip : Int) (c : List Int) : List Int := iter l ats skip ats.length c ats.length
end Go.Proofs.YtbalifgacjmbpacGreat.A


/- REPAIRS THAT A QUERY HOLDS IN: how many, the first; the program's walk. Conditions: none. -/
namespace Go.Proofs.YtbalifgacjmbpacGreat.A
open Go
set_option linter.unusedSimpArgs false
set_option linter.unusedVariables false
set_option maxRecDepth 100000

/-- Is some list within another. -/
def metU (ws : List (List Int)) (r : List Int) (i : Nat) : Bool := !subs (ws.getD i []) r
def met (ws : List (List Int)) (r : List Int) : Bool := !upTo (metU ws r) ws.length
/-- The repair of this rank. -/
def repD (d : Db) (k : Nat) : List Int := (pickR (blocksOf d) k).1
def holdP (d : Db) (q : Qu) (want : Bool) (k : Nat) : Bool := met (wits d q) (repD d k) == want
/-- How many of the first ones, and the first of them. -/
def cntP (P : Nat → Bool) : Nat → Nat
  | 0 => 0
  | k + 1 => if P k then cntP P k + 1 else cntP P k
def fstP (P : Nat → Bool) (f : Nat → List Int) : Nat → List Int
  | 0 => []
  | k + 1 => if P k && decide (cntP P k = 0) then f k else fstP P f k
theorem cntP_le (P : Nat → Bool) : ∀ k, cntP P k ≤ k
  | 0 => Nat.le_refl _
  | k + 1 => by
    have := cntP_le P k
    rw [cntP]; split <;> omega
theorem cntP_no {P : Nat → Bool} {k : Nat} (h : P k = false) : cntP P (k + 1) = cntP P k := by rw [cntP, h]; rfl
theorem cntP_yes {P : Nat → Bool} {k : Nat} (h : P k = true) : cntP P (k + 1) = cntP P k + 1 := by rw [cntP, h]; rfl
theorem fstP_no {P : Nat → Bool} {f : Nat → List Int} {k : Nat} (h : P k = false) : fstP P f (k + 1) = fstP P f k := by rw [fstP, h]; rfl
theorem fstP_new {P : Nat → Bool} {f : Nat → List Int} {k : Nat} (h : P k = true) (h0 : cntP P k = 0) : fstP P f (k + 1) = f k := by rw [fstP, h, h0]; rfl
theorem fstP_old {P : Nat → Bool} {f : Nat → List Int} {k : Nat} (h0 : ¬ cntP P k = 0) : fstP P f (k + 1) = fstP P f k := by rw [fstP, decide_eq_false h0, Bool.and_false]; rfl
theorem cntP_mono {P : Nat → Bool} {k : Nat} : ∀ {n : Nat}, k ≤ n → cntP P k ≤ cntP P n
  | 0, h => by rw [show k = 0 by omega]; exact Nat.le_refl _
  | n + 1, h => by
    rcases Nat.lt_or_ge k (n + 1) with h1 | h1
    · have h2 := cntP_mono (P := P) (show k ≤ n by omega)
      rw [cntP]; split <;> omega
    · rw [show k = n + 1 by omega]; exact Nat.le_refl _
/-- The first one is found. -/
theorem fstP_at {P : Nat → Bool} {f : Nat → List Int} {k : Nat} (h : P k = true) (h0 : cntP P k = 0) : ∀ {n : Nat}, k < n → fstP P f n = f k ∧ 0 < cntP P n
  | 0, h => by omega
  | n + 1, hn => by
    by_cases e : k = n
    · subst e
      exact ⟨fstP_new h h0, by rw [cntP_yes h]; omega⟩
    · obtain ⟨h1, h2⟩ := fstP_at (f := f) h h0 (show k < n by omega)
      refine ⟨?_, Nat.lt_of_lt_of_le h2 (cntP_mono (by omega))⟩
      rw [fstP_old (by omega), h1]
def hldC (d : Db) (q : Qu) (want : Bool) : Nat := if queryFor d q then cntP (holdP d q want) (prodL (blocksOf d)) else 0
def hldF (d : Db) (q : Qu) (want : Bool) : List Int := if queryFor d q then fstP (holdP d q want) (repD d) (prodL (blocksOf d)) else []
theorem repD_len (d : Db) (k : Nat) : (repD d k).length = (blocksOf d).length := pickR_len _ _
theorem fstP_len {P : Nat → Bool} {f : Nat → List Int} {m : Nat} (h : ∀ k, (f k).length ≤ m) : ∀ n, (fstP P f n).length ≤ m
  | 0 => by simp [fstP]
  | n + 1 => by rw [fstP]; split <;> first | exact h n | exact fstP_len h n

/-! #### the program -/
theorem issIndex_sat (f : FuncId) (c : List Fld) (p : List Int → Bool) (l : List (List Int)) (h : l.length ≤ 9223372036854775807) (hf : ∀ x ∈ l, Sat Tryz.prog f [lInts x, .one (.ip c)] [lBool (!p x)] [g1, g1]) :
    Sat Tryz.prog 76 [lISS l, .one (.fn f [c])] [lInt (firstNo (fun i => p (l.getD i [])) l.length 0)] [g1, g1] := by
  refine sat_of_body mixed Tryz.func76 rfl (by kernel_rfl) (by kernel_rfl) (rs := [.tmp 4]) rfl rfl rfl ?_
  generalize hp : (fun i => p (l.getD i [])) = p'
  have hp' : ∀ i, p' i = p (l.getD i []) := fun i => by rw [← hp]
  simp -implicitDefEqProofs (maxSteps := 2000000) only [go_sem]
  refine awp_loop Nat (fun k => mkSt [(0, .one (.im 1 (iss 0 l))), (1, .one (.fni f [c])), (7, .sc (.int .i64 l.length)), (8, .sc (.int .i64 k))] [] [] 1000)
    (fun k => k ≤ l.length ∧ firstNo p' (l.length - k) k = firstNo p' l.length 0) (fun k => l.length - k) 0 ⟨by omega, rfl⟩ (le_st _ _ [] [] _ rfl (by simp -implicitDefEqProofs (maxSteps := 2000000) only [go_sem] <;> rfl) trivial trivial) ?_
  rintro k ⟨h1, h2⟩
  by_cases c1 : k < l.length
  · rw [show l.length - k = (l.length - (k + 1)) + 1 by omega, firstNo, hp'] at h2
    rcases d : p (l.getD k [])
    · rw [if_neg (by rw [d]; simp)] at h2
      simp -implicitDefEqProofs (maxSteps := 2000000) only [go_sem, c1]
      refine call_of (hf (l.getD k []) (mem_getD [] c1)) (by simp -implicitDefEqProofs (maxSteps := 2000000) only [go_sem, d, c1]) (by kernel_rfl) (by simp -implicitDefEqProofs (maxSteps := 2000000) only [go_sem, d, c1]) ?_
      simp -implicitDefEqProofs (maxSteps := 2000000) only [go_sem, d, c1]
      rw [← h2]
    · rw [if_pos d] at h2
      simp -implicitDefEqProofs (maxSteps := 2000000) only [go_sem, c1]
      refine call_of (hf (l.getD k []) (mem_getD [] c1)) (by simp -implicitDefEqProofs (maxSteps := 2000000) only [go_sem, d, c1]) (by kernel_rfl) (by simp -implicitDefEqProofs (maxSteps := 2000000) only [go_sem, d, c1]) ?_
      simp -implicitDefEqProofs (maxSteps := 2000000) only [go_sem, d, c1]
      rw [i64_succ (by omega)]
      exact ⟨k + 1, ⟨c1, h2⟩, by omega, (le_st _ _ [] [] _ rfl (by simp -implicitDefEqProofs (maxSteps := 2000000) only [go_sem] <;> rfl) trivial trivial)⟩
  · obtain rfl : k = l.length := by omega
    rw [Nat.sub_self, firstNo] at h2
    simp -implicitDefEqProofs (maxSteps := 2000000) only [go_sem, c1]
    rw [← h2]
theorem issContains_sat (f : FuncId) (c : List Fld) (p : List Int → Bool) (l : List (List Int)) (h : l.length ≤ 9223372036854775807) (hf : ∀ x ∈ l, Sat Tryz.prog f [lInts x, .one (.ip c)] [lBool (!p x)] [g1, g1]) :
    Sat Tryz.prog 56 [lISS l, .one (.fn f [c])] [lBool (!upTo (fun i => p (l.getD i [])) l.length)] [g1, g1] := by
  refine sat_of_body mixed Tryz.func56 rfl (by kernel_rfl) (by kernel_rfl) (rs := [.tmp 4]) rfl rfl rfl ?_
  simp -implicitDefEqProofs (maxSteps := 2000000) only [go_sem]
  refine call_of (issIndex_sat f c p l h hf) (by simp -implicitDefEqProofs (maxSteps := 2000000) only [go_sem]) (by kernel_rfl) (by simp -implicitDefEqProofs (maxSteps := 2000000) only [go_sem]) ?_
  simp -implicitDefEqProofs (maxSteps := 2000000) only [go_sem]
  rw [firstNo_ge _ _ _ rfl, Nat.zero_add]
theorem holding1_sat (r w : List Int) (h : r.length ≤ 9223372036854775807) (hw : w.length ≤ 9223372036854775807) : Sat Tryz.prog 57 [lInts w, .one (.ip [.im 1 (ints r)])] [lBool (!!subs w r)] [g1, g1] := by
  refine sat_of_body mixed Tryz.func57 rfl (by kernel_rfl) (by kernel_rfl) (rs := [.tmp 3]) rfl rfl rfl ?_
  simp -implicitDefEqProofs (maxSteps := 2000000) only [go_sem]
  refine call_of (isSubset_sat w r hw h) (by simp -implicitDefEqProofs (maxSteps := 2000000) only [go_sem]) (by kernel_rfl) (by simp -implicitDefEqProofs (maxSteps := 2000000) only [go_sem]) ?_
  simp -implicitDefEqProofs (maxSteps := 2000000) only [go_sem]
  rw [Bool.not_not]
theorem holdingC_sat (ws : List (List Int)) (r : List Int) (h : r.length ≤ 9223372036854775807) (hl : ws.length ≤ 9223372036854775807) (hw : ∀ w ∈ ws, w.length ≤ 9223372036854775807) :
    Sat Tryz.prog 56 [lISS ws, .one (.fn 57 [[.im 1 (ints r)]])] [lBool (met ws r)] [g1, g1] :=
  issContains_sat 57 [.im 1 (ints r)] (fun w => !subs w r) ws hl (fun w hm => holding1_sat r w h (hw w hm))
theorem holding_sat (d : Db) (q : Qu) (want : Bool) (h : d.fit) (hq : q.ok) : Sat Tryz.prog 35 [lDb d, lQu q, lBool want] [oInts (hldF d q want), lInt (hldC d q want), lBool (queryFor d q)] [g2, g3, g1] := by
  refine sat_of_body mixed Tryz.func35 rfl (by kernel_rfl) (by kernel_rfl) (rs := [.tmp 6, .tmp 7, .tmp 8]) rfl rfl rfl ?_
  unfold hldF hldC
  rcases g : queryFor d q
  · rw [if_neg (by simp), if_neg (by simp)]
    simp -implicitDefEqProofs (maxSteps := 2000000) only [go_sem]
    refine call_of (implIsQueryFor_sat d q h hq) (by simp -implicitDefEqProofs (maxSteps := 2000000) only [go_sem, g]) (by kernel_rfl) (by simp -implicitDefEqProofs (maxSteps := 2000000) only [go_sem, g]) ?_
    simp -implicitDefEqProofs (maxSteps := 2000000) only [go_sem, g]
    first | done | rfl | exact ⟨rfl, rfl⟩ | exact ⟨rfl, rfl, rfl⟩ | (refine tr_and ?_ ?_ <;> first | rfl | exact ⟨rfl, rfl⟩ | kernel_rfl)
  rw [if_pos rfl, if_pos rfl]
  have gd := queryFor_db g
  have hl := wits_len d q
  obtain ⟨hb1, hb2⟩ := blocksOf_len gd
  have hp := (blocksOf_prod gd).2
  simp -implicitDefEqProofs (maxSteps := 2000000) only [go_sem]
  refine call_of (implIsQueryFor_sat d q h hq) (by simp -implicitDefEqProofs (maxSteps := 2000000) only [go_sem, g]) (by kernel_rfl) (by simp -implicitDefEqProofs (maxSteps := 2000000) only [go_sem, g]) ?_
  simp -implicitDefEqProofs (maxSteps := 2000000) only [go_sem, g]
  refine call_of (implWitnesses_sat d q h hq) (by simp -implicitDefEqProofs (maxSteps := 2000000) only [go_sem]) (callOk_still (by kernel_rfl) (by simp only [List.all_cons, List.all_nil, LV.still, LV.leaves, Leaf.still, ints_still, ris_still, eds_still, rels_still, iss_still, ems_still, Bool.and_self, Bool.and_true])) (by simp -implicitDefEqProofs (maxSteps := 2000000) only [go_sem]) ?_
  simp -implicitDefEqProofs (maxSteps := 2000000) only [go_sem]
  refine call_of (implBlocks_sat d h gd) (by simp -implicitDefEqProofs (maxSteps := 2000000) only [go_sem]) (callOk_still (by kernel_rfl) (by simp only [List.all_cons, List.all_nil, LV.still, LV.leaves, Leaf.still, ints_still, ris_still, eds_still, rels_still, iss_still, ems_still, Bool.and_self, Bool.and_true])) (by simp -implicitDefEqProofs (maxSteps := 2000000) only [go_sem]) ?_
  simp -implicitDefEqProofs (maxSteps := 2000000) only [go_sem]
  first | (with_reducible refine tr_and ?_ ?_; focus kernel_rfl) | (with_reducible refine tr_only ?_; kernel_rfl) | skip
  refine call_of (implCountRepairs_sat (blocksOf d) (by omega) (fun b hb => (hb2 b hb).1) (by omega)) (by simp -implicitDefEqProofs (maxSteps := 2000000) only [go_sem]) (by kernel_rfl) (by simp -implicitDefEqProofs (maxSteps := 2000000) only [go_sem]) ?_
  simp -implicitDefEqProofs (maxSteps := 2000000) only [go_sem]
  refine awp_loop Nat (fun k => mkSt [(2, .sc (.bool want)), (9, .one (.ref 960 1 0 (wits d q).length)), (10, .one (.ref 961 1 0 (blocksOf d).length)), (11, .one (.ref 962 1 0 (fstP (holdP d q want) (repD d) k).length)), (12, .sc (.int .i64 (cntP (holdP d q want) k))), (25, .sc (.int .i64 (prodL (blocksOf d)))), (26, .sc (.int .i64 k))] [] [(960, (1, iss 999 (wits d q))), (961, (1, iss 999 (blocksOf d))), (962, (1, ints (fstP (holdP d q want) (repD d) k)))] 8000)
    (fun k => k ≤ prodL (blocksOf d)) (fun k => prodL (blocksOf d) - k) 0 (by omega) (le_st' _ _ [⟨960, some _, false, 1, _⟩, ⟨961, some _, false, 1, _⟩, ⟨962, none, false, 1, _⟩] [] _ (by simp -implicitDefEqProofs (maxSteps := 2000000) only [go_sem, fstP, cntP, List.length_nil] <;> and_intros <;> rfl) (by simp -implicitDefEqProofs (maxSteps := 2000000) only [go_sem, fstP, cntP, List.length_nil] <;> and_intros <;> rfl) (by simp -implicitDefEqProofs (maxSteps := 2000000) only [go_sem, fstP, cntP, List.length_nil] <;> and_intros <;> rfl) (by rfl)) ?_
  rintro k h1
  have hcl := cntP_le (holdP d q want) k
  by_cases c1 : k < prodL (blocksOf d)
  · have wk : IntKind.i64.wrap ((k : Int) + 1) = ((k + 1 : Nat) : Int) := i64_succ (by omega)
    have wc : IntKind.i64.wrap ((cntP (holdP d q want) k : Int) + 1) = ((cntP (holdP d q want) k + 1 : Nat) : Int) := i64_succ (by omega)
    have hrl := repD_len d k
    have hr : (pickR (blocksOf d) k).1 = repD d k := rfl
    rcases hP : holdP d q want k
    · have hm : (met (wits d q) (repD d k) == want) = false := hP
      simp -implicitDefEqProofs (maxSteps := 2000000) only [go_sem, c1]
      refine call_of (implNthRepair_sat (blocksOf d) k hb1 hb2 (by omega)) (by simp -implicitDefEqProofs (maxSteps := 2000000) only [go_sem, c1]) (callOk_still (by kernel_rfl) (by simp only [List.all_cons, List.all_nil, LV.still, LV.leaves, Leaf.still, ints_still, ris_still, eds_still, rels_still, iss_still, ems_still, Bool.and_self, Bool.and_true])) (by simp -implicitDefEqProofs (maxSteps := 2000000) only [go_sem, c1]) ?_
      simp -implicitDefEqProofs (maxSteps := 2000000) only [go_sem, c1]
      rw [hr]
      refine call_of (holdingC_sat (wits d q) (repD d k) (by omega) (by omega) (fun w hw => by have := wits_mem w hw; omega)) (by simp -implicitDefEqProofs (maxSteps := 2000000) only [go_sem, hm]) (by kernel_rfl) (by simp -implicitDefEqProofs (maxSteps := 2000000) only [go_sem, hm]) ?_
      simp -implicitDefEqProofs (maxSteps := 2000000) only [go_sem, hm]
      rw [wk]
      exact ⟨k + 1, c1, by omega, (le_st' _ _ [⟨960, some _, false, 1, _⟩, ⟨961, some _, false, 1, _⟩, ⟨962, some _, false, 1, _⟩] [] _ (by simp -implicitDefEqProofs (maxSteps := 2000000) only [go_sem, cntP_no hP, fstP_no hP] <;> and_intros <;> rfl) (by simp -implicitDefEqProofs (maxSteps := 2000000) only [go_sem, cntP_no hP, fstP_no hP] <;> and_intros <;> rfl) (by simp -implicitDefEqProofs (maxSteps := 2000000) only [go_sem, cntP_no hP, fstP_no hP] <;> and_intros <;> rfl) (by rfl))⟩
    · have hm : (met (wits d q) (repD d k) == want) = true := hP
      by_cases c2 : cntP (holdP d q want) k = 0
      · have cz : (((cntP (holdP d q want) k : Nat) : Int) == 0) = true := by rw [beq_iff_eq]; omega
        simp -implicitDefEqProofs (maxSteps := 2000000) only [go_sem, c1]
        refine call_of (implNthRepair_sat (blocksOf d) k hb1 hb2 (by omega)) (by simp -implicitDefEqProofs (maxSteps := 2000000) only [go_sem, c1]) (callOk_still (by kernel_rfl) (by simp only [List.all_cons, List.all_nil, LV.still, LV.leaves, Leaf.still, ints_still, ris_still, eds_still, rels_still, iss_still, ems_still, Bool.and_self, Bool.and_true])) (by simp -implicitDefEqProofs (maxSteps := 2000000) only [go_sem, c1]) ?_
        simp -implicitDefEqProofs (maxSteps := 2000000) only [go_sem, c1]
        rw [hr]
        refine call_of (holdingC_sat (wits d q) (repD d k) (by omega) (by omega) (fun w hw => by have := wits_mem w hw; omega)) (by simp -implicitDefEqProofs (maxSteps := 2000000) only [go_sem, hm, cz]) (by kernel_rfl) (by simp -implicitDefEqProofs (maxSteps := 2000000) only [go_sem, hm, cz]) ?_
        simp -implicitDefEqProofs (maxSteps := 2000000) only [go_sem, hm, cz]
        rw [wk, wc]
        exact ⟨k + 1, c1, by omega, (le_st' _ _ [⟨960, some _, false, 1, _⟩, ⟨961, some _, false, 1, _⟩, ⟨962, some _, false, 1, _⟩] [] _ (by simp -implicitDefEqProofs (maxSteps := 2000000) only [go_sem, cntP_yes hP, fstP_new hP c2] <;> and_intros <;> rfl) (by simp -implicitDefEqProofs (maxSteps := 2000000) only [go_sem, cntP_yes hP, fstP_new hP c2] <;> and_intros <;> rfl) (by simp -implicitDefEqProofs (maxSteps := 2000000) only [go_sem, cntP_yes hP, fstP_new hP c2] <;> and_intros <;> rfl) (by rfl))⟩
      · have cz : (((cntP (holdP d q want) k : Nat) : Int) == 0) = false := by rw [beq_eq_false_iff_ne]; omega
        simp -implicitDefEqProofs (maxSteps := 2000000) only [go_sem, c1]
        refine call_of (implNthRepair_sat (blocksOf d) k hb1 hb2 (by omega)) (by simp -implicitDefEqProofs (maxSteps := 2000000) only [go_sem, c1]) (callOk_still (by kernel_rfl) (by simp only [List.all_cons, List.all_nil, LV.still, LV.leaves, Leaf.still, ints_still, ris_still, eds_still, rels_still, iss_still, ems_still, Bool.and_self, Bool.and_true])) (by simp -implicitDefEqProofs (maxSteps := 2000000) only [go_sem, c1]) ?_
        simp -implicitDefEqProofs (maxSteps := 2000000) only [go_sem, c1]
        rw [hr]
        refine call_of (holdingC_sat (wits d q) (repD d k) (by omega) (by omega) (fun w hw => by have := wits_mem w hw; omega)) (by simp -implicitDefEqProofs (maxSteps := 2000000) only [go_sem, hm, cz]) (by kernel_rfl) (by simp -implicitDefEqProofs (maxSteps := 2000000) only [go_sem, hm, cz]) ?_
        simp -implicitDefEqProofs (maxSteps := 2000000) only [go_sem, hm, cz]
        rw [wk, wc]
        exact ⟨k + 1, c1, by omega, (le_st' _ _ [⟨960, some _, false, 1, _⟩, ⟨961, some _, false, 1, _⟩, ⟨962, some _, false, 1, _⟩] [] _ (by simp -implicitDefEqProofs (maxSteps := 2000000) only [go_sem, cntP_yes hP, fstP_old c2] <;> and_intros <;> rfl) (by simp -implicitDefEqProofs (maxSteps := 2000000) only [go_sem, cntP_yes hP, fstP_old c2] <;> and_intros <;> rfl) (by simp -implicitDefEqProofs (maxSteps := 2000000) only [go_sem, cntP_yes hP, fstP_old c2] <;> and_intros <;> rfl) (by rfl))⟩
  · obtain rfl : k = prodL (blocksOf d) := by omega
    simp -implicitDefEqProofs (maxSteps := 2000000) only [go_sem, c1]
    first | done | rfl | exact ⟨rfl, rfl⟩ | exact ⟨rfl, rfl, rfl⟩ | (refine tr_and ?_ ?_ <;> first | rfl | exact ⟨rfl, rfl⟩ | kernel_rfl)
end Go.Proofs.YtbalifgacjmbpacGreat.A


/- REPAIRS THAT A QUERY HOLDS IN: the specification's walk, and the five functions. Conditions: none. -/
namespace Go.Proofs.YtbalifgacjmbpacGreat.A
open Go
set_option linter.unusedSimpArgs false
set_option linter.unusedVariables false
set_option maxRecDepth 100000

theorem l13Met_sat (ws : List (List Int)) (r : List Int) (h : r.length ≤ 9223372036854775807) (hl : ws.length ≤ 1048576) (hw : ∀ w ∈ ws, w.length ≤ 1048576) :
    Sat Tryz.prog 65 [lISS ws, lInts r] [lBool (met ws r)] [g1, g1] := by
  refine sat_of_body mixed Tryz.func65 rfl (by kernel_rfl) (by kernel_rfl) (rs := [.tmp 4]) rfl rfl rfl ?_
  unfold met
  simp -implicitDefEqProofs (maxSteps := 2000000) only [go_sem]
  refine awp_loop Nat (fun k => mkSt [(0, .one (.im 1 (iss 0 ws))), (1, .one (.im 1 (ints r))), (5, .sc (.int .i64 k))] [] [] 1000)
    (fun k => k ≤ ws.length ∧ upTo (metU ws r) k = true) (fun k => ws.length - k) 0 ⟨by omega, rfl⟩ (le_st _ _ [] [] _ rfl (by simp -implicitDefEqProofs (maxSteps := 2000000) only [go_sem] <;> rfl) trivial trivial) ?_
  rintro k ⟨h1, h2⟩
  by_cases c1 : k < ws.length
  · have hwk := hw _ (mem_getD [] c1)
    have wk : IntKind.i64.wrap ((k : Int) + 1) = ((k + 1 : Nat) : Int) := i64_succ (by omega)
    simp -implicitDefEqProofs (maxSteps := 2000000) only [go_sem, c1]
    refine awp_loop Nat (fun m => mkSt [(0, .one (.im 1 (iss 0 ws))), (1, .one (.im 1 (ints r))), (5, .sc (.int .i64 k)), (6, .sc (.bool (upTo (subAt (ws.getD k []) r) m))), (7, .sc (.int .i64 m))] [] [] 4000)
      (fun m => m ≤ (ws.getD k []).length) (fun m => (ws.getD k []).length - m) 0 (by omega) (le_st _ _ [] [] _ rfl (by simp -implicitDefEqProofs (maxSteps := 2000000) only [go_sem] <;> rfl) trivial trivial) ?_
    rintro m h3
    by_cases c2 : m < (ws.getD k []).length
    · have wm : IntKind.i64.wrap ((m : Int) + 1) = ((m + 1 : Nat) : Int) := i64_succ (by omega)
      have hst : upTo (subAt (ws.getD k []) r) (m + 1) = (upTo (subAt (ws.getD k []) r) m && decide ((ws.getD k []).getD m 0 ∈ r)) := rfl
      rcases d0 : upTo (subAt (ws.getD k []) r) m
      · simp -implicitDefEqProofs (maxSteps := 2000000) only [go_sem, c1, c2, d0]
        rw [wm]
        exact ⟨m + 1, c2, by omega, (le_st _ _ [] [] _ rfl (by simp -implicitDefEqProofs (maxSteps := 2000000) only [go_sem, hst, d0, Bool.false_and] <;> rfl) (by simp -implicitDefEqProofs (maxSteps := 2000000) only [go_sem, hst, d0, Bool.false_and] <;> rfl) (by simp -implicitDefEqProofs (maxSteps := 2000000) only [go_sem, hst, d0, Bool.false_and] <;> rfl))⟩
      · simp -implicitDefEqProofs (maxSteps := 2000000) only [go_sem, c1, c2, d0]
        refine call_of (l7Has_sat r ((ws.getD k []).getD m 0) h) (by simp -implicitDefEqProofs (maxSteps := 2000000) only [go_sem, c1, c2, d0]) (by kernel_rfl) (by simp -implicitDefEqProofs (maxSteps := 2000000) only [go_sem, c1, c2, d0]) ?_
        simp -implicitDefEqProofs (maxSteps := 2000000) only [go_sem, c1, c2, d0]
        rw [wm]
        exact ⟨m + 1, c2, by omega, (le_st _ _ [] [] _ rfl (by simp -implicitDefEqProofs (maxSteps := 2000000) only [go_sem, hst, d0, Bool.true_and] <;> rfl) (by simp -implicitDefEqProofs (maxSteps := 2000000) only [go_sem, hst, d0, Bool.true_and] <;> rfl) (by simp -implicitDefEqProofs (maxSteps := 2000000) only [go_sem, hst, d0, Bool.true_and] <;> rfl))⟩
    · obtain rfl : m = (ws.getD k []).length := by omega
      have hs : metU ws r k = !upTo (subAt (ws.getD k []) r) (ws.getD k []).length := rfl
      rcases d0 : upTo (subAt (ws.getD k []) r) (ws.getD k []).length
      · simp -implicitDefEqProofs (maxSteps := 2000000) only [go_sem, c1, c2, d0]
        rw [wk]
        exact ⟨k + 1, ⟨c1, upTo_step h2 (by rw [hs, d0]; rfl)⟩, by omega, (le_st _ _ [] [] _ rfl (by simp -implicitDefEqProofs (maxSteps := 2000000) only [go_sem] <;> rfl) trivial trivial)⟩
      · rw [upTo_false c1 (by rw [hs, d0]; rfl)]
        simp -implicitDefEqProofs (maxSteps := 2000000) only [go_sem, c1, c2, d0]
        first | done | rfl | exact ⟨rfl, rfl⟩ | exact ⟨rfl, rfl, rfl⟩ | (refine tr_and ?_ ?_ <;> first | rfl | exact ⟨rfl, rfl⟩ | kernel_rfl)
  · obtain rfl : k = ws.length := by omega
    simp -implicitDefEqProofs (maxSteps := 2000000) only [go_sem, c1]
    rw [h2]
    first | done | rfl | exact ⟨rfl, rfl⟩ | exact ⟨rfl, rfl, rfl⟩ | (refine tr_and ?_ ?_ <;> first | rfl | exact ⟨rfl, rfl⟩ | kernel_rfl)
theorem hldF_len (d : Db) (q : Qu) (want : Bool) : (hldF d q want).length ≤ 14 := by
  unfold hldF
  split
  · rename_i g
    have h := (blocksOf_len (queryFor_db g)).1
    exact fstP_len (fun k => by rw [repD_len]; exact h) _
  · simp
theorem cntR_eq {d : Db} (g : goodDb d = true) : cntR d = prodL (blocksOf d) := by rw [cntR, if_pos g]
theorem nthD_eq {d : Db} {k : Nat} (g : goodDb d = true) (h : k < prodL (blocksOf d)) : nth' d k = repD d k ∧ nthOk d k = true := by
  have h1 : nthOk d k = true := by
    rw [nthOk, inB, cntR_eq g]; simp; omega
  exact ⟨by rw [nth', if_pos h1]; rfl, h1⟩
theorem l13Find_sat (d : Db) (q : Qu) (want : Bool) (h : d.ok) (hq : q.fit) : Sat Tryz.prog 39 [lDb d, lQu q, lBool want] [oInts (hldF d q want), lBool (decide (0 < hldC d q want))] [g2, g3, g1] := by
  refine sat_of_body mixed Tryz.func39 rfl (by kernel_rfl) (by kernel_rfl) (rs := [.tmp 6, .tmp 7]) rfl rfl rfl ?_
  have hf := h.fit
  unfold hldF hldC
  rcases g : queryFor d q
  · rw [if_neg (by simp), if_neg (by simp)]
    simp -implicitDefEqProofs (maxSteps := 2000000) only [go_sem]
    refine call_of (specIsQueryFor_sat d q hf hq) (by simp -implicitDefEqProofs (maxSteps := 2000000) only [go_sem, g]) (by kernel_rfl) (by simp -implicitDefEqProofs (maxSteps := 2000000) only [go_sem, g]) ?_
    simp -implicitDefEqProofs (maxSteps := 2000000) only [go_sem, g]
    first | done | rfl | exact ⟨rfl, rfl⟩ | exact ⟨rfl, rfl, rfl⟩ | (refine tr_and ?_ ?_ <;> first | rfl | exact ⟨rfl, rfl⟩ | kernel_rfl)
  rw [if_pos rfl, if_pos rfl]
  have gd := queryFor_db g
  have hl := wits_len d q
  have hp := (blocksOf_prod gd).2
  have hb1 := (blocksOf_len gd).1
  simp -implicitDefEqProofs (maxSteps := 2000000) only [go_sem]
  refine call_of (specIsQueryFor_sat d q hf hq) (by simp -implicitDefEqProofs (maxSteps := 2000000) only [go_sem, g]) (by kernel_rfl) (by simp -implicitDefEqProofs (maxSteps := 2000000) only [go_sem, g]) ?_
  simp -implicitDefEqProofs (maxSteps := 2000000) only [go_sem, g]
  refine call_of (specWitnesses_sat d q h hq) (by simp -implicitDefEqProofs (maxSteps := 2000000) only [go_sem]) (callOk_still (by kernel_rfl) (by simp only [List.all_cons, List.all_nil, LV.still, LV.leaves, Leaf.still, ints_still, ris_still, eds_still, rels_still, iss_still, ems_still, Bool.and_self, Bool.and_true])) (by simp -implicitDefEqProofs (maxSteps := 2000000) only [go_sem]) ?_
  simp -implicitDefEqProofs (maxSteps := 2000000) only [go_sem]
  refine awp_loop Nat (fun k => mkSt [(2, .sc (.bool want)), (3, .one (.vad 1000 0)), (8, .one (.ref 960 1 0 (wits d q).length)), (9, .sc (.int .i64 k))] [(1000, sDb d)] [(960, (1, iss 999 (wits d q)))] 8000)
    (fun k => k ≤ prodL (blocksOf d) ∧ cntP (holdP d q want) k = 0) (fun k => prodL (blocksOf d) - k) 0 ⟨by omega, rfl⟩ (le_st' _ _ [⟨960, some _, false, 1, _⟩] [] _ (by simp -implicitDefEqProofs (maxSteps := 2000000) only [go_sem] <;> and_intros <;> rfl) (by simp -implicitDefEqProofs (maxSteps := 2000000) only [go_sem] <;> and_intros <;> rfl) (by simp -implicitDefEqProofs (maxSteps := 2000000) only [go_sem] <;> and_intros <;> rfl) (by rfl)) ?_
  rintro k ⟨h1, h2⟩
  have hcR := cntR_eq gd
  by_cases c1 : k < prodL (blocksOf d)
  · have wk : IntKind.i64.wrap ((k : Int) + 1) = ((k + 1 : Nat) : Int) := i64_succ (by omega)
    obtain ⟨e1, e2⟩ := nthD_eq gd c1
    have hrl := repD_len d k
    rcases hP : holdP d q want k
    · have hm : (met (wits d q) (repD d k) == want) = false := hP
      simp -implicitDefEqProofs (maxSteps := 2000000) only [go_sem]
      refine call_of (specCountRepairs_sat d hf) (by simp -implicitDefEqProofs (maxSteps := 2000000) only [go_sem, hcR, c1]) (by kernel_rfl) (by simp -implicitDefEqProofs (maxSteps := 2000000) only [go_sem, hcR, c1]) ?_
      simp -implicitDefEqProofs (maxSteps := 2000000) only [go_sem, hcR, c1]
      refine call_of (specNthRepair_sat d k hf) (by simp -implicitDefEqProofs (maxSteps := 2000000) only [go_sem, e1, e2]) (callOk_still (by kernel_rfl) (by simp only [List.all_cons, List.all_nil, LV.still, LV.leaves, Leaf.still, ints_still, ris_still, eds_still, rels_still, iss_still, ems_still, Bool.and_self, Bool.and_true])) (by simp -implicitDefEqProofs (maxSteps := 2000000) only [go_sem, e1, e2]) ?_
      simp -implicitDefEqProofs (maxSteps := 2000000) only [go_sem, e1, e2]
      refine call_of (l13Met_sat (wits d q) (repD d k) (by omega) (by omega) (fun w hw => by have := wits_mem w hw; omega)) (by simp -implicitDefEqProofs (maxSteps := 2000000) only [go_sem, hm]) (by kernel_rfl) (by simp -implicitDefEqProofs (maxSteps := 2000000) only [go_sem, hm]) ?_
      simp -implicitDefEqProofs (maxSteps := 2000000) only [go_sem, hm]
      rw [wk]
      exact ⟨k + 1, ⟨c1, by rw [cntP_no hP, h2]⟩, by omega, (le_st' _ _ [⟨960, some _, false, 1, _⟩] [] _ (by simp -implicitDefEqProofs (maxSteps := 2000000) only [go_sem] <;> and_intros <;> rfl) (by simp -implicitDefEqProofs (maxSteps := 2000000) only [go_sem] <;> and_intros <;> rfl) (by simp -implicitDefEqProofs (maxSteps := 2000000) only [go_sem] <;> and_intros <;> rfl) (by rfl))⟩
    · have hm : (met (wits d q) (repD d k) == want) = true := hP
      obtain ⟨f1, f2⟩ := fstP_at (f := repD d) hP h2 c1
      rw [f1, decide_eq_true f2]
      simp -implicitDefEqProofs (maxSteps := 2000000) only [go_sem]
      refine call_of (specCountRepairs_sat d hf) (by simp -implicitDefEqProofs (maxSteps := 2000000) only [go_sem, hcR, c1]) (by kernel_rfl) (by simp -implicitDefEqProofs (maxSteps := 2000000) only [go_sem, hcR, c1]) ?_
      simp -implicitDefEqProofs (maxSteps := 2000000) only [go_sem, hcR, c1]
      refine call_of (specNthRepair_sat d k hf) (by simp -implicitDefEqProofs (maxSteps := 2000000) only [go_sem, e1, e2]) (callOk_still (by kernel_rfl) (by simp only [List.all_cons, List.all_nil, LV.still, LV.leaves, Leaf.still, ints_still, ris_still, eds_still, rels_still, iss_still, ems_still, Bool.and_self, Bool.and_true])) (by simp -implicitDefEqProofs (maxSteps := 2000000) only [go_sem, e1, e2]) ?_
      simp -implicitDefEqProofs (maxSteps := 2000000) only [go_sem, e1, e2]
      refine call_of (l13Met_sat (wits d q) (repD d k) (by omega) (by omega) (fun w hw => by have := wits_mem w hw; omega)) (by simp -implicitDefEqProofs (maxSteps := 2000000) only [go_sem, hm]) (by kernel_rfl) (by simp -implicitDefEqProofs (maxSteps := 2000000) only [go_sem, hm]) ?_
      simp -implicitDefEqProofs (maxSteps := 2000000) only [go_sem, hm]
      first | done | rfl | exact ⟨rfl, rfl⟩ | exact ⟨rfl, rfl, rfl⟩ | (refine tr_and ?_ ?_ <;> first | rfl | exact ⟨rfl, rfl⟩ | kernel_rfl)
  · obtain rfl : k = prodL (blocksOf d) := by omega
    have f0 : ∀ n, cntP (holdP d q want) n = 0 → fstP (holdP d q want) (repD d) n = [] := by
      intro n
      induction n with
      | zero => intro _; rfl
      | succ n ih =>
        intro hn
        rcases hP : holdP d q want n
        · rw [cntP_no hP] at hn; rw [fstP_no hP, ih hn]
        · rw [cntP_yes hP] at hn; omega
    rw [f0 _ h2, h2]
    simp -implicitDefEqProofs (maxSteps := 2000000) only [go_sem]
    refine call_of (specCountRepairs_sat d hf) (by simp -implicitDefEqProofs (maxSteps := 2000000) only [go_sem, hcR, c1]) (by kernel_rfl) (by simp -implicitDefEqProofs (maxSteps := 2000000) only [go_sem, hcR, c1]) ?_
    simp -implicitDefEqProofs (maxSteps := 2000000) only [go_sem, hcR, c1]
    first | done | rfl | exact ⟨rfl, rfl⟩ | exact ⟨rfl, rfl, rfl⟩ | (refine tr_and ?_ ?_ <;> first | rfl | exact ⟨rfl, rfl⟩ | kernel_rfl)
theorem specFalsifyingRepair_sat (d : Db) (q : Qu) (h : d.ok) (hq : q.fit) : Sat Tryz.prog 17 [lDb d, lQu q] [oInts (hldF d q false), lBool (decide (0 < hldC d q false))] [g2, g3] := by
  refine sat_of_body mixed Tryz.func17 rfl (by kernel_rfl) (by kernel_rfl) (rs := [.tmp 4, .tmp 5]) rfl rfl rfl ?_
  simp -implicitDefEqProofs (maxSteps := 2000000) only [go_sem]
  refine call_of (l13Find_sat d q false h hq) (by simp -implicitDefEqProofs (maxSteps := 2000000) only [go_sem]) (callOk_still (by kernel_rfl) (by simp only [List.all_cons, List.all_nil, LV.still, LV.leaves, Leaf.still, ints_still, ris_still, eds_still, rels_still, iss_still, ems_still, Bool.and_self, Bool.and_true])) (by simp -implicitDefEqProofs (maxSteps := 2000000) only [go_sem]) ?_
  simp -implicitDefEqProofs (maxSteps := 2000000) only [go_sem]
  first | done | rfl | exact ⟨rfl, rfl⟩ | exact ⟨rfl, rfl, rfl⟩ | (refine tr_and ?_ ?_ <;> first | rfl | exact ⟨rfl, rfl⟩ | kernel_rfl)
theorem specSatisfyingRepair_sat (d : Db) (q : Qu) (h : d.ok) (hq : q.fit) : Sat Tryz.prog 24 [lDb d, lQu q] [oInts (hldF d q true), lBool (decide (0 < hldC d q true))] [g2, g3] := by
  refine sat_of_body mixed Tryz.func24 rfl (by kernel_rfl) (by kernel_rfl) (rs := [.tmp 4, .tmp 5]) rfl rfl rfl ?_
  simp -implicitDefEqProofs (maxSteps := 2000000) only [go_sem]
  refine call_of (l13Find_sat d q true h hq) (by simp -implicitDefEqProofs (maxSteps := 2000000) only [go_sem]) (callOk_still (by kernel_rfl) (by simp only [List.all_cons, List.all_nil, LV.still, LV.leaves, Leaf.still, ints_still, ris_still, eds_still, rels_still, iss_still, ems_still, Bool.and_self, Bool.and_true])) (by simp -implicitDefEqProofs (maxSteps := 2000000) only [go_sem]) ?_
  simp -implicitDefEqProofs (maxSteps := 2000000) only [go_sem]
  first | done | rfl | exact ⟨rfl, rfl⟩ | exact ⟨rfl, rfl, rfl⟩ | (refine tr_and ?_ ?_ <;> first | rfl | exact ⟨rfl, rfl⟩ | kernel_rfl)
theorem specIsPossible_sat (d : Db) (q : Qu) (h : d.ok) (hq : q.fit) : Sat Tryz.prog 15 [lDb d, lQu q] [lBool (decide (0 < hldC d q true))] [g2, g3] := by
  refine sat_of_body mixed Tryz.func15 rfl (by kernel_rfl) (by kernel_rfl) (rs := [.tmp 4]) rfl rfl rfl ?_
  simp -implicitDefEqProofs (maxSteps := 2000000) only [go_sem]
  refine call_of (specSatisfyingRepair_sat d q h hq) (by simp -implicitDefEqProofs (maxSteps := 2000000) only [go_sem]) (callOk_still (by kernel_rfl) (by simp only [List.all_cons, List.all_nil, LV.still, LV.leaves, Leaf.still, ints_still, ris_still, eds_still, rels_still, iss_still, ems_still, Bool.and_self, Bool.and_true])) (by simp -implicitDefEqProofs (maxSteps := 2000000) only [go_sem]) ?_
  simp -implicitDefEqProofs (maxSteps := 2000000) only [go_sem]
  first | done | rfl | exact ⟨rfl, rfl⟩ | exact ⟨rfl, rfl, rfl⟩ | (refine tr_and ?_ ?_ <;> first | rfl | exact ⟨rfl, rfl⟩ | kernel_rfl)
theorem specIsCertain_sat (d : Db) (q : Qu) (h : d.ok) (hq : q.fit) : Sat Tryz.prog 9 [lDb d, lQu q] [lBool (queryFor d q && !decide (0 < hldC d q false))] [g2, g3] := by
  refine sat_of_body mixed Tryz.func9 rfl (by kernel_rfl) (by kernel_rfl) (rs := [.tmp 4]) rfl rfl rfl ?_
  rcases g : queryFor d q
  · simp -implicitDefEqProofs (maxSteps := 2000000) only [go_sem]
    refine call_of (specFalsifyingRepair_sat d q h hq) (by simp -implicitDefEqProofs (maxSteps := 2000000) only [go_sem]) (callOk_still (by kernel_rfl) (by simp only [List.all_cons, List.all_nil, LV.still, LV.leaves, Leaf.still, ints_still, ris_still, eds_still, rels_still, iss_still, ems_still, Bool.and_self, Bool.and_true])) (by simp -implicitDefEqProofs (maxSteps := 2000000) only [go_sem]) ?_
    simp -implicitDefEqProofs (maxSteps := 2000000) only [go_sem]
    refine call_of (specIsQueryFor_sat d q h.fit hq) (by simp -implicitDefEqProofs (maxSteps := 2000000) only [go_sem, g]) (by kernel_rfl) (by simp -implicitDefEqProofs (maxSteps := 2000000) only [go_sem, g]) ?_
    simp -implicitDefEqProofs (maxSteps := 2000000) only [go_sem, g]
    first | done | rfl | exact ⟨rfl, rfl⟩ | exact ⟨rfl, rfl, rfl⟩ | (refine tr_and ?_ ?_ <;> first | rfl | exact ⟨rfl, rfl⟩ | kernel_rfl)
  · simp -implicitDefEqProofs (maxSteps := 2000000) only [go_sem]
    refine call_of (specFalsifyingRepair_sat d q h hq) (by simp -implicitDefEqProofs (maxSteps := 2000000) only [go_sem]) (callOk_still (by kernel_rfl) (by simp only [List.all_cons, List.all_nil, LV.still, LV.leaves, Leaf.still, ints_still, ris_still, eds_still, rels_still, iss_still, ems_still, Bool.and_self, Bool.and_true])) (by simp -implicitDefEqProofs (maxSteps := 2000000) only [go_sem]) ?_
    simp -implicitDefEqProofs (maxSteps := 2000000) only [go_sem]
    refine call_of (specIsQueryFor_sat d q h.fit hq) (by simp -implicitDefEqProofs (maxSteps := 2000000) only [go_sem, g]) (by kernel_rfl) (by simp -implicitDefEqProofs (maxSteps := 2000000) only [go_sem, g]) ?_
    simp -implicitDefEqProofs (maxSteps := 2000000) only [go_sem, g]
    first | done | rfl | exact ⟨rfl, rfl⟩ | exact ⟨rfl, rfl, rfl⟩ | (refine tr_and ?_ ?_ <;> first | rfl | exact ⟨rfl, rfl⟩ | kernel_rfl)
theorem implIsCertain_sat (d : Db) (q : Qu) (h : d.fit) (hq : q.ok) : Sat Tryz.prog 12 [lDb d, lQu q] [lBool (queryFor d q && !decide (0 < hldC d q false))] [g2, g3] := by
  refine sat_of_body mixed Tryz.func12 rfl (by kernel_rfl) (by kernel_rfl) (rs := [.tmp 4]) rfl rfl rfl ?_
  have e : (((hldC d q false : Nat) : Int) == 0) = !decide (0 < hldC d q false) := by
    rcases hc : decide (0 < hldC d q false)
    · have := of_decide_eq_false hc; rw [Bool.not_false, beq_iff_eq]; omega
    · have := of_decide_eq_true hc; rw [Bool.not_true, beq_eq_false_iff_ne]; omega
  rcases g : queryFor d q
  · simp -implicitDefEqProofs (maxSteps := 2000000) only [go_sem]
    refine call_of (holding_sat d q false h hq) (by simp -implicitDefEqProofs (maxSteps := 2000000) only [go_sem, g]) (callOk_still (by kernel_rfl) (by simp only [List.all_cons, List.all_nil, LV.still, LV.leaves, Leaf.still, ints_still, ris_still, eds_still, rels_still, iss_still, ems_still, Bool.and_self, Bool.and_true])) (by simp -implicitDefEqProofs (maxSteps := 2000000) only [go_sem, g]) ?_
    simp -implicitDefEqProofs (maxSteps := 2000000) only [go_sem, g]
    first | done | rfl | exact ⟨rfl, rfl⟩ | exact ⟨rfl, rfl, rfl⟩ | (refine tr_and ?_ ?_ <;> first | rfl | exact ⟨rfl, rfl⟩ | kernel_rfl)
  · simp -implicitDefEqProofs (maxSteps := 2000000) only [go_sem]
    refine call_of (holding_sat d q false h hq) (by simp -implicitDefEqProofs (maxSteps := 2000000) only [go_sem, g, e]) (callOk_still (by kernel_rfl) (by simp only [List.all_cons, List.all_nil, LV.still, LV.leaves, Leaf.still, ints_still, ris_still, eds_still, rels_still, iss_still, ems_still, Bool.and_self, Bool.and_true])) (by simp -implicitDefEqProofs (maxSteps := 2000000) only [go_sem, g, e]) ?_
    simp -implicitDefEqProofs (maxSteps := 2000000) only [go_sem, g, e]
    first | done | rfl | exact ⟨rfl, rfl⟩ | exact ⟨rfl, rfl, rfl⟩ | (refine tr_and ?_ ?_ <;> first | rfl | exact ⟨rfl, rfl⟩ | kernel_rfl)
theorem implIsPossible_sat (d : Db) (q : Qu) (h : d.fit) (hq : q.ok) : Sat Tryz.prog 16 [lDb d, lQu q] [lBool (decide (0 < hldC d q true))] [g2, g3] := by
  refine sat_of_body mixed Tryz.func16 rfl (by kernel_rfl) (by kernel_rfl) (rs := [.tmp 4]) rfl rfl rfl ?_
  have e : decide (((hldC d q true : Nat) : Int) > 0) = decide (0 < hldC d q true) := decide_eq_decide.mpr (by omega)
  simp -implicitDefEqProofs (maxSteps := 2000000) only [go_sem]
  refine call_of (holding_sat d q true h hq) (by simp -implicitDefEqProofs (maxSteps := 2000000) only [go_sem, e]) (callOk_still (by kernel_rfl) (by simp only [List.all_cons, List.all_nil, LV.still, LV.leaves, Leaf.still, ints_still, ris_still, eds_still, rels_still, iss_still, ems_still, Bool.and_self, Bool.and_true])) (by simp -implicitDefEqProofs (maxSteps := 2000000) only [go_sem, e]) ?_
  simp -implicitDefEqProofs (maxSteps := 2000000) only [go_sem, e]
  first | done | rfl | exact ⟨rfl, rfl⟩ | exact ⟨rfl, rfl, rfl⟩ | (refine tr_and ?_ ?_ <;> first | rfl | exact ⟨rfl, rfl⟩ | kernel_rfl)
theorem implFalsifyingRepair_sat (d : Db) (q : Qu) (h : d.fit) (hq : q.ok) : Sat Tryz.prog 18 [lDb d, lQu q] [oInts (hldF d q false), lBool (decide (0 < hldC d q false))] [g2, g3] := by
  refine sat_of_body mixed Tryz.func18 rfl (by kernel_rfl) (by kernel_rfl) (rs := [.tmp 4, .tmp 5]) rfl rfl rfl ?_
  have e : decide (((hldC d q false : Nat) : Int) > 0) = decide (0 < hldC d q false) := decide_eq_decide.mpr (by omega)
  simp -implicitDefEqProofs (maxSteps := 2000000) only [go_sem]
  refine call_of (holding_sat d q false h hq) (by simp -implicitDefEqProofs (maxSteps := 2000000) only [go_sem, e]) (callOk_still (by kernel_rfl) (by simp only [List.all_cons, List.all_nil, LV.still, LV.leaves, Leaf.still, ints_still, ris_still, eds_still, rels_still, iss_still, ems_still, Bool.and_self, Bool.and_true])) (by simp -implicitDefEqProofs (maxSteps := 2000000) only [go_sem, e]) ?_
  simp -implicitDefEqProofs (maxSteps := 2000000) only [go_sem, e]
  first | done | rfl | exact ⟨rfl, rfl⟩ | exact ⟨rfl, rfl, rfl⟩ | (refine tr_and ?_ ?_ <;> first | rfl | exact ⟨rfl, rfl⟩ | kernel_rfl)
theorem implSatisfyingRepair_sat (d : Db) (q : Qu) (h : d.fit) (hq : q.ok) : Sat Tryz.prog 25 [lDb d, lQu q] [oInts (hldF d q true), lBool (decide (0 < hldC d q true))] [g2, g3] := by
  refine sat_of_body mixed Tryz.func25 rfl (by kernel_rfl) (by kernel_rfl) (rs := [.tmp 4, .tmp 5]) rfl rfl rfl ?_
  have e : decide (((hldC d q true : Nat) : Int) > 0) = decide (0 < hldC d q true) := decide_eq_decide.mpr (by omega)
  simp -implicitDefEqProofs (maxSteps := 2000000) only [go_sem]
  refine call_of (holding_sat d q true h hq) (by simp -implicitDefEqProofs (maxSteps := 2000000) only [go_sem, e]) (callOk_still (by kernel_rfl) (by simp only [List.all_cons, List.all_nil, LV.still, LV.leaves, Leaf.still, ints_still, ris_still, eds_still, rels_still, iss_still, ems_still, Bool.and_self, Bool.and_true])) (by simp -implicitDefEqProofs (maxSteps := 2000000) only [go_sem, e]) ?_
  simp -implicitDefEqProofs (maxSteps := 2000000) only [go_sem, e]
  first | done | rfl | exact ⟨rfl, rfl⟩ | exact ⟨rfl, rfl, rfl⟩ | (refine tr_and ?_ ?_ <;> first | rfl | exact ⟨rfl, rfl⟩ | kernel_rfl)
end Go.Proofs.YtbalifgacjmbpacGreat.A


/- CONFLICT EDGES: size, copy, comparison, marks; marks of databases. Conditions: none. -/
namespace Go.Proofs.YtbalifgacjmbpacGreat.A
open Go
set_option linter.unusedSimpArgs false
set_option linter.unusedVariables false
set_option maxRecDepth 100000

def szEds (a : List Edge) (n : Int) : Int := if n - a.length < 0 then -1 else n - a.length
theorem szEds_ok : SzOk szEds (fun a => a.length ≤ 1048576) := by
  intro a n h
  unfold szEds
  split
  · exact ⟨by omega, fun h => absurd (by omega) h⟩
  · exact ⟨by omega, fun h => by omega⟩
def cntE : Int → Nat → List Edge
  | _, 0 => []
  | k, n + 1 => ⟨k, k + 1⟩ :: cntE (k + 2) n
theorem cntE_length : ∀ (k : Int) (n : Nat), (cntE k n).length = n
  | _, 0 => rfl
  | k, n + 1 => by rw [cntE, List.length_cons, cntE_length]
theorem cntE_get : ∀ {k : Int} {n i : Nat}, i < n → (cntE k n).getD i default = ⟨k + ((2 * i : Nat) : Int), k + ((2 * i : Nat) : Int) + 1⟩
  | k, n + 1, 0, _ => by simp [cntE]
  | k, n + 1, i + 1, h => by
    rw [cntE, List.getD_cons_succ, cntE_get (by omega), show k + 2 + ((2 * i : Nat) : Int) = k + ((2 * (i + 1) : Nat) : Int) by omega]
theorem cntE_full (k : Int) (n : Nat) : List.take n (cntE k n) = cntE k n := List.take_of_length_le (by rw [cntE_length]; omega)
attribute [go_sem] cntE_full
def numDb (d : Db) : Nat := 3 * d.rels.length + numRI d.facts
theorem numDb_ok {d : Db} (h : d.ok) : numDb d ≤ 1048577 * 1048577 + 3 * 1048576 := by
  have h1 := numRI_ok h.2.2
  have h2 := h.1.1
  have h3 := h.2.1
  unfold numDb
  have : d.facts.length * 1048577 ≤ 1048576 * 1048577 := Nat.mul_le_mul_right _ h3
  omega
theorem markFactS_sat (a : List RI) (k : Int) (h : 0 ≤ k ∧ k + numRI a ≤ 9223372036854775807) (hl : a.length ≤ 9223372036854775807) : Sat Tryz.prog 41 [oRIs a, lInt k] [lInt (k + numRI a)] [oRIs (markRI a k), g1] := by
  refine sat_of_body mixed Tryz.func41 rfl (by kernel_rfl) (by kernel_rfl) (rs := [.tmp 4]) rfl rfl rfl ?_
  simp -implicitDefEqProofs (maxSteps := 2000000) only [go_sem]
  refine awp_loop (Nat × List RI) (fun x => mkSt [(0, .one (.ref 0 2 0 a.length)), (1, .sc (.int .i64 (k + numRI (a.take x.1)))), (5, .sc (.int .i64 x.1))] [] [(0, (2, ris 999 x.2))] 1000)
    (fun x => x.1 ≤ a.length ∧ x.2.length = a.length ∧ x.2.take x.1 = (markRI a k).take x.1 ∧ x.2.drop x.1 = a.drop x.1) (fun x => a.length - x.1) (0, a) ⟨by simp, rfl, rfl, rfl⟩ (le_st _ _ [⟨0, some 0, false, 2, _⟩] [] _ rfl (by simp -implicitDefEqProofs (maxSteps := 2000000) only [go_sem] <;> rfl) (by simp -implicitDefEqProofs (maxSteps := 2000000) only [go_sem] <;> rfl) (by simp -implicitDefEqProofs (maxSteps := 2000000) only [go_sem] <;> rfl)) ?_
  rintro ⟨i, b⟩ ⟨h1, h2, h3, h4⟩
  simp only at h1 h2 h3 h4
  by_cases c1 : i < a.length
  · have n1 := numRI_take c1
    have n2 := numRI_le (a := a) (i + 1)
    have e1 := drop_get (d := default) h2 h4 c1
    simp -implicitDefEqProofs (maxSteps := 2000000) only [go_sem, c1, h2, List.length_take, Nat.min_self]
    rw [IntWalk.i64_in _ (by omega)]
    refine call_of (markIntS_sat (b.getD i default).l (k + numRI (a.take i) + 1) (by rw [e1]; omega)) (by simp -implicitDefEqProofs (maxSteps := 2000000) only [go_sem, c1, h2, List.length_take, Nat.min_self]) (by kernel_rfl) (by simp -implicitDefEqProofs (maxSteps := 2000000) only [go_sem, c1, h2, List.length_take, Nat.min_self]) ?_
    simp -implicitDefEqProofs (maxSteps := 2000000) only [go_sem, c1, h2, List.length_take, Nat.min_self]
    rw [i64_succ (by omega), show k + (numRI (a.take i) : Int) + 1 + ((b.getD i default).l.length : Int) = k + (numRI (a.take (i + 1)) : Int) by rw [n1, e1]; omega]
    refine ⟨(i + 1, b.set i ⟨k + numRI (a.take i), cnt (k + numRI (a.take i) + 1) (b.getD i default).l.length⟩), ⟨c1, by simpa using h2, ?_, drop_set _ h4⟩, by simp; omega, (le_st _ _ [⟨0, some 0, false, 2, _⟩] [] _ rfl (by simp -implicitDefEqProofs (maxSteps := 2000000) only [go_sem, c1, h2] <;> rfl) (by simp -implicitDefEqProofs (maxSteps := 2000000) only [go_sem, c1, h2] <;> rfl) (by simp -implicitDefEqProofs (maxSteps := 2000000) only [go_sem, c1, h2] <;> rfl))⟩
    exact take_set_to (d := default) (by rw [markRI_length]; exact h2) h3 (by rw [markRI_length]; exact c1) (by rw [markRI_get c1, e1])
  · have hb : b = markRI a k := of_take (by rw [markRI_length]; exact h2) h3 (by rw [markRI_length]; omega)
    simp -implicitDefEqProofs (maxSteps := 2000000) only [go_sem, c1, h2, List.length_take, Nat.min_self]
    rw [List.take_of_length_le (by omega), hb]
    exact ⟨rfl, rfl, rfl⟩
theorem markDatabase_sat (d : Db) (k : Int) (h : 0 ≤ k ∧ k + ((numDb d : Nat) : Int) ≤ 9223372036854775807) (hl : d.fit) : Sat Tryz.prog 20 [oDb d, lInt k] [lInt (k + ((numDb d : Nat) : Int))] [.agg [.gone, .gone], g1] := by
  refine sat_of_body mixed Tryz.func20 rfl (by kernel_rfl) (by kernel_rfl) (rs := [.tmp 4]) rfl rfl rfl ?_
  unfold numDb at h ⊢
  simp -implicitDefEqProofs (maxSteps := 2000000) only [go_sem]
  refine call_of (markRelationS_sat d.rels k (by omega) hl.1.1) (by simp -implicitDefEqProofs (maxSteps := 2000000) only [go_sem]) (by kernel_rfl) (by simp -implicitDefEqProofs (maxSteps := 2000000) only [go_sem]) ?_
  simp -implicitDefEqProofs (maxSteps := 2000000) only [go_sem]
  refine call_of (markFactS_sat d.facts (k + ((3 * d.rels.length : Nat) : Int)) (by omega) hl.2.1) (by simp -implicitDefEqProofs (maxSteps := 2000000) only [go_sem]) (by kernel_rfl) (by simp -implicitDefEqProofs (maxSteps := 2000000) only [go_sem]) ?_
  simp -implicitDefEqProofs (maxSteps := 2000000) only [go_sem]
  rw [Int.natCast_add (3 * d.rels.length), Int.add_assoc]
end Go.Proofs.YtbalifgacjmbpacGreat.A


/- THE WALK OF THE LAW OF FalsifyingRepair. Conditions: none. -/
namespace Go.Proofs.YtbalifgacjmbpacGreat.A
open Go
set_option linter.unusedSimpArgs false
set_option linter.unusedVariables false
set_option maxRecDepth 100000
set_option maxHeartbeats 8000000 in
/-- THE LAW OF FalsifyingRepair. -/
theorem lawFalsifyingRepair_sat (a0 : Db) (a1 : Qu) (h0 : a0.fit) (h1 : a1.fit) : Sat Tryz.prog 5 [lDb a0, lQu a1] [lBool true] [g2, g3] := by
  refine sat_of_body mixed Tryz.func5 rfl (by kernel_rfl) (by kernel_rfl) (rs := [.tmp 4]) rfl rfl rfl ?_
  simp -implicitDefEqProofs (maxSteps := 2000000) only [go_sem]
  have z0 := szDb_ok a0 1048576 (by omega)
  refine call_of (szDatabase_sat a0 1048576 (by omega) h0) (by simp -implicitDefEqProofs (maxSteps := 2000000) only [go_sem]) (by kernel_rfl) (by simp -implicitDefEqProofs (maxSteps := 2000000) only [go_sem]) ?_
  simp -implicitDefEqProofs (maxSteps := 2000000) only [go_sem]
  first | (with_reducible refine tr_and ?_ ?_; focus kernel_rfl) | (with_reducible refine tr_only ?_; kernel_rfl) | skip
  refine cond_split (fun c0 => ?_) fun c0 => ?_
  · simp -implicitDefEqProofs (maxSteps := 2000000) only [go_sem]
  have o0 := z0.2 (of_decide_eq_false c0)
  simp -implicitDefEqProofs (maxSteps := 2000000) only [go_sem]
  have n0 := numDb_ok o0
  have z1 := szQu_ok a1 (szDb a0 1048576) z0.1
  refine call_of (szQuery_sat a1 (szDb a0 1048576) z0.1 h1) (by simp -implicitDefEqProofs (maxSteps := 2000000) only [go_sem]) (by kernel_rfl) (by simp -implicitDefEqProofs (maxSteps := 2000000) only [go_sem]) ?_
  simp -implicitDefEqProofs (maxSteps := 2000000) only [go_sem]
  first | (with_reducible refine tr_and ?_ ?_; focus kernel_rfl) | (with_reducible refine tr_only ?_; kernel_rfl) | skip
  refine cond_split (fun c1 => ?_) fun c1 => ?_
  · simp -implicitDefEqProofs (maxSteps := 2000000) only [go_sem]
  have o1 := z1.2 (of_decide_eq_false c1)
  simp -implicitDefEqProofs (maxSteps := 2000000) only [go_sem]
  have n1 := numQu_ok o1
  have nl := hldF_len a0 a1 false
  refine call_of (toDatabase_sat a0 o0) (by simp -implicitDefEqProofs (maxSteps := 2000000) only [go_sem]) (by kernel_rfl) (by simp -implicitDefEqProofs (maxSteps := 2000000) only [go_sem]) ?_
  simp -implicitDefEqProofs (maxSteps := 2000000) only [go_sem]
  first | (with_reducible refine tr_and ?_ ?_; focus kernel_rfl) | (with_reducible refine tr_only ?_; kernel_rfl) | skip
  refine call_of (toQuery_sat a1 o1) (by simp -implicitDefEqProofs (maxSteps := 2000000) only [go_sem]) (by kernel_rfl) (by simp -implicitDefEqProofs (maxSteps := 2000000) only [go_sem]) ?_
  simp -implicitDefEqProofs (maxSteps := 2000000) only [go_sem]
  first | (with_reducible refine tr_and ?_ ?_; focus kernel_rfl) | (with_reducible refine tr_only ?_; kernel_rfl) | skip
  refine call_of (specFalsifyingRepair_sat a0 a1 o0 h1) (by simp -implicitDefEqProofs (maxSteps := 2000000) only [go_sem]) (callOk_still (by kernel_rfl) (by simp only [List.all_cons, List.all_nil, LV.still, LV.leaves, Leaf.still, ints_still, ris_still, eds_still, rels_still, iss_still, ems_still, Bool.and_self, Bool.and_true])) (by simp -implicitDefEqProofs (maxSteps := 2000000) only [go_sem]) ?_
  simp -implicitDefEqProofs (maxSteps := 2000000) only [go_sem]
  first | (with_reducible refine tr_and ?_ ?_; focus kernel_rfl) | (with_reducible refine tr_only ?_; kernel_rfl) | skip
  refine call_of (toDatabase_sat a0 o0) (by simp -implicitDefEqProofs (maxSteps := 2000000) only [go_sem]) (by kernel_rfl) (by simp -implicitDefEqProofs (maxSteps := 2000000) only [go_sem]) ?_
  simp -implicitDefEqProofs (maxSteps := 2000000) only [go_sem]
  first | (with_reducible refine tr_and ?_ ?_; focus kernel_rfl) | (with_reducible refine tr_only ?_; kernel_rfl) | skip
  refine call_of (toQuery_sat a1 o1) (by simp -implicitDefEqProofs (maxSteps := 2000000) only [go_sem]) (by kernel_rfl) (by simp -implicitDefEqProofs (maxSteps := 2000000) only [go_sem]) ?_
  simp -implicitDefEqProofs (maxSteps := 2000000) only [go_sem]
  first | (with_reducible refine tr_and ?_ ?_; focus kernel_rfl) | (with_reducible refine tr_only ?_; kernel_rfl) | skip
  refine call_of (implFalsifyingRepair_sat a0 a1 h0 o1) (by simp -implicitDefEqProofs (maxSteps := 2000000) only [go_sem]) (callOk_still (by kernel_rfl) (by simp only [List.all_cons, List.all_nil, LV.still, LV.leaves, Leaf.still, ints_still, ris_still, eds_still, rels_still, iss_still, ems_still, Bool.and_self, Bool.and_true])) (by simp -implicitDefEqProofs (maxSteps := 2000000) only [go_sem]) ?_
  simp -implicitDefEqProofs (maxSteps := 2000000) only [go_sem]
  first | (with_reducible refine tr_and ?_ ?_; focus kernel_rfl) | (with_reducible refine tr_only ?_; kernel_rfl) | skip
  refine call_of (eqIntS_sat (hldF a0 a1 false) (hldF a0 a1 false) (by omega)) (by simp -implicitDefEqProofs (maxSteps := 2000000) only [go_sem]) (by kernel_rfl) (by simp -implicitDefEqProofs (maxSteps := 2000000) only [go_sem]) ?_
  simp -implicitDefEqProofs (maxSteps := 2000000) only [go_sem]
  first | (with_reducible refine tr_and ?_ ?_; focus kernel_rfl) | (with_reducible refine tr_only ?_; kernel_rfl) | skip
  refine call_of (toDatabase_sat a0 o0) (by simp -implicitDefEqProofs (maxSteps := 2000000) only [go_sem]) (by kernel_rfl) (by simp -implicitDefEqProofs (maxSteps := 2000000) only [go_sem]) ?_
  simp -implicitDefEqProofs (maxSteps := 2000000) only [go_sem]
  first | (with_reducible refine tr_and ?_ ?_; focus kernel_rfl) | (with_reducible refine tr_only ?_; kernel_rfl) | skip
  refine call_of (eqDatabase_sat a0 a0 h0) (by simp -implicitDefEqProofs (maxSteps := 2000000) only [go_sem]) (by kernel_rfl) (by simp -implicitDefEqProofs (maxSteps := 2000000) only [go_sem]) ?_
  simp -implicitDefEqProofs (maxSteps := 2000000) only [go_sem]
  first | (with_reducible refine tr_and ?_ ?_; focus kernel_rfl) | (with_reducible refine tr_only ?_; kernel_rfl) | skip
  refine call_of (toQuery_sat a1 o1) (by simp -implicitDefEqProofs (maxSteps := 2000000) only [go_sem]) (by kernel_rfl) (by simp -implicitDefEqProofs (maxSteps := 2000000) only [go_sem]) ?_
  simp -implicitDefEqProofs (maxSteps := 2000000) only [go_sem]
  first | (with_reducible refine tr_and ?_ ?_; focus kernel_rfl) | (with_reducible refine tr_only ?_; kernel_rfl) | skip
  refine call_of (eqQuery_sat a1 a1 h1) (by simp -implicitDefEqProofs (maxSteps := 2000000) only [go_sem]) (by kernel_rfl) (by simp -implicitDefEqProofs (maxSteps := 2000000) only [go_sem]) ?_
  simp -implicitDefEqProofs (maxSteps := 2000000) only [go_sem]
  first | (with_reducible refine tr_and ?_ ?_; focus kernel_rfl) | (with_reducible refine tr_only ?_; kernel_rfl) | skip
  refine call_of (markDatabase_sat a0 1 (by omega) h0) (by simp -implicitDefEqProofs (maxSteps := 2000000) only [go_sem]) (by kernel_rfl) (by simp -implicitDefEqProofs (maxSteps := 2000000) only [go_sem]) ?_
  simp -implicitDefEqProofs (maxSteps := 2000000) only [go_sem]
  first | (with_reducible refine tr_and ?_ ?_; focus kernel_rfl) | (with_reducible refine tr_only ?_; kernel_rfl) | skip
  refine call_of (markQuery_sat a1 (1 + ((numDb a0 : Nat) : Int)) (by omega) h1) (by simp -implicitDefEqProofs (maxSteps := 2000000) only [go_sem]) (by kernel_rfl) (by simp -implicitDefEqProofs (maxSteps := 2000000) only [go_sem]) ?_
  simp -implicitDefEqProofs (maxSteps := 2000000) only [go_sem]
  first | (with_reducible refine tr_and ?_ ?_; focus kernel_rfl) | (with_reducible refine tr_only ?_; kernel_rfl) | skip
  rw [decide_eq_false (show ¬ (1 + ((numDb a0 : Nat) : Int) + ((numQu a1 : Nat) : Int) < 0) by omega)]
  simp -implicitDefEqProofs (maxSteps := 2000000) only [go_sem]
  refine call_of (eqIntS_sat (hldF a0 a1 false) (hldF a0 a1 false) (by omega)) (by simp -implicitDefEqProofs (maxSteps := 2000000) only [go_sem]) (by kernel_rfl) (by simp -implicitDefEqProofs (maxSteps := 2000000) only [go_sem]) ?_
  simp -implicitDefEqProofs (maxSteps := 2000000) only [go_sem]
  first | (with_reducible refine tr_and ?_ ?_; focus kernel_rfl) | (with_reducible refine tr_only ?_; kernel_rfl) | skip
  refine call_of (markIntS_sat (hldF a0 a1 false) 1 (by omega)) (by simp -implicitDefEqProofs (maxSteps := 2000000) only [go_sem]) (by kernel_rfl) (by simp -implicitDefEqProofs (maxSteps := 2000000) only [go_sem]) ?_
  simp -implicitDefEqProofs (maxSteps := 2000000) only [go_sem]
  first | (with_reducible refine tr_and ?_ ?_; focus kernel_rfl) | (with_reducible refine tr_only ?_; kernel_rfl) | skip
  refine call_of (heldIntS_sat (hldF a0 a1 false).length 1 (by omega)) (by simp -implicitDefEqProofs (maxSteps := 2000000) only [go_sem]) (by kernel_rfl) (by simp -implicitDefEqProofs (maxSteps := 2000000) only [go_sem]) ?_
  simp -implicitDefEqProofs (maxSteps := 2000000) only [go_sem]
  first | (with_reducible refine tr_and ?_ ?_; focus kernel_rfl) | (with_reducible refine tr_only ?_; kernel_rfl) | skip
  rw [decide_eq_false (show ¬ (1 + (((hldF a0 a1 false).length : Nat) : Int) < 0) by omega)]
  simp -implicitDefEqProofs (maxSteps := 2000000) only [go_sem]
  refine call_of (toDatabase_sat a0 o0) (by simp -implicitDefEqProofs (maxSteps := 2000000) only [go_sem]) (by kernel_rfl) (by simp -implicitDefEqProofs (maxSteps := 2000000) only [go_sem]) ?_
  simp -implicitDefEqProofs (maxSteps := 2000000) only [go_sem]
  first | (with_reducible refine tr_and ?_ ?_; focus kernel_rfl) | (with_reducible refine tr_only ?_; kernel_rfl) | skip
  refine call_of (toQuery_sat a1 o1) (by simp -implicitDefEqProofs (maxSteps := 2000000) only [go_sem]) (by kernel_rfl) (by simp -implicitDefEqProofs (maxSteps := 2000000) only [go_sem]) ?_
  simp -implicitDefEqProofs (maxSteps := 2000000) only [go_sem]
  first | (with_reducible refine tr_and ?_ ?_; focus kernel_rfl) | (with_reducible refine tr_only ?_; kernel_rfl) | skip
  refine call_of (implFalsifyingRepair_sat a0 a1 h0 o1) (by simp -implicitDefEqProofs (maxSteps := 2000000) only [go_sem]) (callOk_still (by kernel_rfl) (by simp only [List.all_cons, List.all_nil, LV.still, LV.leaves, Leaf.still, ints_still, ris_still, eds_still, rels_still, iss_still, ems_still, Bool.and_self, Bool.and_true])) (by simp -implicitDefEqProofs (maxSteps := 2000000) only [go_sem]) ?_
  simp -implicitDefEqProofs (maxSteps := 2000000) only [go_sem]
  first | (with_reducible refine tr_and ?_ ?_; focus kernel_rfl) | (with_reducible refine tr_only ?_; kernel_rfl) | skip
  refine call_of (eqIntS_sat (hldF a0 a1 false) (hldF a0 a1 false) (by omega)) (by simp -implicitDefEqProofs (maxSteps := 2000000) only [go_sem]) (by kernel_rfl) (by simp -implicitDefEqProofs (maxSteps := 2000000) only [go_sem]) ?_
  simp -implicitDefEqProofs (maxSteps := 2000000) only [go_sem]
  first | (with_reducible refine tr_and ?_ ?_; focus kernel_rfl) | (with_reducible refine tr_only ?_; kernel_rfl) | skip
  refine call_of (heldIntS_sat (hldF a0 a1 false).length 1 (by omega)) (by simp -implicitDefEqProofs (maxSteps := 2000000) only [go_sem]) (by kernel_rfl) (by simp -implicitDefEqProofs (maxSteps := 2000000) only [go_sem]) ?_
  simp -implicitDefEqProofs (maxSteps := 2000000) only [go_sem]
  first | (with_reducible refine tr_and ?_ ?_; focus kernel_rfl) | (with_reducible refine tr_only ?_; kernel_rfl) | skip
  rw [decide_eq_false (show ¬ (1 + (((hldF a0 a1 false).length : Nat) : Int) < 0) by omega)]
  simp -implicitDefEqProofs (maxSteps := 2000000) only [go_sem]
end Go.Proofs.YtbalifgacjmbpacGreat.A


/- THE LAW FnExactFalsifyingRepair: for every input it returns true, and the input reads as it did. Conditions: none. -/
namespace Go.Proofs.YtbalifgacjmbpacGreat.lawFalsifyingRepair
open Go.ChangeShapes Go.WideShapes Go.ChangeAt Go.RowKit
open Go.Proofs.YtbalifgacjmbpacGreat.A
set_option linter.unusedVariables false
theorem own : ownKnob Tryz.prog.godebug = none := by kernel_rfl
theorem laid : laidOutB Tryz.prog = true := by kernel_rfl
theorem rowed : mapsRowed Tryz.prog = true := by kernel_rfl
theorem full : ((List.range Tryz.prog.types.size).all fun t => match Tryz.prog.underlying t with | some (.slice e) => decide (0 < Tryz.prog.cellsOf e) | _ => true) = true := by kernel_rfl
set_option maxRecDepth 100000 in
theorem lifted (os : Os) (started : os.Started) (H : Type) (enc : TypeId × Value → H) :
    ReturnsInHanded {} Tryz.checked os 5 .any (Rows.fnExactFalsifyingRepairSpec.pre6 enc Tryz.prog Tryz.f5 Rows.fnExactFalsifyingRepairRow.domain false) (Rows.fnExactFalsifyingRepairSpec.post enc Tryz.prog Tryz.f5 false true false false) := by
  refine returnsInHanded_of_change_sized (C := Tryz.checked) own started (by kernel_rfl) Tryz.func5
    (ChangeSpec.witness6 (enc := enc) (C := Tryz.checked) false ⟨#[], #[.agg #[.slice none 0 0, .slice none 0 0], .agg #[.int .i64 0, .slice none 0 0, .slice none 0 0]], []⟩ 8 (by kernel_rfl) (by kernel_rfl) (by kernel_rfl) (by kernel_rfl)) ?_
  intro W base args ds gs before hval hW _ _ _
  obtain ⟨p, q, hA, hV, hpq, _⟩ := id hW
  rw [Tryz.params5] at hA hval
  obtain ⟨v0, vs0, d0, ds0, p0, q0, e0, rfl, rfl, h0, r0⟩ := trodAll_cons hA
  obtain ⟨v1, vs1, d1, ds1, p1, q1, e1, rfl, rfl, h1, r1⟩ := trodAll_cons r0
  subst e1
  obtain ⟨rfl, rfl, rfl⟩ := trodAll_nil r1
  obtain ⟨rfl, _⟩ := trodVars_none hV
  obtain rfl : args = #[v0, v1] := by cases args; simp_all
  have rI := readsC_int (enc := enc) (W := W) und3
  have rIs := readsC_ints (enc := enc) (W := W) und27 (by kernel_rfl) und3
  have rS := readsC_str (enc := enc) (W := W) und9
  have rR : ReadsC enc Tryz.prog W 69 cRel Rel.fit := readsC_map (readsC_three Tryz.underlying69 (by kernel_rfl) (by kernel_rfl) rS rI rI) (fun x => ⟨x.1, x.2.1, x.2.2⟩) (fun _ => rfl) (fun _ h => h.1)
  have lRs := readsL_rows (w := 3) rR und22 (by kernel_rfl) (by omega) (fun _ => rfl) rels (fun _ => rfl)
  have rF : ReadsC enc Tryz.prog W 72 (cRI 0) RI.fit := readsC_map (readsC_pair Tryz.underlying72 (by kernel_rfl) (by kernel_rfl) rI rIs) (fun x => ⟨x.1, x.2⟩) (fun _ => rfl) (fun _ h => h.2)
  have lFs := readsL_rows (w := 2) rF und23 (by kernel_rfl) (by omega) (fun _ => rfl) (ris 0) (fun _ => rfl)
  have lIs := readsL_ints (enc := enc) (W := W) und27 (by kernel_rfl) und3
  have rA : ReadsC enc Tryz.prog W 75 (cRI 0) RI.fit := readsC_map (readsC_pair Tryz.underlying75 (by kernel_rfl) (by kernel_rfl) rI rIs) (fun x => ⟨x.1, x.2⟩) (fun _ => rfl) (fun _ h => h.2)
  have lAs := readsL_rows (w := 2) rA und26 (by kernel_rfl) (by omega) (fun _ => rfl) (ris 0) (fun _ => rfl)
  obtain ⟨a0, b0, ga0, gb0, l0⟩ := arg_pair Tryz.underlying25 (by kernel_rfl) (by kernel_rfl) lRs lFs (hval 0 _ v0 rfl rfl) h0
  obtain ⟨a1, b1, c1, -, gb1, gc1, l1⟩ := arg_three Tryz.underlying29 (by kernel_rfl) (by kernel_rfl) (readsL_int (enc := enc) (W := W) und3) lAs lIs (hval 1 _ v1 rfl rfl) h1
  exact law_calls laid rowed full Tryz.func5 rfl (by kernel_rfl) rfl rfl (by kernel_rfl) rfl und4 hW (lawFalsifyingRepair_sat ⟨a0, b0⟩ ⟨a1, b1, c1⟩ ⟨ga0, gb0⟩ ⟨gb1, gc1⟩) ⟨l0 _, l1 _, trivial⟩ rfl rfl rfl
theorem over : Rows.fnExactFalsifyingRepairRow.holds Tryz.pinned (OpenSpec.ofChange Rows.fnExactFalsifyingRepairSpec) :=
  OpenClaim.holds_of_wide 5 Tryz.f5 rfl rfl rfl rfl rfl rfl rfl ⟨rfl, rfl, rfl, rfl, rfl⟩ rfl rfl rfl rfl rfl (by kernel_rfl) Tryz.func5 (by kernel_rfl)
    (of_decide_eq_true (by kernel_rfl)) (by unfold Func.isWrapper; first | (rw [if_pos (by decide +kernel)]; kernel_rfl) | (rw [if_neg (by decide +kernel)]; exact ⟨rfl, rfl⟩))
    (fun os started H enc _ => lifted os started H enc)
end Go.Proofs.YtbalifgacjmbpacGreat.lawFalsifyingRepair
namespace Go.Proofs.YtbalifgacjmbpacGreat
/-- The row, under a short name, for the claim. -/
theorem fnExactFalsifyingRepair_holds : Rows.FnExactFalsifyingRepairSaid := lawFalsifyingRepair.over
#print axioms fnExactFalsifyingRepair_holds
end Go.Proofs.YtbalifgacjmbpacGreat
