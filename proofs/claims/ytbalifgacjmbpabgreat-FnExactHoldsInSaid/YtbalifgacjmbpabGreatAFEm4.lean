
/- EMBEDDINGS: the reference's function; the program's search. Conditions: none. -/
import Derived.Test.YtbalifgacjmbpabGreatAFEm3
import Derived.Test.YtbalifgacjmbpabGreatA44
namespace Go.Proofs.YtbalifgacjmbpabGreat.A
open Go
set_option linter.unusedSimpArgs false
set_option linter.unusedVariables false
set_option maxRecDepth 100000

theorem ints_nilfE : (ints [] = frz []) = True := eq_true rfl
attribute [go_sem] ints_nilfE
theorem specFindEmbeddings_sat (d : Db) (q : Qu) (h : d.fit) (hq : q.fit) : Sat Tryz.prog 10 [lDb d, lQu q] [oEms (embs d q)] [g2, g3] := by
  refine sat_of_body mixed Tryz.func10 rfl (by kernel_rfl) (by kernel_rfl) (rs := [.tmp 4]) rfl rfl rfl ?_
  unfold embs
  simp -implicitDefEqProofs (maxSteps := 2000000) only [go_sem]
  rcases g : queryFor d q
  · rw [if_neg (by simp)]
    refine call_of (specIsQueryFor_sat d q h hq) (by simp -implicitDefEqProofs (maxSteps := 2000000) only [go_sem, g]) (by kernel_rfl) (by simp -implicitDefEqProofs (maxSteps := 2000000) only [go_sem, g]) ?_
    simp -implicitDefEqProofs (maxSteps := 2000000) only [go_sem, g]
    first | done | rfl | exact ⟨rfl, rfl⟩ | exact ⟨rfl, rfl, rfl⟩ | (refine tr_and ?_ ?_ <;> first | rfl | exact ⟨rfl, rfl⟩ | kernel_rfl)
  have F := fitE g
  have hp := goodQu_parts (queryFor_qu g)
  rw [if_pos rfl]
  rcases q with ⟨vc, ats, fr⟩
  simp only at hp F
  obtain ⟨n, rfl⟩ : ∃ n : Nat, vc = n := ⟨vc.toNat, by omega⟩
  rw [Int.toNat_natCast] at F
  have hw := l12Walk_sat d ⟨n, ats, fr⟩ F ats.length (List.replicate n (-1)) [] (Nat.le_refl _) (by simp) (by have := F.atoms; simp only at this; simp; omega)
  simp only [Nat.sub_self] at hw
  refine call_of (specIsQueryFor_sat d ⟨n, ats, fr⟩ h hq) (by simp -implicitDefEqProofs (maxSteps := 2000000) only [go_sem, g]) (by kernel_rfl) (by simp -implicitDefEqProofs (maxSteps := 2000000) only [go_sem, g]) ?_
  simp -implicitDefEqProofs (maxSteps := 2000000) only [go_sem, g]
  refine call_of (l12None_sat F.small) (by simp -implicitDefEqProofs (maxSteps := 2000000) only [go_sem]) (callOk_still (by kernel_rfl) (by simp only [List.all_cons, List.all_nil, LV.still, LV.leaves, Leaf.still, ints_still, ris_still, eds_still, rels_still, iss_still, ems_still, Bool.and_self, Bool.and_true])) (by simp -implicitDefEqProofs (maxSteps := 2000000) only [go_sem]) ?_
  simp -implicitDefEqProofs (maxSteps := 2000000) only [go_sem]
  refine call_of (hw) (by simp -implicitDefEqProofs (maxSteps := 2000000) only [go_sem, List.take_replicate, Nat.min_self]) (callOk_still (by kernel_rfl) (by simp only [List.all_cons, List.all_nil, LV.still, LV.leaves, Leaf.still, ints_still, ris_still, eds_still, rels_still, iss_still, ems_still, Bool.and_self, Bool.and_true])) (by simp -implicitDefEqProofs (maxSteps := 2000000) only [go_sem, List.take_replicate, Nat.min_self]) ?_
  simp -implicitDefEqProofs (maxSteps := 2000000) only [go_sem, List.take_replicate, Nat.min_self]
  first | (with_reducible refine tr_and ?_ ?_; focus kernel_rfl) | (with_reducible refine tr_only ?_; kernel_rfl) | skip
  first | done | rfl | exact ⟨rfl, rfl⟩ | exact ⟨rfl, rfl, rfl⟩ | (refine tr_and ?_ ?_ <;> first | rfl | exact ⟨rfl, rfl⟩ | kernel_rfl)

abbrev embT (d : Db) (q : Qu) (o : List Emb) : List CV := [.flds [.sc (.int .i64 q.vc), .im 2 (ris 0 q.atoms), .im 1 (ints q.free)], .own 2 (ems 999 o), .flds [.im 3 (rels d.rels), .im 2 (ris 0 d.facts)], .self 47]
theorem embT_stm (d : Db) (q : Qu) (o : List Emb) : ∀ w rows, CV.own w rows ∈ embT d q o → stm 999 rows = rows := by
  intro w rows h
  simp at h
  obtain ⟨rfl, rfl⟩ := h
  exact ems_stm 999 998 o
theorem searchE_zero (d : Db) (q : Qu) (vs fs : List Int) (o : List Emb) (h1 : vs.length ≤ 4) (h2 : fs.length = q.atoms.length) (h3 : fs.length ≤ 3) (ho : o.length ≤ 16384) :
    RSat Tryz.prog 47 [lInts vs, lInts fs] (embT d q o) (embT d q (o ++ [⟨vs, fs⟩])) := by
  refine rsat_of_body Tryz.func47 rfl (by kernel_rfl) rfl rfl (embT_stm _ _ _) ?_
  have e : ((fs.length : Int) == (q.atoms.length : Int)) = true := by rw [h2]; simp
  refine bwp_seq mixed (by kernel_rfl) ?_
  simp -implicitDefEqProofs (maxSteps := 2000000) only [go_sem, e]
  refine call_of (slicesClone_sat vs (by omega)) (by simp -implicitDefEqProofs (maxSteps := 2000000) only [go_sem]) (callOk_still (by kernel_rfl) (by simp only [List.all_cons, List.all_nil, LV.still, LV.leaves, Leaf.still, ints_still, ris_still, eds_still, rels_still, iss_still, ems_still, Bool.and_self, Bool.and_true])) (by simp -implicitDefEqProofs (maxSteps := 2000000) only [go_sem]) ?_
  simp -implicitDefEqProofs (maxSteps := 2000000) only [go_sem]
  refine call_of (slicesClone_sat fs (by omega)) (by simp -implicitDefEqProofs (maxSteps := 2000000) only [go_sem]) (callOk_still (by kernel_rfl) (by simp only [List.all_cons, List.all_nil, LV.still, LV.leaves, Leaf.still, ints_still, ris_still, eds_still, rels_still, iss_still, ems_still, Bool.and_self, Bool.and_true])) (by simp -implicitDefEqProofs (maxSteps := 2000000) only [go_sem]) ?_
  simp -implicitDefEqProofs (maxSteps := 2000000) only [go_sem]
  repeat (refine ⟨by omega, ?_⟩)
  first | (with_reducible refine tr_and ?_ ?_; focus kernel_rfl) | (with_reducible refine tr_only ?_; kernel_rfl) | skip
  exact (le_st' _ _ [⟨960, some _, false, 2, _⟩] [] _ (by simp -implicitDefEqProofs (maxSteps := 2000000) only [go_sem, rep1, List.set_cons_zero, ems_one] <;> and_intros <;> rfl) (by simp -implicitDefEqProofs (maxSteps := 2000000) only [go_sem, rep1, List.set_cons_zero, ems_one] <;> and_intros <;> rfl) (by simp -implicitDefEqProofs (maxSteps := 2000000) only [go_sem, rep1, List.set_cons_zero, ems_one] <;> and_intros <;> rfl) (by rfl))
theorem searchE_step (d : Db) (q : Qu) {n : Nat} (F : FitE d q n) (m j : Nat) (hj : j = q.atoms.length - (m + 1)) (c0 : j < q.atoms.length) (vs fs : List Int) (o : List Emb) (h1 : vs.length = n) (h2 : fs.length = j) (ho : o.length + 14 * 14 ^ m ≤ 16384)
    (ih : ∀ (k : Nat) (x : List Int) (o : List Emb), x.length = n → o.length + 14 ^ m ≤ 16384 → RSat Tryz.prog 47 [lInts x, lInts (fs ++ [(k : Int)])] (embT d q o) (embT d q (o ++ walkE d.facts q.atoms m x (fs ++ [(k : Int)])))) :
    RSat Tryz.prog 47 [lInts vs, lInts fs] (embT d q o) (embT d q (o ++ walkE d.facts q.atoms (m + 1) vs fs)) := by
  refine rsat_of_body Tryz.func47 rfl (by kernel_rfl) rfl rfl (embT_stm _ _ _) ?_
  have f1 := F.facts
  have f2 := F.atoms
  have f3 := F.small
  have e : ((fs.length : Int) == (q.atoms.length : Int)) = false := by rw [beq_eq_false_iff_ne]; omega
  have c0' : fs.length < q.atoms.length := by omega
  refine bwp_seq mixed (by kernel_rfl) ?_
  simp -implicitDefEqProofs (maxSteps := 2000000) only [go_sem, e]
  refine bwp_seq mixed (by kernel_rfl) ?_
  simp -implicitDefEqProofs (maxSteps := 2000000) only [go_sem, c0']
  refine bwp_seq mixed (by kernel_rfl) ?_
  simp -implicitDefEqProofs (maxSteps := 2000000) only [go_sem]
  refine bwp_block ?_
  refine bwp_loop Nat (fun k => mkSt [(0, .one (.im 1 (ints vs))), (1, .one (.im 1 (ints fs))), (2, .one (.vad 900 0)), (3, .one (.vad 901 0)), (4, .one (.vad 902 0)), (5, .one (.vad 903 0)), (8, .one (.ipt (fRI (q.atoms.getD fs.length default)) 0)), (34, .one (.im 2 (ris 0 d.facts))), (35, .sc (.int .i64 d.facts.length)), (36, .sc (.int .i64 k))]
    [(900, sQu q), (901, [.ref 960 2 0 (o ++ found (oneE d.facts q.atoms m vs fs) k).length]), (902, sDb d), (903, [.fnv 47 [900, 901, 902, 903]])] [(960, (2, ems 999 (o ++ found (oneE d.facts q.atoms m vs fs) k)))] 4000)
    (fun k => k ≤ d.facts.length) (fun k => d.facts.length - k) 0 (by omega) (le_st' _ _ [⟨960, some _, false, 2, _⟩] [1768] _ (by simp -implicitDefEqProofs (maxSteps := 2000000) only [go_sem, found_zero, List.append_nil] <;> and_intros <;> first | rfl | exact List.mem_singleton_self _) (by simp -implicitDefEqProofs (maxSteps := 2000000) only [go_sem, found_zero, List.append_nil] <;> and_intros <;> rfl) (by simp -implicitDefEqProofs (maxSteps := 2000000) only [go_sem, found_zero, List.append_nil] <;> and_intros <;> rfl) (by rfl)) ?_
  rintro k h4
  have hlen : (found (oneE d.facts q.atoms m vs fs) k).length ≤ k * 14 ^ m := by
    refine found_len (b := 14 ^ m) (fun i => ?_) k
    unfold oneE
    split
    · exact walkE_len f1 m _ _
    · simp
  by_cases c1 : k < d.facts.length
  · have wk : IntKind.i64.wrap ((k : Int) + 1) = ((k + 1 : Nat) : Int) := i64_succ (by omega)
    have hat : atomAt q.atoms m = q.atoms.getD fs.length default := by rw [atomAt, ← hj, h2]
    refine bwp_seq mixed (by kernel_rfl) ?_
    simp -implicitDefEqProofs (maxSteps := 2000000) only [go_sem, c1]
    refine bwp_seq mixed (by kernel_rfl) ?_
    simp -implicitDefEqProofs (maxSteps := 2000000) only [go_sem]
    refine bwp_seqB (bwp_block ?_)
    refine bwp_seq mixed (by kernel_rfl) ?_
    simp -implicitDefEqProofs (maxSteps := 2000000) only [go_sem, c1]
    refine bwp_seq mixed (by kernel_rfl) ?_
    by_cases d1 : (d.facts.getD k default).r = (q.atoms.getD fs.length default).r
    case neg =>
      have e1 : ((d.facts.getD k default).r != (q.atoms.getD fs.length default).r) = true := by rw [bne, Bool.not_eq_true', beq_eq_false_iff_ne]; exact d1
      have hm : meet (atomAt q.atoms m) (d.facts.getD k default) vs = none := by rw [hat, meet, if_neg d1]
      have ho := oneE_none (fs := fs) hm
      simp -implicitDefEqProofs (maxSteps := 2000000) only [go_sem, e1]
      refine bwp_awp mixed (by kernel_rfl) ?_
      simp -implicitDefEqProofs (maxSteps := 2000000) only [go_sem, wk]
      refine ⟨k + 1, c1, by omega, ?_⟩
      rw [found_succ, ho, List.append_nil]
      exact (le_st' _ _ [⟨960, some _, false, 2, _⟩] [] _ (by simp -implicitDefEqProofs (maxSteps := 2000000) only [go_sem] <;> and_intros <;> rfl) (by simp -implicitDefEqProofs (maxSteps := 2000000) only [go_sem] <;> and_intros <;> rfl) (by simp -implicitDefEqProofs (maxSteps := 2000000) only [go_sem] <;> and_intros <;> rfl) (by rfl))
    have e1 : ((d.facts.getD k default).r != (q.atoms.getD fs.length default).r) = false := by rw [bne, d1]; simp
    have hls := F.lens fs.length k c0' c1 d1
    have hvl := F.vals k c1
    simp -implicitDefEqProofs (maxSteps := 2000000) only [go_sem, e1]
    refine bwp_seq mixed (by kernel_rfl) ?_
    simp -implicitDefEqProofs (maxSteps := 2000000) only [go_sem]
    rcases hu : uniS (q.atoms.getD fs.length default).l (d.facts.getD k default).l vs (q.atoms.getD fs.length default).l.length with _ | x
    · have hm : meet (atomAt q.atoms m) (d.facts.getD k default) vs = none := by rw [hat, meet, if_pos d1, hu]
      have ho := oneE_none (fs := fs) hm
      refine call_of (unify_sat vs (q.atoms.getD fs.length default).l (d.facts.getD k default).l (by omega) (by omega) hvl (by rw [h1]; exact F.terms fs.length c0')) (by simp -implicitDefEqProofs (maxSteps := 2000000) only [go_sem, hu, Option.isSome_none, Option.getD_none]) (callOk_still (by kernel_rfl) (by simp only [List.all_cons, List.all_nil, LV.still, LV.leaves, Leaf.still, ints_still, ris_still, eds_still, rels_still, iss_still, ems_still, Bool.and_self, Bool.and_true])) (by simp -implicitDefEqProofs (maxSteps := 2000000) only [go_sem, hu, Option.isSome_none, Option.getD_none]) ?_
      simp -implicitDefEqProofs (maxSteps := 2000000) only [go_sem, hu, Option.isSome_none, Option.getD_none]
      refine bwp_seq mixed (by kernel_rfl) ?_
      simp -implicitDefEqProofs (maxSteps := 2000000) only [go_sem]
      refine bwp_cond (t := false) (by simp -implicitDefEqProofs (maxSteps := 2000000) only [go_sem]) (fun h => by cases h) fun _ => bwp_skip ?_
      simp -implicitDefEqProofs (maxSteps := 2000000) only [go_sem]
      refine bwp_awp mixed (by kernel_rfl) ?_
      simp -implicitDefEqProofs (maxSteps := 2000000) only [go_sem, wk]
      refine ⟨k + 1, c1, by omega, ?_⟩
      rw [found_succ, ho, List.append_nil]
      exact (le_st' _ _ [⟨960, some _, false, 2, _⟩] [] _ (by simp -implicitDefEqProofs (maxSteps := 2000000) only [go_sem] <;> and_intros <;> rfl) (by simp -implicitDefEqProofs (maxSteps := 2000000) only [go_sem] <;> and_intros <;> rfl) (by simp -implicitDefEqProofs (maxSteps := 2000000) only [go_sem] <;> and_intros <;> rfl) (by rfl))
    · have hm : meet (atomAt q.atoms m) (d.facts.getD k default) vs = some x := by rw [hat, meet, if_pos d1, hu]
      have ho := oneE_some (fs := fs) hm
      have hxl := meet_len hm
      refine call_of (unify_sat vs (q.atoms.getD fs.length default).l (d.facts.getD k default).l (by omega) (by omega) hvl (by rw [h1]; exact F.terms fs.length c0')) (by simp -implicitDefEqProofs (maxSteps := 2000000) only [go_sem, hu, Option.isSome_some, Option.getD_some]) (callOk_still (by kernel_rfl) (by simp only [List.all_cons, List.all_nil, LV.still, LV.leaves, Leaf.still, ints_still, ris_still, eds_still, rels_still, iss_still, ems_still, Bool.and_self, Bool.and_true])) (by simp -implicitDefEqProofs (maxSteps := 2000000) only [go_sem, hu, Option.isSome_some, Option.getD_some]) ?_
      simp -implicitDefEqProofs (maxSteps := 2000000) only [go_sem, hu, Option.isSome_some, Option.getD_some]
      refine bwp_seq mixed (by kernel_rfl) ?_
      simp -implicitDefEqProofs (maxSteps := 2000000) only [go_sem]
      refine bwp_cond (t := true) (by simp -implicitDefEqProofs (maxSteps := 2000000) only [go_sem]) (fun _ => ?_) fun h => by cases h
      refine bwp_callD mixed (ih k x (o ++ found (oneE d.facts q.atoms m vs fs) k) (by omega) (by
        have := Nat.mul_le_mul_right (14 ^ m) (show k + 1 ≤ 14 by omega)
        rw [Nat.succ_mul] at this
        rw [List.length_append]; omega)) [900, 901, 902, 903] 960 960 8000
        [(0, .one (.im 1 (ints vs))), (1, .one (.im 1 (ints fs))), (2, .one (.vad 900 0)), (3, .one (.vad 901 0)), (4, .one (.vad 902 0)), (5, .one (.vad 903 0)), (8, .one (.ipt (fRI (q.atoms.getD fs.length default)) 0)), (34, .one (.im 2 (ris 0 d.facts))), (35, .sc (.int .i64 d.facts.length)), (36, .sc (.int .i64 k))]
        rfl rfl rfl (by kernel_rfl) (by kernel_rfl) ?_ ?_
      · simp -implicitDefEqProofs (maxSteps := 2000000) only [go_sem]
        refine call_of (slicesClone_sat fs (by omega)) (by simp -implicitDefEqProofs (maxSteps := 2000000) only [go_sem]) (callOk_still (by kernel_rfl) (by simp only [List.all_cons, List.all_nil, LV.still, LV.leaves, Leaf.still, ints_still, ris_still, eds_still, rels_still, iss_still, ems_still, Bool.and_self, Bool.and_true])) (by simp -implicitDefEqProofs (maxSteps := 2000000) only [go_sem]) ?_
        simp -implicitDefEqProofs (maxSteps := 2000000) only [go_sem]
        repeat (refine ⟨by omega, ?_⟩)
        refine tr_and (by kernel_rfl) ?_
        rfl
      · simp -implicitDefEqProofs (maxSteps := 2000000) only [go_sem]
        refine bwp_awp mixed (by kernel_rfl) ?_
        simp -implicitDefEqProofs (maxSteps := 2000000) only [go_sem, wk]
        refine ⟨k + 1, c1, by omega, ?_⟩
        rw [found_succ, ho]
        exact (le_st' _ _ [⟨960, some _, false, 2, _⟩] [] _ (by simp -implicitDefEqProofs (maxSteps := 2000000) only [go_sem] <;> and_intros <;> rfl) (by simp -implicitDefEqProofs (maxSteps := 2000000) only [go_sem] <;> and_intros <;> rfl) (by simp -implicitDefEqProofs (maxSteps := 2000000) only [go_sem] <;> and_intros <;> rfl) (by rfl))
  · obtain rfl : k = d.facts.length := by omega
    refine bwp_seq mixed (by kernel_rfl) ?_
    simp -implicitDefEqProofs (maxSteps := 2000000) only [go_sem, c1]
    refine bwp_seq mixed (by kernel_rfl) ?_
    simp -implicitDefEqProofs (maxSteps := 2000000) only [go_sem]
    rw [walkE_succ]
    exact (le_st' _ _ [⟨960, some _, false, 2, _⟩] [] _ (by simp -implicitDefEqProofs (maxSteps := 2000000) only [go_sem] <;> and_intros <;> rfl) (by simp -implicitDefEqProofs (maxSteps := 2000000) only [go_sem] <;> and_intros <;> rfl) (by simp -implicitDefEqProofs (maxSteps := 2000000) only [go_sem] <;> and_intros <;> rfl) (by rfl))
theorem searchE_all (d : Db) (q : Qu) {n : Nat} (F : FitE d q n) : ∀ (m : Nat) (vs fs : List Int) (o : List Emb), vs.length = n → fs.length + m = q.atoms.length → o.length + 14 ^ m ≤ 16384 →
    RSat Tryz.prog 47 [lInts vs, lInts fs] (embT d q o) (embT d q (o ++ walkE d.facts q.atoms m vs fs))
  | 0, vs, fs, o, h1, h2, h3 => searchE_zero d q vs fs o (by have := F.small; omega) (by omega) (by have := F.atoms; omega) (by omega)
  | m + 1, vs, fs, o, h1, h2, h3 =>
    searchE_step d q F m fs.length (by omega) (by omega) vs fs o h1 rfl (by rw [Nat.pow_succ] at h3; omega)
      fun k x o h4 h5 => searchE_all d q F m x (fs ++ [(k : Int)]) o h4 (by rw [List.length_append, List.length_singleton]; omega) h5
set_option maxHeartbeats 4000000 in
theorem implFindEmbeddings_sat (d : Db) (q : Qu) (h : d.fit) (hq : q.ok) : Sat Tryz.prog 13 [lDb d, lQu q] [oEms (embs d q)] [g2, g3] := by
  refine sat_of_bodyB Tryz.func13 rfl (by kernel_rfl) (rs := [.tmp 4]) rfl rfl rfl ?_
  unfold embs
  refine bwp_seq mixed (by kernel_rfl) ?_
  simp -implicitDefEqProofs (maxSteps := 2000000) only [go_sem]
  refine bwp_seq mixed (by kernel_rfl) ?_
  simp -implicitDefEqProofs (maxSteps := 2000000) only [go_sem]
  refine bwp_seq mixed (by kernel_rfl) ?_
  simp -implicitDefEqProofs (maxSteps := 2000000) only [go_sem]
  rcases g : queryFor d q
  · rw [if_neg (by simp)]
    refine call_of (implIsQueryFor_sat d q h hq) (by simp -implicitDefEqProofs (maxSteps := 2000000) only [go_sem, g]) (by kernel_rfl) (by simp -implicitDefEqProofs (maxSteps := 2000000) only [go_sem, g]) ?_
    simp -implicitDefEqProofs (maxSteps := 2000000) only [go_sem, g]
    first | done | rfl | exact ⟨rfl, rfl⟩ | exact ⟨rfl, rfl, rfl⟩ | (refine tr_and ?_ ?_ <;> first | rfl | exact ⟨rfl, rfl⟩ | kernel_rfl)
  have F := fitE g
  have hp := goodQu_parts (queryFor_qu g)
  rw [if_pos rfl]
  rcases q with ⟨vc, ats, fr⟩
  simp only at hp F
  obtain ⟨n, rfl⟩ : ∃ n : Nat, vc = n := ⟨vc.toNat, by omega⟩
  rw [Int.toNat_natCast] at F
  have hw := searchE_all d ⟨n, ats, fr⟩ F ats.length (List.replicate n (-1)) [] [] (by simp) (by simp) (by have := pow14E (m := ats.length) (by omega); simp only [List.length_nil]; omega)
  rw [List.nil_append] at hw
  refine call_of (implIsQueryFor_sat d ⟨n, ats, fr⟩ h hq) (by simp -implicitDefEqProofs (maxSteps := 2000000) only [go_sem, g]) (by kernel_rfl) (by simp -implicitDefEqProofs (maxSteps := 2000000) only [go_sem, g]) ?_
  simp -implicitDefEqProofs (maxSteps := 2000000) only [go_sem, g]
  refine bwp_seq mixed (by kernel_rfl) ?_
  simp -implicitDefEqProofs (maxSteps := 2000000) only [go_sem]
  refine bwp_seq mixed (by kernel_rfl) ?_
  simp -implicitDefEqProofs (maxSteps := 2000000) only [go_sem]
  refine bwp_seqB (bwp_callD mixed hw [1064, 1256, 1000, 1640] 1192 960 4000 [(5, .one (.vad 1256 0))] rfl rfl rfl (by kernel_rfl) (by kernel_rfl) ?_ ?_)
  · simp -implicitDefEqProofs (maxSteps := 2000000) only [go_sem]
    refine call_of (unknown_sat F.small) (by simp -implicitDefEqProofs (maxSteps := 2000000) only [go_sem]) (callOk_still (by kernel_rfl) (by simp only [List.all_cons, List.all_nil, LV.still, LV.leaves, Leaf.still, ints_still, ris_still, eds_still, rels_still, iss_still, ems_still, Bool.and_self, Bool.and_true])) (by simp -implicitDefEqProofs (maxSteps := 2000000) only [go_sem]) ?_
    simp -implicitDefEqProofs (maxSteps := 2000000) only [go_sem]
    refine tr_and (by kernel_rfl) ?_
    refine ⟨⟨?_, rfl⟩, rfl⟩
    rw [List.take_replicate, Nat.min_self]
    exact ⟨rfl, rfl⟩
  · simp -implicitDefEqProofs (maxSteps := 2000000) only [go_sem]
    refine bwp_awp mixed (by kernel_rfl) ?_
    simp -implicitDefEqProofs (maxSteps := 2000000) only [go_sem]
    first | done | rfl | exact ⟨rfl, rfl⟩ | exact ⟨rfl, rfl, rfl⟩ | (refine tr_and ?_ ?_ <;> first | rfl | exact ⟨rfl, rfl⟩ | kernel_rfl)
theorem embs_len (d : Db) (q : Qu) : (embs d q).length ≤ 2744 := by
  unfold embs
  split
  · rename_i g
    have F := fitE g
    have := walkE_len (ats := q.atoms) F.facts q.atoms.length (List.replicate q.vc.toNat (-1)) []
    have := pow14E F.atoms
    omega
  · simp
theorem embs_mem {d : Db} {q : Qu} : ∀ e ∈ embs d q, e.vs.length ≤ 4 ∧ e.fs.length ≤ 3 := by
  intro e he
  unfold embs at he
  split at he
  · rename_i g
    have F := fitE g
    obtain ⟨h1, h2⟩ := walkE_mem e he
    have := F.small
    have := F.atoms
    rw [h1, h2]
    simp
    omega
  · cases he
end Go.Proofs.YtbalifgacjmbpabGreat.A
