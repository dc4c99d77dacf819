/- Packed by pack.py: FEm4 FWit1 FHold FBlk5 FWit2 FCl2 FHld FKC FMis5 FMisP FKcrP FCertP FHld2 WCertainty LKB LCertainty -/
import Derived.Test.YtedciihjgbkjgaaGreatAZ3Certainty
import Derived.Test.YtedciihjgbkjgaaGreatA44
import Derived.Test.YtedciihjgbkjgaaGreatAZ2Certainty
import Derived.Test.YtedciihjgbkjgaaGreatAZ1Certainty
import Derived.Test.YtedciihjgbkjgaaGreatRows

/- EMBEDDINGS: the reference's function; the program's search. Conditions: none. -/
namespace Go.Proofs.YtedciihjgbkjgaaGreat.A
open Go
set_option linter.unusedSimpArgs false
set_option linter.unusedVariables false
set_option maxRecDepth 100000

theorem ints_nilfE : (ints [] = frz []) = True := eq_true rfl
attribute [go_sem] ints_nilfE
theorem specFindEmbeddings_sat (d : Db) (q : Qu) (h : d.fit) (hq : q.fit) : Sat Tryz.prog 17 [lDb d, lQu q] [oEms (embs d q)] [g2, g3] := by
  refine sat_of_body mixed Tryz.func17 rfl (by kernel_rfl) (by kernel_rfl) (rs := [.tmp 4]) rfl rfl rfl ?_
  unfold embs
  simp -implicitDefEqProofs (maxSteps := 2000000) only [go_sem]
  rcases g : queryFor d q
  · rw [if_neg (by simp)]
    refine call_of (specIsQueryFor_sat d q h hq) (by simp -implicitDefEqProofs (maxSteps := 2000000) only [go_sem, g]) (by kernel_rfl) (by simp -implicitDefEqProofs (maxSteps := 2000000) only [go_sem, g]) ?_
    simp -implicitDefEqProofs (maxSteps := 2000000) only [go_sem, g]
    first | done | rfl | exact ⟨rfl, rfl⟩ | exact ⟨rfl, rfl, rfl⟩ | (refine tr_and ?_ ?_ <;> first | rfl | exact ⟨rfl, rfl⟩ | kernel_rfl)
  have F := fitE g
  have hp := goodQu_parts (queryFor_qu g)
  rw [if_pos rfl]
  rcases q with ⟨vc, ats, fr⟩
  simp only at hp F
  obtain ⟨n, rfl⟩ : ∃ n : Nat, vc = n := ⟨vc.toNat, by omega⟩
  rw [Int.toNat_natCast] at F
  have hw := l12Walk_sat d ⟨n, ats, fr⟩ F ats.length (List.replicate n (-1)) [] (Nat.le_refl _) (by simp) (by have := F.atoms; simp only at this; simp; omega)
  simp only [Nat.sub_self] at hw
  refine call_of (specIsQueryFor_sat d ⟨n, ats, fr⟩ h hq) (by simp -implicitDefEqProofs (maxSteps := 2000000) only [go_sem, g]) (by kernel_rfl) (by simp -implicitDefEqProofs (maxSteps := 2000000) only [go_sem, g]) ?_
  simp -implicitDefEqProofs (maxSteps := 2000000) only [go_sem, g]
  refine call_of (l12None_sat F.small) (by simp -implicitDefEqProofs (maxSteps := 2000000) only [go_sem]) (callOk_still (by kernel_rfl) (by simp only [List.all_cons, List.all_nil, LV.still, LV.leaves, Leaf.still, ints_still, ris_still, eds_still, rels_still, iss_still, ems_still, Bool.and_self, Bool.and_true])) (by simp -implicitDefEqProofs (maxSteps := 2000000) only [go_sem]) ?_
  simp -implicitDefEqProofs (maxSteps := 2000000) only [go_sem]
  refine call_of (hw) (by simp -implicitDefEqProofs (maxSteps := 2000000) only [go_sem, List.take_replicate, Nat.min_self]) (callOk_still (by kernel_rfl) (by simp only [List.all_cons, List.all_nil, LV.still, LV.leaves, Leaf.still, ints_still, ris_still, eds_still, rels_still, iss_still, ems_still, Bool.and_self, Bool.and_true])) (by simp -implicitDefEqProofs (maxSteps := 2000000) only [go_sem, List.take_replicate, Nat.min_self]) ?_
  simp -implicitDefEqProofs (maxSteps := 2000000) only [go_sem, List.take_replicate, Nat.min_self]
  first | (with_reducible refine tr_and ?_ ?_; focus kernel_rfl) | (with_reducible refine tr_only ?_; kernel_rfl) | skip
  first | done | rfl | exact ⟨rfl, rfl⟩ | exact ⟨rfl, rfl, rfl⟩ | (refine tr_and ?_ ?_ <;> first | rfl | exact ⟨rfl, rfl⟩ | kernel_rfl)

abbrev embT (d : Db) (q : Qu) (o : List Emb) : List CV := [.flds [.sc (.int .i64 q.vc), .im 2 (ris 0 q.atoms), .im 1 (ints q.free)], .own 2 (ems 999 o), .flds [.im 3 (rels d.rels), .im 2 (ris 0 d.facts)], .self 93]
theorem embT_stm (d : Db) (q : Qu) (o : List Emb) : ∀ w rows, CV.own w rows ∈ embT d q o → stm 999 rows = rows := by
  intro w rows h
  simp at h
  obtain ⟨rfl, rfl⟩ := h
  exact ems_stm 999 998 o
theorem searchE_zero (d : Db) (q : Qu) (vs fs : List Int) (o : List Emb) (h1 : vs.length ≤ 4) (h2 : fs.length = q.atoms.length) (h3 : fs.length ≤ 3) (ho : o.length ≤ 16384) :
    RSat Tryz.prog 93 [lInts vs, lInts fs] (embT d q o) (embT d q (o ++ [⟨vs, fs⟩])) := by
  refine rsat_of_body Tryz.func93 rfl (by kernel_rfl) rfl rfl (embT_stm _ _ _) ?_
  have e : ((fs.length : Int) == (q.atoms.length : Int)) = true := by rw [h2]; simp
  refine bwp_seq mixed (by kernel_rfl) ?_
  simp -implicitDefEqProofs (maxSteps := 2000000) only [go_sem, e]
  refine call_of (slicesClone_sat vs (by omega)) (by simp -implicitDefEqProofs (maxSteps := 2000000) only [go_sem]) (callOk_still (by kernel_rfl) (by simp only [List.all_cons, List.all_nil, LV.still, LV.leaves, Leaf.still, ints_still, ris_still, eds_still, rels_still, iss_still, ems_still, Bool.and_self, Bool.and_true])) (by simp -implicitDefEqProofs (maxSteps := 2000000) only [go_sem]) ?_
  simp -implicitDefEqProofs (maxSteps := 2000000) only [go_sem]
  refine call_of (slicesClone_sat fs (by omega)) (by simp -implicitDefEqProofs (maxSteps := 2000000) only [go_sem]) (callOk_still (by kernel_rfl) (by simp only [List.all_cons, List.all_nil, LV.still, LV.leaves, Leaf.still, ints_still, ris_still, eds_still, rels_still, iss_still, ems_still, Bool.and_self, Bool.and_true])) (by simp -implicitDefEqProofs (maxSteps := 2000000) only [go_sem]) ?_
  simp -implicitDefEqProofs (maxSteps := 2000000) only [go_sem]
  repeat (refine ⟨by omega, ?_⟩)
  first | (with_reducible refine tr_and ?_ ?_; focus kernel_rfl) | (with_reducible refine tr_only ?_; kernel_rfl) | skip
  exact (le_st' _ _ [⟨960, some _, false, 2, _⟩] [] _ (by simp -implicitDefEqProofs (maxSteps := 2000000) only [go_sem, rep1, List.set_cons_zero, ems_one] <;> and_intros <;> rfl) (by simp -implicitDefEqProofs (maxSteps := 2000000) only [go_sem, rep1, List.set_cons_zero, ems_one] <;> and_intros <;> rfl) (by simp -implicitDefEqProofs (maxSteps := 2000000) only [go_sem, rep1, List.set_cons_zero, ems_one] <;> and_intros <;> rfl) (by rfl))
theorem searchE_step (d : Db) (q : Qu) {n : Nat} (F : FitE d q n) (m j : Nat) (hj : j = q.atoms.length - (m + 1)) (c0 : j < q.atoms.length) (vs fs : List Int) (o : List Emb) (h1 : vs.length = n) (h2 : fs.length = j) (ho : o.length + 14 * 14 ^ m ≤ 16384)
    (ih : ∀ (k : Nat) (x : List Int) (o : List Emb), x.length = n → o.length + 14 ^ m ≤ 16384 → RSat Tryz.prog 93 [lInts x, lInts (fs ++ [(k : Int)])] (embT d q o) (embT d q (o ++ walkE d.facts q.atoms m x (fs ++ [(k : Int)])))) :
    RSat Tryz.prog 93 [lInts vs, lInts fs] (embT d q o) (embT d q (o ++ walkE d.facts q.atoms (m + 1) vs fs)) := by
  refine rsat_of_body Tryz.func93 rfl (by kernel_rfl) rfl rfl (embT_stm _ _ _) ?_
  have f1 := F.facts
  have f2 := F.atoms
  have f3 := F.small
  have e : ((fs.length : Int) == (q.atoms.length : Int)) = false := by rw [beq_eq_false_iff_ne]; omega
  have c0' : fs.length < q.atoms.length := by omega
  refine bwp_seq mixed (by kernel_rfl) ?_
  simp -implicitDefEqProofs (maxSteps := 2000000) only [go_sem, e]
  refine bwp_seq mixed (by kernel_rfl) ?_
  simp -implicitDefEqProofs (maxSteps := 2000000) only [go_sem, c0']
  refine bwp_seq mixed (by kernel_rfl) ?_
  simp -implicitDefEqProofs (maxSteps := 2000000) only [go_sem]
  refine bwp_block ?_
  refine bwp_loop Nat (fun k => mkSt [(0, .one (.im 1 (ints vs))), (1, .one (.im 1 (ints fs))), (2, .one (.vad 900 0)), (3, .one (.vad 901 0)), (4, .one (.vad 902 0)), (5, .one (.vad 903 0)), (8, .one (.ipt (fRI (q.atoms.getD fs.length default)) 0)), (34, .one (.im 2 (ris 0 d.facts))), (35, .sc (.int .i64 d.facts.length)), (36, .sc (.int .i64 k))]
    [(900, sQu q), (901, [.ref 960 2 0 (o ++ found (oneE d.facts q.atoms m vs fs) k).length]), (902, sDb d), (903, [.fnv 93 [900, 901, 902, 903]])] [(960, (2, ems 999 (o ++ found (oneE d.facts q.atoms m vs fs) k)))] 4000)
    (fun k => k ≤ d.facts.length) (fun k => d.facts.length - k) 0 (by omega) (le_st' _ _ [⟨960, some _, false, 2, _⟩] [1768] _ (by simp -implicitDefEqProofs (maxSteps := 2000000) only [go_sem, found_zero, List.append_nil] <;> and_intros <;> first | rfl | exact List.mem_singleton_self _ | decide | (refine ⟨_, rfl, Eq.symm ?_⟩; simp -implicitDefEqProofs (maxSteps := 2000000) only [go_sem, found_zero, List.append_nil]; done) | (refine ⟨_, rfl, Eq.symm ?_⟩; simp -implicitDefEqProofs (maxSteps := 2000000) only [go_sem, found_zero, List.append_nil]; rfl)) (by simp -implicitDefEqProofs (maxSteps := 2000000) only [go_sem, found_zero, List.append_nil] <;> and_intros <;> first | rfl | exact List.mem_singleton_self _ | decide | (refine ⟨_, rfl, Eq.symm ?_⟩; simp -implicitDefEqProofs (maxSteps := 2000000) only [go_sem, found_zero, List.append_nil]; done) | (refine ⟨_, rfl, Eq.symm ?_⟩; simp -implicitDefEqProofs (maxSteps := 2000000) only [go_sem, found_zero, List.append_nil]; rfl)) (by simp -implicitDefEqProofs (maxSteps := 2000000) only [go_sem, found_zero, List.append_nil] <;> and_intros <;> rfl) (by rfl)) ?_
  rintro k h4
  have hlen : (found (oneE d.facts q.atoms m vs fs) k).length ≤ k * 14 ^ m := by
    refine found_len (b := 14 ^ m) (fun i => ?_) k
    unfold oneE
    split
    · exact walkE_len f1 m _ _
    · simp
  by_cases c1 : k < d.facts.length
  · have wk : IntKind.i64.wrap ((k : Int) + 1) = ((k + 1 : Nat) : Int) := i64_succ (by omega)
    have hat : atomAt q.atoms m = q.atoms.getD fs.length default := by rw [atomAt, ← hj, h2]
    refine bwp_seq mixed (by kernel_rfl) ?_
    simp -implicitDefEqProofs (maxSteps := 2000000) only [go_sem, c1]
    refine bwp_seq mixed (by kernel_rfl) ?_
    simp -implicitDefEqProofs (maxSteps := 2000000) only [go_sem]
    refine bwp_seqB (bwp_block ?_)
    refine bwp_seq mixed (by kernel_rfl) ?_
    simp -implicitDefEqProofs (maxSteps := 2000000) only [go_sem, c1]
    refine bwp_seq mixed (by kernel_rfl) ?_
    by_cases d1 : (d.facts.getD k default).r = (q.atoms.getD fs.length default).r
    case neg =>
      have e1 : ((d.facts.getD k default).r != (q.atoms.getD fs.length default).r) = true := by rw [bne, Bool.not_eq_true', beq_eq_false_iff_ne]; exact d1
      have hm : meet (atomAt q.atoms m) (d.facts.getD k default) vs = none := by rw [hat, meet, if_neg d1]
      have ho := oneE_none (fs := fs) hm
      simp -implicitDefEqProofs (maxSteps := 2000000) only [go_sem, e1]
      refine bwp_awp mixed (by kernel_rfl) ?_
      simp -implicitDefEqProofs (maxSteps := 2000000) only [go_sem, wk]
      refine ⟨k + 1, c1, by omega, ?_⟩
      rw [found_succ, ho, List.append_nil]
      exact (le_st' _ _ [⟨960, some _, false, 2, _⟩] [] _ (by simp -implicitDefEqProofs (maxSteps := 2000000) only [go_sem] <;> and_intros <;> rfl) (by simp -implicitDefEqProofs (maxSteps := 2000000) only [go_sem] <;> and_intros <;> rfl) (by simp -implicitDefEqProofs (maxSteps := 2000000) only [go_sem] <;> and_intros <;> rfl) (by rfl))
    have e1 : ((d.facts.getD k default).r != (q.atoms.getD fs.length default).r) = false := by rw [bne, d1]; simp
    have hls := F.lens fs.length k c0' c1 d1
    have hvl := F.vals k c1
    simp -implicitDefEqProofs (maxSteps := 2000000) only [go_sem, e1]
    refine bwp_seq mixed (by kernel_rfl) ?_
    simp -implicitDefEqProofs (maxSteps := 2000000) only [go_sem]
    rcases hu : uniS (q.atoms.getD fs.length default).l (d.facts.getD k default).l vs (q.atoms.getD fs.length default).l.length with _ | x
    · have hm : meet (atomAt q.atoms m) (d.facts.getD k default) vs = none := by rw [hat, meet, if_pos d1, hu]
      have ho := oneE_none (fs := fs) hm
      refine call_of (unify_sat vs (q.atoms.getD fs.length default).l (d.facts.getD k default).l (by omega) (by omega) hvl (by rw [h1]; exact F.terms fs.length c0')) (by simp -implicitDefEqProofs (maxSteps := 2000000) only [go_sem, hu, Option.isSome_none, Option.getD_none]) (callOk_still (by kernel_rfl) (by simp only [List.all_cons, List.all_nil, LV.still, LV.leaves, Leaf.still, ints_still, ris_still, eds_still, rels_still, iss_still, ems_still, Bool.and_self, Bool.and_true])) (by simp -implicitDefEqProofs (maxSteps := 2000000) only [go_sem, hu, Option.isSome_none, Option.getD_none]) ?_
      simp -implicitDefEqProofs (maxSteps := 2000000) only [go_sem, hu, Option.isSome_none, Option.getD_none]
      refine bwp_seq mixed (by kernel_rfl) ?_
      simp -implicitDefEqProofs (maxSteps := 2000000) only [go_sem]
      refine bwp_cond (t := false) (by simp -implicitDefEqProofs (maxSteps := 2000000) only [go_sem]) (fun h => by cases h) fun _ => bwp_skip ?_
      simp -implicitDefEqProofs (maxSteps := 2000000) only [go_sem]
      refine bwp_awp mixed (by kernel_rfl) ?_
      simp -implicitDefEqProofs (maxSteps := 2000000) only [go_sem, wk]
      refine ⟨k + 1, c1, by omega, ?_⟩
      rw [found_succ, ho, List.append_nil]
      exact (le_st' _ _ [⟨960, some _, false, 2, _⟩] [] _ (by simp -implicitDefEqProofs (maxSteps := 2000000) only [go_sem] <;> and_intros <;> rfl) (by simp -implicitDefEqProofs (maxSteps := 2000000) only [go_sem] <;> and_intros <;> rfl) (by simp -implicitDefEqProofs (maxSteps := 2000000) only [go_sem] <;> and_intros <;> rfl) (by rfl))
    · have hm : meet (atomAt q.atoms m) (d.facts.getD k default) vs = some x := by rw [hat, meet, if_pos d1, hu]
      have ho := oneE_some (fs := fs) hm
      have hxl := meet_len hm
      refine call_of (unify_sat vs (q.atoms.getD fs.length default).l (d.facts.getD k default).l (by omega) (by omega) hvl (by rw [h1]; exact F.terms fs.length c0')) (by simp -implicitDefEqProofs (maxSteps := 2000000) only [go_sem, hu, Option.isSome_some, Option.getD_some]) (callOk_still (by kernel_rfl) (by simp only [List.all_cons, List.all_nil, LV.still, LV.leaves, Leaf.still, ints_still, ris_still, eds_still, rels_still, iss_still, ems_still, Bool.and_self, Bool.and_true])) (by simp -implicitDefEqProofs (maxSteps := 2000000) only [go_sem, hu, Option.isSome_some, Option.getD_some]) ?_
      simp -implicitDefEqProofs (maxSteps := 2000000) only [go_sem, hu, Option.isSome_some, Option.getD_some]
      refine bwp_seq mixed (by kernel_rfl) ?_
      simp -implicitDefEqProofs (maxSteps := 2000000) only [go_sem]
      refine bwp_cond (t := true) (by simp -implicitDefEqProofs (maxSteps := 2000000) only [go_sem]) (fun _ => ?_) fun h => by cases h
      refine bwp_callD mixed (ih k x (o ++ found (oneE d.facts q.atoms m vs fs) k) (by omega) (by
        have := Nat.mul_le_mul_right (14 ^ m) (show k + 1 ≤ 14 by omega)
        rw [Nat.succ_mul] at this
        rw [List.length_append]; omega)) [900, 901, 902, 903] 960 960 8000
        [(0, .one (.im 1 (ints vs))), (1, .one (.im 1 (ints fs))), (2, .one (.vad 900 0)), (3, .one (.vad 901 0)), (4, .one (.vad 902 0)), (5, .one (.vad 903 0)), (8, .one (.ipt (fRI (q.atoms.getD fs.length default)) 0)), (34, .one (.im 2 (ris 0 d.facts))), (35, .sc (.int .i64 d.facts.length)), (36, .sc (.int .i64 k))]
        rfl rfl rfl (by kernel_rfl) (by kernel_rfl) ?_ ?_
      · simp -implicitDefEqProofs (maxSteps := 2000000) only [go_sem]
        refine call_of (slicesClone_sat fs (by omega)) (by simp -implicitDefEqProofs (maxSteps := 2000000) only [go_sem]) (callOk_still (by kernel_rfl) (by simp only [List.all_cons, List.all_nil, LV.still, LV.leaves, Leaf.still, ints_still, ris_still, eds_still, rels_still, iss_still, ems_still, Bool.and_self, Bool.and_true])) (by simp -implicitDefEqProofs (maxSteps := 2000000) only [go_sem]) ?_
        simp -implicitDefEqProofs (maxSteps := 2000000) only [go_sem]
        repeat (refine ⟨by omega, ?_⟩)
        refine tr_and (by kernel_rfl) ?_
        rfl
      · simp -implicitDefEqProofs (maxSteps := 2000000) only [go_sem]
        refine bwp_awp mixed (by kernel_rfl) ?_
        simp -implicitDefEqProofs (maxSteps := 2000000) only [go_sem, wk]
        refine ⟨k + 1, c1, by omega, ?_⟩
        rw [found_succ, ho]
        exact (le_st' _ _ [⟨960, some _, false, 2, _⟩] [] _ (by simp -implicitDefEqProofs (maxSteps := 2000000) only [go_sem] <;> and_intros <;> rfl) (by simp -implicitDefEqProofs (maxSteps := 2000000) only [go_sem] <;> and_intros <;> rfl) (by simp -implicitDefEqProofs (maxSteps := 2000000) only [go_sem] <;> and_intros <;> rfl) (by rfl))
  · obtain rfl : k = d.facts.length := by omega
    refine bwp_seq mixed (by kernel_rfl) ?_
    simp -implicitDefEqProofs (maxSteps := 2000000) only [go_sem, c1]
    refine bwp_seq mixed (by kernel_rfl) ?_
    simp -implicitDefEqProofs (maxSteps := 2000000) only [go_sem]
    rw [walkE_succ]
    exact (le_st' _ _ [⟨960, some _, false, 2, _⟩] [] _ (by simp -implicitDefEqProofs (maxSteps := 2000000) only [go_sem] <;> and_intros <;> rfl) (by simp -implicitDefEqProofs (maxSteps := 2000000) only [go_sem] <;> and_intros <;> rfl) (by simp -implicitDefEqProofs (maxSteps := 2000000) only [go_sem] <;> and_intros <;> rfl) (by rfl))
theorem searchE_all (d : Db) (q : Qu) {n : Nat} (F : FitE d q n) : ∀ (m : Nat) (vs fs : List Int) (o : List Emb), vs.length = n → fs.length + m = q.atoms.length → o.length + 14 ^ m ≤ 16384 →
    RSat Tryz.prog 93 [lInts vs, lInts fs] (embT d q o) (embT d q (o ++ walkE d.facts q.atoms m vs fs))
  | 0, vs, fs, o, h1, h2, h3 => searchE_zero d q vs fs o (by have := F.small; omega) (by omega) (by have := F.atoms; omega) (by omega)
  | m + 1, vs, fs, o, h1, h2, h3 =>
    searchE_step d q F m fs.length (by omega) (by omega) vs fs o h1 rfl (by rw [Nat.pow_succ] at h3; omega)
      fun k x o h4 h5 => searchE_all d q F m x (fs ++ [(k : Int)]) o h4 (by rw [List.length_append, List.length_singleton]; omega) h5
set_option maxHeartbeats 4000000 in
theorem implFindEmbeddings_sat (d : Db) (q : Qu) (h : d.fit) (hq : q.ok) : Sat Tryz.prog 69 [lDb d, lQu q] [oEms (embs d q)] [g2, g3] := by
  refine sat_of_bodyB Tryz.func69 rfl (by kernel_rfl) (rs := [.tmp 4]) rfl rfl rfl ?_
  unfold embs
  refine bwp_seq mixed (by kernel_rfl) ?_
  simp -implicitDefEqProofs (maxSteps := 2000000) only [go_sem]
  refine bwp_seq mixed (by kernel_rfl) ?_
  simp -implicitDefEqProofs (maxSteps := 2000000) only [go_sem]
  refine bwp_seq mixed (by kernel_rfl) ?_
  simp -implicitDefEqProofs (maxSteps := 2000000) only [go_sem]
  rcases g : queryFor d q
  · rw [if_neg (by simp)]
    refine call_of (implIsQueryFor_sat d q h hq) (by simp -implicitDefEqProofs (maxSteps := 2000000) only [go_sem, g]) (by kernel_rfl) (by simp -implicitDefEqProofs (maxSteps := 2000000) only [go_sem, g]) ?_
    simp -implicitDefEqProofs (maxSteps := 2000000) only [go_sem, g]
    first | done | rfl | exact ⟨rfl, rfl⟩ | exact ⟨rfl, rfl, rfl⟩ | (refine tr_and ?_ ?_ <;> first | rfl | exact ⟨rfl, rfl⟩ | kernel_rfl)
  have F := fitE g
  have hp := goodQu_parts (queryFor_qu g)
  rw [if_pos rfl]
  rcases q with ⟨vc, ats, fr⟩
  simp only at hp F
  obtain ⟨n, rfl⟩ : ∃ n : Nat, vc = n := ⟨vc.toNat, by omega⟩
  rw [Int.toNat_natCast] at F
  have hw := searchE_all d ⟨n, ats, fr⟩ F ats.length (List.replicate n (-1)) [] [] (by simp) (by simp) (by have := pow14E (m := ats.length) (by omega); simp only [List.length_nil]; omega)
  rw [List.nil_append] at hw
  refine call_of (implIsQueryFor_sat d ⟨n, ats, fr⟩ h hq) (by simp -implicitDefEqProofs (maxSteps := 2000000) only [go_sem, g]) (by kernel_rfl) (by simp -implicitDefEqProofs (maxSteps := 2000000) only [go_sem, g]) ?_
  simp -implicitDefEqProofs (maxSteps := 2000000) only [go_sem, g]
  refine bwp_seq mixed (by kernel_rfl) ?_
  simp -implicitDefEqProofs (maxSteps := 2000000) only [go_sem]
  refine bwp_seq mixed (by kernel_rfl) ?_
  simp -implicitDefEqProofs (maxSteps := 2000000) only [go_sem]
  refine bwp_seqB (bwp_callD mixed hw [1064, 1256, 1000, 1640] 1192 960 4000 [(5, .one (.vad 1256 0))] rfl rfl rfl (by kernel_rfl) (by kernel_rfl) ?_ ?_)
  · simp -implicitDefEqProofs (maxSteps := 2000000) only [go_sem]
    refine call_of (unknown_sat F.small) (by simp -implicitDefEqProofs (maxSteps := 2000000) only [go_sem]) (callOk_still (by kernel_rfl) (by simp only [List.all_cons, List.all_nil, LV.still, LV.leaves, Leaf.still, ints_still, ris_still, eds_still, rels_still, iss_still, ems_still, Bool.and_self, Bool.and_true])) (by simp -implicitDefEqProofs (maxSteps := 2000000) only [go_sem]) ?_
    simp -implicitDefEqProofs (maxSteps := 2000000) only [go_sem]
    refine tr_and (by kernel_rfl) ?_
    refine ⟨⟨?_, rfl⟩, rfl⟩
    rw [List.take_replicate, Nat.min_self]
    exact ⟨rfl, rfl⟩
  · simp -implicitDefEqProofs (maxSteps := 2000000) only [go_sem]
    refine bwp_awp mixed (by kernel_rfl) ?_
    simp -implicitDefEqProofs (maxSteps := 2000000) only [go_sem]
    first | done | rfl | exact ⟨rfl, rfl⟩ | exact ⟨rfl, rfl, rfl⟩ | (refine tr_and ?_ ?_ <;> first | rfl | exact ⟨rfl, rfl⟩ | kernel_rfl)
theorem embs_len (d : Db) (q : Qu) : (embs d q).length ≤ 2744 := by
  unfold embs
  split
  · rename_i g
    have F := fitE g
    have := walkE_len (ats := q.atoms) F.facts q.atoms.length (List.replicate q.vc.toNat (-1)) []
    have := pow14E F.atoms
    omega
  · simp
theorem embs_mem {d : Db} {q : Qu} : ∀ e ∈ embs d q, e.vs.length ≤ 4 ∧ e.fs.length ≤ 3 := by
  intro e he
  unfold embs at he
  split at he
  · rename_i g
    have F := fitE g
    obtain ⟨h1, h2⟩ := walkE_mem e he
    have := F.small
    have := F.atoms
    rw [h1, h2]
    simp
    omega
  · cases he
end Go.Proofs.YtedciihjgbkjgaaGreat.A


/- WITNESSES ARE PARTIAL REPAIRS: the plain law. Conditions: none. -/
namespace Go.Proofs.YtedciihjgbkjgaaGreat.A
open Go
set_option linter.unusedSimpArgs false
set_option linter.unusedVariables false

theorem meet_rel {a f : RI} {vs x : List Int} (h : meet a f vs = some x) : f.r = a.r := by
  unfold meet at h
  split at h
  · assumption
  · cases h
/-- The chosen facts are of the atoms' relations. -/
theorem walkE_rel {ds ats : List RI} : ∀ {m : Nat} {vs fs : List Int}, fs.length + m = ats.length → (∀ t, t < fs.length → ∃ i : Nat, fs.getD t 0 = i ∧ i < ds.length ∧ (ds.getD i default).r = (ats.getD t default).r) →
    ∀ e ∈ walkE ds ats m vs fs, e.fs.length = ats.length ∧ ∀ t, t < ats.length → ∃ i : Nat, e.fs.getD t 0 = i ∧ i < ds.length ∧ (ds.getD i default).r = (ats.getD t default).r
  | 0, vs, fs, hl, hf, e, he => by
    simp only [walkE, List.mem_singleton] at he
    subst he
    exact ⟨by simpa using hl, fun t ht => hf t (by omega)⟩
  | m + 1, vs, fs, hl, hf, e, he => by
    rw [walkE_succ, found_mem] at he
    obtain ⟨i, hi, he⟩ := he
    unfold oneE at he
    split at he
    · rename_i x hx
      refine walkE_rel (by rw [List.length_append, List.length_singleton]; omega) (fun t ht => ?_) e he
      rw [List.length_append, List.length_singleton] at ht
      rcases Nat.lt_or_ge t fs.length with h | h
      · obtain ⟨j, h1, h2, h3⟩ := hf t h
        refine ⟨j, ?_, h2, h3⟩
        rw [List.getD_eq_getElem?_getD, List.getElem?_append_left h, ← List.getD_eq_getElem?_getD]; exact h1
      · obtain rfl : t = fs.length := by omega
        refine ⟨i, ?_, hi, ?_⟩
        · rw [List.getD_eq_getElem?_getD, List.getElem?_append_right (Nat.le_refl _), Nat.sub_self]; rfl
        · have := meet_rel hx
          rw [this, atomAt]
          congr 2; omega
    · cases he
theorem newRels {l : List Rel} {q : Qu} (h : goodQu l q = true) {s t : Nat} (hs : s < t) (ht : t < q.atoms.length) : (q.atoms.getD s default).r ≠ (q.atoms.getD t default).r := by
  have h1 := goodQu_at h ht
  unfold atomOk at h1
  simp only [Bool.and_eq_true] at h1
  have := upTo_at h1.2.1 hs
  unfold newRel at this
  rw [Bool.not_eq_true', beq_eq_false_iff_ne] at this
  exact this
theorem idxs_of {l : List Int} {n : Int} (h1 : l.Pairwise (· < ·)) (h2 : ∀ x ∈ l, 0 ≤ x ∧ x < n) : idxs l n = true := by
  unfold idxs
  refine upTo_true fun k hk => ?_
  unfold idxAt
  obtain ⟨a1, a2⟩ := h2 _ (mem_getD 0 hk)
  rw [Bool.and_eq_true]
  refine ⟨by unfold inB; rw [decide_eq_true a1, decide_eq_true (show l.getD k 0 ≤ n - 1 by omega)]; rfl, ?_⟩
  rcases k with _ | k
  · rfl
  · rw [Nat.add_sub_cancel, decide_eq_false (by omega : ¬ k + 1 = 0), Bool.false_or, Bool.not_eq_true', decide_eq_false_iff_not]
    have := List.pairwise_iff_getElem.mp h1 k (k + 1) (by omega) hk (by omega)
    rw [List.getD_eq_getElem?_getD, List.getD_eq_getElem?_getD, List.getElem?_eq_getElem hk, List.getElem?_eq_getElem (show k < l.length by omega)]
    simp only [Option.getD_some]
    omega
theorem sortI_lt {l : List Int} (h : l.Nodup) : (sortI l).Pairwise (· < ·) := by
  have h1 := sortI_sorted l
  have h2 : (sortI l).Nodup := (sortI_perm l).nodup_iff.mpr h
  have := h1.and h2
  exact this.imp fun ⟨a, b⟩ => by omega
theorem isPR_of {d : Db} {l : List Int} (g : goodDb d = true) (h1 : l.Pairwise (· < ·)) (h2 : ∀ x ∈ l, 0 ≤ x ∧ x < d.facts.length)
    (h3 : ∀ x ∈ l, ∀ y ∈ l, x ≠ y → (d.facts.getD x.toNat default).r ≠ (d.facts.getD y.toNat default).r) : isPR d l = true := by
  have hix := idxs_of h1 h2
  have hok : selOk d l = true := by unfold selOk; rw [g, hix]; rfl
  have hsel : selD d l = ⟨d.rels, selF d.facts l⟩ := by unfold selD; rw [hok]; rfl
  have hlen : (selF d.facts l).length = l.length := selF_length _ _
  have hget : ∀ k, k < l.length → (selF d.facts l).getD k default = d.facts.getD (l.getD k 0).toNat default := by
    intro k hk
    simp [selF, List.getD_eq_getElem?_getD, hk]
  have hll : (l.length : Int) ≤ d.facts.length := by
    rcases e : l.length with _ | k
    · omega
    · have : ∀ j, j < l.length → (j : Int) ≤ l.getD j 0 := by
        intro j
        induction j with
        | zero => intro hj; exact (h2 _ (mem_getD 0 hj)).1
        | succ j ih =>
          intro hj
          have := idxs_lt hix (j + 1) j hj (by omega)
          have := ih (by omega)
          omega
      have a1 := this k (by omega)
      have a2 := (h2 _ (mem_getD 0 (show k < l.length by omega))).2
      omega
  have hgood : goodDb (selD d l) = true := by
    have gr := (db_of g).1
    have gn := (db_of g).2.1
    rw [hsel]
    unfold goodDb
    simp only [Bool.and_eq_true, decide_eq_true_eq]
    refine ⟨gr, by rw [hlen]; omega, upTo_true fun k hk => ?_⟩
    rw [hlen] at hk
    obtain ⟨a1, a2⟩ := h2 _ (mem_getD 0 hk)
    unfold factOk
    simp only
    rw [hget k hk, fact_of g (by omega), Bool.true_and]
    rcases k with _ | k
    · rfl
    · rw [Nat.add_sub_cancel, decide_eq_false (by omega : ¬ k + 1 = 0), Bool.false_or, Bool.not_eq_true', decide_eq_false_iff_not, hget k (by omega)]
      have b1 := idxs_lt hix (k + 1) k hk (by omega)
      obtain ⟨b2, b3⟩ := h2 _ (mem_getD 0 (show k < l.length by omega))
      have := db_sorted g (show (l.getD k 0).toNat < (l.getD (k + 1) 0).toNat by omega) (by omega)
      omega
  have hfst : ∀ i, i < l.length → isFst (keyR (selD d l)) i = true := by
    intro i hi
    refine isFst_of fun j hj => ?_
    rcases e : keyR (selD d l) j i
    · rfl
    · unfold keyR at e
      rw [sameK_iff, hsel] at e
      have e1 := e.1
      simp only at e1
      rw [hget j (by omega), hget i hi] at e1
      have b1 := idxs_lt hix i j hi hj
      exact absurd e1 (h3 _ (mem_getD 0 (by omega)) _ (mem_getD 0 hi) (by omega))
  unfold isPR cst
  rw [hok, hgood, Bool.true_and, Bool.true_and, decide_eq_true_iff]
  unfold blocksOf blk blkN
  rw [List.length_map, List.length_map]
  have hf : (selD d l).facts.length = l.length := by rw [hsel]; exact hlen
  rw [hf]
  unfold fsts
  rw [List.filter_eq_self.mpr (fun i hi => hfst i (by simpa using hi)), List.length_range]
theorem embs_fs {d : Db} {q : Qu} : ∀ e ∈ embs d q, queryFor d q = true ∧ e.fs.length = q.atoms.length ∧ ∀ t, t < q.atoms.length → ∃ i : Nat, e.fs.getD t 0 = i ∧ i < d.facts.length ∧ (d.facts.getD i default).r = (q.atoms.getD t default).r := by
  intro e he
  unfold embs at he
  split at he
  · rename_i g
    obtain ⟨h1, h2⟩ := walkE_rel (fs := []) (by simp) (fun t ht => by cases ht) e he
    exact ⟨g, h1, h2⟩
  · cases he
theorem witness_ok {d : Db} {q : Qu} : ∀ e ∈ embs d q, isPR d (sortI e.fs) = true := by
  intro e he
  obtain ⟨g, h1, h2⟩ := embs_fs e he
  have hmem : ∀ x ∈ e.fs, ∃ t, t < q.atoms.length ∧ e.fs.getD t 0 = x := by
    intro x hx
    obtain ⟨t, ht, e1⟩ := getD_in hx
    exact ⟨t, by omega, e1⟩
  have hdiff : ∀ s t, s < q.atoms.length → t < q.atoms.length → s ≠ t → (d.facts.getD (e.fs.getD s 0).toNat default).r ≠ (d.facts.getD (e.fs.getD t 0).toNat default).r := by
    intro s t hs ht hne
    obtain ⟨i, a1, a2, a3⟩ := h2 s hs
    obtain ⟨j, b1, b2, b3⟩ := h2 t ht
    rw [a1, b1, Int.toNat_natCast, Int.toNat_natCast, a3, b3]
    rcases Nat.lt_or_ge s t with h | h
    · exact newRels (queryFor_qu g) h ht
    · exact fun e => newRels (queryFor_qu g) (show t < s by omega) hs e.symm
  have hnd : e.fs.Nodup := by
    rw [List.Nodup, List.pairwise_iff_getElem]
    intro s t hs ht hst heq
    refine hdiff s t (by omega) (by omega) (by omega) ?_
    have : e.fs.getD s 0 = e.fs.getD t 0 := by
      rw [List.getD_eq_getElem?_getD, List.getD_eq_getElem?_getD, List.getElem?_eq_getElem hs, List.getElem?_eq_getElem ht, heq]
    rw [this]
  have hin : ∀ x, x ∈ sortI e.fs → x ∈ e.fs := fun x hx => (sortI_perm e.fs).mem_iff.mp hx
  refine isPR_of (queryFor_db g) (sortI_lt hnd) (fun x hx => ?_) (fun x hx y hy hne => ?_)
  · obtain ⟨t, ht, rfl⟩ := hmem x (hin x hx)
    obtain ⟨i, a1, a2, _⟩ := h2 t ht
    omega
  · obtain ⟨s, hs, rfl⟩ := hmem x (hin x hx)
    obtain ⟨t, ht, rfl⟩ := hmem y (hin y hy)
    exact hdiff s t hs ht (fun e => hne (by rw [e]))
def wits (d : Db) (q : Qu) : List (List Int) := (embs d q).map fun e => sortI e.fs
theorem wits_len (d : Db) (q : Qu) : (wits d q).length ≤ 2744 := by
  unfold wits; rw [List.length_map]; exact embs_len d q
theorem wits_mem {d : Db} {q : Qu} : ∀ w ∈ wits d q, w.length ≤ 3 := by
  intro w hw
  obtain ⟨e, he, rfl⟩ := List.mem_map.mp hw
  rw [sortI_len]
  exact (embs_mem e he).2
end Go.Proofs.YtedciihjgbkjgaaGreat.A


/- DOES A QUERY HOLD IN CHOSEN FACTS. Conditions: none. -/
namespace Go.Proofs.YtedciihjgbkjgaaGreat.A
open Go
set_option linter.unusedSimpArgs false
set_option linter.unusedVariables false
set_option maxRecDepth 100000

theorem selD_ok {d : Db} (l : List Int) (h : d.ok) (hl : l.length ≤ 1048576) : (selD d l).ok := by
  unfold selD
  split
  · refine ⟨h.1, by rw [selF_length]; exact hl, fun x hx => ?_⟩
    obtain ⟨i, _, rfl⟩ := List.mem_map.mp hx
    rcases Nat.lt_or_ge i.toNat d.facts.length with hi | hi
    · exact h.2.2 _ (mem_getD default hi)
    · rw [List.getD_eq_getElem?_getD, List.getElem?_eq_none hi]
      show ([] : List Int).length ≤ _
      simp
  · exact ⟨⟨by simp, fun x hx => by cases hx⟩, by simp, fun x hx => by cases hx⟩
def holdsIn (d : Db) (l : List Int) (q : Qu) : Bool := selOk d l && decide ((0 : Int) < ((embs (selD d l) q).length : Int))
theorem specHoldsIn_sat (d : Db) (l : List Int) (q : Qu) (h : d.ok) (hl : l.length ≤ 1048576) (hq : q.fit) : Sat Tryz.prog 15 [lDb d, lInts l, lQu q] [lBool (holdsIn d l q)] [g2, g1, g3] := by
  refine sat_of_body mixed Tryz.func15 rfl (by kernel_rfl) (by kernel_rfl) (rs := [.tmp 6]) rfl rfl rfl ?_
  unfold holdsIn
  simp -implicitDefEqProofs (maxSteps := 2000000) only [go_sem]
  rcases g : selOk d l
  · refine call_of (specSelectFacts_sat d l h hl) (by simp -implicitDefEqProofs (maxSteps := 2000000) only [go_sem, g]) (callOk_still (by kernel_rfl) (by simp only [List.all_cons, List.all_nil, LV.still, LV.leaves, Leaf.still, ints_still, ris_still, eds_still, rels_still, iss_still, ems_still, Bool.and_self, Bool.and_true])) (by simp -implicitDefEqProofs (maxSteps := 2000000) only [go_sem, g]) ?_
    simp -implicitDefEqProofs (maxSteps := 2000000) only [go_sem, g]
    first | done | rfl | exact ⟨rfl, rfl⟩ | exact ⟨rfl, rfl, rfl⟩ | (refine tr_and ?_ ?_ <;> first | rfl | exact ⟨rfl, rfl⟩ | kernel_rfl)
  · refine call_of (specSelectFacts_sat d l h hl) (by simp -implicitDefEqProofs (maxSteps := 2000000) only [go_sem, g]) (callOk_still (by kernel_rfl) (by simp only [List.all_cons, List.all_nil, LV.still, LV.leaves, Leaf.still, ints_still, ris_still, eds_still, rels_still, iss_still, ems_still, Bool.and_self, Bool.and_true])) (by simp -implicitDefEqProofs (maxSteps := 2000000) only [go_sem, g]) ?_
    simp -implicitDefEqProofs (maxSteps := 2000000) only [go_sem, g]
    refine call_of (specFindEmbeddings_sat (selD d l) q (selD_ok l h hl).fit hq) (by simp -implicitDefEqProofs (maxSteps := 2000000) only [go_sem]) (callOk_still (by kernel_rfl) (by simp only [List.all_cons, List.all_nil, LV.still, LV.leaves, Leaf.still, ints_still, ris_still, eds_still, rels_still, iss_still, ems_still, Bool.and_self, Bool.and_true])) (by simp -implicitDefEqProofs (maxSteps := 2000000) only [go_sem]) ?_
    simp -implicitDefEqProofs (maxSteps := 2000000) only [go_sem]
    first | done | rfl | exact ⟨rfl, rfl⟩ | exact ⟨rfl, rfl, rfl⟩ | (refine tr_and ?_ ?_ <;> first | rfl | exact ⟨rfl, rfl⟩ | kernel_rfl)
end Go.Proofs.YtedciihjgbkjgaaGreat.A


/- BLOCKS AND REPAIRS: the program. Conditions: none. -/
namespace Go.Proofs.YtedciihjgbkjgaaGreat.A
open Go
set_option linter.unusedSimpArgs false
set_option linter.unusedVariables false
set_option maxRecDepth 100000

theorem ia_rin_i {st : St} {K : Eff → Prop} {e b : Nat} {z : List Value} {id i j s off len : Nat} {ik : IntKind} {n : Int} : iaK st (some (e, b, z)) (.one (.rin id i j s off len)) (.sc (.int ik n)) K = (0 ≤ n ∧ idxJ e (st.objs id) id i j s off len n.toNat K) := by
  simp only [iaK, idxA, asNat, idxJ, Rows.cell]
  rcases st.objs id with _ | ⟨w, rows⟩
  · rfl
  · simp only
    rcases (List.getD rows i []).getD j .gone with _ | ⟨s', xs⟩ | _ <;> rfl
def apQ (nid w bytes id i j s off len wo : Nat) (rows : Rows) (c : Cell) (K : Eff → Prop) (more : Rows) (ws : List (Nat × Option Obj')) : Prop := match c with
  | .sl s' xs => s' = s ∧ w = 1 ∧ off = 0 ∧ len = xs.length ∧ (xs.length + more.length + 1) * bytes ≤ 70368744177664 ∧
      K ⟨.one (.ref nid w 0 (xs.length + more.length)), (nid, some (w, lift xs ++ more)) :: (id, some (wo, Rows.setCell rows i j .gone)) :: ws, []⟩
  | _ => False
theorem apI_some {nid w bytes id i j s off len wo : Nat} {rows : Rows} {K : Eff → Prop} {more : Rows} {ws : List (Nat × Option Obj')} : apI nid w bytes id i j s off len (some (wo, rows)) K more ws = apQ nid w bytes id i j s off len wo rows ((rows.getD i []).getD j .gone) K more ws := rfl
theorem apQ_sl {nid w bytes id i j s s' off len wo : Nat} {rows : Rows} {xs : List Value} {K : Eff → Prop} {more : Rows} {ws : List (Nat × Option Obj')} : apQ nid w bytes id i j s off len wo rows (.sl s' xs) K more ws = (s' = s ∧ w = 1 ∧ off = 0 ∧ len = xs.length ∧ (xs.length + more.length + 1) * bytes ≤ 70368744177664 ∧
      K ⟨.one (.ref nid w 0 (xs.length + more.length)), (nid, some (w, lift xs ++ more)) :: (id, some (wo, Rows.setCell rows i j .gone)) :: ws, []⟩) := rfl
attribute [go_sem] apI_some apQ_sl
attribute [go_sem low] ia_rin_i
def goneAt (L : List (List Int)) : Rows := iss 999 L ++ [[Cell.gone]]
theorem goneAt_eq (L : List (List Int)) (b : List Int) : Rows.setCell (iss 999 (L ++ [b])) L.length 0 .gone = goneAt L := by
  unfold Rows.setCell goneAt
  rw [iss_get (by simp)]
  rw [← iss_append, List.set_append_right _ _ (by rw [iss_length]; omega), iss_length, Nat.sub_self]
  rfl
theorem goneAt_length (L : List (List Int)) : (goneAt L).length = L.length + 1 := by simp [goneAt, iss_length]
theorem goneAt_get (L : List (List Int)) : (goneAt L).getD L.length [] = [Cell.gone] := by
  unfold goneAt
  rw [List.getD_eq_getElem?_getD, List.getElem?_append_right (by rw [iss_length]; omega), iss_length, Nat.sub_self]; rfl
theorem goneAt_set (L : List (List Int)) (c : Cell) : (goneAt L).set L.length [c] = iss 999 L ++ [[c]] := by
  unfold goneAt
  rw [List.set_append_right _ _ (by rw [iss_length]; omega), iss_length, Nat.sub_self]; rfl
theorem last_get (L : List (List Int)) (b : List Int) : (L ++ [b]).getD L.length [] = b := by
  rw [List.getD_eq_getElem?_getD, List.getElem?_append_right (Nat.le_refl _), Nat.sub_self]; rfl
set_option maxHeartbeats 2000000 in
theorem implBlocks_sat (d : Db) (h : d.fit) (g : goodDb d = true) : Sat Tryz.prog 40 [lDb d] [oISS (blocksOf d)] [g2] := by
  refine sat_of_body mixed Tryz.func40 rfl (by kernel_rfl) (by kernel_rfl) (rs := [.tmp 2]) rfl rfl rfl ?_
  have hn := goodDb_len g
  have E := keyR_eqv g
  unfold blocksOf
  simp -implicitDefEqProofs (maxSteps := 2000000) only [go_sem]
  refine awp_loop Nat (fun k => mkSt [(1, .one (.vad 1000 0)), (3, .one (.ref 960 1 0 (blk (keyR d) k).length)), (9, .one (.im 2 (ris 0 d.facts))), (10, .sc (.int .i64 d.facts.length)), (11, .sc (.int .i64 k))] [(1000, sDb d)] [(960, (1, iss 999 (blk (keyR d) k)))] 4000)
    (fun k => k ≤ d.facts.length) (fun k => d.facts.length - k) 0 (by omega) (le_st' _ _ [⟨960, some _, false, 1, _⟩] [] _ (by simp -implicitDefEqProofs (maxSteps := 2000000) only [go_sem, iss_nil, blk_zero, List.length_nil] <;> and_intros <;> rfl) (by simp -implicitDefEqProofs (maxSteps := 2000000) only [go_sem, iss_nil, blk_zero, List.length_nil] <;> and_intros <;> rfl) (by simp -implicitDefEqProofs (maxSteps := 2000000) only [go_sem, iss_nil, blk_zero, List.length_nil] <;> and_intros <;> rfl) (by rfl)) ?_
  rintro k h1
  have hle : (blk (keyR d) k).length ≤ 14 := by
    have := sum_ge (blk_ne E h1)
    have := blk_sum E h1
    omega
  by_cases c1 : k < d.facts.length
  · have wk : IntKind.i64.wrap ((k : Int) + 1) = ((k + 1 : Nat) : Int) := i64_succ (by omega)
    rcases e : isFst (keyR d) k
    · obtain ⟨L, i, t, e1, e2, e3, e4⟩ := blk_join E c1 e
      have hlen : (blk (keyR d) k).length = L.length + 1 := by rw [e1]; simp
      have wl : IntKind.i64.wrap (((blk (keyR d) k).length : Int) - 1) = (L.length : Int) := by rw [hlen]; exact i64_pred (by omega)
      have cz : decide ((L.length : Int) ≥ 0) = true := by rw [decide_eq_true_iff]; omega
      have ci : i < d.facts.length := by omega
      have e2' : sameK d.rels (d.facts.getD i default) (d.facts.getD k default) = true := e2
      have hz : 0 < t.length + 1 := by omega
      have ht : t.length + 1 ≤ 14 := by
        have := sum_mem (l := blk (keyR d) k) (b := (i : Int) :: t) (by rw [e1]; simp)
        have := blk_sum E h1
        rw [List.length_cons] at *
        omega
      have lg : (blk (keyR d) k).getD L.length [] = (i : Int) :: t := by rw [e1]; exact last_get L _
      have hgo : Rows.setCell (iss 999 (blk (keyR d) k)) L.length 0 .gone = goneAt L := by rw [e1]; exact goneAt_eq L _
      have hl1 : L.length < (blk (keyR d) k).length := by omega
      simp -implicitDefEqProofs (maxSteps := 2000000) only [go_sem, c1, wl, cz, lg, hz, hl1, ci]
      refine call_of (sameKey_sat d.rels (d.facts.getD i default) (d.facts.getD k default) h.1.1 (db_of g).1 (fact_of g ci) (fact_of g c1)) (by simp -implicitDefEqProofs (maxSteps := 2000000) only [go_sem, e2', wl, cz, lg, hz, hl1, hgo, goneAt_length, goneAt_get, goneAt_set]) (by kernel_rfl) (by simp -implicitDefEqProofs (maxSteps := 2000000) only [go_sem, e2', wl, cz, lg, hz, hl1, hgo, goneAt_length, goneAt_get, goneAt_set]) ?_
      simp -implicitDefEqProofs (maxSteps := 2000000) only [go_sem, e2', wl, cz, lg, hz, hl1, hgo, goneAt_length, goneAt_get, goneAt_set]
      first | (with_reducible refine tr_and ?_ ?_; focus kernel_rfl) | (with_reducible refine tr_only ?_; kernel_rfl) | skip
      refine ⟨by omega, by omega, ?_⟩
      rw [wk]
      refine ⟨k + 1, c1, by omega, ?_⟩
      rw [e4]
      exact (le_st' _ _ [⟨960, some _, false, 1, _⟩] [] _ (by simp -implicitDefEqProofs (maxSteps := 2000000) only [go_sem, hlen, List.length_append, iss_one, List.cons_append] <;> and_intros <;> rfl) (by simp -implicitDefEqProofs (maxSteps := 2000000) only [go_sem, hlen, List.length_append, iss_one, List.cons_append] <;> and_intros <;> rfl) (by simp -implicitDefEqProofs (maxSteps := 2000000) only [go_sem, hlen, List.length_append, iss_one, List.cons_append] <;> and_intros <;> rfl) (by rfl))
    · have hst := blk_new E c1 e
      rcases List.eq_nil_or_concat (blk (keyR d) k) with e1 | ⟨L, b, e1⟩
      · have wl : IntKind.i64.wrap (((blk (keyR d) k).length : Int) - 1) = -1 := by rw [e1]; rfl
        have cz : decide ((-1 : Int) ≥ 0) = false := by decide
        simp -implicitDefEqProofs (maxSteps := 2000000) only [go_sem, c1, wl, cz]
        first | (with_reducible refine tr_and ?_ ?_; focus kernel_rfl) | (with_reducible refine tr_only ?_; kernel_rfl) | skip
        rw [if_neg (by simp [flatB, Cell.flatB])]
        refine ⟨by omega, ?_⟩
        rw [wk]
        refine ⟨k + 1, c1, by omega, ?_⟩
        rw [hst]
        exact (le_st' _ _ [⟨960, some _, false, 1, _⟩] [] _ (by simp -implicitDefEqProofs (maxSteps := 2000000) only [go_sem, repS, List.set_cons_zero, iss_one] <;> and_intros <;> rfl) (by simp -implicitDefEqProofs (maxSteps := 2000000) only [go_sem, repS, List.set_cons_zero, iss_one] <;> and_intros <;> rfl) (by simp -implicitDefEqProofs (maxSteps := 2000000) only [go_sem, repS, List.set_cons_zero, iss_one] <;> and_intros <;> rfl) (by rfl))
      · rw [List.concat_eq_append] at e1
        obtain ⟨i, t, rfl, e3, e2⟩ := blk_last E c1 e e1
        have hlen : (blk (keyR d) k).length = L.length + 1 := by rw [e1]; simp
        have wl : IntKind.i64.wrap (((blk (keyR d) k).length : Int) - 1) = (L.length : Int) := by rw [hlen]; exact i64_pred (by omega)
        have cz : decide ((L.length : Int) ≥ 0) = true := by rw [decide_eq_true_iff]; omega
        have ci : i < d.facts.length := by omega
        have e2' : sameK d.rels (d.facts.getD i default) (d.facts.getD k default) = false := e2
        have hz : 0 < t.length + 1 := by omega
        have lg : (blk (keyR d) k).getD L.length [] = (i : Int) :: t := by rw [e1]; exact last_get L _
        have hl1 : L.length < (blk (keyR d) k).length := by omega
        simp -implicitDefEqProofs (maxSteps := 2000000) only [go_sem, c1, wl, cz, lg, hz, hl1, ci]
        refine call_of (sameKey_sat d.rels (d.facts.getD i default) (d.facts.getD k default) h.1.1 (db_of g).1 (fact_of g ci) (fact_of g c1)) (by simp -implicitDefEqProofs (maxSteps := 2000000) only [go_sem, e2', wl, cz, lg, hz, hl1]) (by kernel_rfl) (by simp -implicitDefEqProofs (maxSteps := 2000000) only [go_sem, e2', wl, cz, lg, hz, hl1]) ?_
        simp -implicitDefEqProofs (maxSteps := 2000000) only [go_sem, e2', wl, cz, lg, hz, hl1]
        first | (with_reducible refine tr_and ?_ ?_; focus kernel_rfl) | (with_reducible refine tr_only ?_; kernel_rfl) | skip
        rw [if_neg (by simp [flatB, Cell.flatB])]
        refine ⟨by omega, ?_⟩
        rw [wk]
        refine ⟨k + 1, c1, by omega, ?_⟩
        rw [hst]
        exact (le_st' _ _ [⟨960, some _, false, 1, _⟩] [] _ (by simp -implicitDefEqProofs (maxSteps := 2000000) only [go_sem, repS, List.set_cons_zero, iss_one] <;> and_intros <;> rfl) (by simp -implicitDefEqProofs (maxSteps := 2000000) only [go_sem, repS, List.set_cons_zero, iss_one] <;> and_intros <;> rfl) (by simp -implicitDefEqProofs (maxSteps := 2000000) only [go_sem, repS, List.set_cons_zero, iss_one] <;> and_intros <;> rfl) (by rfl))
  · obtain rfl : k = d.facts.length := by omega
    simp -implicitDefEqProofs (maxSteps := 2000000) only [go_sem, c1]
    first | done | rfl | exact ⟨rfl, rfl⟩ | exact ⟨rfl, rfl, rfl⟩ | (refine tr_and ?_ ?_ <;> first | rfl | exact ⟨rfl, rfl⟩ | kernel_rfl)
theorem implCountRepairs_sat (l : List (List Int)) (h : l.length ≤ 1048576) (hl : ∀ b ∈ l, 0 < b.length) (hp : prodL l ≤ 1048576) : Sat Tryz.prog 41 [lISS l] [lInt (prodL l)] [g1] := by
  refine sat_of_body mixed Tryz.func41 rfl (by kernel_rfl) (by kernel_rfl) (rs := [.tmp 2]) rfl rfl rfl ?_
  simp -implicitDefEqProofs (maxSteps := 2000000) only [go_sem]
  refine awp_loop Nat (fun k => mkSt [(3, .sc (.int .i64 (prodL (l.take k) : Nat))), (6, .one (.im 1 (iss 0 l))), (7, .sc (.int .i64 l.length)), (8, .sc (.int .i64 k))] [] [] 4000)
    (fun k => k ≤ l.length) (fun k => l.length - k) 0 (by omega) (le_st _ _ [] [] _ rfl (by simp -implicitDefEqProofs (maxSteps := 2000000) only [go_sem, List.take_zero, prodL] <;> rfl) (by simp -implicitDefEqProofs (maxSteps := 2000000) only [go_sem, List.take_zero, prodL] <;> rfl) (by simp -implicitDefEqProofs (maxSteps := 2000000) only [go_sem, List.take_zero, prodL] <;> rfl)) ?_
  rintro k h1
  by_cases c1 : k < l.length
  · have wk : IntKind.i64.wrap ((k : Int) + 1) = ((k + 1 : Nat) : Int) := i64_succ (by omega)
    have hpt := prodL_take c1
    have hpp := prodL_part hl (k + 1)
    have wm : IntKind.i64.wrap (((prodL (l.take k) : Nat) : Int) * ((l.getD k []).length : Int)) = ((prodL (l.take (k + 1)) : Nat) : Int) := by
      rw [hpt] at hpp ⊢
      rw [← Int.natCast_mul]
      exact wrapN (by omega)
    simp -implicitDefEqProofs (maxSteps := 2000000) only [go_sem, c1]
    rw [wk, wm]
    exact ⟨k + 1, c1, by omega, (le_st _ _ [] [] _ rfl (by simp -implicitDefEqProofs (maxSteps := 2000000) only [go_sem] <;> rfl) (by simp -implicitDefEqProofs (maxSteps := 2000000) only [go_sem] <;> rfl) (by simp -implicitDefEqProofs (maxSteps := 2000000) only [go_sem] <;> rfl))⟩
  · obtain rfl : k = l.length := by omega
    rw [List.take_length]
    simp -implicitDefEqProofs (maxSteps := 2000000) only [go_sem, c1]
    first | done | rfl | exact ⟨rfl, rfl⟩ | exact ⟨rfl, rfl, rfl⟩ | (refine tr_and ?_ ?_ <;> first | rfl | exact ⟨rfl, rfl⟩ | kernel_rfl)
theorem zeros_set {n j : Nat} (h : j < n) (x : Int) (t : List Int) : (List.replicate (j + 1) (0 : Int) ++ t).set j x = List.replicate j 0 ++ (x :: t) := by
  rw [List.replicate_succ', List.append_assoc, List.set_append_right _ _ (by simp), List.length_replicate, Nat.sub_self]; rfl
theorem implNthRepair_sat (L : List (List Int)) (r : Nat) (hb : L.length ≤ 14) (hn : ∀ b ∈ L, 0 < b.length ∧ b.length ≤ 14) (hr : r ≤ 16384) : Sat Tryz.prog 42 [lISS L, lInt r] [oInts (pickR L r).1] [g1, g1] := by
  refine sat_of_body mixed Tryz.func42 rfl (by kernel_rfl) (by kernel_rfl) (rs := [.tmp 4]) rfl rfl rfl ?_
  have wl : IntKind.i64.wrap ((L.length : Int) - 1) = tOf L.length := by rw [tOf_eq, IntWalk.i64_in _ (by omega)]
  simp -implicitDefEqProofs (maxSteps := 2000000) only [go_sem, wl]
  refine ⟨by omega, ?_⟩
  refine awp_loop Nat (fun j => mkSt [(0, .one (.im 1 (iss 0 L))), (1, .sc (.int .i64 ((pickR (L.drop j) r).2 : Nat))), (5, .one (.ref 960 1 0 L.length)), (6, .sc (.int .i64 (tOf j)))] [] [(960, (1, ints (List.replicate j 0 ++ (pickR (L.drop j) r).1)))] 4000)
    (fun j => j ≤ L.length) (fun j => j) L.length (Nat.le_refl _) (le_st' _ _ [⟨960, some _, false, 1, _⟩] [] _ (by simp -implicitDefEqProofs (maxSteps := 2000000) only [go_sem, List.drop_length, pickR, List.append_nil] <;> and_intros <;> rfl) (by simp -implicitDefEqProofs (maxSteps := 2000000) only [go_sem, List.drop_length, pickR, List.append_nil] <;> and_intros <;> rfl) (by simp -implicitDefEqProofs (maxSteps := 2000000) only [go_sem, List.drop_length, pickR, List.append_nil] <;> and_intros <;> rfl) (by rfl)) ?_
  rintro j h1
  rcases j with _ | j
  · have cz : decide ((-1 : Int) ≥ 0) = false := by decide
    have hpl := pickR_len L r
    simp -implicitDefEqProofs (maxSteps := 2000000) only [go_sem, tOf_zero, cz]
    exact ⟨by omega, by kernel_rfl⟩
  · have c1 : j < L.length := by omega
    have cz : decide ((j : Int) ≥ 0) = true := by rw [decide_eq_true_iff]; omega
    have hbj := hn _ (mem_getD [] c1)
    have hne : ¬ (((L.getD j []).length : Nat) : Int) = 0 := by omega
    have hlt : (pickR (L.drop (j + 1)) r).2 % (L.getD j []).length < (L.getD j []).length := Nat.mod_lt _ hbj.1
    have hpl := pickR_le (L.drop (j + 1)) r
    have hpn : (pickR (L.drop (j + 1)) r).1.length = L.length - (j + 1) := by rw [pickR_len, List.length_drop]
    have hst := pickR_drop c1 r
    have hol : (List.replicate (j + 1) (0 : Int) ++ (pickR (L.drop (j + 1)) r).1).length = L.length := by rw [List.length_append, List.length_replicate, hpn]; omega
    have wd : IntKind.i64.wrap (((pickR (L.drop (j + 1)) r).2 / (L.getD j []).length : Nat) : Int) = (((pickR (L.drop (j + 1)) r).2 / (L.getD j []).length : Nat) : Int) := wrapN (Nat.le_trans (Nat.div_le_self _ _) (by omega))
    have wj : IntKind.i64.wrap ((j : Int) - 1) = tOf j := by rw [tOf_eq, IntWalk.i64_in _ (by omega)]
    obtain ⟨O, hO⟩ : ∃ O, O = List.replicate (j + 1) (0 : Int) ++ (pickR (L.drop (j + 1)) r).1 := ⟨_, rfl⟩
    rw [← hO] at hol ⊢
    have hset := zeros_set c1 ((L.getD j []).getD ((pickR (L.drop (j + 1)) r).2 % (L.getD j []).length) 0) (pickR (L.drop (j + 1)) r).1
    rw [← hO] at hset
    simp -implicitDefEqProofs (maxSteps := 2000000) only [go_sem, tOf_succ, cz, c1, tmodN, tdivN, hlt, hne, wd, wj, hol]
    refine ⟨hne, tr_and (by kernel_rfl) ⟨hne, j, by omega, by omega, ?_⟩⟩
    rw [hst]
    exact (le_st' _ _ [⟨960, some _, false, 1, _⟩] [] _ (by simp -implicitDefEqProofs (maxSteps := 2000000) only [go_sem, hset, hol] <;> and_intros <;> rfl) (by simp -implicitDefEqProofs (maxSteps := 2000000) only [go_sem, hset, hol] <;> and_intros <;> rfl) (by simp -implicitDefEqProofs (maxSteps := 2000000) only [go_sem, hset, hol] <;> and_intros <;> rfl) (by rfl))
end Go.Proofs.YtedciihjgbkjgaaGreat.A


/- WITNESSES: the two programs. Conditions: none. -/
namespace Go.Proofs.YtedciihjgbkjgaaGreat.A
open Go
set_option linter.unusedSimpArgs false
set_option linter.unusedVariables false
set_option maxRecDepth 100000

theorem wits_take {d : Db} {q : Qu} {k : Nat} (h : k < (embs d q).length) : (wits d q).take (k + 1) = (wits d q).take k ++ [sortI ((embs d q).getD k default).fs] := by
  unfold wits
  rw [take_snoc [] (by simpa using h)]
  simp [List.getD_eq_getElem?_getD, h]
theorem wits_length (d : Db) (q : Qu) : (wits d q).length = (embs d q).length := by simp [wits]
theorem specWitnesses_sat (d : Db) (q : Qu) (h : d.ok) (hq : q.fit) : Sat Tryz.prog 23 [lDb d, lQu q] [oISS (wits d q)] [g2, g3] := by
  refine sat_of_body mixed Tryz.func23 rfl (by kernel_rfl) (by kernel_rfl) (rs := [.tmp 4]) rfl rfl rfl ?_
  have hl := embs_len d q
  simp -implicitDefEqProofs (maxSteps := 2000000) only [go_sem]
  refine call_of (specFindEmbeddings_sat d q h.fit hq) (by simp -implicitDefEqProofs (maxSteps := 2000000) only [go_sem]) (callOk_still (by kernel_rfl) (by simp only [List.all_cons, List.all_nil, LV.still, LV.leaves, Leaf.still, ints_still, ris_still, eds_still, rels_still, iss_still, ems_still, Bool.and_self, Bool.and_true])) (by simp -implicitDefEqProofs (maxSteps := 2000000) only [go_sem]) ?_
  simp -implicitDefEqProofs (maxSteps := 2000000) only [go_sem]
  refine awp_loop Nat (fun k => mkSt [(2, .one (.vad 1000 0)), (5, .one (.ref 960 1 0 ((wits d q).take k).length)), (6, .one (.ref 961 2 0 (embs d q).length)), (7, .sc (.int .i64 k))] [(1000, sDb d)] [(960, (1, iss 999 ((wits d q).take k))), (961, (2, ems 999 (embs d q)))] 4000)
    (fun k => k ≤ (embs d q).length) (fun k => (embs d q).length - k) 0 (by omega) (le_st' _ _ [⟨960, some _, false, 1, _⟩, ⟨961, some _, false, 2, _⟩] [] _ (by simp -implicitDefEqProofs (maxSteps := 2000000) only [go_sem, List.take_zero, iss_nil, List.length_nil] <;> and_intros <;> rfl) (by simp -implicitDefEqProofs (maxSteps := 2000000) only [go_sem, List.take_zero, iss_nil, List.length_nil] <;> and_intros <;> rfl) (by simp -implicitDefEqProofs (maxSteps := 2000000) only [go_sem, List.take_zero, iss_nil, List.length_nil] <;> and_intros <;> rfl) (by rfl)) ?_
  rintro k h1
  have hwl : ((wits d q).take k).length ≤ 2744 := by
    have := wits_length d q
    rw [List.length_take]; omega
  by_cases c1 : k < (embs d q).length
  · have wk : IntKind.i64.wrap ((k : Int) + 1) = ((k + 1 : Nat) : Int) := i64_succ (by omega)
    have hm := mem_getD default c1
    have hfl := (embs_mem _ hm).2
    have hpr := witness_ok _ hm
    have hsl := sortI_len ((embs d q).getD k default).fs
    have hst := wits_take c1
    simp -implicitDefEqProofs (maxSteps := 2000000) only [go_sem, c1]
    refine call_of (l7Sorted_sat ((embs d q).getD k default).fs (by omega)) (by simp -implicitDefEqProofs (maxSteps := 2000000) only [go_sem, c1]) (callOk_still (by kernel_rfl) (by simp only [List.all_cons, List.all_nil, LV.still, LV.leaves, Leaf.still, ints_still, ris_still, eds_still, rels_still, iss_still, ems_still, Bool.and_self, Bool.and_true])) (by simp -implicitDefEqProofs (maxSteps := 2000000) only [go_sem, c1]) ?_
    simp -implicitDefEqProofs (maxSteps := 2000000) only [go_sem, c1]
    refine call_of (isPartialRepair_sat d (sortI ((embs d q).getD k default).fs) h (by omega) (selD_ok _ h (by omega)).fit) (by simp -implicitDefEqProofs (maxSteps := 2000000) only [go_sem, hpr]) (by kernel_rfl) (by simp -implicitDefEqProofs (maxSteps := 2000000) only [go_sem, hpr]) ?_
    simp -implicitDefEqProofs (maxSteps := 2000000) only [go_sem, hpr]
    rw [if_neg (by simp [flatB, Cell.flatB])]
    refine ⟨by omega, ?_⟩
    rw [wk]
    refine ⟨k + 1, c1, by omega, ?_⟩
    rw [hst]
    exact (le_st' _ _ [⟨960, some _, false, 1, _⟩, ⟨961, some _, false, 2, _⟩] [] _ (by simp -implicitDefEqProofs (maxSteps := 2000000) only [go_sem, repS, List.set_cons_zero, iss_one] <;> and_intros <;> rfl) (by simp -implicitDefEqProofs (maxSteps := 2000000) only [go_sem, repS, List.set_cons_zero, iss_one] <;> and_intros <;> rfl) (by simp -implicitDefEqProofs (maxSteps := 2000000) only [go_sem, repS, List.set_cons_zero, iss_one] <;> and_intros <;> rfl) (by rfl))
  · obtain rfl : k = (embs d q).length := by omega
    rw [List.take_of_length_le (by rw [wits_length]; omega)]
    simp -implicitDefEqProofs (maxSteps := 2000000) only [go_sem, c1]
    first | done | rfl | exact ⟨rfl, rfl⟩ | exact ⟨rfl, rfl, rfl⟩ | (refine tr_and ?_ ?_ <;> first | rfl | exact ⟨rfl, rfl⟩ | kernel_rfl)
/-- The embeddings of which the first k were sorted and moved away. -/
def gE (k : Nat) (l : List Emb) : Rows := (l.take k).map (fun e => [Cell.sl 999 (iv e.vs), .gone]) ++ ems 999 (l.drop k)
theorem gE_zero (l : List Emb) : gE 0 l = ems 999 l := by simp [gE]
theorem gE_length {k : Nat} {l : List Emb} (h : k ≤ l.length) : (gE k l).length = l.length := by simp [gE, ems_length]; omega
theorem gE_stm (k : Nat) (l : List Emb) : stm 999 (gE k l) = gE k l := by
  unfold gE
  rw [stm_append, ems_stm 999 998]
  congr 1
  unfold stm
  rw [List.map_map]
  exact List.map_congr_left fun _ _ => rfl
theorem gE_get {k : Nat} {l : List Emb} (h : k < l.length) : (gE k l).getD k [] = [.sl 999 (iv (l.getD k default).vs), .sl 999 (iv (l.getD k default).fs)] := by
  unfold gE
  rw [List.getD_eq_getElem?_getD, List.getElem?_append_right (by simp; omega)]
  simp only [List.length_map, List.length_take, Nat.min_eq_left (Nat.le_of_lt h), Nat.sub_self]
  rw [← List.getD_eq_getElem?_getD, ems_get (by simp; omega)]
  simp [List.getD_eq_getElem?_getD]
theorem gE_move {k : Nat} {l : List Emb} (h : k < l.length) (x : List Int) : Rows.setCell (Rows.setCell (gE k l) k 1 (.sl 999 (iv x))) k 1 .gone = gE (k + 1) l := by
  have h1 : Rows.setCell (gE k l) k 1 (.sl 999 (iv x)) = (gE k l).set k [.sl 999 (iv (l.getD k default).vs), .sl 999 (iv x)] := by unfold Rows.setCell; rw [gE_get h]; rfl
  have hl := gE_length (Nat.le_of_lt h)
  rw [h1]
  unfold Rows.setCell
  rw [getD_set_same (by omega), List.set_set]
  unfold gE
  have hk : ((l.take k).map fun e => [Cell.sl 999 (iv e.vs), Cell.gone]).length = k := by rw [List.length_map, List.length_take]; omega
  rw [List.set_append_right _ _ (by omega), hk, Nat.sub_self, drop_cons default h, take_snoc default h, List.map_append, List.append_assoc]
  rfl
theorem gE_set {k : Nat} {l : List Emb} (h : k < l.length) (x : List Int) : (Rows.setCell (gE k l) k 1 (.sl 999 (iv x))).getD k [] = [.sl 999 (iv (l.getD k default).vs), .sl 999 (iv x)] := by
  have h1 : Rows.setCell (gE k l) k 1 (.sl 999 (iv x)) = (gE k l).set k [.sl 999 (iv (l.getD k default).vs), .sl 999 (iv x)] := by unfold Rows.setCell; rw [gE_get h]; rfl
  rw [h1, getD_set_same (by rw [gE_length (Nat.le_of_lt h)]; omega)]
theorem implWitnesses_sat (d : Db) (q : Qu) (h : d.fit) (hq : q.ok) : Sat Tryz.prog 39 [lDb d, lQu q] [oISS (wits d q)] [g2, g3] := by
  refine sat_of_body mixed Tryz.func39 rfl (by kernel_rfl) (by kernel_rfl) (rs := [.tmp 4]) rfl rfl rfl ?_
  have hl := embs_len d q
  simp -implicitDefEqProofs (maxSteps := 2000000) only [go_sem]
  refine call_of (implFindEmbeddings_sat d q h hq) (by simp -implicitDefEqProofs (maxSteps := 2000000) only [go_sem]) (callOk_still (by kernel_rfl) (by simp only [List.all_cons, List.all_nil, LV.still, LV.leaves, Leaf.still, ints_still, ris_still, eds_still, rels_still, iss_still, ems_still, Bool.and_self, Bool.and_true])) (by simp -implicitDefEqProofs (maxSteps := 2000000) only [go_sem]) ?_
  simp -implicitDefEqProofs (maxSteps := 2000000) only [go_sem]
  refine awp_loop Nat (fun k => mkSt [(5, .one (.ref 960 1 0 ((wits d q).take k).length)), (11, .one (.ref 961 2 0 (embs d q).length)), (12, .sc (.int .i64 (embs d q).length)), (13, .sc (.int .i64 k))] [] [(960, (1, iss 999 ((wits d q).take k))), (961, (2, gE k (embs d q)))] 4000)
    (fun k => k ≤ (embs d q).length) (fun k => (embs d q).length - k) 0 (by omega) (le_st' _ _ [⟨960, some _, false, 1, _⟩, ⟨961, some _, false, 2, _⟩] [] _ (by simp -implicitDefEqProofs (maxSteps := 2000000) only [go_sem, List.take_zero, iss_nil, List.length_nil, gE_zero] <;> and_intros <;> rfl) (by simp -implicitDefEqProofs (maxSteps := 2000000) only [go_sem, List.take_zero, iss_nil, List.length_nil, gE_zero] <;> and_intros <;> rfl) (by simp -implicitDefEqProofs (maxSteps := 2000000) only [go_sem, List.take_zero, iss_nil, List.length_nil, gE_zero] <;> and_intros <;> rfl) (by rfl)) ?_
  rintro k h1
  have hwl : ((wits d q).take k).length ≤ 2744 := by
    have := wits_length d q
    rw [List.length_take]; omega
  by_cases c1 : k < (embs d q).length
  · have wk : IntKind.i64.wrap ((k : Int) + 1) = ((k + 1 : Nat) : Int) := i64_succ (by omega)
    have hm := mem_getD default c1
    have hfl := (embs_mem _ hm).2
    have hst := wits_take c1
    have hg := gE_get c1
    have hgl := gE_length (Nat.le_of_lt c1)
    have hmv := gE_move c1 (sortI ((embs d q).getD k default).fs)
    simp -implicitDefEqProofs (maxSteps := 2000000) only [go_sem, c1, hg, hgl]
    have s0 : solidRin (some (2, gE k (embs d q))) k 0 999 := by rw [solidRin_sl (s' := 999) (xs := iv ((embs d q).getD k default).vs) (by rw [hg]; rfl)]
    have s1 : solidRin (some (2, gE k (embs d q))) k 1 999 := by rw [solidRin_sl (s' := 999) (xs := iv ((embs d q).getD k default).fs) (by rw [hg]; rfl)]
    refine ⟨⟨s0, s1⟩, ?_⟩
    refine call_of (slicesSort_sat ((embs d q).getD k default).fs (by omega)) (by simp -implicitDefEqProofs (maxSteps := 2000000) only [go_sem, hg, hgl, c1]) (callOk_still (by kernel_rfl) (by simp only [List.all_cons, List.all_nil, LV.still, LV.leaves, Leaf.still, ints_still, ris_still, eds_still, rels_still, iss_still, ems_still, Bool.and_self, Bool.and_true])) (by simp -implicitDefEqProofs (maxSteps := 2000000) only [go_sem, hg, hgl, c1]) ?_
    simp -implicitDefEqProofs (maxSteps := 2000000) only [go_sem, hg, hgl, c1]
    have hg2 := gE_set c1 (((embs d q).getD k default).fs.mergeSort)
    have s2 : solidRin (some (2, Rows.setCell (gE k (embs d q)) k 1 (.sl 999 (iv (((embs d q).getD k default).fs.mergeSort))))) k 0 999 := by rw [solidRin_sl (s' := 999) (xs := iv ((embs d q).getD k default).vs) (by rw [hg2]; rfl)]
    have s3 : solidRin (some (2, Rows.setCell (gE k (embs d q)) k 1 (.sl 999 (iv (((embs d q).getD k default).fs.mergeSort))))) k 1 999 := by rw [solidRin_sl (s' := 999) (xs := iv (((embs d q).getD k default).fs.mergeSort)) (by rw [hg2]; rfl)]
    refine ⟨s3, ?_⟩
    have hmv' : ((Rows.setCell (gE k (embs d q)) k 1 (.sl 999 (iv (((embs d q).getD k default).fs.mergeSort)))).setCell k 1 .gone) = gE (k + 1) (embs d q) := gE_move c1 _
    simp -implicitDefEqProofs (maxSteps := 2000000) only [go_sem, hg2, hmv', List.length_mergeSort]
    rw [if_neg (by simp [flatB, Cell.flatB])]
    refine ⟨by omega, ?_⟩
    rw [wk]
    refine ⟨k + 1, c1, by omega, ?_⟩
    rw [hst]
    exact (le_st' _ _ [⟨960, some _, false, 1, _⟩, ⟨961, some _, false, 2, _⟩] [] _ (by simp -implicitDefEqProofs (maxSteps := 2000000) only [go_sem, repS, List.set_cons_zero, iss_one, hg2, hmv', gE_stm, hgl, sortI] <;> and_intros <;> rfl) (by simp -implicitDefEqProofs (maxSteps := 2000000) only [go_sem, repS, List.set_cons_zero, iss_one, hg2, hmv', gE_stm, hgl, sortI] <;> and_intros <;> rfl) (by simp -implicitDefEqProofs (maxSteps := 2000000) only [go_sem, repS, List.set_cons_zero, iss_one, hg2, hmv', gE_stm, hgl, sortI] <;> and_intros <;> rfl) (by rfl))
  · obtain rfl : k = (embs d q).length := by omega
    rw [List.take_of_length_le (by rw [wits_length]; omega)]
    simp -implicitDefEqProofs (maxSteps := 2000000) only [go_sem, c1]
    first | done | rfl | exact ⟨rfl, rfl⟩ | exact ⟨rfl, rfl, rfl⟩ | (refine tr_and ?_ ?_ <;> first | rfl | exact ⟨rfl, rfl⟩ | kernel_rfl)
end Go.Proofs.YtedciihjgbkjgaaGreat.A


/- CLOSURES: the two programs. Conditions: none. -/
namespace Go.Proofs.YtedciihjgbkjgaaGreat.A
open Go
set_option linter.unusedSimpArgs false
set_option linter.unusedVariables false
set_option maxRecDepth 100000

/-! #### a predicate of numbers, asked of all numbers of a list -/
theorem intsIndex_sat (f : FuncId) (c : List Fld) (p : Int → Bool) (l : List Int) (h : l.length ≤ 9223372036854775807) (hf : ∀ x, Sat Tryz.prog f [lInt x, .one (.ip c)] [lBool (!p x)] [g1, g1]) :
    Sat Tryz.prog 100 [lInts l, .one (.fn f [c])] [lInt (firstNo (fun i => p (l.getD i 0)) l.length 0)] [g1, g1] := by
  refine sat_of_body mixed Tryz.func100 rfl (by kernel_rfl) (by kernel_rfl) (rs := [.tmp 4]) rfl rfl rfl ?_
  generalize hp : (fun i => p (l.getD i 0)) = p'
  have hp' : ∀ i, p' i = p (l.getD i 0) := fun i => by rw [← hp]
  simp -implicitDefEqProofs (maxSteps := 2000000) only [go_sem]
  refine awp_loop Nat (fun k => mkSt [(0, .one (.im 1 (ints l))), (1, .one (.fni f [c])), (7, .sc (.int .i64 l.length)), (8, .sc (.int .i64 k))] [] [] 1000)
    (fun k => k ≤ l.length ∧ firstNo p' (l.length - k) k = firstNo p' l.length 0) (fun k => l.length - k) 0 ⟨by omega, rfl⟩ (le_st _ _ [] [] _ rfl (by simp -implicitDefEqProofs (maxSteps := 2000000) only [go_sem] <;> rfl) trivial trivial) ?_
  rintro k ⟨h1, h2⟩
  by_cases c1 : k < l.length
  · rw [show l.length - k = (l.length - (k + 1)) + 1 by omega, firstNo, hp'] at h2
    rcases d : p (l.getD k 0)
    · rw [if_neg (by rw [d]; simp)] at h2
      simp -implicitDefEqProofs (maxSteps := 2000000) only [go_sem, c1]
      refine call_of (hf (l.getD k 0)) (by simp -implicitDefEqProofs (maxSteps := 2000000) only [go_sem, d, c1]) (by kernel_rfl) (by simp -implicitDefEqProofs (maxSteps := 2000000) only [go_sem, d, c1]) ?_
      simp -implicitDefEqProofs (maxSteps := 2000000) only [go_sem, d, c1]
      rw [← h2]
    · rw [if_pos d] at h2
      simp -implicitDefEqProofs (maxSteps := 2000000) only [go_sem, c1]
      refine call_of (hf (l.getD k 0)) (by simp -implicitDefEqProofs (maxSteps := 2000000) only [go_sem, d, c1]) (by kernel_rfl) (by simp -implicitDefEqProofs (maxSteps := 2000000) only [go_sem, d, c1]) ?_
      simp -implicitDefEqProofs (maxSteps := 2000000) only [go_sem, d, c1]
      rw [i64_succ (by omega)]
      exact ⟨k + 1, ⟨c1, h2⟩, by omega, (le_st _ _ [] [] _ rfl (by simp -implicitDefEqProofs (maxSteps := 2000000) only [go_sem] <;> rfl) trivial trivial)⟩
  · obtain rfl : k = l.length := by omega
    rw [Nat.sub_self, firstNo] at h2
    simp -implicitDefEqProofs (maxSteps := 2000000) only [go_sem, c1]
    rw [← h2]
theorem intsContains_sat (f : FuncId) (c : List Fld) (p : Int → Bool) (l : List Int) (h : l.length ≤ 9223372036854775807) (hf : ∀ x, Sat Tryz.prog f [lInt x, .one (.ip c)] [lBool (!p x)] [g1, g1]) :
    Sat Tryz.prog 73 [lInts l, .one (.fn f [c])] [lBool (!upTo (fun i => p (l.getD i 0)) l.length)] [g1, g1] := by
  refine sat_of_body mixed Tryz.func73 rfl (by kernel_rfl) (by kernel_rfl) (rs := [.tmp 4]) rfl rfl rfl ?_
  simp -implicitDefEqProofs (maxSteps := 2000000) only [go_sem]
  refine call_of (intsIndex_sat f c p l h hf) (by simp -implicitDefEqProofs (maxSteps := 2000000) only [go_sem]) (by kernel_rfl) (by simp -implicitDefEqProofs (maxSteps := 2000000) only [go_sem]) ?_
  simp -implicitDefEqProofs (maxSteps := 2000000) only [go_sem]
  rw [firstNo_ge _ _ _ rfl, Nat.zero_add]
theorem isSubset1_sat (b : List Int) (h : b.length ≤ 9223372036854775807) (x : Int) : Sat Tryz.prog 74 [lInt x, .one (.ip [.im 1 (ints b)])] [lBool (!decide (x ∈ b))] [g1, g1] := by
  refine sat_of_body mixed Tryz.func74 rfl (by kernel_rfl) (by kernel_rfl) (rs := [.tmp 3]) rfl rfl rfl ?_
  simp -implicitDefEqProofs (maxSteps := 2000000) only [go_sem]
  refine call_of (slicesContains_sat b x h) (by simp -implicitDefEqProofs (maxSteps := 2000000) only [go_sem]) (by kernel_rfl) (by simp -implicitDefEqProofs (maxSteps := 2000000) only [go_sem]) ?_
  simp -implicitDefEqProofs (maxSteps := 2000000) only [go_sem]
theorem isSubset_sat (a b : List Int) (ha : a.length ≤ 9223372036854775807) (hb : b.length ≤ 9223372036854775807) : Sat Tryz.prog 45 [lInts a, lInts b] [lBool (subs a b)] [g1, g1] := by
  refine sat_of_body mixed Tryz.func45 rfl (by kernel_rfl) (by kernel_rfl) (rs := [.tmp 4]) rfl rfl rfl ?_
  simp -implicitDefEqProofs (maxSteps := 2000000) only [go_sem]
  refine call_of (intsContains_sat 74 [.im 1 (ints b)] (fun x => decide (x ∈ b)) a ha (isSubset1_sat b hb)) (by simp -implicitDefEqProofs (maxSteps := 2000000) only [go_sem]) (by kernel_rfl) (by simp -implicitDefEqProofs (maxSteps := 2000000) only [go_sem]) ?_
  simp -implicitDefEqProofs (maxSteps := 2000000) only [go_sem]
  rw [Bool.not_not]
  rfl
end Go.Proofs.YtedciihjgbkjgaaGreat.A


/- REPAIRS THAT A QUERY HOLDS IN: how many, the first; the program's walk. Conditions: none. -/
namespace Go.Proofs.YtedciihjgbkjgaaGreat.A
open Go
set_option linter.unusedSimpArgs false
set_option linter.unusedVariables false
set_option maxRecDepth 100000

/-- Is some list within another. -/
def metU (ws : List (List Int)) (r : List Int) (i : Nat) : Bool := !subs (ws.getD i []) r
def met (ws : List (List Int)) (r : List Int) : Bool := !upTo (metU ws r) ws.length
/-- The repair of this rank. -/
def repD (d : Db) (k : Nat) : List Int := (pickR (blocksOf d) k).1
def holdP (d : Db) (q : Qu) (want : Bool) (k : Nat) : Bool := met (wits d q) (repD d k) == want
/-- How many of the first ones, and the first of them. -/
def cntP (P : Nat → Bool) : Nat → Nat
  | 0 => 0
  | k + 1 => if P k then cntP P k + 1 else cntP P k
def fstP (P : Nat → Bool) (f : Nat → List Int) : Nat → List Int
  | 0 => []
  | k + 1 => if P k && decide (cntP P k = 0) then f k else fstP P f k
theorem cntP_le (P : Nat → Bool) : ∀ k, cntP P k ≤ k
  | 0 => Nat.le_refl _
  | k + 1 => by
    have := cntP_le P k
    rw [cntP]; split <;> omega
theorem cntP_no {P : Nat → Bool} {k : Nat} (h : P k = false) : cntP P (k + 1) = cntP P k := by rw [cntP, h]; rfl
theorem cntP_yes {P : Nat → Bool} {k : Nat} (h : P k = true) : cntP P (k + 1) = cntP P k + 1 := by rw [cntP, h]; rfl
theorem fstP_no {P : Nat → Bool} {f : Nat → List Int} {k : Nat} (h : P k = false) : fstP P f (k + 1) = fstP P f k := by rw [fstP, h]; rfl
theorem fstP_new {P : Nat → Bool} {f : Nat → List Int} {k : Nat} (h : P k = true) (h0 : cntP P k = 0) : fstP P f (k + 1) = f k := by rw [fstP, h, h0]; rfl
theorem fstP_old {P : Nat → Bool} {f : Nat → List Int} {k : Nat} (h0 : ¬ cntP P k = 0) : fstP P f (k + 1) = fstP P f k := by rw [fstP, decide_eq_false h0, Bool.and_false]; rfl
theorem cntP_mono {P : Nat → Bool} {k : Nat} : ∀ {n : Nat}, k ≤ n → cntP P k ≤ cntP P n
  | 0, h => by rw [show k = 0 by omega]; exact Nat.le_refl _
  | n + 1, h => by
    rcases Nat.lt_or_ge k (n + 1) with h1 | h1
    · have h2 := cntP_mono (P := P) (show k ≤ n by omega)
      rw [cntP]; split <;> omega
    · rw [show k = n + 1 by omega]; exact Nat.le_refl _
/-- The first one is found. -/
theorem fstP_at {P : Nat → Bool} {f : Nat → List Int} {k : Nat} (h : P k = true) (h0 : cntP P k = 0) : ∀ {n : Nat}, k < n → fstP P f n = f k ∧ 0 < cntP P n
  | 0, h => by omega
  | n + 1, hn => by
    by_cases e : k = n
    · subst e
      exact ⟨fstP_new h h0, by rw [cntP_yes h]; omega⟩
    · obtain ⟨h1, h2⟩ := fstP_at (f := f) h h0 (show k < n by omega)
      refine ⟨?_, Nat.lt_of_lt_of_le h2 (cntP_mono (by omega))⟩
      rw [fstP_old (by omega), h1]
def hldC (d : Db) (q : Qu) (want : Bool) : Nat := if queryFor d q then cntP (holdP d q want) (prodL (blocksOf d)) else 0
def hldF (d : Db) (q : Qu) (want : Bool) : List Int := if queryFor d q then fstP (holdP d q want) (repD d) (prodL (blocksOf d)) else []
theorem repD_len (d : Db) (k : Nat) : (repD d k).length = (blocksOf d).length := pickR_len _ _
theorem fstP_len {P : Nat → Bool} {f : Nat → List Int} {m : Nat} (h : ∀ k, (f k).length ≤ m) : ∀ n, (fstP P f n).length ≤ m
  | 0 => by simp [fstP]
  | n + 1 => by rw [fstP]; split <;> first | exact h n | exact fstP_len h n

/-! #### the program -/
theorem issIndex_sat (f : FuncId) (c : List Fld) (p : List Int → Bool) (l : List (List Int)) (h : l.length ≤ 9223372036854775807) (hf : ∀ x ∈ l, Sat Tryz.prog f [lInts x, .one (.ip c)] [lBool (!p x)] [g1, g1]) :
    Sat Tryz.prog 72 [lISS l, .one (.fn f [c])] [lInt (firstNo (fun i => p (l.getD i [])) l.length 0)] [g1, g1] := by
  refine sat_of_body mixed Tryz.func72 rfl (by kernel_rfl) (by kernel_rfl) (rs := [.tmp 4]) rfl rfl rfl ?_
  generalize hp : (fun i => p (l.getD i [])) = p'
  have hp' : ∀ i, p' i = p (l.getD i []) := fun i => by rw [← hp]
  simp -implicitDefEqProofs (maxSteps := 2000000) only [go_sem]
  refine awp_loop Nat (fun k => mkSt [(0, .one (.im 1 (iss 0 l))), (1, .one (.fni f [c])), (7, .sc (.int .i64 l.length)), (8, .sc (.int .i64 k))] [] [] 1000)
    (fun k => k ≤ l.length ∧ firstNo p' (l.length - k) k = firstNo p' l.length 0) (fun k => l.length - k) 0 ⟨by omega, rfl⟩ (le_st _ _ [] [] _ rfl (by simp -implicitDefEqProofs (maxSteps := 2000000) only [go_sem] <;> rfl) trivial trivial) ?_
  rintro k ⟨h1, h2⟩
  by_cases c1 : k < l.length
  · rw [show l.length - k = (l.length - (k + 1)) + 1 by omega, firstNo, hp'] at h2
    rcases d : p (l.getD k [])
    · rw [if_neg (by rw [d]; simp)] at h2
      simp -implicitDefEqProofs (maxSteps := 2000000) only [go_sem, c1]
      refine call_of (hf (l.getD k []) (mem_getD [] c1)) (by simp -implicitDefEqProofs (maxSteps := 2000000) only [go_sem, d, c1]) (by kernel_rfl) (by simp -implicitDefEqProofs (maxSteps := 2000000) only [go_sem, d, c1]) ?_
      simp -implicitDefEqProofs (maxSteps := 2000000) only [go_sem, d, c1]
      rw [← h2]
    · rw [if_pos d] at h2
      simp -implicitDefEqProofs (maxSteps := 2000000) only [go_sem, c1]
      refine call_of (hf (l.getD k []) (mem_getD [] c1)) (by simp -implicitDefEqProofs (maxSteps := 2000000) only [go_sem, d, c1]) (by kernel_rfl) (by simp -implicitDefEqProofs (maxSteps := 2000000) only [go_sem, d, c1]) ?_
      simp -implicitDefEqProofs (maxSteps := 2000000) only [go_sem, d, c1]
      rw [i64_succ (by omega)]
      exact ⟨k + 1, ⟨c1, h2⟩, by omega, (le_st _ _ [] [] _ rfl (by simp -implicitDefEqProofs (maxSteps := 2000000) only [go_sem] <;> rfl) trivial trivial)⟩
  · obtain rfl : k = l.length := by omega
    rw [Nat.sub_self, firstNo] at h2
    simp -implicitDefEqProofs (maxSteps := 2000000) only [go_sem, c1]
    rw [← h2]
theorem issContains_sat (f : FuncId) (c : List Fld) (p : List Int → Bool) (l : List (List Int)) (h : l.length ≤ 9223372036854775807) (hf : ∀ x ∈ l, Sat Tryz.prog f [lInts x, .one (.ip c)] [lBool (!p x)] [g1, g1]) :
    Sat Tryz.prog 43 [lISS l, .one (.fn f [c])] [lBool (!upTo (fun i => p (l.getD i [])) l.length)] [g1, g1] := by
  refine sat_of_body mixed Tryz.func43 rfl (by kernel_rfl) (by kernel_rfl) (rs := [.tmp 4]) rfl rfl rfl ?_
  simp -implicitDefEqProofs (maxSteps := 2000000) only [go_sem]
  refine call_of (issIndex_sat f c p l h hf) (by simp -implicitDefEqProofs (maxSteps := 2000000) only [go_sem]) (by kernel_rfl) (by simp -implicitDefEqProofs (maxSteps := 2000000) only [go_sem]) ?_
  simp -implicitDefEqProofs (maxSteps := 2000000) only [go_sem]
  rw [firstNo_ge _ _ _ rfl, Nat.zero_add]
theorem holding1_sat (r w : List Int) (h : r.length ≤ 9223372036854775807) (hw : w.length ≤ 9223372036854775807) : Sat Tryz.prog 44 [lInts w, .one (.ip [.im 1 (ints r)])] [lBool (!!subs w r)] [g1, g1] := by
  refine sat_of_body mixed Tryz.func44 rfl (by kernel_rfl) (by kernel_rfl) (rs := [.tmp 3]) rfl rfl rfl ?_
  simp -implicitDefEqProofs (maxSteps := 2000000) only [go_sem]
  refine call_of (isSubset_sat w r hw h) (by simp -implicitDefEqProofs (maxSteps := 2000000) only [go_sem]) (by kernel_rfl) (by simp -implicitDefEqProofs (maxSteps := 2000000) only [go_sem]) ?_
  simp -implicitDefEqProofs (maxSteps := 2000000) only [go_sem]
  rw [Bool.not_not]
theorem holdingC_sat (ws : List (List Int)) (r : List Int) (h : r.length ≤ 9223372036854775807) (hl : ws.length ≤ 9223372036854775807) (hw : ∀ w ∈ ws, w.length ≤ 9223372036854775807) :
    Sat Tryz.prog 43 [lISS ws, .one (.fn 44 [[.im 1 (ints r)]])] [lBool (met ws r)] [g1, g1] :=
  issContains_sat 44 [.im 1 (ints r)] (fun w => !subs w r) ws hl (fun w hm => holding1_sat r w h (hw w hm))
theorem holding_sat (d : Db) (q : Qu) (want : Bool) (h : d.fit) (hq : q.ok) : Sat Tryz.prog 19 [lDb d, lQu q, lBool want] [oInts (hldF d q want), lInt (hldC d q want), lBool (queryFor d q)] [g2, g3, g1] := by
  refine sat_of_body mixed Tryz.func19 rfl (by kernel_rfl) (by kernel_rfl) (rs := [.tmp 6, .tmp 7, .tmp 8]) rfl rfl rfl ?_
  unfold hldF hldC
  rcases g : queryFor d q
  · rw [if_neg (by simp), if_neg (by simp)]
    simp -implicitDefEqProofs (maxSteps := 2000000) only [go_sem]
    refine call_of (implIsQueryFor_sat d q h hq) (by simp -implicitDefEqProofs (maxSteps := 2000000) only [go_sem, g]) (by kernel_rfl) (by simp -implicitDefEqProofs (maxSteps := 2000000) only [go_sem, g]) ?_
    simp -implicitDefEqProofs (maxSteps := 2000000) only [go_sem, g]
    first | done | rfl | exact ⟨rfl, rfl⟩ | exact ⟨rfl, rfl, rfl⟩ | (refine tr_and ?_ ?_ <;> first | rfl | exact ⟨rfl, rfl⟩ | kernel_rfl)
  rw [if_pos rfl, if_pos rfl]
  have gd := queryFor_db g
  have hl := wits_len d q
  obtain ⟨hb1, hb2⟩ := blocksOf_len gd
  have hp := (blocksOf_prod gd).2
  simp -implicitDefEqProofs (maxSteps := 2000000) only [go_sem]
  refine call_of (implIsQueryFor_sat d q h hq) (by simp -implicitDefEqProofs (maxSteps := 2000000) only [go_sem, g]) (by kernel_rfl) (by simp -implicitDefEqProofs (maxSteps := 2000000) only [go_sem, g]) ?_
  simp -implicitDefEqProofs (maxSteps := 2000000) only [go_sem, g]
  refine call_of (implWitnesses_sat d q h hq) (by simp -implicitDefEqProofs (maxSteps := 2000000) only [go_sem]) (callOk_still (by kernel_rfl) (by simp only [List.all_cons, List.all_nil, LV.still, LV.leaves, Leaf.still, ints_still, ris_still, eds_still, rels_still, iss_still, ems_still, Bool.and_self, Bool.and_true])) (by simp -implicitDefEqProofs (maxSteps := 2000000) only [go_sem]) ?_
  simp -implicitDefEqProofs (maxSteps := 2000000) only [go_sem]
  refine call_of (implBlocks_sat d h gd) (by simp -implicitDefEqProofs (maxSteps := 2000000) only [go_sem]) (callOk_still (by kernel_rfl) (by simp only [List.all_cons, List.all_nil, LV.still, LV.leaves, Leaf.still, ints_still, ris_still, eds_still, rels_still, iss_still, ems_still, Bool.and_self, Bool.and_true])) (by simp -implicitDefEqProofs (maxSteps := 2000000) only [go_sem]) ?_
  simp -implicitDefEqProofs (maxSteps := 2000000) only [go_sem]
  first | (with_reducible refine tr_and ?_ ?_; focus kernel_rfl) | (with_reducible refine tr_only ?_; kernel_rfl) | skip
  refine call_of (implCountRepairs_sat (blocksOf d) (by omega) (fun b hb => (hb2 b hb).1) (by omega)) (by simp -implicitDefEqProofs (maxSteps := 2000000) only [go_sem]) (by kernel_rfl) (by simp -implicitDefEqProofs (maxSteps := 2000000) only [go_sem]) ?_
  simp -implicitDefEqProofs (maxSteps := 2000000) only [go_sem]
  refine awp_loop Nat (fun k => mkSt [(2, .sc (.bool want)), (9, .one (.ref 960 1 0 (wits d q).length)), (10, .one (.ref 961 1 0 (blocksOf d).length)), (11, .one (.ref 962 1 0 (fstP (holdP d q want) (repD d) k).length)), (12, .sc (.int .i64 (cntP (holdP d q want) k))), (25, .sc (.int .i64 (prodL (blocksOf d)))), (26, .sc (.int .i64 k))] [] [(960, (1, iss 999 (wits d q))), (961, (1, iss 999 (blocksOf d))), (962, (1, ints (fstP (holdP d q want) (repD d) k)))] 8000)
    (fun k => k ≤ prodL (blocksOf d)) (fun k => prodL (blocksOf d) - k) 0 (by omega) (le_st' _ _ [⟨960, some _, false, 1, _⟩, ⟨961, some _, false, 1, _⟩, ⟨962, none, false, 1, _⟩] [] _ (by simp -implicitDefEqProofs (maxSteps := 2000000) only [go_sem, fstP, cntP, List.length_nil] <;> and_intros <;> rfl) (by simp -implicitDefEqProofs (maxSteps := 2000000) only [go_sem, fstP, cntP, List.length_nil] <;> and_intros <;> rfl) (by simp -implicitDefEqProofs (maxSteps := 2000000) only [go_sem, fstP, cntP, List.length_nil] <;> and_intros <;> rfl) (by rfl)) ?_
  rintro k h1
  have hcl := cntP_le (holdP d q want) k
  by_cases c1 : k < prodL (blocksOf d)
  · have wk : IntKind.i64.wrap ((k : Int) + 1) = ((k + 1 : Nat) : Int) := i64_succ (by omega)
    have wc : IntKind.i64.wrap ((cntP (holdP d q want) k : Int) + 1) = ((cntP (holdP d q want) k + 1 : Nat) : Int) := i64_succ (by omega)
    have hrl := repD_len d k
    have hr : (pickR (blocksOf d) k).1 = repD d k := rfl
    rcases hP : holdP d q want k
    · have hm : (met (wits d q) (repD d k) == want) = false := hP
      simp -implicitDefEqProofs (maxSteps := 2000000) only [go_sem, c1]
      refine call_of (implNthRepair_sat (blocksOf d) k hb1 hb2 (by omega)) (by simp -implicitDefEqProofs (maxSteps := 2000000) only [go_sem, c1]) (callOk_still (by kernel_rfl) (by simp only [List.all_cons, List.all_nil, LV.still, LV.leaves, Leaf.still, ints_still, ris_still, eds_still, rels_still, iss_still, ems_still, Bool.and_self, Bool.and_true])) (by simp -implicitDefEqProofs (maxSteps := 2000000) only [go_sem, c1]) ?_
      simp -implicitDefEqProofs (maxSteps := 2000000) only [go_sem, c1]
      rw [hr]
      refine call_of (holdingC_sat (wits d q) (repD d k) (by omega) (by omega) (fun w hw => by have := wits_mem w hw; omega)) (by simp -implicitDefEqProofs (maxSteps := 2000000) only [go_sem, hm]) (by kernel_rfl) (by simp -implicitDefEqProofs (maxSteps := 2000000) only [go_sem, hm]) ?_
      simp -implicitDefEqProofs (maxSteps := 2000000) only [go_sem, hm]
      rw [wk]
      exact ⟨k + 1, c1, by omega, (le_st' _ _ [⟨960, some _, false, 1, _⟩, ⟨961, some _, false, 1, _⟩, ⟨962, some _, false, 1, _⟩] [] _ (by simp -implicitDefEqProofs (maxSteps := 2000000) only [go_sem, cntP_no hP, fstP_no hP] <;> and_intros <;> rfl) (by simp -implicitDefEqProofs (maxSteps := 2000000) only [go_sem, cntP_no hP, fstP_no hP] <;> and_intros <;> rfl) (by simp -implicitDefEqProofs (maxSteps := 2000000) only [go_sem, cntP_no hP, fstP_no hP] <;> and_intros <;> rfl) (by rfl))⟩
    · have hm : (met (wits d q) (repD d k) == want) = true := hP
      by_cases c2 : cntP (holdP d q want) k = 0
      · have cz : (((cntP (holdP d q want) k : Nat) : Int) == 0) = true := by rw [beq_iff_eq]; omega
        simp -implicitDefEqProofs (maxSteps := 2000000) only [go_sem, c1]
        refine call_of (implNthRepair_sat (blocksOf d) k hb1 hb2 (by omega)) (by simp -implicitDefEqProofs (maxSteps := 2000000) only [go_sem, c1]) (callOk_still (by kernel_rfl) (by simp only [List.all_cons, List.all_nil, LV.still, LV.leaves, Leaf.still, ints_still, ris_still, eds_still, rels_still, iss_still, ems_still, Bool.and_self, Bool.and_true])) (by simp -implicitDefEqProofs (maxSteps := 2000000) only [go_sem, c1]) ?_
        simp -implicitDefEqProofs (maxSteps := 2000000) only [go_sem, c1]
        rw [hr]
        refine call_of (holdingC_sat (wits d q) (repD d k) (by omega) (by omega) (fun w hw => by have := wits_mem w hw; omega)) (by simp -implicitDefEqProofs (maxSteps := 2000000) only [go_sem, hm, cz]) (by kernel_rfl) (by simp -implicitDefEqProofs (maxSteps := 2000000) only [go_sem, hm, cz]) ?_
        simp -implicitDefEqProofs (maxSteps := 2000000) only [go_sem, hm, cz]
        rw [wk, wc]
        exact ⟨k + 1, c1, by omega, (le_st' _ _ [⟨960, some _, false, 1, _⟩, ⟨961, some _, false, 1, _⟩, ⟨962, some _, false, 1, _⟩] [] _ (by simp -implicitDefEqProofs (maxSteps := 2000000) only [go_sem, cntP_yes hP, fstP_new hP c2] <;> and_intros <;> rfl) (by simp -implicitDefEqProofs (maxSteps := 2000000) only [go_sem, cntP_yes hP, fstP_new hP c2] <;> and_intros <;> rfl) (by simp -implicitDefEqProofs (maxSteps := 2000000) only [go_sem, cntP_yes hP, fstP_new hP c2] <;> and_intros <;> rfl) (by rfl))⟩
      · have cz : (((cntP (holdP d q want) k : Nat) : Int) == 0) = false := by rw [beq_eq_false_iff_ne]; omega
        simp -implicitDefEqProofs (maxSteps := 2000000) only [go_sem, c1]
        refine call_of (implNthRepair_sat (blocksOf d) k hb1 hb2 (by omega)) (by simp -implicitDefEqProofs (maxSteps := 2000000) only [go_sem, c1]) (callOk_still (by kernel_rfl) (by simp only [List.all_cons, List.all_nil, LV.still, LV.leaves, Leaf.still, ints_still, ris_still, eds_still, rels_still, iss_still, ems_still, Bool.and_self, Bool.and_true])) (by simp -implicitDefEqProofs (maxSteps := 2000000) only [go_sem, c1]) ?_
        simp -implicitDefEqProofs (maxSteps := 2000000) only [go_sem, c1]
        rw [hr]
        refine call_of (holdingC_sat (wits d q) (repD d k) (by omega) (by omega) (fun w hw => by have := wits_mem w hw; omega)) (by simp -implicitDefEqProofs (maxSteps := 2000000) only [go_sem, hm, cz]) (by kernel_rfl) (by simp -implicitDefEqProofs (maxSteps := 2000000) only [go_sem, hm, cz]) ?_
        simp -implicitDefEqProofs (maxSteps := 2000000) only [go_sem, hm, cz]
        rw [wk, wc]
        exact ⟨k + 1, c1, by omega, (le_st' _ _ [⟨960, some _, false, 1, _⟩, ⟨961, some _, false, 1, _⟩, ⟨962, some _, false, 1, _⟩] [] _ (by simp -implicitDefEqProofs (maxSteps := 2000000) only [go_sem, cntP_yes hP, fstP_old c2] <;> and_intros <;> rfl) (by simp -implicitDefEqProofs (maxSteps := 2000000) only [go_sem, cntP_yes hP, fstP_old c2] <;> and_intros <;> rfl) (by simp -implicitDefEqProofs (maxSteps := 2000000) only [go_sem, cntP_yes hP, fstP_old c2] <;> and_intros <;> rfl) (by rfl))⟩
  · obtain rfl : k = prodL (blocksOf d) := by omega
    simp -implicitDefEqProofs (maxSteps := 2000000) only [go_sem, c1]
    first | done | rfl | exact ⟨rfl, rfl⟩ | exact ⟨rfl, rfl, rfl⟩ | (refine tr_and ?_ ?_ <;> first | rfl | exact ⟨rfl, rfl⟩ | kernel_rfl)
end Go.Proofs.YtedciihjgbkjgaaGreat.A


/- KEY CONFLICTS. Conditions: none. -/
namespace Go.Proofs.YtedciihjgbkjgaaGreat.A
open Go
set_option linter.unusedSimpArgs false
set_option linter.unusedVariables false
set_option maxRecDepth 100000

end Go.Proofs.YtedciihjgbkjgaaGreat.A


/- THE GREATEST SIZE OF AN INDEPENDENT SET. Conditions: none. -/
namespace Go.Proofs.YtedciihjgbkjgaaGreat.A
open Go
set_option linter.unusedSimpArgs false
set_option linter.unusedVariables false
set_option maxRecDepth 100000

end Go.Proofs.YtedciihjgbkjgaaGreat.A


/- MAXIMAL INDEPENDENT SETS: what holds of what is found. Conditions: none. (No program in sight.) -/
namespace Go.Proofs.YtedciihjgbkjgaaGreat.A
open Go
set_option linter.unusedSimpArgs false
set_option linter.unusedVariables false

end Go.Proofs.YtedciihjgbkjgaaGreat.A


/- KEY CONFLICTS AND REPAIRS: what holds of them. Conditions: none. (No program in sight.) -/
namespace Go.Proofs.YtedciihjgbkjgaaGreat.A
open Go
set_option linter.unusedSimpArgs false
set_option linter.unusedVariables false

theorem pickR_one : ∀ {l : List (List Int)} {r : Nat}, (∀ b ∈ l, 0 < b.length) → (l.Pairwise fun a b => ∀ x ∈ a, ∀ y ∈ b, x < y) → ∀ b ∈ l, ∀ x ∈ b, ∀ y ∈ b, x ∈ (pickR l r).1 → y ∈ (pickR l r).1 → x = y
  | [], _, _, _, b, hb, _, _, _, _, _, _ => by cases hb
  | c :: l, r, hl, hp, b, hb, x, hx, y, hy, h1, h2 => by
    rw [pickR] at h1 h2
    rw [List.pairwise_cons] at hp
    have hl' : ∀ c ∈ l, 0 < c.length := fun c hc => hl c (by simp [hc])
    have hh : c.getD ((pickR l r).2 % c.length) 0 ∈ c := by
      have hc := hl c (by simp)
      rw [List.getD_eq_getElem?_getD, List.getElem?_eq_getElem (Nat.mod_lt _ hc)]
      exact List.getElem_mem _
    have no : ∀ z ∈ b, z = c.getD ((pickR l r).2 % c.length) 0 → b ∈ l → False := by
      intro z hz e hbl
      have := hp.1 b hbl z (by rw [e]; exact hh) z hz
      omega
    have no2 : ∀ z ∈ c, z ∈ (pickR l r).1 → False := by
      intro z hz hzp
      obtain ⟨c', hc', hz'⟩ := pickR_mem hl' hzp
      have := hp.1 c' hc' z hz z hz'
      omega
    rcases List.mem_cons.mp hb with rfl | hbl
    · rcases List.mem_cons.mp h1 with e1 | h1
      · rcases List.mem_cons.mp h2 with e2 | h2
        · rw [e1, e2]
        · exact (no2 y hy h2).elim
      · exact (no2 x hx h1).elim
    · rcases List.mem_cons.mp h1 with e1 | h1
      · exact (no x hx e1 hbl).elim
      · rcases List.mem_cons.mp h2 with e2 | h2
        · exact (no y hy e2 hbl).elim
        · exact pickR_one hl' hp.2 b hbl x hx y hy h1 h2
theorem mem_castL {l : List Nat} {x : Nat} : ((x : Nat) : Int) ∈ castL l ↔ x ∈ l := by
  unfold castL
  rw [List.mem_map]
  constructor
  · rintro ⟨y, hy, e⟩
    obtain rfl : y = x := by omega
    exact hy
  · exact fun h => ⟨x, h, rfl⟩
theorem blk_of {S : Nat → Nat → Bool} {n : Nat} {b : List Int} (h : b ∈ blk S n) : ∃ i, i < n ∧ isFst S i = true ∧ b = castL (clsOf S i n) := by
  unfold blk blkN at h
  obtain ⟨c, hc, rfl⟩ := List.mem_map.mp h
  obtain ⟨i, hi, rfl⟩ := List.mem_map.mp hc
  obtain ⟨h1, h2⟩ := fsts_mem.mp hi
  exact ⟨i, h1, h2, rfl⟩
theorem blk_nat {S : Nat → Nat → Bool} {n : Nat} {b : List Int} (h : b ∈ blk S n) {x : Int} (hx : x ∈ b) : ∃ y : Nat, x = y ∧ y < n := by
  obtain ⟨i, _, _, rfl⟩ := blk_of h
  obtain ⟨y, hy, rfl⟩ := List.mem_map.mp hx
  exact ⟨y, rfl, (clsOf_mem.mp hy).1⟩
theorem blk_cover {S : Nat → Nat → Bool} {n : Nat} (E : Eqv S n) {x : Nat} (hx : x < n) : ∃ b ∈ blk S n, ((x : Nat) : Int) ∈ b := by
  obtain ⟨i, h1, h2, h3⟩ := least (p := fun j => S j x) (k := x + 1) ⟨x, by omega, E.refl x hx⟩
  have hf : isFst S i = true := isFst_of fun j hj => by
    rcases e : S j i
    · rfl
    · have := E.trans j i x (by omega) (by omega) hx e h2
      rw [h3 j hj] at this; cases this
  refine ⟨castL (clsOf S i n), ?_, mem_castL.mpr (clsOf_mem.mpr ⟨hx, h2⟩)⟩
  unfold blk blkN
  exact List.mem_map.mpr ⟨_, List.mem_map.mpr ⟨i, fsts_mem.mpr ⟨by omega, hf⟩, rfl⟩, rfl⟩
theorem blk_same {S : Nat → Nat → Bool} {n : Nat} (E : Eqv S n) {b : List Int} (h : b ∈ blk S n) {x y : Nat} (hx : ((x : Nat) : Int) ∈ b) (hy : y < n) : ((y : Nat) : Int) ∈ b ↔ S x y = true := by
  obtain ⟨i, h1, h2, rfl⟩ := blk_of h
  obtain ⟨a1, a2⟩ := clsOf_mem.mp (mem_castL.mp hx)
  rw [mem_castL, clsOf_mem]
  constructor
  · rintro ⟨_, h4⟩
    exact E.trans x i y a1 h1 hy (E.symm i x h1 a1 a2) h4
  · intro h4
    exact ⟨hy, E.trans i x y h1 a1 hy a2 h4⟩
section rep
variable {d : Db} (g : goodDb d = true)
include g
theorem rep_in {r : Nat} {x : Int} (h : x ∈ (pickR (blocksOf d) r).1) : ∃ y : Nat, x = y ∧ y < d.facts.length := by
  obtain ⟨b, hb, hx⟩ := pickR_mem (fun b hb => (blocksOf_len g).2 b hb |>.1) h
  exact blk_nat hb hx
theorem rep_one {r : Nat} {x y : Nat} (hx : ((x : Nat) : Int) ∈ (pickR (blocksOf d) r).1) (hy : ((y : Nat) : Int) ∈ (pickR (blocksOf d) r).1) (h : keyR d x y = true) : x = y := by
  have E := keyR_eqv g
  have hb := blk_ne E (Nat.le_refl _)
  obtain ⟨b, b1, b2⟩ := pickR_mem hb hx
  obtain ⟨x', e1, hx'⟩ := rep_in g hx
  obtain ⟨y', e2, hy'⟩ := rep_in g hy
  have hy2 : ((y : Nat) : Int) ∈ b := (blk_same E b1 b2 (by omega)).mpr h
  have := pickR_one (r := r) hb (blk_asc E (Nat.le_refl _)) b b1 _ b2 _ hy2 hx hy
  omega
end rep
end Go.Proofs.YtedciihjgbkjgaaGreat.A


/- CERTAINTY: repairs, embeddings and witnesses. Conditions: none. (No program in sight.) -/
namespace Go.Proofs.YtedciihjgbkjgaaGreat.A
open Go
set_option linter.unusedSimpArgs false
set_option linter.unusedVariables false

/-- Facts with different keys are a partial repair. -/
theorem isPR_key {d : Db} {l : List Int} (g : goodDb d = true) (h1 : l.Pairwise (· < ·)) (h2 : ∀ x ∈ l, 0 ≤ x ∧ x < d.facts.length)
    (h3 : ∀ x ∈ l, ∀ y ∈ l, x ≠ y → keyR d x.toNat y.toNat = false) : isPR d l = true := by
  have hix := idxs_of h1 h2
  have hok : selOk d l = true := by unfold selOk; rw [g, hix]; rfl
  have hsel : selD d l = ⟨d.rels, selF d.facts l⟩ := by unfold selD; rw [hok]; rfl
  have hlen : (selF d.facts l).length = l.length := selF_length _ _
  have hget : ∀ k, k < l.length → (selF d.facts l).getD k default = d.facts.getD (l.getD k 0).toNat default := by
    intro k hk
    simp [selF, List.getD_eq_getElem?_getD, hk]
  have hll : (l.length : Int) ≤ d.facts.length := by
    rcases e : l.length with _ | k
    · omega
    · have : ∀ j, j < l.length → (j : Int) ≤ l.getD j 0 := by
        intro j
        induction j with
        | zero => intro hj; exact (h2 _ (mem_getD 0 hj)).1
        | succ j ih =>
          intro hj
          have := idxs_lt hix (j + 1) j hj (by omega)
          have := ih (by omega)
          omega
      have a1 := this k (by omega)
      have a2 := (h2 _ (mem_getD 0 (show k < l.length by omega))).2
      omega
  have hgood : goodDb (selD d l) = true := by
    have gr := (db_of g).1
    have gn := (db_of g).2.1
    rw [hsel]
    unfold goodDb
    simp only [Bool.and_eq_true, decide_eq_true_eq]
    refine ⟨gr, by rw [hlen]; omega, upTo_true fun k hk => ?_⟩
    rw [hlen] at hk
    obtain ⟨a1, a2⟩ := h2 _ (mem_getD 0 hk)
    unfold factOk
    simp only
    rw [hget k hk, fact_of g (by omega), Bool.true_and]
    rcases k with _ | k
    · rfl
    · rw [Nat.add_sub_cancel, decide_eq_false (by omega : ¬ k + 1 = 0), Bool.false_or, Bool.not_eq_true', decide_eq_false_iff_not, hget k (by omega)]
      have b1 := idxs_lt hix (k + 1) k hk (by omega)
      obtain ⟨b2, b3⟩ := h2 _ (mem_getD 0 (show k < l.length by omega))
      have := db_sorted g (show (l.getD k 0).toNat < (l.getD (k + 1) 0).toNat by omega) (by omega)
      omega
  have hfst : ∀ i, i < l.length → isFst (keyR (selD d l)) i = true := by
    intro i hi
    refine isFst_of fun j hj => ?_
    have b1 := idxs_lt hix i j hi hj
    have h4 := h3 _ (mem_getD 0 (show j < l.length by omega)) _ (mem_getD 0 hi) (by omega)
    unfold keyR at h4 ⊢
    rw [hsel]
    simp only
    rw [hget j (by omega), hget i hi]
    exact h4
  unfold isPR cst
  rw [hok, hgood, Bool.true_and, Bool.true_and, decide_eq_true_iff]
  unfold blocksOf blk blkN
  rw [List.length_map, List.length_map]
  have hf : (selD d l).facts.length = l.length := by rw [hsel]; exact hlen
  rw [hf]
  unfold fsts
  rw [List.filter_eq_self.mpr (fun i hi => hfst i (by simpa using hi)), List.length_range]
theorem repD_PR {d : Db} (g : goodDb d = true) (k : Nat) : isPR d (repD d k) = true := by
  refine isPR_key g (nth'_asc g k) (fun x hx => ?_) (fun x hx y hy hne => ?_)
  · obtain ⟨n, h1, h2⟩ := rep_in g hx
    omega
  · obtain ⟨a, rfl, h2⟩ := rep_in g hx
    obtain ⟨b, rfl, h4⟩ := rep_in g hy
    rw [Int.toNat_natCast, Int.toNat_natCast]
    rcases e : keyR d a b
    · rfl
    · exact absurd (by rw [rep_one g hx hy e]) hne
/-! #### embeddings in a part of the facts -/
theorem walkE_pre {ds ats : List RI} : ∀ {m : Nat} {vs fs : List Int}, ∀ e ∈ walkE ds ats m vs fs, ∀ j, j < fs.length → e.fs.getD j 0 = fs.getD j 0
  | 0, vs, fs, e, he, j, hj => by
    simp only [walkE, List.mem_singleton] at he
    subst he; rfl
  | m + 1, vs, fs, e, he, j, hj => by
    rw [walkE_succ, found_mem] at he
    obtain ⟨i, hi, he⟩ := he
    unfold oneE at he
    split at he
    · rw [walkE_pre e he j (by rw [List.length_append]; omega), List.getD_eq_getElem?_getD, List.getElem?_append_left hj, ← List.getD_eq_getElem?_getD]
    · cases he
theorem snoc_at (fs : List Int) (x : Int) : (fs ++ [x]).getD fs.length 0 = x := by
  rw [List.getD_eq_getElem?_getD, List.getElem?_append_right (Nat.le_refl _), Nat.sub_self]; rfl
theorem selF_get {ds : List RI} {s : List Int} {i : Nat} (h : i < s.length) : (selF ds s).getD i default = ds.getD (s.getD i 0).toNat default := by
  simp [selF, List.getD_eq_getElem?_getD, h]
theorem walkE_sub {ds ats : List RI} {s : List Int} (hs : ∀ x ∈ s, 0 ≤ x ∧ x < ds.length) : ∀ (m : Nat) (vs fs fs' : List Int),
    (∃ e', e' ∈ walkE (selF ds s) ats m vs fs') ↔ ∃ e ∈ walkE ds ats m vs fs, ∀ t, fs.length ≤ t → t < fs.length + m → e.fs.getD t 0 ∈ s
  | 0, vs, fs, fs' => by
    simp only [walkE, List.mem_singleton]
    exact ⟨fun _ => ⟨_, rfl, fun t h1 h2 => by omega⟩, fun _ => ⟨_, rfl⟩⟩
  | m + 1, vs, fs, fs' => by
    rw [walkE_succ, walkE_succ]
    simp only [found_mem]
    constructor
    · rintro ⟨e', i', h1, h2⟩
      rw [selF_length] at h1
      unfold oneE at h2
      rw [selF_get h1] at h2
      have hin := mem_getD 0 h1
      obtain ⟨b1, b2⟩ := hs _ hin
      obtain ⟨i, hi⟩ : ∃ i : Nat, s.getD i' 0 = i := ⟨(s.getD i' 0).toNat, by omega⟩
      rw [hi, Int.toNat_natCast] at h2
      split at h2
      · rename_i x hx
        obtain ⟨e, h3, h4⟩ := (walkE_sub hs m x (fs ++ [(i : Int)]) _).mp ⟨e', h2⟩
        refine ⟨e, ⟨i, by omega, by rw [oneE_some hx]; exact h3⟩, fun t h5 h6 => ?_⟩
        rcases Nat.lt_or_ge fs.length t with h7 | h7
        · exact h4 t (by rw [List.length_append, List.length_singleton]; omega) (by rw [List.length_append, List.length_singleton]; omega)
        · obtain rfl : t = fs.length := by omega
          rw [walkE_pre e h3 _ (by rw [List.length_append, List.length_singleton]; omega), snoc_at, ← hi]
          exact hin
      · cases h2
    · rintro ⟨e, ⟨i, h1, h2⟩, h3⟩
      unfold oneE at h2
      split at h2
      · rename_i x hx
        have h4 := h3 fs.length (Nat.le_refl _) (by omega)
        rw [walkE_pre e h2 _ (by rw [List.length_append, List.length_singleton]; omega), snoc_at] at h4
        obtain ⟨i', h5, h6⟩ := getD_in h4
        obtain ⟨e', h7⟩ := (walkE_sub hs m x (fs ++ [(i : Int)]) (fs' ++ [(i' : Int)])).mpr ⟨e, h2, fun t h8 h9 => by
          rw [List.length_append, List.length_singleton] at h8 h9
          exact h3 t (by omega) (by omega)⟩
        refine ⟨e', i', by rw [selF_length]; exact h5, ?_⟩
        have hx' : meet (atomAt ats m) ((selF ds s).getD i' default) vs = some x := by
          rw [selF_get h5, h6, Int.toNat_natCast]; exact hx
        rw [oneE_some hx']
        exact h7
      · cases h2
theorem met_iff {ws : List (List Int)} {r : List Int} : met ws r = true ↔ ∃ w ∈ ws, ∀ x ∈ w, x ∈ r := by
  unfold met
  rw [Bool.not_eq_true']
  constructor
  · intro h
    refine Classical.byContradiction fun hn => ?_
    rw [upTo_true (p := metU ws r) (n := ws.length) fun k hk => ?_] at h
    · cases h
    · unfold metU
      rw [Bool.not_eq_true']
      rcases e : subs (ws.getD k []) r
      · rfl
      · exact absurd ⟨_, mem_getD [] hk, subs_iff.mp e⟩ hn
  · rintro ⟨w, h1, h2⟩
    obtain ⟨k, hk, rfl⟩ := List.mem_iff_getElem.mp h1
    refine upTo_false hk ?_
    unfold metU
    rw [List.getD_eq_getElem?_getD, List.getElem?_eq_getElem hk, Option.getD_some, subs_iff.mpr h2]; rfl
theorem met_embs {d : Db} {q : Qu} {r : List Int} : met (wits d q) r = true ↔ ∃ e ∈ embs d q, ∀ x ∈ e.fs, x ∈ r := by
  rw [met_iff]
  unfold wits
  constructor
  · rintro ⟨w, h1, h2⟩
    obtain ⟨e, h3, rfl⟩ := List.mem_map.mp h1
    exact ⟨e, h3, fun x hx => h2 x ((sortI_perm e.fs).mem_iff.mpr hx)⟩
  · rintro ⟨e, h1, h2⟩
    exact ⟨_, List.mem_map_of_mem h1, fun x hx => h2 x ((sortI_perm e.fs).mem_iff.mp hx)⟩
theorem queryFor_of {d : Db} {q : Qu} (h1 : goodDb d = true) (h2 : goodQu d.rels q = true) : queryFor d q = true := by
  unfold queryFor; rw [h1, h2]; rfl
/-- Where a query holds. -/
theorem holds_met {d : Db} {q : Qu} {s : List Int} (g : queryFor d q = true) (hs : isPR d s = true) : holdsIn d s q = met (wits d q) s := by
  unfold isPR at hs
  rw [Bool.and_eq_true] at hs
  obtain ⟨h1, h2⟩ := hs
  have hsel : selD d s = ⟨d.rels, selF d.facts s⟩ := by unfold selD; rw [h1]; rfl
  have hgood : goodDb (selD d s) = true := by unfold cst at h2; rw [Bool.and_eq_true] at h2; exact h2.1
  have hix : idxs s d.facts.length = true := by unfold selOk at h1; rw [Bool.and_eq_true] at h1; exact h1.2
  have hin : ∀ x ∈ s, 0 ≤ x ∧ x < d.facts.length := by
    intro x hx
    obtain ⟨i, hi, rfl⟩ := getD_in hx
    exact idxs_at hix hi
  have g2 : queryFor (selD d s) q = true := queryFor_of hgood (by rw [hsel]; show goodQu d.rels q = true; exact queryFor_qu g)
  unfold holdsIn
  rw [h1, Bool.true_and, Bool.eq_iff_iff, decide_eq_true_iff, met_embs]
  have hsub := walkE_sub (ds := d.facts) (ats := q.atoms) hin q.atoms.length (List.replicate q.vc.toNat (-1)) [] []
  have e1 : embs (selD d s) q = walkE (selF d.facts s) q.atoms q.atoms.length (List.replicate q.vc.toNat (-1)) [] := by
    unfold embs; rw [if_pos g2, hsel]
  have e2 : embs d q = walkE d.facts q.atoms q.atoms.length (List.replicate q.vc.toNat (-1)) [] := by
    unfold embs; rw [if_pos g]
  rw [← e1, ← e2] at hsub
  constructor
  · intro h
    rcases hl : embs (selD d s) q with _ | ⟨e', L⟩
    · rw [hl] at h; simp at h
    · obtain ⟨e, h3, h4⟩ := hsub.mp ⟨e', by rw [hl]; exact List.mem_cons_self ..⟩
      refine ⟨e, h3, fun x hx => ?_⟩
      obtain ⟨t, h5, rfl⟩ := getD_in hx
      have := (embs_fs e h3).2.1
      exact h4 t (Nat.zero_le _) (by rw [List.length_nil]; omega)
  · rintro ⟨e, h3, h4⟩
    have hl := (embs_fs e h3).2.1
    obtain ⟨e', h5⟩ := hsub.mpr ⟨e, h3, fun t _ h6 => h4 _ (mem_getD 0 (by rw [List.length_nil] at h6; omega))⟩
    have := List.length_pos_of_mem h5
    omega
/-! #### how many repairs -/
theorem cntP_both (P Q : Nat → Bool) (h : ∀ k, Q k = !P k) : ∀ n, cntP P n + cntP Q n = n
  | 0 => rfl
  | n + 1 => by
    have := cntP_both P Q h n
    rcases hp : P n
    · rw [cntP_no hp, cntP_yes (show Q n = true by rw [h, hp]; rfl)]; omega
    · rw [cntP_yes hp, cntP_no (show Q n = false by rw [h, hp]; rfl)]; omega
theorem cntP_pos {P : Nat → Bool} {f : Nat → List Int} : ∀ {n : Nat}, 0 < cntP P n → ∃ k, k < n ∧ P k = true ∧ fstP P f n = f k
  | 0, h => by simp [cntP] at h
  | n + 1, h => by
    by_cases h0 : 0 < cntP P n
    · obtain ⟨k, h1, h2, h3⟩ := cntP_pos (f := f) h0
      exact ⟨k, by omega, h2, by rw [fstP_old (by omega), h3]⟩
    · rcases hp : P n
      · rw [cntP_no hp] at h; omega
      · exact ⟨n, by omega, hp, fstP_new hp (by omega)⟩
/-- Every choice of one fact of each block is a repair of some rank. -/
theorem pickR_add : ∀ (l : List (List Int)) (r i : Nat), (∀ b ∈ l, 0 < b.length) → r < prodL l → pickR l (r + prodL l * i) = ((pickR l r).1, i)
  | [], r, i, _, h => by
    rw [prodL] at h ⊢
    obtain rfl : r = 0 := by omega
    simp [pickR]
  | b :: l, r, i, hl, h => by
    have hl' : ∀ c ∈ l, 0 < c.length := fun c hc => hl c (by simp [hc])
    have hb := hl b (by simp)
    have hp := prodL_pos hl'
    rw [prodL] at h ⊢
    have e1 : r = r % prodL l + prodL l * (r / prodL l) := by rw [Nat.add_comm, Nat.div_add_mod]
    have hq : r / prodL l < b.length := Nat.div_lt_of_lt_mul (by rw [Nat.mul_comm]; exact h)
    have e2 : r + b.length * prodL l * i = r % prodL l + prodL l * (r / prodL l + b.length * i) := by
      rw [Nat.mul_add]
      have : prodL l * (b.length * i) = b.length * prodL l * i := by rw [← Nat.mul_assoc, Nat.mul_comm (prodL l)]
      omega
    have hr : r % prodL l < prodL l := Nat.mod_lt _ hp
    have a1 := pickR_add l (r % prodL l) (r / prodL l + b.length * i) hl' hr
    have a2 := pickR_add l (r % prodL l) (r / prodL l) hl' hr
    rw [← e2] at a1
    rw [← e1] at a2
    rw [pickR, pickR, a1, a2]
    simp only
    rw [Nat.add_mul_mod_self_left, Nat.mod_eq_of_lt hq, Nat.add_mul_div_left _ _ hb, Nat.div_eq_of_lt hq, Nat.zero_add]
theorem pickR_all : ∀ (l : List (List Int)) (ch : List Int), (∀ b ∈ l, 0 < b.length) → ch.length = l.length → (∀ i, i < l.length → ch.getD i 0 ∈ l.getD i []) → ∃ r, r < prodL l ∧ (pickR l r).1 = ch
  | [], ch, _, h, _ => ⟨0, by simp [prodL], by rw [pickR]; exact (List.length_eq_zero_iff.mp h).symm⟩
  | b :: l, [], _, h, _ => by cases h
  | b :: l, x :: ch, hl, h, hm => by
    have hl' : ∀ c ∈ l, 0 < c.length := fun c hc => hl c (by simp [hc])
    obtain ⟨r, h1, h2⟩ := pickR_all l ch hl' (by simpa using h) fun i hi => by
      have := hm (i + 1) (by simpa using hi)
      simpa using this
    have hx : x ∈ b := by
      have := hm 0 (by simp)
      simpa using this
    obtain ⟨i, hi, hix⟩ := getD_in hx
    refine ⟨r + prodL l * i, ?_, ?_⟩
    · rw [prodL]
      have : prodL l * i + prodL l ≤ b.length * prodL l := by
        rw [← Nat.mul_succ, Nat.mul_comm]; exact Nat.mul_le_mul_right _ hi
      omega
    · rw [pickR, pickR_add l r i hl' h1]
      simp only
      rw [Nat.mod_eq_of_lt hi, hix, h2]
theorem rep_through {d : Db} (g : goodDb d = true) {s : List Int} (h1 : ∀ x ∈ s, ∃ n : Nat, x = n ∧ n < d.facts.length) (h2 : ∀ x ∈ s, ∀ y ∈ s, x ≠ y → keyR d x.toNat y.toNat = false) :
    ∃ k, k < prodL (blocksOf d) ∧ ∀ x ∈ s, x ∈ repD d k := by
  have E := keyR_eqv g
  have hb : ∀ b ∈ blocksOf d, 0 < b.length := blk_ne E (Nat.le_refl _)
  obtain ⟨r, h3, h4⟩ := pickR_all (blocksOf d) ((blocksOf d).map fun b => (b.find? fun x => decide (x ∈ s)).getD (b.getD 0 0)) hb (by simp) (fun i hi => by
    have hbi := hb _ (mem_getD ([] : List Int) hi)
    have e : ((blocksOf d).map fun b => (b.find? fun x => decide (x ∈ s)).getD (b.getD 0 0)).getD i 0 = (((blocksOf d).getD i []).find? fun x => decide (x ∈ s)).getD (((blocksOf d).getD i []).getD 0 0) := by
      simp [List.getD_eq_getElem?_getD, hi]
    rw [e]
    rcases hf : ((blocksOf d).getD i []).find? fun x => decide (x ∈ s) with _ | x
    · exact mem_getD 0 hbi
    · exact List.mem_of_find?_eq_some hf)
  refine ⟨r, h3, fun x hx => ?_⟩
  unfold repD
  rw [h4]
  obtain ⟨n, rfl, hn⟩ := h1 x hx
  obtain ⟨b, hbb, hnb⟩ := blk_cover E hn
  refine List.mem_map.mpr ⟨b, hbb, ?_⟩
  rcases hf : b.find? fun x => decide (x ∈ s) with _ | y
  · have := List.find?_eq_none.mp hf _ hnb
    simp [hx] at this
  · have hy1 := List.mem_of_find?_eq_some hf
    have hy2 : y ∈ s := by simpa using List.find?_some hf
    rw [Option.getD_some]
    refine Classical.byContradiction fun hne => ?_
    obtain ⟨m, rfl, hm⟩ := h1 y hy2
    have h5 := h2 _ hx _ hy2 (fun e => hne e.symm)
    rw [Int.toNat_natCast, Int.toNat_natCast, (blk_same E hbb hnb hm).mp hy1] at h5
    cases h5
/-- A query is possible where it has an embedding. -/
theorem possible_iff {d : Db} {q : Qu} (g : queryFor d q = true) : 0 < cntP (holdP d q true) (prodL (blocksOf d)) ↔ 0 < (embs d q).length := by
  have gd := queryFor_db g
  constructor
  · intro h
    obtain ⟨k, _, h2, _⟩ := cntP_pos (f := repD d) h
    unfold holdP at h2
    obtain ⟨e, h3, _⟩ := met_embs.mp (eq_of_beq h2)
    exact List.length_pos_of_mem h3
  · intro h
    obtain ⟨e, L, hl⟩ := List.exists_cons_of_length_pos h
    have he : e ∈ embs d q := by rw [hl]; exact List.mem_cons_self ..
    have hpr := witness_ok e he
    obtain ⟨_, f1, f2⟩ := embs_fs e he
    have hin : ∀ x ∈ e.fs, ∃ t, t < q.atoms.length ∧ e.fs.getD t 0 = x := by
      intro x hx
      obtain ⟨t, ht, e1⟩ := getD_in hx
      exact ⟨t, by omega, e1⟩
    obtain ⟨k, h1, h2⟩ := rep_through gd (s := e.fs) (fun x hx => by
      obtain ⟨t, ht, rfl⟩ := hin x hx
      obtain ⟨i, a1, a2, _⟩ := f2 t ht
      exact ⟨i, a1, a2⟩) (fun x hx y hy hne => by
      obtain ⟨s, hs, rfl⟩ := hin x hx
      obtain ⟨t, ht, rfl⟩ := hin y hy
      obtain ⟨i, a1, a2, a3⟩ := f2 s hs
      obtain ⟨j, b1, b2, b3⟩ := f2 t ht
      rw [a1, b1, Int.toNat_natCast, Int.toNat_natCast]
      rcases ek : keyR d i j
      · rfl
      · unfold keyR at ek
        have hr := (sameK_iff.mp ek).1
        rw [a3, b3] at hr
        have hst : s ≠ t := by rintro rfl; exact hne rfl
        rcases Nat.lt_or_ge s t with hlt | hge
        · exact absurd hr (newRels (queryFor_qu g) hlt ht)
        · exact absurd hr.symm (newRels (queryFor_qu g) (show t < s by omega) hs))
    have hP : holdP d q true k = true := by
      unfold holdP
      rw [met_embs.mpr ⟨e, he, h2⟩]; rfl
    have := cntP_mono (P := holdP d q true) (show k + 1 ≤ prodL (blocksOf d) by omega)
    rw [cntP_yes hP] at this
    omega
section cert
variable {d : Db} {q : Qu} (g : queryFor d q = true)
include g
theorem hldC_sum : hldC d q false + hldC d q true = prodL (blocksOf d) := by
  unfold hldC
  rw [if_pos g, if_pos g]
  exact cntP_both _ _ (fun k => by unfold holdP; cases met (wits d q) (repD d k) <;> rfl) _
theorem hldF_at {want : Bool} (h : 0 < hldC d q want) : ∃ k, k < prodL (blocksOf d) ∧ hldF d q want = repD d k ∧ holdsIn d (repD d k) q = want := by
  unfold hldC at h
  rw [if_pos g] at h
  obtain ⟨k, h1, h2, h3⟩ := cntP_pos (f := repD d) h
  refine ⟨k, h1, by unfold hldF; rw [if_pos g, h3], ?_⟩
  rw [holds_met g (repD_PR (queryFor_db g) k)]
  exact eq_of_beq h2
theorem hldC_embs : decide (0 < hldC d q true) = decide (0 < (embs d q).length) := by
  unfold hldC
  rw [if_pos g]
  exact decide_eq_decide.mpr (possible_iff g)
end cert
end Go.Proofs.YtedciihjgbkjgaaGreat.A


/- REPAIRS THAT A QUERY HOLDS IN: the specification's walk, and the five functions. Conditions: none. -/
namespace Go.Proofs.YtedciihjgbkjgaaGreat.A
open Go
set_option linter.unusedSimpArgs false
set_option linter.unusedVariables false
set_option maxRecDepth 100000

theorem l13Met_sat (ws : List (List Int)) (r : List Int) (h : r.length ≤ 9223372036854775807) (hl : ws.length ≤ 1048576) (hw : ∀ w ∈ ws, w.length ≤ 1048576) :
    Sat Tryz.prog 25 [lISS ws, lInts r] [lBool (met ws r)] [g1, g1] := by
  refine sat_of_body mixed Tryz.func25 rfl (by kernel_rfl) (by kernel_rfl) (rs := [.tmp 4]) rfl rfl rfl ?_
  unfold met
  simp -implicitDefEqProofs (maxSteps := 2000000) only [go_sem]
  refine awp_loop Nat (fun k => mkSt [(0, .one (.im 1 (iss 0 ws))), (1, .one (.im 1 (ints r))), (5, .sc (.int .i64 k))] [] [] 1000)
    (fun k => k ≤ ws.length ∧ upTo (metU ws r) k = true) (fun k => ws.length - k) 0 ⟨by omega, rfl⟩ (le_st _ _ [] [] _ rfl (by simp -implicitDefEqProofs (maxSteps := 2000000) only [go_sem] <;> rfl) trivial trivial) ?_
  rintro k ⟨h1, h2⟩
  by_cases c1 : k < ws.length
  · have hwk := hw _ (mem_getD [] c1)
    have wk : IntKind.i64.wrap ((k : Int) + 1) = ((k + 1 : Nat) : Int) := i64_succ (by omega)
    simp -implicitDefEqProofs (maxSteps := 2000000) only [go_sem, c1]
    refine awp_loop Nat (fun m => mkSt [(0, .one (.im 1 (iss 0 ws))), (1, .one (.im 1 (ints r))), (5, .sc (.int .i64 k)), (6, .sc (.bool (upTo (subAt (ws.getD k []) r) m))), (7, .sc (.int .i64 m))] [] [] 4000)
      (fun m => m ≤ (ws.getD k []).length) (fun m => (ws.getD k []).length - m) 0 (by omega) (le_st _ _ [] [] _ rfl (by simp -implicitDefEqProofs (maxSteps := 2000000) only [go_sem] <;> rfl) trivial trivial) ?_
    rintro m h3
    by_cases c2 : m < (ws.getD k []).length
    · have wm : IntKind.i64.wrap ((m : Int) + 1) = ((m + 1 : Nat) : Int) := i64_succ (by omega)
      have hst : upTo (subAt (ws.getD k []) r) (m + 1) = (upTo (subAt (ws.getD k []) r) m && decide ((ws.getD k []).getD m 0 ∈ r)) := rfl
      rcases d0 : upTo (subAt (ws.getD k []) r) m
      · simp -implicitDefEqProofs (maxSteps := 2000000) only [go_sem, c1, c2, d0]
        rw [wm]
        exact ⟨m + 1, c2, by omega, (le_st _ _ [] [] _ rfl (by simp -implicitDefEqProofs (maxSteps := 2000000) only [go_sem, hst, d0, Bool.false_and] <;> rfl) (by simp -implicitDefEqProofs (maxSteps := 2000000) only [go_sem, hst, d0, Bool.false_and] <;> rfl) (by simp -implicitDefEqProofs (maxSteps := 2000000) only [go_sem, hst, d0, Bool.false_and] <;> rfl))⟩
      · simp -implicitDefEqProofs (maxSteps := 2000000) only [go_sem, c1, c2, d0]
        refine call_of (l7Has_sat r ((ws.getD k []).getD m 0) h) (by simp -implicitDefEqProofs (maxSteps := 2000000) only [go_sem, c1, c2, d0]) (by kernel_rfl) (by simp -implicitDefEqProofs (maxSteps := 2000000) only [go_sem, c1, c2, d0]) ?_
        simp -implicitDefEqProofs (maxSteps := 2000000) only [go_sem, c1, c2, d0]
        rw [wm]
        exact ⟨m + 1, c2, by omega, (le_st _ _ [] [] _ rfl (by simp -implicitDefEqProofs (maxSteps := 2000000) only [go_sem, hst, d0, Bool.true_and] <;> rfl) (by simp -implicitDefEqProofs (maxSteps := 2000000) only [go_sem, hst, d0, Bool.true_and] <;> rfl) (by simp -implicitDefEqProofs (maxSteps := 2000000) only [go_sem, hst, d0, Bool.true_and] <;> rfl))⟩
    · obtain rfl : m = (ws.getD k []).length := by omega
      have hs : metU ws r k = !upTo (subAt (ws.getD k []) r) (ws.getD k []).length := rfl
      rcases d0 : upTo (subAt (ws.getD k []) r) (ws.getD k []).length
      · simp -implicitDefEqProofs (maxSteps := 2000000) only [go_sem, c1, c2, d0]
        rw [wk]
        exact ⟨k + 1, ⟨c1, upTo_step h2 (by rw [hs, d0]; rfl)⟩, by omega, (le_st _ _ [] [] _ rfl (by simp -implicitDefEqProofs (maxSteps := 2000000) only [go_sem] <;> rfl) trivial trivial)⟩
      · rw [upTo_false c1 (by rw [hs, d0]; rfl)]
        simp -implicitDefEqProofs (maxSteps := 2000000) only [go_sem, c1, c2, d0]
        first | done | rfl | exact ⟨rfl, rfl⟩ | exact ⟨rfl, rfl, rfl⟩ | (refine tr_and ?_ ?_ <;> first | rfl | exact ⟨rfl, rfl⟩ | kernel_rfl)
  · obtain rfl : k = ws.length := by omega
    simp -implicitDefEqProofs (maxSteps := 2000000) only [go_sem, c1]
    rw [h2]
    first | done | rfl | exact ⟨rfl, rfl⟩ | exact ⟨rfl, rfl, rfl⟩ | (refine tr_and ?_ ?_ <;> first | rfl | exact ⟨rfl, rfl⟩ | kernel_rfl)
theorem hldF_len (d : Db) (q : Qu) (want : Bool) : (hldF d q want).length ≤ 14 := by
  unfold hldF
  split
  · rename_i g
    have h := (blocksOf_len (queryFor_db g)).1
    exact fstP_len (fun k => by rw [repD_len]; exact h) _
  · simp
theorem cntR_eq {d : Db} (g : goodDb d = true) : cntR d = prodL (blocksOf d) := by rw [cntR, if_pos g]
theorem nthD_eq {d : Db} {k : Nat} (g : goodDb d = true) (h : k < prodL (blocksOf d)) : nth' d k = repD d k ∧ nthOk d k = true := by
  have h1 : nthOk d k = true := by
    rw [nthOk, inB, cntR_eq g]; simp; omega
  exact ⟨by rw [nth', if_pos h1]; rfl, h1⟩
theorem l13Find_sat (d : Db) (q : Qu) (want : Bool) (h : d.ok) (hq : q.fit) : Sat Tryz.prog 50 [lDb d, lQu q, lBool want] [oInts (hldF d q want), lBool (decide (0 < hldC d q want))] [g2, g3, g1] := by
  refine sat_of_body mixed Tryz.func50 rfl (by kernel_rfl) (by kernel_rfl) (rs := [.tmp 6, .tmp 7]) rfl rfl rfl ?_
  have hf := h.fit
  unfold hldF hldC
  rcases g : queryFor d q
  · rw [if_neg (by simp), if_neg (by simp)]
    simp -implicitDefEqProofs (maxSteps := 2000000) only [go_sem]
    refine call_of (specIsQueryFor_sat d q hf hq) (by simp -implicitDefEqProofs (maxSteps := 2000000) only [go_sem, g]) (by kernel_rfl) (by simp -implicitDefEqProofs (maxSteps := 2000000) only [go_sem, g]) ?_
    simp -implicitDefEqProofs (maxSteps := 2000000) only [go_sem, g]
    first | done | rfl | exact ⟨rfl, rfl⟩ | exact ⟨rfl, rfl, rfl⟩ | (refine tr_and ?_ ?_ <;> first | rfl | exact ⟨rfl, rfl⟩ | kernel_rfl)
  rw [if_pos rfl, if_pos rfl]
  have gd := queryFor_db g
  have hl := wits_len d q
  have hp := (blocksOf_prod gd).2
  have hb1 := (blocksOf_len gd).1
  simp -implicitDefEqProofs (maxSteps := 2000000) only [go_sem]
  refine call_of (specIsQueryFor_sat d q hf hq) (by simp -implicitDefEqProofs (maxSteps := 2000000) only [go_sem, g]) (by kernel_rfl) (by simp -implicitDefEqProofs (maxSteps := 2000000) only [go_sem, g]) ?_
  simp -implicitDefEqProofs (maxSteps := 2000000) only [go_sem, g]
  refine call_of (specWitnesses_sat d q h hq) (by simp -implicitDefEqProofs (maxSteps := 2000000) only [go_sem]) (callOk_still (by kernel_rfl) (by simp only [List.all_cons, List.all_nil, LV.still, LV.leaves, Leaf.still, ints_still, ris_still, eds_still, rels_still, iss_still, ems_still, Bool.and_self, Bool.and_true])) (by simp -implicitDefEqProofs (maxSteps := 2000000) only [go_sem]) ?_
  simp -implicitDefEqProofs (maxSteps := 2000000) only [go_sem]
  refine awp_loop Nat (fun k => mkSt [(2, .sc (.bool want)), (3, .one (.vad 1000 0)), (8, .one (.ref 960 1 0 (wits d q).length)), (9, .sc (.int .i64 k))] [(1000, sDb d)] [(960, (1, iss 999 (wits d q)))] 8000)
    (fun k => k ≤ prodL (blocksOf d) ∧ cntP (holdP d q want) k = 0) (fun k => prodL (blocksOf d) - k) 0 ⟨by omega, rfl⟩ (le_st' _ _ [⟨960, some _, false, 1, _⟩] [] _ (by simp -implicitDefEqProofs (maxSteps := 2000000) only [go_sem] <;> and_intros <;> rfl) (by simp -implicitDefEqProofs (maxSteps := 2000000) only [go_sem] <;> and_intros <;> rfl) (by simp -implicitDefEqProofs (maxSteps := 2000000) only [go_sem] <;> and_intros <;> rfl) (by rfl)) ?_
  rintro k ⟨h1, h2⟩
  have hcR := cntR_eq gd
  by_cases c1 : k < prodL (blocksOf d)
  · have wk : IntKind.i64.wrap ((k : Int) + 1) = ((k + 1 : Nat) : Int) := i64_succ (by omega)
    obtain ⟨e1, e2⟩ := nthD_eq gd c1
    have hrl := repD_len d k
    rcases hP : holdP d q want k
    · have hm : (met (wits d q) (repD d k) == want) = false := hP
      simp -implicitDefEqProofs (maxSteps := 2000000) only [go_sem]
      refine call_of (specCountRepairs_sat d hf) (by simp -implicitDefEqProofs (maxSteps := 2000000) only [go_sem, hcR, c1]) (by kernel_rfl) (by simp -implicitDefEqProofs (maxSteps := 2000000) only [go_sem, hcR, c1]) ?_
      simp -implicitDefEqProofs (maxSteps := 2000000) only [go_sem, hcR, c1]
      refine call_of (specNthRepair_sat d k hf) (by simp -implicitDefEqProofs (maxSteps := 2000000) only [go_sem, e1, e2]) (callOk_still (by kernel_rfl) (by simp only [List.all_cons, List.all_nil, LV.still, LV.leaves, Leaf.still, ints_still, ris_still, eds_still, rels_still, iss_still, ems_still, Bool.and_self, Bool.and_true])) (by simp -implicitDefEqProofs (maxSteps := 2000000) only [go_sem, e1, e2]) ?_
      simp -implicitDefEqProofs (maxSteps := 2000000) only [go_sem, e1, e2]
      refine call_of (l13Met_sat (wits d q) (repD d k) (by omega) (by omega) (fun w hw => by have := wits_mem w hw; omega)) (by simp -implicitDefEqProofs (maxSteps := 2000000) only [go_sem, hm]) (by kernel_rfl) (by simp -implicitDefEqProofs (maxSteps := 2000000) only [go_sem, hm]) ?_
      simp -implicitDefEqProofs (maxSteps := 2000000) only [go_sem, hm]
      rw [wk]
      exact ⟨k + 1, ⟨c1, by rw [cntP_no hP, h2]⟩, by omega, (le_st' _ _ [⟨960, some _, false, 1, _⟩] [] _ (by simp -implicitDefEqProofs (maxSteps := 2000000) only [go_sem] <;> and_intros <;> rfl) (by simp -implicitDefEqProofs (maxSteps := 2000000) only [go_sem] <;> and_intros <;> rfl) (by simp -implicitDefEqProofs (maxSteps := 2000000) only [go_sem] <;> and_intros <;> rfl) (by rfl))⟩
    · have hm : (met (wits d q) (repD d k) == want) = true := hP
      obtain ⟨f1, f2⟩ := fstP_at (f := repD d) hP h2 c1
      rw [f1, decide_eq_true f2]
      simp -implicitDefEqProofs (maxSteps := 2000000) only [go_sem]
      refine call_of (specCountRepairs_sat d hf) (by simp -implicitDefEqProofs (maxSteps := 2000000) only [go_sem, hcR, c1]) (by kernel_rfl) (by simp -implicitDefEqProofs (maxSteps := 2000000) only [go_sem, hcR, c1]) ?_
      simp -implicitDefEqProofs (maxSteps := 2000000) only [go_sem, hcR, c1]
      refine call_of (specNthRepair_sat d k hf) (by simp -implicitDefEqProofs (maxSteps := 2000000) only [go_sem, e1, e2]) (callOk_still (by kernel_rfl) (by simp only [List.all_cons, List.all_nil, LV.still, LV.leaves, Leaf.still, ints_still, ris_still, eds_still, rels_still, iss_still, ems_still, Bool.and_self, Bool.and_true])) (by simp -implicitDefEqProofs (maxSteps := 2000000) only [go_sem, e1, e2]) ?_
      simp -implicitDefEqProofs (maxSteps := 2000000) only [go_sem, e1, e2]
      refine call_of (l13Met_sat (wits d q) (repD d k) (by omega) (by omega) (fun w hw => by have := wits_mem w hw; omega)) (by simp -implicitDefEqProofs (maxSteps := 2000000) only [go_sem, hm]) (by kernel_rfl) (by simp -implicitDefEqProofs (maxSteps := 2000000) only [go_sem, hm]) ?_
      simp -implicitDefEqProofs (maxSteps := 2000000) only [go_sem, hm]
      first | done | rfl | exact ⟨rfl, rfl⟩ | exact ⟨rfl, rfl, rfl⟩ | (refine tr_and ?_ ?_ <;> first | rfl | exact ⟨rfl, rfl⟩ | kernel_rfl)
  · obtain rfl : k = prodL (blocksOf d) := by omega
    have f0 : ∀ n, cntP (holdP d q want) n = 0 → fstP (holdP d q want) (repD d) n = [] := by
      intro n
      induction n with
      | zero => intro _; rfl
      | succ n ih =>
        intro hn
        rcases hP : holdP d q want n
        · rw [cntP_no hP] at hn; rw [fstP_no hP, ih hn]
        · rw [cntP_yes hP] at hn; omega
    rw [f0 _ h2, h2]
    simp -implicitDefEqProofs (maxSteps := 2000000) only [go_sem]
    refine call_of (specCountRepairs_sat d hf) (by simp -implicitDefEqProofs (maxSteps := 2000000) only [go_sem, hcR, c1]) (by kernel_rfl) (by simp -implicitDefEqProofs (maxSteps := 2000000) only [go_sem, hcR, c1]) ?_
    simp -implicitDefEqProofs (maxSteps := 2000000) only [go_sem, hcR, c1]
    first | done | rfl | exact ⟨rfl, rfl⟩ | exact ⟨rfl, rfl, rfl⟩ | (refine tr_and ?_ ?_ <;> first | rfl | exact ⟨rfl, rfl⟩ | kernel_rfl)
theorem specFalsifyingRepair_sat (d : Db) (q : Qu) (h : d.ok) (hq : q.fit) : Sat Tryz.prog 22 [lDb d, lQu q] [oInts (hldF d q false), lBool (decide (0 < hldC d q false))] [g2, g3] := by
  refine sat_of_body mixed Tryz.func22 rfl (by kernel_rfl) (by kernel_rfl) (rs := [.tmp 4, .tmp 5]) rfl rfl rfl ?_
  simp -implicitDefEqProofs (maxSteps := 2000000) only [go_sem]
  refine call_of (l13Find_sat d q false h hq) (by simp -implicitDefEqProofs (maxSteps := 2000000) only [go_sem]) (callOk_still (by kernel_rfl) (by simp only [List.all_cons, List.all_nil, LV.still, LV.leaves, Leaf.still, ints_still, ris_still, eds_still, rels_still, iss_still, ems_still, Bool.and_self, Bool.and_true])) (by simp -implicitDefEqProofs (maxSteps := 2000000) only [go_sem]) ?_
  simp -implicitDefEqProofs (maxSteps := 2000000) only [go_sem]
  first | done | rfl | exact ⟨rfl, rfl⟩ | exact ⟨rfl, rfl, rfl⟩ | (refine tr_and ?_ ?_ <;> first | rfl | exact ⟨rfl, rfl⟩ | kernel_rfl)
theorem specIsCertain_sat (d : Db) (q : Qu) (h : d.ok) (hq : q.fit) : Sat Tryz.prog 12 [lDb d, lQu q] [lBool (queryFor d q && !decide (0 < hldC d q false))] [g2, g3] := by
  refine sat_of_body mixed Tryz.func12 rfl (by kernel_rfl) (by kernel_rfl) (rs := [.tmp 4]) rfl rfl rfl ?_
  rcases g : queryFor d q
  · simp -implicitDefEqProofs (maxSteps := 2000000) only [go_sem]
    refine call_of (specFalsifyingRepair_sat d q h hq) (by simp -implicitDefEqProofs (maxSteps := 2000000) only [go_sem]) (callOk_still (by kernel_rfl) (by simp only [List.all_cons, List.all_nil, LV.still, LV.leaves, Leaf.still, ints_still, ris_still, eds_still, rels_still, iss_still, ems_still, Bool.and_self, Bool.and_true])) (by simp -implicitDefEqProofs (maxSteps := 2000000) only [go_sem]) ?_
    simp -implicitDefEqProofs (maxSteps := 2000000) only [go_sem]
    refine call_of (specIsQueryFor_sat d q h.fit hq) (by simp -implicitDefEqProofs (maxSteps := 2000000) only [go_sem, g]) (by kernel_rfl) (by simp -implicitDefEqProofs (maxSteps := 2000000) only [go_sem, g]) ?_
    simp -implicitDefEqProofs (maxSteps := 2000000) only [go_sem, g]
    first | done | rfl | exact ⟨rfl, rfl⟩ | exact ⟨rfl, rfl, rfl⟩ | (refine tr_and ?_ ?_ <;> first | rfl | exact ⟨rfl, rfl⟩ | kernel_rfl)
  · simp -implicitDefEqProofs (maxSteps := 2000000) only [go_sem]
    refine call_of (specFalsifyingRepair_sat d q h hq) (by simp -implicitDefEqProofs (maxSteps := 2000000) only [go_sem]) (callOk_still (by kernel_rfl) (by simp only [List.all_cons, List.all_nil, LV.still, LV.leaves, Leaf.still, ints_still, ris_still, eds_still, rels_still, iss_still, ems_still, Bool.and_self, Bool.and_true])) (by simp -implicitDefEqProofs (maxSteps := 2000000) only [go_sem]) ?_
    simp -implicitDefEqProofs (maxSteps := 2000000) only [go_sem]
    refine call_of (specIsQueryFor_sat d q h.fit hq) (by simp -implicitDefEqProofs (maxSteps := 2000000) only [go_sem, g]) (by kernel_rfl) (by simp -implicitDefEqProofs (maxSteps := 2000000) only [go_sem, g]) ?_
    simp -implicitDefEqProofs (maxSteps := 2000000) only [go_sem, g]
    first | done | rfl | exact ⟨rfl, rfl⟩ | exact ⟨rfl, rfl, rfl⟩ | (refine tr_and ?_ ?_ <;> first | rfl | exact ⟨rfl, rfl⟩ | kernel_rfl)
theorem specCountSatisfyingRepairs_sat (d : Db) (q : Qu) (h : d.ok) (hq : q.fit) : Sat Tryz.prog 13 [lDb d, lQu q] [lInt (hldC d q true)] [g2, g3] := by
  refine sat_of_body mixed Tryz.func13 rfl (by kernel_rfl) (by kernel_rfl) (rs := [.tmp 4]) rfl rfl rfl ?_
  have hf := h.fit
  have hl := wits_len d q
  have hcl := cntR_le d
  simp -implicitDefEqProofs (maxSteps := 2000000) only [go_sem]
  refine call_of (specWitnesses_sat d q h hq) (by simp -implicitDefEqProofs (maxSteps := 2000000) only [go_sem]) (callOk_still (by kernel_rfl) (by simp only [List.all_cons, List.all_nil, LV.still, LV.leaves, Leaf.still, ints_still, ris_still, eds_still, rels_still, iss_still, ems_still, Bool.and_self, Bool.and_true])) (by simp -implicitDefEqProofs (maxSteps := 2000000) only [go_sem]) ?_
  simp -implicitDefEqProofs (maxSteps := 2000000) only [go_sem]
  refine awp_loop Nat (fun k => mkSt [(2, .one (.vad 1000 0)), (3, .one (.vad 1064 0)), (5, .sc (.int .i64 (cntP (holdP d q true) k))), (6, .one (.ref 960 1 0 (wits d q).length)), (7, .sc (.int .i64 k))] [(1000, sDb d), (1064, sQu q)] [(960, (1, iss 999 (wits d q)))] 8000)
    (fun k => k ≤ cntR d ∧ (queryFor d q = false → k = 0)) (fun k => cntR d - k) 0 ⟨by omega, fun _ => rfl⟩ (le_st' _ _ [⟨960, some _, false, 1, _⟩] [] _ (by simp -implicitDefEqProofs (maxSteps := 2000000) only [go_sem, cntP] <;> and_intros <;> rfl) (by simp -implicitDefEqProofs (maxSteps := 2000000) only [go_sem, cntP] <;> and_intros <;> rfl) (by simp -implicitDefEqProofs (maxSteps := 2000000) only [go_sem, cntP] <;> and_intros <;> rfl) (by rfl)) ?_
  rintro k ⟨h1, h2⟩
  have hcc := cntP_le (holdP d q true) k
  rcases g : queryFor d q
  · obtain rfl := h2 g
    unfold hldC
    rw [g, if_neg (by simp)]
    rcases c1 : decide ((0 : Int) < ((cntR d : Nat) : Int))
    · simp -implicitDefEqProofs (maxSteps := 2000000) only [go_sem]
      refine call_of (specCountRepairs_sat d hf) (by simp -implicitDefEqProofs (maxSteps := 2000000) only [go_sem, c1]) (by kernel_rfl) (by simp -implicitDefEqProofs (maxSteps := 2000000) only [go_sem, c1]) ?_
      simp -implicitDefEqProofs (maxSteps := 2000000) only [go_sem, c1]
      first | done | rfl | exact ⟨rfl, rfl⟩ | exact ⟨rfl, rfl, rfl⟩ | (refine tr_and ?_ ?_ <;> first | rfl | exact ⟨rfl, rfl⟩ | kernel_rfl)
    · simp -implicitDefEqProofs (maxSteps := 2000000) only [go_sem]
      refine call_of (specCountRepairs_sat d hf) (by simp -implicitDefEqProofs (maxSteps := 2000000) only [go_sem, c1]) (by kernel_rfl) (by simp -implicitDefEqProofs (maxSteps := 2000000) only [go_sem, c1]) ?_
      simp -implicitDefEqProofs (maxSteps := 2000000) only [go_sem, c1]
      refine call_of (specIsQueryFor_sat d q hf hq) (by simp -implicitDefEqProofs (maxSteps := 2000000) only [go_sem, g]) (by kernel_rfl) (by simp -implicitDefEqProofs (maxSteps := 2000000) only [go_sem, g]) ?_
      simp -implicitDefEqProofs (maxSteps := 2000000) only [go_sem, g]
      first | done | rfl | exact ⟨rfl, rfl⟩ | exact ⟨rfl, rfl, rfl⟩ | (refine tr_and ?_ ?_ <;> first | rfl | exact ⟨rfl, rfl⟩ | kernel_rfl)
  have gd := queryFor_db g
  have hcR := cntR_eq gd
  have hb1 := (blocksOf_len gd).1
  by_cases c1 : k < cntR d
  · have wk : IntKind.i64.wrap ((k : Int) + 1) = ((k + 1 : Nat) : Int) := i64_succ (by omega)
    have wc : IntKind.i64.wrap ((cntP (holdP d q true) k : Int) + 1) = ((cntP (holdP d q true) k + 1 : Nat) : Int) := i64_succ (by omega)
    obtain ⟨e1, e2⟩ := nthD_eq gd (show k < prodL (blocksOf d) by omega)
    have hrl := repD_len d k
    rcases hP : holdP d q true k
    · have hm : met (wits d q) (repD d k) = false := by simpa [holdP] using hP
      simp -implicitDefEqProofs (maxSteps := 2000000) only [go_sem]
      refine call_of (specCountRepairs_sat d hf) (by simp -implicitDefEqProofs (maxSteps := 2000000) only [go_sem, c1]) (by kernel_rfl) (by simp -implicitDefEqProofs (maxSteps := 2000000) only [go_sem, c1]) ?_
      simp -implicitDefEqProofs (maxSteps := 2000000) only [go_sem, c1]
      refine call_of (specIsQueryFor_sat d q hf hq) (by simp -implicitDefEqProofs (maxSteps := 2000000) only [go_sem, g]) (by kernel_rfl) (by simp -implicitDefEqProofs (maxSteps := 2000000) only [go_sem, g]) ?_
      simp -implicitDefEqProofs (maxSteps := 2000000) only [go_sem, g]
      refine call_of (specNthRepair_sat d k hf) (by simp -implicitDefEqProofs (maxSteps := 2000000) only [go_sem, e1, e2]) (callOk_still (by kernel_rfl) (by simp only [List.all_cons, List.all_nil, LV.still, LV.leaves, Leaf.still, ints_still, ris_still, eds_still, rels_still, iss_still, ems_still, Bool.and_self, Bool.and_true])) (by simp -implicitDefEqProofs (maxSteps := 2000000) only [go_sem, e1, e2]) ?_
      simp -implicitDefEqProofs (maxSteps := 2000000) only [go_sem, e1, e2]
      refine call_of (l13Met_sat (wits d q) (repD d k) (by omega) (by omega) (fun w hw => by have := wits_mem w hw; omega)) (by simp -implicitDefEqProofs (maxSteps := 2000000) only [go_sem, hm]) (by kernel_rfl) (by simp -implicitDefEqProofs (maxSteps := 2000000) only [go_sem, hm]) ?_
      simp -implicitDefEqProofs (maxSteps := 2000000) only [go_sem, hm]
      rw [wk]
      exact ⟨k + 1, ⟨c1, fun e => by cases e⟩, by omega, (le_st' _ _ [⟨960, some _, false, 1, _⟩] [] _ (by simp -implicitDefEqProofs (maxSteps := 2000000) only [go_sem, cntP_no hP] <;> and_intros <;> rfl) (by simp -implicitDefEqProofs (maxSteps := 2000000) only [go_sem, cntP_no hP] <;> and_intros <;> rfl) (by simp -implicitDefEqProofs (maxSteps := 2000000) only [go_sem, cntP_no hP] <;> and_intros <;> rfl) (by rfl))⟩
    · have hm : met (wits d q) (repD d k) = true := by simpa [holdP] using hP
      simp -implicitDefEqProofs (maxSteps := 2000000) only [go_sem]
      refine call_of (specCountRepairs_sat d hf) (by simp -implicitDefEqProofs (maxSteps := 2000000) only [go_sem, c1]) (by kernel_rfl) (by simp -implicitDefEqProofs (maxSteps := 2000000) only [go_sem, c1]) ?_
      simp -implicitDefEqProofs (maxSteps := 2000000) only [go_sem, c1]
      refine call_of (specIsQueryFor_sat d q hf hq) (by simp -implicitDefEqProofs (maxSteps := 2000000) only [go_sem, g]) (by kernel_rfl) (by simp -implicitDefEqProofs (maxSteps := 2000000) only [go_sem, g]) ?_
      simp -implicitDefEqProofs (maxSteps := 2000000) only [go_sem, g]
      refine call_of (specNthRepair_sat d k hf) (by simp -implicitDefEqProofs (maxSteps := 2000000) only [go_sem, e1, e2]) (callOk_still (by kernel_rfl) (by simp only [List.all_cons, List.all_nil, LV.still, LV.leaves, Leaf.still, ints_still, ris_still, eds_still, rels_still, iss_still, ems_still, Bool.and_self, Bool.and_true])) (by simp -implicitDefEqProofs (maxSteps := 2000000) only [go_sem, e1, e2]) ?_
      simp -implicitDefEqProofs (maxSteps := 2000000) only [go_sem, e1, e2]
      refine call_of (l13Met_sat (wits d q) (repD d k) (by omega) (by omega) (fun w hw => by have := wits_mem w hw; omega)) (by simp -implicitDefEqProofs (maxSteps := 2000000) only [go_sem, hm]) (by kernel_rfl) (by simp -implicitDefEqProofs (maxSteps := 2000000) only [go_sem, hm]) ?_
      simp -implicitDefEqProofs (maxSteps := 2000000) only [go_sem, hm]
      rw [wk, wc]
      exact ⟨k + 1, ⟨c1, fun e => by cases e⟩, by omega, (le_st' _ _ [⟨960, some _, false, 1, _⟩] [] _ (by simp -implicitDefEqProofs (maxSteps := 2000000) only [go_sem, cntP_yes hP] <;> and_intros <;> rfl) (by simp -implicitDefEqProofs (maxSteps := 2000000) only [go_sem, cntP_yes hP] <;> and_intros <;> rfl) (by simp -implicitDefEqProofs (maxSteps := 2000000) only [go_sem, cntP_yes hP] <;> and_intros <;> rfl) (by rfl))⟩
  · obtain rfl : k = cntR d := by omega
    unfold hldC
    rw [g, if_pos rfl, ← hcR]
    simp -implicitDefEqProofs (maxSteps := 2000000) only [go_sem]
    refine call_of (specCountRepairs_sat d hf) (by simp -implicitDefEqProofs (maxSteps := 2000000) only [go_sem, c1]) (by kernel_rfl) (by simp -implicitDefEqProofs (maxSteps := 2000000) only [go_sem, c1]) ?_
    simp -implicitDefEqProofs (maxSteps := 2000000) only [go_sem, c1]
    first | done | rfl | exact ⟨rfl, rfl⟩ | exact ⟨rfl, rfl, rfl⟩ | (refine tr_and ?_ ?_ <;> first | rfl | exact ⟨rfl, rfl⟩ | kernel_rfl)
theorem implCountSatisfyingRepairs_sat (d : Db) (q : Qu) (h : d.fit) (hq : q.ok) : Sat Tryz.prog 10 [lDb d, lQu q] [lInt (hldC d q true)] [g2, g3] := by
  refine sat_of_body mixed Tryz.func10 rfl (by kernel_rfl) (by kernel_rfl) (rs := [.tmp 4]) rfl rfl rfl ?_
  simp -implicitDefEqProofs (maxSteps := 2000000) only [go_sem]
  refine call_of (holding_sat d q true h hq) (by simp -implicitDefEqProofs (maxSteps := 2000000) only [go_sem]) (callOk_still (by kernel_rfl) (by simp only [List.all_cons, List.all_nil, LV.still, LV.leaves, Leaf.still, ints_still, ris_still, eds_still, rels_still, iss_still, ems_still, Bool.and_self, Bool.and_true])) (by simp -implicitDefEqProofs (maxSteps := 2000000) only [go_sem]) ?_
  simp -implicitDefEqProofs (maxSteps := 2000000) only [go_sem]
  first | done | rfl | exact ⟨rfl, rfl⟩ | exact ⟨rfl, rfl, rfl⟩ | (refine tr_and ?_ ?_ <;> first | rfl | exact ⟨rfl, rfl⟩ | kernel_rfl)
theorem implIsCertain_sat (d : Db) (q : Qu) (h : d.fit) (hq : q.ok) : Sat Tryz.prog 6 [lDb d, lQu q] [lBool (queryFor d q && !decide (0 < hldC d q false))] [g2, g3] := by
  refine sat_of_body mixed Tryz.func6 rfl (by kernel_rfl) (by kernel_rfl) (rs := [.tmp 4]) rfl rfl rfl ?_
  have e : (((hldC d q false : Nat) : Int) == 0) = !decide (0 < hldC d q false) := by
    rcases hc : decide (0 < hldC d q false)
    · have := of_decide_eq_false hc; rw [Bool.not_false, beq_iff_eq]; omega
    · have := of_decide_eq_true hc; rw [Bool.not_true, beq_eq_false_iff_ne]; omega
  rcases g : queryFor d q
  · simp -implicitDefEqProofs (maxSteps := 2000000) only [go_sem]
    refine call_of (holding_sat d q false h hq) (by simp -implicitDefEqProofs (maxSteps := 2000000) only [go_sem, g]) (callOk_still (by kernel_rfl) (by simp only [List.all_cons, List.all_nil, LV.still, LV.leaves, Leaf.still, ints_still, ris_still, eds_still, rels_still, iss_still, ems_still, Bool.and_self, Bool.and_true])) (by simp -implicitDefEqProofs (maxSteps := 2000000) only [go_sem, g]) ?_
    simp -implicitDefEqProofs (maxSteps := 2000000) only [go_sem, g]
    first | done | rfl | exact ⟨rfl, rfl⟩ | exact ⟨rfl, rfl, rfl⟩ | (refine tr_and ?_ ?_ <;> first | rfl | exact ⟨rfl, rfl⟩ | kernel_rfl)
  · simp -implicitDefEqProofs (maxSteps := 2000000) only [go_sem]
    refine call_of (holding_sat d q false h hq) (by simp -implicitDefEqProofs (maxSteps := 2000000) only [go_sem, g, e]) (callOk_still (by kernel_rfl) (by simp only [List.all_cons, List.all_nil, LV.still, LV.leaves, Leaf.still, ints_still, ris_still, eds_still, rels_still, iss_still, ems_still, Bool.and_self, Bool.and_true])) (by simp -implicitDefEqProofs (maxSteps := 2000000) only [go_sem, g, e]) ?_
    simp -implicitDefEqProofs (maxSteps := 2000000) only [go_sem, g, e]
    first | done | rfl | exact ⟨rfl, rfl⟩ | exact ⟨rfl, rfl, rfl⟩ | (refine tr_and ?_ ?_ <;> first | rfl | exact ⟨rfl, rfl⟩ | kernel_rfl)
theorem implIsPossible_sat (d : Db) (q : Qu) (h : d.fit) (hq : q.ok) : Sat Tryz.prog 7 [lDb d, lQu q] [lBool (decide (0 < hldC d q true))] [g2, g3] := by
  refine sat_of_body mixed Tryz.func7 rfl (by kernel_rfl) (by kernel_rfl) (rs := [.tmp 4]) rfl rfl rfl ?_
  have e : decide (((hldC d q true : Nat) : Int) > 0) = decide (0 < hldC d q true) := decide_eq_decide.mpr (by omega)
  simp -implicitDefEqProofs (maxSteps := 2000000) only [go_sem]
  refine call_of (holding_sat d q true h hq) (by simp -implicitDefEqProofs (maxSteps := 2000000) only [go_sem, e]) (callOk_still (by kernel_rfl) (by simp only [List.all_cons, List.all_nil, LV.still, LV.leaves, Leaf.still, ints_still, ris_still, eds_still, rels_still, iss_still, ems_still, Bool.and_self, Bool.and_true])) (by simp -implicitDefEqProofs (maxSteps := 2000000) only [go_sem, e]) ?_
  simp -implicitDefEqProofs (maxSteps := 2000000) only [go_sem, e]
  first | done | rfl | exact ⟨rfl, rfl⟩ | exact ⟨rfl, rfl, rfl⟩ | (refine tr_and ?_ ?_ <;> first | rfl | exact ⟨rfl, rfl⟩ | kernel_rfl)
theorem implFalsifyingRepair_sat (d : Db) (q : Qu) (h : d.fit) (hq : q.ok) : Sat Tryz.prog 8 [lDb d, lQu q] [oInts (hldF d q false), lBool (decide (0 < hldC d q false))] [g2, g3] := by
  refine sat_of_body mixed Tryz.func8 rfl (by kernel_rfl) (by kernel_rfl) (rs := [.tmp 4, .tmp 5]) rfl rfl rfl ?_
  have e : decide (((hldC d q false : Nat) : Int) > 0) = decide (0 < hldC d q false) := decide_eq_decide.mpr (by omega)
  simp -implicitDefEqProofs (maxSteps := 2000000) only [go_sem]
  refine call_of (holding_sat d q false h hq) (by simp -implicitDefEqProofs (maxSteps := 2000000) only [go_sem, e]) (callOk_still (by kernel_rfl) (by simp only [List.all_cons, List.all_nil, LV.still, LV.leaves, Leaf.still, ints_still, ris_still, eds_still, rels_still, iss_still, ems_still, Bool.and_self, Bool.and_true])) (by simp -implicitDefEqProofs (maxSteps := 2000000) only [go_sem, e]) ?_
  simp -implicitDefEqProofs (maxSteps := 2000000) only [go_sem, e]
  first | done | rfl | exact ⟨rfl, rfl⟩ | exact ⟨rfl, rfl, rfl⟩ | (refine tr_and ?_ ?_ <;> first | rfl | exact ⟨rfl, rfl⟩ | kernel_rfl)
theorem implSatisfyingRepair_sat (d : Db) (q : Qu) (h : d.fit) (hq : q.ok) : Sat Tryz.prog 9 [lDb d, lQu q] [oInts (hldF d q true), lBool (decide (0 < hldC d q true))] [g2, g3] := by
  refine sat_of_body mixed Tryz.func9 rfl (by kernel_rfl) (by kernel_rfl) (rs := [.tmp 4, .tmp 5]) rfl rfl rfl ?_
  have e : decide (((hldC d q true : Nat) : Int) > 0) = decide (0 < hldC d q true) := decide_eq_decide.mpr (by omega)
  simp -implicitDefEqProofs (maxSteps := 2000000) only [go_sem]
  refine call_of (holding_sat d q true h hq) (by simp -implicitDefEqProofs (maxSteps := 2000000) only [go_sem, e]) (callOk_still (by kernel_rfl) (by simp only [List.all_cons, List.all_nil, LV.still, LV.leaves, Leaf.still, ints_still, ris_still, eds_still, rels_still, iss_still, ems_still, Bool.and_self, Bool.and_true])) (by simp -implicitDefEqProofs (maxSteps := 2000000) only [go_sem, e]) ?_
  simp -implicitDefEqProofs (maxSteps := 2000000) only [go_sem, e]
  first | done | rfl | exact ⟨rfl, rfl⟩ | exact ⟨rfl, rfl, rfl⟩ | (refine tr_and ?_ ?_ <;> first | rfl | exact ⟨rfl, rfl⟩ | kernel_rfl)
end Go.Proofs.YtedciihjgbkjgaaGreat.A


/- THE WALK OF THE LAW FnCertainty. Conditions: none. -/
namespace Go.Proofs.YtedciihjgbkjgaaGreat.A
open Go
set_option linter.unusedSimpArgs false
set_option linter.unusedVariables false
set_option maxRecDepth 100000
theorem bigY_sat (b : List Int) (h : b.length ≤ 9223372036854775807) : Sat Tryz.prog 4 [lBys b] [lBool (decide ((b.length : Int) > 1048576))] [g1] := by
  refine sat_of_body mixed Tryz.func4 rfl (by kernel_rfl) (by kernel_rfl) (rs := [.tmp 2]) rfl rfl rfl ?_
  simp -implicitDefEqProofs (maxSteps := 2000000) only [go_sem]
theorem drawIC_ex (b : List Int) (h : b.length ≤ 1048576) : ∃ (d : Db) (q : Qu), DbS d 13 ∧ QuD 201 q ∧ Sat Tryz.prog 5 [lBys b] [lDb d, oQu q] [g1] := by
  obtain ⟨c', d, q, h1, h2, h3, s⟩ := l12Both_ex b h
  refine ⟨d, q, h1, h2, ?_⟩
  refine sat_of_body mixed Tryz.func5 rfl (by kernel_rfl) (by kernel_rfl) (rs := [.cell 2 27, .cell 3 31]) rfl rfl rfl ?_
  simp -implicitDefEqProofs (maxSteps := 2000000) only [go_sem]
  refine call_of (s) (by simp -implicitDefEqProofs (maxSteps := 2000000) only [go_sem]) (by kernel_rfl) (by simp -implicitDefEqProofs (maxSteps := 2000000) only [go_sem]) ?_
  simp -implicitDefEqProofs (maxSteps := 2000000) only [go_sem]
  first | (with_reducible refine tr_and ?_ ?_; focus kernel_rfl) | (with_reducible refine tr_only ?_; kernel_rfl) | skip
  and_intros <;> rfl
theorem isRepair_sat (d : Db) (k : Nat) (h : d.ok) (g : goodDb d = true) : Sat Tryz.prog 14 [lDb d, lInts (repD d k)] [lBool true] [g2, g1] := by
  refine sat_of_body mixed Tryz.func14 rfl (by kernel_rfl) (by kernel_rfl) (rs := [.tmp 4]) rfl rfl rfl ?_
  have hl : (repD d k).length ≤ 14 := by rw [repD_len]; exact (blocksOf_len g).1
  have e := repD_PR g k
  have hB : blocksD d = blocksOf d := by rw [blocksD, g]; rfl
  have hn := repD_len d k
  have hN : ∀ n : Nat, (((n : Nat) : Int) == ((n : Nat) : Int)) = true := fun n => by simp
  simp -implicitDefEqProofs (maxSteps := 2000000) only [go_sem]
  refine call_of (isPartialRepair_sat d (repD d k) h (by omega) (selD_ok _ h (by omega)).fit) (by simp -implicitDefEqProofs (maxSteps := 2000000) only [go_sem, e]) (by kernel_rfl) (by simp -implicitDefEqProofs (maxSteps := 2000000) only [go_sem, e]) ?_
  simp -implicitDefEqProofs (maxSteps := 2000000) only [go_sem, e]
  refine call_of (specBlocks_sat d h.fit) (by simp -implicitDefEqProofs (maxSteps := 2000000) only [go_sem, hB, hn, hN]) (callOk_still (by kernel_rfl) (by simp only [List.all_cons, List.all_nil, LV.still, LV.leaves, Leaf.still, ints_still, ris_still, eds_still, rels_still, iss_still, ems_still, Bool.and_self, Bool.and_true])) (by simp -implicitDefEqProofs (maxSteps := 2000000) only [go_sem, hB, hn, hN]) ?_
  simp -implicitDefEqProofs (maxSteps := 2000000) only [go_sem, hB, hn, hN]
  first | (with_reducible refine tr_and ?_ ?_; focus kernel_rfl) | (with_reducible refine tr_only ?_; kernel_rfl) | skip
  first | done | rfl | exact ⟨rfl, rfl⟩ | exact ⟨rfl, rfl, rfl⟩ | (refine tr_and ?_ ?_ <;> first | rfl | exact ⟨rfl, rfl⟩ | kernel_rfl)
set_option maxHeartbeats 8000000 in
/-- THE LAW FnCertainty. -/
theorem lawCertainty_sat (b : List Int) (h : b.length ≤ 9223372036854775807) : Sat Tryz.prog 3 [lBys b] [lBool true] [g1] := by
  refine sat_of_body mixed Tryz.func3 rfl (by kernel_rfl) (by kernel_rfl) (rs := [.tmp 2]) rfl rfl rfl ?_
  simp -implicitDefEqProofs (maxSteps := 2000000) only [go_sem]
  refine call_of (bigY_sat b h) (by simp -implicitDefEqProofs (maxSteps := 2000000) only [go_sem]) (by kernel_rfl) (by simp -implicitDefEqProofs (maxSteps := 2000000) only [go_sem]) ?_
  simp -implicitDefEqProofs (maxSteps := 2000000) only [go_sem]
  refine cond_split (fun e0 => ?_) fun e0 => ?_
  · simp -implicitDefEqProofs (maxSteps := 2000000) only [go_sem]
  have o0 : b.length ≤ 1048576 := by have := of_decide_eq_false e0; omega
  simp -implicitDefEqProofs (maxSteps := 2000000) only [go_sem]
  obtain ⟨d, q, hd, hq, s0⟩ := drawIC_ex b o0
  have hok := hd.ok (m := 13) (by decide)
  have hf := hok.fit
  have qok := hq.ok (by decide)
  have qf := qok.fit
  have nF := hldF_len d q false
  have nT := hldF_len d q true
  refine call_of (s0) (by simp -implicitDefEqProofs (maxSteps := 2000000) only [go_sem]) (by kernel_rfl) (by simp -implicitDefEqProofs (maxSteps := 2000000) only [go_sem]) ?_
  simp -implicitDefEqProofs (maxSteps := 2000000) only [go_sem]
  refine call_of (implIsCertain_sat d q hf qok) (by simp -implicitDefEqProofs (maxSteps := 2000000) only [go_sem]) (by kernel_rfl) (by simp -implicitDefEqProofs (maxSteps := 2000000) only [go_sem]) ?_
  simp -implicitDefEqProofs (maxSteps := 2000000) only [go_sem]
  refine call_of (implIsPossible_sat d q hf qok) (by simp -implicitDefEqProofs (maxSteps := 2000000) only [go_sem]) (by kernel_rfl) (by simp -implicitDefEqProofs (maxSteps := 2000000) only [go_sem]) ?_
  simp -implicitDefEqProofs (maxSteps := 2000000) only [go_sem]
  refine call_of (implFalsifyingRepair_sat d q hf qok) (by simp -implicitDefEqProofs (maxSteps := 2000000) only [go_sem]) (callOk_still (by kernel_rfl) (by simp only [List.all_cons, List.all_nil, LV.still, LV.leaves, Leaf.still, ints_still, ris_still, eds_still, rels_still, iss_still, ems_still, Bool.and_self, Bool.and_true])) (by simp -implicitDefEqProofs (maxSteps := 2000000) only [go_sem]) ?_
  simp -implicitDefEqProofs (maxSteps := 2000000) only [go_sem]
  refine call_of (implSatisfyingRepair_sat d q hf qok) (by simp -implicitDefEqProofs (maxSteps := 2000000) only [go_sem]) (callOk_still (by kernel_rfl) (by simp only [List.all_cons, List.all_nil, LV.still, LV.leaves, Leaf.still, ints_still, ris_still, eds_still, rels_still, iss_still, ems_still, Bool.and_self, Bool.and_true])) (by simp -implicitDefEqProofs (maxSteps := 2000000) only [go_sem]) ?_
  simp -implicitDefEqProofs (maxSteps := 2000000) only [go_sem]
  refine call_of (implCountSatisfyingRepairs_sat d q hf qok) (by simp -implicitDefEqProofs (maxSteps := 2000000) only [go_sem]) (by kernel_rfl) (by simp -implicitDefEqProofs (maxSteps := 2000000) only [go_sem]) ?_
  simp -implicitDefEqProofs (maxSteps := 2000000) only [go_sem]
  rcases g : queryFor d q
  · have z0 : hldC d q false = 0 := by unfold hldC; rw [g]; rfl
    have z1 : hldC d q true = 0 := by unfold hldC; rw [g]; rfl
    have z2 : decide (0 < 0) = false := rfl
    refine call_of (specIsQueryFor_sat d q hf qf) (by simp -implicitDefEqProofs (maxSteps := 2000000) only [go_sem, g, z0, z1, z2]) (by kernel_rfl) (by simp -implicitDefEqProofs (maxSteps := 2000000) only [go_sem, g, z0, z1, z2]) ?_
    simp -implicitDefEqProofs (maxSteps := 2000000) only [go_sem, g, z0, z1, z2]
    first | (with_reducible refine tr_and ?_ ?_; focus kernel_rfl) | (with_reducible refine tr_only ?_; kernel_rfl) | skip
    first | done | rfl | exact ⟨rfl, rfl⟩ | exact ⟨rfl, rfl, rfl⟩ | (refine tr_and ?_ ?_ <;> first | rfl | exact ⟨rfl, rfl⟩ | kernel_rfl)
  have gd := queryFor_db g
  have hS := hldC_sum g
  have hE := hldC_embs g
  have hcR : cntR d = prodL (blocksOf d) := by rw [cntR, if_pos gd]
  have nv := embs_len d q
  refine call_of (specIsQueryFor_sat d q hf qf) (by simp -implicitDefEqProofs (maxSteps := 2000000) only [go_sem, g]) (by kernel_rfl) (by simp -implicitDefEqProofs (maxSteps := 2000000) only [go_sem, g]) ?_
  simp -implicitDefEqProofs (maxSteps := 2000000) only [go_sem, g]
  have hZ : ∀ n : Int, (n != n) = false := fun n => by simp
  have b1 : (true == false) = false := rfl
  have b2 : (false == true) = false := rfl
  have b3 : (true == true) = true := rfl
  have b4 : (false == false) = true := rfl
  have rl : ∀ k, (repD d k).length ≤ 1048576 := fun k => by have h1 := repD_len d k; have h2 := (blocksOf_len gd).1; omega
  have e5 : (((hldC d q true : Nat) : Int) == ((prodL (blocksOf d) : Nat) : Int)) = !decide (0 < hldC d q false) := by
    rw [Bool.eq_iff_iff, beq_iff_eq, Bool.not_eq_true', decide_eq_false_iff_not]; omega
  have e6 : decide (((hldC d q true : Nat) : Int) > 0) = decide (0 < hldC d q true) := decide_eq_decide.mpr (by omega)
  have e7 : decide ((((embs d q).length : Nat) : Int) > 0) = decide (0 < hldC d q true) := by rw [hE]; exact decide_eq_decide.mpr (by omega)
  rcases hx : decide (0 < hldC d q false)
  · rcases hy : decide (0 < hldC d q true)
    · refine call_of (specIsCertain_sat d q hok qf) (by simp -implicitDefEqProofs (maxSteps := 2000000) only [go_sem, g, hx, hy, hZ, b1, b2, b3, b4]) (by kernel_rfl) (by simp -implicitDefEqProofs (maxSteps := 2000000) only [go_sem, g, hx, hy, hZ, b1, b2, b3, b4]) ?_
      simp -implicitDefEqProofs (maxSteps := 2000000) only [go_sem, g, hx, hy, hZ, b1, b2, b3, b4]
      refine call_of (specCountSatisfyingRepairs_sat d q hok qf) (by simp -implicitDefEqProofs (maxSteps := 2000000) only [go_sem, g, hx, hy, hZ, b1, b2, b3, b4]) (by kernel_rfl) (by simp -implicitDefEqProofs (maxSteps := 2000000) only [go_sem, g, hx, hy, hZ, b1, b2, b3, b4]) ?_
      simp -implicitDefEqProofs (maxSteps := 2000000) only [go_sem, g, hx, hy, hZ, b1, b2, b3, b4]
      refine call_of (specCountRepairs_sat d hf) (by simp -implicitDefEqProofs (maxSteps := 2000000) only [go_sem, hx, hy, hcR, e5, e6, b1, b2, b3, b4]) (by kernel_rfl) (by simp -implicitDefEqProofs (maxSteps := 2000000) only [go_sem, hx, hy, hcR, e5, e6, b1, b2, b3, b4]) ?_
      simp -implicitDefEqProofs (maxSteps := 2000000) only [go_sem, hx, hy, hcR, e5, e6, b1, b2, b3, b4]
      refine call_of (specFindEmbeddings_sat d q hf qf) (by simp -implicitDefEqProofs (maxSteps := 2000000) only [go_sem, hx, hy, hcR, e5, e6, e7, b1, b2, b3, b4]) (callOk_still (by kernel_rfl) (by simp only [List.all_cons, List.all_nil, LV.still, LV.leaves, Leaf.still, ints_still, ris_still, eds_still, rels_still, iss_still, ems_still, Bool.and_self, Bool.and_true])) (by simp -implicitDefEqProofs (maxSteps := 2000000) only [go_sem, hx, hy, hcR, e5, e6, e7, b1, b2, b3, b4]) ?_
      simp -implicitDefEqProofs (maxSteps := 2000000) only [go_sem, hx, hy, hcR, e5, e6, e7, b1, b2, b3, b4]
      first | (with_reducible refine tr_and ?_ ?_; focus kernel_rfl) | (with_reducible refine tr_only ?_; kernel_rfl) | skip
      first | done | rfl | exact ⟨rfl, rfl⟩ | exact ⟨rfl, rfl, rfl⟩ | (refine tr_and ?_ ?_ <;> first | rfl | exact ⟨rfl, rfl⟩ | kernel_rfl)
    · obtain ⟨m, -, hT, hU⟩ := hldF_at g (want := true) (of_decide_eq_true hy)
      rw [hT] at *
      refine call_of (specIsCertain_sat d q hok qf) (by simp -implicitDefEqProofs (maxSteps := 2000000) only [go_sem, g, hx, hy, hZ, b1, b2, b3, b4]) (by kernel_rfl) (by simp -implicitDefEqProofs (maxSteps := 2000000) only [go_sem, g, hx, hy, hZ, b1, b2, b3, b4]) ?_
      simp -implicitDefEqProofs (maxSteps := 2000000) only [go_sem, g, hx, hy, hZ, b1, b2, b3, b4]
      refine call_of (specCountSatisfyingRepairs_sat d q hok qf) (by simp -implicitDefEqProofs (maxSteps := 2000000) only [go_sem, g, hx, hy, hZ, b1, b2, b3, b4]) (by kernel_rfl) (by simp -implicitDefEqProofs (maxSteps := 2000000) only [go_sem, g, hx, hy, hZ, b1, b2, b3, b4]) ?_
      simp -implicitDefEqProofs (maxSteps := 2000000) only [go_sem, g, hx, hy, hZ, b1, b2, b3, b4]
      refine call_of (isRepair_sat d m hok gd) (by simp -implicitDefEqProofs (maxSteps := 2000000) only [go_sem, hx, hy, b1, b2, b3, b4]) (by kernel_rfl) (by simp -implicitDefEqProofs (maxSteps := 2000000) only [go_sem, hx, hy, b1, b2, b3, b4]) ?_
      simp -implicitDefEqProofs (maxSteps := 2000000) only [go_sem, hx, hy, b1, b2, b3, b4]
      refine call_of (specHoldsIn_sat d (repD d m) q hok (rl m) qf) (by simp -implicitDefEqProofs (maxSteps := 2000000) only [go_sem, hx, hy, hU, b1, b2, b3, b4]) (by kernel_rfl) (by simp -implicitDefEqProofs (maxSteps := 2000000) only [go_sem, hx, hy, hU, b1, b2, b3, b4]) ?_
      simp -implicitDefEqProofs (maxSteps := 2000000) only [go_sem, hx, hy, hU, b1, b2, b3, b4]
      refine call_of (specCountRepairs_sat d hf) (by simp -implicitDefEqProofs (maxSteps := 2000000) only [go_sem, hx, hy, hcR, e5, e6, b1, b2, b3, b4]) (by kernel_rfl) (by simp -implicitDefEqProofs (maxSteps := 2000000) only [go_sem, hx, hy, hcR, e5, e6, b1, b2, b3, b4]) ?_
      simp -implicitDefEqProofs (maxSteps := 2000000) only [go_sem, hx, hy, hcR, e5, e6, b1, b2, b3, b4]
      refine call_of (specFindEmbeddings_sat d q hf qf) (by simp -implicitDefEqProofs (maxSteps := 2000000) only [go_sem, hx, hy, hcR, e5, e6, e7, b1, b2, b3, b4]) (callOk_still (by kernel_rfl) (by simp only [List.all_cons, List.all_nil, LV.still, LV.leaves, Leaf.still, ints_still, ris_still, eds_still, rels_still, iss_still, ems_still, Bool.and_self, Bool.and_true])) (by simp -implicitDefEqProofs (maxSteps := 2000000) only [go_sem, hx, hy, hcR, e5, e6, e7, b1, b2, b3, b4]) ?_
      simp -implicitDefEqProofs (maxSteps := 2000000) only [go_sem, hx, hy, hcR, e5, e6, e7, b1, b2, b3, b4]
      first | (with_reducible refine tr_and ?_ ?_; focus kernel_rfl) | (with_reducible refine tr_only ?_; kernel_rfl) | skip
      first | done | rfl | exact ⟨rfl, rfl⟩ | exact ⟨rfl, rfl, rfl⟩ | (refine tr_and ?_ ?_ <;> first | rfl | exact ⟨rfl, rfl⟩ | kernel_rfl)
  · rcases hy : decide (0 < hldC d q true)
    · obtain ⟨k, -, hF, hH⟩ := hldF_at g (want := false) (of_decide_eq_true hx)
      rw [hF] at *
      refine call_of (specIsCertain_sat d q hok qf) (by simp -implicitDefEqProofs (maxSteps := 2000000) only [go_sem, g, hx, hy, hZ, b1, b2, b3, b4]) (by kernel_rfl) (by simp -implicitDefEqProofs (maxSteps := 2000000) only [go_sem, g, hx, hy, hZ, b1, b2, b3, b4]) ?_
      simp -implicitDefEqProofs (maxSteps := 2000000) only [go_sem, g, hx, hy, hZ, b1, b2, b3, b4]
      refine call_of (specCountSatisfyingRepairs_sat d q hok qf) (by simp -implicitDefEqProofs (maxSteps := 2000000) only [go_sem, g, hx, hy, hZ, b1, b2, b3, b4]) (by kernel_rfl) (by simp -implicitDefEqProofs (maxSteps := 2000000) only [go_sem, g, hx, hy, hZ, b1, b2, b3, b4]) ?_
      simp -implicitDefEqProofs (maxSteps := 2000000) only [go_sem, g, hx, hy, hZ, b1, b2, b3, b4]
      refine call_of (isRepair_sat d k hok gd) (by simp -implicitDefEqProofs (maxSteps := 2000000) only [go_sem, hx, hy, b1, b2, b3, b4]) (by kernel_rfl) (by simp -implicitDefEqProofs (maxSteps := 2000000) only [go_sem, hx, hy, b1, b2, b3, b4]) ?_
      simp -implicitDefEqProofs (maxSteps := 2000000) only [go_sem, hx, hy, b1, b2, b3, b4]
      refine call_of (specHoldsIn_sat d (repD d k) q hok (rl k) qf) (by simp -implicitDefEqProofs (maxSteps := 2000000) only [go_sem, hx, hy, hH, b1, b2, b3, b4]) (by kernel_rfl) (by simp -implicitDefEqProofs (maxSteps := 2000000) only [go_sem, hx, hy, hH, b1, b2, b3, b4]) ?_
      simp -implicitDefEqProofs (maxSteps := 2000000) only [go_sem, hx, hy, hH, b1, b2, b3, b4]
      refine call_of (specCountRepairs_sat d hf) (by simp -implicitDefEqProofs (maxSteps := 2000000) only [go_sem, hx, hy, hcR, e5, e6, b1, b2, b3, b4]) (by kernel_rfl) (by simp -implicitDefEqProofs (maxSteps := 2000000) only [go_sem, hx, hy, hcR, e5, e6, b1, b2, b3, b4]) ?_
      simp -implicitDefEqProofs (maxSteps := 2000000) only [go_sem, hx, hy, hcR, e5, e6, b1, b2, b3, b4]
      refine call_of (specFindEmbeddings_sat d q hf qf) (by simp -implicitDefEqProofs (maxSteps := 2000000) only [go_sem, hx, hy, hcR, e5, e6, e7, b1, b2, b3, b4]) (callOk_still (by kernel_rfl) (by simp only [List.all_cons, List.all_nil, LV.still, LV.leaves, Leaf.still, ints_still, ris_still, eds_still, rels_still, iss_still, ems_still, Bool.and_self, Bool.and_true])) (by simp -implicitDefEqProofs (maxSteps := 2000000) only [go_sem, hx, hy, hcR, e5, e6, e7, b1, b2, b3, b4]) ?_
      simp -implicitDefEqProofs (maxSteps := 2000000) only [go_sem, hx, hy, hcR, e5, e6, e7, b1, b2, b3, b4]
      first | (with_reducible refine tr_and ?_ ?_; focus kernel_rfl) | (with_reducible refine tr_only ?_; kernel_rfl) | skip
      first | done | rfl | exact ⟨rfl, rfl⟩ | exact ⟨rfl, rfl, rfl⟩ | (refine tr_and ?_ ?_ <;> first | rfl | exact ⟨rfl, rfl⟩ | kernel_rfl)
    · obtain ⟨k, -, hF, hH⟩ := hldF_at g (want := false) (of_decide_eq_true hx)
      obtain ⟨m, -, hT, hU⟩ := hldF_at g (want := true) (of_decide_eq_true hy)
      rw [hF] at *
      rw [hT] at *
      refine call_of (specIsCertain_sat d q hok qf) (by simp -implicitDefEqProofs (maxSteps := 2000000) only [go_sem, g, hx, hy, hZ, b1, b2, b3, b4]) (by kernel_rfl) (by simp -implicitDefEqProofs (maxSteps := 2000000) only [go_sem, g, hx, hy, hZ, b1, b2, b3, b4]) ?_
      simp -implicitDefEqProofs (maxSteps := 2000000) only [go_sem, g, hx, hy, hZ, b1, b2, b3, b4]
      refine call_of (specCountSatisfyingRepairs_sat d q hok qf) (by simp -implicitDefEqProofs (maxSteps := 2000000) only [go_sem, g, hx, hy, hZ, b1, b2, b3, b4]) (by kernel_rfl) (by simp -implicitDefEqProofs (maxSteps := 2000000) only [go_sem, g, hx, hy, hZ, b1, b2, b3, b4]) ?_
      simp -implicitDefEqProofs (maxSteps := 2000000) only [go_sem, g, hx, hy, hZ, b1, b2, b3, b4]
      refine call_of (isRepair_sat d k hok gd) (by simp -implicitDefEqProofs (maxSteps := 2000000) only [go_sem, hx, hy, b1, b2, b3, b4]) (by kernel_rfl) (by simp -implicitDefEqProofs (maxSteps := 2000000) only [go_sem, hx, hy, b1, b2, b3, b4]) ?_
      simp -implicitDefEqProofs (maxSteps := 2000000) only [go_sem, hx, hy, b1, b2, b3, b4]
      refine call_of (specHoldsIn_sat d (repD d k) q hok (rl k) qf) (by simp -implicitDefEqProofs (maxSteps := 2000000) only [go_sem, hx, hy, hH, b1, b2, b3, b4]) (by kernel_rfl) (by simp -implicitDefEqProofs (maxSteps := 2000000) only [go_sem, hx, hy, hH, b1, b2, b3, b4]) ?_
      simp -implicitDefEqProofs (maxSteps := 2000000) only [go_sem, hx, hy, hH, b1, b2, b3, b4]
      refine call_of (isRepair_sat d m hok gd) (by simp -implicitDefEqProofs (maxSteps := 2000000) only [go_sem, hx, hy, b1, b2, b3, b4]) (by kernel_rfl) (by simp -implicitDefEqProofs (maxSteps := 2000000) only [go_sem, hx, hy, b1, b2, b3, b4]) ?_
      simp -implicitDefEqProofs (maxSteps := 2000000) only [go_sem, hx, hy, b1, b2, b3, b4]
      refine call_of (specHoldsIn_sat d (repD d m) q hok (rl m) qf) (by simp -implicitDefEqProofs (maxSteps := 2000000) only [go_sem, hx, hy, hU, b1, b2, b3, b4]) (by kernel_rfl) (by simp -implicitDefEqProofs (maxSteps := 2000000) only [go_sem, hx, hy, hU, b1, b2, b3, b4]) ?_
      simp -implicitDefEqProofs (maxSteps := 2000000) only [go_sem, hx, hy, hU, b1, b2, b3, b4]
      refine call_of (specCountRepairs_sat d hf) (by simp -implicitDefEqProofs (maxSteps := 2000000) only [go_sem, hx, hy, hcR, e5, e6, b1, b2, b3, b4]) (by kernel_rfl) (by simp -implicitDefEqProofs (maxSteps := 2000000) only [go_sem, hx, hy, hcR, e5, e6, b1, b2, b3, b4]) ?_
      simp -implicitDefEqProofs (maxSteps := 2000000) only [go_sem, hx, hy, hcR, e5, e6, b1, b2, b3, b4]
      refine call_of (specFindEmbeddings_sat d q hf qf) (by simp -implicitDefEqProofs (maxSteps := 2000000) only [go_sem, hx, hy, hcR, e5, e6, e7, b1, b2, b3, b4]) (callOk_still (by kernel_rfl) (by simp only [List.all_cons, List.all_nil, LV.still, LV.leaves, Leaf.still, ints_still, ris_still, eds_still, rels_still, iss_still, ems_still, Bool.and_self, Bool.and_true])) (by simp -implicitDefEqProofs (maxSteps := 2000000) only [go_sem, hx, hy, hcR, e5, e6, e7, b1, b2, b3, b4]) ?_
      simp -implicitDefEqProofs (maxSteps := 2000000) only [go_sem, hx, hy, hcR, e5, e6, e7, b1, b2, b3, b4]
      first | (with_reducible refine tr_and ?_ ?_; focus kernel_rfl) | (with_reducible refine tr_only ?_; kernel_rfl) | skip
      first | done | rfl | exact ⟨rfl, rfl⟩ | exact ⟨rfl, rfl, rfl⟩ | (refine tr_and ?_ ?_ <;> first | rfl | exact ⟨rfl, rfl⟩ | kernel_rfl)
end Go.Proofs.YtedciihjgbkjgaaGreat.A


/- BYTES READ. Conditions: none. -/
namespace Go.Proofs.YtedciihjgbkjgaaGreat.A
open Go
set_option linter.unusedVariables false
theorem readsC_byte {H : Type} {enc : TypeId × Value → H} {P : Program} {W : World} {t : TypeId} (ht : P.underlying t = some (.int .u8)) : ReadsC enc P W t cBy (fun _ => True) := by
  intro n cs x h
  obtain ⟨z, rfl⟩ := trod_int ht h
  exact ⟨z, trivial, ⟨rfl, rfl⟩, trivial⟩
end Go.Proofs.YtedciihjgbkjgaaGreat.A


/- THE LAW FnCertainty: for every input it returns true, and the input reads as it did. Conditions: none. -/
namespace Go.Proofs.YtedciihjgbkjgaaGreat.lawCertainty
open Go.ChangeShapes Go.WideShapes Go.ChangeAt Go.RowKit
open Go.Proofs.YtedciihjgbkjgaaGreat.A
set_option linter.unusedVariables false
theorem own : ownKnob Tryz.prog.godebug = none := by kernel_rfl
theorem laid : laidOutB Tryz.prog = true := by kernel_rfl
theorem rowed : mapsRowed Tryz.prog = true := by kernel_rfl
theorem full : ((List.range Tryz.prog.types.size).all fun t => match Tryz.prog.underlying t with | some (.slice e) => decide (0 < Tryz.prog.cellsOf e) | _ => true) = true := by kernel_rfl
set_option maxRecDepth 100000 in
theorem lifted (os : Os) (started : os.Started) (H : Type) (enc : TypeId × Value → H) :
    ReturnsInHanded {} Tryz.checked os 3 .any (Rows.fnCertaintySpec.pre6 enc Tryz.prog Tryz.f3 Rows.fnCertaintyRow.domain false) (Rows.fnCertaintySpec.post enc Tryz.prog Tryz.f3 false true false false) := by
  refine returnsInHanded_of_change_sized (C := Tryz.checked) own started (by kernel_rfl) Tryz.func3
    (ChangeSpec.witness6 (enc := enc) (C := Tryz.checked) false ⟨#[], #[.slice none 0 0], []⟩ 8 (by kernel_rfl) (by kernel_rfl) (by kernel_rfl) (by kernel_rfl)) ?_
  intro W base args ds gs before hval hW _ _ _
  obtain ⟨p, q, hA, hV, hpq, _⟩ := id hW
  rw [Tryz.params3] at hA hval
  obtain ⟨v0, vs0, d0, ds0, p0, q0, e0, rfl, rfl, h0, r0⟩ := trodAll_cons hA
  obtain ⟨rfl, rfl, rfl⟩ := trodAll_nil r0
  obtain ⟨rfl, _⟩ := trodVars_none hV
  obtain rfl : args = #[v0] := by cases args; simp_all
  have rB := readsC_byte (enc := enc) (W := W) und5
  have lBs := readsL_rows (w := 1) rB und22 (by kernel_rfl) (by omega) (fun _ => rfl) bys (fun _ => rfl)
  obtain ⟨a0, g0, l0⟩ := arg_one lBs (okWide_slice_ne und22 (hval 0 _ v0 rfl rfl)) h0
  exact law_calls laid rowed full Tryz.func3 rfl (by kernel_rfl) rfl rfl (by kernel_rfl) rfl und4 hW (lawCertainty_sat a0 g0.1) ⟨l0 _, trivial⟩ rfl rfl rfl
theorem over : Rows.fnCertaintyRow.holds Tryz.pinned (OpenSpec.ofChange Rows.fnCertaintySpec) :=
  OpenClaim.holds_of_wide 3 Tryz.f3 rfl rfl rfl rfl rfl rfl rfl ⟨rfl, rfl, rfl, rfl, rfl⟩ rfl rfl rfl rfl rfl (by kernel_rfl) Tryz.func3 (by kernel_rfl)
    (of_decide_eq_true (by kernel_rfl)) (by unfold Func.isWrapper; first | (rw [if_pos (by decide +kernel)]; kernel_rfl) | (rw [if_neg (by decide +kernel)]; exact ⟨rfl, rfl⟩))
    (fun os started H enc _ => lifted os started H enc)
end Go.Proofs.YtedciihjgbkjgaaGreat.lawCertainty
namespace Go.Proofs.YtedciihjgbkjgaaGreat
/-- The row, under a short name, for the claim. -/
theorem fnCertainty_holds : Rows.FnCertaintySaid := lawCertainty.over
#print axioms fnCertainty_holds
end Go.Proofs.YtedciihjgbkjgaaGreat
