/- Packed by pack.py: FDraw4 FRep FEm2 FEm3 FEm4 FWit1 FEmbP FHold FBlk5 FWit2 FRel WEmbeddings LKB LEmbeddings -/
import Derived.Test.YtedciihjgbkjgabGreatAZ1Embeddings
import Derived.Test.YtedciihjgbkjgabGreatAZ3Embeddings
import Derived.Test.YtedciihjgbkjgabGreatAZ2Embeddings
import Derived.Test.YtedciihjgbkjgabGreatA44
import Derived.Test.YtedciihjgbkjgabGreatRows

/- SETS DRAWN; what the laws compare by. Conditions: none. -/
namespace Go.Proofs.YtedciihjgbkjgabGreat.A
open Go
set_option linter.unusedSimpArgs false
set_option linter.unusedVariables false
set_option maxRecDepth 100000

theorem edE_ok {c : Cur} (hc : c.ok) : (edE c).1.ok ∧ (edE c).2.length ≤ 81 := by
  have n1 := beV_lt c (n := 9) (by decide)
  have hn : edN c < 9 := n1
  have o0 : DrOk ((byC (byC c), []) : Dr) 0 := ⟨byC_ok (byC_ok hc), Nat.le_refl _⟩
  have o := allD_ok (rare := edR c) (n := edN c) o0 (edN c)
  have hin : edN c * edN c ≤ 9 * 9 := Nat.mul_le_mul (by omega) (by omega)
  have ho := o.len
  have hk := o.ok
  unfold edE edS
  generalize allD (edR c) (edN c) (byC (byC c), []) (edN c) = s at ho hk ⊢
  simp only
  split
  · exact ⟨hk, by omega⟩
  · split
    · exact ⟨byC_ok (byC_ok (byC_ok hk)), by show (s.2.set _ _).length ≤ 81; rw [List.length_set]; omega⟩
    · exact ⟨byC_ok hk, by show s.2.length ≤ 81; omega⟩
theorem somE_ok {c : Cur} {n : Nat} {l : List Edge} (hc : c.ok) : (somE c n l).1.ok ∧ (somE c n l).2.length ≤ n + 1 := by
  have o0 : DsOk ((c, []) : Ds) 0 := ⟨hc, Nat.le_refl _⟩
  have o := somD_ok (l := l) o0 n
  have ho := o.len
  have hk := o.ok
  unfold somE
  generalize somD l (c, []) n = s at ho hk ⊢
  simp only
  refine ⟨byC_ok hk, ?_⟩
  split
  · rw [List.length_append, List.length_singleton]; omega
  · omega
def misN (b : List Int) : Nat := edN (curN b)
def misL (b : List Int) : List Edge := (edE (curN b)).2
def misS0 (b : List Int) : Ds := somE (edE (curN b)).1 (misN b) (misL b)
def misS (b : List Int) : List Int := if onV (misS0 b).1 2 && (extM (misN b) (misL b) (misS0 b).2).2 then (extM (misN b) (misL b) (misS0 b).2).1 else (misS0 b).2
theorem sameInts_sat (a b : List Int) (ha : a.length ≤ 9223372036854775807) : Sat Tryz.prog 23 [.one (.im 1 (ints a)), .one (.im 1 (ints b))] [.one (.sc (.bool (decide (a = b))))] [.one .gone, .one .gone] := by
  refine sat_of_body mixed Tryz.func23 rfl (by kernel_rfl) (by kernel_rfl) (rs := [.tmp 4]) rfl rfl rfl ?_
  simp -implicitDefEqProofs (maxSteps := 2000000) only [go_sem]
  refine cond_split (fun d => ?_) fun d => ?_
  · simp -implicitDefEqProofs (maxSteps := 2000000) only [go_sem]
    have d : ¬ (a.length : Int) = b.length := by simpa using d
    rw [decide_eq_false (fun h => d (by rw [h]))]
  have d : a.length = b.length := cast_ne d
  simp -implicitDefEqProofs (maxSteps := 2000000) only [go_sem]
  refine awp_loop Nat (fun k => mkSt [(0, .one (.im 1 (ints a))), (1, .one (.im 1 (ints b))), (5, .sc (.int .i64 k))] [] [] 1000)
    (fun k => k ≤ a.length ∧ a.take k = b.take k) (fun k => a.length - k) 0 ⟨by omega, rfl⟩ (le_st _ _ [] [] _ rfl (by simp -implicitDefEqProofs (maxSteps := 2000000) only [go_sem] <;> rfl) trivial trivial) ?_
  rintro k ⟨h1, h2⟩
  by_cases c1 : k < a.length
  · have c2 : k < b.length := by omega
    simp -implicitDefEqProofs (maxSteps := 2000000) only [go_sem, c1, c2]
    refine cond_split (fun e => ?_) fun e => ?_
    · simp -implicitDefEqProofs (maxSteps := 2000000) only [go_sem]
      rw [decide_eq_false (eqList_ne (by simpa using e))]
    simp -implicitDefEqProofs (maxSteps := 2000000) only [go_sem]
    rw [i64_succ (by omega)]
    exact ⟨k + 1, ⟨c1, eqList_step c1 c2 h2 (by simpa using e)⟩, by omega, (le_st _ _ [] [] _ rfl (by simp -implicitDefEqProofs (maxSteps := 2000000) only [go_sem] <;> rfl) trivial trivial)⟩
  · simp -implicitDefEqProofs (maxSteps := 2000000) only [go_sem, c1]
    rw [List.take_of_length_le (by omega), List.take_of_length_le (by omega)] at h2
    rw [decide_eq_true h2]
theorem sameRows_sat (a b : List (List Int)) (ha : a.length ≤ 9223372036854775807) (h : ∀ x ∈ a, x.length ≤ 9223372036854775807) : Sat Tryz.prog 21 [lISS a, lISS b] [lBool (decide (a = b))] [g1, g1] := by
  refine sat_of_body mixed Tryz.func21 rfl (by kernel_rfl) (by kernel_rfl) (rs := [.tmp 4]) rfl rfl rfl ?_
  simp -implicitDefEqProofs (maxSteps := 2000000) only [go_sem]
  refine cond_split (fun d => ?_) fun d => ?_
  · simp -implicitDefEqProofs (maxSteps := 2000000) only [go_sem]
    have d : ¬ (a.length : Int) = b.length := by simpa using d
    rw [decide_eq_false (fun h => d (by rw [h]))]
  have d : a.length = b.length := cast_ne d
  simp -implicitDefEqProofs (maxSteps := 2000000) only [go_sem]
  refine awp_loop Nat (fun k => mkSt [(0, .one (.im 1 (iss 0 a))), (1, .one (.im 1 (iss 0 b))), (5, .sc (.int .i64 k))] [] [] 1000)
    (fun k => k ≤ a.length ∧ a.take k = b.take k) (fun k => a.length - k) 0 ⟨by omega, rfl⟩ (le_st _ _ [] [] _ rfl (by simp -implicitDefEqProofs (maxSteps := 2000000) only [go_sem] <;> rfl) trivial trivial) ?_
  rintro k ⟨h1, h2⟩
  by_cases c1 : k < a.length
  · have c2 : k < b.length := by omega
    simp -implicitDefEqProofs (maxSteps := 2000000) only [go_sem, c1, c2]
    refine call_of (sameInts_sat (a.getD k []) (b.getD k []) (h _ (mem_getD [] c1))) (by simp -implicitDefEqProofs (maxSteps := 2000000) only [go_sem]) (by kernel_rfl) (by simp -implicitDefEqProofs (maxSteps := 2000000) only [go_sem]) ?_
    simp -implicitDefEqProofs (maxSteps := 2000000) only [go_sem]
    refine cond_split (fun e => ?_) fun e => ?_
    · simp -implicitDefEqProofs (maxSteps := 2000000) only [go_sem]
      rw [decide_eq_false (list_ne (d := []) (k := k) (by simpa using e))]
    simp -implicitDefEqProofs (maxSteps := 2000000) only [go_sem]
    rw [i64_succ (by omega)]
    exact ⟨k + 1, ⟨c1, list_step [] c1 c2 h2 (by simpa using e)⟩, by omega, (le_st _ _ [] [] _ rfl (by simp -implicitDefEqProofs (maxSteps := 2000000) only [go_sem] <;> rfl) trivial trivial)⟩
  · simp -implicitDefEqProofs (maxSteps := 2000000) only [go_sem, c1]
    rw [List.take_of_length_le (by omega), List.take_of_length_le (by omega)] at h2
    rw [decide_eq_true h2]
end Go.Proofs.YtedciihjgbkjgabGreat.A


/- THE LIBRARY'S Repeat at one number. Conditions: none. -/
namespace Go.Proofs.YtedciihjgbkjgabGreat.A
open Go
set_option linter.unusedSimpArgs false
set_option linter.unusedVariables false
set_option maxRecDepth 100000

abbrev lU64 (n : Int) : LV := .one (.sc (.int .u64 n))
theorem ints_allSc (a : List Int) : allSc (ints a) = true := by simp [allSc, ints_eq]
theorem ints_range (a b : List Int) (k : Nat) : setRange (ints a) k (ints b) = ints (setRange a k b) := by simp [setRange, ints_eq]
attribute [go_sem] ints_allSc
theorem mul64_sat {n : Nat} (hn : n ≤ 4) : Sat Tryz.prog 112 [lU64 1, lU64 n] [lU64 0, lU64 n] [g1, g1] := by
  obtain rfl | rfl | rfl | rfl | rfl : n = 0 ∨ n = 1 ∨ n = 2 ∨ n = 3 ∨ n = 4 := by omega
  all_goals
    refine sat_of_body mixed Tryz.func112 rfl (by kernel_rfl) (by kernel_rfl) (rs := [.tmp 4, .tmp 5]) rfl rfl rfl ?_
    simp -implicitDefEqProofs (maxSteps := 2000000) only [go_sem]
    exact ⟨by kernel_rfl, by kernel_rfl⟩
theorem mul_sat {n : Nat} (hn : n ≤ 4) : Sat Tryz.prog 86 [lU64 1, lU64 n] [lU64 0, lU64 n] [g1, g1] := by
  refine sat_of_body mixed Tryz.func86 rfl (by kernel_rfl) (by kernel_rfl) (rs := [.tmp 4, .tmp 5]) rfl rfl rfl ?_
  simp -implicitDefEqProofs (maxSteps := 2000000) only [go_sem]
  refine call_of (mul64_sat hn) (by simp -implicitDefEqProofs (maxSteps := 2000000) only [go_sem]) (by kernel_rfl) (by simp -implicitDefEqProofs (maxSteps := 2000000) only [go_sem]) ?_
  simp -implicitDefEqProofs (maxSteps := 2000000) only [go_sem]
theorem u64_of {n : Nat} (hn : n ≤ 4) : IntKind.u64.wrap (n : Int) = n := by
  obtain rfl | rfl | rfl | rfl | rfl : n = 0 ∨ n = 1 ∨ n = 2 ∨ n = 3 ∨ n = 4 := by omega
  all_goals rfl
theorem rep1 {α : Type} (a : α) : List.replicate 1 a = [a] := rfl
theorem rep_range {x : Int} {n k : Nat} (hk : k ≤ n) : setRange (List.replicate k x ++ List.replicate (n - k) 0) k ((List.take k (List.replicate k x ++ List.replicate (n - k) 0)).take (n - k)) = List.replicate (k + min k (n - k)) x ++ List.replicate (n - (k + min k (n - k))) 0 := by
  have h1 : List.take k (List.replicate k x ++ List.replicate (n - k) 0) = List.replicate k x := by
    rw [List.take_append_of_le_length (by simp), List.take_replicate, Nat.min_self]
  rw [h1, List.take_replicate, setRange, h1, List.length_replicate, Nat.min_comm (n - k) k, List.replicate_append_replicate]
  congr 1
  rw [List.drop_append, List.drop_replicate, List.drop_replicate, List.length_replicate]
  rw [show k - (k + min k (n - k)) = 0 by omega, List.replicate_zero, List.nil_append]
  congr 1; omega
theorem repeat_sat (x : Int) {n : Nat} (hn : n ≤ 4) : Sat Tryz.prog 65 [lInts [x], lInt n] [oInts (List.replicate n x)] [g1, g1] := by
  refine sat_of_body mixed Tryz.func65 rfl (by kernel_rfl) (by kernel_rfl) (rs := [.tmp 4]) rfl rfl rfl ?_
  have w0 : IntKind.u64.wrap ((1 : Nat) : Int) = 1 := rfl
  have w1 := u64_of hn
  have w2 : IntKind.i64.wrap (n : Int) = n := IntWalk.i64_in _ (by omega)
  have c0 : decide ((n : Int) < 0) = false := decide_eq_false (by omega)
  have c1 : decide ((n : Int) > 9223372036854775807) = false := decide_eq_false (by omega)
  simp -implicitDefEqProofs (maxSteps := 2000000) only [go_sem, c0, w0, w1]
  refine call_of (mul_sat hn) (by simp -implicitDefEqProofs (maxSteps := 2000000) only [go_sem, c1, w2]) (by kernel_rfl) (by simp -implicitDefEqProofs (maxSteps := 2000000) only [go_sem, c1, w2]) ?_
  simp -implicitDefEqProofs (maxSteps := 2000000) only [go_sem, c1, w2]
  refine ⟨by omega, by omega, ?_⟩
  refine awp_loop (Nat × List Int) (fun k => mkSt [(7, .one (.ref 960 1 0 n)), (8, .sc (.int .i64 k.1))] [] [(960, (1, ints k.2))] 2000)
    (fun k => (k.1 ≤ n ∧ (k.1 = 0 → n = 0)) ∧ k.2 = List.replicate k.1 x ++ List.replicate (n - k.1) 0) (fun k => n - k.1) (min 1 n, List.replicate (min 1 n) x ++ List.replicate (n - min 1 n) 0) ⟨⟨by show min 1 n ≤ n; omega, by show min 1 n = 0 → n = 0; omega⟩, rfl⟩ ?_ ?_
  · rcases n with _ | m
    · exact (le_st' _ _ [⟨960, some _, false, 1, _⟩] [] _ (by simp -implicitDefEqProofs (maxSteps := 2000000) only [go_sem, Nat.min_zero, List.replicate_zero] <;> and_intros <;> rfl) (by simp -implicitDefEqProofs (maxSteps := 2000000) only [go_sem, Nat.min_zero, List.replicate_zero] <;> and_intros <;> rfl) (by simp -implicitDefEqProofs (maxSteps := 2000000) only [go_sem, Nat.min_zero, List.replicate_zero] <;> and_intros <;> rfl) (by rfl))
    · rw [show min 1 (m + 1) = 1 by omega]
      exact (le_st' _ _ [⟨960, some _, false, 1, _⟩] [] _ (by simp -implicitDefEqProofs (maxSteps := 2000000) only [go_sem, rep1, List.length_replicate, List.drop_replicate, show min 1 (m + 1) = 1 by omega, ints_rep] <;> and_intros <;> rfl) (by simp -implicitDefEqProofs (maxSteps := 2000000) only [go_sem, rep1, List.length_replicate, List.drop_replicate, show min 1 (m + 1) = 1 by omega, ints_rep] <;> and_intros <;> rfl) (by simp -implicitDefEqProofs (maxSteps := 2000000) only [go_sem, rep1, List.length_replicate, List.drop_replicate, show min 1 (m + 1) = 1 by omega, ints_rep] <;> and_intros <;> rfl) (by rfl))
  · rintro ⟨k, L⟩ ⟨⟨h1, h2⟩, h3⟩
    simp only at h1 h2 h3
    have hl : L.length = n := by rw [h3]; simp; omega
    have hr := rep_range (x := x) h1
    rw [← h3, show List.take k L = List.replicate k x by rw [h3, List.take_append_of_le_length (by simp), List.take_replicate, Nat.min_self]] at hr
    by_cases c2 : k < n
    · have hL : L.take n = L := List.take_of_length_le (by omega)
      simp -implicitDefEqProofs (maxSteps := 2000000) only [go_sem, c2, hl, hL]
      have hk : List.take k L = List.replicate k x := by rw [h3, List.take_append_of_le_length (by simp), List.take_replicate, Nat.min_self]
      have w3 : IntKind.i64.wrap ((k : Int) + ((min k (n - k) : Nat) : Int)) = ((k + min k (n - k) : Nat) : Int) := by rw [IntWalk.i64_in _ (by omega)]; rfl
      refine ⟨h1, by omega, by omega, h1, by omega, tr_and (by kernel_rfl) ⟨(k + min k (n - k), setRange L k (List.take (n - k) (List.replicate k x))), ⟨⟨by simp only; omega, by simp only; omega⟩, hr⟩, by simp only; omega, ?_⟩⟩
      exact (le_st' _ _ [⟨960, some _, false, 1, _⟩] [] _ (by simp -implicitDefEqProofs (maxSteps := 2000000) only [go_sem, Nat.sub_zero, hk, List.length_replicate, w3, List.length_take, Nat.min_comm (n - k) k, hl] <;> and_intros <;> rfl) (by simp -implicitDefEqProofs (maxSteps := 2000000) only [go_sem, Nat.sub_zero, hk, List.length_replicate, w3, List.length_take, Nat.min_comm (n - k) k, hl] <;> and_intros <;> rfl) (by simp -implicitDefEqProofs (maxSteps := 2000000) only [go_sem, Nat.sub_zero, hk, List.length_replicate, w3, List.length_take, Nat.min_comm (n - k) k, hl] <;> and_intros <;> rfl) (by rfl))
    · obtain rfl : k = n := by omega
      have hL : L.take k = L := List.take_of_length_le (by omega)
      simp -implicitDefEqProofs (maxSteps := 2000000) only [go_sem, c2, hl, hL]
      rw [h3, Nat.sub_self, List.replicate_zero, List.append_nil]
      exact ⟨rfl, rfl⟩
theorem unknown_sat {n : Nat} (hn : n ≤ 4) : Sat Tryz.prog 43 [lInt n] [oInts (List.replicate n (-1))] [g1] := by
  refine sat_of_body mixed Tryz.func43 rfl (by kernel_rfl) (by kernel_rfl) (rs := [.tmp 2]) rfl rfl rfl ?_
  simp -implicitDefEqProofs (maxSteps := 2000000) only [go_sem]
  refine call_of (repeat_sat (-1) hn) (by simp -implicitDefEqProofs (maxSteps := 2000000) only [go_sem]) (callOk_still (by kernel_rfl) (by simp only [List.all_cons, List.all_nil, LV.still, LV.leaves, Leaf.still, ints_still, ris_still, eds_still, rels_still, iss_still, ems_still, Bool.and_self, Bool.and_true])) (by simp -implicitDefEqProofs (maxSteps := 2000000) only [go_sem]) ?_
  simp -implicitDefEqProofs (maxSteps := 2000000) only [go_sem]
  first | done | rfl | exact ⟨rfl, rfl⟩ | exact ⟨rfl, rfl, rfl⟩ | (refine tr_and ?_ ?_ <;> first | rfl | exact ⟨rfl, rfl⟩ | kernel_rfl)
theorem l12None_sat {n : Nat} (hn : n ≤ 4) : Sat Tryz.prog 38 [lInt n] [oInts (List.replicate n (-1))] [g1] := by
  refine sat_of_body mixed Tryz.func38 rfl (by kernel_rfl) (by kernel_rfl) (rs := [.tmp 2]) rfl rfl rfl ?_
  simp -implicitDefEqProofs (maxSteps := 2000000) only [go_sem]
  refine awp_loop Nat (fun k => mkSt [(0, .sc (.int .i64 n)), (3, .one (.ref 960 1 0 k))] [] [(960, (1, ints (List.replicate k (-1))))] 2000)
    (fun k => k ≤ n) (fun k => n - k) 0 (by omega) (le_st' _ _ [⟨960, some _, false, 1, _⟩] [] _ (by simp -implicitDefEqProofs (maxSteps := 2000000) only [go_sem, List.replicate_zero] <;> and_intros <;> rfl) (by simp -implicitDefEqProofs (maxSteps := 2000000) only [go_sem, List.replicate_zero] <;> and_intros <;> rfl) (by simp -implicitDefEqProofs (maxSteps := 2000000) only [go_sem, List.replicate_zero] <;> and_intros <;> rfl) (by rfl)) ?_
  rintro k h1
  by_cases c2 : k < n
  · simp -implicitDefEqProofs (maxSteps := 2000000) only [go_sem, c2, List.take_replicate, Nat.min_self, List.length_replicate]
    refine ⟨by omega, k + 1, c2, by omega, ?_⟩
    rw [show List.replicate (k + 1) (-1 : Int) = List.replicate k (-1) ++ [-1] from List.replicate_succ']
    exact (le_st' _ _ [⟨960, some _, false, 1, _⟩] [] _ (by simp -implicitDefEqProofs (maxSteps := 2000000) only [go_sem, List.length_replicate] <;> and_intros <;> rfl) (by simp -implicitDefEqProofs (maxSteps := 2000000) only [go_sem, List.length_replicate] <;> and_intros <;> rfl) (by simp -implicitDefEqProofs (maxSteps := 2000000) only [go_sem, List.length_replicate] <;> and_intros <;> rfl) (by rfl))
  · obtain rfl : k = n := by omega
    simp -implicitDefEqProofs (maxSteps := 2000000) only [go_sem, c2, List.take_replicate, Nat.min_self, List.length_replicate]
    first | done | rfl | exact ⟨rfl, rfl⟩ | exact ⟨rfl, rfl, rfl⟩ | (refine tr_and ?_ ?_ <;> first | rfl | exact ⟨rfl, rfl⟩ | kernel_rfl)
end Go.Proofs.YtedciihjgbkjgabGreat.A


/- EMBEDDINGS: one fact against one atom, the two programs. Conditions: none. -/
namespace Go.Proofs.YtedciihjgbkjgabGreat.A
open Go
set_option linter.unusedSimpArgs false
set_option linter.unusedVariables false
set_option maxRecDepth 100000

theorem isVariable_sat (t : Int) : Sat Tryz.prog 64 [lInt t] [lBool (decide (0 ≤ t))] [g1] := by
  refine sat_of_body mixed Tryz.func64 rfl (by kernel_rfl) (by kernel_rfl) (rs := [.tmp 2]) rfl rfl rfl ?_
  simp -implicitDefEqProofs (maxSteps := 2000000) only [go_sem]
  first | done | rfl | exact ⟨rfl, rfl⟩ | exact ⟨rfl, rfl, rfl⟩ | (refine tr_and ?_ ?_ <;> first | rfl | exact ⟨rfl, rfl⟩ | kernel_rfl)
theorem constantTerm_sat (t : Int) (h : -1000 ≤ t ∧ t ≤ 1000) : Sat Tryz.prog 32 [lInt t] [lInt (-1 - t)] [g1] := by
  refine sat_of_body mixed Tryz.func32 rfl (by kernel_rfl) (by kernel_rfl) (rs := [.tmp 2]) rfl rfl rfl ?_
  have w : IntKind.i64.wrap (-1 - t) = -1 - t := IntWalk.i64_in _ (by omega)
  simp -implicitDefEqProofs (maxSteps := 2000000) only [go_sem, w]
  first | done | rfl | exact ⟨rfl, rfl⟩ | exact ⟨rfl, rfl, rfl⟩ | (refine tr_and ?_ ?_ <;> first | rfl | exact ⟨rfl, rfl⟩ | kernel_rfl)
theorem set_same {x : List Int} {t : Nat} {f : Int} (h : x.getD t 0 = f) : x.set t f = x := by
  refine List.ext_getElem? fun k => ?_
  rw [List.getElem?_set]
  split
  · rename_i e
    subst e
    split
    · rename_i hk
      rw [← h, List.getD_eq_getElem?_getD, List.getElem?_eq_getElem hk]; rfl
    · rename_i hk
      rw [List.getElem?_eq_none (by omega)]
  · rfl
def uniO (o : Option (List Int)) : List Int := o.getD []
theorem unify_sat (vs ts fs : List Int) (h1 : vs.length ≤ 1048576) (h2 : ts.length ≤ fs.length) (h3 : fs.length ≤ 1048576) (ht : tsOk vs.length ts) :
    Sat Tryz.prog 42 [lInts vs, lInts ts, lInts fs] [oInts ((uniS ts fs vs ts.length).getD []), lBool (uniS ts fs vs ts.length).isSome] [g1, g1, g1] := by
  refine sat_of_body mixed Tryz.func42 rfl (by kernel_rfl) (by kernel_rfl) (rs := [.tmp 6, .tmp 7]) rfl rfl rfl ?_
  simp -implicitDefEqProofs (maxSteps := 2000000) only [go_sem]
  refine call_of (slicesClone_sat vs h1) (by simp -implicitDefEqProofs (maxSteps := 2000000) only [go_sem]) (callOk_still (by kernel_rfl) (by simp only [List.all_cons, List.all_nil, LV.still, LV.leaves, Leaf.still, ints_still, ris_still, eds_still, rels_still, iss_still, ems_still, Bool.and_self, Bool.and_true])) (by simp -implicitDefEqProofs (maxSteps := 2000000) only [go_sem]) ?_
  simp -implicitDefEqProofs (maxSteps := 2000000) only [go_sem]
  refine awp_loop (Nat × List Int) (fun x => mkSt [(2, .one (.im 1 (ints fs))), (8, .one (.ref 960 1 0 vs.length)), (13, .one (.im 1 (ints ts))), (14, .sc (.int .i64 ts.length)), (15, .sc (.int .i64 x.1))] [] [(960, (1, ints x.2))] 2000)
    (fun x => x.1 ≤ ts.length ∧ uniS ts fs vs x.1 = some x.2) (fun x => ts.length - x.1) (0, vs) ⟨by simp, rfl⟩ (le_st' _ _ [⟨960, some _, false, 1, _⟩] [] _ (by simp -implicitDefEqProofs (maxSteps := 2000000) only [go_sem] <;> and_intros <;> rfl) (by simp -implicitDefEqProofs (maxSteps := 2000000) only [go_sem] <;> and_intros <;> rfl) (by simp -implicitDefEqProofs (maxSteps := 2000000) only [go_sem] <;> and_intros <;> rfl) (by rfl)) ?_
  rintro ⟨k, x⟩ ⟨h4, h5⟩
  simp only at h4 h5
  have hx := uniS_len h5
  by_cases c1 : k < ts.length
  · have c2 : k < fs.length := by omega
    obtain ⟨b1, b2⟩ := ht k c1
    have hs := uniS_step h5
    have wk : IntKind.i64.wrap ((k : Int) + 1) = ((k + 1 : Nat) : Int) := i64_succ (by omega)
    by_cases d1 : ts.getD k 0 < 0
    · have e1 : decide (0 ≤ ts.getD k 0) = false := decide_eq_false (by omega)
      by_cases d2 : -1 - ts.getD k 0 = fs.getD k 0
      · have e2 : (-1 - ts.getD k 0 != fs.getD k 0) = false := by rw [bne, d2]; simp
        rw [stepU, if_pos d1, if_pos d2] at hs
        simp -implicitDefEqProofs (maxSteps := 2000000) only [go_sem, c1]
        refine call_of (isVariable_sat (ts.getD k 0)) (by simp -implicitDefEqProofs (maxSteps := 2000000) only [go_sem, e1]) (by kernel_rfl) (by simp -implicitDefEqProofs (maxSteps := 2000000) only [go_sem, e1]) ?_
        simp -implicitDefEqProofs (maxSteps := 2000000) only [go_sem, e1]
        refine call_of (constantTerm_sat (ts.getD k 0) (by omega)) (by simp -implicitDefEqProofs (maxSteps := 2000000) only [go_sem, c2, e2]) (by kernel_rfl) (by simp -implicitDefEqProofs (maxSteps := 2000000) only [go_sem, c2, e2]) ?_
        simp -implicitDefEqProofs (maxSteps := 2000000) only [go_sem, c2, e2]
        first | (with_reducible refine tr_and ?_ ?_; focus kernel_rfl) | (with_reducible refine tr_only ?_; kernel_rfl) | skip
        rw [wk]
        exact ⟨(k + 1, x), ⟨c1, hs⟩, by simp; omega, (le_st' _ _ [⟨960, some _, false, 1, _⟩] [] _ (by simp -implicitDefEqProofs (maxSteps := 2000000) only [go_sem, hx] <;> and_intros <;> rfl) (by simp -implicitDefEqProofs (maxSteps := 2000000) only [go_sem, hx] <;> and_intros <;> rfl) (by simp -implicitDefEqProofs (maxSteps := 2000000) only [go_sem, hx] <;> and_intros <;> rfl) (by rfl))⟩
      · have e2 : (-1 - ts.getD k 0 != fs.getD k 0) = true := by rw [bne, Bool.not_eq_true', beq_eq_false_iff_ne]; exact d2
        rw [stepU, if_pos d1, if_neg d2] at hs
        rw [uniS_stop hs c1]
        simp -implicitDefEqProofs (maxSteps := 2000000) only [go_sem, c1]
        refine call_of (isVariable_sat (ts.getD k 0)) (by simp -implicitDefEqProofs (maxSteps := 2000000) only [go_sem, e1]) (by kernel_rfl) (by simp -implicitDefEqProofs (maxSteps := 2000000) only [go_sem, e1]) ?_
        simp -implicitDefEqProofs (maxSteps := 2000000) only [go_sem, e1]
        refine call_of (constantTerm_sat (ts.getD k 0) (by omega)) (by simp -implicitDefEqProofs (maxSteps := 2000000) only [go_sem, c2, e2]) (by kernel_rfl) (by simp -implicitDefEqProofs (maxSteps := 2000000) only [go_sem, c2, e2]) ?_
        simp -implicitDefEqProofs (maxSteps := 2000000) only [go_sem, c2, e2]
        first | (with_reducible refine tr_and ?_ ?_; focus kernel_rfl) | (with_reducible refine tr_only ?_; kernel_rfl) | skip
        first | done | rfl | exact ⟨rfl, rfl⟩ | exact ⟨rfl, rfl, rfl⟩ | (refine tr_and ?_ ?_ <;> first | rfl | exact ⟨rfl, rfl⟩ | kernel_rfl)
    · have e1 : decide (0 ≤ ts.getD k 0) = true := decide_eq_true (by omega)
      obtain ⟨t, et⟩ : ∃ t : Nat, ts.getD k 0 = t := ⟨(ts.getD k 0).toNat, by omega⟩
      have c3 : t < vs.length := by omega
      rw [et] at hs d1 b2 b1
      rw [stepU, if_neg d1, Int.toNat_natCast] at hs
      rw [et] at e1
      have c4 : t < x.length := by omega
      by_cases d3 : x.getD t 0 < 0
      · rw [if_pos d3] at hs
        have e3 : decide (x.getD t 0 < 0) = true := decide_eq_true d3
        simp -implicitDefEqProofs (maxSteps := 2000000) only [go_sem, c1, et]
        refine call_of (isVariable_sat t) (by simp -implicitDefEqProofs (maxSteps := 2000000) only [go_sem, e1, c2, c3, c4, e3, hx]) (by kernel_rfl) (by simp -implicitDefEqProofs (maxSteps := 2000000) only [go_sem, e1, c2, c3, c4, e3, hx]) ?_
        simp -implicitDefEqProofs (maxSteps := 2000000) only [go_sem, e1, c2, c3, c4, e3, hx]
        rw [wk]
        exact ⟨(k + 1, x.set t (fs.getD k 0)), ⟨c1, hs⟩, by simp; omega, (le_st' _ _ [⟨960, some _, false, 1, _⟩] [] _ (by simp -implicitDefEqProofs (maxSteps := 2000000) only [go_sem, hx] <;> and_intros <;> rfl) (by simp -implicitDefEqProofs (maxSteps := 2000000) only [go_sem, hx] <;> and_intros <;> rfl) (by simp -implicitDefEqProofs (maxSteps := 2000000) only [go_sem, hx] <;> and_intros <;> rfl) (by rfl))⟩
      · rw [if_neg d3] at hs
        have e3 : decide (x.getD t 0 < 0) = false := decide_eq_false d3
        by_cases d4 : x.getD t 0 = fs.getD k 0
        · rw [if_pos d4] at hs
          have e4 : (x.getD t 0 != fs.getD k 0) = false := by rw [bne, d4]; simp
          simp -implicitDefEqProofs (maxSteps := 2000000) only [go_sem, c1, et]
          refine call_of (isVariable_sat t) (by simp -implicitDefEqProofs (maxSteps := 2000000) only [go_sem, e1, c2, c3, c4, e3, e4, hx]) (by kernel_rfl) (by simp -implicitDefEqProofs (maxSteps := 2000000) only [go_sem, e1, c2, c3, c4, e3, e4, hx]) ?_
          simp -implicitDefEqProofs (maxSteps := 2000000) only [go_sem, e1, c2, c3, c4, e3, e4, hx]
          first | (with_reducible refine tr_and ?_ ?_; focus kernel_rfl) | (with_reducible refine tr_only ?_; kernel_rfl) | skip
          rw [wk]
          exact ⟨(k + 1, x), ⟨c1, hs⟩, by simp; omega, (le_st' _ _ [⟨960, some _, false, 1, _⟩] [] _ (by simp -implicitDefEqProofs (maxSteps := 2000000) only [go_sem, hx] <;> and_intros <;> rfl) (by simp -implicitDefEqProofs (maxSteps := 2000000) only [go_sem, hx] <;> and_intros <;> rfl) (by simp -implicitDefEqProofs (maxSteps := 2000000) only [go_sem, hx] <;> and_intros <;> rfl) (by rfl))⟩
        · rw [if_neg d4] at hs
          have e4 : (x.getD t 0 != fs.getD k 0) = true := by rw [bne, Bool.not_eq_true', beq_eq_false_iff_ne]; exact d4
          rw [uniS_stop hs c1]
          simp -implicitDefEqProofs (maxSteps := 2000000) only [go_sem, c1, et]
          refine call_of (isVariable_sat t) (by simp -implicitDefEqProofs (maxSteps := 2000000) only [go_sem, e1, c2, c3, c4, e3, e4, hx]) (by kernel_rfl) (by simp -implicitDefEqProofs (maxSteps := 2000000) only [go_sem, e1, c2, c3, c4, e3, e4, hx]) ?_
          simp -implicitDefEqProofs (maxSteps := 2000000) only [go_sem, e1, c2, c3, c4, e3, e4, hx]
          first | (with_reducible refine tr_and ?_ ?_; focus kernel_rfl) | (with_reducible refine tr_only ?_; kernel_rfl) | skip
          first | done | rfl | exact ⟨rfl, rfl⟩ | exact ⟨rfl, rfl, rfl⟩ | (refine tr_and ?_ ?_ <;> first | rfl | exact ⟨rfl, rfl⟩ | kernel_rfl)
  · obtain rfl : k = ts.length := by omega
    rw [h5]
    simp -implicitDefEqProofs (maxSteps := 2000000) only [go_sem, c1]
    exact ⟨hx.symm, by kernel_rfl⟩
theorem l12Meet_sat (a f : RI) (vs : List Int) (h1 : vs.length ≤ 1048576) (h2 : f.l.length ≤ 1048576) (hl : f.r = a.r → f.l.length = a.l.length) (ht : tsOk vs.length a.l) :
    Sat Tryz.prog 62 [lRI a, lRI f, lInts vs] [oInts (meetV a f vs), lBool (meet a f vs).isSome] [g2, g2, g1] := by
  refine sat_of_body mixed Tryz.func62 rfl (by kernel_rfl) (by kernel_rfl) (rs := [.tmp 6, .tmp 7]) rfl rfl rfl ?_
  rcases a with ⟨ar, ts⟩
  rcases f with ⟨fr, fs⟩
  simp only at h2 hl ht
  unfold meetV meet
  simp only
  simp -implicitDefEqProofs (maxSteps := 2000000) only [go_sem]
  refine ⟨by omega, ?_⟩
  by_cases d0 : fr = ar
  case neg =>
    rw [if_neg d0, if_neg d0]
    have e0 : (fr != ar) = true := by rw [bne, Bool.not_eq_true', beq_eq_false_iff_ne]; exact d0
    simp -implicitDefEqProofs (maxSteps := 2000000) only [go_sem, e0]
    first | done | rfl | exact ⟨rfl, rfl⟩ | exact ⟨rfl, rfl, rfl⟩ | (refine tr_and ?_ ?_ <;> first | rfl | exact ⟨rfl, rfl⟩ | kernel_rfl)
  subst d0
  have hl := hl rfl
  rw [if_pos rfl, if_pos rfl]
  have e0 : (fr != fr) = false := by rw [bne]; simp
  have e1 : ((fs.length : Int) != (ts.length : Int)) = false := by rw [bne, hl]; simp
  simp -implicitDefEqProofs (maxSteps := 2000000) only [go_sem, e0, e1]
  refine awp_loop (Nat × List Int) (fun x => mkSt [(3, .one (.vad 1000 0)), (4, .one (.vad 1064 0)), (8, .one (.ref 960 1 0 vs.length)), (9, .sc (.int .i64 x.1))] [(1000, sRI ⟨fr, ts⟩), (1064, sRI ⟨fr, fs⟩)] [(960, (1, ints x.2))] 4000)
    (fun x => x.1 ≤ ts.length ∧ uniS ts fs vs x.1 = some x.2) (fun x => ts.length - x.1) (0, vs) ⟨by simp, rfl⟩ (le_st' _ _ [⟨960, some _, false, 1, _⟩] [] _ (by simp -implicitDefEqProofs (maxSteps := 2000000) only [go_sem] <;> and_intros <;> rfl) (by simp -implicitDefEqProofs (maxSteps := 2000000) only [go_sem] <;> and_intros <;> rfl) (by simp -implicitDefEqProofs (maxSteps := 2000000) only [go_sem] <;> and_intros <;> rfl) (by rfl)) ?_
  rintro ⟨k, x⟩ ⟨h4, h5⟩
  simp only at h4 h5
  have hx := uniS_len h5
  have hL : List.take vs.length x = x := List.take_of_length_le (by omega)
  by_cases c1 : k < ts.length
  · have c2 : k < fs.length := by omega
    obtain ⟨b1, b2⟩ := ht k c1
    have hs := uniS_step h5
    have wk : IntKind.i64.wrap ((k : Int) + 1) = ((k + 1 : Nat) : Int) := i64_succ (by omega)
    by_cases d1 : ts.getD k 0 < 0
    · have e1 : decide (ts.getD k 0 < 0) = true := decide_eq_true d1
      have w1 : IntKind.i64.wrap (-1 - ts.getD k 0) = -1 - ts.getD k 0 := IntWalk.i64_in _ (by omega)
      by_cases d2 : -1 - ts.getD k 0 = fs.getD k 0
      · have e2 : (-1 - ts.getD k 0 != fs.getD k 0) = false := by rw [bne, d2]; simp
        rw [stepU, if_pos d1, if_pos d2] at hs
        simp -implicitDefEqProofs (maxSteps := 2000000) only [go_sem, c1, c2, e1, e2, w1]
        rw [wk]
        exact ⟨(k + 1, x), ⟨c1, hs⟩, by simp; omega, (le_st' _ _ [⟨960, some _, false, 1, _⟩] [] _ (by simp -implicitDefEqProofs (maxSteps := 2000000) only [go_sem, hx] <;> and_intros <;> rfl) (by simp -implicitDefEqProofs (maxSteps := 2000000) only [go_sem, hx] <;> and_intros <;> rfl) (by simp -implicitDefEqProofs (maxSteps := 2000000) only [go_sem, hx] <;> and_intros <;> rfl) (by rfl))⟩
      · have e2 : (-1 - ts.getD k 0 != fs.getD k 0) = true := by rw [bne, Bool.not_eq_true', beq_eq_false_iff_ne]; exact d2
        rw [stepU, if_pos d1, if_neg d2] at hs
        rw [uniS_stop hs c1, uniL_stop h5 hs c1]
        simp -implicitDefEqProofs (maxSteps := 2000000) only [go_sem, c1, c2, e1, e2, w1]
        exact ⟨⟨hx.symm, rfl⟩, by kernel_rfl⟩
    · have e1 : decide (ts.getD k 0 < 0) = false := decide_eq_false d1
      obtain ⟨t, et⟩ : ∃ t : Nat, ts.getD k 0 = t := ⟨(ts.getD k 0).toNat, by omega⟩
      have c3 : t < vs.length := by omega
      have c4 : t < x.length := by omega
      rw [et] at hs d1 b2 b1 e1
      rw [stepU, if_neg d1, Int.toNat_natCast] at hs
      by_cases d3 : x.getD t 0 < 0
      · rw [if_pos d3] at hs
        have e3 : decide (x.getD t 0 ≥ 0) = false := decide_eq_false (by omega)
        simp -implicitDefEqProofs (maxSteps := 2000000) only [go_sem, c1, et, e1, c2, c3, c4, e3, hx]
        first | (with_reducible refine tr_and ?_ ?_; focus kernel_rfl) | (with_reducible refine tr_only ?_; kernel_rfl) | skip
        rw [wk]
        exact ⟨(k + 1, x.set t (fs.getD k 0)), ⟨c1, hs⟩, by simp; omega, (le_st' _ _ [⟨960, some _, false, 1, _⟩] [] _ (by simp -implicitDefEqProofs (maxSteps := 2000000) only [go_sem, hx] <;> and_intros <;> rfl) (by simp -implicitDefEqProofs (maxSteps := 2000000) only [go_sem, hx] <;> and_intros <;> rfl) (by simp -implicitDefEqProofs (maxSteps := 2000000) only [go_sem, hx] <;> and_intros <;> rfl) (by rfl))⟩
      · rw [if_neg d3] at hs
        have e3 : decide (x.getD t 0 ≥ 0) = true := decide_eq_true (by omega)
        by_cases d4 : x.getD t 0 = fs.getD k 0
        · rw [if_pos d4] at hs
          have e4 : (x.getD t 0 != fs.getD k 0) = false := by rw [bne, d4]; simp
          simp -implicitDefEqProofs (maxSteps := 2000000) only [go_sem, c1, et, e1, c2, c3, c4, e3, e4, hx]
          first | (with_reducible refine tr_and ?_ ?_; focus kernel_rfl) | (with_reducible refine tr_only ?_; kernel_rfl) | skip
          simp -implicitDefEqProofs (maxSteps := 2000000) only [go_sem, c1, et, e1, c2, c3, c4, e3, e4, hx, set_same d4]
          rw [wk]
          exact ⟨(k + 1, x), ⟨c1, hs⟩, by simp; omega, (le_st' _ _ [⟨960, some _, false, 1, _⟩] [] _ (by simp -implicitDefEqProofs (maxSteps := 2000000) only [go_sem, hx, set_same d4] <;> and_intros <;> rfl) (by simp -implicitDefEqProofs (maxSteps := 2000000) only [go_sem, hx, set_same d4] <;> and_intros <;> rfl) (by simp -implicitDefEqProofs (maxSteps := 2000000) only [go_sem, hx, set_same d4] <;> and_intros <;> rfl) (by rfl))⟩
        · rw [if_neg d4] at hs
          have e4 : (x.getD t 0 != fs.getD k 0) = true := by rw [bne, Bool.not_eq_true', beq_eq_false_iff_ne]; exact d4
          rw [uniS_stop hs c1, uniL_stop h5 hs c1]
          simp -implicitDefEqProofs (maxSteps := 2000000) only [go_sem, c1, et, e1, c2, c3, c4, e3, e4, hx]
          first | (with_reducible refine tr_and ?_ ?_; focus kernel_rfl) | (with_reducible refine tr_only ?_; kernel_rfl) | skip
          first | exact ⟨hx.symm, by kernel_rfl⟩ | exact ⟨⟨hx.symm, rfl⟩, by kernel_rfl⟩ | exact ⟨hx.symm, rfl⟩ | rfl | exact ⟨rfl, by kernel_rfl⟩
  · obtain rfl : k = ts.length := by omega
    rw [h5, uniL_some h5]
    simp -implicitDefEqProofs (maxSteps := 2000000) only [go_sem, c1]
    exact ⟨hx.symm, by kernel_rfl⟩
end Go.Proofs.YtedciihjgbkjgabGreat.A


/- EMBEDDINGS: the reference's search. Conditions: none. -/
namespace Go.Proofs.YtedciihjgbkjgabGreat.A
open Go
set_option linter.unusedSimpArgs false
set_option linter.unusedVariables false
set_option maxRecDepth 100000

/-- What the search leans on: the facts' and atoms' lengths. -/
structure FitE (d : Db) (q : Qu) (n : Nat) : Prop where
  facts : d.facts.length ≤ 14
  atoms : q.atoms.length ≤ 3
  small : n ≤ 4
  vals : ∀ i, i < d.facts.length → (d.facts.getD i default).l.length ≤ 1048576
  lens : ∀ k i, k < q.atoms.length → i < d.facts.length → (d.facts.getD i default).r = (q.atoms.getD k default).r → (d.facts.getD i default).l.length = (q.atoms.getD k default).l.length
  terms : ∀ k, k < q.atoms.length → tsOk n (q.atoms.getD k default).l
theorem goodFact_len {l : List Rel} {f : RI} (h : goodFact l f = true) (hl : goodRels l = true) : f.l.length ≤ 3 := by
  unfold goodFact at h
  simp only [Bool.and_eq_true, beq_iff_eq] at h
  obtain ⟨h1, h2, _⟩ := h
  have h1 := inB_of h1
  have : f.r.toNat < l.length := by omega
  unfold goodRels at hl
  rw [Bool.and_eq_true] at hl
  have h3 := upTo_at hl.1 this
  unfold relOk goodRel at h3
  simp only [Bool.and_eq_true] at h3
  have h4 := inB_of h3.1.2.2.2.1
  omega
theorem fitE {d : Db} {q : Qu} (h : queryFor d q = true) : FitE d q q.vc.toNat := by
  have h1 := goodDb_len (queryFor_db h)
  have h2 := goodQu_parts (queryFor_qu h)
  have hr : goodRels d.rels = true := by
    have := queryFor_db h
    unfold goodDb at this
    rw [Bool.and_eq_true] at this
    exact this.1
  refine ⟨h1, h2.2.2, by omega, fun i hi => ?_, fun k i hk hi e => meet_lens h hk hi e, fun k hk => tsOk_at (queryFor_qu h) hk⟩
  have := goodFact_len (goodDb_fact (queryFor_db h) hi) hr
  omega
theorem ems_rst2 (a b : List Emb) : rst (ems 999 a ++ ems 1 b) = ems 1 (a ++ b) := by
  rw [show ∀ x y : Rows, rst (x ++ y) = rst x ++ rst y from fun x y => List.map_append .., ems_rst 998, ems_rst 0, ems_append]
theorem l12Walk_sat (d : Db) (q : Qu) {n : Nat} (F : FitE d q n) : ∀ (m : Nat) (vs fs : List Int), m ≤ q.atoms.length → vs.length = n → fs.length + m ≤ 3 →
    Sat Tryz.prog 37 [lDb d, lQu q, lInt ((q.atoms.length - m : Nat) : Int), lInts vs, lInts fs] [oEms (walkE d.facts q.atoms m vs fs)] [g2, g3, g1, g1, g1]
  | 0, vs, fs, h1, h2, h3 => by
    have := F.small
    refine sat_of_body mixed Tryz.func37 rfl (by kernel_rfl) (by kernel_rfl) (rs := [.tmp 10]) rfl rfl rfl ?_
    unfold walkE
    rw [Nat.sub_zero]
    simp -implicitDefEqProofs (maxSteps := 2000000) only [go_sem]
    repeat (refine ⟨by omega, ?_⟩)
    first | done | rfl | exact ⟨rfl, rfl⟩ | exact ⟨rfl, rfl, rfl⟩ | (refine tr_and ?_ ?_ <;> first | rfl | exact ⟨rfl, rfl⟩ | kernel_rfl)
  | m + 1, vs, fs, h1, h2, h3 => by
    have f1 := F.facts
    have f2 := F.atoms
    have f3 := F.small
    refine sat_of_body mixed Tryz.func37 rfl (by kernel_rfl) (by kernel_rfl) (rs := [.tmp 10]) rfl rfl rfl ?_
    rw [walkE_succ]
    obtain ⟨j, hj⟩ : ∃ j, j = q.atoms.length - (m + 1) := ⟨_, rfl⟩
    have hj2 : q.atoms.length - m = j + 1 := by omega
    rw [← hj]
    have c0 : j < q.atoms.length := by omega
    have ne : ((j : Int) == (q.atoms.length : Int)) = false := by rw [beq_eq_false_iff_ne]; omega
    have wj : IntKind.i64.wrap ((j : Int) + 1) = ((j + 1 : Nat) : Int) := i64_succ (by omega)
    simp -implicitDefEqProofs (maxSteps := 2000000) only [go_sem, ne]
    refine awp_loop Nat (fun k => mkSt [(2, .sc (.int .i64 j)), (3, .one (.im 1 (ints vs))), (4, .one (.im 1 (ints fs))), (5, .one (.vad 1000 0)), (6, .one (.vad 1064 0)), (11, .one (.ref 960 2 0 (found (oneE d.facts q.atoms m vs fs) k).length)), (12, .sc (.int .i64 k))] [(1000, sDb d), (1064, sQu q)] [(960, (2, ems 999 (found (oneE d.facts q.atoms m vs fs) k)))] 4000)
      (fun k => k ≤ d.facts.length) (fun k => d.facts.length - k) 0 (by omega) (le_st' _ _ [⟨960, some _, false, 2, _⟩] [] _ (by simp -implicitDefEqProofs (maxSteps := 2000000) only [go_sem, found_zero] <;> and_intros <;> rfl) (by simp -implicitDefEqProofs (maxSteps := 2000000) only [go_sem, found_zero] <;> and_intros <;> rfl) (by simp -implicitDefEqProofs (maxSteps := 2000000) only [go_sem, found_zero] <;> and_intros <;> rfl) (by rfl)) ?_
    rintro k h4
    have hlen : (found (oneE d.facts q.atoms m vs fs) k).length ≤ 14 * 14 ^ m := by
      refine Nat.le_trans (found_len (b := 14 ^ m) (fun i => ?_) k) (Nat.mul_le_mul_right _ (by omega))
      unfold oneE
      split
      · exact walkE_len f1 m _ _
      · simp
    have hp := pow14E (m := m) (by omega)
    by_cases c1 : k < d.facts.length
    · have wk : IntKind.i64.wrap ((k : Int) + 1) = ((k + 1 : Nat) : Int) := i64_succ (by omega)
      have hat : atomAt q.atoms m = q.atoms.getD j default := by rw [atomAt, ← hj]
      rcases hm : meet (atomAt q.atoms m) (d.facts.getD k default) vs with _ | x
      · have ho := oneE_none (fs := fs) hm
        rw [hat] at hm
        simp -implicitDefEqProofs (maxSteps := 2000000) only [go_sem, c0, c1]
        refine call_of (l12Meet_sat (q.atoms.getD j default) (d.facts.getD k default) vs (by omega) (F.vals k c1) (F.lens j k c0 c1) (by rw [h2]; exact F.terms j c0)) (by simp -implicitDefEqProofs (maxSteps := 2000000) only [go_sem, hm, Option.isSome_none]) (callOk_still (by kernel_rfl) (by simp only [List.all_cons, List.all_nil, LV.still, LV.leaves, Leaf.still, ints_still, ris_still, eds_still, rels_still, iss_still, ems_still, Bool.and_self, Bool.and_true])) (by simp -implicitDefEqProofs (maxSteps := 2000000) only [go_sem, hm, Option.isSome_none]) ?_
        simp -implicitDefEqProofs (maxSteps := 2000000) only [go_sem, hm, Option.isSome_none]
        first | (with_reducible refine tr_and ?_ ?_; focus kernel_rfl) | (with_reducible refine tr_only ?_; kernel_rfl) | skip
        rw [wk]
        refine ⟨k + 1, c1, by omega, ?_⟩
        rw [found_succ, ho, List.append_nil]
        exact (le_st' _ _ [⟨960, some _, false, 2, _⟩] [] _ (by simp -implicitDefEqProofs (maxSteps := 2000000) only [go_sem] <;> and_intros <;> rfl) (by simp -implicitDefEqProofs (maxSteps := 2000000) only [go_sem] <;> and_intros <;> rfl) (by simp -implicitDefEqProofs (maxSteps := 2000000) only [go_sem] <;> and_intros <;> rfl) (by rfl))
      · have ho := oneE_some (fs := fs) hm
        have hv := meetV_eq hm
        have hxl := meet_len hm
        rw [hat] at hm hv
        have hl2 := walkE_len f1 (ats := q.atoms) m x (fs ++ [(k : Int)])
        have ih := l12Walk_sat d q F m x (fs ++ [(k : Int)]) (by omega) (by omega) (by simp; omega)
        rw [hj2] at ih
        simp -implicitDefEqProofs (maxSteps := 2000000) only [go_sem, c0, c1]
        refine call_of (l12Meet_sat (q.atoms.getD j default) (d.facts.getD k default) vs (by omega) (F.vals k c1) (F.lens j k c0 c1) (by rw [h2]; exact F.terms j c0)) (by simp -implicitDefEqProofs (maxSteps := 2000000) only [go_sem, hm, hv, Option.isSome_some, wj]) (callOk_still (by kernel_rfl) (by simp only [List.all_cons, List.all_nil, LV.still, LV.leaves, Leaf.still, ints_still, ris_still, eds_still, rels_still, iss_still, ems_still, Bool.and_self, Bool.and_true])) (by simp -implicitDefEqProofs (maxSteps := 2000000) only [go_sem, hm, hv, Option.isSome_some, wj]) ?_
        simp -implicitDefEqProofs (maxSteps := 2000000) only [go_sem, hm, hv, Option.isSome_some, wj]
        first | (with_reducible refine tr_and ?_ ?_; focus kernel_rfl) | (with_reducible refine tr_only ?_; kernel_rfl) | skip
        repeat (refine ⟨by omega, ?_⟩)
        refine call_of (ih) (by simp -implicitDefEqProofs (maxSteps := 2000000) only [go_sem]) (callOk_still (by kernel_rfl) (by simp only [List.all_cons, List.all_nil, LV.still, LV.leaves, Leaf.still, ints_still, ris_still, eds_still, rels_still, iss_still, ems_still, Bool.and_self, Bool.and_true])) (by simp -implicitDefEqProofs (maxSteps := 2000000) only [go_sem]) ?_
        simp -implicitDefEqProofs (maxSteps := 2000000) only [go_sem]
        split
        · refine ⟨by omega, tr_and (by kernel_rfl) ?_⟩
          rw [wk]
          refine ⟨k + 1, c1, by omega, ?_⟩
          rw [found_succ, ho]
          exact (le_st' _ _ [⟨960, some _, false, 2, _⟩] [] _ (by simp -implicitDefEqProofs (maxSteps := 2000000) only [go_sem] <;> and_intros <;> rfl) (by simp -implicitDefEqProofs (maxSteps := 2000000) only [go_sem] <;> and_intros <;> rfl) (by simp -implicitDefEqProofs (maxSteps := 2000000) only [go_sem] <;> and_intros <;> rfl) (by rfl))
        · refine ⟨by omega, tr_and (by kernel_rfl) ?_⟩
          rw [wk]
          refine ⟨k + 1, c1, by omega, ?_⟩
          rw [found_succ, ho]
          exact (le_st' _ _ [⟨960, some _, false, 2, _⟩] [] _ (by simp -implicitDefEqProofs (maxSteps := 2000000) only [go_sem] <;> and_intros <;> rfl) (by simp -implicitDefEqProofs (maxSteps := 2000000) only [go_sem] <;> and_intros <;> rfl) (by simp -implicitDefEqProofs (maxSteps := 2000000) only [go_sem] <;> and_intros <;> rfl) (by rfl))
    · obtain rfl : k = d.facts.length := by omega
      simp -implicitDefEqProofs (maxSteps := 2000000) only [go_sem, c1]
      kernel_rfl
end Go.Proofs.YtedciihjgbkjgabGreat.A


/- EMBEDDINGS: the reference's function; the program's search. Conditions: none. -/
namespace Go.Proofs.YtedciihjgbkjgabGreat.A
open Go
set_option linter.unusedSimpArgs false
set_option linter.unusedVariables false
set_option maxRecDepth 100000

theorem ints_nilfE : (ints [] = frz []) = True := eq_true rfl
attribute [go_sem] ints_nilfE
theorem specFindEmbeddings_sat (d : Db) (q : Qu) (h : d.fit) (hq : q.fit) : Sat Tryz.prog 13 [lDb d, lQu q] [oEms (embs d q)] [g2, g3] := by
  refine sat_of_body mixed Tryz.func13 rfl (by kernel_rfl) (by kernel_rfl) (rs := [.tmp 4]) rfl rfl rfl ?_
  unfold embs
  simp -implicitDefEqProofs (maxSteps := 2000000) only [go_sem]
  rcases g : queryFor d q
  · rw [if_neg (by simp)]
    refine call_of (specIsQueryFor_sat d q h hq) (by simp -implicitDefEqProofs (maxSteps := 2000000) only [go_sem, g]) (by kernel_rfl) (by simp -implicitDefEqProofs (maxSteps := 2000000) only [go_sem, g]) ?_
    simp -implicitDefEqProofs (maxSteps := 2000000) only [go_sem, g]
    first | done | rfl | exact ⟨rfl, rfl⟩ | exact ⟨rfl, rfl, rfl⟩ | (refine tr_and ?_ ?_ <;> first | rfl | exact ⟨rfl, rfl⟩ | kernel_rfl)
  have F := fitE g
  have hp := goodQu_parts (queryFor_qu g)
  rw [if_pos rfl]
  rcases q with ⟨vc, ats, fr⟩
  simp only at hp F
  obtain ⟨n, rfl⟩ : ∃ n : Nat, vc = n := ⟨vc.toNat, by omega⟩
  rw [Int.toNat_natCast] at F
  have hw := l12Walk_sat d ⟨n, ats, fr⟩ F ats.length (List.replicate n (-1)) [] (Nat.le_refl _) (by simp) (by have := F.atoms; simp only at this; simp; omega)
  simp only [Nat.sub_self] at hw
  refine call_of (specIsQueryFor_sat d ⟨n, ats, fr⟩ h hq) (by simp -implicitDefEqProofs (maxSteps := 2000000) only [go_sem, g]) (by kernel_rfl) (by simp -implicitDefEqProofs (maxSteps := 2000000) only [go_sem, g]) ?_
  simp -implicitDefEqProofs (maxSteps := 2000000) only [go_sem, g]
  refine call_of (l12None_sat F.small) (by simp -implicitDefEqProofs (maxSteps := 2000000) only [go_sem]) (callOk_still (by kernel_rfl) (by simp only [List.all_cons, List.all_nil, LV.still, LV.leaves, Leaf.still, ints_still, ris_still, eds_still, rels_still, iss_still, ems_still, Bool.and_self, Bool.and_true])) (by simp -implicitDefEqProofs (maxSteps := 2000000) only [go_sem]) ?_
  simp -implicitDefEqProofs (maxSteps := 2000000) only [go_sem]
  refine call_of (hw) (by simp -implicitDefEqProofs (maxSteps := 2000000) only [go_sem, List.take_replicate, Nat.min_self]) (callOk_still (by kernel_rfl) (by simp only [List.all_cons, List.all_nil, LV.still, LV.leaves, Leaf.still, ints_still, ris_still, eds_still, rels_still, iss_still, ems_still, Bool.and_self, Bool.and_true])) (by simp -implicitDefEqProofs (maxSteps := 2000000) only [go_sem, List.take_replicate, Nat.min_self]) ?_
  simp -implicitDefEqProofs (maxSteps := 2000000) only [go_sem, List.take_replicate, Nat.min_self]
  first | (with_reducible refine tr_and ?_ ?_; focus kernel_rfl) | (with_reducible refine tr_only ?_; kernel_rfl) | skip
  first | done | rfl | exact ⟨rfl, rfl⟩ | exact ⟨rfl, rfl, rfl⟩ | (refine tr_and ?_ ?_ <;> first | rfl | exact ⟨rfl, rfl⟩ | kernel_rfl)

abbrev embT (d : Db) (q : Qu) (o : List Emb) : List CV := [.flds [.sc (.int .i64 q.vc), .im 2 (ris 0 q.atoms), .im 1 (ints q.free)], .own 2 (ems 999 o), .flds [.im 3 (rels d.rels), .im 2 (ris 0 d.facts)], .self 40]
theorem embT_stm (d : Db) (q : Qu) (o : List Emb) : ∀ w rows, CV.own w rows ∈ embT d q o → stm 999 rows = rows := by
  intro w rows h
  simp at h
  obtain ⟨rfl, rfl⟩ := h
  exact ems_stm 999 998 o
theorem searchE_zero (d : Db) (q : Qu) (vs fs : List Int) (o : List Emb) (h1 : vs.length ≤ 4) (h2 : fs.length = q.atoms.length) (h3 : fs.length ≤ 3) (ho : o.length ≤ 16384) :
    RSat Tryz.prog 40 [lInts vs, lInts fs] (embT d q o) (embT d q (o ++ [⟨vs, fs⟩])) := by
  refine rsat_of_body Tryz.func40 rfl (by kernel_rfl) rfl rfl (embT_stm _ _ _) ?_
  have e : ((fs.length : Int) == (q.atoms.length : Int)) = true := by rw [h2]; simp
  refine bwp_seq mixed (by kernel_rfl) ?_
  simp -implicitDefEqProofs (maxSteps := 2000000) only [go_sem, e]
  refine call_of (slicesClone_sat vs (by omega)) (by simp -implicitDefEqProofs (maxSteps := 2000000) only [go_sem]) (callOk_still (by kernel_rfl) (by simp only [List.all_cons, List.all_nil, LV.still, LV.leaves, Leaf.still, ints_still, ris_still, eds_still, rels_still, iss_still, ems_still, Bool.and_self, Bool.and_true])) (by simp -implicitDefEqProofs (maxSteps := 2000000) only [go_sem]) ?_
  simp -implicitDefEqProofs (maxSteps := 2000000) only [go_sem]
  refine call_of (slicesClone_sat fs (by omega)) (by simp -implicitDefEqProofs (maxSteps := 2000000) only [go_sem]) (callOk_still (by kernel_rfl) (by simp only [List.all_cons, List.all_nil, LV.still, LV.leaves, Leaf.still, ints_still, ris_still, eds_still, rels_still, iss_still, ems_still, Bool.and_self, Bool.and_true])) (by simp -implicitDefEqProofs (maxSteps := 2000000) only [go_sem]) ?_
  simp -implicitDefEqProofs (maxSteps := 2000000) only [go_sem]
  repeat (refine ⟨by omega, ?_⟩)
  first | (with_reducible refine tr_and ?_ ?_; focus kernel_rfl) | (with_reducible refine tr_only ?_; kernel_rfl) | skip
  exact (le_st' _ _ [⟨960, some _, false, 2, _⟩] [] _ (by simp -implicitDefEqProofs (maxSteps := 2000000) only [go_sem, rep1, List.set_cons_zero, ems_one] <;> and_intros <;> rfl) (by simp -implicitDefEqProofs (maxSteps := 2000000) only [go_sem, rep1, List.set_cons_zero, ems_one] <;> and_intros <;> rfl) (by simp -implicitDefEqProofs (maxSteps := 2000000) only [go_sem, rep1, List.set_cons_zero, ems_one] <;> and_intros <;> rfl) (by rfl))
theorem searchE_step (d : Db) (q : Qu) {n : Nat} (F : FitE d q n) (m j : Nat) (hj : j = q.atoms.length - (m + 1)) (c0 : j < q.atoms.length) (vs fs : List Int) (o : List Emb) (h1 : vs.length = n) (h2 : fs.length = j) (ho : o.length + 14 * 14 ^ m ≤ 16384)
    (ih : ∀ (k : Nat) (x : List Int) (o : List Emb), x.length = n → o.length + 14 ^ m ≤ 16384 → RSat Tryz.prog 40 [lInts x, lInts (fs ++ [(k : Int)])] (embT d q o) (embT d q (o ++ walkE d.facts q.atoms m x (fs ++ [(k : Int)])))) :
    RSat Tryz.prog 40 [lInts vs, lInts fs] (embT d q o) (embT d q (o ++ walkE d.facts q.atoms (m + 1) vs fs)) := by
  refine rsat_of_body Tryz.func40 rfl (by kernel_rfl) rfl rfl (embT_stm _ _ _) ?_
  have f1 := F.facts
  have f2 := F.atoms
  have f3 := F.small
  have e : ((fs.length : Int) == (q.atoms.length : Int)) = false := by rw [beq_eq_false_iff_ne]; omega
  have c0' : fs.length < q.atoms.length := by omega
  refine bwp_seq mixed (by kernel_rfl) ?_
  simp -implicitDefEqProofs (maxSteps := 2000000) only [go_sem, e]
  refine bwp_seq mixed (by kernel_rfl) ?_
  simp -implicitDefEqProofs (maxSteps := 2000000) only [go_sem, c0']
  refine bwp_seq mixed (by kernel_rfl) ?_
  simp -implicitDefEqProofs (maxSteps := 2000000) only [go_sem]
  refine bwp_block ?_
  refine bwp_loop Nat (fun k => mkSt [(0, .one (.im 1 (ints vs))), (1, .one (.im 1 (ints fs))), (2, .one (.vad 900 0)), (3, .one (.vad 901 0)), (4, .one (.vad 902 0)), (5, .one (.vad 903 0)), (8, .one (.ipt (fRI (q.atoms.getD fs.length default)) 0)), (34, .one (.im 2 (ris 0 d.facts))), (35, .sc (.int .i64 d.facts.length)), (36, .sc (.int .i64 k))]
    [(900, sQu q), (901, [.ref 960 2 0 (o ++ found (oneE d.facts q.atoms m vs fs) k).length]), (902, sDb d), (903, [.fnv 40 [900, 901, 902, 903]])] [(960, (2, ems 999 (o ++ found (oneE d.facts q.atoms m vs fs) k)))] 4000)
    (fun k => k ≤ d.facts.length) (fun k => d.facts.length - k) 0 (by omega) (le_st' _ _ [⟨960, some _, false, 2, _⟩] [1768] _ (by simp -implicitDefEqProofs (maxSteps := 2000000) only [go_sem, found_zero, List.append_nil] <;> and_intros <;> first | rfl | exact List.mem_singleton_self _ | decide | (refine ⟨_, rfl, Eq.symm ?_⟩; simp -implicitDefEqProofs (maxSteps := 2000000) only [go_sem, found_zero, List.append_nil]; done) | (refine ⟨_, rfl, Eq.symm ?_⟩; simp -implicitDefEqProofs (maxSteps := 2000000) only [go_sem, found_zero, List.append_nil]; rfl)) (by simp -implicitDefEqProofs (maxSteps := 2000000) only [go_sem, found_zero, List.append_nil] <;> and_intros <;> first | rfl | exact List.mem_singleton_self _ | decide | (refine ⟨_, rfl, Eq.symm ?_⟩; simp -implicitDefEqProofs (maxSteps := 2000000) only [go_sem, found_zero, List.append_nil]; done) | (refine ⟨_, rfl, Eq.symm ?_⟩; simp -implicitDefEqProofs (maxSteps := 2000000) only [go_sem, found_zero, List.append_nil]; rfl)) (by simp -implicitDefEqProofs (maxSteps := 2000000) only [go_sem, found_zero, List.append_nil] <;> and_intros <;> rfl) (by rfl)) ?_
  rintro k h4
  have hlen : (found (oneE d.facts q.atoms m vs fs) k).length ≤ k * 14 ^ m := by
    refine found_len (b := 14 ^ m) (fun i => ?_) k
    unfold oneE
    split
    · exact walkE_len f1 m _ _
    · simp
  by_cases c1 : k < d.facts.length
  · have wk : IntKind.i64.wrap ((k : Int) + 1) = ((k + 1 : Nat) : Int) := i64_succ (by omega)
    have hat : atomAt q.atoms m = q.atoms.getD fs.length default := by rw [atomAt, ← hj, h2]
    refine bwp_seq mixed (by kernel_rfl) ?_
    simp -implicitDefEqProofs (maxSteps := 2000000) only [go_sem, c1]
    refine bwp_seq mixed (by kernel_rfl) ?_
    simp -implicitDefEqProofs (maxSteps := 2000000) only [go_sem]
    refine bwp_seqB (bwp_block ?_)
    refine bwp_seq mixed (by kernel_rfl) ?_
    simp -implicitDefEqProofs (maxSteps := 2000000) only [go_sem, c1]
    refine bwp_seq mixed (by kernel_rfl) ?_
    by_cases d1 : (d.facts.getD k default).r = (q.atoms.getD fs.length default).r
    case neg =>
      have e1 : ((d.facts.getD k default).r != (q.atoms.getD fs.length default).r) = true := by rw [bne, Bool.not_eq_true', beq_eq_false_iff_ne]; exact d1
      have hm : meet (atomAt q.atoms m) (d.facts.getD k default) vs = none := by rw [hat, meet, if_neg d1]
      have ho := oneE_none (fs := fs) hm
      simp -implicitDefEqProofs (maxSteps := 2000000) only [go_sem, e1]
      refine bwp_awp mixed (by kernel_rfl) ?_
      simp -implicitDefEqProofs (maxSteps := 2000000) only [go_sem, wk]
      refine ⟨k + 1, c1, by omega, ?_⟩
      rw [found_succ, ho, List.append_nil]
      exact (le_st' _ _ [⟨960, some _, false, 2, _⟩] [] _ (by simp -implicitDefEqProofs (maxSteps := 2000000) only [go_sem] <;> and_intros <;> rfl) (by simp -implicitDefEqProofs (maxSteps := 2000000) only [go_sem] <;> and_intros <;> rfl) (by simp -implicitDefEqProofs (maxSteps := 2000000) only [go_sem] <;> and_intros <;> rfl) (by rfl))
    have e1 : ((d.facts.getD k default).r != (q.atoms.getD fs.length default).r) = false := by rw [bne, d1]; simp
    have hls := F.lens fs.length k c0' c1 d1
    have hvl := F.vals k c1
    simp -implicitDefEqProofs (maxSteps := 2000000) only [go_sem, e1]
    refine bwp_seq mixed (by kernel_rfl) ?_
    simp -implicitDefEqProofs (maxSteps := 2000000) only [go_sem]
    rcases hu : uniS (q.atoms.getD fs.length default).l (d.facts.getD k default).l vs (q.atoms.getD fs.length default).l.length with _ | x
    · have hm : meet (atomAt q.atoms m) (d.facts.getD k default) vs = none := by rw [hat, meet, if_pos d1, hu]
      have ho := oneE_none (fs := fs) hm
      refine call_of (unify_sat vs (q.atoms.getD fs.length default).l (d.facts.getD k default).l (by omega) (by omega) hvl (by rw [h1]; exact F.terms fs.length c0')) (by simp -implicitDefEqProofs (maxSteps := 2000000) only [go_sem, hu, Option.isSome_none, Option.getD_none]) (callOk_still (by kernel_rfl) (by simp only [List.all_cons, List.all_nil, LV.still, LV.leaves, Leaf.still, ints_still, ris_still, eds_still, rels_still, iss_still, ems_still, Bool.and_self, Bool.and_true])) (by simp -implicitDefEqProofs (maxSteps := 2000000) only [go_sem, hu, Option.isSome_none, Option.getD_none]) ?_
      simp -implicitDefEqProofs (maxSteps := 2000000) only [go_sem, hu, Option.isSome_none, Option.getD_none]
      refine bwp_seq mixed (by kernel_rfl) ?_
      simp -implicitDefEqProofs (maxSteps := 2000000) only [go_sem]
      refine bwp_cond (t := false) (by simp -implicitDefEqProofs (maxSteps := 2000000) only [go_sem]) (fun h => by cases h) fun _ => bwp_skip ?_
      simp -implicitDefEqProofs (maxSteps := 2000000) only [go_sem]
      refine bwp_awp mixed (by kernel_rfl) ?_
      simp -implicitDefEqProofs (maxSteps := 2000000) only [go_sem, wk]
      refine ⟨k + 1, c1, by omega, ?_⟩
      rw [found_succ, ho, List.append_nil]
      exact (le_st' _ _ [⟨960, some _, false, 2, _⟩] [] _ (by simp -implicitDefEqProofs (maxSteps := 2000000) only [go_sem] <;> and_intros <;> rfl) (by simp -implicitDefEqProofs (maxSteps := 2000000) only [go_sem] <;> and_intros <;> rfl) (by simp -implicitDefEqProofs (maxSteps := 2000000) only [go_sem] <;> and_intros <;> rfl) (by rfl))
    · have hm : meet (atomAt q.atoms m) (d.facts.getD k default) vs = some x := by rw [hat, meet, if_pos d1, hu]
      have ho := oneE_some (fs := fs) hm
      have hxl := meet_len hm
      refine call_of (unify_sat vs (q.atoms.getD fs.length default).l (d.facts.getD k default).l (by omega) (by omega) hvl (by rw [h1]; exact F.terms fs.length c0')) (by simp -implicitDefEqProofs (maxSteps := 2000000) only [go_sem, hu, Option.isSome_some, Option.getD_some]) (callOk_still (by kernel_rfl) (by simp only [List.all_cons, List.all_nil, LV.still, LV.leaves, Leaf.still, ints_still, ris_still, eds_still, rels_still, iss_still, ems_still, Bool.and_self, Bool.and_true])) (by simp -implicitDefEqProofs (maxSteps := 2000000) only [go_sem, hu, Option.isSome_some, Option.getD_some]) ?_
      simp -implicitDefEqProofs (maxSteps := 2000000) only [go_sem, hu, Option.isSome_some, Option.getD_some]
      refine bwp_seq mixed (by kernel_rfl) ?_
      simp -implicitDefEqProofs (maxSteps := 2000000) only [go_sem]
      refine bwp_cond (t := true) (by simp -implicitDefEqProofs (maxSteps := 2000000) only [go_sem]) (fun _ => ?_) fun h => by cases h
      refine bwp_callD mixed (ih k x (o ++ found (oneE d.facts q.atoms m vs fs) k) (by omega) (by
        have := Nat.mul_le_mul_right (14 ^ m) (show k + 1 ≤ 14 by omega)
        rw [Nat.succ_mul] at this
        rw [List.length_append]; omega)) [900, 901, 902, 903] 960 960 8000
        [(0, .one (.im 1 (ints vs))), (1, .one (.im 1 (ints fs))), (2, .one (.vad 900 0)), (3, .one (.vad 901 0)), (4, .one (.vad 902 0)), (5, .one (.vad 903 0)), (8, .one (.ipt (fRI (q.atoms.getD fs.length default)) 0)), (34, .one (.im 2 (ris 0 d.facts))), (35, .sc (.int .i64 d.facts.length)), (36, .sc (.int .i64 k))]
        rfl rfl rfl (by kernel_rfl) (by kernel_rfl) ?_ ?_
      · simp -implicitDefEqProofs (maxSteps := 2000000) only [go_sem]
        refine call_of (slicesClone_sat fs (by omega)) (by simp -implicitDefEqProofs (maxSteps := 2000000) only [go_sem]) (callOk_still (by kernel_rfl) (by simp only [List.all_cons, List.all_nil, LV.still, LV.leaves, Leaf.still, ints_still, ris_still, eds_still, rels_still, iss_still, ems_still, Bool.and_self, Bool.and_true])) (by simp -implicitDefEqProofs (maxSteps := 2000000) only [go_sem]) ?_
        simp -implicitDefEqProofs (maxSteps := 2000000) only [go_sem]
        repeat (refine ⟨by omega, ?_⟩)
        refine tr_and (by kernel_rfl) ?_
        rfl
      · simp -implicitDefEqProofs (maxSteps := 2000000) only [go_sem]
        refine bwp_awp mixed (by kernel_rfl) ?_
        simp -implicitDefEqProofs (maxSteps := 2000000) only [go_sem, wk]
        refine ⟨k + 1, c1, by omega, ?_⟩
        rw [found_succ, ho]
        exact (le_st' _ _ [⟨960, some _, false, 2, _⟩] [] _ (by simp -implicitDefEqProofs (maxSteps := 2000000) only [go_sem] <;> and_intros <;> rfl) (by simp -implicitDefEqProofs (maxSteps := 2000000) only [go_sem] <;> and_intros <;> rfl) (by simp -implicitDefEqProofs (maxSteps := 2000000) only [go_sem] <;> and_intros <;> rfl) (by rfl))
  · obtain rfl : k = d.facts.length := by omega
    refine bwp_seq mixed (by kernel_rfl) ?_
    simp -implicitDefEqProofs (maxSteps := 2000000) only [go_sem, c1]
    refine bwp_seq mixed (by kernel_rfl) ?_
    simp -implicitDefEqProofs (maxSteps := 2000000) only [go_sem]
    rw [walkE_succ]
    exact (le_st' _ _ [⟨960, some _, false, 2, _⟩] [] _ (by simp -implicitDefEqProofs (maxSteps := 2000000) only [go_sem] <;> and_intros <;> rfl) (by simp -implicitDefEqProofs (maxSteps := 2000000) only [go_sem] <;> and_intros <;> rfl) (by simp -implicitDefEqProofs (maxSteps := 2000000) only [go_sem] <;> and_intros <;> rfl) (by rfl))
theorem searchE_all (d : Db) (q : Qu) {n : Nat} (F : FitE d q n) : ∀ (m : Nat) (vs fs : List Int) (o : List Emb), vs.length = n → fs.length + m = q.atoms.length → o.length + 14 ^ m ≤ 16384 →
    RSat Tryz.prog 40 [lInts vs, lInts fs] (embT d q o) (embT d q (o ++ walkE d.facts q.atoms m vs fs))
  | 0, vs, fs, o, h1, h2, h3 => searchE_zero d q vs fs o (by have := F.small; omega) (by omega) (by have := F.atoms; omega) (by omega)
  | m + 1, vs, fs, o, h1, h2, h3 =>
    searchE_step d q F m fs.length (by omega) (by omega) vs fs o h1 rfl (by rw [Nat.pow_succ] at h3; omega)
      fun k x o h4 h5 => searchE_all d q F m x (fs ++ [(k : Int)]) o h4 (by rw [List.length_append, List.length_singleton]; omega) h5
set_option maxHeartbeats 4000000 in
theorem implFindEmbeddings_sat (d : Db) (q : Qu) (h : d.fit) (hq : q.ok) : Sat Tryz.prog 15 [lDb d, lQu q] [oEms (embs d q)] [g2, g3] := by
  refine sat_of_bodyB Tryz.func15 rfl (by kernel_rfl) (rs := [.tmp 4]) rfl rfl rfl ?_
  unfold embs
  refine bwp_seq mixed (by kernel_rfl) ?_
  simp -implicitDefEqProofs (maxSteps := 2000000) only [go_sem]
  refine bwp_seq mixed (by kernel_rfl) ?_
  simp -implicitDefEqProofs (maxSteps := 2000000) only [go_sem]
  refine bwp_seq mixed (by kernel_rfl) ?_
  simp -implicitDefEqProofs (maxSteps := 2000000) only [go_sem]
  rcases g : queryFor d q
  · rw [if_neg (by simp)]
    refine call_of (implIsQueryFor_sat d q h hq) (by simp -implicitDefEqProofs (maxSteps := 2000000) only [go_sem, g]) (by kernel_rfl) (by simp -implicitDefEqProofs (maxSteps := 2000000) only [go_sem, g]) ?_
    simp -implicitDefEqProofs (maxSteps := 2000000) only [go_sem, g]
    first | done | rfl | exact ⟨rfl, rfl⟩ | exact ⟨rfl, rfl, rfl⟩ | (refine tr_and ?_ ?_ <;> first | rfl | exact ⟨rfl, rfl⟩ | kernel_rfl)
  have F := fitE g
  have hp := goodQu_parts (queryFor_qu g)
  rw [if_pos rfl]
  rcases q with ⟨vc, ats, fr⟩
  simp only at hp F
  obtain ⟨n, rfl⟩ : ∃ n : Nat, vc = n := ⟨vc.toNat, by omega⟩
  rw [Int.toNat_natCast] at F
  have hw := searchE_all d ⟨n, ats, fr⟩ F ats.length (List.replicate n (-1)) [] [] (by simp) (by simp) (by have := pow14E (m := ats.length) (by omega); simp only [List.length_nil]; omega)
  rw [List.nil_append] at hw
  refine call_of (implIsQueryFor_sat d ⟨n, ats, fr⟩ h hq) (by simp -implicitDefEqProofs (maxSteps := 2000000) only [go_sem, g]) (by kernel_rfl) (by simp -implicitDefEqProofs (maxSteps := 2000000) only [go_sem, g]) ?_
  simp -implicitDefEqProofs (maxSteps := 2000000) only [go_sem, g]
  refine bwp_seq mixed (by kernel_rfl) ?_
  simp -implicitDefEqProofs (maxSteps := 2000000) only [go_sem]
  refine bwp_seq mixed (by kernel_rfl) ?_
  simp -implicitDefEqProofs (maxSteps := 2000000) only [go_sem]
  refine bwp_seqB (bwp_callD mixed hw [1064, 1256, 1000, 1640] 1192 960 4000 [(5, .one (.vad 1256 0))] rfl rfl rfl (by kernel_rfl) (by kernel_rfl) ?_ ?_)
  · simp -implicitDefEqProofs (maxSteps := 2000000) only [go_sem]
    refine call_of (unknown_sat F.small) (by simp -implicitDefEqProofs (maxSteps := 2000000) only [go_sem]) (callOk_still (by kernel_rfl) (by simp only [List.all_cons, List.all_nil, LV.still, LV.leaves, Leaf.still, ints_still, ris_still, eds_still, rels_still, iss_still, ems_still, Bool.and_self, Bool.and_true])) (by simp -implicitDefEqProofs (maxSteps := 2000000) only [go_sem]) ?_
    simp -implicitDefEqProofs (maxSteps := 2000000) only [go_sem]
    refine tr_and (by kernel_rfl) ?_
    refine ⟨⟨?_, rfl⟩, rfl⟩
    rw [List.take_replicate, Nat.min_self]
    exact ⟨rfl, rfl⟩
  · simp -implicitDefEqProofs (maxSteps := 2000000) only [go_sem]
    refine bwp_awp mixed (by kernel_rfl) ?_
    simp -implicitDefEqProofs (maxSteps := 2000000) only [go_sem]
    first | done | rfl | exact ⟨rfl, rfl⟩ | exact ⟨rfl, rfl, rfl⟩ | (refine tr_and ?_ ?_ <;> first | rfl | exact ⟨rfl, rfl⟩ | kernel_rfl)
theorem embs_len (d : Db) (q : Qu) : (embs d q).length ≤ 2744 := by
  unfold embs
  split
  · rename_i g
    have F := fitE g
    have := walkE_len (ats := q.atoms) F.facts q.atoms.length (List.replicate q.vc.toNat (-1)) []
    have := pow14E F.atoms
    omega
  · simp
theorem embs_mem {d : Db} {q : Qu} : ∀ e ∈ embs d q, e.vs.length ≤ 4 ∧ e.fs.length ≤ 3 := by
  intro e he
  unfold embs at he
  split at he
  · rename_i g
    have F := fitE g
    obtain ⟨h1, h2⟩ := walkE_mem e he
    have := F.small
    have := F.atoms
    rw [h1, h2]
    simp
    omega
  · cases he
end Go.Proofs.YtedciihjgbkjgabGreat.A


/- WITNESSES ARE PARTIAL REPAIRS: the plain law. Conditions: none. -/
namespace Go.Proofs.YtedciihjgbkjgabGreat.A
open Go
set_option linter.unusedSimpArgs false
set_option linter.unusedVariables false

theorem meet_rel {a f : RI} {vs x : List Int} (h : meet a f vs = some x) : f.r = a.r := by
  unfold meet at h
  split at h
  · assumption
  · cases h
/-- The chosen facts are of the atoms' relations. -/
theorem walkE_rel {ds ats : List RI} : ∀ {m : Nat} {vs fs : List Int}, fs.length + m = ats.length → (∀ t, t < fs.length → ∃ i : Nat, fs.getD t 0 = i ∧ i < ds.length ∧ (ds.getD i default).r = (ats.getD t default).r) →
    ∀ e ∈ walkE ds ats m vs fs, e.fs.length = ats.length ∧ ∀ t, t < ats.length → ∃ i : Nat, e.fs.getD t 0 = i ∧ i < ds.length ∧ (ds.getD i default).r = (ats.getD t default).r
  | 0, vs, fs, hl, hf, e, he => by
    simp only [walkE, List.mem_singleton] at he
    subst he
    exact ⟨by simpa using hl, fun t ht => hf t (by omega)⟩
  | m + 1, vs, fs, hl, hf, e, he => by
    rw [walkE_succ, found_mem] at he
    obtain ⟨i, hi, he⟩ := he
    unfold oneE at he
    split at he
    · rename_i x hx
      refine walkE_rel (by rw [List.length_append, List.length_singleton]; omega) (fun t ht => ?_) e he
      rw [List.length_append, List.length_singleton] at ht
      rcases Nat.lt_or_ge t fs.length with h | h
      · obtain ⟨j, h1, h2, h3⟩ := hf t h
        refine ⟨j, ?_, h2, h3⟩
        rw [List.getD_eq_getElem?_getD, List.getElem?_append_left h, ← List.getD_eq_getElem?_getD]; exact h1
      · obtain rfl : t = fs.length := by omega
        refine ⟨i, ?_, hi, ?_⟩
        · rw [List.getD_eq_getElem?_getD, List.getElem?_append_right (Nat.le_refl _), Nat.sub_self]; rfl
        · have := meet_rel hx
          rw [this, atomAt]
          congr 2; omega
    · cases he
theorem newRels {l : List Rel} {q : Qu} (h : goodQu l q = true) {s t : Nat} (hs : s < t) (ht : t < q.atoms.length) : (q.atoms.getD s default).r ≠ (q.atoms.getD t default).r := by
  have h1 := goodQu_at h ht
  unfold atomOk at h1
  simp only [Bool.and_eq_true] at h1
  have := upTo_at h1.2.1 hs
  unfold newRel at this
  rw [Bool.not_eq_true', beq_eq_false_iff_ne] at this
  exact this
theorem idxs_of {l : List Int} {n : Int} (h1 : l.Pairwise (· < ·)) (h2 : ∀ x ∈ l, 0 ≤ x ∧ x < n) : idxs l n = true := by
  unfold idxs
  refine upTo_true fun k hk => ?_
  unfold idxAt
  obtain ⟨a1, a2⟩ := h2 _ (mem_getD 0 hk)
  rw [Bool.and_eq_true]
  refine ⟨by unfold inB; rw [decide_eq_true a1, decide_eq_true (show l.getD k 0 ≤ n - 1 by omega)]; rfl, ?_⟩
  rcases k with _ | k
  · rfl
  · rw [Nat.add_sub_cancel, decide_eq_false (by omega : ¬ k + 1 = 0), Bool.false_or, Bool.not_eq_true', decide_eq_false_iff_not]
    have := List.pairwise_iff_getElem.mp h1 k (k + 1) (by omega) hk (by omega)
    rw [List.getD_eq_getElem?_getD, List.getD_eq_getElem?_getD, List.getElem?_eq_getElem hk, List.getElem?_eq_getElem (show k < l.length by omega)]
    simp only [Option.getD_some]
    omega
theorem sortI_lt {l : List Int} (h : l.Nodup) : (sortI l).Pairwise (· < ·) := by
  have h1 := sortI_sorted l
  have h2 : (sortI l).Nodup := (sortI_perm l).nodup_iff.mpr h
  have := h1.and h2
  exact this.imp fun ⟨a, b⟩ => by omega
theorem isPR_of {d : Db} {l : List Int} (g : goodDb d = true) (h1 : l.Pairwise (· < ·)) (h2 : ∀ x ∈ l, 0 ≤ x ∧ x < d.facts.length)
    (h3 : ∀ x ∈ l, ∀ y ∈ l, x ≠ y → (d.facts.getD x.toNat default).r ≠ (d.facts.getD y.toNat default).r) : isPR d l = true := by
  have hix := idxs_of h1 h2
  have hok : selOk d l = true := by unfold selOk; rw [g, hix]; rfl
  have hsel : selD d l = ⟨d.rels, selF d.facts l⟩ := by unfold selD; rw [hok]; rfl
  have hlen : (selF d.facts l).length = l.length := selF_length _ _
  have hget : ∀ k, k < l.length → (selF d.facts l).getD k default = d.facts.getD (l.getD k 0).toNat default := by
    intro k hk
    simp [selF, List.getD_eq_getElem?_getD, hk]
  have hll : (l.length : Int) ≤ d.facts.length := by
    rcases e : l.length with _ | k
    · omega
    · have : ∀ j, j < l.length → (j : Int) ≤ l.getD j 0 := by
        intro j
        induction j with
        | zero => intro hj; exact (h2 _ (mem_getD 0 hj)).1
        | succ j ih =>
          intro hj
          have := idxs_lt hix (j + 1) j hj (by omega)
          have := ih (by omega)
          omega
      have a1 := this k (by omega)
      have a2 := (h2 _ (mem_getD 0 (show k < l.length by omega))).2
      omega
  have hgood : goodDb (selD d l) = true := by
    have gr := (db_of g).1
    have gn := (db_of g).2.1
    rw [hsel]
    unfold goodDb
    simp only [Bool.and_eq_true, decide_eq_true_eq]
    refine ⟨gr, by rw [hlen]; omega, upTo_true fun k hk => ?_⟩
    rw [hlen] at hk
    obtain ⟨a1, a2⟩ := h2 _ (mem_getD 0 hk)
    unfold factOk
    simp only
    rw [hget k hk, fact_of g (by omega), Bool.true_and]
    rcases k with _ | k
    · rfl
    · rw [Nat.add_sub_cancel, decide_eq_false (by omega : ¬ k + 1 = 0), Bool.false_or, Bool.not_eq_true', decide_eq_false_iff_not, hget k (by omega)]
      have b1 := idxs_lt hix (k + 1) k hk (by omega)
      obtain ⟨b2, b3⟩ := h2 _ (mem_getD 0 (show k < l.length by omega))
      have := db_sorted g (show (l.getD k 0).toNat < (l.getD (k + 1) 0).toNat by omega) (by omega)
      omega
  have hfst : ∀ i, i < l.length → isFst (keyR (selD d l)) i = true := by
    intro i hi
    refine isFst_of fun j hj => ?_
    rcases e : keyR (selD d l) j i
    · rfl
    · unfold keyR at e
      rw [sameK_iff, hsel] at e
      have e1 := e.1
      simp only at e1
      rw [hget j (by omega), hget i hi] at e1
      have b1 := idxs_lt hix i j hi hj
      exact absurd e1 (h3 _ (mem_getD 0 (by omega)) _ (mem_getD 0 hi) (by omega))
  unfold isPR cst
  rw [hok, hgood, Bool.true_and, Bool.true_and, decide_eq_true_iff]
  unfold blocksOf blk blkN
  rw [List.length_map, List.length_map]
  have hf : (selD d l).facts.length = l.length := by rw [hsel]; exact hlen
  rw [hf]
  unfold fsts
  rw [List.filter_eq_self.mpr (fun i hi => hfst i (by simpa using hi)), List.length_range]
theorem embs_fs {d : Db} {q : Qu} : ∀ e ∈ embs d q, queryFor d q = true ∧ e.fs.length = q.atoms.length ∧ ∀ t, t < q.atoms.length → ∃ i : Nat, e.fs.getD t 0 = i ∧ i < d.facts.length ∧ (d.facts.getD i default).r = (q.atoms.getD t default).r := by
  intro e he
  unfold embs at he
  split at he
  · rename_i g
    obtain ⟨h1, h2⟩ := walkE_rel (fs := []) (by simp) (fun t ht => by cases ht) e he
    exact ⟨g, h1, h2⟩
  · cases he
theorem witness_ok {d : Db} {q : Qu} : ∀ e ∈ embs d q, isPR d (sortI e.fs) = true := by
  intro e he
  obtain ⟨g, h1, h2⟩ := embs_fs e he
  have hmem : ∀ x ∈ e.fs, ∃ t, t < q.atoms.length ∧ e.fs.getD t 0 = x := by
    intro x hx
    obtain ⟨t, ht, e1⟩ := getD_in hx
    exact ⟨t, by omega, e1⟩
  have hdiff : ∀ s t, s < q.atoms.length → t < q.atoms.length → s ≠ t → (d.facts.getD (e.fs.getD s 0).toNat default).r ≠ (d.facts.getD (e.fs.getD t 0).toNat default).r := by
    intro s t hs ht hne
    obtain ⟨i, a1, a2, a3⟩ := h2 s hs
    obtain ⟨j, b1, b2, b3⟩ := h2 t ht
    rw [a1, b1, Int.toNat_natCast, Int.toNat_natCast, a3, b3]
    rcases Nat.lt_or_ge s t with h | h
    · exact newRels (queryFor_qu g) h ht
    · exact fun e => newRels (queryFor_qu g) (show t < s by omega) hs e.symm
  have hnd : e.fs.Nodup := by
    rw [List.Nodup, List.pairwise_iff_getElem]
    intro s t hs ht hst heq
    refine hdiff s t (by omega) (by omega) (by omega) ?_
    have : e.fs.getD s 0 = e.fs.getD t 0 := by
      rw [List.getD_eq_getElem?_getD, List.getD_eq_getElem?_getD, List.getElem?_eq_getElem hs, List.getElem?_eq_getElem ht, heq]
    rw [this]
  have hin : ∀ x, x ∈ sortI e.fs → x ∈ e.fs := fun x hx => (sortI_perm e.fs).mem_iff.mp hx
  refine isPR_of (queryFor_db g) (sortI_lt hnd) (fun x hx => ?_) (fun x hx y hy hne => ?_)
  · obtain ⟨t, ht, rfl⟩ := hmem x (hin x hx)
    obtain ⟨i, a1, a2, _⟩ := h2 t ht
    omega
  · obtain ⟨s, hs, rfl⟩ := hmem x (hin x hx)
    obtain ⟨t, ht, rfl⟩ := hmem y (hin y hy)
    exact hdiff s t hs ht (fun e => hne (by rw [e]))
def wits (d : Db) (q : Qu) : List (List Int) := (embs d q).map fun e => sortI e.fs
theorem wits_len (d : Db) (q : Qu) : (wits d q).length ≤ 2744 := by
  unfold wits; rw [List.length_map]; exact embs_len d q
theorem wits_mem {d : Db} {q : Qu} : ∀ w ∈ wits d q, w.length ≤ 3 := by
  intro w hw
  obtain ⟨e, he, rfl⟩ := List.mem_map.mp hw
  rw [sortI_len]
  exact (embs_mem e he).2
end Go.Proofs.YtedciihjgbkjgabGreat.A


/- EMBEDDINGS: what is found embeds the query. Conditions: none. (No program in sight.) -/
namespace Go.Proofs.YtedciihjgbkjgabGreat.A
open Go
set_option linter.unusedSimpArgs false
set_option linter.unusedVariables false

/-- A term and a fact's value agree. -/
def agT (x : List Int) (t f : Int) : Prop := (t < 0 → f = -1 - t) ∧ (0 ≤ t → x.getD t.toNat 0 = f)
theorem stepU_keeps {x y : List Int} {t f : Int} (h : stepU x t f = some y) {v : Nat} (hv : 0 ≤ x.getD v 0) : y.getD v 0 = x.getD v 0 := by
  unfold stepU at h
  split at h
  · split at h
    · cases h; rfl
    · cases h
  · split at h
    · rename_i h1 h2
      cases h
      have hne : t.toNat ≠ v := by
        rintro rfl; omega
      rw [List.getD_eq_getElem?_getD, List.getElem?_set_ne hne, ← List.getD_eq_getElem?_getD]
    · split at h
      · cases h; rfl
      · cases h
theorem stepU_ag {x y : List Int} {t f : Int} (h : stepU x t f = some y) (ht : t < x.length) : agT y t f := by
  unfold stepU at h
  split at h
  · split at h
    · exact ⟨fun _ => by omega, fun h => by omega⟩
    · cases h
  · refine ⟨fun h => by omega, fun h0 => ?_⟩
    split at h
    · cases h
      rw [List.getD_eq_getElem?_getD, List.getElem?_set_self (by omega)]; rfl
    · split at h
      · cases h; assumption
      · cases h
theorem uniS_keeps {ts fs vs : List Int} : ∀ {k : Nat} {x : List Int}, uniS ts fs vs k = some x → ∀ v, 0 ≤ vs.getD v 0 → x.getD v 0 = vs.getD v 0
  | 0, x, h, v, hv => by cases h; rfl
  | k + 1, x, h, v, hv => by
    rw [uniS] at h
    rcases e : uniS ts fs vs k with _ | y
    · rw [e] at h; cases h
    · rw [e, Option.bind_some] at h
      have h1 := uniS_keeps e v hv
      rw [stepU_keeps h (by rw [h1]; exact hv), h1]
theorem agT_keeps {x y : List Int} {t f : Int} (h : agT x t f) (hf : 0 ≤ f) (hk : ∀ v, 0 ≤ x.getD v 0 → y.getD v 0 = x.getD v 0) : agT y t f :=
  ⟨h.1, fun h0 => by have h1 := h.2 h0; rw [hk _ (by omega), h1]⟩
theorem uniS_ag {ts fs vs : List Int} (hts : tsOk vs.length ts) (hfs : ∀ j, 0 ≤ fs.getD j 0) : ∀ {k : Nat} {x : List Int}, k ≤ ts.length → uniS ts fs vs k = some x → ∀ j, j < k → agT x (ts.getD j 0) (fs.getD j 0)
  | 0, x, _, h, j, hj => by omega
  | k + 1, x, hk, h, j, hj => by
    rw [uniS] at h
    rcases e : uniS ts fs vs k with _ | y
    · rw [e] at h; cases h
    · rw [e, Option.bind_some] at h
      rcases Nat.lt_or_ge j k with h1 | h1
      · exact agT_keeps (uniS_ag hts hfs (by omega) e j h1) (hfs j) fun v hv => stepU_keeps h hv
      · obtain rfl : j = k := by omega
        exact stepU_ag h (by rw [uniS_len e]; exact (hts j (by omega)).2)
theorem walkE_ag {ds ats : List RI} {n : Nat} (hts : ∀ k, k < ats.length → tsOk n (ats.getD k default).l) (hfs : ∀ i j, 0 ≤ (ds.getD i default).l.getD j 0) :
    ∀ {m : Nat} {vs fs : List Int}, m ≤ ats.length → vs.length = n → ∀ e ∈ walkE ds ats m vs fs,
      (∀ v, 0 ≤ vs.getD v 0 → e.vs.getD v 0 = vs.getD v 0) ∧ (∀ j, j < fs.length → e.fs.getD j 0 = fs.getD j 0) ∧
      ∀ k, ats.length - m ≤ k → k < ats.length → ∃ i : Nat, i < ds.length ∧ e.fs.getD (fs.length + (k - (ats.length - m))) 0 = i ∧ (ds.getD i default).r = (ats.getD k default).r ∧
        ∀ j, j < (ats.getD k default).l.length → agT e.vs ((ats.getD k default).l.getD j 0) ((ds.getD i default).l.getD j 0)
  | 0, vs, fs, _, _, e, he => by
    simp only [walkE, List.mem_singleton] at he
    subst he
    exact ⟨fun _ _ => rfl, fun _ _ => rfl, fun k h1 h2 => by omega⟩
  | m + 1, vs, fs, hm, hv, e, he => by
    rw [walkE_succ, found_mem] at he
    obtain ⟨i, hi, he⟩ := he
    unfold oneE at he
    split at he
    · rename_i x hx
      have hxl := meet_len hx
      obtain ⟨a1, a2, a3⟩ := walkE_ag hts hfs (show m ≤ ats.length by omega) (by rw [hxl]; exact hv) e he
      have hmr := meet_rel hx
      have hu : uniS (atomAt ats m).l (ds.getD i default).l vs (atomAt ats m).l.length = some x := by
        unfold meet at hx; rw [if_pos hmr] at hx; exact hx
      have hkx : ∀ v, 0 ≤ vs.getD v 0 → x.getD v 0 = vs.getD v 0 := uniS_keeps hu
      refine ⟨fun v h0 => by rw [a1 v (by rw [hkx v h0]; exact h0), hkx v h0], fun j hj => ?_, fun k h1 h2 => ?_⟩
      · rw [a2 j (by rw [List.length_append]; omega), List.getD_eq_getElem?_getD, List.getElem?_append_left hj, ← List.getD_eq_getElem?_getD]
      · rcases Nat.lt_or_ge k (ats.length - m) with h3 | h3
        · obtain rfl : k = ats.length - (m + 1) := by omega
          have hat : atomAt ats m = ats.getD (ats.length - (m + 1)) default := rfl
          refine ⟨i, hi, ?_, by rw [← hat]; exact hmr, fun j hj => ?_⟩
          · rw [Nat.sub_self, Nat.add_zero, a2 fs.length (by rw [List.length_append, List.length_singleton]; omega), List.getD_eq_getElem?_getD, List.getElem?_append_right (Nat.le_refl _), Nat.sub_self]; rfl
          · rw [← hat] at hj ⊢
            exact agT_keeps (uniS_ag (by rw [hv, hat]; exact hts _ h2) (hfs i) (Nat.le_refl _) hu j hj) (hfs i j) a1
        · obtain ⟨i', b1, b2, b3, b4⟩ := a3 k h3 h2
          refine ⟨i', b1, ?_, b3, b4⟩
          rw [List.length_append, List.length_singleton] at b2
          rw [← b2]
          congr 1; omega
    · cases he
theorem fact_nonneg {d : Db} (g : goodDb d = true) (i j : Nat) : 0 ≤ (d.facts.getD i default).l.getD j 0 := by
  rcases Nat.lt_or_ge i d.facts.length with hi | hi
  · have h1 := goodDb_fact g hi
    unfold goodFact at h1
    simp only [Bool.and_eq_true] at h1
    rcases Nat.lt_or_ge j (d.facts.getD i default).l.length with hj | hj
    · have := inB_of (upTo_at h1.2.2 hj)
      omega
    · rw [List.getD_eq_getElem?_getD, List.getElem?_eq_none hj]; exact Int.le_refl _
  · rw [show d.facts.getD i default = default by rw [List.getD_eq_getElem?_getD, List.getElem?_eq_none hi]; rfl]
    exact Int.le_refl _
/-- An embedding embeds. -/
theorem embs_ag {d : Db} {q : Qu} : ∀ e ∈ embs d q, queryFor d q = true ∧ e.fs.length = q.atoms.length ∧ e.vs.length = q.vc.toNat ∧
    ∀ k, k < q.atoms.length → ∃ i : Nat, i < d.facts.length ∧ e.fs.getD k 0 = i ∧ (d.facts.getD i default).r = (q.atoms.getD k default).r ∧ (d.facts.getD i default).l.length = (q.atoms.getD k default).l.length ∧
      ∀ j, j < (q.atoms.getD k default).l.length → agT e.vs ((q.atoms.getD k default).l.getD j 0) ((d.facts.getD i default).l.getD j 0) := by
  intro e he
  unfold embs at he
  split at he
  · rename_i g
    obtain ⟨h1, h2⟩ := walkE_mem e he
    have hq := queryFor_qu g
    obtain ⟨_, _, a3⟩ := walkE_ag (n := q.vc.toNat) (fun k hk => tsOk_at hq hk) (fact_nonneg (queryFor_db g)) (Nat.le_refl _) (by rw [List.length_replicate]) e he
    refine ⟨g, by simpa using h2, by rw [h1, List.length_replicate], fun k hk => ?_⟩
    obtain ⟨i, b1, b2, b3, b4⟩ := a3 k (by omega) hk
    refine ⟨i, b1, ?_, b3, meet_lens g hk b1 b3, b4⟩
    rw [Nat.sub_self, Nat.sub_zero, List.length_nil, Nat.zero_add] at b2
    exact b2
  · cases he
end Go.Proofs.YtedciihjgbkjgabGreat.A


/- DOES A QUERY HOLD IN CHOSEN FACTS. Conditions: none. -/
namespace Go.Proofs.YtedciihjgbkjgabGreat.A
open Go
set_option linter.unusedSimpArgs false
set_option linter.unusedVariables false
set_option maxRecDepth 100000

theorem selD_ok {d : Db} (l : List Int) (h : d.ok) (hl : l.length ≤ 1048576) : (selD d l).ok := by
  unfold selD
  split
  · refine ⟨h.1, by rw [selF_length]; exact hl, fun x hx => ?_⟩
    obtain ⟨i, _, rfl⟩ := List.mem_map.mp hx
    rcases Nat.lt_or_ge i.toNat d.facts.length with hi | hi
    · exact h.2.2 _ (mem_getD default hi)
    · rw [List.getD_eq_getElem?_getD, List.getElem?_eq_none hi]
      show ([] : List Int).length ≤ _
      simp
  · exact ⟨⟨by simp, fun x hx => by cases hx⟩, by simp, fun x hx => by cases hx⟩
def holdsIn (d : Db) (l : List Int) (q : Qu) : Bool := selOk d l && decide ((0 : Int) < ((embs (selD d l) q).length : Int))
end Go.Proofs.YtedciihjgbkjgabGreat.A


/- BLOCKS AND REPAIRS: the program. Conditions: none. -/
namespace Go.Proofs.YtedciihjgbkjgabGreat.A
open Go
set_option linter.unusedSimpArgs false
set_option linter.unusedVariables false
set_option maxRecDepth 100000

theorem ia_rin_i {st : St} {K : Eff → Prop} {e b : Nat} {z : List Value} {id i j s off len : Nat} {ik : IntKind} {n : Int} : iaK st (some (e, b, z)) (.one (.rin id i j s off len)) (.sc (.int ik n)) K = (0 ≤ n ∧ idxJ e (st.objs id) id i j s off len n.toNat K) := by
  simp only [iaK, idxA, asNat, idxJ, Rows.cell]
  rcases st.objs id with _ | ⟨w, rows⟩
  · rfl
  · simp only
    rcases (List.getD rows i []).getD j .gone with _ | ⟨s', xs⟩ | _ <;> rfl
def apQ (nid w bytes id i j s off len wo : Nat) (rows : Rows) (c : Cell) (K : Eff → Prop) (more : Rows) (ws : List (Nat × Option Obj')) : Prop := match c with
  | .sl s' xs => s' = s ∧ w = 1 ∧ off = 0 ∧ len = xs.length ∧ (xs.length + more.length + 1) * bytes ≤ 70368744177664 ∧
      K ⟨.one (.ref nid w 0 (xs.length + more.length)), (nid, some (w, lift xs ++ more)) :: (id, some (wo, Rows.setCell rows i j .gone)) :: ws, []⟩
  | _ => False
theorem apI_some {nid w bytes id i j s off len wo : Nat} {rows : Rows} {K : Eff → Prop} {more : Rows} {ws : List (Nat × Option Obj')} : apI nid w bytes id i j s off len (some (wo, rows)) K more ws = apQ nid w bytes id i j s off len wo rows ((rows.getD i []).getD j .gone) K more ws := rfl
theorem apQ_sl {nid w bytes id i j s s' off len wo : Nat} {rows : Rows} {xs : List Value} {K : Eff → Prop} {more : Rows} {ws : List (Nat × Option Obj')} : apQ nid w bytes id i j s off len wo rows (.sl s' xs) K more ws = (s' = s ∧ w = 1 ∧ off = 0 ∧ len = xs.length ∧ (xs.length + more.length + 1) * bytes ≤ 70368744177664 ∧
      K ⟨.one (.ref nid w 0 (xs.length + more.length)), (nid, some (w, lift xs ++ more)) :: (id, some (wo, Rows.setCell rows i j .gone)) :: ws, []⟩) := rfl
attribute [go_sem] apI_some apQ_sl
attribute [go_sem low] ia_rin_i
def goneAt (L : List (List Int)) : Rows := iss 999 L ++ [[Cell.gone]]
theorem goneAt_eq (L : List (List Int)) (b : List Int) : Rows.setCell (iss 999 (L ++ [b])) L.length 0 .gone = goneAt L := by
  unfold Rows.setCell goneAt
  rw [iss_get (by simp)]
  rw [← iss_append, List.set_append_right _ _ (by rw [iss_length]; omega), iss_length, Nat.sub_self]
  rfl
theorem goneAt_length (L : List (List Int)) : (goneAt L).length = L.length + 1 := by simp [goneAt, iss_length]
theorem goneAt_get (L : List (List Int)) : (goneAt L).getD L.length [] = [Cell.gone] := by
  unfold goneAt
  rw [List.getD_eq_getElem?_getD, List.getElem?_append_right (by rw [iss_length]; omega), iss_length, Nat.sub_self]; rfl
theorem goneAt_set (L : List (List Int)) (c : Cell) : (goneAt L).set L.length [c] = iss 999 L ++ [[c]] := by
  unfold goneAt
  rw [List.set_append_right _ _ (by rw [iss_length]; omega), iss_length, Nat.sub_self]; rfl
theorem last_get (L : List (List Int)) (b : List Int) : (L ++ [b]).getD L.length [] = b := by
  rw [List.getD_eq_getElem?_getD, List.getElem?_append_right (Nat.le_refl _), Nat.sub_self]; rfl
theorem zeros_set {n j : Nat} (h : j < n) (x : Int) (t : List Int) : (List.replicate (j + 1) (0 : Int) ++ t).set j x = List.replicate j 0 ++ (x :: t) := by
  rw [List.replicate_succ', List.append_assoc, List.set_append_right _ _ (by simp), List.length_replicate, Nat.sub_self]; rfl
end Go.Proofs.YtedciihjgbkjgabGreat.A


/- WITNESSES: the two programs. Conditions: none. -/
namespace Go.Proofs.YtedciihjgbkjgabGreat.A
open Go
set_option linter.unusedSimpArgs false
set_option linter.unusedVariables false
set_option maxRecDepth 100000

theorem wits_take {d : Db} {q : Qu} {k : Nat} (h : k < (embs d q).length) : (wits d q).take (k + 1) = (wits d q).take k ++ [sortI ((embs d q).getD k default).fs] := by
  unfold wits
  rw [take_snoc [] (by simpa using h)]
  simp [List.getD_eq_getElem?_getD, h]
theorem wits_length (d : Db) (q : Qu) : (wits d q).length = (embs d q).length := by simp [wits]
theorem specWitnesses_sat (d : Db) (q : Qu) (h : d.ok) (hq : q.fit) : Sat Tryz.prog 22 [lDb d, lQu q] [oISS (wits d q)] [g2, g3] := by
  refine sat_of_body mixed Tryz.func22 rfl (by kernel_rfl) (by kernel_rfl) (rs := [.tmp 4]) rfl rfl rfl ?_
  have hl := embs_len d q
  simp -implicitDefEqProofs (maxSteps := 2000000) only [go_sem]
  refine call_of (specFindEmbeddings_sat d q h.fit hq) (by simp -implicitDefEqProofs (maxSteps := 2000000) only [go_sem]) (callOk_still (by kernel_rfl) (by simp only [List.all_cons, List.all_nil, LV.still, LV.leaves, Leaf.still, ints_still, ris_still, eds_still, rels_still, iss_still, ems_still, Bool.and_self, Bool.and_true])) (by simp -implicitDefEqProofs (maxSteps := 2000000) only [go_sem]) ?_
  simp -implicitDefEqProofs (maxSteps := 2000000) only [go_sem]
  refine awp_loop Nat (fun k => mkSt [(2, .one (.vad 1000 0)), (5, .one (.ref 960 1 0 ((wits d q).take k).length)), (6, .one (.ref 961 2 0 (embs d q).length)), (7, .sc (.int .i64 k))] [(1000, sDb d)] [(960, (1, iss 999 ((wits d q).take k))), (961, (2, ems 999 (embs d q)))] 4000)
    (fun k => k ≤ (embs d q).length) (fun k => (embs d q).length - k) 0 (by omega) (le_st' _ _ [⟨960, some _, false, 1, _⟩, ⟨961, some _, false, 2, _⟩] [] _ (by simp -implicitDefEqProofs (maxSteps := 2000000) only [go_sem, List.take_zero, iss_nil, List.length_nil] <;> and_intros <;> rfl) (by simp -implicitDefEqProofs (maxSteps := 2000000) only [go_sem, List.take_zero, iss_nil, List.length_nil] <;> and_intros <;> rfl) (by simp -implicitDefEqProofs (maxSteps := 2000000) only [go_sem, List.take_zero, iss_nil, List.length_nil] <;> and_intros <;> rfl) (by rfl)) ?_
  rintro k h1
  have hwl : ((wits d q).take k).length ≤ 2744 := by
    have := wits_length d q
    rw [List.length_take]; omega
  by_cases c1 : k < (embs d q).length
  · have wk : IntKind.i64.wrap ((k : Int) + 1) = ((k + 1 : Nat) : Int) := i64_succ (by omega)
    have hm := mem_getD default c1
    have hfl := (embs_mem _ hm).2
    have hpr := witness_ok _ hm
    have hsl := sortI_len ((embs d q).getD k default).fs
    have hst := wits_take c1
    simp -implicitDefEqProofs (maxSteps := 2000000) only [go_sem, c1]
    refine call_of (l7Sorted_sat ((embs d q).getD k default).fs (by omega)) (by simp -implicitDefEqProofs (maxSteps := 2000000) only [go_sem, c1]) (callOk_still (by kernel_rfl) (by simp only [List.all_cons, List.all_nil, LV.still, LV.leaves, Leaf.still, ints_still, ris_still, eds_still, rels_still, iss_still, ems_still, Bool.and_self, Bool.and_true])) (by simp -implicitDefEqProofs (maxSteps := 2000000) only [go_sem, c1]) ?_
    simp -implicitDefEqProofs (maxSteps := 2000000) only [go_sem, c1]
    refine call_of (isPartialRepair_sat d (sortI ((embs d q).getD k default).fs) h (by omega) (selD_ok _ h (by omega)).fit) (by simp -implicitDefEqProofs (maxSteps := 2000000) only [go_sem, hpr]) (by kernel_rfl) (by simp -implicitDefEqProofs (maxSteps := 2000000) only [go_sem, hpr]) ?_
    simp -implicitDefEqProofs (maxSteps := 2000000) only [go_sem, hpr]
    rw [if_neg (by simp [flatB, Cell.flatB])]
    refine ⟨by omega, ?_⟩
    rw [wk]
    refine ⟨k + 1, c1, by omega, ?_⟩
    rw [hst]
    exact (le_st' _ _ [⟨960, some _, false, 1, _⟩, ⟨961, some _, false, 2, _⟩] [] _ (by simp -implicitDefEqProofs (maxSteps := 2000000) only [go_sem, repS, List.set_cons_zero, iss_one] <;> and_intros <;> rfl) (by simp -implicitDefEqProofs (maxSteps := 2000000) only [go_sem, repS, List.set_cons_zero, iss_one] <;> and_intros <;> rfl) (by simp -implicitDefEqProofs (maxSteps := 2000000) only [go_sem, repS, List.set_cons_zero, iss_one] <;> and_intros <;> rfl) (by rfl))
  · obtain rfl : k = (embs d q).length := by omega
    rw [List.take_of_length_le (by rw [wits_length]; omega)]
    simp -implicitDefEqProofs (maxSteps := 2000000) only [go_sem, c1]
    first | done | rfl | exact ⟨rfl, rfl⟩ | exact ⟨rfl, rfl, rfl⟩ | (refine tr_and ?_ ?_ <;> first | rfl | exact ⟨rfl, rfl⟩ | kernel_rfl)
/-- The embeddings of which the first k were sorted and moved away. -/
def gE (k : Nat) (l : List Emb) : Rows := (l.take k).map (fun e => [Cell.sl 999 (iv e.vs), .gone]) ++ ems 999 (l.drop k)
theorem gE_zero (l : List Emb) : gE 0 l = ems 999 l := by simp [gE]
theorem gE_length {k : Nat} {l : List Emb} (h : k ≤ l.length) : (gE k l).length = l.length := by simp [gE, ems_length]; omega
theorem gE_stm (k : Nat) (l : List Emb) : stm 999 (gE k l) = gE k l := by
  unfold gE
  rw [stm_append, ems_stm 999 998]
  congr 1
  unfold stm
  rw [List.map_map]
  exact List.map_congr_left fun _ _ => rfl
theorem gE_get {k : Nat} {l : List Emb} (h : k < l.length) : (gE k l).getD k [] = [.sl 999 (iv (l.getD k default).vs), .sl 999 (iv (l.getD k default).fs)] := by
  unfold gE
  rw [List.getD_eq_getElem?_getD, List.getElem?_append_right (by simp; omega)]
  simp only [List.length_map, List.length_take, Nat.min_eq_left (Nat.le_of_lt h), Nat.sub_self]
  rw [← List.getD_eq_getElem?_getD, ems_get (by simp; omega)]
  simp [List.getD_eq_getElem?_getD]
theorem gE_move {k : Nat} {l : List Emb} (h : k < l.length) (x : List Int) : Rows.setCell (Rows.setCell (gE k l) k 1 (.sl 999 (iv x))) k 1 .gone = gE (k + 1) l := by
  have h1 : Rows.setCell (gE k l) k 1 (.sl 999 (iv x)) = (gE k l).set k [.sl 999 (iv (l.getD k default).vs), .sl 999 (iv x)] := by unfold Rows.setCell; rw [gE_get h]; rfl
  have hl := gE_length (Nat.le_of_lt h)
  rw [h1]
  unfold Rows.setCell
  rw [getD_set_same (by omega), List.set_set]
  unfold gE
  have hk : ((l.take k).map fun e => [Cell.sl 999 (iv e.vs), Cell.gone]).length = k := by rw [List.length_map, List.length_take]; omega
  rw [List.set_append_right _ _ (by omega), hk, Nat.sub_self, drop_cons default h, take_snoc default h, List.map_append, List.append_assoc]
  rfl
theorem gE_set {k : Nat} {l : List Emb} (h : k < l.length) (x : List Int) : (Rows.setCell (gE k l) k 1 (.sl 999 (iv x))).getD k [] = [.sl 999 (iv (l.getD k default).vs), .sl 999 (iv x)] := by
  have h1 : Rows.setCell (gE k l) k 1 (.sl 999 (iv x)) = (gE k l).set k [.sl 999 (iv (l.getD k default).vs), .sl 999 (iv x)] := by unfold Rows.setCell; rw [gE_get h]; rfl
  rw [h1, getD_set_same (by rw [gE_length (Nat.le_of_lt h)]; omega)]
theorem implWitnesses_sat (d : Db) (q : Qu) (h : d.fit) (hq : q.ok) : Sat Tryz.prog 19 [lDb d, lQu q] [oISS (wits d q)] [g2, g3] := by
  refine sat_of_body mixed Tryz.func19 rfl (by kernel_rfl) (by kernel_rfl) (rs := [.tmp 4]) rfl rfl rfl ?_
  have hl := embs_len d q
  simp -implicitDefEqProofs (maxSteps := 2000000) only [go_sem]
  refine call_of (implFindEmbeddings_sat d q h hq) (by simp -implicitDefEqProofs (maxSteps := 2000000) only [go_sem]) (callOk_still (by kernel_rfl) (by simp only [List.all_cons, List.all_nil, LV.still, LV.leaves, Leaf.still, ints_still, ris_still, eds_still, rels_still, iss_still, ems_still, Bool.and_self, Bool.and_true])) (by simp -implicitDefEqProofs (maxSteps := 2000000) only [go_sem]) ?_
  simp -implicitDefEqProofs (maxSteps := 2000000) only [go_sem]
  refine awp_loop Nat (fun k => mkSt [(5, .one (.ref 960 1 0 ((wits d q).take k).length)), (11, .one (.ref 961 2 0 (embs d q).length)), (12, .sc (.int .i64 (embs d q).length)), (13, .sc (.int .i64 k))] [] [(960, (1, iss 999 ((wits d q).take k))), (961, (2, gE k (embs d q)))] 4000)
    (fun k => k ≤ (embs d q).length) (fun k => (embs d q).length - k) 0 (by omega) (le_st' _ _ [⟨960, some _, false, 1, _⟩, ⟨961, some _, false, 2, _⟩] [] _ (by simp -implicitDefEqProofs (maxSteps := 2000000) only [go_sem, List.take_zero, iss_nil, List.length_nil, gE_zero] <;> and_intros <;> rfl) (by simp -implicitDefEqProofs (maxSteps := 2000000) only [go_sem, List.take_zero, iss_nil, List.length_nil, gE_zero] <;> and_intros <;> rfl) (by simp -implicitDefEqProofs (maxSteps := 2000000) only [go_sem, List.take_zero, iss_nil, List.length_nil, gE_zero] <;> and_intros <;> rfl) (by rfl)) ?_
  rintro k h1
  have hwl : ((wits d q).take k).length ≤ 2744 := by
    have := wits_length d q
    rw [List.length_take]; omega
  by_cases c1 : k < (embs d q).length
  · have wk : IntKind.i64.wrap ((k : Int) + 1) = ((k + 1 : Nat) : Int) := i64_succ (by omega)
    have hm := mem_getD default c1
    have hfl := (embs_mem _ hm).2
    have hst := wits_take c1
    have hg := gE_get c1
    have hgl := gE_length (Nat.le_of_lt c1)
    have hmv := gE_move c1 (sortI ((embs d q).getD k default).fs)
    simp -implicitDefEqProofs (maxSteps := 2000000) only [go_sem, c1, hg, hgl]
    have s0 : solidRin (some (2, gE k (embs d q))) k 0 999 := by rw [solidRin_sl (s' := 999) (xs := iv ((embs d q).getD k default).vs) (by rw [hg]; rfl)]
    have s1 : solidRin (some (2, gE k (embs d q))) k 1 999 := by rw [solidRin_sl (s' := 999) (xs := iv ((embs d q).getD k default).fs) (by rw [hg]; rfl)]
    refine ⟨⟨s0, s1⟩, ?_⟩
    refine call_of (slicesSort_sat ((embs d q).getD k default).fs (by omega)) (by simp -implicitDefEqProofs (maxSteps := 2000000) only [go_sem, hg, hgl, c1]) (callOk_still (by kernel_rfl) (by simp only [List.all_cons, List.all_nil, LV.still, LV.leaves, Leaf.still, ints_still, ris_still, eds_still, rels_still, iss_still, ems_still, Bool.and_self, Bool.and_true])) (by simp -implicitDefEqProofs (maxSteps := 2000000) only [go_sem, hg, hgl, c1]) ?_
    simp -implicitDefEqProofs (maxSteps := 2000000) only [go_sem, hg, hgl, c1]
    have hg2 := gE_set c1 (((embs d q).getD k default).fs.mergeSort)
    have s2 : solidRin (some (2, Rows.setCell (gE k (embs d q)) k 1 (.sl 999 (iv (((embs d q).getD k default).fs.mergeSort))))) k 0 999 := by rw [solidRin_sl (s' := 999) (xs := iv ((embs d q).getD k default).vs) (by rw [hg2]; rfl)]
    have s3 : solidRin (some (2, Rows.setCell (gE k (embs d q)) k 1 (.sl 999 (iv (((embs d q).getD k default).fs.mergeSort))))) k 1 999 := by rw [solidRin_sl (s' := 999) (xs := iv (((embs d q).getD k default).fs.mergeSort)) (by rw [hg2]; rfl)]
    refine ⟨s3, ?_⟩
    have hmv' : ((Rows.setCell (gE k (embs d q)) k 1 (.sl 999 (iv (((embs d q).getD k default).fs.mergeSort)))).setCell k 1 .gone) = gE (k + 1) (embs d q) := gE_move c1 _
    simp -implicitDefEqProofs (maxSteps := 2000000) only [go_sem, hg2, hmv', List.length_mergeSort]
    rw [if_neg (by simp [flatB, Cell.flatB])]
    refine ⟨by omega, ?_⟩
    rw [wk]
    refine ⟨k + 1, c1, by omega, ?_⟩
    rw [hst]
    exact (le_st' _ _ [⟨960, some _, false, 1, _⟩, ⟨961, some _, false, 2, _⟩] [] _ (by simp -implicitDefEqProofs (maxSteps := 2000000) only [go_sem, repS, List.set_cons_zero, iss_one, hg2, hmv', gE_stm, hgl, sortI] <;> and_intros <;> rfl) (by simp -implicitDefEqProofs (maxSteps := 2000000) only [go_sem, repS, List.set_cons_zero, iss_one, hg2, hmv', gE_stm, hgl, sortI] <;> and_intros <;> rfl) (by simp -implicitDefEqProofs (maxSteps := 2000000) only [go_sem, repS, List.set_cons_zero, iss_one, hg2, hmv', gE_stm, hgl, sortI] <;> and_intros <;> rfl) (by rfl))
  · obtain rfl : k = (embs d q).length := by omega
    rw [List.take_of_length_le (by rw [wits_length]; omega)]
    simp -implicitDefEqProofs (maxSteps := 2000000) only [go_sem, c1]
    first | done | rfl | exact ⟨rfl, rfl⟩ | exact ⟨rfl, rfl, rfl⟩ | (refine tr_and ?_ ?_ <;> first | rfl | exact ⟨rfl, rfl⟩ | kernel_rfl)
end Go.Proofs.YtedciihjgbkjgabGreat.A


/- RELEVANT FACTS: the numbers of the facts that some witness has; both programs. Conditions: none. -/
namespace Go.Proofs.YtedciihjgbkjgabGreat.A
open Go
set_option linter.unusedSimpArgs false
set_option linter.unusedVariables false
set_option maxRecDepth 100000

/-- Does some list hold this number. -/
def inAny (l : List (List Int)) (x : Int) : Bool := l.any fun w => decide (x ∈ w)
def relF (d : Db) (q : Qu) : List Int := selN (inAny (wits d q)) d.facts.length
def uniW (l : List (List Int)) : Nat → List Int
  | 0 => []
  | k + 1 => uni (uniW l k) (l.getD k [])
theorem uniW_strict (l : List (List Int)) : ∀ k, Strict (uniW l k)
  | 0 => List.Pairwise.nil
  | k + 1 => uni_strict _ _
theorem uniW_mem (l : List (List Int)) (x : Int) : ∀ k, k ≤ l.length → (x ∈ uniW l k ↔ inAny (l.take k) x = true)
  | 0, _ => by simp [uniW, inAny]
  | k + 1, h => by
    rw [uniW, uni_mem, uniW_mem l x k (by omega)]
    unfold inAny
    rw [any_step (d := []) (show k < l.length by omega), Bool.or_eq_true, decide_eq_true_iff]
theorem uniW_len (l : List (List Int)) (h : ∀ w ∈ l, w.length ≤ 3) : ∀ k, k ≤ l.length → (uniW l k).length ≤ 3 * k
  | 0, _ => by simp [uniW]
  | k + 1, hk => by
    have h1 := uniW_len l h k (by omega)
    have h2 := uni_len (uniW l k) (l.getD k [])
    have h3 := h _ (mem_getD [] (show k < l.length by omega))
    rw [uniW]; omega
theorem wits_in {d : Db} {q : Qu} : ∀ w ∈ wits d q, ∀ x ∈ w, 0 ≤ x ∧ x < d.facts.length := by
  intro w hw x hx
  obtain ⟨e, he, rfl⟩ := List.mem_map.mp hw
  obtain ⟨_, h1, h2⟩ := embs_fs e he
  have hx := (sortI_perm e.fs).mem_iff.mp hx
  obtain ⟨t, ht, rfl⟩ := getD_in hx
  obtain ⟨i, a1, a2, _⟩ := h2 t (by omega)
  omega
theorem relF_eq (d : Db) (q : Qu) : uniW (wits d q) (wits d q).length = relF d q := by
  refine strict_eq (uniW_strict _ _) (selN_strict _ _) fun x => ?_
  rw [uniW_mem _ _ _ (Nat.le_refl _), relF, selN_mem, List.take_length]
  refine ⟨fun h => ?_, fun h => h.2.2⟩
  obtain ⟨w, hw, hx⟩ := List.any_eq_true.mp h
  have := wits_in w hw x (of_decide_eq_true hx)
  exact ⟨this.1, this.2, h⟩
theorem implRelevantFacts_sat (d : Db) (q : Qu) (h : d.fit) (hq : q.ok) : Sat Tryz.prog 20 [lDb d, lQu q] [oInts (relF d q)] [g2, g3] := by
  refine sat_of_body mixed Tryz.func20 rfl (by kernel_rfl) (by kernel_rfl) (rs := [.tmp 4]) rfl rfl rfl ?_
  rw [← relF_eq]
  have hl := wits_len d q
  simp -implicitDefEqProofs (maxSteps := 2000000) only [go_sem]
  refine call_of (implWitnesses_sat d q h hq) (by simp -implicitDefEqProofs (maxSteps := 2000000) only [go_sem]) (callOk_still (by kernel_rfl) (by simp only [List.all_cons, List.all_nil, LV.still, LV.leaves, Leaf.still, ints_still, ris_still, eds_still, rels_still, iss_still, ems_still, Bool.and_self, Bool.and_true])) (by simp -implicitDefEqProofs (maxSteps := 2000000) only [go_sem]) ?_
  simp -implicitDefEqProofs (maxSteps := 2000000) only [go_sem]
  refine awp_loop Nat (fun k => mkSt [(5, .one (.ref 960 1 0 (uniW (wits d q) k).length)), (11, .one (.ref 961 1 0 (wits d q).length)), (12, .sc (.int .i64 (wits d q).length)), (13, .sc (.int .i64 k))] [] [(960, (1, ints (uniW (wits d q) k))), (961, (1, iss 999 (wits d q)))] 4000)
    (fun k => k ≤ (wits d q).length) (fun k => (wits d q).length - k) 0 (by omega) (le_st' _ _ [⟨960, some _, false, 1, _⟩, ⟨961, some _, false, 1, _⟩] [] _ (by simp -implicitDefEqProofs (maxSteps := 2000000) only [go_sem, uniW, List.length_nil] <;> and_intros <;> rfl) (by simp -implicitDefEqProofs (maxSteps := 2000000) only [go_sem, uniW, List.length_nil] <;> and_intros <;> rfl) (by simp -implicitDefEqProofs (maxSteps := 2000000) only [go_sem, uniW, List.length_nil] <;> and_intros <;> rfl) (by rfl)) ?_
  rintro k h1
  have hul := uniW_len _ (fun w hw => wits_mem w hw) k h1
  by_cases c1 : k < (wits d q).length
  · have wk : IntKind.i64.wrap ((k : Int) + 1) = ((k + 1 : Nat) : Int) := i64_succ (by omega)
    have hw := wits_mem _ (mem_getD [] c1)
    simp -implicitDefEqProofs (maxSteps := 2000000) only [go_sem, c1]
    refine call_of (union_sat (uniW (wits d q) k) ((wits d q).getD k []) (by omega)) (by simp -implicitDefEqProofs (maxSteps := 2000000) only [go_sem, c1]) (callOk_still (by kernel_rfl) (by simp only [List.all_cons, List.all_nil, LV.still, LV.leaves, Leaf.still, ints_still, ris_still, eds_still, rels_still, iss_still, ems_still, Bool.and_self, Bool.and_true])) (by simp -implicitDefEqProofs (maxSteps := 2000000) only [go_sem, c1]) ?_
    simp -implicitDefEqProofs (maxSteps := 2000000) only [go_sem, c1]
    rw [wk]
    exact ⟨k + 1, c1, by omega, (le_st' _ _ [⟨960, some _, false, 1, _⟩, ⟨961, some _, false, 1, _⟩] [] _ (by simp -implicitDefEqProofs (maxSteps := 2000000) only [go_sem, uniW] <;> and_intros <;> rfl) (by simp -implicitDefEqProofs (maxSteps := 2000000) only [go_sem, uniW] <;> and_intros <;> rfl) (by simp -implicitDefEqProofs (maxSteps := 2000000) only [go_sem, uniW] <;> and_intros <;> rfl) (by rfl))⟩
  · obtain rfl : k = (wits d q).length := by omega
    simp -implicitDefEqProofs (maxSteps := 2000000) only [go_sem, c1]
    first | done | rfl | exact ⟨rfl, rfl⟩ | exact ⟨rfl, rfl, rfl⟩ | (refine tr_and ?_ ?_ <;> first | rfl | exact ⟨rfl, rfl⟩ | kernel_rfl)
theorem specRelevantFacts_sat (d : Db) (q : Qu) (h : d.ok) (hq : q.fit) : Sat Tryz.prog 24 [lDb d, lQu q] [oInts (relF d q)] [g2, g3] := by
  refine sat_of_body mixed Tryz.func24 rfl (by kernel_rfl) (by kernel_rfl) (rs := [.tmp 4]) rfl rfl rfl ?_
  have hl := wits_len d q
  have hfl : d.facts.length ≤ 1048576 := h.2.1
  simp -implicitDefEqProofs (maxSteps := 2000000) only [go_sem]
  refine call_of (specWitnesses_sat d q h hq) (by simp -implicitDefEqProofs (maxSteps := 2000000) only [go_sem]) (callOk_still (by kernel_rfl) (by simp only [List.all_cons, List.all_nil, LV.still, LV.leaves, Leaf.still, ints_still, ris_still, eds_still, rels_still, iss_still, ems_still, Bool.and_self, Bool.and_true])) (by simp -implicitDefEqProofs (maxSteps := 2000000) only [go_sem]) ?_
  simp -implicitDefEqProofs (maxSteps := 2000000) only [go_sem]
  refine awp_loop Nat (fun k => mkSt [(2, .one (.vad 1000 0)), (5, .one (.ref 960 1 0 (selN (inAny (wits d q)) k).length)), (6, .one (.ref 961 1 0 (wits d q).length)), (7, .sc (.int .i64 k))] [(1000, sDb d)] [(960, (1, ints (selN (inAny (wits d q)) k))), (961, (1, iss 999 (wits d q)))] 4000)
    (fun k => k ≤ d.facts.length) (fun k => d.facts.length - k) 0 (by omega) (le_st' _ _ [⟨960, some _, false, 1, _⟩, ⟨961, some _, false, 1, _⟩] [] _ (by simp -implicitDefEqProofs (maxSteps := 2000000) only [go_sem, selN, List.length_nil] <;> and_intros <;> rfl) (by simp -implicitDefEqProofs (maxSteps := 2000000) only [go_sem, selN, List.length_nil] <;> and_intros <;> rfl) (by simp -implicitDefEqProofs (maxSteps := 2000000) only [go_sem, selN, List.length_nil] <;> and_intros <;> rfl) (by rfl)) ?_
  rintro k h1
  have hsl := selN_len (inAny (wits d q)) k
  by_cases c1 : k < d.facts.length
  · have wk : IntKind.i64.wrap ((k : Int) + 1) = ((k + 1 : Nat) : Int) := i64_succ (by omega)
    simp -implicitDefEqProofs (maxSteps := 2000000) only [go_sem, c1]
    refine awp_loop Nat (fun m => mkSt [(2, .one (.vad 1000 0)), (5, .one (.ref 960 1 0 (selN (inAny (wits d q)) k).length)), (6, .one (.ref 961 1 0 (wits d q).length)), (7, .sc (.int .i64 k)), (8, .sc (.bool (inAny ((wits d q).take m) k))), (9, .sc (.int .i64 m))] [(1000, sDb d)] [(960, (1, ints (selN (inAny (wits d q)) k))), (961, (1, iss 999 (wits d q)))] 8000)
      (fun m => m ≤ (wits d q).length) (fun m => (wits d q).length - m) 0 (by omega) (le_st' _ _ [⟨960, some _, false, 1, _⟩, ⟨961, some _, false, 1, _⟩] [] _ (by simp -implicitDefEqProofs (maxSteps := 2000000) only [go_sem, inAny, List.take_zero, List.any_nil] <;> and_intros <;> rfl) (by simp -implicitDefEqProofs (maxSteps := 2000000) only [go_sem, inAny, List.take_zero, List.any_nil] <;> and_intros <;> rfl) (by simp -implicitDefEqProofs (maxSteps := 2000000) only [go_sem, inAny, List.take_zero, List.any_nil] <;> and_intros <;> rfl) (by rfl)) ?_
    rintro m h2
    by_cases c2 : m < (wits d q).length
    · have wm : IntKind.i64.wrap ((m : Int) + 1) = ((m + 1 : Nat) : Int) := i64_succ (by omega)
      have hw := wits_mem _ (mem_getD [] c2)
      have hst : inAny ((wits d q).take (m + 1)) k = (inAny ((wits d q).take m) k || decide ((k : Int) ∈ (wits d q).getD m [])) := any_step c2
      rcases d0 : inAny ((wits d q).take m) (k : Int)
      · simp -implicitDefEqProofs (maxSteps := 2000000) only [go_sem, c2, d0]
        refine call_of (l7Has_sat ((wits d q).getD m []) k (by omega)) (by simp -implicitDefEqProofs (maxSteps := 2000000) only [go_sem, c2, d0]) (by kernel_rfl) (by simp -implicitDefEqProofs (maxSteps := 2000000) only [go_sem, c2, d0]) ?_
        simp -implicitDefEqProofs (maxSteps := 2000000) only [go_sem, c2, d0]
        rw [wm]
        exact ⟨m + 1, c2, by omega, (le_st' _ _ [⟨960, some _, false, 1, _⟩, ⟨961, some _, false, 1, _⟩] [] _ (by simp -implicitDefEqProofs (maxSteps := 2000000) only [go_sem, hst, d0, Bool.false_or] <;> and_intros <;> rfl) (by simp -implicitDefEqProofs (maxSteps := 2000000) only [go_sem, hst, d0, Bool.false_or] <;> and_intros <;> rfl) (by simp -implicitDefEqProofs (maxSteps := 2000000) only [go_sem, hst, d0, Bool.false_or] <;> and_intros <;> rfl) (by rfl))⟩
      · simp -implicitDefEqProofs (maxSteps := 2000000) only [go_sem, c2, d0]
        rw [wm]
        exact ⟨m + 1, c2, by omega, (le_st' _ _ [⟨960, some _, false, 1, _⟩, ⟨961, some _, false, 1, _⟩] [] _ (by simp -implicitDefEqProofs (maxSteps := 2000000) only [go_sem, hst, d0, Bool.true_or] <;> and_intros <;> rfl) (by simp -implicitDefEqProofs (maxSteps := 2000000) only [go_sem, hst, d0, Bool.true_or] <;> and_intros <;> rfl) (by simp -implicitDefEqProofs (maxSteps := 2000000) only [go_sem, hst, d0, Bool.true_or] <;> and_intros <;> rfl) (by rfl))⟩
    · obtain rfl : m = (wits d q).length := by omega
      rw [List.take_length]
      rcases d0 : inAny (wits d q) (k : Int)
      · simp -implicitDefEqProofs (maxSteps := 2000000) only [go_sem, c2, d0]
        rw [wk]
        exact ⟨k + 1, c1, by omega, (le_st' _ _ [⟨960, some _, false, 1, _⟩, ⟨961, some _, false, 1, _⟩] [] _ (by simp -implicitDefEqProofs (maxSteps := 2000000) only [go_sem, selN_no d0] <;> and_intros <;> rfl) (by simp -implicitDefEqProofs (maxSteps := 2000000) only [go_sem, selN_no d0] <;> and_intros <;> rfl) (by simp -implicitDefEqProofs (maxSteps := 2000000) only [go_sem, selN_no d0] <;> and_intros <;> rfl) (by rfl))⟩
      · simp -implicitDefEqProofs (maxSteps := 2000000) only [go_sem, c2, d0]
        refine ⟨by omega, ?_⟩
        rw [wk]
        exact ⟨k + 1, c1, by omega, (le_st' _ _ [⟨960, some _, false, 1, _⟩, ⟨961, some _, false, 1, _⟩] [] _ (by simp -implicitDefEqProofs (maxSteps := 2000000) only [go_sem, selN_yes d0] <;> and_intros <;> rfl) (by simp -implicitDefEqProofs (maxSteps := 2000000) only [go_sem, selN_yes d0] <;> and_intros <;> rfl) (by simp -implicitDefEqProofs (maxSteps := 2000000) only [go_sem, selN_yes d0] <;> and_intros <;> rfl) (by rfl))⟩
  · obtain rfl : k = d.facts.length := by omega
    simp -implicitDefEqProofs (maxSteps := 2000000) only [go_sem, c1]
    first | done | rfl | exact ⟨rfl, rfl⟩ | exact ⟨rfl, rfl, rfl⟩ | (refine tr_and ?_ ?_ <;> first | rfl | exact ⟨rfl, rfl⟩ | kernel_rfl)
end Go.Proofs.YtedciihjgbkjgabGreat.A


/- THE WALK OF THE LAW FnEmbeddings. Conditions: none. -/
namespace Go.Proofs.YtedciihjgbkjgabGreat.A
open Go
set_option linter.unusedSimpArgs false
set_option linter.unusedVariables false
set_option maxRecDepth 100000
abbrev sQf (q : Qu) : List SV := [.sc (.int .i64 q.vc), .im 2 (ris 0 q.atoms), .im 1 (ints q.free)]
theorem bigE_sat (b : List Int) (h : b.length ≤ 9223372036854775807) : Sat Tryz.prog 5 [lBys b] [lBool (decide ((b.length : Int) > 1048576))] [g1] := by
  refine sat_of_body mixed Tryz.func5 rfl (by kernel_rfl) (by kernel_rfl) (rs := [.tmp 2]) rfl rfl rfl ?_
  simp -implicitDefEqProofs (maxSteps := 2000000) only [go_sem]
set_option maxHeartbeats 8000000 in
/-- THE LAW FnEmbeddings. -/
theorem lawEmbeddings_sat (b : List Int) (h : b.length ≤ 9223372036854775807) : Sat Tryz.prog 4 [lBys b] [lBool true] [g1] := by
  refine sat_of_body mixed Tryz.func4 rfl (by kernel_rfl) (by kernel_rfl) (rs := [.tmp 2]) rfl rfl rfl ?_
  simp -implicitDefEqProofs (maxSteps := 2000000) only [go_sem]
  refine call_of (bigE_sat b h) (by simp -implicitDefEqProofs (maxSteps := 2000000) only [go_sem]) (by kernel_rfl) (by simp -implicitDefEqProofs (maxSteps := 2000000) only [go_sem]) ?_
  simp -implicitDefEqProofs (maxSteps := 2000000) only [go_sem]
  refine cond_split (fun e0 => ?_) fun e0 => ?_
  · simp -implicitDefEqProofs (maxSteps := 2000000) only [go_sem]
  have o0 : b.length ≤ 1048576 := by have := of_decide_eq_false e0; omega
  simp -implicitDefEqProofs (maxSteps := 2000000) only [go_sem]
  obtain ⟨d, q, hd, hq, s0⟩ := drawFE_ex b o0
  have hok := hd.ok (m := 13) (by decide)
  have hf := hok.fit
  have qok := hq.ok (by decide)
  have qf := qok.fit
  have nv := embs_len d q
  have hm := embs_mem (d := d) (q := q)
  have hag := embs_ag (d := d) (q := q)
  have hwl := wits_length d q
  have wm := wits_mem (d := d) (q := q)
  have hrl : (relF d q).length ≤ 9223372036854775807 := by have h1 := hd.facts; have h2 := selN_len (inAny (wits d q)) d.facts.length; unfold relF; omega
  refine call_of (s0) (by simp -implicitDefEqProofs (maxSteps := 2000000) only [go_sem]) (by kernel_rfl) (by simp -implicitDefEqProofs (maxSteps := 2000000) only [go_sem]) ?_
  simp -implicitDefEqProofs (maxSteps := 2000000) only [go_sem]
  refine call_of (implFindEmbeddings_sat d q hf qok) (by simp -implicitDefEqProofs (maxSteps := 2000000) only [go_sem]) (callOk_still (by kernel_rfl) (by simp only [List.all_cons, List.all_nil, LV.still, LV.leaves, Leaf.still, ints_still, ris_still, eds_still, rels_still, iss_still, ems_still, Bool.and_self, Bool.and_true])) (by simp -implicitDefEqProofs (maxSteps := 2000000) only [go_sem]) ?_
  simp -implicitDefEqProofs (maxSteps := 2000000) only [go_sem]
  refine call_of (specFindEmbeddings_sat d q hf qf) (by simp -implicitDefEqProofs (maxSteps := 2000000) only [go_sem]) (callOk_still (by kernel_rfl) (by simp only [List.all_cons, List.all_nil, LV.still, LV.leaves, Leaf.still, ints_still, ris_still, eds_still, rels_still, iss_still, ems_still, Bool.and_self, Bool.and_true])) (by simp -implicitDefEqProofs (maxSteps := 2000000) only [go_sem]) ?_
  simp -implicitDefEqProofs (maxSteps := 2000000) only [go_sem]
  refine call_of (implIsQueryFor_sat d q hf qok) (by simp -implicitDefEqProofs (maxSteps := 2000000) only [go_sem]) (by kernel_rfl) (by simp -implicitDefEqProofs (maxSteps := 2000000) only [go_sem]) ?_
  simp -implicitDefEqProofs (maxSteps := 2000000) only [go_sem]
  refine call_of (specIsQueryFor_sat d q hf qf) (by simp -implicitDefEqProofs (maxSteps := 2000000) only [go_sem]) (by kernel_rfl) (by simp -implicitDefEqProofs (maxSteps := 2000000) only [go_sem]) ?_
  simp -implicitDefEqProofs (maxSteps := 2000000) only [go_sem]
  have hN : ∀ n : Nat, (((n : Nat) : Int) != ((n : Nat) : Int)) = false := fun n => by simp
  have hZ : ∀ n : Int, (n != n) = false := fun n => by simp
  generalize hE : embs d q = E at nv hm hag hwl ⊢
  refine awp_loop Nat (fun k => mkSt [(3, .one (.vad 1512 0)), (4, .one (.vad 1576 0)), (5, .one (.im 2 (ems 0 E))), (6, .one (.im 2 (ems 0 E))), (7, .sc (.int .i64 k))] [(1512, sDb d), (1576, sQf q)] [] 10000)
    (fun k => k ≤ E.length) (fun k => E.length - k) 0 (by omega) (le_st' _ _ [] [1273, 1274, 1896, 2152] _ (by simp -implicitDefEqProofs (maxSteps := 2000000) only [go_sem, ris_frz, ems_frz, ints_frz] <;> and_intros <;> first | rfl | exact List.mem_singleton_self _ | decide | (refine ⟨_, rfl, Eq.symm ?_⟩; simp -implicitDefEqProofs (maxSteps := 2000000) only [go_sem, ris_frz, ems_frz, ints_frz]; done) | (refine ⟨_, rfl, Eq.symm ?_⟩; simp -implicitDefEqProofs (maxSteps := 2000000) only [go_sem, ris_frz, ems_frz, ints_frz]; rfl)) (by simp -implicitDefEqProofs (maxSteps := 2000000) only [go_sem, ris_frz, ems_frz, ints_frz] <;> and_intros <;> first | rfl | exact List.mem_singleton_self _ | decide | (refine ⟨_, rfl, Eq.symm ?_⟩; simp -implicitDefEqProofs (maxSteps := 2000000) only [go_sem, ris_frz, ems_frz, ints_frz]; done) | (refine ⟨_, rfl, Eq.symm ?_⟩; simp -implicitDefEqProofs (maxSteps := 2000000) only [go_sem, ris_frz, ems_frz, ints_frz]; rfl)) (by simp -implicitDefEqProofs (maxSteps := 2000000) only [go_sem, ris_frz, ems_frz, ints_frz] <;> and_intros <;> rfl) (by rfl)) ?_
  rintro k q1
  by_cases c1 : k < E.length
  · have wk : IntKind.i64.wrap ((k : Int) + 1) = ((k + 1 : Nat) : Int) := i64_succ (by omega)
    have he := mem_getD (default : Emb) c1
    obtain ⟨g, fl, vl, ag⟩ := hag _ he
    have me := hm _ he
    simp -implicitDefEqProofs (maxSteps := 2000000) only [go_sem, c1]
    obtain ⟨e, hek⟩ : ∃ e, E.getD k default = e := ⟨_, rfl⟩
    rw [hek] at he fl vl ag me
    have hg := queryFor_qu g
    have hv : 0 ≤ q.vc := by have := hg; unfold goodQu at this; simp only [Bool.and_eq_true] at this; have := inB_of this.2.1; omega
    have vl' : ((e.vs.length : Nat) : Int) = q.vc := by omega
    refine call_of (implEqualEmbeddings_sat e e (by omega) (by omega)) (by simp -implicitDefEqProofs (maxSteps := 2000000) only [go_sem, hek, c1]) (by kernel_rfl) (by simp -implicitDefEqProofs (maxSteps := 2000000) only [go_sem, hek, c1]) ?_
    simp -implicitDefEqProofs (maxSteps := 2000000) only [go_sem, hek, c1]
    refine call_of (specEqualEmbeddings_sat e e (by omega) (by omega)) (by simp -implicitDefEqProofs (maxSteps := 2000000) only [go_sem, hek, c1]) (by kernel_rfl) (by simp -implicitDefEqProofs (maxSteps := 2000000) only [go_sem, hek, c1]) ?_
    simp -implicitDefEqProofs (maxSteps := 2000000) only [go_sem, hek, c1]
    simp -implicitDefEqProofs (maxSteps := 2000000) only [go_sem, hek, vl', fl, hN, hZ, c1]
    refine awp_loop Nat (fun j => mkSt [(3, .one (.vad 1512 0)), (4, .one (.vad 1576 0)), (5, .one (.im 2 (ems 0 E))), (6, .one (.im 2 (ems 0 E))), (7, .sc (.int .i64 k)), (8, .sc (.int .i64 j))] [(1512, sDb d), (1576, sQf q)] [] 20000)
      (fun j => j ≤ q.atoms.length) (fun j => q.atoms.length - j) 0 (by omega) (le_st _ _ [] [] _ rfl (by simp -implicitDefEqProofs (maxSteps := 2000000) only [go_sem] <;> rfl) (by simp -implicitDefEqProofs (maxSteps := 2000000) only [go_sem] <;> rfl) (by simp -implicitDefEqProofs (maxSteps := 2000000) only [go_sem] <;> rfl)) ?_
    rintro j q2
    by_cases c2 : j < q.atoms.length
    · obtain ⟨i, hi, fi, ri, li, ai⟩ := ag j c2
      have wj : IntKind.i64.wrap ((j : Int) + 1) = ((j + 1 : Nat) : Int) := i64_succ (by omega)
      have c3 : j < e.fs.length := by omega
      have hts := tsOk_at hg c2
      have hl3 : (q.atoms.getD j default).l.length ≤ 201 := hq.all _ (mem_getD _ c2)
      simp -implicitDefEqProofs (maxSteps := 2000000) only [go_sem, c1, c2, hek, c3, fi, hi]
      first | (with_reducible refine tr_and ?_ ?_; focus kernel_rfl) | (with_reducible refine tr_only ?_; kernel_rfl) | skip
      refine awp_loop Nat (fun m => mkSt [(3, .one (.vad 1512 0)), (4, .one (.vad 1576 0)), (5, .one (.im 2 (ems 0 E))), (6, .one (.im 2 (ems 0 E))), (7, .sc (.int .i64 k)), (8, .sc (.int .i64 j)), (9, .one (.vad 21088 0)), (10, .sc (.int .i64 m))] [(1512, sDb d), (1576, sQf q), (21088, [.sc (.int .i64 (d.facts.getD i default).r), .im 1 (ints (d.facts.getD i default).l)])] [] 40000)
        (fun m => m ≤ (q.atoms.getD j default).l.length) (fun m => (q.atoms.getD j default).l.length - m) 0 (by omega) (le_st _ _ [] [] _ rfl (by simp -implicitDefEqProofs (maxSteps := 2000000) only [go_sem] <;> rfl) (by simp -implicitDefEqProofs (maxSteps := 2000000) only [go_sem] <;> rfl) (by simp -implicitDefEqProofs (maxSteps := 2000000) only [go_sem] <;> rfl)) ?_
      rintro m q3
      by_cases c4 : m < (q.atoms.getD j default).l.length
      · have wn : IntKind.i64.wrap ((m : Int) + 1) = ((m + 1 : Nat) : Int) := i64_succ (by omega)
        have am := ai m c4
        have tm := hts m c4
        have c5 : m < (d.facts.getD i default).l.length := by omega
        rcases Int.lt_or_le ((q.atoms.getD j default).l.getD m 0) 0 with d1 | d1
        · have e1 := decide_eq_true d1
          have e2 := decide_eq_false (show ¬ (q.atoms.getD j default).l.getD m 0 ≥ 0 by omega)
          have e3 : IntKind.i64.wrap (-1 - (q.atoms.getD j default).l.getD m 0) = -1 - (q.atoms.getD j default).l.getD m 0 := IntWalk.i64_in _ (by omega)
          have e4 := am.1 d1
          simp -implicitDefEqProofs (maxSteps := 2000000) only [go_sem, c1, c2, c4, c5, hek, ri, e1, e2, e3, e4, hZ, wn]
          first | (with_reducible refine tr_and ?_ ?_; focus kernel_rfl) | (with_reducible refine tr_only ?_; kernel_rfl) | skip
          exact ⟨m + 1, c4, by omega, (le_st _ _ [] [] _ rfl (by simp -implicitDefEqProofs (maxSteps := 2000000) only [go_sem] <;> rfl) (by simp -implicitDefEqProofs (maxSteps := 2000000) only [go_sem] <;> rfl) (by simp -implicitDefEqProofs (maxSteps := 2000000) only [go_sem] <;> rfl))⟩
        · obtain ⟨n, hn⟩ : ∃ n : Nat, (q.atoms.getD j default).l.getD m 0 = n := ⟨_, (Int.toNat_of_nonneg d1).symm⟩
          have e4 := am.2 d1
          rw [hn, Int.toNat_natCast] at e4
          have c6 : n < e.vs.length := by omega
          have e1 : decide (((n : Nat) : Int) < 0) = false := decide_eq_false (by omega)
          have e2 : decide (((n : Nat) : Int) ≥ 0) = true := decide_eq_true (by omega)
          simp -implicitDefEqProofs (maxSteps := 2000000) only [go_sem, c1, c2, c4, c5, c6, hek, ri, hn, e1, e2, e4, hZ, wn]
          first | (with_reducible refine tr_and ?_ ?_; focus kernel_rfl) | (with_reducible refine tr_only ?_; kernel_rfl) | skip
          exact ⟨m + 1, c4, by omega, (le_st _ _ [] [] _ rfl (by simp -implicitDefEqProofs (maxSteps := 2000000) only [go_sem] <;> rfl) (by simp -implicitDefEqProofs (maxSteps := 2000000) only [go_sem] <;> rfl) (by simp -implicitDefEqProofs (maxSteps := 2000000) only [go_sem] <;> rfl))⟩
      · obtain rfl : m = (q.atoms.getD j default).l.length := by omega
        simp -implicitDefEqProofs (maxSteps := 2000000) only [go_sem, c1, c2, c4, wj]
        exact ⟨j + 1, c2, by omega, (le_st _ _ [] [] _ rfl (by simp -implicitDefEqProofs (maxSteps := 2000000) only [go_sem] <;> rfl) (by simp -implicitDefEqProofs (maxSteps := 2000000) only [go_sem] <;> rfl) (by simp -implicitDefEqProofs (maxSteps := 2000000) only [go_sem] <;> rfl))⟩
    · obtain rfl : j = q.atoms.length := by omega
      simp -implicitDefEqProofs (maxSteps := 2000000) only [go_sem, c2, wk]
      exact ⟨k + 1, c1, by omega, (le_st _ _ [] [] _ rfl (by simp -implicitDefEqProofs (maxSteps := 2000000) only [go_sem] <;> rfl) (by simp -implicitDefEqProofs (maxSteps := 2000000) only [go_sem] <;> rfl) (by simp -implicitDefEqProofs (maxSteps := 2000000) only [go_sem] <;> rfl))⟩
  · obtain rfl : k = E.length := by omega
    simp -implicitDefEqProofs (maxSteps := 2000000) only [go_sem, c1]
    refine call_of (implWitnesses_sat d q hf qok) (by simp -implicitDefEqProofs (maxSteps := 2000000) only [go_sem]) (callOk_still (by kernel_rfl) (by simp only [List.all_cons, List.all_nil, LV.still, LV.leaves, Leaf.still, ints_still, ris_still, eds_still, rels_still, iss_still, ems_still, Bool.and_self, Bool.and_true])) (by simp -implicitDefEqProofs (maxSteps := 2000000) only [go_sem]) ?_
    simp -implicitDefEqProofs (maxSteps := 2000000) only [go_sem]
    refine call_of (implRelevantFacts_sat d q hf qok) (by simp -implicitDefEqProofs (maxSteps := 2000000) only [go_sem]) (callOk_still (by kernel_rfl) (by simp only [List.all_cons, List.all_nil, LV.still, LV.leaves, Leaf.still, ints_still, ris_still, eds_still, rels_still, iss_still, ems_still, Bool.and_self, Bool.and_true])) (by simp -implicitDefEqProofs (maxSteps := 2000000) only [go_sem]) ?_
    simp -implicitDefEqProofs (maxSteps := 2000000) only [go_sem]
    refine call_of (specWitnesses_sat d q hok qf) (by simp -implicitDefEqProofs (maxSteps := 2000000) only [go_sem]) (callOk_still (by kernel_rfl) (by simp only [List.all_cons, List.all_nil, LV.still, LV.leaves, Leaf.still, ints_still, ris_still, eds_still, rels_still, iss_still, ems_still, Bool.and_self, Bool.and_true])) (by simp -implicitDefEqProofs (maxSteps := 2000000) only [go_sem]) ?_
    simp -implicitDefEqProofs (maxSteps := 2000000) only [go_sem]
    refine call_of (sameRows_sat (wits d q) (wits d q) (by omega) (fun x hx => by have := wm x hx; omega)) (by simp -implicitDefEqProofs (maxSteps := 2000000) only [go_sem]) (by kernel_rfl) (by simp -implicitDefEqProofs (maxSteps := 2000000) only [go_sem]) ?_
    simp -implicitDefEqProofs (maxSteps := 2000000) only [go_sem]
    refine call_of (specRelevantFacts_sat d q hok qf) (by simp -implicitDefEqProofs (maxSteps := 2000000) only [go_sem]) (callOk_still (by kernel_rfl) (by simp only [List.all_cons, List.all_nil, LV.still, LV.leaves, Leaf.still, ints_still, ris_still, eds_still, rels_still, iss_still, ems_still, Bool.and_self, Bool.and_true])) (by simp -implicitDefEqProofs (maxSteps := 2000000) only [go_sem]) ?_
    simp -implicitDefEqProofs (maxSteps := 2000000) only [go_sem]
    have hB : (((E.length : Nat) : Int) == ((E.length : Nat) : Int)) = true := by simp
    have hT : List.take E.length (wits d q) = wits d q := List.take_of_length_le (by omega)
    refine call_of (sameInts_sat (relF d q) (relF d q) hrl) (by simp -implicitDefEqProofs (maxSteps := 2000000) only [go_sem, hwl, hT, hB]) (by kernel_rfl) (by simp -implicitDefEqProofs (maxSteps := 2000000) only [go_sem, hwl, hT, hB]) ?_
    simp -implicitDefEqProofs (maxSteps := 2000000) only [go_sem, hwl, hT, hB]
    first | (with_reducible refine tr_and ?_ ?_; focus kernel_rfl) | (with_reducible refine tr_only ?_; kernel_rfl) | skip
    first | done | rfl | exact ⟨rfl, rfl⟩ | exact ⟨rfl, rfl, rfl⟩ | (refine tr_and ?_ ?_ <;> first | rfl | exact ⟨rfl, rfl⟩ | kernel_rfl)
end Go.Proofs.YtedciihjgbkjgabGreat.A


/- BYTES READ. Conditions: none. -/
namespace Go.Proofs.YtedciihjgbkjgabGreat.A
open Go
set_option linter.unusedVariables false
theorem readsC_byte {H : Type} {enc : TypeId × Value → H} {P : Program} {W : World} {t : TypeId} (ht : P.underlying t = some (.int .u8)) : ReadsC enc P W t cBy (fun _ => True) := by
  intro n cs x h
  obtain ⟨z, rfl⟩ := trod_int ht h
  exact ⟨z, trivial, ⟨rfl, rfl⟩, trivial⟩
end Go.Proofs.YtedciihjgbkjgabGreat.A


/- THE LAW FnEmbeddings: for every input it returns true, and the input reads as it did. Conditions: none. -/
namespace Go.Proofs.YtedciihjgbkjgabGreat.lawEmbeddings
open Go.ChangeShapes Go.WideShapes Go.ChangeAt Go.RowKit
open Go.Proofs.YtedciihjgbkjgabGreat.A
set_option linter.unusedVariables false
theorem own : ownKnob Tryz.prog.godebug = none := by kernel_rfl
theorem laid : laidOutB Tryz.prog = true := by kernel_rfl
theorem rowed : mapsRowed Tryz.prog = true := by kernel_rfl
theorem full : ((List.range Tryz.prog.types.size).all fun t => match Tryz.prog.underlying t with | some (.slice e) => decide (0 < Tryz.prog.cellsOf e) | _ => true) = true := by kernel_rfl
set_option maxRecDepth 100000 in
theorem lifted (os : Os) (started : os.Started) (H : Type) (enc : TypeId × Value → H) :
    ReturnsInHanded {} Tryz.checked os 4 .any (Rows.fnEmbeddingsSpec.pre6 enc Tryz.prog Tryz.f4 Rows.fnEmbeddingsRow.domain false) (Rows.fnEmbeddingsSpec.post enc Tryz.prog Tryz.f4 false true false false) := by
  refine returnsInHanded_of_change_sized (C := Tryz.checked) own started (by kernel_rfl) Tryz.func4
    (ChangeSpec.witness6 (enc := enc) (C := Tryz.checked) false ⟨#[], #[.slice none 0 0], []⟩ 8 (by kernel_rfl) (by kernel_rfl) (by kernel_rfl) (by kernel_rfl)) ?_
  intro W base args ds gs before hval hW _ _ _
  obtain ⟨p, q, hA, hV, hpq, _⟩ := id hW
  rw [Tryz.params4] at hA hval
  obtain ⟨v0, vs0, d0, ds0, p0, q0, e0, rfl, rfl, h0, r0⟩ := trodAll_cons hA
  obtain ⟨rfl, rfl, rfl⟩ := trodAll_nil r0
  obtain ⟨rfl, _⟩ := trodVars_none hV
  obtain rfl : args = #[v0] := by cases args; simp_all
  have rB := readsC_byte (enc := enc) (W := W) und5
  have lBs := readsL_rows (w := 1) rB und22 (by kernel_rfl) (by omega) (fun _ => rfl) bys (fun _ => rfl)
  obtain ⟨a0, g0, l0⟩ := arg_one lBs (okWide_slice_ne und22 (hval 0 _ v0 rfl rfl)) h0
  exact law_calls laid rowed full Tryz.func4 rfl (by kernel_rfl) rfl rfl (by kernel_rfl) rfl und4 hW (lawEmbeddings_sat a0 g0.1) ⟨l0 _, trivial⟩ rfl rfl rfl
theorem over : Rows.fnEmbeddingsRow.holds Tryz.pinned (OpenSpec.ofChange Rows.fnEmbeddingsSpec) :=
  OpenClaim.holds_of_wide 4 Tryz.f4 rfl rfl rfl rfl rfl rfl rfl ⟨rfl, rfl, rfl, rfl, rfl⟩ rfl rfl rfl rfl rfl (by kernel_rfl) Tryz.func4 (by kernel_rfl)
    (of_decide_eq_true (by kernel_rfl)) (by unfold Func.isWrapper; first | (rw [if_pos (by decide +kernel)]; kernel_rfl) | (rw [if_neg (by decide +kernel)]; exact ⟨rfl, rfl⟩))
    (fun os started H enc _ => lifted os started H enc)
end Go.Proofs.YtedciihjgbkjgabGreat.lawEmbeddings
namespace Go.Proofs.YtedciihjgbkjgabGreat
/-- The row, under a short name, for the claim. -/
theorem fnEmbeddings_holds : Rows.FnEmbeddingsSaid := lawEmbeddings.over
#print axioms fnEmbeddings_holds
end Go.Proofs.YtedciihjgbkjgabGreat
