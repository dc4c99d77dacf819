
/- THE LIBRARY'S Repeat at one number. Conditions: none. -/
import Derived.Test.YtbalifgacjmbpabGreatAFM
namespace Go.Proofs.YtbalifgacjmbpabGreat.A
open Go
set_option linter.unusedSimpArgs false
set_option linter.unusedVariables false
set_option maxRecDepth 100000

abbrev lU64 (n : Int) : LV := .one (.sc (.int .u64 n))
theorem ints_allSc (a : List Int) : allSc (ints a) = true := by simp [allSc, ints_eq]
theorem ints_range (a b : List Int) (k : Nat) : setRange (ints a) k (ints b) = ints (setRange a k b) := by simp [setRange, ints_eq]
attribute [go_sem] ints_allSc
theorem mul64_sat {n : Nat} (hn : n ≤ 4) : Sat Tryz.prog 141 [lU64 1, lU64 n] [lU64 0, lU64 n] [g1, g1] := by
  obtain rfl | rfl | rfl | rfl | rfl : n = 0 ∨ n = 1 ∨ n = 2 ∨ n = 3 ∨ n = 4 := by omega
  all_goals
    refine sat_of_body mixed Tryz.func141 rfl (by kernel_rfl) (by kernel_rfl) (rs := [.tmp 4, .tmp 5]) rfl rfl rfl ?_
    simp -implicitDefEqProofs (maxSteps := 2000000) only [go_sem]
    exact ⟨by kernel_rfl, by kernel_rfl⟩
theorem mul_sat {n : Nat} (hn : n ≤ 4) : Sat Tryz.prog 114 [lU64 1, lU64 n] [lU64 0, lU64 n] [g1, g1] := by
  refine sat_of_body mixed Tryz.func114 rfl (by kernel_rfl) (by kernel_rfl) (rs := [.tmp 4, .tmp 5]) rfl rfl rfl ?_
  simp -implicitDefEqProofs (maxSteps := 2000000) only [go_sem]
  refine call_of (mul64_sat hn) (by simp -implicitDefEqProofs (maxSteps := 2000000) only [go_sem]) (by kernel_rfl) (by simp -implicitDefEqProofs (maxSteps := 2000000) only [go_sem]) ?_
  simp -implicitDefEqProofs (maxSteps := 2000000) only [go_sem]
theorem u64_of {n : Nat} (hn : n ≤ 4) : IntKind.u64.wrap (n : Int) = n := by
  obtain rfl | rfl | rfl | rfl | rfl : n = 0 ∨ n = 1 ∨ n = 2 ∨ n = 3 ∨ n = 4 := by omega
  all_goals rfl
theorem rep1 {α : Type} (a : α) : List.replicate 1 a = [a] := rfl
theorem rep_range {x : Int} {n k : Nat} (hk : k ≤ n) : setRange (List.replicate k x ++ List.replicate (n - k) 0) k ((List.take k (List.replicate k x ++ List.replicate (n - k) 0)).take (n - k)) = List.replicate (k + min k (n - k)) x ++ List.replicate (n - (k + min k (n - k))) 0 := by
  have h1 : List.take k (List.replicate k x ++ List.replicate (n - k) 0) = List.replicate k x := by
    rw [List.take_append_of_le_length (by simp), List.take_replicate, Nat.min_self]
  rw [h1, List.take_replicate, setRange, h1, List.length_replicate, Nat.min_comm (n - k) k, List.replicate_append_replicate]
  congr 1
  rw [List.drop_append, List.drop_replicate, List.drop_replicate, List.length_replicate]
  rw [show k - (k + min k (n - k)) = 0 by omega, List.replicate_zero, List.nil_append]
  congr 1; omega
theorem repeat_sat (x : Int) {n : Nat} (hn : n ≤ 4) : Sat Tryz.prog 82 [lInts [x], lInt n] [oInts (List.replicate n x)] [g1, g1] := by
  refine sat_of_body mixed Tryz.func82 rfl (by kernel_rfl) (by kernel_rfl) (rs := [.tmp 4]) rfl rfl rfl ?_
  have w0 : IntKind.u64.wrap ((1 : Nat) : Int) = 1 := rfl
  have w1 := u64_of hn
  have w2 : IntKind.i64.wrap (n : Int) = n := IntWalk.i64_in _ (by omega)
  have c0 : decide ((n : Int) < 0) = false := decide_eq_false (by omega)
  have c1 : decide ((n : Int) > 9223372036854775807) = false := decide_eq_false (by omega)
  simp -implicitDefEqProofs (maxSteps := 2000000) only [go_sem, c0, w0, w1]
  refine call_of (mul_sat hn) (by simp -implicitDefEqProofs (maxSteps := 2000000) only [go_sem, c1, w2]) (by kernel_rfl) (by simp -implicitDefEqProofs (maxSteps := 2000000) only [go_sem, c1, w2]) ?_
  simp -implicitDefEqProofs (maxSteps := 2000000) only [go_sem, c1, w2]
  refine ⟨by omega, by omega, ?_⟩
  refine awp_loop (Nat × List Int) (fun k => mkSt [(7, .one (.ref 960 1 0 n)), (8, .sc (.int .i64 k.1))] [] [(960, (1, ints k.2))] 2000)
    (fun k => (k.1 ≤ n ∧ (k.1 = 0 → n = 0)) ∧ k.2 = List.replicate k.1 x ++ List.replicate (n - k.1) 0) (fun k => n - k.1) (min 1 n, List.replicate (min 1 n) x ++ List.replicate (n - min 1 n) 0) ⟨⟨by show min 1 n ≤ n; omega, by show min 1 n = 0 → n = 0; omega⟩, rfl⟩ ?_ ?_
  · rcases n with _ | m
    · exact (le_st' _ _ [⟨960, some _, false, 1, _⟩] [] _ (by simp -implicitDefEqProofs (maxSteps := 2000000) only [go_sem, Nat.min_zero, List.replicate_zero] <;> and_intros <;> rfl) (by simp -implicitDefEqProofs (maxSteps := 2000000) only [go_sem, Nat.min_zero, List.replicate_zero] <;> and_intros <;> rfl) (by simp -implicitDefEqProofs (maxSteps := 2000000) only [go_sem, Nat.min_zero, List.replicate_zero] <;> and_intros <;> rfl) (by rfl))
    · rw [show min 1 (m + 1) = 1 by omega]
      exact (le_st' _ _ [⟨960, some _, false, 1, _⟩] [] _ (by simp -implicitDefEqProofs (maxSteps := 2000000) only [go_sem, rep1, List.length_replicate, List.drop_replicate, show min 1 (m + 1) = 1 by omega, ints_rep] <;> and_intros <;> rfl) (by simp -implicitDefEqProofs (maxSteps := 2000000) only [go_sem, rep1, List.length_replicate, List.drop_replicate, show min 1 (m + 1) = 1 by omega, ints_rep] <;> and_intros <;> rfl) (by simp -implicitDefEqProofs (maxSteps := 2000000) only [go_sem, rep1, List.length_replicate, List.drop_replicate, show min 1 (m + 1) = 1 by omega, ints_rep] <;> and_intros <;> rfl) (by rfl))
  · rintro ⟨k, L⟩ ⟨⟨h1, h2⟩, h3⟩
    simp only at h1 h2 h3
    have hl : L.length = n := by rw [h3]; simp; omega
    have hr := rep_range (x := x) h1
    rw [← h3, show List.take k L = List.replicate k x by rw [h3, List.take_append_of_le_length (by simp), List.take_replicate, Nat.min_self]] at hr
    by_cases c2 : k < n
    · have hL : L.take n = L := List.take_of_length_le (by omega)
      simp -implicitDefEqProofs (maxSteps := 2000000) only [go_sem, c2, hl, hL]
      have hk : List.take k L = List.replicate k x := by rw [h3, List.take_append_of_le_length (by simp), List.take_replicate, Nat.min_self]
      have w3 : IntKind.i64.wrap ((k : Int) + ((min k (n - k) : Nat) : Int)) = ((k + min k (n - k) : Nat) : Int) := by rw [IntWalk.i64_in _ (by omega)]; rfl
      refine ⟨h1, by omega, by omega, h1, by omega, tr_and (by kernel_rfl) ⟨(k + min k (n - k), setRange L k (List.take (n - k) (List.replicate k x))), ⟨⟨by simp only; omega, by simp only; omega⟩, hr⟩, by simp only; omega, ?_⟩⟩
      exact (le_st' _ _ [⟨960, some _, false, 1, _⟩] [] _ (by simp -implicitDefEqProofs (maxSteps := 2000000) only [go_sem, Nat.sub_zero, hk, List.length_replicate, w3, List.length_take, Nat.min_comm (n - k) k, hl] <;> and_intros <;> rfl) (by simp -implicitDefEqProofs (maxSteps := 2000000) only [go_sem, Nat.sub_zero, hk, List.length_replicate, w3, List.length_take, Nat.min_comm (n - k) k, hl] <;> and_intros <;> rfl) (by simp -implicitDefEqProofs (maxSteps := 2000000) only [go_sem, Nat.sub_zero, hk, List.length_replicate, w3, List.length_take, Nat.min_comm (n - k) k, hl] <;> and_intros <;> rfl) (by rfl))
    · obtain rfl : k = n := by omega
      have hL : L.take k = L := List.take_of_length_le (by omega)
      simp -implicitDefEqProofs (maxSteps := 2000000) only [go_sem, c2, hl, hL]
      rw [h3, Nat.sub_self, List.replicate_zero, List.append_nil]
      exact ⟨rfl, rfl⟩
theorem unknown_sat {n : Nat} (hn : n ≤ 4) : Sat Tryz.prog 50 [lInt n] [oInts (List.replicate n (-1))] [g1] := by
  refine sat_of_body mixed Tryz.func50 rfl (by kernel_rfl) (by kernel_rfl) (rs := [.tmp 2]) rfl rfl rfl ?_
  simp -implicitDefEqProofs (maxSteps := 2000000) only [go_sem]
  refine call_of (repeat_sat (-1) hn) (by simp -implicitDefEqProofs (maxSteps := 2000000) only [go_sem]) (callOk_still (by kernel_rfl) (by simp only [List.all_cons, List.all_nil, LV.still, LV.leaves, Leaf.still, ints_still, ris_still, eds_still, rels_still, iss_still, ems_still, Bool.and_self, Bool.and_true])) (by simp -implicitDefEqProofs (maxSteps := 2000000) only [go_sem]) ?_
  simp -implicitDefEqProofs (maxSteps := 2000000) only [go_sem]
  first | done | rfl | exact ⟨rfl, rfl⟩ | exact ⟨rfl, rfl, rfl⟩ | (refine tr_and ?_ ?_ <;> first | rfl | exact ⟨rfl, rfl⟩ | kernel_rfl)
theorem l12None_sat {n : Nat} (hn : n ≤ 4) : Sat Tryz.prog 42 [lInt n] [oInts (List.replicate n (-1))] [g1] := by
  refine sat_of_body mixed Tryz.func42 rfl (by kernel_rfl) (by kernel_rfl) (rs := [.tmp 2]) rfl rfl rfl ?_
  simp -implicitDefEqProofs (maxSteps := 2000000) only [go_sem]
  refine awp_loop Nat (fun k => mkSt [(0, .sc (.int .i64 n)), (3, .one (.ref 960 1 0 k))] [] [(960, (1, ints (List.replicate k (-1))))] 2000)
    (fun k => k ≤ n) (fun k => n - k) 0 (by omega) (le_st' _ _ [⟨960, some _, false, 1, _⟩] [] _ (by simp -implicitDefEqProofs (maxSteps := 2000000) only [go_sem, List.replicate_zero] <;> and_intros <;> rfl) (by simp -implicitDefEqProofs (maxSteps := 2000000) only [go_sem, List.replicate_zero] <;> and_intros <;> rfl) (by simp -implicitDefEqProofs (maxSteps := 2000000) only [go_sem, List.replicate_zero] <;> and_intros <;> rfl) (by rfl)) ?_
  rintro k h1
  by_cases c2 : k < n
  · simp -implicitDefEqProofs (maxSteps := 2000000) only [go_sem, c2, List.take_replicate, Nat.min_self, List.length_replicate]
    refine ⟨by omega, k + 1, c2, by omega, ?_⟩
    rw [show List.replicate (k + 1) (-1 : Int) = List.replicate k (-1) ++ [-1] from List.replicate_succ']
    exact (le_st' _ _ [⟨960, some _, false, 1, _⟩] [] _ (by simp -implicitDefEqProofs (maxSteps := 2000000) only [go_sem, List.length_replicate] <;> and_intros <;> rfl) (by simp -implicitDefEqProofs (maxSteps := 2000000) only [go_sem, List.length_replicate] <;> and_intros <;> rfl) (by simp -implicitDefEqProofs (maxSteps := 2000000) only [go_sem, List.length_replicate] <;> and_intros <;> rfl) (by rfl))
  · obtain rfl : k = n := by omega
    simp -implicitDefEqProofs (maxSteps := 2000000) only [go_sem, c2, List.take_replicate, Nat.min_self, List.length_replicate]
    first | done | rfl | exact ⟨rfl, rfl⟩ | exact ⟨rfl, rfl, rfl⟩ | (refine tr_and ?_ ?_ <;> first | rfl | exact ⟨rfl, rfl⟩ | kernel_rfl)
end Go.Proofs.YtbalifgacjmbpabGreat.A
