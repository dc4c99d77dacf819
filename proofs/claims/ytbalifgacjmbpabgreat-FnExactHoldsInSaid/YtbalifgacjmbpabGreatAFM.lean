
/- MARKS AND MEMBERS: lists of numbers that a law writes and reads back. Conditions: none. -/
import Derived.Test.YtbalifgacjmbpabGreatAF1
import Derived.Test.YtbalifgacjmbpabGreatAD2
namespace Go.Proofs.YtbalifgacjmbpabGreat.A
open Go
set_option linter.unusedSimpArgs false
set_option linter.unusedVariables false
set_option maxRecDepth 100000

theorem i64_plus {k : Int} {i : Nat} (h0 : 0 ≤ k) (h : k + i < 9223372036854775807) : IntKind.i64.wrap (k + i + 1) = k + ((i + 1 : Nat) : Int) := by
  rw [IntWalk.i64_in _ (by omega)]; omega
theorem plus0 (k : Int) : k + ((0 : Nat) : Int) = k := by simp
attribute [go_sem] Int.add_zero Int.ofNat_zero
/-- The numbers from k on. -/
def cnt : Int → Nat → List Int
  | _, 0 => []
  | k, n + 1 => k :: cnt (k + 1) n
theorem cnt_length : ∀ (k : Int) (n : Nat), (cnt k n).length = n
  | _, 0 => rfl
  | k, n + 1 => by rw [cnt, List.length_cons, cnt_length]
theorem cnt_get : ∀ {k : Int} {n i : Nat}, i < n → (cnt k n).getD i 0 = k + i
  | k, n + 1, 0, _ => by simp [cnt]
  | k, n + 1, i + 1, h => by
    rw [cnt, List.getD_cons_succ, cnt_get (by omega)]; omega
theorem cnt_full (k : Int) (n : Nat) : List.take n (cnt k n) = cnt k n := List.take_of_length_le (by rw [cnt_length]; omega)
attribute [go_sem] cnt_full
theorem markIntS_sat (a : List Int) (k : Int) (h : 0 ≤ k ∧ k + a.length ≤ 9223372036854775807) : Sat Tryz.prog 32 [oInts a, lInt k] [lInt (k + a.length)] [oInts (cnt k a.length), g1] := by
  refine sat_of_body mixed Tryz.func32 rfl (by kernel_rfl) (by kernel_rfl) (rs := [.tmp 4]) rfl rfl rfl ?_
  simp -implicitDefEqProofs (maxSteps := 2000000) only [go_sem]
  refine awp_loop (Nat × List Int) (fun x => mkSt [(0, .one (.ref 0 1 0 a.length)), (1, .sc (.int .i64 (k + x.1))), (5, .sc (.int .i64 x.1))] [] [(0, (1, ints x.2))] 1000)
    (fun x => x.1 ≤ a.length ∧ x.2.length = a.length ∧ x.2.take x.1 = (cnt k a.length).take x.1) (fun x => a.length - x.1) (0, a) ⟨by simp, rfl, rfl⟩ (le_st _ _ [⟨0, some 0, false, 1, _⟩] [] _ rfl (by simp -implicitDefEqProofs (maxSteps := 2000000) only [go_sem] <;> rfl) (by simp -implicitDefEqProofs (maxSteps := 2000000) only [go_sem] <;> rfl) (by simp -implicitDefEqProofs (maxSteps := 2000000) only [go_sem] <;> rfl)) ?_
  rintro ⟨i, b⟩ ⟨h1, h2, h3⟩
  simp only at h1 h2 h3
  by_cases c1 : i < a.length
  · simp -implicitDefEqProofs (maxSteps := 2000000) only [go_sem, c1, h2, List.length_take, Nat.min_self]
    rw [i64_succ (by omega), i64_plus h.1 (by omega)]
    refine ⟨(i + 1, b.set i (k + i)), ⟨c1, by simpa using h2, ?_⟩, by simp; omega, (le_st _ _ [⟨0, some 0, false, 1, _⟩] [] _ rfl (by simp -implicitDefEqProofs (maxSteps := 2000000) only [go_sem] <;> rfl) (by simp -implicitDefEqProofs (maxSteps := 2000000) only [go_sem] <;> rfl) (by simp -implicitDefEqProofs (maxSteps := 2000000) only [go_sem] <;> rfl))⟩
    have h4 := take_set_snoc (a := cnt k a.length) 0 (by rw [cnt_length]; exact h2) h3 (by rw [cnt_length]; exact c1)
    rwa [cnt_get c1] at h4
  · have hb : b = cnt k a.length := of_take (by rw [cnt_length]; exact h2) h3 (by rw [cnt_length]; omega)
    simp -implicitDefEqProofs (maxSteps := 2000000) only [go_sem, c1, h2, List.length_take, Nat.min_self]
    obtain rfl : i = a.length := by omega
    rw [hb]; exact ⟨rfl, rfl, rfl⟩
theorem heldIntS_sat (n : Nat) (k : Int) (h : 0 ≤ k ∧ k + n ≤ 9223372036854775807) : Sat Tryz.prog 33 [lInts (cnt k n), lInt k] [lInt (k + n)] [g1, g1] := by
  refine sat_of_body mixed Tryz.func33 rfl (by kernel_rfl) (by kernel_rfl) (rs := [.tmp 4]) rfl rfl rfl ?_
  simp -implicitDefEqProofs (maxSteps := 2000000) only [go_sem]
  refine awp_loop Nat (fun i => mkSt [(0, .one (.im 1 (ints (cnt k n)))), (1, .sc (.int .i64 (k + i))), (5, .sc (.int .i64 i))] [] [] 1000)
    (fun i => i ≤ n) (fun i => n - i) 0 (by omega) (le_st _ _ [] [] _ rfl (by simp -implicitDefEqProofs (maxSteps := 2000000) only [go_sem] <;> rfl) trivial trivial) ?_
  rintro i h1
  by_cases c1 : i < n
  · simp -implicitDefEqProofs (maxSteps := 2000000) only [go_sem, c1, cnt_length]
    rw [cnt_get c1]
    simp -implicitDefEqProofs (maxSteps := 2000000) only [go_sem]
    rw [i64_succ (by omega), i64_plus h.1 (by omega)]
    exact ⟨i + 1, c1, by omega, (le_st _ _ [] [] _ rfl (by simp -implicitDefEqProofs (maxSteps := 2000000) only [go_sem] <;> rfl) trivial trivial)⟩
  · obtain rfl : i = n := by omega
    simp -implicitDefEqProofs (maxSteps := 2000000) only [go_sem, c1, cnt_length]
/-- Where a number stands in a list, or -1. -/
def posI (x : Int) : List Int → Nat → Int
  | [], _ => -1
  | a :: l, k => if a = x then k else posI x l (k + 1)
theorem posI_mem (x : Int) : ∀ (l : List Int) (k : Nat), decide (0 ≤ posI x l k) = decide (x ∈ l)
  | [], k => by simp [posI]
  | a :: l, k => by
    unfold posI
    split
    · rename_i h; subst h; simp
    · rename_i h
      rw [posI_mem x l (k + 1)]
      have : ¬ x = a := fun e => h e.symm
      simp [this]
theorem l7Has_sat (a : List Int) (x : Int) (ha : a.length ≤ 9223372036854775807) : Sat Tryz.prog 63 [lInts a, lInt x] [lBool (decide (x ∈ a))] [g1, g1] := by
  refine sat_of_body mixed Tryz.func63 rfl (by kernel_rfl) (by kernel_rfl) (rs := [.tmp 4]) rfl rfl rfl ?_
  simp -implicitDefEqProofs (maxSteps := 2000000) only [go_sem]
  refine awp_loop Nat (fun k => mkSt [(0, .one (.im 1 (ints a))), (1, .sc (.int .i64 x)), (5, .sc (.int .i64 k))] [] [] 1000)
    (fun k => k ≤ a.length ∧ decide (x ∈ a.drop k) = decide (x ∈ a)) (fun k => a.length - k) 0 ⟨by omega, rfl⟩ (le_st _ _ [] [] _ rfl (by simp -implicitDefEqProofs (maxSteps := 2000000) only [go_sem] <;> rfl) trivial trivial) ?_
  rintro k ⟨h1, h2⟩
  by_cases c1 : k < a.length
  · rw [drop_cons 0 c1] at h2
    simp -implicitDefEqProofs (maxSteps := 2000000) only [go_sem, c1]
    refine cond_split (fun d => ?_) fun d => ?_
    · simp -implicitDefEqProofs (maxSteps := 2000000) only [go_sem]
      rw [← h2, decide_eq_true]
      have d : a.getD k 0 = x := by simpa using d
      rw [d]; simp
    simp -implicitDefEqProofs (maxSteps := 2000000) only [go_sem]
    rw [i64_succ (by omega)]
    refine ⟨k + 1, ⟨c1, ?_⟩, by omega, (le_st _ _ [] [] _ rfl (by simp -implicitDefEqProofs (maxSteps := 2000000) only [go_sem] <;> rfl) trivial trivial)⟩
    rw [← h2]
    have d : ¬ x = a.getD k 0 := fun e => by rw [e] at d; simp at d
    rw [Bool.eq_iff_iff, decide_eq_true_iff, decide_eq_true_iff, List.mem_cons]
    exact ⟨fun h => .inr h, fun h => h.resolve_left d⟩
  · simp -implicitDefEqProofs (maxSteps := 2000000) only [go_sem, c1]
    rw [List.drop_of_length_le (by omega)] at h2
    rw [← h2]
    rfl
theorem slicesIndex_sat (a : List Int) (x : Int) (ha : a.length ≤ 9223372036854775807) : Sat Tryz.prog 151 [lInts a, lInt x] [lInt (posI x a 0)] [g1, g1] := by
  refine sat_of_body mixed Tryz.func151 rfl (by kernel_rfl) (by kernel_rfl) (rs := [.tmp 4]) rfl rfl rfl ?_
  simp -implicitDefEqProofs (maxSteps := 2000000) only [go_sem]
  refine awp_loop Nat (fun k => mkSt [(0, .one (.im 1 (ints a))), (1, .sc (.int .i64 x)), (7, .sc (.int .i64 a.length)), (8, .sc (.int .i64 k))] [] [] 1000)
    (fun k => k ≤ a.length ∧ posI x (a.drop k) k = posI x a 0) (fun k => a.length - k) 0 ⟨by omega, rfl⟩ (le_st _ _ [] [] _ rfl (by simp -implicitDefEqProofs (maxSteps := 2000000) only [go_sem] <;> rfl) trivial trivial) ?_
  rintro k ⟨h1, h2⟩
  by_cases c1 : k < a.length
  · rw [drop_cons 0 c1, posI] at h2
    simp -implicitDefEqProofs (maxSteps := 2000000) only [go_sem, c1]
    refine cond_split (fun d => ?_) fun d => ?_
    · simp -implicitDefEqProofs (maxSteps := 2000000) only [go_sem]
      have d : a.getD k 0 = x := by have d := eq_of_beq d; exact d.symm
      rw [if_pos d] at h2
      rw [← h2]
    simp -implicitDefEqProofs (maxSteps := 2000000) only [go_sem]
    rw [if_neg (by intro e; rw [e] at d; simp at d)] at h2
    rw [i64_succ (by omega)]
    exact ⟨k + 1, ⟨c1, h2⟩, by omega, (le_st _ _ [] [] _ rfl (by simp -implicitDefEqProofs (maxSteps := 2000000) only [go_sem] <;> rfl) trivial trivial)⟩
  · simp -implicitDefEqProofs (maxSteps := 2000000) only [go_sem, c1]
    rw [List.drop_of_length_le (by omega), posI] at h2
    rw [← h2]
theorem slicesContains_sat (a : List Int) (x : Int) (ha : a.length ≤ 9223372036854775807) : Sat Tryz.prog 132 [lInts a, lInt x] [lBool (decide (x ∈ a))] [g1, g1] := by
  refine sat_of_body mixed Tryz.func132 rfl (by kernel_rfl) (by kernel_rfl) (rs := [.tmp 4]) rfl rfl rfl ?_
  simp -implicitDefEqProofs (maxSteps := 2000000) only [go_sem]
  refine call_of (slicesIndex_sat a x ha) (by simp -implicitDefEqProofs (maxSteps := 2000000) only [go_sem]) (by kernel_rfl) (by simp -implicitDefEqProofs (maxSteps := 2000000) only [go_sem]) ?_
  simp -implicitDefEqProofs (maxSteps := 2000000) only [go_sem]
  rw [posI_mem]
end Go.Proofs.YtbalifgacjmbpabGreat.A
