
/- LISTS OF LISTS: comparison, marks. Conditions: none. -/
import Derived.Test.YtbalifgacjmbpaaAFMQ
namespace Go.Proofs.Ytbalifgacjmbpaa.A
open Go
set_option linter.unusedSimpArgs false
set_option linter.unusedVariables false
set_option maxRecDepth 100000

def numIS : List (List Int) → Nat
  | [] => 0
  | a :: l => a.length + numIS l
def markIS : List (List Int) → Int → List (List Int)
  | [], _ => []
  | a :: l, k => cnt k a.length :: markIS l (k + a.length)
theorem numIS_nil : numIS [] = 0 := rfl
attribute [go_sem] numIS_nil
theorem markIS_length : ∀ (a : List (List Int)) (k : Int), (markIS a k).length = a.length
  | [], _ => rfl
  | a :: l, k => by rw [markIS, List.length_cons, List.length_cons, markIS_length]
theorem numIS_take {a : List (List Int)} {i : Nat} (h : i < a.length) : numIS (a.take (i + 1)) = numIS (a.take i) + (a.getD i []).length := by
  induction a generalizing i with
  | nil => simp at h
  | cons x a ih =>
    cases i with
    | zero => simp [numIS]
    | succ i =>
      have := ih (i := i) (by simpa using h)
      rw [List.take_succ_cons, List.take_succ_cons, numIS, numIS, this, List.getD_cons_succ]; omega
theorem numIS_le : ∀ {a : List (List Int)} (i : Nat), numIS (a.take i) ≤ numIS a
  | [], i => by simp [numIS]
  | x :: a, 0 => by simp [numIS]
  | x :: a, i + 1 => by
    rw [List.take_succ_cons, numIS, numIS]
    have := numIS_le (a := a) i
    omega
theorem numIS_small {n : Nat} : ∀ {a : List (List Int)}, (∀ x ∈ a, x.length ≤ n) → numIS a ≤ a.length * n
  | [], _ => by simp [numIS]
  | x :: a, h => by
    have h1 := numIS_small (a := a) fun y hy => h y (List.mem_cons_of_mem _ hy)
    have h2 := h x (List.mem_cons_self ..)
    rw [numIS, List.length_cons, Nat.add_mul]; omega
theorem markIS_get : ∀ {a : List (List Int)} {k : Int} {i : Nat}, i < a.length → (markIS a k).getD i [] = cnt (k + numIS (a.take i)) (a.getD i []).length
  | x :: a, k, 0, _ => by simp [markIS, numIS]
  | x :: a, k, i + 1, h => by
    rw [markIS, List.getD_cons_succ, markIS_get (by simpa using h), List.getD_cons_succ, List.take_succ_cons, numIS]
    have e : k + (x.length : Int) + (numIS (a.take i) : Int) = k + ((x.length + numIS (a.take i) : Nat) : Int) := by omega
    rw [e]
theorem markIS_full (a : List (List Int)) (k : Int) : List.take a.length (markIS a k) = markIS a k := List.take_of_length_le (by rw [markIS_length]; omega)
attribute [go_sem] markIS_full
theorem eqIntSS_sat (a b : List (List Int)) (ha : a.length ≤ 9223372036854775807) (h : ∀ x ∈ a, x.length ≤ 9223372036854775807) : Sat Try.prog 12 [lISS a, lISS b] [lBool (decide (a = b))] [g1, g1] := by
  refine sat_of_body mixed Try.func12 rfl (by kernel_rfl) (by kernel_rfl) (rs := [.tmp 4]) rfl rfl rfl ?_
  simp -implicitDefEqProofs (maxSteps := 2000000) only [go_sem]
  refine cond_split (fun d => ?_) fun d => ?_
  · simp -implicitDefEqProofs (maxSteps := 2000000) only [go_sem]
    have d : ¬ (a.length : Int) = b.length := by simpa using d
    rw [decide_eq_false (fun h => d (by rw [h]))]
  have d : a.length = b.length := cast_ne d
  simp -implicitDefEqProofs (maxSteps := 2000000) only [go_sem]
  refine awp_loop Nat (fun k => mkSt [(0, .one (.im 1 (iss 0 a))), (1, .one (.im 1 (iss 0 b))), (5, .sc (.int .i64 k))] [] [] 1000)
    (fun k => k ≤ a.length ∧ a.take k = b.take k) (fun k => a.length - k) 0 ⟨by omega, rfl⟩ (le_st _ _ [] [] _ rfl (by simp -implicitDefEqProofs (maxSteps := 2000000) only [go_sem] <;> rfl) trivial trivial) ?_
  rintro k ⟨h1, h2⟩
  by_cases c1 : k < a.length
  · have c2 : k < b.length := by omega
    simp -implicitDefEqProofs (maxSteps := 2000000) only [go_sem, c1, c2]
    refine call_of (eqIntS_sat (a.getD k []) (b.getD k []) (h _ (mem_getD [] c1))) (by simp -implicitDefEqProofs (maxSteps := 2000000) only [go_sem]) (by kernel_rfl) (by simp -implicitDefEqProofs (maxSteps := 2000000) only [go_sem]) ?_
    simp -implicitDefEqProofs (maxSteps := 2000000) only [go_sem]
    refine cond_split (fun e => ?_) fun e => ?_
    · simp -implicitDefEqProofs (maxSteps := 2000000) only [go_sem]
      rw [decide_eq_false (list_ne (d := []) (k := k) (by simpa using e))]
    simp -implicitDefEqProofs (maxSteps := 2000000) only [go_sem]
    rw [i64_succ (by omega)]
    exact ⟨k + 1, ⟨c1, list_step [] c1 c2 h2 (by simpa using e)⟩, by omega, (le_st _ _ [] [] _ rfl (by simp -implicitDefEqProofs (maxSteps := 2000000) only [go_sem] <;> rfl) trivial trivial)⟩
  · simp -implicitDefEqProofs (maxSteps := 2000000) only [go_sem, c1]
    rw [List.take_of_length_le (by omega), List.take_of_length_le (by omega)] at h2
    rw [decide_eq_true h2]
theorem iss_setCell {s : Nat} {l : List (List Int)} {i : Nat} (x : List Int) (h : i < l.length) : Rows.setCell (iss s l) i 0 (.sl s (iv x)) = iss s (l.set i x) := by
  unfold Rows.setCell
  rw [iss_get h]
  exact iss_set s l i x
attribute [go_sem] iss_setCell
theorem markIntSS_sat (a : List (List Int)) (k : Int) (h : 0 ≤ k ∧ k + numIS a ≤ 9223372036854775807) (hl : a.length ≤ 9223372036854775807) : Sat Try.prog 15 [oISS a, lInt k] [lInt (k + numIS a)] [oISS (markIS a k), g1] := by
  refine sat_of_body mixed Try.func15 rfl (by kernel_rfl) (by kernel_rfl) (rs := [.tmp 4]) rfl rfl rfl ?_
  simp -implicitDefEqProofs (maxSteps := 2000000) only [go_sem]
  refine awp_loop (Nat × List (List Int)) (fun x => mkSt [(0, .one (.ref 0 1 0 a.length)), (1, .sc (.int .i64 (k + numIS (a.take x.1)))), (5, .sc (.int .i64 x.1))] [] [(0, (1, iss 999 x.2))] 1000)
    (fun x => x.1 ≤ a.length ∧ x.2.length = a.length ∧ x.2.take x.1 = (markIS a k).take x.1 ∧ x.2.drop x.1 = a.drop x.1) (fun x => a.length - x.1) (0, a) ⟨by simp, rfl, rfl, rfl⟩ (le_st _ _ [⟨0, some 0, false, 1, _⟩] [] _ rfl (by simp -implicitDefEqProofs (maxSteps := 2000000) only [go_sem] <;> rfl) (by simp -implicitDefEqProofs (maxSteps := 2000000) only [go_sem] <;> rfl) (by simp -implicitDefEqProofs (maxSteps := 2000000) only [go_sem] <;> rfl)) ?_
  rintro ⟨i, b⟩ ⟨h1, h2, h3, h4⟩
  simp only at h1 h2 h3 h4
  by_cases c1 : i < a.length
  · have n1 := numIS_take c1
    have n2 := numIS_le (a := a) (i + 1)
    have e1 := drop_get (d := []) h2 h4 c1
    simp -implicitDefEqProofs (maxSteps := 2000000) only [go_sem, c1, h2, List.length_take, Nat.min_self]
    refine call_of (markIntS_sat (b.getD i []) (k + numIS (a.take i)) (by rw [e1]; omega)) (by simp -implicitDefEqProofs (maxSteps := 2000000) only [go_sem, c1, h2, List.length_take, Nat.min_self]) (by kernel_rfl) (by simp -implicitDefEqProofs (maxSteps := 2000000) only [go_sem, c1, h2, List.length_take, Nat.min_self]) ?_
    simp -implicitDefEqProofs (maxSteps := 2000000) only [go_sem, c1, h2, List.length_take, Nat.min_self]
    rw [i64_succ (by omega), show k + (numIS (a.take i) : Int) + ((b.getD i []).length : Int) = k + (numIS (a.take (i + 1)) : Int) by rw [n1, e1]; omega]
    refine ⟨(i + 1, b.set i (cnt (k + numIS (a.take i)) (b.getD i []).length)), ⟨c1, by simpa using h2, ?_, drop_set _ h4⟩, by simp; omega, (le_st _ _ [⟨0, some 0, false, 1, _⟩] [] _ rfl (by simp -implicitDefEqProofs (maxSteps := 2000000) only [go_sem, c1, h2] <;> rfl) (by simp -implicitDefEqProofs (maxSteps := 2000000) only [go_sem, c1, h2] <;> rfl) (by simp -implicitDefEqProofs (maxSteps := 2000000) only [go_sem, c1, h2] <;> rfl))⟩
    exact take_set_to (d := []) (by rw [markIS_length]; exact h2) h3 (by rw [markIS_length]; exact c1) (by rw [markIS_get c1, e1])
  · have hb : b = markIS a k := of_take (by rw [markIS_length]; exact h2) h3 (by rw [markIS_length]; omega)
    simp -implicitDefEqProofs (maxSteps := 2000000) only [go_sem, c1, h2, List.length_take, Nat.min_self]
    rw [List.take_of_length_le (by omega), hb]
    exact ⟨rfl, rfl, rfl⟩
theorem heldIntSS_sat (a : List (List Int)) (k : Int) (h : 0 ≤ k ∧ k + numIS a ≤ 9223372036854775807) (hl : a.length ≤ 9223372036854775807) : Sat Try.prog 16 [lISS (markIS a k), lInt k] [lInt (k + numIS a)] [g1, g1] := by
  refine sat_of_body mixed Try.func16 rfl (by kernel_rfl) (by kernel_rfl) (rs := [.tmp 4]) rfl rfl rfl ?_
  simp -implicitDefEqProofs (maxSteps := 2000000) only [go_sem]
  refine awp_loop Nat (fun i => mkSt [(0, .one (.im 1 (iss 0 (markIS a k)))), (1, .sc (.int .i64 (k + numIS (a.take i)))), (5, .sc (.int .i64 i))] [] [] 1000)
    (fun i => i ≤ a.length) (fun i => a.length - i) 0 (by omega) (le_st _ _ [] [] _ rfl (by simp -implicitDefEqProofs (maxSteps := 2000000) only [go_sem] <;> rfl) trivial trivial) ?_
  rintro i h1
  by_cases c1 : i < a.length
  · have n1 := numIS_take c1
    have n2 := numIS_le (a := a) (i + 1)
    have e1 := markIS_get (k := k) c1
    simp -implicitDefEqProofs (maxSteps := 2000000) only [go_sem, c1, markIS_length, e1]
    refine call_of (heldIntS_sat (a.getD i []).length (k + numIS (a.take i)) (by omega)) (by simp -implicitDefEqProofs (maxSteps := 2000000) only [go_sem, c1, markIS_length, e1]) (by kernel_rfl) (by simp -implicitDefEqProofs (maxSteps := 2000000) only [go_sem, c1, markIS_length, e1]) ?_
    simp -implicitDefEqProofs (maxSteps := 2000000) only [go_sem, c1, markIS_length, e1]
    refine cond_split (fun d => ?_) fun d => ?_
    · have := of_decide_eq_true d; omega
    simp -implicitDefEqProofs (maxSteps := 2000000) only [go_sem]
    rw [i64_succ (by omega), show k + (numIS (a.take i) : Int) + ((a.getD i []).length : Int) = k + (numIS (a.take (i + 1)) : Int) by rw [n1]; omega]
    exact ⟨i + 1, c1, by omega, (le_st _ _ [] [] _ rfl (by simp -implicitDefEqProofs (maxSteps := 2000000) only [go_sem] <;> rfl) trivial trivial)⟩
  · simp -implicitDefEqProofs (maxSteps := 2000000) only [go_sem, c1, markIS_length]
    rw [List.take_of_length_le (by omega)]
end Go.Proofs.Ytbalifgacjmbpaa.A
