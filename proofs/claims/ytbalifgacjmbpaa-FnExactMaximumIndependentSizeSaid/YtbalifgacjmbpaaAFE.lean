
/- CONFLICT EDGES: size, copy, comparison, marks; marks of databases. Conditions: none. -/
import Derived.Test.YtbalifgacjmbpaaAFMR
namespace Go.Proofs.Ytbalifgacjmbpaa.A
open Go
set_option linter.unusedSimpArgs false
set_option linter.unusedVariables false
set_option maxRecDepth 100000

theorem toConflictEdge_sat (x : Edge) : Sat Try.prog 36 [.agg [.sc (.int .i64 x.a), .sc (.int .i64 x.b)]] [.agg [.sc (.int .i64 x.a), .sc (.int .i64 x.b)]] [g2] := by
  refine sat_of_body mixed Try.func36 rfl (by kernel_rfl) (by kernel_rfl) (rs := [.cell 2 59]) rfl rfl rfl ?_
  simp -implicitDefEqProofs (maxSteps := 2000000) only [go_sem]
theorem toConflictEdgeS_sat (a : List Edge) (h : a.length ≤ 1048576) : Sat Try.prog 10 [lEds a] [oEds a] [g1] := by
  refine sat_of_body mixed Try.func10 rfl (by kernel_rfl) (by kernel_rfl) (rs := [.tmp 2]) rfl rfl rfl ?_
  simp -implicitDefEqProofs (maxSteps := 2000000) only [go_sem]
  refine ⟨by omega, ?_⟩
  refine awp_loop (Nat × List Edge) (fun x => mkSt [(0, .one (.im 2 (eds a))), (3, .one (.ref 960 2 0 a.length)), (4, .sc (.int .i64 x.1))] [] [(960, (2, eds x.2))] 1000)
    (fun x => x.1 ≤ a.length ∧ x.2.length = a.length ∧ x.2.take x.1 = a.take x.1) (fun x => a.length - x.1) (0, List.replicate a.length ⟨0, 0⟩) ⟨by simp, by simp, by simp⟩ (le_st' _ _ [⟨960, some _, false, 2, _⟩] [] _ (by simp -implicitDefEqProofs (maxSteps := 2000000) only [go_sem] <;> and_intros <;> rfl) (by simp -implicitDefEqProofs (maxSteps := 2000000) only [go_sem] <;> and_intros <;> rfl) (by simp -implicitDefEqProofs (maxSteps := 2000000) only [go_sem] <;> and_intros <;> rfl) (by rfl)) ?_
  rintro ⟨k, b⟩ ⟨h1, h2, h3⟩
  simp only at h1 h2 h3
  by_cases c1 : k < a.length
  · simp -implicitDefEqProofs (maxSteps := 2000000) only [go_sem, c1, h2]
    refine call_of (toConflictEdge_sat (a.getD k default)) (by simp -implicitDefEqProofs (maxSteps := 2000000) only [go_sem, h2, c1]) (by kernel_rfl) (by simp -implicitDefEqProofs (maxSteps := 2000000) only [go_sem, h2, c1]) ?_
    simp -implicitDefEqProofs (maxSteps := 2000000) only [go_sem, h2, c1]
    rw [i64_succ (by omega)]
    exact ⟨(k + 1, b.set k (a.getD k default)), ⟨c1, by simpa using h2, take_set_snoc default h2 h3 c1⟩, by simp; omega, (le_st' _ _ [⟨960, some _, false, 2, _⟩] [] _ (by simp -implicitDefEqProofs (maxSteps := 2000000) only [go_sem] <;> and_intros <;> rfl) (by simp -implicitDefEqProofs (maxSteps := 2000000) only [go_sem] <;> and_intros <;> rfl) (by simp -implicitDefEqProofs (maxSteps := 2000000) only [go_sem] <;> and_intros <;> rfl) (by rfl))⟩
  · obtain rfl := of_take h2 h3 (by omega)
    simp -implicitDefEqProofs (maxSteps := 2000000) only [go_sem, c1]
    rfl
def szEds (a : List Edge) (n : Int) : Int := if n - a.length < 0 then -1 else n - a.length
theorem szEds_ok : SzOk szEds (fun a => a.length ≤ 1048576) := by
  intro a n h
  unfold szEds
  split
  · exact ⟨by omega, fun h => absurd (by omega) h⟩
  · exact ⟨by omega, fun h => by omega⟩
theorem szConflictEdgeS_sat (a : List Edge) (n : Int) (h : -1 ≤ n ∧ n ≤ 1048576) (ha : a.length ≤ 9223372036854775807) : Sat Try.prog 8 [lEds a, lInt n] [lInt (szEds a n)] [g1, g1] := by
  unfold szEds
  refine sat_of_body mixed Try.func8 rfl (by kernel_rfl) (by kernel_rfl) (rs := [.tmp 4]) rfl rfl rfl ?_
  simp -implicitDefEqProofs (maxSteps := 2000000) only [go_sem]
  rw [IntWalk.i64_in _ (by omega)]
  refine cond_split (fun d => ?_) fun d => ?_
  · have d := of_decide_eq_true d
    simp -implicitDefEqProofs (maxSteps := 2000000) only [go_sem]
    rw [if_pos d]
  · have d := of_decide_eq_false d
    simp -implicitDefEqProofs (maxSteps := 2000000) only [go_sem]
    rw [if_neg d]
theorem eqConflictEdge_sat (a b : Edge) : Sat Try.prog 42 [.agg [.sc (.int .i64 a.a), .sc (.int .i64 a.b)], .agg [.sc (.int .i64 b.a), .sc (.int .i64 b.b)]] [lBool (decide (a = b))] [g2, g2] := by
  refine sat_of_body mixed Try.func42 rfl (by kernel_rfl) (by kernel_rfl) (rs := [.tmp 4]) rfl rfl rfl ?_
  rcases a with ⟨a1, a2⟩
  rcases b with ⟨b1, b2⟩
  simp -implicitDefEqProofs (maxSteps := 2000000) only [go_sem]
  rcases e1 : a1 != b1
  case true => simp -implicitDefEqProofs (maxSteps := 2000000) only [go_sem, e1]; rw [decide_eq_false (by simp at e1; simp [e1])]
  simp -implicitDefEqProofs (maxSteps := 2000000) only [go_sem, e1]
  rcases e2 : a2 != b2
  case true => simp -implicitDefEqProofs (maxSteps := 2000000) only [go_sem, e2]; rw [decide_eq_false (by simp at e2; simp [e2])]
  simp -implicitDefEqProofs (maxSteps := 2000000) only [go_sem, e2]
  rw [decide_eq_true (by simp at e1 e2; simp [e1, e2])]
theorem eqConflictEdgeS_sat (a b : List Edge) (ha : a.length ≤ 9223372036854775807) : Sat Try.prog 13 [lEds a, lEds b] [lBool (decide (a = b))] [g1, g1] := by
  refine sat_of_body mixed Try.func13 rfl (by kernel_rfl) (by kernel_rfl) (rs := [.tmp 4]) rfl rfl rfl ?_
  simp -implicitDefEqProofs (maxSteps := 2000000) only [go_sem]
  refine cond_split (fun d => ?_) fun d => ?_
  · simp -implicitDefEqProofs (maxSteps := 2000000) only [go_sem]
    have d : ¬ (a.length : Int) = b.length := by simpa using d
    rw [decide_eq_false (fun h => d (by rw [h]))]
  have d : a.length = b.length := cast_ne d
  simp -implicitDefEqProofs (maxSteps := 2000000) only [go_sem]
  refine awp_loop Nat (fun k => mkSt [(0, .one (.im 2 (eds a))), (1, .one (.im 2 (eds b))), (5, .sc (.int .i64 k))] [] [] 1000)
    (fun k => k ≤ a.length ∧ a.take k = b.take k) (fun k => a.length - k) 0 ⟨by omega, rfl⟩ (le_st _ _ [] [] _ rfl (by simp -implicitDefEqProofs (maxSteps := 2000000) only [go_sem] <;> rfl) trivial trivial) ?_
  rintro k ⟨h1, h2⟩
  by_cases c1 : k < a.length
  · have c2 : k < b.length := by omega
    simp -implicitDefEqProofs (maxSteps := 2000000) only [go_sem, c1, c2]
    refine call_of (eqConflictEdge_sat (a.getD k default) (b.getD k default)) (by simp -implicitDefEqProofs (maxSteps := 2000000) only [go_sem]) (by kernel_rfl) (by simp -implicitDefEqProofs (maxSteps := 2000000) only [go_sem]) ?_
    simp -implicitDefEqProofs (maxSteps := 2000000) only [go_sem]
    refine cond_split (fun e => ?_) fun e => ?_
    · simp -implicitDefEqProofs (maxSteps := 2000000) only [go_sem]
      rw [decide_eq_false (list_ne (d := default) (k := k) (by simpa using e))]
    simp -implicitDefEqProofs (maxSteps := 2000000) only [go_sem]
    rw [i64_succ (by omega)]
    exact ⟨k + 1, ⟨c1, list_step default c1 c2 h2 (by simpa using e)⟩, by omega, (le_st _ _ [] [] _ rfl (by simp -implicitDefEqProofs (maxSteps := 2000000) only [go_sem] <;> rfl) trivial trivial)⟩
  · simp -implicitDefEqProofs (maxSteps := 2000000) only [go_sem, c1]
    rw [List.take_of_length_le (by omega), List.take_of_length_le (by omega)] at h2
    rw [decide_eq_true h2]
def cntE : Int → Nat → List Edge
  | _, 0 => []
  | k, n + 1 => ⟨k, k + 1⟩ :: cntE (k + 2) n
theorem cntE_length : ∀ (k : Int) (n : Nat), (cntE k n).length = n
  | _, 0 => rfl
  | k, n + 1 => by rw [cntE, List.length_cons, cntE_length]
theorem cntE_get : ∀ {k : Int} {n i : Nat}, i < n → (cntE k n).getD i default = ⟨k + ((2 * i : Nat) : Int), k + ((2 * i : Nat) : Int) + 1⟩
  | k, n + 1, 0, _ => by simp [cntE]
  | k, n + 1, i + 1, h => by
    rw [cntE, List.getD_cons_succ, cntE_get (by omega), show k + 2 + ((2 * i : Nat) : Int) = k + ((2 * (i + 1) : Nat) : Int) by omega]
theorem cntE_full (k : Int) (n : Nat) : List.take n (cntE k n) = cntE k n := List.take_of_length_le (by rw [cntE_length]; omega)
attribute [go_sem] cntE_full
theorem markConflictEdgeS_sat (a : List Edge) (k : Int) (h : 0 ≤ k ∧ k + ((2 * a.length : Nat) : Int) ≤ 9223372036854775807) : Sat Try.prog 14 [oEds a, lInt k] [lInt (k + ((2 * a.length : Nat) : Int))] [oEds (cntE k a.length), g1] := by
  refine sat_of_body mixed Try.func14 rfl (by kernel_rfl) (by kernel_rfl) (rs := [.tmp 4]) rfl rfl rfl ?_
  simp -implicitDefEqProofs (maxSteps := 2000000) only [go_sem]
  refine awp_loop (Nat × List Edge) (fun x => mkSt [(0, .one (.ref 0 2 0 a.length)), (1, .sc (.int .i64 (k + ((2 * x.1 : Nat) : Int)))), (5, .sc (.int .i64 x.1))] [] [(0, (2, eds x.2))] 1000)
    (fun x => x.1 ≤ a.length ∧ x.2.length = a.length ∧ x.2.take x.1 = (cntE k a.length).take x.1) (fun x => a.length - x.1) (0, a) ⟨by simp, rfl, rfl⟩ (le_st _ _ [⟨0, some 0, false, 2, _⟩] [] _ rfl (by simp -implicitDefEqProofs (maxSteps := 2000000) only [go_sem, Nat.mul_zero] <;> rfl) (by simp -implicitDefEqProofs (maxSteps := 2000000) only [go_sem, Nat.mul_zero] <;> rfl) (by simp -implicitDefEqProofs (maxSteps := 2000000) only [go_sem, Nat.mul_zero] <;> rfl)) ?_
  rintro ⟨i, b⟩ ⟨h1, h2, h3⟩
  simp only at h1 h2 h3
  by_cases c1 : i < a.length
  · have w1 : IntKind.i64.wrap (k + ((2 * i : Nat) : Int) + 1) = k + ((2 * i : Nat) : Int) + 1 := IntWalk.i64_in _ (by omega)
    have w2 : IntKind.i64.wrap (k + ((2 * i : Nat) : Int) + 1 + 1) = k + ((2 * (i + 1) : Nat) : Int) := by rw [IntWalk.i64_in _ (by omega)]; omega
    simp -implicitDefEqProofs (maxSteps := 2000000) only [go_sem, c1, h2, List.length_take, Nat.min_self, w1, w2]
    rw [i64_succ (by omega)]
    refine ⟨(i + 1, b.set i ⟨k + ((2 * i : Nat) : Int), k + ((2 * i : Nat) : Int) + 1⟩), ⟨c1, by simpa using h2, ?_⟩, by simp; omega, (le_st _ _ [⟨0, some 0, false, 2, _⟩] [] _ rfl (by simp -implicitDefEqProofs (maxSteps := 2000000) only [go_sem, c1, h2] <;> rfl) (by simp -implicitDefEqProofs (maxSteps := 2000000) only [go_sem, c1, h2] <;> rfl) (by simp -implicitDefEqProofs (maxSteps := 2000000) only [go_sem, c1, h2] <;> rfl))⟩
    exact take_set_to (d := default) (by rw [cntE_length]; exact h2) h3 (by rw [cntE_length]; exact c1) (cntE_get c1)
  · have hb : b = cntE k a.length := of_take (by rw [cntE_length]; exact h2) h3 (by rw [cntE_length]; omega)
    obtain rfl : i = a.length := by omega
    simp -implicitDefEqProofs (maxSteps := 2000000) only [go_sem, c1, h2, List.length_take, Nat.min_self]
    rw [hb]
    first | done | rfl | exact ⟨rfl, rfl⟩ | exact ⟨rfl, rfl, rfl⟩ | (refine tr_and ?_ ?_ <;> first | rfl | exact ⟨rfl, rfl⟩ | kernel_rfl)
def numDb (d : Db) : Nat := 3 * d.rels.length + numRI d.facts
theorem numDb_ok {d : Db} (h : d.ok) : numDb d ≤ 1048577 * 1048577 + 3 * 1048576 := by
  have h1 := numRI_ok h.2.2
  have h2 := h.1.1
  have h3 := h.2.1
  unfold numDb
  have : d.facts.length * 1048577 ≤ 1048576 * 1048577 := Nat.mul_le_mul_right _ h3
  omega
end Go.Proofs.Ytbalifgacjmbpaa.A
