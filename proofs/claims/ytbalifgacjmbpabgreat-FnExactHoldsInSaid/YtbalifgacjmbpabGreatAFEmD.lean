
/- LISTS OF EMBEDDINGS: how they lie, comparison, marks. Conditions: none. -/
import Derived.Test.YtbalifgacjmbpabGreatAFMQ
import Derived.Test.YtbalifgacjmbpabGreatAF2
namespace Go.Proofs.YtbalifgacjmbpabGreat.A
open Go
set_option linter.unusedSimpArgs false
set_option linter.unusedVariables false
set_option maxRecDepth 100000

abbrev lEms (a : List Emb) : LV := .one (.im 2 (ems 0 a))
abbrev oEms (a : List Emb) : LV := .one (.ow 2 (ems 1 a))

def numEm : List Emb → Nat
  | [] => 0
  | a :: l => a.vs.length + a.fs.length + numEm l
def markEm : List Emb → Int → List Emb
  | [], _ => []
  | a :: l, k => ⟨cnt k a.vs.length, cnt (k + a.vs.length) a.fs.length⟩ :: markEm l (k + a.vs.length + a.fs.length)
theorem numEm_nil : numEm [] = 0 := rfl
attribute [go_sem] numEm_nil
theorem markEm_length : ∀ (a : List Emb) (k : Int), (markEm a k).length = a.length
  | [], _ => rfl
  | a :: l, k => by rw [markEm, List.length_cons, List.length_cons, markEm_length]
theorem numEm_take {a : List Emb} {i : Nat} (h : i < a.length) : numEm (a.take (i + 1)) = numEm (a.take i) + (a.getD i default).vs.length + (a.getD i default).fs.length := by
  induction a generalizing i with
  | nil => simp at h
  | cons x a ih =>
    cases i with
    | zero => simp [numEm]
    | succ i =>
      have := ih (i := i) (by simpa using h)
      rw [List.take_succ_cons, List.take_succ_cons, numEm, numEm, this, List.getD_cons_succ]; omega
theorem numEm_le : ∀ {a : List Emb} (i : Nat), numEm (a.take i) ≤ numEm a
  | [], i => by simp [numEm]
  | x :: a, 0 => by simp [numEm]
  | x :: a, i + 1 => by
    rw [List.take_succ_cons, numEm, numEm]
    have := numEm_le (a := a) i
    omega
theorem numEm_small {n m : Nat} : ∀ {a : List Emb}, (∀ x ∈ a, x.vs.length ≤ n ∧ x.fs.length ≤ m) → numEm a ≤ a.length * (n + m)
  | [], _ => by simp [numEm]
  | x :: a, h => by
    have h1 := numEm_small (a := a) fun y hy => h y (List.mem_cons_of_mem _ hy)
    have h2 := h x (List.mem_cons_self ..)
    rw [numEm, List.length_cons, Nat.add_mul]; omega
theorem markEm_get : ∀ {a : List Emb} {k : Int} {i : Nat}, i < a.length → (markEm a k).getD i default = ⟨cnt (k + numEm (a.take i)) (a.getD i default).vs.length, cnt (k + numEm (a.take i) + (a.getD i default).vs.length) (a.getD i default).fs.length⟩
  | x :: a, k, 0, _ => by simp [markEm, numEm]
  | x :: a, k, i + 1, h => by
    rw [markEm, List.getD_cons_succ, markEm_get (by simpa using h), List.getD_cons_succ, List.take_succ_cons, numEm]
    have e : k + (x.vs.length : Int) + (x.fs.length : Int) + (numEm (a.take i) : Int) = k + ((x.vs.length + x.fs.length + numEm (a.take i) : Nat) : Int) := by omega
    rw [e]
theorem markEm_full (a : List Emb) (k : Int) : List.take a.length (markEm a k) = markEm a k := List.take_of_length_le (by rw [markEm_length]; omega)
attribute [go_sem] markEm_full
theorem Emb.eq_iff (a b : Emb) : decide (a = b) = (decide (a.vs = b.vs) && decide (a.fs = b.fs)) := by cases a; cases b; simp
theorem eqEmbeddingS_sat (a b : List Emb) (ha : a.length ≤ 9223372036854775807) (h : ∀ x ∈ a, x.vs.length ≤ 9223372036854775807 ∧ x.fs.length ≤ 9223372036854775807) : Sat Tryz.prog 14 [lEms a, lEms b] [lBool (decide (a = b))] [g1, g1] := by
  refine sat_of_body mixed Tryz.func14 rfl (by kernel_rfl) (by kernel_rfl) (rs := [.tmp 4]) rfl rfl rfl ?_
  simp -implicitDefEqProofs (maxSteps := 2000000) only [go_sem]
  refine cond_split (fun d => ?_) fun d => ?_
  · simp -implicitDefEqProofs (maxSteps := 2000000) only [go_sem]
    have d : ¬ (a.length : Int) = b.length := by simpa using d
    rw [decide_eq_false (fun h => d (by rw [h]))]
  have d : a.length = b.length := cast_ne d
  simp -implicitDefEqProofs (maxSteps := 2000000) only [go_sem]
  refine awp_loop Nat (fun k => mkSt [(0, .one (.im 2 (ems 0 a))), (1, .one (.im 2 (ems 0 b))), (5, .sc (.int .i64 k))] [] [] 1000)
    (fun k => k ≤ a.length ∧ a.take k = b.take k) (fun k => a.length - k) 0 ⟨by omega, rfl⟩ (le_st _ _ [] [] _ rfl (by simp -implicitDefEqProofs (maxSteps := 2000000) only [go_sem] <;> rfl) trivial trivial) ?_
  rintro k ⟨h1, h2⟩
  by_cases c1 : k < a.length
  · have c2 : k < b.length := by omega
    have hk := h _ (mem_getD default c1)
    simp -implicitDefEqProofs (maxSteps := 2000000) only [go_sem, c1, c2]
    refine call_of (eqEmbedding_sat (a.getD k default) (b.getD k default) hk.1 hk.2) (by simp -implicitDefEqProofs (maxSteps := 2000000) only [go_sem]) (by kernel_rfl) (by simp -implicitDefEqProofs (maxSteps := 2000000) only [go_sem]) ?_
    simp -implicitDefEqProofs (maxSteps := 2000000) only [go_sem]
    rw [← Emb.eq_iff]
    refine cond_split (fun e => ?_) fun e => ?_
    · simp -implicitDefEqProofs (maxSteps := 2000000) only [go_sem]
      rw [decide_eq_false (list_ne (d := default) (k := k) (by simpa using e))]
    simp -implicitDefEqProofs (maxSteps := 2000000) only [go_sem]
    rw [i64_succ (by omega)]
    exact ⟨k + 1, ⟨c1, list_step default c1 c2 h2 (by simpa using e)⟩, by omega, (le_st _ _ [] [] _ rfl (by simp -implicitDefEqProofs (maxSteps := 2000000) only [go_sem] <;> rfl) trivial trivial)⟩
  · simp -implicitDefEqProofs (maxSteps := 2000000) only [go_sem, c1]
    rw [List.take_of_length_le (by omega), List.take_of_length_le (by omega)] at h2
    rw [decide_eq_true h2]
theorem markEmbeddingS_sat (a : List Emb) (k : Int) (h : 0 ≤ k ∧ k + numEm a ≤ 9223372036854775807) (hl : a.length ≤ 9223372036854775807) : Sat Tryz.prog 19 [oEms a, lInt k] [lInt (k + numEm a)] [oEms (markEm a k), g1] := by
  refine sat_of_body mixed Tryz.func19 rfl (by kernel_rfl) (by kernel_rfl) (rs := [.tmp 4]) rfl rfl rfl ?_
  simp -implicitDefEqProofs (maxSteps := 2000000) only [go_sem]
  refine awp_loop (Nat × List Emb) (fun x => mkSt [(0, .one (.ref 0 2 0 a.length)), (1, .sc (.int .i64 (k + numEm (a.take x.1)))), (5, .sc (.int .i64 x.1))] [] [(0, (2, ems 999 x.2))] 1000)
    (fun x => x.1 ≤ a.length ∧ x.2.length = a.length ∧ x.2.take x.1 = (markEm a k).take x.1 ∧ x.2.drop x.1 = a.drop x.1) (fun x => a.length - x.1) (0, a) ⟨by simp, rfl, rfl, rfl⟩ (le_st _ _ [⟨0, some 0, false, 2, _⟩] [] _ rfl (by simp -implicitDefEqProofs (maxSteps := 2000000) only [go_sem] <;> rfl) (by simp -implicitDefEqProofs (maxSteps := 2000000) only [go_sem] <;> rfl) (by simp -implicitDefEqProofs (maxSteps := 2000000) only [go_sem] <;> rfl)) ?_
  rintro ⟨i, b⟩ ⟨h1, h2, h3, h4⟩
  simp only at h1 h2 h3 h4
  by_cases c1 : i < a.length
  · have n1 := numEm_take c1
    have n2 := numEm_le (a := a) (i + 1)
    have e1 := drop_get (d := default) h2 h4 c1
    obtain ⟨u, hu⟩ : ∃ u, u = b.getD i default := ⟨_, rfl⟩
    simp -implicitDefEqProofs (maxSteps := 2000000) only [go_sem, c1, h2, List.length_take, Nat.min_self]
    refine call_of (markIntS_sat (b.getD i default).vs (k + numEm (a.take i)) (by rw [e1]; omega)) (by simp -implicitDefEqProofs (maxSteps := 2000000) only [go_sem, c1, h2, List.length_take, Nat.min_self]) (by kernel_rfl) (by simp -implicitDefEqProofs (maxSteps := 2000000) only [go_sem, c1, h2, List.length_take, Nat.min_self]) ?_
    simp -implicitDefEqProofs (maxSteps := 2000000) only [go_sem, c1, h2, List.length_take, Nat.min_self]
    refine call_of (markIntS_sat (b.getD i default).fs (k + numEm (a.take i) + (b.getD i default).vs.length) (by rw [e1]; omega)) (by simp -implicitDefEqProofs (maxSteps := 2000000) only [go_sem, c1, h2, List.length_take, Nat.min_self]) (by kernel_rfl) (by simp -implicitDefEqProofs (maxSteps := 2000000) only [go_sem, c1, h2, List.length_take, Nat.min_self]) ?_
    simp -implicitDefEqProofs (maxSteps := 2000000) only [go_sem, c1, h2, List.length_take, Nat.min_self]
    rw [i64_succ (by omega), show k + (numEm (a.take i) : Int) + ((b.getD i default).vs.length : Int) + ((b.getD i default).fs.length : Int) = k + (numEm (a.take (i + 1)) : Int) by rw [n1, e1]; omega]
    refine ⟨(i + 1, b.set i ⟨cnt (k + numEm (a.take i)) (b.getD i default).vs.length, cnt (k + numEm (a.take i) + (b.getD i default).vs.length) (b.getD i default).fs.length⟩), ⟨c1, by simpa using h2, ?_, drop_set _ h4⟩, by simp; omega, (le_st _ _ [⟨0, some 0, false, 2, _⟩] [] _ rfl (by simp -implicitDefEqProofs (maxSteps := 2000000) only [go_sem, c1, h2] <;> rfl) (by simp -implicitDefEqProofs (maxSteps := 2000000) only [go_sem, c1, h2] <;> rfl) (by simp -implicitDefEqProofs (maxSteps := 2000000) only [go_sem, c1, h2] <;> rfl))⟩
    exact take_set_to (d := default) (by rw [markEm_length]; exact h2) h3 (by rw [markEm_length]; exact c1) (by rw [markEm_get c1, e1])
  · have hb : b = markEm a k := of_take (by rw [markEm_length]; exact h2) h3 (by rw [markEm_length]; omega)
    simp -implicitDefEqProofs (maxSteps := 2000000) only [go_sem, c1, h2, List.length_take, Nat.min_self]
    rw [List.take_of_length_le (by omega), hb]
    exact ⟨rfl, rfl, rfl⟩
theorem heldEmbeddingS_sat (a : List Emb) (k : Int) (h : 0 ≤ k ∧ k + numEm a ≤ 9223372036854775807) (hl : a.length ≤ 9223372036854775807) : Sat Tryz.prog 20 [lEms (markEm a k), lInt k] [lInt (k + numEm a)] [g1, g1] := by
  refine sat_of_body mixed Tryz.func20 rfl (by kernel_rfl) (by kernel_rfl) (rs := [.tmp 4]) rfl rfl rfl ?_
  simp -implicitDefEqProofs (maxSteps := 2000000) only [go_sem]
  refine awp_loop Nat (fun i => mkSt [(0, .one (.im 2 (ems 0 (markEm a k)))), (1, .sc (.int .i64 (k + numEm (a.take i)))), (5, .sc (.int .i64 i))] [] [] 1000)
    (fun i => i ≤ a.length) (fun i => a.length - i) 0 (by omega) (le_st _ _ [] [] _ rfl (by simp -implicitDefEqProofs (maxSteps := 2000000) only [go_sem] <;> rfl) trivial trivial) ?_
  rintro i h1
  by_cases c1 : i < a.length
  · have n1 := numEm_take c1
    have n2 := numEm_le (a := a) (i + 1)
    have e1 := markEm_get (k := k) c1
    simp -implicitDefEqProofs (maxSteps := 2000000) only [go_sem, c1, markEm_length, e1]
    refine call_of (heldIntS_sat (a.getD i default).vs.length (k + numEm (a.take i)) (by omega)) (by simp -implicitDefEqProofs (maxSteps := 2000000) only [go_sem, c1, markEm_length, e1]) (by kernel_rfl) (by simp -implicitDefEqProofs (maxSteps := 2000000) only [go_sem, c1, markEm_length, e1]) ?_
    simp -implicitDefEqProofs (maxSteps := 2000000) only [go_sem, c1, markEm_length, e1]
    refine cond_split (fun d => ?_) fun d => ?_
    · have := of_decide_eq_true d; omega
    simp -implicitDefEqProofs (maxSteps := 2000000) only [go_sem, c1, markEm_length, e1]
    refine call_of (heldIntS_sat (a.getD i default).fs.length (k + numEm (a.take i) + (a.getD i default).vs.length) (by omega)) (by simp -implicitDefEqProofs (maxSteps := 2000000) only [go_sem, c1, markEm_length, e1]) (by kernel_rfl) (by simp -implicitDefEqProofs (maxSteps := 2000000) only [go_sem, c1, markEm_length, e1]) ?_
    simp -implicitDefEqProofs (maxSteps := 2000000) only [go_sem, c1, markEm_length, e1]
    refine cond_split (fun d2 => ?_) fun d2 => ?_
    · have := of_decide_eq_true d2; omega
    simp -implicitDefEqProofs (maxSteps := 2000000) only [go_sem]
    rw [i64_succ (by omega), show k + (numEm (a.take i) : Int) + ((a.getD i default).vs.length : Int) + ((a.getD i default).fs.length : Int) = k + (numEm (a.take (i + 1)) : Int) by rw [n1]; omega]
    exact ⟨i + 1, c1, by omega, (le_st _ _ [] [] _ rfl (by simp -implicitDefEqProofs (maxSteps := 2000000) only [go_sem] <;> rfl) trivial trivial)⟩
  · simp -implicitDefEqProofs (maxSteps := 2000000) only [go_sem, c1, markEm_length]
    rw [List.take_of_length_le (by omega)]
end Go.Proofs.YtbalifgacjmbpabGreat.A
