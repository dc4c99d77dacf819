
/- MARKS OF ATOMS AND QUERIES. Conditions: none. -/
import Derived.Test.YtbalifgacjmbpabGreatAFM
import Derived.Test.YtbalifgacjmbpabGreatAF3
namespace Go.Proofs.YtbalifgacjmbpabGreat.A
open Go
set_option linter.unusedSimpArgs false
set_option linter.unusedVariables false
set_option maxRecDepth 100000

/-- How many numbers stand in rows. -/
def numRI : List RI → Nat
  | [] => 0
  | a :: l => 1 + a.l.length + numRI l
theorem numRI_nil : numRI [] = 0 := rfl
attribute [go_sem] numRI_nil
def markRI : List RI → Int → List RI
  | [], _ => []
  | a :: l, k => ⟨k, cnt (k + 1) a.l.length⟩ :: markRI l (k + 1 + a.l.length)
theorem markRI_length : ∀ (a : List RI) (k : Int), (markRI a k).length = a.length
  | [], _ => rfl
  | a :: l, k => by rw [markRI, List.length_cons, List.length_cons, markRI_length]
theorem numRI_take {a : List RI} {i : Nat} (h : i < a.length) : numRI (a.take (i + 1)) = numRI (a.take i) + 1 + (a.getD i default).l.length := by
  induction a generalizing i with
  | nil => simp at h
  | cons x a ih =>
    cases i with
    | zero => simp [numRI]
    | succ i =>
      have := ih (i := i) (by simpa using h)
      rw [List.take_succ_cons, List.take_succ_cons, numRI, numRI, this, List.getD_cons_succ]; omega
theorem numRI_le : ∀ {a : List RI} (i : Nat), numRI (a.take i) ≤ numRI a
  | [], i => by simp [numRI]
  | x :: a, 0 => by simp [numRI]
  | x :: a, i + 1 => by
    rw [List.take_succ_cons, numRI, numRI]
    have := numRI_le (a := a) i
    omega
theorem numRI_ok : ∀ {a : List RI}, (∀ x ∈ a, x.ok) → numRI a ≤ a.length * 1048577
  | [], _ => by simp [numRI]
  | x :: a, h => by
    have h1 := numRI_ok (a := a) fun y hy => h y (List.mem_cons_of_mem _ hy)
    have h2 := h x (List.mem_cons_self ..)
    unfold RI.ok at h2
    rw [numRI, List.length_cons]; omega
theorem markRI_get : ∀ {a : List RI} {k : Int} {i : Nat}, i < a.length → (markRI a k).getD i default = ⟨k + numRI (a.take i), cnt (k + numRI (a.take i) + 1) (a.getD i default).l.length⟩
  | x :: a, k, 0, _ => by simp [markRI, numRI]
  | x :: a, k, i + 1, h => by
    rw [markRI, List.getD_cons_succ, markRI_get (by simpa using h), List.getD_cons_succ, List.take_succ_cons, numRI]
    have e : k + 1 + (x.l.length : Int) + (numRI (a.take i) : Int) = k + ((1 + x.l.length + numRI (a.take i) : Nat) : Int) := by omega
    rw [e]
theorem drop_get {α : Type} {d : α} {a b : List α} {i : Nat} (hl : b.length = a.length) (h : b.drop i = a.drop i) (hi : i < a.length) : b.getD i d = a.getD i d := by
  rw [drop_cons d (by omega), drop_cons d hi] at h
  exact (List.cons.inj h).1
theorem drop_set {α : Type} {a b : List α} {i : Nat} (x : α) (h : b.drop i = a.drop i) : (b.set i x).drop (i + 1) = a.drop (i + 1) := by
  rw [List.drop_set_of_lt (by omega), ← List.drop_drop, ← List.drop_drop, h]
theorem take_set_to {α : Type} {a b : List α} {i : Nat} {x d : α} (hl : b.length = a.length) (h : b.take i = a.take i) (hi : i < a.length) (hx : a.getD i d = x) : (b.set i x).take (i + 1) = a.take (i + 1) := by
  rw [← hx]; exact take_set_snoc d hl h hi
theorem markAtomS_sat (a : List RI) (k : Int) (h : 0 ≤ k ∧ k + numRI a ≤ 9223372036854775807) (hl : a.length ≤ 9223372036854775807) : Sat Tryz.prog 57 [oRIs a, lInt k] [lInt (k + numRI a)] [oRIs (markRI a k), g1] := by
  refine sat_of_body mixed Tryz.func57 rfl (by kernel_rfl) (by kernel_rfl) (rs := [.tmp 4]) rfl rfl rfl ?_
  simp -implicitDefEqProofs (maxSteps := 2000000) only [go_sem]
  refine awp_loop (Nat × List RI) (fun x => mkSt [(0, .one (.ref 0 2 0 a.length)), (1, .sc (.int .i64 (k + numRI (a.take x.1)))), (5, .sc (.int .i64 x.1))] [] [(0, (2, ris 999 x.2))] 1000)
    (fun x => x.1 ≤ a.length ∧ x.2.length = a.length ∧ x.2.take x.1 = (markRI a k).take x.1 ∧ x.2.drop x.1 = a.drop x.1) (fun x => a.length - x.1) (0, a) ⟨by simp, rfl, rfl, rfl⟩ (le_st _ _ [⟨0, some 0, false, 2, _⟩] [] _ rfl (by simp -implicitDefEqProofs (maxSteps := 2000000) only [go_sem] <;> rfl) (by simp -implicitDefEqProofs (maxSteps := 2000000) only [go_sem] <;> rfl) (by simp -implicitDefEqProofs (maxSteps := 2000000) only [go_sem] <;> rfl)) ?_
  rintro ⟨i, b⟩ ⟨h1, h2, h3, h4⟩
  simp only at h1 h2 h3 h4
  by_cases c1 : i < a.length
  · have n1 := numRI_take c1
    have n2 := numRI_le (a := a) (i + 1)
    have e1 := drop_get (d := default) h2 h4 c1
    simp -implicitDefEqProofs (maxSteps := 2000000) only [go_sem, c1, h2, List.length_take, Nat.min_self]
    rw [IntWalk.i64_in _ (by omega)]
    refine call_of (markIntS_sat (b.getD i default).l (k + numRI (a.take i) + 1) (by rw [e1]; omega)) (by simp -implicitDefEqProofs (maxSteps := 2000000) only [go_sem, c1, h2, List.length_take, Nat.min_self]) (by kernel_rfl) (by simp -implicitDefEqProofs (maxSteps := 2000000) only [go_sem, c1, h2, List.length_take, Nat.min_self]) ?_
    simp -implicitDefEqProofs (maxSteps := 2000000) only [go_sem, c1, h2, List.length_take, Nat.min_self]
    rw [i64_succ (by omega), show k + (numRI (a.take i) : Int) + 1 + ((b.getD i default).l.length : Int) = k + (numRI (a.take (i + 1)) : Int) by rw [n1, e1]; omega]
    refine ⟨(i + 1, b.set i ⟨k + numRI (a.take i), cnt (k + numRI (a.take i) + 1) (b.getD i default).l.length⟩), ⟨c1, by simpa using h2, ?_, drop_set _ h4⟩, by simp; omega, (le_st _ _ [⟨0, some 0, false, 2, _⟩] [] _ rfl (by simp -implicitDefEqProofs (maxSteps := 2000000) only [go_sem, c1, h2] <;> rfl) (by simp -implicitDefEqProofs (maxSteps := 2000000) only [go_sem, c1, h2] <;> rfl) (by simp -implicitDefEqProofs (maxSteps := 2000000) only [go_sem, c1, h2] <;> rfl))⟩
    exact take_set_to (d := default) (by rw [markRI_length]; exact h2) h3 (by rw [markRI_length]; exact c1) (by rw [markRI_get c1, e1])
  · have hb : b = markRI a k := of_take (by rw [markRI_length]; exact h2) h3 (by rw [markRI_length]; omega)
    simp -implicitDefEqProofs (maxSteps := 2000000) only [go_sem, c1, h2, List.length_take, Nat.min_self]
    rw [List.take_of_length_le (by omega), hb]
    exact ⟨rfl, rfl, rfl⟩
def numQu (q : Qu) : Nat := numRI q.atoms + q.free.length
def markQu (q : Qu) (k : Int) : Qu := ⟨q.vc, markRI q.atoms k, cnt (k + numRI q.atoms) q.free.length⟩
theorem numQu_ok {q : Qu} (h : q.ok) : numQu q ≤ 1048577 * 1048577 := by
  have h1 := numRI_ok h.1.2
  have h2 := h.2
  have h3 := h.1.1
  unfold numQu
  have : q.atoms.length * 1048577 ≤ 1048576 * 1048577 := Nat.mul_le_mul_right _ h3
  omega
theorem markQuery_sat (q : Qu) (k : Int) (h : 0 ≤ k ∧ k + numQu q ≤ 9223372036854775807) (hl : q.fit) : Sat Tryz.prog 18 [oQu q, lInt k] [lInt (k + numQu q)] [uQu (markQu q k), g1] := by
  refine sat_of_body mixed Tryz.func18 rfl (by kernel_rfl) (by kernel_rfl) (rs := [.tmp 4]) rfl rfl rfl ?_
  unfold numQu at h ⊢
  simp -implicitDefEqProofs (maxSteps := 2000000) only [go_sem]
  refine call_of (markAtomS_sat q.atoms k (by omega) hl.1.1) (by simp -implicitDefEqProofs (maxSteps := 2000000) only [go_sem]) (by kernel_rfl) (by simp -implicitDefEqProofs (maxSteps := 2000000) only [go_sem]) ?_
  simp -implicitDefEqProofs (maxSteps := 2000000) only [go_sem]
  refine call_of (markIntS_sat q.free (k + numRI q.atoms) (by omega)) (by simp -implicitDefEqProofs (maxSteps := 2000000) only [go_sem]) (by kernel_rfl) (by simp -implicitDefEqProofs (maxSteps := 2000000) only [go_sem]) ?_
  simp -implicitDefEqProofs (maxSteps := 2000000) only [go_sem]
  refine ⟨by rw [Int.natCast_add, Int.add_assoc], ⟨rfl, rfl⟩, rfl⟩
end Go.Proofs.YtbalifgacjmbpabGreat.A
