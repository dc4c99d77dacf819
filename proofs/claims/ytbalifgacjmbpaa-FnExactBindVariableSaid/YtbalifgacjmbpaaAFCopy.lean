
/- QUERIES: copies. Conditions: none. -/
import Derived.Test.YtbalifgacjmbpaaAFMQ
namespace Go.Proofs.Ytbalifgacjmbpaa.A
open Go
set_option linter.unusedSimpArgs false
set_option linter.unusedVariables false
set_option maxRecDepth 100000

theorem repC {α : Type} (a : α) : List.replicate 1 a = [a] := rfl
theorem copyAtom_sat (a : RI) (h : a.l.length ≤ 1048576) : Sat Try.prog 73 [lRI a] [oRI a] [g2] := by
  refine sat_of_body mixed Try.func73 rfl (by kernel_rfl) (by kernel_rfl) (rs := [.cell 2 74]) rfl rfl rfl ?_
  simp -implicitDefEqProofs (maxSteps := 2000000) only [go_sem]
  repeat (refine ⟨by omega, ?_⟩)
  first | (with_reducible refine tr_and ?_ ?_; focus kernel_rfl) | (with_reducible refine tr_only ?_; kernel_rfl) | skip
  kernel_rfl
theorem implCopyQuery_sat (q : Qu) (h : q.ok) : Sat Try.prog 55 [lQu q] [oQu q] [g3] := by
  refine sat_of_body mixed Try.func55 rfl (by kernel_rfl) (by kernel_rfl) (rs := [.cell 2 47]) rfl rfl rfl ?_
  have hf := h.2
  have ha := h.1.1
  simp -implicitDefEqProofs (maxSteps := 2000000) only [go_sem]
  repeat (refine ⟨by omega, ?_⟩)
  first | (with_reducible refine tr_and ?_ ?_; focus kernel_rfl) | (with_reducible refine tr_only ?_; kernel_rfl) | skip
  refine awp_loop Nat (fun k => mkSt [(2, .one (.vad 1064 0)), (3, .one (.vad 1576 0)), (14, .one (.im 2 (ris 0 q.atoms))), (15, .sc (.int .i64 q.atoms.length)), (16, .sc (.int .i64 k))] [(1064, [.sc (.int .i64 0), .sc (.slice none 0 0), .sc (.slice none 0 0)]), (1576, [.sc (.int .i64 q.vc), .ref 960 2 0 k, .ref 961 1 0 q.free.length])] [(960, (2, ris 999 (q.atoms.take k))), (961, (1, ints q.free))] 4000)
    (fun k => k ≤ q.atoms.length) (fun k => q.atoms.length - k) 0 (by omega) (le_st' _ _ [⟨960, none, false, 2, _⟩, ⟨961, some _, false, 1, _⟩] [] _ (by simp -implicitDefEqProofs (maxSteps := 2000000) only [go_sem] <;> and_intros <;> rfl) (by simp -implicitDefEqProofs (maxSteps := 2000000) only [go_sem] <;> and_intros <;> rfl) (by simp -implicitDefEqProofs (maxSteps := 2000000) only [go_sem] <;> and_intros <;> rfl) (by rfl)) ?_
  rintro k h4
  by_cases c1 : k < q.atoms.length
  · have wk : IntKind.i64.wrap ((k : Int) + 1) = ((k + 1 : Nat) : Int) := i64_succ (by omega)
    have hx : (q.atoms.getD k default).l.length ≤ 1048576 := h.1.2 _ (mem_getD default c1)
    have ht : (q.atoms.take k).length = k := by rw [List.length_take]; omega
    simp -implicitDefEqProofs (maxSteps := 2000000) only [go_sem, c1]
    refine call_of (copyAtom_sat (q.atoms.getD k default) hx) (by simp -implicitDefEqProofs (maxSteps := 2000000) only [go_sem]) (callOk_still (by kernel_rfl) (by simp only [List.all_cons, List.all_nil, LV.still, LV.leaves, Leaf.still, ints_still, ris_still, eds_still, rels_still, iss_still, ems_still, Bool.and_self, Bool.and_true])) (by simp -implicitDefEqProofs (maxSteps := 2000000) only [go_sem]) ?_
    simp -implicitDefEqProofs (maxSteps := 2000000) only [go_sem]
    repeat (refine ⟨by omega, ?_⟩)
    refine tr_and (by kernel_rfl) ?_
    rw [wk]
    refine ⟨k + 1, c1, by omega, ?_⟩
    rw [take_snoc default c1]
    exact (le_st' _ _ [⟨960, some _, false, 2, _⟩, ⟨961, some _, false, 1, _⟩] [] _ (by simp -implicitDefEqProofs (maxSteps := 2000000) only [go_sem, ht, repC, List.set_cons_zero] <;> and_intros <;> rfl) (by simp -implicitDefEqProofs (maxSteps := 2000000) only [go_sem, ht, repC, List.set_cons_zero] <;> and_intros <;> rfl) (by simp -implicitDefEqProofs (maxSteps := 2000000) only [go_sem, ht, repC, List.set_cons_zero] <;> and_intros <;> rfl) (by rfl))
  · obtain rfl : k = q.atoms.length := by omega
    rw [List.take_length]
    simp -implicitDefEqProofs (maxSteps := 2000000) only [go_sem, c1]
    kernel_rfl
theorem specCopy_sat (q : Qu) (h : q.ok) : Sat Try.prog 52 [lQu q] [oQu q] [g3] := by
  refine sat_of_body mixed Try.func52 rfl (by kernel_rfl) (by kernel_rfl) (rs := [.cell 2 47]) rfl rfl rfl ?_
  have hf := h.2
  have ha := h.1.1
  simp -implicitDefEqProofs (maxSteps := 2000000) only [go_sem]
  repeat (refine ⟨by omega, ?_⟩)
  first | (with_reducible refine tr_and ?_ ?_; focus kernel_rfl) | (with_reducible refine tr_only ?_; kernel_rfl) | skip
  refine awp_loop Nat (fun k => mkSt [(1, .one (.vad 1000 0)), (2, .one (.vad 1064 0)), (3, .one (.vad 1576 0)), (4, .sc (.int .i64 k))] [(1000, sQu q), (1064, [.sc (.int .i64 0), .sc (.slice none 0 0), .sc (.slice none 0 0)]), (1576, [.sc (.int .i64 q.vc), .ref 960 2 0 k, .ref 961 1 0 q.free.length])] [(960, (2, ris 999 (q.atoms.take k))), (961, (1, ints q.free))] 4000)
    (fun k => k ≤ q.atoms.length) (fun k => q.atoms.length - k) 0 (by omega) (le_st' _ _ [⟨960, none, false, 2, _⟩, ⟨961, some _, false, 1, _⟩] [] _ (by simp -implicitDefEqProofs (maxSteps := 2000000) only [go_sem] <;> and_intros <;> rfl) (by simp -implicitDefEqProofs (maxSteps := 2000000) only [go_sem] <;> and_intros <;> rfl) (by simp -implicitDefEqProofs (maxSteps := 2000000) only [go_sem] <;> and_intros <;> rfl) (by rfl)) ?_
  rintro k h4
  by_cases c1 : k < q.atoms.length
  · have wk : IntKind.i64.wrap ((k : Int) + 1) = ((k + 1 : Nat) : Int) := i64_succ (by omega)
    have hx : (q.atoms.getD k default).l.length ≤ 1048576 := h.1.2 _ (mem_getD default c1)
    have ht : (q.atoms.take k).length = k := by rw [List.length_take]; omega
    simp -implicitDefEqProofs (maxSteps := 2000000) only [go_sem, c1]
    repeat (refine ⟨by omega, ?_⟩)
    refine tr_and (by kernel_rfl) ?_
    rw [wk]
    refine ⟨k + 1, c1, by omega, ?_⟩
    rw [take_snoc default c1]
    exact (le_st' _ _ [⟨960, some _, false, 2, _⟩, ⟨961, some _, false, 1, _⟩] [] _ (by simp -implicitDefEqProofs (maxSteps := 2000000) only [go_sem, ht, repC, List.set_cons_zero] <;> and_intros <;> rfl) (by simp -implicitDefEqProofs (maxSteps := 2000000) only [go_sem, ht, repC, List.set_cons_zero] <;> and_intros <;> rfl) (by simp -implicitDefEqProofs (maxSteps := 2000000) only [go_sem, ht, repC, List.set_cons_zero] <;> and_intros <;> rfl) (by rfl))
  · obtain rfl : k = q.atoms.length := by omega
    rw [List.take_length]
    simp -implicitDefEqProofs (maxSteps := 2000000) only [go_sem, c1]
    kernel_rfl
end Go.Proofs.Ytbalifgacjmbpaa.A
