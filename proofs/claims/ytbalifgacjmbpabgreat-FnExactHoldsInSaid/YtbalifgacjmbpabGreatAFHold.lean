
/- DOES A QUERY HOLD IN CHOSEN FACTS. Conditions: none. -/
import Derived.Test.YtbalifgacjmbpabGreatAFSel
import Derived.Test.YtbalifgacjmbpabGreatAFEm4
namespace Go.Proofs.YtbalifgacjmbpabGreat.A
open Go
set_option linter.unusedSimpArgs false
set_option linter.unusedVariables false
set_option maxRecDepth 100000

theorem selD_ok {d : Db} (l : List Int) (h : d.ok) (hl : l.length ≤ 1048576) : (selD d l).ok := by
  unfold selD
  split
  · refine ⟨h.1, by rw [selF_length]; exact hl, fun x hx => ?_⟩
    obtain ⟨i, _, rfl⟩ := List.mem_map.mp hx
    rcases Nat.lt_or_ge i.toNat d.facts.length with hi | hi
    · exact h.2.2 _ (mem_getD default hi)
    · rw [List.getD_eq_getElem?_getD, List.getElem?_eq_none hi]
      show ([] : List Int).length ≤ _
      simp
  · exact ⟨⟨by simp, fun x hx => by cases hx⟩, by simp, fun x hx => by cases hx⟩
def holdsIn (d : Db) (l : List Int) (q : Qu) : Bool := selOk d l && decide ((0 : Int) < ((embs (selD d l) q).length : Int))
theorem specHoldsIn_sat (d : Db) (l : List Int) (q : Qu) (h : d.ok) (hl : l.length ≤ 1048576) (hq : q.fit) : Sat Tryz.prog 21 [lDb d, lInts l, lQu q] [lBool (holdsIn d l q)] [g2, g1, g3] := by
  refine sat_of_body mixed Tryz.func21 rfl (by kernel_rfl) (by kernel_rfl) (rs := [.tmp 6]) rfl rfl rfl ?_
  unfold holdsIn
  simp -implicitDefEqProofs (maxSteps := 2000000) only [go_sem]
  rcases g : selOk d l
  · refine call_of (specSelectFacts_sat d l h hl) (by simp -implicitDefEqProofs (maxSteps := 2000000) only [go_sem, g]) (callOk_still (by kernel_rfl) (by simp only [List.all_cons, List.all_nil, LV.still, LV.leaves, Leaf.still, ints_still, ris_still, eds_still, rels_still, iss_still, ems_still, Bool.and_self, Bool.and_true])) (by simp -implicitDefEqProofs (maxSteps := 2000000) only [go_sem, g]) ?_
    simp -implicitDefEqProofs (maxSteps := 2000000) only [go_sem, g]
    first | done | rfl | exact ⟨rfl, rfl⟩ | exact ⟨rfl, rfl, rfl⟩ | (refine tr_and ?_ ?_ <;> first | rfl | exact ⟨rfl, rfl⟩ | kernel_rfl)
  · refine call_of (specSelectFacts_sat d l h hl) (by simp -implicitDefEqProofs (maxSteps := 2000000) only [go_sem, g]) (callOk_still (by kernel_rfl) (by simp only [List.all_cons, List.all_nil, LV.still, LV.leaves, Leaf.still, ints_still, ris_still, eds_still, rels_still, iss_still, ems_still, Bool.and_self, Bool.and_true])) (by simp -implicitDefEqProofs (maxSteps := 2000000) only [go_sem, g]) ?_
    simp -implicitDefEqProofs (maxSteps := 2000000) only [go_sem, g]
    refine call_of (specFindEmbeddings_sat (selD d l) q (selD_ok l h hl).fit hq) (by simp -implicitDefEqProofs (maxSteps := 2000000) only [go_sem]) (callOk_still (by kernel_rfl) (by simp only [List.all_cons, List.all_nil, LV.still, LV.leaves, Leaf.still, ints_still, ris_still, eds_still, rels_still, iss_still, ems_still, Bool.and_self, Bool.and_true])) (by simp -implicitDefEqProofs (maxSteps := 2000000) only [go_sem]) ?_
    simp -implicitDefEqProofs (maxSteps := 2000000) only [go_sem]
    first | done | rfl | exact ⟨rfl, rfl⟩ | exact ⟨rfl, rfl, rfl⟩ | (refine tr_and ?_ ?_ <;> first | rfl | exact ⟨rfl, rfl⟩ | kernel_rfl)
theorem implHoldsIn_sat (d : Db) (l : List Int) (q : Qu) (h : d.ok) (hl : l.length ≤ 1048576) (hq : q.ok) : Sat Tryz.prog 23 [lDb d, lInts l, lQu q] [lBool (holdsIn d l q)] [g2, g1, g3] := by
  refine sat_of_body mixed Tryz.func23 rfl (by kernel_rfl) (by kernel_rfl) (rs := [.tmp 6]) rfl rfl rfl ?_
  unfold holdsIn
  simp -implicitDefEqProofs (maxSteps := 2000000) only [go_sem]
  rcases g : selOk d l
  · refine call_of (implSelectFacts_sat d l h hl) (by simp -implicitDefEqProofs (maxSteps := 2000000) only [go_sem, g]) (callOk_still (by kernel_rfl) (by simp only [List.all_cons, List.all_nil, LV.still, LV.leaves, Leaf.still, ints_still, ris_still, eds_still, rels_still, iss_still, ems_still, Bool.and_self, Bool.and_true])) (by simp -implicitDefEqProofs (maxSteps := 2000000) only [go_sem, g]) ?_
    simp -implicitDefEqProofs (maxSteps := 2000000) only [go_sem, g]
    first | done | rfl | exact ⟨rfl, rfl⟩ | exact ⟨rfl, rfl, rfl⟩ | (refine tr_and ?_ ?_ <;> first | rfl | exact ⟨rfl, rfl⟩ | kernel_rfl)
  · refine call_of (implSelectFacts_sat d l h hl) (by simp -implicitDefEqProofs (maxSteps := 2000000) only [go_sem, g]) (callOk_still (by kernel_rfl) (by simp only [List.all_cons, List.all_nil, LV.still, LV.leaves, Leaf.still, ints_still, ris_still, eds_still, rels_still, iss_still, ems_still, Bool.and_self, Bool.and_true])) (by simp -implicitDefEqProofs (maxSteps := 2000000) only [go_sem, g]) ?_
    simp -implicitDefEqProofs (maxSteps := 2000000) only [go_sem, g]
    refine call_of (implFindEmbeddings_sat (selD d l) q (selD_ok l h hl).fit hq) (by simp -implicitDefEqProofs (maxSteps := 2000000) only [go_sem]) (callOk_still (by kernel_rfl) (by simp only [List.all_cons, List.all_nil, LV.still, LV.leaves, Leaf.still, ints_still, ris_still, eds_still, rels_still, iss_still, ems_still, Bool.and_self, Bool.and_true])) (by simp -implicitDefEqProofs (maxSteps := 2000000) only [go_sem]) ?_
    simp -implicitDefEqProofs (maxSteps := 2000000) only [go_sem]
    first | done | rfl | exact ⟨rfl, rfl⟩ | exact ⟨rfl, rfl, rfl⟩ | (refine tr_and ?_ ?_ <;> first | rfl | exact ⟨rfl, rfl⟩ | kernel_rfl)
end Go.Proofs.YtbalifgacjmbpabGreat.A
