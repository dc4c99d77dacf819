
/- ALL MAXIMAL INDEPENDENT SETS: the program's function. Conditions: none. -/
import Derived.Test.YtbalifgacjmbpaaAFMis3
namespace Go.Proofs.Ytbalifgacjmbpaa.A
open Go
set_option linter.unusedSimpArgs false
set_option linter.unusedVariables false
set_option maxRecDepth 100000

theorem search_all (n : Nat) (l : List Edge) (hn : n ≤ 14) (hl : l.length ≤ 9223372036854775807) : ∀ (m : Nat) (s : List Int) (o : List (List Int)), m ≤ n → s.length + m ≤ 14 → o.length + 2 ^ m ≤ 32768 →
    RSat Try.prog 38 [lInt ((n - m : Nat) : Int), lInts s] (misT n l o) (misT n l (o ++ walkI n l m s))
  | 0, s, o, h1, h2, h3 => by
    rw [Nat.sub_zero]
    exact search_zero n l s o hl (by omega) (by omega)
  | m + 1, s, o, h1, h2, h3 => by
    rw [Nat.pow_succ] at h3
    have b1 := walkI_len n l m (s ++ [((n - (m + 1) : Nat) : Int)])
    have hx : ((n - (m + 1) : Nat) : Int) + 1 = ((n - m : Nat) : Int) := by omega
    have := search_step n l s ((n - (m + 1) : Nat) : Int) ((n - m : Nat) : Int) o _ (walkI n l m (s ++ [((n - (m + 1) : Nat) : Int)])) (walkI n l m s) hl (by omega) (by omega) (by rw [IntWalk.i64_in _ (by omega)]; exact hx)
      (by rw [beq_eq_false_iff_ne]; omega) rfl (fun _ => search_all n l hn hl m _ o (by omega) (by simp; omega) (by omega))
      (search_all n l hn hl m s _ (by omega) (by omega) (by
        rw [List.length_append]
        split
        · omega
        · simp; omega))
    rw [List.append_assoc] at this
    exact this
theorem implMaximalIndependentSets_sat (n : Int) (l : List Edge) (hl : l.length ≤ 9223372036854775807) : Sat Try.prog 11 [lInt n, lEds l] [oISS (mis n l)] [g1, g1] := by
  refine sat_of_bodyB Try.func11 rfl (by kernel_rfl) (rs := [.tmp 4]) rfl rfl rfl ?_
  unfold mis
  refine bwp_seq mixed (by kernel_rfl) ?_
  simp -implicitDefEqProofs (maxSteps := 2000000) only [go_sem]
  refine bwp_seq mixed (by kernel_rfl) ?_
  simp -implicitDefEqProofs (maxSteps := 2000000) only [go_sem]
  rcases g : goodEds n l
  · rw [if_neg (by simp)]
    refine call_of (implAreValidEdges_sat n l hl) (by simp -implicitDefEqProofs (maxSteps := 2000000) only [go_sem, g]) (by kernel_rfl) (by simp -implicitDefEqProofs (maxSteps := 2000000) only [go_sem, g]) ?_
    simp -implicitDefEqProofs (maxSteps := 2000000) only [go_sem, g]
    first | done | rfl | exact ⟨rfl, rfl⟩ | exact ⟨rfl, rfl, rfl⟩ | (refine tr_and ?_ ?_ <;> first | rfl | exact ⟨rfl, rfl⟩ | kernel_rfl)
  have hn := goodEds_n g
  rw [if_pos rfl]
  obtain ⟨m, rfl⟩ : ∃ m : Nat, n = m := ⟨n.toNat, by omega⟩
  rw [show ((m : Nat) : Int).toNat = m by omega]
  have h := search_all m l (by omega) hl m [] [] (Nat.le_refl _) (by simp; omega) (by have := pow14 (show m ≤ 14 by omega); simp; omega)
  rw [Nat.sub_self, List.nil_append] at h
  refine call_of (implAreValidEdges_sat m l hl) (by simp -implicitDefEqProofs (maxSteps := 2000000) only [go_sem, g]) (by kernel_rfl) (by simp -implicitDefEqProofs (maxSteps := 2000000) only [go_sem, g]) ?_
  simp -implicitDefEqProofs (maxSteps := 2000000) only [go_sem, g]
  refine bwp_seq mixed (by kernel_rfl) ?_
  simp -implicitDefEqProofs (maxSteps := 2000000) only [go_sem]
  refine bwp_seq mixed (by kernel_rfl) ?_
  simp -implicitDefEqProofs (maxSteps := 2000000) only [go_sem]
  refine bwp_seq mixed (by kernel_rfl) ?_
  simp -implicitDefEqProofs (maxSteps := 2000000) only [go_sem]
  refine bwp_seqB (bwp_call h [1000, 1064, 1512, 1640] 1448 960 2000 [(5, .one (.vad 1512 0))] rfl rfl rfl (by kernel_rfl) (by kernel_rfl) (by simp -implicitDefEqProofs (maxSteps := 2000000) only [go_sem]; exact ⟨⟨rfl, rfl⟩, rfl⟩) ?_)
  simp -implicitDefEqProofs (maxSteps := 2000000) only [go_sem]
  refine bwp_awp mixed (by kernel_rfl) ?_
  simp -implicitDefEqProofs (maxSteps := 2000000) only [go_sem]
  first | done | rfl | exact ⟨rfl, rfl⟩ | exact ⟨rfl, rfl, rfl⟩ | (refine tr_and ?_ ?_ <;> first | rfl | exact ⟨rfl, rfl⟩ | kernel_rfl)
end Go.Proofs.Ytbalifgacjmbpaa.A
