
/- SORTING BY INSERTION. Conditions: none. -/
import Derived.Test.YtbalifgacjmbpaaAFSort
namespace Go.Proofs.Ytbalifgacjmbpaa.A
open Go
set_option linter.unusedSimpArgs false
set_option linter.unusedVariables false
set_option maxRecDepth 100000

def sortI (l : List Int) : List Int := l.mergeSort fun x y => decide (x ≤ y)
theorem sortI_len (l : List Int) : (sortI l).length = l.length := List.length_mergeSort ..
theorem sortI_perm (l : List Int) : (sortI l).Perm l := List.mergeSort_perm l _
theorem sortI_sorted (l : List Int) : (sortI l).Pairwise (· ≤ ·) := by
  have h := List.pairwise_mergeSort (le := fun x y : Int => decide (x ≤ y)) (by intro a b c; simp; omega) (by intro a b; simp; omega) l
  exact h.imp fun h => by simpa using h
theorem sorted_uni {a b : List Int} (ha : a.Pairwise (· ≤ ·)) (hb : b.Pairwise (· ≤ ·)) (hp : a.Perm b) : a = b :=
  List.Perm.eq_of_pairwise (fun x y _ _ h1 h2 => by omega) ha hb hp
def stopAt (out : List Int) (x : Int) : Nat → Nat
  | 0 => 0
  | k + 1 => if decide (out.getD k 0 > x) then stopAt out x k else k + 1
theorem stopAt_le (out : List Int) (x : Int) : ∀ k, stopAt out x k ≤ k
  | 0 => Nat.le_refl _
  | k + 1 => by
    have := stopAt_le out x k
    unfold stopAt
    split <;> omega
theorem stopAt_above (out : List Int) (x : Int) : ∀ (k j : Nat), stopAt out x k ≤ j → j < k → x < out.getD j 0
  | 0, j, _, h => by omega
  | k + 1, j, h1, h2 => by
    unfold stopAt at h1
    split at h1
    · rename_i d
      by_cases e : j = k
      · rw [e]; exact of_decide_eq_true d
      · exact stopAt_above out x k j h1 (by omega)
    · omega
theorem stopAt_at (out : List Int) (x : Int) : ∀ (k j : Nat), stopAt out x k = j + 1 → out.getD j 0 ≤ x
  | 0, j, h => by simp [stopAt] at h
  | k + 1, j, h => by
    unfold stopAt at h
    split at h
    · exact stopAt_at out x k j h
    · rename_i d
      have e : k = j := by omega
      subst e
      have := of_decide_eq_false (by simpa using d : decide (out.getD k 0 > x) = false)
      omega
def insS (out : List Int) (x : Int) : List Int := out.take (stopAt out x out.length) ++ [x] ++ out.drop (stopAt out x out.length)
theorem insS_perm (out : List Int) (x : Int) : (insS out x).Perm (x :: out) := by
  unfold insS
  rw [List.append_assoc, List.singleton_append]
  refine List.perm_middle.trans ?_
  rw [List.take_append_drop]
theorem getD_in {l : List Int} {y : Int} (h : y ∈ l) : ∃ j, j < l.length ∧ l.getD j 0 = y := by
  obtain ⟨j, hj, e⟩ := List.mem_iff_getElem.mp h
  exact ⟨j, hj, by rw [List.getD_eq_getElem?_getD, List.getElem?_eq_getElem hj]; exact e⟩
theorem sorted_at {l : List Int} (h : l.Pairwise (· ≤ ·)) {i j : Nat} (hij : i ≤ j) (hj : j < l.length) : l.getD i 0 ≤ l.getD j 0 := by
  rw [List.getD_eq_getElem?_getD, List.getD_eq_getElem?_getD, List.getElem?_eq_getElem hj, List.getElem?_eq_getElem (by omega)]
  by_cases e : i = j
  · subst e; exact Int.le_refl _
  · exact List.pairwise_iff_getElem.mp h i j (by omega) hj (by omega)
theorem insS_sorted {out : List Int} (h : out.Pairwise (· ≤ ·)) (x : Int) : (insS out x).Pairwise (· ≤ ·) := by
  have hle := stopAt_le out x out.length
  have lo : ∀ y ∈ out.take (stopAt out x out.length), y ≤ x := by
    intro y hy
    obtain ⟨j, hj, rfl⟩ := getD_in hy
    rw [List.length_take] at hj
    obtain ⟨k, hk⟩ : ∃ k, stopAt out x out.length = k + 1 := ⟨stopAt out x out.length - 1, by omega⟩
    have h1 := stopAt_at out x _ k hk
    have h2 := sorted_at h (i := j) (j := k) (by omega) (by omega)
    rw [List.getD_eq_getElem?_getD, List.getElem?_take_of_lt (by omega), ← List.getD_eq_getElem?_getD]
    omega
  have hi : ∀ y ∈ out.drop (stopAt out x out.length), x ≤ y := by
    intro y hy
    obtain ⟨j, hj, rfl⟩ := getD_in hy
    rw [List.length_drop] at hj
    have := stopAt_above out x out.length (stopAt out x out.length + j) (by omega) (by omega)
    rw [List.getD_eq_getElem?_getD, List.getElem?_drop, ← List.getD_eq_getElem?_getD]
    omega
  unfold insS
  rw [List.append_assoc, List.singleton_append, List.pairwise_append]
  refine ⟨List.Pairwise.sublist (List.take_sublist _ _) h, List.pairwise_cons.mpr ⟨hi, List.Pairwise.sublist (List.drop_sublist _ _) h⟩, fun a ha b hb => ?_⟩
  rcases List.mem_cons.mp hb with rfl | hb
  · exact lo a ha
  · exact Int.le_trans (lo a ha) (hi b hb)
def insAll (l : List Int) : Nat → List Int
  | 0 => []
  | k + 1 => insS (insAll l k) (l.getD k 0)
theorem insAll_facts (l : List Int) : ∀ k, k ≤ l.length → (insAll l k).Pairwise (· ≤ ·) ∧ (insAll l k).Perm (l.take k)
  | 0, _ => ⟨List.Pairwise.nil, by simp [insAll]⟩
  | k + 1, h => by
    obtain ⟨h1, h2⟩ := insAll_facts l k (by omega)
    refine ⟨insS_sorted h1 _, (insS_perm _ _).trans ?_⟩
    rw [take_snoc 0 (by omega : k < l.length)]
    exact (List.Perm.cons _ h2).trans (List.perm_append_singleton _ _).symm
theorem insAll_len (l : List Int) {k : Nat} (h : k ≤ l.length) : (insAll l k).length = k := by
  rw [(insAll_facts l k h).2.length_eq, List.length_take]; omega
theorem insAll_eq (l : List Int) : insAll l l.length = sortI l := by
  obtain ⟨h1, h2⟩ := insAll_facts l l.length (Nat.le_refl _)
  rw [List.take_length] at h2
  exact sorted_uni h1 (sortI_sorted l) (h2.trans (sortI_perm l).symm)
set_option maxHeartbeats 4000000 in
theorem l7Sorted_sat (l : List Int) (h : l.length ≤ 1048576) : Sat Try.prog 46 [lInts l] [oInts (sortI l)] [g1] := by
  refine sat_of_body mixed Try.func46 rfl (by kernel_rfl) (by kernel_rfl) (rs := [.tmp 2]) rfl rfl rfl ?_
  rw [← insAll_eq]
  simp -implicitDefEqProofs (maxSteps := 2000000) only [go_sem]
  refine awp_loop Nat (fun i => mkSt [(0, .one (.im 1 (ints l))), (3, .one (.ref 960 1 0 (insAll l i).length)), (4, .sc (.int .i64 i))] [] [(960, (1, ints (insAll l i)))] 2000)
    (fun i => i ≤ l.length) (fun i => l.length - i) 0 (by omega) (le_st' _ _ [⟨960, some _, false, 1, _⟩] [] _ (by simp -implicitDefEqProofs (maxSteps := 2000000) only [go_sem] <;> and_intros <;> rfl) (by simp -implicitDefEqProofs (maxSteps := 2000000) only [go_sem] <;> and_intros <;> rfl) (by simp -implicitDefEqProofs (maxSteps := 2000000) only [go_sem] <;> and_intros <;> rfl) (by rfl)) ?_
  rintro i h1
  have hlen := insAll_len l h1
  by_cases c1 : i < l.length
  · have hlen2 := insAll_len l (k := i + 1) c1
    have hstep : insAll l (i + 1) = insS (insAll l i) (l.getD i 0) := rfl
    generalize insAll l i = out at hlen hstep ⊢
    have hle := stopAt_le out (l.getD i 0) out.length
    simp -implicitDefEqProofs (maxSteps := 2000000) only [go_sem, c1]
    refine awp_loop Nat (fun k => mkSt [(0, .one (.im 1 (ints l))), (3, .one (.ref 960 1 0 out.length)), (4, .sc (.int .i64 i)), (5, .sc (.int .i64 k))] [] [(960, (1, ints out))] 4000)
      (fun k => k ≤ out.length ∧ stopAt out (l.getD i 0) k = stopAt out (l.getD i 0) out.length) (fun k => k) out.length ⟨by omega, rfl⟩ (le_st' _ _ [⟨960, some _, false, 1, _⟩] [] _ (by simp -implicitDefEqProofs (maxSteps := 2000000) only [go_sem] <;> and_intros <;> rfl) (by simp -implicitDefEqProofs (maxSteps := 2000000) only [go_sem] <;> and_intros <;> rfl) (by simp -implicitDefEqProofs (maxSteps := 2000000) only [go_sem] <;> and_intros <;> rfl) (by rfl)) ?_
    rintro k ⟨h2, h3⟩
    have fin : stopAt out (l.getD i 0) k = k → out.take k ++ l.getD i 0 :: out.drop k = insAll l (i + 1) := by
      intro e
      rw [hstep, insS, ← h3, e, List.append_assoc, List.singleton_append]
    have w2 : IntKind.i64.wrap ((i : Int) + 1) = ((i + 1 : Nat) : Int) := i64_succ (by omega)
    have hlk : (out.take k).length = k := by rw [List.length_take]; omega
    have hdr : ∀ m, List.take (out.length - m) (List.drop m out) = List.drop m out := fun m => List.take_of_length_le (by rw [List.length_drop]; omega)
    have hdl : ∀ m, (List.drop m out).length = out.length - m := fun m => List.length_drop
    have htl : ∀ m, m ≤ out.length → (List.take m out).length = m := fun m hm => by rw [List.length_take]; omega
    by_cases hk : k = 0
    · have c0 : ¬ (0 : Int) < k := by omega
      have hl1 := htl k h2
      have e : stopAt out (l.getD i 0) k = k := by rw [hk]; rfl
      simp -implicitDefEqProofs (maxSteps := 2000000) only [go_sem, c1, c0, h2]
      simp only [Nat.sub_zero, hdr, hdl, hl1]
      repeat (refine ⟨by omega, ?_⟩)
      first | (with_reducible refine tr_and ?_ ?_; focus kernel_rfl) | (with_reducible refine tr_only ?_; kernel_rfl) | skip
      rw [w2]
      have hs : k + 1 + (out.length - k) = i + 1 := by omega
      exact ⟨i + 1, c1, by omega, (le_st' _ _ [⟨960, some _, false, 1, _⟩] [] _ (by simp -implicitDefEqProofs (maxSteps := 2000000) only [go_sem, Nat.sub_zero, hdr, hdl, hl1, fin e, hs, hlen2] <;> and_intros <;> rfl) (by simp -implicitDefEqProofs (maxSteps := 2000000) only [go_sem, Nat.sub_zero, hdr, hdl, hl1, fin e, hs, hlen2] <;> and_intros <;> rfl) (by simp -implicitDefEqProofs (maxSteps := 2000000) only [go_sem, Nat.sub_zero, hdr, hdl, hl1, fin e, hs, hlen2] <;> and_intros <;> rfl) (by rfl))⟩
    · obtain ⟨j, rfl⟩ : ∃ j, k = j + 1 := ⟨k - 1, by omega⟩
      have c2 : j < out.length := by omega
      have c3 : 0 < ((j + 1 : Nat) : Int) := by omega
      have w1 := i64_pred (j := j) (by omega)
      have hl1 := htl (j + 1) h2
      rcases d : decide (out.getD j 0 > l.getD i 0)
      · have e : stopAt out (l.getD i 0) (j + 1) = j + 1 := by rw [stopAt, d]; rfl
        simp -implicitDefEqProofs (maxSteps := 2000000) only [go_sem, c1, c2, c3, w1, d]
        simp only [Nat.sub_zero, hdr, hdl, hl1]
        repeat (refine ⟨by omega, ?_⟩)
        first | (with_reducible refine tr_and ?_ ?_; focus kernel_rfl) | (with_reducible refine tr_only ?_; kernel_rfl) | skip
        rw [w2]
        have hs : j + 1 + 1 + (out.length - (j + 1)) = i + 1 := by omega
        exact ⟨i + 1, c1, by omega, (le_st' _ _ [⟨960, some _, false, 1, _⟩] [] _ (by simp -implicitDefEqProofs (maxSteps := 2000000) only [go_sem, Nat.sub_zero, hdr, hdl, hl1, fin e, hs, hlen2] <;> and_intros <;> rfl) (by simp -implicitDefEqProofs (maxSteps := 2000000) only [go_sem, Nat.sub_zero, hdr, hdl, hl1, fin e, hs, hlen2] <;> and_intros <;> rfl) (by simp -implicitDefEqProofs (maxSteps := 2000000) only [go_sem, Nat.sub_zero, hdr, hdl, hl1, fin e, hs, hlen2] <;> and_intros <;> rfl) (by rfl))⟩
      · have e : stopAt out (l.getD i 0) j = stopAt out (l.getD i 0) out.length := by rw [← h3, stopAt, d]; rfl
        simp -implicitDefEqProofs (maxSteps := 2000000) only [go_sem, c1, c2, c3, w1, d]
        first | (with_reducible refine tr_and ?_ ?_; focus kernel_rfl) | (with_reducible refine tr_only ?_; kernel_rfl) | skip
        exact ⟨j, ⟨by omega, e⟩, by omega, (le_st' _ _ [⟨960, some _, false, 1, _⟩] [] _ (by simp -implicitDefEqProofs (maxSteps := 2000000) only [go_sem] <;> and_intros <;> rfl) (by simp -implicitDefEqProofs (maxSteps := 2000000) only [go_sem] <;> and_intros <;> rfl) (by simp -implicitDefEqProofs (maxSteps := 2000000) only [go_sem] <;> and_intros <;> rfl) (by rfl))⟩
  · obtain rfl : i = l.length := by omega
    simp -implicitDefEqProofs (maxSteps := 2000000) only [go_sem, c1]
    first | done | rfl | exact ⟨rfl, rfl⟩ | exact ⟨rfl, rfl, rfl⟩ | (refine tr_and ?_ ?_ <;> first | rfl | exact ⟨rfl, rfl⟩ | kernel_rfl)
end Go.Proofs.Ytbalifgacjmbpaa.A
