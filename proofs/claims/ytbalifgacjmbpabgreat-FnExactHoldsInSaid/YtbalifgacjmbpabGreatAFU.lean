
/- SETS OF NUMBERS AS SORTED LISTS. Conditions: none. (No program in sight but the names.) -/
import Derived.Test.YtbalifgacjmbpabGreatAFM
import Derived.Lib.SlicesCompact
import Derived.Test.YtbalifgacjmbpabGreatA41
namespace Go.Proofs.YtbalifgacjmbpabGreat.A
open Go
set_option linter.unusedSimpArgs false
set_option linter.unusedVariables false

abbrev Strict (l : List Int) : Prop := l.Pairwise (· < ·)
theorem strict_eq : ∀ {a b : List Int}, Strict a → Strict b → (∀ x, x ∈ a ↔ x ∈ b) → a = b
  | [], [], _, _, _ => rfl
  | [], y :: b, _, _, h => absurd ((h y).mpr (by simp)) (by simp)
  | x :: a, [], _, _, h => absurd ((h x).mp (by simp)) (by simp)
  | x :: a, y :: b, ha, hb, h => by
    obtain ⟨ha1, ha2⟩ := List.pairwise_cons.mp ha
    obtain ⟨hb1, hb2⟩ := List.pairwise_cons.mp hb
    have hxy : x = y := by
      rcases List.mem_cons.mp ((h x).mp (by simp)) with e | e
      · exact e
      · rcases List.mem_cons.mp ((h y).mpr (by simp)) with e' | e'
        · exact e'.symm
        · have := hb1 x e; have := ha1 y e'; omega
    subst hxy
    rw [strict_eq ha2 hb2 fun z => ?_]
    constructor
    · intro hz
      rcases List.mem_cons.mp ((h z).mp (List.mem_cons_of_mem _ hz)) with e | e
      · have := ha1 z hz; omega
      · exact e
    · intro hz
      rcases List.mem_cons.mp ((h z).mpr (List.mem_cons_of_mem _ hz)) with e | e
      · have := hb1 z hz; omega
      · exact e
abbrev Sorted (l : List Int) : Prop := l.Pairwise (· ≤ ·)
theorem sorted_sort (a : List Int) : Sorted (a.mergeSort fun x y => decide (x ≤ y)) := by
  have h := List.pairwise_mergeSort (le := fun x y : Int => decide (x ≤ y)) (by intro a b c; simp; omega) (by intro a b; simp; omega) a
  exact h.imp fun h => of_decide_eq_true h
theorem mem_sort (a : List Int) (x : Int) : x ∈ (a.mergeSort fun x y => decide (x ≤ y)) ↔ x ∈ a := List.mem_mergeSort
theorem compactUpTo_facts (zs : List Int) (hs : Sorted zs) : ∀ (m : Nat), m ≤ zs.length →
    Strict (Lib.compactUpTo zs.toArray m) ∧ (∀ x, x ∈ Lib.compactUpTo zs.toArray m ↔ x ∈ zs.take m)
  | 0, _ => by simp [Lib.compactUpTo]
  | m + 1, h => by
    obtain ⟨h1, h2⟩ := compactUpTo_facts zs hs m (by omega)
    have hm : m < zs.length := by omega
    have ht : zs.take (m + 1) = zs.take m ++ [zs[m]] := List.take_succ_eq_append_getElem hm
    have hle : ∀ x ∈ zs.take m, x ≤ zs[m] := by
      intro x hx
      obtain ⟨i, hi, rfl⟩ := List.mem_iff_getElem.mp hx
      simp only [List.length_take] at hi
      simp only [List.getElem_take]
      exact List.pairwise_iff_getElem.mp hs i m (by omega) hm (by omega)
    have hg : zs.toArray[m]! = zs[m] := by simp [hm]
    rw [Lib.compactUpTo_succ, ht, hg]
    by_cases hk : Lib.keeps zs.toArray m = true
    · rw [if_pos hk]
      have hlt : ∀ x ∈ zs.take m, x < zs[m] := by
        intro x hx
        have hxl := hle x hx
        unfold Lib.keeps at hk
        have hk := of_decide_eq_true hk
        rcases hk with rfl | hk
        · simp at hx
        · rw [hg] at hk
          obtain ⟨i, hi, rfl⟩ := List.mem_iff_getElem.mp hx
          simp only [List.length_take] at hi
          simp only [List.getElem_take] at hxl ⊢
          have h1 : zs.toArray[m - 1]! = zs[m - 1]'(by omega) := by simp [show m - 1 < zs.length by omega]
          rw [h1] at hk
          have h3 : zs[i]'(by omega) ≤ zs[m - 1]'(by omega) := by
            rcases Nat.lt_or_ge i (m - 1) with h | h
            · exact List.pairwise_iff_getElem.mp hs i (m - 1) (by omega) (by omega) h
            · have : i = m - 1 := by omega
              subst this; exact Int.le_refl _
          have h4 : zs[m - 1]'(by omega) ≤ zs[m] := List.pairwise_iff_getElem.mp hs (m - 1) m (by omega) (by omega) (by omega)
          omega
      refine ⟨List.pairwise_append.mpr ⟨h1, by simp, fun x hx y hy => ?_⟩, fun x => by simp only [List.mem_append, h2]⟩
      obtain rfl : y = zs[m] := by simpa using hy
      exact hlt x ((h2 x).mp hx)
    · rw [if_neg hk, List.append_nil]
      refine ⟨h1, fun x => ?_⟩
      rw [h2, List.mem_append, List.mem_singleton]
      refine ⟨.inl, fun h => h.elim id fun hx => ?_⟩
      subst hx
      unfold Lib.keeps at hk
      have hk : ¬ (m = 0 ∨ zs.toArray[m]! ≠ zs.toArray[m - 1]!) := fun h => hk (decide_eq_true h)
      have h0 : m ≠ 0 := fun h => hk (.inl h)
      have h1 : zs.toArray[m]! = zs.toArray[m - 1]! := Decidable.byContradiction fun h => hk (.inr h)
      have h2 : zs.toArray[m - 1]! = zs[m - 1]'(by omega) := by simp [show m - 1 < zs.length by omega]
      rw [hg, h2] at h1
      rw [h1]
      exact List.mem_iff_getElem.mpr ⟨m - 1, by simp; omega, by simp⟩
/-- The members of two lists, each once, in order. -/
def uni (a b : List Int) : List Int := Lib.compact ((a ++ b).mergeSort fun x y => decide (x ≤ y))
theorem uni_strict (a b : List Int) : Strict (uni a b) := (compactUpTo_facts _ (sorted_sort (a ++ b)) _ (Nat.le_refl _)).1
theorem uni_mem (a b : List Int) (x : Int) : x ∈ uni a b ↔ x ∈ a ∨ x ∈ b := by
  have h := (compactUpTo_facts _ (sorted_sort (a ++ b)) _ (Nat.le_refl _)).2 x
  rw [List.take_of_length_le (Nat.le_refl _), mem_sort, List.mem_append] at h
  exact h
theorem uni_len (a b : List Int) : (uni a b).length ≤ a.length + b.length := by
  have h := compact_len ((a ++ b).mergeSort fun x y => decide (x ≤ y))
  rw [List.length_mergeSort, List.length_append] at h
  exact h
/-- The numbers below k that something picks. -/
def selN (p : Int → Bool) : Nat → List Int
  | 0 => []
  | k + 1 => if p k then selN p k ++ [(k : Int)] else selN p k
theorem selN_len (p : Int → Bool) : ∀ k, (selN p k).length ≤ k
  | 0 => by simp [selN]
  | k + 1 => by
    have := selN_len p k
    unfold selN; split
    · simp; omega
    · omega
theorem selN_no {p : Int → Bool} {k : Nat} (h : p k = false) : selN p (k + 1) = selN p k := by simp [selN, h]
theorem selN_yes {p : Int → Bool} {k : Nat} (h : p k = true) : selN p (k + 1) = selN p k ++ [(k : Int)] := by simp [selN, h]
theorem selN_mem (p : Int → Bool) (x : Int) : ∀ k, x ∈ selN p k ↔ 0 ≤ x ∧ x < k ∧ p x = true
  | 0 => by simp [selN]; omega
  | k + 1 => by
    have ih := selN_mem p x k
    unfold selN
    split
    · rename_i h
      rw [List.mem_append, ih, List.mem_singleton]
      constructor
      · rintro (h | rfl)
        · exact ⟨h.1, by omega, h.2.2⟩
        · exact ⟨by omega, by omega, h⟩
      · rintro ⟨h1, h2, h3⟩
        by_cases e : x = k
        · exact .inr e
        · exact .inl ⟨h1, by omega, h3⟩
    · rename_i h
      rw [ih]
      constructor
      · rintro ⟨h1, h2, h3⟩; exact ⟨h1, by omega, h3⟩
      · rintro ⟨h1, h2, h3⟩
        refine ⟨h1, ?_, h3⟩
        by_cases e : x = k
        · subst e; exact absurd h3 h
        · omega
theorem selN_strict (p : Int → Bool) : ∀ k, Strict (selN p k)
  | 0 => by simp [selN]
  | k + 1 => by
    have ih := selN_strict p k
    unfold selN
    split
    · refine List.pairwise_append.mpr ⟨ih, by simp, fun x hx y hy => ?_⟩
      obtain rfl : y = k := by simpa using hy
      exact ((selN_mem p x k).mp hx).2.1
    · exact ih
end Go.Proofs.YtbalifgacjmbpabGreat.A
