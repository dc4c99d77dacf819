/- Packed by pack.py: FU F7 FMR FK FQ FQ2 FCl FDraw7 FDraw8 FDraw9 FDraw10 FDraw20 FIns FBlk1 F2 FEmD FQF FEm1 -/
import Derived.Test.YtedciihjgbkjgabGreatDoorAZ1DenialConstraints
import Derived.Lib.SlicesCompact
import Derived.Test.YtedciihjgbkjgabGreatDoorA41
import Derived.Test.YtedciihjgbkjgabGreatDoorA43

/- SETS OF NUMBERS AS SORTED LISTS. Conditions: none. (No program in sight but the names.) -/
namespace Go.Proofs.YtedciihjgbkjgabGreatDoor.A
open Go
set_option linter.unusedSimpArgs false
set_option linter.unusedVariables false

abbrev Strict (l : List Int) : Prop := l.Pairwise (· < ·)
theorem strict_eq : ∀ {a b : List Int}, Strict a → Strict b → (∀ x, x ∈ a ↔ x ∈ b) → a = b
  | [], [], _, _, _ => rfl
  | [], y :: b, _, _, h => absurd ((h y).mpr (by simp)) (by simp)
  | x :: a, [], _, _, h => absurd ((h x).mp (by simp)) (by simp)
  | x :: a, y :: b, ha, hb, h => by
    obtain ⟨ha1, ha2⟩ := List.pairwise_cons.mp ha
    obtain ⟨hb1, hb2⟩ := List.pairwise_cons.mp hb
    have hxy : x = y := by
      rcases List.mem_cons.mp ((h x).mp (by simp)) with e | e
      · exact e
      · rcases List.mem_cons.mp ((h y).mpr (by simp)) with e' | e'
        · exact e'.symm
        · have := hb1 x e; have := ha1 y e'; omega
    subst hxy
    rw [strict_eq ha2 hb2 fun z => ?_]
    constructor
    · intro hz
      rcases List.mem_cons.mp ((h z).mp (List.mem_cons_of_mem _ hz)) with e | e
      · have := ha1 z hz; omega
      · exact e
    · intro hz
      rcases List.mem_cons.mp ((h z).mpr (List.mem_cons_of_mem _ hz)) with e | e
      · have := hb1 z hz; omega
      · exact e
abbrev Sorted (l : List Int) : Prop := l.Pairwise (· ≤ ·)
theorem sorted_sort (a : List Int) : Sorted (a.mergeSort fun x y => decide (x ≤ y)) := by
  have h := List.pairwise_mergeSort (le := fun x y : Int => decide (x ≤ y)) (by intro a b c; simp; omega) (by intro a b; simp; omega) a
  exact h.imp fun h => of_decide_eq_true h
theorem mem_sort (a : List Int) (x : Int) : x ∈ (a.mergeSort fun x y => decide (x ≤ y)) ↔ x ∈ a := List.mem_mergeSort
theorem compactUpTo_facts (zs : List Int) (hs : Sorted zs) : ∀ (m : Nat), m ≤ zs.length →
    Strict (Lib.compactUpTo zs.toArray m) ∧ (∀ x, x ∈ Lib.compactUpTo zs.toArray m ↔ x ∈ zs.take m)
  | 0, _ => by simp [Lib.compactUpTo]
  | m + 1, h => by
    obtain ⟨h1, h2⟩ := compactUpTo_facts zs hs m (by omega)
    have hm : m < zs.length := by omega
    have ht : zs.take (m + 1) = zs.take m ++ [zs[m]] := List.take_succ_eq_append_getElem hm
    have hle : ∀ x ∈ zs.take m, x ≤ zs[m] := by
      intro x hx
      obtain ⟨i, hi, rfl⟩ := List.mem_iff_getElem.mp hx
      simp only [List.length_take] at hi
      simp only [List.getElem_take]
      exact List.pairwise_iff_getElem.mp hs i m (by omega) hm (by omega)
    have hg : zs.toArray[m]! = zs[m] := by simp [hm]
    rw [Lib.compactUpTo_succ, ht, hg]
    by_cases hk : Lib.keeps zs.toArray m = true
    · rw [if_pos hk]
      have hlt : ∀ x ∈ zs.take m, x < zs[m] := by
        intro x hx
        have hxl := hle x hx
        unfold Lib.keeps at hk
        have hk := of_decide_eq_true hk
        rcases hk with rfl | hk
        · simp at hx
        · rw [hg] at hk
          obtain ⟨i, hi, rfl⟩ := List.mem_iff_getElem.mp hx
          simp only [List.length_take] at hi
          simp only [List.getElem_take] at hxl ⊢
          have h1 : zs.toArray[m - 1]! = zs[m - 1]'(by omega) := by simp [show m - 1 < zs.length by omega]
          rw [h1] at hk
          have h3 : zs[i]'(by omega) ≤ zs[m - 1]'(by omega) := by
            rcases Nat.lt_or_ge i (m - 1) with h | h
            · exact List.pairwise_iff_getElem.mp hs i (m - 1) (by omega) (by omega) h
            · have : i = m - 1 := by omega
              subst this; exact Int.le_refl _
          have h4 : zs[m - 1]'(by omega) ≤ zs[m] := List.pairwise_iff_getElem.mp hs (m - 1) m (by omega) (by omega) (by omega)
          omega
      refine ⟨List.pairwise_append.mpr ⟨h1, by simp, fun x hx y hy => ?_⟩, fun x => by simp only [List.mem_append, h2]⟩
      obtain rfl : y = zs[m] := by simpa using hy
      exact hlt x ((h2 x).mp hx)
    · rw [if_neg hk, List.append_nil]
      refine ⟨h1, fun x => ?_⟩
      rw [h2, List.mem_append, List.mem_singleton]
      refine ⟨.inl, fun h => h.elim id fun hx => ?_⟩
      subst hx
      unfold Lib.keeps at hk
      have hk : ¬ (m = 0 ∨ zs.toArray[m]! ≠ zs.toArray[m - 1]!) := fun h => hk (decide_eq_true h)
      have h0 : m ≠ 0 := fun h => hk (.inl h)
      have h1 : zs.toArray[m]! = zs.toArray[m - 1]! := Decidable.byContradiction fun h => hk (.inr h)
      have h2 : zs.toArray[m - 1]! = zs[m - 1]'(by omega) := by simp [show m - 1 < zs.length by omega]
      rw [hg, h2] at h1
      rw [h1]
      exact List.mem_iff_getElem.mpr ⟨m - 1, by simp; omega, by simp⟩
/-- The members of two lists, each once, in order. -/
def uni (a b : List Int) : List Int := Lib.compact ((a ++ b).mergeSort fun x y => decide (x ≤ y))
theorem uni_strict (a b : List Int) : Strict (uni a b) := (compactUpTo_facts _ (sorted_sort (a ++ b)) _ (Nat.le_refl _)).1
theorem uni_mem (a b : List Int) (x : Int) : x ∈ uni a b ↔ x ∈ a ∨ x ∈ b := by
  have h := (compactUpTo_facts _ (sorted_sort (a ++ b)) _ (Nat.le_refl _)).2 x
  rw [List.take_of_length_le (Nat.le_refl _), mem_sort, List.mem_append] at h
  exact h
theorem uni_len (a b : List Int) : (uni a b).length ≤ a.length + b.length := by
  have h := compact_len ((a ++ b).mergeSort fun x y => decide (x ≤ y))
  rw [List.length_mergeSort, List.length_append] at h
  exact h
/-- The numbers below k that something picks. -/
def selN (p : Int → Bool) : Nat → List Int
  | 0 => []
  | k + 1 => if p k then selN p k ++ [(k : Int)] else selN p k
theorem selN_len (p : Int → Bool) : ∀ k, (selN p k).length ≤ k
  | 0 => by simp [selN]
  | k + 1 => by
    have := selN_len p k
    unfold selN; split
    · simp; omega
    · omega
theorem selN_no {p : Int → Bool} {k : Nat} (h : p k = false) : selN p (k + 1) = selN p k := by simp [selN, h]
theorem selN_yes {p : Int → Bool} {k : Nat} (h : p k = true) : selN p (k + 1) = selN p k ++ [(k : Int)] := by simp [selN, h]
theorem selN_mem (p : Int → Bool) (x : Int) : ∀ k, x ∈ selN p k ↔ 0 ≤ x ∧ x < k ∧ p x = true
  | 0 => by simp [selN]; omega
  | k + 1 => by
    have ih := selN_mem p x k
    unfold selN
    split
    · rename_i h
      rw [List.mem_append, ih, List.mem_singleton]
      constructor
      · rintro (h | rfl)
        · exact ⟨h.1, by omega, h.2.2⟩
        · exact ⟨by omega, by omega, h⟩
      · rintro ⟨h1, h2, h3⟩
        by_cases e : x = k
        · exact .inr e
        · exact .inl ⟨h1, by omega, h3⟩
    · rename_i h
      rw [ih]
      constructor
      · rintro ⟨h1, h2, h3⟩; exact ⟨h1, by omega, h3⟩
      · rintro ⟨h1, h2, h3⟩
        refine ⟨h1, ?_, h3⟩
        by_cases e : x = k
        · subst e; exact absurd h3 h
        · omega
theorem selN_strict (p : Int → Bool) : ∀ k, Strict (selN p k)
  | 0 => by simp [selN]
  | k + 1 => by
    have ih := selN_strict p k
    unfold selN
    split
    · refine List.pairwise_append.mpr ⟨ih, by simp, fun x hx y hy => ?_⟩
      obtain rfl : y = k := by simpa using hy
      exact ((selN_mem p x k).mp hx).2.1
    · exact ih
end Go.Proofs.YtedciihjgbkjgabGreatDoor.A


/- UNIONS AND THE VARIABLES OF AN ATOM. Conditions: none. -/
namespace Go.Proofs.YtedciihjgbkjgabGreatDoor.A
open Go
set_option linter.unusedSimpArgs false
set_option linter.unusedVariables false
set_option maxRecDepth 100000

theorem flat_step {l : List (List Int)} {i : Nat} (h : i < l.length) : (l.take (i + 1)).flatten = (l.take i).flatten ++ l.getD i [] := by
  rw [take_snoc [] h, List.flatten_append]; simp
theorem flat_le {l : List (List Int)} (i : Nat) : (l.take i).flatten.length ≤ l.flatten.length := by
  have h : l.flatten = (l.take i).flatten ++ (l.drop i).flatten := by rw [← List.flatten_append, List.take_append_drop]
  rw [h, List.length_append]; omega
theorem slicesConcat_sat (l : List (List Int)) (hl : l.length ≤ 1048576) (h : l.flatten.length ≤ 4194304) : Sat Tryz.prog 160 [lISS l] [oInts l.flatten] [g1] := by
  refine sat_of_body mixed Tryz.func160 rfl (by kernel_rfl) (by kernel_rfl) (rs := [.tmp 2]) rfl rfl rfl ?_
  simp -implicitDefEqProofs (maxSteps := 2000000) only [go_sem]
  refine awp_loop Nat (fun k => mkSt [(0, .one (.im 1 (iss 0 l))), (3, .sc (.int .i64 (l.take k).flatten.length)), (9, .one (.im 1 (iss 0 l))), (10, .sc (.int .i64 l.length)), (11, .sc (.int .i64 k))] [] [] 1000)
    (fun k => k ≤ l.length) (fun k => l.length - k) 0 (by omega) (le_st _ _ [] [] _ rfl (by simp -implicitDefEqProofs (maxSteps := 2000000) only [go_sem] <;> rfl) trivial trivial) ?_
  rintro k h1
  have f1 := flat_le (l := l) k
  by_cases c1 : k < l.length
  · have f2 := flat_le (l := l) (k + 1)
    have f3 := flat_step c1
    have f4 := congrArg List.length f3
    rw [List.length_append] at f4
    simp -implicitDefEqProofs (maxSteps := 2000000) only [go_sem, c1]
    rw [IntWalk.i64_in _ (by omega), show ((l.take k).flatten.length : Int) + ((l.getD k []).length : Int) = ((l.take (k + 1)).flatten.length : Int) by omega]
    rw [decide_eq_false (show ¬ (((l.take (k + 1)).flatten.length : Int) < 0) by omega)]
    simp -implicitDefEqProofs (maxSteps := 2000000) only [go_sem]
    rw [i64_succ (by omega)]
    exact ⟨k + 1, c1, by omega, (le_st _ _ [] [] _ rfl (by simp -implicitDefEqProofs (maxSteps := 2000000) only [go_sem] <;> rfl) trivial trivial)⟩
  simp -implicitDefEqProofs (maxSteps := 2000000) only [go_sem, c1]
  obtain rfl : k = l.length := by omega
  rw [List.take_length]
  refine call_of (slicesGrow_sat l.flatten.length h) (by simp -implicitDefEqProofs (maxSteps := 2000000) only [go_sem]) (by kernel_rfl) (by simp -implicitDefEqProofs (maxSteps := 2000000) only [go_sem]) ?_
  simp -implicitDefEqProofs (maxSteps := 2000000) only [go_sem]
  refine awp_loop Nat (fun k => mkSt [(6, .one (.ref 960 1 0 (l.take k).flatten.length)), (25, .one (.im 1 (iss 0 l))), (26, .sc (.int .i64 l.length)), (27, .sc (.int .i64 k))] [] [(960, (1, ints (l.take k).flatten))] 2000)
    (fun k => k ≤ l.length) (fun k => l.length - k) 0 (by omega) (le_st' _ _ [⟨960, some _, false, 1, _⟩] [] _ (by simp -implicitDefEqProofs (maxSteps := 2000000) only [go_sem] <;> and_intros <;> rfl) (by simp -implicitDefEqProofs (maxSteps := 2000000) only [go_sem] <;> and_intros <;> rfl) (by simp -implicitDefEqProofs (maxSteps := 2000000) only [go_sem] <;> and_intros <;> rfl) (by rfl)) ?_
  rintro k h1
  have f1 := flat_le (l := l) k
  by_cases c1 : k < l.length
  · have f2 := flat_le (l := l) (k + 1)
    have f3 := flat_step c1
    have f4 := congrArg List.length f3
    rw [List.length_append] at f4
    simp -implicitDefEqProofs (maxSteps := 2000000) only [go_sem, c1]
    refine ⟨by omega, ?_⟩
    rw [i64_succ (by omega)]
    refine ⟨k + 1, c1, by omega, ?_⟩
    rw [f3]
    exact (le_st' _ _ [⟨960, some _, false, 1, _⟩] [] _ (by simp -implicitDefEqProofs (maxSteps := 2000000) only [go_sem] <;> and_intros <;> rfl) (by simp -implicitDefEqProofs (maxSteps := 2000000) only [go_sem] <;> and_intros <;> rfl) (by simp -implicitDefEqProofs (maxSteps := 2000000) only [go_sem] <;> and_intros <;> rfl) (by rfl))
  · obtain rfl : k = l.length := by omega
    simp -implicitDefEqProofs (maxSteps := 2000000) only [go_sem, c1]
    rfl
theorem frz_two (a b : List Int) : frz [[Cell.sl 0 (iv a)], [Cell.sl 0 (iv b)]] = iss 0 [a, b] := rfl
theorem union_sat (a b : List Int) (h : a.length + b.length ≤ 4194304) : Sat Tryz.prog 133 [lInts a, lInts b] [oInts (uni a b)] [g1, g1] := by
  refine sat_of_body mixed Tryz.func133 rfl (by kernel_rfl) (by kernel_rfl) (rs := [.tmp 4]) rfl rfl rfl ?_
  simp -implicitDefEqProofs (maxSteps := 2000000) only [go_sem]
  refine call_of (slicesConcat_sat [a, b] (by simp) (by simp; omega)) (by simp -implicitDefEqProofs (maxSteps := 2000000) only [go_sem, frz_two]) (callOk_still (by kernel_rfl) (by simp only [List.all_cons, List.all_nil, LV.still, LV.leaves, Leaf.still, ints_still, ris_still, eds_still, rels_still, iss_still, ems_still, Bool.and_self, Bool.and_true])) (by simp -implicitDefEqProofs (maxSteps := 2000000) only [go_sem, frz_two]) ?_
  simp -implicitDefEqProofs (maxSteps := 2000000) only [go_sem, frz_two]
  refine call_of (slicesSort_sat (a ++ b) (by simp; omega)) (by simp -implicitDefEqProofs (maxSteps := 2000000) only [go_sem]) (by kernel_rfl) (by simp -implicitDefEqProofs (maxSteps := 2000000) only [go_sem]) ?_
  simp -implicitDefEqProofs (maxSteps := 2000000) only [go_sem]
  refine call_of (slicesCompact_sat ((a ++ b).mergeSort fun x y => decide (x ≤ y)) (by rw [List.length_mergeSort, List.length_append]; omega)) (by simp -implicitDefEqProofs (maxSteps := 2000000) only [go_sem, List.length_mergeSort, List.length_append]) (by kernel_rfl) (by simp -implicitDefEqProofs (maxSteps := 2000000) only [go_sem, List.length_mergeSort, List.length_append]) ?_
  simp -implicitDefEqProofs (maxSteps := 2000000) only [go_sem, List.length_mergeSort, List.length_append]
  exact ⟨rfl, rfl⟩
/-- The variables of an atom. -/
def varsOf (l : List Int) : List Int := selN (fun v => decide (v ∈ l)) 4
theorem varsOf_len (l : List Int) : (varsOf l).length ≤ 4 := selN_len _ 4
theorem varsOf_uni (l : List Int) : uni (l.filter fun x => decide (0 ≤ x) && decide (x ≤ 3)) [] = varsOf l := by
  refine strict_eq (uni_strict _ _) (selN_strict _ _) fun x => ?_
  rw [varsOf, uni_mem, selN_mem, List.mem_filter]
  simp only [List.not_mem_nil, or_false, Bool.and_eq_true, decide_eq_true_eq]
  constructor
  · rintro ⟨h1, h2, h3⟩; exact ⟨h2, by omega, h1⟩
  · rintro ⟨h1, h2, h3⟩; exact ⟨h3, h1, by omega⟩
theorem implAtomVariables_sat (a : RI) (h : a.ok) : Sat Tryz.prog 134 [lRI a] [oInts (varsOf a.l)] [g2] := by
  unfold RI.ok at h
  refine sat_of_body mixed Tryz.func134 rfl (by kernel_rfl) (by kernel_rfl) (rs := [.tmp 2]) rfl rfl rfl ?_
  rw [← varsOf_uni]
  generalize hp : (fun x : Int => decide (0 ≤ x) && decide (x ≤ 3)) = p
  simp -implicitDefEqProofs (maxSteps := 2000000) only [go_sem]
  refine awp_loop Nat (fun k => mkSt [(3, .one (.ref 960 1 0 ((a.l.take k).filter p).length)), (8, .one (.im 1 (ints a.l))), (9, .sc (.int .i64 a.l.length)), (10, .sc (.int .i64 k))] [] [(960, (1, ints ((a.l.take k).filter p)))] 2000)
    (fun k => k ≤ a.l.length) (fun k => a.l.length - k) 0 (by omega) (le_st' _ _ [⟨960, some _, false, 1, _⟩] [] _ (by simp -implicitDefEqProofs (maxSteps := 2000000) only [go_sem] <;> and_intros <;> rfl) (by simp -implicitDefEqProofs (maxSteps := 2000000) only [go_sem] <;> and_intros <;> rfl) (by simp -implicitDefEqProofs (maxSteps := 2000000) only [go_sem] <;> and_intros <;> rfl) (by rfl)) ?_
  rintro k h1
  have hl : ((a.l.take k).filter p).length ≤ a.l.length := Nat.le_trans (List.length_filter_le _ _) (by rw [List.length_take]; omega)
  by_cases c1 : k < a.l.length
  · have t := take_snoc 0 c1
    simp -implicitDefEqProofs (maxSteps := 2000000) only [go_sem, c1]
    refine call_of (within_sat (a.l.getD k 0) 0 3) (by simp -implicitDefEqProofs (maxSteps := 2000000) only [go_sem, c1]) (by kernel_rfl) (by simp -implicitDefEqProofs (maxSteps := 2000000) only [go_sem, c1]) ?_
    simp -implicitDefEqProofs (maxSteps := 2000000) only [go_sem, c1]
    rcases d : (decide (0 ≤ a.l.getD k 0) && decide (a.l.getD k 0 ≤ 3))
    · simp -implicitDefEqProofs (maxSteps := 2000000) only [go_sem, d]
      rw [i64_succ (by omega)]
      refine ⟨k + 1, c1, by omega, ?_⟩
      rw [t, List.filter_append, List.filter_cons_of_neg (by rw [← hp]; show ¬ ((decide (0 ≤ a.l.getD k 0) && decide (a.l.getD k 0 ≤ 3)) = true); rw [d]; simp), List.filter_nil, List.append_nil]
      exact (le_st' _ _ [⟨960, some _, false, 1, _⟩] [] _ (by simp -implicitDefEqProofs (maxSteps := 2000000) only [go_sem] <;> and_intros <;> rfl) (by simp -implicitDefEqProofs (maxSteps := 2000000) only [go_sem] <;> and_intros <;> rfl) (by simp -implicitDefEqProofs (maxSteps := 2000000) only [go_sem] <;> and_intros <;> rfl) (by rfl))
    · simp -implicitDefEqProofs (maxSteps := 2000000) only [go_sem, d]
      refine ⟨by omega, ?_⟩
      rw [i64_succ (by omega)]
      refine ⟨k + 1, c1, by omega, ?_⟩
      rw [t, List.filter_append, List.filter_cons_of_pos (by rw [← hp]; exact d), List.filter_nil]
      exact (le_st' _ _ [⟨960, some _, false, 1, _⟩] [] _ (by simp -implicitDefEqProofs (maxSteps := 2000000) only [go_sem] <;> and_intros <;> rfl) (by simp -implicitDefEqProofs (maxSteps := 2000000) only [go_sem] <;> and_intros <;> rfl) (by simp -implicitDefEqProofs (maxSteps := 2000000) only [go_sem] <;> and_intros <;> rfl) (by rfl))
  · obtain rfl : k = a.l.length := by omega
    simp -implicitDefEqProofs (maxSteps := 2000000) only [go_sem, c1]
    rw [List.take_length] at hl
    refine call_of (union_sat (a.l.filter p) [] (by simp; omega)) (by simp -implicitDefEqProofs (maxSteps := 2000000) only [go_sem, ints_nil]) (callOk_still (by kernel_rfl) (by simp only [List.all_cons, List.all_nil, LV.still, LV.leaves, Leaf.still, ints_still, ris_still, eds_still, rels_still, iss_still, ems_still, Bool.and_self, Bool.and_true])) (by simp -implicitDefEqProofs (maxSteps := 2000000) only [go_sem, ints_nil]) ?_
    simp -implicitDefEqProofs (maxSteps := 2000000) only [go_sem, ints_nil]
    rfl
end Go.Proofs.YtedciihjgbkjgabGreatDoor.A


/- MARKS OF RELATIONS. Conditions: none. -/
namespace Go.Proofs.YtedciihjgbkjgabGreatDoor.A
open Go
set_option linter.unusedSimpArgs false
set_option linter.unusedVariables false
set_option maxRecDepth 100000

def digit (k : Nat) : ByteArray := ⟨[UInt8.ofNat (48 + k % 10)].toArray⟩
def mD : Nat → Nat → ByteArray → ByteArray
  | 0, _, out => out
  | f + 1, k, out => if k = 0 then out else mD f (k / 10) (digit k ++ out)
def markT (k : Int) : ByteArray := if k ≤ 0 then ⟨#[109, 48]⟩ else ⟨#[109]⟩ ++ mD k.toNat k.toNat ByteArray.empty
theorem digit_size (k : Nat) : (digit k).size = 1 := rfl
theorem mD_zero (f : Nat) (out : ByteArray) : mD f 0 out = out := by cases f <;> simp [mD]
theorem u8_digit (k : Nat) : IntKind.u8.wrap (IntKind.i64.wrap (48 + ((k : Int).tmod 10))) = ((48 + k % 10 : Nat) : Int) := by
  have h : (k : Int).tmod 10 = ((k % 10 : Nat) : Int) := by rw [Int.tmod_eq_emod_of_nonneg (by omega)]; omega
  rw [h, IntWalk.i64_in _ (by omega)]
  have h2 : k % 10 < 10 := Nat.mod_lt _ (by omega)
  unfold IntKind.wrap
  simp [IntKind.signed, IntKind.bits]
  omega
theorem i64_div10 {k : Nat} (h : k ≤ 9223372036854775807) : IntKind.i64.wrap ((k : Int).tdiv 10) = ((k / 10 : Nat) : Int) := by
  have h1 : (k : Int).tdiv 10 = ((k / 10 : Nat) : Int) := by rw [Int.tdiv_eq_ediv_of_nonneg (by omega)]; omega
  rw [h1, IntWalk.i64_in _ (by omega)]
theorem markText_sat (k : Int) (h : k + 1 ≤ 9223372036854775807) : Sat Tryz.prog 63 [lInt k] [lStr (markT k)] [g1] := by
  refine sat_of_body mixed Tryz.func63 rfl (by kernel_rfl) (by kernel_rfl) (rs := [.tmp 2]) rfl rfl rfl ?_
  unfold markT
  simp -implicitDefEqProofs (maxSteps := 2000000) only [go_sem]
  refine cond_split (fun d => ?_) fun d => ?_
  · simp -implicitDefEqProofs (maxSteps := 2000000) only [go_sem]
    rw [if_pos (of_decide_eq_true d)]
  have d := of_decide_eq_false d
  rw [if_neg d]
  obtain ⟨n, rfl⟩ : ∃ n : Nat, k = n := ⟨k.toNat, by omega⟩
  rw [Int.toNat_natCast]
  simp -implicitDefEqProofs (maxSteps := 2000000) only [go_sem]
  refine awp_loop (Nat × ByteArray × Nat) (fun x => mkSt [(0, .sc (.int .i64 x.1)), (3, .sc (.string x.2.1))] [] [] 1000)
    (fun x => x.1 ≤ x.2.2 ∧ x.2.1.size + x.1 ≤ n ∧ mD x.2.2 x.1 x.2.1 = mD n n ByteArray.empty) (fun x => x.1) (n, ByteArray.empty, n) ⟨by simp, by simp, rfl⟩ (le_st _ _ [] [] _ rfl (by simp -implicitDefEqProofs (maxSteps := 2000000) only [go_sem] <;> rfl) trivial trivial) ?_
  rintro ⟨m, out, f⟩ ⟨h1, h2, h3⟩
  simp only at h1 h2 h3
  by_cases c1 : 0 < m
  · obtain ⟨f, rfl⟩ : ∃ g, f = g + 1 := ⟨f - 1, by omega⟩
    rw [mD, if_neg (by omega)] at h3
    have c2 : (m : Int) > 0 := by omega
    have e1 := u8_digit m
    have e2 := i64_div10 (k := m) (by omega)
    simp -implicitDefEqProofs (maxSteps := 2000000) only [go_sem, c1, c2, e1, e2]
    have h10 : m % 10 < 10 := Nat.mod_lt _ (by omega)
    refine ⟨by omega, [UInt8.ofNat (48 + m % 10)], ?_, ?_, by omega, (m / 10, digit m ++ out, f), ⟨?_, ?_, h3⟩, ?_, (le_st _ _ [] [] _ rfl (by simp -implicitDefEqProofs (maxSteps := 2000000) only [go_sem] <;> rfl) trivial trivial)⟩
    · have h8 : (UInt8.ofNat (48 + m % 10)).toNat = 48 + m % 10 := by rw [UInt8.toNat_ofNat']; omega
      simp [lift, h8]
      omega
    · show (digit m).size + out.size ≤ _
      rw [digit_size]; omega
    · simp only; omega
    · simp only [ByteArray.size_append, digit_size]; omega
    · simp only; omega
  · obtain rfl : m = 0 := by omega
    rw [mD_zero] at h3
    simp -implicitDefEqProofs (maxSteps := 2000000) only [go_sem]
    exact ⟨by show 1 + out.size ≤ _; omega, by rw [← h3]⟩
theorem markRelationS_sat (a : List Rel) (k : Int) (h : 0 ≤ k ∧ k + ((3 * a.length : Nat) : Int) ≤ 9223372036854775807) (hl : a.length ≤ 9223372036854775807) : Sat Tryz.prog 23 [oRels a, lInt k] [lInt (k + ((3 * a.length : Nat) : Int))] [g1, g1] := by
  refine sat_of_body mixed Tryz.func23 rfl (by kernel_rfl) (by kernel_rfl) (rs := [.tmp 4]) rfl rfl rfl ?_
  simp -implicitDefEqProofs (maxSteps := 2000000) only [go_sem]
  refine awp_loop (Nat × List Rel) (fun x => mkSt [(0, .one (.ref 0 3 0 a.length)), (1, .sc (.int .i64 (k + ((3 * x.1 : Nat) : Int)))), (5, .sc (.int .i64 x.1))] [] [(0, (3, rels x.2))] 1000)
    (fun x => x.1 ≤ a.length ∧ x.2.length = a.length) (fun x => a.length - x.1) (0, a) ⟨by simp, rfl⟩ (le_st _ _ [⟨0, some 0, false, 3, _⟩] [] _ rfl (by simp -implicitDefEqProofs (maxSteps := 2000000) only [go_sem, Nat.mul_zero] <;> rfl) (by simp -implicitDefEqProofs (maxSteps := 2000000) only [go_sem, Nat.mul_zero] <;> rfl) (by simp -implicitDefEqProofs (maxSteps := 2000000) only [go_sem, Nat.mul_zero] <;> rfl)) ?_
  rintro ⟨i, b⟩ ⟨h1, h2⟩
  simp only at h1 h2
  by_cases c1 : i < a.length
  · have w1 : IntKind.i64.wrap (k + ((3 * i : Nat) : Int) + 1) = k + ((3 * i : Nat) : Int) + 1 := IntWalk.i64_in _ (by omega)
    have w2 : IntKind.i64.wrap (k + ((3 * i : Nat) : Int) + 1 + 1) = k + ((3 * i : Nat) : Int) + 1 + 1 := IntWalk.i64_in _ (by omega)
    have w3 : IntKind.i64.wrap (k + ((3 * i : Nat) : Int) + 1 + 1 + 1) = k + ((3 * (i + 1) : Nat) : Int) := by rw [IntWalk.i64_in _ (by omega)]; omega
    simp -implicitDefEqProofs (maxSteps := 2000000) only [go_sem, c1, h2, List.length_take, Nat.min_self]
    refine call_of (markText_sat (k + ((3 * i : Nat) : Int)) (by omega)) (by simp -implicitDefEqProofs (maxSteps := 2000000) only [go_sem, c1, h2, List.length_take, Nat.min_self, w1, w2, w3]) (by kernel_rfl) (by simp -implicitDefEqProofs (maxSteps := 2000000) only [go_sem, c1, h2, List.length_take, Nat.min_self, w1, w2, w3]) ?_
    simp -implicitDefEqProofs (maxSteps := 2000000) only [go_sem, c1, h2, List.length_take, Nat.min_self, w1, w2, w3]
    rw [i64_succ (by omega)]
    exact ⟨(i + 1, b.set i ⟨markT (k + ((3 * i : Nat) : Int)), k + ((3 * i : Nat) : Int) + 1, k + ((3 * i : Nat) : Int) + 1 + 1⟩), ⟨c1, by simpa using h2⟩, by simp; omega, (le_st _ _ [⟨0, some 0, false, 3, _⟩] [] _ rfl (by simp -implicitDefEqProofs (maxSteps := 2000000) only [go_sem, c1, h2] <;> rfl) (by simp -implicitDefEqProofs (maxSteps := 2000000) only [go_sem, c1, h2] <;> rfl) (by simp -implicitDefEqProofs (maxSteps := 2000000) only [go_sem, c1, h2] <;> rfl))⟩
  · obtain rfl : i = a.length := by omega
    simp -implicitDefEqProofs (maxSteps := 2000000) only [go_sem, c1, h2, List.length_take, Nat.min_self]
end Go.Proofs.YtedciihjgbkjgabGreatDoor.A


/- THE KEY VARIABLES OF AN ATOM. Conditions: none. -/
namespace Go.Proofs.YtedciihjgbkjgabGreatDoor.A
open Go
set_option linter.unusedSimpArgs false
set_option linter.unusedVariables false
set_option maxRecDepth 100000

def keyVars (l : List Rel) (a : RI) : List Int := if inB a.r 0 ((l.length : Int) - 1) && inB (l.getD a.r.toNat default).kl 0 a.l.length then varsOf (a.l.take (l.getD a.r.toNat default).kl.toNat) else []
theorem keyVars_len (l : List Rel) (a : RI) : (keyVars l a).length ≤ 4 := by
  unfold keyVars; split
  · exact varsOf_len _
  · simp
end Go.Proofs.YtedciihjgbkjgabGreatDoor.A


/- VALID QUERIES. Conditions: none. -/
namespace Go.Proofs.YtedciihjgbkjgabGreatDoor.A
open Go
set_option linter.unusedSimpArgs false
set_option linter.unusedVariables false
set_option maxRecDepth 100000

/-- Is the i-th number an index, and behind the one before it. -/
def idxAt (l : List Int) (n : Int) (i : Nat) : Bool := inB (l.getD i 0) 0 (n - 1) && (decide (i = 0) || !decide (l.getD i 0 ≤ l.getD (i - 1) 0))
def idxs (l : List Int) (n : Int) : Bool := upTo (idxAt l n) l.length
theorem areIndices_sat (l : List Int) (n : Int) (h : l.length ≤ 9223372036854775807) (hn : -9223372036854775807 ≤ n ∧ n ≤ 9223372036854775807) : Sat Tryz.prog 83 [lInts l, lInt n] [lBool (idxs l n)] [g1, g1] := by
  refine sat_of_body mixed Tryz.func83 rfl (by kernel_rfl) (by kernel_rfl) (rs := [.tmp 4]) rfl rfl rfl ?_
  unfold idxs
  have w0 : IntKind.i64.wrap (n - 1) = n - 1 := IntWalk.i64_in _ (by omega)
  simp -implicitDefEqProofs (maxSteps := 2000000) only [go_sem]
  refine awp_loop Nat (fun k => mkSt [(0, .one (.im 1 (ints l))), (1, .sc (.int .i64 n)), (7, .one (.im 1 (ints l))), (8, .sc (.int .i64 l.length)), (9, .sc (.int .i64 k))] [] [] 1000)
    (fun k => k ≤ l.length ∧ upTo (idxAt l n) k = true) (fun k => l.length - k) 0 ⟨by omega, rfl⟩ (le_st _ _ [] [] _ rfl (by simp -implicitDefEqProofs (maxSteps := 2000000) only [go_sem] <;> rfl) trivial trivial) ?_
  rintro k ⟨h1, h2⟩
  by_cases c1 : k < l.length
  · rcases d1 : inB (l.getD k 0) 0 (n - 1)
    · rw [upTo_false c1 (by rw [idxAt, d1]; rfl)]
      simp -implicitDefEqProofs (maxSteps := 2000000) only [go_sem, c1, w0]
      refine call_of (inW_sat (l.getD k 0) 0 (n - 1)) (by simp -implicitDefEqProofs (maxSteps := 2000000) only [go_sem, d1, c1]) (by kernel_rfl) (by simp -implicitDefEqProofs (maxSteps := 2000000) only [go_sem, d1, c1]) ?_
      simp -implicitDefEqProofs (maxSteps := 2000000) only [go_sem, d1, c1]
    rcases k with _ | j
    · have e : idxAt l n 0 = true := by rw [idxAt, d1]; rfl
      have c0 : (0 : Int) < l.length := by omega
      simp -implicitDefEqProofs (maxSteps := 2000000) only [go_sem, c1, c0, w0]
      refine call_of (inW_sat (l.getD 0 0) 0 (n - 1)) (by simp -implicitDefEqProofs (maxSteps := 2000000) only [go_sem, d1, c1, c0]) (by kernel_rfl) (by simp -implicitDefEqProofs (maxSteps := 2000000) only [go_sem, d1, c1, c0]) ?_
      simp -implicitDefEqProofs (maxSteps := 2000000) only [go_sem, d1, c1, c0]
      exact ⟨1, ⟨c1, upTo_step h2 e⟩, by omega, (le_st _ _ [] [] _ rfl (by simp -implicitDefEqProofs (maxSteps := 2000000) only [go_sem] <;> rfl) trivial trivial)⟩
    · have c2 : j < l.length := by omega
      have c3 : 0 < ((j + 1 : Nat) : Int) := by omega
      have w1 := i64_pred (j := j) (by omega)
      rcases d2 : decide (l.getD (j + 1) 0 ≤ l.getD j 0)
      · have e : idxAt l n (j + 1) = true := by rw [idxAt, d1, Nat.add_sub_cancel, d2]; rfl
        simp -implicitDefEqProofs (maxSteps := 2000000) only [go_sem, c1, w0]
        refine call_of (inW_sat (l.getD (j + 1) 0) 0 (n - 1)) (by simp -implicitDefEqProofs (maxSteps := 2000000) only [go_sem, d1, d2, c1, c2, c3, w1]) (by kernel_rfl) (by simp -implicitDefEqProofs (maxSteps := 2000000) only [go_sem, d1, d2, c1, c2, c3, w1]) ?_
        simp -implicitDefEqProofs (maxSteps := 2000000) only [go_sem, d1, d2, c1, c2, c3, w1]
        rw [i64_succ (by omega)]
        exact ⟨j + 1 + 1, ⟨c1, upTo_step h2 e⟩, by omega, (le_st _ _ [] [] _ rfl (by simp -implicitDefEqProofs (maxSteps := 2000000) only [go_sem] <;> rfl) trivial trivial)⟩
      · rw [upTo_false c1 (show idxAt l n (j + 1) = false by rw [idxAt, d1, Nat.add_sub_cancel, d2]; rfl)]
        simp -implicitDefEqProofs (maxSteps := 2000000) only [go_sem, c1, w0]
        refine call_of (inW_sat (l.getD (j + 1) 0) 0 (n - 1)) (by simp -implicitDefEqProofs (maxSteps := 2000000) only [go_sem, d1, d2, c1, c2, c3, w1]) (by kernel_rfl) (by simp -implicitDefEqProofs (maxSteps := 2000000) only [go_sem, d1, d2, c1, c2, c3, w1]) ?_
        simp -implicitDefEqProofs (maxSteps := 2000000) only [go_sem, d1, d2, c1, c2, c3, w1]
  · obtain rfl : k = l.length := by omega
    simp -implicitDefEqProofs (maxSteps := 2000000) only [go_sem, c1]
    rw [h2]
/-- The i-th atom: its relation is one, its arity fits, no atom before it has its relation, its terms are such. -/
def relAt (l : List Rel) (a : RI) : Bool := inB a.r 0 ((l.length : Int) - 1) && ((a.l.length : Int) == (l.getD a.r.toNat default).ar)
def termOk (vc : Int) (ts : List Int) (i : Nat) : Bool := inB (ts.getD i 0) (-10) (vc - 1)
def newRel (q : Qu) (i k : Nat) : Bool := !((q.atoms.getD k default).r == (q.atoms.getD i default).r)
def atomOk (l : List Rel) (q : Qu) (i : Nat) : Bool := relAt l (q.atoms.getD i default) && (upTo (newRel q i) i && upTo (termOk q.vc (q.atoms.getD i default).l) (q.atoms.getD i default).l.length)
/-- The variables that occur in the first k atoms. -/
def occurs (q : Qu) (k : Nat) (v : Int) : Bool := (q.atoms.take k).any fun a => decide (v ∈ a.l)
def goodQu (l : List Rel) (q : Qu) : Bool := goodRels l && (inB q.vc 0 4 && (inB q.atoms.length 1 3 && (idxs q.free q.vc && (upTo (atomOk l q) q.atoms.length && upTo (fun v => occurs q q.atoms.length v) q.vc.toNat))))

/-! #### lists of truth values -/
def bls (l : List Bool) : Rows := l.map fun b => [Cell.sc (.bool b)]
theorem bls_length (l : List Bool) : (bls l).length = l.length := by simp [bls]
theorem bls_get {l : List Bool} {i : Nat} (h : i < l.length) : (bls l).getD i [] = [Cell.sc (.bool (l.getD i false))] := get_map false (fun b => [Cell.sc (.bool b)]) h
theorem bls_frz (l : List Bool) : frz (bls l) = bls l := frz_map _ _ (fun _ => rfl) l
theorem bls_rst (l : List Bool) : rst (bls l) = bls l := rst_map _ _ (fun _ => rfl) l
theorem bls_stm (n : Nat) (l : List Bool) : stm n (bls l) = bls l := stm_map n _ _ (fun _ => rfl) l
theorem bls_take (l : List Bool) (k : Nat) : (bls l).take k = bls (l.take k) := by simp [bls]
theorem bls_set (l : List Bool) (i : Nat) (b : Bool) : (bls l).set i [.sc (.bool b)] = bls (l.set i b) := by simp [bls, List.map_set]
theorem bls_rep (n : Nat) (b : Bool) : List.replicate n [Cell.sc (.bool b)] = bls (List.replicate n b) := by simp [bls]
attribute [go_sem] bls_length bls_get bls_frz bls_rst bls_stm bls_take bls_set bls_rep
def met4 (p : Nat → Bool) : List Bool := [p 0, p 1, p 2, p 3]
theorem met4_length (p : Nat → Bool) : (met4 p).length = 4 := rfl
theorem met4_get {p : Nat → Bool} {i : Nat} (h : i < 4) : (met4 p).getD i false = p i := by
  match i, h with
  | 0, _ => rfl
  | 1, _ => rfl
  | 2, _ => rfl
  | 3, _ => rfl
theorem met4_set {p p' : Nat → Bool} {i : Nat} (h : i < 4) (h1 : p' i = true) (h2 : ∀ v, v ≠ i → p' v = p v) : (met4 p).set i true = met4 p' := by
  match i, h with
  | 0, _ => simp [met4, h1, h2]
  | 1, _ => simp [met4, h1, h2]
  | 2, _ => simp [met4, h1, h2]
  | 3, _ => simp [met4, h1, h2]
theorem met4_eq {p p' : Nat → Bool} (h : ∀ v, p v = p' v) : met4 p = met4 p' := by simp [met4, h]

/-! #### what occurs -/
theorem occurs_step {q : Qu} {k : Nat} (h : k < q.atoms.length) (v : Int) : occurs q (k + 1) v = (occurs q k v || decide (v ∈ (q.atoms.getD k default).l)) := by
  unfold occurs; rw [take_snoc default h, List.any_append]; simp
theorem occurs_zero (q : Qu) (v : Int) : occurs q 0 v = false := rfl
theorem uni_occurs {q : Qu} {k : Nat} (h : k < q.atoms.length) : uni (selN (occurs q k) 4) (varsOf (q.atoms.getD k default).l) = selN (occurs q (k + 1)) 4 := by
  refine strict_eq (uni_strict _ _) (selN_strict _ _) fun x => ?_
  rw [uni_mem, varsOf, selN_mem, selN_mem, selN_mem, occurs_step h, Bool.or_eq_true]
  constructor
  · rintro (⟨a, b, c⟩ | ⟨a, b, c⟩)
    · exact ⟨a, b, .inl c⟩
    · exact ⟨a, b, .inr c⟩
  · rintro ⟨a, b, c | c⟩
    · exact .inl ⟨a, b, c⟩
    · exact .inr ⟨a, b, c⟩
theorem selN_full {p : Int → Bool} : ∀ {n : Nat}, (((selN p n).length : Int) == n) = upTo (fun v => p v) n
  | 0 => by simp [selN, upTo]
  | n + 1 => by
    have ih := selN_full (p := p) (n := n)
    have hl := selN_len p n
    rw [upTo, ← ih]
    rcases e : p n
    · rw [selN_no e, Bool.and_false]
      exact beq_eq_false_iff_ne.mpr (by omega)
    · rw [selN_yes e, Bool.and_true, List.length_append, List.length_singleton, Bool.eq_iff_iff, beq_iff_eq, beq_iff_eq]
      omega
theorem selN_above {p : Int → Bool} {n : Nat} : ∀ {m : Nat}, n ≤ m → (∀ v : Nat, n ≤ v → v < m → p v = false) → selN p m = selN p n
  | 0, h, _ => by rw [show n = 0 by omega]
  | m + 1, h, hp => by
    by_cases e : n = m + 1
    · rw [e]
    · rw [selN_no (hp m (by omega) (by omega)), selN_above (by omega) fun v h1 h2 => hp v h1 (by omega)]
theorem occurs_lt {l : List Rel} {q : Qu} {k : Nat} (hk : k ≤ q.atoms.length) (h : upTo (atomOk l q) k = true) {v : Int} (hv : occurs q k v = true) : v ≤ q.vc - 1 := by
  unfold occurs at hv
  obtain ⟨a, ha, hva⟩ := List.any_eq_true.mp hv
  obtain ⟨i, hi, rfl⟩ := List.mem_iff_getElem.mp ha
  rw [List.length_take] at hi
  have h1 := upTo_at h (k := i) (by omega)
  unfold atomOk at h1
  simp only [Bool.and_eq_true] at h1
  have e : q.atoms.getD i default = (q.atoms.take k)[i]'(by rw [List.length_take]; exact hi) := by
    rw [List.getElem_take, List.getD_eq_getElem?_getD, List.getElem?_eq_getElem (by omega)]; rfl
  rw [e] at h1
  obtain ⟨j, hj, hje⟩ := List.mem_iff_getElem.mp (of_decide_eq_true hva)
  have h2 := upTo_at h1.2.2 hj
  unfold termOk at h2
  have h3 := inB_of h2
  rw [List.getD_eq_getElem?_getD, List.getElem?_eq_getElem hj] at h3
  simp only [Option.getD_some] at h3
  rw [hje] at h3
  exact h3.2
theorem all_occur {l : List Rel} {q : Qu} (h4 : inB q.vc 0 4 = true) (h : upTo (atomOk l q) q.atoms.length = true) : (((selN (occurs q q.atoms.length) 4).length : Int) == q.vc) = upTo (fun v => occurs q q.atoms.length v) q.vc.toNat := by
  have hv := inB_of h4
  rw [← selN_full, selN_above (n := q.vc.toNat) (m := 4) (by omega) fun v h1 h2 => ?_]
  · rw [show ((q.vc.toNat : Nat) : Int) = q.vc by omega]
  · rcases e : occurs q q.atoms.length v
    · rfl
    · have := occurs_lt (Nat.le_refl _) h e
      omega
end Go.Proofs.YtedciihjgbkjgabGreatDoor.A


/- VALID QUERIES: the two programs. Conditions: none. -/
namespace Go.Proofs.YtedciihjgbkjgabGreatDoor.A
open Go
set_option linter.unusedSimpArgs false
set_option linter.unusedVariables false
set_option maxRecDepth 100000

theorem goodQu_atom {l : List Rel} {q : Qu} {i : Nat} (hi : i < q.atoms.length) (h : atomOk l q i = false) : goodQu l q = false := by
  unfold goodQu; rw [upTo_false hi h]; simp
theorem goodQu_var {l : List Rel} {q : Qu} {v : Nat} (hv : v < q.vc.toNat) (h : occurs q q.atoms.length v = false) : goodQu l q = false := by
  unfold goodQu; rw [upTo_false (p := fun v => occurs q q.atoms.length v) hv h]; simp
theorem goodQu_free {l : List Rel} {q : Qu} {v : Nat} (hv : v < q.free.length) (h : idxAt q.free q.vc v = false) : goodQu l q = false := by
  unfold goodQu idxs; rw [upTo_false hv h]; simp
theorem dec_snoc {l : List Int} {x v : Int} (h : v ≠ x) : decide (v ∈ l ++ [x]) = decide (v ∈ l) := by
  rw [Bool.eq_iff_iff, decide_eq_true_iff, decide_eq_true_iff, List.mem_append, List.mem_singleton]
  exact ⟨fun k => k.resolve_right h, .inl⟩
theorem specIsValidQuery_sat (l : List Rel) (q : Qu) (h : l.length ≤ 9223372036854775807) (hq : q.fit) : Sat Tryz.prog 90 [lRels l, lQu q] [lBool (goodQu l q)] [g1, g3] := by
  refine sat_of_body mixed Tryz.func90 rfl (by kernel_rfl) (by kernel_rfl) (rs := [.tmp 4]) rfl rfl rfl ?_
  have w0 : IntKind.i64.wrap ((l.length : Int) - 1) = (l.length : Int) - 1 := IntWalk.i64_in _ (by omega)
  simp -implicitDefEqProofs (maxSteps := 2000000) only [go_sem]
  rcases g : goodRels l
  · rw [show goodQu l q = false by rw [goodQu, g]; rfl]
    refine call_of (specAreValidRelations_sat l h) (by simp -implicitDefEqProofs (maxSteps := 2000000) only [go_sem, g]) (by kernel_rfl) (by simp -implicitDefEqProofs (maxSteps := 2000000) only [go_sem, g]) ?_
    simp -implicitDefEqProofs (maxSteps := 2000000) only [go_sem, g]
  rcases v1 : inB q.vc 0 4
  · rw [show goodQu l q = false by rw [goodQu, v1]; simp]
    refine call_of (specAreValidRelations_sat l h) (by simp -implicitDefEqProofs (maxSteps := 2000000) only [go_sem, g]) (by kernel_rfl) (by simp -implicitDefEqProofs (maxSteps := 2000000) only [go_sem, g]) ?_
    simp -implicitDefEqProofs (maxSteps := 2000000) only [go_sem, g]
    refine call_of (inB_sat q.vc 0 4) (by simp -implicitDefEqProofs (maxSteps := 2000000) only [go_sem, v1]) (by kernel_rfl) (by simp -implicitDefEqProofs (maxSteps := 2000000) only [go_sem, v1]) ?_
    simp -implicitDefEqProofs (maxSteps := 2000000) only [go_sem, v1]
  rcases v2 : inB q.atoms.length 1 3
  · rw [show goodQu l q = false by rw [goodQu, v2]; simp]
    refine call_of (specAreValidRelations_sat l h) (by simp -implicitDefEqProofs (maxSteps := 2000000) only [go_sem, g]) (by kernel_rfl) (by simp -implicitDefEqProofs (maxSteps := 2000000) only [go_sem, g]) ?_
    simp -implicitDefEqProofs (maxSteps := 2000000) only [go_sem, g]
    refine call_of (inB_sat q.vc 0 4) (by simp -implicitDefEqProofs (maxSteps := 2000000) only [go_sem, v1]) (by kernel_rfl) (by simp -implicitDefEqProofs (maxSteps := 2000000) only [go_sem, v1]) ?_
    simp -implicitDefEqProofs (maxSteps := 2000000) only [go_sem, v1]
    refine call_of (inB_sat q.atoms.length 1 3) (by simp -implicitDefEqProofs (maxSteps := 2000000) only [go_sem, v2]) (by kernel_rfl) (by simp -implicitDefEqProofs (maxSteps := 2000000) only [go_sem, v2]) ?_
    simp -implicitDefEqProofs (maxSteps := 2000000) only [go_sem, v2]
  obtain ⟨b1, b2⟩ := inB_of v1
  obtain ⟨b3, b4⟩ := inB_of v2
  have wv : IntKind.i64.wrap (q.vc - 1) = q.vc - 1 := IntWalk.i64_in _ (by omega)
  refine call_of (specAreValidRelations_sat l h) (by simp -implicitDefEqProofs (maxSteps := 2000000) only [go_sem, g]) (by kernel_rfl) (by simp -implicitDefEqProofs (maxSteps := 2000000) only [go_sem, g]) ?_
  simp -implicitDefEqProofs (maxSteps := 2000000) only [go_sem, g]
  refine call_of (inB_sat q.vc 0 4) (by simp -implicitDefEqProofs (maxSteps := 2000000) only [go_sem, v1]) (by kernel_rfl) (by simp -implicitDefEqProofs (maxSteps := 2000000) only [go_sem, v1]) ?_
  simp -implicitDefEqProofs (maxSteps := 2000000) only [go_sem, v1]
  refine call_of (inB_sat q.atoms.length 1 3) (by simp -implicitDefEqProofs (maxSteps := 2000000) only [go_sem, v2]) (by kernel_rfl) (by simp -implicitDefEqProofs (maxSteps := 2000000) only [go_sem, v2]) ?_
  simp -implicitDefEqProofs (maxSteps := 2000000) only [go_sem, v2]
  rw [show (4 : Int) = ((4 : Nat) : Int) from rfl, msK_n]
  refine ⟨by omega, ?_⟩
  simp -implicitDefEqProofs (maxSteps := 2000000) only [go_sem]
  obtain ⟨L0, hL0⟩ : ∃ L, L = List.replicate 4 false := ⟨_, rfl⟩
  rw [← hL0]
  refine awp_loop (Nat × List Bool) (fun x => mkSt [(0, .one (.im 3 (rels l))), (3, .one (.vad 1000 0)), (5, .one (.ref 960 1 0 4)), (6, .sc (.int .i64 x.1))] [(1000, sQu q)] [(960, (1, bls x.2))] 2000)
    (fun x => x.1 ≤ q.atoms.length ∧ upTo (atomOk l q) x.1 = true ∧ x.2 = met4 fun v => occurs q x.1 v) (fun x => q.atoms.length - x.1) (0, L0) ⟨by simp, rfl, hL0.trans rfl⟩ (le_st' _ _ [⟨960, some _, false, 1, _⟩] [] _ (by simp -implicitDefEqProofs (maxSteps := 2000000) only [go_sem] <;> and_intros <;> rfl) (by simp -implicitDefEqProofs (maxSteps := 2000000) only [go_sem] <;> and_intros <;> rfl) (by simp -implicitDefEqProofs (maxSteps := 2000000) only [go_sem] <;> and_intros <;> rfl) (by rfl)) ?_
  rintro ⟨i, b⟩ ⟨h1, h2, hb⟩
  simp only at h1 h2 hb
  have hbl : b.length = 4 := by rw [hb]; rfl
  by_cases c1 : i < q.atoms.length
  · have hfa : (q.atoms.getD i default).fit := hq.1.2 _ (mem_getD default c1)
    rcases ea : q.atoms.getD i default with ⟨r, ts⟩
    rw [ea] at hfa
    have hts : ts.length ≤ 9223372036854775807 := hfa
    have wi : IntKind.i64.wrap ((i : Int) + 1) = ((i + 1 : Nat) : Int) := i64_succ (by omega)
    rcases i1 : inB r 0 ((l.length : Int) - 1)
    · rw [goodQu_atom c1 (by rw [atomOk, ea, relAt, i1]; rfl)]
      simp -implicitDefEqProofs (maxSteps := 2000000) only [go_sem, c1, ea, w0]
      refine call_of (inB_sat r 0 ((l.length : Int) - 1)) (by simp -implicitDefEqProofs (maxSteps := 2000000) only [go_sem, i1]) (by kernel_rfl) (by simp -implicitDefEqProofs (maxSteps := 2000000) only [go_sem, i1]) ?_
      simp -implicitDefEqProofs (maxSteps := 2000000) only [go_sem, i1]
    obtain ⟨r1, r2⟩ := inB_of i1
    obtain ⟨m, rfl⟩ : ∃ m : Nat, r = m := ⟨r.toNat, by omega⟩
    have c2 : m < l.length := by omega
    rcases d2 : (ts.length : Int) == (l.getD m default).ar
    · have d3 : ((ts.length : Int) != (l.getD m default).ar) = true := by rw [bne, d2]; rfl
      rw [goodQu_atom c1 (by rw [atomOk, ea, relAt, i1]; simp only [Int.toNat_natCast, d2]; rfl)]
      simp -implicitDefEqProofs (maxSteps := 2000000) only [go_sem, c1, ea, w0]
      refine call_of (inB_sat m 0 ((l.length : Int) - 1)) (by simp -implicitDefEqProofs (maxSteps := 2000000) only [go_sem, i1, d3, c2]) (by kernel_rfl) (by simp -implicitDefEqProofs (maxSteps := 2000000) only [go_sem, i1, d3, c2]) ?_
      simp -implicitDefEqProofs (maxSteps := 2000000) only [go_sem, i1, d3, c2]
    have d3 : ((ts.length : Int) != (l.getD m default).ar) = false := by rw [bne, d2]; rfl
    have hrel : relAt l ⟨m, ts⟩ = true := by rw [relAt, i1]; simp only [Int.toNat_natCast, d2]; rfl
    simp -implicitDefEqProofs (maxSteps := 2000000) only [go_sem, c1, ea, w0]
    refine call_of (inB_sat m 0 ((l.length : Int) - 1)) (by simp -implicitDefEqProofs (maxSteps := 2000000) only [go_sem, i1, d3, c2]) (by kernel_rfl) (by simp -implicitDefEqProofs (maxSteps := 2000000) only [go_sem, i1, d3, c2]) ?_
    simp -implicitDefEqProofs (maxSteps := 2000000) only [go_sem, i1, d3, c2]
    refine awp_loop Nat (fun k => mkSt [(0, .one (.im 3 (rels l))), (3, .one (.vad 1000 0)), (5, .one (.ref 960 1 0 4)), (6, .sc (.int .i64 i)), (7, .one (.vad 2640 0)), (8, .sc (.int .i64 k))] [(1000, sQu q), (2640, sRI ⟨m, ts⟩)] [(960, (1, bls b))] 4000)
      (fun k => k ≤ i ∧ upTo (newRel q i) k = true) (fun k => i - k) 0 ⟨by omega, rfl⟩ (le_st' _ _ [⟨960, some _, false, 1, _⟩] [] _ (by simp -implicitDefEqProofs (maxSteps := 2000000) only [go_sem] <;> and_intros <;> rfl) (by simp -implicitDefEqProofs (maxSteps := 2000000) only [go_sem] <;> and_intros <;> rfl) (by simp -implicitDefEqProofs (maxSteps := 2000000) only [go_sem] <;> and_intros <;> rfl) (by rfl)) ?_
    rintro k ⟨h3, h4⟩
    by_cases c3 : k < i
    · have c4 : k < q.atoms.length := by omega
      rcases d4 : (q.atoms.getD k default).r == (m : Int)
      · simp -implicitDefEqProofs (maxSteps := 2000000) only [go_sem, c3, c4, d4]
        rw [i64_succ (by omega)]
        exact ⟨k + 1, ⟨c3, upTo_step h4 (by rw [newRel, ea, d4]; rfl)⟩, by omega, (le_st' _ _ [⟨960, some _, false, 1, _⟩] [] _ (by simp -implicitDefEqProofs (maxSteps := 2000000) only [go_sem] <;> and_intros <;> rfl) (by simp -implicitDefEqProofs (maxSteps := 2000000) only [go_sem] <;> and_intros <;> rfl) (by simp -implicitDefEqProofs (maxSteps := 2000000) only [go_sem] <;> and_intros <;> rfl) (by rfl))⟩
      · rw [goodQu_atom c1 (by rw [atomOk, upTo_false c3 (by rw [newRel, ea, d4]; rfl)]; simp)]
        simp -implicitDefEqProofs (maxSteps := 2000000) only [go_sem, c3, c4, d4]
    obtain rfl : k = i := by omega
    simp -implicitDefEqProofs (maxSteps := 2000000) only [go_sem, c3]
    refine awp_loop (Nat × List Bool) (fun x => mkSt [(0, .one (.im 3 (rels l))), (3, .one (.vad 1000 0)), (5, .one (.ref 960 1 0 4)), (6, .sc (.int .i64 k)), (7, .one (.vad 2640 0)), (9, .sc (.int .i64 x.1))] [(1000, sQu q), (2640, sRI ⟨m, ts⟩)] [(960, (1, bls x.2))] 6000)
      (fun x => x.1 ≤ ts.length ∧ upTo (termOk q.vc ts) x.1 = true ∧ x.2 = met4 fun v => occurs q k v || decide ((v : Int) ∈ ts.take x.1)) (fun x => ts.length - x.1) (0, b) ⟨by simp, rfl, hb.trans (met4_eq (p' := fun v => occurs q k v || decide ((v : Int) ∈ ts.take 0)) fun v => by simp)⟩ (le_st' _ _ [⟨960, some _, false, 1, _⟩] [] _ (by simp -implicitDefEqProofs (maxSteps := 2000000) only [go_sem] <;> and_intros <;> rfl) (by simp -implicitDefEqProofs (maxSteps := 2000000) only [go_sem] <;> and_intros <;> rfl) (by simp -implicitDefEqProofs (maxSteps := 2000000) only [go_sem] <;> and_intros <;> rfl) (by rfl)) ?_
    rintro ⟨j, bb⟩ ⟨h5, h6, hbb⟩
    simp only at h5 h6 hbb
    have hbbl : bb.length = 4 := by rw [hbb]; rfl
    by_cases c5 : j < ts.length
    · rcases d5 : inB (ts.getD j 0) (-10) (q.vc - 1)
      · rw [goodQu_atom c1 (by rw [atomOk, ea, upTo_false c5 (by rw [termOk, d5])]; simp)]
        simp -implicitDefEqProofs (maxSteps := 2000000) only [go_sem, c5, wv]
        refine call_of (inB_sat (ts.getD j 0) (-10) (q.vc - 1)) (by simp -implicitDefEqProofs (maxSteps := 2000000) only [go_sem, d5]) (by kernel_rfl) (by simp -implicitDefEqProofs (maxSteps := 2000000) only [go_sem, d5]) ?_
        simp -implicitDefEqProofs (maxSteps := 2000000) only [go_sem, d5]
      obtain ⟨t1, t2⟩ := inB_of d5
      have hts1 : ts.take (j + 1) = ts.take j ++ [ts.getD j 0] := take_snoc 0 c5
      have h6' := upTo_step h6 (show termOk q.vc ts j = true by rw [termOk, d5])
      simp -implicitDefEqProofs (maxSteps := 2000000) only [go_sem, c5, wv]
      refine call_of (inB_sat (ts.getD j 0) (-10) (q.vc - 1)) (by simp -implicitDefEqProofs (maxSteps := 2000000) only [go_sem, d5, c5]) (by kernel_rfl) (by simp -implicitDefEqProofs (maxSteps := 2000000) only [go_sem, d5, c5]) ?_
      simp -implicitDefEqProofs (maxSteps := 2000000) only [go_sem, d5, c5]
      by_cases c6 : 0 ≤ ts.getD j 0
      · obtain ⟨t, ht⟩ : ∃ t : Nat, ts.getD j 0 = t := ⟨(ts.getD j 0).toNat, by omega⟩
        have c7 : t < 4 := by omega
        have c8 : 0 ≤ (t : Int) := by omega
        simp -implicitDefEqProofs (maxSteps := 2000000) only [go_sem, ht, c5, c7, c8, hbbl]
        rw [i64_succ (by omega)]
        refine ⟨(j + 1, bb.set t true), ⟨c5, h6', ?_⟩, by simp; omega, (le_st' _ _ [⟨960, some _, false, 1, _⟩] [] _ (by simp -implicitDefEqProofs (maxSteps := 2000000) only [go_sem, hbbl, c7] <;> and_intros <;> rfl) (by simp -implicitDefEqProofs (maxSteps := 2000000) only [go_sem, hbbl, c7] <;> and_intros <;> rfl) (by simp -implicitDefEqProofs (maxSteps := 2000000) only [go_sem, hbbl, c7] <;> and_intros <;> rfl) (by rfl))⟩
        rw [hbb]
        exact met4_set c7 (by rw [hts1, ht]; simp) (fun v hv => by rw [hts1, ht, dec_snoc (fun e => hv (by omega))])
      · simp -implicitDefEqProofs (maxSteps := 2000000) only [go_sem, c6]
        rw [i64_succ (by omega)]
        refine ⟨(j + 1, bb), ⟨c5, h6', ?_⟩, by simp; omega, (le_st' _ _ [⟨960, some _, false, 1, _⟩] [] _ (by simp -implicitDefEqProofs (maxSteps := 2000000) only [go_sem] <;> and_intros <;> rfl) (by simp -implicitDefEqProofs (maxSteps := 2000000) only [go_sem] <;> and_intros <;> rfl) (by simp -implicitDefEqProofs (maxSteps := 2000000) only [go_sem] <;> and_intros <;> rfl) (by rfl))⟩
        exact hbb.trans (met4_eq (p' := fun v => occurs q k v || decide ((v : Int) ∈ ts.take (j + 1))) fun v => by rw [hts1, dec_snoc (by omega)])
    · obtain rfl : j = ts.length := by omega
      simp -implicitDefEqProofs (maxSteps := 2000000) only [go_sem, c5, wi]
      refine ⟨(k + 1, bb), ⟨c1, upTo_step h2 (by rw [atomOk, ea, hrel, h4, h6]; rfl), ?_⟩, by simp; omega, (le_st' _ _ [⟨960, some _, false, 1, _⟩] [] _ (by simp -implicitDefEqProofs (maxSteps := 2000000) only [go_sem] <;> and_intros <;> rfl) (by simp -implicitDefEqProofs (maxSteps := 2000000) only [go_sem] <;> and_intros <;> rfl) (by simp -implicitDefEqProofs (maxSteps := 2000000) only [go_sem] <;> and_intros <;> rfl) (by rfl))⟩
      exact hbb.trans (met4_eq (p' := fun v => occurs q (k + 1) v) fun v => by rw [occurs_step c1, ea, List.take_length])
  obtain rfl : i = q.atoms.length := by omega
  simp -implicitDefEqProofs (maxSteps := 2000000) only [go_sem, c1]
  refine awp_loop Nat (fun v => mkSt [(3, .one (.vad 1000 0)), (5, .one (.ref 960 1 0 4)), (10, .sc (.int .i64 v))] [(1000, sQu q)] [(960, (1, bls b))] 4000)
    (fun v => v ≤ q.vc.toNat ∧ upTo (fun v => occurs q q.atoms.length v) v = true) (fun v => q.vc.toNat - v) 0 ⟨by omega, rfl⟩ (le_st' _ _ [⟨960, some _, false, 1, _⟩] [] _ (by simp -implicitDefEqProofs (maxSteps := 2000000) only [go_sem] <;> and_intros <;> rfl) (by simp -implicitDefEqProofs (maxSteps := 2000000) only [go_sem] <;> and_intros <;> rfl) (by simp -implicitDefEqProofs (maxSteps := 2000000) only [go_sem] <;> and_intros <;> rfl) (by rfl)) ?_
  rintro v ⟨h3, h4⟩
  by_cases c3 : v < q.vc.toNat
  · have c4 : (v : Int) < q.vc := by omega
    have c5 : v < 4 := by omega
    have e5 : b.getD v false = occurs q q.atoms.length v := by rw [hb]; exact met4_get (p := fun v => occurs q q.atoms.length v) c5
    rcases d5 : occurs q q.atoms.length v
    · rw [goodQu_var c3 d5]
      simp -implicitDefEqProofs (maxSteps := 2000000) only [go_sem, c4, c5, e5, d5, hbl]
    · simp -implicitDefEqProofs (maxSteps := 2000000) only [go_sem, c4, c5, e5, d5, hbl]
      rw [i64_succ (by omega)]
      exact ⟨v + 1, ⟨c3, upTo_step h4 d5⟩, by omega, (le_st' _ _ [⟨960, some _, false, 1, _⟩] [] _ (by simp -implicitDefEqProofs (maxSteps := 2000000) only [go_sem] <;> and_intros <;> rfl) (by simp -implicitDefEqProofs (maxSteps := 2000000) only [go_sem] <;> and_intros <;> rfl) (by simp -implicitDefEqProofs (maxSteps := 2000000) only [go_sem] <;> and_intros <;> rfl) (by rfl))⟩
  obtain rfl : v = q.vc.toNat := by omega
  have c4 : ¬ ((q.vc.toNat : Nat) : Int) < q.vc := by omega
  simp -implicitDefEqProofs (maxSteps := 2000000) only [go_sem, c4]
  have hff := hq.2
  refine awp_loop Nat (fun k => mkSt [(3, .one (.vad 1000 0)), (11, .sc (.int .i64 k))] [(1000, sQu q)] [] 6000)
    (fun k => k ≤ q.free.length ∧ upTo (idxAt q.free q.vc) k = true) (fun k => q.free.length - k) 0 ⟨by omega, rfl⟩ (le_st _ _ [] [] _ rfl (by simp -implicitDefEqProofs (maxSteps := 2000000) only [go_sem] <;> rfl) (by simp -implicitDefEqProofs (maxSteps := 2000000) only [go_sem] <;> rfl) (by simp -implicitDefEqProofs (maxSteps := 2000000) only [go_sem] <;> rfl)) ?_
  rintro k ⟨h5, h6⟩
  by_cases e1 : k < q.free.length
  · rcases d1 : inB (q.free.getD k 0) 0 (q.vc - 1)
    · rw [goodQu_free e1 (by rw [idxAt, d1]; rfl)]
      simp -implicitDefEqProofs (maxSteps := 2000000) only [go_sem, e1, wv]
      refine call_of (inB_sat (q.free.getD k 0) 0 (q.vc - 1)) (by simp -implicitDefEqProofs (maxSteps := 2000000) only [go_sem, d1, e1]) (by kernel_rfl) (by simp -implicitDefEqProofs (maxSteps := 2000000) only [go_sem, d1, e1]) ?_
      simp -implicitDefEqProofs (maxSteps := 2000000) only [go_sem, d1, e1]
    rcases k with _ | j
    · have e : idxAt q.free q.vc 0 = true := by rw [idxAt, d1]; rfl
      have e0 : (0 : Int) < q.free.length := by omega
      simp -implicitDefEqProofs (maxSteps := 2000000) only [go_sem, e1, e0, wv]
      refine call_of (inB_sat (q.free.getD 0 0) 0 (q.vc - 1)) (by simp -implicitDefEqProofs (maxSteps := 2000000) only [go_sem, d1, e1, e0]) (by kernel_rfl) (by simp -implicitDefEqProofs (maxSteps := 2000000) only [go_sem, d1, e1, e0]) ?_
      simp -implicitDefEqProofs (maxSteps := 2000000) only [go_sem, d1, e1, e0]
      exact ⟨1, ⟨e1, upTo_step h6 e⟩, by omega, (le_st _ _ [] [] _ rfl (by simp -implicitDefEqProofs (maxSteps := 2000000) only [go_sem] <;> rfl) (by simp -implicitDefEqProofs (maxSteps := 2000000) only [go_sem] <;> rfl) (by simp -implicitDefEqProofs (maxSteps := 2000000) only [go_sem] <;> rfl))⟩
    · have e2 : j < q.free.length := by omega
      have e3 : 0 < ((j + 1 : Nat) : Int) := by omega
      have w1 := i64_pred (j := j) (by omega)
      rcases d2 : decide (q.free.getD (j + 1) 0 ≤ q.free.getD j 0)
      · have e : idxAt q.free q.vc (j + 1) = true := by rw [idxAt, d1, Nat.add_sub_cancel, d2]; rfl
        simp -implicitDefEqProofs (maxSteps := 2000000) only [go_sem, e1, wv]
        refine call_of (inB_sat (q.free.getD (j + 1) 0) 0 (q.vc - 1)) (by simp -implicitDefEqProofs (maxSteps := 2000000) only [go_sem, d1, d2, e1, e2, e3, w1]) (by kernel_rfl) (by simp -implicitDefEqProofs (maxSteps := 2000000) only [go_sem, d1, d2, e1, e2, e3, w1]) ?_
        simp -implicitDefEqProofs (maxSteps := 2000000) only [go_sem, d1, d2, e1, e2, e3, w1]
        rw [i64_succ (by omega)]
        exact ⟨j + 1 + 1, ⟨e1, upTo_step h6 e⟩, by omega, (le_st _ _ [] [] _ rfl (by simp -implicitDefEqProofs (maxSteps := 2000000) only [go_sem] <;> rfl) (by simp -implicitDefEqProofs (maxSteps := 2000000) only [go_sem] <;> rfl) (by simp -implicitDefEqProofs (maxSteps := 2000000) only [go_sem] <;> rfl))⟩
      · rw [goodQu_free e1 (show idxAt q.free q.vc (j + 1) = false by rw [idxAt, d1, Nat.add_sub_cancel, d2]; rfl)]
        simp -implicitDefEqProofs (maxSteps := 2000000) only [go_sem, e1, wv]
        refine call_of (inB_sat (q.free.getD (j + 1) 0) 0 (q.vc - 1)) (by simp -implicitDefEqProofs (maxSteps := 2000000) only [go_sem, d1, d2, e1, e2, e3, w1]) (by kernel_rfl) (by simp -implicitDefEqProofs (maxSteps := 2000000) only [go_sem, d1, d2, e1, e2, e3, w1]) ?_
        simp -implicitDefEqProofs (maxSteps := 2000000) only [go_sem, d1, d2, e1, e2, e3, w1]
  · obtain rfl : k = q.free.length := by omega
    simp -implicitDefEqProofs (maxSteps := 2000000) only [go_sem, e1]
    rw [goodQu, g, v1, v2, idxs, h6, h2, h4]
    rfl
theorem upTo_congr {p p' : Nat → Bool} : ∀ {n : Nat}, (∀ k, k < n → p k = p' k) → upTo p n = upTo p' n
  | 0, _ => rfl
  | n + 1, h => by rw [upTo, upTo, upTo_congr fun k hk => h k (by omega), h n (by omega)]
def otherRel (a : RI) (l : List RI) (k : Nat) : Bool := !((l.getD k default).r == a.r)
abbrev fRI (a : RI) : List Fld := [.sc (.int .i64 a.r), .im 1 (ints a.l)]
theorem isValidQuery1_sat (a b : RI) : Sat Tryz.prog 132 [lRI b, .one (.ip (fRI a))] [lBool (b.r == a.r)] [g2, g1] := by
  refine sat_of_body mixed Tryz.func132 rfl (by kernel_rfl) (by kernel_rfl) (rs := [.tmp 3]) rfl rfl rfl ?_
  simp -implicitDefEqProofs (maxSteps := 2000000) only [go_sem]
theorem atomsIndex_sat (l : List RI) (a : RI) (h : l.length ≤ 9223372036854775807) : Sat Tryz.prog 159 [lRIs l, .one (.fn 132 [fRI a])] [lInt (firstNo (otherRel a l) l.length 0)] [g1, g1] := by
  refine sat_of_body mixed Tryz.func159 rfl (by kernel_rfl) (by kernel_rfl) (rs := [.tmp 4]) rfl rfl rfl ?_
  simp -implicitDefEqProofs (maxSteps := 2000000) only [go_sem]
  refine awp_loop Nat (fun k => mkSt [(0, .one (.im 2 (ris 0 l))), (1, .one (.fni 132 [fRI a])), (7, .sc (.int .i64 l.length)), (8, .sc (.int .i64 k))] [] [] 1000)
    (fun k => k ≤ l.length ∧ firstNo (otherRel a l) (l.length - k) k = firstNo (otherRel a l) l.length 0) (fun k => l.length - k) 0 ⟨by omega, rfl⟩ (le_st _ _ [] [] _ rfl (by simp -implicitDefEqProofs (maxSteps := 2000000) only [go_sem] <;> rfl) trivial trivial) ?_
  rintro k ⟨h1, h2⟩
  by_cases c1 : k < l.length
  · rw [show l.length - k = (l.length - (k + 1)) + 1 by omega, firstNo] at h2
    rcases d : (l.getD k default).r == a.r
    · rw [if_pos (by rw [otherRel, d]; rfl)] at h2
      simp -implicitDefEqProofs (maxSteps := 2000000) only [go_sem, c1]
      refine call_of (isValidQuery1_sat a (l.getD k default)) (by simp -implicitDefEqProofs (maxSteps := 2000000) only [go_sem, d, c1]) (by kernel_rfl) (by simp -implicitDefEqProofs (maxSteps := 2000000) only [go_sem, d, c1]) ?_
      simp -implicitDefEqProofs (maxSteps := 2000000) only [go_sem, d, c1]
      rw [i64_succ (by omega)]
      exact ⟨k + 1, ⟨c1, h2⟩, by omega, (le_st _ _ [] [] _ rfl (by simp -implicitDefEqProofs (maxSteps := 2000000) only [go_sem] <;> rfl) trivial trivial)⟩
    · rw [if_neg (by rw [otherRel, d]; simp)] at h2
      simp -implicitDefEqProofs (maxSteps := 2000000) only [go_sem, c1]
      refine call_of (isValidQuery1_sat a (l.getD k default)) (by simp -implicitDefEqProofs (maxSteps := 2000000) only [go_sem, d, c1]) (by kernel_rfl) (by simp -implicitDefEqProofs (maxSteps := 2000000) only [go_sem, d, c1]) ?_
      simp -implicitDefEqProofs (maxSteps := 2000000) only [go_sem, d, c1]
      rw [← h2]
  · obtain rfl : k = l.length := by omega
    rw [Nat.sub_self, firstNo] at h2
    simp -implicitDefEqProofs (maxSteps := 2000000) only [go_sem, c1]
    rw [← h2]
theorem atomsContains_sat (l : List RI) (a : RI) (h : l.length ≤ 9223372036854775807) : Sat Tryz.prog 131 [lRIs l, .one (.fn 132 [fRI a])] [lBool (!upTo (otherRel a l) l.length)] [g1, g1] := by
  refine sat_of_body mixed Tryz.func131 rfl (by kernel_rfl) (by kernel_rfl) (rs := [.tmp 4]) rfl rfl rfl ?_
  simp -implicitDefEqProofs (maxSteps := 2000000) only [go_sem]
  refine call_of (atomsIndex_sat l a h) (by simp -implicitDefEqProofs (maxSteps := 2000000) only [go_sem]) (by kernel_rfl) (by simp -implicitDefEqProofs (maxSteps := 2000000) only [go_sem]) ?_
  simp -implicitDefEqProofs (maxSteps := 2000000) only [go_sem]
  rw [firstNo_ge _ _ _ rfl, Nat.zero_add]
theorem implIsValidQuery_sat (l : List Rel) (q : Qu) (h : l.length ≤ 9223372036854775807) (hq : q.ok) : Sat Tryz.prog 97 [lRels l, lQu q] [lBool (goodQu l q)] [g1, g3] := by
  refine sat_of_body mixed Tryz.func97 rfl (by kernel_rfl) (by kernel_rfl) (rs := [.tmp 4]) rfl rfl rfl ?_
  have w0 : IntKind.i64.wrap ((l.length : Int) - 1) = (l.length : Int) - 1 := IntWalk.i64_in _ (by omega)
  have hff : q.free.length ≤ 9223372036854775807 := by have := hq.2; omega
  simp -implicitDefEqProofs (maxSteps := 2000000) only [go_sem]
  rcases g : goodRels l
  · rw [show goodQu l q = false by rw [goodQu, g]; rfl]
    refine call_of (implAreValidRelations_sat l h) (by simp -implicitDefEqProofs (maxSteps := 2000000) only [go_sem, g]) (by kernel_rfl) (by simp -implicitDefEqProofs (maxSteps := 2000000) only [go_sem, g]) ?_
    simp -implicitDefEqProofs (maxSteps := 2000000) only [go_sem, g]
  rcases v1 : inB q.vc 0 4
  · rw [show goodQu l q = false by rw [goodQu, v1]; simp]
    refine call_of (implAreValidRelations_sat l h) (by simp -implicitDefEqProofs (maxSteps := 2000000) only [go_sem, g]) (by kernel_rfl) (by simp -implicitDefEqProofs (maxSteps := 2000000) only [go_sem, g]) ?_
    simp -implicitDefEqProofs (maxSteps := 2000000) only [go_sem, g]
    refine call_of (inW_sat q.vc 0 4) (by simp -implicitDefEqProofs (maxSteps := 2000000) only [go_sem, v1]) (by kernel_rfl) (by simp -implicitDefEqProofs (maxSteps := 2000000) only [go_sem, v1]) ?_
    simp -implicitDefEqProofs (maxSteps := 2000000) only [go_sem, v1]
  rcases v2 : inB q.atoms.length 1 3
  · rw [show goodQu l q = false by rw [goodQu, v2]; simp]
    refine call_of (implAreValidRelations_sat l h) (by simp -implicitDefEqProofs (maxSteps := 2000000) only [go_sem, g]) (by kernel_rfl) (by simp -implicitDefEqProofs (maxSteps := 2000000) only [go_sem, g]) ?_
    simp -implicitDefEqProofs (maxSteps := 2000000) only [go_sem, g]
    refine call_of (inW_sat q.vc 0 4) (by simp -implicitDefEqProofs (maxSteps := 2000000) only [go_sem, v1]) (by kernel_rfl) (by simp -implicitDefEqProofs (maxSteps := 2000000) only [go_sem, v1]) ?_
    simp -implicitDefEqProofs (maxSteps := 2000000) only [go_sem, v1]
    refine call_of (inW_sat q.atoms.length 1 3) (by simp -implicitDefEqProofs (maxSteps := 2000000) only [go_sem, v2]) (by kernel_rfl) (by simp -implicitDefEqProofs (maxSteps := 2000000) only [go_sem, v2]) ?_
    simp -implicitDefEqProofs (maxSteps := 2000000) only [go_sem, v2]
  obtain ⟨b1, b2⟩ := inB_of v1
  obtain ⟨b3, b4⟩ := inB_of v2
  have wv : IntKind.i64.wrap (q.vc - 1) = q.vc - 1 := IntWalk.i64_in _ (by omega)
  rcases v3 : idxs q.free q.vc
  · rw [show goodQu l q = false by rw [goodQu, v3]; simp]
    refine call_of (implAreValidRelations_sat l h) (by simp -implicitDefEqProofs (maxSteps := 2000000) only [go_sem, g]) (by kernel_rfl) (by simp -implicitDefEqProofs (maxSteps := 2000000) only [go_sem, g]) ?_
    simp -implicitDefEqProofs (maxSteps := 2000000) only [go_sem, g]
    refine call_of (inW_sat q.vc 0 4) (by simp -implicitDefEqProofs (maxSteps := 2000000) only [go_sem, v1]) (by kernel_rfl) (by simp -implicitDefEqProofs (maxSteps := 2000000) only [go_sem, v1]) ?_
    simp -implicitDefEqProofs (maxSteps := 2000000) only [go_sem, v1]
    refine call_of (inW_sat q.atoms.length 1 3) (by simp -implicitDefEqProofs (maxSteps := 2000000) only [go_sem, v2]) (by kernel_rfl) (by simp -implicitDefEqProofs (maxSteps := 2000000) only [go_sem, v2]) ?_
    simp -implicitDefEqProofs (maxSteps := 2000000) only [go_sem, v2]
    refine call_of (areIndices_sat q.free q.vc hff (by omega)) (by simp -implicitDefEqProofs (maxSteps := 2000000) only [go_sem, v3]) (by kernel_rfl) (by simp -implicitDefEqProofs (maxSteps := 2000000) only [go_sem, v3]) ?_
    simp -implicitDefEqProofs (maxSteps := 2000000) only [go_sem, v3]
  refine call_of (implAreValidRelations_sat l h) (by simp -implicitDefEqProofs (maxSteps := 2000000) only [go_sem, g]) (by kernel_rfl) (by simp -implicitDefEqProofs (maxSteps := 2000000) only [go_sem, g]) ?_
  simp -implicitDefEqProofs (maxSteps := 2000000) only [go_sem, g]
  refine call_of (inW_sat q.vc 0 4) (by simp -implicitDefEqProofs (maxSteps := 2000000) only [go_sem, v1]) (by kernel_rfl) (by simp -implicitDefEqProofs (maxSteps := 2000000) only [go_sem, v1]) ?_
  simp -implicitDefEqProofs (maxSteps := 2000000) only [go_sem, v1]
  refine call_of (inW_sat q.atoms.length 1 3) (by simp -implicitDefEqProofs (maxSteps := 2000000) only [go_sem, v2]) (by kernel_rfl) (by simp -implicitDefEqProofs (maxSteps := 2000000) only [go_sem, v2]) ?_
  simp -implicitDefEqProofs (maxSteps := 2000000) only [go_sem, v2]
  refine call_of (areIndices_sat q.free q.vc hff (by omega)) (by simp -implicitDefEqProofs (maxSteps := 2000000) only [go_sem, v3]) (by kernel_rfl) (by simp -implicitDefEqProofs (maxSteps := 2000000) only [go_sem, v3]) ?_
  simp -implicitDefEqProofs (maxSteps := 2000000) only [go_sem, v3]
  refine awp_loop Nat (fun i => mkSt [(0, .one (.im 3 (rels l))), (3, .one (.vad 1000 0)), (5, .one (.ref 960 1 0 (selN (occurs q i) 4).length)), (36, .one (.im 2 (ris 0 q.atoms))), (37, .sc (.int .i64 q.atoms.length)), (38, .sc (.int .i64 i))] [(1000, sQu q)] [(960, (1, ints (selN (occurs q i) 4)))] 2000)
    (fun i => i ≤ q.atoms.length ∧ upTo (atomOk l q) i = true) (fun i => q.atoms.length - i) 0 ⟨by omega, rfl⟩ (le_st' _ _ [⟨960, some _, false, 1, _⟩] [] _ (by simp -implicitDefEqProofs (maxSteps := 2000000) only [go_sem] <;> and_intros <;> rfl) (by simp -implicitDefEqProofs (maxSteps := 2000000) only [go_sem] <;> and_intros <;> rfl) (by simp -implicitDefEqProofs (maxSteps := 2000000) only [go_sem] <;> and_intros <;> rfl) (by rfl)) ?_
  rintro i ⟨h1, h2⟩
  have hlo := selN_len (occurs q i) 4
  by_cases c1 : i < q.atoms.length
  · have hfa : (q.atoms.getD i default).ok := hq.1.2 _ (mem_getD default c1)
    have hun := uni_occurs (q := q) c1
    have hvl := varsOf_len (q.atoms.getD i default).l
    rcases ea : q.atoms.getD i default with ⟨r, ts⟩
    rw [ea] at hfa hun hvl
    have hts : ts.length ≤ 1048576 := hfa
    have wi : IntKind.i64.wrap ((i : Int) + 1) = ((i + 1 : Nat) : Int) := i64_succ (by omega)
    rcases i1 : inB r 0 ((l.length : Int) - 1)
    · rw [goodQu_atom c1 (by rw [atomOk, ea, relAt, i1]; rfl)]
      simp -implicitDefEqProofs (maxSteps := 2000000) only [go_sem, c1, ea, w0]
      refine call_of (inW_sat r 0 ((l.length : Int) - 1)) (by simp -implicitDefEqProofs (maxSteps := 2000000) only [go_sem, i1]) (by kernel_rfl) (by simp -implicitDefEqProofs (maxSteps := 2000000) only [go_sem, i1]) ?_
      simp -implicitDefEqProofs (maxSteps := 2000000) only [go_sem, i1]
    obtain ⟨r1, r2⟩ := inB_of i1
    obtain ⟨m, rfl⟩ : ∃ m : Nat, r = m := ⟨r.toNat, by omega⟩
    have c2 : m < l.length := by omega
    rcases d2 : (ts.length : Int) == (l.getD m default).ar
    · have d3 : ((ts.length : Int) != (l.getD m default).ar) = true := by rw [bne, d2]; rfl
      rw [goodQu_atom c1 (by rw [atomOk, ea, relAt, i1]; simp only [Int.toNat_natCast, d2]; rfl)]
      simp -implicitDefEqProofs (maxSteps := 2000000) only [go_sem, c1, ea, w0]
      refine call_of (inW_sat m 0 ((l.length : Int) - 1)) (by simp -implicitDefEqProofs (maxSteps := 2000000) only [go_sem, i1, d3, c2]) (by kernel_rfl) (by simp -implicitDefEqProofs (maxSteps := 2000000) only [go_sem, i1, d3, c2]) ?_
      simp -implicitDefEqProofs (maxSteps := 2000000) only [go_sem, i1, d3, c2]
    have d3 : ((ts.length : Int) != (l.getD m default).ar) = false := by rw [bne, d2]; rfl
    have hrel : relAt l ⟨m, ts⟩ = true := by rw [relAt, i1]; simp only [Int.toNat_natCast, d2]; rfl
    have c3 : i ≤ q.atoms.length := by omega
    have hup : upTo (otherRel ⟨m, ts⟩ (q.atoms.take i)) (q.atoms.take i).length = upTo (newRel q i) i := by
      rw [List.length_take, Nat.min_eq_left c3]
      refine upTo_congr fun k hk => ?_
      rw [otherRel, newRel, ea]
      rw [List.getD_eq_getElem?_getD, List.getD_eq_getElem?_getD, List.getElem?_take_of_lt hk]
    rcases d4 : upTo (newRel q i) i
    · rw [goodQu_atom c1 (by rw [atomOk, d4]; simp)]
      simp -implicitDefEqProofs (maxSteps := 2000000) only [go_sem, c1, ea, w0]
      refine call_of (inW_sat m 0 ((l.length : Int) - 1)) (by simp -implicitDefEqProofs (maxSteps := 2000000) only [go_sem, i1, d3, c2, c3, Nat.zero_le]) (by kernel_rfl) (by simp -implicitDefEqProofs (maxSteps := 2000000) only [go_sem, i1, d3, c2, c3, Nat.zero_le]) ?_
      simp -implicitDefEqProofs (maxSteps := 2000000) only [go_sem, i1, d3, c2, c3, Nat.zero_le]
      refine call_of (atomsContains_sat (q.atoms.take i) ⟨m, ts⟩ (by rw [List.length_take]; omega)) (by simp -implicitDefEqProofs (maxSteps := 2000000) only [go_sem, hup, d4, c3]) (by kernel_rfl) (by simp -implicitDefEqProofs (maxSteps := 2000000) only [go_sem, hup, d4, c3]) ?_
      simp -implicitDefEqProofs (maxSteps := 2000000) only [go_sem, hup, d4, c3]
    simp -implicitDefEqProofs (maxSteps := 2000000) only [go_sem, c1, ea, w0]
    refine call_of (inW_sat m 0 ((l.length : Int) - 1)) (by simp -implicitDefEqProofs (maxSteps := 2000000) only [go_sem, i1, d3, c2, c3, Nat.zero_le]) (by kernel_rfl) (by simp -implicitDefEqProofs (maxSteps := 2000000) only [go_sem, i1, d3, c2, c3, Nat.zero_le]) ?_
    simp -implicitDefEqProofs (maxSteps := 2000000) only [go_sem, i1, d3, c2, c3, Nat.zero_le]
    refine call_of (atomsContains_sat (q.atoms.take i) ⟨m, ts⟩ (by rw [List.length_take]; omega)) (by simp -implicitDefEqProofs (maxSteps := 2000000) only [go_sem, hup, d4, c3]) (by kernel_rfl) (by simp -implicitDefEqProofs (maxSteps := 2000000) only [go_sem, hup, d4, c3]) ?_
    simp -implicitDefEqProofs (maxSteps := 2000000) only [go_sem, hup, d4, c3]
    refine awp_loop Nat (fun j => mkSt [(0, .one (.im 3 (rels l))), (3, .one (.vad 1000 0)), (5, .one (.ref 960 1 0 (selN (occurs q i) 4).length)), (7, .one (.vad 2256 0)), (36, .one (.im 2 (ris 0 q.atoms))), (37, .sc (.int .i64 q.atoms.length)), (38, .sc (.int .i64 i)), (71, .one (.im 1 (ints ts))), (72, .sc (.int .i64 ts.length)), (73, .sc (.int .i64 j))] [(1000, sQu q), (2256, sRI ⟨m, ts⟩)] [(960, (1, ints (selN (occurs q i) 4)))] 6000)
      (fun j => j ≤ ts.length ∧ upTo (termOk q.vc ts) j = true) (fun j => ts.length - j) 0 ⟨by omega, rfl⟩ (le_st' _ _ [⟨960, some _, false, 1, _⟩] [] _ (by simp -implicitDefEqProofs (maxSteps := 2000000) only [go_sem] <;> and_intros <;> rfl) (by simp -implicitDefEqProofs (maxSteps := 2000000) only [go_sem] <;> and_intros <;> rfl) (by simp -implicitDefEqProofs (maxSteps := 2000000) only [go_sem] <;> and_intros <;> rfl) (by rfl)) ?_
    rintro j ⟨h5, h6⟩
    by_cases c5 : j < ts.length
    · rcases d5 : inB (ts.getD j 0) (-10) (q.vc - 1)
      · rw [goodQu_atom c1 (by rw [atomOk, ea, upTo_false c5 (by rw [termOk, d5])]; simp)]
        simp -implicitDefEqProofs (maxSteps := 2000000) only [go_sem, c5, wv]
        refine call_of (inW_sat (ts.getD j 0) (-10) (q.vc - 1)) (by simp -implicitDefEqProofs (maxSteps := 2000000) only [go_sem, d5]) (by kernel_rfl) (by simp -implicitDefEqProofs (maxSteps := 2000000) only [go_sem, d5]) ?_
        simp -implicitDefEqProofs (maxSteps := 2000000) only [go_sem, d5]
      simp -implicitDefEqProofs (maxSteps := 2000000) only [go_sem, c5, wv]
      refine call_of (inW_sat (ts.getD j 0) (-10) (q.vc - 1)) (by simp -implicitDefEqProofs (maxSteps := 2000000) only [go_sem, d5, c5]) (by kernel_rfl) (by simp -implicitDefEqProofs (maxSteps := 2000000) only [go_sem, d5, c5]) ?_
      simp -implicitDefEqProofs (maxSteps := 2000000) only [go_sem, d5, c5]
      rw [i64_succ (by omega)]
      exact ⟨j + 1, ⟨c5, upTo_step h6 (by rw [termOk, d5])⟩, by omega, (le_st' _ _ [⟨960, some _, false, 1, _⟩] [] _ (by simp -implicitDefEqProofs (maxSteps := 2000000) only [go_sem] <;> and_intros <;> rfl) (by simp -implicitDefEqProofs (maxSteps := 2000000) only [go_sem] <;> and_intros <;> rfl) (by simp -implicitDefEqProofs (maxSteps := 2000000) only [go_sem] <;> and_intros <;> rfl) (by rfl))⟩
    · obtain rfl : j = ts.length := by omega
      simp -implicitDefEqProofs (maxSteps := 2000000) only [go_sem, c5]
      refine call_of (implAtomVariables_sat ⟨m, ts⟩ hfa) (by simp -implicitDefEqProofs (maxSteps := 2000000) only [go_sem]) (callOk_still (by kernel_rfl) (by simp only [List.all_cons, List.all_nil, LV.still, LV.leaves, Leaf.still, ints_still, ris_still, eds_still, rels_still, iss_still, ems_still, Bool.and_self, Bool.and_true])) (by simp -implicitDefEqProofs (maxSteps := 2000000) only [go_sem]) ?_
      simp -implicitDefEqProofs (maxSteps := 2000000) only [go_sem]
      refine call_of (union_sat (selN (occurs q i) 4) (varsOf ts) (by simp only at hvl; omega)) (by simp -implicitDefEqProofs (maxSteps := 2000000) only [go_sem, hun]) (callOk_still (by kernel_rfl) (by simp only [List.all_cons, List.all_nil, LV.still, LV.leaves, Leaf.still, ints_still, ris_still, eds_still, rels_still, iss_still, ems_still, Bool.and_self, Bool.and_true])) (by simp -implicitDefEqProofs (maxSteps := 2000000) only [go_sem, hun]) ?_
      simp -implicitDefEqProofs (maxSteps := 2000000) only [go_sem, hun]
      rw [wi]
      refine ⟨i + 1, ⟨c1, upTo_step h2 (by rw [atomOk, ea, hrel, d4, h6]; rfl)⟩, by omega, ?_⟩
      exact (le_st' _ _ [⟨960, some _, false, 1, _⟩] [] _ (by simp -implicitDefEqProofs (maxSteps := 2000000) only [go_sem, hun] <;> and_intros <;> rfl) (by simp -implicitDefEqProofs (maxSteps := 2000000) only [go_sem, hun] <;> and_intros <;> rfl) (by simp -implicitDefEqProofs (maxSteps := 2000000) only [go_sem, hun] <;> and_intros <;> rfl) (by rfl))
  · obtain rfl : i = q.atoms.length := by omega
    simp -implicitDefEqProofs (maxSteps := 2000000) only [go_sem, c1]
    rw [all_occur v1 h2, goodQu, g, v1, v2, v3, h2]
    simp
end Go.Proofs.YtedciihjgbkjgabGreatDoor.A


/- CLOSURES: the plain law. Conditions: none. (No program in sight but the names.) -/
namespace Go.Proofs.YtedciihjgbkjgabGreatDoor.A
open Go
set_option linter.unusedSimpArgs false
set_option linter.unusedVariables false

/-- Are all numbers of a list in another. -/
def subAt (a b : List Int) (i : Nat) : Bool := decide (a.getD i 0 ∈ b)
def subs (a b : List Int) : Bool := upTo (subAt a b) a.length
theorem upTo_true {p : Nat → Bool} : ∀ {n : Nat}, (∀ k, k < n → p k = true) → upTo p n = true
  | 0, _ => rfl
  | n + 1, h => upTo_step (upTo_true fun k hk => h k (by omega)) (h n (by omega))
theorem subs_iff {a b : List Int} : subs a b = true ↔ ∀ x ∈ a, x ∈ b := by
  constructor
  · intro h x hx
    obtain ⟨i, hi, rfl⟩ := List.mem_iff_getElem.mp hx
    have h1 := upTo_at h hi
    unfold subAt at h1
    rw [List.getD_eq_getElem?_getD, List.getElem?_eq_getElem hi] at h1
    exact of_decide_eq_true h1
  · intro h
    exact upTo_true fun k hk => decide_eq_true (h _ (mem_getD 0 hk))
/-- One atom's dependency, applied to a set. -/
def fire (l : List Rel) (ats : List RI) (skip : Int) (c : List Int) (i : Nat) : List Int :=
  if ((i : Int) != skip) && subs (keyVars l (ats.getD i default)) c then uni c (varsOf (ats.getD i default).l) else c
/-- The first k atoms' dependencies, one after another. -/
def passA (l : List Rel) (ats : List RI) (skip : Int) (c : List Int) : Nat → List Int
  | 0 => c
  | k + 1 => fire l ats skip (passA l ats skip c k) k
structure Small (c : List Int) : Prop where
  strict : Strict c
  small : ∀ x ∈ c, 0 ≤ x ∧ x < 4
theorem Small.uni {c v : List Int} (h : Small c) (hv : ∀ x ∈ v, 0 ≤ x ∧ x < 4) : Small (uni c v) :=
  ⟨uni_strict _ _, fun x hx => ((uni_mem _ _ _).mp hx).elim (h.small x) (hv x)⟩
theorem varsOf_small (l : List Int) : ∀ x ∈ varsOf l, 0 ≤ x ∧ x < 4 := fun x hx => by
  have := (selN_mem _ _ _).mp hx
  omega
theorem Small.selN {p : Int → Bool} : Small (selN p 4) := ⟨selN_strict _ _, fun x hx => by have := (selN_mem _ _ _).mp hx; omega⟩
theorem Small.eq_selN {c : List Int} (h : Small c) : c = A.selN (fun v => decide (v ∈ c)) 4 := by
  refine strict_eq h.strict (selN_strict _ _) fun x => ?_
  rw [selN_mem]
  exact ⟨fun hx => ⟨(h.small x hx).1, (h.small x hx).2, decide_eq_true hx⟩, fun hx => of_decide_eq_true hx.2.2⟩
theorem Small.len {c : List Int} (h : Small c) : c.length ≤ 4 := by
  rw [h.eq_selN]; exact selN_len _ 4
theorem strict_sub_len : ∀ {a b : List Int}, Strict a → Strict b → (∀ x ∈ a, x ∈ b) → a.length ≤ b.length ∧ (a.length = b.length → a = b)
  | [], b, _, _, _ => ⟨by simp, fun h => by cases b <;> simp at h ⊢⟩
  | x :: a, [], _, _, h => absurd (h x (by simp)) (by simp)
  | x :: a, y :: b, ha, hb, h => by
    obtain ⟨ha1, ha2⟩ := List.pairwise_cons.mp ha
    obtain ⟨hb1, hb2⟩ := List.pairwise_cons.mp hb
    rcases List.mem_cons.mp (h x (by simp)) with e | e
    · subst e
      have h1 := strict_sub_len ha2 hb2 fun z hz => by
        rcases List.mem_cons.mp (h z (List.mem_cons_of_mem _ hz)) with e | e
        · have := ha1 z hz; omega
        · exact e
      exact ⟨by simp only [List.length_cons]; omega, fun hl => by rw [h1.2 (by simpa using hl)]⟩
    · have h1 := strict_sub_len (a := x :: a) ha hb2 fun z hz => by
        rcases List.mem_cons.mp hz with rfl | hz'
        · exact e
        · rcases List.mem_cons.mp (h z hz) with e' | e'
          · have := ha1 z hz'; have := hb1 x e; omega
          · exact e'
      exact ⟨by have := h1.1; simp only [List.length_cons] at this ⊢; omega, fun hl => by have := h1.1; simp only [List.length_cons] at this hl; omega⟩
theorem fire_sub {l : List Rel} {ats : List RI} {skip : Int} {c : List Int} {i : Nat} : ∀ x ∈ c, x ∈ fire l ats skip c i := by
  intro x hx
  unfold fire
  split
  · exact (uni_mem _ _ _).mpr (.inl hx)
  · exact hx
theorem fire_small {l : List Rel} {ats : List RI} {skip : Int} {c : List Int} {i : Nat} (h : Small c) : Small (fire l ats skip c i) := by
  unfold fire
  split
  · exact h.uni (varsOf_small _)
  · exact h
theorem passA_sub {l : List Rel} {ats : List RI} {skip : Int} {c : List Int} : ∀ {k : Nat}, ∀ x ∈ c, x ∈ passA l ats skip c k
  | 0, x, hx => hx
  | k + 1, x, hx => fire_sub x (passA_sub (k := k) x hx)
theorem passA_small {l : List Rel} {ats : List RI} {skip : Int} {c : List Int} (h : Small c) : ∀ {k : Nat}, Small (passA l ats skip c k)
  | 0 => h
  | k + 1 => fire_small (passA_small h (k := k))
theorem uni_same {c v : List Int} (h : Strict c) (hv : ∀ x ∈ v, x ∈ c) : uni c v = c :=
  strict_eq (uni_strict _ _) h fun x => by rw [uni_mem]; exact ⟨fun h => h.elim id (hv x), .inl⟩
/-- A passA that changes a set takes in an atom's variables. -/
theorem passA_new {l : List Rel} {ats : List RI} {skip : Int} {c : List Int} (h : Small c) : ∀ (k : Nat), passA l ats skip c k = c ∨ ∃ i, i < k ∧ subs (varsOf (ats.getD i default).l) c = false ∧ subs (varsOf (ats.getD i default).l) (passA l ats skip c k) = true
  | 0 => .inl rfl
  | k + 1 => by
    have ih := passA_new (l := l) (ats := ats) (skip := skip) h k
    have hmono : ∀ i, subs (varsOf (ats.getD i default).l) (passA l ats skip c k) = true → subs (varsOf (ats.getD i default).l) (passA l ats skip c (k + 1)) = true :=
      fun i hi => subs_iff.mpr fun x hx => fire_sub x (subs_iff.mp hi x hx)
    rcases ih with ih | ⟨i, hi, h1, h2⟩
    · rw [passA, ih]
      unfold fire
      split
      · rcases hs : subs (varsOf (ats.getD k default).l) c
        · exact .inr ⟨k, by omega, hs, subs_iff.mpr fun x hx => (uni_mem _ _ _).mpr (.inr hx)⟩
        · exact .inl (uni_same h.strict (subs_iff.mp hs))
      · exact .inl rfl
    · exact .inr ⟨i, by omega, h1, hmono i h2⟩
def took (ats : List RI) (c : List Int) (n : Nat) : List Nat := (List.range n).filter fun i => subs (varsOf (ats.getD i default).l) c
theorem took_le (ats : List RI) (c : List Int) (n : Nat) : (took ats c n).length ≤ n := by
  unfold took; exact Nat.le_trans (List.length_filter_le _ _) (by rw [List.length_range]; exact Nat.le_refl _)
theorem filter_lt {α : Type} {p p' : α → Bool} : ∀ {l : List α}, (∀ x ∈ l, p x = true → p' x = true) → (∃ x ∈ l, p x = false ∧ p' x = true) → (l.filter p).length < (l.filter p').length
  | [], _, ⟨x, hx, _⟩ => absurd hx (by simp)
  | a :: l, h, ⟨x, hx, h1, h2⟩ => by
    have hle : ∀ {l : List α}, (∀ x ∈ l, p x = true → p' x = true) → (l.filter p).length ≤ (l.filter p').length := by
      intro l
      induction l with
      | nil => intro _; simp
      | cons b l ih =>
        intro h
        have ih := ih fun x hx => h x (List.mem_cons_of_mem _ hx)
        rcases hb : p b
        · rw [List.filter_cons_of_neg (by simp [hb])]
          rcases hb' : p' b
          · rw [List.filter_cons_of_neg (by simp [hb'])]; exact ih
          · rw [List.filter_cons_of_pos hb']; simp only [List.length_cons]; omega
        · rw [List.filter_cons_of_pos hb, List.filter_cons_of_pos (h b (by simp) hb)]; simp only [List.length_cons]; omega
    rcases List.mem_cons.mp hx with rfl | hx
    · rw [List.filter_cons_of_neg (by simp [h1]), List.filter_cons_of_pos h2]
      have := hle (l := l) fun y hy => h y (List.mem_cons_of_mem _ hy)
      simp only [List.length_cons]; omega
    · have ih := filter_lt (p := p) (p' := p') (l := l) (fun y hy => h y (List.mem_cons_of_mem _ hy)) ⟨x, hx, h1, h2⟩
      rcases hb : p a
      · rw [List.filter_cons_of_neg (by simp [hb])]
        rcases hb' : p' a
        · rw [List.filter_cons_of_neg (by simp [hb'])]; exact ih
        · rw [List.filter_cons_of_pos hb']; simp only [List.length_cons]; omega
      · rw [List.filter_cons_of_pos hb, List.filter_cons_of_pos (h a (by simp) hb)]; simp only [List.length_cons]; omega
theorem took_lt {l : List Rel} {ats : List RI} {skip : Int} {c : List Int} {n : Nat} (h : Small c) (hne : passA l ats skip c n ≠ c) : (took ats c n).length < (took ats (passA l ats skip c n) n).length := by
  rcases passA_new (l := l) (ats := ats) (skip := skip) h n with e | ⟨i, hi, h1, h2⟩
  · exact absurd e hne
  · exact filter_lt (fun x _ hx => subs_iff.mpr fun y hy => passA_sub y (subs_iff.mp hx y hy)) ⟨i, List.mem_range.mpr hi, h1, h2⟩
/-- So many passes. -/
def iter (l : List Rel) (ats : List RI) (skip : Int) (n : Nat) (c : List Int) : Nat → List Int
  | 0 => c
  | m + 1 => passA l ats skip (iter l ats skip n c m) n
theorem iter_small {l : List Rel} {ats : List RI} {skip : Int} {n : Nat} {c : List Int} (h : Small c) : ∀ {m : Nat}, Small (iter l ats skip n c m)
  | 0 => h
  | m + 1 => passA_small (iter_small h (m := m))
theorem iter_took {l : List Rel} {ats : List RI} {skip : Int} {n : Nat} {c : List Int} (h : Small c) : ∀ m : Nat, (∃ j, j ≤ m ∧ iter l ats skip n c (j + 1) = iter l ats skip n c j) ∨ m < (took ats (iter l ats skip n c (m + 1)) n).length
  | 0 => by
    by_cases e : iter l ats skip n c 1 = iter l ats skip n c 0
    · exact .inl ⟨0, by omega, e⟩
    · have := took_lt (l := l) (ats := ats) (skip := skip) (n := n) (iter_small h (m := 0)) e
      refine .inr ?_
      show 0 < (took ats (passA l ats skip (iter l ats skip n c 0) n) n).length
      omega
  | m + 1 => by
    rcases iter_took h m with ⟨j, hj, e⟩ | ht
    · exact .inl ⟨j, by omega, e⟩
    · by_cases e : iter l ats skip n c (m + 2) = iter l ats skip n c (m + 1)
      · exact .inl ⟨m + 1, by omega, e⟩
      · have := took_lt (l := l) (ats := ats) (skip := skip) (n := n) (iter_small h (m := m + 1)) e
        refine .inr ?_
        show m + 1 < (took ats (passA l ats skip (iter l ats skip n c (m + 1)) n) n).length
        omega
theorem iter_stays {l : List Rel} {ats : List RI} {skip : Int} {n : Nat} {c : List Int} {j : Nat} (e : iter l ats skip n c (j + 1) = iter l ats skip n c j) : ∀ d : Nat, iter l ats skip n c (j + d) = iter l ats skip n c j
  | 0 => rfl
  | d + 1 => by
    have ih := iter_stays e d
    show passA l ats skip (iter l ats skip n c (j + d)) n = _
    rw [ih]
    exact e
/-- Where a passA changes nothing, as many passes as there are atoms lead there too. -/
theorem iter_done {l : List Rel} {ats : List RI} {skip : Int} {n : Nat} {c : List Int} (h : Small c) {j : Nat} (e : iter l ats skip n c (j + 1) = iter l ats skip n c j) : iter l ats skip n c j = iter l ats skip n c n := by
  rcases iter_took (l := l) (ats := ats) (skip := skip) (n := n) h n with ⟨i, hi, e'⟩ | ht
  · have h1 := iter_stays e' (n - i)
    rw [show i + (n - i) = n by omega] at h1
    rw [h1]
    by_cases hij : i ≤ j
    · have h2 := iter_stays e' (j - i)
      rw [show i + (j - i) = j by omega] at h2
      exact h2
    · have h2 := iter_stays e (i - j)
      rw [show j + (i - j) = i by omega] at h2
      exact h2.symm
  · have := took_le ats (iter l ats skip n c (n + 1)) n
    omega
end Go.Proofs.YtedciihjgbkjgabGreatDoor.A


/- A FACT IS INSERTED. Conditions: none. -/
namespace Go.Proofs.YtedciihjgbkjgabGreatDoor.A
open Go
set_option linter.unusedSimpArgs false
set_option linter.unusedVariables false
set_option maxRecDepth 100000

theorem goneR_take (s : Nat) (A B : List RI) : List.take A.length (goneR (ris s (A ++ B)) A.length B.length) = ris s A := by
  simp [goneR, ris]
theorem rst_ins (s : Nat) (A B : List RI) (f : RI) : rst (ris 999 A ++ (ris (s + 1) [f] ++ ris 999 B)) = ris 1 (A ++ f :: B) := by
  have e : ∀ a b : Rows, rst (a ++ b) = rst a ++ rst b := fun a b => by simp [rst]
  rw [e, e, ris_rst 998, ris_rst s, ris_rst 998, ris_append, ris_append]; rfl
theorem flat_ins (s : Nat) (f : RI) (X : Rows) : flatB (ris (s + 1) [f] ++ X) = false := by simp [flatB, ris, cRI, Cell.flatB]
theorem take_ins (s : Nat) (f : RI) (B : List RI) : List.take (1 + B.length) (ris s [f] ++ ris 999 B) = ris s [f] ++ ris 999 B := List.take_of_length_le (by simp [ris]; omega)
theorem flat_ne {s : Nat} {B : List RI} (h : 0 < B.length) : flatB (ris (s + 1) B) = false := by
  rcases B with _ | ⟨x, B⟩
  · simp at h
  · exact ris_flatN
theorem goneR_tk (L : List RI) {j : Nat} (h : j ≤ L.length) : List.take j (goneR (ris 999 L) j (L.length - j)) = ris 999 (List.take j L) := by
  have := goneR_take 999 (List.take j L) (List.drop j L)
  rw [List.take_append_drop, List.length_take, List.length_drop, Nat.min_eq_left h] at this
  exact this
theorem goneR_ln (L : List RI) {j : Nat} (h : j ≤ L.length) : List.length (goneR (ris 999 L) j (L.length - j)) = L.length := by
  simp [goneR, ris]; omega
theorem insAt (P : Nat → Bool) : ∀ n : Nat, ∃ k, k ≤ n ∧ (∀ j, j < k → P j = true) ∧ (k < n → P k = false)
  | 0 => ⟨0, Nat.le_refl _, fun j h => by omega, fun h => by omega⟩
  | n + 1 => by
    obtain ⟨k, h1, h2, h3⟩ := insAt P n
    rcases Nat.lt_or_ge k n with h | h
    · exact ⟨k, by omega, h2, fun _ => h3 h⟩
    · obtain rfl : k = n := by omega
      rcases e : P k
      · exact ⟨k, by omega, h2, fun _ => e⟩
      · refine ⟨k + 1, Nat.le_refl _, fun j hj => ?_, fun h => by omega⟩
        rcases Nat.lt_or_ge j k with h4 | h4
        · exact h2 j h4
        · obtain rfl : j = k := by omega
          exact e
set_option maxHeartbeats 8000000 in
theorem insertFact_ex (d : Db) (f : RI) (h : d.ok) (hf : f.ok) : ∃ (d' : Db) (b : Bool), d'.rels = d.rels ∧ d'.facts.length ≤ d.facts.length + 1 ∧ (∀ x ∈ d'.facts, x ∈ d.facts ∨ x = f) ∧
    Sat Tryz.prog 104 [lDb d, lRI f] [oDb d', lBool b] [g2, g2] := by
  have hff : f.fit := by unfold RI.ok at hf; unfold RI.fit; omega
  have hn := h.2.1
  have same : (∀ x ∈ d.facts, x ∈ d.facts ∨ x = f) := fun x hx => .inl hx
  rcases g : goodDb d
  · refine ⟨d, false, rfl, by omega, same, ?_⟩
    refine sat_of_body mixed Tryz.func104 rfl (by kernel_rfl) (by kernel_rfl) (rs := [.cell 4 27, .tmp 5]) rfl rfl rfl ?_
    simp -implicitDefEqProofs (maxSteps := 2000000) only [go_sem]
    refine call_of (l4Copy_sat d h) (by simp -implicitDefEqProofs (maxSteps := 2000000) only [go_sem]) (callOk_still (by kernel_rfl) (by simp only [List.all_cons, List.all_nil, LV.still, LV.leaves, Leaf.still, ints_still, ris_still, eds_still, rels_still, iss_still, ems_still, Bool.and_self, Bool.and_true])) (by simp -implicitDefEqProofs (maxSteps := 2000000) only [go_sem]) ?_
    simp -implicitDefEqProofs (maxSteps := 2000000) only [go_sem]
    refine call_of (specIsValidDatabase_sat d h.fit) (by simp -implicitDefEqProofs (maxSteps := 2000000) only [go_sem, g]) (by kernel_rfl) (by simp -implicitDefEqProofs (maxSteps := 2000000) only [go_sem, g]) ?_
    simp -implicitDefEqProofs (maxSteps := 2000000) only [go_sem, g]
    first | done | rfl | exact ⟨rfl, rfl⟩ | exact ⟨rfl, rfl, rfl⟩ | (refine tr_and ?_ ?_ <;> first | rfl | exact ⟨rfl, rfl⟩ | kernel_rfl)
  have gr := (db_of g).1
  rcases g2 : goodFact d.rels f
  · refine ⟨d, false, rfl, by omega, same, ?_⟩
    refine sat_of_body mixed Tryz.func104 rfl (by kernel_rfl) (by kernel_rfl) (rs := [.cell 4 27, .tmp 5]) rfl rfl rfl ?_
    simp -implicitDefEqProofs (maxSteps := 2000000) only [go_sem]
    refine call_of (l4Copy_sat d h) (by simp -implicitDefEqProofs (maxSteps := 2000000) only [go_sem]) (callOk_still (by kernel_rfl) (by simp only [List.all_cons, List.all_nil, LV.still, LV.leaves, Leaf.still, ints_still, ris_still, eds_still, rels_still, iss_still, ems_still, Bool.and_self, Bool.and_true])) (by simp -implicitDefEqProofs (maxSteps := 2000000) only [go_sem]) ?_
    simp -implicitDefEqProofs (maxSteps := 2000000) only [go_sem]
    refine call_of (specIsValidDatabase_sat d h.fit) (by simp -implicitDefEqProofs (maxSteps := 2000000) only [go_sem, g]) (by kernel_rfl) (by simp -implicitDefEqProofs (maxSteps := 2000000) only [go_sem, g]) ?_
    simp -implicitDefEqProofs (maxSteps := 2000000) only [go_sem, g]
    refine call_of (specIsValidFact_sat d.rels f h.fit.1.1 hff) (by simp -implicitDefEqProofs (maxSteps := 2000000) only [go_sem, gr, g2]) (by kernel_rfl) (by simp -implicitDefEqProofs (maxSteps := 2000000) only [go_sem, gr, g2]) ?_
    simp -implicitDefEqProofs (maxSteps := 2000000) only [go_sem, gr, g2]
    first | done | rfl | exact ⟨rfl, rfl⟩ | exact ⟨rfl, rfl, rfl⟩ | (refine tr_and ?_ ?_ <;> first | rfl | exact ⟨rfl, rfl⟩ | kernel_rfl)
  rcases g3 : hasF d f
  case true =>
    refine ⟨d, false, rfl, by omega, same, ?_⟩
    refine sat_of_body mixed Tryz.func104 rfl (by kernel_rfl) (by kernel_rfl) (rs := [.cell 4 27, .tmp 5]) rfl rfl rfl ?_
    simp -implicitDefEqProofs (maxSteps := 2000000) only [go_sem]
    refine call_of (l4Copy_sat d h) (by simp -implicitDefEqProofs (maxSteps := 2000000) only [go_sem]) (callOk_still (by kernel_rfl) (by simp only [List.all_cons, List.all_nil, LV.still, LV.leaves, Leaf.still, ints_still, ris_still, eds_still, rels_still, iss_still, ems_still, Bool.and_self, Bool.and_true])) (by simp -implicitDefEqProofs (maxSteps := 2000000) only [go_sem]) ?_
    simp -implicitDefEqProofs (maxSteps := 2000000) only [go_sem]
    refine call_of (specIsValidDatabase_sat d h.fit) (by simp -implicitDefEqProofs (maxSteps := 2000000) only [go_sem, g]) (by kernel_rfl) (by simp -implicitDefEqProofs (maxSteps := 2000000) only [go_sem, g]) ?_
    simp -implicitDefEqProofs (maxSteps := 2000000) only [go_sem, g]
    refine call_of (specIsValidFact_sat d.rels f h.fit.1.1 hff) (by simp -implicitDefEqProofs (maxSteps := 2000000) only [go_sem, gr, g2]) (by kernel_rfl) (by simp -implicitDefEqProofs (maxSteps := 2000000) only [go_sem, gr, g2]) ?_
    simp -implicitDefEqProofs (maxSteps := 2000000) only [go_sem, gr, g2]
    refine call_of (containsFact_sat d f h.fit) (by simp -implicitDefEqProofs (maxSteps := 2000000) only [go_sem, g3]) (by kernel_rfl) (by simp -implicitDefEqProofs (maxSteps := 2000000) only [go_sem, g3]) ?_
    simp -implicitDefEqProofs (maxSteps := 2000000) only [go_sem, g3]
    first | done | rfl | exact ⟨rfl, rfl⟩ | exact ⟨rfl, rfl, rfl⟩ | (refine tr_and ?_ ?_ <;> first | rfl | exact ⟨rfl, rfl⟩ | kernel_rfl)
  rcases g4 : (((d.facts.length : Nat) : Int) == 14)
  case true =>
    refine ⟨d, false, rfl, by omega, same, ?_⟩
    refine sat_of_body mixed Tryz.func104 rfl (by kernel_rfl) (by kernel_rfl) (rs := [.cell 4 27, .tmp 5]) rfl rfl rfl ?_
    simp -implicitDefEqProofs (maxSteps := 2000000) only [go_sem]
    refine call_of (l4Copy_sat d h) (by simp -implicitDefEqProofs (maxSteps := 2000000) only [go_sem]) (callOk_still (by kernel_rfl) (by simp only [List.all_cons, List.all_nil, LV.still, LV.leaves, Leaf.still, ints_still, ris_still, eds_still, rels_still, iss_still, ems_still, Bool.and_self, Bool.and_true])) (by simp -implicitDefEqProofs (maxSteps := 2000000) only [go_sem]) ?_
    simp -implicitDefEqProofs (maxSteps := 2000000) only [go_sem]
    refine call_of (specIsValidDatabase_sat d h.fit) (by simp -implicitDefEqProofs (maxSteps := 2000000) only [go_sem, g]) (by kernel_rfl) (by simp -implicitDefEqProofs (maxSteps := 2000000) only [go_sem, g]) ?_
    simp -implicitDefEqProofs (maxSteps := 2000000) only [go_sem, g]
    refine call_of (specIsValidFact_sat d.rels f h.fit.1.1 hff) (by simp -implicitDefEqProofs (maxSteps := 2000000) only [go_sem, gr, g2]) (by kernel_rfl) (by simp -implicitDefEqProofs (maxSteps := 2000000) only [go_sem, gr, g2]) ?_
    simp -implicitDefEqProofs (maxSteps := 2000000) only [go_sem, gr, g2]
    refine call_of (containsFact_sat d f h.fit) (by simp -implicitDefEqProofs (maxSteps := 2000000) only [go_sem, g3, g4]) (by kernel_rfl) (by simp -implicitDefEqProofs (maxSteps := 2000000) only [go_sem, g3, g4]) ?_
    simp -implicitDefEqProofs (maxSteps := 2000000) only [go_sem, g3, g4]
    first | done | rfl | exact ⟨rfl, rfl⟩ | exact ⟨rfl, rfl, rfl⟩ | (refine tr_and ?_ ?_ <;> first | rfl | exact ⟨rfl, rfl⟩ | kernel_rfl)
  obtain ⟨k, k1, k2, k3⟩ := insAt (fun i => decide (cmpRI (d.facts.getD i default) f < 0)) d.facts.length
  refine ⟨⟨d.rels, d.facts.take k ++ ([f] ++ d.facts.drop k)⟩, true, rfl, by simp only [List.length_append, List.length_take, List.length_drop, List.length_singleton]; omega, fun x hx => ?_, ?_⟩
  · simp only [List.mem_append, List.mem_singleton] at hx
    rcases hx with h1 | h1 | h1
    · exact .inl (List.mem_of_mem_take h1)
    · exact .inr h1
    · exact .inl (List.mem_of_mem_drop h1)
  refine sat_of_body mixed Tryz.func104 rfl (by kernel_rfl) (by kernel_rfl) (rs := [.cell 4 27, .tmp 5]) rfl rfl rfl ?_
  simp -implicitDefEqProofs (maxSteps := 2000000) only [go_sem]
  refine call_of (l4Copy_sat d h) (by simp -implicitDefEqProofs (maxSteps := 2000000) only [go_sem]) (callOk_still (by kernel_rfl) (by simp only [List.all_cons, List.all_nil, LV.still, LV.leaves, Leaf.still, ints_still, ris_still, eds_still, rels_still, iss_still, ems_still, Bool.and_self, Bool.and_true])) (by simp -implicitDefEqProofs (maxSteps := 2000000) only [go_sem]) ?_
  simp -implicitDefEqProofs (maxSteps := 2000000) only [go_sem]
  refine call_of (specIsValidDatabase_sat d h.fit) (by simp -implicitDefEqProofs (maxSteps := 2000000) only [go_sem, g]) (by kernel_rfl) (by simp -implicitDefEqProofs (maxSteps := 2000000) only [go_sem, g]) ?_
  simp -implicitDefEqProofs (maxSteps := 2000000) only [go_sem, g]
  refine call_of (specIsValidFact_sat d.rels f h.fit.1.1 hff) (by simp -implicitDefEqProofs (maxSteps := 2000000) only [go_sem, gr, g2]) (by kernel_rfl) (by simp -implicitDefEqProofs (maxSteps := 2000000) only [go_sem, gr, g2]) ?_
  simp -implicitDefEqProofs (maxSteps := 2000000) only [go_sem, gr, g2]
  refine call_of (containsFact_sat d f h.fit) (by simp -implicitDefEqProofs (maxSteps := 2000000) only [go_sem, g3, g4]) (by kernel_rfl) (by simp -implicitDefEqProofs (maxSteps := 2000000) only [go_sem, g3, g4]) ?_
  simp -implicitDefEqProofs (maxSteps := 2000000) only [go_sem, g3, g4]
  refine awp_loop Nat (fun j => mkSt [(2, .one (.vad 1000 0)), (3, .one (.vad 1064 0)), (4, .one (.vad 1128 0)), (5, .sc (.bool false)), (6, .one (.vad 1384 0)), (7, .sc (.int .i64 j))] [(1000, sDb d), (1064, sRI f), (1128, yDb), (1384, [.ref 960 3 0 d.rels.length, .ref 961 2 0 d.facts.length])] [(960, (3, rels d.rels)), (961, (2, ris 999 d.facts))] 6000)
    (fun j => j ≤ k) (fun j => k - j) 0 (by omega) (le_st' _ _ [⟨960, some _, false, 3, _⟩, ⟨961, some _, false, 2, _⟩] [] _ (by simp -implicitDefEqProofs (maxSteps := 2000000) only [go_sem] <;> and_intros <;> rfl) (by simp -implicitDefEqProofs (maxSteps := 2000000) only [go_sem] <;> and_intros <;> rfl) (by simp -implicitDefEqProofs (maxSteps := 2000000) only [go_sem] <;> and_intros <;> rfl) (by rfl)) ?_
  rintro j h4
  have hjn : j ≤ d.facts.length := by omega
  by_cases c1 : j < k
  · have wj : IntKind.i64.wrap ((j : Int) + 1) = ((j + 1 : Nat) : Int) := i64_succ (by omega)
    have c2 : j < d.facts.length := by omega
    have d1 := k2 j c1
    have hx := h.fit.2.2 _ (mem_getD default c2)
    simp -implicitDefEqProofs (maxSteps := 2000000) only [go_sem, c2]
    refine call_of (specCompareFacts_sat (d.facts.getD j default) f hx) (by simp -implicitDefEqProofs (maxSteps := 2000000) only [go_sem, c2, d1]) (by kernel_rfl) (by simp -implicitDefEqProofs (maxSteps := 2000000) only [go_sem, c2, d1]) ?_
    simp -implicitDefEqProofs (maxSteps := 2000000) only [go_sem, c2, d1]
    first | (with_reducible refine tr_and ?_ ?_; focus kernel_rfl) | (with_reducible refine tr_only ?_; kernel_rfl) | skip
    rw [wj]
    exact ⟨j + 1, c1, by omega, (le_st' _ _ [⟨960, some _, false, 3, _⟩, ⟨961, some _, false, 2, _⟩] [] _ (by simp -implicitDefEqProofs (maxSteps := 2000000) only [go_sem] <;> and_intros <;> rfl) (by simp -implicitDefEqProofs (maxSteps := 2000000) only [go_sem] <;> and_intros <;> rfl) (by simp -implicitDefEqProofs (maxSteps := 2000000) only [go_sem] <;> and_intros <;> rfl) (by rfl))⟩
  obtain rfl : j = k := by omega
  by_cases c2 : j < d.facts.length
  · have d1 := k3 c2
    have hx := h.fit.2.2 _ (mem_getD default c2)
    simp -implicitDefEqProofs (maxSteps := 2000000) only [go_sem, c2]
    refine call_of (specCompareFacts_sat (d.facts.getD j default) f hx) (by simp -implicitDefEqProofs (maxSteps := 2000000) only [go_sem, c2, d1]) (by kernel_rfl) (by simp -implicitDefEqProofs (maxSteps := 2000000) only [go_sem, c2, d1]) ?_
    simp -implicitDefEqProofs (maxSteps := 2000000) only [go_sem, c2, d1]
    first | (with_reducible refine tr_and ?_ ?_; focus kernel_rfl) | (with_reducible refine tr_only ?_; kernel_rfl) | skip
    have eR : (List.replicate 1 (⟨0, []⟩ : RI)).set 0 ⟨f.r, f.l⟩ = [f] := rfl
    have eT : List.take (d.facts.length - j) (List.drop j d.facts) = List.drop j d.facts := List.take_of_length_le (by rw [List.length_drop]; omega)
    have hdl : (List.drop j d.facts).length = d.facts.length - j := List.length_drop
    have htl : (List.take j d.facts).length = j := by rw [List.length_take]; omega
    have hB : flatB (ris 999 (List.drop j d.facts)) = false := flat_ne (s := 998) (by omega)
    have hG := goneR_tk d.facts hjn
    have hGl := goneR_ln d.facts hjn
    unfold RI.ok at hf
    by_cases j0 : j = 0
    · have hc : (j = 0 ∧ d.facts.length - j = d.facts.length) = True := eq_true ⟨j0, by omega⟩
      have hA : flatB (ris 999 (List.take j d.facts)) = true := by rw [j0]; rfl
      have hFl : flatB (ris 7408 [f] ++ ris 999 d.facts) = false := flat_ins 7407 f _
      have hTk : List.take (1 + d.facts.length) (ris 7408 [f] ++ ris 999 d.facts) = ris 7408 [f] ++ ris 999 d.facts := take_ins _ _ _
      simp only [eT, eR, Nat.sub_zero, hB, hc, hG, hA, hTk, hFl, if_true, Bool.false_eq_true, if_false, ris_length, htl]
      repeat (refine ⟨by omega, ?_⟩)
      refine tr_and (by kernel_rfl) ?_
      repeat (refine ⟨by omega, ?_⟩)
      subst j0
      exact ⟨(rst_ins 7407 [] d.facts f).symm, rfl⟩
    · have hc : (j = 0 ∧ d.facts.length - j = d.facts.length) = False := eq_false (fun h => j0 h.1)
      have hA : flatB (ris 999 (List.take j d.facts)) = false := flat_ne (s := 998) (by omega)
      have hjn2 : (j = d.facts.length) = False := eq_false (by omega)
      have hFl : flatB (ris 7408 [f] ++ ris 999 (List.drop j d.facts)) = false := flat_ins 7407 f _
      have hTk : List.take (1 + (List.drop j d.facts).length) (ris 7408 [f] ++ ris 999 (List.drop j d.facts)) = ris 7408 [f] ++ ris 999 (List.drop j d.facts) := take_ins _ _ _
      simp only [eT, eR, Nat.sub_zero, hB, hc, hG, hGl, hA, hjn2, hTk, hFl, if_true, Bool.false_eq_true, if_false, ris_length, htl]
      repeat (refine ⟨by omega, ?_⟩)
      refine tr_and (by kernel_rfl) ?_
      repeat (refine ⟨by omega, ?_⟩)
      exact ⟨(rst_ins 7407 _ _ f).symm, rfl⟩
  · obtain rfl : j = d.facts.length := by omega
    simp -implicitDefEqProofs (maxSteps := 2000000) only [go_sem, c2]
    have eR : (List.replicate 1 (⟨0, []⟩ : RI)).set 0 ⟨f.r, f.l⟩ = [f] := rfl
    have e0 : flatB (ris 999 ([] : List RI)) = true := rfl
    have hT1 : List.take 1 (ris 7408 [f] ++ ris 999 []) = ris 7408 [f] ++ ris 999 [] := rfl
    have hF1 : flatB (ris 7408 [f] ++ ris 999 []) = false := flat_ins 7407 f _
    have hfin := rst_ins 7407 d.facts [] f
    unfold RI.ok at hf
    rcases hA : flatB (ris 999 d.facts)
    · simp only [eR, e0, hT1, hF1, hA, Nat.sub_zero, List.take_length, if_true, Bool.false_eq_true, if_false]
      repeat (refine ⟨by omega, ?_⟩)
      refine tr_and (by kernel_rfl) ?_
      repeat (refine ⟨by omega, ?_⟩)
      exact ⟨hfin.symm, rfl⟩
    · simp only [eR, e0, hT1, hF1, hA, Nat.sub_zero, List.take_length, if_true, Bool.false_eq_true, if_false]
      repeat (refine ⟨by omega, ?_⟩)
      refine tr_and (by kernel_rfl) ?_
      repeat (refine ⟨by omega, ?_⟩)
      exact ⟨hfin.symm, rfl⟩
end Go.Proofs.YtedciihjgbkjgabGreatDoor.A


/- DATABASES DRAWN. Conditions: none. -/
namespace Go.Proofs.YtedciihjgbkjgabGreatDoor.A
open Go
set_option linter.unusedSimpArgs false
set_option linter.unusedVariables false
set_option maxRecDepth 100000

/-- A row of steps, each of which exists. -/
theorem seqOf {α : Type} (G : Nat → α → Prop) (R : α → α → Prop) (a : α) (h0 : G 0 a) (h : ∀ k a, G k a → ∃ b, G (k + 1) b ∧ R a b) : ∃ s : Nat → α, s 0 = a ∧ ∀ k, G k (s k) ∧ R (s k) (s (k + 1)) := by
  let f : (k : Nat) → { x : α // G k x } := fun k => Nat.rec (motive := fun k => { x : α // G k x }) ⟨a, h0⟩ (fun k x => ⟨Classical.choose (h k x.1 x.2), (Classical.choose_spec (h k x.1 x.2)).1⟩) k
  exact ⟨fun k => (f k).1, rfl, fun k => ⟨(f k).2, (Classical.choose_spec (h k (f k).1 (f k).2)).2⟩⟩
theorem sigs_len (c : Cur) : (sigs c).length = 4 := rfl
theorem sigs_ok (c : Cur) : ∀ x ∈ sigs c, (1 ≤ x.ar ∧ x.ar ≤ 3) ∧ x.name.size ≤ 2 := by
  intro x hx
  unfold sigs sigR at hx
  simp only [List.mem_cons, List.not_mem_nil, or_false] at hx
  rcases hx with rfl | rfl | rfl | rfl <;> exact ⟨by simp only; omega, by simp only; decide⟩
/-- A small database. -/
structure DbS (d : Db) (m : Nat) : Prop where
  rels : d.rels.length ≤ 4
  names : ∀ x ∈ d.rels, x.name.size ≤ 2
  facts : d.facts.length ≤ m
  vals : ∀ x ∈ d.facts, x.l.length ≤ 4
theorem DbS.ok {d : Db} {m : Nat} (h : DbS d m) (hm : m ≤ 1000) : d.ok := by
  have h1 := h.rels
  have h2 := h.facts
  refine ⟨⟨by omega, fun x hx => ?_⟩, by omega, fun x hx => ?_⟩
  · have := h.names x hx; unfold Rel.ok; omega
  · have := h.vals x hx; unfold RI.ok; omega
def valL : List Int := [2, 2, 3, 3]
theorem valL_at : ∀ i : Fin 4, ∃ v : Nat, valL.getD i.val 0 = v ∧ 0 < v ∧ v ≤ 256
  | ⟨0, _⟩ => ⟨2, rfl, by omega, by omega⟩
  | ⟨1, _⟩ => ⟨2, rfl, by omega, by omega⟩
  | ⟨2, _⟩ => ⟨3, rfl, by omega, by omega⟩
  | ⟨3, _⟩ => ⟨3, rfl, by omega, by omega⟩
theorem l4Db_ex (c : Cur) (hc : c.ok) : ∃ (d : Db) (c' : Cur), DbS d 12 ∧ d.rels = sigs c ∧ c'.ok ∧ Sat Tryz.prog 68 [lCur c] [oDb d] [lCur c'] := by
  have hc1 := byC_ok (byC_ok hc)
  obtain ⟨v, hv, hv1, hv2⟩ := valL_at ⟨beV (byC (byC c)) 4, beV_lt _ (by decide)⟩
  simp only at hv
  have hc2 := byC_ok hc1
  have hN := beV_lt (byC (byC (byC c))) (n := 11) (by decide)
  have s0 := l2Sigs_sat c hc
  have hl := sigs_len c
  have hr := sigs_ok c
  generalize hsg : sigs c = rs at s0 hl hr
  obtain ⟨s, z0, hs⟩ := seqOf (α := Db × Cur) (fun k x => x.1.rels = rs ∧ x.1.facts.length ≤ k ∧ (∀ f ∈ x.1.facts, f.l.length ≤ 3) ∧ x.2.ok)
    (fun x y => (∀ f ∈ x.1.facts, f.l.length ≤ 3) ∧ x.1.facts.length ≤ 1000000 → ∃ (f : RI) (b : Bool), Sat Tryz.prog 105 [lCur x.2, lRels rs, lInt v] [oRI f] [lCur y.2, g1, g1] ∧ Sat Tryz.prog 104 [lDb x.1, lRI f] [oDb y.1, lBool b] [g2, g2])
    (⟨rs, []⟩, byC (byC (byC (byC c)))) ⟨rfl, by simp, by simp, byC_ok hc2⟩ (by
      rintro k ⟨d, c1⟩ ⟨h1, h2, h3, h4⟩
      simp only at h1 h2 h3 h4
      have a1 := beV_lt c1 (n := rs.length) (by omega)
      have a2 := (hr _ (mem_getD default a1)).1
      have hfl : (factD c1 rs v).l.length ≤ 3 := by rw [factD_len]; unfold factA; omega
      by_cases hbig : d.facts.length ≤ 1000000
      · have hok : d.ok := ⟨⟨by rw [h1]; omega, fun x hx => by rw [h1] at hx; have := (hr x hx).2; unfold Rel.ok; omega⟩, by omega, fun x hx => by have := h3 x hx; unfold RI.ok; omega⟩
        obtain ⟨d', b, b1, b2, b3, b4⟩ := insertFact_ex d (factD c1 rs v) hok (by unfold RI.ok; omega)
        refine ⟨(d', factC c1 rs v), ⟨by rw [b1, h1], by show d'.facts.length ≤ k + 1; omega, fun f hf => ?_, factC_ok h4 rs v⟩, fun _ => ⟨factD c1 rs v, b, l3Fact_sat c1 rs v h4 (by omega) (by omega) hv1 hv2 (fun x hx => by have := (hr x hx).1; omega), b4⟩⟩
        rcases b3 f hf with h | rfl
        · exact h3 f h
        · exact hfl
      · exact ⟨(d, c1), ⟨h1, by show d.facts.length ≤ k + 1; omega, h3, h4⟩, fun h => absurd h.2 hbig⟩)
  obtain ⟨N, hNN⟩ : ∃ N : Nat, N = 2 + beV (byC (byC (byC c))) 11 := ⟨_, rfl⟩
  have gN := (hs N).1
  refine ⟨(s N).1, (s N).2, ⟨by rw [gN.1]; omega, fun x hx => (hr x (by rw [← gN.1]; exact hx)).2, by have := gN.2.1; omega, fun x hx => by have := gN.2.2.1 x hx; omega⟩, gN.1, gN.2.2.2, ?_⟩
  refine sat_of_bodyB Tryz.func68 rfl (by kernel_rfl) (rs := [.cell 2 27]) rfl rfl rfl ?_
  have eL : ((((List.replicate 4 (0 : Int)).set 0 2).set 1 2).set 2 3).set 3 3 = valL := rfl
  have el : valL.length = 4 := rfl
  have wN : IntKind.i64.wrap (2 + ((beV (byC (byC (byC c))) 11 : Nat) : Int)) = ((N : Nat) : Int) := by rw [IntWalk.i64_in _ (by omega)]; omega
  refine bwp_seq mixed (by kernel_rfl) ?_
  simp -implicitDefEqProofs (maxSteps := 2000000) only [go_sem]
  refine bwp_seq mixed (by kernel_rfl) ?_
  simp -implicitDefEqProofs (maxSteps := 2000000) only [go_sem]
  refine call_of (s0) (by simp -implicitDefEqProofs (maxSteps := 2000000) only [go_sem] <;> and_intros <;> rfl) (by kernel_rfl) (by simp -implicitDefEqProofs (maxSteps := 2000000) only [go_sem]) ?_
  simp -implicitDefEqProofs (maxSteps := 2000000) only [go_sem]
  refine bwp_seq mixed (by kernel_rfl) ?_
  simp -implicitDefEqProofs (maxSteps := 2000000) only [go_sem]
  refine call_of (l1PickInt_own (byC (byC c)) valL hc1 (by decide) (by decide)) (by simp -implicitDefEqProofs (maxSteps := 2000000) only [go_sem, eL, el, hv]) (by kernel_rfl) (by simp -implicitDefEqProofs (maxSteps := 2000000) only [go_sem, eL, el, hv]) ?_
  simp -implicitDefEqProofs (maxSteps := 2000000) only [go_sem, eL, el, hv]
  refine bwp_seqB (bwp_seq mixed (by kernel_rfl) ?_)
  simp -implicitDefEqProofs (maxSteps := 2000000) only [go_sem]
  refine call_of (l1Below_sat (byC (byC (byC c))) 11 hc2 (by decide) (by decide)) (by simp -implicitDefEqProofs (maxSteps := 2000000) only [go_sem, wN] <;> and_intros <;> rfl) (by kernel_rfl) (by simp -implicitDefEqProofs (maxSteps := 2000000) only [go_sem, wN]) ?_
  simp -implicitDefEqProofs (maxSteps := 2000000) only [go_sem, wN]
  have z1 : (s 0).1.rels = rs := by rw [z0]
  have z2 : (s 0).1.facts = [] := by rw [z0]
  have z3 : (s 0).2 = byC (byC (byC (byC c))) := by rw [z0]
  refine bwp_block ?_
  refine bwp_loop Nat (fun j => mkSt [(0, .one (.vad 0 0)), (2, .one (.vad 1000 0)), (3, .one (.vad 1256 0)), (4, .sc (.int .i64 v)), (5, .sc (.int .i64 ((N : Int) - (j : Int))))] [(0, sCur (s j).2), (1000, yDb), (1256, [.ref 960 3 0 rs.length, .ref 961 2 0 (s j).1.facts.length])] [(960, (3, rels rs)), (961, (2, ris 999 (s j).1.facts))] 8000)
    (fun j => j ≤ N) (fun j => N - j) 0 (by omega) (le_st' _ _ [⟨960, some _, false, 3, _⟩, ⟨961, none, false, 2, _⟩] [] _ (by simp -implicitDefEqProofs (maxSteps := 2000000) only [go_sem, z1, z2, z3, hl, ris_nil, List.length_nil, Int.sub_zero, Int.natCast_zero] <;> and_intros <;> rfl) (by simp -implicitDefEqProofs (maxSteps := 2000000) only [go_sem, z1, z2, z3, hl, ris_nil, List.length_nil, Int.sub_zero, Int.natCast_zero] <;> and_intros <;> rfl) (by simp -implicitDefEqProofs (maxSteps := 2000000) only [go_sem, z1, z2, z3, hl, ris_nil, List.length_nil, Int.sub_zero, Int.natCast_zero] <;> and_intros <;> rfl) (by rfl)) ?_
  rintro j h4
  obtain ⟨⟨b1, b2, b3, b4⟩, b5⟩ := hs j
  by_cases c1 : j < N
  · obtain ⟨f, b, t1, t2⟩ := b5 ⟨b3, by omega⟩
    have d1 : decide ((N : Int) - (j : Int) > 0) = true := decide_eq_true (by omega)
    have wj : IntKind.i64.wrap ((N : Int) - (j : Int) - 1) = (N : Int) - ((j + 1 : Nat) : Int) := by rw [IntWalk.i64_in _ (by omega)]; omega
    have b1' := (hs (j + 1)).1.1
    refine bwp_seq mixed (by kernel_rfl) ?_
    simp -implicitDefEqProofs (maxSteps := 2000000) only [go_sem, d1]
    refine bwp_le (st' := mkSt [(0, .one (.vad 0 0)), (2, .one (.vad 1000 0)), (3, .one (.vad 1256 0)), (4, .sc (.int .i64 v)), (5, .sc (.int .i64 ((N : Int) - (j : Int))))] [(0, sCur (s j).2), (1000, yDb), (1256, [.im 3 (rels rs), .ref 961 2 0 (s j).1.facts.length])] [(961, (2, ris 999 (s j).1.facts))] 10000) (le_st' _ _ [⟨961, some 961, false, 2, _⟩] [960] _ (by simp -implicitDefEqProofs (maxSteps := 2000000) only [go_sem, rels_frz] <;> and_intros <;> first | rfl | exact List.mem_singleton_self _ | decide | (refine ⟨_, rfl, Eq.symm ?_⟩; simp -implicitDefEqProofs (maxSteps := 2000000) only [go_sem, rels_frz]; done) | (refine ⟨_, rfl, Eq.symm ?_⟩; simp -implicitDefEqProofs (maxSteps := 2000000) only [go_sem, rels_frz]; rfl)) (by simp -implicitDefEqProofs (maxSteps := 2000000) only [go_sem, rels_frz] <;> and_intros <;> first | rfl | exact List.mem_singleton_self _ | decide | (refine ⟨_, rfl, Eq.symm ?_⟩; simp -implicitDefEqProofs (maxSteps := 2000000) only [go_sem, rels_frz]; done) | (refine ⟨_, rfl, Eq.symm ?_⟩; simp -implicitDefEqProofs (maxSteps := 2000000) only [go_sem, rels_frz]; rfl)) (by simp -implicitDefEqProofs (maxSteps := 2000000) only [go_sem, rels_frz] <;> and_intros <;> rfl) (by rfl)) ?_
    refine bwp_awp mixed (by kernel_rfl) ?_
    simp -implicitDefEqProofs (maxSteps := 2000000) only [go_sem]
    refine call_of (t1) ?_ ?_ ?_ ?_
    · simp -implicitDefEqProofs (maxSteps := 2000000) only [go_sem]
    · kernel_rfl
    · simp -implicitDefEqProofs (maxSteps := 2000000) only [go_sem]
    simp -implicitDefEqProofs (maxSteps := 2000000) only [go_sem]
    refine call_of (t2) (by simp -implicitDefEqProofs (maxSteps := 2000000) only [go_sem, b1]) (callOk_still (by kernel_rfl) (by simp only [List.all_cons, List.all_nil, LV.still, LV.leaves, Leaf.still, ints_still, ris_still, eds_still, rels_still, iss_still, ems_still, Bool.and_self, Bool.and_true])) (by simp -implicitDefEqProofs (maxSteps := 2000000) only [go_sem, b1]) ?_
    simp -implicitDefEqProofs (maxSteps := 2000000) only [go_sem, b1]
    first | (with_reducible refine tr_and ?_ ?_; focus kernel_rfl) | (with_reducible refine tr_only ?_; kernel_rfl) | skip
    rw [wj]
    exact ⟨j + 1, c1, by omega, (le_st' _ _ [⟨960, some _, false, 3, _⟩, ⟨961, some _, false, 2, _⟩] [] _ (by simp -implicitDefEqProofs (maxSteps := 2000000) only [go_sem, b1'] <;> and_intros <;> rfl) (by simp -implicitDefEqProofs (maxSteps := 2000000) only [go_sem, b1'] <;> and_intros <;> rfl) (by simp -implicitDefEqProofs (maxSteps := 2000000) only [go_sem, b1'] <;> and_intros <;> rfl) (by rfl))⟩
  · obtain rfl : j = N := by omega
    have d1 : decide ((j : Int) - (j : Int) > 0) = false := decide_eq_false (by omega)
    refine bwp_seq mixed (by kernel_rfl) ?_
    simp -implicitDefEqProofs (maxSteps := 2000000) only [go_sem, d1]
    refine bwp_awp mixed (by kernel_rfl) ?_
    simp -implicitDefEqProofs (maxSteps := 2000000) only [go_sem]
    and_intros <;> first | rfl | (rw [b1])
end Go.Proofs.YtedciihjgbkjgabGreatDoor.A


/- DATABASES DRAWN, SPOILT NOW AND THEN. Conditions: none. -/
namespace Go.Proofs.YtedciihjgbkjgabGreatDoor.A
open Go
set_option linter.unusedSimpArgs false
set_option linter.unusedVariables false
set_option maxRecDepth 100000

theorem eqN_t {n m : Nat} (h : n = m) : (((n : Nat) : Int) == ((m : Nat) : Int)) = true := by rw [h]; exact beq_self_eq_true _
theorem frz_2s (s t : Nat) (a b : List RI) : frz (ris s a ++ ris t b) = ris 0 (a ++ b) := by
  have e : ∀ x y : Rows, frz (x ++ y) = frz x ++ frz y := fun x y => by simp [frz]
  rw [e, ris_frz, ris_frz, ris_append]
theorem take_set1 {α : Type} {l : List α} {i : Nat} {x : α} : List.take l.length (l.set i x) = l.set i x := List.take_of_length_le (by rw [List.length_set]; exact Nat.le_refl _)
theorem take_two (s t : Nat) (a : List RI) (x : RI) : List.take (a.length + 1) (ris s a ++ ris t [x]) = ris s a ++ ris t [x] := List.take_of_length_le (by simp [ris])
theorem l4Any_ex (c : Cur) (hc : c.ok) : ∃ (d : Db) (c' : Cur), DbS d 13 ∧ c'.ok ∧ Sat Tryz.prog 27 [lCur c] [lDb d] [lCur c'] := by
  obtain ⟨d, c1, h1, h2, h3, s0⟩ := l4Db_ex c hc
  have hl : d.rels.length = 4 := by rw [h2]; exact sigs_len c
  have hr : ∀ x ∈ d.rels, 1 ≤ x.ar ∧ x.ar ≤ 3 := fun x hx => (sigs_ok c x (by rw [← h2]; exact hx)).1
  have hk := byC_ok h3
  have hf := h1.facts
  clear h2
  rcases d with ⟨rs, fs⟩
  simp only at hl hr hf
  have ht := beV_lt c1 (n := 14) (by decide)
  by_cases t0 : beV c1 14 = 0
  · have d0 : (((beV c1 14 : Nat) : Int) == 0) = true := by rw [t0]; rfl
    obtain ⟨f, c2, f1, f2, f3⟩ := l3Any_ex (byC c1) rs hk (by omega) (by omega) hr
    refine ⟨⟨rs, fs ++ [f]⟩, c2, ⟨by simp only; omega, h1.names, by simp only [List.length_append, List.length_singleton]; omega, fun x hx => ?_⟩, f2, ?_⟩
    · rcases List.mem_append.mp hx with hx | hx
      · exact h1.vals x hx
      · rw [List.mem_singleton.mp hx]; exact f1
    refine sat_of_bodyB Tryz.func27 rfl (by kernel_rfl) (rs := [.cell 2 27]) rfl rfl rfl ?_
    refine bwp_seq mixed (by kernel_rfl) ?_
    simp -implicitDefEqProofs (maxSteps := 2000000) only [go_sem]
    refine bwp_seq mixed (by kernel_rfl) ?_
    simp -implicitDefEqProofs (maxSteps := 2000000) only [go_sem]
    refine call_of (s0) (by simp -implicitDefEqProofs (maxSteps := 2000000) only [go_sem]) (by kernel_rfl) (by simp -implicitDefEqProofs (maxSteps := 2000000) only [go_sem]) ?_
    simp -implicitDefEqProofs (maxSteps := 2000000) only [go_sem]
    refine bwp_seqB (bwp_seq mixed (by kernel_rfl) ?_)
    simp -implicitDefEqProofs (maxSteps := 2000000) only [go_sem]
    refine call_of (l1Below_sat c1 14 h3 (by decide) (by decide)) (by simp -implicitDefEqProofs (maxSteps := 2000000) only [go_sem] <;> and_intros <;> rfl) (by kernel_rfl) (by simp -implicitDefEqProofs (maxSteps := 2000000) only [go_sem]) ?_
    simp -implicitDefEqProofs (maxSteps := 2000000) only [go_sem]
    refine bwp_le (st' := mkSt [(0, .one (.vad 0 0)), (2, .one (.vad 1000 0)), (3, .one (.vad 1192 0)), (7, .sc (.int .i64 ((beV c1 14 : Nat) : Int)))] [(0, sCur (byC c1)), (1000, yDb), (1192, [.im 3 (rels rs), .ref 961 2 0 fs.length])] [(961, (2, ris 999 fs))] 9000) (le_st' _ _ [⟨961, some _, false, 2, _⟩] [1128] _ (by simp -implicitDefEqProofs (maxSteps := 2000000) only [go_sem, rels_frz] <;> and_intros <;> first | rfl | exact List.mem_singleton_self _ | decide | (refine ⟨_, rfl, Eq.symm ?_⟩; simp -implicitDefEqProofs (maxSteps := 2000000) only [go_sem, rels_frz]; done) | (refine ⟨_, rfl, Eq.symm ?_⟩; simp -implicitDefEqProofs (maxSteps := 2000000) only [go_sem, rels_frz]; rfl)) (by simp -implicitDefEqProofs (maxSteps := 2000000) only [go_sem, rels_frz] <;> and_intros <;> first | rfl | exact List.mem_singleton_self _ | decide | (refine ⟨_, rfl, Eq.symm ?_⟩; simp -implicitDefEqProofs (maxSteps := 2000000) only [go_sem, rels_frz]; done) | (refine ⟨_, rfl, Eq.symm ?_⟩; simp -implicitDefEqProofs (maxSteps := 2000000) only [go_sem, rels_frz]; rfl)) (by simp -implicitDefEqProofs (maxSteps := 2000000) only [go_sem, rels_frz] <;> and_intros <;> rfl) (by rfl)) ?_
    refine bwp_awp mixed (by kernel_rfl) ?_
    simp -implicitDefEqProofs (maxSteps := 2000000) only [go_sem, d0]
    refine call_of (f3) ?_ ?_ ?_ ?_
    · simp -implicitDefEqProofs (maxSteps := 2000000) only [go_sem]
    · kernel_rfl
    · simp -implicitDefEqProofs (maxSteps := 2000000) only [go_sem]
    simp -implicitDefEqProofs (maxSteps := 2000000) only [go_sem]
    refine ⟨by omega, ?_⟩
    refine tr_and (by kernel_rfl) ?_
    refine bwp_le (st' := mkSt [(2, .one (.vad 1000 0)), (3, .one (.vad 1192 0))] [(0, sCur c2), (1000, yDb), (1192, sDb ⟨rs, fs ++ [f]⟩)] [] 20000) (le_st' _ _ [] [9576] _ (by simp -implicitDefEqProofs (maxSteps := 2000000) only [go_sem, rels_frz, repD1, List.set_cons_zero, take_two, frz_2s] <;> and_intros <;> first | rfl | exact List.mem_singleton_self _ | decide | (refine ⟨_, rfl, Eq.symm ?_⟩; simp -implicitDefEqProofs (maxSteps := 2000000) only [go_sem, rels_frz, repD1, List.set_cons_zero, take_two, frz_2s]; done) | (refine ⟨_, rfl, Eq.symm ?_⟩; simp -implicitDefEqProofs (maxSteps := 2000000) only [go_sem, rels_frz, repD1, List.set_cons_zero, take_two, frz_2s]; rfl)) (by simp -implicitDefEqProofs (maxSteps := 2000000) only [go_sem, rels_frz, repD1, List.set_cons_zero, take_two, frz_2s] <;> and_intros <;> first | rfl | exact List.mem_singleton_self _ | decide | (refine ⟨_, rfl, Eq.symm ?_⟩; simp -implicitDefEqProofs (maxSteps := 2000000) only [go_sem, rels_frz, repD1, List.set_cons_zero, take_two, frz_2s]; done) | (refine ⟨_, rfl, Eq.symm ?_⟩; simp -implicitDefEqProofs (maxSteps := 2000000) only [go_sem, rels_frz, repD1, List.set_cons_zero, take_two, frz_2s]; rfl)) (by simp -implicitDefEqProofs (maxSteps := 2000000) only [go_sem, rels_frz, repD1, List.set_cons_zero, take_two, frz_2s] <;> and_intros <;> rfl) (by rfl)) ?_
    refine bwp_awp mixed (by kernel_rfl) ?_
    simp -implicitDefEqProofs (maxSteps := 2000000) only [go_sem]
    and_intros <;> rfl
  have d0 : (((beV c1 14 : Nat) : Int) == 0) = false := by rw [beq_eq_false_iff_ne]; omega
  by_cases t1 : beV c1 14 = 1
  · have d1 : (((beV c1 14 : Nat) : Int) == 1) = true := by rw [t1]; rfl
    have hb := beV_lt (byC c1) (n := 4) (by decide)
    have hb2 : beV (byC c1) 4 ≤ rs.length := by omega
    refine ⟨⟨rs.take (beV (byC c1) 4), fs⟩, byC (byC c1), ⟨by simp only [List.length_take]; omega, fun x hx => h1.names x (List.mem_of_mem_take hx), by simp only; omega, h1.vals⟩, byC_ok hk, ?_⟩
    refine sat_of_bodyB Tryz.func27 rfl (by kernel_rfl) (rs := [.cell 2 27]) rfl rfl rfl ?_
    refine bwp_seq mixed (by kernel_rfl) ?_
    simp -implicitDefEqProofs (maxSteps := 2000000) only [go_sem]
    refine bwp_seq mixed (by kernel_rfl) ?_
    simp -implicitDefEqProofs (maxSteps := 2000000) only [go_sem]
    refine call_of (s0) (by simp -implicitDefEqProofs (maxSteps := 2000000) only [go_sem]) (by kernel_rfl) (by simp -implicitDefEqProofs (maxSteps := 2000000) only [go_sem]) ?_
    simp -implicitDefEqProofs (maxSteps := 2000000) only [go_sem]
    refine bwp_seqB (bwp_seq mixed (by kernel_rfl) ?_)
    simp -implicitDefEqProofs (maxSteps := 2000000) only [go_sem]
    refine call_of (l1Below_sat c1 14 h3 (by decide) (by decide)) (by simp -implicitDefEqProofs (maxSteps := 2000000) only [go_sem] <;> and_intros <;> rfl) (by kernel_rfl) (by simp -implicitDefEqProofs (maxSteps := 2000000) only [go_sem]) ?_
    simp -implicitDefEqProofs (maxSteps := 2000000) only [go_sem]
    refine bwp_awp mixed (by kernel_rfl) ?_
    simp -implicitDefEqProofs (maxSteps := 2000000) only [go_sem, d0, d1]
    refine call_of (l1Below_sat (byC c1) 4 hk (by decide) (by decide)) (by simp -implicitDefEqProofs (maxSteps := 2000000) only [go_sem, hb2] <;> and_intros <;> rfl) (by kernel_rfl) (by simp -implicitDefEqProofs (maxSteps := 2000000) only [go_sem, hb2]) ?_
    simp -implicitDefEqProofs (maxSteps := 2000000) only [go_sem, hb2]
    repeat (refine ⟨by omega, ?_⟩)
    first | (with_reducible refine tr_and ?_ ?_; focus kernel_rfl) | (with_reducible refine tr_only ?_; kernel_rfl) | skip
    refine bwp_le (st' := mkSt [(2, .one (.vad 1000 0)), (3, .one (.vad 1192 0))] [(0, sCur (byC (byC c1))), (1000, yDb), (1192, sDb ⟨rs.take (beV (byC c1) 4), fs⟩)] [] 20000) (le_st' _ _ [] [1128, 1129] _ (by simp -implicitDefEqProofs (maxSteps := 2000000) only [go_sem, rels_frz, Nat.sub_zero] <;> and_intros <;> first | rfl | exact List.mem_singleton_self _ | decide | (refine ⟨_, rfl, Eq.symm ?_⟩; simp -implicitDefEqProofs (maxSteps := 2000000) only [go_sem, rels_frz, Nat.sub_zero]; done) | (refine ⟨_, rfl, Eq.symm ?_⟩; simp -implicitDefEqProofs (maxSteps := 2000000) only [go_sem, rels_frz, Nat.sub_zero]; rfl)) (by simp -implicitDefEqProofs (maxSteps := 2000000) only [go_sem, rels_frz, Nat.sub_zero] <;> and_intros <;> first | rfl | exact List.mem_singleton_self _ | decide | (refine ⟨_, rfl, Eq.symm ?_⟩; simp -implicitDefEqProofs (maxSteps := 2000000) only [go_sem, rels_frz, Nat.sub_zero]; done) | (refine ⟨_, rfl, Eq.symm ?_⟩; simp -implicitDefEqProofs (maxSteps := 2000000) only [go_sem, rels_frz, Nat.sub_zero]; rfl)) (by simp -implicitDefEqProofs (maxSteps := 2000000) only [go_sem, rels_frz, Nat.sub_zero] <;> and_intros <;> rfl) (by rfl)) ?_
    refine bwp_awp mixed (by kernel_rfl) ?_
    simp -implicitDefEqProofs (maxSteps := 2000000) only [go_sem]
    and_intros <;> rfl
  have d1 : (((beV c1 14 : Nat) : Int) == 1) = false := by rw [beq_eq_false_iff_ne]; omega
  by_cases t2 : beV c1 14 = 2
  · have d2 : (((beV c1 14 : Nat) : Int) == 2) = true := by rw [t2]; rfl
    have hb := beV_lt (byC c1) (n := 4) (by decide)
    have hb2 : beV (byC c1) 4 < rs.length := by omega
    have hn := anyN_ok ⟨beV (byC (byC c1)) 6, beV_lt _ (by decide)⟩
    refine ⟨⟨rs.set (beV (byC c1) 4) (anyR (byC (byC c1))), fs⟩, byC (byC (byC (byC (byC c1)))), ⟨by simp only [List.length_set]; omega, fun x hx => ?_, by simp only; omega, h1.vals⟩, byC_ok (byC_ok (byC_ok (byC_ok hk))), ?_⟩
    · rcases List.mem_or_eq_of_mem_set hx with hx | rfl
      · exact h1.names x hx
      · exact hn
    refine sat_of_bodyB Tryz.func27 rfl (by kernel_rfl) (rs := [.cell 2 27]) rfl rfl rfl ?_
    refine bwp_seq mixed (by kernel_rfl) ?_
    simp -implicitDefEqProofs (maxSteps := 2000000) only [go_sem]
    refine bwp_seq mixed (by kernel_rfl) ?_
    simp -implicitDefEqProofs (maxSteps := 2000000) only [go_sem]
    refine call_of (s0) (by simp -implicitDefEqProofs (maxSteps := 2000000) only [go_sem]) (by kernel_rfl) (by simp -implicitDefEqProofs (maxSteps := 2000000) only [go_sem]) ?_
    simp -implicitDefEqProofs (maxSteps := 2000000) only [go_sem]
    refine bwp_seqB (bwp_seq mixed (by kernel_rfl) ?_)
    simp -implicitDefEqProofs (maxSteps := 2000000) only [go_sem]
    refine call_of (l1Below_sat c1 14 h3 (by decide) (by decide)) (by simp -implicitDefEqProofs (maxSteps := 2000000) only [go_sem] <;> and_intros <;> rfl) (by kernel_rfl) (by simp -implicitDefEqProofs (maxSteps := 2000000) only [go_sem]) ?_
    simp -implicitDefEqProofs (maxSteps := 2000000) only [go_sem]
    refine bwp_awp mixed (by kernel_rfl) ?_
    simp -implicitDefEqProofs (maxSteps := 2000000) only [go_sem, d0, d1, d2]
    refine call_of (l1Below_sat (byC c1) 4 hk (by decide) (by decide)) (by simp -implicitDefEqProofs (maxSteps := 2000000) only [go_sem] <;> and_intros <;> rfl) (by kernel_rfl) (by simp -implicitDefEqProofs (maxSteps := 2000000) only [go_sem]) ?_
    simp -implicitDefEqProofs (maxSteps := 2000000) only [go_sem]
    refine call_of (l2Any_sat (byC (byC c1)) (byC_ok hk)) (by simp -implicitDefEqProofs (maxSteps := 2000000) only [go_sem, hb2] <;> and_intros <;> rfl) (by kernel_rfl) (by simp -implicitDefEqProofs (maxSteps := 2000000) only [go_sem, hb2]) ?_
    simp -implicitDefEqProofs (maxSteps := 2000000) only [go_sem, hb2]
    first | (with_reducible refine tr_and ?_ ?_; focus kernel_rfl) | (with_reducible refine tr_only ?_; kernel_rfl) | skip
    refine bwp_le (st' := mkSt [(2, .one (.vad 1000 0)), (3, .one (.vad 1192 0))] [(0, sCur (byC (byC (byC (byC (byC c1)))))), (1000, yDb), (1192, sDb ⟨rs.set (beV (byC c1) 4) (anyR (byC (byC c1))), fs⟩)] [] 20000) (le_st' _ _ [] [1128, 1129] _ (by simp -implicitDefEqProofs (maxSteps := 2000000) only [go_sem, rels_frz, take_set1] <;> and_intros <;> first | rfl | exact List.mem_singleton_self _ | decide | (refine ⟨_, rfl, Eq.symm ?_⟩; simp -implicitDefEqProofs (maxSteps := 2000000) only [go_sem, rels_frz, take_set1]; done) | (refine ⟨_, rfl, Eq.symm ?_⟩; simp -implicitDefEqProofs (maxSteps := 2000000) only [go_sem, rels_frz, take_set1]; rfl)) (by simp -implicitDefEqProofs (maxSteps := 2000000) only [go_sem, rels_frz, take_set1] <;> and_intros <;> first | rfl | exact List.mem_singleton_self _ | decide | (refine ⟨_, rfl, Eq.symm ?_⟩; simp -implicitDefEqProofs (maxSteps := 2000000) only [go_sem, rels_frz, take_set1]; done) | (refine ⟨_, rfl, Eq.symm ?_⟩; simp -implicitDefEqProofs (maxSteps := 2000000) only [go_sem, rels_frz, take_set1]; rfl)) (by simp -implicitDefEqProofs (maxSteps := 2000000) only [go_sem, rels_frz, take_set1] <;> and_intros <;> rfl) (by rfl)) ?_
    refine bwp_awp mixed (by kernel_rfl) ?_
    simp -implicitDefEqProofs (maxSteps := 2000000) only [go_sem]
    and_intros <;> rfl
  · have d2 : (((beV c1 14 : Nat) : Int) == 2) = false := by rw [beq_eq_false_iff_ne]; omega
    refine ⟨⟨rs, fs⟩, byC c1, ⟨by simp only; omega, h1.names, by simp only; omega, h1.vals⟩, hk, ?_⟩
    refine sat_of_bodyB Tryz.func27 rfl (by kernel_rfl) (rs := [.cell 2 27]) rfl rfl rfl ?_
    refine bwp_seq mixed (by kernel_rfl) ?_
    simp -implicitDefEqProofs (maxSteps := 2000000) only [go_sem]
    refine bwp_seq mixed (by kernel_rfl) ?_
    simp -implicitDefEqProofs (maxSteps := 2000000) only [go_sem]
    refine call_of (s0) (by simp -implicitDefEqProofs (maxSteps := 2000000) only [go_sem]) (by kernel_rfl) (by simp -implicitDefEqProofs (maxSteps := 2000000) only [go_sem]) ?_
    simp -implicitDefEqProofs (maxSteps := 2000000) only [go_sem]
    refine bwp_seqB (bwp_seq mixed (by kernel_rfl) ?_)
    simp -implicitDefEqProofs (maxSteps := 2000000) only [go_sem]
    refine call_of (l1Below_sat c1 14 h3 (by decide) (by decide)) (by simp -implicitDefEqProofs (maxSteps := 2000000) only [go_sem] <;> and_intros <;> rfl) (by kernel_rfl) (by simp -implicitDefEqProofs (maxSteps := 2000000) only [go_sem]) ?_
    simp -implicitDefEqProofs (maxSteps := 2000000) only [go_sem]
    refine bwp_awp mixed (by kernel_rfl) ?_
    simp -implicitDefEqProofs (maxSteps := 2000000) only [go_sem, d0, d1, d2]
    refine bwp_le (st' := mkSt [(2, .one (.vad 1000 0)), (3, .one (.vad 1192 0))] [(0, sCur (byC c1)), (1000, yDb), (1192, sDb ⟨rs, fs⟩)] [] 20000) (le_st' _ _ [] [1128, 1129] _ (by simp -implicitDefEqProofs (maxSteps := 2000000) only [go_sem, rels_frz] <;> and_intros <;> first | rfl | exact List.mem_singleton_self _ | decide | (refine ⟨_, rfl, Eq.symm ?_⟩; simp -implicitDefEqProofs (maxSteps := 2000000) only [go_sem, rels_frz]; done) | (refine ⟨_, rfl, Eq.symm ?_⟩; simp -implicitDefEqProofs (maxSteps := 2000000) only [go_sem, rels_frz]; rfl)) (by simp -implicitDefEqProofs (maxSteps := 2000000) only [go_sem, rels_frz] <;> and_intros <;> first | rfl | exact List.mem_singleton_self _ | decide | (refine ⟨_, rfl, Eq.symm ?_⟩; simp -implicitDefEqProofs (maxSteps := 2000000) only [go_sem, rels_frz]; done) | (refine ⟨_, rfl, Eq.symm ?_⟩; simp -implicitDefEqProofs (maxSteps := 2000000) only [go_sem, rels_frz]; rfl)) (by simp -implicitDefEqProofs (maxSteps := 2000000) only [go_sem, rels_frz] <;> and_intros <;> rfl) (by rfl)) ?_
    refine bwp_awp mixed (by kernel_rfl) ?_
    simp -implicitDefEqProofs (maxSteps := 2000000) only [go_sem]
    and_intros <;> rfl
end Go.Proofs.YtedciihjgbkjgabGreatDoor.A


/- CONSTRAINTS DRAWN; databases from a code. Conditions: none. -/
namespace Go.Proofs.YtedciihjgbkjgabGreatDoor.A
open Go
set_option linter.unusedSimpArgs false
set_option linter.unusedVariables false
set_option maxRecDepth 100000

theorem l9Deny_ex (c : Cur) (hc : c.ok) : ∃ (x : Den) (c' : Cur), c'.ok ∧ Sat Tryz.prog 72 [lCur c] [lDen x] [lCur c'] := by
  have k1 := byC_ok hc
  have k2 := byC_ok k1
  have k3 := byC_ok k2
  have k4 := byC_ok k3
  have k5 := byC_ok k4
  have k6 := byC_ok k5
  have k7 := byC_ok k6
  have s0 := l1Below_sat c 3 hc (by decide) (by decide)
  have s1 := l1Below_sat (byC c) 3 k1 (by decide) (by decide)
  have s2 := l1Below_sat (byC (byC c)) 2 k2 (by decide) (by decide)
  have s3 := l1Below_sat (byC (byC (byC c))) 2 k3 (by decide) (by decide)
  have s4 := l1Below_sat (byC (byC (byC (byC c)))) 2 k4 (by decide) (by decide)
  have s5 := l1Below_sat (byC (byC (byC (byC (byC c))))) 2 k5 (by decide) (by decide)
  have s6 := l1Below_sat (byC (byC (byC (byC (byC (byC c)))))) 2 k6 (by decide) (by decide)
  have b6 := beV_lt (byC (byC (byC (byC (byC (byC c)))))) (n := 2) (by decide)
  generalize beV c 3 = v0 at s0
  generalize beV (byC c) 3 = v1 at s1
  generalize beV (byC (byC c)) 2 = v2 at s2
  generalize beV (byC (byC (byC c))) 2 = v3 at s3
  generalize beV (byC (byC (byC (byC c)))) 2 = v4 at s4
  generalize beV (byC (byC (byC (byC (byC c))))) 2 = v5 at s5
  generalize beV (byC (byC (byC (byC (byC (byC c)))))) 2 = v6 at s6 b6
  generalize byC c = c1 at s0 s1 s2 s3 s4 s5 s6 k1 k2 k3 k4 k5 k6 k7
  generalize byC c1 = c2 at s1 s2 s3 s4 s5 s6 k2 k3 k4 k5 k6 k7
  generalize byC c2 = c3 at s2 s3 s4 s5 s6 k3 k4 k5 k6 k7
  generalize byC c3 = c4 at s3 s4 s5 s6 k4 k5 k6 k7
  generalize byC c4 = c5 at s4 s5 s6 k5 k6 k7
  generalize byC c5 = c6 at s5 s6 k6 k7
  generalize byC c6 = c7 at s6 k7
  have w6 : IntKind.i64.wrap (1 + ((v6 : Nat) : Int)) = 1 + ((v6 : Nat) : Int) := IntWalk.i64_in _ (by omega)
  have ht := beV_lt c7 (n := 14) (by decide)
  have k8 := byC_ok k7
  have s7 := l1Below_sat c7 14 k7 (by decide) (by decide)
  generalize beV c7 14 = t at ht s7
  generalize byC c7 = c8 at s7 k8
  by_cases t0 : t = 0
  · have d0 : (((t : Nat) : Int) == 0) = true := by rw [t0]; rfl
    have eL : ((List.replicate 2 (0 : Int)).set 0 (-1)).set 1 2 = [-1, 2] := rfl
    refine ⟨⟨v0, v1, ([-1, 2] : List Int).getD (beV c8 2) 0, v3, v4, v5, 1 + ((v6 : Nat) : Int)⟩, byC c8, byC_ok k8, ?_⟩
    refine sat_of_body mixed Tryz.func72 rfl (by kernel_rfl) (by kernel_rfl) (rs := [.cell 2 38]) rfl rfl rfl ?_
    simp -implicitDefEqProofs (maxSteps := 2000000) only [go_sem]
    refine call_of (s0) (by simp -implicitDefEqProofs (maxSteps := 2000000) only [go_sem] <;> and_intros <;> rfl) (by kernel_rfl) (by simp -implicitDefEqProofs (maxSteps := 2000000) only [go_sem]) ?_
    simp -implicitDefEqProofs (maxSteps := 2000000) only [go_sem]
    refine call_of (s1) (by simp -implicitDefEqProofs (maxSteps := 2000000) only [go_sem] <;> and_intros <;> rfl) (by kernel_rfl) (by simp -implicitDefEqProofs (maxSteps := 2000000) only [go_sem]) ?_
    simp -implicitDefEqProofs (maxSteps := 2000000) only [go_sem]
    refine call_of (s2) (by simp -implicitDefEqProofs (maxSteps := 2000000) only [go_sem] <;> and_intros <;> rfl) (by kernel_rfl) (by simp -implicitDefEqProofs (maxSteps := 2000000) only [go_sem]) ?_
    simp -implicitDefEqProofs (maxSteps := 2000000) only [go_sem]
    refine call_of (s3) (by simp -implicitDefEqProofs (maxSteps := 2000000) only [go_sem] <;> and_intros <;> rfl) (by kernel_rfl) (by simp -implicitDefEqProofs (maxSteps := 2000000) only [go_sem]) ?_
    simp -implicitDefEqProofs (maxSteps := 2000000) only [go_sem]
    refine call_of (s4) (by simp -implicitDefEqProofs (maxSteps := 2000000) only [go_sem] <;> and_intros <;> rfl) (by kernel_rfl) (by simp -implicitDefEqProofs (maxSteps := 2000000) only [go_sem]) ?_
    simp -implicitDefEqProofs (maxSteps := 2000000) only [go_sem]
    refine call_of (s5) (by simp -implicitDefEqProofs (maxSteps := 2000000) only [go_sem] <;> and_intros <;> rfl) (by kernel_rfl) (by simp -implicitDefEqProofs (maxSteps := 2000000) only [go_sem]) ?_
    simp -implicitDefEqProofs (maxSteps := 2000000) only [go_sem]
    refine call_of (s6) (by simp -implicitDefEqProofs (maxSteps := 2000000) only [go_sem, w6] <;> and_intros <;> rfl) (by kernel_rfl) (by simp -implicitDefEqProofs (maxSteps := 2000000) only [go_sem, w6]) ?_
    simp -implicitDefEqProofs (maxSteps := 2000000) only [go_sem, w6]
    refine call_of (s7) (by simp -implicitDefEqProofs (maxSteps := 2000000) only [go_sem, d0] <;> and_intros <;> rfl) (by kernel_rfl) (by simp -implicitDefEqProofs (maxSteps := 2000000) only [go_sem, d0]) ?_
    simp -implicitDefEqProofs (maxSteps := 2000000) only [go_sem, d0]
    refine call_of (l1PickInt_own c8 [-1, 2] k8 (by decide) (by decide)) (by simp -implicitDefEqProofs (maxSteps := 2000000) only [go_sem, eL]) (by kernel_rfl) (by simp -implicitDefEqProofs (maxSteps := 2000000) only [go_sem, eL]) ?_
    simp -implicitDefEqProofs (maxSteps := 2000000) only [go_sem, eL]
    and_intros <;> rfl
  have d0 : (((t : Nat) : Int) == 0) = false := by rw [beq_eq_false_iff_ne]; omega
  by_cases t1 : t = 1
  · have d1 : (((t : Nat) : Int) == 1) = true := by rw [t1]; rfl
    have eL : ((List.replicate 2 (0 : Int)).set 0 0).set 1 3 = [0, 3] := rfl
    refine ⟨⟨v0, v1, v2, v3, v4, v5, ([0, 3] : List Int).getD (beV c8 2) 0⟩, byC c8, byC_ok k8, ?_⟩
    refine sat_of_body mixed Tryz.func72 rfl (by kernel_rfl) (by kernel_rfl) (rs := [.cell 2 38]) rfl rfl rfl ?_
    simp -implicitDefEqProofs (maxSteps := 2000000) only [go_sem]
    refine call_of (s0) (by simp -implicitDefEqProofs (maxSteps := 2000000) only [go_sem] <;> and_intros <;> rfl) (by kernel_rfl) (by simp -implicitDefEqProofs (maxSteps := 2000000) only [go_sem]) ?_
    simp -implicitDefEqProofs (maxSteps := 2000000) only [go_sem]
    refine call_of (s1) (by simp -implicitDefEqProofs (maxSteps := 2000000) only [go_sem] <;> and_intros <;> rfl) (by kernel_rfl) (by simp -implicitDefEqProofs (maxSteps := 2000000) only [go_sem]) ?_
    simp -implicitDefEqProofs (maxSteps := 2000000) only [go_sem]
    refine call_of (s2) (by simp -implicitDefEqProofs (maxSteps := 2000000) only [go_sem] <;> and_intros <;> rfl) (by kernel_rfl) (by simp -implicitDefEqProofs (maxSteps := 2000000) only [go_sem]) ?_
    simp -implicitDefEqProofs (maxSteps := 2000000) only [go_sem]
    refine call_of (s3) (by simp -implicitDefEqProofs (maxSteps := 2000000) only [go_sem] <;> and_intros <;> rfl) (by kernel_rfl) (by simp -implicitDefEqProofs (maxSteps := 2000000) only [go_sem]) ?_
    simp -implicitDefEqProofs (maxSteps := 2000000) only [go_sem]
    refine call_of (s4) (by simp -implicitDefEqProofs (maxSteps := 2000000) only [go_sem] <;> and_intros <;> rfl) (by kernel_rfl) (by simp -implicitDefEqProofs (maxSteps := 2000000) only [go_sem]) ?_
    simp -implicitDefEqProofs (maxSteps := 2000000) only [go_sem]
    refine call_of (s5) (by simp -implicitDefEqProofs (maxSteps := 2000000) only [go_sem] <;> and_intros <;> rfl) (by kernel_rfl) (by simp -implicitDefEqProofs (maxSteps := 2000000) only [go_sem]) ?_
    simp -implicitDefEqProofs (maxSteps := 2000000) only [go_sem]
    refine call_of (s6) (by simp -implicitDefEqProofs (maxSteps := 2000000) only [go_sem, w6] <;> and_intros <;> rfl) (by kernel_rfl) (by simp -implicitDefEqProofs (maxSteps := 2000000) only [go_sem, w6]) ?_
    simp -implicitDefEqProofs (maxSteps := 2000000) only [go_sem, w6]
    refine call_of (s7) (by simp -implicitDefEqProofs (maxSteps := 2000000) only [go_sem, d0, d1] <;> and_intros <;> rfl) (by kernel_rfl) (by simp -implicitDefEqProofs (maxSteps := 2000000) only [go_sem, d0, d1]) ?_
    simp -implicitDefEqProofs (maxSteps := 2000000) only [go_sem, d0, d1]
    refine call_of (l1PickInt_own c8 [0, 3] k8 (by decide) (by decide)) (by simp -implicitDefEqProofs (maxSteps := 2000000) only [go_sem, eL]) (by kernel_rfl) (by simp -implicitDefEqProofs (maxSteps := 2000000) only [go_sem, eL]) ?_
    simp -implicitDefEqProofs (maxSteps := 2000000) only [go_sem, eL]
    and_intros <;> rfl
  have d1 : (((t : Nat) : Int) == 1) = false := by rw [beq_eq_false_iff_ne]; omega
  by_cases t2 : t = 2
  · have d2 : (((t : Nat) : Int) == 2) = true := by rw [t2]; rfl
    have b8 := beV_lt c8 (n := 6) (by decide)
    have w8 : IntKind.i64.wrap (((beV c8 6 : Nat) : Int) - 1) = ((beV c8 6 : Nat) : Int) - 1 := IntWalk.i64_in _ (by omega)
    refine ⟨⟨v0, ((beV c8 6 : Nat) : Int) - 1, v2, v3, v4, v5, 1 + ((v6 : Nat) : Int)⟩, byC c8, byC_ok k8, ?_⟩
    refine sat_of_body mixed Tryz.func72 rfl (by kernel_rfl) (by kernel_rfl) (rs := [.cell 2 38]) rfl rfl rfl ?_
    simp -implicitDefEqProofs (maxSteps := 2000000) only [go_sem]
    refine call_of (s0) (by simp -implicitDefEqProofs (maxSteps := 2000000) only [go_sem] <;> and_intros <;> rfl) (by kernel_rfl) (by simp -implicitDefEqProofs (maxSteps := 2000000) only [go_sem]) ?_
    simp -implicitDefEqProofs (maxSteps := 2000000) only [go_sem]
    refine call_of (s1) (by simp -implicitDefEqProofs (maxSteps := 2000000) only [go_sem] <;> and_intros <;> rfl) (by kernel_rfl) (by simp -implicitDefEqProofs (maxSteps := 2000000) only [go_sem]) ?_
    simp -implicitDefEqProofs (maxSteps := 2000000) only [go_sem]
    refine call_of (s2) (by simp -implicitDefEqProofs (maxSteps := 2000000) only [go_sem] <;> and_intros <;> rfl) (by kernel_rfl) (by simp -implicitDefEqProofs (maxSteps := 2000000) only [go_sem]) ?_
    simp -implicitDefEqProofs (maxSteps := 2000000) only [go_sem]
    refine call_of (s3) (by simp -implicitDefEqProofs (maxSteps := 2000000) only [go_sem] <;> and_intros <;> rfl) (by kernel_rfl) (by simp -implicitDefEqProofs (maxSteps := 2000000) only [go_sem]) ?_
    simp -implicitDefEqProofs (maxSteps := 2000000) only [go_sem]
    refine call_of (s4) (by simp -implicitDefEqProofs (maxSteps := 2000000) only [go_sem] <;> and_intros <;> rfl) (by kernel_rfl) (by simp -implicitDefEqProofs (maxSteps := 2000000) only [go_sem]) ?_
    simp -implicitDefEqProofs (maxSteps := 2000000) only [go_sem]
    refine call_of (s5) (by simp -implicitDefEqProofs (maxSteps := 2000000) only [go_sem] <;> and_intros <;> rfl) (by kernel_rfl) (by simp -implicitDefEqProofs (maxSteps := 2000000) only [go_sem]) ?_
    simp -implicitDefEqProofs (maxSteps := 2000000) only [go_sem]
    refine call_of (s6) (by simp -implicitDefEqProofs (maxSteps := 2000000) only [go_sem, w6] <;> and_intros <;> rfl) (by kernel_rfl) (by simp -implicitDefEqProofs (maxSteps := 2000000) only [go_sem, w6]) ?_
    simp -implicitDefEqProofs (maxSteps := 2000000) only [go_sem, w6]
    refine call_of (s7) (by simp -implicitDefEqProofs (maxSteps := 2000000) only [go_sem, d0, d1, d2] <;> and_intros <;> rfl) (by kernel_rfl) (by simp -implicitDefEqProofs (maxSteps := 2000000) only [go_sem, d0, d1, d2]) ?_
    simp -implicitDefEqProofs (maxSteps := 2000000) only [go_sem, d0, d1, d2]
    refine call_of (l1Below_sat c8 6 k8 (by decide) (by decide)) (by simp -implicitDefEqProofs (maxSteps := 2000000) only [go_sem, w8] <;> and_intros <;> rfl) (by kernel_rfl) (by simp -implicitDefEqProofs (maxSteps := 2000000) only [go_sem, w8]) ?_
    simp -implicitDefEqProofs (maxSteps := 2000000) only [go_sem, w8]
    and_intros <;> rfl
  · have d2 : (((t : Nat) : Int) == 2) = false := by rw [beq_eq_false_iff_ne]; omega
    refine ⟨⟨v0, v1, v2, v3, v4, v5, 1 + ((v6 : Nat) : Int)⟩, c8, k8, ?_⟩
    refine sat_of_body mixed Tryz.func72 rfl (by kernel_rfl) (by kernel_rfl) (rs := [.cell 2 38]) rfl rfl rfl ?_
    simp -implicitDefEqProofs (maxSteps := 2000000) only [go_sem]
    refine call_of (s0) (by simp -implicitDefEqProofs (maxSteps := 2000000) only [go_sem] <;> and_intros <;> rfl) (by kernel_rfl) (by simp -implicitDefEqProofs (maxSteps := 2000000) only [go_sem]) ?_
    simp -implicitDefEqProofs (maxSteps := 2000000) only [go_sem]
    refine call_of (s1) (by simp -implicitDefEqProofs (maxSteps := 2000000) only [go_sem] <;> and_intros <;> rfl) (by kernel_rfl) (by simp -implicitDefEqProofs (maxSteps := 2000000) only [go_sem]) ?_
    simp -implicitDefEqProofs (maxSteps := 2000000) only [go_sem]
    refine call_of (s2) (by simp -implicitDefEqProofs (maxSteps := 2000000) only [go_sem] <;> and_intros <;> rfl) (by kernel_rfl) (by simp -implicitDefEqProofs (maxSteps := 2000000) only [go_sem]) ?_
    simp -implicitDefEqProofs (maxSteps := 2000000) only [go_sem]
    refine call_of (s3) (by simp -implicitDefEqProofs (maxSteps := 2000000) only [go_sem] <;> and_intros <;> rfl) (by kernel_rfl) (by simp -implicitDefEqProofs (maxSteps := 2000000) only [go_sem]) ?_
    simp -implicitDefEqProofs (maxSteps := 2000000) only [go_sem]
    refine call_of (s4) (by simp -implicitDefEqProofs (maxSteps := 2000000) only [go_sem] <;> and_intros <;> rfl) (by kernel_rfl) (by simp -implicitDefEqProofs (maxSteps := 2000000) only [go_sem]) ?_
    simp -implicitDefEqProofs (maxSteps := 2000000) only [go_sem]
    refine call_of (s5) (by simp -implicitDefEqProofs (maxSteps := 2000000) only [go_sem] <;> and_intros <;> rfl) (by kernel_rfl) (by simp -implicitDefEqProofs (maxSteps := 2000000) only [go_sem]) ?_
    simp -implicitDefEqProofs (maxSteps := 2000000) only [go_sem]
    refine call_of (s6) (by simp -implicitDefEqProofs (maxSteps := 2000000) only [go_sem, w6] <;> and_intros <;> rfl) (by kernel_rfl) (by simp -implicitDefEqProofs (maxSteps := 2000000) only [go_sem, w6]) ?_
    simp -implicitDefEqProofs (maxSteps := 2000000) only [go_sem, w6]
    refine call_of (s7) (by simp -implicitDefEqProofs (maxSteps := 2000000) only [go_sem, d0, d1, d2] <;> and_intros <;> rfl) (by kernel_rfl) (by simp -implicitDefEqProofs (maxSteps := 2000000) only [go_sem, d0, d1, d2]) ?_
    simp -implicitDefEqProofs (maxSteps := 2000000) only [go_sem, d0, d1, d2]
    and_intros <;> rfl
end Go.Proofs.YtedciihjgbkjgabGreatDoor.A


/- CONSTRAINTS DRAWN, a list of them. Conditions: none. -/
namespace Go.Proofs.YtedciihjgbkjgabGreatDoor.A
open Go
set_option linter.unusedSimpArgs false
set_option linter.unusedVariables false
set_option maxRecDepth 100000
theorem repDn {α : Type} (a : α) : List.replicate 1 a = [a] := rfl
theorem dens_one (x : Den) : ([⟨x.fr, x.sr, x.fj, x.sj, x.fc, x.sc, x.cp⟩] : List Den) = [x] := rfl
theorem dens_append (a b : List Den) : dens a ++ dens b = dens (a ++ b) := by simp [dens]
attribute [go_sem] dens_append
theorem dens_nil : dens [] = [] := rfl
set_option maxHeartbeats 4000000 in
theorem l9List_ex (c : Cur) (hc : c.ok) : ∃ (l : List Den) (c' : Cur), l.length ≤ 2 ∧ c'.ok ∧ Sat Tryz.prog 28 [lCur c] [oDens l] [lCur c'] := by
  have k1 := byC_ok hc
  have b1 := beV_lt c (n := 3) (by decide)
  have s0 := l1Below_sat c 3 hc (by decide) (by decide)
  generalize beV c 3 = N at b1 s0
  generalize byC c = c1 at k1 s0
  obtain ⟨s, z0, hs⟩ := seqOf (α := List Den × Cur) (fun k x => x.1.length = k ∧ x.2.ok)
    (fun a b => ∃ y : Den, b.1 = a.1 ++ [y] ∧ Sat Tryz.prog 72 [lCur a.2] [lDen y] [lCur b.2]) ([], c1) ⟨rfl, k1⟩ (by
      rintro k ⟨l, c2⟩ ⟨h1, h2⟩
      obtain ⟨y, c3, h3, h4⟩ := l9Deny_ex c2 h2
      exact ⟨(l ++ [y], c3), ⟨by simpa using h1, h3⟩, y, rfl, h4⟩)
  obtain ⟨⟨g1', g2'⟩, -⟩ := hs N
  have z1 : (s 0).1 = [] := by rw [z0]
  have z2 : (s 0).2 = c1 := by rw [z0]
  refine ⟨(s N).1, (s N).2, by omega, g2', ?_⟩
  refine sat_of_body mixed Tryz.func28 rfl (by kernel_rfl) (by kernel_rfl) (rs := [.tmp 2]) rfl rfl rfl ?_
  simp -implicitDefEqProofs (maxSteps := 2000000) only [go_sem]
  refine call_of (s0) (by simp -implicitDefEqProofs (maxSteps := 2000000) only [go_sem] <;> and_intros <;> rfl) (by kernel_rfl) (by simp -implicitDefEqProofs (maxSteps := 2000000) only [go_sem]) ?_
  simp -implicitDefEqProofs (maxSteps := 2000000) only [go_sem]
  refine awp_loop Nat (fun j => mkSt [(0, .one (.vad 0 0)), (3, .one (.ref 960 7 0 (s j).1.length)), (4, .sc (.int .i64 ((N : Int) - (j : Int))))] [(0, sCur (s j).2)] [(960, (7, dens (s j).1))] 4000)
    (fun j => j ≤ N) (fun j => N - j) 0 (by omega) (le_st' _ _ [⟨960, some _, false, 7, _⟩] [] _ (by simp -implicitDefEqProofs (maxSteps := 2000000) only [go_sem, z1, z2, dens_nil, List.length_nil, Int.sub_zero, Int.natCast_zero] <;> and_intros <;> rfl) (by simp -implicitDefEqProofs (maxSteps := 2000000) only [go_sem, z1, z2, dens_nil, List.length_nil, Int.sub_zero, Int.natCast_zero] <;> and_intros <;> rfl) (by simp -implicitDefEqProofs (maxSteps := 2000000) only [go_sem, z1, z2, dens_nil, List.length_nil, Int.sub_zero, Int.natCast_zero] <;> and_intros <;> rfl) (by rfl)) ?_
  rintro j h4
  obtain ⟨⟨b3, b4⟩, y, b5, b6⟩ := hs j
  by_cases c2 : j < N
  · have d1 : decide ((N : Int) - (j : Int) > 0) = true := decide_eq_true (by omega)
    have wj : IntKind.i64.wrap ((N : Int) - (j : Int) - 1) = (N : Int) - ((j + 1 : Nat) : Int) := by rw [IntWalk.i64_in _ (by omega)]; omega
    simp -implicitDefEqProofs (maxSteps := 2000000) only [go_sem, d1]
    refine call_of (b6) ?_ ?_ ?_ ?_
    · simp -implicitDefEqProofs (maxSteps := 2000000) only [go_sem]
    · kernel_rfl
    · simp -implicitDefEqProofs (maxSteps := 2000000) only [go_sem]
    simp -implicitDefEqProofs (maxSteps := 2000000) only [go_sem]
    repeat (refine And.intro (by omega) ?_)
    rw [wj]
    exact ⟨j + 1, c2, by omega, (le_st' _ _ [⟨960, some _, false, 7, _⟩] [] _ (by simp -implicitDefEqProofs (maxSteps := 2000000) only [go_sem, b5, repDn, List.set_cons_zero, dens_one] <;> and_intros <;> rfl) (by simp -implicitDefEqProofs (maxSteps := 2000000) only [go_sem, b5, repDn, List.set_cons_zero, dens_one] <;> and_intros <;> rfl) (by simp -implicitDefEqProofs (maxSteps := 2000000) only [go_sem, b5, repDn, List.set_cons_zero, dens_one] <;> and_intros <;> rfl) (by rfl))⟩
  · obtain rfl : j = N := by omega
    have d1 : decide ((j : Int) - (j : Int) > 0) = false := decide_eq_false (by omega)
    simp -implicitDefEqProofs (maxSteps := 2000000) only [go_sem, d1]
    and_intros <;> rfl
theorem drawCE_ex (b : List Int) (h : b.length ≤ 1048576) : ∃ (d : Db) (l : List Den), DbS d 13 ∧ l.length ≤ 2 ∧ Sat Tryz.prog 6 [lBys b] [lDb d, oDens l] [g1] := by
  obtain ⟨d, c1, h1, h2, s0⟩ := l4Any_ex (curN b) (curN_ok h)
  obtain ⟨l, c2, h3, h4, s1⟩ := l9List_ex c1 h2
  refine ⟨d, l, h1, h3, ?_⟩
  refine sat_of_body mixed Tryz.func6 rfl (by kernel_rfl) (by kernel_rfl) (rs := [.cell 2 27, .tmp 3]) rfl rfl rfl ?_
  simp -implicitDefEqProofs (maxSteps := 2000000) only [go_sem]
  refine call_of (l1New_sat b (by omega)) (by simp -implicitDefEqProofs (maxSteps := 2000000) only [go_sem]) (by kernel_rfl) (by simp -implicitDefEqProofs (maxSteps := 2000000) only [go_sem]) ?_
  simp -implicitDefEqProofs (maxSteps := 2000000) only [go_sem]
  refine call_of (s0) (by simp -implicitDefEqProofs (maxSteps := 2000000) only [go_sem]) (by kernel_rfl) (by simp -implicitDefEqProofs (maxSteps := 2000000) only [go_sem]) ?_
  simp -implicitDefEqProofs (maxSteps := 2000000) only [go_sem]
  refine call_of (s1) ?_ ?_ ?_ ?_
  · simp -implicitDefEqProofs (maxSteps := 2000000) only [go_sem]
  · kernel_rfl
  · simp -implicitDefEqProofs (maxSteps := 2000000) only [go_sem]
  simp -implicitDefEqProofs (maxSteps := 2000000) only [go_sem]
  first | (with_reducible refine tr_and ?_ ?_; focus kernel_rfl) | (with_reducible refine tr_only ?_; kernel_rfl) | skip
  and_intros <;> rfl
end Go.Proofs.YtedciihjgbkjgabGreatDoor.A


/- SORTING BY INSERTION. Conditions: none. -/
namespace Go.Proofs.YtedciihjgbkjgabGreatDoor.A
open Go
set_option linter.unusedSimpArgs false
set_option linter.unusedVariables false
set_option maxRecDepth 100000

def sortI (l : List Int) : List Int := l.mergeSort fun x y => decide (x ≤ y)
theorem sortI_len (l : List Int) : (sortI l).length = l.length := List.length_mergeSort ..
theorem sortI_perm (l : List Int) : (sortI l).Perm l := List.mergeSort_perm l _
theorem sortI_sorted (l : List Int) : (sortI l).Pairwise (· ≤ ·) := by
  have h := List.pairwise_mergeSort (le := fun x y : Int => decide (x ≤ y)) (by intro a b c; simp; omega) (by intro a b; simp; omega) l
  exact h.imp fun h => by simpa using h
theorem sorted_uni {a b : List Int} (ha : a.Pairwise (· ≤ ·)) (hb : b.Pairwise (· ≤ ·)) (hp : a.Perm b) : a = b :=
  List.Perm.eq_of_pairwise (fun x y _ _ h1 h2 => by omega) ha hb hp
def stopAt (out : List Int) (x : Int) : Nat → Nat
  | 0 => 0
  | k + 1 => if decide (out.getD k 0 > x) then stopAt out x k else k + 1
theorem stopAt_le (out : List Int) (x : Int) : ∀ k, stopAt out x k ≤ k
  | 0 => Nat.le_refl _
  | k + 1 => by
    have := stopAt_le out x k
    unfold stopAt
    split <;> omega
theorem stopAt_above (out : List Int) (x : Int) : ∀ (k j : Nat), stopAt out x k ≤ j → j < k → x < out.getD j 0
  | 0, j, _, h => by omega
  | k + 1, j, h1, h2 => by
    unfold stopAt at h1
    split at h1
    · rename_i d
      by_cases e : j = k
      · rw [e]; exact of_decide_eq_true d
      · exact stopAt_above out x k j h1 (by omega)
    · omega
theorem stopAt_at (out : List Int) (x : Int) : ∀ (k j : Nat), stopAt out x k = j + 1 → out.getD j 0 ≤ x
  | 0, j, h => by simp [stopAt] at h
  | k + 1, j, h => by
    unfold stopAt at h
    split at h
    · exact stopAt_at out x k j h
    · rename_i d
      have e : k = j := by omega
      subst e
      have := of_decide_eq_false (by simpa using d : decide (out.getD k 0 > x) = false)
      omega
def insS (out : List Int) (x : Int) : List Int := out.take (stopAt out x out.length) ++ [x] ++ out.drop (stopAt out x out.length)
theorem insS_perm (out : List Int) (x : Int) : (insS out x).Perm (x :: out) := by
  unfold insS
  rw [List.append_assoc, List.singleton_append]
  refine List.perm_middle.trans ?_
  rw [List.take_append_drop]
theorem getD_in {l : List Int} {y : Int} (h : y ∈ l) : ∃ j, j < l.length ∧ l.getD j 0 = y := by
  obtain ⟨j, hj, e⟩ := List.mem_iff_getElem.mp h
  exact ⟨j, hj, by rw [List.getD_eq_getElem?_getD, List.getElem?_eq_getElem hj]; exact e⟩
theorem sorted_at {l : List Int} (h : l.Pairwise (· ≤ ·)) {i j : Nat} (hij : i ≤ j) (hj : j < l.length) : l.getD i 0 ≤ l.getD j 0 := by
  rw [List.getD_eq_getElem?_getD, List.getD_eq_getElem?_getD, List.getElem?_eq_getElem hj, List.getElem?_eq_getElem (by omega)]
  by_cases e : i = j
  · subst e; exact Int.le_refl _
  · exact List.pairwise_iff_getElem.mp h i j (by omega) hj (by omega)
theorem insS_sorted {out : List Int} (h : out.Pairwise (· ≤ ·)) (x : Int) : (insS out x).Pairwise (· ≤ ·) := by
  have hle := stopAt_le out x out.length
  have lo : ∀ y ∈ out.take (stopAt out x out.length), y ≤ x := by
    intro y hy
    obtain ⟨j, hj, rfl⟩ := getD_in hy
    rw [List.length_take] at hj
    obtain ⟨k, hk⟩ : ∃ k, stopAt out x out.length = k + 1 := ⟨stopAt out x out.length - 1, by omega⟩
    have h1 := stopAt_at out x _ k hk
    have h2 := sorted_at h (i := j) (j := k) (by omega) (by omega)
    rw [List.getD_eq_getElem?_getD, List.getElem?_take_of_lt (by omega), ← List.getD_eq_getElem?_getD]
    omega
  have hi : ∀ y ∈ out.drop (stopAt out x out.length), x ≤ y := by
    intro y hy
    obtain ⟨j, hj, rfl⟩ := getD_in hy
    rw [List.length_drop] at hj
    have := stopAt_above out x out.length (stopAt out x out.length + j) (by omega) (by omega)
    rw [List.getD_eq_getElem?_getD, List.getElem?_drop, ← List.getD_eq_getElem?_getD]
    omega
  unfold insS
  rw [List.append_assoc, List.singleton_append, List.pairwise_append]
  refine ⟨List.Pairwise.sublist (List.take_sublist _ _) h, List.pairwise_cons.mpr ⟨hi, List.Pairwise.sublist (List.drop_sublist _ _) h⟩, fun a ha b hb => ?_⟩
  rcases List.mem_cons.mp hb with rfl | hb
  · exact lo a ha
  · exact Int.le_trans (lo a ha) (hi b hb)
def insAll (l : List Int) : Nat → List Int
  | 0 => []
  | k + 1 => insS (insAll l k) (l.getD k 0)
theorem insAll_facts (l : List Int) : ∀ k, k ≤ l.length → (insAll l k).Pairwise (· ≤ ·) ∧ (insAll l k).Perm (l.take k)
  | 0, _ => ⟨List.Pairwise.nil, by simp [insAll]⟩
  | k + 1, h => by
    obtain ⟨h1, h2⟩ := insAll_facts l k (by omega)
    refine ⟨insS_sorted h1 _, (insS_perm _ _).trans ?_⟩
    rw [take_snoc 0 (by omega : k < l.length)]
    exact (List.Perm.cons _ h2).trans (List.perm_append_singleton _ _).symm
theorem insAll_len (l : List Int) {k : Nat} (h : k ≤ l.length) : (insAll l k).length = k := by
  rw [(insAll_facts l k h).2.length_eq, List.length_take]; omega
theorem insAll_eq (l : List Int) : insAll l l.length = sortI l := by
  obtain ⟨h1, h2⟩ := insAll_facts l l.length (Nat.le_refl _)
  rw [List.take_length] at h2
  exact sorted_uni h1 (sortI_sorted l) (h2.trans (sortI_perm l).symm)
end Go.Proofs.YtedciihjgbkjgabGreatDoor.A


/- BLOCKS: the plain law. Conditions: none. (No program in sight.) -/
namespace Go.Proofs.YtedciihjgbkjgabGreatDoor.A
open Go
set_option linter.unusedSimpArgs false
set_option linter.unusedVariables false

/-- A relation of equal keys over sorted facts. -/
structure Eqv (S : Nat → Nat → Bool) (n : Nat) : Prop where
  refl : ∀ i, i < n → S i i = true
  symm : ∀ i j, i < n → j < n → S i j = true → S j i = true
  trans : ∀ i j k, i < n → j < n → k < n → S i j = true → S j k = true → S i k = true
  mid : ∀ i j k, i ≤ j → j ≤ k → k < n → S i k = true → S i j = true
def isFst (S : Nat → Nat → Bool) (i : Nat) : Bool := (List.range i).all fun j => !S j i
def clsOf (S : Nat → Nat → Bool) (i k : Nat) : List Nat := (List.range k).filter (S i)
def fsts (S : Nat → Nat → Bool) (k : Nat) : List Nat := (List.range k).filter (isFst S)
def blkN (S : Nat → Nat → Bool) (k : Nat) : List (List Nat) := (fsts S k).map fun i => clsOf S i k
def castL (l : List Nat) : List Int := l.map fun (i : Nat) => (i : Int)
def blk (S : Nat → Nat → Bool) (k : Nat) : List (List Int) := (blkN S k).map castL
section eqv
variable {S : Nat → Nat → Bool} {n : Nat}
theorem isFst_not {i j : Nat} (h : isFst S i = true) (hj : j < i) : S j i = false := by
  unfold isFst at h
  have := List.all_eq_true.mp h j (by simpa using hj)
  simpa using this
theorem isFst_of {i : Nat} (h : ∀ j, j < i → S j i = false) : isFst S i = true := by
  unfold isFst
  rw [List.all_eq_true]
  intro j hj
  rw [h j (by simpa using hj)]; rfl
theorem clsOf_succ (i k : Nat) : clsOf S i (k + 1) = clsOf S i k ++ if S i k then [k] else [] := by
  unfold clsOf
  rw [List.range_succ, List.filter_append]
  congr 1
  rcases h : S i k <;> simp [h]
theorem fsts_succ (k : Nat) : fsts S (k + 1) = fsts S k ++ if isFst S k then [k] else [] := by
  unfold fsts
  rw [List.range_succ, List.filter_append]
  congr 1
  rcases h : isFst S k <;> simp [h]
theorem fsts_mem {i k : Nat} : i ∈ fsts S k ↔ i < k ∧ isFst S i = true := by
  unfold fsts
  rw [List.mem_filter]; simp
theorem clsOf_mem {i j k : Nat} : j ∈ clsOf S i k ↔ j < k ∧ S i j = true := by
  unfold clsOf
  rw [List.mem_filter]; simp
theorem clsOf_fst (E : Eqv S n) {i k : Nat} (hk : k ≤ n) (hi : i < k) (h : isFst S i = true) : ∃ t, clsOf S i k = i :: t := by
  obtain ⟨d, rfl⟩ := Nat.le.dest (show i + 1 ≤ k from hi)
  unfold clsOf
  rw [List.range_add, List.range_succ, List.filter_append, List.filter_append]
  have : (List.range i).filter (S i) = [] := by
    rw [List.filter_eq_nil_iff]
    intro j hj
    have hj : j < i := by simpa using hj
    intro hs
    have := E.symm i j (by omega) (by omega) hs
    rw [isFst_not h hj] at this; cases this
  rw [this]
  simp [E.refl i (by omega)]
/-- A new fact begins a block. -/
theorem blkN_new (E : Eqv S n) {k : Nat} (hk : k < n) (h : isFst S k = true) : blkN S (k + 1) = blkN S k ++ [[k]] := by
  unfold blkN
  rw [fsts_succ, h, if_pos rfl, List.map_append, List.map_singleton]
  congr 1
  · refine List.map_congr_left fun i hi => ?_
    obtain ⟨h1, h2⟩ := fsts_mem.mp hi
    rw [clsOf_succ, isFst_not h h1]; simp
  · rw [clsOf_succ, E.refl k hk, if_pos rfl]
    have : clsOf S k k = [] := by
      unfold clsOf
      rw [List.filter_eq_nil_iff]
      intro j hj
      have hj : j < k := by simpa using hj
      intro hs
      have := E.symm k j hk (by omega) hs
      rw [isFst_not h hj] at this; cases this
    rw [this]; rfl
/-- The least of those that a fact shares its block with. -/
theorem least {p : Nat → Bool} : ∀ {k : Nat}, (∃ j, j < k ∧ p j = true) → ∃ j, j < k ∧ p j = true ∧ ∀ i, i < j → p i = false
  | 0, ⟨j, h, _⟩ => by omega
  | k + 1, ⟨j, h1, h2⟩ => by
    by_cases e : ∃ j, j < k ∧ p j = true
    · obtain ⟨j, h3, h4, h5⟩ := least e
      exact ⟨j, by omega, h4, h5⟩
    · have hj : j = k := by
        rcases Nat.lt_or_ge j k with h | h
        · exact absurd ⟨j, h, h2⟩ e
        · omega
      subst hj
      refine ⟨j, by omega, h2, fun i hi => ?_⟩
      rcases hp : p i
      · rfl
      · exact absurd ⟨i, hi, hp⟩ e
/-- A fact joins the last block. -/
theorem blkN_join (E : Eqv S n) {k : Nat} (hk : k < n) (h : isFst S k = false) : ∃ (L : List (List Nat)) (i : Nat) (t : List Nat), blkN S k = L ++ [i :: t] ∧ S i k = true ∧ i < k ∧ blkN S (k + 1) = L ++ [(i :: t) ++ [k]] := by
  have hex : ∃ j, j < k ∧ S j k = true := by
    refine Classical.byContradiction fun hn => ?_
    rw [isFst_of (fun j hj => by
      rcases e : S j k
      · rfl
      · exact absurd ⟨j, hj, e⟩ hn)] at h
    cases h
  obtain ⟨i, h1, h2, h3⟩ := least hex
  have hfi : isFst S i = true := isFst_of fun j hj => by
    rcases e : S j i
    · rfl
    · have := E.trans j i k (by omega) (by omega) hk e h2
      rw [h3 j hj] at this; cases this
  have hfs : fsts S k = fsts S i ++ [i] := by
    obtain ⟨d, rfl⟩ := Nat.le.dest (show i + 1 ≤ k from h1)
    unfold fsts
    rw [List.range_add, List.filter_append, List.range_succ, List.filter_append]
    have e1 : List.filter (isFst S) [i] = [i] := by simp [hfi]
    have e2 : List.filter (isFst S) ((List.range d).map (i + 1 + ·)) = [] := by
      rw [List.filter_eq_nil_iff]
      intro j hj
      obtain ⟨m, hm, rfl⟩ := List.mem_map.mp hj
      have hm : m < d := by simpa using hm
      intro hf
      have := E.mid i (i + 1 + m) (i + 1 + d) (by omega) (by omega) hk h2
      rw [isFst_not hf (by omega)] at this; cases this
    rw [e1, e2, List.append_nil]
  obtain ⟨t, ht⟩ := clsOf_fst E (k := k) (by omega) h1 hfi
  refine ⟨(fsts S i).map (fun j => clsOf S j k), i, t, ?_, h2, h1, ?_⟩
  · unfold blkN
    rw [hfs, List.map_append, List.map_singleton, ht]
  · unfold blkN
    rw [fsts_succ, h, hfs]
    simp only [Bool.false_eq_true, if_false, List.append_nil, List.map_append, List.map_singleton]
    rw [clsOf_succ i k, h2, if_pos rfl, ht]
    congr 1
    refine List.map_congr_left fun j hj => ?_
    obtain ⟨g1, g2⟩ := fsts_mem.mp hj
    rw [clsOf_succ]
    rcases e : S j k
    · simp
    · have := E.trans j k i (by omega) hk (by omega) e (E.symm i k (by omega) hk h2)
      rw [isFst_not hfi g1] at this; cases this
theorem blk_new (E : Eqv S n) {k : Nat} (hk : k < n) (h : isFst S k = true) : blk S (k + 1) = blk S k ++ [[(k : Int)]] := by
  unfold blk
  rw [blkN_new E hk h]; simp [castL]
theorem blk_join (E : Eqv S n) {k : Nat} (hk : k < n) (h : isFst S k = false) : ∃ (L : List (List Int)) (i : Nat) (t : List Int), blk S k = L ++ [(i : Int) :: t] ∧ S i k = true ∧ i < k ∧ blk S (k + 1) = L ++ [(((i : Int) :: t) ++ [(k : Int)])] := by
  obtain ⟨L, i, t, h1, h2, h3, h4⟩ := blkN_join E hk h
  refine ⟨L.map castL, i, castL t, ?_, h2, h3, ?_⟩
  · unfold blk; rw [h1]; simp [castL]
  · unfold blk; rw [h4]; simp [castL]
/-- The last block of what there is, where a new one begins. -/
theorem blk_last (E : Eqv S n) {k : Nat} (hk : k < n) (h : isFst S k = true) {L : List (List Int)} {b : List Int} (e : blk S k = L ++ [b]) : ∃ (i : Nat) (t : List Int), b = (i : Int) :: t ∧ i < k ∧ S i k = false := by
  have hb : b ∈ blk S k := by rw [e]; simp
  unfold blk at hb
  obtain ⟨c, hc, rfl⟩ := List.mem_map.mp hb
  unfold blkN at hc
  obtain ⟨i, hi, rfl⟩ := List.mem_map.mp hc
  obtain ⟨h1, h2⟩ := fsts_mem.mp hi
  obtain ⟨t, ht⟩ := clsOf_fst E (k := k) (by omega) h1 h2
  exact ⟨i, castL t, by rw [ht]; rfl, h1, isFst_not h h1⟩
theorem blk_zero : blk S 0 = [] := rfl
theorem blk_sum (E : Eqv S n) : ∀ {k : Nat}, k ≤ n → ((blk S k).map List.length).sum = k
  | 0, _ => rfl
  | k + 1, hk => by
    have ih := blk_sum E (k := k) (by omega)
    rcases h : isFst S k
    · obtain ⟨L, i, t, h1, _, _, h4⟩ := blk_join E (k := k) (by omega) h
      rw [h4]
      rw [h1] at ih
      simp at ih ⊢
      omega
    · rw [blk_new E (by omega) h]
      simp [ih]
theorem blk_ne (E : Eqv S n) {k : Nat} (hk : k ≤ n) : ∀ b ∈ blk S k, 0 < b.length := by
  intro b hb
  unfold blk at hb
  obtain ⟨c, hc, rfl⟩ := List.mem_map.mp hb
  unfold blkN at hc
  obtain ⟨i, hi, rfl⟩ := List.mem_map.mp hc
  obtain ⟨h1, h2⟩ := fsts_mem.mp hi
  obtain ⟨t, ht⟩ := clsOf_fst E hk h1 h2
  rw [ht]; simp [castL]
/-- Blocks lie one behind another. -/
theorem blk_asc (E : Eqv S n) {k : Nat} (hk : k ≤ n) : (blk S k).Pairwise fun a b => ∀ x ∈ a, ∀ y ∈ b, x < y := by
  unfold blk blkN
  rw [List.map_map, List.pairwise_map]
  have hs : (fsts S k).Pairwise (· < ·) := List.Pairwise.filter _ List.pairwise_lt_range
  refine List.Pairwise.imp_of_mem (fun {i j} hi hj hij => ?_) hs
  obtain ⟨a1, a2⟩ := fsts_mem.mp hi
  obtain ⟨b1, b2⟩ := fsts_mem.mp hj
  intro x hx y hy
  obtain ⟨x', hx', rfl⟩ := List.mem_map.mp hx
  obtain ⟨y', hy', rfl⟩ := List.mem_map.mp hy
  obtain ⟨c1, c2⟩ := clsOf_mem.mp hx'
  obtain ⟨d1, d2⟩ := clsOf_mem.mp hy'
  have hjy : j ≤ y' := by
    rcases Nat.lt_or_ge y' j with h | h
    · have := E.symm j y' (by omega) (by omega) d2
      rw [isFst_not b2 h] at this; cases this
    · exact h
  have hno : S i j = false := isFst_not b2 hij
  have : x' < y' := by
    rcases Nat.lt_or_ge x' y' with h | h
    · exact h
    · have := E.mid i j x' (by omega) (by omega) (by omega) c2
      rw [hno] at this; cases this
  omega
end eqv

/-! #### repairs by their rank -/
def prodL : List (List Int) → Nat
  | [] => 1
  | b :: l => b.length * prodL l
theorem prodL_append : ∀ (a b : List (List Int)), prodL (a ++ b) = prodL a * prodL b
  | [], b => by simp [prodL]
  | x :: a, b => by rw [List.cons_append, prodL, prodL, prodL_append a b, Nat.mul_assoc]
theorem lt_two_pow (n : Nat) : n ≤ 2 ^ n := Nat.le_of_lt Nat.lt_two_pow_self
theorem prodL_le : ∀ (l : List (List Int)), prodL l ≤ 2 ^ ((l.map List.length).sum)
  | [] => by simp [prodL]
  | b :: l => by
    rw [prodL, List.map_cons, List.sum_cons, Nat.pow_add]
    exact Nat.mul_le_mul (lt_two_pow _) (prodL_le l)
theorem prodL_pos : ∀ {l : List (List Int)}, (∀ b ∈ l, 0 < b.length) → 0 < prodL l
  | [], _ => by simp [prodL]
  | b :: l, h => by
    rw [prodL]
    exact Nat.mul_pos (h b (by simp)) (prodL_pos fun c hc => h c (by simp [hc]))
def pickR : List (List Int) → Nat → List Int × Nat
  | [], r => ([], r)
  | b :: l, r => (b.getD ((pickR l r).2 % b.length) 0 :: (pickR l r).1, (pickR l r).2 / b.length)
theorem pickR_len : ∀ (l : List (List Int)) (r : Nat), (pickR l r).1.length = l.length
  | [], r => rfl
  | b :: l, r => by rw [pickR, List.length_cons, List.length_cons, pickR_len l r]
theorem pickR_le : ∀ (l : List (List Int)) (r : Nat), (pickR l r).2 ≤ r
  | [], r => Nat.le_refl _
  | b :: l, r => Nat.le_trans (Nat.div_le_self _ _) (pickR_le l r)
theorem pickR_drop {l : List (List Int)} {i : Nat} (h : i < l.length) (r : Nat) : pickR (l.drop i) r = ((l.getD i []).getD ((pickR (l.drop (i + 1)) r).2 % (l.getD i []).length) 0 :: (pickR (l.drop (i + 1)) r).1, (pickR (l.drop (i + 1)) r).2 / (l.getD i []).length) := by
  rw [List.drop_eq_getElem_cons h, pickR]
  simp [List.getD_eq_getElem?_getD, h]
theorem pickR_mem : ∀ {l : List (List Int)} {r : Nat} {x : Int}, (∀ b ∈ l, 0 < b.length) → x ∈ (pickR l r).1 → ∃ b ∈ l, x ∈ b
  | [], r, x, _, h => by cases h
  | b :: l, r, x, hl, h => by
    rw [pickR] at h
    rcases List.mem_cons.mp h with rfl | h
    · exact ⟨b, by simp, by
        have hb := hl b (by simp)
        rw [List.getD_eq_getElem?_getD, List.getElem?_eq_getElem (Nat.mod_lt _ hb)]
        exact List.getElem_mem _⟩
    · obtain ⟨c, hc, hx⟩ := pickR_mem (fun c hc => hl c (by simp [hc])) h
      exact ⟨c, by simp [hc], hx⟩
theorem pickR_asc : ∀ {l : List (List Int)} {r : Nat}, (∀ b ∈ l, 0 < b.length) → (l.Pairwise fun a b => ∀ x ∈ a, ∀ y ∈ b, x < y) → (pickR l r).1.Pairwise (· < ·)
  | [], r, _, _ => List.Pairwise.nil
  | b :: l, r, hl, hp => by
    rw [pickR]
    rw [List.pairwise_cons] at hp ⊢
    refine ⟨fun y hy => ?_, pickR_asc (fun c hc => hl c (by simp [hc])) hp.2⟩
    obtain ⟨c, hc, hyc⟩ := pickR_mem (fun c hc => hl c (by simp [hc])) hy
    refine hp.1 c hc _ ?_ y hyc
    have hb := hl b (by simp)
    rw [List.getD_eq_getElem?_getD, List.getElem?_eq_getElem (Nat.mod_lt _ hb)]
    exact List.getElem_mem _
theorem sort_rev {l : List Int} (h : l.Pairwise (· < ·)) : sortI l.reverse = l :=
  sorted_uni (sortI_sorted _) (h.imp fun h => by omega) ((sortI_perm _).trans (List.reverse_perm l))
end Go.Proofs.YtedciihjgbkjgabGreatDoor.A


/- EMBEDDINGS. Conditions: none. -/
namespace Go.Proofs.YtedciihjgbkjgabGreatDoor.A
open Go
set_option linter.unusedSimpArgs false
set_option linter.unusedVariables false
set_option maxRecDepth 100000

abbrev lEmb (e : Emb) : LV := .agg [.im 1 (ints e.vs), .im 1 (ints e.fs)]
abbrev oEmb (e : Emb) : LV := .agg [.ow 1 (ints e.vs), .ow 1 (ints e.fs)]
def szEmb (e : Emb) (n : Int) : Int := if szl e.vs n < 0 then -1 else if szl e.fs (szl e.vs n) < 0 then -1 else szl e.fs (szl e.vs n)
theorem szEmb_len {e : Emb} {n : Int} (h : -1 ≤ n ∧ n ≤ 1048576) (h0 : ¬ szEmb e n < 0) : e.vs.length ≤ 1048576 ∧ e.fs.length ≤ 1048576 ∧ -1 ≤ szEmb e n ∧ szEmb e n ≤ 1048576 := by
  unfold szEmb at h0 ⊢
  have a1 := szl_le (a := e.vs) h
  split at h0
  · omega
  · rename_i c1
    have a2 := szl_le (a := e.fs) a1
    split at h0
    · omega
    · rename_i c2
      rw [if_neg c1, if_neg c2]
      exact ⟨szl_len h.2 c1, szl_len a1.2 c2, a2⟩
theorem decide_and {p q : Prop} [Decidable p] [Decidable q] (h : p) : decide (p ∧ q) = decide q := by simp [h]
end Go.Proofs.YtedciihjgbkjgabGreatDoor.A


/- LISTS OF EMBEDDINGS: how they lie, comparison, marks. Conditions: none. -/
namespace Go.Proofs.YtedciihjgbkjgabGreatDoor.A
open Go
set_option linter.unusedSimpArgs false
set_option linter.unusedVariables false
set_option maxRecDepth 100000

abbrev lEms (a : List Emb) : LV := .one (.im 2 (ems 0 a))
abbrev oEms (a : List Emb) : LV := .one (.ow 2 (ems 1 a))

def numEm : List Emb → Nat
  | [] => 0
  | a :: l => a.vs.length + a.fs.length + numEm l
def markEm : List Emb → Int → List Emb
  | [], _ => []
  | a :: l, k => ⟨cnt k a.vs.length, cnt (k + a.vs.length) a.fs.length⟩ :: markEm l (k + a.vs.length + a.fs.length)
theorem numEm_nil : numEm [] = 0 := rfl
attribute [go_sem] numEm_nil
theorem markEm_length : ∀ (a : List Emb) (k : Int), (markEm a k).length = a.length
  | [], _ => rfl
  | a :: l, k => by rw [markEm, List.length_cons, List.length_cons, markEm_length]
theorem numEm_take {a : List Emb} {i : Nat} (h : i < a.length) : numEm (a.take (i + 1)) = numEm (a.take i) + (a.getD i default).vs.length + (a.getD i default).fs.length := by
  induction a generalizing i with
  | nil => simp at h
  | cons x a ih =>
    cases i with
    | zero => simp [numEm]
    | succ i =>
      have := ih (i := i) (by simpa using h)
      rw [List.take_succ_cons, List.take_succ_cons, numEm, numEm, this, List.getD_cons_succ]; omega
theorem numEm_le : ∀ {a : List Emb} (i : Nat), numEm (a.take i) ≤ numEm a
  | [], i => by simp [numEm]
  | x :: a, 0 => by simp [numEm]
  | x :: a, i + 1 => by
    rw [List.take_succ_cons, numEm, numEm]
    have := numEm_le (a := a) i
    omega
theorem numEm_small {n m : Nat} : ∀ {a : List Emb}, (∀ x ∈ a, x.vs.length ≤ n ∧ x.fs.length ≤ m) → numEm a ≤ a.length * (n + m)
  | [], _ => by simp [numEm]
  | x :: a, h => by
    have h1 := numEm_small (a := a) fun y hy => h y (List.mem_cons_of_mem _ hy)
    have h2 := h x (List.mem_cons_self ..)
    rw [numEm, List.length_cons, Nat.add_mul]; omega
theorem markEm_get : ∀ {a : List Emb} {k : Int} {i : Nat}, i < a.length → (markEm a k).getD i default = ⟨cnt (k + numEm (a.take i)) (a.getD i default).vs.length, cnt (k + numEm (a.take i) + (a.getD i default).vs.length) (a.getD i default).fs.length⟩
  | x :: a, k, 0, _ => by simp [markEm, numEm]
  | x :: a, k, i + 1, h => by
    rw [markEm, List.getD_cons_succ, markEm_get (by simpa using h), List.getD_cons_succ, List.take_succ_cons, numEm]
    have e : k + (x.vs.length : Int) + (x.fs.length : Int) + (numEm (a.take i) : Int) = k + ((x.vs.length + x.fs.length + numEm (a.take i) : Nat) : Int) := by omega
    rw [e]
theorem markEm_full (a : List Emb) (k : Int) : List.take a.length (markEm a k) = markEm a k := List.take_of_length_le (by rw [markEm_length]; omega)
attribute [go_sem] markEm_full
theorem Emb.eq_iff (a b : Emb) : decide (a = b) = (decide (a.vs = b.vs) && decide (a.fs = b.fs)) := by cases a; cases b; simp
end Go.Proofs.YtedciihjgbkjgabGreatDoor.A


/- QUERIES FOR DATABASES. Conditions: none. -/
namespace Go.Proofs.YtedciihjgbkjgabGreatDoor.A
open Go
set_option linter.unusedSimpArgs false
set_option linter.unusedVariables false
set_option maxRecDepth 100000

def queryFor (d : Db) (q : Qu) : Bool := goodDb d && goodQu d.rels q
end Go.Proofs.YtedciihjgbkjgabGreatDoor.A


/- EMBEDDINGS: the plain search. Conditions: none. (No program in sight.) -/
namespace Go.Proofs.YtedciihjgbkjgabGreatDoor.A
open Go
set_option linter.unusedSimpArgs false
set_option linter.unusedVariables false

def stepU (x : List Int) (t f : Int) : Option (List Int) :=
  if t < 0 then (if -1 - t = f then some x else none)
  else if x.getD t.toNat 0 < 0 then some (x.set t.toNat f)
  else if x.getD t.toNat 0 = f then some x else none
def uniS (ts fs vs : List Int) : Nat → Option (List Int)
  | 0 => some vs
  | k + 1 => (uniS ts fs vs k).bind fun x => stepU x (ts.getD k 0) (fs.getD k 0)
theorem stepU_len {x y : List Int} {t f : Int} (h : stepU x t f = some y) : y.length = x.length := by
  unfold stepU at h
  split at h
  · split at h
    · cases h; rfl
    · cases h
  · split at h
    · cases h; simp
    · split at h
      · cases h; rfl
      · cases h
theorem uniS_len {ts fs vs : List Int} : ∀ {k : Nat} {x : List Int}, uniS ts fs vs k = some x → x.length = vs.length
  | 0, x, h => by cases h; rfl
  | k + 1, x, h => by
    rw [uniS] at h
    rcases e : uniS ts fs vs k with _ | y
    · rw [e] at h; cases h
    · rw [e, Option.bind_some] at h
      rw [stepU_len h, uniS_len e]
theorem uniS_none {ts fs vs : List Int} {k : Nat} (h : uniS ts fs vs k = none) : ∀ d : Nat, uniS ts fs vs (k + d) = none
  | 0 => h
  | d + 1 => by rw [← Nat.add_assoc, uniS, uniS_none h d]; rfl
theorem uniS_stop {ts fs vs : List Int} {k n : Nat} (h : uniS ts fs vs k = none) (hn : k ≤ n) : uniS ts fs vs n = none := by
  obtain ⟨d, rfl⟩ := Nat.le.dest hn
  exact uniS_none h d
theorem uniS_step {ts fs vs x : List Int} {k : Nat} (h : uniS ts fs vs k = some x) : uniS ts fs vs (k + 1) = stepU x (ts.getD k 0) (fs.getD k 0) := by
  rw [uniS, h]; rfl
/-- The last state before the search fell. -/
def uniL (ts fs vs : List Int) : Nat → List Int
  | 0 => vs
  | k + 1 => match uniS ts fs vs (k + 1) with
    | some x => x
    | none => uniL ts fs vs k
theorem uniL_some {ts fs vs x : List Int} : ∀ {k : Nat}, uniS ts fs vs k = some x → uniL ts fs vs k = x
  | 0, h => by cases h; rfl
  | k + 1, h => by rw [uniL, h]
theorem uniL_none {ts fs vs x : List Int} {k : Nat} (h : uniS ts fs vs k = some x) (h2 : uniS ts fs vs (k + 1) = none) : ∀ d : Nat, uniL ts fs vs (k + 1 + d) = x
  | 0 => by
    rw [Nat.add_zero, uniL, h2]
    exact uniL_some h
  | d + 1 => by
    rw [← Nat.add_assoc, uniL, show uniS ts fs vs (k + 1 + d + 1) = none from uniS_none (k := k + 1) h2 (d + 1)]
    exact uniL_none h h2 d
theorem uniL_stop {ts fs vs x : List Int} {k n : Nat} (h : uniS ts fs vs k = some x) (h2 : uniS ts fs vs (k + 1) = none) (hn : k < n) : uniL ts fs vs n = x := by
  obtain ⟨d, rfl⟩ := Nat.le.dest (show k + 1 ≤ n from hn)
  exact uniL_none h h2 d
def meet (a f : RI) (vs : List Int) : Option (List Int) := if f.r = a.r then uniS a.l f.l vs a.l.length else none
def meetV (a f : RI) (vs : List Int) : List Int := if f.r = a.r then uniL a.l f.l vs a.l.length else vs
theorem meet_len {a f : RI} {vs x : List Int} (h : meet a f vs = some x) : x.length = vs.length := by
  unfold meet at h
  split at h
  · exact uniS_len h
  · cases h
theorem meetV_eq {a f : RI} {vs x : List Int} (h : meet a f vs = some x) : meetV a f vs = x := by
  unfold meet at h
  unfold meetV
  split at h
  · rw [if_pos (by assumption)]; exact uniL_some h
  · cases h
/-- What one round finds: g tells it of each fact. -/
def found {α : Type} (g : Nat → List α) (k : Nat) : List α := (List.range k).flatMap g
theorem found_zero {α : Type} (g : Nat → List α) : found g 0 = [] := rfl
theorem found_succ {α : Type} (g : Nat → List α) (k : Nat) : found g (k + 1) = found g k ++ g k := by
  unfold found
  rw [List.range_succ, List.flatMap_append]; simp
theorem found_len {α : Type} {g : Nat → List α} {b : Nat} (h : ∀ i, (g i).length ≤ b) : ∀ k, (found g k).length ≤ k * b
  | 0 => by simp [found_zero]
  | k + 1 => by
    rw [found_succ, List.length_append, Nat.add_mul]
    have := found_len h k
    have := h k
    omega
theorem found_mem {α : Type} {g : Nat → List α} {k : Nat} {x : α} : x ∈ found g k ↔ ∃ i, i < k ∧ x ∈ g i := by
  unfold found
  rw [List.mem_flatMap]
  constructor
  · rintro ⟨i, h1, h2⟩; exact ⟨i, by simpa using h1, h2⟩
  · rintro ⟨i, h1, h2⟩; exact ⟨i, by simpa using h1, h2⟩
def atomAt (ats : List RI) (m : Nat) : RI := ats.getD (ats.length - (m + 1)) default
def walkE (ds ats : List RI) : Nat → List Int → List Int → List Emb
  | 0, vs, fs => [⟨vs, fs⟩]
  | m + 1, vs, fs => found (fun i => match meet (atomAt ats m) (ds.getD i default) vs with
    | some x => walkE ds ats m x (fs ++ [(i : Int)])
    | none => []) ds.length
def oneE (ds ats : List RI) (m : Nat) (vs fs : List Int) (i : Nat) : List Emb := match meet (atomAt ats m) (ds.getD i default) vs with
    | some x => walkE ds ats m x (fs ++ [(i : Int)])
    | none => []
theorem walkE_succ (ds ats : List RI) (m : Nat) (vs fs : List Int) : walkE ds ats (m + 1) vs fs = found (oneE ds ats m vs fs) ds.length := rfl
theorem oneE_some {ds ats : List RI} {m i : Nat} {vs fs x : List Int} (h : meet (atomAt ats m) (ds.getD i default) vs = some x) : oneE ds ats m vs fs i = walkE ds ats m x (fs ++ [(i : Int)]) := by unfold oneE; rw [h]
theorem oneE_none {ds ats : List RI} {m i : Nat} {vs fs : List Int} (h : meet (atomAt ats m) (ds.getD i default) vs = none) : oneE ds ats m vs fs i = [] := by unfold oneE; rw [h]
theorem walkE_len {ds ats : List RI} (hd : ds.length ≤ 14) : ∀ (m : Nat) (vs fs : List Int), (walkE ds ats m vs fs).length ≤ 14 ^ m
  | 0, _, _ => by simp [walkE]
  | m + 1, vs, fs => by
    rw [walkE_succ]
    have h1 : ∀ i, (oneE ds ats m vs fs i).length ≤ 14 ^ m := by
      intro i
      unfold oneE
      split
      · exact walkE_len hd m _ _
      · simp
    have h2 := found_len h1 ds.length
    have h3 := Nat.mul_le_mul_right (14 ^ m) hd
    rw [Nat.pow_succ, Nat.mul_comm (14 ^ m)]
    omega
theorem walkE_mem {ds ats : List RI} : ∀ {m : Nat} {vs fs : List Int}, ∀ e ∈ walkE ds ats m vs fs, e.vs.length = vs.length ∧ e.fs.length = fs.length + m
  | 0, vs, fs, e, h => by
    simp only [walkE, List.mem_singleton] at h
    subst h; exact ⟨rfl, rfl⟩
  | m + 1, vs, fs, e, h => by
    rw [walkE_succ, found_mem] at h
    obtain ⟨i, _, h⟩ := h
    unfold oneE at h
    split at h
    · rename_i x hx
      obtain ⟨h1, h2⟩ := walkE_mem e h
      rw [List.length_append, List.length_singleton] at h2
      exact ⟨by rw [h1, meet_len hx], by omega⟩
    · cases h
theorem pow14E {m : Nat} (h : m ≤ 3) : 14 ^ m ≤ 2744 := Nat.pow_le_pow_right (by omega) h
/-- ALL EMBEDDINGS. -/
def embs (d : Db) (q : Qu) : List Emb := if queryFor d q then walkE d.facts q.atoms q.atoms.length (List.replicate q.vc.toNat (-1)) [] else []
theorem queryFor_db {d : Db} {q : Qu} (h : queryFor d q = true) : goodDb d = true := by
  unfold queryFor at h; rw [Bool.and_eq_true] at h; exact h.1
theorem queryFor_qu {d : Db} {q : Qu} (h : queryFor d q = true) : goodQu d.rels q = true := by
  unfold queryFor at h; rw [Bool.and_eq_true] at h; exact h.2
theorem goodDb_len {d : Db} (h : goodDb d = true) : d.facts.length ≤ 14 := by
  unfold goodDb at h
  simp only [Bool.and_eq_true, decide_eq_true_eq] at h
  omega
theorem goodQu_parts {l : List Rel} {q : Qu} (h : goodQu l q = true) : (0 ≤ q.vc ∧ q.vc ≤ 4) ∧ 1 ≤ q.atoms.length ∧ q.atoms.length ≤ 3 := by
  unfold goodQu at h
  simp only [Bool.and_eq_true] at h
  have a1 := inB_of h.2.1
  have a2 := inB_of h.2.2.1
  omega
theorem goodDb_fact {d : Db} (h : goodDb d = true) {i : Nat} (hi : i < d.facts.length) : goodFact d.rels (d.facts.getD i default) = true := by
  unfold goodDb at h
  simp only [Bool.and_eq_true] at h
  have := upTo_at h.2.2 hi
  unfold factOk at this
  rw [Bool.and_eq_true] at this
  exact this.1
theorem goodQu_at {l : List Rel} {q : Qu} (h : goodQu l q = true) {k : Nat} (hk : k < q.atoms.length) : atomOk l q k = true := by
  unfold goodQu at h
  simp only [Bool.and_eq_true] at h
  exact upTo_at h.2.2.2.2.1 hk
theorem meet_lens {d : Db} {q : Qu} (h : queryFor d q = true) {k i : Nat} (hk : k < q.atoms.length) (hi : i < d.facts.length) (e : (d.facts.getD i default).r = (q.atoms.getD k default).r) : (d.facts.getD i default).l.length = (q.atoms.getD k default).l.length := by
  have h1 := goodDb_fact (queryFor_db h) hi
  have h2 := goodQu_at (queryFor_qu h) hk
  unfold goodFact at h1
  unfold atomOk relAt at h2
  simp only [Bool.and_eq_true, beq_iff_eq] at h1 h2
  have a1 := h1.2.1
  have a2 := h2.1.2
  rw [e] at a1
  omega
/-- Terms that name variables of a list or are constants. -/
def tsOk (n : Nat) (ts : List Int) : Prop := ∀ k, k < ts.length → -10 ≤ ts.getD k 0 ∧ ts.getD k 0 < n
theorem tsOk_at {l : List Rel} {q : Qu} (h : goodQu l q = true) {k : Nat} (hk : k < q.atoms.length) : tsOk q.vc.toNat (q.atoms.getD k default).l := by
  have h2 := goodQu_at h hk
  have hp := goodQu_parts h
  unfold atomOk at h2
  simp only [Bool.and_eq_true] at h2
  intro j hj
  have := upTo_at h2.2.2 hj
  unfold termOk at this
  have := inB_of this
  omega
end Go.Proofs.YtedciihjgbkjgabGreatDoor.A
