
/- VALID RELATIONS, FACTS AND DATABASES. Conditions: none. -/
import Derived.Test.YtbalifgacjmbpabGreatAFD
namespace Go.Proofs.YtbalifgacjmbpabGreat.A
open Go
set_option linter.unusedSimpArgs false
set_option linter.unusedVariables false
set_option maxRecDepth 100000

/-- Does something hold of all numbers below k. -/
def upTo (p : Nat → Bool) : Nat → Bool
  | 0 => true
  | k + 1 => upTo p k && p k
theorem upTo_false {p : Nat → Bool} {n k : Nat} (h : k < n) (hp : p k = false) : upTo p n = false := by
  induction n with
  | zero => omega
  | succ n ih =>
    unfold upTo
    by_cases e : k = n
    · subst e; simp [hp]
    · rw [ih (by omega)]; rfl
theorem upTo_step {p : Nat → Bool} {k : Nat} (h : upTo p k = true) (hp : p k = true) : upTo p (k + 1) = true := by rw [upTo, h, hp]; rfl
theorem upTo_at {p : Nat → Bool} {n k : Nat} (h : upTo p n = true) (hk : k < n) : p k = true := by
  rcases hp : p k
  · rw [upTo_false hk hp] at h; cases h
  · rfl
def inB (x a b : Int) : Bool := decide (a ≤ x) && decide (x ≤ b)
theorem inB_sat (x a b : Int) : Sat Tryz.prog 96 [lInt x, lInt a, lInt b] [lBool (inB x a b)] [g1, g1, g1] := l1In_sat x a b
theorem inW_sat (x a b : Int) : Sat Tryz.prog 110 [lInt x, lInt a, lInt b] [lBool (inB x a b)] [g1, g1, g1] := within_sat x a b
theorem inB_of {x a b : Int} (h : inB x a b = true) : a ≤ x ∧ x ≤ b := by
  unfold inB at h
  simpa using h
abbrev n0 (r : Rel) : Int := ((r.name.data.toList.getD 0 0).toNat : Int)
def goodRel (r : Rel) : Bool := ((r.name.size : Int) == 1) && (decide (n0 r ≥ 97) && (decide (n0 r ≤ 122) && (inB r.ar 1 3 && inB r.kl 0 r.ar)))
theorem specIsValidRelation_sat (r : Rel) : Sat Tryz.prog 134 [lRel r] [lBool (goodRel r)] [g3] := by
  refine sat_of_body mixed Tryz.func134 rfl (by kernel_rfl) (by kernel_rfl) (rs := [.tmp 2]) rfl rfl rfl ?_
  unfold goodRel
  rcases d1 : ((r.name.size : Int) == 1)
  · simp -implicitDefEqProofs (maxSteps := 2000000) only [go_sem, d1]
  have s1 : 0 < r.name.size := by have := eq_of_beq d1; omega
  rcases d2 : decide (n0 r ≥ 97)
  · simp -implicitDefEqProofs (maxSteps := 2000000) only [go_sem, d1, d2, s1]
  rcases d3 : decide (n0 r ≤ 122)
  · simp -implicitDefEqProofs (maxSteps := 2000000) only [go_sem, d1, d2, d3, s1]
  simp -implicitDefEqProofs (maxSteps := 2000000) only [go_sem, d1, d2, d3, s1]
  rcases d4 : inB r.ar 1 3
  · refine call_of (inB_sat r.ar 1 3) (by simp -implicitDefEqProofs (maxSteps := 2000000) only [go_sem, d4]) (by kernel_rfl) (by simp -implicitDefEqProofs (maxSteps := 2000000) only [go_sem, d4]) ?_
    simp -implicitDefEqProofs (maxSteps := 2000000) only [go_sem, d4]
  · refine call_of (inB_sat r.ar 1 3) (by simp -implicitDefEqProofs (maxSteps := 2000000) only [go_sem, d4]) (by kernel_rfl) (by simp -implicitDefEqProofs (maxSteps := 2000000) only [go_sem, d4]) ?_
    simp -implicitDefEqProofs (maxSteps := 2000000) only [go_sem, d4]
    refine call_of (inB_sat r.kl 0 r.ar) (by simp -implicitDefEqProofs (maxSteps := 2000000) only [go_sem]) (by kernel_rfl) (by simp -implicitDefEqProofs (maxSteps := 2000000) only [go_sem]) ?_
    simp -implicitDefEqProofs (maxSteps := 2000000) only [go_sem]
theorem implIsValidRelation_sat (r : Rel) : Sat Tryz.prog 135 [lRel r] [lBool (goodRel r)] [g3] := by
  refine sat_of_body mixed Tryz.func135 rfl (by kernel_rfl) (by kernel_rfl) (rs := [.tmp 2]) rfl rfl rfl ?_
  unfold goodRel
  rcases d1 : ((r.name.size : Int) == 1)
  · simp -implicitDefEqProofs (maxSteps := 2000000) only [go_sem, d1]
  have s1 : 0 < r.name.size := by have := eq_of_beq d1; omega
  rcases d2 : decide (n0 r ≥ 97)
  · simp -implicitDefEqProofs (maxSteps := 2000000) only [go_sem, d1, d2, s1]
  rcases d3 : decide (n0 r ≤ 122)
  · simp -implicitDefEqProofs (maxSteps := 2000000) only [go_sem, d1, d2, d3, s1]
  simp -implicitDefEqProofs (maxSteps := 2000000) only [go_sem, d1, d2, d3, s1]
  rcases d4 : inB r.ar 1 3
  · refine call_of (inW_sat r.ar 1 3) (by simp -implicitDefEqProofs (maxSteps := 2000000) only [go_sem, d4]) (by kernel_rfl) (by simp -implicitDefEqProofs (maxSteps := 2000000) only [go_sem, d4]) ?_
    simp -implicitDefEqProofs (maxSteps := 2000000) only [go_sem, d4]
  · refine call_of (inW_sat r.ar 1 3) (by simp -implicitDefEqProofs (maxSteps := 2000000) only [go_sem, d4]) (by kernel_rfl) (by simp -implicitDefEqProofs (maxSteps := 2000000) only [go_sem, d4]) ?_
    simp -implicitDefEqProofs (maxSteps := 2000000) only [go_sem, d4]
    refine call_of (inW_sat r.kl 0 r.ar) (by simp -implicitDefEqProofs (maxSteps := 2000000) only [go_sem]) (by kernel_rfl) (by simp -implicitDefEqProofs (maxSteps := 2000000) only [go_sem]) ?_
    simp -implicitDefEqProofs (maxSteps := 2000000) only [go_sem]
/-- Is the i-th relation valid, and behind the one before it. -/
def relOk (l : List Rel) (i : Nat) : Bool := goodRel (l.getD i default) && (decide (i = 0) || Op.bytesLess (l.getD (i - 1) default).name.toList (l.getD i default).name.toList)
def goodRels (l : List Rel) : Bool := upTo (relOk l) l.length && decide ((l.length : Int) ≤ 4)
theorem specAreValidRelations_sat (l : List Rel) (h : l.length ≤ 9223372036854775807) : Sat Tryz.prog 106 [lRels l] [lBool (goodRels l)] [g1] := by
  refine sat_of_body mixed Tryz.func106 rfl (by kernel_rfl) (by kernel_rfl) (rs := [.tmp 2]) rfl rfl rfl ?_
  simp -implicitDefEqProofs (maxSteps := 2000000) only [go_sem]
  refine awp_loop Nat (fun k => mkSt [(0, .one (.im 3 (rels l))), (3, .sc (.int .i64 k))] [] [] 1000)
    (fun k => k ≤ l.length ∧ upTo (relOk l) k = true) (fun k => l.length - k) 0 ⟨by omega, rfl⟩ (le_st _ _ [] [] _ rfl (by simp -implicitDefEqProofs (maxSteps := 2000000) only [go_sem] <;> rfl) trivial trivial) ?_
  rintro k ⟨h1, h2⟩
  by_cases c1 : k < l.length
  · rcases d1 : goodRel (l.getD k default)
    · have e : relOk l k = false := by rw [relOk, d1]; rfl
      rw [show goodRels l = false by rw [goodRels, upTo_false c1 e]; rfl]
      simp -implicitDefEqProofs (maxSteps := 2000000) only [go_sem, c1]
      refine call_of (specIsValidRelation_sat (l.getD k default)) (by simp -implicitDefEqProofs (maxSteps := 2000000) only [go_sem, d1, c1]) (by kernel_rfl) (by simp -implicitDefEqProofs (maxSteps := 2000000) only [go_sem, d1, c1]) ?_
      simp -implicitDefEqProofs (maxSteps := 2000000) only [go_sem, d1, c1]
    rcases k with _ | j
    · have e : relOk l 0 = true := by rw [relOk, d1]; rfl
      have c0 : (0 : Int) < l.length := by omega
      simp -implicitDefEqProofs (maxSteps := 2000000) only [go_sem, c1, c0]
      refine call_of (specIsValidRelation_sat (l.getD 0 default)) (by simp -implicitDefEqProofs (maxSteps := 2000000) only [go_sem, d1, c1, c0]) (by kernel_rfl) (by simp -implicitDefEqProofs (maxSteps := 2000000) only [go_sem, d1, c1, c0]) ?_
      simp -implicitDefEqProofs (maxSteps := 2000000) only [go_sem, d1, c1, c0]
      exact ⟨1, ⟨c1, upTo_step h2 e⟩, by omega, (le_st _ _ [] [] _ rfl (by simp -implicitDefEqProofs (maxSteps := 2000000) only [go_sem] <;> rfl) trivial trivial)⟩
    · have c2 : j < l.length := by omega
      have c3 : 0 < ((j + 1 : Nat) : Int) := by omega
      have w1 := i64_pred (j := j) (by omega)
      rcases d2 : Op.bytesLess (l.getD j default).name.toList (l.getD (j + 1) default).name.toList
      · have e : relOk l (j + 1) = false := by rw [relOk, d1, Nat.add_sub_cancel, d2]; rfl
        rw [show goodRels l = false by rw [goodRels, upTo_false c1 e]; rfl]
        simp -implicitDefEqProofs (maxSteps := 2000000) only [go_sem, c1]
        refine call_of (specIsValidRelation_sat (l.getD (j + 1) default)) (by simp -implicitDefEqProofs (maxSteps := 2000000) only [go_sem, d1, d2, c1, c2, c3, w1]) (by kernel_rfl) (by simp -implicitDefEqProofs (maxSteps := 2000000) only [go_sem, d1, d2, c1, c2, c3, w1]) ?_
        simp -implicitDefEqProofs (maxSteps := 2000000) only [go_sem, d1, d2, c1, c2, c3, w1]
      · have e : relOk l (j + 1) = true := by rw [relOk, d1, Nat.add_sub_cancel, d2]; rfl
        simp -implicitDefEqProofs (maxSteps := 2000000) only [go_sem, c1]
        refine call_of (specIsValidRelation_sat (l.getD (j + 1) default)) (by simp -implicitDefEqProofs (maxSteps := 2000000) only [go_sem, d1, d2, c1, c2, c3, w1]) (by kernel_rfl) (by simp -implicitDefEqProofs (maxSteps := 2000000) only [go_sem, d1, d2, c1, c2, c3, w1]) ?_
        simp -implicitDefEqProofs (maxSteps := 2000000) only [go_sem, d1, d2, c1, c2, c3, w1]
        rw [i64_succ (by omega)]
        exact ⟨j + 1 + 1, ⟨c1, upTo_step h2 e⟩, by omega, (le_st _ _ [] [] _ rfl (by simp -implicitDefEqProofs (maxSteps := 2000000) only [go_sem] <;> rfl) trivial trivial)⟩
  · obtain rfl : k = l.length := by omega
    simp -implicitDefEqProofs (maxSteps := 2000000) only [go_sem, c1]
    rw [goodRels, h2]
    rfl
theorem implAreValidRelations_sat (l : List Rel) (h : l.length ≤ 9223372036854775807) : Sat Tryz.prog 107 [lRels l] [lBool (goodRels l)] [g1] := by
  refine sat_of_body mixed Tryz.func107 rfl (by kernel_rfl) (by kernel_rfl) (rs := [.tmp 2]) rfl rfl rfl ?_
  simp -implicitDefEqProofs (maxSteps := 2000000) only [go_sem]
  refine awp_loop Nat (fun k => mkSt [(0, .one (.im 3 (rels l))), (5, .one (.im 3 (rels l))), (6, .sc (.int .i64 l.length)), (7, .sc (.int .i64 k))] [] [] 1000)
    (fun k => k ≤ l.length ∧ upTo (relOk l) k = true) (fun k => l.length - k) 0 ⟨by omega, rfl⟩ (le_st _ _ [] [] _ rfl (by simp -implicitDefEqProofs (maxSteps := 2000000) only [go_sem] <;> rfl) trivial trivial) ?_
  rintro k ⟨h1, h2⟩
  by_cases c1 : k < l.length
  · rcases d1 : goodRel (l.getD k default)
    · have e : relOk l k = false := by rw [relOk, d1]; rfl
      rw [show goodRels l = false by rw [goodRels, upTo_false c1 e]; rfl]
      simp -implicitDefEqProofs (maxSteps := 2000000) only [go_sem, c1]
      refine call_of (implIsValidRelation_sat (l.getD k default)) (by simp -implicitDefEqProofs (maxSteps := 2000000) only [go_sem, d1, c1]) (by kernel_rfl) (by simp -implicitDefEqProofs (maxSteps := 2000000) only [go_sem, d1, c1]) ?_
      simp -implicitDefEqProofs (maxSteps := 2000000) only [go_sem, d1, c1]
    rcases k with _ | j
    · have e : relOk l 0 = true := by rw [relOk, d1]; rfl
      have c0 : (0 : Int) < l.length := by omega
      simp -implicitDefEqProofs (maxSteps := 2000000) only [go_sem, c1, c0]
      refine call_of (implIsValidRelation_sat (l.getD 0 default)) (by simp -implicitDefEqProofs (maxSteps := 2000000) only [go_sem, d1, c1, c0]) (by kernel_rfl) (by simp -implicitDefEqProofs (maxSteps := 2000000) only [go_sem, d1, c1, c0]) ?_
      simp -implicitDefEqProofs (maxSteps := 2000000) only [go_sem, d1, c1, c0]
      exact ⟨1, ⟨c1, upTo_step h2 e⟩, by omega, (le_st _ _ [] [] _ rfl (by simp -implicitDefEqProofs (maxSteps := 2000000) only [go_sem] <;> rfl) trivial trivial)⟩
    · have c2 : j < l.length := by omega
      have c3 : 0 < ((j + 1 : Nat) : Int) := by omega
      have w1 := i64_pred (j := j) (by omega)
      rcases d2 : Op.bytesLess (l.getD j default).name.toList (l.getD (j + 1) default).name.toList
      · have e : relOk l (j + 1) = false := by rw [relOk, d1, Nat.add_sub_cancel, d2]; rfl
        rw [show goodRels l = false by rw [goodRels, upTo_false c1 e]; rfl]
        simp -implicitDefEqProofs (maxSteps := 2000000) only [go_sem, c1]
        refine call_of (implIsValidRelation_sat (l.getD (j + 1) default)) (by simp -implicitDefEqProofs (maxSteps := 2000000) only [go_sem, d1, d2, c1, c2, c3, w1]) (by kernel_rfl) (by simp -implicitDefEqProofs (maxSteps := 2000000) only [go_sem, d1, d2, c1, c2, c3, w1]) ?_
        simp -implicitDefEqProofs (maxSteps := 2000000) only [go_sem, d1, d2, c1, c2, c3, w1]
      · have e : relOk l (j + 1) = true := by rw [relOk, d1, Nat.add_sub_cancel, d2]; rfl
        simp -implicitDefEqProofs (maxSteps := 2000000) only [go_sem, c1]
        refine call_of (implIsValidRelation_sat (l.getD (j + 1) default)) (by simp -implicitDefEqProofs (maxSteps := 2000000) only [go_sem, d1, d2, c1, c2, c3, w1]) (by kernel_rfl) (by simp -implicitDefEqProofs (maxSteps := 2000000) only [go_sem, d1, d2, c1, c2, c3, w1]) ?_
        simp -implicitDefEqProofs (maxSteps := 2000000) only [go_sem, d1, d2, c1, c2, c3, w1]
        rw [i64_succ (by omega)]
        exact ⟨j + 1 + 1, ⟨c1, upTo_step h2 e⟩, by omega, (le_st _ _ [] [] _ rfl (by simp -implicitDefEqProofs (maxSteps := 2000000) only [go_sem] <;> rfl) trivial trivial)⟩
  · obtain rfl : k = l.length := by omega
    simp -implicitDefEqProofs (maxSteps := 2000000) only [go_sem, c1]
    rw [goodRels, h2]
    rfl
/-- The first number below which something fails, or -1. -/
def firstNo (p : Nat → Bool) : Nat → Nat → Int
  | 0, _ => -1
  | n + 1, k => if p k then firstNo p n (k + 1) else k
theorem firstNo_ge (p : Nat → Bool) : ∀ (n k : Nat), upTo p k = true → decide (firstNo p n k ≥ 0) = !upTo p (k + n)
  | 0, k, h => by rw [Nat.add_zero, h]; rfl
  | n + 1, k, h => by
    unfold firstNo
    split
    · rename_i e
      rw [firstNo_ge p n (k + 1) (upTo_step h e), show k + 1 + n = k + (n + 1) by omega]
    · rename_i e
      rw [upTo_false (k := k) (by omega) (by simpa using e)]
      exact decide_eq_true (by omega)
def valOk (l : List Int) (i : Nat) : Bool := inB (l.getD i 0) 0 9
theorem areValues1_sat (x : Int) : Sat Tryz.prog 152 [lInt x] [lBool (!inB x 0 9)] [g1] := by
  refine sat_of_body mixed Tryz.func152 rfl (by kernel_rfl) (by kernel_rfl) (rs := [.tmp 2]) rfl rfl rfl ?_
  simp -implicitDefEqProofs (maxSteps := 2000000) only [go_sem]
  refine call_of (inW_sat x 0 9) (by simp -implicitDefEqProofs (maxSteps := 2000000) only [go_sem]) (by kernel_rfl) (by simp -implicitDefEqProofs (maxSteps := 2000000) only [go_sem]) ?_
  simp -implicitDefEqProofs (maxSteps := 2000000) only [go_sem]
theorem areValuesIndex_sat (l : List Int) (h : l.length ≤ 9223372036854775807) : Sat Tryz.prog 150 [lInts l, .one (.fn 152 [])] [lInt (firstNo (valOk l) l.length 0)] [g1, g1] := by
  refine sat_of_body mixed Tryz.func150 rfl (by kernel_rfl) (by kernel_rfl) (rs := [.tmp 4]) rfl rfl rfl ?_
  simp -implicitDefEqProofs (maxSteps := 2000000) only [go_sem]
  refine awp_loop Nat (fun k => mkSt [(0, .one (.im 1 (ints l))), (1, .one (.fni 152 [])), (7, .sc (.int .i64 l.length)), (8, .sc (.int .i64 k))] [] [] 1000)
    (fun k => k ≤ l.length ∧ firstNo (valOk l) (l.length - k) k = firstNo (valOk l) l.length 0) (fun k => l.length - k) 0 ⟨by omega, rfl⟩ (le_st _ _ [] [] _ rfl (by simp -implicitDefEqProofs (maxSteps := 2000000) only [go_sem] <;> rfl) trivial trivial) ?_
  rintro k ⟨h1, h2⟩
  by_cases c1 : k < l.length
  · rw [show l.length - k = (l.length - (k + 1)) + 1 by omega, firstNo] at h2
    rcases d : inB (l.getD k 0) 0 9
    · rw [if_neg (by rw [valOk, d]; simp)] at h2
      simp -implicitDefEqProofs (maxSteps := 2000000) only [go_sem, c1]
      refine call_of (areValues1_sat (l.getD k 0)) (by simp -implicitDefEqProofs (maxSteps := 2000000) only [go_sem, d, c1]) (by kernel_rfl) (by simp -implicitDefEqProofs (maxSteps := 2000000) only [go_sem, d, c1]) ?_
      simp -implicitDefEqProofs (maxSteps := 2000000) only [go_sem, d, c1]
      rw [← h2]
    · rw [if_pos (by rw [valOk, d])] at h2
      simp -implicitDefEqProofs (maxSteps := 2000000) only [go_sem, c1]
      refine call_of (areValues1_sat (l.getD k 0)) (by simp -implicitDefEqProofs (maxSteps := 2000000) only [go_sem, d, c1]) (by kernel_rfl) (by simp -implicitDefEqProofs (maxSteps := 2000000) only [go_sem, d, c1]) ?_
      simp -implicitDefEqProofs (maxSteps := 2000000) only [go_sem, d, c1]
      rw [i64_succ (by omega)]
      exact ⟨k + 1, ⟨c1, h2⟩, by omega, (le_st _ _ [] [] _ rfl (by simp -implicitDefEqProofs (maxSteps := 2000000) only [go_sem] <;> rfl) trivial trivial)⟩
  · obtain rfl : k = l.length := by omega
    rw [Nat.sub_self, firstNo] at h2
    simp -implicitDefEqProofs (maxSteps := 2000000) only [go_sem, c1]
    rw [← h2]
theorem areValuesContains_sat (l : List Int) (h : l.length ≤ 9223372036854775807) : Sat Tryz.prog 130 [lInts l, .one (.fn 152 [])] [lBool (!upTo (valOk l) l.length)] [g1, g1] := by
  refine sat_of_body mixed Tryz.func130 rfl (by kernel_rfl) (by kernel_rfl) (rs := [.tmp 4]) rfl rfl rfl ?_
  simp -implicitDefEqProofs (maxSteps := 2000000) only [go_sem]
  refine call_of (areValuesIndex_sat l h) (by simp -implicitDefEqProofs (maxSteps := 2000000) only [go_sem]) (by kernel_rfl) (by simp -implicitDefEqProofs (maxSteps := 2000000) only [go_sem]) ?_
  simp -implicitDefEqProofs (maxSteps := 2000000) only [go_sem]
  rw [firstNo_ge _ _ _ rfl, Nat.zero_add]
theorem areValues_sat (l : List Int) (h : l.length ≤ 9223372036854775807) : Sat Tryz.prog 136 [lInts l] [lBool (upTo (valOk l) l.length)] [g1] := by
  refine sat_of_body mixed Tryz.func136 rfl (by kernel_rfl) (by kernel_rfl) (rs := [.tmp 2]) rfl rfl rfl ?_
  simp -implicitDefEqProofs (maxSteps := 2000000) only [go_sem]
  refine call_of (areValuesContains_sat l h) (by simp -implicitDefEqProofs (maxSteps := 2000000) only [go_sem]) (by kernel_rfl) (by simp -implicitDefEqProofs (maxSteps := 2000000) only [go_sem]) ?_
  simp -implicitDefEqProofs (maxSteps := 2000000) only [go_sem]
  rw [Bool.not_not]
def goodFact (l : List Rel) (f : RI) : Bool := inB f.r 0 ((l.length : Int) - 1) && (((f.l.length : Int) == (l.getD f.r.toNat default).ar) && upTo (valOk f.l) f.l.length)
theorem isFact_sat (l : List Rel) (f : RI) (h : l.length ≤ 9223372036854775807) (hf : f.fit) : Sat Tryz.prog 108 [lRels l, lRI f] [lBool (goodFact l f)] [g1, g2] := by
  refine sat_of_body mixed Tryz.func108 rfl (by kernel_rfl) (by kernel_rfl) (rs := [.tmp 4]) rfl rfl rfl ?_
  rcases f with ⟨r, vs⟩
  have w0 : IntKind.i64.wrap ((l.length : Int) - 1) = (l.length : Int) - 1 := IntWalk.i64_in _ (by omega)
  rcases d1 : inB r 0 ((l.length : Int) - 1)
  · rw [show goodFact l ⟨r, vs⟩ = false by rw [goodFact, d1]; rfl]
    simp -implicitDefEqProofs (maxSteps := 2000000) only [go_sem, w0]
    refine call_of (inW_sat r 0 ((l.length : Int) - 1)) (by simp -implicitDefEqProofs (maxSteps := 2000000) only [go_sem, d1]) (by kernel_rfl) (by simp -implicitDefEqProofs (maxSteps := 2000000) only [go_sem, d1]) ?_
    simp -implicitDefEqProofs (maxSteps := 2000000) only [go_sem, d1]
  obtain ⟨r1, r2⟩ := inB_of d1
  obtain ⟨m, rfl⟩ : ∃ m : Nat, r = m := ⟨r.toNat, by omega⟩
  have c1 : m < l.length := by omega
  have t0 : ((m : Int)).toNat = m := by omega
  rcases d2 : ((vs.length : Int) == (l.getD m default).ar)
  · rw [show goodFact l ⟨m, vs⟩ = false by rw [goodFact, d1]; simp only [t0, d2]; rfl]
    simp -implicitDefEqProofs (maxSteps := 2000000) only [go_sem, w0]
    refine call_of (inW_sat m 0 ((l.length : Int) - 1)) (by simp -implicitDefEqProofs (maxSteps := 2000000) only [go_sem, d1, d2, c1]) (by kernel_rfl) (by simp -implicitDefEqProofs (maxSteps := 2000000) only [go_sem, d1, d2, c1]) ?_
    simp -implicitDefEqProofs (maxSteps := 2000000) only [go_sem, d1, d2, c1]
  rw [show goodFact l ⟨m, vs⟩ = upTo (valOk vs) vs.length by rw [goodFact, d1]; simp only [t0, d2]; rfl]
  simp -implicitDefEqProofs (maxSteps := 2000000) only [go_sem, w0]
  refine call_of (inW_sat m 0 ((l.length : Int) - 1)) (by simp -implicitDefEqProofs (maxSteps := 2000000) only [go_sem, d1, d2, c1]) (by kernel_rfl) (by simp -implicitDefEqProofs (maxSteps := 2000000) only [go_sem, d1, d2, c1]) ?_
  simp -implicitDefEqProofs (maxSteps := 2000000) only [go_sem, d1, d2, c1]
  refine call_of (areValues_sat vs hf) (by simp -implicitDefEqProofs (maxSteps := 2000000) only [go_sem]) (by kernel_rfl) (by simp -implicitDefEqProofs (maxSteps := 2000000) only [go_sem]) ?_
  simp -implicitDefEqProofs (maxSteps := 2000000) only [go_sem]
theorem specIsValidFact_sat (l : List Rel) (f : RI) (h : l.length ≤ 9223372036854775807) (hf : f.fit) : Sat Tryz.prog 104 [lRels l, lRI f] [lBool (goodRels l && goodFact l f)] [g1, g2] := by
  refine sat_of_body mixed Tryz.func104 rfl (by kernel_rfl) (by kernel_rfl) (rs := [.tmp 4]) rfl rfl rfl ?_
  rcases f with ⟨r, vs⟩
  have w0 : IntKind.i64.wrap ((l.length : Int) - 1) = (l.length : Int) - 1 := IntWalk.i64_in _ (by omega)
  rcases d0 : goodRels l
  · simp -implicitDefEqProofs (maxSteps := 2000000) only [go_sem]
    refine call_of (specAreValidRelations_sat l h) (by simp -implicitDefEqProofs (maxSteps := 2000000) only [go_sem, d0]) (by kernel_rfl) (by simp -implicitDefEqProofs (maxSteps := 2000000) only [go_sem, d0]) ?_
    simp -implicitDefEqProofs (maxSteps := 2000000) only [go_sem, d0]
  rw [Bool.true_and]
  simp -implicitDefEqProofs (maxSteps := 2000000) only [go_sem]
  rcases d1 : inB r 0 ((l.length : Int) - 1)
  · rw [show goodFact l ⟨r, vs⟩ = false by rw [goodFact, d1]; rfl]
    refine call_of (specAreValidRelations_sat l h) (by simp -implicitDefEqProofs (maxSteps := 2000000) only [go_sem, d0, w0]) (by kernel_rfl) (by simp -implicitDefEqProofs (maxSteps := 2000000) only [go_sem, d0, w0]) ?_
    simp -implicitDefEqProofs (maxSteps := 2000000) only [go_sem, d0, w0]
    refine call_of (inB_sat r 0 ((l.length : Int) - 1)) (by simp -implicitDefEqProofs (maxSteps := 2000000) only [go_sem, d1]) (by kernel_rfl) (by simp -implicitDefEqProofs (maxSteps := 2000000) only [go_sem, d1]) ?_
    simp -implicitDefEqProofs (maxSteps := 2000000) only [go_sem, d1]
  obtain ⟨r1, r2⟩ := inB_of d1
  obtain ⟨m, rfl⟩ : ∃ m : Nat, r = m := ⟨r.toNat, by omega⟩
  have c1 : m < l.length := by omega
  have t0 : ((m : Int)).toNat = m := by omega
  rcases d2 : ((vs.length : Int) == (l.getD m default).ar)
  · rw [show goodFact l ⟨m, vs⟩ = false by rw [goodFact, d1]; simp only [t0, d2]; rfl]
    have d3 : ((vs.length : Int) != (l.getD m default).ar) = true := by rw [bne, d2]; rfl
    refine call_of (specAreValidRelations_sat l h) (by simp -implicitDefEqProofs (maxSteps := 2000000) only [go_sem, d0, w0]) (by kernel_rfl) (by simp -implicitDefEqProofs (maxSteps := 2000000) only [go_sem, d0, w0]) ?_
    simp -implicitDefEqProofs (maxSteps := 2000000) only [go_sem, d0, w0]
    refine call_of (inB_sat m 0 ((l.length : Int) - 1)) (by simp -implicitDefEqProofs (maxSteps := 2000000) only [go_sem, d1, d3, c1]) (by kernel_rfl) (by simp -implicitDefEqProofs (maxSteps := 2000000) only [go_sem, d1, d3, c1]) ?_
    simp -implicitDefEqProofs (maxSteps := 2000000) only [go_sem, d1, d3, c1]
  rw [show goodFact l ⟨m, vs⟩ = upTo (valOk vs) vs.length by rw [goodFact, d1]; simp only [t0, d2]; rfl]
  have d3 : ((vs.length : Int) != (l.getD m default).ar) = false := by rw [bne, d2]; rfl
  refine call_of (specAreValidRelations_sat l h) (by simp -implicitDefEqProofs (maxSteps := 2000000) only [go_sem, d0, w0]) (by kernel_rfl) (by simp -implicitDefEqProofs (maxSteps := 2000000) only [go_sem, d0, w0]) ?_
  simp -implicitDefEqProofs (maxSteps := 2000000) only [go_sem, d0, w0]
  refine call_of (inB_sat m 0 ((l.length : Int) - 1)) (by simp -implicitDefEqProofs (maxSteps := 2000000) only [go_sem, d1, d3, c1]) (by kernel_rfl) (by simp -implicitDefEqProofs (maxSteps := 2000000) only [go_sem, d1, d3, c1]) ?_
  simp -implicitDefEqProofs (maxSteps := 2000000) only [go_sem, d1, d3, c1]
  refine awp_loop Nat (fun k => mkSt [(3, .one (.vad 1000 0)), (5, .sc (.int .i64 k))] [(1000, sRI ⟨m, vs⟩)] [] 2000)
    (fun k => k ≤ vs.length ∧ upTo (valOk vs) k = true) (fun k => vs.length - k) 0 ⟨by omega, rfl⟩ (le_st _ _ [] [] _ rfl (by simp -implicitDefEqProofs (maxSteps := 2000000) only [go_sem] <;> rfl) (by simp -implicitDefEqProofs (maxSteps := 2000000) only [go_sem] <;> rfl) (by simp -implicitDefEqProofs (maxSteps := 2000000) only [go_sem] <;> rfl)) ?_
  rintro k ⟨h1, h2⟩
  unfold RI.fit at hf
  by_cases c : k < vs.length
  · rcases d : inB (vs.getD k 0) 0 9
    · simp -implicitDefEqProofs (maxSteps := 2000000) only [go_sem, c]
      refine call_of (inB_sat (vs.getD k 0) 0 9) (by simp -implicitDefEqProofs (maxSteps := 2000000) only [go_sem, d]) (by kernel_rfl) (by simp -implicitDefEqProofs (maxSteps := 2000000) only [go_sem, d]) ?_
      simp -implicitDefEqProofs (maxSteps := 2000000) only [go_sem, d]
      rw [upTo_false c (by rw [valOk, d])]
    · simp -implicitDefEqProofs (maxSteps := 2000000) only [go_sem, c]
      refine call_of (inB_sat (vs.getD k 0) 0 9) (by simp -implicitDefEqProofs (maxSteps := 2000000) only [go_sem, d]) (by kernel_rfl) (by simp -implicitDefEqProofs (maxSteps := 2000000) only [go_sem, d]) ?_
      simp -implicitDefEqProofs (maxSteps := 2000000) only [go_sem, d]
      rw [i64_succ (by simp only at hf; omega)]
      exact ⟨k + 1, ⟨c, upTo_step h2 (by rw [valOk, d])⟩, by omega, (le_st _ _ [] [] _ rfl (by simp -implicitDefEqProofs (maxSteps := 2000000) only [go_sem] <;> rfl) (by simp -implicitDefEqProofs (maxSteps := 2000000) only [go_sem] <;> rfl) (by simp -implicitDefEqProofs (maxSteps := 2000000) only [go_sem] <;> rfl))⟩
  · obtain rfl : k = vs.length := by omega
    simp -implicitDefEqProofs (maxSteps := 2000000) only [go_sem, c]
    rw [h2]
end Go.Proofs.YtbalifgacjmbpabGreat.A
