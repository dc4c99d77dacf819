/- Packed by pack.py: FDraw3 FMis FMis2 FMis3 FMis4 FDraw4 FMis5 FMisP FISS WDMaximalIndependentSets LKB LDMaximalIndependentSets -/
import Derived.Test.YtahjpaicfppkoaaAZ1DMaximalIndependentSets
import Derived.Test.YtahjpaicfppkoaaA44
import Derived.Test.YtahjpaicfppkoaaRows

/- CONFLICT GRAPHS DRAWN. Conditions: none. -/
namespace Go.Proofs.Ytahjpaicfppkoaa.A
open Go
set_option linter.unusedSimpArgs false
set_option linter.unusedVariables false
set_option maxRecDepth 100000

def onV (c : Cur) (n : Nat) : Bool := decide (beV c n = 0)
theorem l1Once_sat (c : Cur) (n : Nat) (hc : c.ok) (h1 : 0 < n) (h2 : n ≤ 256) : Sat Try.prog 105 [lCur c, lInt n] [lBool (onV c n)] [lCur (byC c), g1] := by
  refine sat_of_body mixed Try.func105 rfl (by kernel_rfl) (by kernel_rfl) (rs := [.tmp 4]) rfl rfl rfl ?_
  have e : (((beV c n : Nat) : Int) == 0) = onV c n := by
    unfold onV
    rcases d : decide (beV c n = 0)
    · have := of_decide_eq_false d; rw [beq_eq_false_iff_ne]; omega
    · have := of_decide_eq_true d; rw [beq_iff_eq]; omega
  simp -implicitDefEqProofs (maxSteps := 2000000) only [go_sem]
  refine call_of (l1Below_sat c n hc h1 h2) (by simp -implicitDefEqProofs (maxSteps := 2000000) only [go_sem, e]) (by kernel_rfl) (by simp -implicitDefEqProofs (maxSteps := 2000000) only [go_sem, e]) ?_
  simp -implicitDefEqProofs (maxSteps := 2000000) only [go_sem, e]
  rfl
abbrev Dr := Cur × List Edge
def stepE (rare i k : Nat) (s : Dr) : Dr := if onV s.1 rare then (byC s.1, s.2 ++ [⟨i, k⟩]) else (byC s.1, s.2)
def rowD (rare i : Nat) (s : Dr) : Nat → Dr
  | 0 => s
  | j + 1 => stepE rare i (i + 1 + j) (rowD rare i s j)
def allD (rare n : Nat) (s : Dr) : Nat → Dr
  | 0 => s
  | i + 1 => rowD rare i (allD rare n s i) (n - (i + 1))
structure DrOk (s : Dr) (m : Nat) : Prop where
  ok : s.1.ok
  len : s.2.length ≤ m
theorem stepE_ok {rare i k m : Nat} {s : Dr} (h : DrOk s m) : DrOk (stepE rare i k s) (m + 1) := by
  unfold stepE
  split
  · refine ⟨byC_ok h.ok, ?_⟩
    have := h.len
    show (s.2 ++ [_]).length ≤ m + 1
    rw [List.length_append, List.length_singleton]; omega
  · refine ⟨byC_ok h.ok, ?_⟩
    have := h.len
    show s.2.length ≤ m + 1
    omega
theorem rowD_ok {rare i m : Nat} {s : Dr} (h : DrOk s m) : ∀ j, DrOk (rowD rare i s j) (m + j)
  | 0 => h
  | j + 1 => stepE_ok (rowD_ok h j)
theorem allD_ok {rare n m : Nat} {s : Dr} (h : DrOk s m) : ∀ i, DrOk (allD rare n s i) (m + i * n)
  | 0 => by rw [Nat.zero_mul]; exact h
  | i + 1 => by
    have h1 := rowD_ok (rare := rare) (i := i) (allD_ok (rare := rare) (n := n) h i) (n - (i + 1))
    have h2 := h1.len
    refine ⟨h1.ok, ?_⟩
    show (rowD rare i (allD rare n s i) (n - (i + 1))).2.length ≤ _
    rw [Nat.add_mul, Nat.one_mul]; omega
def edN (c : Cur) : Nat := beV c 9
def edR (c : Cur) : Nat := 2 + beV (byC c) 4
def edS (c : Cur) : Dr := allD (edR c) (edN c) (byC (byC c), []) (edN c)
/-- One edge is spoilt, now and then. -/
def edE (c : Cur) : Dr :=
  let s := edS c
  if s.2.length = 0 then s
  else if onV s.1 12 then
    let c1 := byC s.1
    let i := beV c1 s.2.length
    let c2 := byC c1
    (byC c2, s.2.set i ⟨(s.2.getD i default).a, ((beV c2 (edN c + 2) : Nat) : Int) - 1⟩)
  else (byC s.1, s.2)
theorem l8Edges_sat (c : Cur) (hc : c.ok) : Sat Try.prog 103 [lCur c] [lInt (edN c), oEds (edE c).2] [lCur (edE c).1] := by
  refine sat_of_body mixed Try.func103 rfl (by kernel_rfl) (by kernel_rfl) (rs := [.tmp 2, .tmp 3]) rfl rfl rfl ?_
  have n1 := beV_lt c (n := 9) (by decide)
  have r1 := beV_lt (byC c) (n := 4) (by decide)
  have wr : IntKind.i64.wrap (2 + ((beV (byC c) 4 : Nat) : Int)) = ((edR c : Nat) : Int) := IntWalk.i64_in _ (by omega)
  have o0 : DrOk ((byC (byC c), []) : Dr) 0 := ⟨byC_ok (byC_ok hc), Nat.le_refl _⟩
  have hn : edN c < 9 := n1
  have hr : 0 < edR c ∧ edR c ≤ 256 := by unfold edR; omega
  simp -implicitDefEqProofs (maxSteps := 2000000) only [go_sem]
  refine call_of (l1Below_sat c 9 hc (by decide) (by decide)) (by simp -implicitDefEqProofs (maxSteps := 2000000) only [go_sem] <;> and_intros <;> rfl) (by kernel_rfl) (by simp -implicitDefEqProofs (maxSteps := 2000000) only [go_sem]) ?_
  simp -implicitDefEqProofs (maxSteps := 2000000) only [go_sem]
  refine call_of (l1Below_sat (byC c) 4 (byC_ok hc) (by decide) (by decide)) (by simp -implicitDefEqProofs (maxSteps := 2000000) only [go_sem, wr] <;> and_intros <;> rfl) (by kernel_rfl) (by simp -implicitDefEqProofs (maxSteps := 2000000) only [go_sem, wr]) ?_
  simp -implicitDefEqProofs (maxSteps := 2000000) only [go_sem, wr]
  rw [show beV c 9 = edN c from rfl]
  have hE : edS c = allD (edR c) (edN c) (byC (byC c), []) (edN c) := rfl
  unfold edE
  rw [hE]
  clear hE
  generalize edN c = n at hn ⊢
  generalize edR c = r at hr wr ⊢
  refine awp_loop Nat (fun i => mkSt [(0, .one (.vad 0 0)), (4, .sc (.int .i64 n)), (5, .one (.ref 960 2 0 (allD r n (byC (byC c), []) i).2.length)), (6, .sc (.int .i64 r)), (7, .sc (.int .i64 i))] [(0, sCur (allD r n (byC (byC c), []) i).1)] [(960, (2, eds (allD r n (byC (byC c), []) i).2))] 4000)
    (fun i => i ≤ n) (fun i => n - i) 0 (by omega) (le_st' _ _ [⟨960, some _, false, 2, _⟩] [] _ (by simp -implicitDefEqProofs (maxSteps := 2000000) only [go_sem, allD, List.length_nil] <;> and_intros <;> rfl) (by simp -implicitDefEqProofs (maxSteps := 2000000) only [go_sem, allD, List.length_nil] <;> and_intros <;> rfl) (by simp -implicitDefEqProofs (maxSteps := 2000000) only [go_sem, allD, List.length_nil] <;> and_intros <;> rfl) (by rfl)) ?_
  rintro i h1
  have oi := allD_ok (rare := r) (n := n) o0 i
  have hin : i * n ≤ 9 * 9 := Nat.mul_le_mul (by omega) (by omega)
  by_cases c1 : i < n
  · have wi : IntKind.i64.wrap ((i : Int) + 1) = ((i + 1 : Nat) : Int) := i64_succ (by omega)
    generalize hs : allD r n (byC (byC c), []) i = s at oi ⊢
    simp -implicitDefEqProofs (maxSteps := 2000000) only [go_sem, c1]
    refine awp_loop Nat (fun j => mkSt [(0, .one (.vad 0 0)), (4, .sc (.int .i64 n)), (5, .one (.ref 960 2 0 (rowD r i s j).2.length)), (6, .sc (.int .i64 r)), (7, .sc (.int .i64 i)), (8, .sc (.int .i64 ((i + 1 + j : Nat) : Int)))] [(0, sCur (rowD r i s j).1)] [(960, (2, eds (rowD r i s j).2))] 8000)
      (fun j => i + 1 + j ≤ n) (fun j => n - j) 0 (by omega) (le_st' _ _ [⟨960, some _, false, 2, _⟩] [] _ (by simp -implicitDefEqProofs (maxSteps := 2000000) only [go_sem, rowD, wi, Nat.add_zero] <;> and_intros <;> rfl) (by simp -implicitDefEqProofs (maxSteps := 2000000) only [go_sem, rowD, wi, Nat.add_zero] <;> and_intros <;> rfl) (by simp -implicitDefEqProofs (maxSteps := 2000000) only [go_sem, rowD, wi, Nat.add_zero] <;> and_intros <;> rfl) (by rfl)) ?_
    rintro j h2
    have oj := rowD_ok (rare := r) (i := i) oi j
    generalize hs2 : rowD r i s j = s2 at oj ⊢
    by_cases c2 : i + 1 + j < n
    · have wj : IntKind.i64.wrap (((i + 1 + j : Nat) : Int) + 1) = ((i + 1 + (j + 1) : Nat) : Int) := by rw [i64_succ (by omega)]; rfl
      rcases d : onV s2.1 r
      · simp -implicitDefEqProofs (maxSteps := 2000000) only [go_sem, c2]
        refine call_of (l1Once_sat s2.1 r oj.ok hr.1 hr.2) (by simp -implicitDefEqProofs (maxSteps := 2000000) only [go_sem, d]) (by kernel_rfl) (by simp -implicitDefEqProofs (maxSteps := 2000000) only [go_sem, d]) ?_
        simp -implicitDefEqProofs (maxSteps := 2000000) only [go_sem, d]
        rw [wj]
        refine ⟨j + 1, c2, by omega, ?_⟩
        exact (le_st' _ _ [⟨960, some _, false, 2, _⟩] [] _ (by simp -implicitDefEqProofs (maxSteps := 2000000) only [go_sem, rowD, hs2, stepE, d] <;> and_intros <;> rfl) (by simp -implicitDefEqProofs (maxSteps := 2000000) only [go_sem, rowD, hs2, stepE, d] <;> and_intros <;> rfl) (by simp -implicitDefEqProofs (maxSteps := 2000000) only [go_sem, rowD, hs2, stepE, d] <;> and_intros <;> rfl) (by rfl))
      · simp -implicitDefEqProofs (maxSteps := 2000000) only [go_sem, c2]
        refine call_of (l1Once_sat s2.1 r oj.ok hr.1 hr.2) (by simp -implicitDefEqProofs (maxSteps := 2000000) only [go_sem, d]) (by kernel_rfl) (by simp -implicitDefEqProofs (maxSteps := 2000000) only [go_sem, d]) ?_
        simp -implicitDefEqProofs (maxSteps := 2000000) only [go_sem, d]
        have hl2 := oj.len
        refine ⟨by omega, ?_⟩
        rw [wj]
        refine ⟨j + 1, c2, by omega, ?_⟩
        exact (le_st' _ _ [⟨960, some _, false, 2, _⟩] [] _ (by simp -implicitDefEqProofs (maxSteps := 2000000) only [go_sem, rowD, hs2, stepE, d] <;> and_intros <;> rfl) (by simp -implicitDefEqProofs (maxSteps := 2000000) only [go_sem, rowD, hs2, stepE, d] <;> and_intros <;> rfl) (by simp -implicitDefEqProofs (maxSteps := 2000000) only [go_sem, rowD, hs2, stepE, d] <;> and_intros <;> rfl) (by rfl))
    · obtain rfl : n = i + 1 + j := by omega
      simp -implicitDefEqProofs (maxSteps := 2000000) only [go_sem, c2]
      rw [wi]
      refine ⟨i + 1, c1, by omega, ?_⟩
      rw [allD, hs, show i + 1 + j - (i + 1) = j by omega, hs2]
      exact (le_st' _ _ [⟨960, some _, false, 2, _⟩] [] _ (by simp -implicitDefEqProofs (maxSteps := 2000000) only [go_sem] <;> and_intros <;> rfl) (by simp -implicitDefEqProofs (maxSteps := 2000000) only [go_sem] <;> and_intros <;> rfl) (by simp -implicitDefEqProofs (maxSteps := 2000000) only [go_sem] <;> and_intros <;> rfl) (by rfl))
  · obtain rfl : i = n := by omega
    generalize hs : allD r i (byC (byC c), []) i = s at oi ⊢
    have hl := oi.len
    by_cases hz : s.2.length = 0
    · rw [if_pos hz]
      have d1 : decide (((s.2.length : Nat) : Int) > 0) = false := decide_eq_false (by omega)
      simp -implicitDefEqProofs (maxSteps := 2000000) only [go_sem, c1, d1]
      rfl
    · rw [if_neg hz]
      have d1 : decide (((s.2.length : Nat) : Int) > 0) = true := decide_eq_true (by omega)
      rcases d : onV s.1 12
      · simp -implicitDefEqProofs (maxSteps := 2000000) only [go_sem, c1, d1]
        refine call_of (l1Once_sat s.1 12 oi.ok (by decide) (by decide)) (by simp -implicitDefEqProofs (maxSteps := 2000000) only [go_sem, d] <;> and_intros <;> rfl) (by kernel_rfl) (by simp -implicitDefEqProofs (maxSteps := 2000000) only [go_sem, d]) ?_
        simp -implicitDefEqProofs (maxSteps := 2000000) only [go_sem, d]
        rfl
      · simp -implicitDefEqProofs (maxSteps := 2000000) only [go_sem, c1, d1]
        have b1 := beV_lt (byC s.1) (n := s.2.length) (by omega)
        have b2 := beV_lt (byC (byC s.1)) (n := i + 2) (by omega)
        have wn : IntKind.i64.wrap ((i : Int) + 2) = ((i + 2 : Nat) : Int) := by rw [IntWalk.i64_in _ (by omega)]; rfl
        have wm : IntKind.i64.wrap (((beV (byC (byC s.1)) (i + 2) : Nat) : Int) - 1) = ((beV (byC (byC s.1)) (i + 2) : Nat) : Int) - 1 := IntWalk.i64_in _ (by omega)
        refine call_of (l1Once_sat s.1 12 oi.ok (by decide) (by decide)) (by simp -implicitDefEqProofs (maxSteps := 2000000) only [go_sem, d] <;> and_intros <;> rfl) (by kernel_rfl) (by simp -implicitDefEqProofs (maxSteps := 2000000) only [go_sem, d]) ?_
        simp -implicitDefEqProofs (maxSteps := 2000000) only [go_sem, d]
        refine call_of (l1Below_sat (byC s.1) s.2.length (byC_ok oi.ok) (by omega) (by omega)) (by simp -implicitDefEqProofs (maxSteps := 2000000) only [go_sem, wn]) (by kernel_rfl) (by simp -implicitDefEqProofs (maxSteps := 2000000) only [go_sem, wn]) ?_
        simp -implicitDefEqProofs (maxSteps := 2000000) only [go_sem, wn]
        refine call_of (l1Below_sat (byC (byC s.1)) (i + 2) (byC_ok (byC_ok oi.ok)) (by omega) (by omega)) (by simp -implicitDefEqProofs (maxSteps := 2000000) only [go_sem, b1, wm]) (by kernel_rfl) (by simp -implicitDefEqProofs (maxSteps := 2000000) only [go_sem, b1, wm]) ?_
        simp -implicitDefEqProofs (maxSteps := 2000000) only [go_sem, b1, wm]
        rfl
abbrev Ds := Cur × List Int
def stepS (l : List Edge) (x : Nat) (s : Ds) : Ds :=
  if onV s.1 2 then (if onV (byC s.1) 8 || fitsE l s.2 x then (byC (byC s.1), s.2 ++ [(x : Int)]) else (byC (byC s.1), s.2)) else (byC s.1, s.2)
def somD (l : List Edge) (s : Ds) : Nat → Ds
  | 0 => s
  | x + 1 => stepS l x (somD l s x)
structure DsOk (s : Ds) (m : Nat) : Prop where
  ok : s.1.ok
  len : s.2.length ≤ m
theorem stepS_ok {l : List Edge} {x m : Nat} {s : Ds} (h : DsOk s m) : DsOk (stepS l x s) (m + 1) := by
  have := h.len
  unfold stepS
  split
  · split
    · exact ⟨byC_ok (byC_ok h.ok), by show (s.2 ++ [_]).length ≤ m + 1; rw [List.length_append, List.length_singleton]; omega⟩
    · exact ⟨byC_ok (byC_ok h.ok), by show s.2.length ≤ m + 1; omega⟩
  · exact ⟨byC_ok h.ok, by show s.2.length ≤ m + 1; omega⟩
theorem somD_ok {l : List Edge} {m : Nat} {s : Ds} (h : DsOk s m) : ∀ x, DsOk (somD l s x) (m + x)
  | 0 => h
  | x + 1 => stepS_ok (somD_ok h x)
def somE (c : Cur) (n : Nat) (l : List Edge) : Ds :=
  let s := somD l (c, []) n
  (byC s.1, if onV s.1 12 then s.2 ++ [(n : Int)] else s.2)
theorem l8Some_sat (c : Cur) (n : Nat) (l : List Edge) (hc : c.ok) (hn : n ≤ 64) (hl : l.length ≤ 9223372036854775807) : Sat Try.prog 104 [lCur c, lInt n, lEds l] [oInts (somE c n l).2] [lCur (somE c n l).1, g1, g1] := by
  refine sat_of_body mixed Try.func104 rfl (by kernel_rfl) (by kernel_rfl) (rs := [.tmp 6]) rfl rfl rfl ?_
  have o0 : DsOk ((c, []) : Ds) 0 := ⟨hc, Nat.le_refl _⟩
  simp -implicitDefEqProofs (maxSteps := 2000000) only [go_sem]
  refine awp_loop Nat (fun x => mkSt [(0, .one (.vad 0 0)), (1, .sc (.int .i64 n)), (2, .one (.im 2 (eds l))), (7, .one (.ref 960 1 0 (somD l (c, []) x).2.length)), (8, .sc (.int .i64 x))] [(0, sCur (somD l (c, []) x).1)] [(960, (1, ints (somD l (c, []) x).2))] 4000)
    (fun x => x ≤ n) (fun x => n - x) 0 (by omega) (le_st' _ _ [⟨960, some _, false, 1, _⟩] [] _ (by simp -implicitDefEqProofs (maxSteps := 2000000) only [go_sem, somD, List.length_nil] <;> and_intros <;> rfl) (by simp -implicitDefEqProofs (maxSteps := 2000000) only [go_sem, somD, List.length_nil] <;> and_intros <;> rfl) (by simp -implicitDefEqProofs (maxSteps := 2000000) only [go_sem, somD, List.length_nil] <;> and_intros <;> rfl) (by rfl)) ?_
  rintro x h1
  have ox := somD_ok (l := l) o0 x
  by_cases c1 : x < n
  · have wx : IntKind.i64.wrap ((x : Int) + 1) = ((x + 1 : Nat) : Int) := i64_succ (by omega)
    generalize hs : somD l (c, []) x = s at ox ⊢
    have hsl := ox.len
    rcases d1 : onV s.1 2
    · simp -implicitDefEqProofs (maxSteps := 2000000) only [go_sem, c1]
      refine call_of (l1Once_sat s.1 2 ox.ok (by decide) (by decide)) (by simp -implicitDefEqProofs (maxSteps := 2000000) only [go_sem, d1] <;> and_intros <;> rfl) (by kernel_rfl) (by simp -implicitDefEqProofs (maxSteps := 2000000) only [go_sem, d1]) ?_
      simp -implicitDefEqProofs (maxSteps := 2000000) only [go_sem, d1]
      rw [wx]
      refine ⟨x + 1, c1, by omega, ?_⟩
      exact (le_st' _ _ [⟨960, some _, false, 1, _⟩] [] _ (by simp -implicitDefEqProofs (maxSteps := 2000000) only [go_sem, somD, hs, stepS, d1] <;> and_intros <;> rfl) (by simp -implicitDefEqProofs (maxSteps := 2000000) only [go_sem, somD, hs, stepS, d1] <;> and_intros <;> rfl) (by simp -implicitDefEqProofs (maxSteps := 2000000) only [go_sem, somD, hs, stepS, d1] <;> and_intros <;> rfl) (by rfl))
    · rcases d2 : onV (byC s.1) 8
      · rcases d3 : fitsE l s.2 x
        · simp -implicitDefEqProofs (maxSteps := 2000000) only [go_sem, c1]
          refine call_of (l1Once_sat s.1 2 ox.ok (by decide) (by decide)) (by simp -implicitDefEqProofs (maxSteps := 2000000) only [go_sem, d1] <;> and_intros <;> rfl) (by kernel_rfl) (by simp -implicitDefEqProofs (maxSteps := 2000000) only [go_sem, d1]) ?_
          simp -implicitDefEqProofs (maxSteps := 2000000) only [go_sem, d1]
          refine call_of (l1Once_sat (byC s.1) 8 (byC_ok ox.ok) (by decide) (by decide)) (by simp -implicitDefEqProofs (maxSteps := 2000000) only [go_sem, d2] <;> and_intros <;> rfl) (by kernel_rfl) (by simp -implicitDefEqProofs (maxSteps := 2000000) only [go_sem, d2]) ?_
          simp -implicitDefEqProofs (maxSteps := 2000000) only [go_sem, d2]
          refine call_of (l8Fits_sat l s.2 x hl (by omega)) (by simp -implicitDefEqProofs (maxSteps := 2000000) only [go_sem, d3]) (by kernel_rfl) (by simp -implicitDefEqProofs (maxSteps := 2000000) only [go_sem, d3]) ?_
          simp -implicitDefEqProofs (maxSteps := 2000000) only [go_sem, d3]
          rw [wx]
          refine ⟨x + 1, c1, by omega, ?_⟩
          exact (le_st' _ _ [⟨960, some _, false, 1, _⟩] [] _ (by simp -implicitDefEqProofs (maxSteps := 2000000) only [go_sem, somD, hs, stepS, d1, d2, d3, Bool.or_self] <;> and_intros <;> rfl) (by simp -implicitDefEqProofs (maxSteps := 2000000) only [go_sem, somD, hs, stepS, d1, d2, d3, Bool.or_self] <;> and_intros <;> rfl) (by simp -implicitDefEqProofs (maxSteps := 2000000) only [go_sem, somD, hs, stepS, d1, d2, d3, Bool.or_self] <;> and_intros <;> rfl) (by rfl))
        · simp -implicitDefEqProofs (maxSteps := 2000000) only [go_sem, c1]
          refine call_of (l1Once_sat s.1 2 ox.ok (by decide) (by decide)) (by simp -implicitDefEqProofs (maxSteps := 2000000) only [go_sem, d1] <;> and_intros <;> rfl) (by kernel_rfl) (by simp -implicitDefEqProofs (maxSteps := 2000000) only [go_sem, d1]) ?_
          simp -implicitDefEqProofs (maxSteps := 2000000) only [go_sem, d1]
          refine call_of (l1Once_sat (byC s.1) 8 (byC_ok ox.ok) (by decide) (by decide)) (by simp -implicitDefEqProofs (maxSteps := 2000000) only [go_sem, d2] <;> and_intros <;> rfl) (by kernel_rfl) (by simp -implicitDefEqProofs (maxSteps := 2000000) only [go_sem, d2]) ?_
          simp -implicitDefEqProofs (maxSteps := 2000000) only [go_sem, d2]
          refine call_of (l8Fits_sat l s.2 x hl (by omega)) (by simp -implicitDefEqProofs (maxSteps := 2000000) only [go_sem, d3]) (by kernel_rfl) (by simp -implicitDefEqProofs (maxSteps := 2000000) only [go_sem, d3]) ?_
          simp -implicitDefEqProofs (maxSteps := 2000000) only [go_sem, d3]
          refine ⟨by omega, ?_⟩
          rw [wx]
          refine ⟨x + 1, c1, by omega, ?_⟩
          exact (le_st' _ _ [⟨960, some _, false, 1, _⟩] [] _ (by simp -implicitDefEqProofs (maxSteps := 2000000) only [go_sem, somD, hs, stepS, d1, d2, d3, Bool.or_true] <;> and_intros <;> rfl) (by simp -implicitDefEqProofs (maxSteps := 2000000) only [go_sem, somD, hs, stepS, d1, d2, d3, Bool.or_true] <;> and_intros <;> rfl) (by simp -implicitDefEqProofs (maxSteps := 2000000) only [go_sem, somD, hs, stepS, d1, d2, d3, Bool.or_true] <;> and_intros <;> rfl) (by rfl))
      · simp -implicitDefEqProofs (maxSteps := 2000000) only [go_sem, c1]
        refine call_of (l1Once_sat s.1 2 ox.ok (by decide) (by decide)) (by simp -implicitDefEqProofs (maxSteps := 2000000) only [go_sem, d1] <;> and_intros <;> rfl) (by kernel_rfl) (by simp -implicitDefEqProofs (maxSteps := 2000000) only [go_sem, d1]) ?_
        simp -implicitDefEqProofs (maxSteps := 2000000) only [go_sem, d1]
        refine call_of (l1Once_sat (byC s.1) 8 (byC_ok ox.ok) (by decide) (by decide)) (by simp -implicitDefEqProofs (maxSteps := 2000000) only [go_sem, d2] <;> and_intros <;> rfl) (by kernel_rfl) (by simp -implicitDefEqProofs (maxSteps := 2000000) only [go_sem, d2]) ?_
        simp -implicitDefEqProofs (maxSteps := 2000000) only [go_sem, d2]
        refine ⟨by omega, ?_⟩
        rw [wx]
        refine ⟨x + 1, c1, by omega, ?_⟩
        exact (le_st' _ _ [⟨960, some _, false, 1, _⟩] [] _ (by simp -implicitDefEqProofs (maxSteps := 2000000) only [go_sem, somD, hs, stepS, d1, d2, Bool.true_or] <;> and_intros <;> rfl) (by simp -implicitDefEqProofs (maxSteps := 2000000) only [go_sem, somD, hs, stepS, d1, d2, Bool.true_or] <;> and_intros <;> rfl) (by simp -implicitDefEqProofs (maxSteps := 2000000) only [go_sem, somD, hs, stepS, d1, d2, Bool.true_or] <;> and_intros <;> rfl) (by rfl))
  · obtain rfl : x = n := by omega
    unfold somE
    generalize somD l (c, []) x = s at ox ⊢
    have hsl := ox.len
    rcases d1 : onV s.1 12
    · simp -implicitDefEqProofs (maxSteps := 2000000) only [go_sem, c1]
      refine call_of (l1Once_sat s.1 12 ox.ok (by decide) (by decide)) (by simp -implicitDefEqProofs (maxSteps := 2000000) only [go_sem, d1] <;> and_intros <;> rfl) (by kernel_rfl) (by simp -implicitDefEqProofs (maxSteps := 2000000) only [go_sem, d1]) ?_
      simp -implicitDefEqProofs (maxSteps := 2000000) only [go_sem, d1]
      rfl
    · simp -implicitDefEqProofs (maxSteps := 2000000) only [go_sem, c1]
      refine call_of (l1Once_sat s.1 12 ox.ok (by decide) (by decide)) (by simp -implicitDefEqProofs (maxSteps := 2000000) only [go_sem, d1] <;> and_intros <;> rfl) (by kernel_rfl) (by simp -implicitDefEqProofs (maxSteps := 2000000) only [go_sem, d1]) ?_
      simp -implicitDefEqProofs (maxSteps := 2000000) only [go_sem, d1]
      exact ⟨by omega, rfl⟩
end Go.Proofs.Ytahjpaicfppkoaa.A


/- ALL MAXIMAL INDEPENDENT SETS: the plain law. Conditions: none. (No program in sight but the names.) -/
namespace Go.Proofs.Ytahjpaicfppkoaa.A
open Go
set_option linter.unusedSimpArgs false
set_option linter.unusedVariables false

theorem upTo_all {p : Nat → Bool} : ∀ {n : Nat}, (∀ k, k < n → p k = true) → upTo p n = true
  | 0, _ => rfl
  | n + 1, h => upTo_step (upTo_all fun k hk => h k (by omega)) (h n (by omega))
/-- Is a number an end of an edge. -/
def metE (l : List Edge) (x : Int) : Bool := l.any fun e => (e.a == x) || (e.b == x)
/-- The search of the program, m numbers left. -/
def walkI (n : Nat) (l : List Edge) : Nat → List Int → List (List Int)
  | 0, s => if isMax n l s then [s] else []
  | m + 1, s => (if indep l (s ++ [((n - (m + 1) : Nat) : Int)]) then walkI n l m (s ++ [((n - (m + 1) : Nat) : Int)]) else []) ++ walkI n l m s
/-- The search of the reference. -/
def walkS (n : Nat) (l : List Edge) : Nat → List Int → List (List Int)
  | 0, s => if isMax n l s then [s] else []
  | m + 1, s => (if fitsE l s ((n - (m + 1) : Nat) : Int) then walkS n l m (s ++ [((n - (m + 1) : Nat) : Int)]) else []) ++ (if metE l ((n - (m + 1) : Nat) : Int) then walkS n l m s else [])
theorem walkI_len (n : Nat) (l : List Edge) : ∀ (m : Nat) (s : List Int), (walkI n l m s).length ≤ 2 ^ m
  | 0, s => by unfold walkI; split <;> simp
  | m + 1, s => by
    have h1 := walkI_len n l m (s ++ [((n - (m + 1) : Nat) : Int)])
    have h2 := walkI_len n l m s
    unfold walkI
    rw [List.length_append, Nat.pow_succ]
    split
    · omega
    · simp; omega
/-- A number that no edge meets joins any independent set. -/
theorem indep_join {l : List Edge} {s : List Int} {x : Int} (h : indep l s = true) (hx : metE l x = false) : indep l (s ++ [x]) = true := by
  unfold indep
  refine upTo_all fun k hk => ?_
  have h1 := upTo_at h hk
  have h2 : ((l.getD k default).a == x) = false ∧ ((l.getD k default).b == x) = false := by
    unfold metE at hx
    rw [List.any_eq_false] at hx
    have := hx _ (mem_getD default hk)
    simpa using this
  unfold edNo at h1 ⊢
  have n1 : (l.getD k default).a ≠ x := by simpa using h2.1
  have n2 : (l.getD k default).b ≠ x := by simpa using h2.2
  rw [Bool.not_eq_true'] at h1 ⊢
  rw [← h1]
  congr 1
  · rw [Bool.eq_iff_iff, decide_eq_true_iff, decide_eq_true_iff, List.mem_append, List.mem_singleton]
    exact ⟨fun h => h.resolve_right n1, .inl⟩
  · rw [Bool.eq_iff_iff, decide_eq_true_iff, decide_eq_true_iff, List.mem_append, List.mem_singleton]
    exact ⟨fun h => h.resolve_right n2, .inl⟩
theorem isMax_not {n : Nat} {l : List Edge} {s : List Int} {x : Nat} (hx : x < n) (hm : metE l x = false) (hs : (x : Int) ∉ s) : isMax n l s = false := by
  rcases h : isMax n l s
  · rfl
  · unfold isMax at h
    simp only [Bool.and_eq_true] at h
    obtain ⟨_, _, h3, h4⟩ := h
    have := upTo_at h4 (show x < ((n : Nat) : Int).toNat by omega)
    rw [fitsE, indep_join h3 hm, decide_eq_false hs] at this
    cases this
/-- Where such a number has been left out nothing is found. -/
theorem walkI_none {n : Nat} {l : List Edge} {x : Nat} (hx : x < n) (hm : metE l x = false) : ∀ (m : Nat) (s : List Int), m + x + 1 ≤ n → (x : Int) ∉ s → walkI n l m s = []
  | 0, s, _, hs => by rw [walkI, isMax_not hx hm hs]; rfl
  | m + 1, s, hle, hs => by
    have h2 := walkI_none hx hm m s (by omega) hs
    have h1 := walkI_none hx hm m (s ++ [((n - (m + 1) : Nat) : Int)]) (by omega) (by
      rw [List.mem_append, List.mem_singleton]
      rintro (h | h)
      · exact hs h
      · omega)
    rw [walkI, h1, h2]
    split <;> rfl
theorem walk_same {n : Nat} {l : List Edge} : ∀ (m : Nat) (s : List Int), m ≤ n → (∀ y ∈ s, y < ((n - m : Nat) : Int)) → walkS n l m s = walkI n l m s
  | 0, s, _, _ => rfl
  | m + 1, s, hle, hs => by
    have hn : ((n - (m + 1) : Nat) : Int) ∉ s := fun h => by have := hs _ h; omega
    have h1 := walk_same (n := n) (l := l) m (s ++ [((n - (m + 1) : Nat) : Int)]) (by omega) (by
      intro y hy
      rw [List.mem_append, List.mem_singleton] at hy
      rcases hy with hy | rfl
      · have := hs y hy; omega
      · omega)
    have h2 := walk_same (n := n) (l := l) m s (by omega) (fun y hy => by have := hs y hy; omega)
    rw [walkS, walkI, fitsE, decide_eq_false hn, Bool.not_false, Bool.true_and, h1, h2]
    congr 1
    rcases hm : metE l ((n - (m + 1) : Nat) : Int)
    · rw [walkI_none (x := n - (m + 1)) (by omega) hm m s (by omega) hn]; rfl
    · rfl
def mis (n : Int) (l : List Edge) : List (List Int) := if goodEds n l then walkI n.toNat l n.toNat [] else []
theorem goodEds_n {n : Int} {l : List Edge} (g : goodEds n l = true) : 0 ≤ n ∧ n ≤ 14 := by
  unfold goodEds at g
  rw [Bool.and_eq_true] at g
  exact inB_of g.1
theorem mis_len (n : Int) (l : List Edge) : (mis n l).length ≤ 16384 := by
  unfold mis
  split
  · rename_i g
    have := goodEds_n g
    have h := walkI_len n.toNat l n.toNat []
    have : 2 ^ n.toNat ≤ 2 ^ 14 := Nat.pow_le_pow_right (by omega) (by omega)
    omega
  · simp
/-- What is found is no longer than the numbers that there are. -/
theorem walkI_mem (n : Nat) (l : List Edge) : ∀ (m : Nat) (s : List Int), ∀ t ∈ walkI n l m s, t.length ≤ s.length + m
  | 0, s, t, ht => by
    unfold walkI at ht
    split at ht
    · simp at ht; subst ht; omega
    · cases ht
  | m + 1, s, t, ht => by
    unfold walkI at ht
    rw [List.mem_append] at ht
    rcases ht with ht | ht
    · split at ht
      · have := walkI_mem n l m _ t ht
        simp only [List.length_append, List.length_singleton] at this
        omega
      · cases ht
    · have := walkI_mem n l m s t ht
      omega
theorem mis_small {n : Int} {l : List Edge} : ∀ t ∈ mis n l, t.length ≤ 14 := by
  intro t ht
  unfold mis at ht
  split at ht
  · rename_i g
    have := goodEds_n g
    have := walkI_mem _ _ _ _ t ht
    simp only [List.length_nil] at this
    omega
  · cases ht
end Go.Proofs.Ytahjpaicfppkoaa.A


/- ALL MAXIMAL INDEPENDENT SETS: the two programs. Conditions: none. -/
namespace Go.Proofs.Ytahjpaicfppkoaa.A
open Go
set_option linter.unusedSimpArgs false
set_option linter.unusedVariables false
set_option maxRecDepth 100000

theorem any_stepM {α : Type} {d : α} {l : List α} {k : Nat} {p : α → Bool} (h : k < l.length) : (l.take (k + 1)).any p = ((l.take k).any p || p (l.getD k d)) := by
  rw [take_snoc d h, List.any_append]; simp
theorem walkS_len (n : Nat) (l : List Edge) : ∀ (m : Nat) (s : List Int), (walkS n l m s).length ≤ 2 ^ m
  | 0, s => by unfold walkS; split <;> simp
  | m + 1, s => by
    have h1 := walkS_len n l m (s ++ [((n - (m + 1) : Nat) : Int)])
    have h2 := walkS_len n l m s
    unfold walkS
    rw [List.length_append, Nat.pow_succ]
    split <;> split <;> simp <;> omega
theorem pow14 {m : Nat} (h : m ≤ 14) : 2 ^ m ≤ 16384 := Nat.pow_le_pow_right (by omega) h
theorem ints_nilf : (ints [] = frz []) = True := eq_true rfl
attribute [go_sem] ints_nilf
theorem rst_two (a b : List (List Int)) : rst (iss 999 a ++ iss 1 b) = iss 1 (a ++ b) := by
  rw [show ∀ x y : Rows, rst (x ++ y) = rst x ++ rst y from fun x y => List.map_append .., iss_rst 998, iss_rst 0, iss_append]
set_option maxHeartbeats 4000000 in
theorem l8Walk_step (n : Nat) (l : List Edge) (s : List Int) (x x' : Int) (o1 o2 : List (List Int)) (hn : n ≤ 14) (hl : l.length ≤ 9223372036854775807) (hs : s.length ≤ 14) (wx : IntKind.i64.wrap (x + 1) = x') (ne : (x == (n : Int)) = false) (b1 : o1.length ≤ 16384) (b2 : o2.length ≤ 16384)
    (ih1 : Sat Try.prog 76 [lInt n, lEds l, lInts (s ++ [x]), lInt x'] [oISS o1] [g1, g1, g1, g1]) (ih2 : Sat Try.prog 76 [lInt n, lEds l, lInts s, lInt x'] [oISS o2] [g1, g1, g1, g1]) :
    Sat Try.prog 76 [lInt n, lEds l, lInts s, lInt x] [oISS ((if fitsE l s x then o1 else []) ++ (if metE l x then o2 else []))] [g1, g1, g1, g1] := by
  refine sat_of_body mixed Try.func76 rfl (by kernel_rfl) (by kernel_rfl) (rs := [.tmp 8]) rfl rfl rfl ?_
  rcases d : fitsE l s x
  · rw [if_neg (by simp)]
    simp -implicitDefEqProofs (maxSteps := 2000000) only [go_sem, ne]
    refine call_of (l8Fits_sat l s x hl (by omega)) (by simp -implicitDefEqProofs (maxSteps := 2000000) only [go_sem, d]) (by kernel_rfl) (by simp -implicitDefEqProofs (maxSteps := 2000000) only [go_sem, d]) ?_
    simp -implicitDefEqProofs (maxSteps := 2000000) only [go_sem, d]
    refine awp_loop Nat (fun k => mkSt [(0, .sc (.int .i64 n)), (1, .one (.im 2 (eds l))), (2, .one (.im 1 (ints s))), (3, .sc (.int .i64 x)), (9, .one (.ref 960 1 0 0)), (10, .sc (.bool ((l.take k).any fun e => (e.a == x) || (e.b == x)))), (11, .sc (.int .i64 k))] [] [(960, (1, iss 999 []))] 4000)
      (fun k => k ≤ l.length) (fun k => l.length - k) 0 (by omega) (le_st' _ _ [⟨960, some _, false, 1, _⟩] [] _ (by simp -implicitDefEqProofs (maxSteps := 2000000) only [go_sem, List.take_zero, List.any_nil] <;> and_intros <;> rfl) (by simp -implicitDefEqProofs (maxSteps := 2000000) only [go_sem, List.take_zero, List.any_nil] <;> and_intros <;> rfl) (by simp -implicitDefEqProofs (maxSteps := 2000000) only [go_sem, List.take_zero, List.any_nil] <;> and_intros <;> rfl) (by rfl)) ?_
    rintro k h3
    by_cases c1 : k < l.length
    · have st := any_stepM (d := default) (p := fun e : Edge => (e.a == x) || (e.b == x)) c1
      have wk : IntKind.i64.wrap ((k : Int) + 1) = ((k + 1 : Nat) : Int) := i64_succ (by omega)
      rcases d1 : ((l.take k).any fun e => (e.a == x) || (e.b == x))
      · rcases d2 : (l.getD k default).a == x
        · simp -implicitDefEqProofs (maxSteps := 2000000) only [go_sem, c1, d2]
          rw [wk]
          refine ⟨k + 1, c1, by omega, ?_⟩
          rw [st, d1, d2, Bool.false_or, Bool.false_or]
          exact (le_st' _ _ [⟨960, some _, false, 1, _⟩] [] _ (by simp -implicitDefEqProofs (maxSteps := 2000000) only [go_sem] <;> and_intros <;> rfl) (by simp -implicitDefEqProofs (maxSteps := 2000000) only [go_sem] <;> and_intros <;> rfl) (by simp -implicitDefEqProofs (maxSteps := 2000000) only [go_sem] <;> and_intros <;> rfl) (by rfl))
        · simp -implicitDefEqProofs (maxSteps := 2000000) only [go_sem, c1, d2]
          rw [wk]
          refine ⟨k + 1, c1, by omega, ?_⟩
          rw [st, d1, d2, Bool.false_or, Bool.true_or]
          exact (le_st' _ _ [⟨960, some _, false, 1, _⟩] [] _ (by simp -implicitDefEqProofs (maxSteps := 2000000) only [go_sem] <;> and_intros <;> rfl) (by simp -implicitDefEqProofs (maxSteps := 2000000) only [go_sem] <;> and_intros <;> rfl) (by simp -implicitDefEqProofs (maxSteps := 2000000) only [go_sem] <;> and_intros <;> rfl) (by rfl))
      · simp -implicitDefEqProofs (maxSteps := 2000000) only [go_sem, c1]
        rw [wk]
        refine ⟨k + 1, c1, by omega, ?_⟩
        rw [st, d1, Bool.true_or]
        exact (le_st' _ _ [⟨960, some _, false, 1, _⟩] [] _ (by simp -implicitDefEqProofs (maxSteps := 2000000) only [go_sem] <;> and_intros <;> rfl) (by simp -implicitDefEqProofs (maxSteps := 2000000) only [go_sem] <;> and_intros <;> rfl) (by simp -implicitDefEqProofs (maxSteps := 2000000) only [go_sem] <;> and_intros <;> rfl) (by rfl))
    · obtain rfl : k = l.length := by omega
      rw [List.take_length, show (l.any fun e => (e.a == x) || (e.b == x)) = metE l x from rfl]
      rcases d3 : metE l x
      · simp -implicitDefEqProofs (maxSteps := 2000000) only [go_sem, c1]
        first | done | rfl | exact ⟨rfl, rfl⟩ | exact ⟨rfl, rfl, rfl⟩ | (refine tr_and ?_ ?_ <;> first | rfl | exact ⟨rfl, rfl⟩ | kernel_rfl)
      · simp -implicitDefEqProofs (maxSteps := 2000000) only [go_sem, c1]
        rw [wx]
        refine call_of (ih2) (by simp -implicitDefEqProofs (maxSteps := 2000000) only [go_sem]) (by kernel_rfl) (by simp -implicitDefEqProofs (maxSteps := 2000000) only [go_sem]) ?_
        simp -implicitDefEqProofs (maxSteps := 2000000) only [go_sem]
        split
        · exact ⟨by omega, (rst_two [] o2).symm, by kernel_rfl⟩
        · exact ⟨by omega, (rst_two [] o2).symm, by kernel_rfl⟩
  · rw [if_pos rfl]
    simp -implicitDefEqProofs (maxSteps := 2000000) only [go_sem, ne]
    refine call_of (l8Fits_sat l s x hl (by omega)) (by simp -implicitDefEqProofs (maxSteps := 2000000) only [go_sem, d]) (by kernel_rfl) (by simp -implicitDefEqProofs (maxSteps := 2000000) only [go_sem, d]) ?_
    simp -implicitDefEqProofs (maxSteps := 2000000) only [go_sem, d]
    repeat (refine ⟨by omega, ?_⟩)
    rw [wx]
    refine call_of (ih1) (by simp -implicitDefEqProofs (maxSteps := 2000000) only [go_sem]) (callOk_still (by kernel_rfl) (by simp only [List.all_cons, List.all_nil, LV.still, LV.leaves, Leaf.still, ints_still, ris_still, eds_still, rels_still, iss_still, ems_still, Bool.and_self, Bool.and_true])) (by simp -implicitDefEqProofs (maxSteps := 2000000) only [go_sem]) ?_
    simp -implicitDefEqProofs (maxSteps := 2000000) only [go_sem]
    refine awp_loop Nat (fun k => mkSt [(0, .sc (.int .i64 n)), (1, .one (.im 2 (eds l))), (2, .one (.im 1 (ints s))), (3, .sc (.int .i64 x)), (9, .one (.ref 960 1 0 o1.length)), (10, .sc (.bool ((l.take k).any fun e => (e.a == x) || (e.b == x)))), (11, .sc (.int .i64 k))] [] [(960, (1, iss 999 o1))] 4000)
      (fun k => k ≤ l.length) (fun k => l.length - k) 0 (by omega) (le_st' _ _ [⟨960, some _, false, 1, _⟩] [] _ (by simp -implicitDefEqProofs (maxSteps := 2000000) only [go_sem, List.take_zero, List.any_nil] <;> and_intros <;> rfl) (by simp -implicitDefEqProofs (maxSteps := 2000000) only [go_sem, List.take_zero, List.any_nil] <;> and_intros <;> rfl) (by simp -implicitDefEqProofs (maxSteps := 2000000) only [go_sem, List.take_zero, List.any_nil] <;> and_intros <;> rfl) (by rfl)) ?_
    rintro k h3
    by_cases c1 : k < l.length
    · have st := any_stepM (d := default) (p := fun e : Edge => (e.a == x) || (e.b == x)) c1
      have wk : IntKind.i64.wrap ((k : Int) + 1) = ((k + 1 : Nat) : Int) := i64_succ (by omega)
      rcases d1 : ((l.take k).any fun e => (e.a == x) || (e.b == x))
      · rcases d2 : (l.getD k default).a == x
        · simp -implicitDefEqProofs (maxSteps := 2000000) only [go_sem, c1, d2]
          rw [wk]
          refine ⟨k + 1, c1, by omega, ?_⟩
          rw [st, d1, d2, Bool.false_or, Bool.false_or]
          exact (le_st' _ _ [⟨960, some _, false, 1, _⟩] [] _ (by simp -implicitDefEqProofs (maxSteps := 2000000) only [go_sem] <;> and_intros <;> rfl) (by simp -implicitDefEqProofs (maxSteps := 2000000) only [go_sem] <;> and_intros <;> rfl) (by simp -implicitDefEqProofs (maxSteps := 2000000) only [go_sem] <;> and_intros <;> rfl) (by rfl))
        · simp -implicitDefEqProofs (maxSteps := 2000000) only [go_sem, c1, d2]
          rw [wk]
          refine ⟨k + 1, c1, by omega, ?_⟩
          rw [st, d1, d2, Bool.false_or, Bool.true_or]
          exact (le_st' _ _ [⟨960, some _, false, 1, _⟩] [] _ (by simp -implicitDefEqProofs (maxSteps := 2000000) only [go_sem] <;> and_intros <;> rfl) (by simp -implicitDefEqProofs (maxSteps := 2000000) only [go_sem] <;> and_intros <;> rfl) (by simp -implicitDefEqProofs (maxSteps := 2000000) only [go_sem] <;> and_intros <;> rfl) (by rfl))
      · simp -implicitDefEqProofs (maxSteps := 2000000) only [go_sem, c1]
        rw [wk]
        refine ⟨k + 1, c1, by omega, ?_⟩
        rw [st, d1, Bool.true_or]
        exact (le_st' _ _ [⟨960, some _, false, 1, _⟩] [] _ (by simp -implicitDefEqProofs (maxSteps := 2000000) only [go_sem] <;> and_intros <;> rfl) (by simp -implicitDefEqProofs (maxSteps := 2000000) only [go_sem] <;> and_intros <;> rfl) (by simp -implicitDefEqProofs (maxSteps := 2000000) only [go_sem] <;> and_intros <;> rfl) (by rfl))
    · obtain rfl : k = l.length := by omega
      rw [List.take_length, show (l.any fun e => (e.a == x) || (e.b == x)) = metE l x from rfl]
      rcases d3 : metE l x
      · simp -implicitDefEqProofs (maxSteps := 2000000) only [go_sem, c1]
        first | done | rfl | exact ⟨rfl, rfl⟩ | exact ⟨rfl, rfl, rfl⟩ | (refine tr_and ?_ ?_ <;> first | rfl | exact ⟨rfl, rfl⟩ | kernel_rfl)
      · simp -implicitDefEqProofs (maxSteps := 2000000) only [go_sem, c1]
        rw [wx]
        refine call_of (ih2) (by simp -implicitDefEqProofs (maxSteps := 2000000) only [go_sem]) (by kernel_rfl) (by simp -implicitDefEqProofs (maxSteps := 2000000) only [go_sem]) ?_
        simp -implicitDefEqProofs (maxSteps := 2000000) only [go_sem]
        split
        · exact ⟨by omega, (rst_two o1 o2).symm, by kernel_rfl⟩
        · exact ⟨by omega, (rst_two o1 o2).symm, by kernel_rfl⟩
theorem l8Walk_sat (n : Nat) (l : List Edge) (hn : n ≤ 14) (hl : l.length ≤ 9223372036854775807) : ∀ (m : Nat) (s : List Int), m ≤ n → s.length + m ≤ 14 → Sat Try.prog 76 [lInt n, lEds l, lInts s, lInt ((n - m : Nat) : Int)] [oISS (walkS n l m s)] [g1, g1, g1, g1]
  | 0, s, h1, h2 => by
    refine sat_of_body mixed Try.func76 rfl (by kernel_rfl) (by kernel_rfl) (rs := [.tmp 8]) rfl rfl rfl ?_
    unfold walkS
    rw [Nat.sub_zero]
    simp -implicitDefEqProofs (maxSteps := 2000000) only [go_sem]
    rcases d : isMax n l s
    · refine call_of (specIsMaximalIndependent_sat n l s hl (by omega)) (by simp -implicitDefEqProofs (maxSteps := 2000000) only [go_sem, d]) (by kernel_rfl) (by simp -implicitDefEqProofs (maxSteps := 2000000) only [go_sem, d]) ?_
      simp -implicitDefEqProofs (maxSteps := 2000000) only [go_sem, d]
      first | done | rfl | exact ⟨rfl, rfl⟩ | exact ⟨rfl, rfl, rfl⟩ | (refine tr_and ?_ ?_ <;> first | rfl | exact ⟨rfl, rfl⟩ | kernel_rfl)
    · refine call_of (specIsMaximalIndependent_sat n l s hl (by omega)) (by simp -implicitDefEqProofs (maxSteps := 2000000) only [go_sem, d]) (by kernel_rfl) (by simp -implicitDefEqProofs (maxSteps := 2000000) only [go_sem, d]) ?_
      simp -implicitDefEqProofs (maxSteps := 2000000) only [go_sem, d]
      repeat (refine ⟨by omega, ?_⟩)
      first | done | rfl | exact ⟨rfl, rfl⟩ | exact ⟨rfl, rfl, rfl⟩ | (refine tr_and ?_ ?_ <;> first | rfl | exact ⟨rfl, rfl⟩ | kernel_rfl)
  | m + 1, s, h1, h2 =>
    l8Walk_step n l s _ _ _ _ hn hl (by omega) (by rw [IntWalk.i64_in _ (by omega)]; omega) (by rw [beq_eq_false_iff_ne]; omega)
      (Nat.le_trans (walkS_len n l m (s ++ [((n - (m + 1) : Nat) : Int)])) (pow14 (by omega))) (Nat.le_trans (walkS_len n l m s) (pow14 (by omega)))
      (l8Walk_sat n l hn hl m (s ++ [((n - (m + 1) : Nat) : Int)]) (by omega) (by simp; omega)) (l8Walk_sat n l hn hl m s (by omega) (by omega))
theorem specMaximalIndependentSets_sat (n : Int) (l : List Edge) (hl : l.length ≤ 9223372036854775807) : Sat Try.prog 29 [lInt n, lEds l] [oISS (mis n l)] [g1, g1] := by
  refine sat_of_body mixed Try.func29 rfl (by kernel_rfl) (by kernel_rfl) (rs := [.tmp 4]) rfl rfl rfl ?_
  unfold mis
  simp -implicitDefEqProofs (maxSteps := 2000000) only [go_sem]
  rcases g : goodEds n l
  · rw [if_neg (by simp)]
    refine call_of (specAreValidEdges_sat n l hl) (by simp -implicitDefEqProofs (maxSteps := 2000000) only [go_sem, g]) (by kernel_rfl) (by simp -implicitDefEqProofs (maxSteps := 2000000) only [go_sem, g]) ?_
    simp -implicitDefEqProofs (maxSteps := 2000000) only [go_sem, g]
    first | done | rfl | exact ⟨rfl, rfl⟩ | exact ⟨rfl, rfl, rfl⟩ | (refine tr_and ?_ ?_ <;> first | rfl | exact ⟨rfl, rfl⟩ | kernel_rfl)
  have hn := goodEds_n g
  rw [if_pos rfl]
  obtain ⟨m, rfl⟩ : ∃ m : Nat, n = m := ⟨n.toNat, by omega⟩
  rw [show ((m : Nat) : Int).toNat = m by omega, ← walk_same m [] (Nat.le_refl _) (fun y hy => by cases hy)]
  have h := l8Walk_sat m l (by omega) hl m [] (Nat.le_refl _) (by simp; omega)
  rw [Nat.sub_self] at h
  refine call_of (specAreValidEdges_sat m l hl) (by simp -implicitDefEqProofs (maxSteps := 2000000) only [go_sem, g]) (by kernel_rfl) (by simp -implicitDefEqProofs (maxSteps := 2000000) only [go_sem, g]) ?_
  simp -implicitDefEqProofs (maxSteps := 2000000) only [go_sem, g]
  refine call_of (h) (by simp -implicitDefEqProofs (maxSteps := 2000000) only [go_sem]) (callOk_still (by kernel_rfl) (by simp only [List.all_cons, List.all_nil, LV.still, LV.leaves, Leaf.still, ints_still, ris_still, eds_still, rels_still, iss_still, ems_still, Bool.and_self, Bool.and_true])) (by simp -implicitDefEqProofs (maxSteps := 2000000) only [go_sem]) ?_
  simp -implicitDefEqProofs (maxSteps := 2000000) only [go_sem]
  first | done | rfl | exact ⟨rfl, rfl⟩ | exact ⟨rfl, rfl, rfl⟩ | (refine tr_and ?_ ?_ <;> first | rfl | exact ⟨rfl, rfl⟩ | kernel_rfl)
end Go.Proofs.Ytahjpaicfppkoaa.A


/- ALL MAXIMAL INDEPENDENT SETS: the program's search. Conditions: none. -/
namespace Go.Proofs.Ytahjpaicfppkoaa.A
open Go
set_option linter.unusedSimpArgs false
set_option linter.unusedVariables false
set_option maxRecDepth 100000

abbrev misT (n : Int) (l : List Edge) (o : List (List Int)) : List CV := [.flds [.sc (.int .i64 n)], .flds [.im 2 (eds l)], .own 1 (iss 999 o), .self 75]
theorem misT_stm (n : Int) (l : List Edge) (o : List (List Int)) : ∀ w rows, CV.own w rows ∈ misT n l o → stm 999 rows = rows := by
  intro w rows h
  simp at h
  obtain ⟨rfl, rfl⟩ := h
  exact iss_stm 999 998 o
theorem rep1M {α : Type} (a : α) : List.replicate 1 a = [a] := rfl
theorem search_zero (n : Nat) (l : List Edge) (s : List Int) (o : List (List Int)) (hl : l.length ≤ 9223372036854775807) (hs : s.length ≤ 14) (ho : o.length ≤ 32768) :
    RSat Try.prog 75 [lInt n, lInts s] (misT n l o) (misT n l (o ++ if isMax n l s then [s] else [])) := by
  refine rsat_of_body Try.func75 rfl (by kernel_rfl) rfl rfl (misT_stm _ _ _) ?_
  refine bwp_awp mixed (by kernel_rfl) ?_
  simp -implicitDefEqProofs (maxSteps := 2000000) only [go_sem]
  rcases d : isMax n l s
  · refine call_of (implIsMaximalIndependent_sat n l s hl (by omega)) (by simp -implicitDefEqProofs (maxSteps := 2000000) only [go_sem, d]) (by kernel_rfl) (by simp -implicitDefEqProofs (maxSteps := 2000000) only [go_sem, d]) ?_
    simp -implicitDefEqProofs (maxSteps := 2000000) only [go_sem, d]
    exact (le_st' _ _ [⟨960, some _, false, 1, _⟩] [] _ (by simp -implicitDefEqProofs (maxSteps := 2000000) only [go_sem] <;> and_intros <;> rfl) (by simp -implicitDefEqProofs (maxSteps := 2000000) only [go_sem] <;> and_intros <;> rfl) (by simp -implicitDefEqProofs (maxSteps := 2000000) only [go_sem] <;> and_intros <;> rfl) (by rfl))
  · refine call_of (implIsMaximalIndependent_sat n l s hl (by omega)) (by simp -implicitDefEqProofs (maxSteps := 2000000) only [go_sem, d]) (by kernel_rfl) (by simp -implicitDefEqProofs (maxSteps := 2000000) only [go_sem, d]) ?_
    simp -implicitDefEqProofs (maxSteps := 2000000) only [go_sem, d]
    repeat (refine ⟨by omega, ?_⟩)
    first | (with_reducible refine tr_and ?_ ?_; focus kernel_rfl) | (with_reducible refine tr_only ?_; kernel_rfl) | skip
    exact (le_st' _ _ [⟨960, some _, false, 1, _⟩] [] _ (by simp -implicitDefEqProofs (maxSteps := 2000000) only [go_sem, rep1M, List.set_cons_zero, iss_one] <;> and_intros <;> rfl) (by simp -implicitDefEqProofs (maxSteps := 2000000) only [go_sem, rep1M, List.set_cons_zero, iss_one] <;> and_intros <;> rfl) (by simp -implicitDefEqProofs (maxSteps := 2000000) only [go_sem, rep1M, List.set_cons_zero, iss_one] <;> and_intros <;> rfl) (by rfl))
theorem search_step (n : Nat) (l : List Edge) (s : List Int) (x x' : Int) (o o1 w1 w2 : List (List Int)) (hl : l.length ≤ 9223372036854775807) (hs : s.length ≤ 14) (ho : o.length ≤ 32768) (wx : IntKind.i64.wrap (x + 1) = x') (ne : (x == (n : Int)) = false)
    (e1 : o1 = o ++ if indep l (s ++ [x]) then w1 else [])
    (ih1 : indep l (s ++ [x]) = true → RSat Try.prog 75 [lInt x', lInts (s ++ [x])] (misT n l o) (misT n l (o ++ w1)))
    (ih2 : RSat Try.prog 75 [lInt x', lInts s] (misT n l o1) (misT n l (o1 ++ w2))) :
    RSat Try.prog 75 [lInt x, lInts s] (misT n l o) (misT n l (o1 ++ w2)) := by
  refine rsat_of_body Try.func75 rfl (by kernel_rfl) rfl rfl (misT_stm _ _ _) ?_
  refine bwp_seq mixed (by kernel_rfl) ?_
  simp -implicitDefEqProofs (maxSteps := 2000000) only [go_sem, ne]
  refine bwp_seqB (bwp_seq mixed (by kernel_rfl) ?_)
  simp -implicitDefEqProofs (maxSteps := 2000000) only [go_sem]
  refine call_of (slicesClone_sat s (by omega)) (by simp -implicitDefEqProofs (maxSteps := 2000000) only [go_sem]) (callOk_still (by kernel_rfl) (by simp only [List.all_cons, List.all_nil, LV.still, LV.leaves, Leaf.still, ints_still, ris_still, eds_still, rels_still, iss_still, ems_still, Bool.and_self, Bool.and_true])) (by simp -implicitDefEqProofs (maxSteps := 2000000) only [go_sem]) ?_
  simp -implicitDefEqProofs (maxSteps := 2000000) only [go_sem]
  repeat (refine ⟨by omega, ?_⟩)
  refine bwp_seq mixed (by kernel_rfl) ?_
  simp -implicitDefEqProofs (maxSteps := 2000000) only [go_sem]
  rcases d : indep l (s ++ [x])
  · have e1 : o1 = o := by rw [e1, d]; simp
    subst e1
    refine call_of (implIsIndependent_sat l (s ++ [x]) hl (by simp; omega)) (by simp -implicitDefEqProofs (maxSteps := 2000000) only [go_sem, d]) (by kernel_rfl) (by simp -implicitDefEqProofs (maxSteps := 2000000) only [go_sem, d]) ?_
    simp -implicitDefEqProofs (maxSteps := 2000000) only [go_sem, d]
    refine bwp_cond (t := false) (by simp -implicitDefEqProofs (maxSteps := 2000000) only [go_sem]) (fun h => by cases h) fun _ => bwp_skip ?_
    simp -implicitDefEqProofs (maxSteps := 2000000) only [go_sem]
    refine bwp_call ih2 [900, 901, 902, 903] 960 960 2000 [] rfl rfl rfl (by kernel_rfl) (by kernel_rfl) (by simp -implicitDefEqProofs (maxSteps := 2000000) only [go_sem, wx]; rfl) ?_
    simp -implicitDefEqProofs (maxSteps := 2000000) only [go_sem]
    exact (le_st' _ _ [⟨960, some _, false, 1, _⟩] [] _ (by simp -implicitDefEqProofs (maxSteps := 2000000) only [go_sem] <;> and_intros <;> rfl) (by simp -implicitDefEqProofs (maxSteps := 2000000) only [go_sem] <;> and_intros <;> rfl) (by simp -implicitDefEqProofs (maxSteps := 2000000) only [go_sem] <;> and_intros <;> rfl) (by rfl))
  · have e1 : o1 = o ++ w1 := by rw [e1, d]; simp
    subst e1
    refine call_of (implIsIndependent_sat l (s ++ [x]) hl (by simp; omega)) (by simp -implicitDefEqProofs (maxSteps := 2000000) only [go_sem, d]) (by kernel_rfl) (by simp -implicitDefEqProofs (maxSteps := 2000000) only [go_sem, d]) ?_
    simp -implicitDefEqProofs (maxSteps := 2000000) only [go_sem, d]
    refine bwp_cond (t := true) (by simp -implicitDefEqProofs (maxSteps := 2000000) only [go_sem]) (fun _ => ?_) fun h => by cases h
    refine bwp_call (ih1 d) [900, 901, 902, 903] 960 960 2000 [(0, .sc (.int .i64 x)), (1, .one (.im 1 (ints s))), (5, .one (.vad 903 0))] rfl rfl rfl (by kernel_rfl) (by kernel_rfl) (by simp -implicitDefEqProofs (maxSteps := 2000000) only [go_sem, wx]; rfl) ?_
    simp -implicitDefEqProofs (maxSteps := 2000000) only [go_sem]
    refine bwp_call ih2 [900, 901, 902, 903] 960 960 2000 [] rfl rfl rfl (by kernel_rfl) (by kernel_rfl) (by simp -implicitDefEqProofs (maxSteps := 2000000) only [go_sem, wx]; rfl) ?_
    simp -implicitDefEqProofs (maxSteps := 2000000) only [go_sem]
    exact (le_st' _ _ [⟨960, some _, false, 1, _⟩] [] _ (by simp -implicitDefEqProofs (maxSteps := 2000000) only [go_sem, Nat.add_assoc] <;> and_intros <;> rfl) (by simp -implicitDefEqProofs (maxSteps := 2000000) only [go_sem, Nat.add_assoc] <;> and_intros <;> rfl) (by simp -implicitDefEqProofs (maxSteps := 2000000) only [go_sem, Nat.add_assoc] <;> and_intros <;> rfl) (by rfl))
end Go.Proofs.Ytahjpaicfppkoaa.A


/- ALL MAXIMAL INDEPENDENT SETS: the program's function. Conditions: none. -/
namespace Go.Proofs.Ytahjpaicfppkoaa.A
open Go
set_option linter.unusedSimpArgs false
set_option linter.unusedVariables false
set_option maxRecDepth 100000

theorem search_all (n : Nat) (l : List Edge) (hn : n ≤ 14) (hl : l.length ≤ 9223372036854775807) : ∀ (m : Nat) (s : List Int) (o : List (List Int)), m ≤ n → s.length + m ≤ 14 → o.length + 2 ^ m ≤ 32768 →
    RSat Try.prog 75 [lInt ((n - m : Nat) : Int), lInts s] (misT n l o) (misT n l (o ++ walkI n l m s))
  | 0, s, o, h1, h2, h3 => by
    rw [Nat.sub_zero]
    exact search_zero n l s o hl (by omega) (by omega)
  | m + 1, s, o, h1, h2, h3 => by
    rw [Nat.pow_succ] at h3
    have b1 := walkI_len n l m (s ++ [((n - (m + 1) : Nat) : Int)])
    have hx : ((n - (m + 1) : Nat) : Int) + 1 = ((n - m : Nat) : Int) := by omega
    have := search_step n l s ((n - (m + 1) : Nat) : Int) ((n - m : Nat) : Int) o _ (walkI n l m (s ++ [((n - (m + 1) : Nat) : Int)])) (walkI n l m s) hl (by omega) (by omega) (by rw [IntWalk.i64_in _ (by omega)]; exact hx)
      (by rw [beq_eq_false_iff_ne]; omega) rfl (fun _ => search_all n l hn hl m _ o (by omega) (by simp; omega) (by omega))
      (search_all n l hn hl m s _ (by omega) (by omega) (by
        rw [List.length_append]
        split
        · omega
        · simp; omega))
    rw [List.append_assoc] at this
    exact this
theorem implMaximalIndependentSets_sat (n : Int) (l : List Edge) (hl : l.length ≤ 9223372036854775807) : Sat Try.prog 27 [lInt n, lEds l] [oISS (mis n l)] [g1, g1] := by
  refine sat_of_bodyB Try.func27 rfl (by kernel_rfl) (rs := [.tmp 4]) rfl rfl rfl ?_
  unfold mis
  refine bwp_seq mixed (by kernel_rfl) ?_
  simp -implicitDefEqProofs (maxSteps := 2000000) only [go_sem]
  refine bwp_seq mixed (by kernel_rfl) ?_
  simp -implicitDefEqProofs (maxSteps := 2000000) only [go_sem]
  rcases g : goodEds n l
  · rw [if_neg (by simp)]
    refine call_of (implAreValidEdges_sat n l hl) (by simp -implicitDefEqProofs (maxSteps := 2000000) only [go_sem, g]) (by kernel_rfl) (by simp -implicitDefEqProofs (maxSteps := 2000000) only [go_sem, g]) ?_
    simp -implicitDefEqProofs (maxSteps := 2000000) only [go_sem, g]
    first | done | rfl | exact ⟨rfl, rfl⟩ | exact ⟨rfl, rfl, rfl⟩ | (refine tr_and ?_ ?_ <;> first | rfl | exact ⟨rfl, rfl⟩ | kernel_rfl)
  have hn := goodEds_n g
  rw [if_pos rfl]
  obtain ⟨m, rfl⟩ : ∃ m : Nat, n = m := ⟨n.toNat, by omega⟩
  rw [show ((m : Nat) : Int).toNat = m by omega]
  have h := search_all m l (by omega) hl m [] [] (Nat.le_refl _) (by simp; omega) (by have := pow14 (show m ≤ 14 by omega); simp; omega)
  rw [Nat.sub_self, List.nil_append] at h
  refine call_of (implAreValidEdges_sat m l hl) (by simp -implicitDefEqProofs (maxSteps := 2000000) only [go_sem, g]) (by kernel_rfl) (by simp -implicitDefEqProofs (maxSteps := 2000000) only [go_sem, g]) ?_
  simp -implicitDefEqProofs (maxSteps := 2000000) only [go_sem, g]
  refine bwp_seq mixed (by kernel_rfl) ?_
  simp -implicitDefEqProofs (maxSteps := 2000000) only [go_sem]
  refine bwp_seq mixed (by kernel_rfl) ?_
  simp -implicitDefEqProofs (maxSteps := 2000000) only [go_sem]
  refine bwp_seq mixed (by kernel_rfl) ?_
  simp -implicitDefEqProofs (maxSteps := 2000000) only [go_sem]
  refine bwp_seqB (bwp_call h [1000, 1064, 1512, 1640] 1448 960 2000 [(5, .one (.vad 1512 0))] rfl rfl rfl (by kernel_rfl) (by kernel_rfl) (by simp -implicitDefEqProofs (maxSteps := 2000000) only [go_sem]; exact ⟨⟨rfl, rfl⟩, rfl⟩) ?_)
  simp -implicitDefEqProofs (maxSteps := 2000000) only [go_sem]
  refine bwp_awp mixed (by kernel_rfl) ?_
  simp -implicitDefEqProofs (maxSteps := 2000000) only [go_sem]
  first | done | rfl | exact ⟨rfl, rfl⟩ | exact ⟨rfl, rfl, rfl⟩ | (refine tr_and ?_ ?_ <;> first | rfl | exact ⟨rfl, rfl⟩ | kernel_rfl)
end Go.Proofs.Ytahjpaicfppkoaa.A


/- SETS DRAWN; what the laws compare by. Conditions: none. -/
namespace Go.Proofs.Ytahjpaicfppkoaa.A
open Go
set_option linter.unusedSimpArgs false
set_option linter.unusedVariables false
set_option maxRecDepth 100000

theorem edE_ok {c : Cur} (hc : c.ok) : (edE c).1.ok ∧ (edE c).2.length ≤ 81 := by
  have n1 := beV_lt c (n := 9) (by decide)
  have hn : edN c < 9 := n1
  have o0 : DrOk ((byC (byC c), []) : Dr) 0 := ⟨byC_ok (byC_ok hc), Nat.le_refl _⟩
  have o := allD_ok (rare := edR c) (n := edN c) o0 (edN c)
  have hin : edN c * edN c ≤ 9 * 9 := Nat.mul_le_mul (by omega) (by omega)
  have ho := o.len
  have hk := o.ok
  unfold edE edS
  generalize allD (edR c) (edN c) (byC (byC c), []) (edN c) = s at ho hk ⊢
  simp only
  split
  · exact ⟨hk, by omega⟩
  · split
    · exact ⟨byC_ok (byC_ok (byC_ok hk)), by show (s.2.set _ _).length ≤ 81; rw [List.length_set]; omega⟩
    · exact ⟨byC_ok hk, by show s.2.length ≤ 81; omega⟩
theorem somE_ok {c : Cur} {n : Nat} {l : List Edge} (hc : c.ok) : (somE c n l).1.ok ∧ (somE c n l).2.length ≤ n + 1 := by
  have o0 : DsOk ((c, []) : Ds) 0 := ⟨hc, Nat.le_refl _⟩
  have o := somD_ok (l := l) o0 n
  have ho := o.len
  have hk := o.ok
  unfold somE
  generalize somD l (c, []) n = s at ho hk ⊢
  simp only
  refine ⟨byC_ok hk, ?_⟩
  split
  · rw [List.length_append, List.length_singleton]; omega
  · omega
def misN (b : List Int) : Nat := edN (curN b)
def misL (b : List Int) : List Edge := (edE (curN b)).2
def misS0 (b : List Int) : Ds := somE (edE (curN b)).1 (misN b) (misL b)
def misS (b : List Int) : List Int := if onV (misS0 b).1 2 && (extM (misN b) (misL b) (misS0 b).2).2 then (extM (misN b) (misL b) (misS0 b).2).1 else (misS0 b).2
theorem drawIM_sat (b : List Int) (h : b.length ≤ 1048576) : Sat Try.prog 70 [lBys b] [lInt (misN b), lEds (misL b), oInts (misS b)] [g1] := by
  refine sat_of_bodyB Try.func70 rfl (by kernel_rfl) (rs := [.tmp 2, .tmp 3, .tmp 4]) rfl rfl rfl ?_
  refine bwp_seq mixed (by kernel_rfl) ?_
  simp -implicitDefEqProofs (maxSteps := 2000000) only [go_sem]
  refine bwp_seq mixed (by kernel_rfl) ?_
  simp -implicitDefEqProofs (maxSteps := 2000000) only [go_sem]
  refine call_of (l1New_sat b (by omega)) (by simp -implicitDefEqProofs (maxSteps := 2000000) only [go_sem]) (by kernel_rfl) (by simp -implicitDefEqProofs (maxSteps := 2000000) only [go_sem]) ?_
  simp -implicitDefEqProofs (maxSteps := 2000000) only [go_sem]
  refine bwp_seq mixed (by kernel_rfl) ?_
  simp -implicitDefEqProofs (maxSteps := 2000000) only [go_sem]
  refine call_of (l8Edges_sat (curN b) (curN_ok h)) (by simp -implicitDefEqProofs (maxSteps := 2000000) only [go_sem]) (by kernel_rfl) (by simp -implicitDefEqProofs (maxSteps := 2000000) only [go_sem]) ?_
  simp -implicitDefEqProofs (maxSteps := 2000000) only [go_sem]
  refine bwp_le (st' := mkSt [(5, .one (.vad 1256 0)), (6, .sc (.int .i64 (misN b))), (7, .one (.im 2 (eds (edE (curN b)).2)))] [(1256, sCur (edE (curN b)).1)] [] 2000) (le_st' _ _ [] [1464] _ (by simp -implicitDefEqProofs (maxSteps := 2000000) only [go_sem, eds_frz] <;> and_intros <;> first | rfl | exact List.mem_singleton_self _ | exact ⟨_, rfl, Eq.symm (by simp -implicitDefEqProofs (maxSteps := 2000000) only [go_sem])⟩) (by simp -implicitDefEqProofs (maxSteps := 2000000) only [go_sem, eds_frz] <;> and_intros <;> rfl) (by simp -implicitDefEqProofs (maxSteps := 2000000) only [go_sem, eds_frz] <;> and_intros <;> rfl) (by rfl)) ?_
  rw [show (edE (curN b)).2 = misL b from rfl]
  refine bwp_awp mixed (by kernel_rfl) ?_
  obtain ⟨k1, k2⟩ := edE_ok (curN_ok h)
  have hn : misN b < 9 := beV_lt (curN b) (n := 9) (by decide)
  obtain ⟨k3, k4⟩ := somE_ok (n := misN b) (l := misL b) k1
  have k5 : (misL b).length ≤ 81 := k2
  simp -implicitDefEqProofs (maxSteps := 2000000) only [go_sem]
  refine call_of (l8Some_sat (edE (curN b)).1 (misN b) (misL b) k1 (by omega) (by omega)) (by simp -implicitDefEqProofs (maxSteps := 2000000) only [go_sem]) (by kernel_rfl) (by simp -implicitDefEqProofs (maxSteps := 2000000) only [go_sem]) ?_
  simp -implicitDefEqProofs (maxSteps := 2000000) only [go_sem]
  rw [show somE (edE (curN b)).1 (misN b) (misL b) = misS0 b from rfl] at k3 k4 ⊢
  unfold misS
  rcases d1 : onV (misS0 b).1 2
  · refine call_of (l1Once_sat (misS0 b).1 2 k3 (by decide) (by decide)) (by simp -implicitDefEqProofs (maxSteps := 2000000) only [go_sem, d1] <;> and_intros <;> rfl) (by kernel_rfl) (by simp -implicitDefEqProofs (maxSteps := 2000000) only [go_sem, d1]) ?_
    simp -implicitDefEqProofs (maxSteps := 2000000) only [go_sem, d1]
    rfl
  · rcases d2 : (extM (misN b) (misL b) (misS0 b).2).2
    · refine call_of (l1Once_sat (misS0 b).1 2 k3 (by decide) (by decide)) (by simp -implicitDefEqProofs (maxSteps := 2000000) only [go_sem, d1] <;> and_intros <;> rfl) (by kernel_rfl) (by simp -implicitDefEqProofs (maxSteps := 2000000) only [go_sem, d1]) ?_
      simp -implicitDefEqProofs (maxSteps := 2000000) only [go_sem, d1]
      refine call_of (specExtendToMaximal_sat (misN b) (misL b) (misS0 b).2 (by omega) (by omega)) (by simp -implicitDefEqProofs (maxSteps := 2000000) only [go_sem, d2]) (callOk_still (by kernel_rfl) (by simp only [List.all_cons, List.all_nil, LV.still, LV.leaves, Leaf.still, ints_still, ris_still, eds_still, rels_still, iss_still, ems_still, Bool.and_self, Bool.and_true])) (by simp -implicitDefEqProofs (maxSteps := 2000000) only [go_sem, d2]) ?_
      simp -implicitDefEqProofs (maxSteps := 2000000) only [go_sem, d2]
      rfl
    · refine call_of (l1Once_sat (misS0 b).1 2 k3 (by decide) (by decide)) (by simp -implicitDefEqProofs (maxSteps := 2000000) only [go_sem, d1] <;> and_intros <;> rfl) (by kernel_rfl) (by simp -implicitDefEqProofs (maxSteps := 2000000) only [go_sem, d1]) ?_
      simp -implicitDefEqProofs (maxSteps := 2000000) only [go_sem, d1]
      refine call_of (specExtendToMaximal_sat (misN b) (misL b) (misS0 b).2 (by omega) (by omega)) (by simp -implicitDefEqProofs (maxSteps := 2000000) only [go_sem, d2]) (callOk_still (by kernel_rfl) (by simp only [List.all_cons, List.all_nil, LV.still, LV.leaves, Leaf.still, ints_still, ris_still, eds_still, rels_still, iss_still, ems_still, Bool.and_self, Bool.and_true])) (by simp -implicitDefEqProofs (maxSteps := 2000000) only [go_sem, d2]) ?_
      simp -implicitDefEqProofs (maxSteps := 2000000) only [go_sem, d2]
      rfl
theorem drawEM_sat (b : List Int) (h : b.length ≤ 1048576) : Sat Try.prog 22 [lBys b] [lInt (misN b), lEds (misL b), oInts (misS b)] [g1] := by
  refine sat_of_body mixed Try.func22 rfl (by kernel_rfl) (by kernel_rfl) (rs := [.tmp 2, .tmp 3, .tmp 4]) rfl rfl rfl ?_
  simp -implicitDefEqProofs (maxSteps := 2000000) only [go_sem]
  refine call_of (drawIM_sat b h) (by simp -implicitDefEqProofs (maxSteps := 2000000) only [go_sem]) (by kernel_rfl) (by simp -implicitDefEqProofs (maxSteps := 2000000) only [go_sem]) ?_
  simp -implicitDefEqProofs (maxSteps := 2000000) only [go_sem]
  first | done | rfl | exact ⟨rfl, rfl⟩ | exact ⟨rfl, rfl, rfl⟩ | (refine tr_and ?_ ?_ <;> first | rfl | exact ⟨rfl, rfl⟩ | kernel_rfl)
theorem has_sat (l : List Int) (x : Int) (h : l.length ≤ 9223372036854775807) : Sat Try.prog 32 [lInts l, lInt x] [lBool (decide (x ∈ l))] [g1, g1] := by
  refine sat_of_body mixed Try.func32 rfl (by kernel_rfl) (by kernel_rfl) (rs := [.tmp 4]) rfl rfl rfl ?_
  simp -implicitDefEqProofs (maxSteps := 2000000) only [go_sem]
  refine awp_loop Nat (fun k => mkSt [(0, .one (.im 1 (ints l))), (1, .sc (.int .i64 x)), (5, .sc (.int .i64 k))] [] [] 1000)
    (fun k => k ≤ l.length ∧ x ∉ l.take k) (fun k => l.length - k) 0 ⟨by omega, by simp⟩ (le_st _ _ [] [] _ rfl (by simp -implicitDefEqProofs (maxSteps := 2000000) only [go_sem] <;> rfl) trivial trivial) ?_
  rintro k ⟨h1, h2⟩
  by_cases c1 : k < l.length
  · rcases d : (l.getD k 0 == x)
    · simp -implicitDefEqProofs (maxSteps := 2000000) only [go_sem, c1, d]
      rw [i64_succ (by omega)]
      refine ⟨k + 1, ⟨c1, ?_⟩, by omega, (le_st _ _ [] [] _ rfl (by simp -implicitDefEqProofs (maxSteps := 2000000) only [go_sem] <;> rfl) trivial trivial)⟩
      rw [take_snoc 0 c1, List.mem_append, List.mem_singleton]
      rintro (e | e)
      · exact h2 e
      · rw [e] at d; simp at d
    · rw [decide_eq_true (show x ∈ l by rw [← eq_of_beq d]; exact mem_getD 0 c1)]
      simp -implicitDefEqProofs (maxSteps := 2000000) only [go_sem, c1, d]
      first | done | rfl | exact ⟨rfl, rfl⟩ | exact ⟨rfl, rfl, rfl⟩ | (refine tr_and ?_ ?_ <;> first | rfl | exact ⟨rfl, rfl⟩ | kernel_rfl)
  · obtain rfl : k = l.length := by omega
    rw [List.take_length] at h2
    rw [decide_eq_false h2]
    simp -implicitDefEqProofs (maxSteps := 2000000) only [go_sem, c1]
    first | done | rfl | exact ⟨rfl, rfl⟩ | exact ⟨rfl, rfl, rfl⟩ | (refine tr_and ?_ ?_ <;> first | rfl | exact ⟨rfl, rfl⟩ | kernel_rfl)
theorem sameInts_sat (a b : List Int) (ha : a.length ≤ 9223372036854775807) : Sat Try.prog 31 [.one (.im 1 (ints a)), .one (.im 1 (ints b))] [.one (.sc (.bool (decide (a = b))))] [.one .gone, .one .gone] := by
  refine sat_of_body mixed Try.func31 rfl (by kernel_rfl) (by kernel_rfl) (rs := [.tmp 4]) rfl rfl rfl ?_
  simp -implicitDefEqProofs (maxSteps := 2000000) only [go_sem]
  refine cond_split (fun d => ?_) fun d => ?_
  · simp -implicitDefEqProofs (maxSteps := 2000000) only [go_sem]
    have d : ¬ (a.length : Int) = b.length := by simpa using d
    rw [decide_eq_false (fun h => d (by rw [h]))]
  have d : a.length = b.length := cast_ne d
  simp -implicitDefEqProofs (maxSteps := 2000000) only [go_sem]
  refine awp_loop Nat (fun k => mkSt [(0, .one (.im 1 (ints a))), (1, .one (.im 1 (ints b))), (5, .sc (.int .i64 k))] [] [] 1000)
    (fun k => k ≤ a.length ∧ a.take k = b.take k) (fun k => a.length - k) 0 ⟨by omega, rfl⟩ (le_st _ _ [] [] _ rfl (by simp -implicitDefEqProofs (maxSteps := 2000000) only [go_sem] <;> rfl) trivial trivial) ?_
  rintro k ⟨h1, h2⟩
  by_cases c1 : k < a.length
  · have c2 : k < b.length := by omega
    simp -implicitDefEqProofs (maxSteps := 2000000) only [go_sem, c1, c2]
    refine cond_split (fun e => ?_) fun e => ?_
    · simp -implicitDefEqProofs (maxSteps := 2000000) only [go_sem]
      rw [decide_eq_false (eqList_ne (by simpa using e))]
    simp -implicitDefEqProofs (maxSteps := 2000000) only [go_sem]
    rw [i64_succ (by omega)]
    exact ⟨k + 1, ⟨c1, eqList_step c1 c2 h2 (by simpa using e)⟩, by omega, (le_st _ _ [] [] _ rfl (by simp -implicitDefEqProofs (maxSteps := 2000000) only [go_sem] <;> rfl) trivial trivial)⟩
  · simp -implicitDefEqProofs (maxSteps := 2000000) only [go_sem, c1]
    rw [List.take_of_length_le (by omega), List.take_of_length_le (by omega)] at h2
    rw [decide_eq_true h2]
theorem sameRows_sat (a b : List (List Int)) (ha : a.length ≤ 9223372036854775807) (h : ∀ x ∈ a, x.length ≤ 9223372036854775807) : Sat Try.prog 28 [lISS a, lISS b] [lBool (decide (a = b))] [g1, g1] := by
  refine sat_of_body mixed Try.func28 rfl (by kernel_rfl) (by kernel_rfl) (rs := [.tmp 4]) rfl rfl rfl ?_
  simp -implicitDefEqProofs (maxSteps := 2000000) only [go_sem]
  refine cond_split (fun d => ?_) fun d => ?_
  · simp -implicitDefEqProofs (maxSteps := 2000000) only [go_sem]
    have d : ¬ (a.length : Int) = b.length := by simpa using d
    rw [decide_eq_false (fun h => d (by rw [h]))]
  have d : a.length = b.length := cast_ne d
  simp -implicitDefEqProofs (maxSteps := 2000000) only [go_sem]
  refine awp_loop Nat (fun k => mkSt [(0, .one (.im 1 (iss 0 a))), (1, .one (.im 1 (iss 0 b))), (5, .sc (.int .i64 k))] [] [] 1000)
    (fun k => k ≤ a.length ∧ a.take k = b.take k) (fun k => a.length - k) 0 ⟨by omega, rfl⟩ (le_st _ _ [] [] _ rfl (by simp -implicitDefEqProofs (maxSteps := 2000000) only [go_sem] <;> rfl) trivial trivial) ?_
  rintro k ⟨h1, h2⟩
  by_cases c1 : k < a.length
  · have c2 : k < b.length := by omega
    simp -implicitDefEqProofs (maxSteps := 2000000) only [go_sem, c1, c2]
    refine call_of (sameInts_sat (a.getD k []) (b.getD k []) (h _ (mem_getD [] c1))) (by simp -implicitDefEqProofs (maxSteps := 2000000) only [go_sem]) (by kernel_rfl) (by simp -implicitDefEqProofs (maxSteps := 2000000) only [go_sem]) ?_
    simp -implicitDefEqProofs (maxSteps := 2000000) only [go_sem]
    refine cond_split (fun e => ?_) fun e => ?_
    · simp -implicitDefEqProofs (maxSteps := 2000000) only [go_sem]
      rw [decide_eq_false (list_ne (d := []) (k := k) (by simpa using e))]
    simp -implicitDefEqProofs (maxSteps := 2000000) only [go_sem]
    rw [i64_succ (by omega)]
    exact ⟨k + 1, ⟨c1, list_step [] c1 c2 h2 (by simpa using e)⟩, by omega, (le_st _ _ [] [] _ rfl (by simp -implicitDefEqProofs (maxSteps := 2000000) only [go_sem] <;> rfl) trivial trivial)⟩
  · simp -implicitDefEqProofs (maxSteps := 2000000) only [go_sem, c1]
    rw [List.take_of_length_le (by omega), List.take_of_length_le (by omega)] at h2
    rw [decide_eq_true h2]
end Go.Proofs.Ytahjpaicfppkoaa.A


/- THE GREATEST SIZE OF AN INDEPENDENT SET. Conditions: none. -/
namespace Go.Proofs.Ytahjpaicfppkoaa.A
open Go
set_option linter.unusedSimpArgs false
set_option linter.unusedVariables false
set_option maxRecDepth 100000

def longer (m : Int) (t : List Int) : Int := if (t.length : Int) > m then t.length else m
def longest (l : List (List Int)) : Int := l.foldl longer 0
theorem longest_step {l : List (List Int)} {k : Nat} (h : k < l.length) : longest (l.take (k + 1)) = longer (longest (l.take k)) (l.getD k []) := by
  unfold longest
  rw [take_snoc [] h, List.foldl_append]; rfl
theorem implMaximumIndependentSize_sat (n : Int) (l : List Edge) (hl : l.length ≤ 9223372036854775807) : Sat Try.prog 30 [lInt n, lEds l] [lInt (longest (mis n l))] [g1, g1] := by
  refine sat_of_body mixed Try.func30 rfl (by kernel_rfl) (by kernel_rfl) (rs := [.tmp 4]) rfl rfl rfl ?_
  have nv := mis_len n l
  simp -implicitDefEqProofs (maxSteps := 2000000) only [go_sem]
  refine call_of (implMaximalIndependentSets_sat n l hl) (by simp -implicitDefEqProofs (maxSteps := 2000000) only [go_sem]) (callOk_still (by kernel_rfl) (by simp only [List.all_cons, List.all_nil, LV.still, LV.leaves, Leaf.still, ints_still, ris_still, eds_still, rels_still, iss_still, ems_still, Bool.and_self, Bool.and_true])) (by simp -implicitDefEqProofs (maxSteps := 2000000) only [go_sem]) ?_
  simp -implicitDefEqProofs (maxSteps := 2000000) only [go_sem]
  refine awp_loop Nat (fun k => mkSt [(5, .sc (.int .i64 (longest ((mis n l).take k)))), (10, .one (.ref 960 1 0 (mis n l).length)), (11, .sc (.int .i64 (mis n l).length)), (12, .sc (.int .i64 k))] [] [(960, (1, iss 999 (mis n l)))] 1000)
    (fun k => k ≤ (mis n l).length) (fun k => (mis n l).length - k) 0 (by omega) (le_st' _ _ [⟨960, some _, false, 1, _⟩] [] _ (by simp -implicitDefEqProofs (maxSteps := 2000000) only [go_sem, List.take_zero, longest, List.foldl_nil] <;> and_intros <;> rfl) (by simp -implicitDefEqProofs (maxSteps := 2000000) only [go_sem, List.take_zero, longest, List.foldl_nil] <;> and_intros <;> rfl) (by simp -implicitDefEqProofs (maxSteps := 2000000) only [go_sem, List.take_zero, longest, List.foldl_nil] <;> and_intros <;> rfl) (by rfl)) ?_
  rintro k h1
  by_cases c1 : k < (mis n l).length
  · simp -implicitDefEqProofs (maxSteps := 2000000) only [go_sem, c1]
    rw [i64_succ (by omega)]
    refine ⟨k + 1, c1, by omega, ?_⟩
    rw [longest_step c1, longer]
    exact (le_st' _ _ [⟨960, some _, false, 1, _⟩] [] _ (by simp -implicitDefEqProofs (maxSteps := 2000000) only [go_sem] <;> and_intros <;> rfl) (by simp -implicitDefEqProofs (maxSteps := 2000000) only [go_sem] <;> and_intros <;> rfl) (by simp -implicitDefEqProofs (maxSteps := 2000000) only [go_sem] <;> and_intros <;> rfl) (by rfl))
  · obtain rfl : k = (mis n l).length := by omega
    rw [List.take_length]
    simp -implicitDefEqProofs (maxSteps := 2000000) only [go_sem, c1]
end Go.Proofs.Ytahjpaicfppkoaa.A


/- MAXIMAL INDEPENDENT SETS: what holds of what is found. Conditions: none. (No program in sight.) -/
namespace Go.Proofs.Ytahjpaicfppkoaa.A
open Go
set_option linter.unusedSimpArgs false
set_option linter.unusedVariables false

theorem walkI_max {n : Nat} {l : List Edge} : ∀ (m : Nat) (s : List Int), ∀ t ∈ walkI n l m s, isMax n l t = true
  | 0, s, t, ht => by
    rw [walkI] at ht
    split at ht
    · rename_i h; rw [List.mem_singleton.mp ht]; exact h
    · cases ht
  | m + 1, s, t, ht => by
    rw [walkI] at ht
    rcases List.mem_append.mp ht with ht | ht
    · split at ht
      · exact walkI_max m _ t ht
      · cases ht
    · exact walkI_max m _ t ht
theorem mis_max {n : Int} {l : List Edge} : ∀ t ∈ mis n l, isMax n l t = true := by
  intro t ht
  unfold mis at ht
  split at ht
  · rename_i g
    have h0 := (goodEds_n g).1
    have := walkI_max _ _ t ht
    rw [Int.toNat_of_nonneg h0] at this
    exact this
  · cases ht
theorem isMax_indep {n : Int} {l : List Edge} {t : List Int} (h : isMax n l t = true) : indep l t = true := by
  unfold isMax at h
  simp only [Bool.and_eq_true] at h
  exact h.2.2.1
theorem foldl_longer : ∀ (L : List (List Int)) (m : Int), m ≤ L.foldl longer m ∧ ∀ t ∈ L, (t.length : Int) ≤ L.foldl longer m
  | [], m => ⟨Int.le_refl _, fun t ht => by cases ht⟩
  | a :: L, m => by
    obtain ⟨h1, h2⟩ := foldl_longer L (longer m a)
    have h3 : m ≤ longer m a ∧ (a.length : Int) ≤ longer m a := by unfold longer; split <;> omega
    rw [List.foldl_cons]
    refine ⟨by omega, fun t ht => ?_⟩
    rcases List.mem_cons.mp ht with rfl | ht
    · omega
    · exact h2 t ht
theorem longest_ge {L : List (List Int)} : ∀ t ∈ L, (t.length : Int) ≤ longest L := (foldl_longer L 0).2
/-- A part of an independent set is independent. -/
theorem indep_sub {l : List Edge} {s t : List Int} (h : indep l t = true) (hs : ∀ x ∈ s, x ∈ t) : indep l s = true := by
  unfold indep
  refine upTo_all fun k hk => ?_
  have h1 := upTo_at h hk
  unfold edNo at h1 ⊢
  rw [Bool.not_eq_true', Bool.and_eq_false_iff, decide_eq_false_iff_not, decide_eq_false_iff_not] at h1 ⊢
  exact h1.imp (fun h a => h (hs _ a)) (fun h a => h (hs _ a))
/-- Every maximal set that begins so is found. -/
theorem walkI_all {n : Nat} {l : List Edge} : ∀ (m : Nat) (s r : List Int), m ≤ n → isMax n l (s ++ r) = true → r.Pairwise (· < ·) → (∀ x ∈ r, ((n - m : Nat) : Int) ≤ x ∧ x < n) → s ++ r ∈ walkI n l m s
  | 0, s, r, _, h, _, hr => by
    obtain rfl : r = [] := by
      rcases r with _ | ⟨x, r⟩
      · rfl
      · have := hr x (List.mem_cons_self ..); omega
    rw [List.append_nil] at h ⊢
    rw [walkI, if_pos h]; exact List.mem_singleton_self _
  | m + 1, s, r, hm, h, hp, hr => by
    rw [walkI]
    apply List.mem_append.mpr
    rcases r with _ | ⟨x, r⟩
    · exact .inr (walkI_all m s [] (by omega) h hp (fun x hx => by cases hx))
    · have hx := hr x (List.mem_cons_self ..)
      obtain ⟨hp1, hp2⟩ := List.pairwise_cons.mp hp
      by_cases e : x = ((n - (m + 1) : Nat) : Int)
      · refine .inl ?_
        subst e
        rw [if_pos (indep_sub (isMax_indep h) (fun y hy => by
          rcases List.mem_append.mp hy with hy | hy
          · exact List.mem_append_left _ hy
          · exact List.mem_append_right _ (by rw [List.mem_singleton.mp hy]; exact List.mem_cons_self ..)))]
        have h2 : isMax n l ((s ++ [((n - (m + 1) : Nat) : Int)]) ++ r) = true := by rw [List.append_assoc]; exact h
        have := walkI_all m (s ++ [((n - (m + 1) : Nat) : Int)]) r (by omega) h2 hp2 (fun y hy => by
          have h3 := hp1 y hy
          have h4 := hr y (List.mem_cons_of_mem _ hy)
          omega)
        rw [List.append_assoc] at this
        exact this
      · exact .inr (walkI_all m s (x :: r) (by omega) h hp (fun y hy => by
          have h4 := hr y hy
          rcases List.mem_cons.mp hy with rfl | hy
          · omega
          · have h3 := hp1 y hy; omega))
theorem ixs_lt {l : List Int} {n : Int} (h : ixs l n = true) : l.Pairwise (· < ·) ∧ ∀ x ∈ l, 0 ≤ x ∧ x < n := by
  have step : ∀ k, k + 1 < l.length → l.getD k 0 < l.getD (k + 1) 0 := by
    intro k hk
    have h1 := upTo_at h hk
    unfold ixAt at h1
    rw [Bool.and_eq_true, Bool.or_eq_true, decide_eq_true_iff, Bool.not_eq_true', decide_eq_false_iff_not, Nat.add_sub_cancel] at h1
    have := h1.2.resolve_left (by omega)
    omega
  have far : ∀ i j, i < j → j < l.length → l.getD i 0 < l.getD j 0 := by
    intro i j
    induction j with
    | zero => intro h; omega
    | succ j ih =>
      intro h1 h2
      have h3 := step j h2
      by_cases e : i = j
      · subst e; exact h3
      · have := ih (by omega) (by omega); omega
  constructor
  · rw [List.pairwise_iff_getElem]
    intro i j hi hj hij
    have := far i j hij hj
    simpa [List.getD_eq_getElem?_getD, hi, hj] using this
  · intro x hx
    obtain ⟨i, hi, rfl⟩ := List.mem_iff_getElem.mp hx
    have h1 := upTo_at h hi
    unfold ixAt at h1
    rw [Bool.and_eq_true] at h1
    have := inB_of h1.1
    simp only [List.getD_eq_getElem?_getD, List.getElem?_eq_getElem hi, Option.getD_some] at this
    omega
theorem mis_all {n : Int} {l : List Edge} {t : List Int} (h : isMax n l t = true) : t ∈ mis n l := by
  have h0 := h
  unfold isMax at h0
  simp only [Bool.and_eq_true] at h0
  obtain ⟨g, hi, _, _⟩ := h0
  obtain ⟨p1, p2⟩ := ixs_lt hi
  have hn := (goodEds_n g).1
  unfold mis
  rw [if_pos g]
  have e : ((n.toNat : Nat) : Int) = n := Int.toNat_of_nonneg hn
  exact walkI_all n.toNat [] t (Nat.le_refl _) (by rw [e]; exact h) p1 (fun x hx => by have := p2 x hx; omega)
theorem extN_sub (l : List Edge) (s : List Int) : ∀ {k : Nat}, ∀ x ∈ s, x ∈ extN l s k
  | 0, x, hx => hx
  | k + 1, x, hx => by
    rw [extN]
    split
    · exact List.mem_append_left _ (extN_sub l s x hx)
    · exact extN_sub l s x hx
theorem extN_mono (l : List Edge) (s : List Int) {j : Nat} : ∀ {k : Nat}, j ≤ k → ∀ x ∈ extN l s j, x ∈ extN l s k
  | 0, h, x, hx => by rw [show j = 0 by omega] at hx; exact hx
  | k + 1, h, x, hx => by
    by_cases e : j = k + 1
    · rw [e] at hx; exact hx
    · have := extN_mono l s (show j ≤ k by omega) x hx
      rw [extN]
      split
      · exact List.mem_append_left _ this
      · exact this
theorem ixs_of {t : List Int} {n : Int} (h1 : t.Pairwise (· < ·)) (h2 : ∀ x ∈ t, 0 ≤ x ∧ x < n) : ixs t n = true := by
  unfold ixs
  refine upTo_all fun k hk => ?_
  unfold ixAt
  have h3 := h2 _ (mem_getD 0 hk)
  rw [Bool.and_eq_true, Bool.or_eq_true, decide_eq_true_iff, Bool.not_eq_true', decide_eq_false_iff_not]
  refine ⟨?_, ?_⟩
  · unfold inB
    rw [Bool.and_eq_true, decide_eq_true_iff, decide_eq_true_iff]; omega
  · rcases k with _ | k
    · exact .inl rfl
    · refine .inr ?_
      have := List.pairwise_iff_getElem.mp h1 k (k + 1) (by omega) hk (by omega)
      simp only [List.getD_eq_getElem?_getD, Nat.add_sub_cancel, List.getElem?_eq_getElem hk, List.getElem?_eq_getElem (show k < t.length by omega), Option.getD_some]
      omega
structure ExtOk (n : Nat) (l : List Edge) (t : List Int) : Prop where
  nd : t.Nodup
  rng : ∀ x ∈ t, 0 ≤ x ∧ x < n
  ind : indep l t = true
theorem extN_ok {n : Nat} {l : List Edge} {s : List Int} (h : ExtOk n l s) : ∀ {k : Nat}, k ≤ n → ExtOk n l (extN l s k)
  | 0, _ => h
  | k + 1, hk => by
    have ih := extN_ok h (k := k) (by omega)
    rw [extN]
    split
    · rename_i hf
      unfold fitsE at hf
      rw [Bool.and_eq_true, Bool.not_eq_true', decide_eq_false_iff_not] at hf
      refine ⟨?_, ?_, hf.2⟩
      · rw [List.nodup_append]
        exact ⟨ih.nd, by simp, fun a ha b hb => by
          rw [List.mem_singleton] at hb
          rintro rfl
          exact hf.1 (hb ▸ ha)⟩
      · intro x hx
        rcases List.mem_append.mp hx with hx | hx
        · exact ih.rng x hx
        · rw [List.mem_singleton.mp hx]; omega
    · exact ih
theorem fitsE_mono {l : List Edge} {s t : List Int} {x : Int} (h : fitsE l s x = false) (hs : ∀ y ∈ s, y ∈ t) : fitsE l t x = false := by
  unfold fitsE at h ⊢
  rw [Bool.and_eq_false_iff, Bool.not_eq_false', decide_eq_true_iff] at h ⊢
  rcases h with h | h
  · exact .inl (hs _ h)
  · refine .inr ?_
    rcases e : indep l (t ++ [x])
    · rfl
    · rw [indep_sub e (fun y hy => by
        rcases List.mem_append.mp hy with hy | hy
        · exact List.mem_append_left _ (hs y hy)
        · exact List.mem_append_right _ hy)] at h
      cases h
theorem extN_end {l : List Edge} {s : List Int} {n x : Nat} (h : x < n) : fitsE l (extN l s n) x = false := by
  by_cases hf : fitsE l (extN l s x) x = true
  · have hm : (x : Int) ∈ extN l s (x + 1) := by rw [extN, if_pos hf]; exact List.mem_append_right _ (List.mem_singleton_self _)
    have := extN_mono l s (show x + 1 ≤ n by omega) _ hm
    unfold fitsE
    rw [decide_eq_true this]; rfl
  · exact fitsE_mono (by simpa using hf) (extN_mono l s (show x ≤ n by omega))
theorem sortI_strict {l : List Int} (h : l.Nodup) : (sortI l).Pairwise (· < ·) := by
  have h1 := sortI_sorted l
  have h2 : (sortI l).Nodup := (sortI_perm l).nodup_iff.mpr h
  exact (List.pairwise_and_iff.mpr ⟨h1, h2⟩).imp (fun h => by have := h.1; have := h.2; omega)
/-- What a set is extended to. -/
theorem extM_ok {n : Int} {l : List Edge} {s : List Int} (g : goodSet n l s = true) : (extM n l s).2 = true ∧ isMax n l (extM n l s).1 = true ∧ ∀ x ∈ s, x ∈ (extM n l s).1 := by
  unfold extM
  rw [if_pos g]
  unfold goodSet at g
  simp only [Bool.and_eq_true] at g
  obtain ⟨ge, hi, hd⟩ := g
  have hn := (goodEds_n ge).1
  have e : ((n.toNat : Nat) : Int) = n := Int.toNat_of_nonneg hn
  obtain ⟨p1, p2⟩ := ixs_lt hi
  have ok : ExtOk n.toNat l s := ⟨p1.imp (fun h => by omega), fun x hx => by have := p2 x hx; omega, hd⟩
  have ok' := extN_ok ok (Nat.le_refl _)
  have hmem : ∀ x, x ∈ sortI (extN l s n.toNat) ↔ x ∈ extN l s n.toNat := fun x => (sortI_perm _).mem_iff
  refine ⟨rfl, ?_, fun x hx => (hmem x).mpr (extN_sub l s x hx)⟩
  unfold isMax
  rw [ge, ixs_of (sortI_strict ok'.nd) (fun x hx => by have := ok'.rng x ((hmem x).mp hx); omega), indep_sub ok'.ind (fun x hx => (hmem x).mp hx), Bool.true_and, Bool.true_and, Bool.true_and]
  refine upTo_all fun k hk => ?_
  rw [Bool.not_eq_true']
  exact fitsE_mono (extN_end hk) (fun y hy => (hmem y).mpr hy)
theorem extM_no {n : Int} {l : List Edge} {s : List Int} (g : goodSet n l s = false) : extM n l s = ([], false) := by
  unfold extM
  rw [g]; rfl
end Go.Proofs.Ytahjpaicfppkoaa.A


/- LISTS OF LISTS: comparison, marks. Conditions: none. -/
namespace Go.Proofs.Ytahjpaicfppkoaa.A
open Go
set_option linter.unusedSimpArgs false
set_option linter.unusedVariables false
set_option maxRecDepth 100000

def numIS : List (List Int) → Nat
  | [] => 0
  | a :: l => a.length + numIS l
def markIS : List (List Int) → Int → List (List Int)
  | [], _ => []
  | a :: l, k => cnt k a.length :: markIS l (k + a.length)
theorem numIS_nil : numIS [] = 0 := rfl
attribute [go_sem] numIS_nil
theorem markIS_length : ∀ (a : List (List Int)) (k : Int), (markIS a k).length = a.length
  | [], _ => rfl
  | a :: l, k => by rw [markIS, List.length_cons, List.length_cons, markIS_length]
theorem numIS_take {a : List (List Int)} {i : Nat} (h : i < a.length) : numIS (a.take (i + 1)) = numIS (a.take i) + (a.getD i []).length := by
  induction a generalizing i with
  | nil => simp at h
  | cons x a ih =>
    cases i with
    | zero => simp [numIS]
    | succ i =>
      have := ih (i := i) (by simpa using h)
      rw [List.take_succ_cons, List.take_succ_cons, numIS, numIS, this, List.getD_cons_succ]; omega
theorem numIS_le : ∀ {a : List (List Int)} (i : Nat), numIS (a.take i) ≤ numIS a
  | [], i => by simp [numIS]
  | x :: a, 0 => by simp [numIS]
  | x :: a, i + 1 => by
    rw [List.take_succ_cons, numIS, numIS]
    have := numIS_le (a := a) i
    omega
theorem numIS_small {n : Nat} : ∀ {a : List (List Int)}, (∀ x ∈ a, x.length ≤ n) → numIS a ≤ a.length * n
  | [], _ => by simp [numIS]
  | x :: a, h => by
    have h1 := numIS_small (a := a) fun y hy => h y (List.mem_cons_of_mem _ hy)
    have h2 := h x (List.mem_cons_self ..)
    rw [numIS, List.length_cons, Nat.add_mul]; omega
theorem markIS_get : ∀ {a : List (List Int)} {k : Int} {i : Nat}, i < a.length → (markIS a k).getD i [] = cnt (k + numIS (a.take i)) (a.getD i []).length
  | x :: a, k, 0, _ => by simp [markIS, numIS]
  | x :: a, k, i + 1, h => by
    rw [markIS, List.getD_cons_succ, markIS_get (by simpa using h), List.getD_cons_succ, List.take_succ_cons, numIS]
    have e : k + (x.length : Int) + (numIS (a.take i) : Int) = k + ((x.length + numIS (a.take i) : Nat) : Int) := by omega
    rw [e]
theorem markIS_full (a : List (List Int)) (k : Int) : List.take a.length (markIS a k) = markIS a k := List.take_of_length_le (by rw [markIS_length]; omega)
attribute [go_sem] markIS_full
theorem iss_setCell {s : Nat} {l : List (List Int)} {i : Nat} (x : List Int) (h : i < l.length) : Rows.setCell (iss s l) i 0 (.sl s (iv x)) = iss s (l.set i x) := by
  unfold Rows.setCell
  rw [iss_get h]
  exact iss_set s l i x
attribute [go_sem] iss_setCell
end Go.Proofs.Ytahjpaicfppkoaa.A


/- THE WALK OF THE LAW FnMaximalIndependentSets. Conditions: none. -/
namespace Go.Proofs.Ytahjpaicfppkoaa.A
open Go
set_option linter.unusedSimpArgs false
set_option linter.unusedVariables false
set_option maxRecDepth 100000
theorem bigM_sat (b : List Int) (h : b.length ≤ 9223372036854775807) : Sat Try.prog 7 [lBys b] [lBool (decide ((b.length : Int) > 1048576))] [g1] := by
  refine sat_of_body mixed Try.func7 rfl (by kernel_rfl) (by kernel_rfl) (rs := [.tmp 2]) rfl rfl rfl ?_
  simp -implicitDefEqProofs (maxSteps := 2000000) only [go_sem]
set_option maxHeartbeats 8000000 in
/-- THE LAW FnMaximalIndependentSets. -/
theorem lawMaximalIndependentSets_sat (b : List Int) (h : b.length ≤ 9223372036854775807) : Sat Try.prog 5 [lBys b] [lBool true] [g1] := by
  refine sat_of_body mixed Try.func5 rfl (by kernel_rfl) (by kernel_rfl) (rs := [.tmp 2]) rfl rfl rfl ?_
  simp -implicitDefEqProofs (maxSteps := 2000000) only [go_sem]
  refine call_of (bigM_sat b h) (by simp -implicitDefEqProofs (maxSteps := 2000000) only [go_sem]) (by kernel_rfl) (by simp -implicitDefEqProofs (maxSteps := 2000000) only [go_sem]) ?_
  simp -implicitDefEqProofs (maxSteps := 2000000) only [go_sem]
  refine cond_split (fun e0 => ?_) fun e0 => ?_
  · simp -implicitDefEqProofs (maxSteps := 2000000) only [go_sem]
  have o0 : b.length ≤ 1048576 := by have := of_decide_eq_false e0; omega
  simp -implicitDefEqProofs (maxSteps := 2000000) only [go_sem]
  obtain ⟨k1, k2⟩ := edE_ok (curN_ok o0)
  have hn : misN b < 9 := beV_lt (curN b) (n := 9) (by decide)
  obtain ⟨k3, k4⟩ := somE_ok (n := misN b) (l := misL b) k1
  have k5 : (misL b).length ≤ 81 := k2
  have hS : (misS b).length ≤ 1048576 := by
    unfold misS
    split
    · rename_i hh
      rw [Bool.and_eq_true] at hh
      rcases g : goodSet (misN b) (misL b) (misS0 b).2
      · rw [extM_no g] at hh; cases hh.2
      · have hm := (extM_ok g).2.1
        unfold isMax at hm
        simp only [Bool.and_eq_true] at hm
        have := ixs_len hm.2.1 (by omega)
        omega
    · show (somE (edE (curN b)).1 (misN b) (misL b)).2.length ≤ _
      omega
  refine call_of (drawEM_sat b o0) (by simp -implicitDefEqProofs (maxSteps := 2000000) only [go_sem]) (by kernel_rfl) (by simp -implicitDefEqProofs (maxSteps := 2000000) only [go_sem]) ?_
  simp -implicitDefEqProofs (maxSteps := 2000000) only [go_sem]
  generalize ((misN b : Nat) : Int) = n at *
  generalize misL b = l at *
  generalize misS b = s at *
  have hx := extM_len n l s hS
  refine call_of (implExtendToMaximal_sat n l s (by omega) hS) (by simp -implicitDefEqProofs (maxSteps := 2000000) only [go_sem]) (callOk_still (by kernel_rfl) (by simp only [List.all_cons, List.all_nil, LV.still, LV.leaves, Leaf.still, ints_still, ris_still, eds_still, rels_still, iss_still, ems_still, Bool.and_self, Bool.and_true])) (by simp -implicitDefEqProofs (maxSteps := 2000000) only [go_sem]) ?_
  simp -implicitDefEqProofs (maxSteps := 2000000) only [go_sem]
  refine call_of (specExtendToMaximal_sat n l s (by omega) hS) (by simp -implicitDefEqProofs (maxSteps := 2000000) only [go_sem]) (callOk_still (by kernel_rfl) (by simp only [List.all_cons, List.all_nil, LV.still, LV.leaves, Leaf.still, ints_still, ris_still, eds_still, rels_still, iss_still, ems_still, Bool.and_self, Bool.and_true])) (by simp -implicitDefEqProofs (maxSteps := 2000000) only [go_sem]) ?_
  simp -implicitDefEqProofs (maxSteps := 2000000) only [go_sem]
  have eB : ∀ p : Bool, (!(p == p)) = false := fun p => by cases p <;> rfl
  have nv := mis_len n l
  have hm : ∀ t ∈ mis n l, t.length ≤ 9223372036854775807 := fun t ht => by have := mis_small t ht; omega
  refine call_of (implIsMaximalIndependent_sat n l s (by omega) hS) (by simp -implicitDefEqProofs (maxSteps := 2000000) only [go_sem, eB]) (by kernel_rfl) (by simp -implicitDefEqProofs (maxSteps := 2000000) only [go_sem, eB]) ?_
  simp -implicitDefEqProofs (maxSteps := 2000000) only [go_sem, eB]
  refine call_of (specIsMaximalIndependent_sat n l s (by omega) hS) (by simp -implicitDefEqProofs (maxSteps := 2000000) only [go_sem, eB]) (by kernel_rfl) (by simp -implicitDefEqProofs (maxSteps := 2000000) only [go_sem, eB]) ?_
  simp -implicitDefEqProofs (maxSteps := 2000000) only [go_sem, eB]
  refine call_of (implAreValidEdges_sat n l (by omega)) (by simp -implicitDefEqProofs (maxSteps := 2000000) only [go_sem, eB]) (by kernel_rfl) (by simp -implicitDefEqProofs (maxSteps := 2000000) only [go_sem, eB]) ?_
  simp -implicitDefEqProofs (maxSteps := 2000000) only [go_sem, eB]
  refine call_of (specAreValidEdges_sat n l (by omega)) (by simp -implicitDefEqProofs (maxSteps := 2000000) only [go_sem, eB]) (by kernel_rfl) (by simp -implicitDefEqProofs (maxSteps := 2000000) only [go_sem, eB]) ?_
  simp -implicitDefEqProofs (maxSteps := 2000000) only [go_sem, eB]
  refine call_of (implMaximalIndependentSets_sat n l (by omega)) (by simp -implicitDefEqProofs (maxSteps := 2000000) only [go_sem]) (callOk_still (by kernel_rfl) (by simp only [List.all_cons, List.all_nil, LV.still, LV.leaves, Leaf.still, ints_still, ris_still, eds_still, rels_still, iss_still, ems_still, Bool.and_self, Bool.and_true])) (by simp -implicitDefEqProofs (maxSteps := 2000000) only [go_sem]) ?_
  simp -implicitDefEqProofs (maxSteps := 2000000) only [go_sem]
  refine call_of (specMaximalIndependentSets_sat n l (by omega)) (by simp -implicitDefEqProofs (maxSteps := 2000000) only [go_sem]) (callOk_still (by kernel_rfl) (by simp only [List.all_cons, List.all_nil, LV.still, LV.leaves, Leaf.still, ints_still, ris_still, eds_still, rels_still, iss_still, ems_still, Bool.and_self, Bool.and_true])) (by simp -implicitDefEqProofs (maxSteps := 2000000) only [go_sem]) ?_
  simp -implicitDefEqProofs (maxSteps := 2000000) only [go_sem]
  refine call_of (sameRows_sat (mis n l) (mis n l) (by omega) hm) (by simp -implicitDefEqProofs (maxSteps := 2000000) only [go_sem]) (by kernel_rfl) (by simp -implicitDefEqProofs (maxSteps := 2000000) only [go_sem]) ?_
  simp -implicitDefEqProofs (maxSteps := 2000000) only [go_sem]
  refine awp_loop Nat (fun k => mkSt [(3, .sc (.int .i64 n)), (4, .one (.im 2 (eds l))), (5, .one (.ref 960 1 0 s.length)), (6, .one (.ref 961 1 0 (extM n l s).1.length)), (7, .sc (.bool (extM n l s).2)), (10, .one (.ref 962 1 0 (mis n l).length)), (11, .sc (.int .i64 k))] [] [(960, (1, ints s)), (961, (1, ints (extM n l s).1)), (962, (1, iss 999 (mis n l)))] 20000)
    (fun k => k ≤ (mis n l).length) (fun k => (mis n l).length - k) 0 (by omega) (le_st' _ _ [⟨960, some _, false, 1, _⟩, ⟨961, some _, false, 1, _⟩, ⟨962, some _, false, 1, _⟩] [] _ (by simp -implicitDefEqProofs (maxSteps := 2000000) only [go_sem] <;> and_intros <;> rfl) (by simp -implicitDefEqProofs (maxSteps := 2000000) only [go_sem] <;> and_intros <;> rfl) (by simp -implicitDefEqProofs (maxSteps := 2000000) only [go_sem] <;> and_intros <;> rfl) (by rfl)) ?_
  rintro k q1
  by_cases c1 : k < (mis n l).length
  · have wk : IntKind.i64.wrap ((k : Int) + 1) = ((k + 1 : Nat) : Int) := i64_succ (by omega)
    have hin := mem_getD [] c1
    have m1 := mis_max _ hin
    have m2 := isMax_indep m1
    have m3 := longest_ge _ hin
    have m4 := mis_small _ hin
    have d1 : decide ((((mis n l).getD k []).length : Int) > longest (mis n l)) = false := decide_eq_false (by omega)
    simp -implicitDefEqProofs (maxSteps := 2000000) only [go_sem, c1]
    refine call_of (implIsMaximalIndependent_sat n l ((mis n l).getD k []) (by omega) (by omega)) (by simp -implicitDefEqProofs (maxSteps := 2000000) only [go_sem, c1, m1]) (by kernel_rfl) (by simp -implicitDefEqProofs (maxSteps := 2000000) only [go_sem, c1, m1]) ?_
    simp -implicitDefEqProofs (maxSteps := 2000000) only [go_sem, c1, m1]
    refine call_of (implIsIndependent_sat l ((mis n l).getD k []) (by omega) (by omega)) (by simp -implicitDefEqProofs (maxSteps := 2000000) only [go_sem, c1, m2]) (by kernel_rfl) (by simp -implicitDefEqProofs (maxSteps := 2000000) only [go_sem, c1, m2]) ?_
    simp -implicitDefEqProofs (maxSteps := 2000000) only [go_sem, c1, m2]
    refine call_of (implMaximumIndependentSize_sat n l (by omega)) (by simp -implicitDefEqProofs (maxSteps := 2000000) only [go_sem, c1, d1]) (by kernel_rfl) (by simp -implicitDefEqProofs (maxSteps := 2000000) only [go_sem, c1, d1]) ?_
    simp -implicitDefEqProofs (maxSteps := 2000000) only [go_sem, c1, d1]
    first | (with_reducible refine tr_and ?_ ?_; focus kernel_rfl) | (with_reducible refine tr_only ?_; kernel_rfl) | skip
    rw [wk]
    exact ⟨k + 1, c1, by omega, (le_st' _ _ [⟨960, some _, false, 1, _⟩, ⟨961, some _, false, 1, _⟩, ⟨962, some _, false, 1, _⟩] [] _ (by simp -implicitDefEqProofs (maxSteps := 2000000) only [go_sem] <;> and_intros <;> rfl) (by simp -implicitDefEqProofs (maxSteps := 2000000) only [go_sem] <;> and_intros <;> rfl) (by simp -implicitDefEqProofs (maxSteps := 2000000) only [go_sem] <;> and_intros <;> rfl) (by rfl))⟩
  obtain rfl : k = (mis n l).length := by omega
  rcases g : goodSet n l s
  · have e := extM_no g
    have e2 : (extM n l s).2 = false := by rw [e]
    have e1 : (extM n l s).1 = [] := by rw [e]
    rw [e1, e2]
    simp -implicitDefEqProofs (maxSteps := 2000000) only [go_sem, c1]
    first | done | rfl | exact ⟨rfl, rfl⟩ | exact ⟨rfl, rfl, rfl⟩ | (refine tr_and ?_ ?_ <;> first | rfl | exact ⟨rfl, rfl⟩ | kernel_rfl)
  obtain ⟨g1, g2, g3⟩ := extM_ok g
  rw [g1]
  have hxm := mis_all g2
  have hx14 := mis_small _ hxm
  generalize (extM n l s).1 = x at *
  simp -implicitDefEqProofs (maxSteps := 2000000) only [go_sem, c1]
  refine awp_loop Nat (fun m => mkSt [(3, .sc (.int .i64 n)), (4, .one (.im 2 (eds l))), (5, .one (.ref 960 1 0 s.length)), (6, .one (.ref 961 1 0 x.length)), (10, .one (.ref 962 1 0 (mis n l).length)), (12, .sc (.bool (((mis n l).take m).any fun t => decide (t = x)))), (13, .sc (.int .i64 m))] [] [(960, (1, ints s)), (961, (1, ints x)), (962, (1, iss 999 (mis n l)))] 30000)
    (fun m => m ≤ (mis n l).length) (fun m => (mis n l).length - m) 0 (by omega) (le_st' _ _ [⟨960, some _, false, 1, _⟩, ⟨961, some _, false, 1, _⟩, ⟨962, some _, false, 1, _⟩] [] _ (by simp -implicitDefEqProofs (maxSteps := 2000000) only [go_sem, List.take_zero, List.any_nil] <;> and_intros <;> rfl) (by simp -implicitDefEqProofs (maxSteps := 2000000) only [go_sem, List.take_zero, List.any_nil] <;> and_intros <;> rfl) (by simp -implicitDefEqProofs (maxSteps := 2000000) only [go_sem, List.take_zero, List.any_nil] <;> and_intros <;> rfl) (by rfl)) ?_
  rintro m q2
  by_cases c2 : m < (mis n l).length
  · have wm : IntKind.i64.wrap ((m : Int) + 1) = ((m + 1 : Nat) : Int) := i64_succ (by omega)
    have hin := hm _ (mem_getD [] c2)
    have hst := any_stepM (d := []) (p := fun t => decide (t = x)) c2
    rcases d0 : (((mis n l).take m).any fun t => decide (t = x))
    · rw [d0, Bool.false_or] at hst
      simp -implicitDefEqProofs (maxSteps := 2000000) only [go_sem, c2, d0]
      refine call_of (sameInts_sat ((mis n l).getD m []) x hin) (by simp -implicitDefEqProofs (maxSteps := 2000000) only [go_sem, c2, d0]) (by kernel_rfl) (by simp -implicitDefEqProofs (maxSteps := 2000000) only [go_sem, c2, d0]) ?_
      simp -implicitDefEqProofs (maxSteps := 2000000) only [go_sem, c2, d0]
      rw [wm]
      exact ⟨m + 1, c2, by omega, (le_st' _ _ [⟨960, some _, false, 1, _⟩, ⟨961, some _, false, 1, _⟩, ⟨962, some _, false, 1, _⟩] [] _ (by simp -implicitDefEqProofs (maxSteps := 2000000) only [go_sem, hst] <;> and_intros <;> rfl) (by simp -implicitDefEqProofs (maxSteps := 2000000) only [go_sem, hst] <;> and_intros <;> rfl) (by simp -implicitDefEqProofs (maxSteps := 2000000) only [go_sem, hst] <;> and_intros <;> rfl) (by rfl))⟩
    · rw [d0, Bool.true_or] at hst
      simp -implicitDefEqProofs (maxSteps := 2000000) only [go_sem, c2, d0]
      rw [wm]
      exact ⟨m + 1, c2, by omega, (le_st' _ _ [⟨960, some _, false, 1, _⟩, ⟨961, some _, false, 1, _⟩, ⟨962, some _, false, 1, _⟩] [] _ (by simp -implicitDefEqProofs (maxSteps := 2000000) only [go_sem, hst] <;> and_intros <;> rfl) (by simp -implicitDefEqProofs (maxSteps := 2000000) only [go_sem, hst] <;> and_intros <;> rfl) (by simp -implicitDefEqProofs (maxSteps := 2000000) only [go_sem, hst] <;> and_intros <;> rfl) (by rfl))⟩
  obtain rfl : m = (mis n l).length := by omega
  have hany : (((mis n l).take (mis n l).length).any fun t => decide (t = x)) = true := by
    rw [List.take_length]; exact List.any_eq_true.mpr ⟨x, hxm, decide_eq_true rfl⟩
  rw [hany]
  simp -implicitDefEqProofs (maxSteps := 2000000) only [go_sem, c2]
  refine awp_loop Nat (fun j => mkSt [(3, .sc (.int .i64 n)), (4, .one (.im 2 (eds l))), (5, .one (.ref 960 1 0 s.length)), (6, .one (.ref 961 1 0 x.length)), (12, .sc (.bool true)), (14, .sc (.int .i64 j))] [] [(960, (1, ints s)), (961, (1, ints x))] 40000)
    (fun j => j ≤ s.length) (fun j => s.length - j) 0 (by omega) (le_st' _ _ [⟨960, some _, false, 1, _⟩, ⟨961, some _, false, 1, _⟩] [] _ (by simp -implicitDefEqProofs (maxSteps := 2000000) only [go_sem] <;> and_intros <;> rfl) (by simp -implicitDefEqProofs (maxSteps := 2000000) only [go_sem] <;> and_intros <;> rfl) (by simp -implicitDefEqProofs (maxSteps := 2000000) only [go_sem] <;> and_intros <;> rfl) (by rfl)) ?_
  rintro j q3
  by_cases c3 : j < s.length
  · have wj : IntKind.i64.wrap ((j : Int) + 1) = ((j + 1 : Nat) : Int) := i64_succ (by omega)
    have hj := decide_eq_true (g3 _ (mem_getD 0 c3))
    simp -implicitDefEqProofs (maxSteps := 2000000) only [go_sem, c3]
    refine call_of (has_sat x (s.getD j 0) (by omega)) (by simp -implicitDefEqProofs (maxSteps := 2000000) only [go_sem, c3, hj]) (by kernel_rfl) (by simp -implicitDefEqProofs (maxSteps := 2000000) only [go_sem, c3, hj]) ?_
    simp -implicitDefEqProofs (maxSteps := 2000000) only [go_sem, c3, hj]
    rw [wj]
    exact ⟨j + 1, c3, by omega, (le_st' _ _ [⟨960, some _, false, 1, _⟩, ⟨961, some _, false, 1, _⟩] [] _ (by simp -implicitDefEqProofs (maxSteps := 2000000) only [go_sem] <;> and_intros <;> rfl) (by simp -implicitDefEqProofs (maxSteps := 2000000) only [go_sem] <;> and_intros <;> rfl) (by simp -implicitDefEqProofs (maxSteps := 2000000) only [go_sem] <;> and_intros <;> rfl) (by rfl))⟩
  obtain rfl : j = s.length := by omega
  simp -implicitDefEqProofs (maxSteps := 2000000) only [go_sem, c3]
  refine call_of (implIsMaximalIndependent_sat n l x (by omega) (by omega)) (by simp -implicitDefEqProofs (maxSteps := 2000000) only [go_sem, g2]) (by kernel_rfl) (by simp -implicitDefEqProofs (maxSteps := 2000000) only [go_sem, g2]) ?_
  simp -implicitDefEqProofs (maxSteps := 2000000) only [go_sem, g2]
  first | (with_reducible refine tr_and ?_ ?_; focus kernel_rfl) | (with_reducible refine tr_only ?_; kernel_rfl) | skip
end Go.Proofs.Ytahjpaicfppkoaa.A


/- BYTES READ. Conditions: none. -/
namespace Go.Proofs.Ytahjpaicfppkoaa.A
open Go
set_option linter.unusedVariables false
theorem readsC_byte {H : Type} {enc : TypeId × Value → H} {P : Program} {W : World} {t : TypeId} (ht : P.underlying t = some (.int .u8)) : ReadsC enc P W t cBy (fun _ => True) := by
  intro n cs x h
  obtain ⟨z, rfl⟩ := trod_int ht h
  exact ⟨z, trivial, ⟨rfl, rfl⟩, trivial⟩
end Go.Proofs.Ytahjpaicfppkoaa.A


/- THE LAW FnMaximalIndependentSets: for every input it returns true, and the input reads as it did. Conditions: none. -/
namespace Go.Proofs.Ytahjpaicfppkoaa.lawMaximalIndependentSets
open Go.ChangeShapes Go.WideShapes Go.ChangeAt Go.RowKit
open Go.Proofs.Ytahjpaicfppkoaa.A
set_option linter.unusedVariables false
theorem own : ownKnob Try.prog.godebug = none := by kernel_rfl
theorem laid : laidOutB Try.prog = true := by kernel_rfl
theorem rowed : mapsRowed Try.prog = true := by kernel_rfl
theorem full : ((List.range Try.prog.types.size).all fun t => match Try.prog.underlying t with | some (.slice e) => decide (0 < Try.prog.cellsOf e) | _ => true) = true := by kernel_rfl
set_option maxRecDepth 100000 in
theorem lifted (os : Os) (started : os.Started) (H : Type) (enc : TypeId × Value → H) :
    ReturnsInHanded {} Try.checked os 5 .any (Rows.fnMaximalIndependentSetsSpec.pre6 enc Try.prog Try.f5 Rows.fnMaximalIndependentSetsRow.domain false) (Rows.fnMaximalIndependentSetsSpec.post enc Try.prog Try.f5 false true false false) := by
  refine returnsInHanded_of_change_sized (C := Try.checked) own started (by kernel_rfl) Try.func5
    (ChangeSpec.witness6 (enc := enc) (C := Try.checked) false ⟨#[], #[.slice none 0 0], []⟩ 8 (by kernel_rfl) (by kernel_rfl) (by kernel_rfl) (by kernel_rfl)) ?_
  intro W base args ds gs before hval hW _ _ _
  obtain ⟨p, q, hA, hV, hpq, _⟩ := id hW
  rw [Try.params5] at hA hval
  obtain ⟨v0, vs0, d0, ds0, p0, q0, e0, rfl, rfl, h0, r0⟩ := trodAll_cons hA
  obtain ⟨rfl, rfl, rfl⟩ := trodAll_nil r0
  obtain ⟨rfl, _⟩ := trodVars_none hV
  obtain rfl : args = #[v0] := by cases args; simp_all
  have rB := readsC_byte (enc := enc) (W := W) und5
  have lBs := readsL_rows (w := 1) rB und22 (by kernel_rfl) (by omega) (fun _ => rfl) bys (fun _ => rfl)
  obtain ⟨a0, g0, l0⟩ := arg_one lBs (okWide_slice_ne und22 (hval 0 _ v0 rfl rfl)) h0
  exact law_calls laid rowed full Try.func5 rfl (by kernel_rfl) rfl rfl (by kernel_rfl) rfl und4 hW (lawMaximalIndependentSets_sat a0 g0.1) ⟨l0 _, trivial⟩ rfl rfl rfl
theorem over : Rows.fnMaximalIndependentSetsRow.holds Try.pinned (OpenSpec.ofChange Rows.fnMaximalIndependentSetsSpec) :=
  OpenClaim.holds_of_wide 5 Try.f5 rfl rfl rfl rfl rfl rfl rfl ⟨rfl, rfl, rfl, rfl, rfl⟩ rfl rfl rfl rfl rfl (by kernel_rfl) Try.func5 (by kernel_rfl)
    (of_decide_eq_true (by kernel_rfl)) (by unfold Func.isWrapper; first | (rw [if_pos (by decide +kernel)]; kernel_rfl) | (rw [if_neg (by decide +kernel)]; exact ⟨rfl, rfl⟩))
    (fun os started H enc _ => lifted os started H enc)
end Go.Proofs.Ytahjpaicfppkoaa.lawMaximalIndependentSets
namespace Go.Proofs.Ytahjpaicfppkoaa
/-- The row, under a short name, for the claim. -/
theorem fnMaximalIndependentSets_holds : Rows.FnMaximalIndependentSetsSaid := lawMaximalIndependentSets.over
#print axioms fnMaximalIndependentSets_holds
end Go.Proofs.Ytahjpaicfppkoaa
