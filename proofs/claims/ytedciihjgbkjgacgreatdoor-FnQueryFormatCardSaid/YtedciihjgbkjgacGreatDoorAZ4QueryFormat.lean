/- Packed by pack.py: FDraw14 FDraw15 FDraw9 FDraw16 FDraw21 FDraw22 FDraw23 F4 WQueryFormat LKB LQueryFormat -/
import Derived.Test.YtedciihjgbkjgacGreatDoorAZ3QueryFormat
import Derived.Test.YtedciihjgbkjgacGreatDoorAZ2QueryFormat
import Derived.Test.YtedciihjgbkjgacGreatDoorAZ1QueryFormat
import Derived.Test.YtedciihjgbkjgacGreatDoorRows
import Derived.Test.YtedciihjgbkjgacGreatDoorCards
import Derived.Test.YtedciihjgbkjgacGreatDoorTie
import Derived.Lay
import Derived.LaidLaws
import Derived.Handed
import Derived.SevenTiedAt

/- QUERIES DRAWN, with free variables. Conditions: none. -/
namespace Go.Proofs.YtedciihjgbkjgacGreatDoor.A
open Go
set_option linter.unusedSimpArgs false
set_option linter.unusedVariables false
set_option maxRecDepth 100000

def frD (c : Cur) : Nat → List Int × Cur
  | 0 => ([], c)
  | k + 1 => (if onV (frD c k).2 3 then (frD c k).1 ++ [(k : Int)] else (frD c k).1, byC (frD c k).2)
theorem frD_ok {c : Cur} (h : c.ok) : ∀ k, (frD c k).2.ok ∧ (frD c k).1.length ≤ k
  | 0 => ⟨h, Nat.le_refl _⟩
  | k + 1 => by
    obtain ⟨h1, h2⟩ := frD_ok h k
    refine ⟨byC_ok h1, ?_⟩
    show (if onV (frD c k).2 3 then (frD c k).1 ++ [(k : Int)] else (frD c k).1).length ≤ k + 1
    split
    · rw [List.length_append, List.length_singleton]; omega
    · omega
theorem QuD.more {m n : Nat} {q : Qu} (h : QuD m q) (hm : m ≤ n) : QuD n q := by
  have h1 := h.vc
  have h2 := h.n
  have h3 := h.free
  exact ⟨by omega, by omega, h.first, fun x hx => by have := h.all x hx; omega, by omega⟩
theorem tight_D (c : Cur) (hc : c.ok) : QuD 100 (tightQ ⟨0, (qryA c).1, []⟩) ∧ (qryA c).2.ok := by
  have b := beV_lt c (n := 3) (by decide)
  have hl : (qryA c).1.length = 1 + beV c 3 := atsD_len _ _ _ _
  have hm : ∀ x ∈ (qryA c).1, 2 ≤ x.l.length ∧ x.l.length ≤ 3 := fun x hx => atsD_mem x hx
  refine ⟨?_, atsD_ok (byC_ok (byC_ok (byC_ok hc))) _ _ _⟩
  generalize (qryA c).1 = X at hl hm
  have hM : ∀ i : Nat, (X.getD i default).l.length ≤ 3 := getD_le (fun x hx => (hm x hx).2)
  obtain ⟨⟨t1, t2⟩, t3⟩ := tgAll_ok hM X.length
  have t4 : X.length * 3 ≤ 9 := by omega
  unfold tightQ
  refine ⟨by simp only; omega, by simp only; omega, ?_, fun x hx => ?_, by simp⟩
  · simp only
    rw [t2 0]
    have := (hm _ (mem_getD default (show 0 < X.length by omega))).1
    omega
  · obtain ⟨k, hk, rfl⟩ := List.mem_iff_getElem.mp hx
    have := t2 k
    rw [List.getD_eq_getElem?_getD, List.getElem?_eq_getElem hk, Option.getD_some] at this
    rw [this]
    have := hM k
    omega
set_option maxHeartbeats 8000000 in
theorem l11Draw_ex (c0 c : Cur) (hc : c.ok) : ∃ (q : Qu) (c' : Cur), QuD 200 q ∧ c'.ok ∧ Sat Tryz.prog 27 [lCur c, lRels (sigs c0)] [oQu q] [lCur c', g1] := by
  have s0 := l11Query_sat c hc
  obtain ⟨hq0, k1⟩ := tight_D c hc
  generalize tightQ ⟨0, (qryA c).1, []⟩ = q0 at s0 hq0
  generalize (qryA c).2 = c1 at s0 k1
  have kb := byC_ok k1
  rcases d3 : onV c1 3
  · obtain ⟨c2, e2⟩ : ∃ c2, c2 = byC c1 := ⟨_, rfl⟩
    obtain ⟨q, eq⟩ : ∃ q, q = q0 := ⟨_, rfl⟩
    have k2 : c2.ok := by rw [e2]; exact kb
    have hq : QuD 100 q := by rw [eq]; exact hq0
    subst e2 eq
    rcases d4 : onV (byC c1) 4
    · have d4 : onV (byC c1) 4 = false := d4
      refine ⟨q, byC (byC c1), hq.more (by decide), byC_ok k2, ?_⟩
      refine sat_of_body mixed Tryz.func27 rfl (by kernel_rfl) (by kernel_rfl) (rs := [.cell 4 28]) rfl rfl rfl ?_
      simp -implicitDefEqProofs (maxSteps := 2000000) only [go_sem]
      refine call_of (s0) (by simp -implicitDefEqProofs (maxSteps := 2000000) only [go_sem]) (by kernel_rfl) (by simp -implicitDefEqProofs (maxSteps := 2000000) only [go_sem]) ?_
      simp -implicitDefEqProofs (maxSteps := 2000000) only [go_sem]
      refine call_of (l1Once_sat c1 3 k1 (by decide) (by decide)) (by simp -implicitDefEqProofs (maxSteps := 2000000) only [go_sem, d3] <;> and_intros <;> rfl) (by kernel_rfl) (by simp -implicitDefEqProofs (maxSteps := 2000000) only [go_sem, d3]) ?_
      simp -implicitDefEqProofs (maxSteps := 2000000) only [go_sem, d3]
      refine call_of (l1Once_sat (byC c1) 4 k2 (by decide) (by decide)) (by simp -implicitDefEqProofs (maxSteps := 2000000) only [go_sem, d4] <;> and_intros <;> rfl) (by kernel_rfl) (by simp -implicitDefEqProofs (maxSteps := 2000000) only [go_sem, d4]) ?_
      simp -implicitDefEqProofs (maxSteps := 2000000) only [go_sem, d4]
      and_intros <;> rfl
    · have d4 : onV (byC c1) 4 = true := d4
      have hF := frD_ok (byC_ok k2)
      obtain ⟨N, hN⟩ : ∃ N : Nat, N = q.vc.toNat := ⟨_, rfl⟩
      have hvc := hq.vc
      have hfr := hq.free
      have hna := hq.n
      obtain ⟨o1, o2⟩ := hF N
      refine ⟨⟨q.vc, q.atoms, q.free ++ (frD (byC (byC c1)) N).1⟩, (frD (byC (byC c1)) N).2, ⟨by simp only; omega, by simp only; omega, hq.first, (hq.more (by decide)).all, by simp only [List.length_append]; omega⟩, o1, ?_⟩
      refine sat_of_body mixed Tryz.func27 rfl (by kernel_rfl) (by kernel_rfl) (rs := [.cell 4 28]) rfl rfl rfl ?_
      simp -implicitDefEqProofs (maxSteps := 2000000) only [go_sem]
      refine call_of (s0) (by simp -implicitDefEqProofs (maxSteps := 2000000) only [go_sem]) (by kernel_rfl) (by simp -implicitDefEqProofs (maxSteps := 2000000) only [go_sem]) ?_
      simp -implicitDefEqProofs (maxSteps := 2000000) only [go_sem]
      refine call_of (l1Once_sat c1 3 k1 (by decide) (by decide)) (by simp -implicitDefEqProofs (maxSteps := 2000000) only [go_sem, d3] <;> and_intros <;> rfl) (by kernel_rfl) (by simp -implicitDefEqProofs (maxSteps := 2000000) only [go_sem, d3]) ?_
      simp -implicitDefEqProofs (maxSteps := 2000000) only [go_sem, d3]
      refine call_of (l1Once_sat (byC c1) 4 k2 (by decide) (by decide)) (by simp -implicitDefEqProofs (maxSteps := 2000000) only [go_sem, d4] <;> and_intros <;> rfl) (by kernel_rfl) (by simp -implicitDefEqProofs (maxSteps := 2000000) only [go_sem, d4]) ?_
      simp -implicitDefEqProofs (maxSteps := 2000000) only [go_sem, d4]
      refine awp_loop Nat (fun k => mkSt [(0, .one (.vad 0 0)), (4, .one (.vad 1000 0)), (5, .one (.vad 1192 0)), (6, .sc (.int .i64 k))] [(0, sCur (frD (byC (byC c1)) k).2), (1000, zQ2), (1192, [.sc (.int .i64 q.vc), .ref 960 2 0 q.atoms.length, .ref 961 1 0 (q.free.length + (frD (byC (byC c1)) k).1.length)])] [(960, (2, ris 999 q.atoms)), (961, (1, ints (q.free ++ (frD (byC (byC c1)) k).1)))] 12000)
        (fun k => k ≤ N) (fun k => N - k) 0 (by omega) (le_st' _ _ [⟨960, some _, false, 2, _⟩, ⟨961, some _, false, 1, _⟩] [] _ (by simp -implicitDefEqProofs (maxSteps := 2000000) only [go_sem, frD, List.length_nil, List.append_nil, Nat.add_zero] <;> and_intros <;> rfl) (by simp -implicitDefEqProofs (maxSteps := 2000000) only [go_sem, frD, List.length_nil, List.append_nil, Nat.add_zero] <;> and_intros <;> rfl) (by simp -implicitDefEqProofs (maxSteps := 2000000) only [go_sem, frD, List.length_nil, List.append_nil, Nat.add_zero] <;> and_intros <;> rfl) (by rfl)) ?_
      rintro k h1
      obtain ⟨m1, m2⟩ := hF k
      by_cases c5 : k < N
      · have d5 : decide (((k : Nat) : Int) < q.vc) = true := decide_eq_true (by omega)
        have wk : IntKind.i64.wrap ((k : Int) + 1) = ((k + 1 : Nat) : Int) := i64_succ (by omega)
        rcases d6 : onV (frD (byC (byC c1)) k).2 3
        · have e1 : frD (byC (byC c1)) (k + 1) = ((frD (byC (byC c1)) k).1, byC (frD (byC (byC c1)) k).2) := by rw [frD, d6]; rfl
          simp -implicitDefEqProofs (maxSteps := 2000000) only [go_sem, d5]
          refine call_of (l1Once_sat (frD (byC (byC c1)) k).2 3 m1 (by decide) (by decide)) (by simp -implicitDefEqProofs (maxSteps := 2000000) only [go_sem, d6] <;> and_intros <;> rfl) (by kernel_rfl) (by simp -implicitDefEqProofs (maxSteps := 2000000) only [go_sem, d6]) ?_
          simp -implicitDefEqProofs (maxSteps := 2000000) only [go_sem, d6]
          rw [wk]
          exact ⟨k + 1, c5, by omega, (le_st' _ _ [⟨960, some _, false, 2, _⟩, ⟨961, some _, false, 1, _⟩] [] _ (by simp -implicitDefEqProofs (maxSteps := 2000000) only [go_sem, e1] <;> and_intros <;> rfl) (by simp -implicitDefEqProofs (maxSteps := 2000000) only [go_sem, e1] <;> and_intros <;> rfl) (by simp -implicitDefEqProofs (maxSteps := 2000000) only [go_sem, e1] <;> and_intros <;> rfl) (by rfl))⟩
        · have e1 : frD (byC (byC c1)) (k + 1) = ((frD (byC (byC c1)) k).1 ++ [(k : Int)], byC (frD (byC (byC c1)) k).2) := by rw [frD, d6]; rfl
          have et : List.take (q.free.length + (frD (byC (byC c1)) k).1.length) (q.free ++ (frD (byC (byC c1)) k).1) = q.free ++ (frD (byC (byC c1)) k).1 := List.take_of_length_le (by rw [List.length_append]; exact Nat.le_refl _)
          simp -implicitDefEqProofs (maxSteps := 2000000) only [go_sem, d5]
          refine call_of (l1Once_sat (frD (byC (byC c1)) k).2 3 m1 (by decide) (by decide)) (by simp -implicitDefEqProofs (maxSteps := 2000000) only [go_sem, d6, et] <;> and_intros <;> rfl) (by kernel_rfl) (by simp -implicitDefEqProofs (maxSteps := 2000000) only [go_sem, d6, et]) ?_
          simp -implicitDefEqProofs (maxSteps := 2000000) only [go_sem, d6, et]
          repeat (refine And.intro (by omega) ?_)
          rw [wk]
          refine ⟨k + 1, c5, by omega, ?_⟩
          exact (le_st' _ _ [⟨960, some _, false, 2, _⟩, ⟨961, some _, false, 1, _⟩] [] _ (by simp -implicitDefEqProofs (maxSteps := 2000000) only [go_sem, e1, et, List.append_assoc, Nat.add_assoc, repP, List.set_cons_zero, List.length_append, List.length_singleton] <;> and_intros <;> rfl) (by simp -implicitDefEqProofs (maxSteps := 2000000) only [go_sem, e1, et, List.append_assoc, Nat.add_assoc, repP, List.set_cons_zero, List.length_append, List.length_singleton] <;> and_intros <;> rfl) (by simp -implicitDefEqProofs (maxSteps := 2000000) only [go_sem, e1, et, List.append_assoc, Nat.add_assoc, repP, List.set_cons_zero, List.length_append, List.length_singleton] <;> and_intros <;> rfl) (by rfl))
      · obtain rfl : k = N := by omega
        have d5 : decide (((k : Nat) : Int) < q.vc) = false := decide_eq_false (by omega)
        simp -implicitDefEqProofs (maxSteps := 2000000) only [go_sem, d5]
        and_intros <;> first | rfl | (rw [List.length_append])
  · obtain ⟨q, hq, s1⟩ := l11Known_ex c0 (byC c1) kb
    have k2 := byC_ok kb
    rcases d4 : onV (byC (byC c1)) 4
    · have d4 : onV (byC (byC c1)) 4 = false := d4
      refine ⟨q, byC (byC (byC c1)), hq.more (by decide), byC_ok k2, ?_⟩
      refine sat_of_body mixed Tryz.func27 rfl (by kernel_rfl) (by kernel_rfl) (rs := [.cell 4 28]) rfl rfl rfl ?_
      simp -implicitDefEqProofs (maxSteps := 2000000) only [go_sem]
      refine call_of (s0) (by simp -implicitDefEqProofs (maxSteps := 2000000) only [go_sem]) (by kernel_rfl) (by simp -implicitDefEqProofs (maxSteps := 2000000) only [go_sem]) ?_
      simp -implicitDefEqProofs (maxSteps := 2000000) only [go_sem]
      refine call_of (l1Once_sat c1 3 k1 (by decide) (by decide)) (by simp -implicitDefEqProofs (maxSteps := 2000000) only [go_sem, d3] <;> and_intros <;> rfl) (by kernel_rfl) (by simp -implicitDefEqProofs (maxSteps := 2000000) only [go_sem, d3]) ?_
      simp -implicitDefEqProofs (maxSteps := 2000000) only [go_sem, d3]
      refine call_of (s1) ?_ ?_ ?_ ?_
      · simp -implicitDefEqProofs (maxSteps := 2000000) only [go_sem]
      · kernel_rfl
      · simp -implicitDefEqProofs (maxSteps := 2000000) only [go_sem]
      simp -implicitDefEqProofs (maxSteps := 2000000) only [go_sem]
      refine call_of (l1Once_sat (byC (byC c1)) 4 k2 (by decide) (by decide)) (by simp -implicitDefEqProofs (maxSteps := 2000000) only [go_sem, d4] <;> and_intros <;> rfl) (by kernel_rfl) (by simp -implicitDefEqProofs (maxSteps := 2000000) only [go_sem, d4]) ?_
      simp -implicitDefEqProofs (maxSteps := 2000000) only [go_sem, d4]
      and_intros <;> rfl
    · have d4 : onV (byC (byC c1)) 4 = true := d4
      have hF := frD_ok (byC_ok k2)
      obtain ⟨N, hN⟩ : ∃ N : Nat, N = q.vc.toNat := ⟨_, rfl⟩
      have hvc := hq.vc
      have hfr := hq.free
      have hna := hq.n
      obtain ⟨o1, o2⟩ := hF N
      refine ⟨⟨q.vc, q.atoms, q.free ++ (frD (byC (byC (byC c1))) N).1⟩, (frD (byC (byC (byC c1))) N).2, ⟨by simp only; omega, by simp only; omega, hq.first, (hq.more (by decide)).all, by simp only [List.length_append]; omega⟩, o1, ?_⟩
      refine sat_of_body mixed Tryz.func27 rfl (by kernel_rfl) (by kernel_rfl) (rs := [.cell 4 28]) rfl rfl rfl ?_
      simp -implicitDefEqProofs (maxSteps := 2000000) only [go_sem]
      refine call_of (s0) (by simp -implicitDefEqProofs (maxSteps := 2000000) only [go_sem]) (by kernel_rfl) (by simp -implicitDefEqProofs (maxSteps := 2000000) only [go_sem]) ?_
      simp -implicitDefEqProofs (maxSteps := 2000000) only [go_sem]
      refine call_of (l1Once_sat c1 3 k1 (by decide) (by decide)) (by simp -implicitDefEqProofs (maxSteps := 2000000) only [go_sem, d3] <;> and_intros <;> rfl) (by kernel_rfl) (by simp -implicitDefEqProofs (maxSteps := 2000000) only [go_sem, d3]) ?_
      simp -implicitDefEqProofs (maxSteps := 2000000) only [go_sem, d3]
      refine call_of (s1) ?_ ?_ ?_ ?_
      · simp -implicitDefEqProofs (maxSteps := 2000000) only [go_sem]
      · kernel_rfl
      · simp -implicitDefEqProofs (maxSteps := 2000000) only [go_sem]
      simp -implicitDefEqProofs (maxSteps := 2000000) only [go_sem]
      refine call_of (l1Once_sat (byC (byC c1)) 4 k2 (by decide) (by decide)) (by simp -implicitDefEqProofs (maxSteps := 2000000) only [go_sem, d4] <;> and_intros <;> rfl) (by kernel_rfl) (by simp -implicitDefEqProofs (maxSteps := 2000000) only [go_sem, d4]) ?_
      simp -implicitDefEqProofs (maxSteps := 2000000) only [go_sem, d4]
      refine awp_loop Nat (fun k => mkSt [(0, .one (.vad 0 0)), (4, .one (.vad 1000 0)), (5, .one (.vad 1192 0)), (6, .sc (.int .i64 k))] [(0, sCur (frD (byC (byC (byC c1))) k).2), (1000, zQ2), (1192, [.sc (.int .i64 q.vc), .ref 960 2 0 q.atoms.length, .ref 961 1 0 (q.free.length + (frD (byC (byC (byC c1))) k).1.length)])] [(960, (2, ris 999 q.atoms)), (961, (1, ints (q.free ++ (frD (byC (byC (byC c1))) k).1)))] 12000)
        (fun k => k ≤ N) (fun k => N - k) 0 (by omega) (le_st' _ _ [⟨960, some _, false, 2, _⟩, ⟨961, some _, false, 1, _⟩] [] _ (by simp -implicitDefEqProofs (maxSteps := 2000000) only [go_sem, frD, List.length_nil, List.append_nil, Nat.add_zero] <;> and_intros <;> rfl) (by simp -implicitDefEqProofs (maxSteps := 2000000) only [go_sem, frD, List.length_nil, List.append_nil, Nat.add_zero] <;> and_intros <;> rfl) (by simp -implicitDefEqProofs (maxSteps := 2000000) only [go_sem, frD, List.length_nil, List.append_nil, Nat.add_zero] <;> and_intros <;> rfl) (by rfl)) ?_
      rintro k h1
      obtain ⟨m1, m2⟩ := hF k
      by_cases c5 : k < N
      · have d5 : decide (((k : Nat) : Int) < q.vc) = true := decide_eq_true (by omega)
        have wk : IntKind.i64.wrap ((k : Int) + 1) = ((k + 1 : Nat) : Int) := i64_succ (by omega)
        rcases d6 : onV (frD (byC (byC (byC c1))) k).2 3
        · have e1 : frD (byC (byC (byC c1))) (k + 1) = ((frD (byC (byC (byC c1))) k).1, byC (frD (byC (byC (byC c1))) k).2) := by rw [frD, d6]; rfl
          simp -implicitDefEqProofs (maxSteps := 2000000) only [go_sem, d5]
          refine call_of (l1Once_sat (frD (byC (byC (byC c1))) k).2 3 m1 (by decide) (by decide)) (by simp -implicitDefEqProofs (maxSteps := 2000000) only [go_sem, d6] <;> and_intros <;> rfl) (by kernel_rfl) (by simp -implicitDefEqProofs (maxSteps := 2000000) only [go_sem, d6]) ?_
          simp -implicitDefEqProofs (maxSteps := 2000000) only [go_sem, d6]
          rw [wk]
          exact ⟨k + 1, c5, by omega, (le_st' _ _ [⟨960, some _, false, 2, _⟩, ⟨961, some _, false, 1, _⟩] [] _ (by simp -implicitDefEqProofs (maxSteps := 2000000) only [go_sem, e1] <;> and_intros <;> rfl) (by simp -implicitDefEqProofs (maxSteps := 2000000) only [go_sem, e1] <;> and_intros <;> rfl) (by simp -implicitDefEqProofs (maxSteps := 2000000) only [go_sem, e1] <;> and_intros <;> rfl) (by rfl))⟩
        · have e1 : frD (byC (byC (byC c1))) (k + 1) = ((frD (byC (byC (byC c1))) k).1 ++ [(k : Int)], byC (frD (byC (byC (byC c1))) k).2) := by rw [frD, d6]; rfl
          have et : List.take (q.free.length + (frD (byC (byC (byC c1))) k).1.length) (q.free ++ (frD (byC (byC (byC c1))) k).1) = q.free ++ (frD (byC (byC (byC c1))) k).1 := List.take_of_length_le (by rw [List.length_append]; exact Nat.le_refl _)
          simp -implicitDefEqProofs (maxSteps := 2000000) only [go_sem, d5]
          refine call_of (l1Once_sat (frD (byC (byC (byC c1))) k).2 3 m1 (by decide) (by decide)) (by simp -implicitDefEqProofs (maxSteps := 2000000) only [go_sem, d6, et] <;> and_intros <;> rfl) (by kernel_rfl) (by simp -implicitDefEqProofs (maxSteps := 2000000) only [go_sem, d6, et]) ?_
          simp -implicitDefEqProofs (maxSteps := 2000000) only [go_sem, d6, et]
          repeat (refine And.intro (by omega) ?_)
          rw [wk]
          refine ⟨k + 1, c5, by omega, ?_⟩
          exact (le_st' _ _ [⟨960, some _, false, 2, _⟩, ⟨961, some _, false, 1, _⟩] [] _ (by simp -implicitDefEqProofs (maxSteps := 2000000) only [go_sem, e1, et, List.append_assoc, Nat.add_assoc, repP, List.set_cons_zero, List.length_append, List.length_singleton] <;> and_intros <;> rfl) (by simp -implicitDefEqProofs (maxSteps := 2000000) only [go_sem, e1, et, List.append_assoc, Nat.add_assoc, repP, List.set_cons_zero, List.length_append, List.length_singleton] <;> and_intros <;> rfl) (by simp -implicitDefEqProofs (maxSteps := 2000000) only [go_sem, e1, et, List.append_assoc, Nat.add_assoc, repP, List.set_cons_zero, List.length_append, List.length_singleton] <;> and_intros <;> rfl) (by rfl))
      · obtain rfl : k = N := by omega
        have d5 : decide (((k : Nat) : Int) < q.vc) = false := decide_eq_false (by omega)
        simp -implicitDefEqProofs (maxSteps := 2000000) only [go_sem, d5]
        and_intros <;> first | rfl | (rw [List.length_append])
end Go.Proofs.YtedciihjgbkjgacGreatDoor.A


/- QUERIES DRAWN, spoilt now and then. Conditions: none. -/
namespace Go.Proofs.YtedciihjgbkjgacGreatDoor.A
open Go
set_option linter.unusedSimpArgs false
set_option linter.unusedVariables false
set_option maxRecDepth 100000

theorem idxA_rin {st : St} {K : Eff → Prop} {e id i j s off len k : Nat} : idxA st e (.rin id i j s off len) k K = idxJ e (st.objs id) id i j s off len k K := by
  simp only [idxA, idxJ, Rows.cell]
  rcases st.objs id with _ | ⟨w, rows⟩
  · rfl
  · simp only
    rcases (List.getD rows i []).getD j .gone with _ | ⟨s', xs⟩ | _ <;> rfl
attribute [go_sem] idxA_rin
theorem rst_2s (s t : Nat) (a b : List RI) : rst (ris (s + 1) a ++ ris (t + 1) b) = ris 1 (a ++ b) := by
  have e : ∀ x y : Rows, rst (x ++ y) = rst x ++ rst y := fun x y => by simp [rst]
  rw [e, ris_rst s, ris_rst t, ris_append]
set_option maxHeartbeats 8000000 in
theorem l11Any_ex (c0 c : Cur) (hc : c.ok) : ∃ (q : Qu) (c' : Cur), QuD 201 q ∧ c'.ok ∧ Sat Tryz.prog 34 [lCur c, lRels (sigs c0)] [oQu q] [lCur c', g1] := by
  obtain ⟨q, c1, hq, k1, s0⟩ := l11Draw_ex c0 c hc
  have hv := hq.vc
  have hn := hq.n
  have hf := hq.free
  have h1 := hq.first
  have ha := hq.all
  have hm := hq.more (show 200 ≤ 201 by decide)
  rcases q with ⟨vc, ats, fr⟩
  simp only at hv hn hf h1 ha
  have k2 := byC_ok k1
  have ht := beV_lt c1 (n := 14) (by decide)
  by_cases t0 : beV c1 14 = 0
  · have d0 : (((beV c1 14 : Nat) : Int) == 0) = true := by rw [t0]; rfl
    have w1 : IntKind.i64.wrap (vc + 1) = vc + 1 := IntWalk.i64_in _ (by omega)
    have eL : ((((List.replicate 3 (0 : Int)).set 0 (-1)).set 1 (vc + 1)).set 2 5) = [-1, vc + 1, 5] := rfl
    have hb := mem_getD (l := ([-1, vc + 1, 5] : List Int)) 0 (beV_lt (byC c1) (n := 3) (by decide))
    refine ⟨⟨([-1, vc + 1, 5] : List Int).getD (beV (byC c1) 3) 0, ats, fr⟩, byC (byC c1), ⟨?_, by simp only; omega, h1, hm.all, by simp only; omega⟩, byC_ok k2, ?_⟩
    · simp only
      generalize ([-1, vc + 1, 5] : List Int).getD (beV (byC c1) 3) 0 = z at hb
      simp only [List.mem_cons, List.not_mem_nil, or_false] at hb
      omega
    refine sat_of_body mixed Tryz.func34 rfl (by kernel_rfl) (by kernel_rfl) (rs := [.cell 4 28]) rfl rfl rfl ?_
    simp -implicitDefEqProofs (maxSteps := 2000000) only [go_sem]
    refine call_of (s0) ?_ ?_ ?_ ?_
    · simp -implicitDefEqProofs (maxSteps := 2000000) only [go_sem]
    · kernel_rfl
    · simp -implicitDefEqProofs (maxSteps := 2000000) only [go_sem]
    simp -implicitDefEqProofs (maxSteps := 2000000) only [go_sem]
    refine call_of (l1Below_sat c1 14 k1 (by decide) (by decide)) (by simp -implicitDefEqProofs (maxSteps := 2000000) only [go_sem, d0, w1] <;> and_intros <;> rfl) (by kernel_rfl) (by simp -implicitDefEqProofs (maxSteps := 2000000) only [go_sem, d0, w1]) ?_
    simp -implicitDefEqProofs (maxSteps := 2000000) only [go_sem, d0, w1]
    refine call_of (l1PickInt_own (byC c1) [-1, vc + 1, 5] k2 (by simp) (by simp)) (by simp -implicitDefEqProofs (maxSteps := 2000000) only [go_sem, eL]) (by kernel_rfl) (by simp -implicitDefEqProofs (maxSteps := 2000000) only [go_sem, eL]) ?_
    simp -implicitDefEqProofs (maxSteps := 2000000) only [go_sem, eL]
    and_intros <;> rfl
  have d0 : (((beV c1 14 : Nat) : Int) == 0) = false := by rw [beq_eq_false_iff_ne]; omega
  by_cases t1 : beV c1 14 = 1
  · have d1 : (((beV c1 14 : Nat) : Int) == 1) = true := by rw [t1]; rfl
    have b3 := beV_lt (byC c1) (n := 6) (by decide)
    have w3 : IntKind.i64.wrap (((beV (byC c1) 6 : Nat) : Int) - 1) = ((beV (byC c1) 6 : Nat) : Int) - 1 := IntWalk.i64_in _ (by omega)
    have eL : ((List.replicate 2 (0 : Int)).set 0 0).set 1 0 = [0, 0] := rfl
    refine ⟨⟨vc, ats ++ [⟨((beV (byC c1) 6 : Nat) : Int) - 1, [0, 0]⟩], fr⟩, byC (byC c1), ⟨by simp only; omega, by simp only [List.length_append, List.length_singleton]; omega, ?_, fun x hx => ?_, by simp only; omega⟩, byC_ok k2, ?_⟩
    · simp only
      rw [List.getD_eq_getElem?_getD, List.getElem?_append_left (by omega), ← List.getD_eq_getElem?_getD]; exact h1
    · rcases List.mem_append.mp hx with hx | hx
      · have := ha x hx; omega
      · rw [List.mem_singleton.mp hx]; simp
    refine sat_of_body mixed Tryz.func34 rfl (by kernel_rfl) (by kernel_rfl) (rs := [.cell 4 28]) rfl rfl rfl ?_
    simp -implicitDefEqProofs (maxSteps := 2000000) only [go_sem]
    refine call_of (s0) ?_ ?_ ?_ ?_
    · simp -implicitDefEqProofs (maxSteps := 2000000) only [go_sem]
    · kernel_rfl
    · simp -implicitDefEqProofs (maxSteps := 2000000) only [go_sem]
    simp -implicitDefEqProofs (maxSteps := 2000000) only [go_sem]
    refine call_of (l1Below_sat c1 14 k1 (by decide) (by decide)) (by simp -implicitDefEqProofs (maxSteps := 2000000) only [go_sem, d0, d1] <;> and_intros <;> rfl) (by kernel_rfl) (by simp -implicitDefEqProofs (maxSteps := 2000000) only [go_sem, d0, d1]) ?_
    simp -implicitDefEqProofs (maxSteps := 2000000) only [go_sem, d0, d1]
    refine call_of (l1Below_sat (byC c1) 6 k2 (by decide) (by decide)) (by simp -implicitDefEqProofs (maxSteps := 2000000) only [go_sem, w3, eL] <;> and_intros <;> rfl) (by kernel_rfl) (by simp -implicitDefEqProofs (maxSteps := 2000000) only [go_sem, w3, eL]) ?_
    simp -implicitDefEqProofs (maxSteps := 2000000) only [go_sem, w3, eL]
    repeat (refine And.intro (by omega) ?_)
    first | (with_reducible refine tr_and ?_ ?_; focus kernel_rfl) | (with_reducible refine tr_only ?_; kernel_rfl) | skip
    and_intros <;> first | rfl | exact (rst_2s 0 _ ats _).symm
  have d1 : (((beV c1 14 : Nat) : Int) == 1) = false := by rw [beq_eq_false_iff_ne]; omega
  by_cases t2 : beV c1 14 = 2
  · have d2 : (((beV c1 14 : Nat) : Int) == 2) = true := by rw [t2]; rfl
    have eL : (((List.replicate 3 (0 : Int)).set 0 (-11)).set 1 4).set 2 3 = [-11, 4, 3] := rfl
    have hv0 : (0 : Int) < ats.length := by omega
    have hv1 : 0 < ats.length := by omega
    have hw0 : (0 : Int) < (ats.getD 0 default).l.length := by omega
    have hw1 : 0 < (ats.getD 0 default).l.length := by omega
    refine ⟨⟨vc, ats.set 0 ⟨(ats.getD 0 default).r, (ats.getD 0 default).l.set 0 (([-11, 4, 3] : List Int).getD (beV (byC c1) 3) 0)⟩, fr⟩, byC (byC c1), ⟨by simp only; omega, by simp only [List.length_set]; omega, ?_, fun x hx => ?_, by simp only; omega⟩, byC_ok k2, ?_⟩
    · simp only
      rw [getD_set_same hv1]; simp only [List.length_set]; exact h1
    · rcases List.mem_or_eq_of_mem_set hx with hx | rfl
      · have := ha x hx; omega
      · have := ha _ (mem_getD default hv1); simp only [List.length_set]; omega
    refine sat_of_body mixed Tryz.func34 rfl (by kernel_rfl) (by kernel_rfl) (rs := [.cell 4 28]) rfl rfl rfl ?_
    simp -implicitDefEqProofs (maxSteps := 2000000) only [go_sem]
    refine call_of (s0) ?_ ?_ ?_ ?_
    · simp -implicitDefEqProofs (maxSteps := 2000000) only [go_sem]
    · kernel_rfl
    · simp -implicitDefEqProofs (maxSteps := 2000000) only [go_sem]
    simp -implicitDefEqProofs (maxSteps := 2000000) only [go_sem]
    refine call_of (l1Below_sat c1 14 k1 (by decide) (by decide)) (by simp -implicitDefEqProofs (maxSteps := 2000000) only [go_sem, d0, d1, d2, hv0, hv1] <;> and_intros <;> rfl) (by kernel_rfl) (by simp -implicitDefEqProofs (maxSteps := 2000000) only [go_sem, d0, d1, d2, hv0, hv1]) ?_
    simp -implicitDefEqProofs (maxSteps := 2000000) only [go_sem, d0, d1, d2, hv0, hv1]
    refine call_of (l1PickInt_own (byC c1) [-11, 4, 3] k2 (by decide) (by decide)) (by simp -implicitDefEqProofs (maxSteps := 2000000) only [go_sem, eL, hv0, hv1, hw0, hw1]) (by kernel_rfl) (by simp -implicitDefEqProofs (maxSteps := 2000000) only [go_sem, eL, hv0, hv1, hw0, hw1]) ?_
    simp -implicitDefEqProofs (maxSteps := 2000000) only [go_sem, eL, hv0, hv1, hw0, hw1]
    refine And.intro (by decide) ?_
    simp -implicitDefEqProofs (maxSteps := 2000000) only [go_sem, hv0, hv1, hw0, hw1]
    first | (with_reducible refine tr_and ?_ ?_; focus kernel_rfl) | (with_reducible refine tr_only ?_; kernel_rfl) | skip
    and_intros <;> rfl
  have d2 : (((beV c1 14 : Nat) : Int) == 2) = false := by rw [beq_eq_false_iff_ne]; omega
  by_cases t3 : beV c1 14 = 3
  · have d3 : (((beV c1 14 : Nat) : Int) == 3) = true := by rw [t3]; rfl
    refine ⟨⟨vc, ats, fr ++ [((beV (byC c1) 5 : Nat) : Int)]⟩, byC (byC c1), ⟨by simp only; omega, by simp only; omega, h1, hm.all, by simp only [List.length_append, List.length_singleton]; omega⟩, byC_ok k2, ?_⟩
    refine sat_of_body mixed Tryz.func34 rfl (by kernel_rfl) (by kernel_rfl) (rs := [.cell 4 28]) rfl rfl rfl ?_
    simp -implicitDefEqProofs (maxSteps := 2000000) only [go_sem]
    refine call_of (s0) ?_ ?_ ?_ ?_
    · simp -implicitDefEqProofs (maxSteps := 2000000) only [go_sem]
    · kernel_rfl
    · simp -implicitDefEqProofs (maxSteps := 2000000) only [go_sem]
    simp -implicitDefEqProofs (maxSteps := 2000000) only [go_sem]
    refine call_of (l1Below_sat c1 14 k1 (by decide) (by decide)) (by simp -implicitDefEqProofs (maxSteps := 2000000) only [go_sem, d0, d1, d2, d3] <;> and_intros <;> rfl) (by kernel_rfl) (by simp -implicitDefEqProofs (maxSteps := 2000000) only [go_sem, d0, d1, d2, d3]) ?_
    simp -implicitDefEqProofs (maxSteps := 2000000) only [go_sem, d0, d1, d2, d3]
    refine call_of (l1Below_sat (byC c1) 5 k2 (by decide) (by decide)) (by simp -implicitDefEqProofs (maxSteps := 2000000) only [go_sem] <;> and_intros <;> rfl) (by kernel_rfl) (by simp -implicitDefEqProofs (maxSteps := 2000000) only [go_sem]) ?_
    simp -implicitDefEqProofs (maxSteps := 2000000) only [go_sem]
    repeat (refine And.intro (by omega) ?_)
    first | (with_reducible refine tr_and ?_ ?_; focus kernel_rfl) | (with_reducible refine tr_only ?_; kernel_rfl) | skip
    and_intros <;> rfl
  · have d3 : (((beV c1 14 : Nat) : Int) == 3) = false := by rw [beq_eq_false_iff_ne]; omega
    refine ⟨⟨vc, ats, fr⟩, byC c1, hm, k2, ?_⟩
    refine sat_of_body mixed Tryz.func34 rfl (by kernel_rfl) (by kernel_rfl) (rs := [.cell 4 28]) rfl rfl rfl ?_
    simp -implicitDefEqProofs (maxSteps := 2000000) only [go_sem]
    refine call_of (s0) ?_ ?_ ?_ ?_
    · simp -implicitDefEqProofs (maxSteps := 2000000) only [go_sem]
    · kernel_rfl
    · simp -implicitDefEqProofs (maxSteps := 2000000) only [go_sem]
    simp -implicitDefEqProofs (maxSteps := 2000000) only [go_sem]
    refine call_of (l1Below_sat c1 14 k1 (by decide) (by decide)) (by simp -implicitDefEqProofs (maxSteps := 2000000) only [go_sem, d0, d1, d2, d3] <;> and_intros <;> rfl) (by kernel_rfl) (by simp -implicitDefEqProofs (maxSteps := 2000000) only [go_sem, d0, d1, d2, d3]) ?_
    simp -implicitDefEqProofs (maxSteps := 2000000) only [go_sem, d0, d1, d2, d3]
    and_intros <;> rfl
end Go.Proofs.YtedciihjgbkjgacGreatDoor.A


/- DATABASES DRAWN, SPOILT NOW AND THEN. Conditions: none. -/
namespace Go.Proofs.YtedciihjgbkjgacGreatDoor.A
open Go
set_option linter.unusedSimpArgs false
set_option linter.unusedVariables false
set_option maxRecDepth 100000

theorem eqN_t {n m : Nat} (h : n = m) : (((n : Nat) : Int) == ((m : Nat) : Int)) = true := by rw [h]; exact beq_self_eq_true _
theorem frz_2s (s t : Nat) (a b : List RI) : frz (ris s a ++ ris t b) = ris 0 (a ++ b) := by
  have e : ∀ x y : Rows, frz (x ++ y) = frz x ++ frz y := fun x y => by simp [frz]
  rw [e, ris_frz, ris_frz, ris_append]
theorem take_set1 {α : Type} {l : List α} {i : Nat} {x : α} : List.take l.length (l.set i x) = l.set i x := List.take_of_length_le (by rw [List.length_set]; exact Nat.le_refl _)
theorem take_two (s t : Nat) (a : List RI) (x : RI) : List.take (a.length + 1) (ris s a ++ ris t [x]) = ris s a ++ ris t [x] := List.take_of_length_le (by simp [ris])
end Go.Proofs.YtedciihjgbkjgacGreatDoor.A


/- DATABASES AND QUERIES DRAWN. Conditions: none. -/
namespace Go.Proofs.YtedciihjgbkjgacGreatDoor.A
open Go
set_option linter.unusedSimpArgs false
set_option linter.unusedVariables false
set_option maxRecDepth 100000

theorem l11Both_ex (b : List Int) (h : b.length ≤ 1048576) : ∃ (c0 c' : Cur) (q : Qu), QuD 201 q ∧ c'.ok ∧ Sat Tryz.prog 15 [lBys b] [lCur c', lRels (sigs c0), oQu q] [g1] := by
  have k0 := curN_ok h
  have k2 := byC_ok (byC_ok k0)
  have s1 := l2Sigs_sat (curN b) k0
  obtain ⟨q, c', hq, hk, s2⟩ := l11Any_ex (curN b) (byC (byC (curN b))) k2
  refine ⟨curN b, c', q, hq, hk, ?_⟩
  have hl := sigs_len (curN b)
  generalize sigs (curN b) = l at hl s1 s2
  generalize byC (byC (curN b)) = c2 at k2 s1 s2
  refine sat_of_bodyB Tryz.func15 rfl (by kernel_rfl) (rs := [.tmp 2, .tmp 3, .cell 4 28]) rfl rfl rfl ?_
  refine bwp_seq mixed (by kernel_rfl) ?_
  simp -implicitDefEqProofs (maxSteps := 2000000) only [go_sem]
  refine bwp_seq mixed (by kernel_rfl) ?_
  simp -implicitDefEqProofs (maxSteps := 2000000) only [go_sem]
  refine call_of (l1New_sat b (by omega)) (by simp -implicitDefEqProofs (maxSteps := 2000000) only [go_sem]) (by kernel_rfl) (by simp -implicitDefEqProofs (maxSteps := 2000000) only [go_sem]) ?_
  simp -implicitDefEqProofs (maxSteps := 2000000) only [go_sem]
  refine bwp_seq mixed (by kernel_rfl) ?_
  simp -implicitDefEqProofs (maxSteps := 2000000) only [go_sem]
  refine call_of (s1) (by simp -implicitDefEqProofs (maxSteps := 2000000) only [go_sem]) (by kernel_rfl) (by simp -implicitDefEqProofs (maxSteps := 2000000) only [go_sem]) ?_
  simp -implicitDefEqProofs (maxSteps := 2000000) only [go_sem]
  refine bwp_le (st' := mkSt [(4, .one (.vad 1128 0)), (5, .one (.vad 1256 0)), (6, .one (.im 3 (rels l)))] [(1128, zQ2), (1256, sCur c2)] [] 4000) (le_st' _ _ [] [1448] _ (by simp -implicitDefEqProofs (maxSteps := 2000000) only [go_sem, rels_frz] <;> and_intros <;> first | rfl | exact List.mem_singleton_self _ | decide | (refine ⟨_, rfl, Eq.symm ?_⟩; simp -implicitDefEqProofs (maxSteps := 2000000) only [go_sem, rels_frz]; done) | (refine ⟨_, rfl, Eq.symm ?_⟩; simp -implicitDefEqProofs (maxSteps := 2000000) only [go_sem, rels_frz]; rfl)) (by simp -implicitDefEqProofs (maxSteps := 2000000) only [go_sem, rels_frz] <;> and_intros <;> first | rfl | exact List.mem_singleton_self _ | decide | (refine ⟨_, rfl, Eq.symm ?_⟩; simp -implicitDefEqProofs (maxSteps := 2000000) only [go_sem, rels_frz]; done) | (refine ⟨_, rfl, Eq.symm ?_⟩; simp -implicitDefEqProofs (maxSteps := 2000000) only [go_sem, rels_frz]; rfl)) (by simp -implicitDefEqProofs (maxSteps := 2000000) only [go_sem, rels_frz] <;> and_intros <;> rfl) (by rfl)) ?_
  refine bwp_awp mixed (by kernel_rfl) ?_
  simp -implicitDefEqProofs (maxSteps := 2000000) only [go_sem]
  refine call_of (s2) ?_ ?_ ?_ ?_
  · simp -implicitDefEqProofs (maxSteps := 2000000) only [go_sem]
  · kernel_rfl
  · simp -implicitDefEqProofs (maxSteps := 2000000) only [go_sem]
  simp -implicitDefEqProofs (maxSteps := 2000000) only [go_sem]
  and_intros <;> rfl
end Go.Proofs.YtedciihjgbkjgacGreatDoor.A


/- TEXTS DRAWN. Conditions: none. -/
namespace Go.Proofs.YtedciihjgbkjgacGreatDoor.A
open Go
set_option linter.unusedSimpArgs false
set_option linter.unusedVariables false
set_option maxRecDepth 100000

theorem u8w (x : Int) : ∃ b : UInt8, IntKind.u8.wrap x = ((b.toNat : Nat) : Int) := by
  rw [IntKind.wrap_u8]
  refine ⟨(x % 256).toNat.toUInt8, ?_⟩
  have h1 : (x % 256).toNat < 256 := by omega
  rw [show ((x % 256).toNat.toUInt8).toNat = (x % 256).toNat from UInt8.toNat_ofNat_of_lt' h1]
  omega
abbrev u8s (l : List UInt8) : Rows := lift (l.map fun b => .int .u8 b.toNat)
theorem u8s_len (l : List UInt8) : (u8s l).length = l.length := by simp [lift]
theorem u8s_one (l : List UInt8) (b : UInt8) : u8s l ++ [[Cell.sc (.int .u8 b.toNat)]] = u8s (l ++ [b]) := by simp [lift]
theorem u8s_stm (n : Nat) (l : List UInt8) : stm n (u8s l) = u8s l := stm_lift n _
theorem u8s_flat (b : UInt8) : flatB [[Cell.sc (.int .u8 b.toNat)]] = true := rfl
set_option maxHeartbeats 8000000 in
theorem l1Text_ex (c : Cur) (most : Nat) (hc : c.ok) (hm : most ≤ 200) : ∃ (s : ByteArray) (c' : Cur), s.size ≤ most ∧ c'.ok ∧ Sat Tryz.prog 65 [lCur c, lInt most] [lStr s] [lCur c', g1] := by
  have k1 := byC_ok hc
  have k2 := byC_ok k1
  have hn := beV_lt (byC c) (n := most + 1) (by omega)
  -- the bytes drawn so far
  obtain ⟨f, hf0, hfs⟩ : ∃ f : Nat → List UInt8 × Cur, f 0 = ([], byC (byC c)) ∧ ∀ i, ∃ b : UInt8, f (i + 1) = ((f i).1 ++ [b], byC (f i).2) ∧ IntKind.u8.wrap (if beV c 4 = 2 then IntKind.i64.wrap (97 + (if beV c 4 = 1 then (byV (f i).2).tmod 2 else byV (f i).2).tmod 4) else if beV c 4 = 1 then (byV (f i).2).tmod 2 else byV (f i).2) = ((b.toNat : Nat) : Int) := by
    refine ⟨fun n => Nat.rec ([], byC (byC c)) (fun i r => (r.1 ++ [(u8w (if beV c 4 = 2 then IntKind.i64.wrap (97 + (if beV c 4 = 1 then (byV r.2).tmod 2 else byV r.2).tmod 4) else if beV c 4 = 1 then (byV r.2).tmod 2 else byV r.2)).choose], byC r.2)) n, rfl, fun i => ⟨_, rfl, (u8w _).choose_spec⟩⟩
  have hlen : ∀ i, (f i).1.length = i := by
    intro i
    induction i with
    | zero => rw [hf0]; rfl
    | succ i ih => obtain ⟨b, hb, -⟩ := hfs i; rw [hb, List.length_append, ih]; rfl
  have hok : ∀ i, (f i).2.ok := by
    intro i
    induction i with
    | zero => rw [hf0]; exact k2
    | succ i ih => obtain ⟨b, hb, -⟩ := hfs i; rw [hb]; exact byC_ok ih
  refine ⟨⟨(f (beV (byC c) (most + 1))).1.toArray⟩, (f (beV (byC c) (most + 1))).2, ?_, hok _, ?_⟩
  · have := hlen (beV (byC c) (most + 1))
    show (f (beV (byC c) (most + 1))).1.toArray.size ≤ most
    rw [List.size_toArray]; omega
  generalize hS : beV c 4 = S at hfs
  generalize hN : beV (byC c) (most + 1) = N at hn
  have w0 : IntKind.i64.wrap ((most : Int) + 1) = ((most + 1 : Nat) : Int) := i64_succ (by omega)
  refine sat_of_body mixed Tryz.func65 rfl (by kernel_rfl) (by kernel_rfl) (rs := [.tmp 4]) rfl rfl rfl ?_
  simp -implicitDefEqProofs (maxSteps := 2000000) only [go_sem]
  refine call_of (l1Below_sat c 4 hc (by decide) (by decide)) (by simp -implicitDefEqProofs (maxSteps := 2000000) only [go_sem, w0] <;> and_intros <;> rfl) (by kernel_rfl) (by simp -implicitDefEqProofs (maxSteps := 2000000) only [go_sem, w0]) ?_
  simp -implicitDefEqProofs (maxSteps := 2000000) only [go_sem, w0]
  refine call_of (l1Below_sat (byC c) (most + 1) k1 (by omega) (by omega)) (by simp -implicitDefEqProofs (maxSteps := 2000000) only [go_sem, w0, hS] <;> and_intros <;> rfl) (by kernel_rfl) (by simp -implicitDefEqProofs (maxSteps := 2000000) only [go_sem, w0, hS]) ?_
  simp -implicitDefEqProofs (maxSteps := 2000000) only [go_sem, w0, hS]
  refine awp_loop Nat (fun i => mkSt [(0, .one (.vad 0 0)), (5, .one (.ref 960 1 0 i)), (6, .sc (.int .i64 (S : Nat))), (7, .sc (.int .i64 ((N : Int) - (i : Int))))] [(0, sCur (f i).2)] [(960, (1, u8s (f i).1))] 8000)
    (fun i => i ≤ N) (fun i => N - i) 0 (by omega) (le_st' _ _ [⟨960, some _, false, 1, _⟩] [] _ (by simp -implicitDefEqProofs (maxSteps := 2000000) only [go_sem, hf0, hN, List.map_nil, Int.sub_zero, Int.ofNat_zero, Int.natCast_zero] <;> and_intros <;> rfl) (by simp -implicitDefEqProofs (maxSteps := 2000000) only [go_sem, hf0, hN, List.map_nil, Int.sub_zero, Int.ofNat_zero, Int.natCast_zero] <;> and_intros <;> rfl) (by simp -implicitDefEqProofs (maxSteps := 2000000) only [go_sem, hf0, hN, List.map_nil, Int.sub_zero, Int.ofNat_zero, Int.natCast_zero] <;> and_intros <;> rfl) (by rfl)) ?_
  rintro i h1
  obtain ⟨b, hb1, hb2⟩ := hfs i
  have hbl := u8s_len (f i).1
  rw [hlen] at hbl
  by_cases c1 : i < N
  · have d : decide ((N : Int) - (i : Int) > 0) = true := decide_eq_true (by omega)
    have w1 : IntKind.i64.wrap ((N : Int) - (i : Int) - 1) = (N : Int) - ((i + 1 : Nat) : Int) := by rw [IntWalk.i64_in _ (by omega)]; omega
    have hu2 : (f (i + 1)).2 = byC (f i).2 := by rw [hb1]
    have hu : (f (i + 1)).1 = (f i).1 ++ [b] := by rw [hb1]
    by_cases s1 : S = 1
    · have e1 : (((S : Nat) : Int) == 1) = true := by rw [s1]; rfl
      have e2 : (((S : Nat) : Int) == 2) = false := by rw [s1]; rfl
      rw [if_neg (by omega), if_pos s1] at hb2
      simp -implicitDefEqProofs (maxSteps := 2000000) only [go_sem, d]
      refine call_of (l1Byte_sat (f i).2 (hok i)) (by simp -implicitDefEqProofs (maxSteps := 2000000) only [go_sem, e1, e2, hb2, w1, repP, List.set_cons_zero, u8s_flat, hbl] <;> and_intros <;> rfl) (by kernel_rfl) (by simp -implicitDefEqProofs (maxSteps := 2000000) only [go_sem, e1, e2, hb2, w1, repP, List.set_cons_zero, u8s_flat, hbl]) ?_
      simp -implicitDefEqProofs (maxSteps := 2000000) only [go_sem, e1, e2, hb2, w1, repP, List.set_cons_zero, u8s_flat, hbl]
      refine ⟨by decide, by omega, ?_⟩
      exact ⟨i + 1, c1, by omega, (le_st' _ _ [⟨960, some _, false, 1, _⟩] [] _ (by simp -implicitDefEqProofs (maxSteps := 2000000) only [go_sem, hu, hu2, u8s_one] <;> and_intros <;> rfl) (by simp -implicitDefEqProofs (maxSteps := 2000000) only [go_sem, hu, hu2, u8s_one] <;> and_intros <;> rfl) (by simp -implicitDefEqProofs (maxSteps := 2000000) only [go_sem, hu, hu2, u8s_one] <;> and_intros <;> rfl) (by rfl))⟩
    have e1 : (((S : Nat) : Int) == 1) = false := by rw [beq_eq_false_iff_ne]; omega
    by_cases s2 : S = 2
    · have e2 : (((S : Nat) : Int) == 2) = true := by rw [s2]; rfl
      rw [if_pos s2, if_neg s1] at hb2
      simp -implicitDefEqProofs (maxSteps := 2000000) only [go_sem, d]
      refine call_of (l1Byte_sat (f i).2 (hok i)) (by simp -implicitDefEqProofs (maxSteps := 2000000) only [go_sem, e1, e2, hb2, w1, repP, List.set_cons_zero, u8s_flat, hbl] <;> and_intros <;> rfl) (by kernel_rfl) (by simp -implicitDefEqProofs (maxSteps := 2000000) only [go_sem, e1, e2, hb2, w1, repP, List.set_cons_zero, u8s_flat, hbl]) ?_
      simp -implicitDefEqProofs (maxSteps := 2000000) only [go_sem, e1, e2, hb2, w1, repP, List.set_cons_zero, u8s_flat, hbl]
      refine ⟨by decide, by omega, ?_⟩
      exact ⟨i + 1, c1, by omega, (le_st' _ _ [⟨960, some _, false, 1, _⟩] [] _ (by simp -implicitDefEqProofs (maxSteps := 2000000) only [go_sem, hu, hu2, u8s_one] <;> and_intros <;> rfl) (by simp -implicitDefEqProofs (maxSteps := 2000000) only [go_sem, hu, hu2, u8s_one] <;> and_intros <;> rfl) (by simp -implicitDefEqProofs (maxSteps := 2000000) only [go_sem, hu, hu2, u8s_one] <;> and_intros <;> rfl) (by rfl))⟩
    · have e2 : (((S : Nat) : Int) == 2) = false := by rw [beq_eq_false_iff_ne]; omega
      rw [if_neg s2, if_neg s1] at hb2
      simp -implicitDefEqProofs (maxSteps := 2000000) only [go_sem, d]
      refine call_of (l1Byte_sat (f i).2 (hok i)) (by simp -implicitDefEqProofs (maxSteps := 2000000) only [go_sem, e1, e2, hb2, w1, repP, List.set_cons_zero, u8s_flat, hbl] <;> and_intros <;> rfl) (by kernel_rfl) (by simp -implicitDefEqProofs (maxSteps := 2000000) only [go_sem, e1, e2, hb2, w1, repP, List.set_cons_zero, u8s_flat, hbl]) ?_
      simp -implicitDefEqProofs (maxSteps := 2000000) only [go_sem, e1, e2, hb2, w1, repP, List.set_cons_zero, u8s_flat, hbl]
      refine ⟨by omega, ?_⟩
      exact ⟨i + 1, c1, by omega, (le_st' _ _ [⟨960, some _, false, 1, _⟩] [] _ (by simp -implicitDefEqProofs (maxSteps := 2000000) only [go_sem, hu, hu2, u8s_one] <;> and_intros <;> rfl) (by simp -implicitDefEqProofs (maxSteps := 2000000) only [go_sem, hu, hu2, u8s_one] <;> and_intros <;> rfl) (by simp -implicitDefEqProofs (maxSteps := 2000000) only [go_sem, hu, hu2, u8s_one] <;> and_intros <;> rfl) (by rfl))⟩
  · obtain rfl : i = N := by omega
    have d : decide ((i : Int) - (i : Int) > 0) = false := decide_eq_false (by omega)
    simp -implicitDefEqProofs (maxSteps := 2000000) only [go_sem, d]
    exact ⟨(f i).1, List.take_of_length_le (by rw [hbl]; exact Nat.le_refl _), rfl, rfl⟩
end Go.Proofs.YtedciihjgbkjgacGreatDoor.A


/- TEXTS SPOILT. Conditions: none. -/
namespace Go.Proofs.YtedciihjgbkjgacGreatDoor.A
open Go
set_option linter.unusedSimpArgs false
set_option linter.unusedVariables false
set_option maxRecDepth 100000

def u8f (x : Int) : UInt8 := (x % 256).toNat.toUInt8
theorem u8f_eq (x : Int) : IntKind.u8.wrap x = (((u8f x).toNat : Nat) : Int) := by
  rw [IntKind.wrap_u8]
  have h1 : (x % 256).toNat < 256 := by omega
  rw [show (u8f x).toNat = (x % 256).toNat from UInt8.toNat_ofNat_of_lt' h1]
  omega
theorem oneB_str (b : UInt8) : (⟨[b].toArray⟩ : ByteArray) = ⟨#[b]⟩ := rfl
def xorV (s : ByteArray) (k : Nat) (v : Nat) : Int := IntKind.i64.wrap ((BitVec.ofInt IntKind.i64.bits (IntKind.i64.wrap ((byA s k : Nat) : Int)) ^^^ BitVec.ofInt IntKind.i64.bits (IntKind.i64.wrap (1 + (v : Int)))).toNat : Int)
set_option maxHeartbeats 8000000 in
theorem l1Spoil_ex (c : Cur) (s : ByteArray) (hc : c.ok) (hs : s.size ≤ 256) : ∃ (s' : ByteArray) (c' : Cur), s'.size ≤ 600 ∧ c'.ok ∧ Sat Tryz.prog 30 [lCur c, lStr s] [lStr s'] [lCur c', g1] := by
  have k1 := byC_ok hc
  have k2 := byC_ok k1
  have k3 := byC_ok k2
  by_cases h0 : s.size = 0
  · obtain ⟨s', c', h1, h2, h3⟩ := l1Text_ex c 3 hc (by decide)
    refine ⟨s', c', by omega, h2, ?_⟩
    have d0 : (((s.size : Nat) : Int) == 0) = true := by rw [h0]; rfl
    refine sat_of_body mixed Tryz.func30 rfl (by kernel_rfl) (by kernel_rfl) (rs := [.tmp 4]) rfl rfl rfl ?_
    simp -implicitDefEqProofs (maxSteps := 2000000) only [go_sem, d0]
    refine call_of (h3) (by simp -implicitDefEqProofs (maxSteps := 2000000) only [go_sem] <;> and_intros <;> rfl) (by kernel_rfl) (by simp -implicitDefEqProofs (maxSteps := 2000000) only [go_sem]) ?_
    simp -implicitDefEqProofs (maxSteps := 2000000) only [go_sem]
    and_intros <;> rfl
  have d0 : (((s.size : Nat) : Int) == 0) = false := by rw [beq_eq_false_iff_ne]; omega
  have hk := beV_lt c (n := s.size) (by omega)
  have s0 := l1Below_sat c s.size hc (by omega) hs
  have s1 := l1Below_sat (byC c) 4 k1 (by decide) (by decide)
  generalize beV c s.size = k at hk s0
  have hT := beV_lt (byC c) (n := 4) (by decide)
  generalize beV (byC c) 4 = T at hT s1
  have wk : IntKind.i64.wrap ((k : Int) + 1) = ((k + 1 : Nat) : Int) := i64_succ (by omega)
  have hk1 : k + 1 ≤ s.size := hk
  have hk2 : k ≤ s.size := by omega
  have z1 := ext_size s 0 k
  have z2 := ext_size s (k + 1) s.size
  have z3 := ext_size s k s.size
  by_cases t0 : T = 0
  · have e0 : (((T : Nat) : Int) == 0) = true := by rw [t0]; rfl
    refine ⟨s.extract 0 k ++ s.extract (k + 1) s.size, byC (byC c), by rw [app_size]; omega, k2, ?_⟩
    refine sat_of_body mixed Tryz.func30 rfl (by kernel_rfl) (by kernel_rfl) (rs := [.tmp 4]) rfl rfl rfl ?_
    simp -implicitDefEqProofs (maxSteps := 2000000) only [go_sem, d0]
    refine call_of (s0) (by simp -implicitDefEqProofs (maxSteps := 2000000) only [go_sem] <;> and_intros <;> rfl) (by kernel_rfl) (by simp -implicitDefEqProofs (maxSteps := 2000000) only [go_sem]) ?_
    simp -implicitDefEqProofs (maxSteps := 2000000) only [go_sem]
    refine call_of (s1) (by simp -implicitDefEqProofs (maxSteps := 2000000) only [go_sem, e0, wk, hk1, hk2] <;> and_intros <;> rfl) (by kernel_rfl) (by simp -implicitDefEqProofs (maxSteps := 2000000) only [go_sem, e0, wk, hk1, hk2]) ?_
    simp -implicitDefEqProofs (maxSteps := 2000000) only [go_sem, e0, wk, hk1, hk2]
    exact ⟨by omega, by omega, by omega, rfl⟩
  have e0 : (((T : Nat) : Int) == 0) = false := by rw [beq_eq_false_iff_ne]; omega
  by_cases t1 : T = 1
  · have e1 : (((T : Nat) : Int) == 1) = true := by rw [t1]; rfl
    refine ⟨s.extract 0 k ++ ⟨#[u8f (byV (byC (byC c)))]⟩ ++ s.extract k s.size, byC (byC (byC c)), by rw [app_size, app_size]; have : (⟨#[u8f (byV (byC (byC c)))]⟩ : ByteArray).size = 1 := rfl; omega, k3, ?_⟩
    refine sat_of_body mixed Tryz.func30 rfl (by kernel_rfl) (by kernel_rfl) (rs := [.tmp 4]) rfl rfl rfl ?_
    simp -implicitDefEqProofs (maxSteps := 2000000) only [go_sem, d0]
    refine call_of (s0) (by simp -implicitDefEqProofs (maxSteps := 2000000) only [go_sem] <;> and_intros <;> rfl) (by kernel_rfl) (by simp -implicitDefEqProofs (maxSteps := 2000000) only [go_sem]) ?_
    simp -implicitDefEqProofs (maxSteps := 2000000) only [go_sem]
    refine call_of (s1) (by simp -implicitDefEqProofs (maxSteps := 2000000) only [go_sem, e0, e1, wk, hk1, hk2] <;> and_intros <;> rfl) (by kernel_rfl) (by simp -implicitDefEqProofs (maxSteps := 2000000) only [go_sem, e0, e1, wk, hk1, hk2]) ?_
    simp -implicitDefEqProofs (maxSteps := 2000000) only [go_sem, e0, e1, wk, hk1, hk2]
    repeat (refine And.intro (by omega) ?_)
    refine call_of (l1Byte_sat (byC (byC c)) k2) (by simp -implicitDefEqProofs (maxSteps := 2000000) only [go_sem, e0, e1, wk, hk1, hk2, u8f_eq] <;> and_intros <;> rfl) (by kernel_rfl) (by simp -implicitDefEqProofs (maxSteps := 2000000) only [go_sem, e0, e1, wk, hk1, hk2, u8f_eq]) ?_
    simp -implicitDefEqProofs (maxSteps := 2000000) only [go_sem, e0, e1, wk, hk1, hk2, u8f_eq]
    refine ⟨[u8f (byV (byC (byC c)))], rfl, by simp only [List.length_singleton]; omega, Nat.le_refl _, by simp only [List.length_singleton]; omega, ?_⟩
    first | (with_reducible refine tr_and ?_ ?_; focus kernel_rfl) | (with_reducible refine tr_only ?_; kernel_rfl) | skip
    and_intros <;> rfl
  have e1 : (((T : Nat) : Int) == 1) = false := by rw [beq_eq_false_iff_ne]; omega
  by_cases t2 : T = 2
  · have e2 : (((T : Nat) : Int) == 2) = true := by rw [t2]; rfl
    refine ⟨s.extract 0 k, byC (byC c), by omega, k2, ?_⟩
    refine sat_of_body mixed Tryz.func30 rfl (by kernel_rfl) (by kernel_rfl) (rs := [.tmp 4]) rfl rfl rfl ?_
    simp -implicitDefEqProofs (maxSteps := 2000000) only [go_sem, d0]
    refine call_of (s0) (by simp -implicitDefEqProofs (maxSteps := 2000000) only [go_sem] <;> and_intros <;> rfl) (by kernel_rfl) (by simp -implicitDefEqProofs (maxSteps := 2000000) only [go_sem]) ?_
    simp -implicitDefEqProofs (maxSteps := 2000000) only [go_sem]
    refine call_of (s1) (by simp -implicitDefEqProofs (maxSteps := 2000000) only [go_sem, e0, e1, e2, wk, hk1, hk2] <;> and_intros <;> rfl) (by kernel_rfl) (by simp -implicitDefEqProofs (maxSteps := 2000000) only [go_sem, e0, e1, e2, wk, hk1, hk2]) ?_
    simp -implicitDefEqProofs (maxSteps := 2000000) only [go_sem, e0, e1, e2, wk, hk1, hk2]
    exact ⟨by omega, rfl⟩
  have e2 : (((T : Nat) : Int) == 2) = false := by rw [beq_eq_false_iff_ne]; omega
  refine ⟨s.extract 0 k ++ ⟨#[u8f (xorV s k (beV (byC (byC c)) 255))]⟩ ++ s.extract (k + 1) s.size, byC (byC (byC c)), by rw [app_size, app_size]; have : (⟨#[u8f (xorV s k (beV (byC (byC c)) 255))]⟩ : ByteArray).size = 1 := rfl; omega, k3, ?_⟩
  refine sat_of_body mixed Tryz.func30 rfl (by kernel_rfl) (by kernel_rfl) (rs := [.tmp 4]) rfl rfl rfl ?_
  simp -implicitDefEqProofs (maxSteps := 2000000) only [go_sem, d0]
  refine call_of (s0) (by simp -implicitDefEqProofs (maxSteps := 2000000) only [go_sem] <;> and_intros <;> rfl) (by kernel_rfl) (by simp -implicitDefEqProofs (maxSteps := 2000000) only [go_sem]) ?_
  simp -implicitDefEqProofs (maxSteps := 2000000) only [go_sem]
  refine call_of (s1) (by simp -implicitDefEqProofs (maxSteps := 2000000) only [go_sem, e0, e1, e2, wk, hk1, hk2] <;> and_intros <;> rfl) (by kernel_rfl) (by simp -implicitDefEqProofs (maxSteps := 2000000) only [go_sem, e0, e1, e2, wk, hk1, hk2]) ?_
  simp -implicitDefEqProofs (maxSteps := 2000000) only [go_sem, e0, e1, e2, wk, hk1, hk2]
  repeat (refine And.intro (by omega) ?_)
  refine call_of (l1Below_sat (byC (byC c)) 255 k2 (by decide) (by decide)) (by simp -implicitDefEqProofs (maxSteps := 2000000) only [go_sem, e0, e1, e2, wk, hk1, hk2, u8f_eq] <;> and_intros <;> rfl) (by kernel_rfl) (by simp -implicitDefEqProofs (maxSteps := 2000000) only [go_sem, e0, e1, e2, wk, hk1, hk2, u8f_eq]) ?_
  simp -implicitDefEqProofs (maxSteps := 2000000) only [go_sem, e0, e1, e2, wk, hk1, hk2, u8f_eq]
  refine ⟨[u8f (xorV s k (beV (byC (byC c)) 255))], rfl, by simp only [List.length_singleton]; omega, Nat.le_refl _, by simp only [List.length_singleton]; omega, ?_⟩
  first | (with_reducible refine tr_and ?_ ?_; focus kernel_rfl) | (with_reducible refine tr_only ?_; kernel_rfl) | skip
  and_intros <;> rfl
end Go.Proofs.YtedciihjgbkjgacGreatDoor.A


/- QUERIES AND THEIR TEXTS DRAWN. Conditions: none. -/
namespace Go.Proofs.YtedciihjgbkjgacGreatDoor.A
open Go
set_option linter.unusedSimpArgs false
set_option linter.unusedVariables false
set_option maxRecDepth 100000

set_option maxHeartbeats 4000000 in
theorem drawFQ_ex (b : List Int) (h : b.length ≤ 1048576) : ∃ (c0 : Cur) (q : Qu), QuD 201 q ∧ Sat Tryz.prog 5 [lBys b] [lRels (sigs c0), oQu q] [g1] := by
  obtain ⟨c0, c1, q, hq, k1, s0⟩ := l11Both_ex b h
  refine ⟨c0, q, hq, ?_⟩
  refine sat_of_body mixed Tryz.func5 rfl (by kernel_rfl) (by kernel_rfl) (rs := [.tmp 2, .cell 3 28]) rfl rfl rfl ?_
  simp -implicitDefEqProofs (maxSteps := 2000000) only [go_sem]
  refine call_of (s0) (by simp -implicitDefEqProofs (maxSteps := 2000000) only [go_sem]) (by kernel_rfl) (by simp -implicitDefEqProofs (maxSteps := 2000000) only [go_sem]) ?_
  simp -implicitDefEqProofs (maxSteps := 2000000) only [go_sem]
  first | (with_reducible refine tr_and ?_ ?_; focus kernel_rfl) | (with_reducible refine tr_only ?_; kernel_rfl) | skip
  and_intros <;> rfl
set_option maxHeartbeats 4000000 in
theorem drawEQ_ex (b : List Int) (h : b.length ≤ 1048576) : ∃ (q p : Qu), QuD 201 q ∧ QuD 201 p ∧ Sat Tryz.prog 10 [lBys b] [oQu q, oQu p] [g1] := by
  obtain ⟨c0, c1, q, hq, k1, s0⟩ := l11Both_ex b h
  have k2 := byC_ok k1
  have s1 := l1Once_sat c1 2 k1 (by decide) (by decide)
  rcases d : onV c1 2
  · rw [d] at s1
    have s2 := specCopy_sat q (hq.ok (by decide))
    refine ⟨q, q, hq, hq, ?_⟩
    refine sat_of_body mixed Tryz.func10 rfl (by kernel_rfl) (by kernel_rfl) (rs := [.cell 2 28, .cell 3 28]) rfl rfl rfl ?_
    simp -implicitDefEqProofs (maxSteps := 2000000) only [go_sem]
    refine call_of (s0) (by simp -implicitDefEqProofs (maxSteps := 2000000) only [go_sem]) (by kernel_rfl) (by simp -implicitDefEqProofs (maxSteps := 2000000) only [go_sem]) ?_
    simp -implicitDefEqProofs (maxSteps := 2000000) only [go_sem]
    refine call_of (s1) (by simp -implicitDefEqProofs (maxSteps := 2000000) only [go_sem] <;> and_intros <;> rfl) (by kernel_rfl) (by simp -implicitDefEqProofs (maxSteps := 2000000) only [go_sem]) ?_
    simp -implicitDefEqProofs (maxSteps := 2000000) only [go_sem]
    refine call_of (s2) (by simp -implicitDefEqProofs (maxSteps := 2000000) only [go_sem]) (callOk_still (by kernel_rfl) (by simp only [List.all_cons, List.all_nil, LV.still, LV.leaves, Leaf.still, ints_still, ris_still, eds_still, rels_still, iss_still, ems_still, Bool.and_self, Bool.and_true])) (by simp -implicitDefEqProofs (maxSteps := 2000000) only [go_sem]) ?_
    simp -implicitDefEqProofs (maxSteps := 2000000) only [go_sem]
    first | (with_reducible refine tr_and ?_ ?_; focus kernel_rfl) | (with_reducible refine tr_only ?_; kernel_rfl) | skip
    and_intros <;> rfl
  · rw [d] at s1
    obtain ⟨p, c2, hp, k3, s2⟩ := l11Any_ex c0 (byC c1) k2
    refine ⟨q, p, hq, hp, ?_⟩
    refine sat_of_body mixed Tryz.func10 rfl (by kernel_rfl) (by kernel_rfl) (rs := [.cell 2 28, .cell 3 28]) rfl rfl rfl ?_
    simp -implicitDefEqProofs (maxSteps := 2000000) only [go_sem]
    refine call_of (s0) (by simp -implicitDefEqProofs (maxSteps := 2000000) only [go_sem]) (by kernel_rfl) (by simp -implicitDefEqProofs (maxSteps := 2000000) only [go_sem]) ?_
    simp -implicitDefEqProofs (maxSteps := 2000000) only [go_sem]
    refine call_of (s1) (by simp -implicitDefEqProofs (maxSteps := 2000000) only [go_sem] <;> and_intros <;> rfl) (by kernel_rfl) (by simp -implicitDefEqProofs (maxSteps := 2000000) only [go_sem]) ?_
    simp -implicitDefEqProofs (maxSteps := 2000000) only [go_sem]
    refine call_of (s2) ?_ ?_ ?_ ?_
    · simp -implicitDefEqProofs (maxSteps := 2000000) only [go_sem]
    · kernel_rfl
    · simp -implicitDefEqProofs (maxSteps := 2000000) only [go_sem]
    simp -implicitDefEqProofs (maxSteps := 2000000) only [go_sem]
    first | (with_reducible refine tr_and ?_ ?_; focus kernel_rfl) | (with_reducible refine tr_only ?_; kernel_rfl) | skip
    and_intros <;> rfl
theorem quText_small {l : List Rel} {q : Qu} (h : q.free.length ≤ 200) : (quText l q).size ≤ 256 := by
  unfold quText
  split
  · rename_i g
    have h1 := catT_size q.free
    have h2 := joinB_size blB 7 (qTexts l q) (qTexts_mem g)
    have h3 := (goodQu_parts g).2.2
    have h4 : (qTexts l q).length = q.atoms.length := by unfold qTexts atTs; rw [List.length_map]
    have h5 : blB.size = 1 := rfl
    have h6 : askB.size = 1 := rfl
    rw [app_size, app_size]
    rw [h4, h5] at h2
    omega
  · exact Nat.zero_le _
def strL (s : ByteArray) : List ByteArray := [⟨#[]⟩, ⟨#[63]⟩, ⟨#[63, 114]⟩, ⟨#[63, 114, 120, 124, 121]⟩, ⟨#[63, 114, 120, 121]⟩, ⟨#[63, 114, 120, 124, 121, 32, 114, 120, 124, 121]⟩, ⟨#[120, 63, 114, 120, 124, 121]⟩, ⟨#[121, 120, 63, 114, 120, 124, 121]⟩, ⟨#[63, 114, 121, 124, 120]⟩, ⟨#[63, 114, 120, 124, 122]⟩, ⟨#[63, 118, 120]⟩, ⟨#[63, 63, 114, 120, 124, 121]⟩, ⟨#[63, 114, 120, 124, 121, 32]⟩, s]
theorem strL_size {s : ByteArray} (h : s.size ≤ 600) : ∀ x ∈ strL s, x.size ≤ 600 := by
  intro x hx
  unfold strL at hx
  simp only [List.mem_cons, List.not_mem_nil, or_false] at hx
  rcases hx with rfl | rfl | rfl | rfl | rfl | rfl | rfl | rfl | rfl | rfl | rfl | rfl | rfl | rfl
  all_goals first | exact h | decide
set_option maxHeartbeats 4000000 in
theorem l1Pick_sat (c : Cur) (l : List ByteArray) (hc : c.ok) (h1 : 0 < l.length) (h2 : l.length ≤ 256) : Sat Tryz.prog 29 [lCur c, .one (.ow 1 (txs l))] [lStr (l.getD (beV c l.length) ⟨#[]⟩)] [lCur (byC c), g1] := by
  refine sat_of_body mixed Tryz.func29 rfl (by kernel_rfl) (by kernel_rfl) (rs := [.tmp 4]) rfl rfl rfl ?_
  have hv := beV_lt c h1
  have eg := txs_get hv
  simp -implicitDefEqProofs (maxSteps := 2000000) only [go_sem]
  refine call_of (l1Below_sat c l.length hc h1 h2) (by simp -implicitDefEqProofs (maxSteps := 2000000) only [go_sem, hv, eg]) (by kernel_rfl) (by simp -implicitDefEqProofs (maxSteps := 2000000) only [go_sem, hv, eg]) ?_
  simp -implicitDefEqProofs (maxSteps := 2000000) only [go_sem, hv, eg]
  rfl
set_option maxHeartbeats 8000000 in
theorem drawPQ_ex (b : List Int) (h : b.length ≤ 1048576) : ∃ (c0 : Cur) (s : ByteArray), s.size ≤ 600 ∧ Sat Tryz.prog 8 [lBys b] [lRels (sigs c0), lStr s] [g1] := by
  have k0 := curN_ok h
  have k2 := byC_ok (byC_ok k0)
  have s1 := l2Sigs_sat (curN b) k0
  obtain ⟨q, c1, hq, k3, s2⟩ := l11Draw_ex (curN b) (byC (byC (curN b))) k2
  have hl := sigs_len (curN b)
  have qok := hq.ok (by decide)
  have s3 := specFormatQuery_sat (sigs (curN b)) q (by omega) qok
  have hz := quText_small (l := sigs (curN b)) hq.free
  have k4 := byC_ok k3
  have s4 := l1Once_sat c1 3 k3 (by decide) (by decide)
  generalize quText (sigs (curN b)) q = t at s3 hz
  rcases d : onV c1 3
  · rw [d] at s4
    refine ⟨curN b, t, by omega, ?_⟩
    generalize sigs (curN b) = l at hl s1 s2 s3
    generalize byC (byC (curN b)) = c2 at k2 s1 s2
    refine sat_of_bodyB Tryz.func8 rfl (by kernel_rfl) (rs := [.tmp 2, .tmp 3]) rfl rfl rfl ?_
    refine bwp_seq mixed (by kernel_rfl) ?_
    simp -implicitDefEqProofs (maxSteps := 2000000) only [go_sem]
    refine bwp_seq mixed (by kernel_rfl) ?_
    simp -implicitDefEqProofs (maxSteps := 2000000) only [go_sem]
    refine call_of (l1New_sat b (by omega)) (by simp -implicitDefEqProofs (maxSteps := 2000000) only [go_sem]) (by kernel_rfl) (by simp -implicitDefEqProofs (maxSteps := 2000000) only [go_sem]) ?_
    simp -implicitDefEqProofs (maxSteps := 2000000) only [go_sem]
    refine bwp_seq mixed (by kernel_rfl) ?_
    simp -implicitDefEqProofs (maxSteps := 2000000) only [go_sem]
    refine call_of (s1) (by simp -implicitDefEqProofs (maxSteps := 2000000) only [go_sem]) (by kernel_rfl) (by simp -implicitDefEqProofs (maxSteps := 2000000) only [go_sem]) ?_
    simp -implicitDefEqProofs (maxSteps := 2000000) only [go_sem]
    refine bwp_le (st' := mkSt [(4, .one (.vad 1192 0)), (5, .one (.im 3 (rels l)))] [(1192, sCur c2)] [] 4000) (le_st' _ _ [] [1384] _ (by simp -implicitDefEqProofs (maxSteps := 2000000) only [go_sem, rels_frz] <;> and_intros <;> first | rfl | exact List.mem_singleton_self _ | decide | (refine ⟨_, rfl, Eq.symm ?_⟩; simp -implicitDefEqProofs (maxSteps := 2000000) only [go_sem, rels_frz]; done) | (refine ⟨_, rfl, Eq.symm ?_⟩; simp -implicitDefEqProofs (maxSteps := 2000000) only [go_sem, rels_frz]; rfl)) (by simp -implicitDefEqProofs (maxSteps := 2000000) only [go_sem, rels_frz] <;> and_intros <;> first | rfl | exact List.mem_singleton_self _ | decide | (refine ⟨_, rfl, Eq.symm ?_⟩; simp -implicitDefEqProofs (maxSteps := 2000000) only [go_sem, rels_frz]; done) | (refine ⟨_, rfl, Eq.symm ?_⟩; simp -implicitDefEqProofs (maxSteps := 2000000) only [go_sem, rels_frz]; rfl)) (by simp -implicitDefEqProofs (maxSteps := 2000000) only [go_sem, rels_frz] <;> and_intros <;> rfl) (by rfl)) ?_
    refine bwp_awp mixed (by kernel_rfl) ?_
    simp -implicitDefEqProofs (maxSteps := 2000000) only [go_sem]
    refine call_of (s2) ?_ ?_ ?_ ?_
    · simp -implicitDefEqProofs (maxSteps := 2000000) only [go_sem]
    · kernel_rfl
    · simp -implicitDefEqProofs (maxSteps := 2000000) only [go_sem]
    simp -implicitDefEqProofs (maxSteps := 2000000) only [go_sem]
    refine call_of (s3) ?_ ?_ ?_ ?_
    · simp -implicitDefEqProofs (maxSteps := 2000000) only [go_sem]
    · kernel_rfl
    · simp -implicitDefEqProofs (maxSteps := 2000000) only [go_sem]
    simp -implicitDefEqProofs (maxSteps := 2000000) only [go_sem]
    refine call_of (s4) (by simp -implicitDefEqProofs (maxSteps := 2000000) only [go_sem] <;> and_intros <;> rfl) (by kernel_rfl) (by simp -implicitDefEqProofs (maxSteps := 2000000) only [go_sem]) ?_
    simp -implicitDefEqProofs (maxSteps := 2000000) only [go_sem]
  · rw [d] at s4
    obtain ⟨s', c4, hs', k5, s5⟩ := l1Spoil_ex (byC c1) t k4 hz
    have hm := strL_size hs' _ (mem_getD (⟨#[]⟩ : ByteArray) (beV_lt c4 (n := (strL s').length) (by show 0 < 14; decide)))
    have s6 := l1Pick_sat c4 (strL s') k5 (by show 0 < 14; decide) (by show 14 ≤ 256; decide)
    refine ⟨curN b, _, hm, ?_⟩
    generalize sigs (curN b) = l at hl s1 s2 s3
    generalize byC (byC (curN b)) = c2 at k2 s1 s2
    refine sat_of_bodyB Tryz.func8 rfl (by kernel_rfl) (rs := [.tmp 2, .tmp 3]) rfl rfl rfl ?_
    refine bwp_seq mixed (by kernel_rfl) ?_
    simp -implicitDefEqProofs (maxSteps := 2000000) only [go_sem]
    refine bwp_seq mixed (by kernel_rfl) ?_
    simp -implicitDefEqProofs (maxSteps := 2000000) only [go_sem]
    refine call_of (l1New_sat b (by omega)) (by simp -implicitDefEqProofs (maxSteps := 2000000) only [go_sem]) (by kernel_rfl) (by simp -implicitDefEqProofs (maxSteps := 2000000) only [go_sem]) ?_
    simp -implicitDefEqProofs (maxSteps := 2000000) only [go_sem]
    refine bwp_seq mixed (by kernel_rfl) ?_
    simp -implicitDefEqProofs (maxSteps := 2000000) only [go_sem]
    refine call_of (s1) (by simp -implicitDefEqProofs (maxSteps := 2000000) only [go_sem]) (by kernel_rfl) (by simp -implicitDefEqProofs (maxSteps := 2000000) only [go_sem]) ?_
    simp -implicitDefEqProofs (maxSteps := 2000000) only [go_sem]
    refine bwp_le (st' := mkSt [(4, .one (.vad 1192 0)), (5, .one (.im 3 (rels l)))] [(1192, sCur c2)] [] 4000) (le_st' _ _ [] [1384] _ (by simp -implicitDefEqProofs (maxSteps := 2000000) only [go_sem, rels_frz] <;> and_intros <;> first | rfl | exact List.mem_singleton_self _ | decide | (refine ⟨_, rfl, Eq.symm ?_⟩; simp -implicitDefEqProofs (maxSteps := 2000000) only [go_sem, rels_frz]; done) | (refine ⟨_, rfl, Eq.symm ?_⟩; simp -implicitDefEqProofs (maxSteps := 2000000) only [go_sem, rels_frz]; rfl)) (by simp -implicitDefEqProofs (maxSteps := 2000000) only [go_sem, rels_frz] <;> and_intros <;> first | rfl | exact List.mem_singleton_self _ | decide | (refine ⟨_, rfl, Eq.symm ?_⟩; simp -implicitDefEqProofs (maxSteps := 2000000) only [go_sem, rels_frz]; done) | (refine ⟨_, rfl, Eq.symm ?_⟩; simp -implicitDefEqProofs (maxSteps := 2000000) only [go_sem, rels_frz]; rfl)) (by simp -implicitDefEqProofs (maxSteps := 2000000) only [go_sem, rels_frz] <;> and_intros <;> rfl) (by rfl)) ?_
    refine bwp_awp mixed (by kernel_rfl) ?_
    simp -implicitDefEqProofs (maxSteps := 2000000) only [go_sem]
    refine call_of (s2) ?_ ?_ ?_ ?_
    · simp -implicitDefEqProofs (maxSteps := 2000000) only [go_sem]
    · kernel_rfl
    · simp -implicitDefEqProofs (maxSteps := 2000000) only [go_sem]
    simp -implicitDefEqProofs (maxSteps := 2000000) only [go_sem]
    refine call_of (s3) ?_ ?_ ?_ ?_
    · simp -implicitDefEqProofs (maxSteps := 2000000) only [go_sem]
    · kernel_rfl
    · simp -implicitDefEqProofs (maxSteps := 2000000) only [go_sem]
    simp -implicitDefEqProofs (maxSteps := 2000000) only [go_sem]
    refine call_of (s4) (by simp -implicitDefEqProofs (maxSteps := 2000000) only [go_sem] <;> and_intros <;> rfl) (by kernel_rfl) (by simp -implicitDefEqProofs (maxSteps := 2000000) only [go_sem]) ?_
    simp -implicitDefEqProofs (maxSteps := 2000000) only [go_sem]
    refine call_of (s5) ?_ ?_ ?_ ?_
    · simp -implicitDefEqProofs (maxSteps := 2000000) only [go_sem]
    · kernel_rfl
    · simp -implicitDefEqProofs (maxSteps := 2000000) only [go_sem]
    simp -implicitDefEqProofs (maxSteps := 2000000) only [go_sem]
    have eS : ((((((((((((((List.replicate 14 ByteArray.empty).set 0 ⟨#[]⟩).set 1 ⟨#[63]⟩).set 2 ⟨#[63, 114]⟩).set 3 ⟨#[63, 114, 120, 124, 121]⟩).set 4 ⟨#[63, 114, 120, 121]⟩).set 5 ⟨#[63, 114, 120, 124, 121, 32, 114, 120, 124, 121]⟩).set 6 ⟨#[120, 63, 114, 120, 124, 121]⟩).set 7 ⟨#[121, 120, 63, 114, 120, 124, 121]⟩).set 8 ⟨#[63, 114, 121, 124, 120]⟩).set 9 ⟨#[63, 114, 120, 124, 122]⟩).set 10 ⟨#[63, 118, 120]⟩).set 11 ⟨#[63, 63, 114, 120, 124, 121]⟩).set 12 ⟨#[63, 114, 120, 124, 121, 32]⟩).set 13 s' = strL s' := rfl
    have eL : (strL s').length = 14 := rfl
    refine call_of (s6) ?_ ?_ ?_ ?_
    · simp -implicitDefEqProofs (maxSteps := 2000000) only [go_sem, eS, eL]
    · kernel_rfl
    · simp -implicitDefEqProofs (maxSteps := 2000000) only [go_sem, eS, eL]
    simp -implicitDefEqProofs (maxSteps := 2000000) only [go_sem, eS, eL]
end Go.Proofs.YtedciihjgbkjgacGreatDoor.A


/- EqualQueries. Conditions: none. -/
namespace Go.Proofs.YtedciihjgbkjgacGreatDoor.A
open Go
set_option linter.unusedSimpArgs false
set_option linter.unusedVariables false
set_option maxRecDepth 100000

theorem specEqualQueries_sat (a b : Qu) (h : a.fit) : Sat Tryz.prog 13 [lQu a, lQu b] [lBool (decide (a = b))] [g3, g3] := by
  refine sat_of_body mixed Tryz.func13 rfl (by kernel_rfl) (by kernel_rfl) (rs := [.tmp 4]) rfl rfl rfl ?_
  rw [Qu.eq_iff]
  simp -implicitDefEqProofs (maxSteps := 2000000) only [go_sem]
  rcases d1 : a.vc != b.vc
  case true =>
    have e1 : ¬ a.vc = b.vc := by simpa using d1
    simp -implicitDefEqProofs (maxSteps := 2000000) only [go_sem, d1, e1, decide_false]
  have e1 : decide (a.vc = b.vc) = true := by simpa using d1
  simp -implicitDefEqProofs (maxSteps := 2000000) only [go_sem, d1, e1]
  refine call_of (l3Ints_sat a.free b.free h.2) (by simp -implicitDefEqProofs (maxSteps := 2000000) only [go_sem]) (by kernel_rfl) (by simp -implicitDefEqProofs (maxSteps := 2000000) only [go_sem]) ?_
  simp -implicitDefEqProofs (maxSteps := 2000000) only [go_sem]
  rw [cmp_bne]
  rcases d2 : decide (a.free = b.free)
  · simp -implicitDefEqProofs (maxSteps := 2000000) only [go_sem, d2]
  simp -implicitDefEqProofs (maxSteps := 2000000) only [go_sem, d2]
  refine cond_split (fun d3 => ?_) fun d3 => ?_
  · simp -implicitDefEqProofs (maxSteps := 2000000) only [go_sem]
    have d3 : ¬ (a.atoms.length : Int) = b.atoms.length := by simpa using d3
    rw [decide_eq_false (fun h => d3 (by rw [h]))]
  have d3 : a.atoms.length = b.atoms.length := cast_ne d3
  simp -implicitDefEqProofs (maxSteps := 2000000) only [go_sem]
  refine awp_loop Nat (fun k => mkSt [(2, .one (.vad 1000 0)), (3, .one (.vad 1064 0)), (5, .sc (.int .i64 k))] [(1000, sQu a), (1064, sQu b)] [] 2000)
    (fun k => k ≤ a.atoms.length ∧ a.atoms.take k = b.atoms.take k) (fun k => a.atoms.length - k) 0 ⟨by omega, rfl⟩ (le_st _ _ [] [] _ rfl (by simp -implicitDefEqProofs (maxSteps := 2000000) only [go_sem] <;> rfl) (by simp -implicitDefEqProofs (maxSteps := 2000000) only [go_sem] <;> rfl) (by simp -implicitDefEqProofs (maxSteps := 2000000) only [go_sem] <;> rfl)) ?_
  rintro k ⟨h1, h2⟩
  by_cases c1 : k < a.atoms.length
  · have c2 : k < b.atoms.length := by omega
    simp -implicitDefEqProofs (maxSteps := 2000000) only [go_sem, c1, c2]
    rcases d4 : (a.atoms.getD k default).r != (b.atoms.getD k default).r
    case true =>
      simp -implicitDefEqProofs (maxSteps := 2000000) only [go_sem, d4]
      rw [decide_eq_false (list_ne (d := default) (k := k) (fun h => by rw [h] at d4; simp at d4))]
    simp -implicitDefEqProofs (maxSteps := 2000000) only [go_sem, d4, c1, c2]
    refine call_of (l3Ints_sat (a.atoms.getD k default).l (b.atoms.getD k default).l (h.1.2 _ (mem_getD _ c1))) (by simp -implicitDefEqProofs (maxSteps := 2000000) only [go_sem, d4, c1, c2]) (by kernel_rfl) (by simp -implicitDefEqProofs (maxSteps := 2000000) only [go_sem, d4, c1, c2]) ?_
    simp -implicitDefEqProofs (maxSteps := 2000000) only [go_sem, d4, c1, c2]
    rw [cmp_bne]
    rcases d5 : decide ((a.atoms.getD k default).l = (b.atoms.getD k default).l)
    · simp -implicitDefEqProofs (maxSteps := 2000000) only [go_sem, d5]
      rw [decide_eq_false (list_ne (d := default) (k := k) (fun h => by rw [h] at d5; simp at d5))]
    simp -implicitDefEqProofs (maxSteps := 2000000) only [go_sem, d5]
    rw [i64_succ (by have := h.1.1; omega)]
    refine ⟨k + 1, ⟨c1, list_step default c1 c2 h2 ?_⟩, by omega, (le_st _ _ [] [] _ rfl (by simp -implicitDefEqProofs (maxSteps := 2000000) only [go_sem] <;> rfl) (by simp -implicitDefEqProofs (maxSteps := 2000000) only [go_sem] <;> rfl) (by simp -implicitDefEqProofs (maxSteps := 2000000) only [go_sem] <;> rfl))⟩
    have h := RI.eq_iff (a.atoms.getD k default) (b.atoms.getD k default)
    rw [d5, show decide ((a.atoms.getD k default).r = (b.atoms.getD k default).r) = true by simpa using d4] at h
    simpa using h
  · simp -implicitDefEqProofs (maxSteps := 2000000) only [go_sem, c1]
    rw [List.take_of_length_le (by omega), List.take_of_length_le (by omega)] at h2
    rw [decide_eq_true h2]
theorem equalAtoms_sat (a b : RI) (h : a.fit) : Sat Tryz.prog 47 [lRI a, lRI b] [lBool (decide (a = b))] [g2, g2] := by
  refine sat_of_body mixed Tryz.func47 rfl (by kernel_rfl) (by kernel_rfl) (rs := [.tmp 4]) rfl rfl rfl ?_
  rw [RI.eq_iff]
  simp -implicitDefEqProofs (maxSteps := 2000000) only [go_sem]
  rcases d : a.r == b.r
  · have e : ¬ a.r = b.r := by simpa using d
    simp -implicitDefEqProofs (maxSteps := 2000000) only [go_sem, d, e, decide_false]
  have e : a.r = b.r := by simpa using d
  simp -implicitDefEqProofs (maxSteps := 2000000) only [go_sem, d, e, decide_true]
  refine call_of (slicesEqual_sat a.l b.l h) (by simp -implicitDefEqProofs (maxSteps := 2000000) only [go_sem, d, e]) (by kernel_rfl) (by simp -implicitDefEqProofs (maxSteps := 2000000) only [go_sem, d, e]) ?_
  simp -implicitDefEqProofs (maxSteps := 2000000) only [go_sem, d, e]
theorem equalFunc_sat (a b : List RI) (ha : a.length ≤ 9223372036854775807) (h : ∀ x ∈ a, x.fit) : Sat Tryz.prog 46 [lRIs a, lRIs b, .one (.fn 47 [])] [lBool (decide (a = b))] [g1, g1, g1] := by
  refine sat_of_body mixed Tryz.func46 rfl (by kernel_rfl) (by kernel_rfl) (rs := [.tmp 6]) rfl rfl rfl ?_
  simp -implicitDefEqProofs (maxSteps := 2000000) only [go_sem]
  refine cond_split (fun d => ?_) fun d => ?_
  · simp -implicitDefEqProofs (maxSteps := 2000000) only [go_sem]
    have d : ¬ (a.length : Int) = b.length := by simpa using d
    rw [decide_eq_false (fun h => d (by rw [h]))]
  have d : a.length = b.length := cast_ne d
  simp -implicitDefEqProofs (maxSteps := 2000000) only [go_sem]
  refine awp_loop Nat (fun k => mkSt [(0, .one (.im 2 (ris 0 a))), (1, .one (.im 2 (ris 0 b))), (2, .one (.fni 47 [])), (15, .one (.im 2 (ris 0 a))), (16, .sc (.int .i64 a.length)), (17, .sc (.int .i64 k))] [] [] 1000)
    (fun k => k ≤ a.length ∧ a.take k = b.take k) (fun k => a.length - k) 0 ⟨by omega, rfl⟩ (le_st _ _ [] [] _ rfl (by simp -implicitDefEqProofs (maxSteps := 2000000) only [go_sem] <;> rfl) trivial trivial) ?_
  rintro k ⟨h1, h2⟩
  by_cases c1 : k < a.length
  · have c2 : k < b.length := by omega
    simp -implicitDefEqProofs (maxSteps := 2000000) only [go_sem, c1, c2]
    refine call_of (equalAtoms_sat (a.getD k default) (b.getD k default) (h _ (mem_getD _ c1))) (by simp -implicitDefEqProofs (maxSteps := 2000000) only [go_sem]) (by kernel_rfl) (by simp -implicitDefEqProofs (maxSteps := 2000000) only [go_sem]) ?_
    simp -implicitDefEqProofs (maxSteps := 2000000) only [go_sem]
    refine cond_split (fun e => ?_) fun e => ?_
    · simp -implicitDefEqProofs (maxSteps := 2000000) only [go_sem]
      rw [decide_eq_false (list_ne (d := default) (k := k) (by simpa using e))]
    simp -implicitDefEqProofs (maxSteps := 2000000) only [go_sem]
    rw [i64_succ (by omega)]
    exact ⟨k + 1, ⟨c1, list_step default c1 c2 h2 (by simpa using e)⟩, by omega, (le_st _ _ [] [] _ rfl (by simp -implicitDefEqProofs (maxSteps := 2000000) only [go_sem] <;> rfl) trivial trivial)⟩
  · simp -implicitDefEqProofs (maxSteps := 2000000) only [go_sem, c1]
    rw [List.take_of_length_le (by omega), List.take_of_length_le (by omega)] at h2
    rw [decide_eq_true h2]
theorem implEqualQueries_sat (a b : Qu) (h : a.fit) : Sat Tryz.prog 14 [lQu a, lQu b] [lBool (decide (a = b))] [g3, g3] := by
  refine sat_of_body mixed Tryz.func14 rfl (by kernel_rfl) (by kernel_rfl) (rs := [.tmp 4]) rfl rfl rfl ?_
  rw [Qu.eq_iff]
  simp -implicitDefEqProofs (maxSteps := 2000000) only [go_sem]
  rcases d : a.vc == b.vc
  · have e : ¬ a.vc = b.vc := by simpa using d
    simp -implicitDefEqProofs (maxSteps := 2000000) only [go_sem, d, e, decide_false]
  have e : a.vc = b.vc := by simpa using d
  simp -implicitDefEqProofs (maxSteps := 2000000) only [go_sem, d, e, decide_true]
  refine call_of (equalFunc_sat a.atoms b.atoms h.1.1 h.1.2) (by simp -implicitDefEqProofs (maxSteps := 2000000) only [go_sem, d, e]) (by kernel_rfl) (by simp -implicitDefEqProofs (maxSteps := 2000000) only [go_sem, d, e]) ?_
  simp -implicitDefEqProofs (maxSteps := 2000000) only [go_sem, d, e]
  rcases f : decide (a.atoms = b.atoms)
  · simp -implicitDefEqProofs (maxSteps := 2000000) only [go_sem, f]
  simp -implicitDefEqProofs (maxSteps := 2000000) only [go_sem, f]
  refine call_of (slicesEqual_sat a.free b.free h.2) (by simp -implicitDefEqProofs (maxSteps := 2000000) only [go_sem, f]) (by kernel_rfl) (by simp -implicitDefEqProofs (maxSteps := 2000000) only [go_sem, f]) ?_
  simp -implicitDefEqProofs (maxSteps := 2000000) only [go_sem, f]
end Go.Proofs.YtedciihjgbkjgacGreatDoor.A


/- THE WALK OF THE LAW FnQueryFormat. Conditions: none. -/
namespace Go.Proofs.YtedciihjgbkjgacGreatDoor.A
open Go
set_option linter.unusedSimpArgs false
set_option linter.unusedVariables false
set_option maxRecDepth 100000
theorem bigT_sat (b : List Int) (h : b.length ≤ 9223372036854775807) : Sat Tryz.prog 4 [lBys b] [lBool (decide ((b.length : Int) > 1048576))] [g1] := by
  refine sat_of_body mixed Tryz.func4 rfl (by kernel_rfl) (by kernel_rfl) (rs := [.tmp 2]) rfl rfl rfl ?_
  simp -implicitDefEqProofs (maxSteps := 2000000) only [go_sem]
theorem parQ_okF {l : List Rel} {s : ByteArray} (h : s.size ≤ 1048576) : (parQ l s).ok := by
  unfold parQ
  split
  · exact readQ_ok h
  · exact ⟨⟨by decide, fun x hx => by cases hx⟩, by decide⟩
theorem qu_fitF {q : Qu} (h : q.ok) : q.fit := by
  obtain ⟨⟨h1, h2⟩, h3⟩ := h
  refine ⟨⟨by omega, fun x hx => ?_⟩, by omega⟩
  have := h2 x hx
  unfold RI.ok at this
  unfold RI.fit
  omega
theorem quText_smallF {l : List Rel} {q : Qu} (h : q.free.length ≤ 201) : (quText l q).size ≤ 1048576 := by
  unfold quText
  split
  · rename_i g
    have h1 := catT_size q.free
    have h2 := joinB_size blB 7 (qTexts l q) (qTexts_mem g)
    have h3 := (goodQu_parts g).2.2
    have h4 : (qTexts l q).length = q.atoms.length := by unfold qTexts atTs; rw [List.length_map]
    have h5 : blB.size = 1 := rfl
    have h6 : askB.size = 1 := rfl
    rw [app_size, app_size]
    rw [h4, h5] at h2
    omega
  · exact Nat.zero_le _
theorem beq_self (b : Bool) : (b == b) = true := by cases b <;> rfl
set_option maxHeartbeats 16000000 in
/-- THE LAW FnQueryFormat. -/
theorem lawQueryFormat_sat (b : List Int) (h : b.length ≤ 9223372036854775807) : Sat Tryz.prog 3 [lBys b] [lBool true] [g1] := by
  refine sat_of_bodyB Tryz.func3 rfl (by kernel_rfl) (rs := [.tmp 2]) rfl rfl rfl ?_
  refine bwp_seq mixed (by kernel_rfl) ?_
  simp -implicitDefEqProofs (maxSteps := 2000000) only [go_sem]
  refine bwp_seq mixed (by kernel_rfl) ?_
  simp -implicitDefEqProofs (maxSteps := 2000000) only [go_sem]
  refine call_of (bigT_sat b h) (by simp -implicitDefEqProofs (maxSteps := 2000000) only [go_sem]) (by kernel_rfl) (by simp -implicitDefEqProofs (maxSteps := 2000000) only [go_sem]) ?_
  simp -implicitDefEqProofs (maxSteps := 2000000) only [go_sem]
  refine cond_split (fun e0 => ?_) fun e0 => ?_
  · simp -implicitDefEqProofs (maxSteps := 2000000) only [go_sem]
  have o0 : b.length ≤ 1048576 := by have := of_decide_eq_false e0; omega
  simp -implicitDefEqProofs (maxSteps := 2000000) only [go_sem]
  obtain ⟨c0, q, hq, s0⟩ := drawFQ_ex b o0
  obtain ⟨c1, s, hs, s1⟩ := drawPQ_ex b o0
  obtain ⟨p, r, hp, hr, s2⟩ := drawEQ_ex b o0
  have qok := hq.ok (by decide)
  have pok := hp.ok (by decide)
  have rok := hr.ok (by decide)
  have l0 : (sigs c0).length ≤ 9223372036854775807 := by show 4 ≤ 9223372036854775807; omega
  have l1 : (sigs c1).length ≤ 9223372036854775807 := by show 4 ≤ 9223372036854775807; omega
  have ot := okQ_text (sigs c0) q
  have hx : goodQu (sigs c0) q = true → parQ (sigs c0) (quText (sigs c0) q) = q := fun g => by
    have := read_text g
    unfold parQ
    rw [this.1, if_pos rfl, this.2]
  have hy : okQ (sigs c1) s = true → quText (sigs c1) (parQ (sigs c1) s) = s := fun g => by
    unfold parQ
    rw [if_pos g]
    unfold okQ at g
    rw [Bool.and_eq_true] at g
    exact of_decide_eq_true g.2
  have tz := quText_smallF (l := sigs c0) hq.free
  have xok := parQ_okF (l := sigs c0) tz
  have yok := parQ_okF (l := sigs c1) (show s.size ≤ 1048576 by omega)
  have x1 := implFormatQuery_sat (sigs c0) q l0 qok
  have x2 := implParseQuery_sat (sigs c0) (quText (sigs c0) q) l0 tz
  have x3 := implParseQuery_sat (sigs c1) s l1 (by omega)
  have x4 := specParseQuery_sat (sigs c1) s l1 (by omega)
  have x5 := implFormatQuery_sat (sigs c1) (parQ (sigs c1) s) l1 yok
  have x6 := specIsValidQuery_sat (sigs c0) q l0 (qu_fitF qok)
  have x7 := implIsValidQuery_sat (sigs c0) q l0 qok
  have x8 := specEqualQueries_sat (parQ (sigs c0) (quText (sigs c0) q)) q (qu_fitF xok)
  have x9 := specEqualQueries_sat p r (qu_fitF pok)
  have x10 := implEqualQueries_sat p r (qu_fitF pok)
  generalize sigs c0 = l at s0 x1 x2 x6 x7 x8 ot hx tz xok
  generalize sigs c1 = m at s1 x3 x4 x5 hy yok
  generalize quText l q = t at x1 x2 x8 ot hx tz xok
  generalize parQ l t = x at x2 x8 hx xok
  generalize parQ m s = y at x3 x4 x5 hy yok
  rw [ot] at x2
  generalize quText m y = u at x5 hy
  rcases q with ⟨q1, q2, q3⟩
  rcases x with ⟨z1, z2, z3⟩
  rcases y with ⟨y1, y2, y3⟩
  rcases p with ⟨p1, p2, p3⟩
  rcases r with ⟨r1, r2, r3⟩
  refine bwp_seq mixed (by kernel_rfl) ?_
  simp -implicitDefEqProofs (maxSteps := 2000000) only [go_sem]
  refine call_of (s0) (by simp -implicitDefEqProofs (maxSteps := 2000000) only [go_sem]) (by kernel_rfl) (by simp -implicitDefEqProofs (maxSteps := 2000000) only [go_sem]) ?_
  simp -implicitDefEqProofs (maxSteps := 2000000) only [go_sem]
  refine bwp_seq mixed (by kernel_rfl) ?_
  simp -implicitDefEqProofs (maxSteps := 2000000) only [go_sem]
  refine call_of (x1) (by simp -implicitDefEqProofs (maxSteps := 2000000) only [go_sem]) (callOk_still (by kernel_rfl) (by simp only [List.all_cons, List.all_nil, LV.still, LV.leaves, Leaf.still, ints_still, ris_still, eds_still, rels_still, iss_still, ems_still, Bool.and_self, Bool.and_true])) (by simp -implicitDefEqProofs (maxSteps := 2000000) only [go_sem]) ?_
  simp -implicitDefEqProofs (maxSteps := 2000000) only [go_sem]
  refine call_of (x2) (by simp -implicitDefEqProofs (maxSteps := 2000000) only [go_sem]) (callOk_still (by kernel_rfl) (by simp only [List.all_cons, List.all_nil, LV.still, LV.leaves, Leaf.still, ints_still, ris_still, eds_still, rels_still, iss_still, ems_still, Bool.and_self, Bool.and_true])) (by simp -implicitDefEqProofs (maxSteps := 2000000) only [go_sem]) ?_
  simp -implicitDefEqProofs (maxSteps := 2000000) only [go_sem]
  refine bwp_seq mixed (by kernel_rfl) ?_
  simp -implicitDefEqProofs (maxSteps := 2000000) only [go_sem]
  refine call_of (s1) (by simp -implicitDefEqProofs (maxSteps := 2000000) only [go_sem]) (by kernel_rfl) (by simp -implicitDefEqProofs (maxSteps := 2000000) only [go_sem]) ?_
  simp -implicitDefEqProofs (maxSteps := 2000000) only [go_sem]
  refine bwp_seq mixed (by kernel_rfl) ?_
  simp -implicitDefEqProofs (maxSteps := 2000000) only [go_sem]
  refine call_of (x3) (by simp -implicitDefEqProofs (maxSteps := 2000000) only [go_sem]) (callOk_still (by kernel_rfl) (by simp only [List.all_cons, List.all_nil, LV.still, LV.leaves, Leaf.still, ints_still, ris_still, eds_still, rels_still, iss_still, ems_still, Bool.and_self, Bool.and_true])) (by simp -implicitDefEqProofs (maxSteps := 2000000) only [go_sem]) ?_
  simp -implicitDefEqProofs (maxSteps := 2000000) only [go_sem]
  refine bwp_seq mixed (by kernel_rfl) ?_
  simp -implicitDefEqProofs (maxSteps := 2000000) only [go_sem]
  refine call_of (x4) (by simp -implicitDefEqProofs (maxSteps := 2000000) only [go_sem]) (callOk_still (by kernel_rfl) (by simp only [List.all_cons, List.all_nil, LV.still, LV.leaves, Leaf.still, ints_still, ris_still, eds_still, rels_still, iss_still, ems_still, Bool.and_self, Bool.and_true])) (by simp -implicitDefEqProofs (maxSteps := 2000000) only [go_sem]) ?_
  simp -implicitDefEqProofs (maxSteps := 2000000) only [go_sem]
  refine bwp_seq mixed (by kernel_rfl) ?_
  simp -implicitDefEqProofs (maxSteps := 2000000) only [go_sem]
  refine call_of (s2) (by simp -implicitDefEqProofs (maxSteps := 2000000) only [go_sem]) (by kernel_rfl) (by simp -implicitDefEqProofs (maxSteps := 2000000) only [go_sem]) ?_
  simp -implicitDefEqProofs (maxSteps := 2000000) only [go_sem]
  refine bwp_le (st' := mkSt [(3, .one (.im 3 (rels l))), (4, .one (.vad 1512 0)), (5, .one (.vad 2216 0)), (6, .sc (.bool (goodQu l ⟨q1, q2, q3⟩))), (7, .one (.im 3 (rels m))), (8, .sc (.string s)), (9, .one (.vad 3240 0)), (10, .sc (.bool (okQ m s))), (12, .sc (.bool (okQ m s))), (13, .one (.vad 4328 0)), (14, .one (.vad 4392 0))] [(1512, [.sc (.int .i64 q1), .im 2 (ris 0 q2), .im 1 (ints q3)]), (2216, [.sc (.int .i64 z1), .im 2 (ris 0 z2), .im 1 (ints z3)]), (3240, [.sc (.int .i64 y1), .im 2 (ris 0 y2), .im 1 (ints y3)]), (4328, [.sc (.int .i64 p1), .im 2 (ris 0 p2), .im 1 (ints p3)]), (4392, [.sc (.int .i64 r1), .im 2 (ris 0 r2), .im 1 (ints r3)])] [] 5000) (le_st' _ _ [] [1273, 1274, 1961, 1962, 2985, 2986, 3561, 3562, 4073, 4074, 4089, 4090] _ (by simp -implicitDefEqProofs (maxSteps := 2000000) only [go_sem, ris_frz, ints_frz] <;> and_intros <;> first | rfl | exact List.mem_singleton_self _ | decide | (refine ⟨_, rfl, Eq.symm ?_⟩; simp -implicitDefEqProofs (maxSteps := 2000000) only [go_sem, ris_frz, ints_frz]; done) | (refine ⟨_, rfl, Eq.symm ?_⟩; simp -implicitDefEqProofs (maxSteps := 2000000) only [go_sem, ris_frz, ints_frz]; rfl)) (by simp -implicitDefEqProofs (maxSteps := 2000000) only [go_sem, ris_frz, ints_frz] <;> and_intros <;> first | rfl | exact List.mem_singleton_self _ | decide | (refine ⟨_, rfl, Eq.symm ?_⟩; simp -implicitDefEqProofs (maxSteps := 2000000) only [go_sem, ris_frz, ints_frz]; done) | (refine ⟨_, rfl, Eq.symm ?_⟩; simp -implicitDefEqProofs (maxSteps := 2000000) only [go_sem, ris_frz, ints_frz]; rfl)) (by simp -implicitDefEqProofs (maxSteps := 2000000) only [go_sem, ris_frz, ints_frz] <;> and_intros <;> rfl) (by rfl)) ?_
  refine bwp_awp mixed (by kernel_rfl) ?_
  clear x1 x2 x3 x4 s0 s1 s2
  generalize goodQu l ⟨q1, q2, q3⟩ = g at x6 x7 hx ⊢
  generalize okQ m s = f at hy ⊢
  have tt : (true == true) = true := rfl
  have ff : (false == false) = true := rfl
  generalize decide ((⟨p1, p2, p3⟩ : Qu) = ⟨r1, r2, r3⟩) = w at x9 x10
  have ww : (w == w) = true := beq_self w
  have hu : f = true → decide (u = s) = true := fun e => decide_eq_true (hy e)
  rcases g with _ | _
  · rcases f with _ | _
    · simp -implicitDefEqProofs (maxSteps := 2000000) only [go_sem]
      refine call_of (x6) (by simp -implicitDefEqProofs (maxSteps := 2000000) only [go_sem, tt, ff, ww]) (by kernel_rfl) (by simp -implicitDefEqProofs (maxSteps := 2000000) only [go_sem, tt, ff, ww]) ?_
      simp -implicitDefEqProofs (maxSteps := 2000000) only [go_sem, tt, ff, ww]
      refine call_of (x7) (by simp -implicitDefEqProofs (maxSteps := 2000000) only [go_sem, tt, ff, ww]) (by kernel_rfl) (by simp -implicitDefEqProofs (maxSteps := 2000000) only [go_sem, tt, ff, ww]) ?_
      simp -implicitDefEqProofs (maxSteps := 2000000) only [go_sem, tt, ff, ww]
      refine call_of (x10) (by simp -implicitDefEqProofs (maxSteps := 2000000) only [go_sem, tt, ff, ww]) (by kernel_rfl) (by simp -implicitDefEqProofs (maxSteps := 2000000) only [go_sem, tt, ff, ww]) ?_
      simp -implicitDefEqProofs (maxSteps := 2000000) only [go_sem, tt, ff, ww]
      refine call_of (x9) (by simp -implicitDefEqProofs (maxSteps := 2000000) only [go_sem, tt, ff, ww]) (by kernel_rfl) (by simp -implicitDefEqProofs (maxSteps := 2000000) only [go_sem, tt, ff, ww]) ?_
      simp -implicitDefEqProofs (maxSteps := 2000000) only [go_sem, tt, ff, ww]
      first | (with_reducible refine tr_and ?_ ?_; focus kernel_rfl) | (with_reducible refine tr_only ?_; kernel_rfl) | skip
      first | done | rfl | exact ⟨rfl, rfl⟩ | exact ⟨rfl, rfl, rfl⟩ | (refine tr_and ?_ ?_ <;> first | rfl | exact ⟨rfl, rfl⟩ | kernel_rfl)
    · have hu' := hu rfl
      simp -implicitDefEqProofs (maxSteps := 2000000) only [go_sem]
      refine call_of (x6) (by simp -implicitDefEqProofs (maxSteps := 2000000) only [go_sem, tt, ff, ww]) (by kernel_rfl) (by simp -implicitDefEqProofs (maxSteps := 2000000) only [go_sem, tt, ff, ww]) ?_
      simp -implicitDefEqProofs (maxSteps := 2000000) only [go_sem, tt, ff, ww]
      refine call_of (x7) (by simp -implicitDefEqProofs (maxSteps := 2000000) only [go_sem, tt, ff, ww]) (by kernel_rfl) (by simp -implicitDefEqProofs (maxSteps := 2000000) only [go_sem, tt, ff, ww]) ?_
      simp -implicitDefEqProofs (maxSteps := 2000000) only [go_sem, tt, ff, ww]
      refine call_of (x5) (by simp -implicitDefEqProofs (maxSteps := 2000000) only [go_sem, tt, ff, ww, hu']) (by kernel_rfl) (by simp -implicitDefEqProofs (maxSteps := 2000000) only [go_sem, tt, ff, ww, hu']) ?_
      simp -implicitDefEqProofs (maxSteps := 2000000) only [go_sem, tt, ff, ww, hu']
      refine call_of (x10) (by simp -implicitDefEqProofs (maxSteps := 2000000) only [go_sem, tt, ff, ww, hu']) (by kernel_rfl) (by simp -implicitDefEqProofs (maxSteps := 2000000) only [go_sem, tt, ff, ww, hu']) ?_
      simp -implicitDefEqProofs (maxSteps := 2000000) only [go_sem, tt, ff, ww, hu']
      refine call_of (x9) (by simp -implicitDefEqProofs (maxSteps := 2000000) only [go_sem, tt, ff, ww, hu']) (by kernel_rfl) (by simp -implicitDefEqProofs (maxSteps := 2000000) only [go_sem, tt, ff, ww, hu']) ?_
      simp -implicitDefEqProofs (maxSteps := 2000000) only [go_sem, tt, ff, ww, hu']
      first | (with_reducible refine tr_and ?_ ?_; focus kernel_rfl) | (with_reducible refine tr_only ?_; kernel_rfl) | skip
      first | done | rfl | exact ⟨rfl, rfl⟩ | exact ⟨rfl, rfl, rfl⟩ | (refine tr_and ?_ ?_ <;> first | rfl | exact ⟨rfl, rfl⟩ | kernel_rfl)
  · have e := hx rfl
    have de : decide ((⟨z1, z2, z3⟩ : Qu) = ⟨q1, q2, q3⟩) = true := decide_eq_true e
    rw [de] at x8
    rcases f with _ | _
    · simp -implicitDefEqProofs (maxSteps := 2000000) only [go_sem]
      refine call_of (x6) (by simp -implicitDefEqProofs (maxSteps := 2000000) only [go_sem, tt, ff, ww]) (by kernel_rfl) (by simp -implicitDefEqProofs (maxSteps := 2000000) only [go_sem, tt, ff, ww]) ?_
      simp -implicitDefEqProofs (maxSteps := 2000000) only [go_sem, tt, ff, ww]
      refine call_of (x7) (by simp -implicitDefEqProofs (maxSteps := 2000000) only [go_sem, tt, ff, ww]) (by kernel_rfl) (by simp -implicitDefEqProofs (maxSteps := 2000000) only [go_sem, tt, ff, ww]) ?_
      simp -implicitDefEqProofs (maxSteps := 2000000) only [go_sem, tt, ff, ww]
      refine call_of (x8) (by simp -implicitDefEqProofs (maxSteps := 2000000) only [go_sem, tt, ff, ww]) (by kernel_rfl) (by simp -implicitDefEqProofs (maxSteps := 2000000) only [go_sem, tt, ff, ww]) ?_
      simp -implicitDefEqProofs (maxSteps := 2000000) only [go_sem, tt, ff, ww]
      refine call_of (x10) (by simp -implicitDefEqProofs (maxSteps := 2000000) only [go_sem, tt, ff, ww]) (by kernel_rfl) (by simp -implicitDefEqProofs (maxSteps := 2000000) only [go_sem, tt, ff, ww]) ?_
      simp -implicitDefEqProofs (maxSteps := 2000000) only [go_sem, tt, ff, ww]
      refine call_of (x9) (by simp -implicitDefEqProofs (maxSteps := 2000000) only [go_sem, tt, ff, ww]) (by kernel_rfl) (by simp -implicitDefEqProofs (maxSteps := 2000000) only [go_sem, tt, ff, ww]) ?_
      simp -implicitDefEqProofs (maxSteps := 2000000) only [go_sem, tt, ff, ww]
      first | (with_reducible refine tr_and ?_ ?_; focus kernel_rfl) | (with_reducible refine tr_only ?_; kernel_rfl) | skip
      first | done | rfl | exact ⟨rfl, rfl⟩ | exact ⟨rfl, rfl, rfl⟩ | (refine tr_and ?_ ?_ <;> first | rfl | exact ⟨rfl, rfl⟩ | kernel_rfl)
    · have hu' := hu rfl
      simp -implicitDefEqProofs (maxSteps := 2000000) only [go_sem]
      refine call_of (x6) (by simp -implicitDefEqProofs (maxSteps := 2000000) only [go_sem, tt, ff, ww]) (by kernel_rfl) (by simp -implicitDefEqProofs (maxSteps := 2000000) only [go_sem, tt, ff, ww]) ?_
      simp -implicitDefEqProofs (maxSteps := 2000000) only [go_sem, tt, ff, ww]
      refine call_of (x7) (by simp -implicitDefEqProofs (maxSteps := 2000000) only [go_sem, tt, ff, ww]) (by kernel_rfl) (by simp -implicitDefEqProofs (maxSteps := 2000000) only [go_sem, tt, ff, ww]) ?_
      simp -implicitDefEqProofs (maxSteps := 2000000) only [go_sem, tt, ff, ww]
      refine call_of (x8) (by simp -implicitDefEqProofs (maxSteps := 2000000) only [go_sem, tt, ff, ww]) (by kernel_rfl) (by simp -implicitDefEqProofs (maxSteps := 2000000) only [go_sem, tt, ff, ww]) ?_
      simp -implicitDefEqProofs (maxSteps := 2000000) only [go_sem, tt, ff, ww]
      refine call_of (x5) (by simp -implicitDefEqProofs (maxSteps := 2000000) only [go_sem, tt, ff, ww, hu']) (by kernel_rfl) (by simp -implicitDefEqProofs (maxSteps := 2000000) only [go_sem, tt, ff, ww, hu']) ?_
      simp -implicitDefEqProofs (maxSteps := 2000000) only [go_sem, tt, ff, ww, hu']
      refine call_of (x10) (by simp -implicitDefEqProofs (maxSteps := 2000000) only [go_sem, tt, ff, ww, hu']) (by kernel_rfl) (by simp -implicitDefEqProofs (maxSteps := 2000000) only [go_sem, tt, ff, ww, hu']) ?_
      simp -implicitDefEqProofs (maxSteps := 2000000) only [go_sem, tt, ff, ww, hu']
      refine call_of (x9) (by simp -implicitDefEqProofs (maxSteps := 2000000) only [go_sem, tt, ff, ww, hu']) (by kernel_rfl) (by simp -implicitDefEqProofs (maxSteps := 2000000) only [go_sem, tt, ff, ww, hu']) ?_
      simp -implicitDefEqProofs (maxSteps := 2000000) only [go_sem, tt, ff, ww, hu']
      first | (with_reducible refine tr_and ?_ ?_; focus kernel_rfl) | (with_reducible refine tr_only ?_; kernel_rfl) | skip
      first | done | rfl | exact ⟨rfl, rfl⟩ | exact ⟨rfl, rfl, rfl⟩ | (refine tr_and ?_ ?_ <;> first | rfl | exact ⟨rfl, rfl⟩ | kernel_rfl)
end Go.Proofs.YtedciihjgbkjgacGreatDoor.A


/- BYTES READ. Conditions: none. -/
namespace Go.Proofs.YtedciihjgbkjgacGreatDoor.A
open Go
set_option linter.unusedVariables false
theorem readsC_byte {H : Type} {enc : TypeId × Value → H} {P : Program} {W : World} {t : TypeId} (ht : P.underlying t = some (.int .u8)) : ReadsC enc P W t cBy (fun _ => True) := by
  intro n cs x h
  obtain ⟨z, rfl⟩ := trod_int ht h
  exact ⟨z, trivial, ⟨rfl, rfl⟩, trivial⟩
end Go.Proofs.YtedciihjgbkjgacGreatDoor.A


/- THE LAW FnQueryFormat: for every input it returns true, and the input reads as it did. Conditions: none. -/
namespace Go.Proofs.YtedciihjgbkjgacGreatDoor.lawQueryFormat
open Go.ChangeShapes Go.WideShapes Go.ChangeAt Go.RowKit
open Go.Proofs.YtedciihjgbkjgacGreatDoor.A
set_option linter.unusedVariables false
theorem own : ownKnob Tryz.prog.godebug = none := by kernel_rfl
theorem laid : laidOutB Tryz.prog = true := by kernel_rfl
theorem rowed : mapsRowed Tryz.prog = true := by kernel_rfl
theorem full : ((List.range Tryz.prog.types.size).all fun t => match Tryz.prog.underlying t with | some (.slice e) => decide (0 < Tryz.prog.cellsOf e) | _ => true) = true := by kernel_rfl
set_option maxRecDepth 100000 in
theorem lifted (os : Os) (started : os.Started) (H : Type) (enc : TypeId × Value → H) :
    ReturnsInHanded {} Tryz.checked os 3 .any (fun w args => (Rows.fnQueryFormatSpec.pre enc Tryz.prog Tryz.f3 Rows.fnQueryFormatRow.domain false w args ∧ laidMetH Tryz.prog Rows.fnQueryFormatRow.laid w) ∧ sizedMet enc Tryz.prog Tryz.f3 (OpenSpec.ofChange Rows.fnQueryFormatSpec) false w args)
      (Rows.fnQueryFormatSpec.post enc Tryz.prog Tryz.f3 false true false false) := by
  refine returnsInHanded_of_change_and (C := Tryz.checked) (X := fun w _ => laidMetH Tryz.prog Rows.fnQueryFormatRow.laid w) (fun _ _ _ hh h => h.of_heap hh) own started (by kernel_rfl) Tryz.func3
    (ChangeSpec.witness_shaped (enc := enc) (C := Tryz.checked) (os := os) (X := fun w _ => laidMetH Tryz.prog Rows.fnQueryFormatRow.laid w) false (World.laidAll Tryz.prog os Rows.fnQueryFormatRow.laid) #[.slice none 0 0] 8 (World.laidAll_os _ _ _)
      (World.shaped_of_ZipB (by kernel_rfl) (by kernel_rfl)) (by kernel_rfl) (by kernel_rfl) (by kernel_rfl)
      (by rw [MakeChecks.laidMetH_plain _ _ _ (by kernel_rfl)]; exact laidMet_laidAll _ (by kernel_rfl) (by kernel_rfl))) ?_
  intro W base args ds gs before hval hW _ _ _ _
  obtain ⟨p, q, hA, hV, hpq, _⟩ := id hW
  rw [Tryz.params3] at hA hval
  obtain ⟨v0, vs0, d0, ds0, p0, q0, e0, rfl, rfl, h0, r0⟩ := trodAll_cons hA
  obtain ⟨rfl, rfl, rfl⟩ := trodAll_nil r0
  obtain ⟨rfl, _⟩ := trodVars_none hV
  obtain rfl : args = #[v0] := by cases args; simp_all
  have rB := readsC_byte (enc := enc) (W := W) und5
  have lBs := readsL_rows (w := 1) rB und22 (by kernel_rfl) (by omega) (fun _ => rfl) bys (fun _ => rfl)
  obtain ⟨a0, g0, l0⟩ := arg_one lBs (okWide_slice_ne und22 (hval 0 _ v0 rfl rfl)) h0
  exact law_calls laid rowed full Tryz.func3 rfl (by kernel_rfl) rfl rfl (by kernel_rfl) rfl und4 hW (lawQueryFormat_sat a0 g0.1) ⟨l0 _, trivial⟩ rfl rfl rfl
theorem over : Rows.fnQueryFormatRow.holds Tryz.pinned (OpenSpec.ofChange Rows.fnQueryFormatSpec) :=
  OpenClaim.holds_of_wide 3 Tryz.f3 rfl rfl rfl rfl rfl rfl rfl ⟨rfl, rfl, rfl, rfl, rfl⟩ rfl rfl rfl rfl rfl (by kernel_rfl) Tryz.func3 (by kernel_rfl)
    (of_decide_eq_true (by kernel_rfl)) (by unfold Func.isWrapper; first | (rw [if_pos (by decide +kernel)]; kernel_rfl) | (rw [if_neg (by decide +kernel)]; exact ⟨rfl, rfl⟩))
    (fun os started H enc _ => lifted os started H enc)
end Go.Proofs.YtedciihjgbkjgacGreatDoor.lawQueryFormat
namespace Go.Proofs.YtedciihjgbkjgacGreatDoor
/-- The card. -/
theorem fnQueryFormat_holds : Rows.FnQueryFormatCardSaid :=
  Claim7.holds_tied_plain_at .later [] [.data, .data, .data, .data, .pinned] true (true, "8d52e82cc75477312698566e770198cabb858cb8fb85de44b023c76248b1e324") false lawQueryFormat.over (fun _ h => by cases h) (by kernel_rfl) (fun _ h => by cases h) fnQueryFormat_row_tie rfl ⟨rfl, rfl⟩ (by kernel_rfl) rfl
    (fun f fn hf hfn => by
      obtain rfl : f = 3 := Option.some.inj ((show Tryz.prog.funcNamed "loop.example/g01918/laws.FnQueryFormat" = some 3 by kernel_rfl).symm.trans hf) |>.symm
      obtain rfl : fn = Tryz.f3 := (Option.some.inj (Tryz.func3.symm.trans hfn)).symm
      refine ⟨by kernel_rfl, fun j t ht => ?_⟩
      have hall : (Tryz.f3.params.all fun u => !Tryz.prog.wantsStandIn u) = true := by kernel_rfl
      have hm := Array.mem_of_getElem? ht
      exact (show Tryz.prog.wantsStandIn t = false by simpa using (Array.all_eq_true_iff_forall_mem.mp hall) t hm))
    (by kernel_rfl)
#print axioms fnQueryFormat_holds
end Go.Proofs.YtedciihjgbkjgacGreatDoor
