/- Packed by pack.py: FDraw13 FDraw14 FDraw15 FDraw9 FDraw16 FMis FMis2 FMis3 FMis4 FDraw4 FAtB FRep FEm2 FEm3 FEm4 FWit1 FEmbP FBind -/
import Derived.Test.YtedciihjgbkjgabGreatAZ2DBindVariable
import Derived.Test.YtedciihjgbkjgabGreatAZ1DBindVariable
import Derived.Test.YtedciihjgbkjgabGreatA44

/- QUERIES DRAWN: more walks. Conditions: none. -/
namespace Go.Proofs.YtedciihjgbkjgabGreat.A
open Go
set_option linter.unusedSimpArgs false
set_option linter.unusedVariables false
set_option maxRecDepth 100000

def qryA (c : Cur) : List RI × Cur := atsD (byC (byC (byC c))) (1 + beV (byC c) 4) (beV (byC (byC c)) 4) (1 + beV c 3)
set_option maxHeartbeats 4000000 in
theorem l11Query_sat (c : Cur) (hc : c.ok) : Sat Tryz.prog 81 [lCur c] [oQu (tightQ ⟨0, (qryA c).1, []⟩)] [lCur (qryA c).2] := by
  refine sat_of_body mixed Tryz.func81 rfl (by kernel_rfl) (by kernel_rfl) (rs := [.cell 2 31]) rfl rfl rfl ?_
  have k1 := byC_ok hc
  have k2 := byC_ok k1
  have k3 := byC_ok k2
  have s0 := l1Below_sat c 3 hc (by decide) (by decide)
  have s1 := l1Below_sat (byC c) 4 k1 (by decide) (by decide)
  have s2 := l1Below_sat (byC (byC c)) 4 k2 (by decide) (by decide)
  have b0 := beV_lt c (n := 3) (by decide)
  have b1 := beV_lt (byC c) (n := 4) (by decide)
  have b2 := beV_lt (byC (byC c)) (n := 4) (by decide)
  have hq : qryA c = atsD (byC (byC (byC c))) (1 + beV (byC c) 4) (beV (byC (byC c)) 4) (1 + beV c 3) := rfl
  rw [hq]
  clear hq
  generalize beV c 3 = n0 at s0 b0 ⊢
  generalize beV (byC c) 4 = v0 at s1 b1 ⊢
  generalize beV (byC (byC c)) 4 = f at s2 b2 ⊢
  generalize byC c = c1 at *
  generalize byC c1 = c2 at *
  generalize byC c2 = c3 at *
  obtain ⟨n, hn⟩ : ∃ n, n = 1 + n0 := ⟨_, rfl⟩
  obtain ⟨v, hv⟩ : ∃ v, v = 1 + v0 := ⟨_, rfl⟩
  have w1 : IntKind.i64.wrap (1 + ((n0 : Nat) : Int)) = ((n : Nat) : Int) := by rw [IntWalk.i64_in _ (by omega)]; omega
  have w2 : IntKind.i64.wrap (1 + ((v0 : Nat) : Int)) = ((v : Nat) : Int) := by rw [IntWalk.i64_in _ (by omega)]; omega
  rw [← hn, ← hv]
  have hA := atsD_len c3 v f
  have hAk := atsD_ok k3 v f
  simp -implicitDefEqProofs (maxSteps := 2000000) only [go_sem]
  refine call_of (s0) (by simp -implicitDefEqProofs (maxSteps := 2000000) only [go_sem, w1] <;> and_intros <;> rfl) (by kernel_rfl) (by simp -implicitDefEqProofs (maxSteps := 2000000) only [go_sem, w1]) ?_
  simp -implicitDefEqProofs (maxSteps := 2000000) only [go_sem, w1]
  refine call_of (s1) (by simp -implicitDefEqProofs (maxSteps := 2000000) only [go_sem, w2] <;> and_intros <;> rfl) (by kernel_rfl) (by simp -implicitDefEqProofs (maxSteps := 2000000) only [go_sem, w2]) ?_
  simp -implicitDefEqProofs (maxSteps := 2000000) only [go_sem, w2]
  refine call_of (s2) (by simp -implicitDefEqProofs (maxSteps := 2000000) only [go_sem] <;> and_intros <;> rfl) (by kernel_rfl) (by simp -implicitDefEqProofs (maxSteps := 2000000) only [go_sem]) ?_
  simp -implicitDefEqProofs (maxSteps := 2000000) only [go_sem]
  refine awp_loop Nat (fun i => mkSt [(0, .one (.vad 0 0)), (2, .one (.vad 1000 0)), (3, .one (.vad 1128 0)), (4, .sc (.int .i64 n)), (5, .sc (.int .i64 v)), (6, .sc (.int .i64 f)), (7, .sc (.int .i64 i))] [(0, sCur (atsD c3 v f i).2), (1000, zQ2), (1128, [.sc (.int .i64 0), .ref 960 2 0 i, .sc (.slice none 0 0)])] [(960, (2, ris 999 (atsD c3 v f i).1))] 8000)
    (fun i => i ≤ n) (fun i => n - i) 0 (by omega) (le_st _ _ [⟨960, none, false, 2, _⟩] [] _ rfl (by simp -implicitDefEqProofs (maxSteps := 2000000) only [go_sem, atsD, ris_nil] <;> rfl) (by simp -implicitDefEqProofs (maxSteps := 2000000) only [go_sem, atsD, ris_nil] <;> rfl) (by simp -implicitDefEqProofs (maxSteps := 2000000) only [go_sem, atsD, ris_nil] <;> rfl)) ?_
  rintro i h1
  have hAi := hA i
  have hki := hAk i
  by_cases c1 : i < n
  · have wi : IntKind.i64.wrap ((i : Int) + 1) = ((i + 1 : Nat) : Int) := i64_succ (by omega)
    have hst : atsD c3 v f (i + 1) = ((atsD c3 v f i).1 ++ [⟨(((f + i) % 4 : Nat) : Int), (tmsD (atsD c3 v f i).2 v (2 + ((f + i) % 4) / 3)).1⟩], (tmsD (atsD c3 v f i).2 v (2 + ((f + i) % 4) / 3)).2) := rfl
    have a1 : IntKind.i64.wrap (((f : Nat) : Int) + ((i : Nat) : Int)) = ((f + i : Nat) : Int) := by rw [IntWalk.i64_in _ (by omega)]; omega
    have a2 : Int.tmod ((f + i : Nat) : Int) 4 = (((f + i) % 4 : Nat) : Int) := by rw [Int.tmod_eq_emod_of_nonneg (by omega)]; omega
    have hr4 : (f + i) % 4 < 4 := Nat.mod_lt _ (by decide)
    generalize (f + i) % 4 = r at hst a2 hr4
    have a3 : Int.tdiv ((r : Nat) : Int) 3 = ((r / 3 : Nat) : Int) := by rw [Int.tdiv_eq_ediv_of_nonneg (by omega)]; omega
    have a4 : IntKind.i64.wrap (2 + ((r / 3 : Nat) : Int)) = ((2 + r / 3 : Nat) : Int) := by rw [IntWalk.i64_in _ (by omega)]; omega
    have a5 : IntKind.i64.wrap ((r / 3 : Nat) : Int) = ((r / 3 : Nat) : Int) := IntWalk.i64_in _ (by omega)
    obtain ⟨m, hm⟩ : ∃ m, m = 2 + r / 3 := ⟨_, rfl⟩
    rw [← hm] at hst a4
    generalize atsD c3 v f i = s at hst hAi hki ⊢
    have hT := tmsD_len s.2 v
    have hTk := tmsD_ok hki v
    simp -implicitDefEqProofs (maxSteps := 2000000) only [go_sem, c1, a1, a2, a3, a5, a4]
    repeat (refine ⟨by decide, ?_⟩)
    refine awp_loop Nat (fun j => mkSt [(0, .one (.vad 0 0)), (2, .one (.vad 1000 0)), (3, .one (.vad 1128 0)), (4, .sc (.int .i64 n)), (5, .sc (.int .i64 v)), (6, .sc (.int .i64 f)), (7, .sc (.int .i64 i)), (9, .one (.vad 8640 0)), (10, .sc (.int .i64 ((m : Int) - (j : Int))))] [(0, sCur (tmsD s.2 v j).2), (1000, zQ2), (1128, [.sc (.int .i64 0), .ref 960 2 0 i, .sc (.slice none 0 0)]), (8640, [.sc (.int .i64 r), .ref 961 1 0 j])] [(960, (2, ris 999 s.1)), (961, (1, ints (tmsD s.2 v j).1))] 16000)
      (fun j => j ≤ m) (fun j => m - j) 0 (by omega) (le_st' _ _ [⟨960, some _, false, 2, _⟩, ⟨961, none, false, 1, _⟩] [] _ (by simp -implicitDefEqProofs (maxSteps := 2000000) only [go_sem, tmsD, ints_nil, Int.sub_zero, Int.natCast_zero] <;> and_intros <;> rfl) (by simp -implicitDefEqProofs (maxSteps := 2000000) only [go_sem, tmsD, ints_nil, Int.sub_zero, Int.natCast_zero] <;> and_intros <;> rfl) (by simp -implicitDefEqProofs (maxSteps := 2000000) only [go_sem, tmsD, ints_nil, Int.sub_zero, Int.natCast_zero] <;> and_intros <;> rfl) (by rfl)) ?_
    rintro j h2
    have hTj := hT j
    have hTkj := hTk j
    have htk : List.take j (tmsD s.2 v j).1 = (tmsD s.2 v j).1 := List.take_of_length_le (by omega)
    by_cases c2 : j < m
    · have d1 : decide ((m : Int) - (j : Int) > 0) = true := decide_eq_true (by omega)
      have wj : IntKind.i64.wrap ((m : Int) - (j : Int) - 1) = (m : Int) - ((j + 1 : Nat) : Int) := by rw [IntWalk.i64_in _ (by omega)]; omega
      have hs1 : tmsD s.2 v (j + 1) = ((tmsD s.2 v j).1 ++ [tmD (tmsD s.2 v j).2 v], byC (byC (tmsD s.2 v j).2)) := rfl
      generalize tmsD s.2 v j = u at hTj hTkj htk hs1 ⊢
      rcases d2 : onV u.2 12
      · have e2 : tmD u.2 v = ((beV (byC u.2) v : Nat) : Int) := by unfold tmD; rw [d2]; rfl
        simp -implicitDefEqProofs (maxSteps := 2000000) only [go_sem, d1, htk]
        refine call_of (l1Once_sat u.2 12 hTkj (by decide) (by decide)) (by simp -implicitDefEqProofs (maxSteps := 2000000) only [go_sem, d2, htk] <;> and_intros <;> rfl) (by kernel_rfl) (by simp -implicitDefEqProofs (maxSteps := 2000000) only [go_sem, d2, htk]) ?_
        simp -implicitDefEqProofs (maxSteps := 2000000) only [go_sem, d2, htk]
        refine call_of (l1Below_sat (byC u.2) v (byC_ok hTkj) (by omega) (by omega)) (by simp -implicitDefEqProofs (maxSteps := 2000000) only [go_sem, hTj, htk]) (by kernel_rfl) (by simp -implicitDefEqProofs (maxSteps := 2000000) only [go_sem, hTj, htk]) ?_
        simp -implicitDefEqProofs (maxSteps := 2000000) only [go_sem, hTj, htk]
        repeat (refine And.intro (by omega) ?_)
        first | (with_reducible refine tr_and ?_ ?_; focus kernel_rfl) | (with_reducible refine tr_only ?_; kernel_rfl) | skip
        rw [wj]
        refine ⟨j + 1, c2, by omega, ?_⟩
        exact (le_st' _ _ [⟨960, some _, false, 2, _⟩, ⟨961, some _, false, 1, _⟩] [] _ (by simp -implicitDefEqProofs (maxSteps := 2000000) only [go_sem, hs1, e2, hTj, htk] <;> and_intros <;> rfl) (by simp -implicitDefEqProofs (maxSteps := 2000000) only [go_sem, hs1, e2, hTj, htk] <;> and_intros <;> rfl) (by simp -implicitDefEqProofs (maxSteps := 2000000) only [go_sem, hs1, e2, hTj, htk] <;> and_intros <;> rfl) (by rfl))
      · have e2 : tmD u.2 v = -1 - ((beV (byC u.2) 2 : Nat) : Int) := by unfold tmD; rw [d2]; rfl
        have b3 := beV_lt (byC u.2) (n := 2) (by decide)
        have w3 : IntKind.i64.wrap (-1 - ((beV (byC u.2) 2 : Nat) : Int)) = -1 - ((beV (byC u.2) 2 : Nat) : Int) := IntWalk.i64_in _ (by omega)
        simp -implicitDefEqProofs (maxSteps := 2000000) only [go_sem, d1, htk]
        refine call_of (l1Once_sat u.2 12 hTkj (by decide) (by decide)) (by simp -implicitDefEqProofs (maxSteps := 2000000) only [go_sem, d2, htk] <;> and_intros <;> rfl) (by kernel_rfl) (by simp -implicitDefEqProofs (maxSteps := 2000000) only [go_sem, d2, htk]) ?_
        simp -implicitDefEqProofs (maxSteps := 2000000) only [go_sem, d2, htk]
        refine call_of (l1Below_sat (byC u.2) 2 (byC_ok hTkj) (by decide) (by decide)) (by simp -implicitDefEqProofs (maxSteps := 2000000) only [go_sem, hTj, htk, w3] <;> and_intros <;> rfl) (by kernel_rfl) (by simp -implicitDefEqProofs (maxSteps := 2000000) only [go_sem, hTj, htk, w3]) ?_
        simp -implicitDefEqProofs (maxSteps := 2000000) only [go_sem, hTj, htk, w3]
        repeat (refine And.intro (by omega) ?_)
        first | (with_reducible refine tr_and ?_ ?_; focus kernel_rfl) | (with_reducible refine tr_only ?_; kernel_rfl) | skip
        rw [wj]
        refine ⟨j + 1, c2, by omega, ?_⟩
        exact (le_st' _ _ [⟨960, some _, false, 2, _⟩, ⟨961, some _, false, 1, _⟩] [] _ (by simp -implicitDefEqProofs (maxSteps := 2000000) only [go_sem, hs1, e2, hTj, htk] <;> and_intros <;> rfl) (by simp -implicitDefEqProofs (maxSteps := 2000000) only [go_sem, hs1, e2, hTj, htk] <;> and_intros <;> rfl) (by simp -implicitDefEqProofs (maxSteps := 2000000) only [go_sem, hs1, e2, hTj, htk] <;> and_intros <;> rfl) (by rfl))
    · obtain rfl : j = m := by omega
      have d1 : decide ((j : Int) - (j : Int) > 0) = false := decide_eq_false (by omega)
      simp -implicitDefEqProofs (maxSteps := 2000000) only [go_sem, d1, htk]
      repeat (refine And.intro (by omega) ?_)
      rw [wi]
      refine ⟨i + 1, c1, by omega, ?_⟩
      rw [hst]
      exact (le_st' _ _ [⟨960, some _, false, 2, _⟩] [] _ (by simp -implicitDefEqProofs (maxSteps := 2000000) only [go_sem, hTj, hAi, htk, repD1, List.set_cons_zero] <;> and_intros <;> rfl) (by simp -implicitDefEqProofs (maxSteps := 2000000) only [go_sem, hTj, hAi, htk, repD1, List.set_cons_zero] <;> and_intros <;> rfl) (by simp -implicitDefEqProofs (maxSteps := 2000000) only [go_sem, hTj, hAi, htk, repD1, List.set_cons_zero] <;> and_intros <;> rfl) (by rfl))
  · obtain rfl : i = n := by omega
    have hAm := fun x hx => atsD_mem (c := c3) (v := v) (f := f) (k := i) x hx
    have htk : List.take i (ris 999 (atsD c3 v f i).1) = ris 999 (atsD c3 v f i).1 := List.take_of_length_le (by rw [ris_length]; omega)
    simp -implicitDefEqProofs (maxSteps := 2000000) only [go_sem, c1, htk]
    refine call_of (l11Tight_sat ⟨0, (atsD c3 v f i).1, []⟩ ⟨⟨by simp only; omega, fun x hx => by have := hAm x hx; unfold RI.ok; omega⟩, by simp⟩ (by simp only; omega) (fun x hx => by have := hAm x hx; omega)) (by simp -implicitDefEqProofs (maxSteps := 2000000) only [go_sem, htk] <;> and_intros <;> rfl) (callOk_still (by kernel_rfl) (by simp only [List.all_cons, List.all_nil, LV.still, LV.leaves, Leaf.still, ints_still, ris_still, eds_still, rels_still, iss_still, ems_still, Bool.and_self, Bool.and_true])) (by simp -implicitDefEqProofs (maxSteps := 2000000) only [go_sem, htk]) ?_
    simp -implicitDefEqProofs (maxSteps := 2000000) only [go_sem, htk]
    and_intros <;> rfl

/-! #### known queries -/
def knL : List ByteArray := [⟨#[63, 114, 120, 124, 121, 32, 115, 121, 124, 122]⟩, ⟨#[63, 114, 120, 124, 121, 32, 115, 121, 124, 120]⟩, ⟨#[63, 114, 120, 124, 121, 32, 115, 122, 124, 121]⟩, ⟨#[63, 114, 120, 124, 121, 32, 115, 120, 124, 122]⟩, ⟨#[63, 114, 120, 124, 49]⟩, ⟨#[63, 114, 120, 124, 120]⟩, ⟨#[63, 114, 120, 124, 121, 32, 115, 121, 124, 49]⟩, ⟨#[63, 114, 120, 124, 121, 32, 115, 121, 124, 122, 32, 114]⟩, ⟨#[63, 114, 120, 124, 121]⟩, ⟨#[63, 114, 120, 124, 122, 32, 115, 121, 124, 122]⟩]
def kn0 : ByteArray := ⟨#[63, 114, 120, 124, 121, 32, 115, 121, 124, 122]⟩
theorem knL_ok : ∀ i : Fin 10, (knL.getD i.val ⟨#[]⟩).size ≤ 100 ∧ 0 < (knL.getD i.val ⟨#[]⟩).size := by decide
theorem kn0_ok : ∀ (i : Fin 4) (j : Fin 2), okQ (sigR (sigL.getD i.val 0) (1 + ((j.val : Nat) : Int))) kn0 = true := by decide +kernel
/-- A query as it is drawn. -/
structure QuD (m : Nat) (q : Qu) : Prop where
  vc : -1 ≤ q.vc ∧ q.vc ≤ m
  n : 1 ≤ q.atoms.length ∧ q.atoms.length ≤ m
  first : 1 ≤ (q.atoms.getD 0 default).l.length
  all : ∀ x ∈ q.atoms, x.l.length ≤ m
  free : q.free.length ≤ m
theorem QuD.ok {m : Nat} {q : Qu} (h : QuD m q) (hm : m ≤ 1000) : q.ok := by
  have h1 := h.n
  have h2 := h.free
  exact ⟨⟨by omega, fun x hx => by have := h.all x hx; unfold RI.ok; omega⟩, by omega⟩
theorem okQ_D {l : List Rel} {s : ByteArray} (h : okQ l s = true) (hs : s.size ≤ 100) (h0 : 0 < s.size) : QuD 100 (parQ l s) := by
  have e : parQ l s = readQ l s := by rw [parQ, if_pos h]
  have hr := readQ_ok (l := l) (show s.size ≤ 1048575 by omega)
  unfold okQ at h
  rw [Bool.and_eq_true, decide_eq_true_iff, decide_eq_true_iff] at h
  have g : goodQu l (readQ l s) = true := by
    rcases g : goodQu l (readQ l s)
    · have := h.2
      rw [quText, g, if_neg (by simp)] at this
      rw [← this] at h0
      exact absurd h0 (by decide)
    · rfl
  rw [e]
  obtain ⟨p1, p2, p3⟩ := goodQu_parts g
  have len : ∀ k, k < (readQ l s).atoms.length → 1 ≤ ((readQ l s).atoms.getD k default).l.length ∧ ((readQ l s).atoms.getD k default).l.length ≤ 3 := by
    intro k hk
    have h3 := goodQu_at g hk
    unfold atomOk relAt at h3
    simp only [Bool.and_eq_true, beq_iff_eq] at h3
    have h4 := inB_of h3.1.1
    have gr : goodRels l = true := by unfold goodQu at g; rw [Bool.and_eq_true] at g; exact g.1
    have h5 := (rel_of gr (show ((readQ l s).atoms.getD k default).r.toNat < l.length by omega)).1
    have h6 := h3.1.2
    omega
  have m0 : ((splS s 63).getD 0 ⟨#[]⟩).size ≤ s.size := splS_mem s 63 _ (mem_getD (⟨#[]⟩ : ByteArray) (by omega))
  refine ⟨by omega, by omega, (len 0 (by omega)).1, fun x hx => ?_, ?_⟩
  · obtain ⟨k, hk, rfl⟩ := List.mem_iff_getElem.mp hx
    have := (len k hk).2
    rw [List.getD_eq_getElem?_getD, List.getElem?_eq_getElem hk] at this
    simp only [Option.getD_some] at this
    omega
  · show (freeT _ _).length ≤ 100
    rw [freeT_len]; omega
theorem sigs_form (c : Cur) : ∃ (i : Fin 4) (j : Fin 2), sigs c = sigR (sigL.getD i.val 0) (1 + ((j.val : Nat) : Int)) :=
  ⟨⟨beV c 4, beV_lt c (by decide)⟩, ⟨beV (byC c) 2, beV_lt (byC c) (by decide)⟩, rfl⟩
theorem l11Known_ex (c0 c : Cur) (hc : c.ok) : ∃ q : Qu, QuD 100 q ∧ Sat Tryz.prog 83 [lCur c, lRels (sigs c0)] [oQu q] [lCur (byC c), g1] := by
  obtain ⟨hk1, hk2⟩ := knL_ok ⟨beV c 10, beV_lt c (by decide)⟩
  simp only at hk1 hk2
  have s0 := l1Pick_own c knL hc (by decide) (by decide)
  have el : knL.length = 10 := rfl
  rw [el] at s0
  have hl := sigs_len c0
  obtain ⟨fi, fj, hf⟩ := sigs_form c0
  have h0 := kn0_ok fi fj
  rw [← hf] at h0
  have eL : (((((((((((List.replicate 10 ByteArray.empty).set 0 ⟨#[63, 114, 120, 124, 121, 32, 115, 121, 124, 122]⟩).set 1 ⟨#[63, 114, 120, 124, 121, 32, 115, 121, 124, 120]⟩).set 2 ⟨#[63, 114, 120, 124, 121, 32, 115, 122, 124, 121]⟩).set 3 ⟨#[63, 114, 120, 124, 121, 32, 115, 120, 124, 122]⟩).set 4 ⟨#[63, 114, 120, 124, 49]⟩).set 5 ⟨#[63, 114, 120, 124, 120]⟩).set 6 ⟨#[63, 114, 120, 124, 121, 32, 115, 121, 124, 49]⟩).set 7 ⟨#[63, 114, 120, 124, 121, 32, 115, 121, 124, 122, 32, 114]⟩).set 8 ⟨#[63, 114, 120, 124, 121]⟩).set 9 ⟨#[63, 114, 120, 124, 122, 32, 115, 121, 124, 122]⟩) = knL := rfl
  generalize sigs c0 = l at hl h0 ⊢
  generalize knL.getD (beV c 10) ⟨#[]⟩ = s at hk1 hk2 s0
  rcases g : okQ l s
  · refine ⟨parQ l kn0, okQ_D h0 (by decide) (by decide), ?_⟩
    refine sat_of_body mixed Tryz.func83 rfl (by kernel_rfl) (by kernel_rfl) (rs := [.cell 4 31]) rfl rfl rfl ?_
    simp -implicitDefEqProofs (maxSteps := 2000000) only [go_sem]
    refine call_of (s0) (by simp -implicitDefEqProofs (maxSteps := 2000000) only [go_sem, eL, el]) (by kernel_rfl) (by simp -implicitDefEqProofs (maxSteps := 2000000) only [go_sem, eL, el]) ?_
    simp -implicitDefEqProofs (maxSteps := 2000000) only [go_sem, eL, el]
    refine call_of (specParseQuery_sat l s (by omega) (by omega)) (by simp -implicitDefEqProofs (maxSteps := 2000000) only [go_sem, g]) (by kernel_rfl) (by simp -implicitDefEqProofs (maxSteps := 2000000) only [go_sem, g]) ?_
    simp -implicitDefEqProofs (maxSteps := 2000000) only [go_sem, g]
    refine call_of (specParseQuery_sat l kn0 (by omega) (by decide)) (by simp -implicitDefEqProofs (maxSteps := 2000000) only [go_sem] <;> and_intros <;> rfl) (by kernel_rfl) (by simp -implicitDefEqProofs (maxSteps := 2000000) only [go_sem]) ?_
    simp -implicitDefEqProofs (maxSteps := 2000000) only [go_sem]
    and_intros <;> rfl
  · refine ⟨parQ l s, okQ_D g hk1 hk2, ?_⟩
    refine sat_of_body mixed Tryz.func83 rfl (by kernel_rfl) (by kernel_rfl) (rs := [.cell 4 31]) rfl rfl rfl ?_
    simp -implicitDefEqProofs (maxSteps := 2000000) only [go_sem]
    refine call_of (s0) (by simp -implicitDefEqProofs (maxSteps := 2000000) only [go_sem, eL, el]) (by kernel_rfl) (by simp -implicitDefEqProofs (maxSteps := 2000000) only [go_sem, eL, el]) ?_
    simp -implicitDefEqProofs (maxSteps := 2000000) only [go_sem, eL, el]
    refine call_of (specParseQuery_sat l s (by omega) (by omega)) (by simp -implicitDefEqProofs (maxSteps := 2000000) only [go_sem, g]) (by kernel_rfl) (by simp -implicitDefEqProofs (maxSteps := 2000000) only [go_sem, g]) ?_
    simp -implicitDefEqProofs (maxSteps := 2000000) only [go_sem, g]
    and_intros <;> rfl
end Go.Proofs.YtedciihjgbkjgabGreat.A


/- QUERIES DRAWN, with free variables. Conditions: none. -/
namespace Go.Proofs.YtedciihjgbkjgabGreat.A
open Go
set_option linter.unusedSimpArgs false
set_option linter.unusedVariables false
set_option maxRecDepth 100000

def frD (c : Cur) : Nat → List Int × Cur
  | 0 => ([], c)
  | k + 1 => (if onV (frD c k).2 3 then (frD c k).1 ++ [(k : Int)] else (frD c k).1, byC (frD c k).2)
theorem frD_ok {c : Cur} (h : c.ok) : ∀ k, (frD c k).2.ok ∧ (frD c k).1.length ≤ k
  | 0 => ⟨h, Nat.le_refl _⟩
  | k + 1 => by
    obtain ⟨h1, h2⟩ := frD_ok h k
    refine ⟨byC_ok h1, ?_⟩
    show (if onV (frD c k).2 3 then (frD c k).1 ++ [(k : Int)] else (frD c k).1).length ≤ k + 1
    split
    · rw [List.length_append, List.length_singleton]; omega
    · omega
theorem QuD.more {m n : Nat} {q : Qu} (h : QuD m q) (hm : m ≤ n) : QuD n q := by
  have h1 := h.vc
  have h2 := h.n
  have h3 := h.free
  exact ⟨by omega, by omega, h.first, fun x hx => by have := h.all x hx; omega, by omega⟩
theorem tight_D (c : Cur) (hc : c.ok) : QuD 100 (tightQ ⟨0, (qryA c).1, []⟩) ∧ (qryA c).2.ok := by
  have b := beV_lt c (n := 3) (by decide)
  have hl : (qryA c).1.length = 1 + beV c 3 := atsD_len _ _ _ _
  have hm : ∀ x ∈ (qryA c).1, 2 ≤ x.l.length ∧ x.l.length ≤ 3 := fun x hx => atsD_mem x hx
  refine ⟨?_, atsD_ok (byC_ok (byC_ok (byC_ok hc))) _ _ _⟩
  generalize (qryA c).1 = X at hl hm
  have hM : ∀ i : Nat, (X.getD i default).l.length ≤ 3 := getD_le (fun x hx => (hm x hx).2)
  obtain ⟨⟨t1, t2⟩, t3⟩ := tgAll_ok hM X.length
  have t4 : X.length * 3 ≤ 9 := by omega
  unfold tightQ
  refine ⟨by simp only; omega, by simp only; omega, ?_, fun x hx => ?_, by simp⟩
  · simp only
    rw [t2 0]
    have := (hm _ (mem_getD default (show 0 < X.length by omega))).1
    omega
  · obtain ⟨k, hk, rfl⟩ := List.mem_iff_getElem.mp hx
    have := t2 k
    rw [List.getD_eq_getElem?_getD, List.getElem?_eq_getElem hk, Option.getD_some] at this
    rw [this]
    have := hM k
    omega
set_option maxHeartbeats 8000000 in
theorem l11Draw_ex (c0 c : Cur) (hc : c.ok) : ∃ (q : Qu) (c' : Cur), QuD 200 q ∧ c'.ok ∧ Sat Tryz.prog 54 [lCur c, lRels (sigs c0)] [oQu q] [lCur c', g1] := by
  have s0 := l11Query_sat c hc
  obtain ⟨hq0, k1⟩ := tight_D c hc
  generalize tightQ ⟨0, (qryA c).1, []⟩ = q0 at s0 hq0
  generalize (qryA c).2 = c1 at s0 k1
  have kb := byC_ok k1
  rcases d3 : onV c1 3
  · obtain ⟨c2, e2⟩ : ∃ c2, c2 = byC c1 := ⟨_, rfl⟩
    obtain ⟨q, eq⟩ : ∃ q, q = q0 := ⟨_, rfl⟩
    have k2 : c2.ok := by rw [e2]; exact kb
    have hq : QuD 100 q := by rw [eq]; exact hq0
    subst e2 eq
    rcases d4 : onV (byC c1) 4
    · have d4 : onV (byC c1) 4 = false := d4
      refine ⟨q, byC (byC c1), hq.more (by decide), byC_ok k2, ?_⟩
      refine sat_of_body mixed Tryz.func54 rfl (by kernel_rfl) (by kernel_rfl) (rs := [.cell 4 31]) rfl rfl rfl ?_
      simp -implicitDefEqProofs (maxSteps := 2000000) only [go_sem]
      refine call_of (s0) (by simp -implicitDefEqProofs (maxSteps := 2000000) only [go_sem]) (by kernel_rfl) (by simp -implicitDefEqProofs (maxSteps := 2000000) only [go_sem]) ?_
      simp -implicitDefEqProofs (maxSteps := 2000000) only [go_sem]
      refine call_of (l1Once_sat c1 3 k1 (by decide) (by decide)) (by simp -implicitDefEqProofs (maxSteps := 2000000) only [go_sem, d3] <;> and_intros <;> rfl) (by kernel_rfl) (by simp -implicitDefEqProofs (maxSteps := 2000000) only [go_sem, d3]) ?_
      simp -implicitDefEqProofs (maxSteps := 2000000) only [go_sem, d3]
      refine call_of (l1Once_sat (byC c1) 4 k2 (by decide) (by decide)) (by simp -implicitDefEqProofs (maxSteps := 2000000) only [go_sem, d4] <;> and_intros <;> rfl) (by kernel_rfl) (by simp -implicitDefEqProofs (maxSteps := 2000000) only [go_sem, d4]) ?_
      simp -implicitDefEqProofs (maxSteps := 2000000) only [go_sem, d4]
      and_intros <;> rfl
    · have d4 : onV (byC c1) 4 = true := d4
      have hF := frD_ok (byC_ok k2)
      obtain ⟨N, hN⟩ : ∃ N : Nat, N = q.vc.toNat := ⟨_, rfl⟩
      have hvc := hq.vc
      have hfr := hq.free
      have hna := hq.n
      obtain ⟨o1, o2⟩ := hF N
      refine ⟨⟨q.vc, q.atoms, q.free ++ (frD (byC (byC c1)) N).1⟩, (frD (byC (byC c1)) N).2, ⟨by simp only; omega, by simp only; omega, hq.first, (hq.more (by decide)).all, by simp only [List.length_append]; omega⟩, o1, ?_⟩
      refine sat_of_body mixed Tryz.func54 rfl (by kernel_rfl) (by kernel_rfl) (rs := [.cell 4 31]) rfl rfl rfl ?_
      simp -implicitDefEqProofs (maxSteps := 2000000) only [go_sem]
      refine call_of (s0) (by simp -implicitDefEqProofs (maxSteps := 2000000) only [go_sem]) (by kernel_rfl) (by simp -implicitDefEqProofs (maxSteps := 2000000) only [go_sem]) ?_
      simp -implicitDefEqProofs (maxSteps := 2000000) only [go_sem]
      refine call_of (l1Once_sat c1 3 k1 (by decide) (by decide)) (by simp -implicitDefEqProofs (maxSteps := 2000000) only [go_sem, d3] <;> and_intros <;> rfl) (by kernel_rfl) (by simp -implicitDefEqProofs (maxSteps := 2000000) only [go_sem, d3]) ?_
      simp -implicitDefEqProofs (maxSteps := 2000000) only [go_sem, d3]
      refine call_of (l1Once_sat (byC c1) 4 k2 (by decide) (by decide)) (by simp -implicitDefEqProofs (maxSteps := 2000000) only [go_sem, d4] <;> and_intros <;> rfl) (by kernel_rfl) (by simp -implicitDefEqProofs (maxSteps := 2000000) only [go_sem, d4]) ?_
      simp -implicitDefEqProofs (maxSteps := 2000000) only [go_sem, d4]
      refine awp_loop Nat (fun k => mkSt [(0, .one (.vad 0 0)), (4, .one (.vad 1000 0)), (5, .one (.vad 1192 0)), (6, .sc (.int .i64 k))] [(0, sCur (frD (byC (byC c1)) k).2), (1000, zQ2), (1192, [.sc (.int .i64 q.vc), .ref 960 2 0 q.atoms.length, .ref 961 1 0 (q.free.length + (frD (byC (byC c1)) k).1.length)])] [(960, (2, ris 999 q.atoms)), (961, (1, ints (q.free ++ (frD (byC (byC c1)) k).1)))] 12000)
        (fun k => k ≤ N) (fun k => N - k) 0 (by omega) (le_st' _ _ [⟨960, some _, false, 2, _⟩, ⟨961, some _, false, 1, _⟩] [] _ (by simp -implicitDefEqProofs (maxSteps := 2000000) only [go_sem, frD, List.length_nil, List.append_nil, Nat.add_zero] <;> and_intros <;> rfl) (by simp -implicitDefEqProofs (maxSteps := 2000000) only [go_sem, frD, List.length_nil, List.append_nil, Nat.add_zero] <;> and_intros <;> rfl) (by simp -implicitDefEqProofs (maxSteps := 2000000) only [go_sem, frD, List.length_nil, List.append_nil, Nat.add_zero] <;> and_intros <;> rfl) (by rfl)) ?_
      rintro k h1
      obtain ⟨m1, m2⟩ := hF k
      by_cases c5 : k < N
      · have d5 : decide (((k : Nat) : Int) < q.vc) = true := decide_eq_true (by omega)
        have wk : IntKind.i64.wrap ((k : Int) + 1) = ((k + 1 : Nat) : Int) := i64_succ (by omega)
        rcases d6 : onV (frD (byC (byC c1)) k).2 3
        · have e1 : frD (byC (byC c1)) (k + 1) = ((frD (byC (byC c1)) k).1, byC (frD (byC (byC c1)) k).2) := by rw [frD, d6]; rfl
          simp -implicitDefEqProofs (maxSteps := 2000000) only [go_sem, d5]
          refine call_of (l1Once_sat (frD (byC (byC c1)) k).2 3 m1 (by decide) (by decide)) (by simp -implicitDefEqProofs (maxSteps := 2000000) only [go_sem, d6] <;> and_intros <;> rfl) (by kernel_rfl) (by simp -implicitDefEqProofs (maxSteps := 2000000) only [go_sem, d6]) ?_
          simp -implicitDefEqProofs (maxSteps := 2000000) only [go_sem, d6]
          rw [wk]
          exact ⟨k + 1, c5, by omega, (le_st' _ _ [⟨960, some _, false, 2, _⟩, ⟨961, some _, false, 1, _⟩] [] _ (by simp -implicitDefEqProofs (maxSteps := 2000000) only [go_sem, e1] <;> and_intros <;> rfl) (by simp -implicitDefEqProofs (maxSteps := 2000000) only [go_sem, e1] <;> and_intros <;> rfl) (by simp -implicitDefEqProofs (maxSteps := 2000000) only [go_sem, e1] <;> and_intros <;> rfl) (by rfl))⟩
        · have e1 : frD (byC (byC c1)) (k + 1) = ((frD (byC (byC c1)) k).1 ++ [(k : Int)], byC (frD (byC (byC c1)) k).2) := by rw [frD, d6]; rfl
          have et : List.take (q.free.length + (frD (byC (byC c1)) k).1.length) (q.free ++ (frD (byC (byC c1)) k).1) = q.free ++ (frD (byC (byC c1)) k).1 := List.take_of_length_le (by rw [List.length_append]; exact Nat.le_refl _)
          simp -implicitDefEqProofs (maxSteps := 2000000) only [go_sem, d5]
          refine call_of (l1Once_sat (frD (byC (byC c1)) k).2 3 m1 (by decide) (by decide)) (by simp -implicitDefEqProofs (maxSteps := 2000000) only [go_sem, d6, et] <;> and_intros <;> rfl) (by kernel_rfl) (by simp -implicitDefEqProofs (maxSteps := 2000000) only [go_sem, d6, et]) ?_
          simp -implicitDefEqProofs (maxSteps := 2000000) only [go_sem, d6, et]
          repeat (refine And.intro (by omega) ?_)
          rw [wk]
          refine ⟨k + 1, c5, by omega, ?_⟩
          exact (le_st' _ _ [⟨960, some _, false, 2, _⟩, ⟨961, some _, false, 1, _⟩] [] _ (by simp -implicitDefEqProofs (maxSteps := 2000000) only [go_sem, e1, et, List.append_assoc, Nat.add_assoc, repP, List.set_cons_zero, List.length_append, List.length_singleton] <;> and_intros <;> rfl) (by simp -implicitDefEqProofs (maxSteps := 2000000) only [go_sem, e1, et, List.append_assoc, Nat.add_assoc, repP, List.set_cons_zero, List.length_append, List.length_singleton] <;> and_intros <;> rfl) (by simp -implicitDefEqProofs (maxSteps := 2000000) only [go_sem, e1, et, List.append_assoc, Nat.add_assoc, repP, List.set_cons_zero, List.length_append, List.length_singleton] <;> and_intros <;> rfl) (by rfl))
      · obtain rfl : k = N := by omega
        have d5 : decide (((k : Nat) : Int) < q.vc) = false := decide_eq_false (by omega)
        simp -implicitDefEqProofs (maxSteps := 2000000) only [go_sem, d5]
        and_intros <;> first | rfl | (rw [List.length_append])
  · obtain ⟨q, hq, s1⟩ := l11Known_ex c0 (byC c1) kb
    have k2 := byC_ok kb
    rcases d4 : onV (byC (byC c1)) 4
    · have d4 : onV (byC (byC c1)) 4 = false := d4
      refine ⟨q, byC (byC (byC c1)), hq.more (by decide), byC_ok k2, ?_⟩
      refine sat_of_body mixed Tryz.func54 rfl (by kernel_rfl) (by kernel_rfl) (rs := [.cell 4 31]) rfl rfl rfl ?_
      simp -implicitDefEqProofs (maxSteps := 2000000) only [go_sem]
      refine call_of (s0) (by simp -implicitDefEqProofs (maxSteps := 2000000) only [go_sem]) (by kernel_rfl) (by simp -implicitDefEqProofs (maxSteps := 2000000) only [go_sem]) ?_
      simp -implicitDefEqProofs (maxSteps := 2000000) only [go_sem]
      refine call_of (l1Once_sat c1 3 k1 (by decide) (by decide)) (by simp -implicitDefEqProofs (maxSteps := 2000000) only [go_sem, d3] <;> and_intros <;> rfl) (by kernel_rfl) (by simp -implicitDefEqProofs (maxSteps := 2000000) only [go_sem, d3]) ?_
      simp -implicitDefEqProofs (maxSteps := 2000000) only [go_sem, d3]
      refine call_of (s1) ?_ ?_ ?_ ?_
      · simp -implicitDefEqProofs (maxSteps := 2000000) only [go_sem]
      · kernel_rfl
      · simp -implicitDefEqProofs (maxSteps := 2000000) only [go_sem]
      simp -implicitDefEqProofs (maxSteps := 2000000) only [go_sem]
      refine call_of (l1Once_sat (byC (byC c1)) 4 k2 (by decide) (by decide)) (by simp -implicitDefEqProofs (maxSteps := 2000000) only [go_sem, d4] <;> and_intros <;> rfl) (by kernel_rfl) (by simp -implicitDefEqProofs (maxSteps := 2000000) only [go_sem, d4]) ?_
      simp -implicitDefEqProofs (maxSteps := 2000000) only [go_sem, d4]
      and_intros <;> rfl
    · have d4 : onV (byC (byC c1)) 4 = true := d4
      have hF := frD_ok (byC_ok k2)
      obtain ⟨N, hN⟩ : ∃ N : Nat, N = q.vc.toNat := ⟨_, rfl⟩
      have hvc := hq.vc
      have hfr := hq.free
      have hna := hq.n
      obtain ⟨o1, o2⟩ := hF N
      refine ⟨⟨q.vc, q.atoms, q.free ++ (frD (byC (byC (byC c1))) N).1⟩, (frD (byC (byC (byC c1))) N).2, ⟨by simp only; omega, by simp only; omega, hq.first, (hq.more (by decide)).all, by simp only [List.length_append]; omega⟩, o1, ?_⟩
      refine sat_of_body mixed Tryz.func54 rfl (by kernel_rfl) (by kernel_rfl) (rs := [.cell 4 31]) rfl rfl rfl ?_
      simp -implicitDefEqProofs (maxSteps := 2000000) only [go_sem]
      refine call_of (s0) (by simp -implicitDefEqProofs (maxSteps := 2000000) only [go_sem]) (by kernel_rfl) (by simp -implicitDefEqProofs (maxSteps := 2000000) only [go_sem]) ?_
      simp -implicitDefEqProofs (maxSteps := 2000000) only [go_sem]
      refine call_of (l1Once_sat c1 3 k1 (by decide) (by decide)) (by simp -implicitDefEqProofs (maxSteps := 2000000) only [go_sem, d3] <;> and_intros <;> rfl) (by kernel_rfl) (by simp -implicitDefEqProofs (maxSteps := 2000000) only [go_sem, d3]) ?_
      simp -implicitDefEqProofs (maxSteps := 2000000) only [go_sem, d3]
      refine call_of (s1) ?_ ?_ ?_ ?_
      · simp -implicitDefEqProofs (maxSteps := 2000000) only [go_sem]
      · kernel_rfl
      · simp -implicitDefEqProofs (maxSteps := 2000000) only [go_sem]
      simp -implicitDefEqProofs (maxSteps := 2000000) only [go_sem]
      refine call_of (l1Once_sat (byC (byC c1)) 4 k2 (by decide) (by decide)) (by simp -implicitDefEqProofs (maxSteps := 2000000) only [go_sem, d4] <;> and_intros <;> rfl) (by kernel_rfl) (by simp -implicitDefEqProofs (maxSteps := 2000000) only [go_sem, d4]) ?_
      simp -implicitDefEqProofs (maxSteps := 2000000) only [go_sem, d4]
      refine awp_loop Nat (fun k => mkSt [(0, .one (.vad 0 0)), (4, .one (.vad 1000 0)), (5, .one (.vad 1192 0)), (6, .sc (.int .i64 k))] [(0, sCur (frD (byC (byC (byC c1))) k).2), (1000, zQ2), (1192, [.sc (.int .i64 q.vc), .ref 960 2 0 q.atoms.length, .ref 961 1 0 (q.free.length + (frD (byC (byC (byC c1))) k).1.length)])] [(960, (2, ris 999 q.atoms)), (961, (1, ints (q.free ++ (frD (byC (byC (byC c1))) k).1)))] 12000)
        (fun k => k ≤ N) (fun k => N - k) 0 (by omega) (le_st' _ _ [⟨960, some _, false, 2, _⟩, ⟨961, some _, false, 1, _⟩] [] _ (by simp -implicitDefEqProofs (maxSteps := 2000000) only [go_sem, frD, List.length_nil, List.append_nil, Nat.add_zero] <;> and_intros <;> rfl) (by simp -implicitDefEqProofs (maxSteps := 2000000) only [go_sem, frD, List.length_nil, List.append_nil, Nat.add_zero] <;> and_intros <;> rfl) (by simp -implicitDefEqProofs (maxSteps := 2000000) only [go_sem, frD, List.length_nil, List.append_nil, Nat.add_zero] <;> and_intros <;> rfl) (by rfl)) ?_
      rintro k h1
      obtain ⟨m1, m2⟩ := hF k
      by_cases c5 : k < N
      · have d5 : decide (((k : Nat) : Int) < q.vc) = true := decide_eq_true (by omega)
        have wk : IntKind.i64.wrap ((k : Int) + 1) = ((k + 1 : Nat) : Int) := i64_succ (by omega)
        rcases d6 : onV (frD (byC (byC (byC c1))) k).2 3
        · have e1 : frD (byC (byC (byC c1))) (k + 1) = ((frD (byC (byC (byC c1))) k).1, byC (frD (byC (byC (byC c1))) k).2) := by rw [frD, d6]; rfl
          simp -implicitDefEqProofs (maxSteps := 2000000) only [go_sem, d5]
          refine call_of (l1Once_sat (frD (byC (byC (byC c1))) k).2 3 m1 (by decide) (by decide)) (by simp -implicitDefEqProofs (maxSteps := 2000000) only [go_sem, d6] <;> and_intros <;> rfl) (by kernel_rfl) (by simp -implicitDefEqProofs (maxSteps := 2000000) only [go_sem, d6]) ?_
          simp -implicitDefEqProofs (maxSteps := 2000000) only [go_sem, d6]
          rw [wk]
          exact ⟨k + 1, c5, by omega, (le_st' _ _ [⟨960, some _, false, 2, _⟩, ⟨961, some _, false, 1, _⟩] [] _ (by simp -implicitDefEqProofs (maxSteps := 2000000) only [go_sem, e1] <;> and_intros <;> rfl) (by simp -implicitDefEqProofs (maxSteps := 2000000) only [go_sem, e1] <;> and_intros <;> rfl) (by simp -implicitDefEqProofs (maxSteps := 2000000) only [go_sem, e1] <;> and_intros <;> rfl) (by rfl))⟩
        · have e1 : frD (byC (byC (byC c1))) (k + 1) = ((frD (byC (byC (byC c1))) k).1 ++ [(k : Int)], byC (frD (byC (byC (byC c1))) k).2) := by rw [frD, d6]; rfl
          have et : List.take (q.free.length + (frD (byC (byC (byC c1))) k).1.length) (q.free ++ (frD (byC (byC (byC c1))) k).1) = q.free ++ (frD (byC (byC (byC c1))) k).1 := List.take_of_length_le (by rw [List.length_append]; exact Nat.le_refl _)
          simp -implicitDefEqProofs (maxSteps := 2000000) only [go_sem, d5]
          refine call_of (l1Once_sat (frD (byC (byC (byC c1))) k).2 3 m1 (by decide) (by decide)) (by simp -implicitDefEqProofs (maxSteps := 2000000) only [go_sem, d6, et] <;> and_intros <;> rfl) (by kernel_rfl) (by simp -implicitDefEqProofs (maxSteps := 2000000) only [go_sem, d6, et]) ?_
          simp -implicitDefEqProofs (maxSteps := 2000000) only [go_sem, d6, et]
          repeat (refine And.intro (by omega) ?_)
          rw [wk]
          refine ⟨k + 1, c5, by omega, ?_⟩
          exact (le_st' _ _ [⟨960, some _, false, 2, _⟩, ⟨961, some _, false, 1, _⟩] [] _ (by simp -implicitDefEqProofs (maxSteps := 2000000) only [go_sem, e1, et, List.append_assoc, Nat.add_assoc, repP, List.set_cons_zero, List.length_append, List.length_singleton] <;> and_intros <;> rfl) (by simp -implicitDefEqProofs (maxSteps := 2000000) only [go_sem, e1, et, List.append_assoc, Nat.add_assoc, repP, List.set_cons_zero, List.length_append, List.length_singleton] <;> and_intros <;> rfl) (by simp -implicitDefEqProofs (maxSteps := 2000000) only [go_sem, e1, et, List.append_assoc, Nat.add_assoc, repP, List.set_cons_zero, List.length_append, List.length_singleton] <;> and_intros <;> rfl) (by rfl))
      · obtain rfl : k = N := by omega
        have d5 : decide (((k : Nat) : Int) < q.vc) = false := decide_eq_false (by omega)
        simp -implicitDefEqProofs (maxSteps := 2000000) only [go_sem, d5]
        and_intros <;> first | rfl | (rw [List.length_append])
end Go.Proofs.YtedciihjgbkjgabGreat.A


/- QUERIES DRAWN, spoilt now and then. Conditions: none. -/
namespace Go.Proofs.YtedciihjgbkjgabGreat.A
open Go
set_option linter.unusedSimpArgs false
set_option linter.unusedVariables false
set_option maxRecDepth 100000

theorem idxA_rin {st : St} {K : Eff → Prop} {e id i j s off len k : Nat} : idxA st e (.rin id i j s off len) k K = idxJ e (st.objs id) id i j s off len k K := by
  simp only [idxA, idxJ, Rows.cell]
  rcases st.objs id with _ | ⟨w, rows⟩
  · rfl
  · simp only
    rcases (List.getD rows i []).getD j .gone with _ | ⟨s', xs⟩ | _ <;> rfl
attribute [go_sem] idxA_rin
theorem rst_2s (s t : Nat) (a b : List RI) : rst (ris (s + 1) a ++ ris (t + 1) b) = ris 1 (a ++ b) := by
  have e : ∀ x y : Rows, rst (x ++ y) = rst x ++ rst y := fun x y => by simp [rst]
  rw [e, ris_rst s, ris_rst t, ris_append]
set_option maxHeartbeats 8000000 in
theorem l11Any_ex (c0 c : Cur) (hc : c.ok) : ∃ (q : Qu) (c' : Cur), QuD 201 q ∧ c'.ok ∧ Sat Tryz.prog 56 [lCur c, lRels (sigs c0)] [oQu q] [lCur c', g1] := by
  obtain ⟨q, c1, hq, k1, s0⟩ := l11Draw_ex c0 c hc
  have hv := hq.vc
  have hn := hq.n
  have hf := hq.free
  have h1 := hq.first
  have ha := hq.all
  have hm := hq.more (show 200 ≤ 201 by decide)
  rcases q with ⟨vc, ats, fr⟩
  simp only at hv hn hf h1 ha
  have k2 := byC_ok k1
  have ht := beV_lt c1 (n := 14) (by decide)
  by_cases t0 : beV c1 14 = 0
  · have d0 : (((beV c1 14 : Nat) : Int) == 0) = true := by rw [t0]; rfl
    have w1 : IntKind.i64.wrap (vc + 1) = vc + 1 := IntWalk.i64_in _ (by omega)
    have eL : ((((List.replicate 3 (0 : Int)).set 0 (-1)).set 1 (vc + 1)).set 2 5) = [-1, vc + 1, 5] := rfl
    have hb := mem_getD (l := ([-1, vc + 1, 5] : List Int)) 0 (beV_lt (byC c1) (n := 3) (by decide))
    refine ⟨⟨([-1, vc + 1, 5] : List Int).getD (beV (byC c1) 3) 0, ats, fr⟩, byC (byC c1), ⟨?_, by simp only; omega, h1, hm.all, by simp only; omega⟩, byC_ok k2, ?_⟩
    · simp only
      generalize ([-1, vc + 1, 5] : List Int).getD (beV (byC c1) 3) 0 = z at hb
      simp only [List.mem_cons, List.not_mem_nil, or_false] at hb
      omega
    refine sat_of_body mixed Tryz.func56 rfl (by kernel_rfl) (by kernel_rfl) (rs := [.cell 4 31]) rfl rfl rfl ?_
    simp -implicitDefEqProofs (maxSteps := 2000000) only [go_sem]
    refine call_of (s0) ?_ ?_ ?_ ?_
    · simp -implicitDefEqProofs (maxSteps := 2000000) only [go_sem]
    · kernel_rfl
    · simp -implicitDefEqProofs (maxSteps := 2000000) only [go_sem]
    simp -implicitDefEqProofs (maxSteps := 2000000) only [go_sem]
    refine call_of (l1Below_sat c1 14 k1 (by decide) (by decide)) (by simp -implicitDefEqProofs (maxSteps := 2000000) only [go_sem, d0, w1] <;> and_intros <;> rfl) (by kernel_rfl) (by simp -implicitDefEqProofs (maxSteps := 2000000) only [go_sem, d0, w1]) ?_
    simp -implicitDefEqProofs (maxSteps := 2000000) only [go_sem, d0, w1]
    refine call_of (l1PickInt_own (byC c1) [-1, vc + 1, 5] k2 (by simp) (by simp)) (by simp -implicitDefEqProofs (maxSteps := 2000000) only [go_sem, eL]) (by kernel_rfl) (by simp -implicitDefEqProofs (maxSteps := 2000000) only [go_sem, eL]) ?_
    simp -implicitDefEqProofs (maxSteps := 2000000) only [go_sem, eL]
    and_intros <;> rfl
  have d0 : (((beV c1 14 : Nat) : Int) == 0) = false := by rw [beq_eq_false_iff_ne]; omega
  by_cases t1 : beV c1 14 = 1
  · have d1 : (((beV c1 14 : Nat) : Int) == 1) = true := by rw [t1]; rfl
    have b3 := beV_lt (byC c1) (n := 6) (by decide)
    have w3 : IntKind.i64.wrap (((beV (byC c1) 6 : Nat) : Int) - 1) = ((beV (byC c1) 6 : Nat) : Int) - 1 := IntWalk.i64_in _ (by omega)
    have eL : ((List.replicate 2 (0 : Int)).set 0 0).set 1 0 = [0, 0] := rfl
    refine ⟨⟨vc, ats ++ [⟨((beV (byC c1) 6 : Nat) : Int) - 1, [0, 0]⟩], fr⟩, byC (byC c1), ⟨by simp only; omega, by simp only [List.length_append, List.length_singleton]; omega, ?_, fun x hx => ?_, by simp only; omega⟩, byC_ok k2, ?_⟩
    · simp only
      rw [List.getD_eq_getElem?_getD, List.getElem?_append_left (by omega), ← List.getD_eq_getElem?_getD]; exact h1
    · rcases List.mem_append.mp hx with hx | hx
      · have := ha x hx; omega
      · rw [List.mem_singleton.mp hx]; simp
    refine sat_of_body mixed Tryz.func56 rfl (by kernel_rfl) (by kernel_rfl) (rs := [.cell 4 31]) rfl rfl rfl ?_
    simp -implicitDefEqProofs (maxSteps := 2000000) only [go_sem]
    refine call_of (s0) ?_ ?_ ?_ ?_
    · simp -implicitDefEqProofs (maxSteps := 2000000) only [go_sem]
    · kernel_rfl
    · simp -implicitDefEqProofs (maxSteps := 2000000) only [go_sem]
    simp -implicitDefEqProofs (maxSteps := 2000000) only [go_sem]
    refine call_of (l1Below_sat c1 14 k1 (by decide) (by decide)) (by simp -implicitDefEqProofs (maxSteps := 2000000) only [go_sem, d0, d1] <;> and_intros <;> rfl) (by kernel_rfl) (by simp -implicitDefEqProofs (maxSteps := 2000000) only [go_sem, d0, d1]) ?_
    simp -implicitDefEqProofs (maxSteps := 2000000) only [go_sem, d0, d1]
    refine call_of (l1Below_sat (byC c1) 6 k2 (by decide) (by decide)) (by simp -implicitDefEqProofs (maxSteps := 2000000) only [go_sem, w3, eL] <;> and_intros <;> rfl) (by kernel_rfl) (by simp -implicitDefEqProofs (maxSteps := 2000000) only [go_sem, w3, eL]) ?_
    simp -implicitDefEqProofs (maxSteps := 2000000) only [go_sem, w3, eL]
    repeat (refine And.intro (by omega) ?_)
    first | (with_reducible refine tr_and ?_ ?_; focus kernel_rfl) | (with_reducible refine tr_only ?_; kernel_rfl) | skip
    and_intros <;> first | rfl | exact (rst_2s 0 _ ats _).symm
  have d1 : (((beV c1 14 : Nat) : Int) == 1) = false := by rw [beq_eq_false_iff_ne]; omega
  by_cases t2 : beV c1 14 = 2
  · have d2 : (((beV c1 14 : Nat) : Int) == 2) = true := by rw [t2]; rfl
    have eL : (((List.replicate 3 (0 : Int)).set 0 (-11)).set 1 4).set 2 3 = [-11, 4, 3] := rfl
    have hv0 : (0 : Int) < ats.length := by omega
    have hv1 : 0 < ats.length := by omega
    have hw0 : (0 : Int) < (ats.getD 0 default).l.length := by omega
    have hw1 : 0 < (ats.getD 0 default).l.length := by omega
    refine ⟨⟨vc, ats.set 0 ⟨(ats.getD 0 default).r, (ats.getD 0 default).l.set 0 (([-11, 4, 3] : List Int).getD (beV (byC c1) 3) 0)⟩, fr⟩, byC (byC c1), ⟨by simp only; omega, by simp only [List.length_set]; omega, ?_, fun x hx => ?_, by simp only; omega⟩, byC_ok k2, ?_⟩
    · simp only
      rw [getD_set_same hv1]; simp only [List.length_set]; exact h1
    · rcases List.mem_or_eq_of_mem_set hx with hx | rfl
      · have := ha x hx; omega
      · have := ha _ (mem_getD default hv1); simp only [List.length_set]; omega
    refine sat_of_body mixed Tryz.func56 rfl (by kernel_rfl) (by kernel_rfl) (rs := [.cell 4 31]) rfl rfl rfl ?_
    simp -implicitDefEqProofs (maxSteps := 2000000) only [go_sem]
    refine call_of (s0) ?_ ?_ ?_ ?_
    · simp -implicitDefEqProofs (maxSteps := 2000000) only [go_sem]
    · kernel_rfl
    · simp -implicitDefEqProofs (maxSteps := 2000000) only [go_sem]
    simp -implicitDefEqProofs (maxSteps := 2000000) only [go_sem]
    refine call_of (l1Below_sat c1 14 k1 (by decide) (by decide)) (by simp -implicitDefEqProofs (maxSteps := 2000000) only [go_sem, d0, d1, d2, hv0, hv1] <;> and_intros <;> rfl) (by kernel_rfl) (by simp -implicitDefEqProofs (maxSteps := 2000000) only [go_sem, d0, d1, d2, hv0, hv1]) ?_
    simp -implicitDefEqProofs (maxSteps := 2000000) only [go_sem, d0, d1, d2, hv0, hv1]
    refine call_of (l1PickInt_own (byC c1) [-11, 4, 3] k2 (by decide) (by decide)) (by simp -implicitDefEqProofs (maxSteps := 2000000) only [go_sem, eL, hv0, hv1, hw0, hw1]) (by kernel_rfl) (by simp -implicitDefEqProofs (maxSteps := 2000000) only [go_sem, eL, hv0, hv1, hw0, hw1]) ?_
    simp -implicitDefEqProofs (maxSteps := 2000000) only [go_sem, eL, hv0, hv1, hw0, hw1]
    refine And.intro (by decide) ?_
    simp -implicitDefEqProofs (maxSteps := 2000000) only [go_sem, hv0, hv1, hw0, hw1]
    first | (with_reducible refine tr_and ?_ ?_; focus kernel_rfl) | (with_reducible refine tr_only ?_; kernel_rfl) | skip
    and_intros <;> rfl
  have d2 : (((beV c1 14 : Nat) : Int) == 2) = false := by rw [beq_eq_false_iff_ne]; omega
  by_cases t3 : beV c1 14 = 3
  · have d3 : (((beV c1 14 : Nat) : Int) == 3) = true := by rw [t3]; rfl
    refine ⟨⟨vc, ats, fr ++ [((beV (byC c1) 5 : Nat) : Int)]⟩, byC (byC c1), ⟨by simp only; omega, by simp only; omega, h1, hm.all, by simp only [List.length_append, List.length_singleton]; omega⟩, byC_ok k2, ?_⟩
    refine sat_of_body mixed Tryz.func56 rfl (by kernel_rfl) (by kernel_rfl) (rs := [.cell 4 31]) rfl rfl rfl ?_
    simp -implicitDefEqProofs (maxSteps := 2000000) only [go_sem]
    refine call_of (s0) ?_ ?_ ?_ ?_
    · simp -implicitDefEqProofs (maxSteps := 2000000) only [go_sem]
    · kernel_rfl
    · simp -implicitDefEqProofs (maxSteps := 2000000) only [go_sem]
    simp -implicitDefEqProofs (maxSteps := 2000000) only [go_sem]
    refine call_of (l1Below_sat c1 14 k1 (by decide) (by decide)) (by simp -implicitDefEqProofs (maxSteps := 2000000) only [go_sem, d0, d1, d2, d3] <;> and_intros <;> rfl) (by kernel_rfl) (by simp -implicitDefEqProofs (maxSteps := 2000000) only [go_sem, d0, d1, d2, d3]) ?_
    simp -implicitDefEqProofs (maxSteps := 2000000) only [go_sem, d0, d1, d2, d3]
    refine call_of (l1Below_sat (byC c1) 5 k2 (by decide) (by decide)) (by simp -implicitDefEqProofs (maxSteps := 2000000) only [go_sem] <;> and_intros <;> rfl) (by kernel_rfl) (by simp -implicitDefEqProofs (maxSteps := 2000000) only [go_sem]) ?_
    simp -implicitDefEqProofs (maxSteps := 2000000) only [go_sem]
    repeat (refine And.intro (by omega) ?_)
    first | (with_reducible refine tr_and ?_ ?_; focus kernel_rfl) | (with_reducible refine tr_only ?_; kernel_rfl) | skip
    and_intros <;> rfl
  · have d3 : (((beV c1 14 : Nat) : Int) == 3) = false := by rw [beq_eq_false_iff_ne]; omega
    refine ⟨⟨vc, ats, fr⟩, byC c1, hm, k2, ?_⟩
    refine sat_of_body mixed Tryz.func56 rfl (by kernel_rfl) (by kernel_rfl) (rs := [.cell 4 31]) rfl rfl rfl ?_
    simp -implicitDefEqProofs (maxSteps := 2000000) only [go_sem]
    refine call_of (s0) ?_ ?_ ?_ ?_
    · simp -implicitDefEqProofs (maxSteps := 2000000) only [go_sem]
    · kernel_rfl
    · simp -implicitDefEqProofs (maxSteps := 2000000) only [go_sem]
    simp -implicitDefEqProofs (maxSteps := 2000000) only [go_sem]
    refine call_of (l1Below_sat c1 14 k1 (by decide) (by decide)) (by simp -implicitDefEqProofs (maxSteps := 2000000) only [go_sem, d0, d1, d2, d3] <;> and_intros <;> rfl) (by kernel_rfl) (by simp -implicitDefEqProofs (maxSteps := 2000000) only [go_sem, d0, d1, d2, d3]) ?_
    simp -implicitDefEqProofs (maxSteps := 2000000) only [go_sem, d0, d1, d2, d3]
    and_intros <;> rfl
end Go.Proofs.YtedciihjgbkjgabGreat.A


/- DATABASES DRAWN, SPOILT NOW AND THEN. Conditions: none. -/
namespace Go.Proofs.YtedciihjgbkjgabGreat.A
open Go
set_option linter.unusedSimpArgs false
set_option linter.unusedVariables false
set_option maxRecDepth 100000

theorem frz_2s (s t : Nat) (a b : List RI) : frz (ris s a ++ ris t b) = ris 0 (a ++ b) := by
  have e : ∀ x y : Rows, frz (x ++ y) = frz x ++ frz y := fun x y => by simp [frz]
  rw [e, ris_frz, ris_frz, ris_append]
theorem take_set1 {α : Type} {l : List α} {i : Nat} {x : α} : List.take l.length (l.set i x) = l.set i x := List.take_of_length_le (by rw [List.length_set]; exact Nat.le_refl _)
theorem take_two (s t : Nat) (a : List RI) (x : RI) : List.take (a.length + 1) (ris s a ++ ris t [x]) = ris s a ++ ris t [x] := List.take_of_length_le (by simp [ris])
theorem l4Any_ex (c : Cur) (hc : c.ok) : ∃ (d : Db) (c' : Cur), DbS d 13 ∧ c'.ok ∧ Sat Tryz.prog 55 [lCur c] [lDb d] [lCur c'] := by
  obtain ⟨d, c1, h1, h2, h3, s0⟩ := l4Db_ex c hc
  have hl : d.rels.length = 4 := by rw [h2]; exact sigs_len c
  have hr : ∀ x ∈ d.rels, 1 ≤ x.ar ∧ x.ar ≤ 3 := fun x hx => (sigs_ok c x (by rw [← h2]; exact hx)).1
  have hk := byC_ok h3
  have hf := h1.facts
  clear h2
  rcases d with ⟨rs, fs⟩
  simp only at hl hr hf
  have ht := beV_lt c1 (n := 14) (by decide)
  by_cases t0 : beV c1 14 = 0
  · have d0 : (((beV c1 14 : Nat) : Int) == 0) = true := by rw [t0]; rfl
    obtain ⟨f, c2, f1, f2, f3⟩ := l3Any_ex (byC c1) rs hk (by omega) (by omega) hr
    refine ⟨⟨rs, fs ++ [f]⟩, c2, ⟨by simp only; omega, h1.names, by simp only [List.length_append, List.length_singleton]; omega, fun x hx => ?_⟩, f2, ?_⟩
    · rcases List.mem_append.mp hx with hx | hx
      · exact h1.vals x hx
      · rw [List.mem_singleton.mp hx]; exact f1
    refine sat_of_bodyB Tryz.func55 rfl (by kernel_rfl) (rs := [.cell 2 27]) rfl rfl rfl ?_
    refine bwp_seq mixed (by kernel_rfl) ?_
    simp -implicitDefEqProofs (maxSteps := 2000000) only [go_sem]
    refine bwp_seq mixed (by kernel_rfl) ?_
    simp -implicitDefEqProofs (maxSteps := 2000000) only [go_sem]
    refine call_of (s0) (by simp -implicitDefEqProofs (maxSteps := 2000000) only [go_sem]) (by kernel_rfl) (by simp -implicitDefEqProofs (maxSteps := 2000000) only [go_sem]) ?_
    simp -implicitDefEqProofs (maxSteps := 2000000) only [go_sem]
    refine bwp_seqB (bwp_seq mixed (by kernel_rfl) ?_)
    simp -implicitDefEqProofs (maxSteps := 2000000) only [go_sem]
    refine call_of (l1Below_sat c1 14 h3 (by decide) (by decide)) (by simp -implicitDefEqProofs (maxSteps := 2000000) only [go_sem] <;> and_intros <;> rfl) (by kernel_rfl) (by simp -implicitDefEqProofs (maxSteps := 2000000) only [go_sem]) ?_
    simp -implicitDefEqProofs (maxSteps := 2000000) only [go_sem]
    refine bwp_le (st' := mkSt [(0, .one (.vad 0 0)), (2, .one (.vad 1000 0)), (3, .one (.vad 1192 0)), (7, .sc (.int .i64 ((beV c1 14 : Nat) : Int)))] [(0, sCur (byC c1)), (1000, yDb), (1192, [.im 3 (rels rs), .ref 961 2 0 fs.length])] [(961, (2, ris 999 fs))] 9000) (le_st' _ _ [⟨961, some _, false, 2, _⟩] [1128] _ (by simp -implicitDefEqProofs (maxSteps := 2000000) only [go_sem, rels_frz] <;> and_intros <;> first | rfl | exact List.mem_singleton_self _ | decide | (refine ⟨_, rfl, Eq.symm ?_⟩; simp -implicitDefEqProofs (maxSteps := 2000000) only [go_sem, rels_frz]; done) | (refine ⟨_, rfl, Eq.symm ?_⟩; simp -implicitDefEqProofs (maxSteps := 2000000) only [go_sem, rels_frz]; rfl)) (by simp -implicitDefEqProofs (maxSteps := 2000000) only [go_sem, rels_frz] <;> and_intros <;> first | rfl | exact List.mem_singleton_self _ | decide | (refine ⟨_, rfl, Eq.symm ?_⟩; simp -implicitDefEqProofs (maxSteps := 2000000) only [go_sem, rels_frz]; done) | (refine ⟨_, rfl, Eq.symm ?_⟩; simp -implicitDefEqProofs (maxSteps := 2000000) only [go_sem, rels_frz]; rfl)) (by simp -implicitDefEqProofs (maxSteps := 2000000) only [go_sem, rels_frz] <;> and_intros <;> rfl) (by rfl)) ?_
    refine bwp_awp mixed (by kernel_rfl) ?_
    simp -implicitDefEqProofs (maxSteps := 2000000) only [go_sem, d0]
    refine call_of (f3) ?_ ?_ ?_ ?_
    · simp -implicitDefEqProofs (maxSteps := 2000000) only [go_sem]
    · kernel_rfl
    · simp -implicitDefEqProofs (maxSteps := 2000000) only [go_sem]
    simp -implicitDefEqProofs (maxSteps := 2000000) only [go_sem]
    refine ⟨by omega, ?_⟩
    refine tr_and (by kernel_rfl) ?_
    refine bwp_le (st' := mkSt [(2, .one (.vad 1000 0)), (3, .one (.vad 1192 0))] [(0, sCur c2), (1000, yDb), (1192, sDb ⟨rs, fs ++ [f]⟩)] [] 20000) (le_st' _ _ [] [9576] _ (by simp -implicitDefEqProofs (maxSteps := 2000000) only [go_sem, rels_frz, repD1, List.set_cons_zero, take_two, frz_2s] <;> and_intros <;> first | rfl | exact List.mem_singleton_self _ | decide | (refine ⟨_, rfl, Eq.symm ?_⟩; simp -implicitDefEqProofs (maxSteps := 2000000) only [go_sem, rels_frz, repD1, List.set_cons_zero, take_two, frz_2s]; done) | (refine ⟨_, rfl, Eq.symm ?_⟩; simp -implicitDefEqProofs (maxSteps := 2000000) only [go_sem, rels_frz, repD1, List.set_cons_zero, take_two, frz_2s]; rfl)) (by simp -implicitDefEqProofs (maxSteps := 2000000) only [go_sem, rels_frz, repD1, List.set_cons_zero, take_two, frz_2s] <;> and_intros <;> first | rfl | exact List.mem_singleton_self _ | decide | (refine ⟨_, rfl, Eq.symm ?_⟩; simp -implicitDefEqProofs (maxSteps := 2000000) only [go_sem, rels_frz, repD1, List.set_cons_zero, take_two, frz_2s]; done) | (refine ⟨_, rfl, Eq.symm ?_⟩; simp -implicitDefEqProofs (maxSteps := 2000000) only [go_sem, rels_frz, repD1, List.set_cons_zero, take_two, frz_2s]; rfl)) (by simp -implicitDefEqProofs (maxSteps := 2000000) only [go_sem, rels_frz, repD1, List.set_cons_zero, take_two, frz_2s] <;> and_intros <;> rfl) (by rfl)) ?_
    refine bwp_awp mixed (by kernel_rfl) ?_
    simp -implicitDefEqProofs (maxSteps := 2000000) only [go_sem]
    and_intros <;> rfl
  have d0 : (((beV c1 14 : Nat) : Int) == 0) = false := by rw [beq_eq_false_iff_ne]; omega
  by_cases t1 : beV c1 14 = 1
  · have d1 : (((beV c1 14 : Nat) : Int) == 1) = true := by rw [t1]; rfl
    have hb := beV_lt (byC c1) (n := 4) (by decide)
    have hb2 : beV (byC c1) 4 ≤ rs.length := by omega
    refine ⟨⟨rs.take (beV (byC c1) 4), fs⟩, byC (byC c1), ⟨by simp only [List.length_take]; omega, fun x hx => h1.names x (List.mem_of_mem_take hx), by simp only; omega, h1.vals⟩, byC_ok hk, ?_⟩
    refine sat_of_bodyB Tryz.func55 rfl (by kernel_rfl) (rs := [.cell 2 27]) rfl rfl rfl ?_
    refine bwp_seq mixed (by kernel_rfl) ?_
    simp -implicitDefEqProofs (maxSteps := 2000000) only [go_sem]
    refine bwp_seq mixed (by kernel_rfl) ?_
    simp -implicitDefEqProofs (maxSteps := 2000000) only [go_sem]
    refine call_of (s0) (by simp -implicitDefEqProofs (maxSteps := 2000000) only [go_sem]) (by kernel_rfl) (by simp -implicitDefEqProofs (maxSteps := 2000000) only [go_sem]) ?_
    simp -implicitDefEqProofs (maxSteps := 2000000) only [go_sem]
    refine bwp_seqB (bwp_seq mixed (by kernel_rfl) ?_)
    simp -implicitDefEqProofs (maxSteps := 2000000) only [go_sem]
    refine call_of (l1Below_sat c1 14 h3 (by decide) (by decide)) (by simp -implicitDefEqProofs (maxSteps := 2000000) only [go_sem] <;> and_intros <;> rfl) (by kernel_rfl) (by simp -implicitDefEqProofs (maxSteps := 2000000) only [go_sem]) ?_
    simp -implicitDefEqProofs (maxSteps := 2000000) only [go_sem]
    refine bwp_awp mixed (by kernel_rfl) ?_
    simp -implicitDefEqProofs (maxSteps := 2000000) only [go_sem, d0, d1]
    refine call_of (l1Below_sat (byC c1) 4 hk (by decide) (by decide)) (by simp -implicitDefEqProofs (maxSteps := 2000000) only [go_sem, hb2] <;> and_intros <;> rfl) (by kernel_rfl) (by simp -implicitDefEqProofs (maxSteps := 2000000) only [go_sem, hb2]) ?_
    simp -implicitDefEqProofs (maxSteps := 2000000) only [go_sem, hb2]
    repeat (refine ⟨by omega, ?_⟩)
    first | (with_reducible refine tr_and ?_ ?_; focus kernel_rfl) | (with_reducible refine tr_only ?_; kernel_rfl) | skip
    refine bwp_le (st' := mkSt [(2, .one (.vad 1000 0)), (3, .one (.vad 1192 0))] [(0, sCur (byC (byC c1))), (1000, yDb), (1192, sDb ⟨rs.take (beV (byC c1) 4), fs⟩)] [] 20000) (le_st' _ _ [] [1128, 1129] _ (by simp -implicitDefEqProofs (maxSteps := 2000000) only [go_sem, rels_frz, Nat.sub_zero] <;> and_intros <;> first | rfl | exact List.mem_singleton_self _ | decide | (refine ⟨_, rfl, Eq.symm ?_⟩; simp -implicitDefEqProofs (maxSteps := 2000000) only [go_sem, rels_frz, Nat.sub_zero]; done) | (refine ⟨_, rfl, Eq.symm ?_⟩; simp -implicitDefEqProofs (maxSteps := 2000000) only [go_sem, rels_frz, Nat.sub_zero]; rfl)) (by simp -implicitDefEqProofs (maxSteps := 2000000) only [go_sem, rels_frz, Nat.sub_zero] <;> and_intros <;> first | rfl | exact List.mem_singleton_self _ | decide | (refine ⟨_, rfl, Eq.symm ?_⟩; simp -implicitDefEqProofs (maxSteps := 2000000) only [go_sem, rels_frz, Nat.sub_zero]; done) | (refine ⟨_, rfl, Eq.symm ?_⟩; simp -implicitDefEqProofs (maxSteps := 2000000) only [go_sem, rels_frz, Nat.sub_zero]; rfl)) (by simp -implicitDefEqProofs (maxSteps := 2000000) only [go_sem, rels_frz, Nat.sub_zero] <;> and_intros <;> rfl) (by rfl)) ?_
    refine bwp_awp mixed (by kernel_rfl) ?_
    simp -implicitDefEqProofs (maxSteps := 2000000) only [go_sem]
    and_intros <;> rfl
  have d1 : (((beV c1 14 : Nat) : Int) == 1) = false := by rw [beq_eq_false_iff_ne]; omega
  by_cases t2 : beV c1 14 = 2
  · have d2 : (((beV c1 14 : Nat) : Int) == 2) = true := by rw [t2]; rfl
    have hb := beV_lt (byC c1) (n := 4) (by decide)
    have hb2 : beV (byC c1) 4 < rs.length := by omega
    have hn := anyN_ok ⟨beV (byC (byC c1)) 6, beV_lt _ (by decide)⟩
    refine ⟨⟨rs.set (beV (byC c1) 4) (anyR (byC (byC c1))), fs⟩, byC (byC (byC (byC (byC c1)))), ⟨by simp only [List.length_set]; omega, fun x hx => ?_, by simp only; omega, h1.vals⟩, byC_ok (byC_ok (byC_ok (byC_ok hk))), ?_⟩
    · rcases List.mem_or_eq_of_mem_set hx with hx | rfl
      · exact h1.names x hx
      · exact hn
    refine sat_of_bodyB Tryz.func55 rfl (by kernel_rfl) (rs := [.cell 2 27]) rfl rfl rfl ?_
    refine bwp_seq mixed (by kernel_rfl) ?_
    simp -implicitDefEqProofs (maxSteps := 2000000) only [go_sem]
    refine bwp_seq mixed (by kernel_rfl) ?_
    simp -implicitDefEqProofs (maxSteps := 2000000) only [go_sem]
    refine call_of (s0) (by simp -implicitDefEqProofs (maxSteps := 2000000) only [go_sem]) (by kernel_rfl) (by simp -implicitDefEqProofs (maxSteps := 2000000) only [go_sem]) ?_
    simp -implicitDefEqProofs (maxSteps := 2000000) only [go_sem]
    refine bwp_seqB (bwp_seq mixed (by kernel_rfl) ?_)
    simp -implicitDefEqProofs (maxSteps := 2000000) only [go_sem]
    refine call_of (l1Below_sat c1 14 h3 (by decide) (by decide)) (by simp -implicitDefEqProofs (maxSteps := 2000000) only [go_sem] <;> and_intros <;> rfl) (by kernel_rfl) (by simp -implicitDefEqProofs (maxSteps := 2000000) only [go_sem]) ?_
    simp -implicitDefEqProofs (maxSteps := 2000000) only [go_sem]
    refine bwp_awp mixed (by kernel_rfl) ?_
    simp -implicitDefEqProofs (maxSteps := 2000000) only [go_sem, d0, d1, d2]
    refine call_of (l1Below_sat (byC c1) 4 hk (by decide) (by decide)) (by simp -implicitDefEqProofs (maxSteps := 2000000) only [go_sem] <;> and_intros <;> rfl) (by kernel_rfl) (by simp -implicitDefEqProofs (maxSteps := 2000000) only [go_sem]) ?_
    simp -implicitDefEqProofs (maxSteps := 2000000) only [go_sem]
    refine call_of (l2Any_sat (byC (byC c1)) (byC_ok hk)) (by simp -implicitDefEqProofs (maxSteps := 2000000) only [go_sem, hb2] <;> and_intros <;> rfl) (by kernel_rfl) (by simp -implicitDefEqProofs (maxSteps := 2000000) only [go_sem, hb2]) ?_
    simp -implicitDefEqProofs (maxSteps := 2000000) only [go_sem, hb2]
    first | (with_reducible refine tr_and ?_ ?_; focus kernel_rfl) | (with_reducible refine tr_only ?_; kernel_rfl) | skip
    refine bwp_le (st' := mkSt [(2, .one (.vad 1000 0)), (3, .one (.vad 1192 0))] [(0, sCur (byC (byC (byC (byC (byC c1)))))), (1000, yDb), (1192, sDb ⟨rs.set (beV (byC c1) 4) (anyR (byC (byC c1))), fs⟩)] [] 20000) (le_st' _ _ [] [1128, 1129] _ (by simp -implicitDefEqProofs (maxSteps := 2000000) only [go_sem, rels_frz, take_set1] <;> and_intros <;> first | rfl | exact List.mem_singleton_self _ | decide | (refine ⟨_, rfl, Eq.symm ?_⟩; simp -implicitDefEqProofs (maxSteps := 2000000) only [go_sem, rels_frz, take_set1]; done) | (refine ⟨_, rfl, Eq.symm ?_⟩; simp -implicitDefEqProofs (maxSteps := 2000000) only [go_sem, rels_frz, take_set1]; rfl)) (by simp -implicitDefEqProofs (maxSteps := 2000000) only [go_sem, rels_frz, take_set1] <;> and_intros <;> first | rfl | exact List.mem_singleton_self _ | decide | (refine ⟨_, rfl, Eq.symm ?_⟩; simp -implicitDefEqProofs (maxSteps := 2000000) only [go_sem, rels_frz, take_set1]; done) | (refine ⟨_, rfl, Eq.symm ?_⟩; simp -implicitDefEqProofs (maxSteps := 2000000) only [go_sem, rels_frz, take_set1]; rfl)) (by simp -implicitDefEqProofs (maxSteps := 2000000) only [go_sem, rels_frz, take_set1] <;> and_intros <;> rfl) (by rfl)) ?_
    refine bwp_awp mixed (by kernel_rfl) ?_
    simp -implicitDefEqProofs (maxSteps := 2000000) only [go_sem]
    and_intros <;> rfl
  · have d2 : (((beV c1 14 : Nat) : Int) == 2) = false := by rw [beq_eq_false_iff_ne]; omega
    refine ⟨⟨rs, fs⟩, byC c1, ⟨by simp only; omega, h1.names, by simp only; omega, h1.vals⟩, hk, ?_⟩
    refine sat_of_bodyB Tryz.func55 rfl (by kernel_rfl) (rs := [.cell 2 27]) rfl rfl rfl ?_
    refine bwp_seq mixed (by kernel_rfl) ?_
    simp -implicitDefEqProofs (maxSteps := 2000000) only [go_sem]
    refine bwp_seq mixed (by kernel_rfl) ?_
    simp -implicitDefEqProofs (maxSteps := 2000000) only [go_sem]
    refine call_of (s0) (by simp -implicitDefEqProofs (maxSteps := 2000000) only [go_sem]) (by kernel_rfl) (by simp -implicitDefEqProofs (maxSteps := 2000000) only [go_sem]) ?_
    simp -implicitDefEqProofs (maxSteps := 2000000) only [go_sem]
    refine bwp_seqB (bwp_seq mixed (by kernel_rfl) ?_)
    simp -implicitDefEqProofs (maxSteps := 2000000) only [go_sem]
    refine call_of (l1Below_sat c1 14 h3 (by decide) (by decide)) (by simp -implicitDefEqProofs (maxSteps := 2000000) only [go_sem] <;> and_intros <;> rfl) (by kernel_rfl) (by simp -implicitDefEqProofs (maxSteps := 2000000) only [go_sem]) ?_
    simp -implicitDefEqProofs (maxSteps := 2000000) only [go_sem]
    refine bwp_awp mixed (by kernel_rfl) ?_
    simp -implicitDefEqProofs (maxSteps := 2000000) only [go_sem, d0, d1, d2]
    refine bwp_le (st' := mkSt [(2, .one (.vad 1000 0)), (3, .one (.vad 1192 0))] [(0, sCur (byC c1)), (1000, yDb), (1192, sDb ⟨rs, fs⟩)] [] 20000) (le_st' _ _ [] [1128, 1129] _ (by simp -implicitDefEqProofs (maxSteps := 2000000) only [go_sem, rels_frz] <;> and_intros <;> first | rfl | exact List.mem_singleton_self _ | decide | (refine ⟨_, rfl, Eq.symm ?_⟩; simp -implicitDefEqProofs (maxSteps := 2000000) only [go_sem, rels_frz]; done) | (refine ⟨_, rfl, Eq.symm ?_⟩; simp -implicitDefEqProofs (maxSteps := 2000000) only [go_sem, rels_frz]; rfl)) (by simp -implicitDefEqProofs (maxSteps := 2000000) only [go_sem, rels_frz] <;> and_intros <;> first | rfl | exact List.mem_singleton_self _ | decide | (refine ⟨_, rfl, Eq.symm ?_⟩; simp -implicitDefEqProofs (maxSteps := 2000000) only [go_sem, rels_frz]; done) | (refine ⟨_, rfl, Eq.symm ?_⟩; simp -implicitDefEqProofs (maxSteps := 2000000) only [go_sem, rels_frz]; rfl)) (by simp -implicitDefEqProofs (maxSteps := 2000000) only [go_sem, rels_frz] <;> and_intros <;> rfl) (by rfl)) ?_
    refine bwp_awp mixed (by kernel_rfl) ?_
    simp -implicitDefEqProofs (maxSteps := 2000000) only [go_sem]
    and_intros <;> rfl
end Go.Proofs.YtedciihjgbkjgabGreat.A


/- DATABASES AND QUERIES DRAWN. Conditions: none. -/
namespace Go.Proofs.YtedciihjgbkjgabGreat.A
open Go
set_option linter.unusedSimpArgs false
set_option linter.unusedVariables false
set_option maxRecDepth 100000

theorem l11Both_ex (b : List Int) (h : b.length ≤ 1048576) : ∃ (c0 c' : Cur) (q : Qu), QuD 201 q ∧ c'.ok ∧ Sat Tryz.prog 26 [lBys b] [lCur c', lRels (sigs c0), oQu q] [g1] := by
  have k0 := curN_ok h
  have k2 := byC_ok (byC_ok k0)
  have s1 := l2Sigs_sat (curN b) k0
  obtain ⟨q, c', hq, hk, s2⟩ := l11Any_ex (curN b) (byC (byC (curN b))) k2
  refine ⟨curN b, c', q, hq, hk, ?_⟩
  have hl := sigs_len (curN b)
  generalize sigs (curN b) = l at hl s1 s2
  generalize byC (byC (curN b)) = c2 at k2 s1 s2
  refine sat_of_bodyB Tryz.func26 rfl (by kernel_rfl) (rs := [.tmp 2, .tmp 3, .cell 4 31]) rfl rfl rfl ?_
  refine bwp_seq mixed (by kernel_rfl) ?_
  simp -implicitDefEqProofs (maxSteps := 2000000) only [go_sem]
  refine bwp_seq mixed (by kernel_rfl) ?_
  simp -implicitDefEqProofs (maxSteps := 2000000) only [go_sem]
  refine call_of (l1New_sat b (by omega)) (by simp -implicitDefEqProofs (maxSteps := 2000000) only [go_sem]) (by kernel_rfl) (by simp -implicitDefEqProofs (maxSteps := 2000000) only [go_sem]) ?_
  simp -implicitDefEqProofs (maxSteps := 2000000) only [go_sem]
  refine bwp_seq mixed (by kernel_rfl) ?_
  simp -implicitDefEqProofs (maxSteps := 2000000) only [go_sem]
  refine call_of (s1) (by simp -implicitDefEqProofs (maxSteps := 2000000) only [go_sem]) (by kernel_rfl) (by simp -implicitDefEqProofs (maxSteps := 2000000) only [go_sem]) ?_
  simp -implicitDefEqProofs (maxSteps := 2000000) only [go_sem]
  refine bwp_le (st' := mkSt [(4, .one (.vad 1128 0)), (5, .one (.vad 1256 0)), (6, .one (.im 3 (rels l)))] [(1128, zQ2), (1256, sCur c2)] [] 4000) (le_st' _ _ [] [1448] _ (by simp -implicitDefEqProofs (maxSteps := 2000000) only [go_sem, rels_frz] <;> and_intros <;> first | rfl | exact List.mem_singleton_self _ | decide | (refine ⟨_, rfl, Eq.symm ?_⟩; simp -implicitDefEqProofs (maxSteps := 2000000) only [go_sem, rels_frz]; done) | (refine ⟨_, rfl, Eq.symm ?_⟩; simp -implicitDefEqProofs (maxSteps := 2000000) only [go_sem, rels_frz]; rfl)) (by simp -implicitDefEqProofs (maxSteps := 2000000) only [go_sem, rels_frz] <;> and_intros <;> first | rfl | exact List.mem_singleton_self _ | decide | (refine ⟨_, rfl, Eq.symm ?_⟩; simp -implicitDefEqProofs (maxSteps := 2000000) only [go_sem, rels_frz]; done) | (refine ⟨_, rfl, Eq.symm ?_⟩; simp -implicitDefEqProofs (maxSteps := 2000000) only [go_sem, rels_frz]; rfl)) (by simp -implicitDefEqProofs (maxSteps := 2000000) only [go_sem, rels_frz] <;> and_intros <;> rfl) (by rfl)) ?_
  refine bwp_awp mixed (by kernel_rfl) ?_
  simp -implicitDefEqProofs (maxSteps := 2000000) only [go_sem]
  refine call_of (s2) ?_ ?_ ?_ ?_
  · simp -implicitDefEqProofs (maxSteps := 2000000) only [go_sem]
  · kernel_rfl
  · simp -implicitDefEqProofs (maxSteps := 2000000) only [go_sem]
  simp -implicitDefEqProofs (maxSteps := 2000000) only [go_sem]
  and_intros <;> rfl
set_option maxHeartbeats 8000000 in
theorem l12Both_ex (b : List Int) (h : b.length ≤ 1048576) : ∃ (c' : Cur) (d : Db) (q : Qu), DbS d 13 ∧ QuD 201 q ∧ c'.ok ∧ Sat Tryz.prog 25 [lBys b] [lCur c', lDb d, oQu q] [g1] := by
  have k0 := curN_ok h
  obtain ⟨d, c1, hd, hr, k1, s1⟩ := l4Db_ex (curN b) k0
  obtain ⟨q, c2, hq, k2, s2⟩ := l11Draw_ex (curN b) c1 k1
  have k3 := byC_ok k2
  have hd' : DbS d 13 := ⟨hd.rels, hd.names, by have := hd.facts; omega, hd.vals⟩
  have ht := beV_lt c2 (n := 20) (by decide)
  have s3 := l1Below_sat c2 20 k2 (by decide) (by decide)
  by_cases t0 : beV c2 20 = 0
  · have d0 : (((beV c2 20 : Nat) : Int) == 0) = true := by rw [t0]; rfl
    obtain ⟨d2, c4, hd2, k4, s4⟩ := l4Any_ex (byC c2) k3
    refine ⟨c4, d2, q, hd2, hq.more (by decide), k4, ?_⟩
    clear hd hd' hd2
    rw [← hr] at s2
    refine sat_of_bodyB Tryz.func25 rfl (by kernel_rfl) (rs := [.tmp 2, .cell 3 27, .cell 4 31]) rfl rfl rfl ?_
    refine bwp_seq mixed (by kernel_rfl) ?_
    simp -implicitDefEqProofs (maxSteps := 2000000) only [go_sem]
    refine bwp_seq mixed (by kernel_rfl) ?_
    simp -implicitDefEqProofs (maxSteps := 2000000) only [go_sem]
    refine call_of (l1New_sat b (by omega)) (by simp -implicitDefEqProofs (maxSteps := 2000000) only [go_sem]) (by kernel_rfl) (by simp -implicitDefEqProofs (maxSteps := 2000000) only [go_sem]) ?_
    simp -implicitDefEqProofs (maxSteps := 2000000) only [go_sem]
    refine bwp_seq mixed (by kernel_rfl) ?_
    simp -implicitDefEqProofs (maxSteps := 2000000) only [go_sem]
    refine call_of (s1) (by simp -implicitDefEqProofs (maxSteps := 2000000) only [go_sem]) (by kernel_rfl) (by simp -implicitDefEqProofs (maxSteps := 2000000) only [go_sem]) ?_
    simp -implicitDefEqProofs (maxSteps := 2000000) only [go_sem]
    refine bwp_le (st' := mkSt [(3, .one (.vad 1064 0)), (4, .one (.vad 1128 0)), (5, .one (.vad 1256 0)), (6, .one (.vad 1512 0))] [(1064, yDb), (1128, zQ2), (1256, sCur c1), (1512, sDb d)] [] 4000) (le_st' _ _ [] [1448, 1449] _ (by simp -implicitDefEqProofs (maxSteps := 2000000) only [go_sem, rels_frz] <;> and_intros <;> first | rfl | exact List.mem_singleton_self _ | decide | (refine ⟨_, rfl, Eq.symm ?_⟩; simp -implicitDefEqProofs (maxSteps := 2000000) only [go_sem, rels_frz]; done) | (refine ⟨_, rfl, Eq.symm ?_⟩; simp -implicitDefEqProofs (maxSteps := 2000000) only [go_sem, rels_frz]; rfl)) (by simp -implicitDefEqProofs (maxSteps := 2000000) only [go_sem, rels_frz] <;> and_intros <;> first | rfl | exact List.mem_singleton_self _ | decide | (refine ⟨_, rfl, Eq.symm ?_⟩; simp -implicitDefEqProofs (maxSteps := 2000000) only [go_sem, rels_frz]; done) | (refine ⟨_, rfl, Eq.symm ?_⟩; simp -implicitDefEqProofs (maxSteps := 2000000) only [go_sem, rels_frz]; rfl)) (by simp -implicitDefEqProofs (maxSteps := 2000000) only [go_sem, rels_frz] <;> and_intros <;> rfl) (by rfl)) ?_
    refine bwp_awp mixed (by kernel_rfl) ?_
    simp -implicitDefEqProofs (maxSteps := 2000000) only [go_sem]
    refine call_of (s2) ?_ ?_ ?_ ?_
    · simp -implicitDefEqProofs (maxSteps := 2000000) only [go_sem]
    · kernel_rfl
    · simp -implicitDefEqProofs (maxSteps := 2000000) only [go_sem]
    simp -implicitDefEqProofs (maxSteps := 2000000) only [go_sem]
    refine call_of (s3) (by simp -implicitDefEqProofs (maxSteps := 2000000) only [go_sem, d0] <;> and_intros <;> rfl) (by kernel_rfl) (by simp -implicitDefEqProofs (maxSteps := 2000000) only [go_sem, d0]) ?_
    simp -implicitDefEqProofs (maxSteps := 2000000) only [go_sem, d0]
    refine call_of (s4) ?_ ?_ ?_ ?_
    · simp -implicitDefEqProofs (maxSteps := 2000000) only [go_sem]
    · kernel_rfl
    · simp -implicitDefEqProofs (maxSteps := 2000000) only [go_sem]
    simp -implicitDefEqProofs (maxSteps := 2000000) only [go_sem]
    first | (with_reducible refine tr_and ?_ ?_; focus kernel_rfl) | (with_reducible refine tr_only ?_; kernel_rfl) | skip
    and_intros <;> rfl
  have d0 : (((beV c2 20 : Nat) : Int) == 0) = false := by rw [beq_eq_false_iff_ne]; omega
  by_cases t1 : beV c2 20 = 1
  · have d1 : (((beV c2 20 : Nat) : Int) == 1) = true := by rw [t1]; rfl
    obtain ⟨q2, c4, hq2, k4, s4⟩ := l11Any_ex (curN b) (byC c2) k3
    refine ⟨c4, d, q2, hd', hq2, k4, ?_⟩
    clear hd hd'
    rw [← hr] at s2 s4
    refine sat_of_bodyB Tryz.func25 rfl (by kernel_rfl) (rs := [.tmp 2, .cell 3 27, .cell 4 31]) rfl rfl rfl ?_
    refine bwp_seq mixed (by kernel_rfl) ?_
    simp -implicitDefEqProofs (maxSteps := 2000000) only [go_sem]
    refine bwp_seq mixed (by kernel_rfl) ?_
    simp -implicitDefEqProofs (maxSteps := 2000000) only [go_sem]
    refine call_of (l1New_sat b (by omega)) (by simp -implicitDefEqProofs (maxSteps := 2000000) only [go_sem]) (by kernel_rfl) (by simp -implicitDefEqProofs (maxSteps := 2000000) only [go_sem]) ?_
    simp -implicitDefEqProofs (maxSteps := 2000000) only [go_sem]
    refine bwp_seq mixed (by kernel_rfl) ?_
    simp -implicitDefEqProofs (maxSteps := 2000000) only [go_sem]
    refine call_of (s1) (by simp -implicitDefEqProofs (maxSteps := 2000000) only [go_sem]) (by kernel_rfl) (by simp -implicitDefEqProofs (maxSteps := 2000000) only [go_sem]) ?_
    simp -implicitDefEqProofs (maxSteps := 2000000) only [go_sem]
    refine bwp_le (st' := mkSt [(3, .one (.vad 1064 0)), (4, .one (.vad 1128 0)), (5, .one (.vad 1256 0)), (6, .one (.vad 1512 0))] [(1064, yDb), (1128, zQ2), (1256, sCur c1), (1512, sDb d)] [] 4000) (le_st' _ _ [] [1448, 1449] _ (by simp -implicitDefEqProofs (maxSteps := 2000000) only [go_sem, rels_frz] <;> and_intros <;> first | rfl | exact List.mem_singleton_self _ | decide | (refine ⟨_, rfl, Eq.symm ?_⟩; simp -implicitDefEqProofs (maxSteps := 2000000) only [go_sem, rels_frz]; done) | (refine ⟨_, rfl, Eq.symm ?_⟩; simp -implicitDefEqProofs (maxSteps := 2000000) only [go_sem, rels_frz]; rfl)) (by simp -implicitDefEqProofs (maxSteps := 2000000) only [go_sem, rels_frz] <;> and_intros <;> first | rfl | exact List.mem_singleton_self _ | decide | (refine ⟨_, rfl, Eq.symm ?_⟩; simp -implicitDefEqProofs (maxSteps := 2000000) only [go_sem, rels_frz]; done) | (refine ⟨_, rfl, Eq.symm ?_⟩; simp -implicitDefEqProofs (maxSteps := 2000000) only [go_sem, rels_frz]; rfl)) (by simp -implicitDefEqProofs (maxSteps := 2000000) only [go_sem, rels_frz] <;> and_intros <;> rfl) (by rfl)) ?_
    refine bwp_awp mixed (by kernel_rfl) ?_
    simp -implicitDefEqProofs (maxSteps := 2000000) only [go_sem]
    refine call_of (s2) ?_ ?_ ?_ ?_
    · simp -implicitDefEqProofs (maxSteps := 2000000) only [go_sem]
    · kernel_rfl
    · simp -implicitDefEqProofs (maxSteps := 2000000) only [go_sem]
    simp -implicitDefEqProofs (maxSteps := 2000000) only [go_sem]
    refine call_of (s3) (by simp -implicitDefEqProofs (maxSteps := 2000000) only [go_sem, d0, d1] <;> and_intros <;> rfl) (by kernel_rfl) (by simp -implicitDefEqProofs (maxSteps := 2000000) only [go_sem, d0, d1]) ?_
    simp -implicitDefEqProofs (maxSteps := 2000000) only [go_sem, d0, d1]
    refine call_of (s4) ?_ ?_ ?_ ?_
    · simp -implicitDefEqProofs (maxSteps := 2000000) only [go_sem]
    · kernel_rfl
    · simp -implicitDefEqProofs (maxSteps := 2000000) only [go_sem]
    simp -implicitDefEqProofs (maxSteps := 2000000) only [go_sem]
    first | (with_reducible refine tr_and ?_ ?_; focus kernel_rfl) | (with_reducible refine tr_only ?_; kernel_rfl) | skip
    and_intros <;> rfl
  · have d1 : (((beV c2 20 : Nat) : Int) == 1) = false := by rw [beq_eq_false_iff_ne]; omega
    refine ⟨byC c2, d, q, hd', hq.more (by decide), k3, ?_⟩
    clear hd hd'
    rw [← hr] at s2
    refine sat_of_bodyB Tryz.func25 rfl (by kernel_rfl) (rs := [.tmp 2, .cell 3 27, .cell 4 31]) rfl rfl rfl ?_
    refine bwp_seq mixed (by kernel_rfl) ?_
    simp -implicitDefEqProofs (maxSteps := 2000000) only [go_sem]
    refine bwp_seq mixed (by kernel_rfl) ?_
    simp -implicitDefEqProofs (maxSteps := 2000000) only [go_sem]
    refine call_of (l1New_sat b (by omega)) (by simp -implicitDefEqProofs (maxSteps := 2000000) only [go_sem]) (by kernel_rfl) (by simp -implicitDefEqProofs (maxSteps := 2000000) only [go_sem]) ?_
    simp -implicitDefEqProofs (maxSteps := 2000000) only [go_sem]
    refine bwp_seq mixed (by kernel_rfl) ?_
    simp -implicitDefEqProofs (maxSteps := 2000000) only [go_sem]
    refine call_of (s1) (by simp -implicitDefEqProofs (maxSteps := 2000000) only [go_sem]) (by kernel_rfl) (by simp -implicitDefEqProofs (maxSteps := 2000000) only [go_sem]) ?_
    simp -implicitDefEqProofs (maxSteps := 2000000) only [go_sem]
    refine bwp_le (st' := mkSt [(3, .one (.vad 1064 0)), (4, .one (.vad 1128 0)), (5, .one (.vad 1256 0)), (6, .one (.vad 1512 0))] [(1064, yDb), (1128, zQ2), (1256, sCur c1), (1512, sDb d)] [] 4000) (le_st' _ _ [] [1448, 1449] _ (by simp -implicitDefEqProofs (maxSteps := 2000000) only [go_sem, rels_frz] <;> and_intros <;> first | rfl | exact List.mem_singleton_self _ | decide | (refine ⟨_, rfl, Eq.symm ?_⟩; simp -implicitDefEqProofs (maxSteps := 2000000) only [go_sem, rels_frz]; done) | (refine ⟨_, rfl, Eq.symm ?_⟩; simp -implicitDefEqProofs (maxSteps := 2000000) only [go_sem, rels_frz]; rfl)) (by simp -implicitDefEqProofs (maxSteps := 2000000) only [go_sem, rels_frz] <;> and_intros <;> first | rfl | exact List.mem_singleton_self _ | decide | (refine ⟨_, rfl, Eq.symm ?_⟩; simp -implicitDefEqProofs (maxSteps := 2000000) only [go_sem, rels_frz]; done) | (refine ⟨_, rfl, Eq.symm ?_⟩; simp -implicitDefEqProofs (maxSteps := 2000000) only [go_sem, rels_frz]; rfl)) (by simp -implicitDefEqProofs (maxSteps := 2000000) only [go_sem, rels_frz] <;> and_intros <;> rfl) (by rfl)) ?_
    refine bwp_awp mixed (by kernel_rfl) ?_
    simp -implicitDefEqProofs (maxSteps := 2000000) only [go_sem]
    refine call_of (s2) ?_ ?_ ?_ ?_
    · simp -implicitDefEqProofs (maxSteps := 2000000) only [go_sem]
    · kernel_rfl
    · simp -implicitDefEqProofs (maxSteps := 2000000) only [go_sem]
    simp -implicitDefEqProofs (maxSteps := 2000000) only [go_sem]
    refine call_of (s3) (by simp -implicitDefEqProofs (maxSteps := 2000000) only [go_sem, d0, d1] <;> and_intros <;> rfl) (by kernel_rfl) (by simp -implicitDefEqProofs (maxSteps := 2000000) only [go_sem, d0, d1]) ?_
    simp -implicitDefEqProofs (maxSteps := 2000000) only [go_sem, d0, d1]
    first | (with_reducible refine tr_and ?_ ?_; focus kernel_rfl) | (with_reducible refine tr_only ?_; kernel_rfl) | skip
    and_intros <;> rfl
theorem drawFE_ex (b : List Int) (h : b.length ≤ 1048576) : ∃ (d : Db) (q : Qu), DbS d 13 ∧ QuD 201 q ∧ Sat Tryz.prog 6 [lBys b] [lDb d, oQu q] [g1] := by
  obtain ⟨c', d, q, h1, h2, h3, s⟩ := l12Both_ex b h
  refine ⟨d, q, h1, h2, ?_⟩
  refine sat_of_body mixed Tryz.func6 rfl (by kernel_rfl) (by kernel_rfl) (rs := [.cell 2 27, .cell 3 31]) rfl rfl rfl ?_
  simp -implicitDefEqProofs (maxSteps := 2000000) only [go_sem]
  refine call_of (s) (by simp -implicitDefEqProofs (maxSteps := 2000000) only [go_sem]) (by kernel_rfl) (by simp -implicitDefEqProofs (maxSteps := 2000000) only [go_sem]) ?_
  simp -implicitDefEqProofs (maxSteps := 2000000) only [go_sem]
  first | (with_reducible refine tr_and ?_ ?_; focus kernel_rfl) | (with_reducible refine tr_only ?_; kernel_rfl) | skip
  and_intros <;> rfl
end Go.Proofs.YtedciihjgbkjgabGreat.A


/- ALL MAXIMAL INDEPENDENT SETS: the plain law. Conditions: none. (No program in sight but the names.) -/
namespace Go.Proofs.YtedciihjgbkjgabGreat.A
open Go
set_option linter.unusedSimpArgs false
set_option linter.unusedVariables false

end Go.Proofs.YtedciihjgbkjgabGreat.A


/- ALL MAXIMAL INDEPENDENT SETS: the two programs. Conditions: none. -/
namespace Go.Proofs.YtedciihjgbkjgabGreat.A
open Go
set_option linter.unusedSimpArgs false
set_option linter.unusedVariables false
set_option maxRecDepth 100000

theorem ints_nilf : (ints [] = frz []) = True := eq_true rfl
attribute [go_sem] ints_nilf
end Go.Proofs.YtedciihjgbkjgabGreat.A


/- ALL MAXIMAL INDEPENDENT SETS: the program's search. Conditions: none. -/
namespace Go.Proofs.YtedciihjgbkjgabGreat.A
open Go
set_option linter.unusedSimpArgs false
set_option linter.unusedVariables false
set_option maxRecDepth 100000

end Go.Proofs.YtedciihjgbkjgabGreat.A


/- ALL MAXIMAL INDEPENDENT SETS: the program's function. Conditions: none. -/
namespace Go.Proofs.YtedciihjgbkjgabGreat.A
open Go
set_option linter.unusedSimpArgs false
set_option linter.unusedVariables false
set_option maxRecDepth 100000

end Go.Proofs.YtedciihjgbkjgabGreat.A


/- SETS DRAWN; what the laws compare by. Conditions: none. -/
namespace Go.Proofs.YtedciihjgbkjgabGreat.A
open Go
set_option linter.unusedSimpArgs false
set_option linter.unusedVariables false
set_option maxRecDepth 100000

end Go.Proofs.YtedciihjgbkjgabGreat.A


/- A BYTE OF THE CODE. Conditions: none. -/
namespace Go.Proofs.YtedciihjgbkjgabGreat.A
open Go
set_option linter.unusedSimpArgs false
set_option linter.unusedVariables false
set_option maxRecDepth 100000
theorem at_ex (b : List Int) (i : Nat) (h : b.length ≤ 1048576) (hb : bytesOk b) (hi : i ≤ 1000) : ∃ a : Nat, a < 256 ∧ Sat Tryz.prog 12 [lBys b, lInt i] [lInt a] [g1, g1] := by
  by_cases c1 : i < b.length
  · have hz := hb _ (mem_getD 0 c1)
    have wz : IntKind.i64.wrap (b.getD i 0) = (((b.getD i 0).toNat : Nat) : Int) := by rw [IntWalk.i64_in _ (by omega)]; omega
    refine ⟨(b.getD i 0).toNat, by omega, ?_⟩
    refine sat_of_body mixed Tryz.func12 rfl (by kernel_rfl) (by kernel_rfl) (rs := [.tmp 4]) rfl rfl rfl ?_
    simp -implicitDefEqProofs (maxSteps := 2000000) only [go_sem, c1, wz]
    first | done | rfl | exact ⟨rfl, rfl⟩ | exact ⟨rfl, rfl, rfl⟩ | (refine tr_and ?_ ?_ <;> first | rfl | exact ⟨rfl, rfl⟩ | kernel_rfl)
  · have w1 : IntKind.i64.wrap ((i : Int) * 37) = ((i * 37 : Nat) : Int) := by rw [IntWalk.i64_in _ (by omega)]; omega
    have w2 : IntKind.i64.wrap ((b.length : Int) * 11) = ((b.length * 11 : Nat) : Int) := by rw [IntWalk.i64_in _ (by omega)]; omega
    have w3 : IntKind.i64.wrap (((i * 37 : Nat) : Int) + ((b.length * 11 : Nat) : Int)) = ((i * 37 + b.length * 11 : Nat) : Int) := by rw [IntWalk.i64_in _ (by omega)]; omega
    have w4 : Int.tmod (((i * 37 + b.length * 11 : Nat) : Nat) : Int) 256 = (((i * 37 + b.length * 11) % 256 : Nat) : Int) := by rw [Int.tmod_eq_emod_of_nonneg (by omega)]; omega
    refine ⟨(i * 37 + b.length * 11) % 256, by omega, ?_⟩
    refine sat_of_body mixed Tryz.func12 rfl (by kernel_rfl) (by kernel_rfl) (rs := [.tmp 4]) rfl rfl rfl ?_
    simp -implicitDefEqProofs (maxSteps := 2000000) only [go_sem, c1, w1, w2, w3, w4]
    decide
end Go.Proofs.YtedciihjgbkjgabGreat.A


/- THE LIBRARY'S Repeat at one number. Conditions: none. -/
namespace Go.Proofs.YtedciihjgbkjgabGreat.A
open Go
set_option linter.unusedSimpArgs false
set_option linter.unusedVariables false
set_option maxRecDepth 100000

abbrev lU64 (n : Int) : LV := .one (.sc (.int .u64 n))
theorem ints_allSc (a : List Int) : allSc (ints a) = true := by simp [allSc, ints_eq]
attribute [go_sem] ints_allSc
theorem mul64_sat {n : Nat} (hn : n ≤ 4) : Sat Tryz.prog 112 [lU64 1, lU64 n] [lU64 0, lU64 n] [g1, g1] := by
  obtain rfl | rfl | rfl | rfl | rfl : n = 0 ∨ n = 1 ∨ n = 2 ∨ n = 3 ∨ n = 4 := by omega
  all_goals
    refine sat_of_body mixed Tryz.func112 rfl (by kernel_rfl) (by kernel_rfl) (rs := [.tmp 4, .tmp 5]) rfl rfl rfl ?_
    simp -implicitDefEqProofs (maxSteps := 2000000) only [go_sem]
    exact ⟨by kernel_rfl, by kernel_rfl⟩
theorem mul_sat {n : Nat} (hn : n ≤ 4) : Sat Tryz.prog 86 [lU64 1, lU64 n] [lU64 0, lU64 n] [g1, g1] := by
  refine sat_of_body mixed Tryz.func86 rfl (by kernel_rfl) (by kernel_rfl) (rs := [.tmp 4, .tmp 5]) rfl rfl rfl ?_
  simp -implicitDefEqProofs (maxSteps := 2000000) only [go_sem]
  refine call_of (mul64_sat hn) (by simp -implicitDefEqProofs (maxSteps := 2000000) only [go_sem]) (by kernel_rfl) (by simp -implicitDefEqProofs (maxSteps := 2000000) only [go_sem]) ?_
  simp -implicitDefEqProofs (maxSteps := 2000000) only [go_sem]
theorem u64_of {n : Nat} (hn : n ≤ 4) : IntKind.u64.wrap (n : Int) = n := by
  obtain rfl | rfl | rfl | rfl | rfl : n = 0 ∨ n = 1 ∨ n = 2 ∨ n = 3 ∨ n = 4 := by omega
  all_goals rfl
theorem rep1 {α : Type} (a : α) : List.replicate 1 a = [a] := rfl
theorem rep_range {x : Int} {n k : Nat} (hk : k ≤ n) : setRange (List.replicate k x ++ List.replicate (n - k) 0) k ((List.take k (List.replicate k x ++ List.replicate (n - k) 0)).take (n - k)) = List.replicate (k + min k (n - k)) x ++ List.replicate (n - (k + min k (n - k))) 0 := by
  have h1 : List.take k (List.replicate k x ++ List.replicate (n - k) 0) = List.replicate k x := by
    rw [List.take_append_of_le_length (by simp), List.take_replicate, Nat.min_self]
  rw [h1, List.take_replicate, setRange, h1, List.length_replicate, Nat.min_comm (n - k) k, List.replicate_append_replicate]
  congr 1
  rw [List.drop_append, List.drop_replicate, List.drop_replicate, List.length_replicate]
  rw [show k - (k + min k (n - k)) = 0 by omega, List.replicate_zero, List.nil_append]
  congr 1; omega
theorem repeat_sat (x : Int) {n : Nat} (hn : n ≤ 4) : Sat Tryz.prog 65 [lInts [x], lInt n] [oInts (List.replicate n x)] [g1, g1] := by
  refine sat_of_body mixed Tryz.func65 rfl (by kernel_rfl) (by kernel_rfl) (rs := [.tmp 4]) rfl rfl rfl ?_
  have w0 : IntKind.u64.wrap ((1 : Nat) : Int) = 1 := rfl
  have w1 := u64_of hn
  have w2 : IntKind.i64.wrap (n : Int) = n := IntWalk.i64_in _ (by omega)
  have c0 : decide ((n : Int) < 0) = false := decide_eq_false (by omega)
  have c1 : decide ((n : Int) > 9223372036854775807) = false := decide_eq_false (by omega)
  simp -implicitDefEqProofs (maxSteps := 2000000) only [go_sem, c0, w0, w1]
  refine call_of (mul_sat hn) (by simp -implicitDefEqProofs (maxSteps := 2000000) only [go_sem, c1, w2]) (by kernel_rfl) (by simp -implicitDefEqProofs (maxSteps := 2000000) only [go_sem, c1, w2]) ?_
  simp -implicitDefEqProofs (maxSteps := 2000000) only [go_sem, c1, w2]
  refine ⟨by omega, by omega, ?_⟩
  refine awp_loop (Nat × List Int) (fun k => mkSt [(7, .one (.ref 960 1 0 n)), (8, .sc (.int .i64 k.1))] [] [(960, (1, ints k.2))] 2000)
    (fun k => (k.1 ≤ n ∧ (k.1 = 0 → n = 0)) ∧ k.2 = List.replicate k.1 x ++ List.replicate (n - k.1) 0) (fun k => n - k.1) (min 1 n, List.replicate (min 1 n) x ++ List.replicate (n - min 1 n) 0) ⟨⟨by show min 1 n ≤ n; omega, by show min 1 n = 0 → n = 0; omega⟩, rfl⟩ ?_ ?_
  · rcases n with _ | m
    · exact (le_st' _ _ [⟨960, some _, false, 1, _⟩] [] _ (by simp -implicitDefEqProofs (maxSteps := 2000000) only [go_sem, Nat.min_zero, List.replicate_zero] <;> and_intros <;> rfl) (by simp -implicitDefEqProofs (maxSteps := 2000000) only [go_sem, Nat.min_zero, List.replicate_zero] <;> and_intros <;> rfl) (by simp -implicitDefEqProofs (maxSteps := 2000000) only [go_sem, Nat.min_zero, List.replicate_zero] <;> and_intros <;> rfl) (by rfl))
    · rw [show min 1 (m + 1) = 1 by omega]
      exact (le_st' _ _ [⟨960, some _, false, 1, _⟩] [] _ (by simp -implicitDefEqProofs (maxSteps := 2000000) only [go_sem, rep1, List.length_replicate, List.drop_replicate, show min 1 (m + 1) = 1 by omega, ints_rep] <;> and_intros <;> rfl) (by simp -implicitDefEqProofs (maxSteps := 2000000) only [go_sem, rep1, List.length_replicate, List.drop_replicate, show min 1 (m + 1) = 1 by omega, ints_rep] <;> and_intros <;> rfl) (by simp -implicitDefEqProofs (maxSteps := 2000000) only [go_sem, rep1, List.length_replicate, List.drop_replicate, show min 1 (m + 1) = 1 by omega, ints_rep] <;> and_intros <;> rfl) (by rfl))
  · rintro ⟨k, L⟩ ⟨⟨h1, h2⟩, h3⟩
    simp only at h1 h2 h3
    have hl : L.length = n := by rw [h3]; simp; omega
    have hr := rep_range (x := x) h1
    rw [← h3, show List.take k L = List.replicate k x by rw [h3, List.take_append_of_le_length (by simp), List.take_replicate, Nat.min_self]] at hr
    by_cases c2 : k < n
    · have hL : L.take n = L := List.take_of_length_le (by omega)
      simp -implicitDefEqProofs (maxSteps := 2000000) only [go_sem, c2, hl, hL]
      have hk : List.take k L = List.replicate k x := by rw [h3, List.take_append_of_le_length (by simp), List.take_replicate, Nat.min_self]
      have w3 : IntKind.i64.wrap ((k : Int) + ((min k (n - k) : Nat) : Int)) = ((k + min k (n - k) : Nat) : Int) := by rw [IntWalk.i64_in _ (by omega)]; rfl
      refine ⟨h1, by omega, by omega, h1, by omega, tr_and (by kernel_rfl) ⟨(k + min k (n - k), setRange L k (List.take (n - k) (List.replicate k x))), ⟨⟨by simp only; omega, by simp only; omega⟩, hr⟩, by simp only; omega, ?_⟩⟩
      exact (le_st' _ _ [⟨960, some _, false, 1, _⟩] [] _ (by simp -implicitDefEqProofs (maxSteps := 2000000) only [go_sem, Nat.sub_zero, hk, List.length_replicate, w3, List.length_take, Nat.min_comm (n - k) k, hl] <;> and_intros <;> rfl) (by simp -implicitDefEqProofs (maxSteps := 2000000) only [go_sem, Nat.sub_zero, hk, List.length_replicate, w3, List.length_take, Nat.min_comm (n - k) k, hl] <;> and_intros <;> rfl) (by simp -implicitDefEqProofs (maxSteps := 2000000) only [go_sem, Nat.sub_zero, hk, List.length_replicate, w3, List.length_take, Nat.min_comm (n - k) k, hl] <;> and_intros <;> rfl) (by rfl))
    · obtain rfl : k = n := by omega
      have hL : L.take k = L := List.take_of_length_le (by omega)
      simp -implicitDefEqProofs (maxSteps := 2000000) only [go_sem, c2, hl, hL]
      rw [h3, Nat.sub_self, List.replicate_zero, List.append_nil]
      exact ⟨rfl, rfl⟩
theorem unknown_sat {n : Nat} (hn : n ≤ 4) : Sat Tryz.prog 43 [lInt n] [oInts (List.replicate n (-1))] [g1] := by
  refine sat_of_body mixed Tryz.func43 rfl (by kernel_rfl) (by kernel_rfl) (rs := [.tmp 2]) rfl rfl rfl ?_
  simp -implicitDefEqProofs (maxSteps := 2000000) only [go_sem]
  refine call_of (repeat_sat (-1) hn) (by simp -implicitDefEqProofs (maxSteps := 2000000) only [go_sem]) (callOk_still (by kernel_rfl) (by simp only [List.all_cons, List.all_nil, LV.still, LV.leaves, Leaf.still, ints_still, ris_still, eds_still, rels_still, iss_still, ems_still, Bool.and_self, Bool.and_true])) (by simp -implicitDefEqProofs (maxSteps := 2000000) only [go_sem]) ?_
  simp -implicitDefEqProofs (maxSteps := 2000000) only [go_sem]
  first | done | rfl | exact ⟨rfl, rfl⟩ | exact ⟨rfl, rfl, rfl⟩ | (refine tr_and ?_ ?_ <;> first | rfl | exact ⟨rfl, rfl⟩ | kernel_rfl)
theorem l12None_sat {n : Nat} (hn : n ≤ 4) : Sat Tryz.prog 38 [lInt n] [oInts (List.replicate n (-1))] [g1] := by
  refine sat_of_body mixed Tryz.func38 rfl (by kernel_rfl) (by kernel_rfl) (rs := [.tmp 2]) rfl rfl rfl ?_
  simp -implicitDefEqProofs (maxSteps := 2000000) only [go_sem]
  refine awp_loop Nat (fun k => mkSt [(0, .sc (.int .i64 n)), (3, .one (.ref 960 1 0 k))] [] [(960, (1, ints (List.replicate k (-1))))] 2000)
    (fun k => k ≤ n) (fun k => n - k) 0 (by omega) (le_st' _ _ [⟨960, some _, false, 1, _⟩] [] _ (by simp -implicitDefEqProofs (maxSteps := 2000000) only [go_sem, List.replicate_zero] <;> and_intros <;> rfl) (by simp -implicitDefEqProofs (maxSteps := 2000000) only [go_sem, List.replicate_zero] <;> and_intros <;> rfl) (by simp -implicitDefEqProofs (maxSteps := 2000000) only [go_sem, List.replicate_zero] <;> and_intros <;> rfl) (by rfl)) ?_
  rintro k h1
  by_cases c2 : k < n
  · simp -implicitDefEqProofs (maxSteps := 2000000) only [go_sem, c2, List.take_replicate, Nat.min_self, List.length_replicate]
    refine ⟨by omega, k + 1, c2, by omega, ?_⟩
    rw [show List.replicate (k + 1) (-1 : Int) = List.replicate k (-1) ++ [-1] from List.replicate_succ']
    exact (le_st' _ _ [⟨960, some _, false, 1, _⟩] [] _ (by simp -implicitDefEqProofs (maxSteps := 2000000) only [go_sem, List.length_replicate] <;> and_intros <;> rfl) (by simp -implicitDefEqProofs (maxSteps := 2000000) only [go_sem, List.length_replicate] <;> and_intros <;> rfl) (by simp -implicitDefEqProofs (maxSteps := 2000000) only [go_sem, List.length_replicate] <;> and_intros <;> rfl) (by rfl))
  · obtain rfl : k = n := by omega
    simp -implicitDefEqProofs (maxSteps := 2000000) only [go_sem, c2, List.take_replicate, Nat.min_self, List.length_replicate]
    first | done | rfl | exact ⟨rfl, rfl⟩ | exact ⟨rfl, rfl, rfl⟩ | (refine tr_and ?_ ?_ <;> first | rfl | exact ⟨rfl, rfl⟩ | kernel_rfl)
end Go.Proofs.YtedciihjgbkjgabGreat.A


/- EMBEDDINGS: one fact against one atom, the two programs. Conditions: none. -/
namespace Go.Proofs.YtedciihjgbkjgabGreat.A
open Go
set_option linter.unusedSimpArgs false
set_option linter.unusedVariables false
set_option maxRecDepth 100000

theorem isVariable_sat (t : Int) : Sat Tryz.prog 64 [lInt t] [lBool (decide (0 ≤ t))] [g1] := by
  refine sat_of_body mixed Tryz.func64 rfl (by kernel_rfl) (by kernel_rfl) (rs := [.tmp 2]) rfl rfl rfl ?_
  simp -implicitDefEqProofs (maxSteps := 2000000) only [go_sem]
  first | done | rfl | exact ⟨rfl, rfl⟩ | exact ⟨rfl, rfl, rfl⟩ | (refine tr_and ?_ ?_ <;> first | rfl | exact ⟨rfl, rfl⟩ | kernel_rfl)
theorem constantTerm_sat (t : Int) (h : -1000 ≤ t ∧ t ≤ 1000) : Sat Tryz.prog 32 [lInt t] [lInt (-1 - t)] [g1] := by
  refine sat_of_body mixed Tryz.func32 rfl (by kernel_rfl) (by kernel_rfl) (rs := [.tmp 2]) rfl rfl rfl ?_
  have w : IntKind.i64.wrap (-1 - t) = -1 - t := IntWalk.i64_in _ (by omega)
  simp -implicitDefEqProofs (maxSteps := 2000000) only [go_sem, w]
  first | done | rfl | exact ⟨rfl, rfl⟩ | exact ⟨rfl, rfl, rfl⟩ | (refine tr_and ?_ ?_ <;> first | rfl | exact ⟨rfl, rfl⟩ | kernel_rfl)
theorem set_same {x : List Int} {t : Nat} {f : Int} (h : x.getD t 0 = f) : x.set t f = x := by
  refine List.ext_getElem? fun k => ?_
  rw [List.getElem?_set]
  split
  · rename_i e
    subst e
    split
    · rename_i hk
      rw [← h, List.getD_eq_getElem?_getD, List.getElem?_eq_getElem hk]; rfl
    · rename_i hk
      rw [List.getElem?_eq_none (by omega)]
  · rfl
theorem unify_sat (vs ts fs : List Int) (h1 : vs.length ≤ 1048576) (h2 : ts.length ≤ fs.length) (h3 : fs.length ≤ 1048576) (ht : tsOk vs.length ts) :
    Sat Tryz.prog 42 [lInts vs, lInts ts, lInts fs] [oInts ((uniS ts fs vs ts.length).getD []), lBool (uniS ts fs vs ts.length).isSome] [g1, g1, g1] := by
  refine sat_of_body mixed Tryz.func42 rfl (by kernel_rfl) (by kernel_rfl) (rs := [.tmp 6, .tmp 7]) rfl rfl rfl ?_
  simp -implicitDefEqProofs (maxSteps := 2000000) only [go_sem]
  refine call_of (slicesClone_sat vs h1) (by simp -implicitDefEqProofs (maxSteps := 2000000) only [go_sem]) (callOk_still (by kernel_rfl) (by simp only [List.all_cons, List.all_nil, LV.still, LV.leaves, Leaf.still, ints_still, ris_still, eds_still, rels_still, iss_still, ems_still, Bool.and_self, Bool.and_true])) (by simp -implicitDefEqProofs (maxSteps := 2000000) only [go_sem]) ?_
  simp -implicitDefEqProofs (maxSteps := 2000000) only [go_sem]
  refine awp_loop (Nat × List Int) (fun x => mkSt [(2, .one (.im 1 (ints fs))), (8, .one (.ref 960 1 0 vs.length)), (13, .one (.im 1 (ints ts))), (14, .sc (.int .i64 ts.length)), (15, .sc (.int .i64 x.1))] [] [(960, (1, ints x.2))] 2000)
    (fun x => x.1 ≤ ts.length ∧ uniS ts fs vs x.1 = some x.2) (fun x => ts.length - x.1) (0, vs) ⟨by simp, rfl⟩ (le_st' _ _ [⟨960, some _, false, 1, _⟩] [] _ (by simp -implicitDefEqProofs (maxSteps := 2000000) only [go_sem] <;> and_intros <;> rfl) (by simp -implicitDefEqProofs (maxSteps := 2000000) only [go_sem] <;> and_intros <;> rfl) (by simp -implicitDefEqProofs (maxSteps := 2000000) only [go_sem] <;> and_intros <;> rfl) (by rfl)) ?_
  rintro ⟨k, x⟩ ⟨h4, h5⟩
  simp only at h4 h5
  have hx := uniS_len h5
  by_cases c1 : k < ts.length
  · have c2 : k < fs.length := by omega
    obtain ⟨b1, b2⟩ := ht k c1
    have hs := uniS_step h5
    have wk : IntKind.i64.wrap ((k : Int) + 1) = ((k + 1 : Nat) : Int) := i64_succ (by omega)
    by_cases d1 : ts.getD k 0 < 0
    · have e1 : decide (0 ≤ ts.getD k 0) = false := decide_eq_false (by omega)
      by_cases d2 : -1 - ts.getD k 0 = fs.getD k 0
      · have e2 : (-1 - ts.getD k 0 != fs.getD k 0) = false := by rw [bne, d2]; simp
        rw [stepU, if_pos d1, if_pos d2] at hs
        simp -implicitDefEqProofs (maxSteps := 2000000) only [go_sem, c1]
        refine call_of (isVariable_sat (ts.getD k 0)) (by simp -implicitDefEqProofs (maxSteps := 2000000) only [go_sem, e1]) (by kernel_rfl) (by simp -implicitDefEqProofs (maxSteps := 2000000) only [go_sem, e1]) ?_
        simp -implicitDefEqProofs (maxSteps := 2000000) only [go_sem, e1]
        refine call_of (constantTerm_sat (ts.getD k 0) (by omega)) (by simp -implicitDefEqProofs (maxSteps := 2000000) only [go_sem, c2, e2]) (by kernel_rfl) (by simp -implicitDefEqProofs (maxSteps := 2000000) only [go_sem, c2, e2]) ?_
        simp -implicitDefEqProofs (maxSteps := 2000000) only [go_sem, c2, e2]
        first | (with_reducible refine tr_and ?_ ?_; focus kernel_rfl) | (with_reducible refine tr_only ?_; kernel_rfl) | skip
        rw [wk]
        exact ⟨(k + 1, x), ⟨c1, hs⟩, by simp; omega, (le_st' _ _ [⟨960, some _, false, 1, _⟩] [] _ (by simp -implicitDefEqProofs (maxSteps := 2000000) only [go_sem, hx] <;> and_intros <;> rfl) (by simp -implicitDefEqProofs (maxSteps := 2000000) only [go_sem, hx] <;> and_intros <;> rfl) (by simp -implicitDefEqProofs (maxSteps := 2000000) only [go_sem, hx] <;> and_intros <;> rfl) (by rfl))⟩
      · have e2 : (-1 - ts.getD k 0 != fs.getD k 0) = true := by rw [bne, Bool.not_eq_true', beq_eq_false_iff_ne]; exact d2
        rw [stepU, if_pos d1, if_neg d2] at hs
        rw [uniS_stop hs c1]
        simp -implicitDefEqProofs (maxSteps := 2000000) only [go_sem, c1]
        refine call_of (isVariable_sat (ts.getD k 0)) (by simp -implicitDefEqProofs (maxSteps := 2000000) only [go_sem, e1]) (by kernel_rfl) (by simp -implicitDefEqProofs (maxSteps := 2000000) only [go_sem, e1]) ?_
        simp -implicitDefEqProofs (maxSteps := 2000000) only [go_sem, e1]
        refine call_of (constantTerm_sat (ts.getD k 0) (by omega)) (by simp -implicitDefEqProofs (maxSteps := 2000000) only [go_sem, c2, e2]) (by kernel_rfl) (by simp -implicitDefEqProofs (maxSteps := 2000000) only [go_sem, c2, e2]) ?_
        simp -implicitDefEqProofs (maxSteps := 2000000) only [go_sem, c2, e2]
        first | (with_reducible refine tr_and ?_ ?_; focus kernel_rfl) | (with_reducible refine tr_only ?_; kernel_rfl) | skip
        first | done | rfl | exact ⟨rfl, rfl⟩ | exact ⟨rfl, rfl, rfl⟩ | (refine tr_and ?_ ?_ <;> first | rfl | exact ⟨rfl, rfl⟩ | kernel_rfl)
    · have e1 : decide (0 ≤ ts.getD k 0) = true := decide_eq_true (by omega)
      obtain ⟨t, et⟩ : ∃ t : Nat, ts.getD k 0 = t := ⟨(ts.getD k 0).toNat, by omega⟩
      have c3 : t < vs.length := by omega
      rw [et] at hs d1 b2 b1
      rw [stepU, if_neg d1, Int.toNat_natCast] at hs
      rw [et] at e1
      have c4 : t < x.length := by omega
      by_cases d3 : x.getD t 0 < 0
      · rw [if_pos d3] at hs
        have e3 : decide (x.getD t 0 < 0) = true := decide_eq_true d3
        simp -implicitDefEqProofs (maxSteps := 2000000) only [go_sem, c1, et]
        refine call_of (isVariable_sat t) (by simp -implicitDefEqProofs (maxSteps := 2000000) only [go_sem, e1, c2, c3, c4, e3, hx]) (by kernel_rfl) (by simp -implicitDefEqProofs (maxSteps := 2000000) only [go_sem, e1, c2, c3, c4, e3, hx]) ?_
        simp -implicitDefEqProofs (maxSteps := 2000000) only [go_sem, e1, c2, c3, c4, e3, hx]
        rw [wk]
        exact ⟨(k + 1, x.set t (fs.getD k 0)), ⟨c1, hs⟩, by simp; omega, (le_st' _ _ [⟨960, some _, false, 1, _⟩] [] _ (by simp -implicitDefEqProofs (maxSteps := 2000000) only [go_sem, hx] <;> and_intros <;> rfl) (by simp -implicitDefEqProofs (maxSteps := 2000000) only [go_sem, hx] <;> and_intros <;> rfl) (by simp -implicitDefEqProofs (maxSteps := 2000000) only [go_sem, hx] <;> and_intros <;> rfl) (by rfl))⟩
      · rw [if_neg d3] at hs
        have e3 : decide (x.getD t 0 < 0) = false := decide_eq_false d3
        by_cases d4 : x.getD t 0 = fs.getD k 0
        · rw [if_pos d4] at hs
          have e4 : (x.getD t 0 != fs.getD k 0) = false := by rw [bne, d4]; simp
          simp -implicitDefEqProofs (maxSteps := 2000000) only [go_sem, c1, et]
          refine call_of (isVariable_sat t) (by simp -implicitDefEqProofs (maxSteps := 2000000) only [go_sem, e1, c2, c3, c4, e3, e4, hx]) (by kernel_rfl) (by simp -implicitDefEqProofs (maxSteps := 2000000) only [go_sem, e1, c2, c3, c4, e3, e4, hx]) ?_
          simp -implicitDefEqProofs (maxSteps := 2000000) only [go_sem, e1, c2, c3, c4, e3, e4, hx]
          first | (with_reducible refine tr_and ?_ ?_; focus kernel_rfl) | (with_reducible refine tr_only ?_; kernel_rfl) | skip
          rw [wk]
          exact ⟨(k + 1, x), ⟨c1, hs⟩, by simp; omega, (le_st' _ _ [⟨960, some _, false, 1, _⟩] [] _ (by simp -implicitDefEqProofs (maxSteps := 2000000) only [go_sem, hx] <;> and_intros <;> rfl) (by simp -implicitDefEqProofs (maxSteps := 2000000) only [go_sem, hx] <;> and_intros <;> rfl) (by simp -implicitDefEqProofs (maxSteps := 2000000) only [go_sem, hx] <;> and_intros <;> rfl) (by rfl))⟩
        · rw [if_neg d4] at hs
          have e4 : (x.getD t 0 != fs.getD k 0) = true := by rw [bne, Bool.not_eq_true', beq_eq_false_iff_ne]; exact d4
          rw [uniS_stop hs c1]
          simp -implicitDefEqProofs (maxSteps := 2000000) only [go_sem, c1, et]
          refine call_of (isVariable_sat t) (by simp -implicitDefEqProofs (maxSteps := 2000000) only [go_sem, e1, c2, c3, c4, e3, e4, hx]) (by kernel_rfl) (by simp -implicitDefEqProofs (maxSteps := 2000000) only [go_sem, e1, c2, c3, c4, e3, e4, hx]) ?_
          simp -implicitDefEqProofs (maxSteps := 2000000) only [go_sem, e1, c2, c3, c4, e3, e4, hx]
          first | (with_reducible refine tr_and ?_ ?_; focus kernel_rfl) | (with_reducible refine tr_only ?_; kernel_rfl) | skip
          first | done | rfl | exact ⟨rfl, rfl⟩ | exact ⟨rfl, rfl, rfl⟩ | (refine tr_and ?_ ?_ <;> first | rfl | exact ⟨rfl, rfl⟩ | kernel_rfl)
  · obtain rfl : k = ts.length := by omega
    rw [h5]
    simp -implicitDefEqProofs (maxSteps := 2000000) only [go_sem, c1]
    exact ⟨hx.symm, by kernel_rfl⟩
theorem l12Meet_sat (a f : RI) (vs : List Int) (h1 : vs.length ≤ 1048576) (h2 : f.l.length ≤ 1048576) (hl : f.r = a.r → f.l.length = a.l.length) (ht : tsOk vs.length a.l) :
    Sat Tryz.prog 62 [lRI a, lRI f, lInts vs] [oInts (meetV a f vs), lBool (meet a f vs).isSome] [g2, g2, g1] := by
  refine sat_of_body mixed Tryz.func62 rfl (by kernel_rfl) (by kernel_rfl) (rs := [.tmp 6, .tmp 7]) rfl rfl rfl ?_
  rcases a with ⟨ar, ts⟩
  rcases f with ⟨fr, fs⟩
  simp only at h2 hl ht
  unfold meetV meet
  simp only
  simp -implicitDefEqProofs (maxSteps := 2000000) only [go_sem]
  refine ⟨by omega, ?_⟩
  by_cases d0 : fr = ar
  case neg =>
    rw [if_neg d0, if_neg d0]
    have e0 : (fr != ar) = true := by rw [bne, Bool.not_eq_true', beq_eq_false_iff_ne]; exact d0
    simp -implicitDefEqProofs (maxSteps := 2000000) only [go_sem, e0]
    first | done | rfl | exact ⟨rfl, rfl⟩ | exact ⟨rfl, rfl, rfl⟩ | (refine tr_and ?_ ?_ <;> first | rfl | exact ⟨rfl, rfl⟩ | kernel_rfl)
  subst d0
  have hl := hl rfl
  rw [if_pos rfl, if_pos rfl]
  have e0 : (fr != fr) = false := by rw [bne]; simp
  have e1 : ((fs.length : Int) != (ts.length : Int)) = false := by rw [bne, hl]; simp
  simp -implicitDefEqProofs (maxSteps := 2000000) only [go_sem, e0, e1]
  refine awp_loop (Nat × List Int) (fun x => mkSt [(3, .one (.vad 1000 0)), (4, .one (.vad 1064 0)), (8, .one (.ref 960 1 0 vs.length)), (9, .sc (.int .i64 x.1))] [(1000, sRI ⟨fr, ts⟩), (1064, sRI ⟨fr, fs⟩)] [(960, (1, ints x.2))] 4000)
    (fun x => x.1 ≤ ts.length ∧ uniS ts fs vs x.1 = some x.2) (fun x => ts.length - x.1) (0, vs) ⟨by simp, rfl⟩ (le_st' _ _ [⟨960, some _, false, 1, _⟩] [] _ (by simp -implicitDefEqProofs (maxSteps := 2000000) only [go_sem] <;> and_intros <;> rfl) (by simp -implicitDefEqProofs (maxSteps := 2000000) only [go_sem] <;> and_intros <;> rfl) (by simp -implicitDefEqProofs (maxSteps := 2000000) only [go_sem] <;> and_intros <;> rfl) (by rfl)) ?_
  rintro ⟨k, x⟩ ⟨h4, h5⟩
  simp only at h4 h5
  have hx := uniS_len h5
  have hL : List.take vs.length x = x := List.take_of_length_le (by omega)
  by_cases c1 : k < ts.length
  · have c2 : k < fs.length := by omega
    obtain ⟨b1, b2⟩ := ht k c1
    have hs := uniS_step h5
    have wk : IntKind.i64.wrap ((k : Int) + 1) = ((k + 1 : Nat) : Int) := i64_succ (by omega)
    by_cases d1 : ts.getD k 0 < 0
    · have e1 : decide (ts.getD k 0 < 0) = true := decide_eq_true d1
      have w1 : IntKind.i64.wrap (-1 - ts.getD k 0) = -1 - ts.getD k 0 := IntWalk.i64_in _ (by omega)
      by_cases d2 : -1 - ts.getD k 0 = fs.getD k 0
      · have e2 : (-1 - ts.getD k 0 != fs.getD k 0) = false := by rw [bne, d2]; simp
        rw [stepU, if_pos d1, if_pos d2] at hs
        simp -implicitDefEqProofs (maxSteps := 2000000) only [go_sem, c1, c2, e1, e2, w1]
        rw [wk]
        exact ⟨(k + 1, x), ⟨c1, hs⟩, by simp; omega, (le_st' _ _ [⟨960, some _, false, 1, _⟩] [] _ (by simp -implicitDefEqProofs (maxSteps := 2000000) only [go_sem, hx] <;> and_intros <;> rfl) (by simp -implicitDefEqProofs (maxSteps := 2000000) only [go_sem, hx] <;> and_intros <;> rfl) (by simp -implicitDefEqProofs (maxSteps := 2000000) only [go_sem, hx] <;> and_intros <;> rfl) (by rfl))⟩
      · have e2 : (-1 - ts.getD k 0 != fs.getD k 0) = true := by rw [bne, Bool.not_eq_true', beq_eq_false_iff_ne]; exact d2
        rw [stepU, if_pos d1, if_neg d2] at hs
        rw [uniS_stop hs c1, uniL_stop h5 hs c1]
        simp -implicitDefEqProofs (maxSteps := 2000000) only [go_sem, c1, c2, e1, e2, w1]
        exact ⟨⟨hx.symm, rfl⟩, by kernel_rfl⟩
    · have e1 : decide (ts.getD k 0 < 0) = false := decide_eq_false d1
      obtain ⟨t, et⟩ : ∃ t : Nat, ts.getD k 0 = t := ⟨(ts.getD k 0).toNat, by omega⟩
      have c3 : t < vs.length := by omega
      have c4 : t < x.length := by omega
      rw [et] at hs d1 b2 b1 e1
      rw [stepU, if_neg d1, Int.toNat_natCast] at hs
      by_cases d3 : x.getD t 0 < 0
      · rw [if_pos d3] at hs
        have e3 : decide (x.getD t 0 ≥ 0) = false := decide_eq_false (by omega)
        simp -implicitDefEqProofs (maxSteps := 2000000) only [go_sem, c1, et, e1, c2, c3, c4, e3, hx]
        first | (with_reducible refine tr_and ?_ ?_; focus kernel_rfl) | (with_reducible refine tr_only ?_; kernel_rfl) | skip
        rw [wk]
        exact ⟨(k + 1, x.set t (fs.getD k 0)), ⟨c1, hs⟩, by simp; omega, (le_st' _ _ [⟨960, some _, false, 1, _⟩] [] _ (by simp -implicitDefEqProofs (maxSteps := 2000000) only [go_sem, hx] <;> and_intros <;> rfl) (by simp -implicitDefEqProofs (maxSteps := 2000000) only [go_sem, hx] <;> and_intros <;> rfl) (by simp -implicitDefEqProofs (maxSteps := 2000000) only [go_sem, hx] <;> and_intros <;> rfl) (by rfl))⟩
      · rw [if_neg d3] at hs
        have e3 : decide (x.getD t 0 ≥ 0) = true := decide_eq_true (by omega)
        by_cases d4 : x.getD t 0 = fs.getD k 0
        · rw [if_pos d4] at hs
          have e4 : (x.getD t 0 != fs.getD k 0) = false := by rw [bne, d4]; simp
          simp -implicitDefEqProofs (maxSteps := 2000000) only [go_sem, c1, et, e1, c2, c3, c4, e3, e4, hx]
          first | (with_reducible refine tr_and ?_ ?_; focus kernel_rfl) | (with_reducible refine tr_only ?_; kernel_rfl) | skip
          simp -implicitDefEqProofs (maxSteps := 2000000) only [go_sem, c1, et, e1, c2, c3, c4, e3, e4, hx, set_same d4]
          rw [wk]
          exact ⟨(k + 1, x), ⟨c1, hs⟩, by simp; omega, (le_st' _ _ [⟨960, some _, false, 1, _⟩] [] _ (by simp -implicitDefEqProofs (maxSteps := 2000000) only [go_sem, hx, set_same d4] <;> and_intros <;> rfl) (by simp -implicitDefEqProofs (maxSteps := 2000000) only [go_sem, hx, set_same d4] <;> and_intros <;> rfl) (by simp -implicitDefEqProofs (maxSteps := 2000000) only [go_sem, hx, set_same d4] <;> and_intros <;> rfl) (by rfl))⟩
        · rw [if_neg d4] at hs
          have e4 : (x.getD t 0 != fs.getD k 0) = true := by rw [bne, Bool.not_eq_true', beq_eq_false_iff_ne]; exact d4
          rw [uniS_stop hs c1, uniL_stop h5 hs c1]
          simp -implicitDefEqProofs (maxSteps := 2000000) only [go_sem, c1, et, e1, c2, c3, c4, e3, e4, hx]
          first | (with_reducible refine tr_and ?_ ?_; focus kernel_rfl) | (with_reducible refine tr_only ?_; kernel_rfl) | skip
          first | exact ⟨hx.symm, by kernel_rfl⟩ | exact ⟨⟨hx.symm, rfl⟩, by kernel_rfl⟩ | exact ⟨hx.symm, rfl⟩ | rfl | exact ⟨rfl, by kernel_rfl⟩
  · obtain rfl : k = ts.length := by omega
    rw [h5, uniL_some h5]
    simp -implicitDefEqProofs (maxSteps := 2000000) only [go_sem, c1]
    exact ⟨hx.symm, by kernel_rfl⟩
end Go.Proofs.YtedciihjgbkjgabGreat.A


/- EMBEDDINGS: the reference's search. Conditions: none. -/
namespace Go.Proofs.YtedciihjgbkjgabGreat.A
open Go
set_option linter.unusedSimpArgs false
set_option linter.unusedVariables false
set_option maxRecDepth 100000

/-- What the search leans on: the facts' and atoms' lengths. -/
structure FitE (d : Db) (q : Qu) (n : Nat) : Prop where
  facts : d.facts.length ≤ 14
  atoms : q.atoms.length ≤ 3
  small : n ≤ 4
  vals : ∀ i, i < d.facts.length → (d.facts.getD i default).l.length ≤ 1048576
  lens : ∀ k i, k < q.atoms.length → i < d.facts.length → (d.facts.getD i default).r = (q.atoms.getD k default).r → (d.facts.getD i default).l.length = (q.atoms.getD k default).l.length
  terms : ∀ k, k < q.atoms.length → tsOk n (q.atoms.getD k default).l
theorem goodFact_len {l : List Rel} {f : RI} (h : goodFact l f = true) (hl : goodRels l = true) : f.l.length ≤ 3 := by
  unfold goodFact at h
  simp only [Bool.and_eq_true, beq_iff_eq] at h
  obtain ⟨h1, h2, _⟩ := h
  have h1 := inB_of h1
  have : f.r.toNat < l.length := by omega
  unfold goodRels at hl
  rw [Bool.and_eq_true] at hl
  have h3 := upTo_at hl.1 this
  unfold relOk goodRel at h3
  simp only [Bool.and_eq_true] at h3
  have h4 := inB_of h3.1.2.2.2.1
  omega
theorem fitE {d : Db} {q : Qu} (h : queryFor d q = true) : FitE d q q.vc.toNat := by
  have h1 := goodDb_len (queryFor_db h)
  have h2 := goodQu_parts (queryFor_qu h)
  have hr : goodRels d.rels = true := by
    have := queryFor_db h
    unfold goodDb at this
    rw [Bool.and_eq_true] at this
    exact this.1
  refine ⟨h1, h2.2.2, by omega, fun i hi => ?_, fun k i hk hi e => meet_lens h hk hi e, fun k hk => tsOk_at (queryFor_qu h) hk⟩
  have := goodFact_len (goodDb_fact (queryFor_db h) hi) hr
  omega
theorem l12Walk_sat (d : Db) (q : Qu) {n : Nat} (F : FitE d q n) : ∀ (m : Nat) (vs fs : List Int), m ≤ q.atoms.length → vs.length = n → fs.length + m ≤ 3 →
    Sat Tryz.prog 37 [lDb d, lQu q, lInt ((q.atoms.length - m : Nat) : Int), lInts vs, lInts fs] [oEms (walkE d.facts q.atoms m vs fs)] [g2, g3, g1, g1, g1]
  | 0, vs, fs, h1, h2, h3 => by
    have := F.small
    refine sat_of_body mixed Tryz.func37 rfl (by kernel_rfl) (by kernel_rfl) (rs := [.tmp 10]) rfl rfl rfl ?_
    unfold walkE
    rw [Nat.sub_zero]
    simp -implicitDefEqProofs (maxSteps := 2000000) only [go_sem]
    repeat (refine ⟨by omega, ?_⟩)
    first | done | rfl | exact ⟨rfl, rfl⟩ | exact ⟨rfl, rfl, rfl⟩ | (refine tr_and ?_ ?_ <;> first | rfl | exact ⟨rfl, rfl⟩ | kernel_rfl)
  | m + 1, vs, fs, h1, h2, h3 => by
    have f1 := F.facts
    have f2 := F.atoms
    have f3 := F.small
    refine sat_of_body mixed Tryz.func37 rfl (by kernel_rfl) (by kernel_rfl) (rs := [.tmp 10]) rfl rfl rfl ?_
    rw [walkE_succ]
    obtain ⟨j, hj⟩ : ∃ j, j = q.atoms.length - (m + 1) := ⟨_, rfl⟩
    have hj2 : q.atoms.length - m = j + 1 := by omega
    rw [← hj]
    have c0 : j < q.atoms.length := by omega
    have ne : ((j : Int) == (q.atoms.length : Int)) = false := by rw [beq_eq_false_iff_ne]; omega
    have wj : IntKind.i64.wrap ((j : Int) + 1) = ((j + 1 : Nat) : Int) := i64_succ (by omega)
    simp -implicitDefEqProofs (maxSteps := 2000000) only [go_sem, ne]
    refine awp_loop Nat (fun k => mkSt [(2, .sc (.int .i64 j)), (3, .one (.im 1 (ints vs))), (4, .one (.im 1 (ints fs))), (5, .one (.vad 1000 0)), (6, .one (.vad 1064 0)), (11, .one (.ref 960 2 0 (found (oneE d.facts q.atoms m vs fs) k).length)), (12, .sc (.int .i64 k))] [(1000, sDb d), (1064, sQu q)] [(960, (2, ems 999 (found (oneE d.facts q.atoms m vs fs) k)))] 4000)
      (fun k => k ≤ d.facts.length) (fun k => d.facts.length - k) 0 (by omega) (le_st' _ _ [⟨960, some _, false, 2, _⟩] [] _ (by simp -implicitDefEqProofs (maxSteps := 2000000) only [go_sem, found_zero] <;> and_intros <;> rfl) (by simp -implicitDefEqProofs (maxSteps := 2000000) only [go_sem, found_zero] <;> and_intros <;> rfl) (by simp -implicitDefEqProofs (maxSteps := 2000000) only [go_sem, found_zero] <;> and_intros <;> rfl) (by rfl)) ?_
    rintro k h4
    have hlen : (found (oneE d.facts q.atoms m vs fs) k).length ≤ 14 * 14 ^ m := by
      refine Nat.le_trans (found_len (b := 14 ^ m) (fun i => ?_) k) (Nat.mul_le_mul_right _ (by omega))
      unfold oneE
      split
      · exact walkE_len f1 m _ _
      · simp
    have hp := pow14E (m := m) (by omega)
    by_cases c1 : k < d.facts.length
    · have wk : IntKind.i64.wrap ((k : Int) + 1) = ((k + 1 : Nat) : Int) := i64_succ (by omega)
      have hat : atomAt q.atoms m = q.atoms.getD j default := by rw [atomAt, ← hj]
      rcases hm : meet (atomAt q.atoms m) (d.facts.getD k default) vs with _ | x
      · have ho := oneE_none (fs := fs) hm
        rw [hat] at hm
        simp -implicitDefEqProofs (maxSteps := 2000000) only [go_sem, c0, c1]
        refine call_of (l12Meet_sat (q.atoms.getD j default) (d.facts.getD k default) vs (by omega) (F.vals k c1) (F.lens j k c0 c1) (by rw [h2]; exact F.terms j c0)) (by simp -implicitDefEqProofs (maxSteps := 2000000) only [go_sem, hm, Option.isSome_none]) (callOk_still (by kernel_rfl) (by simp only [List.all_cons, List.all_nil, LV.still, LV.leaves, Leaf.still, ints_still, ris_still, eds_still, rels_still, iss_still, ems_still, Bool.and_self, Bool.and_true])) (by simp -implicitDefEqProofs (maxSteps := 2000000) only [go_sem, hm, Option.isSome_none]) ?_
        simp -implicitDefEqProofs (maxSteps := 2000000) only [go_sem, hm, Option.isSome_none]
        first | (with_reducible refine tr_and ?_ ?_; focus kernel_rfl) | (with_reducible refine tr_only ?_; kernel_rfl) | skip
        rw [wk]
        refine ⟨k + 1, c1, by omega, ?_⟩
        rw [found_succ, ho, List.append_nil]
        exact (le_st' _ _ [⟨960, some _, false, 2, _⟩] [] _ (by simp -implicitDefEqProofs (maxSteps := 2000000) only [go_sem] <;> and_intros <;> rfl) (by simp -implicitDefEqProofs (maxSteps := 2000000) only [go_sem] <;> and_intros <;> rfl) (by simp -implicitDefEqProofs (maxSteps := 2000000) only [go_sem] <;> and_intros <;> rfl) (by rfl))
      · have ho := oneE_some (fs := fs) hm
        have hv := meetV_eq hm
        have hxl := meet_len hm
        rw [hat] at hm hv
        have hl2 := walkE_len f1 (ats := q.atoms) m x (fs ++ [(k : Int)])
        have ih := l12Walk_sat d q F m x (fs ++ [(k : Int)]) (by omega) (by omega) (by simp; omega)
        rw [hj2] at ih
        simp -implicitDefEqProofs (maxSteps := 2000000) only [go_sem, c0, c1]
        refine call_of (l12Meet_sat (q.atoms.getD j default) (d.facts.getD k default) vs (by omega) (F.vals k c1) (F.lens j k c0 c1) (by rw [h2]; exact F.terms j c0)) (by simp -implicitDefEqProofs (maxSteps := 2000000) only [go_sem, hm, hv, Option.isSome_some, wj]) (callOk_still (by kernel_rfl) (by simp only [List.all_cons, List.all_nil, LV.still, LV.leaves, Leaf.still, ints_still, ris_still, eds_still, rels_still, iss_still, ems_still, Bool.and_self, Bool.and_true])) (by simp -implicitDefEqProofs (maxSteps := 2000000) only [go_sem, hm, hv, Option.isSome_some, wj]) ?_
        simp -implicitDefEqProofs (maxSteps := 2000000) only [go_sem, hm, hv, Option.isSome_some, wj]
        first | (with_reducible refine tr_and ?_ ?_; focus kernel_rfl) | (with_reducible refine tr_only ?_; kernel_rfl) | skip
        repeat (refine ⟨by omega, ?_⟩)
        refine call_of (ih) (by simp -implicitDefEqProofs (maxSteps := 2000000) only [go_sem]) (callOk_still (by kernel_rfl) (by simp only [List.all_cons, List.all_nil, LV.still, LV.leaves, Leaf.still, ints_still, ris_still, eds_still, rels_still, iss_still, ems_still, Bool.and_self, Bool.and_true])) (by simp -implicitDefEqProofs (maxSteps := 2000000) only [go_sem]) ?_
        simp -implicitDefEqProofs (maxSteps := 2000000) only [go_sem]
        split
        · refine ⟨by omega, tr_and (by kernel_rfl) ?_⟩
          rw [wk]
          refine ⟨k + 1, c1, by omega, ?_⟩
          rw [found_succ, ho]
          exact (le_st' _ _ [⟨960, some _, false, 2, _⟩] [] _ (by simp -implicitDefEqProofs (maxSteps := 2000000) only [go_sem] <;> and_intros <;> rfl) (by simp -implicitDefEqProofs (maxSteps := 2000000) only [go_sem] <;> and_intros <;> rfl) (by simp -implicitDefEqProofs (maxSteps := 2000000) only [go_sem] <;> and_intros <;> rfl) (by rfl))
        · refine ⟨by omega, tr_and (by kernel_rfl) ?_⟩
          rw [wk]
          refine ⟨k + 1, c1, by omega, ?_⟩
          rw [found_succ, ho]
          exact (le_st' _ _ [⟨960, some _, false, 2, _⟩] [] _ (by simp -implicitDefEqProofs (maxSteps := 2000000) only [go_sem] <;> and_intros <;> rfl) (by simp -implicitDefEqProofs (maxSteps := 2000000) only [go_sem] <;> and_intros <;> rfl) (by simp -implicitDefEqProofs (maxSteps := 2000000) only [go_sem] <;> and_intros <;> rfl) (by rfl))
    · obtain rfl : k = d.facts.length := by omega
      simp -implicitDefEqProofs (maxSteps := 2000000) only [go_sem, c1]
      kernel_rfl
end Go.Proofs.YtedciihjgbkjgabGreat.A


/- EMBEDDINGS: the reference's function; the program's search. Conditions: none. -/
namespace Go.Proofs.YtedciihjgbkjgabGreat.A
open Go
set_option linter.unusedSimpArgs false
set_option linter.unusedVariables false
set_option maxRecDepth 100000

theorem ints_nilfE : (ints [] = frz []) = True := eq_true rfl
attribute [go_sem] ints_nilfE
theorem specFindEmbeddings_sat (d : Db) (q : Qu) (h : d.fit) (hq : q.fit) : Sat Tryz.prog 13 [lDb d, lQu q] [oEms (embs d q)] [g2, g3] := by
  refine sat_of_body mixed Tryz.func13 rfl (by kernel_rfl) (by kernel_rfl) (rs := [.tmp 4]) rfl rfl rfl ?_
  unfold embs
  simp -implicitDefEqProofs (maxSteps := 2000000) only [go_sem]
  rcases g : queryFor d q
  · rw [if_neg (by simp)]
    refine call_of (specIsQueryFor_sat d q h hq) (by simp -implicitDefEqProofs (maxSteps := 2000000) only [go_sem, g]) (by kernel_rfl) (by simp -implicitDefEqProofs (maxSteps := 2000000) only [go_sem, g]) ?_
    simp -implicitDefEqProofs (maxSteps := 2000000) only [go_sem, g]
    first | done | rfl | exact ⟨rfl, rfl⟩ | exact ⟨rfl, rfl, rfl⟩ | (refine tr_and ?_ ?_ <;> first | rfl | exact ⟨rfl, rfl⟩ | kernel_rfl)
  have F := fitE g
  have hp := goodQu_parts (queryFor_qu g)
  rw [if_pos rfl]
  rcases q with ⟨vc, ats, fr⟩
  simp only at hp F
  obtain ⟨n, rfl⟩ : ∃ n : Nat, vc = n := ⟨vc.toNat, by omega⟩
  rw [Int.toNat_natCast] at F
  have hw := l12Walk_sat d ⟨n, ats, fr⟩ F ats.length (List.replicate n (-1)) [] (Nat.le_refl _) (by simp) (by have := F.atoms; simp only at this; simp; omega)
  simp only [Nat.sub_self] at hw
  refine call_of (specIsQueryFor_sat d ⟨n, ats, fr⟩ h hq) (by simp -implicitDefEqProofs (maxSteps := 2000000) only [go_sem, g]) (by kernel_rfl) (by simp -implicitDefEqProofs (maxSteps := 2000000) only [go_sem, g]) ?_
  simp -implicitDefEqProofs (maxSteps := 2000000) only [go_sem, g]
  refine call_of (l12None_sat F.small) (by simp -implicitDefEqProofs (maxSteps := 2000000) only [go_sem]) (callOk_still (by kernel_rfl) (by simp only [List.all_cons, List.all_nil, LV.still, LV.leaves, Leaf.still, ints_still, ris_still, eds_still, rels_still, iss_still, ems_still, Bool.and_self, Bool.and_true])) (by simp -implicitDefEqProofs (maxSteps := 2000000) only [go_sem]) ?_
  simp -implicitDefEqProofs (maxSteps := 2000000) only [go_sem]
  refine call_of (hw) (by simp -implicitDefEqProofs (maxSteps := 2000000) only [go_sem, List.take_replicate, Nat.min_self]) (callOk_still (by kernel_rfl) (by simp only [List.all_cons, List.all_nil, LV.still, LV.leaves, Leaf.still, ints_still, ris_still, eds_still, rels_still, iss_still, ems_still, Bool.and_self, Bool.and_true])) (by simp -implicitDefEqProofs (maxSteps := 2000000) only [go_sem, List.take_replicate, Nat.min_self]) ?_
  simp -implicitDefEqProofs (maxSteps := 2000000) only [go_sem, List.take_replicate, Nat.min_self]
  first | (with_reducible refine tr_and ?_ ?_; focus kernel_rfl) | (with_reducible refine tr_only ?_; kernel_rfl) | skip
  first | done | rfl | exact ⟨rfl, rfl⟩ | exact ⟨rfl, rfl, rfl⟩ | (refine tr_and ?_ ?_ <;> first | rfl | exact ⟨rfl, rfl⟩ | kernel_rfl)

abbrev embT (d : Db) (q : Qu) (o : List Emb) : List CV := [.flds [.sc (.int .i64 q.vc), .im 2 (ris 0 q.atoms), .im 1 (ints q.free)], .own 2 (ems 999 o), .flds [.im 3 (rels d.rels), .im 2 (ris 0 d.facts)], .self 40]
theorem embT_stm (d : Db) (q : Qu) (o : List Emb) : ∀ w rows, CV.own w rows ∈ embT d q o → stm 999 rows = rows := by
  intro w rows h
  simp at h
  obtain ⟨rfl, rfl⟩ := h
  exact ems_stm 999 998 o
theorem searchE_zero (d : Db) (q : Qu) (vs fs : List Int) (o : List Emb) (h1 : vs.length ≤ 4) (h2 : fs.length = q.atoms.length) (h3 : fs.length ≤ 3) (ho : o.length ≤ 16384) :
    RSat Tryz.prog 40 [lInts vs, lInts fs] (embT d q o) (embT d q (o ++ [⟨vs, fs⟩])) := by
  refine rsat_of_body Tryz.func40 rfl (by kernel_rfl) rfl rfl (embT_stm _ _ _) ?_
  have e : ((fs.length : Int) == (q.atoms.length : Int)) = true := by rw [h2]; simp
  refine bwp_seq mixed (by kernel_rfl) ?_
  simp -implicitDefEqProofs (maxSteps := 2000000) only [go_sem, e]
  refine call_of (slicesClone_sat vs (by omega)) (by simp -implicitDefEqProofs (maxSteps := 2000000) only [go_sem]) (callOk_still (by kernel_rfl) (by simp only [List.all_cons, List.all_nil, LV.still, LV.leaves, Leaf.still, ints_still, ris_still, eds_still, rels_still, iss_still, ems_still, Bool.and_self, Bool.and_true])) (by simp -implicitDefEqProofs (maxSteps := 2000000) only [go_sem]) ?_
  simp -implicitDefEqProofs (maxSteps := 2000000) only [go_sem]
  refine call_of (slicesClone_sat fs (by omega)) (by simp -implicitDefEqProofs (maxSteps := 2000000) only [go_sem]) (callOk_still (by kernel_rfl) (by simp only [List.all_cons, List.all_nil, LV.still, LV.leaves, Leaf.still, ints_still, ris_still, eds_still, rels_still, iss_still, ems_still, Bool.and_self, Bool.and_true])) (by simp -implicitDefEqProofs (maxSteps := 2000000) only [go_sem]) ?_
  simp -implicitDefEqProofs (maxSteps := 2000000) only [go_sem]
  repeat (refine ⟨by omega, ?_⟩)
  first | (with_reducible refine tr_and ?_ ?_; focus kernel_rfl) | (with_reducible refine tr_only ?_; kernel_rfl) | skip
  exact (le_st' _ _ [⟨960, some _, false, 2, _⟩] [] _ (by simp -implicitDefEqProofs (maxSteps := 2000000) only [go_sem, rep1, List.set_cons_zero, ems_one] <;> and_intros <;> rfl) (by simp -implicitDefEqProofs (maxSteps := 2000000) only [go_sem, rep1, List.set_cons_zero, ems_one] <;> and_intros <;> rfl) (by simp -implicitDefEqProofs (maxSteps := 2000000) only [go_sem, rep1, List.set_cons_zero, ems_one] <;> and_intros <;> rfl) (by rfl))
theorem searchE_step (d : Db) (q : Qu) {n : Nat} (F : FitE d q n) (m j : Nat) (hj : j = q.atoms.length - (m + 1)) (c0 : j < q.atoms.length) (vs fs : List Int) (o : List Emb) (h1 : vs.length = n) (h2 : fs.length = j) (ho : o.length + 14 * 14 ^ m ≤ 16384)
    (ih : ∀ (k : Nat) (x : List Int) (o : List Emb), x.length = n → o.length + 14 ^ m ≤ 16384 → RSat Tryz.prog 40 [lInts x, lInts (fs ++ [(k : Int)])] (embT d q o) (embT d q (o ++ walkE d.facts q.atoms m x (fs ++ [(k : Int)])))) :
    RSat Tryz.prog 40 [lInts vs, lInts fs] (embT d q o) (embT d q (o ++ walkE d.facts q.atoms (m + 1) vs fs)) := by
  refine rsat_of_body Tryz.func40 rfl (by kernel_rfl) rfl rfl (embT_stm _ _ _) ?_
  have f1 := F.facts
  have f2 := F.atoms
  have f3 := F.small
  have e : ((fs.length : Int) == (q.atoms.length : Int)) = false := by rw [beq_eq_false_iff_ne]; omega
  have c0' : fs.length < q.atoms.length := by omega
  refine bwp_seq mixed (by kernel_rfl) ?_
  simp -implicitDefEqProofs (maxSteps := 2000000) only [go_sem, e]
  refine bwp_seq mixed (by kernel_rfl) ?_
  simp -implicitDefEqProofs (maxSteps := 2000000) only [go_sem, c0']
  refine bwp_seq mixed (by kernel_rfl) ?_
  simp -implicitDefEqProofs (maxSteps := 2000000) only [go_sem]
  refine bwp_block ?_
  refine bwp_loop Nat (fun k => mkSt [(0, .one (.im 1 (ints vs))), (1, .one (.im 1 (ints fs))), (2, .one (.vad 900 0)), (3, .one (.vad 901 0)), (4, .one (.vad 902 0)), (5, .one (.vad 903 0)), (8, .one (.ipt (fRI (q.atoms.getD fs.length default)) 0)), (34, .one (.im 2 (ris 0 d.facts))), (35, .sc (.int .i64 d.facts.length)), (36, .sc (.int .i64 k))]
    [(900, sQu q), (901, [.ref 960 2 0 (o ++ found (oneE d.facts q.atoms m vs fs) k).length]), (902, sDb d), (903, [.fnv 40 [900, 901, 902, 903]])] [(960, (2, ems 999 (o ++ found (oneE d.facts q.atoms m vs fs) k)))] 4000)
    (fun k => k ≤ d.facts.length) (fun k => d.facts.length - k) 0 (by omega) (le_st' _ _ [⟨960, some _, false, 2, _⟩] [1768] _ (by simp -implicitDefEqProofs (maxSteps := 2000000) only [go_sem, found_zero, List.append_nil] <;> and_intros <;> first | rfl | exact List.mem_singleton_self _ | decide | (refine ⟨_, rfl, Eq.symm ?_⟩; simp -implicitDefEqProofs (maxSteps := 2000000) only [go_sem, found_zero, List.append_nil]; done) | (refine ⟨_, rfl, Eq.symm ?_⟩; simp -implicitDefEqProofs (maxSteps := 2000000) only [go_sem, found_zero, List.append_nil]; rfl)) (by simp -implicitDefEqProofs (maxSteps := 2000000) only [go_sem, found_zero, List.append_nil] <;> and_intros <;> first | rfl | exact List.mem_singleton_self _ | decide | (refine ⟨_, rfl, Eq.symm ?_⟩; simp -implicitDefEqProofs (maxSteps := 2000000) only [go_sem, found_zero, List.append_nil]; done) | (refine ⟨_, rfl, Eq.symm ?_⟩; simp -implicitDefEqProofs (maxSteps := 2000000) only [go_sem, found_zero, List.append_nil]; rfl)) (by simp -implicitDefEqProofs (maxSteps := 2000000) only [go_sem, found_zero, List.append_nil] <;> and_intros <;> rfl) (by rfl)) ?_
  rintro k h4
  have hlen : (found (oneE d.facts q.atoms m vs fs) k).length ≤ k * 14 ^ m := by
    refine found_len (b := 14 ^ m) (fun i => ?_) k
    unfold oneE
    split
    · exact walkE_len f1 m _ _
    · simp
  by_cases c1 : k < d.facts.length
  · have wk : IntKind.i64.wrap ((k : Int) + 1) = ((k + 1 : Nat) : Int) := i64_succ (by omega)
    have hat : atomAt q.atoms m = q.atoms.getD fs.length default := by rw [atomAt, ← hj, h2]
    refine bwp_seq mixed (by kernel_rfl) ?_
    simp -implicitDefEqProofs (maxSteps := 2000000) only [go_sem, c1]
    refine bwp_seq mixed (by kernel_rfl) ?_
    simp -implicitDefEqProofs (maxSteps := 2000000) only [go_sem]
    refine bwp_seqB (bwp_block ?_)
    refine bwp_seq mixed (by kernel_rfl) ?_
    simp -implicitDefEqProofs (maxSteps := 2000000) only [go_sem, c1]
    refine bwp_seq mixed (by kernel_rfl) ?_
    by_cases d1 : (d.facts.getD k default).r = (q.atoms.getD fs.length default).r
    case neg =>
      have e1 : ((d.facts.getD k default).r != (q.atoms.getD fs.length default).r) = true := by rw [bne, Bool.not_eq_true', beq_eq_false_iff_ne]; exact d1
      have hm : meet (atomAt q.atoms m) (d.facts.getD k default) vs = none := by rw [hat, meet, if_neg d1]
      have ho := oneE_none (fs := fs) hm
      simp -implicitDefEqProofs (maxSteps := 2000000) only [go_sem, e1]
      refine bwp_awp mixed (by kernel_rfl) ?_
      simp -implicitDefEqProofs (maxSteps := 2000000) only [go_sem, wk]
      refine ⟨k + 1, c1, by omega, ?_⟩
      rw [found_succ, ho, List.append_nil]
      exact (le_st' _ _ [⟨960, some _, false, 2, _⟩] [] _ (by simp -implicitDefEqProofs (maxSteps := 2000000) only [go_sem] <;> and_intros <;> rfl) (by simp -implicitDefEqProofs (maxSteps := 2000000) only [go_sem] <;> and_intros <;> rfl) (by simp -implicitDefEqProofs (maxSteps := 2000000) only [go_sem] <;> and_intros <;> rfl) (by rfl))
    have e1 : ((d.facts.getD k default).r != (q.atoms.getD fs.length default).r) = false := by rw [bne, d1]; simp
    have hls := F.lens fs.length k c0' c1 d1
    have hvl := F.vals k c1
    simp -implicitDefEqProofs (maxSteps := 2000000) only [go_sem, e1]
    refine bwp_seq mixed (by kernel_rfl) ?_
    simp -implicitDefEqProofs (maxSteps := 2000000) only [go_sem]
    rcases hu : uniS (q.atoms.getD fs.length default).l (d.facts.getD k default).l vs (q.atoms.getD fs.length default).l.length with _ | x
    · have hm : meet (atomAt q.atoms m) (d.facts.getD k default) vs = none := by rw [hat, meet, if_pos d1, hu]
      have ho := oneE_none (fs := fs) hm
      refine call_of (unify_sat vs (q.atoms.getD fs.length default).l (d.facts.getD k default).l (by omega) (by omega) hvl (by rw [h1]; exact F.terms fs.length c0')) (by simp -implicitDefEqProofs (maxSteps := 2000000) only [go_sem, hu, Option.isSome_none, Option.getD_none]) (callOk_still (by kernel_rfl) (by simp only [List.all_cons, List.all_nil, LV.still, LV.leaves, Leaf.still, ints_still, ris_still, eds_still, rels_still, iss_still, ems_still, Bool.and_self, Bool.and_true])) (by simp -implicitDefEqProofs (maxSteps := 2000000) only [go_sem, hu, Option.isSome_none, Option.getD_none]) ?_
      simp -implicitDefEqProofs (maxSteps := 2000000) only [go_sem, hu, Option.isSome_none, Option.getD_none]
      refine bwp_seq mixed (by kernel_rfl) ?_
      simp -implicitDefEqProofs (maxSteps := 2000000) only [go_sem]
      refine bwp_cond (t := false) (by simp -implicitDefEqProofs (maxSteps := 2000000) only [go_sem]) (fun h => by cases h) fun _ => bwp_skip ?_
      simp -implicitDefEqProofs (maxSteps := 2000000) only [go_sem]
      refine bwp_awp mixed (by kernel_rfl) ?_
      simp -implicitDefEqProofs (maxSteps := 2000000) only [go_sem, wk]
      refine ⟨k + 1, c1, by omega, ?_⟩
      rw [found_succ, ho, List.append_nil]
      exact (le_st' _ _ [⟨960, some _, false, 2, _⟩] [] _ (by simp -implicitDefEqProofs (maxSteps := 2000000) only [go_sem] <;> and_intros <;> rfl) (by simp -implicitDefEqProofs (maxSteps := 2000000) only [go_sem] <;> and_intros <;> rfl) (by simp -implicitDefEqProofs (maxSteps := 2000000) only [go_sem] <;> and_intros <;> rfl) (by rfl))
    · have hm : meet (atomAt q.atoms m) (d.facts.getD k default) vs = some x := by rw [hat, meet, if_pos d1, hu]
      have ho := oneE_some (fs := fs) hm
      have hxl := meet_len hm
      refine call_of (unify_sat vs (q.atoms.getD fs.length default).l (d.facts.getD k default).l (by omega) (by omega) hvl (by rw [h1]; exact F.terms fs.length c0')) (by simp -implicitDefEqProofs (maxSteps := 2000000) only [go_sem, hu, Option.isSome_some, Option.getD_some]) (callOk_still (by kernel_rfl) (by simp only [List.all_cons, List.all_nil, LV.still, LV.leaves, Leaf.still, ints_still, ris_still, eds_still, rels_still, iss_still, ems_still, Bool.and_self, Bool.and_true])) (by simp -implicitDefEqProofs (maxSteps := 2000000) only [go_sem, hu, Option.isSome_some, Option.getD_some]) ?_
      simp -implicitDefEqProofs (maxSteps := 2000000) only [go_sem, hu, Option.isSome_some, Option.getD_some]
      refine bwp_seq mixed (by kernel_rfl) ?_
      simp -implicitDefEqProofs (maxSteps := 2000000) only [go_sem]
      refine bwp_cond (t := true) (by simp -implicitDefEqProofs (maxSteps := 2000000) only [go_sem]) (fun _ => ?_) fun h => by cases h
      refine bwp_callD mixed (ih k x (o ++ found (oneE d.facts q.atoms m vs fs) k) (by omega) (by
        have := Nat.mul_le_mul_right (14 ^ m) (show k + 1 ≤ 14 by omega)
        rw [Nat.succ_mul] at this
        rw [List.length_append]; omega)) [900, 901, 902, 903] 960 960 8000
        [(0, .one (.im 1 (ints vs))), (1, .one (.im 1 (ints fs))), (2, .one (.vad 900 0)), (3, .one (.vad 901 0)), (4, .one (.vad 902 0)), (5, .one (.vad 903 0)), (8, .one (.ipt (fRI (q.atoms.getD fs.length default)) 0)), (34, .one (.im 2 (ris 0 d.facts))), (35, .sc (.int .i64 d.facts.length)), (36, .sc (.int .i64 k))]
        rfl rfl rfl (by kernel_rfl) (by kernel_rfl) ?_ ?_
      · simp -implicitDefEqProofs (maxSteps := 2000000) only [go_sem]
        refine call_of (slicesClone_sat fs (by omega)) (by simp -implicitDefEqProofs (maxSteps := 2000000) only [go_sem]) (callOk_still (by kernel_rfl) (by simp only [List.all_cons, List.all_nil, LV.still, LV.leaves, Leaf.still, ints_still, ris_still, eds_still, rels_still, iss_still, ems_still, Bool.and_self, Bool.and_true])) (by simp -implicitDefEqProofs (maxSteps := 2000000) only [go_sem]) ?_
        simp -implicitDefEqProofs (maxSteps := 2000000) only [go_sem]
        repeat (refine ⟨by omega, ?_⟩)
        refine tr_and (by kernel_rfl) ?_
        rfl
      · simp -implicitDefEqProofs (maxSteps := 2000000) only [go_sem]
        refine bwp_awp mixed (by kernel_rfl) ?_
        simp -implicitDefEqProofs (maxSteps := 2000000) only [go_sem, wk]
        refine ⟨k + 1, c1, by omega, ?_⟩
        rw [found_succ, ho]
        exact (le_st' _ _ [⟨960, some _, false, 2, _⟩] [] _ (by simp -implicitDefEqProofs (maxSteps := 2000000) only [go_sem] <;> and_intros <;> rfl) (by simp -implicitDefEqProofs (maxSteps := 2000000) only [go_sem] <;> and_intros <;> rfl) (by simp -implicitDefEqProofs (maxSteps := 2000000) only [go_sem] <;> and_intros <;> rfl) (by rfl))
  · obtain rfl : k = d.facts.length := by omega
    refine bwp_seq mixed (by kernel_rfl) ?_
    simp -implicitDefEqProofs (maxSteps := 2000000) only [go_sem, c1]
    refine bwp_seq mixed (by kernel_rfl) ?_
    simp -implicitDefEqProofs (maxSteps := 2000000) only [go_sem]
    rw [walkE_succ]
    exact (le_st' _ _ [⟨960, some _, false, 2, _⟩] [] _ (by simp -implicitDefEqProofs (maxSteps := 2000000) only [go_sem] <;> and_intros <;> rfl) (by simp -implicitDefEqProofs (maxSteps := 2000000) only [go_sem] <;> and_intros <;> rfl) (by simp -implicitDefEqProofs (maxSteps := 2000000) only [go_sem] <;> and_intros <;> rfl) (by rfl))
theorem searchE_all (d : Db) (q : Qu) {n : Nat} (F : FitE d q n) : ∀ (m : Nat) (vs fs : List Int) (o : List Emb), vs.length = n → fs.length + m = q.atoms.length → o.length + 14 ^ m ≤ 16384 →
    RSat Tryz.prog 40 [lInts vs, lInts fs] (embT d q o) (embT d q (o ++ walkE d.facts q.atoms m vs fs))
  | 0, vs, fs, o, h1, h2, h3 => searchE_zero d q vs fs o (by have := F.small; omega) (by omega) (by have := F.atoms; omega) (by omega)
  | m + 1, vs, fs, o, h1, h2, h3 =>
    searchE_step d q F m fs.length (by omega) (by omega) vs fs o h1 rfl (by rw [Nat.pow_succ] at h3; omega)
      fun k x o h4 h5 => searchE_all d q F m x (fs ++ [(k : Int)]) o h4 (by rw [List.length_append, List.length_singleton]; omega) h5
set_option maxHeartbeats 4000000 in
theorem implFindEmbeddings_sat (d : Db) (q : Qu) (h : d.fit) (hq : q.ok) : Sat Tryz.prog 15 [lDb d, lQu q] [oEms (embs d q)] [g2, g3] := by
  refine sat_of_bodyB Tryz.func15 rfl (by kernel_rfl) (rs := [.tmp 4]) rfl rfl rfl ?_
  unfold embs
  refine bwp_seq mixed (by kernel_rfl) ?_
  simp -implicitDefEqProofs (maxSteps := 2000000) only [go_sem]
  refine bwp_seq mixed (by kernel_rfl) ?_
  simp -implicitDefEqProofs (maxSteps := 2000000) only [go_sem]
  refine bwp_seq mixed (by kernel_rfl) ?_
  simp -implicitDefEqProofs (maxSteps := 2000000) only [go_sem]
  rcases g : queryFor d q
  · rw [if_neg (by simp)]
    refine call_of (implIsQueryFor_sat d q h hq) (by simp -implicitDefEqProofs (maxSteps := 2000000) only [go_sem, g]) (by kernel_rfl) (by simp -implicitDefEqProofs (maxSteps := 2000000) only [go_sem, g]) ?_
    simp -implicitDefEqProofs (maxSteps := 2000000) only [go_sem, g]
    first | done | rfl | exact ⟨rfl, rfl⟩ | exact ⟨rfl, rfl, rfl⟩ | (refine tr_and ?_ ?_ <;> first | rfl | exact ⟨rfl, rfl⟩ | kernel_rfl)
  have F := fitE g
  have hp := goodQu_parts (queryFor_qu g)
  rw [if_pos rfl]
  rcases q with ⟨vc, ats, fr⟩
  simp only at hp F
  obtain ⟨n, rfl⟩ : ∃ n : Nat, vc = n := ⟨vc.toNat, by omega⟩
  rw [Int.toNat_natCast] at F
  have hw := searchE_all d ⟨n, ats, fr⟩ F ats.length (List.replicate n (-1)) [] [] (by simp) (by simp) (by have := pow14E (m := ats.length) (by omega); simp only [List.length_nil]; omega)
  rw [List.nil_append] at hw
  refine call_of (implIsQueryFor_sat d ⟨n, ats, fr⟩ h hq) (by simp -implicitDefEqProofs (maxSteps := 2000000) only [go_sem, g]) (by kernel_rfl) (by simp -implicitDefEqProofs (maxSteps := 2000000) only [go_sem, g]) ?_
  simp -implicitDefEqProofs (maxSteps := 2000000) only [go_sem, g]
  refine bwp_seq mixed (by kernel_rfl) ?_
  simp -implicitDefEqProofs (maxSteps := 2000000) only [go_sem]
  refine bwp_seq mixed (by kernel_rfl) ?_
  simp -implicitDefEqProofs (maxSteps := 2000000) only [go_sem]
  refine bwp_seqB (bwp_callD mixed hw [1064, 1256, 1000, 1640] 1192 960 4000 [(5, .one (.vad 1256 0))] rfl rfl rfl (by kernel_rfl) (by kernel_rfl) ?_ ?_)
  · simp -implicitDefEqProofs (maxSteps := 2000000) only [go_sem]
    refine call_of (unknown_sat F.small) (by simp -implicitDefEqProofs (maxSteps := 2000000) only [go_sem]) (callOk_still (by kernel_rfl) (by simp only [List.all_cons, List.all_nil, LV.still, LV.leaves, Leaf.still, ints_still, ris_still, eds_still, rels_still, iss_still, ems_still, Bool.and_self, Bool.and_true])) (by simp -implicitDefEqProofs (maxSteps := 2000000) only [go_sem]) ?_
    simp -implicitDefEqProofs (maxSteps := 2000000) only [go_sem]
    refine tr_and (by kernel_rfl) ?_
    refine ⟨⟨?_, rfl⟩, rfl⟩
    rw [List.take_replicate, Nat.min_self]
    exact ⟨rfl, rfl⟩
  · simp -implicitDefEqProofs (maxSteps := 2000000) only [go_sem]
    refine bwp_awp mixed (by kernel_rfl) ?_
    simp -implicitDefEqProofs (maxSteps := 2000000) only [go_sem]
    first | done | rfl | exact ⟨rfl, rfl⟩ | exact ⟨rfl, rfl, rfl⟩ | (refine tr_and ?_ ?_ <;> first | rfl | exact ⟨rfl, rfl⟩ | kernel_rfl)
theorem embs_len (d : Db) (q : Qu) : (embs d q).length ≤ 2744 := by
  unfold embs
  split
  · rename_i g
    have F := fitE g
    have := walkE_len (ats := q.atoms) F.facts q.atoms.length (List.replicate q.vc.toNat (-1)) []
    have := pow14E F.atoms
    omega
  · simp
end Go.Proofs.YtedciihjgbkjgabGreat.A


/- WITNESSES ARE PARTIAL REPAIRS: the plain law. Conditions: none. -/
namespace Go.Proofs.YtedciihjgbkjgabGreat.A
open Go
set_option linter.unusedSimpArgs false
set_option linter.unusedVariables false

theorem meet_rel {a f : RI} {vs x : List Int} (h : meet a f vs = some x) : f.r = a.r := by
  unfold meet at h
  split at h
  · assumption
  · cases h
theorem idxs_of {l : List Int} {n : Int} (h1 : l.Pairwise (· < ·)) (h2 : ∀ x ∈ l, 0 ≤ x ∧ x < n) : idxs l n = true := by
  unfold idxs
  refine upTo_true fun k hk => ?_
  unfold idxAt
  obtain ⟨a1, a2⟩ := h2 _ (mem_getD 0 hk)
  rw [Bool.and_eq_true]
  refine ⟨by unfold inB; rw [decide_eq_true a1, decide_eq_true (show l.getD k 0 ≤ n - 1 by omega)]; rfl, ?_⟩
  rcases k with _ | k
  · rfl
  · rw [Nat.add_sub_cancel, decide_eq_false (by omega : ¬ k + 1 = 0), Bool.false_or, Bool.not_eq_true', decide_eq_false_iff_not]
    have := List.pairwise_iff_getElem.mp h1 k (k + 1) (by omega) hk (by omega)
    rw [List.getD_eq_getElem?_getD, List.getD_eq_getElem?_getD, List.getElem?_eq_getElem hk, List.getElem?_eq_getElem (show k < l.length by omega)]
    simp only [Option.getD_some]
    omega
end Go.Proofs.YtedciihjgbkjgabGreat.A


/- EMBEDDINGS: what is found embeds the query. Conditions: none. (No program in sight.) -/
namespace Go.Proofs.YtedciihjgbkjgabGreat.A
open Go
set_option linter.unusedSimpArgs false
set_option linter.unusedVariables false

/-- A term and a fact's value agree. -/
def agT (x : List Int) (t f : Int) : Prop := (t < 0 → f = -1 - t) ∧ (0 ≤ t → x.getD t.toNat 0 = f)
theorem stepU_keeps {x y : List Int} {t f : Int} (h : stepU x t f = some y) {v : Nat} (hv : 0 ≤ x.getD v 0) : y.getD v 0 = x.getD v 0 := by
  unfold stepU at h
  split at h
  · split at h
    · cases h; rfl
    · cases h
  · split at h
    · rename_i h1 h2
      cases h
      have hne : t.toNat ≠ v := by
        rintro rfl; omega
      rw [List.getD_eq_getElem?_getD, List.getElem?_set_ne hne, ← List.getD_eq_getElem?_getD]
    · split at h
      · cases h; rfl
      · cases h
theorem stepU_ag {x y : List Int} {t f : Int} (h : stepU x t f = some y) (ht : t < x.length) : agT y t f := by
  unfold stepU at h
  split at h
  · split at h
    · exact ⟨fun _ => by omega, fun h => by omega⟩
    · cases h
  · refine ⟨fun h => by omega, fun h0 => ?_⟩
    split at h
    · cases h
      rw [List.getD_eq_getElem?_getD, List.getElem?_set_self (by omega)]; rfl
    · split at h
      · cases h; assumption
      · cases h
theorem uniS_keeps {ts fs vs : List Int} : ∀ {k : Nat} {x : List Int}, uniS ts fs vs k = some x → ∀ v, 0 ≤ vs.getD v 0 → x.getD v 0 = vs.getD v 0
  | 0, x, h, v, hv => by cases h; rfl
  | k + 1, x, h, v, hv => by
    rw [uniS] at h
    rcases e : uniS ts fs vs k with _ | y
    · rw [e] at h; cases h
    · rw [e, Option.bind_some] at h
      have h1 := uniS_keeps e v hv
      rw [stepU_keeps h (by rw [h1]; exact hv), h1]
theorem agT_keeps {x y : List Int} {t f : Int} (h : agT x t f) (hf : 0 ≤ f) (hk : ∀ v, 0 ≤ x.getD v 0 → y.getD v 0 = x.getD v 0) : agT y t f :=
  ⟨h.1, fun h0 => by have h1 := h.2 h0; rw [hk _ (by omega), h1]⟩
theorem uniS_ag {ts fs vs : List Int} (hts : tsOk vs.length ts) (hfs : ∀ j, 0 ≤ fs.getD j 0) : ∀ {k : Nat} {x : List Int}, k ≤ ts.length → uniS ts fs vs k = some x → ∀ j, j < k → agT x (ts.getD j 0) (fs.getD j 0)
  | 0, x, _, h, j, hj => by omega
  | k + 1, x, hk, h, j, hj => by
    rw [uniS] at h
    rcases e : uniS ts fs vs k with _ | y
    · rw [e] at h; cases h
    · rw [e, Option.bind_some] at h
      rcases Nat.lt_or_ge j k with h1 | h1
      · exact agT_keeps (uniS_ag hts hfs (by omega) e j h1) (hfs j) fun v hv => stepU_keeps h hv
      · obtain rfl : j = k := by omega
        exact stepU_ag h (by rw [uniS_len e]; exact (hts j (by omega)).2)
theorem walkE_ag {ds ats : List RI} {n : Nat} (hts : ∀ k, k < ats.length → tsOk n (ats.getD k default).l) (hfs : ∀ i j, 0 ≤ (ds.getD i default).l.getD j 0) :
    ∀ {m : Nat} {vs fs : List Int}, m ≤ ats.length → vs.length = n → ∀ e ∈ walkE ds ats m vs fs,
      (∀ v, 0 ≤ vs.getD v 0 → e.vs.getD v 0 = vs.getD v 0) ∧ (∀ j, j < fs.length → e.fs.getD j 0 = fs.getD j 0) ∧
      ∀ k, ats.length - m ≤ k → k < ats.length → ∃ i : Nat, i < ds.length ∧ e.fs.getD (fs.length + (k - (ats.length - m))) 0 = i ∧ (ds.getD i default).r = (ats.getD k default).r ∧
        ∀ j, j < (ats.getD k default).l.length → agT e.vs ((ats.getD k default).l.getD j 0) ((ds.getD i default).l.getD j 0)
  | 0, vs, fs, _, _, e, he => by
    simp only [walkE, List.mem_singleton] at he
    subst he
    exact ⟨fun _ _ => rfl, fun _ _ => rfl, fun k h1 h2 => by omega⟩
  | m + 1, vs, fs, hm, hv, e, he => by
    rw [walkE_succ, found_mem] at he
    obtain ⟨i, hi, he⟩ := he
    unfold oneE at he
    split at he
    · rename_i x hx
      have hxl := meet_len hx
      obtain ⟨a1, a2, a3⟩ := walkE_ag hts hfs (show m ≤ ats.length by omega) (by rw [hxl]; exact hv) e he
      have hmr := meet_rel hx
      have hu : uniS (atomAt ats m).l (ds.getD i default).l vs (atomAt ats m).l.length = some x := by
        unfold meet at hx; rw [if_pos hmr] at hx; exact hx
      have hkx : ∀ v, 0 ≤ vs.getD v 0 → x.getD v 0 = vs.getD v 0 := uniS_keeps hu
      refine ⟨fun v h0 => by rw [a1 v (by rw [hkx v h0]; exact h0), hkx v h0], fun j hj => ?_, fun k h1 h2 => ?_⟩
      · rw [a2 j (by rw [List.length_append]; omega), List.getD_eq_getElem?_getD, List.getElem?_append_left hj, ← List.getD_eq_getElem?_getD]
      · rcases Nat.lt_or_ge k (ats.length - m) with h3 | h3
        · obtain rfl : k = ats.length - (m + 1) := by omega
          have hat : atomAt ats m = ats.getD (ats.length - (m + 1)) default := rfl
          refine ⟨i, hi, ?_, by rw [← hat]; exact hmr, fun j hj => ?_⟩
          · rw [Nat.sub_self, Nat.add_zero, a2 fs.length (by rw [List.length_append, List.length_singleton]; omega), List.getD_eq_getElem?_getD, List.getElem?_append_right (Nat.le_refl _), Nat.sub_self]; rfl
          · rw [← hat] at hj ⊢
            exact agT_keeps (uniS_ag (by rw [hv, hat]; exact hts _ h2) (hfs i) (Nat.le_refl _) hu j hj) (hfs i j) a1
        · obtain ⟨i', b1, b2, b3, b4⟩ := a3 k h3 h2
          refine ⟨i', b1, ?_, b3, b4⟩
          rw [List.length_append, List.length_singleton] at b2
          rw [← b2]
          congr 1; omega
    · cases he
theorem fact_nonneg {d : Db} (g : goodDb d = true) (i j : Nat) : 0 ≤ (d.facts.getD i default).l.getD j 0 := by
  rcases Nat.lt_or_ge i d.facts.length with hi | hi
  · have h1 := goodDb_fact g hi
    unfold goodFact at h1
    simp only [Bool.and_eq_true] at h1
    rcases Nat.lt_or_ge j (d.facts.getD i default).l.length with hj | hj
    · have := inB_of (upTo_at h1.2.2 hj)
      omega
    · rw [List.getD_eq_getElem?_getD, List.getElem?_eq_none hj]; exact Int.le_refl _
  · rw [show d.facts.getD i default = default by rw [List.getD_eq_getElem?_getD, List.getElem?_eq_none hi]; rfl]
    exact Int.le_refl _
/-- An embedding embeds. -/
theorem embs_ag {d : Db} {q : Qu} : ∀ e ∈ embs d q, queryFor d q = true ∧ e.fs.length = q.atoms.length ∧ e.vs.length = q.vc.toNat ∧
    ∀ k, k < q.atoms.length → ∃ i : Nat, i < d.facts.length ∧ e.fs.getD k 0 = i ∧ (d.facts.getD i default).r = (q.atoms.getD k default).r ∧ (d.facts.getD i default).l.length = (q.atoms.getD k default).l.length ∧
      ∀ j, j < (q.atoms.getD k default).l.length → agT e.vs ((q.atoms.getD k default).l.getD j 0) ((d.facts.getD i default).l.getD j 0) := by
  intro e he
  unfold embs at he
  split at he
  · rename_i g
    obtain ⟨h1, h2⟩ := walkE_mem e he
    have hq := queryFor_qu g
    obtain ⟨_, _, a3⟩ := walkE_ag (n := q.vc.toNat) (fun k hk => tsOk_at hq hk) (fact_nonneg (queryFor_db g)) (Nat.le_refl _) (by rw [List.length_replicate]) e he
    refine ⟨g, by simpa using h2, by rw [h1, List.length_replicate], fun k hk => ?_⟩
    obtain ⟨i, b1, b2, b3, b4⟩ := a3 k (by omega) hk
    refine ⟨i, b1, ?_, b3, meet_lens g hk b1 b3, b4⟩
    rw [Nat.sub_self, Nat.sub_zero, List.length_nil, Nat.zero_add] at b2
    exact b2
  · cases he
end Go.Proofs.YtedciihjgbkjgabGreat.A


/- A VARIABLE IS BOUND. Conditions: none. -/
namespace Go.Proofs.YtedciihjgbkjgabGreat.A
open Go
set_option linter.unusedSimpArgs false
set_option linter.unusedVariables false
set_option maxRecDepth 100000

def bindT (v val t : Int) : Int := if t = v then -1 - val else if t > v then IntKind.i64.wrap (t - 1) else t
def bindF (v t : Int) : Int := if t > v then IntKind.i64.wrap (t - 1) else t
def bindA (v val : Int) (a : RI) : RI := ⟨a.r, a.l.map (bindT v val)⟩
def freeB (v : Int) : List Int → List Int
  | [] => []
  | t :: l => if t = v then freeB v l else bindF v t :: freeB v l
theorem freeB_append (v : Int) : ∀ a b : List Int, freeB v (a ++ b) = freeB v a ++ freeB v b
  | [], b => rfl
  | t :: a, b => by
    rw [List.cons_append, freeB, freeB, freeB_append v a b]
    split <;> rfl
theorem freeB_len (v : Int) : ∀ a : List Int, (freeB v a).length ≤ a.length
  | [] => by simp [freeB]
  | t :: a => by
    have := freeB_len v a
    rw [freeB]
    split
    · rw [List.length_cons]; omega
    · rw [List.length_cons, List.length_cons]; omega
def bindOk (q : Qu) (v val : Int) : Bool := inB v 0 (IntKind.i64.wrap (q.vc - 1)) && inB val 0 9
def bindQ (q : Qu) (v val : Int) : Qu := if bindOk q v val then ⟨IntKind.i64.wrap (q.vc - 1), q.atoms.map (bindA v val), freeB v q.free⟩ else q
theorem ris_lt (n : Nat) (l : List RI) : stampsLt (n + 1000) (ris 999 l) = True := by
  refine eq_true fun r hr s xs hm => ?_
  obtain ⟨x, _, rfl⟩ := List.mem_map.mp hr
  simp [cRI] at hm
  omega
attribute [go_sem] ris_lt
theorem set_getD {α : Type} {d : α} {l : List α} {i : Nat} (h : i < l.length) : l.set i (l.getD i d) = l := by
  refine List.ext_getElem? fun m => ?_
  rw [List.getElem?_set]
  by_cases e : i = m
  · subst e
    rw [if_pos rfl, if_pos h, List.getD_eq_getElem?_getD, List.getElem?_eq_getElem h]; rfl
  · rw [if_neg e]
theorem freeB_step {v : Int} {l : List Int} {k : Nat} (h : k < l.length) : freeB v (l.take (k + 1)) = freeB v (l.take k) ++ freeB v [l.getD k 0] := by rw [take_snoc 0 h, freeB_append]
theorem map_getA {f : RI → RI} {l : List RI} {i : Nat} (h : i < l.length) : (l.map f).getD i default = f (l.getD i default) := by
  simp [List.getD_eq_getElem?_getD, h]
theorem map_getI {f : Int → Int} {l : List Int} {i : Nat} (h : i < l.length) : (l.map f).getD i 0 = f (l.getD i 0) := by
  simp [List.getD_eq_getElem?_getD, h]
theorem constantB_sat (t : Int) (h : -1000 ≤ t ∧ t ≤ 1000) : Sat Tryz.prog 32 [lInt t] [lInt (-1 - t)] [g1] := by
  refine sat_of_body mixed Tryz.func32 rfl (by kernel_rfl) (by kernel_rfl) (rs := [.tmp 2]) rfl rfl rfl ?_
  have w : IntKind.i64.wrap (-1 - t) = -1 - t := IntWalk.i64_in _ (by omega)
  simp -implicitDefEqProofs (maxSteps := 2000000) only [go_sem, w]
  first | done | rfl | exact ⟨rfl, rfl⟩ | exact ⟨rfl, rfl, rfl⟩ | (refine tr_and ?_ ?_ <;> first | rfl | exact ⟨rfl, rfl⟩ | kernel_rfl)
theorem bound_sat (t v : Int) : Sat Tryz.prog 31 [lInt t, lInt v] [lInt (bindF v t)] [g1, g1] := by
  refine sat_of_body mixed Tryz.func31 rfl (by kernel_rfl) (by kernel_rfl) (rs := [.tmp 4]) rfl rfl rfl ?_
  unfold bindF
  simp -implicitDefEqProofs (maxSteps := 2000000) only [go_sem]
  refine cond_split (fun d => ?_) fun d => ?_
  · have d := of_decide_eq_true d
    rw [if_pos d]
    simp -implicitDefEqProofs (maxSteps := 2000000) only [go_sem]
    first | done | rfl | exact ⟨rfl, rfl⟩ | exact ⟨rfl, rfl, rfl⟩ | (refine tr_and ?_ ?_ <;> first | rfl | exact ⟨rfl, rfl⟩ | kernel_rfl)
  · have d := of_decide_eq_false d
    rw [if_neg d]
    simp -implicitDefEqProofs (maxSteps := 2000000) only [go_sem]
    first | done | rfl | exact ⟨rfl, rfl⟩ | exact ⟨rfl, rfl, rfl⟩ | (refine tr_and ?_ ?_ <;> first | rfl | exact ⟨rfl, rfl⟩ | kernel_rfl)
abbrev zQu : List SV := [.sc (.int .i64 0), .sc (.slice none 0 0), .sc (.slice none 0 0)]
set_option maxHeartbeats 4000000 in
theorem specBindVariable_sat (q : Qu) (v val : Int) (h : q.ok) : Sat Tryz.prog 9 [lQu q, lInt v, lInt val] [oQu (bindQ q v val), lBool (bindOk q v val)] [g3, g1, g1] := by
  refine sat_of_body mixed Tryz.func9 rfl (by kernel_rfl) (by kernel_rfl) (rs := [.cell 6 31, .tmp 7]) rfl rfl rfl ?_
  have hf := h.2
  have ha := h.1.1
  simp -implicitDefEqProofs (maxSteps := 2000000) only [go_sem]
  refine call_of (specCopy_sat q h) (by simp -implicitDefEqProofs (maxSteps := 2000000) only [go_sem]) (callOk_still (by kernel_rfl) (by simp only [List.all_cons, List.all_nil, LV.still, LV.leaves, Leaf.still, ints_still, ris_still, eds_still, rels_still, iss_still, ems_still, Bool.and_self, Bool.and_true])) (by simp -implicitDefEqProofs (maxSteps := 2000000) only [go_sem]) ?_
  simp -implicitDefEqProofs (maxSteps := 2000000) only [go_sem]
  rcases d1 : inB v 0 (IntKind.i64.wrap (q.vc - 1))
  · have e : bindOk q v val = false := by rw [bindOk, d1]; rfl
    rw [bindQ, e, if_neg (by simp)]
    refine call_of (inB_sat v 0 (IntKind.i64.wrap (q.vc - 1))) (by simp -implicitDefEqProofs (maxSteps := 2000000) only [go_sem, d1]) (by kernel_rfl) (by simp -implicitDefEqProofs (maxSteps := 2000000) only [go_sem, d1]) ?_
    simp -implicitDefEqProofs (maxSteps := 2000000) only [go_sem, d1]
    first | done | rfl | exact ⟨rfl, rfl⟩ | exact ⟨rfl, rfl, rfl⟩ | (refine tr_and ?_ ?_ <;> first | rfl | exact ⟨rfl, rfl⟩ | kernel_rfl)
  rcases d2 : inB val 0 9
  · have e : bindOk q v val = false := by rw [bindOk, d2, Bool.and_false]
    rw [bindQ, e, if_neg (by simp)]
    refine call_of (inB_sat v 0 (IntKind.i64.wrap (q.vc - 1))) (by simp -implicitDefEqProofs (maxSteps := 2000000) only [go_sem, d1]) (by kernel_rfl) (by simp -implicitDefEqProofs (maxSteps := 2000000) only [go_sem, d1]) ?_
    simp -implicitDefEqProofs (maxSteps := 2000000) only [go_sem, d1]
    refine call_of (inB_sat val 0 9) (by simp -implicitDefEqProofs (maxSteps := 2000000) only [go_sem, d2]) (by kernel_rfl) (by simp -implicitDefEqProofs (maxSteps := 2000000) only [go_sem, d2]) ?_
    simp -implicitDefEqProofs (maxSteps := 2000000) only [go_sem, d2]
    first | done | rfl | exact ⟨rfl, rfl⟩ | exact ⟨rfl, rfl, rfl⟩ | (refine tr_and ?_ ?_ <;> first | rfl | exact ⟨rfl, rfl⟩ | kernel_rfl)
  have e : bindOk q v val = true := by rw [bindOk, d1, d2]; rfl
  rw [bindQ, e, if_pos rfl]
  obtain ⟨b1, b2⟩ := inB_of d2
  obtain ⟨b3, _⟩ := inB_of d1
  have wv : IntKind.i64.wrap (-1 - val) = -1 - val := IntWalk.i64_in _ (by omega)
  refine call_of (inB_sat v 0 (IntKind.i64.wrap (q.vc - 1))) (by simp -implicitDefEqProofs (maxSteps := 2000000) only [go_sem, d1]) (by kernel_rfl) (by simp -implicitDefEqProofs (maxSteps := 2000000) only [go_sem, d1]) ?_
  simp -implicitDefEqProofs (maxSteps := 2000000) only [go_sem, d1]
  refine call_of (inB_sat val 0 9) (by simp -implicitDefEqProofs (maxSteps := 2000000) only [go_sem, d2]) (by kernel_rfl) (by simp -implicitDefEqProofs (maxSteps := 2000000) only [go_sem, d2]) ?_
  simp -implicitDefEqProofs (maxSteps := 2000000) only [go_sem, d2]
  refine awp_loop (Nat × List RI) (fun x => mkSt [(1, .sc (.int .i64 v)), (2, .sc (.int .i64 val)), (3, .one (.vad 1000 0)), (6, .one (.vad 1064 0)), (8, .one (.vad 1320 0)), (9, .sc (.int .i64 x.1))] [(1000, sQu q), (1064, zQu), (1320, [.sc (.int .i64 (IntKind.i64.wrap (q.vc - 1))), .ref 960 2 0 q.atoms.length, .ref 961 1 0 q.free.length])] [(960, (2, ris 999 x.2)), (961, (1, ints q.free))] 9000)
    (fun x => x.1 ≤ q.atoms.length ∧ x.2.length = q.atoms.length ∧ x.2.take x.1 = (q.atoms.map (bindA v val)).take x.1 ∧ x.2.drop x.1 = q.atoms.drop x.1) (fun x => q.atoms.length - x.1) (0, q.atoms) ⟨by simp, rfl, rfl, rfl⟩ (le_st' _ _ [⟨960, some _, false, 2, _⟩, ⟨961, some _, false, 1, _⟩] [] _ (by simp -implicitDefEqProofs (maxSteps := 2000000) only [go_sem] <;> and_intros <;> rfl) (by simp -implicitDefEqProofs (maxSteps := 2000000) only [go_sem] <;> and_intros <;> rfl) (by simp -implicitDefEqProofs (maxSteps := 2000000) only [go_sem] <;> and_intros <;> rfl) (by rfl)) ?_
  rintro ⟨k, L⟩ ⟨h1, h2, h3, h4⟩
  simp only at h1 h2 h3 h4
  by_cases c1 : k < q.atoms.length
  · have wk : IntKind.i64.wrap ((k : Int) + 1) = ((k + 1 : Nat) : Int) := i64_succ (by omega)
    have e1 := drop_get (d := default) h2 h4 c1
    have c2 : k < L.length := by omega
    obtain ⟨r, ts, hat⟩ : ∃ r ts, q.atoms.getD k default = ⟨r, ts⟩ := ⟨_, _, rfl⟩
    have hts : ts.length ≤ 1048576 := by
      have := h.1.2 _ (mem_getD default c1)
      rw [hat] at this; exact this
    have hL : L.set k ⟨r, ts⟩ = L := by rw [← hat, ← e1]; exact set_getD c2
    simp -implicitDefEqProofs (maxSteps := 2000000) only [go_sem, c1, h2, List.length_take, Nat.min_self]
    rw [← hL]
    refine awp_loop (Nat × List Int) (fun x => mkSt [(1, .sc (.int .i64 v)), (2, .sc (.int .i64 val)), (3, .one (.vad 1000 0)), (6, .one (.vad 1064 0)), (8, .one (.vad 1320 0)), (9, .sc (.int .i64 k)), (10, .sc (.int .i64 x.1))] [(1000, sQu q), (1064, zQu), (1320, [.sc (.int .i64 (IntKind.i64.wrap (q.vc - 1))), .ref 960 2 0 q.atoms.length, .ref 961 1 0 q.free.length])] [(960, (2, ris 999 (L.set k ⟨r, x.2⟩))), (961, (1, ints q.free))] 12000)
      (fun x => x.1 ≤ ts.length ∧ x.2.length = ts.length ∧ x.2.take x.1 = (ts.map (bindT v val)).take x.1 ∧ x.2.drop x.1 = ts.drop x.1) (fun x => ts.length - x.1) (0, ts) ⟨by simp, rfl, rfl, rfl⟩ (le_st' _ _ [⟨960, some _, false, 2, _⟩, ⟨961, some _, false, 1, _⟩] [] _ (by simp -implicitDefEqProofs (maxSteps := 2000000) only [go_sem] <;> and_intros <;> rfl) (by simp -implicitDefEqProofs (maxSteps := 2000000) only [go_sem] <;> and_intros <;> rfl) (by simp -implicitDefEqProofs (maxSteps := 2000000) only [go_sem] <;> and_intros <;> rfl) (by rfl)) ?_
    rintro ⟨j, b⟩ ⟨g1, g2, g3, g4⟩
    simp only at g1 g2 g3 g4
    by_cases c3 : j < ts.length
    · have wj : IntKind.i64.wrap ((j : Int) + 1) = ((j + 1 : Nat) : Int) := i64_succ (by omega)
      have e2 := drop_get (d := 0) g2 g4 c3
      have nx : ∀ t', t' = bindT v val (ts.getD j 0) → (b.set j t').take (j + 1) = (ts.map (bindT v val)).take (j + 1) := fun t' ht =>
        take_set_to (d := 0) (by simpa using g2) g3 (by simpa using c3) (by rw [map_getI c3, ht])
      by_cases d3 : b.getD j 0 = v
      · have f1 : (b.getD j 0 == v) = true := by rw [d3]; simp
        have f2 : decide (b.getD j 0 > v) = false := decide_eq_false (by omega)
        simp -implicitDefEqProofs (maxSteps := 2000000) only [go_sem, c1, c2, c3, h2, g2, List.length_take, Nat.min_self, f1, f2, wv, wj]
        exact ⟨(j + 1, b.set j (-1 - val)), ⟨c3, by simpa using g2, nx _ (by rw [← e2, bindT, if_pos d3]), drop_set _ g4⟩, by simp; omega, (le_st' _ _ [⟨960, some _, false, 2, _⟩, ⟨961, some _, false, 1, _⟩] [] _ (by simp -implicitDefEqProofs (maxSteps := 2000000) only [go_sem, c2, h2, g2] <;> and_intros <;> rfl) (by simp -implicitDefEqProofs (maxSteps := 2000000) only [go_sem, c2, h2, g2] <;> and_intros <;> rfl) (by simp -implicitDefEqProofs (maxSteps := 2000000) only [go_sem, c2, h2, g2] <;> and_intros <;> rfl) (by rfl))⟩
      · have f1 : (b.getD j 0 == v) = false := by rw [beq_eq_false_iff_ne]; exact d3
        by_cases d4 : b.getD j 0 > v
        · have f2 : decide (b.getD j 0 > v) = true := decide_eq_true d4
          simp -implicitDefEqProofs (maxSteps := 2000000) only [go_sem, c1, c2, c3, h2, g2, List.length_take, Nat.min_self, f1, f2, wj]
          exact ⟨(j + 1, b.set j (IntKind.i64.wrap (b.getD j 0 - 1))), ⟨c3, by simpa using g2, nx _ (by rw [← e2, bindT, if_neg d3, if_pos d4]), drop_set _ g4⟩, by simp; omega, (le_st' _ _ [⟨960, some _, false, 2, _⟩, ⟨961, some _, false, 1, _⟩] [] _ (by simp -implicitDefEqProofs (maxSteps := 2000000) only [go_sem, c2, h2, g2] <;> and_intros <;> rfl) (by simp -implicitDefEqProofs (maxSteps := 2000000) only [go_sem, c2, h2, g2] <;> and_intros <;> rfl) (by simp -implicitDefEqProofs (maxSteps := 2000000) only [go_sem, c2, h2, g2] <;> and_intros <;> rfl) (by rfl))⟩
        · have f2 : decide (b.getD j 0 > v) = false := decide_eq_false d4
          have hs : b.set j (b.getD j 0) = b := set_getD (by omega)
          simp -implicitDefEqProofs (maxSteps := 2000000) only [go_sem, c1, c2, c3, h2, g2, List.length_take, Nat.min_self, f1, f2, wj]
          refine ⟨(j + 1, b), ⟨c3, g2, ?_, ?_⟩, by simp; omega, (le_st' _ _ [⟨960, some _, false, 2, _⟩, ⟨961, some _, false, 1, _⟩] [] _ (by simp -implicitDefEqProofs (maxSteps := 2000000) only [go_sem, c2, h2, g2] <;> and_intros <;> rfl) (by simp -implicitDefEqProofs (maxSteps := 2000000) only [go_sem, c2, h2, g2] <;> and_intros <;> rfl) (by simp -implicitDefEqProofs (maxSteps := 2000000) only [go_sem, c2, h2, g2] <;> and_intros <;> rfl) (by rfl))⟩
          · have := nx (b.getD j 0) (by rw [← e2, bindT, if_neg d3, if_neg d4])
            rw [hs] at this; exact this
          · have := drop_set (b.getD j 0) g4
            rw [hs] at this; exact this
    · have hb : b = ts.map (bindT v val) := of_take (by simpa using g2) g3 (by simp; omega)
      simp -implicitDefEqProofs (maxSteps := 2000000) only [go_sem, c1, c2, c3, h2, g2, List.length_take, Nat.min_self, wk]
      refine ⟨(k + 1, L.set k ⟨r, b⟩), ⟨c1, by simpa using h2, ?_, drop_set _ h4⟩, by simp; omega, (le_st' _ _ [⟨960, some _, false, 2, _⟩, ⟨961, some _, false, 1, _⟩] [] _ (by simp -implicitDefEqProofs (maxSteps := 2000000) only [go_sem] <;> and_intros <;> rfl) (by simp -implicitDefEqProofs (maxSteps := 2000000) only [go_sem] <;> and_intros <;> rfl) (by simp -implicitDefEqProofs (maxSteps := 2000000) only [go_sem] <;> and_intros <;> rfl) (by rfl))⟩
      exact take_set_to (d := default) (by simpa using h2) h3 (by simpa using c1) (by rw [map_getA c1, hat, bindA, hb])
  · have hL : L = q.atoms.map (bindA v val) := of_take (by simpa using h2) h3 (by simp; omega)
    simp -implicitDefEqProofs (maxSteps := 2000000) only [go_sem, c1, h2, List.length_take, Nat.min_self]
    rw [hL]
    refine awp_loop Nat (fun k => mkSt [(1, .sc (.int .i64 v)), (3, .one (.vad 1000 0)), (6, .one (.vad 1064 0)), (8, .one (.vad 1320 0)), (12, .sc (.int .i64 k))] [(1000, sQu q), (1064, zQu), (1320, [.sc (.int .i64 (IntKind.i64.wrap (q.vc - 1))), .ref 960 2 0 q.atoms.length, .ref 961 1 0 (freeB v (q.free.take k)).length])] [(960, (2, ris 999 (q.atoms.map (bindA v val)))), (961, (1, ints (freeB v (q.free.take k))))] 14000)
      (fun k => k ≤ q.free.length) (fun k => q.free.length - k) 0 (by omega) (le_st' _ _ [⟨960, some _, false, 2, _⟩, ⟨961, some _, false, 1, _⟩] [] _ (by simp -implicitDefEqProofs (maxSteps := 2000000) only [go_sem, freeB, List.take_zero] <;> and_intros <;> rfl) (by simp -implicitDefEqProofs (maxSteps := 2000000) only [go_sem, freeB, List.take_zero] <;> and_intros <;> rfl) (by simp -implicitDefEqProofs (maxSteps := 2000000) only [go_sem, freeB, List.take_zero] <;> and_intros <;> rfl) (by rfl)) ?_
    rintro m g1
    have hfl := freeB_len v (q.free.take m)
    have hfm : (q.free.take m).length ≤ q.free.length := by rw [List.length_take]; omega
    by_cases c3 : m < q.free.length
    · have wm : IntKind.i64.wrap ((m : Int) + 1) = ((m + 1 : Nat) : Int) := i64_succ (by omega)
      have hst := freeB_step (v := v) c3
      rcases Int.lt_trichotomy (q.free.getD m 0) v with d3 | d3 | d3
      · have f1 : decide (q.free.getD m 0 < v) = true := decide_eq_true d3
        have f2 : decide (q.free.getD m 0 > v) = false := decide_eq_false (by omega)
        rw [freeB, if_neg (by omega), bindF, if_neg (by omega), freeB] at hst
        simp -implicitDefEqProofs (maxSteps := 2000000) only [go_sem, c3, f1, f2]
        repeat (refine ⟨by omega, ?_⟩)
        refine tr_and (by kernel_rfl) ?_
        rw [wm]
        refine ⟨m + 1, c3, by omega, ?_⟩
        rw [hst]
        exact (le_st' _ _ [⟨960, some _, false, 2, _⟩, ⟨961, some _, false, 1, _⟩] [] _ (by simp -implicitDefEqProofs (maxSteps := 2000000) only [go_sem] <;> and_intros <;> rfl) (by simp -implicitDefEqProofs (maxSteps := 2000000) only [go_sem] <;> and_intros <;> rfl) (by simp -implicitDefEqProofs (maxSteps := 2000000) only [go_sem] <;> and_intros <;> rfl) (by rfl))
      · have f1 : decide (q.free.getD m 0 < v) = false := decide_eq_false (by omega)
        have f2 : decide (q.free.getD m 0 > v) = false := decide_eq_false (by omega)
        rw [freeB, if_pos d3, freeB, List.append_nil] at hst
        simp -implicitDefEqProofs (maxSteps := 2000000) only [go_sem, c3, f1, f2]
        rw [wm]
        refine ⟨m + 1, c3, by omega, ?_⟩
        rw [hst]
        exact (le_st' _ _ [⟨960, some _, false, 2, _⟩, ⟨961, some _, false, 1, _⟩] [] _ (by simp -implicitDefEqProofs (maxSteps := 2000000) only [go_sem] <;> and_intros <;> rfl) (by simp -implicitDefEqProofs (maxSteps := 2000000) only [go_sem] <;> and_intros <;> rfl) (by simp -implicitDefEqProofs (maxSteps := 2000000) only [go_sem] <;> and_intros <;> rfl) (by rfl))
      · have f1 : decide (q.free.getD m 0 < v) = false := decide_eq_false (by omega)
        have f2 : decide (q.free.getD m 0 > v) = true := decide_eq_true (by omega)
        rw [freeB, if_neg (by omega), bindF, if_pos (by omega), freeB] at hst
        simp -implicitDefEqProofs (maxSteps := 2000000) only [go_sem, c3, f1, f2]
        repeat (refine ⟨by omega, ?_⟩)
        refine tr_and (by kernel_rfl) ?_
        rw [wm]
        refine ⟨m + 1, c3, by omega, ?_⟩
        rw [hst]
        exact (le_st' _ _ [⟨960, some _, false, 2, _⟩, ⟨961, some _, false, 1, _⟩] [] _ (by simp -implicitDefEqProofs (maxSteps := 2000000) only [go_sem] <;> and_intros <;> rfl) (by simp -implicitDefEqProofs (maxSteps := 2000000) only [go_sem] <;> and_intros <;> rfl) (by simp -implicitDefEqProofs (maxSteps := 2000000) only [go_sem] <;> and_intros <;> rfl) (by rfl))
    · obtain rfl : m = q.free.length := by omega
      rw [List.take_length]
      simp -implicitDefEqProofs (maxSteps := 2000000) only [go_sem, c3]
      kernel_rfl
set_option maxHeartbeats 4000000 in
theorem implBindVariable_sat (q : Qu) (v val : Int) (h : q.ok) : Sat Tryz.prog 8 [lQu q, lInt v, lInt val] [oQu (bindQ q v val), lBool (bindOk q v val)] [g3, g1, g1] := by
  refine sat_of_body mixed Tryz.func8 rfl (by kernel_rfl) (by kernel_rfl) (rs := [.cell 6 31, .tmp 7]) rfl rfl rfl ?_
  have hf := h.2
  have ha := h.1.1
  simp -implicitDefEqProofs (maxSteps := 2000000) only [go_sem]
  refine call_of (implCopyQuery_sat q h) (by simp -implicitDefEqProofs (maxSteps := 2000000) only [go_sem]) (callOk_still (by kernel_rfl) (by simp only [List.all_cons, List.all_nil, LV.still, LV.leaves, Leaf.still, ints_still, ris_still, eds_still, rels_still, iss_still, ems_still, Bool.and_self, Bool.and_true])) (by simp -implicitDefEqProofs (maxSteps := 2000000) only [go_sem]) ?_
  simp -implicitDefEqProofs (maxSteps := 2000000) only [go_sem]
  rcases d1 : inB v 0 (IntKind.i64.wrap (q.vc - 1))
  · have e : bindOk q v val = false := by rw [bindOk, d1]; rfl
    rw [bindQ, e, if_neg (by simp)]
    refine call_of (inW_sat v 0 (IntKind.i64.wrap (q.vc - 1))) (by simp -implicitDefEqProofs (maxSteps := 2000000) only [go_sem, d1]) (by kernel_rfl) (by simp -implicitDefEqProofs (maxSteps := 2000000) only [go_sem, d1]) ?_
    simp -implicitDefEqProofs (maxSteps := 2000000) only [go_sem, d1]
    first | done | rfl | exact ⟨rfl, rfl⟩ | exact ⟨rfl, rfl, rfl⟩ | (refine tr_and ?_ ?_ <;> first | rfl | exact ⟨rfl, rfl⟩ | kernel_rfl)
  rcases d2 : inB val 0 9
  · have e : bindOk q v val = false := by rw [bindOk, d2, Bool.and_false]
    rw [bindQ, e, if_neg (by simp)]
    refine call_of (inW_sat v 0 (IntKind.i64.wrap (q.vc - 1))) (by simp -implicitDefEqProofs (maxSteps := 2000000) only [go_sem, d1]) (by kernel_rfl) (by simp -implicitDefEqProofs (maxSteps := 2000000) only [go_sem, d1]) ?_
    simp -implicitDefEqProofs (maxSteps := 2000000) only [go_sem, d1]
    refine call_of (inW_sat val 0 9) (by simp -implicitDefEqProofs (maxSteps := 2000000) only [go_sem, d2]) (by kernel_rfl) (by simp -implicitDefEqProofs (maxSteps := 2000000) only [go_sem, d2]) ?_
    simp -implicitDefEqProofs (maxSteps := 2000000) only [go_sem, d2]
    first | done | rfl | exact ⟨rfl, rfl⟩ | exact ⟨rfl, rfl, rfl⟩ | (refine tr_and ?_ ?_ <;> first | rfl | exact ⟨rfl, rfl⟩ | kernel_rfl)
  have e : bindOk q v val = true := by rw [bindOk, d1, d2]; rfl
  rw [bindQ, e, if_pos rfl]
  obtain ⟨b1, b2⟩ := inB_of d2
  obtain ⟨b3, _⟩ := inB_of d1
  have wv : IntKind.i64.wrap (-1 - val) = -1 - val := IntWalk.i64_in _ (by omega)
  refine call_of (inW_sat v 0 (IntKind.i64.wrap (q.vc - 1))) (by simp -implicitDefEqProofs (maxSteps := 2000000) only [go_sem, d1]) (by kernel_rfl) (by simp -implicitDefEqProofs (maxSteps := 2000000) only [go_sem, d1]) ?_
  simp -implicitDefEqProofs (maxSteps := 2000000) only [go_sem, d1]
  refine call_of (inW_sat val 0 9) (by simp -implicitDefEqProofs (maxSteps := 2000000) only [go_sem, d2]) (by kernel_rfl) (by simp -implicitDefEqProofs (maxSteps := 2000000) only [go_sem, d2]) ?_
  simp -implicitDefEqProofs (maxSteps := 2000000) only [go_sem, d2]
  refine awp_loop (Nat × List RI) (fun x => mkSt [(1, .sc (.int .i64 v)), (2, .sc (.int .i64 val)), (3, .one (.vad 1000 0)), (6, .one (.vad 1064 0)), (8, .one (.vad 1320 0)), (30, .one (.ref 960 2 0 q.atoms.length)), (31, .sc (.int .i64 q.atoms.length)), (32, .sc (.int .i64 x.1))] [(1000, sQu q), (1064, zQu), (1320, [.sc (.int .i64 q.vc), .ref 960 2 0 q.atoms.length, .ref 961 1 0 q.free.length])] [(960, (2, ris 999 x.2)), (961, (1, ints q.free))] 9000)
    (fun x => x.1 ≤ q.atoms.length ∧ x.2.length = q.atoms.length ∧ x.2.take x.1 = (q.atoms.map (bindA v val)).take x.1 ∧ x.2.drop x.1 = q.atoms.drop x.1) (fun x => q.atoms.length - x.1) (0, q.atoms) ⟨by simp, rfl, rfl, rfl⟩ (le_st' _ _ [⟨960, some _, false, 2, _⟩, ⟨961, some _, false, 1, _⟩] [] _ (by simp -implicitDefEqProofs (maxSteps := 2000000) only [go_sem] <;> and_intros <;> rfl) (by simp -implicitDefEqProofs (maxSteps := 2000000) only [go_sem] <;> and_intros <;> rfl) (by simp -implicitDefEqProofs (maxSteps := 2000000) only [go_sem] <;> and_intros <;> rfl) (by rfl)) ?_
  rintro ⟨k, L⟩ ⟨h1, h2, h3, h4⟩
  simp only at h1 h2 h3 h4
  by_cases c1 : k < q.atoms.length
  · have wk : IntKind.i64.wrap ((k : Int) + 1) = ((k + 1 : Nat) : Int) := i64_succ (by omega)
    have e1 := drop_get (d := default) h2 h4 c1
    have c2 : k < L.length := by omega
    obtain ⟨r, ts, hat⟩ : ∃ r ts, q.atoms.getD k default = ⟨r, ts⟩ := ⟨_, _, rfl⟩
    have hts : ts.length ≤ 1048576 := by
      have := h.1.2 _ (mem_getD default c1)
      rw [hat] at this; exact this
    have hL : L.set k ⟨r, ts⟩ = L := by rw [← hat, ← e1]; exact set_getD c2
    rw [hat] at e1
    simp -implicitDefEqProofs (maxSteps := 2000000) only [go_sem, c1, c2, h2, List.length_take, Nat.min_self, e1]
    refine ⟨by rw [solidRin_sl (s' := 999) (xs := iv (L.getD k default).l) (by rw [ris_get c2]; rfl)], ?_⟩
    rw [← hL]
    refine awp_loop (Nat × List Int) (fun x => mkSt [(1, .sc (.int .i64 v)), (2, .sc (.int .i64 val)), (3, .one (.vad 1000 0)), (6, .one (.vad 1064 0)), (8, .one (.vad 1320 0)), (10, .one (.vad 9192 0)), (30, .one (.ref 960 2 0 q.atoms.length)), (31, .sc (.int .i64 q.atoms.length)), (32, .sc (.int .i64 k)), (37, .one (.rin 960 k 1 999 0 ts.length)), (38, .sc (.int .i64 ts.length)), (39, .sc (.int .i64 x.1))]
      [(1000, sQu q), (1064, zQu), (1320, [.sc (.int .i64 q.vc), .ref 960 2 0 q.atoms.length, .ref 961 1 0 q.free.length]), (9192, [.sc (.int .i64 r), .rin 960 k 1 999 0 ts.length])] [(960, (2, ris 999 (L.set k ⟨r, x.2⟩))), (961, (1, ints q.free))] 12000)
      (fun x => x.1 ≤ ts.length ∧ x.2.length = ts.length ∧ x.2.take x.1 = (ts.map (bindT v val)).take x.1 ∧ x.2.drop x.1 = ts.drop x.1) (fun x => ts.length - x.1) (0, ts) ⟨by simp, rfl, rfl, rfl⟩ ?_ ?_
    · rw [hL]
      exact (le_st' _ _ [⟨960, some _, true, 2, _⟩, ⟨961, some _, false, 1, _⟩] [] _ (by simp -implicitDefEqProofs (maxSteps := 2000000) only [go_sem] <;> and_intros <;> rfl) (by simp -implicitDefEqProofs (maxSteps := 2000000) only [go_sem] <;> and_intros <;> rfl) (by simp -implicitDefEqProofs (maxSteps := 2000000) only [go_sem] <;> and_intros <;> rfl) (by rfl))
    rintro ⟨j, b⟩ ⟨g1, g2, g3, g4⟩
    simp only at g1 g2 g3 g4
    by_cases c3 : j < ts.length
    · have wj : IntKind.i64.wrap ((j : Int) + 1) = ((j + 1 : Nat) : Int) := i64_succ (by omega)
      have e2 := drop_get (d := 0) g2 g4 c3
      have nx : ∀ t', t' = bindT v val (ts.getD j 0) → (b.set j t').take (j + 1) = (ts.map (bindT v val)).take (j + 1) := fun t' ht =>
        take_set_to (d := 0) (by simpa using g2) g3 (by simpa using c3) (by rw [map_getI c3, ht])
      have hbl : (L.set k ⟨r, b⟩).length = q.atoms.length := by simpa using h2
      by_cases d3 : b.getD j 0 = v
      · have f1 : (b.getD j 0 == v) = true := by rw [d3]; simp
        simp -implicitDefEqProofs (maxSteps := 2000000) only [go_sem, c1, c2, c3, h2, g2, List.length_take, Nat.min_self]
        refine call_of (bound_sat (b.getD j 0) v) (by simp -implicitDefEqProofs (maxSteps := 2000000) only [go_sem, c2, c3, g2]) (by kernel_rfl) (by simp -implicitDefEqProofs (maxSteps := 2000000) only [go_sem, c2, c3, g2]) ?_
        simp -implicitDefEqProofs (maxSteps := 2000000) only [go_sem, c2, c3, g2]
        refine tr_and (by kernel_rfl) ?_
        simp -implicitDefEqProofs (maxSteps := 2000000) only [go_sem, f1]
        refine call_of (constantB_sat val (by omega)) (by simp -implicitDefEqProofs (maxSteps := 2000000) only [go_sem, c2, c3, g2]) (by kernel_rfl) (by simp -implicitDefEqProofs (maxSteps := 2000000) only [go_sem, c2, c3, g2]) ?_
        simp -implicitDefEqProofs (maxSteps := 2000000) only [go_sem, c2, c3, g2]
        refine tr_and (by kernel_rfl) ?_
        rw [wj]
        exact ⟨(j + 1, b.set j (-1 - val)), ⟨c3, by simpa using g2, nx _ (by rw [← e2, bindT, if_pos d3]), drop_set _ g4⟩, by simp; omega, (le_st' _ _ [⟨960, some _, true, 2, _⟩, ⟨961, some _, false, 1, _⟩] [] _ (by simp -implicitDefEqProofs (maxSteps := 2000000) only [go_sem, c2, h2, g2] <;> and_intros <;> rfl) (by simp -implicitDefEqProofs (maxSteps := 2000000) only [go_sem, c2, h2, g2] <;> and_intros <;> rfl) (by simp -implicitDefEqProofs (maxSteps := 2000000) only [go_sem, c2, h2, g2] <;> and_intros <;> rfl) (by rfl))⟩
      · have f1 : (b.getD j 0 == v) = false := by rw [beq_eq_false_iff_ne]; exact d3
        simp -implicitDefEqProofs (maxSteps := 2000000) only [go_sem, c1, c2, c3, h2, g2, List.length_take, Nat.min_self]
        refine call_of (bound_sat (b.getD j 0) v) (by simp -implicitDefEqProofs (maxSteps := 2000000) only [go_sem, c2, c3, g2]) (by kernel_rfl) (by simp -implicitDefEqProofs (maxSteps := 2000000) only [go_sem, c2, c3, g2]) ?_
        simp -implicitDefEqProofs (maxSteps := 2000000) only [go_sem, c2, c3, g2]
        refine tr_and (by kernel_rfl) ?_
        simp -implicitDefEqProofs (maxSteps := 2000000) only [go_sem, f1]
        rw [wj]
        exact ⟨(j + 1, b.set j (bindF v (b.getD j 0))), ⟨c3, by simpa using g2, nx _ (by rw [← e2, bindT, if_neg d3, bindF]), drop_set _ g4⟩, by simp; omega, (le_st' _ _ [⟨960, some _, true, 2, _⟩, ⟨961, some _, false, 1, _⟩] [] _ (by simp -implicitDefEqProofs (maxSteps := 2000000) only [go_sem, c2, h2, g2] <;> and_intros <;> rfl) (by simp -implicitDefEqProofs (maxSteps := 2000000) only [go_sem, c2, h2, g2] <;> and_intros <;> rfl) (by simp -implicitDefEqProofs (maxSteps := 2000000) only [go_sem, c2, h2, g2] <;> and_intros <;> rfl) (by rfl))⟩
    · have hb : b = ts.map (bindT v val) := of_take (by simpa using g2) g3 (by simp; omega)
      simp -implicitDefEqProofs (maxSteps := 2000000) only [go_sem, c1, c2, c3, h2, g2, List.length_take, Nat.min_self, wk]
      refine ⟨(k + 1, L.set k ⟨r, b⟩), ⟨c1, by simpa using h2, ?_, drop_set _ h4⟩, by simp; omega, (le_st' _ _ [⟨960, some _, false, 2, _⟩, ⟨961, some _, false, 1, _⟩] [] _ (by simp -implicitDefEqProofs (maxSteps := 2000000) only [go_sem] <;> and_intros <;> rfl) (by simp -implicitDefEqProofs (maxSteps := 2000000) only [go_sem] <;> and_intros <;> rfl) (by simp -implicitDefEqProofs (maxSteps := 2000000) only [go_sem] <;> and_intros <;> rfl) (by rfl))⟩
      exact take_set_to (d := default) (by simpa using h2) h3 (by simpa using c1) (by rw [map_getA c1, hat, bindA, hb])
  · have hL : L = q.atoms.map (bindA v val) := of_take (by simpa using h2) h3 (by simp; omega)
    simp -implicitDefEqProofs (maxSteps := 2000000) only [go_sem, c1, h2, List.length_take, Nat.min_self]
    rw [hL]
    refine awp_loop Nat (fun k => mkSt [(1, .sc (.int .i64 v)), (3, .one (.vad 1000 0)), (6, .one (.vad 1064 0)), (8, .one (.vad 1320 0)), (64, .one (.im 1 (ints q.free))), (65, .sc (.int .i64 q.free.length)), (66, .sc (.int .i64 k))] [(1000, sQu q), (1064, zQu), (1320, [.sc (.int .i64 q.vc), .ref 960 2 0 q.atoms.length, .ref 961 1 0 (freeB v (q.free.take k)).length])] [(960, (2, ris 999 (q.atoms.map (bindA v val)))), (961, (1, ints (freeB v (q.free.take k))))] 14000)
      (fun k => k ≤ q.free.length) (fun k => q.free.length - k) 0 (by omega) (le_st' _ _ [⟨960, some _, false, 2, _⟩, ⟨961, none, false, 1, _⟩] [] _ (by simp -implicitDefEqProofs (maxSteps := 2000000) only [go_sem, freeB, List.take_zero] <;> and_intros <;> rfl) (by simp -implicitDefEqProofs (maxSteps := 2000000) only [go_sem, freeB, List.take_zero] <;> and_intros <;> rfl) (by simp -implicitDefEqProofs (maxSteps := 2000000) only [go_sem, freeB, List.take_zero] <;> and_intros <;> rfl) (by rfl)) ?_
    rintro m g1
    have hfl := freeB_len v (q.free.take m)
    have hfm : (q.free.take m).length ≤ q.free.length := by rw [List.length_take]; omega
    by_cases c3 : m < q.free.length
    · have wm : IntKind.i64.wrap ((m : Int) + 1) = ((m + 1 : Nat) : Int) := i64_succ (by omega)
      have hst := freeB_step (v := v) c3
      by_cases d3 : q.free.getD m 0 = v
      · have f1 : (q.free.getD m 0 != v) = false := by rw [bne, d3]; simp
        rw [freeB, if_pos d3, freeB, List.append_nil] at hst
        simp -implicitDefEqProofs (maxSteps := 2000000) only [go_sem, c3, f1]
        rw [wm]
        refine ⟨m + 1, c3, by omega, ?_⟩
        rw [hst]
        exact (le_st' _ _ [⟨960, some _, false, 2, _⟩, ⟨961, some _, false, 1, _⟩] [] _ (by simp -implicitDefEqProofs (maxSteps := 2000000) only [go_sem] <;> and_intros <;> rfl) (by simp -implicitDefEqProofs (maxSteps := 2000000) only [go_sem] <;> and_intros <;> rfl) (by simp -implicitDefEqProofs (maxSteps := 2000000) only [go_sem] <;> and_intros <;> rfl) (by rfl))
      · have f1 : (q.free.getD m 0 != v) = true := by rw [bne, Bool.not_eq_true', beq_eq_false_iff_ne]; exact d3
        rw [freeB, if_neg d3, freeB] at hst
        simp -implicitDefEqProofs (maxSteps := 2000000) only [go_sem, c3, f1]
        refine call_of (bound_sat (q.free.getD m 0) v) (by simp -implicitDefEqProofs (maxSteps := 2000000) only [go_sem]) (by kernel_rfl) (by simp -implicitDefEqProofs (maxSteps := 2000000) only [go_sem]) ?_
        simp -implicitDefEqProofs (maxSteps := 2000000) only [go_sem]
        repeat (refine ⟨by omega, ?_⟩)
        refine tr_and (by kernel_rfl) ?_
        rw [wm]
        refine ⟨m + 1, c3, by omega, ?_⟩
        rw [hst]
        exact (le_st' _ _ [⟨960, some _, false, 2, _⟩, ⟨961, some _, false, 1, _⟩] [] _ (by simp -implicitDefEqProofs (maxSteps := 2000000) only [go_sem, repC, List.set_cons_zero] <;> and_intros <;> rfl) (by simp -implicitDefEqProofs (maxSteps := 2000000) only [go_sem, repC, List.set_cons_zero] <;> and_intros <;> rfl) (by simp -implicitDefEqProofs (maxSteps := 2000000) only [go_sem, repC, List.set_cons_zero] <;> and_intros <;> rfl) (by rfl))
    · obtain rfl : m = q.free.length := by omega
      rw [List.take_length]
      simp -implicitDefEqProofs (maxSteps := 2000000) only [go_sem, c3]
      kernel_rfl
theorem markQu_vc (q : Qu) (k : Int) : (markQu q k).vc = q.vc := rfl
theorem markQu_at (q : Qu) (k : Int) : (markQu q k).atoms = markRI q.atoms k := rfl
theorem markQu_fr (q : Qu) (k : Int) : (markQu q k).free = cnt (k + numRI q.atoms) q.free.length := rfl
theorem markRI_full (a : List RI) (k : Int) : List.take a.length (markRI a k) = markRI a k := List.take_of_length_le (by rw [markRI_length]; omega)
attribute [go_sem] markQu_vc markQu_at markQu_fr markRI_full
theorem bindQ_ok {q : Qu} (v val : Int) (h : q.ok) : (bindQ q v val).ok := by
  unfold bindQ
  split
  · refine ⟨⟨by simpa using h.1.1, fun x hx => ?_⟩, ?_⟩
    · obtain ⟨a, ha, rfl⟩ := List.mem_map.mp hx
      have := h.1.2 a ha
      unfold RI.ok at this ⊢
      simpa [bindA] using this
    · have := freeB_len v q.free
      have := h.2
      show (freeB v q.free).length ≤ _
      omega
  · exact h
end Go.Proofs.YtedciihjgbkjgabGreat.A
