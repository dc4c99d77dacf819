/- Packed by pack.py: FQ FQ2 FW FQF FEm1 FC1 FC2 FC3 FBlk2 FSel FBlk3 FBlk4 FRep FEm2 -/
import Derived.Test.YtbalifgacjmbpacGreatAZ1IsCertain

/- VALID QUERIES. Conditions: none. -/
namespace Go.Proofs.YtbalifgacjmbpacGreat.A
open Go
set_option linter.unusedSimpArgs false
set_option linter.unusedVariables false
set_option maxRecDepth 100000

/-- Is the i-th number an index, and behind the one before it. -/
def idxAt (l : List Int) (n : Int) (i : Nat) : Bool := inB (l.getD i 0) 0 (n - 1) && (decide (i = 0) || !decide (l.getD i 0 ≤ l.getD (i - 1) 0))
def idxs (l : List Int) (n : Int) : Bool := upTo (idxAt l n) l.length
theorem areIndices_sat (l : List Int) (n : Int) (h : l.length ≤ 9223372036854775807) (hn : -9223372036854775807 ≤ n ∧ n ≤ 9223372036854775807) : Sat Tryz.prog 92 [lInts l, lInt n] [lBool (idxs l n)] [g1, g1] := by
  refine sat_of_body mixed Tryz.func92 rfl (by kernel_rfl) (by kernel_rfl) (rs := [.tmp 4]) rfl rfl rfl ?_
  unfold idxs
  have w0 : IntKind.i64.wrap (n - 1) = n - 1 := IntWalk.i64_in _ (by omega)
  simp -implicitDefEqProofs (maxSteps := 2000000) only [go_sem]
  refine awp_loop Nat (fun k => mkSt [(0, .one (.im 1 (ints l))), (1, .sc (.int .i64 n)), (7, .one (.im 1 (ints l))), (8, .sc (.int .i64 l.length)), (9, .sc (.int .i64 k))] [] [] 1000)
    (fun k => k ≤ l.length ∧ upTo (idxAt l n) k = true) (fun k => l.length - k) 0 ⟨by omega, rfl⟩ (le_st _ _ [] [] _ rfl (by simp -implicitDefEqProofs (maxSteps := 2000000) only [go_sem] <;> rfl) trivial trivial) ?_
  rintro k ⟨h1, h2⟩
  by_cases c1 : k < l.length
  · rcases d1 : inB (l.getD k 0) 0 (n - 1)
    · rw [upTo_false c1 (by rw [idxAt, d1]; rfl)]
      simp -implicitDefEqProofs (maxSteps := 2000000) only [go_sem, c1, w0]
      refine call_of (inW_sat (l.getD k 0) 0 (n - 1)) (by simp -implicitDefEqProofs (maxSteps := 2000000) only [go_sem, d1, c1]) (by kernel_rfl) (by simp -implicitDefEqProofs (maxSteps := 2000000) only [go_sem, d1, c1]) ?_
      simp -implicitDefEqProofs (maxSteps := 2000000) only [go_sem, d1, c1]
    rcases k with _ | j
    · have e : idxAt l n 0 = true := by rw [idxAt, d1]; rfl
      have c0 : (0 : Int) < l.length := by omega
      simp -implicitDefEqProofs (maxSteps := 2000000) only [go_sem, c1, c0, w0]
      refine call_of (inW_sat (l.getD 0 0) 0 (n - 1)) (by simp -implicitDefEqProofs (maxSteps := 2000000) only [go_sem, d1, c1, c0]) (by kernel_rfl) (by simp -implicitDefEqProofs (maxSteps := 2000000) only [go_sem, d1, c1, c0]) ?_
      simp -implicitDefEqProofs (maxSteps := 2000000) only [go_sem, d1, c1, c0]
      exact ⟨1, ⟨c1, upTo_step h2 e⟩, by omega, (le_st _ _ [] [] _ rfl (by simp -implicitDefEqProofs (maxSteps := 2000000) only [go_sem] <;> rfl) trivial trivial)⟩
    · have c2 : j < l.length := by omega
      have c3 : 0 < ((j + 1 : Nat) : Int) := by omega
      have w1 := i64_pred (j := j) (by omega)
      rcases d2 : decide (l.getD (j + 1) 0 ≤ l.getD j 0)
      · have e : idxAt l n (j + 1) = true := by rw [idxAt, d1, Nat.add_sub_cancel, d2]; rfl
        simp -implicitDefEqProofs (maxSteps := 2000000) only [go_sem, c1, w0]
        refine call_of (inW_sat (l.getD (j + 1) 0) 0 (n - 1)) (by simp -implicitDefEqProofs (maxSteps := 2000000) only [go_sem, d1, d2, c1, c2, c3, w1]) (by kernel_rfl) (by simp -implicitDefEqProofs (maxSteps := 2000000) only [go_sem, d1, d2, c1, c2, c3, w1]) ?_
        simp -implicitDefEqProofs (maxSteps := 2000000) only [go_sem, d1, d2, c1, c2, c3, w1]
        rw [i64_succ (by omega)]
        exact ⟨j + 1 + 1, ⟨c1, upTo_step h2 e⟩, by omega, (le_st _ _ [] [] _ rfl (by simp -implicitDefEqProofs (maxSteps := 2000000) only [go_sem] <;> rfl) trivial trivial)⟩
      · rw [upTo_false c1 (show idxAt l n (j + 1) = false by rw [idxAt, d1, Nat.add_sub_cancel, d2]; rfl)]
        simp -implicitDefEqProofs (maxSteps := 2000000) only [go_sem, c1, w0]
        refine call_of (inW_sat (l.getD (j + 1) 0) 0 (n - 1)) (by simp -implicitDefEqProofs (maxSteps := 2000000) only [go_sem, d1, d2, c1, c2, c3, w1]) (by kernel_rfl) (by simp -implicitDefEqProofs (maxSteps := 2000000) only [go_sem, d1, d2, c1, c2, c3, w1]) ?_
        simp -implicitDefEqProofs (maxSteps := 2000000) only [go_sem, d1, d2, c1, c2, c3, w1]
  · obtain rfl : k = l.length := by omega
    simp -implicitDefEqProofs (maxSteps := 2000000) only [go_sem, c1]
    rw [h2]
/-- The i-th atom: its relation is one, its arity fits, no atom before it has its relation, its terms are such. -/
def relAt (l : List Rel) (a : RI) : Bool := inB a.r 0 ((l.length : Int) - 1) && ((a.l.length : Int) == (l.getD a.r.toNat default).ar)
def termOk (vc : Int) (ts : List Int) (i : Nat) : Bool := inB (ts.getD i 0) (-10) (vc - 1)
def newRel (q : Qu) (i k : Nat) : Bool := !((q.atoms.getD k default).r == (q.atoms.getD i default).r)
def atomOk (l : List Rel) (q : Qu) (i : Nat) : Bool := relAt l (q.atoms.getD i default) && (upTo (newRel q i) i && upTo (termOk q.vc (q.atoms.getD i default).l) (q.atoms.getD i default).l.length)
/-- The variables that occur in the first k atoms. -/
def occurs (q : Qu) (k : Nat) (v : Int) : Bool := (q.atoms.take k).any fun a => decide (v ∈ a.l)
def goodQu (l : List Rel) (q : Qu) : Bool := goodRels l && (inB q.vc 0 4 && (inB q.atoms.length 1 3 && (idxs q.free q.vc && (upTo (atomOk l q) q.atoms.length && upTo (fun v => occurs q q.atoms.length v) q.vc.toNat))))

/-! #### lists of truth values -/
def bls (l : List Bool) : Rows := l.map fun b => [Cell.sc (.bool b)]
theorem bls_length (l : List Bool) : (bls l).length = l.length := by simp [bls]
theorem bls_get {l : List Bool} {i : Nat} (h : i < l.length) : (bls l).getD i [] = [Cell.sc (.bool (l.getD i false))] := get_map false (fun b => [Cell.sc (.bool b)]) h
theorem bls_frz (l : List Bool) : frz (bls l) = bls l := frz_map _ _ (fun _ => rfl) l
theorem bls_rst (l : List Bool) : rst (bls l) = bls l := rst_map _ _ (fun _ => rfl) l
theorem bls_stm (n : Nat) (l : List Bool) : stm n (bls l) = bls l := stm_map n _ _ (fun _ => rfl) l
theorem bls_take (l : List Bool) (k : Nat) : (bls l).take k = bls (l.take k) := by simp [bls]
theorem bls_set (l : List Bool) (i : Nat) (b : Bool) : (bls l).set i [.sc (.bool b)] = bls (l.set i b) := by simp [bls, List.map_set]
theorem bls_rep (n : Nat) (b : Bool) : List.replicate n [Cell.sc (.bool b)] = bls (List.replicate n b) := by simp [bls]
attribute [go_sem] bls_length bls_get bls_frz bls_rst bls_stm bls_take bls_set bls_rep
def met4 (p : Nat → Bool) : List Bool := [p 0, p 1, p 2, p 3]
theorem met4_length (p : Nat → Bool) : (met4 p).length = 4 := rfl
theorem met4_get {p : Nat → Bool} {i : Nat} (h : i < 4) : (met4 p).getD i false = p i := by
  match i, h with
  | 0, _ => rfl
  | 1, _ => rfl
  | 2, _ => rfl
  | 3, _ => rfl
theorem met4_set {p p' : Nat → Bool} {i : Nat} (h : i < 4) (h1 : p' i = true) (h2 : ∀ v, v ≠ i → p' v = p v) : (met4 p).set i true = met4 p' := by
  match i, h with
  | 0, _ => simp [met4, h1, h2]
  | 1, _ => simp [met4, h1, h2]
  | 2, _ => simp [met4, h1, h2]
  | 3, _ => simp [met4, h1, h2]
theorem met4_eq {p p' : Nat → Bool} (h : ∀ v, p v = p' v) : met4 p = met4 p' := by simp [met4, h]

/-! #### what occurs -/
theorem occurs_step {q : Qu} {k : Nat} (h : k < q.atoms.length) (v : Int) : occurs q (k + 1) v = (occurs q k v || decide (v ∈ (q.atoms.getD k default).l)) := by
  unfold occurs; rw [take_snoc default h, List.any_append]; simp
theorem occurs_zero (q : Qu) (v : Int) : occurs q 0 v = false := rfl
theorem uni_occurs {q : Qu} {k : Nat} (h : k < q.atoms.length) : uni (selN (occurs q k) 4) (varsOf (q.atoms.getD k default).l) = selN (occurs q (k + 1)) 4 := by
  refine strict_eq (uni_strict _ _) (selN_strict _ _) fun x => ?_
  rw [uni_mem, varsOf, selN_mem, selN_mem, selN_mem, occurs_step h, Bool.or_eq_true]
  constructor
  · rintro (⟨a, b, c⟩ | ⟨a, b, c⟩)
    · exact ⟨a, b, .inl c⟩
    · exact ⟨a, b, .inr c⟩
  · rintro ⟨a, b, c | c⟩
    · exact .inl ⟨a, b, c⟩
    · exact .inr ⟨a, b, c⟩
theorem selN_full {p : Int → Bool} : ∀ {n : Nat}, (((selN p n).length : Int) == n) = upTo (fun v => p v) n
  | 0 => by simp [selN, upTo]
  | n + 1 => by
    have ih := selN_full (p := p) (n := n)
    have hl := selN_len p n
    rw [upTo, ← ih]
    rcases e : p n
    · rw [selN_no e, Bool.and_false]
      exact beq_eq_false_iff_ne.mpr (by omega)
    · rw [selN_yes e, Bool.and_true, List.length_append, List.length_singleton, Bool.eq_iff_iff, beq_iff_eq, beq_iff_eq]
      omega
theorem selN_above {p : Int → Bool} {n : Nat} : ∀ {m : Nat}, n ≤ m → (∀ v : Nat, n ≤ v → v < m → p v = false) → selN p m = selN p n
  | 0, h, _ => by rw [show n = 0 by omega]
  | m + 1, h, hp => by
    by_cases e : n = m + 1
    · rw [e]
    · rw [selN_no (hp m (by omega) (by omega)), selN_above (by omega) fun v h1 h2 => hp v h1 (by omega)]
theorem occurs_lt {l : List Rel} {q : Qu} {k : Nat} (hk : k ≤ q.atoms.length) (h : upTo (atomOk l q) k = true) {v : Int} (hv : occurs q k v = true) : v ≤ q.vc - 1 := by
  unfold occurs at hv
  obtain ⟨a, ha, hva⟩ := List.any_eq_true.mp hv
  obtain ⟨i, hi, rfl⟩ := List.mem_iff_getElem.mp ha
  rw [List.length_take] at hi
  have h1 := upTo_at h (k := i) (by omega)
  unfold atomOk at h1
  simp only [Bool.and_eq_true] at h1
  have e : q.atoms.getD i default = (q.atoms.take k)[i]'(by rw [List.length_take]; exact hi) := by
    rw [List.getElem_take, List.getD_eq_getElem?_getD, List.getElem?_eq_getElem (by omega)]; rfl
  rw [e] at h1
  obtain ⟨j, hj, hje⟩ := List.mem_iff_getElem.mp (of_decide_eq_true hva)
  have h2 := upTo_at h1.2.2 hj
  unfold termOk at h2
  have h3 := inB_of h2
  rw [List.getD_eq_getElem?_getD, List.getElem?_eq_getElem hj] at h3
  simp only [Option.getD_some] at h3
  rw [hje] at h3
  exact h3.2
theorem all_occur {l : List Rel} {q : Qu} (h4 : inB q.vc 0 4 = true) (h : upTo (atomOk l q) q.atoms.length = true) : (((selN (occurs q q.atoms.length) 4).length : Int) == q.vc) = upTo (fun v => occurs q q.atoms.length v) q.vc.toNat := by
  have hv := inB_of h4
  rw [← selN_full, selN_above (n := q.vc.toNat) (m := 4) (by omega) fun v h1 h2 => ?_]
  · rw [show ((q.vc.toNat : Nat) : Int) = q.vc by omega]
  · rcases e : occurs q q.atoms.length v
    · rfl
    · have := occurs_lt (Nat.le_refl _) h e
      omega
end Go.Proofs.YtbalifgacjmbpacGreat.A


/- VALID QUERIES: the two programs. Conditions: none. -/
namespace Go.Proofs.YtbalifgacjmbpacGreat.A
open Go
set_option linter.unusedSimpArgs false
set_option linter.unusedVariables false
set_option maxRecDepth 100000

theorem goodQu_atom {l : List Rel} {q : Qu} {i : Nat} (hi : i < q.atoms.length) (h : atomOk l q i = false) : goodQu l q = false := by
  unfold goodQu; rw [upTo_false hi h]; simp
theorem goodQu_var {l : List Rel} {q : Qu} {v : Nat} (hv : v < q.vc.toNat) (h : occurs q q.atoms.length v = false) : goodQu l q = false := by
  unfold goodQu; rw [upTo_false (p := fun v => occurs q q.atoms.length v) hv h]; simp
theorem goodQu_free {l : List Rel} {q : Qu} {v : Nat} (hv : v < q.free.length) (h : idxAt q.free q.vc v = false) : goodQu l q = false := by
  unfold goodQu idxs; rw [upTo_false hv h]; simp
theorem dec_snoc {l : List Int} {x v : Int} (h : v ≠ x) : decide (v ∈ l ++ [x]) = decide (v ∈ l) := by
  rw [Bool.eq_iff_iff, decide_eq_true_iff, decide_eq_true_iff, List.mem_append, List.mem_singleton]
  exact ⟨fun k => k.resolve_right h, .inl⟩
theorem specIsValidQuery_sat (l : List Rel) (q : Qu) (h : l.length ≤ 9223372036854775807) (hq : q.fit) : Sat Tryz.prog 47 [lRels l, lQu q] [lBool (goodQu l q)] [g1, g3] := by
  refine sat_of_body mixed Tryz.func47 rfl (by kernel_rfl) (by kernel_rfl) (rs := [.tmp 4]) rfl rfl rfl ?_
  have w0 : IntKind.i64.wrap ((l.length : Int) - 1) = (l.length : Int) - 1 := IntWalk.i64_in _ (by omega)
  simp -implicitDefEqProofs (maxSteps := 2000000) only [go_sem]
  rcases g : goodRels l
  · rw [show goodQu l q = false by rw [goodQu, g]; rfl]
    refine call_of (specAreValidRelations_sat l h) (by simp -implicitDefEqProofs (maxSteps := 2000000) only [go_sem, g]) (by kernel_rfl) (by simp -implicitDefEqProofs (maxSteps := 2000000) only [go_sem, g]) ?_
    simp -implicitDefEqProofs (maxSteps := 2000000) only [go_sem, g]
  rcases v1 : inB q.vc 0 4
  · rw [show goodQu l q = false by rw [goodQu, v1]; simp]
    refine call_of (specAreValidRelations_sat l h) (by simp -implicitDefEqProofs (maxSteps := 2000000) only [go_sem, g]) (by kernel_rfl) (by simp -implicitDefEqProofs (maxSteps := 2000000) only [go_sem, g]) ?_
    simp -implicitDefEqProofs (maxSteps := 2000000) only [go_sem, g]
    refine call_of (inB_sat q.vc 0 4) (by simp -implicitDefEqProofs (maxSteps := 2000000) only [go_sem, v1]) (by kernel_rfl) (by simp -implicitDefEqProofs (maxSteps := 2000000) only [go_sem, v1]) ?_
    simp -implicitDefEqProofs (maxSteps := 2000000) only [go_sem, v1]
  rcases v2 : inB q.atoms.length 1 3
  · rw [show goodQu l q = false by rw [goodQu, v2]; simp]
    refine call_of (specAreValidRelations_sat l h) (by simp -implicitDefEqProofs (maxSteps := 2000000) only [go_sem, g]) (by kernel_rfl) (by simp -implicitDefEqProofs (maxSteps := 2000000) only [go_sem, g]) ?_
    simp -implicitDefEqProofs (maxSteps := 2000000) only [go_sem, g]
    refine call_of (inB_sat q.vc 0 4) (by simp -implicitDefEqProofs (maxSteps := 2000000) only [go_sem, v1]) (by kernel_rfl) (by simp -implicitDefEqProofs (maxSteps := 2000000) only [go_sem, v1]) ?_
    simp -implicitDefEqProofs (maxSteps := 2000000) only [go_sem, v1]
    refine call_of (inB_sat q.atoms.length 1 3) (by simp -implicitDefEqProofs (maxSteps := 2000000) only [go_sem, v2]) (by kernel_rfl) (by simp -implicitDefEqProofs (maxSteps := 2000000) only [go_sem, v2]) ?_
    simp -implicitDefEqProofs (maxSteps := 2000000) only [go_sem, v2]
  obtain ⟨b1, b2⟩ := inB_of v1
  obtain ⟨b3, b4⟩ := inB_of v2
  have wv : IntKind.i64.wrap (q.vc - 1) = q.vc - 1 := IntWalk.i64_in _ (by omega)
  refine call_of (specAreValidRelations_sat l h) (by simp -implicitDefEqProofs (maxSteps := 2000000) only [go_sem, g]) (by kernel_rfl) (by simp -implicitDefEqProofs (maxSteps := 2000000) only [go_sem, g]) ?_
  simp -implicitDefEqProofs (maxSteps := 2000000) only [go_sem, g]
  refine call_of (inB_sat q.vc 0 4) (by simp -implicitDefEqProofs (maxSteps := 2000000) only [go_sem, v1]) (by kernel_rfl) (by simp -implicitDefEqProofs (maxSteps := 2000000) only [go_sem, v1]) ?_
  simp -implicitDefEqProofs (maxSteps := 2000000) only [go_sem, v1]
  refine call_of (inB_sat q.atoms.length 1 3) (by simp -implicitDefEqProofs (maxSteps := 2000000) only [go_sem, v2]) (by kernel_rfl) (by simp -implicitDefEqProofs (maxSteps := 2000000) only [go_sem, v2]) ?_
  simp -implicitDefEqProofs (maxSteps := 2000000) only [go_sem, v2]
  rw [show (4 : Int) = ((4 : Nat) : Int) from rfl, msK_n]
  refine ⟨by omega, ?_⟩
  simp -implicitDefEqProofs (maxSteps := 2000000) only [go_sem]
  obtain ⟨L0, hL0⟩ : ∃ L, L = List.replicate 4 false := ⟨_, rfl⟩
  rw [← hL0]
  refine awp_loop (Nat × List Bool) (fun x => mkSt [(0, .one (.im 3 (rels l))), (3, .one (.vad 1000 0)), (5, .one (.ref 960 1 0 4)), (6, .sc (.int .i64 x.1))] [(1000, sQu q)] [(960, (1, bls x.2))] 2000)
    (fun x => x.1 ≤ q.atoms.length ∧ upTo (atomOk l q) x.1 = true ∧ x.2 = met4 fun v => occurs q x.1 v) (fun x => q.atoms.length - x.1) (0, L0) ⟨by simp, rfl, hL0.trans rfl⟩ (le_st' _ _ [⟨960, some _, false, 1, _⟩] [] _ (by simp -implicitDefEqProofs (maxSteps := 2000000) only [go_sem] <;> and_intros <;> rfl) (by simp -implicitDefEqProofs (maxSteps := 2000000) only [go_sem] <;> and_intros <;> rfl) (by simp -implicitDefEqProofs (maxSteps := 2000000) only [go_sem] <;> and_intros <;> rfl) (by rfl)) ?_
  rintro ⟨i, b⟩ ⟨h1, h2, hb⟩
  simp only at h1 h2 hb
  have hbl : b.length = 4 := by rw [hb]; rfl
  by_cases c1 : i < q.atoms.length
  · have hfa : (q.atoms.getD i default).fit := hq.1.2 _ (mem_getD default c1)
    rcases ea : q.atoms.getD i default with ⟨r, ts⟩
    rw [ea] at hfa
    have hts : ts.length ≤ 9223372036854775807 := hfa
    have wi : IntKind.i64.wrap ((i : Int) + 1) = ((i + 1 : Nat) : Int) := i64_succ (by omega)
    rcases i1 : inB r 0 ((l.length : Int) - 1)
    · rw [goodQu_atom c1 (by rw [atomOk, ea, relAt, i1]; rfl)]
      simp -implicitDefEqProofs (maxSteps := 2000000) only [go_sem, c1, ea, w0]
      refine call_of (inB_sat r 0 ((l.length : Int) - 1)) (by simp -implicitDefEqProofs (maxSteps := 2000000) only [go_sem, i1]) (by kernel_rfl) (by simp -implicitDefEqProofs (maxSteps := 2000000) only [go_sem, i1]) ?_
      simp -implicitDefEqProofs (maxSteps := 2000000) only [go_sem, i1]
    obtain ⟨r1, r2⟩ := inB_of i1
    obtain ⟨m, rfl⟩ : ∃ m : Nat, r = m := ⟨r.toNat, by omega⟩
    have c2 : m < l.length := by omega
    rcases d2 : (ts.length : Int) == (l.getD m default).ar
    · have d3 : ((ts.length : Int) != (l.getD m default).ar) = true := by rw [bne, d2]; rfl
      rw [goodQu_atom c1 (by rw [atomOk, ea, relAt, i1]; simp only [Int.toNat_natCast, d2]; rfl)]
      simp -implicitDefEqProofs (maxSteps := 2000000) only [go_sem, c1, ea, w0]
      refine call_of (inB_sat m 0 ((l.length : Int) - 1)) (by simp -implicitDefEqProofs (maxSteps := 2000000) only [go_sem, i1, d3, c2]) (by kernel_rfl) (by simp -implicitDefEqProofs (maxSteps := 2000000) only [go_sem, i1, d3, c2]) ?_
      simp -implicitDefEqProofs (maxSteps := 2000000) only [go_sem, i1, d3, c2]
    have d3 : ((ts.length : Int) != (l.getD m default).ar) = false := by rw [bne, d2]; rfl
    have hrel : relAt l ⟨m, ts⟩ = true := by rw [relAt, i1]; simp only [Int.toNat_natCast, d2]; rfl
    simp -implicitDefEqProofs (maxSteps := 2000000) only [go_sem, c1, ea, w0]
    refine call_of (inB_sat m 0 ((l.length : Int) - 1)) (by simp -implicitDefEqProofs (maxSteps := 2000000) only [go_sem, i1, d3, c2]) (by kernel_rfl) (by simp -implicitDefEqProofs (maxSteps := 2000000) only [go_sem, i1, d3, c2]) ?_
    simp -implicitDefEqProofs (maxSteps := 2000000) only [go_sem, i1, d3, c2]
    refine awp_loop Nat (fun k => mkSt [(0, .one (.im 3 (rels l))), (3, .one (.vad 1000 0)), (5, .one (.ref 960 1 0 4)), (6, .sc (.int .i64 i)), (7, .one (.vad 2640 0)), (8, .sc (.int .i64 k))] [(1000, sQu q), (2640, sRI ⟨m, ts⟩)] [(960, (1, bls b))] 4000)
      (fun k => k ≤ i ∧ upTo (newRel q i) k = true) (fun k => i - k) 0 ⟨by omega, rfl⟩ (le_st' _ _ [⟨960, some _, false, 1, _⟩] [] _ (by simp -implicitDefEqProofs (maxSteps := 2000000) only [go_sem] <;> and_intros <;> rfl) (by simp -implicitDefEqProofs (maxSteps := 2000000) only [go_sem] <;> and_intros <;> rfl) (by simp -implicitDefEqProofs (maxSteps := 2000000) only [go_sem] <;> and_intros <;> rfl) (by rfl)) ?_
    rintro k ⟨h3, h4⟩
    by_cases c3 : k < i
    · have c4 : k < q.atoms.length := by omega
      rcases d4 : (q.atoms.getD k default).r == (m : Int)
      · simp -implicitDefEqProofs (maxSteps := 2000000) only [go_sem, c3, c4, d4]
        rw [i64_succ (by omega)]
        exact ⟨k + 1, ⟨c3, upTo_step h4 (by rw [newRel, ea, d4]; rfl)⟩, by omega, (le_st' _ _ [⟨960, some _, false, 1, _⟩] [] _ (by simp -implicitDefEqProofs (maxSteps := 2000000) only [go_sem] <;> and_intros <;> rfl) (by simp -implicitDefEqProofs (maxSteps := 2000000) only [go_sem] <;> and_intros <;> rfl) (by simp -implicitDefEqProofs (maxSteps := 2000000) only [go_sem] <;> and_intros <;> rfl) (by rfl))⟩
      · rw [goodQu_atom c1 (by rw [atomOk, upTo_false c3 (by rw [newRel, ea, d4]; rfl)]; simp)]
        simp -implicitDefEqProofs (maxSteps := 2000000) only [go_sem, c3, c4, d4]
    obtain rfl : k = i := by omega
    simp -implicitDefEqProofs (maxSteps := 2000000) only [go_sem, c3]
    refine awp_loop (Nat × List Bool) (fun x => mkSt [(0, .one (.im 3 (rels l))), (3, .one (.vad 1000 0)), (5, .one (.ref 960 1 0 4)), (6, .sc (.int .i64 k)), (7, .one (.vad 2640 0)), (9, .sc (.int .i64 x.1))] [(1000, sQu q), (2640, sRI ⟨m, ts⟩)] [(960, (1, bls x.2))] 6000)
      (fun x => x.1 ≤ ts.length ∧ upTo (termOk q.vc ts) x.1 = true ∧ x.2 = met4 fun v => occurs q k v || decide ((v : Int) ∈ ts.take x.1)) (fun x => ts.length - x.1) (0, b) ⟨by simp, rfl, hb.trans (met4_eq (p' := fun v => occurs q k v || decide ((v : Int) ∈ ts.take 0)) fun v => by simp)⟩ (le_st' _ _ [⟨960, some _, false, 1, _⟩] [] _ (by simp -implicitDefEqProofs (maxSteps := 2000000) only [go_sem] <;> and_intros <;> rfl) (by simp -implicitDefEqProofs (maxSteps := 2000000) only [go_sem] <;> and_intros <;> rfl) (by simp -implicitDefEqProofs (maxSteps := 2000000) only [go_sem] <;> and_intros <;> rfl) (by rfl)) ?_
    rintro ⟨j, bb⟩ ⟨h5, h6, hbb⟩
    simp only at h5 h6 hbb
    have hbbl : bb.length = 4 := by rw [hbb]; rfl
    by_cases c5 : j < ts.length
    · rcases d5 : inB (ts.getD j 0) (-10) (q.vc - 1)
      · rw [goodQu_atom c1 (by rw [atomOk, ea, upTo_false c5 (by rw [termOk, d5])]; simp)]
        simp -implicitDefEqProofs (maxSteps := 2000000) only [go_sem, c5, wv]
        refine call_of (inB_sat (ts.getD j 0) (-10) (q.vc - 1)) (by simp -implicitDefEqProofs (maxSteps := 2000000) only [go_sem, d5]) (by kernel_rfl) (by simp -implicitDefEqProofs (maxSteps := 2000000) only [go_sem, d5]) ?_
        simp -implicitDefEqProofs (maxSteps := 2000000) only [go_sem, d5]
      obtain ⟨t1, t2⟩ := inB_of d5
      have hts1 : ts.take (j + 1) = ts.take j ++ [ts.getD j 0] := take_snoc 0 c5
      have h6' := upTo_step h6 (show termOk q.vc ts j = true by rw [termOk, d5])
      simp -implicitDefEqProofs (maxSteps := 2000000) only [go_sem, c5, wv]
      refine call_of (inB_sat (ts.getD j 0) (-10) (q.vc - 1)) (by simp -implicitDefEqProofs (maxSteps := 2000000) only [go_sem, d5, c5]) (by kernel_rfl) (by simp -implicitDefEqProofs (maxSteps := 2000000) only [go_sem, d5, c5]) ?_
      simp -implicitDefEqProofs (maxSteps := 2000000) only [go_sem, d5, c5]
      by_cases c6 : 0 ≤ ts.getD j 0
      · obtain ⟨t, ht⟩ : ∃ t : Nat, ts.getD j 0 = t := ⟨(ts.getD j 0).toNat, by omega⟩
        have c7 : t < 4 := by omega
        have c8 : 0 ≤ (t : Int) := by omega
        simp -implicitDefEqProofs (maxSteps := 2000000) only [go_sem, ht, c5, c7, c8, hbbl]
        rw [i64_succ (by omega)]
        refine ⟨(j + 1, bb.set t true), ⟨c5, h6', ?_⟩, by simp; omega, (le_st' _ _ [⟨960, some _, false, 1, _⟩] [] _ (by simp -implicitDefEqProofs (maxSteps := 2000000) only [go_sem, hbbl, c7] <;> and_intros <;> rfl) (by simp -implicitDefEqProofs (maxSteps := 2000000) only [go_sem, hbbl, c7] <;> and_intros <;> rfl) (by simp -implicitDefEqProofs (maxSteps := 2000000) only [go_sem, hbbl, c7] <;> and_intros <;> rfl) (by rfl))⟩
        rw [hbb]
        exact met4_set c7 (by rw [hts1, ht]; simp) (fun v hv => by rw [hts1, ht, dec_snoc (fun e => hv (by omega))])
      · simp -implicitDefEqProofs (maxSteps := 2000000) only [go_sem, c6]
        rw [i64_succ (by omega)]
        refine ⟨(j + 1, bb), ⟨c5, h6', ?_⟩, by simp; omega, (le_st' _ _ [⟨960, some _, false, 1, _⟩] [] _ (by simp -implicitDefEqProofs (maxSteps := 2000000) only [go_sem] <;> and_intros <;> rfl) (by simp -implicitDefEqProofs (maxSteps := 2000000) only [go_sem] <;> and_intros <;> rfl) (by simp -implicitDefEqProofs (maxSteps := 2000000) only [go_sem] <;> and_intros <;> rfl) (by rfl))⟩
        exact hbb.trans (met4_eq (p' := fun v => occurs q k v || decide ((v : Int) ∈ ts.take (j + 1))) fun v => by rw [hts1, dec_snoc (by omega)])
    · obtain rfl : j = ts.length := by omega
      simp -implicitDefEqProofs (maxSteps := 2000000) only [go_sem, c5, wi]
      refine ⟨(k + 1, bb), ⟨c1, upTo_step h2 (by rw [atomOk, ea, hrel, h4, h6]; rfl), ?_⟩, by simp; omega, (le_st' _ _ [⟨960, some _, false, 1, _⟩] [] _ (by simp -implicitDefEqProofs (maxSteps := 2000000) only [go_sem] <;> and_intros <;> rfl) (by simp -implicitDefEqProofs (maxSteps := 2000000) only [go_sem] <;> and_intros <;> rfl) (by simp -implicitDefEqProofs (maxSteps := 2000000) only [go_sem] <;> and_intros <;> rfl) (by rfl))⟩
      exact hbb.trans (met4_eq (p' := fun v => occurs q (k + 1) v) fun v => by rw [occurs_step c1, ea, List.take_length])
  obtain rfl : i = q.atoms.length := by omega
  simp -implicitDefEqProofs (maxSteps := 2000000) only [go_sem, c1]
  refine awp_loop Nat (fun v => mkSt [(3, .one (.vad 1000 0)), (5, .one (.ref 960 1 0 4)), (10, .sc (.int .i64 v))] [(1000, sQu q)] [(960, (1, bls b))] 4000)
    (fun v => v ≤ q.vc.toNat ∧ upTo (fun v => occurs q q.atoms.length v) v = true) (fun v => q.vc.toNat - v) 0 ⟨by omega, rfl⟩ (le_st' _ _ [⟨960, some _, false, 1, _⟩] [] _ (by simp -implicitDefEqProofs (maxSteps := 2000000) only [go_sem] <;> and_intros <;> rfl) (by simp -implicitDefEqProofs (maxSteps := 2000000) only [go_sem] <;> and_intros <;> rfl) (by simp -implicitDefEqProofs (maxSteps := 2000000) only [go_sem] <;> and_intros <;> rfl) (by rfl)) ?_
  rintro v ⟨h3, h4⟩
  by_cases c3 : v < q.vc.toNat
  · have c4 : (v : Int) < q.vc := by omega
    have c5 : v < 4 := by omega
    have e5 : b.getD v false = occurs q q.atoms.length v := by rw [hb]; exact met4_get (p := fun v => occurs q q.atoms.length v) c5
    rcases d5 : occurs q q.atoms.length v
    · rw [goodQu_var c3 d5]
      simp -implicitDefEqProofs (maxSteps := 2000000) only [go_sem, c4, c5, e5, d5, hbl]
    · simp -implicitDefEqProofs (maxSteps := 2000000) only [go_sem, c4, c5, e5, d5, hbl]
      rw [i64_succ (by omega)]
      exact ⟨v + 1, ⟨c3, upTo_step h4 d5⟩, by omega, (le_st' _ _ [⟨960, some _, false, 1, _⟩] [] _ (by simp -implicitDefEqProofs (maxSteps := 2000000) only [go_sem] <;> and_intros <;> rfl) (by simp -implicitDefEqProofs (maxSteps := 2000000) only [go_sem] <;> and_intros <;> rfl) (by simp -implicitDefEqProofs (maxSteps := 2000000) only [go_sem] <;> and_intros <;> rfl) (by rfl))⟩
  obtain rfl : v = q.vc.toNat := by omega
  have c4 : ¬ ((q.vc.toNat : Nat) : Int) < q.vc := by omega
  simp -implicitDefEqProofs (maxSteps := 2000000) only [go_sem, c4]
  have hff := hq.2
  refine awp_loop Nat (fun k => mkSt [(3, .one (.vad 1000 0)), (11, .sc (.int .i64 k))] [(1000, sQu q)] [] 6000)
    (fun k => k ≤ q.free.length ∧ upTo (idxAt q.free q.vc) k = true) (fun k => q.free.length - k) 0 ⟨by omega, rfl⟩ (le_st _ _ [] [] _ rfl (by simp -implicitDefEqProofs (maxSteps := 2000000) only [go_sem] <;> rfl) (by simp -implicitDefEqProofs (maxSteps := 2000000) only [go_sem] <;> rfl) (by simp -implicitDefEqProofs (maxSteps := 2000000) only [go_sem] <;> rfl)) ?_
  rintro k ⟨h5, h6⟩
  by_cases e1 : k < q.free.length
  · rcases d1 : inB (q.free.getD k 0) 0 (q.vc - 1)
    · rw [goodQu_free e1 (by rw [idxAt, d1]; rfl)]
      simp -implicitDefEqProofs (maxSteps := 2000000) only [go_sem, e1, wv]
      refine call_of (inB_sat (q.free.getD k 0) 0 (q.vc - 1)) (by simp -implicitDefEqProofs (maxSteps := 2000000) only [go_sem, d1, e1]) (by kernel_rfl) (by simp -implicitDefEqProofs (maxSteps := 2000000) only [go_sem, d1, e1]) ?_
      simp -implicitDefEqProofs (maxSteps := 2000000) only [go_sem, d1, e1]
    rcases k with _ | j
    · have e : idxAt q.free q.vc 0 = true := by rw [idxAt, d1]; rfl
      have e0 : (0 : Int) < q.free.length := by omega
      simp -implicitDefEqProofs (maxSteps := 2000000) only [go_sem, e1, e0, wv]
      refine call_of (inB_sat (q.free.getD 0 0) 0 (q.vc - 1)) (by simp -implicitDefEqProofs (maxSteps := 2000000) only [go_sem, d1, e1, e0]) (by kernel_rfl) (by simp -implicitDefEqProofs (maxSteps := 2000000) only [go_sem, d1, e1, e0]) ?_
      simp -implicitDefEqProofs (maxSteps := 2000000) only [go_sem, d1, e1, e0]
      exact ⟨1, ⟨e1, upTo_step h6 e⟩, by omega, (le_st _ _ [] [] _ rfl (by simp -implicitDefEqProofs (maxSteps := 2000000) only [go_sem] <;> rfl) (by simp -implicitDefEqProofs (maxSteps := 2000000) only [go_sem] <;> rfl) (by simp -implicitDefEqProofs (maxSteps := 2000000) only [go_sem] <;> rfl))⟩
    · have e2 : j < q.free.length := by omega
      have e3 : 0 < ((j + 1 : Nat) : Int) := by omega
      have w1 := i64_pred (j := j) (by omega)
      rcases d2 : decide (q.free.getD (j + 1) 0 ≤ q.free.getD j 0)
      · have e : idxAt q.free q.vc (j + 1) = true := by rw [idxAt, d1, Nat.add_sub_cancel, d2]; rfl
        simp -implicitDefEqProofs (maxSteps := 2000000) only [go_sem, e1, wv]
        refine call_of (inB_sat (q.free.getD (j + 1) 0) 0 (q.vc - 1)) (by simp -implicitDefEqProofs (maxSteps := 2000000) only [go_sem, d1, d2, e1, e2, e3, w1]) (by kernel_rfl) (by simp -implicitDefEqProofs (maxSteps := 2000000) only [go_sem, d1, d2, e1, e2, e3, w1]) ?_
        simp -implicitDefEqProofs (maxSteps := 2000000) only [go_sem, d1, d2, e1, e2, e3, w1]
        rw [i64_succ (by omega)]
        exact ⟨j + 1 + 1, ⟨e1, upTo_step h6 e⟩, by omega, (le_st _ _ [] [] _ rfl (by simp -implicitDefEqProofs (maxSteps := 2000000) only [go_sem] <;> rfl) (by simp -implicitDefEqProofs (maxSteps := 2000000) only [go_sem] <;> rfl) (by simp -implicitDefEqProofs (maxSteps := 2000000) only [go_sem] <;> rfl))⟩
      · rw [goodQu_free e1 (show idxAt q.free q.vc (j + 1) = false by rw [idxAt, d1, Nat.add_sub_cancel, d2]; rfl)]
        simp -implicitDefEqProofs (maxSteps := 2000000) only [go_sem, e1, wv]
        refine call_of (inB_sat (q.free.getD (j + 1) 0) 0 (q.vc - 1)) (by simp -implicitDefEqProofs (maxSteps := 2000000) only [go_sem, d1, d2, e1, e2, e3, w1]) (by kernel_rfl) (by simp -implicitDefEqProofs (maxSteps := 2000000) only [go_sem, d1, d2, e1, e2, e3, w1]) ?_
        simp -implicitDefEqProofs (maxSteps := 2000000) only [go_sem, d1, d2, e1, e2, e3, w1]
  · obtain rfl : k = q.free.length := by omega
    simp -implicitDefEqProofs (maxSteps := 2000000) only [go_sem, e1]
    rw [goodQu, g, v1, v2, idxs, h6, h2, h4]
    rfl
theorem upTo_congr {p p' : Nat → Bool} : ∀ {n : Nat}, (∀ k, k < n → p k = p' k) → upTo p n = upTo p' n
  | 0, _ => rfl
  | n + 1, h => by rw [upTo, upTo, upTo_congr fun k hk => h k (by omega), h n (by omega)]
def otherRel (a : RI) (l : List RI) (k : Nat) : Bool := !((l.getD k default).r == a.r)
abbrev fRI (a : RI) : List Fld := [.sc (.int .i64 a.r), .im 1 (ints a.l)]
theorem isValidQuery1_sat (a b : RI) : Sat Tryz.prog 94 [lRI b, .one (.ip (fRI a))] [lBool (b.r == a.r)] [g2, g1] := by
  refine sat_of_body mixed Tryz.func94 rfl (by kernel_rfl) (by kernel_rfl) (rs := [.tmp 3]) rfl rfl rfl ?_
  simp -implicitDefEqProofs (maxSteps := 2000000) only [go_sem]
theorem atomsIndex_sat (l : List RI) (a : RI) (h : l.length ≤ 9223372036854775807) : Sat Tryz.prog 115 [lRIs l, .one (.fn 94 [fRI a])] [lInt (firstNo (otherRel a l) l.length 0)] [g1, g1] := by
  refine sat_of_body mixed Tryz.func115 rfl (by kernel_rfl) (by kernel_rfl) (rs := [.tmp 4]) rfl rfl rfl ?_
  simp -implicitDefEqProofs (maxSteps := 2000000) only [go_sem]
  refine awp_loop Nat (fun k => mkSt [(0, .one (.im 2 (ris 0 l))), (1, .one (.fni 94 [fRI a])), (7, .sc (.int .i64 l.length)), (8, .sc (.int .i64 k))] [] [] 1000)
    (fun k => k ≤ l.length ∧ firstNo (otherRel a l) (l.length - k) k = firstNo (otherRel a l) l.length 0) (fun k => l.length - k) 0 ⟨by omega, rfl⟩ (le_st _ _ [] [] _ rfl (by simp -implicitDefEqProofs (maxSteps := 2000000) only [go_sem] <;> rfl) trivial trivial) ?_
  rintro k ⟨h1, h2⟩
  by_cases c1 : k < l.length
  · rw [show l.length - k = (l.length - (k + 1)) + 1 by omega, firstNo] at h2
    rcases d : (l.getD k default).r == a.r
    · rw [if_pos (by rw [otherRel, d]; rfl)] at h2
      simp -implicitDefEqProofs (maxSteps := 2000000) only [go_sem, c1]
      refine call_of (isValidQuery1_sat a (l.getD k default)) (by simp -implicitDefEqProofs (maxSteps := 2000000) only [go_sem, d, c1]) (by kernel_rfl) (by simp -implicitDefEqProofs (maxSteps := 2000000) only [go_sem, d, c1]) ?_
      simp -implicitDefEqProofs (maxSteps := 2000000) only [go_sem, d, c1]
      rw [i64_succ (by omega)]
      exact ⟨k + 1, ⟨c1, h2⟩, by omega, (le_st _ _ [] [] _ rfl (by simp -implicitDefEqProofs (maxSteps := 2000000) only [go_sem] <;> rfl) trivial trivial)⟩
    · rw [if_neg (by rw [otherRel, d]; simp)] at h2
      simp -implicitDefEqProofs (maxSteps := 2000000) only [go_sem, c1]
      refine call_of (isValidQuery1_sat a (l.getD k default)) (by simp -implicitDefEqProofs (maxSteps := 2000000) only [go_sem, d, c1]) (by kernel_rfl) (by simp -implicitDefEqProofs (maxSteps := 2000000) only [go_sem, d, c1]) ?_
      simp -implicitDefEqProofs (maxSteps := 2000000) only [go_sem, d, c1]
      rw [← h2]
  · obtain rfl : k = l.length := by omega
    rw [Nat.sub_self, firstNo] at h2
    simp -implicitDefEqProofs (maxSteps := 2000000) only [go_sem, c1]
    rw [← h2]
theorem atomsContains_sat (l : List RI) (a : RI) (h : l.length ≤ 9223372036854775807) : Sat Tryz.prog 93 [lRIs l, .one (.fn 94 [fRI a])] [lBool (!upTo (otherRel a l) l.length)] [g1, g1] := by
  refine sat_of_body mixed Tryz.func93 rfl (by kernel_rfl) (by kernel_rfl) (rs := [.tmp 4]) rfl rfl rfl ?_
  simp -implicitDefEqProofs (maxSteps := 2000000) only [go_sem]
  refine call_of (atomsIndex_sat l a h) (by simp -implicitDefEqProofs (maxSteps := 2000000) only [go_sem]) (by kernel_rfl) (by simp -implicitDefEqProofs (maxSteps := 2000000) only [go_sem]) ?_
  simp -implicitDefEqProofs (maxSteps := 2000000) only [go_sem]
  rw [firstNo_ge _ _ _ rfl, Nat.zero_add]
theorem implIsValidQuery_sat (l : List Rel) (q : Qu) (h : l.length ≤ 9223372036854775807) (hq : q.ok) : Sat Tryz.prog 72 [lRels l, lQu q] [lBool (goodQu l q)] [g1, g3] := by
  refine sat_of_body mixed Tryz.func72 rfl (by kernel_rfl) (by kernel_rfl) (rs := [.tmp 4]) rfl rfl rfl ?_
  have w0 : IntKind.i64.wrap ((l.length : Int) - 1) = (l.length : Int) - 1 := IntWalk.i64_in _ (by omega)
  have hff : q.free.length ≤ 9223372036854775807 := by have := hq.2; omega
  simp -implicitDefEqProofs (maxSteps := 2000000) only [go_sem]
  rcases g : goodRels l
  · rw [show goodQu l q = false by rw [goodQu, g]; rfl]
    refine call_of (implAreValidRelations_sat l h) (by simp -implicitDefEqProofs (maxSteps := 2000000) only [go_sem, g]) (by kernel_rfl) (by simp -implicitDefEqProofs (maxSteps := 2000000) only [go_sem, g]) ?_
    simp -implicitDefEqProofs (maxSteps := 2000000) only [go_sem, g]
  rcases v1 : inB q.vc 0 4
  · rw [show goodQu l q = false by rw [goodQu, v1]; simp]
    refine call_of (implAreValidRelations_sat l h) (by simp -implicitDefEqProofs (maxSteps := 2000000) only [go_sem, g]) (by kernel_rfl) (by simp -implicitDefEqProofs (maxSteps := 2000000) only [go_sem, g]) ?_
    simp -implicitDefEqProofs (maxSteps := 2000000) only [go_sem, g]
    refine call_of (inW_sat q.vc 0 4) (by simp -implicitDefEqProofs (maxSteps := 2000000) only [go_sem, v1]) (by kernel_rfl) (by simp -implicitDefEqProofs (maxSteps := 2000000) only [go_sem, v1]) ?_
    simp -implicitDefEqProofs (maxSteps := 2000000) only [go_sem, v1]
  rcases v2 : inB q.atoms.length 1 3
  · rw [show goodQu l q = false by rw [goodQu, v2]; simp]
    refine call_of (implAreValidRelations_sat l h) (by simp -implicitDefEqProofs (maxSteps := 2000000) only [go_sem, g]) (by kernel_rfl) (by simp -implicitDefEqProofs (maxSteps := 2000000) only [go_sem, g]) ?_
    simp -implicitDefEqProofs (maxSteps := 2000000) only [go_sem, g]
    refine call_of (inW_sat q.vc 0 4) (by simp -implicitDefEqProofs (maxSteps := 2000000) only [go_sem, v1]) (by kernel_rfl) (by simp -implicitDefEqProofs (maxSteps := 2000000) only [go_sem, v1]) ?_
    simp -implicitDefEqProofs (maxSteps := 2000000) only [go_sem, v1]
    refine call_of (inW_sat q.atoms.length 1 3) (by simp -implicitDefEqProofs (maxSteps := 2000000) only [go_sem, v2]) (by kernel_rfl) (by simp -implicitDefEqProofs (maxSteps := 2000000) only [go_sem, v2]) ?_
    simp -implicitDefEqProofs (maxSteps := 2000000) only [go_sem, v2]
  obtain ⟨b1, b2⟩ := inB_of v1
  obtain ⟨b3, b4⟩ := inB_of v2
  have wv : IntKind.i64.wrap (q.vc - 1) = q.vc - 1 := IntWalk.i64_in _ (by omega)
  rcases v3 : idxs q.free q.vc
  · rw [show goodQu l q = false by rw [goodQu, v3]; simp]
    refine call_of (implAreValidRelations_sat l h) (by simp -implicitDefEqProofs (maxSteps := 2000000) only [go_sem, g]) (by kernel_rfl) (by simp -implicitDefEqProofs (maxSteps := 2000000) only [go_sem, g]) ?_
    simp -implicitDefEqProofs (maxSteps := 2000000) only [go_sem, g]
    refine call_of (inW_sat q.vc 0 4) (by simp -implicitDefEqProofs (maxSteps := 2000000) only [go_sem, v1]) (by kernel_rfl) (by simp -implicitDefEqProofs (maxSteps := 2000000) only [go_sem, v1]) ?_
    simp -implicitDefEqProofs (maxSteps := 2000000) only [go_sem, v1]
    refine call_of (inW_sat q.atoms.length 1 3) (by simp -implicitDefEqProofs (maxSteps := 2000000) only [go_sem, v2]) (by kernel_rfl) (by simp -implicitDefEqProofs (maxSteps := 2000000) only [go_sem, v2]) ?_
    simp -implicitDefEqProofs (maxSteps := 2000000) only [go_sem, v2]
    refine call_of (areIndices_sat q.free q.vc hff (by omega)) (by simp -implicitDefEqProofs (maxSteps := 2000000) only [go_sem, v3]) (by kernel_rfl) (by simp -implicitDefEqProofs (maxSteps := 2000000) only [go_sem, v3]) ?_
    simp -implicitDefEqProofs (maxSteps := 2000000) only [go_sem, v3]
  refine call_of (implAreValidRelations_sat l h) (by simp -implicitDefEqProofs (maxSteps := 2000000) only [go_sem, g]) (by kernel_rfl) (by simp -implicitDefEqProofs (maxSteps := 2000000) only [go_sem, g]) ?_
  simp -implicitDefEqProofs (maxSteps := 2000000) only [go_sem, g]
  refine call_of (inW_sat q.vc 0 4) (by simp -implicitDefEqProofs (maxSteps := 2000000) only [go_sem, v1]) (by kernel_rfl) (by simp -implicitDefEqProofs (maxSteps := 2000000) only [go_sem, v1]) ?_
  simp -implicitDefEqProofs (maxSteps := 2000000) only [go_sem, v1]
  refine call_of (inW_sat q.atoms.length 1 3) (by simp -implicitDefEqProofs (maxSteps := 2000000) only [go_sem, v2]) (by kernel_rfl) (by simp -implicitDefEqProofs (maxSteps := 2000000) only [go_sem, v2]) ?_
  simp -implicitDefEqProofs (maxSteps := 2000000) only [go_sem, v2]
  refine call_of (areIndices_sat q.free q.vc hff (by omega)) (by simp -implicitDefEqProofs (maxSteps := 2000000) only [go_sem, v3]) (by kernel_rfl) (by simp -implicitDefEqProofs (maxSteps := 2000000) only [go_sem, v3]) ?_
  simp -implicitDefEqProofs (maxSteps := 2000000) only [go_sem, v3]
  refine awp_loop Nat (fun i => mkSt [(0, .one (.im 3 (rels l))), (3, .one (.vad 1000 0)), (5, .one (.ref 960 1 0 (selN (occurs q i) 4).length)), (36, .one (.im 2 (ris 0 q.atoms))), (37, .sc (.int .i64 q.atoms.length)), (38, .sc (.int .i64 i))] [(1000, sQu q)] [(960, (1, ints (selN (occurs q i) 4)))] 2000)
    (fun i => i ≤ q.atoms.length ∧ upTo (atomOk l q) i = true) (fun i => q.atoms.length - i) 0 ⟨by omega, rfl⟩ (le_st' _ _ [⟨960, some _, false, 1, _⟩] [] _ (by simp -implicitDefEqProofs (maxSteps := 2000000) only [go_sem] <;> and_intros <;> rfl) (by simp -implicitDefEqProofs (maxSteps := 2000000) only [go_sem] <;> and_intros <;> rfl) (by simp -implicitDefEqProofs (maxSteps := 2000000) only [go_sem] <;> and_intros <;> rfl) (by rfl)) ?_
  rintro i ⟨h1, h2⟩
  have hlo := selN_len (occurs q i) 4
  by_cases c1 : i < q.atoms.length
  · have hfa : (q.atoms.getD i default).ok := hq.1.2 _ (mem_getD default c1)
    have hun := uni_occurs (q := q) c1
    have hvl := varsOf_len (q.atoms.getD i default).l
    rcases ea : q.atoms.getD i default with ⟨r, ts⟩
    rw [ea] at hfa hun hvl
    have hts : ts.length ≤ 1048576 := hfa
    have wi : IntKind.i64.wrap ((i : Int) + 1) = ((i + 1 : Nat) : Int) := i64_succ (by omega)
    rcases i1 : inB r 0 ((l.length : Int) - 1)
    · rw [goodQu_atom c1 (by rw [atomOk, ea, relAt, i1]; rfl)]
      simp -implicitDefEqProofs (maxSteps := 2000000) only [go_sem, c1, ea, w0]
      refine call_of (inW_sat r 0 ((l.length : Int) - 1)) (by simp -implicitDefEqProofs (maxSteps := 2000000) only [go_sem, i1]) (by kernel_rfl) (by simp -implicitDefEqProofs (maxSteps := 2000000) only [go_sem, i1]) ?_
      simp -implicitDefEqProofs (maxSteps := 2000000) only [go_sem, i1]
    obtain ⟨r1, r2⟩ := inB_of i1
    obtain ⟨m, rfl⟩ : ∃ m : Nat, r = m := ⟨r.toNat, by omega⟩
    have c2 : m < l.length := by omega
    rcases d2 : (ts.length : Int) == (l.getD m default).ar
    · have d3 : ((ts.length : Int) != (l.getD m default).ar) = true := by rw [bne, d2]; rfl
      rw [goodQu_atom c1 (by rw [atomOk, ea, relAt, i1]; simp only [Int.toNat_natCast, d2]; rfl)]
      simp -implicitDefEqProofs (maxSteps := 2000000) only [go_sem, c1, ea, w0]
      refine call_of (inW_sat m 0 ((l.length : Int) - 1)) (by simp -implicitDefEqProofs (maxSteps := 2000000) only [go_sem, i1, d3, c2]) (by kernel_rfl) (by simp -implicitDefEqProofs (maxSteps := 2000000) only [go_sem, i1, d3, c2]) ?_
      simp -implicitDefEqProofs (maxSteps := 2000000) only [go_sem, i1, d3, c2]
    have d3 : ((ts.length : Int) != (l.getD m default).ar) = false := by rw [bne, d2]; rfl
    have hrel : relAt l ⟨m, ts⟩ = true := by rw [relAt, i1]; simp only [Int.toNat_natCast, d2]; rfl
    have c3 : i ≤ q.atoms.length := by omega
    have hup : upTo (otherRel ⟨m, ts⟩ (q.atoms.take i)) (q.atoms.take i).length = upTo (newRel q i) i := by
      rw [List.length_take, Nat.min_eq_left c3]
      refine upTo_congr fun k hk => ?_
      rw [otherRel, newRel, ea]
      rw [List.getD_eq_getElem?_getD, List.getD_eq_getElem?_getD, List.getElem?_take_of_lt hk]
    rcases d4 : upTo (newRel q i) i
    · rw [goodQu_atom c1 (by rw [atomOk, d4]; simp)]
      simp -implicitDefEqProofs (maxSteps := 2000000) only [go_sem, c1, ea, w0]
      refine call_of (inW_sat m 0 ((l.length : Int) - 1)) (by simp -implicitDefEqProofs (maxSteps := 2000000) only [go_sem, i1, d3, c2, c3, Nat.zero_le]) (by kernel_rfl) (by simp -implicitDefEqProofs (maxSteps := 2000000) only [go_sem, i1, d3, c2, c3, Nat.zero_le]) ?_
      simp -implicitDefEqProofs (maxSteps := 2000000) only [go_sem, i1, d3, c2, c3, Nat.zero_le]
      refine call_of (atomsContains_sat (q.atoms.take i) ⟨m, ts⟩ (by rw [List.length_take]; omega)) (by simp -implicitDefEqProofs (maxSteps := 2000000) only [go_sem, hup, d4, c3]) (by kernel_rfl) (by simp -implicitDefEqProofs (maxSteps := 2000000) only [go_sem, hup, d4, c3]) ?_
      simp -implicitDefEqProofs (maxSteps := 2000000) only [go_sem, hup, d4, c3]
    simp -implicitDefEqProofs (maxSteps := 2000000) only [go_sem, c1, ea, w0]
    refine call_of (inW_sat m 0 ((l.length : Int) - 1)) (by simp -implicitDefEqProofs (maxSteps := 2000000) only [go_sem, i1, d3, c2, c3, Nat.zero_le]) (by kernel_rfl) (by simp -implicitDefEqProofs (maxSteps := 2000000) only [go_sem, i1, d3, c2, c3, Nat.zero_le]) ?_
    simp -implicitDefEqProofs (maxSteps := 2000000) only [go_sem, i1, d3, c2, c3, Nat.zero_le]
    refine call_of (atomsContains_sat (q.atoms.take i) ⟨m, ts⟩ (by rw [List.length_take]; omega)) (by simp -implicitDefEqProofs (maxSteps := 2000000) only [go_sem, hup, d4, c3]) (by kernel_rfl) (by simp -implicitDefEqProofs (maxSteps := 2000000) only [go_sem, hup, d4, c3]) ?_
    simp -implicitDefEqProofs (maxSteps := 2000000) only [go_sem, hup, d4, c3]
    refine awp_loop Nat (fun j => mkSt [(0, .one (.im 3 (rels l))), (3, .one (.vad 1000 0)), (5, .one (.ref 960 1 0 (selN (occurs q i) 4).length)), (7, .one (.vad 2256 0)), (36, .one (.im 2 (ris 0 q.atoms))), (37, .sc (.int .i64 q.atoms.length)), (38, .sc (.int .i64 i)), (71, .one (.im 1 (ints ts))), (72, .sc (.int .i64 ts.length)), (73, .sc (.int .i64 j))] [(1000, sQu q), (2256, sRI ⟨m, ts⟩)] [(960, (1, ints (selN (occurs q i) 4)))] 6000)
      (fun j => j ≤ ts.length ∧ upTo (termOk q.vc ts) j = true) (fun j => ts.length - j) 0 ⟨by omega, rfl⟩ (le_st' _ _ [⟨960, some _, false, 1, _⟩] [] _ (by simp -implicitDefEqProofs (maxSteps := 2000000) only [go_sem] <;> and_intros <;> rfl) (by simp -implicitDefEqProofs (maxSteps := 2000000) only [go_sem] <;> and_intros <;> rfl) (by simp -implicitDefEqProofs (maxSteps := 2000000) only [go_sem] <;> and_intros <;> rfl) (by rfl)) ?_
    rintro j ⟨h5, h6⟩
    by_cases c5 : j < ts.length
    · rcases d5 : inB (ts.getD j 0) (-10) (q.vc - 1)
      · rw [goodQu_atom c1 (by rw [atomOk, ea, upTo_false c5 (by rw [termOk, d5])]; simp)]
        simp -implicitDefEqProofs (maxSteps := 2000000) only [go_sem, c5, wv]
        refine call_of (inW_sat (ts.getD j 0) (-10) (q.vc - 1)) (by simp -implicitDefEqProofs (maxSteps := 2000000) only [go_sem, d5]) (by kernel_rfl) (by simp -implicitDefEqProofs (maxSteps := 2000000) only [go_sem, d5]) ?_
        simp -implicitDefEqProofs (maxSteps := 2000000) only [go_sem, d5]
      simp -implicitDefEqProofs (maxSteps := 2000000) only [go_sem, c5, wv]
      refine call_of (inW_sat (ts.getD j 0) (-10) (q.vc - 1)) (by simp -implicitDefEqProofs (maxSteps := 2000000) only [go_sem, d5, c5]) (by kernel_rfl) (by simp -implicitDefEqProofs (maxSteps := 2000000) only [go_sem, d5, c5]) ?_
      simp -implicitDefEqProofs (maxSteps := 2000000) only [go_sem, d5, c5]
      rw [i64_succ (by omega)]
      exact ⟨j + 1, ⟨c5, upTo_step h6 (by rw [termOk, d5])⟩, by omega, (le_st' _ _ [⟨960, some _, false, 1, _⟩] [] _ (by simp -implicitDefEqProofs (maxSteps := 2000000) only [go_sem] <;> and_intros <;> rfl) (by simp -implicitDefEqProofs (maxSteps := 2000000) only [go_sem] <;> and_intros <;> rfl) (by simp -implicitDefEqProofs (maxSteps := 2000000) only [go_sem] <;> and_intros <;> rfl) (by rfl))⟩
    · obtain rfl : j = ts.length := by omega
      simp -implicitDefEqProofs (maxSteps := 2000000) only [go_sem, c5]
      refine call_of (implAtomVariables_sat ⟨m, ts⟩ hfa) (by simp -implicitDefEqProofs (maxSteps := 2000000) only [go_sem]) (callOk_still (by kernel_rfl) (by simp only [List.all_cons, List.all_nil, LV.still, LV.leaves, Leaf.still, ints_still, ris_still, eds_still, rels_still, iss_still, ems_still, Bool.and_self, Bool.and_true])) (by simp -implicitDefEqProofs (maxSteps := 2000000) only [go_sem]) ?_
      simp -implicitDefEqProofs (maxSteps := 2000000) only [go_sem]
      refine call_of (union_sat (selN (occurs q i) 4) (varsOf ts) (by simp only at hvl; omega)) (by simp -implicitDefEqProofs (maxSteps := 2000000) only [go_sem, hun]) (callOk_still (by kernel_rfl) (by simp only [List.all_cons, List.all_nil, LV.still, LV.leaves, Leaf.still, ints_still, ris_still, eds_still, rels_still, iss_still, ems_still, Bool.and_self, Bool.and_true])) (by simp -implicitDefEqProofs (maxSteps := 2000000) only [go_sem, hun]) ?_
      simp -implicitDefEqProofs (maxSteps := 2000000) only [go_sem, hun]
      rw [wi]
      refine ⟨i + 1, ⟨c1, upTo_step h2 (by rw [atomOk, ea, hrel, d4, h6]; rfl)⟩, by omega, ?_⟩
      exact (le_st' _ _ [⟨960, some _, false, 1, _⟩] [] _ (by simp -implicitDefEqProofs (maxSteps := 2000000) only [go_sem, hun] <;> and_intros <;> rfl) (by simp -implicitDefEqProofs (maxSteps := 2000000) only [go_sem, hun] <;> and_intros <;> rfl) (by simp -implicitDefEqProofs (maxSteps := 2000000) only [go_sem, hun] <;> and_intros <;> rfl) (by rfl))
  · obtain rfl : i = q.atoms.length := by omega
    simp -implicitDefEqProofs (maxSteps := 2000000) only [go_sem, c1]
    rw [all_occur v1 h2, goodQu, g, v1, v2, v3, h2]
    simp
end Go.Proofs.YtbalifgacjmbpacGreat.A


/- FACTS IN ORDER; VALID DATABASES. Conditions: none. -/
namespace Go.Proofs.YtbalifgacjmbpacGreat.A
open Go
set_option linter.unusedSimpArgs false
set_option linter.unusedVariables false
set_option maxRecDepth 100000

def cmpI (a b : Int) : Int := if a < b then -1 else if a > b then 1 else 0
theorem compare_sat (a b : Int) : Sat Tryz.prog 113 [lInt a, lInt b] [lInt (cmpI a b)] [g1, g1] := by
  refine sat_of_body mixed Tryz.func113 rfl (by kernel_rfl) (by kernel_rfl) (rs := [.tmp 4]) rfl rfl rfl ?_
  unfold cmpI
  simp -implicitDefEqProofs (maxSteps := 2000000) only [go_sem]
  refine cond_split (fun d => ?_) fun d => ?_
  · simp -implicitDefEqProofs (maxSteps := 2000000) only [go_sem]
    rw [if_pos (of_decide_eq_true d)]
  rw [if_neg (of_decide_eq_false d)]
  simp -implicitDefEqProofs (maxSteps := 2000000) only [go_sem]
  refine cond_split (fun e => ?_) fun e => ?_
  · simp -implicitDefEqProofs (maxSteps := 2000000) only [go_sem]
    rw [if_pos (of_decide_eq_true e)]
  · simp -implicitDefEqProofs (maxSteps := 2000000) only [go_sem]
    rw [if_neg (of_decide_eq_false e)]
theorem isNaN_sat (a : Int) : Sat Tryz.prog 144 [lInt a] [lBool false] [g1] := by
  refine sat_of_body mixed Tryz.func144 rfl (by kernel_rfl) (by kernel_rfl) (rs := [.tmp 2]) rfl rfl rfl ?_
  simp -implicitDefEqProofs (maxSteps := 2000000) only [go_sem]
theorem cmpCompare_sat (a b : Int) : Sat Tryz.prog 136 [lInt a, lInt b] [lInt (cmpI a b)] [g1, g1] := by
  refine sat_of_body mixed Tryz.func136 rfl (by kernel_rfl) (by kernel_rfl) (rs := [.tmp 4]) rfl rfl rfl ?_
  unfold cmpI
  simp -implicitDefEqProofs (maxSteps := 2000000) only [go_sem]
  refine call_of (isNaN_sat a) (by simp -implicitDefEqProofs (maxSteps := 2000000) only [go_sem]) (by kernel_rfl) (by simp -implicitDefEqProofs (maxSteps := 2000000) only [go_sem]) ?_
  simp -implicitDefEqProofs (maxSteps := 2000000) only [go_sem]
  refine call_of (isNaN_sat b) (by simp -implicitDefEqProofs (maxSteps := 2000000) only [go_sem]) (by kernel_rfl) (by simp -implicitDefEqProofs (maxSteps := 2000000) only [go_sem]) ?_
  simp -implicitDefEqProofs (maxSteps := 2000000) only [go_sem]
  refine cond_split (fun d => ?_) fun d => ?_
  · simp -implicitDefEqProofs (maxSteps := 2000000) only [go_sem]
    rw [if_pos (of_decide_eq_true d)]
  rw [if_neg (of_decide_eq_false d)]
  simp -implicitDefEqProofs (maxSteps := 2000000) only [go_sem]
  refine cond_split (fun e => ?_) fun e => ?_
  · simp -implicitDefEqProofs (maxSteps := 2000000) only [go_sem]
    rw [if_pos (of_decide_eq_true e)]
  · simp -implicitDefEqProofs (maxSteps := 2000000) only [go_sem]
    rw [if_neg (of_decide_eq_false e)]
theorem slicesCompare_sat (a b : List Int) (ha : a.length ≤ 9223372036854775807) : Sat Tryz.prog 114 [lInts a, lInts b] [lInt (cmpInts a b)] [g1, g1] := by
  refine sat_of_body mixed Tryz.func114 rfl (by kernel_rfl) (by kernel_rfl) (rs := [.tmp 4]) rfl rfl rfl ?_
  simp -implicitDefEqProofs (maxSteps := 2000000) only [go_sem]
  refine awp_loop Nat (fun k => mkSt [(0, .one (.im 1 (ints a))), (1, .one (.im 1 (ints b))), (9, .one (.im 1 (ints a))), (10, .sc (.int .i64 a.length)), (11, .sc (.int .i64 k))] [] [] 1000)
    (fun k => k ≤ a.length ∧ k ≤ b.length ∧ cmpInts (a.drop k) (b.drop k) = cmpInts a b) (fun k => a.length - k) 0 ⟨by omega, by omega, rfl⟩ (le_st _ _ [] [] _ rfl (by simp -implicitDefEqProofs (maxSteps := 2000000) only [go_sem] <;> rfl) trivial trivial) ?_
  rintro k ⟨h1, h2, h3⟩
  by_cases c1 : k < a.length
  · rw [drop_cons 0 c1] at h3
    by_cases c2 : k < b.length
    · have c3 : ¬ b.length ≤ k := by omega
      rw [drop_cons 0 c2, cmpInts] at h3
      simp -implicitDefEqProofs (maxSteps := 2000000) only [go_sem, c1, c2, c3]
      refine call_of (cmpCompare_sat (a.getD k 0) (b.getD k 0)) (by simp -implicitDefEqProofs (maxSteps := 2000000) only [go_sem]) (by kernel_rfl) (by simp -implicitDefEqProofs (maxSteps := 2000000) only [go_sem]) ?_
      simp -implicitDefEqProofs (maxSteps := 2000000) only [go_sem]
      unfold cmpI
      by_cases e1 : a.getD k 0 < b.getD k 0
      · rw [if_pos e1] at h3 ⊢
        simp -implicitDefEqProofs (maxSteps := 2000000) only [go_sem]
        rw [← h3]
      rw [if_neg e1] at h3 ⊢
      by_cases e2 : a.getD k 0 > b.getD k 0
      · rw [if_pos e2] at h3 ⊢
        simp -implicitDefEqProofs (maxSteps := 2000000) only [go_sem]
        rw [← h3]
      rw [if_neg e2] at h3 ⊢
      simp -implicitDefEqProofs (maxSteps := 2000000) only [go_sem]
      rw [i64_succ (by omega)]
      exact ⟨k + 1, ⟨c1, c2, h3⟩, by omega, (le_st _ _ [] [] _ rfl (by simp -implicitDefEqProofs (maxSteps := 2000000) only [go_sem] <;> rfl) trivial trivial)⟩
    · obtain rfl : k = b.length := by omega
      rw [List.drop_length, cmpInts] at h3
      simp -implicitDefEqProofs (maxSteps := 2000000) only [go_sem, c1, Nat.le_refl]
      rw [← h3]
  · obtain rfl : k = a.length := by omega
    simp -implicitDefEqProofs (maxSteps := 2000000) only [go_sem, c1]
    rw [List.drop_length] at h3
    refine cond_split (fun d => ?_) fun d => ?_
    · simp -implicitDefEqProofs (maxSteps := 2000000) only [go_sem]
      have d := of_decide_eq_true d
      rw [drop_cons 0 (by omega), cmpInts] at h3
      rw [← h3]
    · simp -implicitDefEqProofs (maxSteps := 2000000) only [go_sem]
      have d := of_decide_eq_false d
      rw [List.drop_of_length_le (by omega), cmpInts] at h3
      rw [← h3]
def cmpRI (a b : RI) : Int := if a.r < b.r then -1 else if a.r > b.r then 1 else cmpInts a.l b.l
theorem specCompareFacts_sat (a b : RI) (h : a.fit) : Sat Tryz.prog 68 [lRI a, lRI b] [lInt (cmpRI a b)] [g2, g2] := by
  refine sat_of_body mixed Tryz.func68 rfl (by kernel_rfl) (by kernel_rfl) (rs := [.tmp 4]) rfl rfl rfl ?_
  unfold cmpRI
  simp -implicitDefEqProofs (maxSteps := 2000000) only [go_sem]
  refine cond_split (fun d => ?_) fun d => ?_
  · simp -implicitDefEqProofs (maxSteps := 2000000) only [go_sem]
    rw [if_pos (of_decide_eq_true d)]
  rw [if_neg (of_decide_eq_false d)]
  simp -implicitDefEqProofs (maxSteps := 2000000) only [go_sem]
  refine cond_split (fun e => ?_) fun e => ?_
  · simp -implicitDefEqProofs (maxSteps := 2000000) only [go_sem]
    rw [if_pos (of_decide_eq_true e)]
  rw [if_neg (of_decide_eq_false e)]
  simp -implicitDefEqProofs (maxSteps := 2000000) only [go_sem]
  refine call_of (l3Ints_sat a.l b.l h) (by simp -implicitDefEqProofs (maxSteps := 2000000) only [go_sem]) (by kernel_rfl) (by simp -implicitDefEqProofs (maxSteps := 2000000) only [go_sem]) ?_
  simp -implicitDefEqProofs (maxSteps := 2000000) only [go_sem]
theorem implCompareFacts_sat (a b : RI) (h : a.fit) : Sat Tryz.prog 90 [lRI a, lRI b] [lInt (cmpRI a b)] [g2, g2] := by
  refine sat_of_body mixed Tryz.func90 rfl (by kernel_rfl) (by kernel_rfl) (rs := [.tmp 4]) rfl rfl rfl ?_
  unfold cmpRI
  simp -implicitDefEqProofs (maxSteps := 2000000) only [go_sem]
  refine cond_split (fun d => ?_) fun d => ?_
  · simp -implicitDefEqProofs (maxSteps := 2000000) only [go_sem]
    refine call_of (compare_sat a.r b.r) (by simp -implicitDefEqProofs (maxSteps := 2000000) only [go_sem]) (by kernel_rfl) (by simp -implicitDefEqProofs (maxSteps := 2000000) only [go_sem]) ?_
    simp -implicitDefEqProofs (maxSteps := 2000000) only [go_sem]
    have d : ¬ a.r = b.r := by simpa using d
    unfold cmpI
    split
    · rfl
    · rw [if_pos (by omega), if_pos (by omega)]
  · have d : a.r = b.r := by simpa using d
    rw [if_neg (by omega), if_neg (by omega)]
    simp -implicitDefEqProofs (maxSteps := 2000000) only [go_sem]
    refine call_of (slicesCompare_sat a.l b.l h) (by simp -implicitDefEqProofs (maxSteps := 2000000) only [go_sem]) (by kernel_rfl) (by simp -implicitDefEqProofs (maxSteps := 2000000) only [go_sem]) ?_
    simp -implicitDefEqProofs (maxSteps := 2000000) only [go_sem]
/-- Is the i-th fact valid, and behind the one before it. -/
def factOk (d : Db) (i : Nat) : Bool := goodFact d.rels (d.facts.getD i default) && (decide (i = 0) || !decide (cmpRI (d.facts.getD (i - 1) default) (d.facts.getD i default) ≥ 0))
def goodDb (d : Db) : Bool := goodRels d.rels && (decide ((d.facts.length : Int) ≤ 14) && upTo (factOk d) d.facts.length)
theorem specIsValidDatabase_sat (d : Db) (h : d.fit) : Sat Tryz.prog 46 [lDb d] [lBool (goodDb d)] [g2] := by
  refine sat_of_body mixed Tryz.func46 rfl (by kernel_rfl) (by kernel_rfl) (rs := [.tmp 2]) rfl rfl rfl ?_
  have hm := fun k (hk : k < d.facts.length) => h.2.2 _ (mem_getD default hk)
  rcases g : goodRels d.rels
  · rw [show goodDb d = false by rw [goodDb, g]; rfl]
    simp -implicitDefEqProofs (maxSteps := 2000000) only [go_sem]
    refine awp_loop Nat (fun k => mkSt [(1, .one (.vad 1000 0)), (3, .sc (.int .i64 k))] [(1000, sDb d)] [] 2000)
      (fun k => k = 0) (fun k => 0) 0 rfl (le_st _ _ [] [] _ rfl (by simp -implicitDefEqProofs (maxSteps := 2000000) only [go_sem] <;> rfl) (by simp -implicitDefEqProofs (maxSteps := 2000000) only [go_sem] <;> rfl) (by simp -implicitDefEqProofs (maxSteps := 2000000) only [go_sem] <;> rfl)) ?_
    rintro k rfl
    by_cases c1 : 0 < d.facts.length
    · have c0 : (0 : Int) < d.facts.length := by omega
      simp -implicitDefEqProofs (maxSteps := 2000000) only [go_sem, c1, c0]
      refine call_of (specIsValidFact_sat d.rels (d.facts.getD 0 default) h.1.1 (hm 0 c1)) (by simp -implicitDefEqProofs (maxSteps := 2000000) only [go_sem, g, c1, c0]) (by kernel_rfl) (by simp -implicitDefEqProofs (maxSteps := 2000000) only [go_sem, g, c1, c0]) ?_
      simp -implicitDefEqProofs (maxSteps := 2000000) only [go_sem, g, c1, c0]
    · have c0 : ¬ (0 : Int) < d.facts.length := by omega
      simp -implicitDefEqProofs (maxSteps := 2000000) only [go_sem, c1, c0]
      refine call_of (specAreValidRelations_sat d.rels h.1.1) (by simp -implicitDefEqProofs (maxSteps := 2000000) only [go_sem, g]) (by kernel_rfl) (by simp -implicitDefEqProofs (maxSteps := 2000000) only [go_sem, g]) ?_
      simp -implicitDefEqProofs (maxSteps := 2000000) only [go_sem, g]
  simp -implicitDefEqProofs (maxSteps := 2000000) only [go_sem]
  refine awp_loop Nat (fun k => mkSt [(1, .one (.vad 1000 0)), (3, .sc (.int .i64 k))] [(1000, sDb d)] [] 2000)
    (fun k => k ≤ d.facts.length ∧ upTo (factOk d) k = true) (fun k => d.facts.length - k) 0 ⟨by omega, rfl⟩ (le_st _ _ [] [] _ rfl (by simp -implicitDefEqProofs (maxSteps := 2000000) only [go_sem] <;> rfl) (by simp -implicitDefEqProofs (maxSteps := 2000000) only [go_sem] <;> rfl) (by simp -implicitDefEqProofs (maxSteps := 2000000) only [go_sem] <;> rfl)) ?_
  rintro k ⟨h1, h2⟩
  have hbig := h.2.1
  by_cases c1 : k < d.facts.length
  · rcases d1 : goodFact d.rels (d.facts.getD k default)
    · have e : factOk d k = false := by rw [factOk, d1]; rfl
      rw [show goodDb d = false by rw [goodDb, g, upTo_false c1 e]; simp]
      simp -implicitDefEqProofs (maxSteps := 2000000) only [go_sem, c1]
      refine call_of (specIsValidFact_sat d.rels (d.facts.getD k default) h.1.1 (hm k c1)) (by simp -implicitDefEqProofs (maxSteps := 2000000) only [go_sem, g, d1, c1]) (by kernel_rfl) (by simp -implicitDefEqProofs (maxSteps := 2000000) only [go_sem, g, d1, c1]) ?_
      simp -implicitDefEqProofs (maxSteps := 2000000) only [go_sem, g, d1, c1]
    rcases k with _ | j
    · have e : factOk d 0 = true := by rw [factOk, d1]; rfl
      have c0 : (0 : Int) < d.facts.length := by omega
      simp -implicitDefEqProofs (maxSteps := 2000000) only [go_sem, c1, c0]
      refine call_of (specIsValidFact_sat d.rels (d.facts.getD 0 default) h.1.1 (hm 0 c1)) (by simp -implicitDefEqProofs (maxSteps := 2000000) only [go_sem, g, d1, c1, c0]) (by kernel_rfl) (by simp -implicitDefEqProofs (maxSteps := 2000000) only [go_sem, g, d1, c1, c0]) ?_
      simp -implicitDefEqProofs (maxSteps := 2000000) only [go_sem, g, d1, c1, c0]
      exact ⟨1, ⟨c1, upTo_step h2 e⟩, by omega, (le_st _ _ [] [] _ rfl (by simp -implicitDefEqProofs (maxSteps := 2000000) only [go_sem] <;> rfl) (by simp -implicitDefEqProofs (maxSteps := 2000000) only [go_sem] <;> rfl) (by simp -implicitDefEqProofs (maxSteps := 2000000) only [go_sem] <;> rfl))⟩
    · have c2 : j < d.facts.length := by omega
      have c3 : 0 < ((j + 1 : Nat) : Int) := by omega
      have w1 := i64_pred (j := j) (by omega)
      rcases d2 : decide (cmpRI (d.facts.getD j default) (d.facts.getD (j + 1) default) ≥ 0)
      · have e : factOk d (j + 1) = true := by rw [factOk, d1, Nat.add_sub_cancel, d2]; rfl
        simp -implicitDefEqProofs (maxSteps := 2000000) only [go_sem, c1]
        refine call_of (specIsValidFact_sat d.rels (d.facts.getD (j + 1) default) h.1.1 (hm _ c1)) (by simp -implicitDefEqProofs (maxSteps := 2000000) only [go_sem, g, d1, c1, c2, c3, w1]) (by kernel_rfl) (by simp -implicitDefEqProofs (maxSteps := 2000000) only [go_sem, g, d1, c1, c2, c3, w1]) ?_
        simp -implicitDefEqProofs (maxSteps := 2000000) only [go_sem, g, d1, c1, c2, c3, w1]
        refine call_of (specCompareFacts_sat (d.facts.getD j default) (d.facts.getD (j + 1) default) (hm _ c2)) (by simp -implicitDefEqProofs (maxSteps := 2000000) only [go_sem, d2]) (by kernel_rfl) (by simp -implicitDefEqProofs (maxSteps := 2000000) only [go_sem, d2]) ?_
        simp -implicitDefEqProofs (maxSteps := 2000000) only [go_sem, d2]
        rw [i64_succ (by omega)]
        exact ⟨j + 1 + 1, ⟨c1, upTo_step h2 e⟩, by omega, (le_st _ _ [] [] _ rfl (by simp -implicitDefEqProofs (maxSteps := 2000000) only [go_sem] <;> rfl) (by simp -implicitDefEqProofs (maxSteps := 2000000) only [go_sem] <;> rfl) (by simp -implicitDefEqProofs (maxSteps := 2000000) only [go_sem] <;> rfl))⟩
      · have e : factOk d (j + 1) = false := by rw [factOk, d1, Nat.add_sub_cancel, d2]; rfl
        rw [show goodDb d = false by rw [goodDb, g, upTo_false c1 e]; simp]
        simp -implicitDefEqProofs (maxSteps := 2000000) only [go_sem, c1]
        refine call_of (specIsValidFact_sat d.rels (d.facts.getD (j + 1) default) h.1.1 (hm _ c1)) (by simp -implicitDefEqProofs (maxSteps := 2000000) only [go_sem, g, d1, c1, c2, c3, w1]) (by kernel_rfl) (by simp -implicitDefEqProofs (maxSteps := 2000000) only [go_sem, g, d1, c1, c2, c3, w1]) ?_
        simp -implicitDefEqProofs (maxSteps := 2000000) only [go_sem, g, d1, c1, c2, c3, w1]
        refine call_of (specCompareFacts_sat (d.facts.getD j default) (d.facts.getD (j + 1) default) (hm _ c2)) (by simp -implicitDefEqProofs (maxSteps := 2000000) only [go_sem, d2]) (by kernel_rfl) (by simp -implicitDefEqProofs (maxSteps := 2000000) only [go_sem, d2]) ?_
        simp -implicitDefEqProofs (maxSteps := 2000000) only [go_sem, d2]
  · obtain rfl : k = d.facts.length := by omega
    simp -implicitDefEqProofs (maxSteps := 2000000) only [go_sem, c1]
    refine call_of (specAreValidRelations_sat d.rels h.1.1) (by simp -implicitDefEqProofs (maxSteps := 2000000) only [go_sem, g]) (by kernel_rfl) (by simp -implicitDefEqProofs (maxSteps := 2000000) only [go_sem, g]) ?_
    simp -implicitDefEqProofs (maxSteps := 2000000) only [go_sem, g]
    rw [goodDb, g, h2]
    simp
theorem implIsValidDatabase_sat (d : Db) (h : d.fit) : Sat Tryz.prog 71 [lDb d] [lBool (goodDb d)] [g2] := by
  refine sat_of_body mixed Tryz.func71 rfl (by kernel_rfl) (by kernel_rfl) (rs := [.tmp 2]) rfl rfl rfl ?_
  have hm := fun k (hk : k < d.facts.length) => h.2.2 _ (mem_getD default hk)
  have hbig := h.2.1
  simp -implicitDefEqProofs (maxSteps := 2000000) only [go_sem]
  rcases g : goodRels d.rels
  · rw [show goodDb d = false by rw [goodDb, g]; rfl]
    refine call_of (implAreValidRelations_sat d.rels h.1.1) (by simp -implicitDefEqProofs (maxSteps := 2000000) only [go_sem, g]) (by kernel_rfl) (by simp -implicitDefEqProofs (maxSteps := 2000000) only [go_sem, g]) ?_
    simp -implicitDefEqProofs (maxSteps := 2000000) only [go_sem, g]
  by_cases c14 : (d.facts.length : Int) > 14
  · rw [show goodDb d = false by rw [goodDb, g, decide_eq_false (by omega)]; rfl]
    refine call_of (implAreValidRelations_sat d.rels h.1.1) (by simp -implicitDefEqProofs (maxSteps := 2000000) only [go_sem, g, c14]) (by kernel_rfl) (by simp -implicitDefEqProofs (maxSteps := 2000000) only [go_sem, g, c14]) ?_
    simp -implicitDefEqProofs (maxSteps := 2000000) only [go_sem, g, c14]
  rw [show goodDb d = upTo (factOk d) d.facts.length by rw [goodDb, g, decide_eq_true (by omega)]; rfl]
  refine call_of (implAreValidRelations_sat d.rels h.1.1) (by simp -implicitDefEqProofs (maxSteps := 2000000) only [go_sem, g, c14]) (by kernel_rfl) (by simp -implicitDefEqProofs (maxSteps := 2000000) only [go_sem, g, c14]) ?_
  simp -implicitDefEqProofs (maxSteps := 2000000) only [go_sem, g, c14]
  refine awp_loop Nat (fun k => mkSt [(1, .one (.vad 1000 0)), (16, .one (.im 2 (ris 0 d.facts))), (17, .sc (.int .i64 d.facts.length)), (18, .sc (.int .i64 k))] [(1000, sDb d)] [] 2000)
    (fun k => k ≤ d.facts.length ∧ upTo (factOk d) k = true) (fun k => d.facts.length - k) 0 ⟨by omega, rfl⟩ (le_st _ _ [] [] _ rfl (by simp -implicitDefEqProofs (maxSteps := 2000000) only [go_sem] <;> rfl) (by simp -implicitDefEqProofs (maxSteps := 2000000) only [go_sem] <;> rfl) (by simp -implicitDefEqProofs (maxSteps := 2000000) only [go_sem] <;> rfl)) ?_
  rintro k ⟨h1, h2⟩
  by_cases c1 : k < d.facts.length
  · rcases d1 : goodFact d.rels (d.facts.getD k default)
    · have e : factOk d k = false := by rw [factOk, d1]; rfl
      rw [upTo_false c1 e]
      simp -implicitDefEqProofs (maxSteps := 2000000) only [go_sem, c1]
      refine call_of (isFact_sat d.rels (d.facts.getD k default) h.1.1 (hm k c1)) (by simp -implicitDefEqProofs (maxSteps := 2000000) only [go_sem, d1, c1]) (by kernel_rfl) (by simp -implicitDefEqProofs (maxSteps := 2000000) only [go_sem, d1, c1]) ?_
      simp -implicitDefEqProofs (maxSteps := 2000000) only [go_sem, d1, c1]
    rcases k with _ | j
    · have e : factOk d 0 = true := by rw [factOk, d1]; rfl
      have c0 : (0 : Int) < d.facts.length := by omega
      simp -implicitDefEqProofs (maxSteps := 2000000) only [go_sem, c1, c0]
      refine call_of (isFact_sat d.rels (d.facts.getD 0 default) h.1.1 (hm 0 c1)) (by simp -implicitDefEqProofs (maxSteps := 2000000) only [go_sem, d1, c1, c0]) (by kernel_rfl) (by simp -implicitDefEqProofs (maxSteps := 2000000) only [go_sem, d1, c1, c0]) ?_
      simp -implicitDefEqProofs (maxSteps := 2000000) only [go_sem, d1, c1, c0]
      exact ⟨1, ⟨c1, upTo_step h2 e⟩, by omega, (le_st _ _ [] [] _ rfl (by simp -implicitDefEqProofs (maxSteps := 2000000) only [go_sem] <;> rfl) (by simp -implicitDefEqProofs (maxSteps := 2000000) only [go_sem] <;> rfl) (by simp -implicitDefEqProofs (maxSteps := 2000000) only [go_sem] <;> rfl))⟩
    · have c2 : j < d.facts.length := by omega
      have c3 : 0 < ((j + 1 : Nat) : Int) := by omega
      have w1 := i64_pred (j := j) (by omega)
      rcases d2 : decide (cmpRI (d.facts.getD j default) (d.facts.getD (j + 1) default) ≥ 0)
      · have e : factOk d (j + 1) = true := by rw [factOk, d1, Nat.add_sub_cancel, d2]; rfl
        simp -implicitDefEqProofs (maxSteps := 2000000) only [go_sem, c1]
        refine call_of (isFact_sat d.rels (d.facts.getD (j + 1) default) h.1.1 (hm _ c1)) (by simp -implicitDefEqProofs (maxSteps := 2000000) only [go_sem, d1, c1, c2, c3, w1]) (by kernel_rfl) (by simp -implicitDefEqProofs (maxSteps := 2000000) only [go_sem, d1, c1, c2, c3, w1]) ?_
        simp -implicitDefEqProofs (maxSteps := 2000000) only [go_sem, d1, c1, c2, c3, w1]
        refine call_of (implCompareFacts_sat (d.facts.getD j default) (d.facts.getD (j + 1) default) (hm _ c2)) (by simp -implicitDefEqProofs (maxSteps := 2000000) only [go_sem, d2]) (by kernel_rfl) (by simp -implicitDefEqProofs (maxSteps := 2000000) only [go_sem, d2]) ?_
        simp -implicitDefEqProofs (maxSteps := 2000000) only [go_sem, d2]
        rw [i64_succ (by omega)]
        exact ⟨j + 1 + 1, ⟨c1, upTo_step h2 e⟩, by omega, (le_st _ _ [] [] _ rfl (by simp -implicitDefEqProofs (maxSteps := 2000000) only [go_sem] <;> rfl) (by simp -implicitDefEqProofs (maxSteps := 2000000) only [go_sem] <;> rfl) (by simp -implicitDefEqProofs (maxSteps := 2000000) only [go_sem] <;> rfl))⟩
      · have e : factOk d (j + 1) = false := by rw [factOk, d1, Nat.add_sub_cancel, d2]; rfl
        rw [upTo_false c1 e]
        simp -implicitDefEqProofs (maxSteps := 2000000) only [go_sem, c1]
        refine call_of (isFact_sat d.rels (d.facts.getD (j + 1) default) h.1.1 (hm _ c1)) (by simp -implicitDefEqProofs (maxSteps := 2000000) only [go_sem, d1, c1, c2, c3, w1]) (by kernel_rfl) (by simp -implicitDefEqProofs (maxSteps := 2000000) only [go_sem, d1, c1, c2, c3, w1]) ?_
        simp -implicitDefEqProofs (maxSteps := 2000000) only [go_sem, d1, c1, c2, c3, w1]
        refine call_of (implCompareFacts_sat (d.facts.getD j default) (d.facts.getD (j + 1) default) (hm _ c2)) (by simp -implicitDefEqProofs (maxSteps := 2000000) only [go_sem, d2]) (by kernel_rfl) (by simp -implicitDefEqProofs (maxSteps := 2000000) only [go_sem, d2]) ?_
        simp -implicitDefEqProofs (maxSteps := 2000000) only [go_sem, d2]
  · obtain rfl : k = d.facts.length := by omega
    simp -implicitDefEqProofs (maxSteps := 2000000) only [go_sem, c1]
    rw [h2]
end Go.Proofs.YtbalifgacjmbpacGreat.A


/- QUERIES FOR DATABASES. Conditions: none. -/
namespace Go.Proofs.YtbalifgacjmbpacGreat.A
open Go
set_option linter.unusedSimpArgs false
set_option linter.unusedVariables false
set_option maxRecDepth 100000

def queryFor (d : Db) (q : Qu) : Bool := goodDb d && goodQu d.rels q
theorem specIsQueryFor_sat (d : Db) (q : Qu) (h : d.fit) (hq : q.fit) : Sat Tryz.prog 30 [lDb d, lQu q] [lBool (queryFor d q)] [g2, g3] := by
  refine sat_of_body mixed Tryz.func30 rfl (by kernel_rfl) (by kernel_rfl) (rs := [.tmp 4]) rfl rfl rfl ?_
  unfold queryFor
  simp -implicitDefEqProofs (maxSteps := 2000000) only [go_sem]
  rcases g : goodDb d
  · refine call_of (specIsValidDatabase_sat d h) (by simp -implicitDefEqProofs (maxSteps := 2000000) only [go_sem, g]) (by kernel_rfl) (by simp -implicitDefEqProofs (maxSteps := 2000000) only [go_sem, g]) ?_
    simp -implicitDefEqProofs (maxSteps := 2000000) only [go_sem, g]
  refine call_of (specIsValidDatabase_sat d h) (by simp -implicitDefEqProofs (maxSteps := 2000000) only [go_sem, g]) (by kernel_rfl) (by simp -implicitDefEqProofs (maxSteps := 2000000) only [go_sem, g]) ?_
  simp -implicitDefEqProofs (maxSteps := 2000000) only [go_sem, g]
  refine call_of (specIsValidQuery_sat d.rels q h.1.1 hq) (by simp -implicitDefEqProofs (maxSteps := 2000000) only [go_sem]) (by kernel_rfl) (by simp -implicitDefEqProofs (maxSteps := 2000000) only [go_sem]) ?_
  simp -implicitDefEqProofs (maxSteps := 2000000) only [go_sem]
theorem implIsQueryFor_sat (d : Db) (q : Qu) (h : d.fit) (hq : q.ok) : Sat Tryz.prog 51 [lDb d, lQu q] [lBool (queryFor d q)] [g2, g3] := by
  refine sat_of_body mixed Tryz.func51 rfl (by kernel_rfl) (by kernel_rfl) (rs := [.tmp 4]) rfl rfl rfl ?_
  unfold queryFor
  simp -implicitDefEqProofs (maxSteps := 2000000) only [go_sem]
  rcases g : goodDb d
  · refine call_of (implIsValidDatabase_sat d h) (by simp -implicitDefEqProofs (maxSteps := 2000000) only [go_sem, g]) (by kernel_rfl) (by simp -implicitDefEqProofs (maxSteps := 2000000) only [go_sem, g]) ?_
    simp -implicitDefEqProofs (maxSteps := 2000000) only [go_sem, g]
  refine call_of (implIsValidDatabase_sat d h) (by simp -implicitDefEqProofs (maxSteps := 2000000) only [go_sem, g]) (by kernel_rfl) (by simp -implicitDefEqProofs (maxSteps := 2000000) only [go_sem, g]) ?_
  simp -implicitDefEqProofs (maxSteps := 2000000) only [go_sem, g]
  refine call_of (implIsValidQuery_sat d.rels q h.1.1 hq) (by simp -implicitDefEqProofs (maxSteps := 2000000) only [go_sem]) (by kernel_rfl) (by simp -implicitDefEqProofs (maxSteps := 2000000) only [go_sem]) ?_
  simp -implicitDefEqProofs (maxSteps := 2000000) only [go_sem]
end Go.Proofs.YtbalifgacjmbpacGreat.A


/- EMBEDDINGS: the plain search. Conditions: none. (No program in sight.) -/
namespace Go.Proofs.YtbalifgacjmbpacGreat.A
open Go
set_option linter.unusedSimpArgs false
set_option linter.unusedVariables false

def stepU (x : List Int) (t f : Int) : Option (List Int) :=
  if t < 0 then (if -1 - t = f then some x else none)
  else if x.getD t.toNat 0 < 0 then some (x.set t.toNat f)
  else if x.getD t.toNat 0 = f then some x else none
def uniS (ts fs vs : List Int) : Nat → Option (List Int)
  | 0 => some vs
  | k + 1 => (uniS ts fs vs k).bind fun x => stepU x (ts.getD k 0) (fs.getD k 0)
theorem stepU_len {x y : List Int} {t f : Int} (h : stepU x t f = some y) : y.length = x.length := by
  unfold stepU at h
  split at h
  · split at h
    · cases h; rfl
    · cases h
  · split at h
    · cases h; simp
    · split at h
      · cases h; rfl
      · cases h
theorem uniS_len {ts fs vs : List Int} : ∀ {k : Nat} {x : List Int}, uniS ts fs vs k = some x → x.length = vs.length
  | 0, x, h => by cases h; rfl
  | k + 1, x, h => by
    rw [uniS] at h
    rcases e : uniS ts fs vs k with _ | y
    · rw [e] at h; cases h
    · rw [e, Option.bind_some] at h
      rw [stepU_len h, uniS_len e]
theorem uniS_none {ts fs vs : List Int} {k : Nat} (h : uniS ts fs vs k = none) : ∀ d : Nat, uniS ts fs vs (k + d) = none
  | 0 => h
  | d + 1 => by rw [← Nat.add_assoc, uniS, uniS_none h d]; rfl
theorem uniS_stop {ts fs vs : List Int} {k n : Nat} (h : uniS ts fs vs k = none) (hn : k ≤ n) : uniS ts fs vs n = none := by
  obtain ⟨d, rfl⟩ := Nat.le.dest hn
  exact uniS_none h d
theorem uniS_step {ts fs vs x : List Int} {k : Nat} (h : uniS ts fs vs k = some x) : uniS ts fs vs (k + 1) = stepU x (ts.getD k 0) (fs.getD k 0) := by
  rw [uniS, h]; rfl
/-- The last state before the search fell. -/
def uniL (ts fs vs : List Int) : Nat → List Int
  | 0 => vs
  | k + 1 => match uniS ts fs vs (k + 1) with
    | some x => x
    | none => uniL ts fs vs k
theorem uniL_some {ts fs vs x : List Int} : ∀ {k : Nat}, uniS ts fs vs k = some x → uniL ts fs vs k = x
  | 0, h => by cases h; rfl
  | k + 1, h => by rw [uniL, h]
theorem uniL_none {ts fs vs x : List Int} {k : Nat} (h : uniS ts fs vs k = some x) (h2 : uniS ts fs vs (k + 1) = none) : ∀ d : Nat, uniL ts fs vs (k + 1 + d) = x
  | 0 => by
    rw [Nat.add_zero, uniL, h2]
    exact uniL_some h
  | d + 1 => by
    rw [← Nat.add_assoc, uniL, show uniS ts fs vs (k + 1 + d + 1) = none from uniS_none (k := k + 1) h2 (d + 1)]
    exact uniL_none h h2 d
theorem uniL_stop {ts fs vs x : List Int} {k n : Nat} (h : uniS ts fs vs k = some x) (h2 : uniS ts fs vs (k + 1) = none) (hn : k < n) : uniL ts fs vs n = x := by
  obtain ⟨d, rfl⟩ := Nat.le.dest (show k + 1 ≤ n from hn)
  exact uniL_none h h2 d
def meet (a f : RI) (vs : List Int) : Option (List Int) := if f.r = a.r then uniS a.l f.l vs a.l.length else none
def meetV (a f : RI) (vs : List Int) : List Int := if f.r = a.r then uniL a.l f.l vs a.l.length else vs
theorem meet_len {a f : RI} {vs x : List Int} (h : meet a f vs = some x) : x.length = vs.length := by
  unfold meet at h
  split at h
  · exact uniS_len h
  · cases h
theorem meetV_eq {a f : RI} {vs x : List Int} (h : meet a f vs = some x) : meetV a f vs = x := by
  unfold meet at h
  unfold meetV
  split at h
  · rw [if_pos (by assumption)]; exact uniL_some h
  · cases h
/-- What one round finds: g tells it of each fact. -/
def found {α : Type} (g : Nat → List α) (k : Nat) : List α := (List.range k).flatMap g
theorem found_zero {α : Type} (g : Nat → List α) : found g 0 = [] := rfl
theorem found_succ {α : Type} (g : Nat → List α) (k : Nat) : found g (k + 1) = found g k ++ g k := by
  unfold found
  rw [List.range_succ, List.flatMap_append]; simp
theorem found_len {α : Type} {g : Nat → List α} {b : Nat} (h : ∀ i, (g i).length ≤ b) : ∀ k, (found g k).length ≤ k * b
  | 0 => by simp [found_zero]
  | k + 1 => by
    rw [found_succ, List.length_append, Nat.add_mul]
    have := found_len h k
    have := h k
    omega
theorem found_mem {α : Type} {g : Nat → List α} {k : Nat} {x : α} : x ∈ found g k ↔ ∃ i, i < k ∧ x ∈ g i := by
  unfold found
  rw [List.mem_flatMap]
  constructor
  · rintro ⟨i, h1, h2⟩; exact ⟨i, by simpa using h1, h2⟩
  · rintro ⟨i, h1, h2⟩; exact ⟨i, by simpa using h1, h2⟩
def atomAt (ats : List RI) (m : Nat) : RI := ats.getD (ats.length - (m + 1)) default
def walkE (ds ats : List RI) : Nat → List Int → List Int → List Emb
  | 0, vs, fs => [⟨vs, fs⟩]
  | m + 1, vs, fs => found (fun i => match meet (atomAt ats m) (ds.getD i default) vs with
    | some x => walkE ds ats m x (fs ++ [(i : Int)])
    | none => []) ds.length
def oneE (ds ats : List RI) (m : Nat) (vs fs : List Int) (i : Nat) : List Emb := match meet (atomAt ats m) (ds.getD i default) vs with
    | some x => walkE ds ats m x (fs ++ [(i : Int)])
    | none => []
theorem walkE_succ (ds ats : List RI) (m : Nat) (vs fs : List Int) : walkE ds ats (m + 1) vs fs = found (oneE ds ats m vs fs) ds.length := rfl
theorem oneE_some {ds ats : List RI} {m i : Nat} {vs fs x : List Int} (h : meet (atomAt ats m) (ds.getD i default) vs = some x) : oneE ds ats m vs fs i = walkE ds ats m x (fs ++ [(i : Int)]) := by unfold oneE; rw [h]
theorem oneE_none {ds ats : List RI} {m i : Nat} {vs fs : List Int} (h : meet (atomAt ats m) (ds.getD i default) vs = none) : oneE ds ats m vs fs i = [] := by unfold oneE; rw [h]
theorem walkE_len {ds ats : List RI} (hd : ds.length ≤ 14) : ∀ (m : Nat) (vs fs : List Int), (walkE ds ats m vs fs).length ≤ 14 ^ m
  | 0, _, _ => by simp [walkE]
  | m + 1, vs, fs => by
    rw [walkE_succ]
    have h1 : ∀ i, (oneE ds ats m vs fs i).length ≤ 14 ^ m := by
      intro i
      unfold oneE
      split
      · exact walkE_len hd m _ _
      · simp
    have h2 := found_len h1 ds.length
    have h3 := Nat.mul_le_mul_right (14 ^ m) hd
    rw [Nat.pow_succ, Nat.mul_comm (14 ^ m)]
    omega
theorem walkE_mem {ds ats : List RI} : ∀ {m : Nat} {vs fs : List Int}, ∀ e ∈ walkE ds ats m vs fs, e.vs.length = vs.length ∧ e.fs.length = fs.length + m
  | 0, vs, fs, e, h => by
    simp only [walkE, List.mem_singleton] at h
    subst h; exact ⟨rfl, rfl⟩
  | m + 1, vs, fs, e, h => by
    rw [walkE_succ, found_mem] at h
    obtain ⟨i, _, h⟩ := h
    unfold oneE at h
    split at h
    · rename_i x hx
      obtain ⟨h1, h2⟩ := walkE_mem e h
      rw [List.length_append, List.length_singleton] at h2
      exact ⟨by rw [h1, meet_len hx], by omega⟩
    · cases h
theorem pow14E {m : Nat} (h : m ≤ 3) : 14 ^ m ≤ 2744 := Nat.pow_le_pow_right (by omega) h
/-- ALL EMBEDDINGS. -/
def embs (d : Db) (q : Qu) : List Emb := if queryFor d q then walkE d.facts q.atoms q.atoms.length (List.replicate q.vc.toNat (-1)) [] else []
theorem queryFor_db {d : Db} {q : Qu} (h : queryFor d q = true) : goodDb d = true := by
  unfold queryFor at h; rw [Bool.and_eq_true] at h; exact h.1
theorem queryFor_qu {d : Db} {q : Qu} (h : queryFor d q = true) : goodQu d.rels q = true := by
  unfold queryFor at h; rw [Bool.and_eq_true] at h; exact h.2
theorem goodDb_len {d : Db} (h : goodDb d = true) : d.facts.length ≤ 14 := by
  unfold goodDb at h
  simp only [Bool.and_eq_true, decide_eq_true_eq] at h
  omega
theorem goodQu_parts {l : List Rel} {q : Qu} (h : goodQu l q = true) : (0 ≤ q.vc ∧ q.vc ≤ 4) ∧ 1 ≤ q.atoms.length ∧ q.atoms.length ≤ 3 := by
  unfold goodQu at h
  simp only [Bool.and_eq_true] at h
  have a1 := inB_of h.2.1
  have a2 := inB_of h.2.2.1
  omega
theorem goodDb_fact {d : Db} (h : goodDb d = true) {i : Nat} (hi : i < d.facts.length) : goodFact d.rels (d.facts.getD i default) = true := by
  unfold goodDb at h
  simp only [Bool.and_eq_true] at h
  have := upTo_at h.2.2 hi
  unfold factOk at this
  rw [Bool.and_eq_true] at this
  exact this.1
theorem goodQu_at {l : List Rel} {q : Qu} (h : goodQu l q = true) {k : Nat} (hk : k < q.atoms.length) : atomOk l q k = true := by
  unfold goodQu at h
  simp only [Bool.and_eq_true] at h
  exact upTo_at h.2.2.2.2.1 hk
theorem meet_lens {d : Db} {q : Qu} (h : queryFor d q = true) {k i : Nat} (hk : k < q.atoms.length) (hi : i < d.facts.length) (e : (d.facts.getD i default).r = (q.atoms.getD k default).r) : (d.facts.getD i default).l.length = (q.atoms.getD k default).l.length := by
  have h1 := goodDb_fact (queryFor_db h) hi
  have h2 := goodQu_at (queryFor_qu h) hk
  unfold goodFact at h1
  unfold atomOk relAt at h2
  simp only [Bool.and_eq_true, beq_iff_eq] at h1 h2
  have a1 := h1.2.1
  have a2 := h2.1.2
  rw [e] at a1
  omega
/-- Terms that name variables of a list or are constants. -/
def tsOk (n : Nat) (ts : List Int) : Prop := ∀ k, k < ts.length → -10 ≤ ts.getD k 0 ∧ ts.getD k 0 < n
theorem tsOk_at {l : List Rel} {q : Qu} (h : goodQu l q = true) {k : Nat} (hk : k < q.atoms.length) : tsOk q.vc.toNat (q.atoms.getD k default).l := by
  have h2 := goodQu_at h hk
  have hp := goodQu_parts h
  unfold atomOk at h2
  simp only [Bool.and_eq_true] at h2
  intro j hj
  have := upTo_at h2.2.2 hj
  unfold termOk at this
  have := inB_of this
  omega
end Go.Proofs.YtbalifgacjmbpacGreat.A


/- DENIAL CONSTRAINTS: data, validity, violation. Conditions: none. -/
namespace Go.Proofs.YtbalifgacjmbpacGreat.A
open Go
set_option linter.unusedSimpArgs false
set_option linter.unusedVariables false
set_option maxRecDepth 100000

structure Den where
  fr : Int
  sr : Int
  fj : Int
  sj : Int
  fc : Int
  sc : Int
  cp : Int
  deriving DecidableEq
instance : Inhabited Den := ⟨⟨0, 0, 0, 0, 0, 0, 0⟩⟩
def cDen (x : Den) : List Cell := [.sc (.int .i64 x.fr), .sc (.int .i64 x.sr), .sc (.int .i64 x.fj), .sc (.int .i64 x.sj), .sc (.int .i64 x.fc), .sc (.int .i64 x.sc), .sc (.int .i64 x.cp)]
def dens (l : List Den) : Rows := l.map cDen
theorem dens_length (l : List Den) : (dens l).length = l.length := by simp [dens]
theorem dens_get {l : List Den} {i : Nat} (h : i < l.length) : (dens l).getD i [] = [.sc (.int .i64 (l.getD i default).fr), .sc (.int .i64 (l.getD i default).sr), .sc (.int .i64 (l.getD i default).fj), .sc (.int .i64 (l.getD i default).sj), .sc (.int .i64 (l.getD i default).fc), .sc (.int .i64 (l.getD i default).sc), .sc (.int .i64 (l.getD i default).cp)] := get_map default cDen h
theorem dens_frz (l : List Den) : frz (dens l) = dens l := frz_map _ _ (fun _ => rfl) l
theorem dens_rst (l : List Den) : rst (dens l) = dens l := rst_map _ _ (fun _ => rfl) l
theorem dens_stm (n : Nat) (l : List Den) : stm n (dens l) = dens l := stm_map n _ _ (fun _ => rfl) l
theorem dens_flat (l : List Den) : flatB (dens l) = true := by simp [flatB, dens, cDen, Cell.flatB]
theorem dens_take (l : List Den) (k : Nat) : (dens l).take k = dens (l.take k) := by simp [dens]
theorem dens_drop (l : List Den) (k : Nat) : (dens l).drop k = dens (l.drop k) := by simp [dens]
theorem dens_set (l : List Den) (i : Nat) (a b c d e f g : Int) : (dens l).set i [.sc (.int .i64 a), .sc (.int .i64 b), .sc (.int .i64 c), .sc (.int .i64 d), .sc (.int .i64 e), .sc (.int .i64 f), .sc (.int .i64 g)] = dens (l.set i ⟨a, b, c, d, e, f, g⟩) := by simp [dens, List.map_set, cDen]
theorem dens_rep (n : Nat) (a b c d e f g : Int) : List.replicate n [Cell.sc (.int .i64 a), .sc (.int .i64 b), .sc (.int .i64 c), .sc (.int .i64 d), .sc (.int .i64 e), .sc (.int .i64 f), .sc (.int .i64 g)] = dens (List.replicate n ⟨a, b, c, d, e, f, g⟩) := by simp [dens, cDen]
theorem dens_still (l : List Den) : stillRows (dens l) = true := by simp [stillRows, dens, cDen, Cell.still]
attribute [go_sem] dens_length dens_get dens_frz dens_rst dens_stm dens_flat dens_take dens_drop dens_set dens_rep
abbrev lDen (x : Den) : LV := .agg [.sc (.int .i64 x.fr), .sc (.int .i64 x.sr), .sc (.int .i64 x.fj), .sc (.int .i64 x.sj), .sc (.int .i64 x.fc), .sc (.int .i64 x.sc), .sc (.int .i64 x.cp)]
abbrev sDen (x : Den) : List SV := [.sc (.int .i64 x.fr), .sc (.int .i64 x.sr), .sc (.int .i64 x.fj), .sc (.int .i64 x.sj), .sc (.int .i64 x.fc), .sc (.int .i64 x.sc), .sc (.int .i64 x.cp)]
abbrev lDens (l : List Den) : LV := .one (.im 7 (dens l))
abbrev oDens (l : List Den) : LV := .one (.ow 7 (dens l))
abbrev g7 : LV := .agg [.gone, .gone, .gone, .gone, .gone, .gone, .gone]
def szDens (a : List Den) (n : Int) : Int := if n - a.length < 0 then -1 else n - a.length
theorem szDens_ok : SzOk szDens (fun a => a.length ≤ 1048576) := by
  intro a n h
  unfold szDens
  split
  · exact ⟨by omega, fun h => absurd (by omega) h⟩
  · exact ⟨by omega, fun h => by omega⟩
theorem rel_of {l : List Rel} {k : Nat} (h : goodRels l = true) (hk : k < l.length) : (1 ≤ (l.getD k default).ar ∧ (l.getD k default).ar ≤ 3) ∧ 0 ≤ (l.getD k default).kl ∧ (l.getD k default).kl ≤ (l.getD k default).ar := by
  unfold goodRels at h
  rw [Bool.and_eq_true] at h
  have h1 := upTo_at h.1 hk
  unfold relOk goodRel at h1
  simp only [Bool.and_eq_true] at h1
  exact ⟨inB_of h1.1.2.2.2.1, inB_of h1.1.2.2.2.2⟩
theorem db_of {d : Db} (h : goodDb d = true) : goodRels d.rels = true ∧ d.facts.length ≤ 14 ∧ upTo (factOk d) d.facts.length = true := by
  unfold goodDb at h
  simp only [Bool.and_eq_true] at h
  refine ⟨h.1, ?_, h.2.2⟩
  have := of_decide_eq_true h.2.1
  omega
theorem fact_of {d : Db} {k : Nat} (h : goodDb d = true) (hk : k < d.facts.length) : goodFact d.rels (d.facts.getD k default) = true := by
  have h1 := upTo_at (db_of h).2.2 hk
  unfold factOk at h1
  rw [Bool.and_eq_true] at h1
  exact h1.1
theorem fact_at {l : List Rel} {f : RI} (h : goodFact l f = true) : ∃ m : Nat, f.r = m ∧ m < l.length ∧ (f.l.length : Int) = (l.getD m default).ar := by
  unfold goodFact at h
  simp only [Bool.and_eq_true] at h
  obtain ⟨h1, h2⟩ := inB_of h.1
  refine ⟨f.r.toNat, by omega, by omega, eq_of_beq h.2.1⟩

/-! #### valid constraints -/
abbrev arOf (d : Db) (r : Int) : Int := (d.rels.getD r.toNat default).ar
def goodDen (d : Db) (x : Den) : Bool := goodDb d && (inB x.fr 0 ((d.rels.length : Int) - 1) && (inB x.sr 0 ((d.rels.length : Int) - 1) && (inB x.fj 0 (arOf d x.fr - 1) && (inB x.fc 0 (arOf d x.fr - 1) && (inB x.sj 0 (arOf d x.sr - 1) && (inB x.sc 0 (arOf d x.sr - 1) && inB x.cp 1 2))))))
end Go.Proofs.YtbalifgacjmbpacGreat.A


/- VIOLATIONS OF CONSTRAINTS, EQUAL KEYS. Conditions: none. -/
namespace Go.Proofs.YtbalifgacjmbpacGreat.A
open Go
set_option linter.unusedSimpArgs false
set_option linter.unusedVariables false
set_option maxRecDepth 100000

abbrev at0 (l : List Int) (i : Int) : Int := l.getD i.toNat 0
def viol (x : Den) (a b : RI) : Bool := (a.r == x.fr) && ((b.r == x.sr) && ((at0 a.l x.fj == at0 b.l x.sj) && (if x.cp = 1 then at0 a.l x.fc == at0 b.l x.sc else decide (at0 a.l x.fc < at0 b.l x.sc))))
def IdxOk (x : Den) (a b : RI) : Prop := (x.cp = 1 ∨ x.cp = 2) ∧ (a.r = x.fr → b.r = x.sr → (0 ≤ x.fj ∧ x.fj < a.l.length) ∧ (0 ≤ x.sj ∧ x.sj < b.l.length) ∧ (0 ≤ x.fc ∧ x.fc < a.l.length) ∧ (0 ≤ x.sc ∧ x.sc < b.l.length))
theorem idx_ok {d : Db} {x : Den} {a b : RI} (h : goodDen d x = true) (ha : goodFact d.rels a = true) (hb : goodFact d.rels b = true) : IdxOk x a b := by
  unfold goodDen at h
  simp only [Bool.and_eq_true] at h
  obtain ⟨g, i1, i2, j1, j2, j3, j4, j5⟩ := h
  have k1 := inB_of j1
  have k2 := inB_of j2
  have k3 := inB_of j3
  have k4 := inB_of j4
  have k5 := inB_of j5
  refine ⟨by omega, fun e1 e2 => ?_⟩
  obtain ⟨m, hm, hm2, hm3⟩ := fact_at ha
  obtain ⟨n, hn, hn2, hn3⟩ := fact_at hb
  have t1 : x.fr.toNat = m := by omega
  have t2 : x.sr.toNat = n := by omega
  unfold arOf at k1 k2 k3 k4
  rw [t1, ← hm3] at k1 k2
  rw [t2, ← hn3] at k3 k4
  omega
def violB (d : Db) (x : Den) (i k : Int) : Bool := goodDen d x && ((i != k) && (inB i 0 ((d.facts.length : Int) - 1) && (inB k 0 ((d.facts.length : Int) - 1) && viol x (d.facts.getD i.toNat default) (d.facts.getD k.toNat default))))
end Go.Proofs.YtbalifgacjmbpacGreat.A


/- EQUAL KEYS, CONFLICT EDGES. Conditions: none. -/
namespace Go.Proofs.YtbalifgacjmbpacGreat.A
open Go
set_option linter.unusedSimpArgs false
set_option linter.unusedVariables false
set_option maxRecDepth 100000

abbrev klOf (l : List Rel) (r : Int) : Nat := (l.getD r.toNat default).kl.toNat
def sameK (l : List Rel) (a b : RI) : Bool := (a.r == b.r) && decide (a.l.take (klOf l a.r) = b.l.take (klOf l a.r))
theorem keyOf_sat (l : List Rel) (f : RI) (h : l.length ≤ 9223372036854775807) (g : goodRels l = true) (gf : goodFact l f = true) : Sat Tryz.prog 145 [lRels l, lRI f] [oInts (f.l.take (klOf l f.r))] [g1, g2] := by
  refine sat_of_body mixed Tryz.func145 rfl (by kernel_rfl) (by kernel_rfl) (rs := [.tmp 4]) rfl rfl rfl ?_
  obtain ⟨m, hm, c1, hm3⟩ := fact_at gf
  rcases f with ⟨r, vs⟩
  simp only at hm hm3
  subst hm
  have o := rel_of g c1
  obtain ⟨K, hK⟩ : ∃ K : Nat, (l.getD m default).kl = K := ⟨(l.getD m default).kl.toNat, by omega⟩
  have c2 : K ≤ vs.length := by omega
  rw [show klOf l ((m : Nat) : Int) = K by simp only [klOf, Int.toNat_natCast, hK]]
  have hl : (vs.take K).length ≤ 3 := by rw [List.length_take]; omega
  simp -implicitDefEqProofs (maxSteps := 2000000) only [go_sem]
  refine call_of (specIsValidFact_sat l ⟨m, vs⟩ h (by unfold RI.fit; simp only; omega)) (by simp -implicitDefEqProofs (maxSteps := 2000000) only [go_sem, g, gf, c1, hK, c2, Nat.zero_le]) (by kernel_rfl) (by simp -implicitDefEqProofs (maxSteps := 2000000) only [go_sem, g, gf, c1, hK, c2, Nat.zero_le]) ?_
  simp -implicitDefEqProofs (maxSteps := 2000000) only [go_sem, g, gf, c1, hK, c2, Nat.zero_le]
  refine ⟨by omega, ?_⟩
  exact ⟨by kernel_rfl, rfl⟩
theorem haveSameKey_sat (l : List Rel) (a b : RI) (h : l.length ≤ 9223372036854775807) (g : goodRels l = true) (ga : goodFact l a = true) (gb : goodFact l b = true) : Sat Tryz.prog 134 [lRels l, lRI a, lRI b] [lBool (sameK l a b)] [g1, g2, g2] := by
  refine sat_of_body mixed Tryz.func134 rfl (by kernel_rfl) (by kernel_rfl) (rs := [.tmp 6]) rfl rfl rfl ?_
  unfold sameK
  obtain ⟨m, hm, c1, hm3⟩ := fact_at ga
  obtain ⟨n, hn, c2, hn3⟩ := fact_at gb
  have o1 := (rel_of g c1).1
  have o2 := (rel_of g c2).1
  have fa : a.fit := by unfold RI.fit; omega
  have fb : b.fit := by unfold RI.fit; omega
  simp -implicitDefEqProofs (maxSteps := 2000000) only [go_sem]
  refine call_of (specIsValidFact_sat l a h fa) (by simp -implicitDefEqProofs (maxSteps := 2000000) only [go_sem, g, ga]) (by kernel_rfl) (by simp -implicitDefEqProofs (maxSteps := 2000000) only [go_sem, g, ga]) ?_
  simp -implicitDefEqProofs (maxSteps := 2000000) only [go_sem, g, ga]
  rcases e : a.r == b.r
  · refine call_of (specIsValidFact_sat l b h fb) (by simp -implicitDefEqProofs (maxSteps := 2000000) only [go_sem, g, gb, e]) (by kernel_rfl) (by simp -implicitDefEqProofs (maxSteps := 2000000) only [go_sem, g, gb, e]) ?_
    simp -implicitDefEqProofs (maxSteps := 2000000) only [go_sem, g, gb, e]
  have e' : a.r = b.r := eq_of_beq e
  refine call_of (specIsValidFact_sat l b h fb) (by simp -implicitDefEqProofs (maxSteps := 2000000) only [go_sem, g, gb, e]) (by kernel_rfl) (by simp -implicitDefEqProofs (maxSteps := 2000000) only [go_sem, g, gb, e]) ?_
  simp -implicitDefEqProofs (maxSteps := 2000000) only [go_sem, g, gb, e]
  refine call_of (keyOf_sat l a h g ga) (by simp -implicitDefEqProofs (maxSteps := 2000000) only [go_sem]) (by kernel_rfl) (by simp -implicitDefEqProofs (maxSteps := 2000000) only [go_sem]) ?_
  simp -implicitDefEqProofs (maxSteps := 2000000) only [go_sem]
  refine call_of (keyOf_sat l b h g gb) (by simp -implicitDefEqProofs (maxSteps := 2000000) only [go_sem]) (by kernel_rfl) (by simp -implicitDefEqProofs (maxSteps := 2000000) only [go_sem]) ?_
  simp -implicitDefEqProofs (maxSteps := 2000000) only [go_sem]
  refine call_of (l3Ints_sat (a.l.take (klOf l a.r)) (b.l.take (klOf l b.r)) (by rw [List.length_take]; omega)) (by simp -implicitDefEqProofs (maxSteps := 2000000) only [go_sem]) (by kernel_rfl) (by simp -implicitDefEqProofs (maxSteps := 2000000) only [go_sem]) ?_
  simp -implicitDefEqProofs (maxSteps := 2000000) only [go_sem]
  rw [cmp_beq, e']
  exact ⟨by kernel_rfl, rfl⟩
theorem sameKey_sat (l : List Rel) (a b : RI) (h : l.length ≤ 9223372036854775807) (g : goodRels l = true) (ga : goodFact l a = true) (gb : goodFact l b = true) : Sat Tryz.prog 75 [lRels l, lRI a, lRI b] [lBool (sameK l a b)] [g1, g2, g2] := by
  refine sat_of_body mixed Tryz.func75 rfl (by kernel_rfl) (by kernel_rfl) (rs := [.tmp 6]) rfl rfl rfl ?_
  unfold sameK
  obtain ⟨m, hm, c1, hm3⟩ := fact_at ga
  obtain ⟨n, hn, c2, hn3⟩ := fact_at gb
  rcases a with ⟨ar, us⟩
  rcases b with ⟨br, ws⟩
  simp only at hm hm3 hn hn3
  rcases e : ar == br
  · have e1 : (ar != br) = true := by rw [bne, e]; rfl
    simp -implicitDefEqProofs (maxSteps := 2000000) only [go_sem, e, e1]
  have e1 : (ar != br) = false := by rw [bne, e]; rfl
  have e' : ar = br := eq_of_beq e
  subst e'
  subst hm
  obtain rfl : m = n := by omega
  have o := rel_of g c1
  obtain ⟨K, hK⟩ : ∃ K : Nat, (l.getD m default).kl = K := ⟨(l.getD m default).kl.toNat, by omega⟩
  have k1 : K ≤ us.length := by omega
  have k2 : K ≤ ws.length := by omega
  rw [show klOf l ((m : Nat) : Int) = K by simp only [klOf, Int.toNat_natCast, hK]]
  simp -implicitDefEqProofs (maxSteps := 2000000) only [go_sem, e1, c1, hK, k1, k2, Nat.zero_le]
  refine call_of (slicesEqual_sat (us.take K) (ws.take K) (by rw [List.length_take]; omega)) (by simp -implicitDefEqProofs (maxSteps := 2000000) only [go_sem, k1, k2, Nat.zero_le]) (by kernel_rfl) (by simp -implicitDefEqProofs (maxSteps := 2000000) only [go_sem, k1, k2, Nat.zero_le]) ?_
  simp -implicitDefEqProofs (maxSteps := 2000000) only [go_sem, k1, k2, Nat.zero_le]

/-! #### pairs -/
def rowE (p : Nat → Nat → Bool) (a : Nat) : Nat → List Edge
  | 0 => []
  | b + 1 => if decide (a < b) && p a b then rowE p a b ++ [⟨a, b⟩] else rowE p a b
def allE (p : Nat → Nat → Bool) (n : Nat) : Nat → List Edge
  | 0 => []
  | a + 1 => allE p n a ++ rowE p a n
theorem rowE_nil (p : Nat → Nat → Bool) (a : Nat) : ∀ b, b ≤ a + 1 → rowE p a b = []
  | 0, _ => rfl
  | b + 1, h => by
    rw [rowE, rowE_nil p a b (by omega), decide_eq_false (by omega : ¬ a < b)]; rfl
theorem rowE_len (p : Nat → Nat → Bool) (a : Nat) : ∀ b, (rowE p a b).length ≤ b
  | 0 => by simp [rowE]
  | b + 1 => by
    have := rowE_len p a b
    unfold rowE; split
    · simp; omega
    · omega
theorem allE_len (p : Nat → Nat → Bool) (n : Nat) : ∀ a, (allE p n a).length ≤ a * n
  | 0 => by simp [allE]
  | a + 1 => by
    have h1 := allE_len p n a
    have h2 := rowE_len p a n
    rw [allE, List.length_append, Nat.add_mul, Nat.one_mul]; omega
def hit (d : Db) (i k : Int) (x : Den) : Bool := violB d x i k || violB d x k i
def confl (d : Db) (l : List Den) (i k : Nat) : Bool := l.any (hit d i k) || sameK d.rels (d.facts.getD i default) (d.facts.getD k default)
def edgesOf (d : Db) (l : List Den) : List Edge := if goodDb d then allE (confl d l) d.facts.length d.facts.length else []
theorem edgesOf_len (d : Db) (l : List Den) : (edgesOf d l).length ≤ 196 := by
  unfold edgesOf
  split
  · rename_i g
    have h := allE_len (confl d l) d.facts.length d.facts.length
    have h2 := (db_of g).2.1
    have h3 : d.facts.length * d.facts.length ≤ 14 * 14 := Nat.mul_le_mul h2 h2
    omega
  · simp
abbrev fDb (d : Db) : List Fld := [.im 3 (rels d.rels), .im 2 (ris 0 d.facts)]
abbrev fDens (l : List Den) : List Fld := [.im 7 (dens l)]
theorem any_step {α : Type} {d : α} {l : List α} {k : Nat} {p : α → Bool} (h : k < l.length) : (l.take (k + 1)).any p = ((l.take k).any p || p (l.getD k d)) := by
  rw [take_snoc d h, List.any_append]; simp
theorem any_hit {α : Type} {d : α} {l : List α} {k : Nat} {p : α → Bool} (h : k < l.length) (hp : p (l.getD k d) = true) : l.any p = true := List.any_eq_true.mpr ⟨_, mem_getD d h, hp⟩
end Go.Proofs.YtbalifgacjmbpacGreat.A


/- BLOCKS OF A VALID DATABASE. Conditions: none. -/
namespace Go.Proofs.YtbalifgacjmbpacGreat.A
open Go
set_option linter.unusedSimpArgs false
set_option linter.unusedVariables false

theorem cmpInts_trans : ∀ {a b c : List Int}, cmpInts a b < 0 → cmpInts b c < 0 → cmpInts a c < 0
  | [], [], _, h, _ => by simp [cmpInts] at h
  | [], _ :: _, [], _, h => by simp [cmpInts] at h
  | [], _ :: _, _ :: _, _, _ => by simp [cmpInts]
  | _ :: _, [], _, h, _ => by simp [cmpInts] at h
  | _ :: _, _ :: _, [], _, h => by simp [cmpInts] at h
  | x :: a, y :: b, z :: c, h1, h2 => by
    unfold cmpInts at h1 h2 ⊢
    rcases Int.lt_trichotomy x y with d | d | d
    · rcases Int.lt_trichotomy y z with e | e | e
      · rw [if_pos (by omega)]; omega
      · rw [if_pos (by omega)]; omega
      · rw [if_neg (by omega), if_pos e] at h2; omega
    · subst d
      rw [if_neg (by omega), if_neg (by omega)] at h1
      rcases Int.lt_trichotomy x z with e | e | e
      · rw [if_pos e]; omega
      · subst e
        rw [if_neg (by omega), if_neg (by omega)] at h2 ⊢
        exact cmpInts_trans h1 h2
      · rw [if_neg (by omega), if_pos e] at h2; omega
    · rw [if_neg (by omega), if_pos d] at h1; omega
theorem lex_mid : ∀ (m : Nat) {a b c : List Int}, a.length = b.length → b.length = c.length → cmpInts a b ≤ 0 → cmpInts b c ≤ 0 → a.take m = c.take m → a.take m = b.take m
  | 0, _, _, _, _, _, _, _, _ => by simp
  | m + 1, [], [], _, _, _, _, _, _ => rfl
  | m + 1, x :: a, y :: b, [], _, h, _, _, _ => by simp at h
  | m + 1, x :: a, y :: b, z :: c, h1, h2, h3, h4, h5 => by
    simp only [List.take_succ_cons, List.cons.injEq] at h5 ⊢
    obtain ⟨rfl, h5⟩ := h5
    unfold cmpInts at h3 h4
    rcases Int.lt_trichotomy x y with d | d | d
    · rw [if_neg (by omega), if_pos d] at h4; omega
    · subst d
      rw [if_neg (by omega), if_neg (by omega)] at h3 h4
      exact ⟨rfl, lex_mid m (by simpa using h1) (by simpa using h2) h3 h4 h5⟩
    · rw [if_neg (by omega), if_pos d] at h3; omega
theorem cmpRI_trans {a b c : RI} (h1 : cmpRI a b < 0) (h2 : cmpRI b c < 0) : cmpRI a c < 0 := by
  unfold cmpRI at *
  rcases Int.lt_trichotomy a.r b.r with d | d | d
  · rcases Int.lt_trichotomy b.r c.r with e | e | e
    · rw [if_pos (by omega)]; omega
    · rw [if_pos (by omega)]; omega
    · rw [if_neg (by omega), if_pos e] at h2; omega
  · rw [if_neg (by omega), if_neg (by omega)] at h1
    rcases Int.lt_trichotomy b.r c.r with e | e | e
    · rw [if_pos (by omega)]; omega
    · rw [if_neg (by omega), if_neg (by omega)] at h2 ⊢
      exact cmpInts_trans h1 h2
    · rw [if_neg (by omega), if_pos e] at h2; omega
  · rw [if_neg (by omega), if_pos d] at h1; omega
theorem db_step {d : Db} (g : goodDb d = true) {i : Nat} (hi : i + 1 < d.facts.length) : cmpRI (d.facts.getD i default) (d.facts.getD (i + 1) default) < 0 := by
  unfold goodDb at g
  simp only [Bool.and_eq_true] at g
  have := upTo_at g.2.2 hi
  unfold factOk at this
  rw [Bool.and_eq_true, Nat.add_sub_cancel, decide_eq_false (by omega : ¬ i + 1 = 0), Bool.false_or, Bool.not_eq_true', decide_eq_false_iff_not] at this
  omega
theorem db_sorted {d : Db} (g : goodDb d = true) {i : Nat} : ∀ {j : Nat}, i < j → j < d.facts.length → cmpRI (d.facts.getD i default) (d.facts.getD j default) < 0
  | 0, h, _ => by omega
  | j + 1, h, hj => by
    have h1 := db_step g hj
    rcases Nat.lt_or_ge i j with h2 | h2
    · exact cmpRI_trans (db_sorted g h2 (by omega)) h1
    · obtain rfl : i = j := by omega
      exact h1
theorem cmpInts_self (a : List Int) : cmpInts a a = 0 := cmpInts_zero.mpr rfl
theorem cmpRI_self (a : RI) : cmpRI a a = 0 := by
  unfold cmpRI
  rw [if_neg (by omega), if_neg (by omega)]; exact cmpInts_self _
theorem db_le {d : Db} (g : goodDb d = true) {i j : Nat} (h : i ≤ j) (hj : j < d.facts.length) : cmpRI (d.facts.getD i default) (d.facts.getD j default) ≤ 0 := by
  rcases Nat.lt_or_ge i j with h1 | h1
  · have := db_sorted g h1 hj; omega
  · obtain rfl : i = j := by omega
    rw [cmpRI_self]; omega
theorem sameK_iff {l : List Rel} {a b : RI} : sameK l a b = true ↔ a.r = b.r ∧ a.l.take (klOf l a.r) = b.l.take (klOf l a.r) := by
  unfold sameK
  rw [Bool.and_eq_true, beq_iff_eq, decide_eq_true_iff]
theorem good_len {d : Db} (g : goodDb d = true) {i j : Nat} (hi : i < d.facts.length) (hj : j < d.facts.length) (e : (d.facts.getD i default).r = (d.facts.getD j default).r) : (d.facts.getD i default).l.length = (d.facts.getD j default).l.length := by
  have h1 := goodDb_fact g hi
  have h2 := goodDb_fact g hj
  unfold goodFact at h1 h2
  simp only [Bool.and_eq_true, beq_iff_eq] at h1 h2
  have a1 := h1.2.1
  have a2 := h2.2.1
  rw [e] at a1
  omega
def keyR (d : Db) (i k : Nat) : Bool := sameK d.rels (d.facts.getD i default) (d.facts.getD k default)
theorem keyR_eqv {d : Db} (g : goodDb d = true) : Eqv (keyR d) d.facts.length where
  refl i hi := by unfold keyR; rw [sameK_iff]; exact ⟨rfl, rfl⟩
  symm i j hi hj h := by
    unfold keyR at *
    rw [sameK_iff] at *
    exact ⟨h.1.symm, by rw [← h.1]; exact h.2.symm⟩
  trans i j k hi hj hk h1 h2 := by
    unfold keyR at *
    rw [sameK_iff] at *
    refine ⟨h1.1.trans h2.1, ?_⟩
    have := h2.2
    rw [← h1.1] at this
    exact h1.2.trans this
  mid i j k h1 h2 hk h := by
    unfold keyR at *
    rw [sameK_iff] at *
    have a1 := db_le g h1 (by omega)
    have a2 := db_le g h2 hk
    obtain ⟨b1, b2⟩ := h
    have hr : (d.facts.getD i default).r = (d.facts.getD j default).r := by
      unfold cmpRI at a1 a2
      rcases Int.lt_trichotomy (d.facts.getD i default).r (d.facts.getD j default).r with e | e | e
      · rcases Int.lt_trichotomy (d.facts.getD j default).r (d.facts.getD k default).r with e2 | e2 | e2
        · omega
        · omega
        · rw [if_neg (by omega), if_pos e2] at a2; omega
      · exact e
      · rw [if_neg (by omega), if_pos e] at a1; omega
    refine ⟨hr, ?_⟩
    unfold cmpRI at a1 a2
    rw [if_neg (by omega), if_neg (by omega)] at a1 a2
    exact lex_mid _ (good_len g (by omega) (by omega) hr) (good_len g (by omega) hk (by omega)) a1 a2 b2
/-- The blocks. -/
def blocksOf (d : Db) : List (List Int) := blk (keyR d) d.facts.length
theorem blocksOf_prod {d : Db} (g : goodDb d = true) : 0 < prodL (blocksOf d) ∧ prodL (blocksOf d) ≤ 16384 := by
  refine ⟨prodL_pos (blk_ne (keyR_eqv g) (Nat.le_refl _)), ?_⟩
  have h1 := prodL_le (blocksOf d)
  rw [show ((blocksOf d).map List.length).sum = d.facts.length from blk_sum (keyR_eqv g) (Nat.le_refl _)] at h1
  have h2 : 2 ^ d.facts.length ≤ 2 ^ 14 := Nat.pow_le_pow_right (by omega) (goodDb_len g)
  omega
theorem sum_ge : ∀ {l : List (List Int)}, (∀ b ∈ l, 0 < b.length) → l.length ≤ (l.map List.length).sum
  | [], _ => by simp
  | b :: l, h => by
    have := sum_ge (l := l) fun c hc => h c (by simp [hc])
    have := h b (by simp)
    simp; omega
theorem sum_mem : ∀ {l : List (List Int)} {b : List Int}, b ∈ l → b.length ≤ (l.map List.length).sum
  | [], _, h => by cases h
  | c :: l, b, h => by
    rcases List.mem_cons.mp h with rfl | h
    · simp
    · have := sum_mem h
      simp; omega
theorem blocksOf_len {d : Db} (g : goodDb d = true) : (blocksOf d).length ≤ 14 ∧ ∀ b ∈ blocksOf d, 0 < b.length ∧ b.length ≤ 14 := by
  have E := keyR_eqv g
  have h1 := blk_ne E (Nat.le_refl _)
  have h2 := blk_sum E (Nat.le_refl d.facts.length)
  have h3 := goodDb_len g
  refine ⟨?_, fun b hb => ⟨h1 b hb, ?_⟩⟩
  · have := sum_ge h1
    show (blk _ _).length ≤ _
    omega
  · have := sum_mem hb
    have e : ((blocksOf d).map List.length).sum = d.facts.length := h2
    omega
end Go.Proofs.YtbalifgacjmbpacGreat.A


/- FACTS ARE SELECTED. Conditions: none. -/
namespace Go.Proofs.YtbalifgacjmbpacGreat.A
open Go
set_option linter.unusedSimpArgs false
set_option linter.unusedVariables false
set_option maxRecDepth 100000

theorem l4Set_sat (d : Db) (l : List Int) (h : l.length ≤ 9223372036854775807) (hd : d.facts.length ≤ 14) : Sat Tryz.prog 133 [lDb d, lInts l] [lBool (idxs l d.facts.length)] [g2, g1] := by
  refine sat_of_body mixed Tryz.func133 rfl (by kernel_rfl) (by kernel_rfl) (rs := [.tmp 4]) rfl rfl rfl ?_
  unfold idxs
  have w0 : IntKind.i64.wrap ((d.facts.length : Int) - 1) = (d.facts.length : Int) - 1 := IntWalk.i64_in _ (by omega)
  obtain ⟨n, hn⟩ : ∃ n : Int, n = (d.facts.length : Int) := ⟨_, rfl⟩
  rw [← hn] at w0 ⊢
  simp -implicitDefEqProofs (maxSteps := 2000000) only [go_sem]
  refine awp_loop Nat (fun k => mkSt [(1, .one (.im 1 (ints l))), (2, .one (.vad 1000 0)), (5, .sc (.int .i64 k))] [(1000, sDb d)] [] 4000)
    (fun k => k ≤ l.length ∧ upTo (idxAt l n) k = true) (fun k => l.length - k) 0 ⟨by omega, rfl⟩ (le_st _ _ [] [] _ rfl (by simp -implicitDefEqProofs (maxSteps := 2000000) only [go_sem] <;> rfl) (by simp -implicitDefEqProofs (maxSteps := 2000000) only [go_sem] <;> rfl) (by simp -implicitDefEqProofs (maxSteps := 2000000) only [go_sem] <;> rfl)) ?_
  rintro k ⟨h1, h2⟩
  by_cases c1 : k < l.length
  · rcases d1 : inB (l.getD k 0) 0 (n - 1)
    · rw [upTo_false c1 (by rw [idxAt, d1]; rfl)]
      simp -implicitDefEqProofs (maxSteps := 2000000) only [go_sem, c1, ← hn, w0]
      refine call_of (inB_sat (l.getD k 0) 0 (n - 1)) (by simp -implicitDefEqProofs (maxSteps := 2000000) only [go_sem, d1, c1]) (by kernel_rfl) (by simp -implicitDefEqProofs (maxSteps := 2000000) only [go_sem, d1, c1]) ?_
      simp -implicitDefEqProofs (maxSteps := 2000000) only [go_sem, d1, c1]
      first | (with_reducible refine tr_and ?_ ?_; focus kernel_rfl) | (with_reducible refine tr_only ?_; kernel_rfl) | skip
      first | done | rfl | exact ⟨rfl, rfl⟩ | exact ⟨rfl, rfl, rfl⟩ | (refine tr_and ?_ ?_ <;> first | rfl | exact ⟨rfl, rfl⟩ | kernel_rfl)
    rcases k with _ | j
    · have e : idxAt l n 0 = true := by rw [idxAt, d1]; rfl
      have c0 : (0 : Int) < l.length := by omega
      simp -implicitDefEqProofs (maxSteps := 2000000) only [go_sem, c1, c0, ← hn, w0]
      refine call_of (inB_sat (l.getD 0 0) 0 (n - 1)) (by simp -implicitDefEqProofs (maxSteps := 2000000) only [go_sem, d1, c1, c0]) (by kernel_rfl) (by simp -implicitDefEqProofs (maxSteps := 2000000) only [go_sem, d1, c1, c0]) ?_
      simp -implicitDefEqProofs (maxSteps := 2000000) only [go_sem, d1, c1, c0]
      first | (with_reducible refine tr_and ?_ ?_; focus kernel_rfl) | (with_reducible refine tr_only ?_; kernel_rfl) | skip
      exact ⟨1, ⟨c1, upTo_step h2 e⟩, by omega, (le_st _ _ [] [] _ rfl (by simp -implicitDefEqProofs (maxSteps := 2000000) only [go_sem] <;> rfl) (by simp -implicitDefEqProofs (maxSteps := 2000000) only [go_sem] <;> rfl) (by simp -implicitDefEqProofs (maxSteps := 2000000) only [go_sem] <;> rfl))⟩
    · have c2 : j < l.length := by omega
      have c3 : 0 < ((j + 1 : Nat) : Int) := by omega
      have w1 := i64_pred (j := j) (by omega)
      rcases d2 : decide (l.getD (j + 1) 0 ≤ l.getD j 0)
      · have e : idxAt l n (j + 1) = true := by rw [idxAt, d1, Nat.add_sub_cancel, d2]; rfl
        simp -implicitDefEqProofs (maxSteps := 2000000) only [go_sem, c1, ← hn, w0]
        refine call_of (inB_sat (l.getD (j + 1) 0) 0 (n - 1)) (by simp -implicitDefEqProofs (maxSteps := 2000000) only [go_sem, d1, d2, c1, c2, c3, w1]) (by kernel_rfl) (by simp -implicitDefEqProofs (maxSteps := 2000000) only [go_sem, d1, d2, c1, c2, c3, w1]) ?_
        simp -implicitDefEqProofs (maxSteps := 2000000) only [go_sem, d1, d2, c1, c2, c3, w1]
        first | (with_reducible refine tr_and ?_ ?_; focus kernel_rfl) | (with_reducible refine tr_only ?_; kernel_rfl) | skip
        rw [i64_succ (by omega)]
        exact ⟨j + 1 + 1, ⟨c1, upTo_step h2 e⟩, by omega, (le_st _ _ [] [] _ rfl (by simp -implicitDefEqProofs (maxSteps := 2000000) only [go_sem] <;> rfl) (by simp -implicitDefEqProofs (maxSteps := 2000000) only [go_sem] <;> rfl) (by simp -implicitDefEqProofs (maxSteps := 2000000) only [go_sem] <;> rfl))⟩
      · rw [upTo_false c1 (show idxAt l n (j + 1) = false by rw [idxAt, d1, Nat.add_sub_cancel, d2]; rfl)]
        simp -implicitDefEqProofs (maxSteps := 2000000) only [go_sem, c1, ← hn, w0]
        refine call_of (inB_sat (l.getD (j + 1) 0) 0 (n - 1)) (by simp -implicitDefEqProofs (maxSteps := 2000000) only [go_sem, d1, d2, c1, c2, c3, w1]) (by kernel_rfl) (by simp -implicitDefEqProofs (maxSteps := 2000000) only [go_sem, d1, d2, c1, c2, c3, w1]) ?_
        simp -implicitDefEqProofs (maxSteps := 2000000) only [go_sem, d1, d2, c1, c2, c3, w1]
        first | (with_reducible refine tr_and ?_ ?_; focus kernel_rfl) | (with_reducible refine tr_only ?_; kernel_rfl) | skip
        first | done | rfl | exact ⟨rfl, rfl⟩ | exact ⟨rfl, rfl, rfl⟩ | (refine tr_and ?_ ?_ <;> first | rfl | exact ⟨rfl, rfl⟩ | kernel_rfl)
  · obtain rfl : k = l.length := by omega
    simp -implicitDefEqProofs (maxSteps := 2000000) only [go_sem, c1]
    rw [h2]
theorem goodDb_rels {d : Db} (h : goodDb d = true) : d.rels.length ≤ 4 := by
  unfold goodDb goodRels at h
  simp only [Bool.and_eq_true, decide_eq_true_eq] at h
  omega
theorem repS {α : Type} (a : α) : List.replicate 1 a = [a] := rfl
abbrev zDb : List SV := [.sc (.slice none 0 0), .sc (.slice none 0 0)]
/-- The chosen facts. -/
def selF (fs : List RI) (l : List Int) : List RI := l.map fun i => fs.getD i.toNat default
def selOk (d : Db) (l : List Int) : Bool := goodDb d && idxs l d.facts.length
def selD (d : Db) (l : List Int) : Db := if selOk d l then ⟨d.rels, selF d.facts l⟩ else ⟨[], []⟩
theorem selF_length (fs : List RI) (l : List Int) : (selF fs l).length = l.length := by simp [selF]
theorem selF_take (fs : List RI) (l : List Int) {k : Nat} (h : k < l.length) : selF fs (l.take (k + 1)) = selF fs (l.take k) ++ [fs.getD (l.getD k 0).toNat default] := by
  rw [take_snoc 0 h]; simp [selF]
theorem idxs_at {l : List Int} {n : Int} (h : idxs l n = true) {k : Nat} (hk : k < l.length) : 0 ≤ l.getD k 0 ∧ l.getD k 0 < n := by
  have := upTo_at h hk
  unfold idxAt at this
  rw [Bool.and_eq_true] at this
  have := inB_of this.1
  omega
theorem idxs_lt {l : List Int} {n : Int} (h : idxs l n = true) : ∀ (k j : Nat), k < l.length → j < k → l.getD j 0 < l.getD k 0
  | 0, j, _, hj => by omega
  | k + 1, j, hk, hj => by
    have h1 := upTo_at h hk
    unfold idxAt at h1
    rw [Bool.and_eq_true, Nat.add_sub_cancel, decide_eq_false (by omega : ¬ k + 1 = 0), Bool.false_or, Bool.not_eq_true', decide_eq_false_iff_not] at h1
    have h2 := h1.2
    rcases Nat.lt_or_ge j k with hjk | hjk
    · have := idxs_lt h k j (by omega) hjk
      omega
    · obtain rfl : j = k := by omega
      omega
theorem specSelectFacts_sat (d : Db) (l : List Int) (h : d.ok) (hl : l.length ≤ 1048576) : Sat Tryz.prog 108 [lDb d, lInts l] [oDb (selD d l), lBool (selOk d l)] [g2, g1] := by
  refine sat_of_body mixed Tryz.func108 rfl (by kernel_rfl) (by kernel_rfl) (rs := [.cell 4 36, .tmp 5]) rfl rfl rfl ?_
  simp -implicitDefEqProofs (maxSteps := 2000000) only [go_sem]
  rcases g : goodDb d
  · rw [show selD d l = ⟨[], []⟩ by rw [selD, selOk, g]; rfl, show selOk d l = false by rw [selOk, g]; rfl]
    refine call_of (specIsValidDatabase_sat d h.fit) (by simp -implicitDefEqProofs (maxSteps := 2000000) only [go_sem, g]) (by kernel_rfl) (by simp -implicitDefEqProofs (maxSteps := 2000000) only [go_sem, g]) ?_
    simp -implicitDefEqProofs (maxSteps := 2000000) only [go_sem, g]
    first | done | rfl | exact ⟨rfl, rfl⟩ | exact ⟨rfl, rfl, rfl⟩ | (refine tr_and ?_ ?_ <;> first | rfl | exact ⟨rfl, rfl⟩ | kernel_rfl)
  have hn := goodDb_len g
  have hr := goodDb_rels g
  rcases g2 : idxs l d.facts.length
  · rw [show selD d l = ⟨[], []⟩ by rw [selD, selOk, g, g2]; rfl, show selOk d l = false by rw [selOk, g, g2]; rfl]
    refine call_of (specIsValidDatabase_sat d h.fit) (by simp -implicitDefEqProofs (maxSteps := 2000000) only [go_sem, g]) (by kernel_rfl) (by simp -implicitDefEqProofs (maxSteps := 2000000) only [go_sem, g]) ?_
    simp -implicitDefEqProofs (maxSteps := 2000000) only [go_sem, g]
    refine call_of (l4Set_sat d l (by omega) hn) (by simp -implicitDefEqProofs (maxSteps := 2000000) only [go_sem, g2]) (by kernel_rfl) (by simp -implicitDefEqProofs (maxSteps := 2000000) only [go_sem, g2]) ?_
    simp -implicitDefEqProofs (maxSteps := 2000000) only [go_sem, g2]
    first | done | rfl | exact ⟨rfl, rfl⟩ | exact ⟨rfl, rfl, rfl⟩ | (refine tr_and ?_ ?_ <;> first | rfl | exact ⟨rfl, rfl⟩ | kernel_rfl)
  rw [show selD d l = ⟨d.rels, selF d.facts l⟩ by rw [selD, selOk, g, g2]; rfl, show selOk d l = true by rw [selOk, g, g2]; rfl]
  refine call_of (specIsValidDatabase_sat d h.fit) (by simp -implicitDefEqProofs (maxSteps := 2000000) only [go_sem, g]) (by kernel_rfl) (by simp -implicitDefEqProofs (maxSteps := 2000000) only [go_sem, g]) ?_
  simp -implicitDefEqProofs (maxSteps := 2000000) only [go_sem, g]
  refine call_of (l4Set_sat d l (by omega) hn) (by simp -implicitDefEqProofs (maxSteps := 2000000) only [go_sem, g2]) (by kernel_rfl) (by simp -implicitDefEqProofs (maxSteps := 2000000) only [go_sem, g2]) ?_
  simp -implicitDefEqProofs (maxSteps := 2000000) only [go_sem, g2]
  repeat (refine ⟨by omega, ?_⟩)
  refine awp_loop Nat (fun k => mkSt [(1, .one (.im 1 (ints l))), (2, .one (.vad 1000 0)), (4, .one (.vad 1064 0)), (6, .one (.vad 2088 0)), (7, .sc (.int .i64 k))] [(1000, sDb d), (1064, zDb), (2088, [.ref 960 3 0 d.rels.length, .ref 961 2 0 k])] [(960, (3, rels d.rels)), (961, (2, ris 999 (selF d.facts (l.take k))))] 4000)
    (fun k => k ≤ l.length) (fun k => l.length - k) 0 (by omega) (le_st' _ _ [⟨960, some _, false, 3, _⟩, ⟨961, none, false, 2, _⟩] [] _ (by simp -implicitDefEqProofs (maxSteps := 2000000) only [go_sem, List.take_zero, ris_nil] <;> and_intros <;> rfl) (by simp -implicitDefEqProofs (maxSteps := 2000000) only [go_sem, List.take_zero, ris_nil] <;> and_intros <;> rfl) (by simp -implicitDefEqProofs (maxSteps := 2000000) only [go_sem, List.take_zero, ris_nil] <;> and_intros <;> rfl) (by rfl)) ?_
  rintro k h4
  by_cases c1 : k < l.length
  · have wk : IntKind.i64.wrap ((k : Int) + 1) = ((k + 1 : Nat) : Int) := i64_succ (by omega)
    obtain ⟨b1, b2⟩ := idxs_at g2 c1
    have hst := selF_take d.facts l c1
    obtain ⟨m, hm⟩ : ∃ m : Nat, l.getD k 0 = m := ⟨(l.getD k 0).toNat, by omega⟩
    have c2 : m < d.facts.length := by omega
    have hx : (d.facts.getD m default).l.length ≤ 1048576 := h.2.2 _ (mem_getD default c2)
    have ht : (selF d.facts (l.take k)).length = k := by rw [selF_length, List.length_take]; omega
    rw [hm, Int.toNat_natCast] at hst
    simp -implicitDefEqProofs (maxSteps := 2000000) only [go_sem, c1, hm, c2]
    refine tr_and (by kernel_rfl) ?_
    repeat (refine ⟨by omega, ?_⟩)
    refine tr_and (by kernel_rfl) ?_
    rw [wk]
    refine ⟨k + 1, c1, by omega, ?_⟩
    rw [hst]
    exact (le_st' _ _ [⟨960, some _, false, 3, _⟩, ⟨961, some _, false, 2, _⟩] [] _ (by simp -implicitDefEqProofs (maxSteps := 2000000) only [go_sem, ht, repS, List.set_cons_zero] <;> and_intros <;> rfl) (by simp -implicitDefEqProofs (maxSteps := 2000000) only [go_sem, ht, repS, List.set_cons_zero] <;> and_intros <;> rfl) (by simp -implicitDefEqProofs (maxSteps := 2000000) only [go_sem, ht, repS, List.set_cons_zero] <;> and_intros <;> rfl) (by rfl))
  · obtain rfl : k = l.length := by omega
    rw [List.take_length]
    simp -implicitDefEqProofs (maxSteps := 2000000) only [go_sem, c1, selF_length]
    kernel_rfl
/-! #### a slice that lies in another one is moved -/
def cellQ (s id w i j s' off len : Nat) (rows : Rows) (c : Cell) (K : Cell → List (Nat × Option Obj') → Prop) : Prop := match c with
  | .sl s'' xs => s'' = s' ∧ off = 0 ∧ len = xs.length ∧ K (.sl s xs) [(id, some (w, Rows.setCell rows i j .gone))]
  | _ => False
theorem cellQ_sl {s id w i j s' s'' off len : Nat} {rows : Rows} {xs : List Value} {K : Cell → List (Nat × Option Obj') → Prop} : cellQ s id w i j s' off len rows (.sl s'' xs) K = (s'' = s' ∧ off = 0 ∧ len = xs.length ∧ K (.sl s xs) [(id, some (w, Rows.setCell rows i j .gone))]) := rfl
def cellI (s id i j s' off len : Nat) (o : Option Obj') (K : Cell → List (Nat × Option Obj') → Prop) : Prop := match o with
  | some (w, rows) => cellQ s id w i j s' off len rows ((rows.getD i []).getD j .gone) K
  | none => False
theorem cellI_some {s id w i j s' off len : Nat} {rows : Rows} {K : Cell → List (Nat × Option Obj') → Prop} : cellI s id i j s' off len (some (w, rows)) K = cellQ s id w i j s' off len rows ((rows.getD i []).getD j .gone) K := rfl
theorem cell_rin {st : St} {s id i j s' off len : Nat} {K : Cell → List (Nat × Option Obj') → Prop} : cellK st s (.rin id i j s' off len) K = cellI s id i j s' off len (st.objs id) K := by
  simp only [cellK, cellI, cellQ, Rows.cell]
  rcases st.objs id with _ | ⟨w, rows⟩
  · rfl
  · simp only
    rcases (List.getD rows i []).getD j .gone with _ | ⟨s'', xs⟩ | _ <;> rfl
attribute [go_sem] cell_rin cellI_some cellQ_sl
/-! #### rows of which some were moved away -/
def cRH (s : Nat) (x : RI × Bool) : List Cell := [.sc (.int .i64 x.1.r), if x.2 then .gone else .sl s (iv x.1.l)]
def rhs (s : Nat) (l : List (RI × Bool)) : Rows := l.map (cRH s)
theorem rhs_length (s : Nat) (l : List (RI × Bool)) : (rhs s l).length = l.length := by simp [rhs]
theorem rhs_get {s : Nat} {l : List (RI × Bool)} {i : Nat} {r : Int} {xs : List Int} (h : l[i]? = some (⟨r, xs⟩, false)) : (rhs s l).getD i [] = [.sc (.int .i64 r), .sl s (iv xs)] := by
  simp [rhs, cRH, List.getD_eq_getElem?_getD, h]
theorem rhs_stm (n s : Nat) (l : List (RI × Bool)) : stm n (rhs (s + 1) l) = rhs n l := stm_map n _ _ (fun x => by rcases x with ⟨x, b⟩; cases b <;> rfl) l
theorem rhs_gone {s : Nat} {l : List (RI × Bool)} {i : Nat} {r : Int} {xs : List Int} (h : l[i]? = some (⟨r, xs⟩, false)) : Rows.setCell (rhs s l) i 1 .gone = rhs s (l.set i (⟨r, xs⟩, true)) := by
  unfold Rows.setCell
  rw [rhs_get h]
  simp [rhs, List.map_set, cRH]
theorem mapF_get {fs : List RI} {i : Nat} (h : i < fs.length) : (fs.map fun a => (a, false))[i]? = some (fs.getD i default, false) := by
  simp [List.getD_eq_getElem?_getD, h]
theorem rhs_of (s : Nat) (l : List RI) : rhs s (l.map fun a => (a, false)) = ris s l := by simp [rhs, ris, cRH, cRI]
attribute [go_sem] rhs_length rhs_stm
end Go.Proofs.YtbalifgacjmbpacGreat.A


/- BLOCKS: the reference. Conditions: none. -/
namespace Go.Proofs.YtbalifgacjmbpacGreat.A
open Go
set_option linter.unusedSimpArgs false
set_option linter.unusedVariables false
set_option maxRecDepth 100000

theorem castL_append (a b : List Nat) : castL (a ++ b) = castL a ++ castL b := by simp [castL]
theorem clsOf_le {S : Nat → Nat → Bool} (i k : Nat) : (clsOf S i k).length ≤ k := by
  unfold clsOf
  have := List.length_filter_le (S i) (List.range k)
  simpa using this
theorem castL_len (l : List Nat) : (castL l).length = l.length := by simp [castL]
theorem clsOf_not {S : Nat → Nat → Bool} {n : Nat} (E : Eqv S n) {i : Nat} (hi : i < n) (h : isFst S i = false) : ∃ j t, clsOf S i n = j :: t ∧ j ≠ i := by
  have hex : ∃ j, j < i ∧ S j i = true := by
    refine Classical.byContradiction fun hn => ?_
    rw [isFst_of (fun j hj => by
      rcases e : S j i
      · rfl
      · exact absurd ⟨j, hj, e⟩ hn)] at h
    cases h
  obtain ⟨j, h1, h2⟩ := hex
  have hm : j ∈ clsOf S i n := clsOf_mem.mpr ⟨by omega, E.symm j i (by omega) hi h2⟩
  rcases hc : clsOf S i n with _ | ⟨a, t⟩
  · rw [hc] at hm; cases hm
  · refine ⟨a, t, rfl, ?_⟩
    have hs : (clsOf S i n).Pairwise (· < ·) := List.Pairwise.filter _ List.pairwise_lt_range
    rw [hc] at hs hm
    rcases List.mem_cons.mp hm with rfl | hm
    · omega
    · have := (List.pairwise_cons.mp hs).1 j hm
      omega
theorem blockOf_sat (d : Db) (h : d.fit) (g : goodDb d = true) {i : Nat} (hi : i < d.facts.length) : Sat Tryz.prog 110 [lDb d, lInt i] [oInts (castL (clsOf (keyR d) i d.facts.length))] [g2, g1] := by
  refine sat_of_body mixed Tryz.func110 rfl (by kernel_rfl) (by kernel_rfl) (rs := [.tmp 4]) rfl rfl rfl ?_
  have hn := goodDb_len g
  have w0 : IntKind.i64.wrap ((d.facts.length : Int) - 1) = (d.facts.length : Int) - 1 := IntWalk.i64_in _ (by omega)
  have hin : inB (i : Int) 0 ((d.facts.length : Int) - 1) = true := by unfold inB; simp; omega
  simp -implicitDefEqProofs (maxSteps := 2000000) only [go_sem]
  refine awp_loop Nat (fun k => mkSt [(1, .sc (.int .i64 i)), (2, .one (.vad 1000 0)), (5, .one (.ref 960 1 0 (castL (clsOf (keyR d) i k)).length)), (6, .sc (.int .i64 k))] [(1000, sDb d)] [(960, (1, ints (castL (clsOf (keyR d) i k))))] 4000)
    (fun k => k ≤ d.facts.length) (fun k => d.facts.length - k) 0 (by omega) (le_st' _ _ [⟨960, some _, false, 1, _⟩] [] _ (by simp -implicitDefEqProofs (maxSteps := 2000000) only [go_sem] <;> and_intros <;> rfl) (by simp -implicitDefEqProofs (maxSteps := 2000000) only [go_sem] <;> and_intros <;> rfl) (by simp -implicitDefEqProofs (maxSteps := 2000000) only [go_sem] <;> and_intros <;> rfl) (by rfl)) ?_
  rintro k h1
  have hl := castL_len (clsOf (keyR d) i k)
  have hl2 := clsOf_le (S := keyR d) i k
  by_cases c1 : k < d.facts.length
  · have wk : IntKind.i64.wrap ((k : Int) + 1) = ((k + 1 : Nat) : Int) := i64_succ (by omega)
    have hst := clsOf_succ (S := keyR d) i k
    simp -implicitDefEqProofs (maxSteps := 2000000) only [go_sem, c1]
    refine call_of (specIsValidDatabase_sat d h) (by simp -implicitDefEqProofs (maxSteps := 2000000) only [go_sem, g, w0]) (by kernel_rfl) (by simp -implicitDefEqProofs (maxSteps := 2000000) only [go_sem, g, w0]) ?_
    simp -implicitDefEqProofs (maxSteps := 2000000) only [go_sem, g, w0]
    refine call_of (inB_sat i 0 ((d.facts.length : Int) - 1)) (by simp -implicitDefEqProofs (maxSteps := 2000000) only [go_sem, hin, hi, c1]) (by kernel_rfl) (by simp -implicitDefEqProofs (maxSteps := 2000000) only [go_sem, hin, hi, c1]) ?_
    simp -implicitDefEqProofs (maxSteps := 2000000) only [go_sem, hin, hi, c1]
    rcases e : sameK d.rels (d.facts.getD i default) (d.facts.getD k default)
    · have e' : keyR d i k = false := e
      refine call_of (haveSameKey_sat d.rels (d.facts.getD i default) (d.facts.getD k default) h.1.1 (db_of g).1 (fact_of g hi) (fact_of g c1)) (by simp -implicitDefEqProofs (maxSteps := 2000000) only [go_sem, e]) (by kernel_rfl) (by simp -implicitDefEqProofs (maxSteps := 2000000) only [go_sem, e]) ?_
      simp -implicitDefEqProofs (maxSteps := 2000000) only [go_sem, e]
      first | (with_reducible refine tr_and ?_ ?_; focus kernel_rfl) | (with_reducible refine tr_only ?_; kernel_rfl) | skip
      rw [wk]
      refine ⟨k + 1, c1, by omega, ?_⟩
      rw [hst, e', if_neg (by simp), List.append_nil]
      exact (le_st' _ _ [⟨960, some _, false, 1, _⟩] [] _ (by simp -implicitDefEqProofs (maxSteps := 2000000) only [go_sem] <;> and_intros <;> rfl) (by simp -implicitDefEqProofs (maxSteps := 2000000) only [go_sem] <;> and_intros <;> rfl) (by simp -implicitDefEqProofs (maxSteps := 2000000) only [go_sem] <;> and_intros <;> rfl) (by rfl))
    · have e' : keyR d i k = true := e
      refine call_of (haveSameKey_sat d.rels (d.facts.getD i default) (d.facts.getD k default) h.1.1 (db_of g).1 (fact_of g hi) (fact_of g c1)) (by simp -implicitDefEqProofs (maxSteps := 2000000) only [go_sem, e]) (by kernel_rfl) (by simp -implicitDefEqProofs (maxSteps := 2000000) only [go_sem, e]) ?_
      simp -implicitDefEqProofs (maxSteps := 2000000) only [go_sem, e]
      refine ⟨by omega, ?_⟩
      rw [wk]
      refine ⟨k + 1, c1, by omega, ?_⟩
      rw [hst, e', if_pos rfl, castL_append, show castL [k] = [(k : Int)] from rfl]
      exact (le_st' _ _ [⟨960, some _, false, 1, _⟩] [] _ (by simp -implicitDefEqProofs (maxSteps := 2000000) only [go_sem] <;> and_intros <;> rfl) (by simp -implicitDefEqProofs (maxSteps := 2000000) only [go_sem] <;> and_intros <;> rfl) (by simp -implicitDefEqProofs (maxSteps := 2000000) only [go_sem] <;> and_intros <;> rfl) (by rfl))
  · obtain rfl : k = d.facts.length := by omega
    simp -implicitDefEqProofs (maxSteps := 2000000) only [go_sem, c1]
    first | done | rfl | exact ⟨rfl, rfl⟩ | exact ⟨rfl, rfl, rfl⟩ | (refine tr_and ?_ ?_ <;> first | rfl | exact ⟨rfl, rfl⟩ | kernel_rfl)
def blkS (d : Db) (k : Nat) : List (List Int) := (fsts (keyR d) k).map fun i => castL (clsOf (keyR d) i d.facts.length)
theorem blkS_all (d : Db) : blkS d d.facts.length = blocksOf d := by
  unfold blkS blocksOf blk blkN
  rw [List.map_map]; rfl
theorem blkS_len (d : Db) (k : Nat) : (blkS d k).length ≤ k := by
  unfold blkS fsts
  rw [List.length_map]
  have := List.length_filter_le (isFst (keyR d)) (List.range k)
  simpa using this
def blocksD (d : Db) : List (List Int) := if goodDb d then blocksOf d else []
theorem rst_blk (a : List (List Int)) : rst (iss 999 a) = iss 1 a := iss_rst 998 a
theorem specBlocks_sat (d : Db) (h : d.fit) : Sat Tryz.prog 84 [lDb d] [oISS (blocksD d)] [g2] := by
  refine sat_of_body mixed Tryz.func84 rfl (by kernel_rfl) (by kernel_rfl) (rs := [.tmp 2]) rfl rfl rfl ?_
  unfold blocksD
  rcases g : goodDb d
  · rw [if_neg (by simp)]
    simp -implicitDefEqProofs (maxSteps := 2000000) only [go_sem]
    refine awp_loop Nat (fun k => mkSt [(1, .one (.vad 1000 0)), (3, .one (.ref 960 1 0 0)), (4, .sc (.int .i64 k))] [(1000, sDb d)] [(960, (1, iss 999 []))] 2000)
      (fun k => k = 0) (fun k => 0) 0 rfl (le_st' _ _ [⟨960, some _, false, 1, _⟩] [] _ (by simp -implicitDefEqProofs (maxSteps := 2000000) only [go_sem, iss_nil] <;> and_intros <;> rfl) (by simp -implicitDefEqProofs (maxSteps := 2000000) only [go_sem, iss_nil] <;> and_intros <;> rfl) (by simp -implicitDefEqProofs (maxSteps := 2000000) only [go_sem, iss_nil] <;> and_intros <;> rfl) (by rfl)) ?_
    rintro k rfl
    by_cases c1 : 0 < d.facts.length
    · have c0 : (0 : Int) < d.facts.length := by omega
      simp -implicitDefEqProofs (maxSteps := 2000000) only [go_sem, c0]
      refine call_of (specIsValidDatabase_sat d h) (by simp -implicitDefEqProofs (maxSteps := 2000000) only [go_sem, g, c0]) (by kernel_rfl) (by simp -implicitDefEqProofs (maxSteps := 2000000) only [go_sem, g, c0]) ?_
      simp -implicitDefEqProofs (maxSteps := 2000000) only [go_sem, g, c0]
      first | done | rfl | exact ⟨rfl, rfl⟩ | exact ⟨rfl, rfl, rfl⟩ | (refine tr_and ?_ ?_ <;> first | rfl | exact ⟨rfl, rfl⟩ | kernel_rfl)
    · have c0 : ¬ (0 : Int) < d.facts.length := by omega
      simp -implicitDefEqProofs (maxSteps := 2000000) only [go_sem, c0]
      first | done | rfl | exact ⟨rfl, rfl⟩ | exact ⟨rfl, rfl, rfl⟩ | (refine tr_and ?_ ?_ <;> first | rfl | exact ⟨rfl, rfl⟩ | kernel_rfl)
  rw [if_pos rfl]
  have hn := goodDb_len g
  have E := keyR_eqv g
  rw [← blkS_all]
  have b0 : blkS d 0 = [] := rfl
  simp -implicitDefEqProofs (maxSteps := 2000000) only [go_sem]
  refine awp_loop Nat (fun k => mkSt [(1, .one (.vad 1000 0)), (3, .one (.ref 960 1 0 (blkS d k).length)), (4, .sc (.int .i64 k))] [(1000, sDb d)] [(960, (1, iss 999 (blkS d k)))] 4000)
    (fun k => k ≤ d.facts.length) (fun k => d.facts.length - k) 0 (by omega) (le_st' _ _ [⟨960, some _, false, 1, _⟩] [] _ (by simp -implicitDefEqProofs (maxSteps := 2000000) only [go_sem, iss_nil, b0, List.length_nil] <;> and_intros <;> rfl) (by simp -implicitDefEqProofs (maxSteps := 2000000) only [go_sem, iss_nil, b0, List.length_nil] <;> and_intros <;> rfl) (by simp -implicitDefEqProofs (maxSteps := 2000000) only [go_sem, iss_nil, b0, List.length_nil] <;> and_intros <;> rfl) (by rfl)) ?_
  rintro k h1
  have hb := blkS_len d k
  by_cases c1 : k < d.facts.length
  · have wk : IntKind.i64.wrap ((k : Int) + 1) = ((k + 1 : Nat) : Int) := i64_succ (by omega)
    have hst : blkS d (k + 1) = blkS d k ++ if isFst (keyR d) k then [castL (clsOf (keyR d) k d.facts.length)] else [] := by
      unfold blkS
      rw [fsts_succ, List.map_append]
      congr 1
      split <;> rfl
    rcases e : isFst (keyR d) k
    · obtain ⟨j, t, h2, h3⟩ := clsOf_not E c1 e
      have f : ((j : Int) == (k : Int)) = false := by rw [beq_eq_false_iff_ne]; omega
      have hz : 0 < (castL t).length + 1 := by omega
      have ct : castL (clsOf (keyR d) k d.facts.length) = (j : Int) :: castL t := by rw [h2]; rfl
      simp -implicitDefEqProofs (maxSteps := 2000000) only [go_sem, c1]
      refine call_of (specIsValidDatabase_sat d h) (by simp -implicitDefEqProofs (maxSteps := 2000000) only [go_sem, g]) (by kernel_rfl) (by simp -implicitDefEqProofs (maxSteps := 2000000) only [go_sem, g]) ?_
      simp -implicitDefEqProofs (maxSteps := 2000000) only [go_sem, g]
      refine call_of (blockOf_sat d h g c1) (by simp -implicitDefEqProofs (maxSteps := 2000000) only [go_sem, ct, f, hz]) (callOk_still (by kernel_rfl) (by simp only [List.all_cons, List.all_nil, LV.still, LV.leaves, Leaf.still, ints_still, ris_still, eds_still, rels_still, iss_still, ems_still, Bool.and_self, Bool.and_true])) (by simp -implicitDefEqProofs (maxSteps := 2000000) only [go_sem, ct, f, hz]) ?_
      simp -implicitDefEqProofs (maxSteps := 2000000) only [go_sem, ct, f, hz]
      rw [wk]
      refine ⟨k + 1, c1, by omega, ?_⟩
      rw [hst, e, if_neg (by simp), List.append_nil]
      exact (le_st' _ _ [⟨960, some _, false, 1, _⟩] [] _ (by simp -implicitDefEqProofs (maxSteps := 2000000) only [go_sem] <;> and_intros <;> rfl) (by simp -implicitDefEqProofs (maxSteps := 2000000) only [go_sem] <;> and_intros <;> rfl) (by simp -implicitDefEqProofs (maxSteps := 2000000) only [go_sem] <;> and_intros <;> rfl) (by rfl))
    · obtain ⟨t, h2⟩ := clsOf_fst E (Nat.le_refl _) c1 e
      have hz : 0 < (castL t).length + 1 := by omega
      have ct : castL (clsOf (keyR d) k d.facts.length) = (k : Int) :: castL t := by rw [h2]; rfl
      have f : ((k : Int) == (k : Int)) = true := by simp
      simp -implicitDefEqProofs (maxSteps := 2000000) only [go_sem, c1]
      refine call_of (specIsValidDatabase_sat d h) (by simp -implicitDefEqProofs (maxSteps := 2000000) only [go_sem, g]) (by kernel_rfl) (by simp -implicitDefEqProofs (maxSteps := 2000000) only [go_sem, g]) ?_
      simp -implicitDefEqProofs (maxSteps := 2000000) only [go_sem, g]
      refine call_of (blockOf_sat d h g c1) (by simp -implicitDefEqProofs (maxSteps := 2000000) only [go_sem, ct, f, hz]) (callOk_still (by kernel_rfl) (by simp only [List.all_cons, List.all_nil, LV.still, LV.leaves, Leaf.still, ints_still, ris_still, eds_still, rels_still, iss_still, ems_still, Bool.and_self, Bool.and_true])) (by simp -implicitDefEqProofs (maxSteps := 2000000) only [go_sem, ct, f, hz]) ?_
      simp -implicitDefEqProofs (maxSteps := 2000000) only [go_sem, ct, f, hz]
      rw [if_neg (by simp [flatB, Cell.flatB])]
      refine ⟨by omega, ?_⟩
      rw [wk]
      refine ⟨k + 1, c1, by omega, ?_⟩
      rw [hst, e, if_pos rfl, ct]
      exact (le_st' _ _ [⟨960, some _, false, 1, _⟩] [] _ (by simp -implicitDefEqProofs (maxSteps := 2000000) only [go_sem, repS, List.set_cons_zero, iss_one] <;> and_intros <;> rfl) (by simp -implicitDefEqProofs (maxSteps := 2000000) only [go_sem, repS, List.set_cons_zero, iss_one] <;> and_intros <;> rfl) (by simp -implicitDefEqProofs (maxSteps := 2000000) only [go_sem, repS, List.set_cons_zero, iss_one] <;> and_intros <;> rfl) (by rfl))
  · obtain rfl : k = d.facts.length := by omega
    simp -implicitDefEqProofs (maxSteps := 2000000) only [go_sem, c1]
    first | done | rfl | exact ⟨rfl, rfl⟩ | exact ⟨rfl, rfl, rfl⟩ | (refine tr_and ?_ ?_ <;> first | rfl | exact ⟨rfl, rfl⟩ | kernel_rfl)
/-! #### their sizes, how many repairs there are -/
def sizes (l : List (List Int)) : List Int := l.map fun b => (b.length : Int)
theorem sizes_length (l : List (List Int)) : (sizes l).length = l.length := by simp [sizes]
theorem sizes_get {l : List (List Int)} {i : Nat} (h : i < l.length) : (sizes l).getD i 0 = ((l.getD i []).length : Int) := by
  simp [sizes, List.getD_eq_getElem?_getD, h]
theorem sizes_take {l : List (List Int)} {i : Nat} (h : i < l.length) : sizes (l.take (i + 1)) = sizes (l.take i) ++ [((l.getD i []).length : Int)] := by
  rw [take_snoc [] h]; simp [sizes]
theorem blocksD_len (d : Db) : (blocksD d).length ≤ 14 ∧ ∀ b ∈ blocksD d, 0 < b.length ∧ b.length ≤ 14 := by
  unfold blocksD
  split
  · rename_i g; exact blocksOf_len g
  · exact ⟨by simp, fun b hb => by cases hb⟩
theorem blockSizes_sat (d : Db) (h : d.fit) : Sat Tryz.prog 83 [lDb d] [oInts (sizes (blocksD d))] [g2] := by
  refine sat_of_body mixed Tryz.func83 rfl (by kernel_rfl) (by kernel_rfl) (rs := [.tmp 2]) rfl rfl rfl ?_
  have hb := (blocksD_len d).1
  simp -implicitDefEqProofs (maxSteps := 2000000) only [go_sem]
  refine call_of (specBlocks_sat d h) (by simp -implicitDefEqProofs (maxSteps := 2000000) only [go_sem]) (callOk_still (by kernel_rfl) (by simp only [List.all_cons, List.all_nil, LV.still, LV.leaves, Leaf.still, ints_still, ris_still, eds_still, rels_still, iss_still, ems_still, Bool.and_self, Bool.and_true])) (by simp -implicitDefEqProofs (maxSteps := 2000000) only [go_sem]) ?_
  simp -implicitDefEqProofs (maxSteps := 2000000) only [go_sem]
  refine awp_loop Nat (fun k => mkSt [(3, .one (.ref 960 1 0 (sizes ((blocksD d).take k)).length)), (4, .one (.ref 961 1 0 (blocksD d).length)), (5, .sc (.int .i64 k))] [] [(960, (1, ints (sizes ((blocksD d).take k)))), (961, (1, iss 999 (blocksD d)))] 4000)
    (fun k => k ≤ (blocksD d).length) (fun k => (blocksD d).length - k) 0 (by omega) (le_st' _ _ [⟨960, some _, false, 1, _⟩, ⟨961, some _, false, 1, _⟩] [] _ (by simp -implicitDefEqProofs (maxSteps := 2000000) only [go_sem] <;> and_intros <;> rfl) (by simp -implicitDefEqProofs (maxSteps := 2000000) only [go_sem] <;> and_intros <;> rfl) (by simp -implicitDefEqProofs (maxSteps := 2000000) only [go_sem] <;> and_intros <;> rfl) (by rfl)) ?_
  rintro k h1
  by_cases c1 : k < (blocksD d).length
  · have wk : IntKind.i64.wrap ((k : Int) + 1) = ((k + 1 : Nat) : Int) := i64_succ (by omega)
    have hsl : (sizes ((blocksD d).take k)).length = k := by rw [sizes_length, List.length_take]; omega
    simp -implicitDefEqProofs (maxSteps := 2000000) only [go_sem, c1, hsl]
    refine ⟨by omega, ?_⟩
    rw [wk]
    refine ⟨k + 1, c1, by omega, ?_⟩
    rw [sizes_take c1]
    exact (le_st' _ _ [⟨960, some _, false, 1, _⟩, ⟨961, some _, false, 1, _⟩] [] _ (by simp -implicitDefEqProofs (maxSteps := 2000000) only [go_sem, hsl] <;> and_intros <;> rfl) (by simp -implicitDefEqProofs (maxSteps := 2000000) only [go_sem, hsl] <;> and_intros <;> rfl) (by simp -implicitDefEqProofs (maxSteps := 2000000) only [go_sem, hsl] <;> and_intros <;> rfl) (by rfl))
  · obtain rfl : k = (blocksD d).length := by omega
    rw [List.take_length]
    simp -implicitDefEqProofs (maxSteps := 2000000) only [go_sem, c1]
    first | done | rfl | exact ⟨rfl, rfl⟩ | exact ⟨rfl, rfl, rfl⟩ | (refine tr_and ?_ ?_ <;> first | rfl | exact ⟨rfl, rfl⟩ | kernel_rfl)
theorem prodL_take {l : List (List Int)} {i : Nat} (h : i < l.length) : prodL (l.take (i + 1)) = prodL (l.take i) * (l.getD i []).length := by
  rw [take_snoc [] h, prodL_append]; simp [prodL]
theorem prodL_part {l : List (List Int)} (hl : ∀ b ∈ l, 0 < b.length) (i : Nat) : prodL (l.take i) ≤ prodL l := by
  have h1 := prodL_append (l.take i) (l.drop i)
  rw [List.take_append_drop] at h1
  have h2 : 0 < prodL (l.drop i) := prodL_pos fun b hb => hl b (List.mem_of_mem_drop hb)
  rw [h1]
  exact Nat.le_mul_of_pos_right _ h2
def cntR (d : Db) : Nat := if goodDb d then prodL (blocksOf d) else 0
theorem cntR_le (d : Db) : cntR d ≤ 16384 := by
  unfold cntR
  split
  · rename_i g; exact (blocksOf_prod g).2
  · omega
theorem specCountRepairs_sat (d : Db) (h : d.fit) : Sat Tryz.prog 63 [lDb d] [lInt (cntR d)] [g2] := by
  refine sat_of_body mixed Tryz.func63 rfl (by kernel_rfl) (by kernel_rfl) (rs := [.tmp 2]) rfl rfl rfl ?_
  unfold cntR
  simp -implicitDefEqProofs (maxSteps := 2000000) only [go_sem]
  rcases g : goodDb d
  · rw [if_neg (by simp)]
    refine call_of (specIsValidDatabase_sat d h) (by simp -implicitDefEqProofs (maxSteps := 2000000) only [go_sem, g]) (by kernel_rfl) (by simp -implicitDefEqProofs (maxSteps := 2000000) only [go_sem, g]) ?_
    simp -implicitDefEqProofs (maxSteps := 2000000) only [go_sem, g]
    first | done | rfl | exact ⟨rfl, rfl⟩ | exact ⟨rfl, rfl, rfl⟩ | (refine tr_and ?_ ?_ <;> first | rfl | exact ⟨rfl, rfl⟩ | kernel_rfl)
  rw [if_pos rfl]
  have hb := (blocksD_len d).1
  have hB : blocksD d = blocksOf d := by rw [blocksD, g]; rfl
  rw [hB] at hb
  have hp := blocksOf_prod g
  have hn := (blocksOf_len g).2
  have hs := sizes_length (blocksOf d)
  refine call_of (specIsValidDatabase_sat d h) (by simp -implicitDefEqProofs (maxSteps := 2000000) only [go_sem, g]) (by kernel_rfl) (by simp -implicitDefEqProofs (maxSteps := 2000000) only [go_sem, g]) ?_
  simp -implicitDefEqProofs (maxSteps := 2000000) only [go_sem, g]
  refine call_of (blockSizes_sat d h) (by simp -implicitDefEqProofs (maxSteps := 2000000) only [go_sem, hB]) (callOk_still (by kernel_rfl) (by simp only [List.all_cons, List.all_nil, LV.still, LV.leaves, Leaf.still, ints_still, ris_still, eds_still, rels_still, iss_still, ems_still, Bool.and_self, Bool.and_true])) (by simp -implicitDefEqProofs (maxSteps := 2000000) only [go_sem, hB]) ?_
  simp -implicitDefEqProofs (maxSteps := 2000000) only [go_sem, hB]
  refine awp_loop Nat (fun k => mkSt [(3, .sc (.int .i64 (prodL ((blocksOf d).take k) : Nat))), (4, .one (.ref 961 1 0 (sizes (blocksOf d)).length)), (5, .sc (.int .i64 k))] [] [(961, (1, ints (sizes (blocksOf d))))] 4000)
    (fun k => k ≤ (blocksOf d).length) (fun k => (blocksOf d).length - k) 0 (by omega) (le_st' _ _ [⟨961, some _, false, 1, _⟩] [] _ (by simp -implicitDefEqProofs (maxSteps := 2000000) only [go_sem, List.take_zero, prodL] <;> and_intros <;> rfl) (by simp -implicitDefEqProofs (maxSteps := 2000000) only [go_sem, List.take_zero, prodL] <;> and_intros <;> rfl) (by simp -implicitDefEqProofs (maxSteps := 2000000) only [go_sem, List.take_zero, prodL] <;> and_intros <;> rfl) (by rfl)) ?_
  rintro k h1
  by_cases c1 : k < (blocksOf d).length
  · have wk : IntKind.i64.wrap ((k : Int) + 1) = ((k + 1 : Nat) : Int) := i64_succ (by omega)
    have hpt := prodL_take c1
    have hpp := prodL_part (fun b hb => (hn b hb).1) (k + 1)
    have wm : IntKind.i64.wrap (((prodL ((blocksOf d).take k) : Nat) : Int) * (((blocksOf d).getD k []).length : Int)) = ((prodL ((blocksOf d).take (k + 1)) : Nat) : Int) := by
      rw [hpt] at hpp ⊢
      rw [← Int.natCast_mul, IntWalk.i64_in _ (by omega)]
    have c2 : k < (sizes (blocksOf d)).length := by omega
    simp -implicitDefEqProofs (maxSteps := 2000000) only [go_sem, c1, c2, sizes_get c1]
    rw [wk, wm]
    exact ⟨k + 1, c1, by omega, (le_st' _ _ [⟨961, some _, false, 1, _⟩] [] _ (by simp -implicitDefEqProofs (maxSteps := 2000000) only [go_sem] <;> and_intros <;> rfl) (by simp -implicitDefEqProofs (maxSteps := 2000000) only [go_sem] <;> and_intros <;> rfl) (by simp -implicitDefEqProofs (maxSteps := 2000000) only [go_sem] <;> and_intros <;> rfl) (by rfl))⟩
  · obtain rfl : k = (blocksOf d).length := by omega
    rw [List.take_length]
    have c2 : ¬ (blocksOf d).length < (sizes (blocksOf d)).length := by omega
    simp -implicitDefEqProofs (maxSteps := 2000000) only [go_sem, c2]
    first | done | rfl | exact ⟨rfl, rfl⟩ | exact ⟨rfl, rfl, rfl⟩ | (refine tr_and ?_ ?_ <;> first | rfl | exact ⟨rfl, rfl⟩ | kernel_rfl)
end Go.Proofs.YtbalifgacjmbpacGreat.A


/- REPAIRS BY THEIR RANK; PARTIAL REPAIRS: the reference. Conditions: none. -/
namespace Go.Proofs.YtbalifgacjmbpacGreat.A
open Go
set_option linter.unusedSimpArgs false
set_option linter.unusedVariables false
set_option maxRecDepth 100000

def tOf : Nat → Int
  | 0 => -1
  | j + 1 => j
theorem tOf_zero : tOf 0 = -1 := rfl
theorem tOf_succ (j : Nat) : tOf (j + 1) = (j : Int) := rfl
theorem tOf_eq (j : Nat) : tOf j = (j : Int) - 1 := by cases j <;> simp [tOf]
theorem tmodN (a b : Nat) : (a : Int).tmod (b : Int) = ((a % b : Nat) : Int) := by rw [Int.tmod_eq_emod_of_nonneg (by omega)]; rfl
theorem tdivN (a b : Nat) : (a : Int).tdiv (b : Int) = ((a / b : Nat) : Int) := by rw [Int.tdiv_eq_ediv_of_nonneg (by omega)]; rfl
theorem wrapN {n : Nat} (h : n ≤ 9223372036854775807) : IntKind.i64.wrap (n : Int) = n := IntWalk.i64_in _ (by omega)
def nthOk (d : Db) (k : Int) : Bool := inB k 0 ((cntR d : Int) - 1)
def nth' (d : Db) (k : Int) : List Int := if nthOk d k then (pickR (blocksOf d) k.toNat).1 else []
theorem nthOk_good {d : Db} {k : Int} (h : nthOk d k = true) : goodDb d = true ∧ 0 ≤ k ∧ k < cntR d := by
  have h1 := inB_of h
  refine ⟨?_, by omega, by omega⟩
  rcases g : goodDb d
  · have : cntR d = 0 := by unfold cntR; rw [g]; rfl
    omega
  · rfl
theorem nth'_asc {d : Db} (g : goodDb d = true) (r : Nat) : (pickR (blocksOf d) r).1.Pairwise (· < ·) :=
  pickR_asc (blk_ne (keyR_eqv g) (Nat.le_refl _)) (blk_asc (keyR_eqv g) (Nat.le_refl _))
set_option maxHeartbeats 2000000 in
theorem specNthRepair_sat (d : Db) (k : Int) (h : d.fit) : Sat Tryz.prog 64 [lDb d, lInt k] [oInts (nth' d k), lBool (nthOk d k)] [g2, g1] := by
  refine sat_of_body mixed Tryz.func64 rfl (by kernel_rfl) (by kernel_rfl) (rs := [.tmp 4, .tmp 5]) rfl rfl rfl ?_
  have hc := cntR_le d
  have w0 : IntKind.i64.wrap ((cntR d : Int) - 1) = (cntR d : Int) - 1 := IntWalk.i64_in _ (by omega)
  simp -implicitDefEqProofs (maxSteps := 2000000) only [go_sem]
  refine call_of (specCountRepairs_sat d h) (by simp -implicitDefEqProofs (maxSteps := 2000000) only [go_sem, w0]) (by kernel_rfl) (by simp -implicitDefEqProofs (maxSteps := 2000000) only [go_sem, w0]) ?_
  simp -implicitDefEqProofs (maxSteps := 2000000) only [go_sem, w0]
  rcases e : nthOk d k
  · have e' := e
    unfold nthOk at e'
    rw [nth', e, if_neg (by simp)]
    refine call_of (inB_sat k 0 ((cntR d : Int) - 1)) (by simp -implicitDefEqProofs (maxSteps := 2000000) only [go_sem, e']) (by kernel_rfl) (by simp -implicitDefEqProofs (maxSteps := 2000000) only [go_sem, e']) ?_
    simp -implicitDefEqProofs (maxSteps := 2000000) only [go_sem, e']
    first | done | rfl | exact ⟨rfl, rfl⟩ | exact ⟨rfl, rfl, rfl⟩ | (refine tr_and ?_ ?_ <;> first | rfl | exact ⟨rfl, rfl⟩ | kernel_rfl)
  have e' := e
  unfold nthOk at e'
  obtain ⟨g, b1, b2⟩ := nthOk_good e
  rw [nth', e, if_pos rfl]
  obtain ⟨r, rfl⟩ : ∃ r : Nat, k = r := ⟨k.toNat, by omega⟩
  rw [Int.toNat_natCast]
  have hr : r ≤ 16384 := by omega
  obtain ⟨L, hL⟩ : ∃ L, L = blocksOf d := ⟨_, rfl⟩
  have hB : blocksD d = L := by rw [blocksD, g, hL]; rfl
  obtain ⟨hb, hn⟩ := blocksD_len d
  rw [hB] at hb hn
  have hasc := nth'_asc g r
  rw [← hL] at hasc ⊢
  have wl : IntKind.i64.wrap ((L.length : Int) - 1) = tOf L.length := by rw [tOf_eq, IntWalk.i64_in _ (by omega)]
  refine call_of (inB_sat r 0 ((cntR d : Int) - 1)) (by simp -implicitDefEqProofs (maxSteps := 2000000) only [go_sem, e']) (by kernel_rfl) (by simp -implicitDefEqProofs (maxSteps := 2000000) only [go_sem, e']) ?_
  simp -implicitDefEqProofs (maxSteps := 2000000) only [go_sem, e']
  refine call_of (specBlocks_sat d h) (by simp -implicitDefEqProofs (maxSteps := 2000000) only [go_sem, hB, wl]) (callOk_still (by kernel_rfl) (by simp only [List.all_cons, List.all_nil, LV.still, LV.leaves, Leaf.still, ints_still, ris_still, eds_still, rels_still, iss_still, ems_still, Bool.and_self, Bool.and_true])) (by simp -implicitDefEqProofs (maxSteps := 2000000) only [go_sem, hB, wl]) ?_
  simp -implicitDefEqProofs (maxSteps := 2000000) only [go_sem, hB, wl]
  refine awp_loop Nat (fun j => mkSt [(1, .sc (.int .i64 ((pickR (L.drop j) r).2 : Nat))), (6, .one (.ref 961 1 0 L.length)), (7, .one (.ref 960 1 0 (pickR (L.drop j) r).1.reverse.length)), (8, .sc (.int .i64 (tOf j)))] [] [(960, (1, ints (pickR (L.drop j) r).1.reverse)), (961, (1, iss 999 L))] 4000)
    (fun j => j ≤ L.length) (fun j => j) L.length (Nat.le_refl _) (le_st' _ _ [⟨960, some _, false, 1, _⟩, ⟨961, some _, false, 1, _⟩] [] _ (by simp -implicitDefEqProofs (maxSteps := 2000000) only [go_sem, List.drop_length, pickR, List.reverse_nil] <;> and_intros <;> rfl) (by simp -implicitDefEqProofs (maxSteps := 2000000) only [go_sem, List.drop_length, pickR, List.reverse_nil] <;> and_intros <;> rfl) (by simp -implicitDefEqProofs (maxSteps := 2000000) only [go_sem, List.drop_length, pickR, List.reverse_nil] <;> and_intros <;> rfl) (by rfl)) ?_
  rintro j h1
  rcases j with _ | j
  · have cz : decide ((-1 : Int) ≥ 0) = false := by decide
    simp -implicitDefEqProofs (maxSteps := 2000000) only [go_sem, tOf_zero, cz]
    refine call_of (l7Sorted_sat (pickR L r).1.reverse (by rw [List.length_reverse, pickR_len]; omega)) (by simp -implicitDefEqProofs (maxSteps := 2000000) only [go_sem]) (callOk_still (by kernel_rfl) (by simp only [List.all_cons, List.all_nil, LV.still, LV.leaves, Leaf.still, ints_still, ris_still, eds_still, rels_still, iss_still, ems_still, Bool.and_self, Bool.and_true])) (by simp -implicitDefEqProofs (maxSteps := 2000000) only [go_sem]) ?_
    simp -implicitDefEqProofs (maxSteps := 2000000) only [go_sem]
    rw [sort_rev hasc]
    exact ⟨rfl, by kernel_rfl⟩
  · have c1 : j < L.length := by omega
    have cz : decide ((j : Int) ≥ 0) = true := by rw [decide_eq_true_iff]; omega
    have hbj := hn _ (mem_getD [] c1)
    have hne : ¬ (((L.getD j []).length : Nat) : Int) = 0 := by omega
    have hlt : (pickR (L.drop (j + 1)) r).2 % (L.getD j []).length < (L.getD j []).length := Nat.mod_lt _ hbj.1
    have hpl := pickR_le (L.drop (j + 1)) r
    have hpn : (pickR (L.drop (j + 1)) r).1.length ≤ 14 := by rw [pickR_len, List.length_drop]; omega
    have hst := pickR_drop c1 r
    have wd : IntKind.i64.wrap (((pickR (L.drop (j + 1)) r).2 / (L.getD j []).length : Nat) : Int) = (((pickR (L.drop (j + 1)) r).2 / (L.getD j []).length : Nat) : Int) := wrapN (Nat.le_trans (Nat.div_le_self _ _) (by omega))
    have wj : IntKind.i64.wrap ((j : Int) - 1) = tOf j := by rw [tOf_eq, IntWalk.i64_in _ (by omega)]
    simp -implicitDefEqProofs (maxSteps := 2000000) only [go_sem, tOf_succ, cz, c1, tmodN, tdivN, hlt, hne, wd, wj]
    refine ⟨hne, by rw [List.length_reverse]; omega, tr_and (by kernel_rfl) ⟨hne, j, by omega, by omega, ?_⟩⟩
    rw [hst]
    exact (le_st' _ _ [⟨960, some _, false, 1, _⟩, ⟨961, some _, false, 1, _⟩] [] _ (by simp -implicitDefEqProofs (maxSteps := 2000000) only [go_sem, List.reverse_cons, repS, List.set_cons_zero] <;> and_intros <;> rfl) (by simp -implicitDefEqProofs (maxSteps := 2000000) only [go_sem, List.reverse_cons, repS, List.set_cons_zero] <;> and_intros <;> rfl) (by simp -implicitDefEqProofs (maxSteps := 2000000) only [go_sem, List.reverse_cons, repS, List.set_cons_zero] <;> and_intros <;> rfl) (by rfl))
/-! #### partial repairs -/
def cst (d : Db) : Bool := goodDb d && decide ((blocksOf d).length = d.facts.length)
theorem isConsistent_sat (d : Db) (h : d.fit) : Sat Tryz.prog 109 [lDb d] [lBool (cst d)] [g2] := by
  refine sat_of_body mixed Tryz.func109 rfl (by kernel_rfl) (by kernel_rfl) (rs := [.tmp 2]) rfl rfl rfl ?_
  unfold cst
  simp -implicitDefEqProofs (maxSteps := 2000000) only [go_sem]
  rcases g : goodDb d
  · refine call_of (specIsValidDatabase_sat d h) (by simp -implicitDefEqProofs (maxSteps := 2000000) only [go_sem, g]) (by kernel_rfl) (by simp -implicitDefEqProofs (maxSteps := 2000000) only [go_sem, g]) ?_
    simp -implicitDefEqProofs (maxSteps := 2000000) only [go_sem, g]
    first | (with_reducible refine tr_and ?_ ?_; focus kernel_rfl) | (with_reducible refine tr_only ?_; kernel_rfl) | skip
    first | done | rfl | exact ⟨rfl, rfl⟩ | exact ⟨rfl, rfl, rfl⟩ | (refine tr_and ?_ ?_ <;> first | rfl | exact ⟨rfl, rfl⟩ | kernel_rfl)
  · have hB : blocksD d = blocksOf d := by rw [blocksD, g]; rfl
    have e : (((blocksOf d).length : Int) == (d.facts.length : Int)) = decide ((blocksOf d).length = d.facts.length) := by
      rw [Bool.eq_iff_iff, beq_iff_eq, decide_eq_true_iff]; omega
    refine call_of (specIsValidDatabase_sat d h) (by simp -implicitDefEqProofs (maxSteps := 2000000) only [go_sem, g]) (by kernel_rfl) (by simp -implicitDefEqProofs (maxSteps := 2000000) only [go_sem, g]) ?_
    simp -implicitDefEqProofs (maxSteps := 2000000) only [go_sem, g]
    refine call_of (specBlocks_sat d h) (by simp -implicitDefEqProofs (maxSteps := 2000000) only [go_sem, hB, e]) (callOk_still (by kernel_rfl) (by simp only [List.all_cons, List.all_nil, LV.still, LV.leaves, Leaf.still, ints_still, ris_still, eds_still, rels_still, iss_still, ems_still, Bool.and_self, Bool.and_true])) (by simp -implicitDefEqProofs (maxSteps := 2000000) only [go_sem, hB, e]) ?_
    simp -implicitDefEqProofs (maxSteps := 2000000) only [go_sem, hB, e]
    first | (with_reducible refine tr_and ?_ ?_; focus kernel_rfl) | (with_reducible refine tr_only ?_; kernel_rfl) | skip
    first | done | rfl | exact ⟨rfl, rfl⟩ | exact ⟨rfl, rfl, rfl⟩ | (refine tr_and ?_ ?_ <;> first | rfl | exact ⟨rfl, rfl⟩ | kernel_rfl)
def isPR (d : Db) (l : List Int) : Bool := selOk d l && cst (selD d l)
theorem isPartialRepair_sat (d : Db) (l : List Int) (h : d.ok) (hl : l.length ≤ 1048576) (hs : (selD d l).fit) : Sat Tryz.prog 82 [lDb d, lInts l] [lBool (isPR d l)] [g2, g1] := by
  refine sat_of_body mixed Tryz.func82 rfl (by kernel_rfl) (by kernel_rfl) (rs := [.tmp 4]) rfl rfl rfl ?_
  unfold isPR
  simp -implicitDefEqProofs (maxSteps := 2000000) only [go_sem]
  rcases e : selOk d l
  · refine call_of (specSelectFacts_sat d l h hl) (by simp -implicitDefEqProofs (maxSteps := 2000000) only [go_sem, e]) (callOk_still (by kernel_rfl) (by simp only [List.all_cons, List.all_nil, LV.still, LV.leaves, Leaf.still, ints_still, ris_still, eds_still, rels_still, iss_still, ems_still, Bool.and_self, Bool.and_true])) (by simp -implicitDefEqProofs (maxSteps := 2000000) only [go_sem, e]) ?_
    simp -implicitDefEqProofs (maxSteps := 2000000) only [go_sem, e]
    first | done | rfl | exact ⟨rfl, rfl⟩ | exact ⟨rfl, rfl, rfl⟩ | (refine tr_and ?_ ?_ <;> first | rfl | exact ⟨rfl, rfl⟩ | kernel_rfl)
  · refine call_of (specSelectFacts_sat d l h hl) (by simp -implicitDefEqProofs (maxSteps := 2000000) only [go_sem, e]) (callOk_still (by kernel_rfl) (by simp only [List.all_cons, List.all_nil, LV.still, LV.leaves, Leaf.still, ints_still, ris_still, eds_still, rels_still, iss_still, ems_still, Bool.and_self, Bool.and_true])) (by simp -implicitDefEqProofs (maxSteps := 2000000) only [go_sem, e]) ?_
    simp -implicitDefEqProofs (maxSteps := 2000000) only [go_sem, e]
    refine call_of (isConsistent_sat (selD d l) hs) (by simp -implicitDefEqProofs (maxSteps := 2000000) only [go_sem]) (by kernel_rfl) (by simp -implicitDefEqProofs (maxSteps := 2000000) only [go_sem]) ?_
    simp -implicitDefEqProofs (maxSteps := 2000000) only [go_sem]
    first | done | rfl | exact ⟨rfl, rfl⟩ | exact ⟨rfl, rfl, rfl⟩ | (refine tr_and ?_ ?_ <;> first | rfl | exact ⟨rfl, rfl⟩ | kernel_rfl)
end Go.Proofs.YtbalifgacjmbpacGreat.A


/- THE LIBRARY'S Repeat at one number. Conditions: none. -/
namespace Go.Proofs.YtbalifgacjmbpacGreat.A
open Go
set_option linter.unusedSimpArgs false
set_option linter.unusedVariables false
set_option maxRecDepth 100000

abbrev lU64 (n : Int) : LV := .one (.sc (.int .u64 n))
theorem ints_allSc (a : List Int) : allSc (ints a) = true := by simp [allSc, ints_eq]
theorem ints_range (a b : List Int) (k : Nat) : setRange (ints a) k (ints b) = ints (setRange a k b) := by simp [setRange, ints_eq]
attribute [go_sem] ints_allSc
theorem mul64_sat {n : Nat} (hn : n ≤ 4) : Sat Tryz.prog 147 [lU64 1, lU64 n] [lU64 0, lU64 n] [g1, g1] := by
  obtain rfl | rfl | rfl | rfl | rfl : n = 0 ∨ n = 1 ∨ n = 2 ∨ n = 3 ∨ n = 4 := by omega
  all_goals
    refine sat_of_body mixed Tryz.func147 rfl (by kernel_rfl) (by kernel_rfl) (rs := [.tmp 4, .tmp 5]) rfl rfl rfl ?_
    simp -implicitDefEqProofs (maxSteps := 2000000) only [go_sem]
    exact ⟨by kernel_rfl, by kernel_rfl⟩
theorem mul_sat {n : Nat} (hn : n ≤ 4) : Sat Tryz.prog 138 [lU64 1, lU64 n] [lU64 0, lU64 n] [g1, g1] := by
  refine sat_of_body mixed Tryz.func138 rfl (by kernel_rfl) (by kernel_rfl) (rs := [.tmp 4, .tmp 5]) rfl rfl rfl ?_
  simp -implicitDefEqProofs (maxSteps := 2000000) only [go_sem]
  refine call_of (mul64_sat hn) (by simp -implicitDefEqProofs (maxSteps := 2000000) only [go_sem]) (by kernel_rfl) (by simp -implicitDefEqProofs (maxSteps := 2000000) only [go_sem]) ?_
  simp -implicitDefEqProofs (maxSteps := 2000000) only [go_sem]
theorem u64_of {n : Nat} (hn : n ≤ 4) : IntKind.u64.wrap (n : Int) = n := by
  obtain rfl | rfl | rfl | rfl | rfl : n = 0 ∨ n = 1 ∨ n = 2 ∨ n = 3 ∨ n = 4 := by omega
  all_goals rfl
theorem rep1 {α : Type} (a : α) : List.replicate 1 a = [a] := rfl
theorem rep_range {x : Int} {n k : Nat} (hk : k ≤ n) : setRange (List.replicate k x ++ List.replicate (n - k) 0) k ((List.take k (List.replicate k x ++ List.replicate (n - k) 0)).take (n - k)) = List.replicate (k + min k (n - k)) x ++ List.replicate (n - (k + min k (n - k))) 0 := by
  have h1 : List.take k (List.replicate k x ++ List.replicate (n - k) 0) = List.replicate k x := by
    rw [List.take_append_of_le_length (by simp), List.take_replicate, Nat.min_self]
  rw [h1, List.take_replicate, setRange, h1, List.length_replicate, Nat.min_comm (n - k) k, List.replicate_append_replicate]
  congr 1
  rw [List.drop_append, List.drop_replicate, List.drop_replicate, List.length_replicate]
  rw [show k - (k + min k (n - k)) = 0 by omega, List.replicate_zero, List.nil_append]
  congr 1; omega
theorem repeat_sat (x : Int) {n : Nat} (hn : n ≤ 4) : Sat Tryz.prog 120 [lInts [x], lInt n] [oInts (List.replicate n x)] [g1, g1] := by
  refine sat_of_body mixed Tryz.func120 rfl (by kernel_rfl) (by kernel_rfl) (rs := [.tmp 4]) rfl rfl rfl ?_
  have w0 : IntKind.u64.wrap ((1 : Nat) : Int) = 1 := rfl
  have w1 := u64_of hn
  have w2 : IntKind.i64.wrap (n : Int) = n := IntWalk.i64_in _ (by omega)
  have c0 : decide ((n : Int) < 0) = false := decide_eq_false (by omega)
  have c1 : decide ((n : Int) > 9223372036854775807) = false := decide_eq_false (by omega)
  simp -implicitDefEqProofs (maxSteps := 2000000) only [go_sem, c0, w0, w1]
  refine call_of (mul_sat hn) (by simp -implicitDefEqProofs (maxSteps := 2000000) only [go_sem, c1, w2]) (by kernel_rfl) (by simp -implicitDefEqProofs (maxSteps := 2000000) only [go_sem, c1, w2]) ?_
  simp -implicitDefEqProofs (maxSteps := 2000000) only [go_sem, c1, w2]
  refine ⟨by omega, by omega, ?_⟩
  refine awp_loop (Nat × List Int) (fun k => mkSt [(7, .one (.ref 960 1 0 n)), (8, .sc (.int .i64 k.1))] [] [(960, (1, ints k.2))] 2000)
    (fun k => (k.1 ≤ n ∧ (k.1 = 0 → n = 0)) ∧ k.2 = List.replicate k.1 x ++ List.replicate (n - k.1) 0) (fun k => n - k.1) (min 1 n, List.replicate (min 1 n) x ++ List.replicate (n - min 1 n) 0) ⟨⟨by show min 1 n ≤ n; omega, by show min 1 n = 0 → n = 0; omega⟩, rfl⟩ ?_ ?_
  · rcases n with _ | m
    · exact (le_st' _ _ [⟨960, some _, false, 1, _⟩] [] _ (by simp -implicitDefEqProofs (maxSteps := 2000000) only [go_sem, Nat.min_zero, List.replicate_zero] <;> and_intros <;> rfl) (by simp -implicitDefEqProofs (maxSteps := 2000000) only [go_sem, Nat.min_zero, List.replicate_zero] <;> and_intros <;> rfl) (by simp -implicitDefEqProofs (maxSteps := 2000000) only [go_sem, Nat.min_zero, List.replicate_zero] <;> and_intros <;> rfl) (by rfl))
    · rw [show min 1 (m + 1) = 1 by omega]
      exact (le_st' _ _ [⟨960, some _, false, 1, _⟩] [] _ (by simp -implicitDefEqProofs (maxSteps := 2000000) only [go_sem, rep1, List.length_replicate, List.drop_replicate, show min 1 (m + 1) = 1 by omega, ints_rep] <;> and_intros <;> rfl) (by simp -implicitDefEqProofs (maxSteps := 2000000) only [go_sem, rep1, List.length_replicate, List.drop_replicate, show min 1 (m + 1) = 1 by omega, ints_rep] <;> and_intros <;> rfl) (by simp -implicitDefEqProofs (maxSteps := 2000000) only [go_sem, rep1, List.length_replicate, List.drop_replicate, show min 1 (m + 1) = 1 by omega, ints_rep] <;> and_intros <;> rfl) (by rfl))
  · rintro ⟨k, L⟩ ⟨⟨h1, h2⟩, h3⟩
    simp only at h1 h2 h3
    have hl : L.length = n := by rw [h3]; simp; omega
    have hr := rep_range (x := x) h1
    rw [← h3, show List.take k L = List.replicate k x by rw [h3, List.take_append_of_le_length (by simp), List.take_replicate, Nat.min_self]] at hr
    by_cases c2 : k < n
    · have hL : L.take n = L := List.take_of_length_le (by omega)
      simp -implicitDefEqProofs (maxSteps := 2000000) only [go_sem, c2, hl, hL]
      have hk : List.take k L = List.replicate k x := by rw [h3, List.take_append_of_le_length (by simp), List.take_replicate, Nat.min_self]
      have w3 : IntKind.i64.wrap ((k : Int) + ((min k (n - k) : Nat) : Int)) = ((k + min k (n - k) : Nat) : Int) := by rw [IntWalk.i64_in _ (by omega)]; rfl
      refine ⟨h1, by omega, by omega, h1, by omega, tr_and (by kernel_rfl) ⟨(k + min k (n - k), setRange L k (List.take (n - k) (List.replicate k x))), ⟨⟨by simp only; omega, by simp only; omega⟩, hr⟩, by simp only; omega, ?_⟩⟩
      exact (le_st' _ _ [⟨960, some _, false, 1, _⟩] [] _ (by simp -implicitDefEqProofs (maxSteps := 2000000) only [go_sem, Nat.sub_zero, hk, List.length_replicate, w3, List.length_take, Nat.min_comm (n - k) k, hl] <;> and_intros <;> rfl) (by simp -implicitDefEqProofs (maxSteps := 2000000) only [go_sem, Nat.sub_zero, hk, List.length_replicate, w3, List.length_take, Nat.min_comm (n - k) k, hl] <;> and_intros <;> rfl) (by simp -implicitDefEqProofs (maxSteps := 2000000) only [go_sem, Nat.sub_zero, hk, List.length_replicate, w3, List.length_take, Nat.min_comm (n - k) k, hl] <;> and_intros <;> rfl) (by rfl))
    · obtain rfl : k = n := by omega
      have hL : L.take k = L := List.take_of_length_le (by omega)
      simp -implicitDefEqProofs (maxSteps := 2000000) only [go_sem, c2, hl, hL]
      rw [h3, Nat.sub_self, List.replicate_zero, List.append_nil]
      exact ⟨rfl, rfl⟩
theorem unknown_sat {n : Nat} (hn : n ≤ 4) : Sat Tryz.prog 100 [lInt n] [oInts (List.replicate n (-1))] [g1] := by
  refine sat_of_body mixed Tryz.func100 rfl (by kernel_rfl) (by kernel_rfl) (rs := [.tmp 2]) rfl rfl rfl ?_
  simp -implicitDefEqProofs (maxSteps := 2000000) only [go_sem]
  refine call_of (repeat_sat (-1) hn) (by simp -implicitDefEqProofs (maxSteps := 2000000) only [go_sem]) (callOk_still (by kernel_rfl) (by simp only [List.all_cons, List.all_nil, LV.still, LV.leaves, Leaf.still, ints_still, ris_still, eds_still, rels_still, iss_still, ems_still, Bool.and_self, Bool.and_true])) (by simp -implicitDefEqProofs (maxSteps := 2000000) only [go_sem]) ?_
  simp -implicitDefEqProofs (maxSteps := 2000000) only [go_sem]
  first | done | rfl | exact ⟨rfl, rfl⟩ | exact ⟨rfl, rfl, rfl⟩ | (refine tr_and ?_ ?_ <;> first | rfl | exact ⟨rfl, rfl⟩ | kernel_rfl)
theorem l12None_sat {n : Nat} (hn : n ≤ 4) : Sat Tryz.prog 107 [lInt n] [oInts (List.replicate n (-1))] [g1] := by
  refine sat_of_body mixed Tryz.func107 rfl (by kernel_rfl) (by kernel_rfl) (rs := [.tmp 2]) rfl rfl rfl ?_
  simp -implicitDefEqProofs (maxSteps := 2000000) only [go_sem]
  refine awp_loop Nat (fun k => mkSt [(0, .sc (.int .i64 n)), (3, .one (.ref 960 1 0 k))] [] [(960, (1, ints (List.replicate k (-1))))] 2000)
    (fun k => k ≤ n) (fun k => n - k) 0 (by omega) (le_st' _ _ [⟨960, some _, false, 1, _⟩] [] _ (by simp -implicitDefEqProofs (maxSteps := 2000000) only [go_sem, List.replicate_zero] <;> and_intros <;> rfl) (by simp -implicitDefEqProofs (maxSteps := 2000000) only [go_sem, List.replicate_zero] <;> and_intros <;> rfl) (by simp -implicitDefEqProofs (maxSteps := 2000000) only [go_sem, List.replicate_zero] <;> and_intros <;> rfl) (by rfl)) ?_
  rintro k h1
  by_cases c2 : k < n
  · simp -implicitDefEqProofs (maxSteps := 2000000) only [go_sem, c2, List.take_replicate, Nat.min_self, List.length_replicate]
    refine ⟨by omega, k + 1, c2, by omega, ?_⟩
    rw [show List.replicate (k + 1) (-1 : Int) = List.replicate k (-1) ++ [-1] from List.replicate_succ']
    exact (le_st' _ _ [⟨960, some _, false, 1, _⟩] [] _ (by simp -implicitDefEqProofs (maxSteps := 2000000) only [go_sem, List.length_replicate] <;> and_intros <;> rfl) (by simp -implicitDefEqProofs (maxSteps := 2000000) only [go_sem, List.length_replicate] <;> and_intros <;> rfl) (by simp -implicitDefEqProofs (maxSteps := 2000000) only [go_sem, List.length_replicate] <;> and_intros <;> rfl) (by rfl))
  · obtain rfl : k = n := by omega
    simp -implicitDefEqProofs (maxSteps := 2000000) only [go_sem, c2, List.take_replicate, Nat.min_self, List.length_replicate]
    first | done | rfl | exact ⟨rfl, rfl⟩ | exact ⟨rfl, rfl, rfl⟩ | (refine tr_and ?_ ?_ <;> first | rfl | exact ⟨rfl, rfl⟩ | kernel_rfl)
end Go.Proofs.YtbalifgacjmbpacGreat.A


/- EMBEDDINGS: one fact against one atom, the two programs. Conditions: none. -/
namespace Go.Proofs.YtbalifgacjmbpacGreat.A
open Go
set_option linter.unusedSimpArgs false
set_option linter.unusedVariables false
set_option maxRecDepth 100000

theorem isVariable_sat (t : Int) : Sat Tryz.prog 118 [lInt t] [lBool (decide (0 ≤ t))] [g1] := by
  refine sat_of_body mixed Tryz.func118 rfl (by kernel_rfl) (by kernel_rfl) (rs := [.tmp 2]) rfl rfl rfl ?_
  simp -implicitDefEqProofs (maxSteps := 2000000) only [go_sem]
  first | done | rfl | exact ⟨rfl, rfl⟩ | exact ⟨rfl, rfl, rfl⟩ | (refine tr_and ?_ ?_ <;> first | rfl | exact ⟨rfl, rfl⟩ | kernel_rfl)
theorem constantTerm_sat (t : Int) (h : -1000 ≤ t ∧ t ≤ 1000) : Sat Tryz.prog 119 [lInt t] [lInt (-1 - t)] [g1] := by
  refine sat_of_body mixed Tryz.func119 rfl (by kernel_rfl) (by kernel_rfl) (rs := [.tmp 2]) rfl rfl rfl ?_
  have w : IntKind.i64.wrap (-1 - t) = -1 - t := IntWalk.i64_in _ (by omega)
  simp -implicitDefEqProofs (maxSteps := 2000000) only [go_sem, w]
  first | done | rfl | exact ⟨rfl, rfl⟩ | exact ⟨rfl, rfl, rfl⟩ | (refine tr_and ?_ ?_ <;> first | rfl | exact ⟨rfl, rfl⟩ | kernel_rfl)
theorem set_same {x : List Int} {t : Nat} {f : Int} (h : x.getD t 0 = f) : x.set t f = x := by
  refine List.ext_getElem? fun k => ?_
  rw [List.getElem?_set]
  split
  · rename_i e
    subst e
    split
    · rename_i hk
      rw [← h, List.getD_eq_getElem?_getD, List.getElem?_eq_getElem hk]; rfl
    · rename_i hk
      rw [List.getElem?_eq_none (by omega)]
  · rfl
def uniO (o : Option (List Int)) : List Int := o.getD []
theorem unify_sat (vs ts fs : List Int) (h1 : vs.length ≤ 1048576) (h2 : ts.length ≤ fs.length) (h3 : fs.length ≤ 1048576) (ht : tsOk vs.length ts) :
    Sat Tryz.prog 99 [lInts vs, lInts ts, lInts fs] [oInts ((uniS ts fs vs ts.length).getD []), lBool (uniS ts fs vs ts.length).isSome] [g1, g1, g1] := by
  refine sat_of_body mixed Tryz.func99 rfl (by kernel_rfl) (by kernel_rfl) (rs := [.tmp 6, .tmp 7]) rfl rfl rfl ?_
  simp -implicitDefEqProofs (maxSteps := 2000000) only [go_sem]
  refine call_of (slicesClone_sat vs h1) (by simp -implicitDefEqProofs (maxSteps := 2000000) only [go_sem]) (callOk_still (by kernel_rfl) (by simp only [List.all_cons, List.all_nil, LV.still, LV.leaves, Leaf.still, ints_still, ris_still, eds_still, rels_still, iss_still, ems_still, Bool.and_self, Bool.and_true])) (by simp -implicitDefEqProofs (maxSteps := 2000000) only [go_sem]) ?_
  simp -implicitDefEqProofs (maxSteps := 2000000) only [go_sem]
  refine awp_loop (Nat × List Int) (fun x => mkSt [(2, .one (.im 1 (ints fs))), (8, .one (.ref 960 1 0 vs.length)), (13, .one (.im 1 (ints ts))), (14, .sc (.int .i64 ts.length)), (15, .sc (.int .i64 x.1))] [] [(960, (1, ints x.2))] 2000)
    (fun x => x.1 ≤ ts.length ∧ uniS ts fs vs x.1 = some x.2) (fun x => ts.length - x.1) (0, vs) ⟨by simp, rfl⟩ (le_st' _ _ [⟨960, some _, false, 1, _⟩] [] _ (by simp -implicitDefEqProofs (maxSteps := 2000000) only [go_sem] <;> and_intros <;> rfl) (by simp -implicitDefEqProofs (maxSteps := 2000000) only [go_sem] <;> and_intros <;> rfl) (by simp -implicitDefEqProofs (maxSteps := 2000000) only [go_sem] <;> and_intros <;> rfl) (by rfl)) ?_
  rintro ⟨k, x⟩ ⟨h4, h5⟩
  simp only at h4 h5
  have hx := uniS_len h5
  by_cases c1 : k < ts.length
  · have c2 : k < fs.length := by omega
    obtain ⟨b1, b2⟩ := ht k c1
    have hs := uniS_step h5
    have wk : IntKind.i64.wrap ((k : Int) + 1) = ((k + 1 : Nat) : Int) := i64_succ (by omega)
    by_cases d1 : ts.getD k 0 < 0
    · have e1 : decide (0 ≤ ts.getD k 0) = false := decide_eq_false (by omega)
      by_cases d2 : -1 - ts.getD k 0 = fs.getD k 0
      · have e2 : (-1 - ts.getD k 0 != fs.getD k 0) = false := by rw [bne, d2]; simp
        rw [stepU, if_pos d1, if_pos d2] at hs
        simp -implicitDefEqProofs (maxSteps := 2000000) only [go_sem, c1]
        refine call_of (isVariable_sat (ts.getD k 0)) (by simp -implicitDefEqProofs (maxSteps := 2000000) only [go_sem, e1]) (by kernel_rfl) (by simp -implicitDefEqProofs (maxSteps := 2000000) only [go_sem, e1]) ?_
        simp -implicitDefEqProofs (maxSteps := 2000000) only [go_sem, e1]
        refine call_of (constantTerm_sat (ts.getD k 0) (by omega)) (by simp -implicitDefEqProofs (maxSteps := 2000000) only [go_sem, c2, e2]) (by kernel_rfl) (by simp -implicitDefEqProofs (maxSteps := 2000000) only [go_sem, c2, e2]) ?_
        simp -implicitDefEqProofs (maxSteps := 2000000) only [go_sem, c2, e2]
        first | (with_reducible refine tr_and ?_ ?_; focus kernel_rfl) | (with_reducible refine tr_only ?_; kernel_rfl) | skip
        rw [wk]
        exact ⟨(k + 1, x), ⟨c1, hs⟩, by simp; omega, (le_st' _ _ [⟨960, some _, false, 1, _⟩] [] _ (by simp -implicitDefEqProofs (maxSteps := 2000000) only [go_sem, hx] <;> and_intros <;> rfl) (by simp -implicitDefEqProofs (maxSteps := 2000000) only [go_sem, hx] <;> and_intros <;> rfl) (by simp -implicitDefEqProofs (maxSteps := 2000000) only [go_sem, hx] <;> and_intros <;> rfl) (by rfl))⟩
      · have e2 : (-1 - ts.getD k 0 != fs.getD k 0) = true := by rw [bne, Bool.not_eq_true', beq_eq_false_iff_ne]; exact d2
        rw [stepU, if_pos d1, if_neg d2] at hs
        rw [uniS_stop hs c1]
        simp -implicitDefEqProofs (maxSteps := 2000000) only [go_sem, c1]
        refine call_of (isVariable_sat (ts.getD k 0)) (by simp -implicitDefEqProofs (maxSteps := 2000000) only [go_sem, e1]) (by kernel_rfl) (by simp -implicitDefEqProofs (maxSteps := 2000000) only [go_sem, e1]) ?_
        simp -implicitDefEqProofs (maxSteps := 2000000) only [go_sem, e1]
        refine call_of (constantTerm_sat (ts.getD k 0) (by omega)) (by simp -implicitDefEqProofs (maxSteps := 2000000) only [go_sem, c2, e2]) (by kernel_rfl) (by simp -implicitDefEqProofs (maxSteps := 2000000) only [go_sem, c2, e2]) ?_
        simp -implicitDefEqProofs (maxSteps := 2000000) only [go_sem, c2, e2]
        first | (with_reducible refine tr_and ?_ ?_; focus kernel_rfl) | (with_reducible refine tr_only ?_; kernel_rfl) | skip
        first | done | rfl | exact ⟨rfl, rfl⟩ | exact ⟨rfl, rfl, rfl⟩ | (refine tr_and ?_ ?_ <;> first | rfl | exact ⟨rfl, rfl⟩ | kernel_rfl)
    · have e1 : decide (0 ≤ ts.getD k 0) = true := decide_eq_true (by omega)
      obtain ⟨t, et⟩ : ∃ t : Nat, ts.getD k 0 = t := ⟨(ts.getD k 0).toNat, by omega⟩
      have c3 : t < vs.length := by omega
      rw [et] at hs d1 b2 b1
      rw [stepU, if_neg d1, Int.toNat_natCast] at hs
      rw [et] at e1
      have c4 : t < x.length := by omega
      by_cases d3 : x.getD t 0 < 0
      · rw [if_pos d3] at hs
        have e3 : decide (x.getD t 0 < 0) = true := decide_eq_true d3
        simp -implicitDefEqProofs (maxSteps := 2000000) only [go_sem, c1, et]
        refine call_of (isVariable_sat t) (by simp -implicitDefEqProofs (maxSteps := 2000000) only [go_sem, e1, c2, c3, c4, e3, hx]) (by kernel_rfl) (by simp -implicitDefEqProofs (maxSteps := 2000000) only [go_sem, e1, c2, c3, c4, e3, hx]) ?_
        simp -implicitDefEqProofs (maxSteps := 2000000) only [go_sem, e1, c2, c3, c4, e3, hx]
        rw [wk]
        exact ⟨(k + 1, x.set t (fs.getD k 0)), ⟨c1, hs⟩, by simp; omega, (le_st' _ _ [⟨960, some _, false, 1, _⟩] [] _ (by simp -implicitDefEqProofs (maxSteps := 2000000) only [go_sem, hx] <;> and_intros <;> rfl) (by simp -implicitDefEqProofs (maxSteps := 2000000) only [go_sem, hx] <;> and_intros <;> rfl) (by simp -implicitDefEqProofs (maxSteps := 2000000) only [go_sem, hx] <;> and_intros <;> rfl) (by rfl))⟩
      · rw [if_neg d3] at hs
        have e3 : decide (x.getD t 0 < 0) = false := decide_eq_false d3
        by_cases d4 : x.getD t 0 = fs.getD k 0
        · rw [if_pos d4] at hs
          have e4 : (x.getD t 0 != fs.getD k 0) = false := by rw [bne, d4]; simp
          simp -implicitDefEqProofs (maxSteps := 2000000) only [go_sem, c1, et]
          refine call_of (isVariable_sat t) (by simp -implicitDefEqProofs (maxSteps := 2000000) only [go_sem, e1, c2, c3, c4, e3, e4, hx]) (by kernel_rfl) (by simp -implicitDefEqProofs (maxSteps := 2000000) only [go_sem, e1, c2, c3, c4, e3, e4, hx]) ?_
          simp -implicitDefEqProofs (maxSteps := 2000000) only [go_sem, e1, c2, c3, c4, e3, e4, hx]
          first | (with_reducible refine tr_and ?_ ?_; focus kernel_rfl) | (with_reducible refine tr_only ?_; kernel_rfl) | skip
          rw [wk]
          exact ⟨(k + 1, x), ⟨c1, hs⟩, by simp; omega, (le_st' _ _ [⟨960, some _, false, 1, _⟩] [] _ (by simp -implicitDefEqProofs (maxSteps := 2000000) only [go_sem, hx] <;> and_intros <;> rfl) (by simp -implicitDefEqProofs (maxSteps := 2000000) only [go_sem, hx] <;> and_intros <;> rfl) (by simp -implicitDefEqProofs (maxSteps := 2000000) only [go_sem, hx] <;> and_intros <;> rfl) (by rfl))⟩
        · rw [if_neg d4] at hs
          have e4 : (x.getD t 0 != fs.getD k 0) = true := by rw [bne, Bool.not_eq_true', beq_eq_false_iff_ne]; exact d4
          rw [uniS_stop hs c1]
          simp -implicitDefEqProofs (maxSteps := 2000000) only [go_sem, c1, et]
          refine call_of (isVariable_sat t) (by simp -implicitDefEqProofs (maxSteps := 2000000) only [go_sem, e1, c2, c3, c4, e3, e4, hx]) (by kernel_rfl) (by simp -implicitDefEqProofs (maxSteps := 2000000) only [go_sem, e1, c2, c3, c4, e3, e4, hx]) ?_
          simp -implicitDefEqProofs (maxSteps := 2000000) only [go_sem, e1, c2, c3, c4, e3, e4, hx]
          first | (with_reducible refine tr_and ?_ ?_; focus kernel_rfl) | (with_reducible refine tr_only ?_; kernel_rfl) | skip
          first | done | rfl | exact ⟨rfl, rfl⟩ | exact ⟨rfl, rfl, rfl⟩ | (refine tr_and ?_ ?_ <;> first | rfl | exact ⟨rfl, rfl⟩ | kernel_rfl)
  · obtain rfl : k = ts.length := by omega
    rw [h5]
    simp -implicitDefEqProofs (maxSteps := 2000000) only [go_sem, c1]
    exact ⟨hx.symm, by kernel_rfl⟩
theorem l12Meet_sat (a f : RI) (vs : List Int) (h1 : vs.length ≤ 1048576) (h2 : f.l.length ≤ 1048576) (hl : f.r = a.r → f.l.length = a.l.length) (ht : tsOk vs.length a.l) :
    Sat Tryz.prog 132 [lRI a, lRI f, lInts vs] [oInts (meetV a f vs), lBool (meet a f vs).isSome] [g2, g2, g1] := by
  refine sat_of_body mixed Tryz.func132 rfl (by kernel_rfl) (by kernel_rfl) (rs := [.tmp 6, .tmp 7]) rfl rfl rfl ?_
  rcases a with ⟨ar, ts⟩
  rcases f with ⟨fr, fs⟩
  simp only at h2 hl ht
  unfold meetV meet
  simp only
  simp -implicitDefEqProofs (maxSteps := 2000000) only [go_sem]
  refine ⟨by omega, ?_⟩
  by_cases d0 : fr = ar
  case neg =>
    rw [if_neg d0, if_neg d0]
    have e0 : (fr != ar) = true := by rw [bne, Bool.not_eq_true', beq_eq_false_iff_ne]; exact d0
    simp -implicitDefEqProofs (maxSteps := 2000000) only [go_sem, e0]
    first | done | rfl | exact ⟨rfl, rfl⟩ | exact ⟨rfl, rfl, rfl⟩ | (refine tr_and ?_ ?_ <;> first | rfl | exact ⟨rfl, rfl⟩ | kernel_rfl)
  subst d0
  have hl := hl rfl
  rw [if_pos rfl, if_pos rfl]
  have e0 : (fr != fr) = false := by rw [bne]; simp
  have e1 : ((fs.length : Int) != (ts.length : Int)) = false := by rw [bne, hl]; simp
  simp -implicitDefEqProofs (maxSteps := 2000000) only [go_sem, e0, e1]
  refine awp_loop (Nat × List Int) (fun x => mkSt [(3, .one (.vad 1000 0)), (4, .one (.vad 1064 0)), (8, .one (.ref 960 1 0 vs.length)), (9, .sc (.int .i64 x.1))] [(1000, sRI ⟨fr, ts⟩), (1064, sRI ⟨fr, fs⟩)] [(960, (1, ints x.2))] 4000)
    (fun x => x.1 ≤ ts.length ∧ uniS ts fs vs x.1 = some x.2) (fun x => ts.length - x.1) (0, vs) ⟨by simp, rfl⟩ (le_st' _ _ [⟨960, some _, false, 1, _⟩] [] _ (by simp -implicitDefEqProofs (maxSteps := 2000000) only [go_sem] <;> and_intros <;> rfl) (by simp -implicitDefEqProofs (maxSteps := 2000000) only [go_sem] <;> and_intros <;> rfl) (by simp -implicitDefEqProofs (maxSteps := 2000000) only [go_sem] <;> and_intros <;> rfl) (by rfl)) ?_
  rintro ⟨k, x⟩ ⟨h4, h5⟩
  simp only at h4 h5
  have hx := uniS_len h5
  have hL : List.take vs.length x = x := List.take_of_length_le (by omega)
  by_cases c1 : k < ts.length
  · have c2 : k < fs.length := by omega
    obtain ⟨b1, b2⟩ := ht k c1
    have hs := uniS_step h5
    have wk : IntKind.i64.wrap ((k : Int) + 1) = ((k + 1 : Nat) : Int) := i64_succ (by omega)
    by_cases d1 : ts.getD k 0 < 0
    · have e1 : decide (ts.getD k 0 < 0) = true := decide_eq_true d1
      have w1 : IntKind.i64.wrap (-1 - ts.getD k 0) = -1 - ts.getD k 0 := IntWalk.i64_in _ (by omega)
      by_cases d2 : -1 - ts.getD k 0 = fs.getD k 0
      · have e2 : (-1 - ts.getD k 0 != fs.getD k 0) = false := by rw [bne, d2]; simp
        rw [stepU, if_pos d1, if_pos d2] at hs
        simp -implicitDefEqProofs (maxSteps := 2000000) only [go_sem, c1, c2, e1, e2, w1]
        rw [wk]
        exact ⟨(k + 1, x), ⟨c1, hs⟩, by simp; omega, (le_st' _ _ [⟨960, some _, false, 1, _⟩] [] _ (by simp -implicitDefEqProofs (maxSteps := 2000000) only [go_sem, hx] <;> and_intros <;> rfl) (by simp -implicitDefEqProofs (maxSteps := 2000000) only [go_sem, hx] <;> and_intros <;> rfl) (by simp -implicitDefEqProofs (maxSteps := 2000000) only [go_sem, hx] <;> and_intros <;> rfl) (by rfl))⟩
      · have e2 : (-1 - ts.getD k 0 != fs.getD k 0) = true := by rw [bne, Bool.not_eq_true', beq_eq_false_iff_ne]; exact d2
        rw [stepU, if_pos d1, if_neg d2] at hs
        rw [uniS_stop hs c1, uniL_stop h5 hs c1]
        simp -implicitDefEqProofs (maxSteps := 2000000) only [go_sem, c1, c2, e1, e2, w1]
        exact ⟨⟨hx.symm, rfl⟩, by kernel_rfl⟩
    · have e1 : decide (ts.getD k 0 < 0) = false := decide_eq_false d1
      obtain ⟨t, et⟩ : ∃ t : Nat, ts.getD k 0 = t := ⟨(ts.getD k 0).toNat, by omega⟩
      have c3 : t < vs.length := by omega
      have c4 : t < x.length := by omega
      rw [et] at hs d1 b2 b1 e1
      rw [stepU, if_neg d1, Int.toNat_natCast] at hs
      by_cases d3 : x.getD t 0 < 0
      · rw [if_pos d3] at hs
        have e3 : decide (x.getD t 0 ≥ 0) = false := decide_eq_false (by omega)
        simp -implicitDefEqProofs (maxSteps := 2000000) only [go_sem, c1, et, e1, c2, c3, c4, e3, hx]
        first | (with_reducible refine tr_and ?_ ?_; focus kernel_rfl) | (with_reducible refine tr_only ?_; kernel_rfl) | skip
        rw [wk]
        exact ⟨(k + 1, x.set t (fs.getD k 0)), ⟨c1, hs⟩, by simp; omega, (le_st' _ _ [⟨960, some _, false, 1, _⟩] [] _ (by simp -implicitDefEqProofs (maxSteps := 2000000) only [go_sem, hx] <;> and_intros <;> rfl) (by simp -implicitDefEqProofs (maxSteps := 2000000) only [go_sem, hx] <;> and_intros <;> rfl) (by simp -implicitDefEqProofs (maxSteps := 2000000) only [go_sem, hx] <;> and_intros <;> rfl) (by rfl))⟩
      · rw [if_neg d3] at hs
        have e3 : decide (x.getD t 0 ≥ 0) = true := decide_eq_true (by omega)
        by_cases d4 : x.getD t 0 = fs.getD k 0
        · rw [if_pos d4] at hs
          have e4 : (x.getD t 0 != fs.getD k 0) = false := by rw [bne, d4]; simp
          simp -implicitDefEqProofs (maxSteps := 2000000) only [go_sem, c1, et, e1, c2, c3, c4, e3, e4, hx]
          first | (with_reducible refine tr_and ?_ ?_; focus kernel_rfl) | (with_reducible refine tr_only ?_; kernel_rfl) | skip
          simp -implicitDefEqProofs (maxSteps := 2000000) only [go_sem, c1, et, e1, c2, c3, c4, e3, e4, hx, set_same d4]
          rw [wk]
          exact ⟨(k + 1, x), ⟨c1, hs⟩, by simp; omega, (le_st' _ _ [⟨960, some _, false, 1, _⟩] [] _ (by simp -implicitDefEqProofs (maxSteps := 2000000) only [go_sem, hx, set_same d4] <;> and_intros <;> rfl) (by simp -implicitDefEqProofs (maxSteps := 2000000) only [go_sem, hx, set_same d4] <;> and_intros <;> rfl) (by simp -implicitDefEqProofs (maxSteps := 2000000) only [go_sem, hx, set_same d4] <;> and_intros <;> rfl) (by rfl))⟩
        · rw [if_neg d4] at hs
          have e4 : (x.getD t 0 != fs.getD k 0) = true := by rw [bne, Bool.not_eq_true', beq_eq_false_iff_ne]; exact d4
          rw [uniS_stop hs c1, uniL_stop h5 hs c1]
          simp -implicitDefEqProofs (maxSteps := 2000000) only [go_sem, c1, et, e1, c2, c3, c4, e3, e4, hx]
          first | (with_reducible refine tr_and ?_ ?_; focus kernel_rfl) | (with_reducible refine tr_only ?_; kernel_rfl) | skip
          first | exact ⟨hx.symm, by kernel_rfl⟩ | exact ⟨⟨hx.symm, rfl⟩, by kernel_rfl⟩ | exact ⟨hx.symm, rfl⟩ | rfl | exact ⟨rfl, by kernel_rfl⟩
  · obtain rfl : k = ts.length := by omega
    rw [h5, uniL_some h5]
    simp -implicitDefEqProofs (maxSteps := 2000000) only [go_sem, c1]
    exact ⟨hx.symm, by kernel_rfl⟩
end Go.Proofs.YtbalifgacjmbpacGreat.A
