/- Packed by pack.py: FQ2 FCl FDraw7 FDraw8 FCopy FBlk1 F2 FEmD FQF FEm1 FC2 FC3 FBlk2 FSel FBlk3 FBlk4 FDraw11 FDraw12 FLib FConst FTerm FJoin FByt FTerm2 FFQ -/
import Derived.Test.YtedciihjgbkjgaaAZ1Atoms
import Derived.Test.YtedciihjgbkjgaaA43
import Derived.Test.YtedciihjgbkjgaaA46
import Derived.WideShapes
import Derived.Test.YtedciihjgbkjgaaA45

/- VALID QUERIES: the two programs. Conditions: none. -/
namespace Go.Proofs.Ytedciihjgbkjgaa.A
open Go
set_option linter.unusedSimpArgs false
set_option linter.unusedVariables false
set_option maxRecDepth 100000

theorem goodQu_atom {l : List Rel} {q : Qu} {i : Nat} (hi : i < q.atoms.length) (h : atomOk l q i = false) : goodQu l q = false := by
  unfold goodQu; rw [upTo_false hi h]; simp
theorem goodQu_var {l : List Rel} {q : Qu} {v : Nat} (hv : v < q.vc.toNat) (h : occurs q q.atoms.length v = false) : goodQu l q = false := by
  unfold goodQu; rw [upTo_false (p := fun v => occurs q q.atoms.length v) hv h]; simp
theorem goodQu_free {l : List Rel} {q : Qu} {v : Nat} (hv : v < q.free.length) (h : idxAt q.free q.vc v = false) : goodQu l q = false := by
  unfold goodQu idxs; rw [upTo_false hv h]; simp
theorem dec_snoc {l : List Int} {x v : Int} (h : v ≠ x) : decide (v ∈ l ++ [x]) = decide (v ∈ l) := by
  rw [Bool.eq_iff_iff, decide_eq_true_iff, decide_eq_true_iff, List.mem_append, List.mem_singleton]
  exact ⟨fun k => k.resolve_right h, .inl⟩
theorem specIsValidQuery_sat (l : List Rel) (q : Qu) (h : l.length ≤ 9223372036854775807) (hq : q.fit) : Sat Try.prog 16 [lRels l, lQu q] [lBool (goodQu l q)] [g1, g3] := by
  refine sat_of_body mixed Try.func16 rfl (by kernel_rfl) (by kernel_rfl) (rs := [.tmp 4]) rfl rfl rfl ?_
  have w0 : IntKind.i64.wrap ((l.length : Int) - 1) = (l.length : Int) - 1 := IntWalk.i64_in _ (by omega)
  simp -implicitDefEqProofs (maxSteps := 2000000) only [go_sem]
  rcases g : goodRels l
  · rw [show goodQu l q = false by rw [goodQu, g]; rfl]
    refine call_of (specAreValidRelations_sat l h) (by simp -implicitDefEqProofs (maxSteps := 2000000) only [go_sem, g]) (by kernel_rfl) (by simp -implicitDefEqProofs (maxSteps := 2000000) only [go_sem, g]) ?_
    simp -implicitDefEqProofs (maxSteps := 2000000) only [go_sem, g]
  rcases v1 : inB q.vc 0 4
  · rw [show goodQu l q = false by rw [goodQu, v1]; simp]
    refine call_of (specAreValidRelations_sat l h) (by simp -implicitDefEqProofs (maxSteps := 2000000) only [go_sem, g]) (by kernel_rfl) (by simp -implicitDefEqProofs (maxSteps := 2000000) only [go_sem, g]) ?_
    simp -implicitDefEqProofs (maxSteps := 2000000) only [go_sem, g]
    refine call_of (inB_sat q.vc 0 4) (by simp -implicitDefEqProofs (maxSteps := 2000000) only [go_sem, v1]) (by kernel_rfl) (by simp -implicitDefEqProofs (maxSteps := 2000000) only [go_sem, v1]) ?_
    simp -implicitDefEqProofs (maxSteps := 2000000) only [go_sem, v1]
  rcases v2 : inB q.atoms.length 1 3
  · rw [show goodQu l q = false by rw [goodQu, v2]; simp]
    refine call_of (specAreValidRelations_sat l h) (by simp -implicitDefEqProofs (maxSteps := 2000000) only [go_sem, g]) (by kernel_rfl) (by simp -implicitDefEqProofs (maxSteps := 2000000) only [go_sem, g]) ?_
    simp -implicitDefEqProofs (maxSteps := 2000000) only [go_sem, g]
    refine call_of (inB_sat q.vc 0 4) (by simp -implicitDefEqProofs (maxSteps := 2000000) only [go_sem, v1]) (by kernel_rfl) (by simp -implicitDefEqProofs (maxSteps := 2000000) only [go_sem, v1]) ?_
    simp -implicitDefEqProofs (maxSteps := 2000000) only [go_sem, v1]
    refine call_of (inB_sat q.atoms.length 1 3) (by simp -implicitDefEqProofs (maxSteps := 2000000) only [go_sem, v2]) (by kernel_rfl) (by simp -implicitDefEqProofs (maxSteps := 2000000) only [go_sem, v2]) ?_
    simp -implicitDefEqProofs (maxSteps := 2000000) only [go_sem, v2]
  obtain ⟨b1, b2⟩ := inB_of v1
  obtain ⟨b3, b4⟩ := inB_of v2
  have wv : IntKind.i64.wrap (q.vc - 1) = q.vc - 1 := IntWalk.i64_in _ (by omega)
  refine call_of (specAreValidRelations_sat l h) (by simp -implicitDefEqProofs (maxSteps := 2000000) only [go_sem, g]) (by kernel_rfl) (by simp -implicitDefEqProofs (maxSteps := 2000000) only [go_sem, g]) ?_
  simp -implicitDefEqProofs (maxSteps := 2000000) only [go_sem, g]
  refine call_of (inB_sat q.vc 0 4) (by simp -implicitDefEqProofs (maxSteps := 2000000) only [go_sem, v1]) (by kernel_rfl) (by simp -implicitDefEqProofs (maxSteps := 2000000) only [go_sem, v1]) ?_
  simp -implicitDefEqProofs (maxSteps := 2000000) only [go_sem, v1]
  refine call_of (inB_sat q.atoms.length 1 3) (by simp -implicitDefEqProofs (maxSteps := 2000000) only [go_sem, v2]) (by kernel_rfl) (by simp -implicitDefEqProofs (maxSteps := 2000000) only [go_sem, v2]) ?_
  simp -implicitDefEqProofs (maxSteps := 2000000) only [go_sem, v2]
  rw [show (4 : Int) = ((4 : Nat) : Int) from rfl, msK_n]
  refine ⟨by omega, ?_⟩
  simp -implicitDefEqProofs (maxSteps := 2000000) only [go_sem]
  obtain ⟨L0, hL0⟩ : ∃ L, L = List.replicate 4 false := ⟨_, rfl⟩
  rw [← hL0]
  refine awp_loop (Nat × List Bool) (fun x => mkSt [(0, .one (.im 3 (rels l))), (3, .one (.vad 1000 0)), (5, .one (.ref 960 1 0 4)), (6, .sc (.int .i64 x.1))] [(1000, sQu q)] [(960, (1, bls x.2))] 2000)
    (fun x => x.1 ≤ q.atoms.length ∧ upTo (atomOk l q) x.1 = true ∧ x.2 = met4 fun v => occurs q x.1 v) (fun x => q.atoms.length - x.1) (0, L0) ⟨by simp, rfl, hL0.trans rfl⟩ (le_st' _ _ [⟨960, some _, false, 1, _⟩] [] _ (by simp -implicitDefEqProofs (maxSteps := 2000000) only [go_sem] <;> and_intros <;> rfl) (by simp -implicitDefEqProofs (maxSteps := 2000000) only [go_sem] <;> and_intros <;> rfl) (by simp -implicitDefEqProofs (maxSteps := 2000000) only [go_sem] <;> and_intros <;> rfl) (by rfl)) ?_
  rintro ⟨i, b⟩ ⟨h1, h2, hb⟩
  simp only at h1 h2 hb
  have hbl : b.length = 4 := by rw [hb]; rfl
  by_cases c1 : i < q.atoms.length
  · have hfa : (q.atoms.getD i default).fit := hq.1.2 _ (mem_getD default c1)
    rcases ea : q.atoms.getD i default with ⟨r, ts⟩
    rw [ea] at hfa
    have hts : ts.length ≤ 9223372036854775807 := hfa
    have wi : IntKind.i64.wrap ((i : Int) + 1) = ((i + 1 : Nat) : Int) := i64_succ (by omega)
    rcases i1 : inB r 0 ((l.length : Int) - 1)
    · rw [goodQu_atom c1 (by rw [atomOk, ea, relAt, i1]; rfl)]
      simp -implicitDefEqProofs (maxSteps := 2000000) only [go_sem, c1, ea, w0]
      refine call_of (inB_sat r 0 ((l.length : Int) - 1)) (by simp -implicitDefEqProofs (maxSteps := 2000000) only [go_sem, i1]) (by kernel_rfl) (by simp -implicitDefEqProofs (maxSteps := 2000000) only [go_sem, i1]) ?_
      simp -implicitDefEqProofs (maxSteps := 2000000) only [go_sem, i1]
    obtain ⟨r1, r2⟩ := inB_of i1
    obtain ⟨m, rfl⟩ : ∃ m : Nat, r = m := ⟨r.toNat, by omega⟩
    have c2 : m < l.length := by omega
    rcases d2 : (ts.length : Int) == (l.getD m default).ar
    · have d3 : ((ts.length : Int) != (l.getD m default).ar) = true := by rw [bne, d2]; rfl
      rw [goodQu_atom c1 (by rw [atomOk, ea, relAt, i1]; simp only [Int.toNat_natCast, d2]; rfl)]
      simp -implicitDefEqProofs (maxSteps := 2000000) only [go_sem, c1, ea, w0]
      refine call_of (inB_sat m 0 ((l.length : Int) - 1)) (by simp -implicitDefEqProofs (maxSteps := 2000000) only [go_sem, i1, d3, c2]) (by kernel_rfl) (by simp -implicitDefEqProofs (maxSteps := 2000000) only [go_sem, i1, d3, c2]) ?_
      simp -implicitDefEqProofs (maxSteps := 2000000) only [go_sem, i1, d3, c2]
    have d3 : ((ts.length : Int) != (l.getD m default).ar) = false := by rw [bne, d2]; rfl
    have hrel : relAt l ⟨m, ts⟩ = true := by rw [relAt, i1]; simp only [Int.toNat_natCast, d2]; rfl
    simp -implicitDefEqProofs (maxSteps := 2000000) only [go_sem, c1, ea, w0]
    refine call_of (inB_sat m 0 ((l.length : Int) - 1)) (by simp -implicitDefEqProofs (maxSteps := 2000000) only [go_sem, i1, d3, c2]) (by kernel_rfl) (by simp -implicitDefEqProofs (maxSteps := 2000000) only [go_sem, i1, d3, c2]) ?_
    simp -implicitDefEqProofs (maxSteps := 2000000) only [go_sem, i1, d3, c2]
    refine awp_loop Nat (fun k => mkSt [(0, .one (.im 3 (rels l))), (3, .one (.vad 1000 0)), (5, .one (.ref 960 1 0 4)), (6, .sc (.int .i64 i)), (7, .one (.vad 2640 0)), (8, .sc (.int .i64 k))] [(1000, sQu q), (2640, sRI ⟨m, ts⟩)] [(960, (1, bls b))] 4000)
      (fun k => k ≤ i ∧ upTo (newRel q i) k = true) (fun k => i - k) 0 ⟨by omega, rfl⟩ (le_st' _ _ [⟨960, some _, false, 1, _⟩] [] _ (by simp -implicitDefEqProofs (maxSteps := 2000000) only [go_sem] <;> and_intros <;> rfl) (by simp -implicitDefEqProofs (maxSteps := 2000000) only [go_sem] <;> and_intros <;> rfl) (by simp -implicitDefEqProofs (maxSteps := 2000000) only [go_sem] <;> and_intros <;> rfl) (by rfl)) ?_
    rintro k ⟨h3, h4⟩
    by_cases c3 : k < i
    · have c4 : k < q.atoms.length := by omega
      rcases d4 : (q.atoms.getD k default).r == (m : Int)
      · simp -implicitDefEqProofs (maxSteps := 2000000) only [go_sem, c3, c4, d4]
        rw [i64_succ (by omega)]
        exact ⟨k + 1, ⟨c3, upTo_step h4 (by rw [newRel, ea, d4]; rfl)⟩, by omega, (le_st' _ _ [⟨960, some _, false, 1, _⟩] [] _ (by simp -implicitDefEqProofs (maxSteps := 2000000) only [go_sem] <;> and_intros <;> rfl) (by simp -implicitDefEqProofs (maxSteps := 2000000) only [go_sem] <;> and_intros <;> rfl) (by simp -implicitDefEqProofs (maxSteps := 2000000) only [go_sem] <;> and_intros <;> rfl) (by rfl))⟩
      · rw [goodQu_atom c1 (by rw [atomOk, upTo_false c3 (by rw [newRel, ea, d4]; rfl)]; simp)]
        simp -implicitDefEqProofs (maxSteps := 2000000) only [go_sem, c3, c4, d4]
    obtain rfl : k = i := by omega
    simp -implicitDefEqProofs (maxSteps := 2000000) only [go_sem, c3]
    refine awp_loop (Nat × List Bool) (fun x => mkSt [(0, .one (.im 3 (rels l))), (3, .one (.vad 1000 0)), (5, .one (.ref 960 1 0 4)), (6, .sc (.int .i64 k)), (7, .one (.vad 2640 0)), (9, .sc (.int .i64 x.1))] [(1000, sQu q), (2640, sRI ⟨m, ts⟩)] [(960, (1, bls x.2))] 6000)
      (fun x => x.1 ≤ ts.length ∧ upTo (termOk q.vc ts) x.1 = true ∧ x.2 = met4 fun v => occurs q k v || decide ((v : Int) ∈ ts.take x.1)) (fun x => ts.length - x.1) (0, b) ⟨by simp, rfl, hb.trans (met4_eq (p' := fun v => occurs q k v || decide ((v : Int) ∈ ts.take 0)) fun v => by simp)⟩ (le_st' _ _ [⟨960, some _, false, 1, _⟩] [] _ (by simp -implicitDefEqProofs (maxSteps := 2000000) only [go_sem] <;> and_intros <;> rfl) (by simp -implicitDefEqProofs (maxSteps := 2000000) only [go_sem] <;> and_intros <;> rfl) (by simp -implicitDefEqProofs (maxSteps := 2000000) only [go_sem] <;> and_intros <;> rfl) (by rfl)) ?_
    rintro ⟨j, bb⟩ ⟨h5, h6, hbb⟩
    simp only at h5 h6 hbb
    have hbbl : bb.length = 4 := by rw [hbb]; rfl
    by_cases c5 : j < ts.length
    · rcases d5 : inB (ts.getD j 0) (-10) (q.vc - 1)
      · rw [goodQu_atom c1 (by rw [atomOk, ea, upTo_false c5 (by rw [termOk, d5])]; simp)]
        simp -implicitDefEqProofs (maxSteps := 2000000) only [go_sem, c5, wv]
        refine call_of (inB_sat (ts.getD j 0) (-10) (q.vc - 1)) (by simp -implicitDefEqProofs (maxSteps := 2000000) only [go_sem, d5]) (by kernel_rfl) (by simp -implicitDefEqProofs (maxSteps := 2000000) only [go_sem, d5]) ?_
        simp -implicitDefEqProofs (maxSteps := 2000000) only [go_sem, d5]
      obtain ⟨t1, t2⟩ := inB_of d5
      have hts1 : ts.take (j + 1) = ts.take j ++ [ts.getD j 0] := take_snoc 0 c5
      have h6' := upTo_step h6 (show termOk q.vc ts j = true by rw [termOk, d5])
      simp -implicitDefEqProofs (maxSteps := 2000000) only [go_sem, c5, wv]
      refine call_of (inB_sat (ts.getD j 0) (-10) (q.vc - 1)) (by simp -implicitDefEqProofs (maxSteps := 2000000) only [go_sem, d5, c5]) (by kernel_rfl) (by simp -implicitDefEqProofs (maxSteps := 2000000) only [go_sem, d5, c5]) ?_
      simp -implicitDefEqProofs (maxSteps := 2000000) only [go_sem, d5, c5]
      by_cases c6 : 0 ≤ ts.getD j 0
      · obtain ⟨t, ht⟩ : ∃ t : Nat, ts.getD j 0 = t := ⟨(ts.getD j 0).toNat, by omega⟩
        have c7 : t < 4 := by omega
        have c8 : 0 ≤ (t : Int) := by omega
        simp -implicitDefEqProofs (maxSteps := 2000000) only [go_sem, ht, c5, c7, c8, hbbl]
        rw [i64_succ (by omega)]
        refine ⟨(j + 1, bb.set t true), ⟨c5, h6', ?_⟩, by simp; omega, (le_st' _ _ [⟨960, some _, false, 1, _⟩] [] _ (by simp -implicitDefEqProofs (maxSteps := 2000000) only [go_sem, hbbl, c7] <;> and_intros <;> rfl) (by simp -implicitDefEqProofs (maxSteps := 2000000) only [go_sem, hbbl, c7] <;> and_intros <;> rfl) (by simp -implicitDefEqProofs (maxSteps := 2000000) only [go_sem, hbbl, c7] <;> and_intros <;> rfl) (by rfl))⟩
        rw [hbb]
        exact met4_set c7 (by rw [hts1, ht]; simp) (fun v hv => by rw [hts1, ht, dec_snoc (fun e => hv (by omega))])
      · simp -implicitDefEqProofs (maxSteps := 2000000) only [go_sem, c6]
        rw [i64_succ (by omega)]
        refine ⟨(j + 1, bb), ⟨c5, h6', ?_⟩, by simp; omega, (le_st' _ _ [⟨960, some _, false, 1, _⟩] [] _ (by simp -implicitDefEqProofs (maxSteps := 2000000) only [go_sem] <;> and_intros <;> rfl) (by simp -implicitDefEqProofs (maxSteps := 2000000) only [go_sem] <;> and_intros <;> rfl) (by simp -implicitDefEqProofs (maxSteps := 2000000) only [go_sem] <;> and_intros <;> rfl) (by rfl))⟩
        exact hbb.trans (met4_eq (p' := fun v => occurs q k v || decide ((v : Int) ∈ ts.take (j + 1))) fun v => by rw [hts1, dec_snoc (by omega)])
    · obtain rfl : j = ts.length := by omega
      simp -implicitDefEqProofs (maxSteps := 2000000) only [go_sem, c5, wi]
      refine ⟨(k + 1, bb), ⟨c1, upTo_step h2 (by rw [atomOk, ea, hrel, h4, h6]; rfl), ?_⟩, by simp; omega, (le_st' _ _ [⟨960, some _, false, 1, _⟩] [] _ (by simp -implicitDefEqProofs (maxSteps := 2000000) only [go_sem] <;> and_intros <;> rfl) (by simp -implicitDefEqProofs (maxSteps := 2000000) only [go_sem] <;> and_intros <;> rfl) (by simp -implicitDefEqProofs (maxSteps := 2000000) only [go_sem] <;> and_intros <;> rfl) (by rfl))⟩
      exact hbb.trans (met4_eq (p' := fun v => occurs q (k + 1) v) fun v => by rw [occurs_step c1, ea, List.take_length])
  obtain rfl : i = q.atoms.length := by omega
  simp -implicitDefEqProofs (maxSteps := 2000000) only [go_sem, c1]
  refine awp_loop Nat (fun v => mkSt [(3, .one (.vad 1000 0)), (5, .one (.ref 960 1 0 4)), (10, .sc (.int .i64 v))] [(1000, sQu q)] [(960, (1, bls b))] 4000)
    (fun v => v ≤ q.vc.toNat ∧ upTo (fun v => occurs q q.atoms.length v) v = true) (fun v => q.vc.toNat - v) 0 ⟨by omega, rfl⟩ (le_st' _ _ [⟨960, some _, false, 1, _⟩] [] _ (by simp -implicitDefEqProofs (maxSteps := 2000000) only [go_sem] <;> and_intros <;> rfl) (by simp -implicitDefEqProofs (maxSteps := 2000000) only [go_sem] <;> and_intros <;> rfl) (by simp -implicitDefEqProofs (maxSteps := 2000000) only [go_sem] <;> and_intros <;> rfl) (by rfl)) ?_
  rintro v ⟨h3, h4⟩
  by_cases c3 : v < q.vc.toNat
  · have c4 : (v : Int) < q.vc := by omega
    have c5 : v < 4 := by omega
    have e5 : b.getD v false = occurs q q.atoms.length v := by rw [hb]; exact met4_get (p := fun v => occurs q q.atoms.length v) c5
    rcases d5 : occurs q q.atoms.length v
    · rw [goodQu_var c3 d5]
      simp -implicitDefEqProofs (maxSteps := 2000000) only [go_sem, c4, c5, e5, d5, hbl]
    · simp -implicitDefEqProofs (maxSteps := 2000000) only [go_sem, c4, c5, e5, d5, hbl]
      rw [i64_succ (by omega)]
      exact ⟨v + 1, ⟨c3, upTo_step h4 d5⟩, by omega, (le_st' _ _ [⟨960, some _, false, 1, _⟩] [] _ (by simp -implicitDefEqProofs (maxSteps := 2000000) only [go_sem] <;> and_intros <;> rfl) (by simp -implicitDefEqProofs (maxSteps := 2000000) only [go_sem] <;> and_intros <;> rfl) (by simp -implicitDefEqProofs (maxSteps := 2000000) only [go_sem] <;> and_intros <;> rfl) (by rfl))⟩
  obtain rfl : v = q.vc.toNat := by omega
  have c4 : ¬ ((q.vc.toNat : Nat) : Int) < q.vc := by omega
  simp -implicitDefEqProofs (maxSteps := 2000000) only [go_sem, c4]
  have hff := hq.2
  refine awp_loop Nat (fun k => mkSt [(3, .one (.vad 1000 0)), (11, .sc (.int .i64 k))] [(1000, sQu q)] [] 6000)
    (fun k => k ≤ q.free.length ∧ upTo (idxAt q.free q.vc) k = true) (fun k => q.free.length - k) 0 ⟨by omega, rfl⟩ (le_st _ _ [] [] _ rfl (by simp -implicitDefEqProofs (maxSteps := 2000000) only [go_sem] <;> rfl) (by simp -implicitDefEqProofs (maxSteps := 2000000) only [go_sem] <;> rfl) (by simp -implicitDefEqProofs (maxSteps := 2000000) only [go_sem] <;> rfl)) ?_
  rintro k ⟨h5, h6⟩
  by_cases e1 : k < q.free.length
  · rcases d1 : inB (q.free.getD k 0) 0 (q.vc - 1)
    · rw [goodQu_free e1 (by rw [idxAt, d1]; rfl)]
      simp -implicitDefEqProofs (maxSteps := 2000000) only [go_sem, e1, wv]
      refine call_of (inB_sat (q.free.getD k 0) 0 (q.vc - 1)) (by simp -implicitDefEqProofs (maxSteps := 2000000) only [go_sem, d1, e1]) (by kernel_rfl) (by simp -implicitDefEqProofs (maxSteps := 2000000) only [go_sem, d1, e1]) ?_
      simp -implicitDefEqProofs (maxSteps := 2000000) only [go_sem, d1, e1]
    rcases k with _ | j
    · have e : idxAt q.free q.vc 0 = true := by rw [idxAt, d1]; rfl
      have e0 : (0 : Int) < q.free.length := by omega
      simp -implicitDefEqProofs (maxSteps := 2000000) only [go_sem, e1, e0, wv]
      refine call_of (inB_sat (q.free.getD 0 0) 0 (q.vc - 1)) (by simp -implicitDefEqProofs (maxSteps := 2000000) only [go_sem, d1, e1, e0]) (by kernel_rfl) (by simp -implicitDefEqProofs (maxSteps := 2000000) only [go_sem, d1, e1, e0]) ?_
      simp -implicitDefEqProofs (maxSteps := 2000000) only [go_sem, d1, e1, e0]
      exact ⟨1, ⟨e1, upTo_step h6 e⟩, by omega, (le_st _ _ [] [] _ rfl (by simp -implicitDefEqProofs (maxSteps := 2000000) only [go_sem] <;> rfl) (by simp -implicitDefEqProofs (maxSteps := 2000000) only [go_sem] <;> rfl) (by simp -implicitDefEqProofs (maxSteps := 2000000) only [go_sem] <;> rfl))⟩
    · have e2 : j < q.free.length := by omega
      have e3 : 0 < ((j + 1 : Nat) : Int) := by omega
      have w1 := i64_pred (j := j) (by omega)
      rcases d2 : decide (q.free.getD (j + 1) 0 ≤ q.free.getD j 0)
      · have e : idxAt q.free q.vc (j + 1) = true := by rw [idxAt, d1, Nat.add_sub_cancel, d2]; rfl
        simp -implicitDefEqProofs (maxSteps := 2000000) only [go_sem, e1, wv]
        refine call_of (inB_sat (q.free.getD (j + 1) 0) 0 (q.vc - 1)) (by simp -implicitDefEqProofs (maxSteps := 2000000) only [go_sem, d1, d2, e1, e2, e3, w1]) (by kernel_rfl) (by simp -implicitDefEqProofs (maxSteps := 2000000) only [go_sem, d1, d2, e1, e2, e3, w1]) ?_
        simp -implicitDefEqProofs (maxSteps := 2000000) only [go_sem, d1, d2, e1, e2, e3, w1]
        rw [i64_succ (by omega)]
        exact ⟨j + 1 + 1, ⟨e1, upTo_step h6 e⟩, by omega, (le_st _ _ [] [] _ rfl (by simp -implicitDefEqProofs (maxSteps := 2000000) only [go_sem] <;> rfl) (by simp -implicitDefEqProofs (maxSteps := 2000000) only [go_sem] <;> rfl) (by simp -implicitDefEqProofs (maxSteps := 2000000) only [go_sem] <;> rfl))⟩
      · rw [goodQu_free e1 (show idxAt q.free q.vc (j + 1) = false by rw [idxAt, d1, Nat.add_sub_cancel, d2]; rfl)]
        simp -implicitDefEqProofs (maxSteps := 2000000) only [go_sem, e1, wv]
        refine call_of (inB_sat (q.free.getD (j + 1) 0) 0 (q.vc - 1)) (by simp -implicitDefEqProofs (maxSteps := 2000000) only [go_sem, d1, d2, e1, e2, e3, w1]) (by kernel_rfl) (by simp -implicitDefEqProofs (maxSteps := 2000000) only [go_sem, d1, d2, e1, e2, e3, w1]) ?_
        simp -implicitDefEqProofs (maxSteps := 2000000) only [go_sem, d1, d2, e1, e2, e3, w1]
  · obtain rfl : k = q.free.length := by omega
    simp -implicitDefEqProofs (maxSteps := 2000000) only [go_sem, e1]
    rw [goodQu, g, v1, v2, idxs, h6, h2, h4]
    rfl
theorem upTo_congr {p p' : Nat → Bool} : ∀ {n : Nat}, (∀ k, k < n → p k = p' k) → upTo p n = upTo p' n
  | 0, _ => rfl
  | n + 1, h => by rw [upTo, upTo, upTo_congr fun k hk => h k (by omega), h n (by omega)]
def otherRel (a : RI) (l : List RI) (k : Nat) : Bool := !((l.getD k default).r == a.r)
abbrev fRI (a : RI) : List Fld := [.sc (.int .i64 a.r), .im 1 (ints a.l)]
theorem isValidQuery1_sat (a b : RI) : Sat Try.prog 72 [lRI b, .one (.ip (fRI a))] [lBool (b.r == a.r)] [g2, g1] := by
  refine sat_of_body mixed Try.func72 rfl (by kernel_rfl) (by kernel_rfl) (rs := [.tmp 3]) rfl rfl rfl ?_
  simp -implicitDefEqProofs (maxSteps := 2000000) only [go_sem]
theorem atomsIndex_sat (l : List RI) (a : RI) (h : l.length ≤ 9223372036854775807) : Sat Try.prog 87 [lRIs l, .one (.fn 72 [fRI a])] [lInt (firstNo (otherRel a l) l.length 0)] [g1, g1] := by
  refine sat_of_body mixed Try.func87 rfl (by kernel_rfl) (by kernel_rfl) (rs := [.tmp 4]) rfl rfl rfl ?_
  simp -implicitDefEqProofs (maxSteps := 2000000) only [go_sem]
  refine awp_loop Nat (fun k => mkSt [(0, .one (.im 2 (ris 0 l))), (1, .one (.fni 72 [fRI a])), (7, .sc (.int .i64 l.length)), (8, .sc (.int .i64 k))] [] [] 1000)
    (fun k => k ≤ l.length ∧ firstNo (otherRel a l) (l.length - k) k = firstNo (otherRel a l) l.length 0) (fun k => l.length - k) 0 ⟨by omega, rfl⟩ (le_st _ _ [] [] _ rfl (by simp -implicitDefEqProofs (maxSteps := 2000000) only [go_sem] <;> rfl) trivial trivial) ?_
  rintro k ⟨h1, h2⟩
  by_cases c1 : k < l.length
  · rw [show l.length - k = (l.length - (k + 1)) + 1 by omega, firstNo] at h2
    rcases d : (l.getD k default).r == a.r
    · rw [if_pos (by rw [otherRel, d]; rfl)] at h2
      simp -implicitDefEqProofs (maxSteps := 2000000) only [go_sem, c1]
      refine call_of (isValidQuery1_sat a (l.getD k default)) (by simp -implicitDefEqProofs (maxSteps := 2000000) only [go_sem, d, c1]) (by kernel_rfl) (by simp -implicitDefEqProofs (maxSteps := 2000000) only [go_sem, d, c1]) ?_
      simp -implicitDefEqProofs (maxSteps := 2000000) only [go_sem, d, c1]
      rw [i64_succ (by omega)]
      exact ⟨k + 1, ⟨c1, h2⟩, by omega, (le_st _ _ [] [] _ rfl (by simp -implicitDefEqProofs (maxSteps := 2000000) only [go_sem] <;> rfl) trivial trivial)⟩
    · rw [if_neg (by rw [otherRel, d]; simp)] at h2
      simp -implicitDefEqProofs (maxSteps := 2000000) only [go_sem, c1]
      refine call_of (isValidQuery1_sat a (l.getD k default)) (by simp -implicitDefEqProofs (maxSteps := 2000000) only [go_sem, d, c1]) (by kernel_rfl) (by simp -implicitDefEqProofs (maxSteps := 2000000) only [go_sem, d, c1]) ?_
      simp -implicitDefEqProofs (maxSteps := 2000000) only [go_sem, d, c1]
      rw [← h2]
  · obtain rfl : k = l.length := by omega
    rw [Nat.sub_self, firstNo] at h2
    simp -implicitDefEqProofs (maxSteps := 2000000) only [go_sem, c1]
    rw [← h2]
theorem atomsContains_sat (l : List RI) (a : RI) (h : l.length ≤ 9223372036854775807) : Sat Try.prog 71 [lRIs l, .one (.fn 72 [fRI a])] [lBool (!upTo (otherRel a l) l.length)] [g1, g1] := by
  refine sat_of_body mixed Try.func71 rfl (by kernel_rfl) (by kernel_rfl) (rs := [.tmp 4]) rfl rfl rfl ?_
  simp -implicitDefEqProofs (maxSteps := 2000000) only [go_sem]
  refine call_of (atomsIndex_sat l a h) (by simp -implicitDefEqProofs (maxSteps := 2000000) only [go_sem]) (by kernel_rfl) (by simp -implicitDefEqProofs (maxSteps := 2000000) only [go_sem]) ?_
  simp -implicitDefEqProofs (maxSteps := 2000000) only [go_sem]
  rw [firstNo_ge _ _ _ rfl, Nat.zero_add]
theorem implIsValidQuery_sat (l : List Rel) (q : Qu) (h : l.length ≤ 9223372036854775807) (hq : q.ok) : Sat Try.prog 38 [lRels l, lQu q] [lBool (goodQu l q)] [g1, g3] := by
  refine sat_of_body mixed Try.func38 rfl (by kernel_rfl) (by kernel_rfl) (rs := [.tmp 4]) rfl rfl rfl ?_
  have w0 : IntKind.i64.wrap ((l.length : Int) - 1) = (l.length : Int) - 1 := IntWalk.i64_in _ (by omega)
  have hff : q.free.length ≤ 9223372036854775807 := by have := hq.2; omega
  simp -implicitDefEqProofs (maxSteps := 2000000) only [go_sem]
  rcases g : goodRels l
  · rw [show goodQu l q = false by rw [goodQu, g]; rfl]
    refine call_of (implAreValidRelations_sat l h) (by simp -implicitDefEqProofs (maxSteps := 2000000) only [go_sem, g]) (by kernel_rfl) (by simp -implicitDefEqProofs (maxSteps := 2000000) only [go_sem, g]) ?_
    simp -implicitDefEqProofs (maxSteps := 2000000) only [go_sem, g]
  rcases v1 : inB q.vc 0 4
  · rw [show goodQu l q = false by rw [goodQu, v1]; simp]
    refine call_of (implAreValidRelations_sat l h) (by simp -implicitDefEqProofs (maxSteps := 2000000) only [go_sem, g]) (by kernel_rfl) (by simp -implicitDefEqProofs (maxSteps := 2000000) only [go_sem, g]) ?_
    simp -implicitDefEqProofs (maxSteps := 2000000) only [go_sem, g]
    refine call_of (inW_sat q.vc 0 4) (by simp -implicitDefEqProofs (maxSteps := 2000000) only [go_sem, v1]) (by kernel_rfl) (by simp -implicitDefEqProofs (maxSteps := 2000000) only [go_sem, v1]) ?_
    simp -implicitDefEqProofs (maxSteps := 2000000) only [go_sem, v1]
  rcases v2 : inB q.atoms.length 1 3
  · rw [show goodQu l q = false by rw [goodQu, v2]; simp]
    refine call_of (implAreValidRelations_sat l h) (by simp -implicitDefEqProofs (maxSteps := 2000000) only [go_sem, g]) (by kernel_rfl) (by simp -implicitDefEqProofs (maxSteps := 2000000) only [go_sem, g]) ?_
    simp -implicitDefEqProofs (maxSteps := 2000000) only [go_sem, g]
    refine call_of (inW_sat q.vc 0 4) (by simp -implicitDefEqProofs (maxSteps := 2000000) only [go_sem, v1]) (by kernel_rfl) (by simp -implicitDefEqProofs (maxSteps := 2000000) only [go_sem, v1]) ?_
    simp -implicitDefEqProofs (maxSteps := 2000000) only [go_sem, v1]
    refine call_of (inW_sat q.atoms.length 1 3) (by simp -implicitDefEqProofs (maxSteps := 2000000) only [go_sem, v2]) (by kernel_rfl) (by simp -implicitDefEqProofs (maxSteps := 2000000) only [go_sem, v2]) ?_
    simp -implicitDefEqProofs (maxSteps := 2000000) only [go_sem, v2]
  obtain ⟨b1, b2⟩ := inB_of v1
  obtain ⟨b3, b4⟩ := inB_of v2
  have wv : IntKind.i64.wrap (q.vc - 1) = q.vc - 1 := IntWalk.i64_in _ (by omega)
  rcases v3 : idxs q.free q.vc
  · rw [show goodQu l q = false by rw [goodQu, v3]; simp]
    refine call_of (implAreValidRelations_sat l h) (by simp -implicitDefEqProofs (maxSteps := 2000000) only [go_sem, g]) (by kernel_rfl) (by simp -implicitDefEqProofs (maxSteps := 2000000) only [go_sem, g]) ?_
    simp -implicitDefEqProofs (maxSteps := 2000000) only [go_sem, g]
    refine call_of (inW_sat q.vc 0 4) (by simp -implicitDefEqProofs (maxSteps := 2000000) only [go_sem, v1]) (by kernel_rfl) (by simp -implicitDefEqProofs (maxSteps := 2000000) only [go_sem, v1]) ?_
    simp -implicitDefEqProofs (maxSteps := 2000000) only [go_sem, v1]
    refine call_of (inW_sat q.atoms.length 1 3) (by simp -implicitDefEqProofs (maxSteps := 2000000) only [go_sem, v2]) (by kernel_rfl) (by simp -implicitDefEqProofs (maxSteps := 2000000) only [go_sem, v2]) ?_
    simp -implicitDefEqProofs (maxSteps := 2000000) only [go_sem, v2]
    refine call_of (areIndices_sat q.free q.vc hff (by omega)) (by simp -implicitDefEqProofs (maxSteps := 2000000) only [go_sem, v3]) (by kernel_rfl) (by simp -implicitDefEqProofs (maxSteps := 2000000) only [go_sem, v3]) ?_
    simp -implicitDefEqProofs (maxSteps := 2000000) only [go_sem, v3]
  refine call_of (implAreValidRelations_sat l h) (by simp -implicitDefEqProofs (maxSteps := 2000000) only [go_sem, g]) (by kernel_rfl) (by simp -implicitDefEqProofs (maxSteps := 2000000) only [go_sem, g]) ?_
  simp -implicitDefEqProofs (maxSteps := 2000000) only [go_sem, g]
  refine call_of (inW_sat q.vc 0 4) (by simp -implicitDefEqProofs (maxSteps := 2000000) only [go_sem, v1]) (by kernel_rfl) (by simp -implicitDefEqProofs (maxSteps := 2000000) only [go_sem, v1]) ?_
  simp -implicitDefEqProofs (maxSteps := 2000000) only [go_sem, v1]
  refine call_of (inW_sat q.atoms.length 1 3) (by simp -implicitDefEqProofs (maxSteps := 2000000) only [go_sem, v2]) (by kernel_rfl) (by simp -implicitDefEqProofs (maxSteps := 2000000) only [go_sem, v2]) ?_
  simp -implicitDefEqProofs (maxSteps := 2000000) only [go_sem, v2]
  refine call_of (areIndices_sat q.free q.vc hff (by omega)) (by simp -implicitDefEqProofs (maxSteps := 2000000) only [go_sem, v3]) (by kernel_rfl) (by simp -implicitDefEqProofs (maxSteps := 2000000) only [go_sem, v3]) ?_
  simp -implicitDefEqProofs (maxSteps := 2000000) only [go_sem, v3]
  refine awp_loop Nat (fun i => mkSt [(0, .one (.im 3 (rels l))), (3, .one (.vad 1000 0)), (5, .one (.ref 960 1 0 (selN (occurs q i) 4).length)), (36, .one (.im 2 (ris 0 q.atoms))), (37, .sc (.int .i64 q.atoms.length)), (38, .sc (.int .i64 i))] [(1000, sQu q)] [(960, (1, ints (selN (occurs q i) 4)))] 2000)
    (fun i => i ≤ q.atoms.length ∧ upTo (atomOk l q) i = true) (fun i => q.atoms.length - i) 0 ⟨by omega, rfl⟩ (le_st' _ _ [⟨960, some _, false, 1, _⟩] [] _ (by simp -implicitDefEqProofs (maxSteps := 2000000) only [go_sem] <;> and_intros <;> rfl) (by simp -implicitDefEqProofs (maxSteps := 2000000) only [go_sem] <;> and_intros <;> rfl) (by simp -implicitDefEqProofs (maxSteps := 2000000) only [go_sem] <;> and_intros <;> rfl) (by rfl)) ?_
  rintro i ⟨h1, h2⟩
  have hlo := selN_len (occurs q i) 4
  by_cases c1 : i < q.atoms.length
  · have hfa : (q.atoms.getD i default).ok := hq.1.2 _ (mem_getD default c1)
    have hun := uni_occurs (q := q) c1
    have hvl := varsOf_len (q.atoms.getD i default).l
    rcases ea : q.atoms.getD i default with ⟨r, ts⟩
    rw [ea] at hfa hun hvl
    have hts : ts.length ≤ 1048576 := hfa
    have wi : IntKind.i64.wrap ((i : Int) + 1) = ((i + 1 : Nat) : Int) := i64_succ (by omega)
    rcases i1 : inB r 0 ((l.length : Int) - 1)
    · rw [goodQu_atom c1 (by rw [atomOk, ea, relAt, i1]; rfl)]
      simp -implicitDefEqProofs (maxSteps := 2000000) only [go_sem, c1, ea, w0]
      refine call_of (inW_sat r 0 ((l.length : Int) - 1)) (by simp -implicitDefEqProofs (maxSteps := 2000000) only [go_sem, i1]) (by kernel_rfl) (by simp -implicitDefEqProofs (maxSteps := 2000000) only [go_sem, i1]) ?_
      simp -implicitDefEqProofs (maxSteps := 2000000) only [go_sem, i1]
    obtain ⟨r1, r2⟩ := inB_of i1
    obtain ⟨m, rfl⟩ : ∃ m : Nat, r = m := ⟨r.toNat, by omega⟩
    have c2 : m < l.length := by omega
    rcases d2 : (ts.length : Int) == (l.getD m default).ar
    · have d3 : ((ts.length : Int) != (l.getD m default).ar) = true := by rw [bne, d2]; rfl
      rw [goodQu_atom c1 (by rw [atomOk, ea, relAt, i1]; simp only [Int.toNat_natCast, d2]; rfl)]
      simp -implicitDefEqProofs (maxSteps := 2000000) only [go_sem, c1, ea, w0]
      refine call_of (inW_sat m 0 ((l.length : Int) - 1)) (by simp -implicitDefEqProofs (maxSteps := 2000000) only [go_sem, i1, d3, c2]) (by kernel_rfl) (by simp -implicitDefEqProofs (maxSteps := 2000000) only [go_sem, i1, d3, c2]) ?_
      simp -implicitDefEqProofs (maxSteps := 2000000) only [go_sem, i1, d3, c2]
    have d3 : ((ts.length : Int) != (l.getD m default).ar) = false := by rw [bne, d2]; rfl
    have hrel : relAt l ⟨m, ts⟩ = true := by rw [relAt, i1]; simp only [Int.toNat_natCast, d2]; rfl
    have c3 : i ≤ q.atoms.length := by omega
    have hup : upTo (otherRel ⟨m, ts⟩ (q.atoms.take i)) (q.atoms.take i).length = upTo (newRel q i) i := by
      rw [List.length_take, Nat.min_eq_left c3]
      refine upTo_congr fun k hk => ?_
      rw [otherRel, newRel, ea]
      rw [List.getD_eq_getElem?_getD, List.getD_eq_getElem?_getD, List.getElem?_take_of_lt hk]
    rcases d4 : upTo (newRel q i) i
    · rw [goodQu_atom c1 (by rw [atomOk, d4]; simp)]
      simp -implicitDefEqProofs (maxSteps := 2000000) only [go_sem, c1, ea, w0]
      refine call_of (inW_sat m 0 ((l.length : Int) - 1)) (by simp -implicitDefEqProofs (maxSteps := 2000000) only [go_sem, i1, d3, c2, c3, Nat.zero_le]) (by kernel_rfl) (by simp -implicitDefEqProofs (maxSteps := 2000000) only [go_sem, i1, d3, c2, c3, Nat.zero_le]) ?_
      simp -implicitDefEqProofs (maxSteps := 2000000) only [go_sem, i1, d3, c2, c3, Nat.zero_le]
      refine call_of (atomsContains_sat (q.atoms.take i) ⟨m, ts⟩ (by rw [List.length_take]; omega)) (by simp -implicitDefEqProofs (maxSteps := 2000000) only [go_sem, hup, d4, c3]) (by kernel_rfl) (by simp -implicitDefEqProofs (maxSteps := 2000000) only [go_sem, hup, d4, c3]) ?_
      simp -implicitDefEqProofs (maxSteps := 2000000) only [go_sem, hup, d4, c3]
    simp -implicitDefEqProofs (maxSteps := 2000000) only [go_sem, c1, ea, w0]
    refine call_of (inW_sat m 0 ((l.length : Int) - 1)) (by simp -implicitDefEqProofs (maxSteps := 2000000) only [go_sem, i1, d3, c2, c3, Nat.zero_le]) (by kernel_rfl) (by simp -implicitDefEqProofs (maxSteps := 2000000) only [go_sem, i1, d3, c2, c3, Nat.zero_le]) ?_
    simp -implicitDefEqProofs (maxSteps := 2000000) only [go_sem, i1, d3, c2, c3, Nat.zero_le]
    refine call_of (atomsContains_sat (q.atoms.take i) ⟨m, ts⟩ (by rw [List.length_take]; omega)) (by simp -implicitDefEqProofs (maxSteps := 2000000) only [go_sem, hup, d4, c3]) (by kernel_rfl) (by simp -implicitDefEqProofs (maxSteps := 2000000) only [go_sem, hup, d4, c3]) ?_
    simp -implicitDefEqProofs (maxSteps := 2000000) only [go_sem, hup, d4, c3]
    refine awp_loop Nat (fun j => mkSt [(0, .one (.im 3 (rels l))), (3, .one (.vad 1000 0)), (5, .one (.ref 960 1 0 (selN (occurs q i) 4).length)), (7, .one (.vad 2256 0)), (36, .one (.im 2 (ris 0 q.atoms))), (37, .sc (.int .i64 q.atoms.length)), (38, .sc (.int .i64 i)), (71, .one (.im 1 (ints ts))), (72, .sc (.int .i64 ts.length)), (73, .sc (.int .i64 j))] [(1000, sQu q), (2256, sRI ⟨m, ts⟩)] [(960, (1, ints (selN (occurs q i) 4)))] 6000)
      (fun j => j ≤ ts.length ∧ upTo (termOk q.vc ts) j = true) (fun j => ts.length - j) 0 ⟨by omega, rfl⟩ (le_st' _ _ [⟨960, some _, false, 1, _⟩] [] _ (by simp -implicitDefEqProofs (maxSteps := 2000000) only [go_sem] <;> and_intros <;> rfl) (by simp -implicitDefEqProofs (maxSteps := 2000000) only [go_sem] <;> and_intros <;> rfl) (by simp -implicitDefEqProofs (maxSteps := 2000000) only [go_sem] <;> and_intros <;> rfl) (by rfl)) ?_
    rintro j ⟨h5, h6⟩
    by_cases c5 : j < ts.length
    · rcases d5 : inB (ts.getD j 0) (-10) (q.vc - 1)
      · rw [goodQu_atom c1 (by rw [atomOk, ea, upTo_false c5 (by rw [termOk, d5])]; simp)]
        simp -implicitDefEqProofs (maxSteps := 2000000) only [go_sem, c5, wv]
        refine call_of (inW_sat (ts.getD j 0) (-10) (q.vc - 1)) (by simp -implicitDefEqProofs (maxSteps := 2000000) only [go_sem, d5]) (by kernel_rfl) (by simp -implicitDefEqProofs (maxSteps := 2000000) only [go_sem, d5]) ?_
        simp -implicitDefEqProofs (maxSteps := 2000000) only [go_sem, d5]
      simp -implicitDefEqProofs (maxSteps := 2000000) only [go_sem, c5, wv]
      refine call_of (inW_sat (ts.getD j 0) (-10) (q.vc - 1)) (by simp -implicitDefEqProofs (maxSteps := 2000000) only [go_sem, d5, c5]) (by kernel_rfl) (by simp -implicitDefEqProofs (maxSteps := 2000000) only [go_sem, d5, c5]) ?_
      simp -implicitDefEqProofs (maxSteps := 2000000) only [go_sem, d5, c5]
      rw [i64_succ (by omega)]
      exact ⟨j + 1, ⟨c5, upTo_step h6 (by rw [termOk, d5])⟩, by omega, (le_st' _ _ [⟨960, some _, false, 1, _⟩] [] _ (by simp -implicitDefEqProofs (maxSteps := 2000000) only [go_sem] <;> and_intros <;> rfl) (by simp -implicitDefEqProofs (maxSteps := 2000000) only [go_sem] <;> and_intros <;> rfl) (by simp -implicitDefEqProofs (maxSteps := 2000000) only [go_sem] <;> and_intros <;> rfl) (by rfl))⟩
    · obtain rfl : j = ts.length := by omega
      simp -implicitDefEqProofs (maxSteps := 2000000) only [go_sem, c5]
      refine call_of (implAtomVariables_sat ⟨m, ts⟩ hfa) (by simp -implicitDefEqProofs (maxSteps := 2000000) only [go_sem]) (callOk_still (by kernel_rfl) (by simp only [List.all_cons, List.all_nil, LV.still, LV.leaves, Leaf.still, ints_still, ris_still, eds_still, rels_still, iss_still, ems_still, Bool.and_self, Bool.and_true])) (by simp -implicitDefEqProofs (maxSteps := 2000000) only [go_sem]) ?_
      simp -implicitDefEqProofs (maxSteps := 2000000) only [go_sem]
      refine call_of (union_sat (selN (occurs q i) 4) (varsOf ts) (by simp only at hvl; omega)) (by simp -implicitDefEqProofs (maxSteps := 2000000) only [go_sem, hun]) (callOk_still (by kernel_rfl) (by simp only [List.all_cons, List.all_nil, LV.still, LV.leaves, Leaf.still, ints_still, ris_still, eds_still, rels_still, iss_still, ems_still, Bool.and_self, Bool.and_true])) (by simp -implicitDefEqProofs (maxSteps := 2000000) only [go_sem, hun]) ?_
      simp -implicitDefEqProofs (maxSteps := 2000000) only [go_sem, hun]
      rw [wi]
      refine ⟨i + 1, ⟨c1, upTo_step h2 (by rw [atomOk, ea, hrel, d4, h6]; rfl)⟩, by omega, ?_⟩
      exact (le_st' _ _ [⟨960, some _, false, 1, _⟩] [] _ (by simp -implicitDefEqProofs (maxSteps := 2000000) only [go_sem, hun] <;> and_intros <;> rfl) (by simp -implicitDefEqProofs (maxSteps := 2000000) only [go_sem, hun] <;> and_intros <;> rfl) (by simp -implicitDefEqProofs (maxSteps := 2000000) only [go_sem, hun] <;> and_intros <;> rfl) (by rfl))
  · obtain rfl : i = q.atoms.length := by omega
    simp -implicitDefEqProofs (maxSteps := 2000000) only [go_sem, c1]
    rw [all_occur v1 h2, goodQu, g, v1, v2, v3, h2]
    simp
end Go.Proofs.Ytedciihjgbkjgaa.A


/- CLOSURES: the plain law. Conditions: none. (No program in sight but the names.) -/
namespace Go.Proofs.Ytedciihjgbkjgaa.A
open Go
set_option linter.unusedSimpArgs false
set_option linter.unusedVariables false

/-- Are all numbers of a list in another. -/
def subAt (a b : List Int) (i : Nat) : Bool := decide (a.getD i 0 ∈ b)
def subs (a b : List Int) : Bool := upTo (subAt a b) a.length
theorem upTo_true {p : Nat → Bool} : ∀ {n : Nat}, (∀ k, k < n → p k = true) → upTo p n = true
  | 0, _ => rfl
  | n + 1, h => upTo_step (upTo_true fun k hk => h k (by omega)) (h n (by omega))
theorem subs_iff {a b : List Int} : subs a b = true ↔ ∀ x ∈ a, x ∈ b := by
  constructor
  · intro h x hx
    obtain ⟨i, hi, rfl⟩ := List.mem_iff_getElem.mp hx
    have h1 := upTo_at h hi
    unfold subAt at h1
    rw [List.getD_eq_getElem?_getD, List.getElem?_eq_getElem hi] at h1
    exact of_decide_eq_true h1
  · intro h
    exact upTo_true fun k hk => decide_eq_true (h _ (mem_getD 0 hk))
/-- One atom's dependency, applied to a set. -/
def fire (l : List Rel) (ats : List RI) (skip : Int) (c : List Int) (i : Nat) : List Int :=
  if ((i : Int) != skip) && subs (keyVars l (ats.getD i default)) c then uni c (varsOf (ats.getD i default).l) else c
/-- The first k atoms' dependencies, one after another. -/
def passA (l : List Rel) (ats : List RI) (skip : Int) (c : List Int) : Nat → List Int
  | 0 => c
  | k + 1 => fire l ats skip (passA l ats skip c k) k
structure Small (c : List Int) : Prop where
  strict : Strict c
  small : ∀ x ∈ c, 0 ≤ x ∧ x < 4
theorem Small.uni {c v : List Int} (h : Small c) (hv : ∀ x ∈ v, 0 ≤ x ∧ x < 4) : Small (uni c v) :=
  ⟨uni_strict _ _, fun x hx => ((uni_mem _ _ _).mp hx).elim (h.small x) (hv x)⟩
theorem varsOf_small (l : List Int) : ∀ x ∈ varsOf l, 0 ≤ x ∧ x < 4 := fun x hx => by
  have := (selN_mem _ _ _).mp hx
  omega
theorem Small.selN {p : Int → Bool} : Small (selN p 4) := ⟨selN_strict _ _, fun x hx => by have := (selN_mem _ _ _).mp hx; omega⟩
theorem Small.eq_selN {c : List Int} (h : Small c) : c = A.selN (fun v => decide (v ∈ c)) 4 := by
  refine strict_eq h.strict (selN_strict _ _) fun x => ?_
  rw [selN_mem]
  exact ⟨fun hx => ⟨(h.small x hx).1, (h.small x hx).2, decide_eq_true hx⟩, fun hx => of_decide_eq_true hx.2.2⟩
theorem Small.len {c : List Int} (h : Small c) : c.length ≤ 4 := by
  rw [h.eq_selN]; exact selN_len _ 4
theorem strict_sub_len : ∀ {a b : List Int}, Strict a → Strict b → (∀ x ∈ a, x ∈ b) → a.length ≤ b.length ∧ (a.length = b.length → a = b)
  | [], b, _, _, _ => ⟨by simp, fun h => by cases b <;> simp at h ⊢⟩
  | x :: a, [], _, _, h => absurd (h x (by simp)) (by simp)
  | x :: a, y :: b, ha, hb, h => by
    obtain ⟨ha1, ha2⟩ := List.pairwise_cons.mp ha
    obtain ⟨hb1, hb2⟩ := List.pairwise_cons.mp hb
    rcases List.mem_cons.mp (h x (by simp)) with e | e
    · subst e
      have h1 := strict_sub_len ha2 hb2 fun z hz => by
        rcases List.mem_cons.mp (h z (List.mem_cons_of_mem _ hz)) with e | e
        · have := ha1 z hz; omega
        · exact e
      exact ⟨by simp only [List.length_cons]; omega, fun hl => by rw [h1.2 (by simpa using hl)]⟩
    · have h1 := strict_sub_len (a := x :: a) ha hb2 fun z hz => by
        rcases List.mem_cons.mp hz with rfl | hz'
        · exact e
        · rcases List.mem_cons.mp (h z hz) with e' | e'
          · have := ha1 z hz'; have := hb1 x e; omega
          · exact e'
      exact ⟨by have := h1.1; simp only [List.length_cons] at this ⊢; omega, fun hl => by have := h1.1; simp only [List.length_cons] at this hl; omega⟩
theorem fire_sub {l : List Rel} {ats : List RI} {skip : Int} {c : List Int} {i : Nat} : ∀ x ∈ c, x ∈ fire l ats skip c i := by
  intro x hx
  unfold fire
  split
  · exact (uni_mem _ _ _).mpr (.inl hx)
  · exact hx
theorem fire_small {l : List Rel} {ats : List RI} {skip : Int} {c : List Int} {i : Nat} (h : Small c) : Small (fire l ats skip c i) := by
  unfold fire
  split
  · exact h.uni (varsOf_small _)
  · exact h
theorem passA_sub {l : List Rel} {ats : List RI} {skip : Int} {c : List Int} : ∀ {k : Nat}, ∀ x ∈ c, x ∈ passA l ats skip c k
  | 0, x, hx => hx
  | k + 1, x, hx => fire_sub x (passA_sub (k := k) x hx)
theorem passA_small {l : List Rel} {ats : List RI} {skip : Int} {c : List Int} (h : Small c) : ∀ {k : Nat}, Small (passA l ats skip c k)
  | 0 => h
  | k + 1 => fire_small (passA_small h (k := k))
theorem uni_same {c v : List Int} (h : Strict c) (hv : ∀ x ∈ v, x ∈ c) : uni c v = c :=
  strict_eq (uni_strict _ _) h fun x => by rw [uni_mem]; exact ⟨fun h => h.elim id (hv x), .inl⟩
/-- A passA that changes a set takes in an atom's variables. -/
theorem passA_new {l : List Rel} {ats : List RI} {skip : Int} {c : List Int} (h : Small c) : ∀ (k : Nat), passA l ats skip c k = c ∨ ∃ i, i < k ∧ subs (varsOf (ats.getD i default).l) c = false ∧ subs (varsOf (ats.getD i default).l) (passA l ats skip c k) = true
  | 0 => .inl rfl
  | k + 1 => by
    have ih := passA_new (l := l) (ats := ats) (skip := skip) h k
    have hmono : ∀ i, subs (varsOf (ats.getD i default).l) (passA l ats skip c k) = true → subs (varsOf (ats.getD i default).l) (passA l ats skip c (k + 1)) = true :=
      fun i hi => subs_iff.mpr fun x hx => fire_sub x (subs_iff.mp hi x hx)
    rcases ih with ih | ⟨i, hi, h1, h2⟩
    · rw [passA, ih]
      unfold fire
      split
      · rcases hs : subs (varsOf (ats.getD k default).l) c
        · exact .inr ⟨k, by omega, hs, subs_iff.mpr fun x hx => (uni_mem _ _ _).mpr (.inr hx)⟩
        · exact .inl (uni_same h.strict (subs_iff.mp hs))
      · exact .inl rfl
    · exact .inr ⟨i, by omega, h1, hmono i h2⟩
def took (ats : List RI) (c : List Int) (n : Nat) : List Nat := (List.range n).filter fun i => subs (varsOf (ats.getD i default).l) c
theorem took_le (ats : List RI) (c : List Int) (n : Nat) : (took ats c n).length ≤ n := by
  unfold took; exact Nat.le_trans (List.length_filter_le _ _) (by rw [List.length_range]; exact Nat.le_refl _)
theorem filter_lt {α : Type} {p p' : α → Bool} : ∀ {l : List α}, (∀ x ∈ l, p x = true → p' x = true) → (∃ x ∈ l, p x = false ∧ p' x = true) → (l.filter p).length < (l.filter p').length
  | [], _, ⟨x, hx, _⟩ => absurd hx (by simp)
  | a :: l, h, ⟨x, hx, h1, h2⟩ => by
    have hle : ∀ {l : List α}, (∀ x ∈ l, p x = true → p' x = true) → (l.filter p).length ≤ (l.filter p').length := by
      intro l
      induction l with
      | nil => intro _; simp
      | cons b l ih =>
        intro h
        have ih := ih fun x hx => h x (List.mem_cons_of_mem _ hx)
        rcases hb : p b
        · rw [List.filter_cons_of_neg (by simp [hb])]
          rcases hb' : p' b
          · rw [List.filter_cons_of_neg (by simp [hb'])]; exact ih
          · rw [List.filter_cons_of_pos hb']; simp only [List.length_cons]; omega
        · rw [List.filter_cons_of_pos hb, List.filter_cons_of_pos (h b (by simp) hb)]; simp only [List.length_cons]; omega
    rcases List.mem_cons.mp hx with rfl | hx
    · rw [List.filter_cons_of_neg (by simp [h1]), List.filter_cons_of_pos h2]
      have := hle (l := l) fun y hy => h y (List.mem_cons_of_mem _ hy)
      simp only [List.length_cons]; omega
    · have ih := filter_lt (p := p) (p' := p') (l := l) (fun y hy => h y (List.mem_cons_of_mem _ hy)) ⟨x, hx, h1, h2⟩
      rcases hb : p a
      · rw [List.filter_cons_of_neg (by simp [hb])]
        rcases hb' : p' a
        · rw [List.filter_cons_of_neg (by simp [hb'])]; exact ih
        · rw [List.filter_cons_of_pos hb']; simp only [List.length_cons]; omega
      · rw [List.filter_cons_of_pos hb, List.filter_cons_of_pos (h a (by simp) hb)]; simp only [List.length_cons]; omega
theorem took_lt {l : List Rel} {ats : List RI} {skip : Int} {c : List Int} {n : Nat} (h : Small c) (hne : passA l ats skip c n ≠ c) : (took ats c n).length < (took ats (passA l ats skip c n) n).length := by
  rcases passA_new (l := l) (ats := ats) (skip := skip) h n with e | ⟨i, hi, h1, h2⟩
  · exact absurd e hne
  · exact filter_lt (fun x _ hx => subs_iff.mpr fun y hy => passA_sub y (subs_iff.mp hx y hy)) ⟨i, List.mem_range.mpr hi, h1, h2⟩
/-- So many passes. -/
def iter (l : List Rel) (ats : List RI) (skip : Int) (n : Nat) (c : List Int) : Nat → List Int
  | 0 => c
  | m + 1 => passA l ats skip (iter l ats skip n c m) n
theorem iter_small {l : List Rel} {ats : List RI} {skip : Int} {n : Nat} {c : List Int} (h : Small c) : ∀ {m : Nat}, Small (iter l ats skip n c m)
  | 0 => h
  | m + 1 => passA_small (iter_small h (m := m))
theorem iter_took {l : List Rel} {ats : List RI} {skip : Int} {n : Nat} {c : List Int} (h : Small c) : ∀ m : Nat, (∃ j, j ≤ m ∧ iter l ats skip n c (j + 1) = iter l ats skip n c j) ∨ m < (took ats (iter l ats skip n c (m + 1)) n).length
  | 0 => by
    by_cases e : iter l ats skip n c 1 = iter l ats skip n c 0
    · exact .inl ⟨0, by omega, e⟩
    · have := took_lt (l := l) (ats := ats) (skip := skip) (n := n) (iter_small h (m := 0)) e
      refine .inr ?_
      show 0 < (took ats (passA l ats skip (iter l ats skip n c 0) n) n).length
      omega
  | m + 1 => by
    rcases iter_took h m with ⟨j, hj, e⟩ | ht
    · exact .inl ⟨j, by omega, e⟩
    · by_cases e : iter l ats skip n c (m + 2) = iter l ats skip n c (m + 1)
      · exact .inl ⟨m + 1, by omega, e⟩
      · have := took_lt (l := l) (ats := ats) (skip := skip) (n := n) (iter_small h (m := m + 1)) e
        refine .inr ?_
        show m + 1 < (took ats (passA l ats skip (iter l ats skip n c (m + 1)) n) n).length
        omega
theorem iter_stays {l : List Rel} {ats : List RI} {skip : Int} {n : Nat} {c : List Int} {j : Nat} (e : iter l ats skip n c (j + 1) = iter l ats skip n c j) : ∀ d : Nat, iter l ats skip n c (j + d) = iter l ats skip n c j
  | 0 => rfl
  | d + 1 => by
    have ih := iter_stays e d
    show passA l ats skip (iter l ats skip n c (j + d)) n = _
    rw [ih]
    exact e
/-- Where a passA changes nothing, as many passes as there are atoms lead there too. -/
theorem iter_done {l : List Rel} {ats : List RI} {skip : Int} {n : Nat} {c : List Int} (h : Small c) {j : Nat} (e : iter l ats skip n c (j + 1) = iter l ats skip n c j) : iter l ats skip n c j = iter l ats skip n c n := by
  rcases iter_took (l := l) (ats := ats) (skip := skip) (n := n) h n with ⟨i, hi, e'⟩ | ht
  · have h1 := iter_stays e' (n - i)
    rw [show i + (n - i) = n by omega] at h1
    rw [h1]
    by_cases hij : i ≤ j
    · have h2 := iter_stays e' (j - i)
      rw [show i + (j - i) = j by omega] at h2
      exact h2
    · have h2 := iter_stays e (i - j)
      rw [show j + (i - j) = i by omega] at h2
      exact h2.symm
  · have := took_le ats (iter l ats skip n c (n + 1)) n
    omega
end Go.Proofs.Ytedciihjgbkjgaa.A


/- A FACT IS INSERTED. Conditions: none. -/
namespace Go.Proofs.Ytedciihjgbkjgaa.A
open Go
set_option linter.unusedSimpArgs false
set_option linter.unusedVariables false
set_option maxRecDepth 100000

theorem goneR_take (s : Nat) (A B : List RI) : List.take A.length (goneR (ris s (A ++ B)) A.length B.length) = ris s A := by
  simp [goneR, ris]
theorem rst_ins (s : Nat) (A B : List RI) (f : RI) : rst (ris 999 A ++ (ris (s + 1) [f] ++ ris 999 B)) = ris 1 (A ++ f :: B) := by
  have e : ∀ a b : Rows, rst (a ++ b) = rst a ++ rst b := fun a b => by simp [rst]
  rw [e, e, ris_rst 998, ris_rst s, ris_rst 998, ris_append, ris_append]; rfl
theorem flat_ins (s : Nat) (f : RI) (X : Rows) : flatB (ris (s + 1) [f] ++ X) = false := by simp [flatB, ris, cRI, Cell.flatB]
theorem take_ins (s : Nat) (f : RI) (B : List RI) : List.take (1 + B.length) (ris s [f] ++ ris 999 B) = ris s [f] ++ ris 999 B := List.take_of_length_le (by simp [ris]; omega)
theorem flat_ne {s : Nat} {B : List RI} (h : 0 < B.length) : flatB (ris (s + 1) B) = false := by
  rcases B with _ | ⟨x, B⟩
  · simp at h
  · exact ris_flatN
theorem goneR_tk (L : List RI) {j : Nat} (h : j ≤ L.length) : List.take j (goneR (ris 999 L) j (L.length - j)) = ris 999 (List.take j L) := by
  have := goneR_take 999 (List.take j L) (List.drop j L)
  rw [List.take_append_drop, List.length_take, List.length_drop, Nat.min_eq_left h] at this
  exact this
theorem goneR_ln (L : List RI) {j : Nat} (h : j ≤ L.length) : List.length (goneR (ris 999 L) j (L.length - j)) = L.length := by
  simp [goneR, ris]; omega
theorem insAt (P : Nat → Bool) : ∀ n : Nat, ∃ k, k ≤ n ∧ (∀ j, j < k → P j = true) ∧ (k < n → P k = false)
  | 0 => ⟨0, Nat.le_refl _, fun j h => by omega, fun h => by omega⟩
  | n + 1 => by
    obtain ⟨k, h1, h2, h3⟩ := insAt P n
    rcases Nat.lt_or_ge k n with h | h
    · exact ⟨k, by omega, h2, fun _ => h3 h⟩
    · obtain rfl : k = n := by omega
      rcases e : P k
      · exact ⟨k, by omega, h2, fun _ => e⟩
      · refine ⟨k + 1, Nat.le_refl _, fun j hj => ?_, fun h => by omega⟩
        rcases Nat.lt_or_ge j k with h4 | h4
        · exact h2 j h4
        · obtain rfl : j = k := by omega
          exact e
end Go.Proofs.Ytedciihjgbkjgaa.A


/- DATABASES DRAWN. Conditions: none. -/
namespace Go.Proofs.Ytedciihjgbkjgaa.A
open Go
set_option linter.unusedSimpArgs false
set_option linter.unusedVariables false
set_option maxRecDepth 100000

/-- A row of steps, each of which exists. -/
theorem seqOf {α : Type} (G : Nat → α → Prop) (R : α → α → Prop) (a : α) (h0 : G 0 a) (h : ∀ k a, G k a → ∃ b, G (k + 1) b ∧ R a b) : ∃ s : Nat → α, s 0 = a ∧ ∀ k, G k (s k) ∧ R (s k) (s (k + 1)) := by
  let f : (k : Nat) → { x : α // G k x } := fun k => Nat.rec (motive := fun k => { x : α // G k x }) ⟨a, h0⟩ (fun k x => ⟨Classical.choose (h k x.1 x.2), (Classical.choose_spec (h k x.1 x.2)).1⟩) k
  exact ⟨fun k => (f k).1, rfl, fun k => ⟨(f k).2, (Classical.choose_spec (h k (f k).1 (f k).2)).2⟩⟩
theorem sigs_len (c : Cur) : (sigs c).length = 4 := rfl
theorem sigs_ok (c : Cur) : ∀ x ∈ sigs c, (1 ≤ x.ar ∧ x.ar ≤ 3) ∧ x.name.size ≤ 2 := by
  intro x hx
  unfold sigs sigR at hx
  simp only [List.mem_cons, List.not_mem_nil, or_false] at hx
  rcases hx with rfl | rfl | rfl | rfl <;> exact ⟨by simp only; omega, by simp only; decide⟩
/-- A small database. -/
structure DbS (d : Db) (m : Nat) : Prop where
  rels : d.rels.length ≤ 4
  names : ∀ x ∈ d.rels, x.name.size ≤ 2
  facts : d.facts.length ≤ m
  vals : ∀ x ∈ d.facts, x.l.length ≤ 4
theorem DbS.ok {d : Db} {m : Nat} (h : DbS d m) (hm : m ≤ 1000) : d.ok := by
  have h1 := h.rels
  have h2 := h.facts
  refine ⟨⟨by omega, fun x hx => ?_⟩, by omega, fun x hx => ?_⟩
  · have := h.names x hx; unfold Rel.ok; omega
  · have := h.vals x hx; unfold RI.ok; omega
def valL : List Int := [2, 2, 3, 3]
theorem valL_at : ∀ i : Fin 4, ∃ v : Nat, valL.getD i.val 0 = v ∧ 0 < v ∧ v ≤ 256
  | ⟨0, _⟩ => ⟨2, rfl, by omega, by omega⟩
  | ⟨1, _⟩ => ⟨2, rfl, by omega, by omega⟩
  | ⟨2, _⟩ => ⟨3, rfl, by omega, by omega⟩
  | ⟨3, _⟩ => ⟨3, rfl, by omega, by omega⟩
end Go.Proofs.Ytedciihjgbkjgaa.A


/- QUERIES: copies. Conditions: none. -/
namespace Go.Proofs.Ytedciihjgbkjgaa.A
open Go
set_option linter.unusedSimpArgs false
set_option linter.unusedVariables false
set_option maxRecDepth 100000

theorem repC {α : Type} (a : α) : List.replicate 1 a = [a] := rfl
theorem copyAtom_sat (a : RI) (h : a.l.length ≤ 1048576) : Sat Try.prog 79 [lRI a] [oRI a] [g2] := by
  refine sat_of_body mixed Try.func79 rfl (by kernel_rfl) (by kernel_rfl) (rs := [.cell 2 52]) rfl rfl rfl ?_
  simp -implicitDefEqProofs (maxSteps := 2000000) only [go_sem]
  repeat (refine ⟨by omega, ?_⟩)
  first | (with_reducible refine tr_and ?_ ?_; focus kernel_rfl) | (with_reducible refine tr_only ?_; kernel_rfl) | skip
  kernel_rfl
theorem implCopyQuery_sat (q : Qu) (h : q.ok) : Sat Try.prog 54 [lQu q] [oQu q] [g3] := by
  refine sat_of_body mixed Try.func54 rfl (by kernel_rfl) (by kernel_rfl) (rs := [.cell 2 28]) rfl rfl rfl ?_
  have hf := h.2
  have ha := h.1.1
  simp -implicitDefEqProofs (maxSteps := 2000000) only [go_sem]
  repeat (refine ⟨by omega, ?_⟩)
  first | (with_reducible refine tr_and ?_ ?_; focus kernel_rfl) | (with_reducible refine tr_only ?_; kernel_rfl) | skip
  refine awp_loop Nat (fun k => mkSt [(2, .one (.vad 1064 0)), (3, .one (.vad 1576 0)), (14, .one (.im 2 (ris 0 q.atoms))), (15, .sc (.int .i64 q.atoms.length)), (16, .sc (.int .i64 k))] [(1064, [.sc (.int .i64 0), .sc (.slice none 0 0), .sc (.slice none 0 0)]), (1576, [.sc (.int .i64 q.vc), .ref 960 2 0 k, .ref 961 1 0 q.free.length])] [(960, (2, ris 999 (q.atoms.take k))), (961, (1, ints q.free))] 4000)
    (fun k => k ≤ q.atoms.length) (fun k => q.atoms.length - k) 0 (by omega) (le_st' _ _ [⟨960, none, false, 2, _⟩, ⟨961, some _, false, 1, _⟩] [] _ (by simp -implicitDefEqProofs (maxSteps := 2000000) only [go_sem] <;> and_intros <;> rfl) (by simp -implicitDefEqProofs (maxSteps := 2000000) only [go_sem] <;> and_intros <;> rfl) (by simp -implicitDefEqProofs (maxSteps := 2000000) only [go_sem] <;> and_intros <;> rfl) (by rfl)) ?_
  rintro k h4
  by_cases c1 : k < q.atoms.length
  · have wk : IntKind.i64.wrap ((k : Int) + 1) = ((k + 1 : Nat) : Int) := i64_succ (by omega)
    have hx : (q.atoms.getD k default).l.length ≤ 1048576 := h.1.2 _ (mem_getD default c1)
    have ht : (q.atoms.take k).length = k := by rw [List.length_take]; omega
    simp -implicitDefEqProofs (maxSteps := 2000000) only [go_sem, c1]
    refine call_of (copyAtom_sat (q.atoms.getD k default) hx) (by simp -implicitDefEqProofs (maxSteps := 2000000) only [go_sem]) (callOk_still (by kernel_rfl) (by simp only [List.all_cons, List.all_nil, LV.still, LV.leaves, Leaf.still, ints_still, ris_still, eds_still, rels_still, iss_still, ems_still, Bool.and_self, Bool.and_true])) (by simp -implicitDefEqProofs (maxSteps := 2000000) only [go_sem]) ?_
    simp -implicitDefEqProofs (maxSteps := 2000000) only [go_sem]
    repeat (refine ⟨by omega, ?_⟩)
    refine tr_and (by kernel_rfl) ?_
    rw [wk]
    refine ⟨k + 1, c1, by omega, ?_⟩
    rw [take_snoc default c1]
    exact (le_st' _ _ [⟨960, some _, false, 2, _⟩, ⟨961, some _, false, 1, _⟩] [] _ (by simp -implicitDefEqProofs (maxSteps := 2000000) only [go_sem, ht, repC, List.set_cons_zero] <;> and_intros <;> rfl) (by simp -implicitDefEqProofs (maxSteps := 2000000) only [go_sem, ht, repC, List.set_cons_zero] <;> and_intros <;> rfl) (by simp -implicitDefEqProofs (maxSteps := 2000000) only [go_sem, ht, repC, List.set_cons_zero] <;> and_intros <;> rfl) (by rfl))
  · obtain rfl : k = q.atoms.length := by omega
    rw [List.take_length]
    simp -implicitDefEqProofs (maxSteps := 2000000) only [go_sem, c1]
    kernel_rfl
theorem specCopy_sat (q : Qu) (h : q.ok) : Sat Try.prog 51 [lQu q] [oQu q] [g3] := by
  refine sat_of_body mixed Try.func51 rfl (by kernel_rfl) (by kernel_rfl) (rs := [.cell 2 28]) rfl rfl rfl ?_
  have hf := h.2
  have ha := h.1.1
  simp -implicitDefEqProofs (maxSteps := 2000000) only [go_sem]
  repeat (refine ⟨by omega, ?_⟩)
  first | (with_reducible refine tr_and ?_ ?_; focus kernel_rfl) | (with_reducible refine tr_only ?_; kernel_rfl) | skip
  refine awp_loop Nat (fun k => mkSt [(1, .one (.vad 1000 0)), (2, .one (.vad 1064 0)), (3, .one (.vad 1576 0)), (4, .sc (.int .i64 k))] [(1000, sQu q), (1064, [.sc (.int .i64 0), .sc (.slice none 0 0), .sc (.slice none 0 0)]), (1576, [.sc (.int .i64 q.vc), .ref 960 2 0 k, .ref 961 1 0 q.free.length])] [(960, (2, ris 999 (q.atoms.take k))), (961, (1, ints q.free))] 4000)
    (fun k => k ≤ q.atoms.length) (fun k => q.atoms.length - k) 0 (by omega) (le_st' _ _ [⟨960, none, false, 2, _⟩, ⟨961, some _, false, 1, _⟩] [] _ (by simp -implicitDefEqProofs (maxSteps := 2000000) only [go_sem] <;> and_intros <;> rfl) (by simp -implicitDefEqProofs (maxSteps := 2000000) only [go_sem] <;> and_intros <;> rfl) (by simp -implicitDefEqProofs (maxSteps := 2000000) only [go_sem] <;> and_intros <;> rfl) (by rfl)) ?_
  rintro k h4
  by_cases c1 : k < q.atoms.length
  · have wk : IntKind.i64.wrap ((k : Int) + 1) = ((k + 1 : Nat) : Int) := i64_succ (by omega)
    have hx : (q.atoms.getD k default).l.length ≤ 1048576 := h.1.2 _ (mem_getD default c1)
    have ht : (q.atoms.take k).length = k := by rw [List.length_take]; omega
    simp -implicitDefEqProofs (maxSteps := 2000000) only [go_sem, c1]
    repeat (refine ⟨by omega, ?_⟩)
    refine tr_and (by kernel_rfl) ?_
    rw [wk]
    refine ⟨k + 1, c1, by omega, ?_⟩
    rw [take_snoc default c1]
    exact (le_st' _ _ [⟨960, some _, false, 2, _⟩, ⟨961, some _, false, 1, _⟩] [] _ (by simp -implicitDefEqProofs (maxSteps := 2000000) only [go_sem, ht, repC, List.set_cons_zero] <;> and_intros <;> rfl) (by simp -implicitDefEqProofs (maxSteps := 2000000) only [go_sem, ht, repC, List.set_cons_zero] <;> and_intros <;> rfl) (by simp -implicitDefEqProofs (maxSteps := 2000000) only [go_sem, ht, repC, List.set_cons_zero] <;> and_intros <;> rfl) (by rfl))
  · obtain rfl : k = q.atoms.length := by omega
    rw [List.take_length]
    simp -implicitDefEqProofs (maxSteps := 2000000) only [go_sem, c1]
    kernel_rfl
end Go.Proofs.Ytedciihjgbkjgaa.A


/- BLOCKS: the plain law. Conditions: none. (No program in sight.) -/
namespace Go.Proofs.Ytedciihjgbkjgaa.A
open Go
set_option linter.unusedSimpArgs false
set_option linter.unusedVariables false

/-- A relation of equal keys over sorted facts. -/
structure Eqv (S : Nat → Nat → Bool) (n : Nat) : Prop where
  refl : ∀ i, i < n → S i i = true
  symm : ∀ i j, i < n → j < n → S i j = true → S j i = true
  trans : ∀ i j k, i < n → j < n → k < n → S i j = true → S j k = true → S i k = true
  mid : ∀ i j k, i ≤ j → j ≤ k → k < n → S i k = true → S i j = true
def isFst (S : Nat → Nat → Bool) (i : Nat) : Bool := (List.range i).all fun j => !S j i
def clsOf (S : Nat → Nat → Bool) (i k : Nat) : List Nat := (List.range k).filter (S i)
def fsts (S : Nat → Nat → Bool) (k : Nat) : List Nat := (List.range k).filter (isFst S)
def blkN (S : Nat → Nat → Bool) (k : Nat) : List (List Nat) := (fsts S k).map fun i => clsOf S i k
def castL (l : List Nat) : List Int := l.map fun (i : Nat) => (i : Int)
def blk (S : Nat → Nat → Bool) (k : Nat) : List (List Int) := (blkN S k).map castL
section eqv
variable {S : Nat → Nat → Bool} {n : Nat}
theorem isFst_not {i j : Nat} (h : isFst S i = true) (hj : j < i) : S j i = false := by
  unfold isFst at h
  have := List.all_eq_true.mp h j (by simpa using hj)
  simpa using this
theorem isFst_of {i : Nat} (h : ∀ j, j < i → S j i = false) : isFst S i = true := by
  unfold isFst
  rw [List.all_eq_true]
  intro j hj
  rw [h j (by simpa using hj)]; rfl
theorem clsOf_succ (i k : Nat) : clsOf S i (k + 1) = clsOf S i k ++ if S i k then [k] else [] := by
  unfold clsOf
  rw [List.range_succ, List.filter_append]
  congr 1
  rcases h : S i k <;> simp [h]
theorem fsts_succ (k : Nat) : fsts S (k + 1) = fsts S k ++ if isFst S k then [k] else [] := by
  unfold fsts
  rw [List.range_succ, List.filter_append]
  congr 1
  rcases h : isFst S k <;> simp [h]
theorem fsts_mem {i k : Nat} : i ∈ fsts S k ↔ i < k ∧ isFst S i = true := by
  unfold fsts
  rw [List.mem_filter]; simp
theorem clsOf_mem {i j k : Nat} : j ∈ clsOf S i k ↔ j < k ∧ S i j = true := by
  unfold clsOf
  rw [List.mem_filter]; simp
theorem clsOf_fst (E : Eqv S n) {i k : Nat} (hk : k ≤ n) (hi : i < k) (h : isFst S i = true) : ∃ t, clsOf S i k = i :: t := by
  obtain ⟨d, rfl⟩ := Nat.le.dest (show i + 1 ≤ k from hi)
  unfold clsOf
  rw [List.range_add, List.range_succ, List.filter_append, List.filter_append]
  have : (List.range i).filter (S i) = [] := by
    rw [List.filter_eq_nil_iff]
    intro j hj
    have hj : j < i := by simpa using hj
    intro hs
    have := E.symm i j (by omega) (by omega) hs
    rw [isFst_not h hj] at this; cases this
  rw [this]
  simp [E.refl i (by omega)]
/-- A new fact begins a block. -/
theorem blkN_new (E : Eqv S n) {k : Nat} (hk : k < n) (h : isFst S k = true) : blkN S (k + 1) = blkN S k ++ [[k]] := by
  unfold blkN
  rw [fsts_succ, h, if_pos rfl, List.map_append, List.map_singleton]
  congr 1
  · refine List.map_congr_left fun i hi => ?_
    obtain ⟨h1, h2⟩ := fsts_mem.mp hi
    rw [clsOf_succ, isFst_not h h1]; simp
  · rw [clsOf_succ, E.refl k hk, if_pos rfl]
    have : clsOf S k k = [] := by
      unfold clsOf
      rw [List.filter_eq_nil_iff]
      intro j hj
      have hj : j < k := by simpa using hj
      intro hs
      have := E.symm k j hk (by omega) hs
      rw [isFst_not h hj] at this; cases this
    rw [this]; rfl
/-- The least of those that a fact shares its block with. -/
theorem least {p : Nat → Bool} : ∀ {k : Nat}, (∃ j, j < k ∧ p j = true) → ∃ j, j < k ∧ p j = true ∧ ∀ i, i < j → p i = false
  | 0, ⟨j, h, _⟩ => by omega
  | k + 1, ⟨j, h1, h2⟩ => by
    by_cases e : ∃ j, j < k ∧ p j = true
    · obtain ⟨j, h3, h4, h5⟩ := least e
      exact ⟨j, by omega, h4, h5⟩
    · have hj : j = k := by
        rcases Nat.lt_or_ge j k with h | h
        · exact absurd ⟨j, h, h2⟩ e
        · omega
      subst hj
      refine ⟨j, by omega, h2, fun i hi => ?_⟩
      rcases hp : p i
      · rfl
      · exact absurd ⟨i, hi, hp⟩ e
/-- A fact joins the last block. -/
theorem blkN_join (E : Eqv S n) {k : Nat} (hk : k < n) (h : isFst S k = false) : ∃ (L : List (List Nat)) (i : Nat) (t : List Nat), blkN S k = L ++ [i :: t] ∧ S i k = true ∧ i < k ∧ blkN S (k + 1) = L ++ [(i :: t) ++ [k]] := by
  have hex : ∃ j, j < k ∧ S j k = true := by
    refine Classical.byContradiction fun hn => ?_
    rw [isFst_of (fun j hj => by
      rcases e : S j k
      · rfl
      · exact absurd ⟨j, hj, e⟩ hn)] at h
    cases h
  obtain ⟨i, h1, h2, h3⟩ := least hex
  have hfi : isFst S i = true := isFst_of fun j hj => by
    rcases e : S j i
    · rfl
    · have := E.trans j i k (by omega) (by omega) hk e h2
      rw [h3 j hj] at this; cases this
  have hfs : fsts S k = fsts S i ++ [i] := by
    obtain ⟨d, rfl⟩ := Nat.le.dest (show i + 1 ≤ k from h1)
    unfold fsts
    rw [List.range_add, List.filter_append, List.range_succ, List.filter_append]
    have e1 : List.filter (isFst S) [i] = [i] := by simp [hfi]
    have e2 : List.filter (isFst S) ((List.range d).map (i + 1 + ·)) = [] := by
      rw [List.filter_eq_nil_iff]
      intro j hj
      obtain ⟨m, hm, rfl⟩ := List.mem_map.mp hj
      have hm : m < d := by simpa using hm
      intro hf
      have := E.mid i (i + 1 + m) (i + 1 + d) (by omega) (by omega) hk h2
      rw [isFst_not hf (by omega)] at this; cases this
    rw [e1, e2, List.append_nil]
  obtain ⟨t, ht⟩ := clsOf_fst E (k := k) (by omega) h1 hfi
  refine ⟨(fsts S i).map (fun j => clsOf S j k), i, t, ?_, h2, h1, ?_⟩
  · unfold blkN
    rw [hfs, List.map_append, List.map_singleton, ht]
  · unfold blkN
    rw [fsts_succ, h, hfs]
    simp only [Bool.false_eq_true, if_false, List.append_nil, List.map_append, List.map_singleton]
    rw [clsOf_succ i k, h2, if_pos rfl, ht]
    congr 1
    refine List.map_congr_left fun j hj => ?_
    obtain ⟨g1, g2⟩ := fsts_mem.mp hj
    rw [clsOf_succ]
    rcases e : S j k
    · simp
    · have := E.trans j k i (by omega) hk (by omega) e (E.symm i k (by omega) hk h2)
      rw [isFst_not hfi g1] at this; cases this
theorem blk_new (E : Eqv S n) {k : Nat} (hk : k < n) (h : isFst S k = true) : blk S (k + 1) = blk S k ++ [[(k : Int)]] := by
  unfold blk
  rw [blkN_new E hk h]; simp [castL]
theorem blk_join (E : Eqv S n) {k : Nat} (hk : k < n) (h : isFst S k = false) : ∃ (L : List (List Int)) (i : Nat) (t : List Int), blk S k = L ++ [(i : Int) :: t] ∧ S i k = true ∧ i < k ∧ blk S (k + 1) = L ++ [(((i : Int) :: t) ++ [(k : Int)])] := by
  obtain ⟨L, i, t, h1, h2, h3, h4⟩ := blkN_join E hk h
  refine ⟨L.map castL, i, castL t, ?_, h2, h3, ?_⟩
  · unfold blk; rw [h1]; simp [castL]
  · unfold blk; rw [h4]; simp [castL]
/-- The last block of what there is, where a new one begins. -/
theorem blk_last (E : Eqv S n) {k : Nat} (hk : k < n) (h : isFst S k = true) {L : List (List Int)} {b : List Int} (e : blk S k = L ++ [b]) : ∃ (i : Nat) (t : List Int), b = (i : Int) :: t ∧ i < k ∧ S i k = false := by
  have hb : b ∈ blk S k := by rw [e]; simp
  unfold blk at hb
  obtain ⟨c, hc, rfl⟩ := List.mem_map.mp hb
  unfold blkN at hc
  obtain ⟨i, hi, rfl⟩ := List.mem_map.mp hc
  obtain ⟨h1, h2⟩ := fsts_mem.mp hi
  obtain ⟨t, ht⟩ := clsOf_fst E (k := k) (by omega) h1 h2
  exact ⟨i, castL t, by rw [ht]; rfl, h1, isFst_not h h1⟩
theorem blk_zero : blk S 0 = [] := rfl
theorem blk_sum (E : Eqv S n) : ∀ {k : Nat}, k ≤ n → ((blk S k).map List.length).sum = k
  | 0, _ => rfl
  | k + 1, hk => by
    have ih := blk_sum E (k := k) (by omega)
    rcases h : isFst S k
    · obtain ⟨L, i, t, h1, _, _, h4⟩ := blk_join E (k := k) (by omega) h
      rw [h4]
      rw [h1] at ih
      simp at ih ⊢
      omega
    · rw [blk_new E (by omega) h]
      simp [ih]
theorem blk_ne (E : Eqv S n) {k : Nat} (hk : k ≤ n) : ∀ b ∈ blk S k, 0 < b.length := by
  intro b hb
  unfold blk at hb
  obtain ⟨c, hc, rfl⟩ := List.mem_map.mp hb
  unfold blkN at hc
  obtain ⟨i, hi, rfl⟩ := List.mem_map.mp hc
  obtain ⟨h1, h2⟩ := fsts_mem.mp hi
  obtain ⟨t, ht⟩ := clsOf_fst E hk h1 h2
  rw [ht]; simp [castL]
/-- Blocks lie one behind another. -/
theorem blk_asc (E : Eqv S n) {k : Nat} (hk : k ≤ n) : (blk S k).Pairwise fun a b => ∀ x ∈ a, ∀ y ∈ b, x < y := by
  unfold blk blkN
  rw [List.map_map, List.pairwise_map]
  have hs : (fsts S k).Pairwise (· < ·) := List.Pairwise.filter _ List.pairwise_lt_range
  refine List.Pairwise.imp_of_mem (fun {i j} hi hj hij => ?_) hs
  obtain ⟨a1, a2⟩ := fsts_mem.mp hi
  obtain ⟨b1, b2⟩ := fsts_mem.mp hj
  intro x hx y hy
  obtain ⟨x', hx', rfl⟩ := List.mem_map.mp hx
  obtain ⟨y', hy', rfl⟩ := List.mem_map.mp hy
  obtain ⟨c1, c2⟩ := clsOf_mem.mp hx'
  obtain ⟨d1, d2⟩ := clsOf_mem.mp hy'
  have hjy : j ≤ y' := by
    rcases Nat.lt_or_ge y' j with h | h
    · have := E.symm j y' (by omega) (by omega) d2
      rw [isFst_not b2 h] at this; cases this
    · exact h
  have hno : S i j = false := isFst_not b2 hij
  have : x' < y' := by
    rcases Nat.lt_or_ge x' y' with h | h
    · exact h
    · have := E.mid i j x' (by omega) (by omega) (by omega) c2
      rw [hno] at this; cases this
  omega
end eqv

/-! #### repairs by their rank -/
def prodL : List (List Int) → Nat
  | [] => 1
  | b :: l => b.length * prodL l
theorem prodL_append : ∀ (a b : List (List Int)), prodL (a ++ b) = prodL a * prodL b
  | [], b => by simp [prodL]
  | x :: a, b => by rw [List.cons_append, prodL, prodL, prodL_append a b, Nat.mul_assoc]
theorem lt_two_pow (n : Nat) : n ≤ 2 ^ n := Nat.le_of_lt Nat.lt_two_pow_self
theorem prodL_le : ∀ (l : List (List Int)), prodL l ≤ 2 ^ ((l.map List.length).sum)
  | [] => by simp [prodL]
  | b :: l => by
    rw [prodL, List.map_cons, List.sum_cons, Nat.pow_add]
    exact Nat.mul_le_mul (lt_two_pow _) (prodL_le l)
theorem prodL_pos : ∀ {l : List (List Int)}, (∀ b ∈ l, 0 < b.length) → 0 < prodL l
  | [], _ => by simp [prodL]
  | b :: l, h => by
    rw [prodL]
    exact Nat.mul_pos (h b (by simp)) (prodL_pos fun c hc => h c (by simp [hc]))
def pickR : List (List Int) → Nat → List Int × Nat
  | [], r => ([], r)
  | b :: l, r => (b.getD ((pickR l r).2 % b.length) 0 :: (pickR l r).1, (pickR l r).2 / b.length)
theorem pickR_len : ∀ (l : List (List Int)) (r : Nat), (pickR l r).1.length = l.length
  | [], r => rfl
  | b :: l, r => by rw [pickR, List.length_cons, List.length_cons, pickR_len l r]
theorem pickR_le : ∀ (l : List (List Int)) (r : Nat), (pickR l r).2 ≤ r
  | [], r => Nat.le_refl _
  | b :: l, r => Nat.le_trans (Nat.div_le_self _ _) (pickR_le l r)
theorem pickR_drop {l : List (List Int)} {i : Nat} (h : i < l.length) (r : Nat) : pickR (l.drop i) r = ((l.getD i []).getD ((pickR (l.drop (i + 1)) r).2 % (l.getD i []).length) 0 :: (pickR (l.drop (i + 1)) r).1, (pickR (l.drop (i + 1)) r).2 / (l.getD i []).length) := by
  rw [List.drop_eq_getElem_cons h, pickR]
  simp [List.getD_eq_getElem?_getD, h]
theorem pickR_mem : ∀ {l : List (List Int)} {r : Nat} {x : Int}, (∀ b ∈ l, 0 < b.length) → x ∈ (pickR l r).1 → ∃ b ∈ l, x ∈ b
  | [], r, x, _, h => by cases h
  | b :: l, r, x, hl, h => by
    rw [pickR] at h
    rcases List.mem_cons.mp h with rfl | h
    · exact ⟨b, by simp, by
        have hb := hl b (by simp)
        rw [List.getD_eq_getElem?_getD, List.getElem?_eq_getElem (Nat.mod_lt _ hb)]
        exact List.getElem_mem _⟩
    · obtain ⟨c, hc, hx⟩ := pickR_mem (fun c hc => hl c (by simp [hc])) h
      exact ⟨c, by simp [hc], hx⟩
theorem pickR_asc : ∀ {l : List (List Int)} {r : Nat}, (∀ b ∈ l, 0 < b.length) → (l.Pairwise fun a b => ∀ x ∈ a, ∀ y ∈ b, x < y) → (pickR l r).1.Pairwise (· < ·)
  | [], r, _, _ => List.Pairwise.nil
  | b :: l, r, hl, hp => by
    rw [pickR]
    rw [List.pairwise_cons] at hp ⊢
    refine ⟨fun y hy => ?_, pickR_asc (fun c hc => hl c (by simp [hc])) hp.2⟩
    obtain ⟨c, hc, hyc⟩ := pickR_mem (fun c hc => hl c (by simp [hc])) hy
    refine hp.1 c hc _ ?_ y hyc
    have hb := hl b (by simp)
    rw [List.getD_eq_getElem?_getD, List.getElem?_eq_getElem (Nat.mod_lt _ hb)]
    exact List.getElem_mem _
theorem sort_rev {l : List Int} (h : l.Pairwise (· < ·)) : sortI l.reverse = l :=
  sorted_uni (sortI_sorted _) (h.imp fun h => by omega) ((sortI_perm _).trans (List.reverse_perm l))
end Go.Proofs.Ytedciihjgbkjgaa.A


/- EMBEDDINGS. Conditions: none. -/
namespace Go.Proofs.Ytedciihjgbkjgaa.A
open Go
set_option linter.unusedSimpArgs false
set_option linter.unusedVariables false
set_option maxRecDepth 100000

abbrev lEmb (e : Emb) : LV := .agg [.im 1 (ints e.vs), .im 1 (ints e.fs)]
abbrev oEmb (e : Emb) : LV := .agg [.ow 1 (ints e.vs), .ow 1 (ints e.fs)]
def szEmb (e : Emb) (n : Int) : Int := if szl e.vs n < 0 then -1 else if szl e.fs (szl e.vs n) < 0 then -1 else szl e.fs (szl e.vs n)
theorem szEmb_len {e : Emb} {n : Int} (h : -1 ≤ n ∧ n ≤ 1048576) (h0 : ¬ szEmb e n < 0) : e.vs.length ≤ 1048576 ∧ e.fs.length ≤ 1048576 ∧ -1 ≤ szEmb e n ∧ szEmb e n ≤ 1048576 := by
  unfold szEmb at h0 ⊢
  have a1 := szl_le (a := e.vs) h
  split at h0
  · omega
  · rename_i c1
    have a2 := szl_le (a := e.fs) a1
    split at h0
    · omega
    · rename_i c2
      rw [if_neg c1, if_neg c2]
      exact ⟨szl_len h.2 c1, szl_len a1.2 c2, a2⟩
theorem decide_and {p q : Prop} [Decidable p] [Decidable q] (h : p) : decide (p ∧ q) = decide q := by simp [h]
end Go.Proofs.Ytedciihjgbkjgaa.A


/- LISTS OF EMBEDDINGS: how they lie, comparison, marks. Conditions: none. -/
namespace Go.Proofs.Ytedciihjgbkjgaa.A
open Go
set_option linter.unusedSimpArgs false
set_option linter.unusedVariables false
set_option maxRecDepth 100000

abbrev lEms (a : List Emb) : LV := .one (.im 2 (ems 0 a))
abbrev oEms (a : List Emb) : LV := .one (.ow 2 (ems 1 a))

def numEm : List Emb → Nat
  | [] => 0
  | a :: l => a.vs.length + a.fs.length + numEm l
def markEm : List Emb → Int → List Emb
  | [], _ => []
  | a :: l, k => ⟨cnt k a.vs.length, cnt (k + a.vs.length) a.fs.length⟩ :: markEm l (k + a.vs.length + a.fs.length)
theorem numEm_nil : numEm [] = 0 := rfl
attribute [go_sem] numEm_nil
theorem markEm_length : ∀ (a : List Emb) (k : Int), (markEm a k).length = a.length
  | [], _ => rfl
  | a :: l, k => by rw [markEm, List.length_cons, List.length_cons, markEm_length]
theorem numEm_take {a : List Emb} {i : Nat} (h : i < a.length) : numEm (a.take (i + 1)) = numEm (a.take i) + (a.getD i default).vs.length + (a.getD i default).fs.length := by
  induction a generalizing i with
  | nil => simp at h
  | cons x a ih =>
    cases i with
    | zero => simp [numEm]
    | succ i =>
      have := ih (i := i) (by simpa using h)
      rw [List.take_succ_cons, List.take_succ_cons, numEm, numEm, this, List.getD_cons_succ]; omega
theorem numEm_le : ∀ {a : List Emb} (i : Nat), numEm (a.take i) ≤ numEm a
  | [], i => by simp [numEm]
  | x :: a, 0 => by simp [numEm]
  | x :: a, i + 1 => by
    rw [List.take_succ_cons, numEm, numEm]
    have := numEm_le (a := a) i
    omega
theorem numEm_small {n m : Nat} : ∀ {a : List Emb}, (∀ x ∈ a, x.vs.length ≤ n ∧ x.fs.length ≤ m) → numEm a ≤ a.length * (n + m)
  | [], _ => by simp [numEm]
  | x :: a, h => by
    have h1 := numEm_small (a := a) fun y hy => h y (List.mem_cons_of_mem _ hy)
    have h2 := h x (List.mem_cons_self ..)
    rw [numEm, List.length_cons, Nat.add_mul]; omega
theorem markEm_get : ∀ {a : List Emb} {k : Int} {i : Nat}, i < a.length → (markEm a k).getD i default = ⟨cnt (k + numEm (a.take i)) (a.getD i default).vs.length, cnt (k + numEm (a.take i) + (a.getD i default).vs.length) (a.getD i default).fs.length⟩
  | x :: a, k, 0, _ => by simp [markEm, numEm]
  | x :: a, k, i + 1, h => by
    rw [markEm, List.getD_cons_succ, markEm_get (by simpa using h), List.getD_cons_succ, List.take_succ_cons, numEm]
    have e : k + (x.vs.length : Int) + (x.fs.length : Int) + (numEm (a.take i) : Int) = k + ((x.vs.length + x.fs.length + numEm (a.take i) : Nat) : Int) := by omega
    rw [e]
theorem markEm_full (a : List Emb) (k : Int) : List.take a.length (markEm a k) = markEm a k := List.take_of_length_le (by rw [markEm_length]; omega)
attribute [go_sem] markEm_full
theorem Emb.eq_iff (a b : Emb) : decide (a = b) = (decide (a.vs = b.vs) && decide (a.fs = b.fs)) := by cases a; cases b; simp
end Go.Proofs.Ytedciihjgbkjgaa.A


/- QUERIES FOR DATABASES. Conditions: none. -/
namespace Go.Proofs.Ytedciihjgbkjgaa.A
open Go
set_option linter.unusedSimpArgs false
set_option linter.unusedVariables false
set_option maxRecDepth 100000

def queryFor (d : Db) (q : Qu) : Bool := goodDb d && goodQu d.rels q
end Go.Proofs.Ytedciihjgbkjgaa.A


/- EMBEDDINGS: the plain search. Conditions: none. (No program in sight.) -/
namespace Go.Proofs.Ytedciihjgbkjgaa.A
open Go
set_option linter.unusedSimpArgs false
set_option linter.unusedVariables false

def stepU (x : List Int) (t f : Int) : Option (List Int) :=
  if t < 0 then (if -1 - t = f then some x else none)
  else if x.getD t.toNat 0 < 0 then some (x.set t.toNat f)
  else if x.getD t.toNat 0 = f then some x else none
def uniS (ts fs vs : List Int) : Nat → Option (List Int)
  | 0 => some vs
  | k + 1 => (uniS ts fs vs k).bind fun x => stepU x (ts.getD k 0) (fs.getD k 0)
theorem stepU_len {x y : List Int} {t f : Int} (h : stepU x t f = some y) : y.length = x.length := by
  unfold stepU at h
  split at h
  · split at h
    · cases h; rfl
    · cases h
  · split at h
    · cases h; simp
    · split at h
      · cases h; rfl
      · cases h
theorem uniS_len {ts fs vs : List Int} : ∀ {k : Nat} {x : List Int}, uniS ts fs vs k = some x → x.length = vs.length
  | 0, x, h => by cases h; rfl
  | k + 1, x, h => by
    rw [uniS] at h
    rcases e : uniS ts fs vs k with _ | y
    · rw [e] at h; cases h
    · rw [e, Option.bind_some] at h
      rw [stepU_len h, uniS_len e]
theorem uniS_none {ts fs vs : List Int} {k : Nat} (h : uniS ts fs vs k = none) : ∀ d : Nat, uniS ts fs vs (k + d) = none
  | 0 => h
  | d + 1 => by rw [← Nat.add_assoc, uniS, uniS_none h d]; rfl
theorem uniS_stop {ts fs vs : List Int} {k n : Nat} (h : uniS ts fs vs k = none) (hn : k ≤ n) : uniS ts fs vs n = none := by
  obtain ⟨d, rfl⟩ := Nat.le.dest hn
  exact uniS_none h d
theorem uniS_step {ts fs vs x : List Int} {k : Nat} (h : uniS ts fs vs k = some x) : uniS ts fs vs (k + 1) = stepU x (ts.getD k 0) (fs.getD k 0) := by
  rw [uniS, h]; rfl
/-- The last state before the search fell. -/
def uniL (ts fs vs : List Int) : Nat → List Int
  | 0 => vs
  | k + 1 => match uniS ts fs vs (k + 1) with
    | some x => x
    | none => uniL ts fs vs k
theorem uniL_some {ts fs vs x : List Int} : ∀ {k : Nat}, uniS ts fs vs k = some x → uniL ts fs vs k = x
  | 0, h => by cases h; rfl
  | k + 1, h => by rw [uniL, h]
theorem uniL_none {ts fs vs x : List Int} {k : Nat} (h : uniS ts fs vs k = some x) (h2 : uniS ts fs vs (k + 1) = none) : ∀ d : Nat, uniL ts fs vs (k + 1 + d) = x
  | 0 => by
    rw [Nat.add_zero, uniL, h2]
    exact uniL_some h
  | d + 1 => by
    rw [← Nat.add_assoc, uniL, show uniS ts fs vs (k + 1 + d + 1) = none from uniS_none (k := k + 1) h2 (d + 1)]
    exact uniL_none h h2 d
theorem uniL_stop {ts fs vs x : List Int} {k n : Nat} (h : uniS ts fs vs k = some x) (h2 : uniS ts fs vs (k + 1) = none) (hn : k < n) : uniL ts fs vs n = x := by
  obtain ⟨d, rfl⟩ := Nat.le.dest (show k + 1 ≤ n from hn)
  exact uniL_none h h2 d
def meet (a f : RI) (vs : List Int) : Option (List Int) := if f.r = a.r then uniS a.l f.l vs a.l.length else none
def meetV (a f : RI) (vs : List Int) : List Int := if f.r = a.r then uniL a.l f.l vs a.l.length else vs
theorem meet_len {a f : RI} {vs x : List Int} (h : meet a f vs = some x) : x.length = vs.length := by
  unfold meet at h
  split at h
  · exact uniS_len h
  · cases h
theorem meetV_eq {a f : RI} {vs x : List Int} (h : meet a f vs = some x) : meetV a f vs = x := by
  unfold meet at h
  unfold meetV
  split at h
  · rw [if_pos (by assumption)]; exact uniL_some h
  · cases h
/-- What one round finds: g tells it of each fact. -/
def found {α : Type} (g : Nat → List α) (k : Nat) : List α := (List.range k).flatMap g
theorem found_zero {α : Type} (g : Nat → List α) : found g 0 = [] := rfl
theorem found_succ {α : Type} (g : Nat → List α) (k : Nat) : found g (k + 1) = found g k ++ g k := by
  unfold found
  rw [List.range_succ, List.flatMap_append]; simp
theorem found_len {α : Type} {g : Nat → List α} {b : Nat} (h : ∀ i, (g i).length ≤ b) : ∀ k, (found g k).length ≤ k * b
  | 0 => by simp [found_zero]
  | k + 1 => by
    rw [found_succ, List.length_append, Nat.add_mul]
    have := found_len h k
    have := h k
    omega
theorem found_mem {α : Type} {g : Nat → List α} {k : Nat} {x : α} : x ∈ found g k ↔ ∃ i, i < k ∧ x ∈ g i := by
  unfold found
  rw [List.mem_flatMap]
  constructor
  · rintro ⟨i, h1, h2⟩; exact ⟨i, by simpa using h1, h2⟩
  · rintro ⟨i, h1, h2⟩; exact ⟨i, by simpa using h1, h2⟩
def atomAt (ats : List RI) (m : Nat) : RI := ats.getD (ats.length - (m + 1)) default
def walkE (ds ats : List RI) : Nat → List Int → List Int → List Emb
  | 0, vs, fs => [⟨vs, fs⟩]
  | m + 1, vs, fs => found (fun i => match meet (atomAt ats m) (ds.getD i default) vs with
    | some x => walkE ds ats m x (fs ++ [(i : Int)])
    | none => []) ds.length
def oneE (ds ats : List RI) (m : Nat) (vs fs : List Int) (i : Nat) : List Emb := match meet (atomAt ats m) (ds.getD i default) vs with
    | some x => walkE ds ats m x (fs ++ [(i : Int)])
    | none => []
theorem walkE_succ (ds ats : List RI) (m : Nat) (vs fs : List Int) : walkE ds ats (m + 1) vs fs = found (oneE ds ats m vs fs) ds.length := rfl
theorem oneE_some {ds ats : List RI} {m i : Nat} {vs fs x : List Int} (h : meet (atomAt ats m) (ds.getD i default) vs = some x) : oneE ds ats m vs fs i = walkE ds ats m x (fs ++ [(i : Int)]) := by unfold oneE; rw [h]
theorem oneE_none {ds ats : List RI} {m i : Nat} {vs fs : List Int} (h : meet (atomAt ats m) (ds.getD i default) vs = none) : oneE ds ats m vs fs i = [] := by unfold oneE; rw [h]
theorem walkE_len {ds ats : List RI} (hd : ds.length ≤ 14) : ∀ (m : Nat) (vs fs : List Int), (walkE ds ats m vs fs).length ≤ 14 ^ m
  | 0, _, _ => by simp [walkE]
  | m + 1, vs, fs => by
    rw [walkE_succ]
    have h1 : ∀ i, (oneE ds ats m vs fs i).length ≤ 14 ^ m := by
      intro i
      unfold oneE
      split
      · exact walkE_len hd m _ _
      · simp
    have h2 := found_len h1 ds.length
    have h3 := Nat.mul_le_mul_right (14 ^ m) hd
    rw [Nat.pow_succ, Nat.mul_comm (14 ^ m)]
    omega
theorem walkE_mem {ds ats : List RI} : ∀ {m : Nat} {vs fs : List Int}, ∀ e ∈ walkE ds ats m vs fs, e.vs.length = vs.length ∧ e.fs.length = fs.length + m
  | 0, vs, fs, e, h => by
    simp only [walkE, List.mem_singleton] at h
    subst h; exact ⟨rfl, rfl⟩
  | m + 1, vs, fs, e, h => by
    rw [walkE_succ, found_mem] at h
    obtain ⟨i, _, h⟩ := h
    unfold oneE at h
    split at h
    · rename_i x hx
      obtain ⟨h1, h2⟩ := walkE_mem e h
      rw [List.length_append, List.length_singleton] at h2
      exact ⟨by rw [h1, meet_len hx], by omega⟩
    · cases h
theorem pow14E {m : Nat} (h : m ≤ 3) : 14 ^ m ≤ 2744 := Nat.pow_le_pow_right (by omega) h
/-- ALL EMBEDDINGS. -/
def embs (d : Db) (q : Qu) : List Emb := if queryFor d q then walkE d.facts q.atoms q.atoms.length (List.replicate q.vc.toNat (-1)) [] else []
theorem queryFor_db {d : Db} {q : Qu} (h : queryFor d q = true) : goodDb d = true := by
  unfold queryFor at h; rw [Bool.and_eq_true] at h; exact h.1
theorem queryFor_qu {d : Db} {q : Qu} (h : queryFor d q = true) : goodQu d.rels q = true := by
  unfold queryFor at h; rw [Bool.and_eq_true] at h; exact h.2
theorem goodDb_len {d : Db} (h : goodDb d = true) : d.facts.length ≤ 14 := by
  unfold goodDb at h
  simp only [Bool.and_eq_true, decide_eq_true_eq] at h
  omega
theorem goodQu_parts {l : List Rel} {q : Qu} (h : goodQu l q = true) : (0 ≤ q.vc ∧ q.vc ≤ 4) ∧ 1 ≤ q.atoms.length ∧ q.atoms.length ≤ 3 := by
  unfold goodQu at h
  simp only [Bool.and_eq_true] at h
  have a1 := inB_of h.2.1
  have a2 := inB_of h.2.2.1
  omega
theorem goodDb_fact {d : Db} (h : goodDb d = true) {i : Nat} (hi : i < d.facts.length) : goodFact d.rels (d.facts.getD i default) = true := by
  unfold goodDb at h
  simp only [Bool.and_eq_true] at h
  have := upTo_at h.2.2 hi
  unfold factOk at this
  rw [Bool.and_eq_true] at this
  exact this.1
theorem goodQu_at {l : List Rel} {q : Qu} (h : goodQu l q = true) {k : Nat} (hk : k < q.atoms.length) : atomOk l q k = true := by
  unfold goodQu at h
  simp only [Bool.and_eq_true] at h
  exact upTo_at h.2.2.2.2.1 hk
theorem meet_lens {d : Db} {q : Qu} (h : queryFor d q = true) {k i : Nat} (hk : k < q.atoms.length) (hi : i < d.facts.length) (e : (d.facts.getD i default).r = (q.atoms.getD k default).r) : (d.facts.getD i default).l.length = (q.atoms.getD k default).l.length := by
  have h1 := goodDb_fact (queryFor_db h) hi
  have h2 := goodQu_at (queryFor_qu h) hk
  unfold goodFact at h1
  unfold atomOk relAt at h2
  simp only [Bool.and_eq_true, beq_iff_eq] at h1 h2
  have a1 := h1.2.1
  have a2 := h2.1.2
  rw [e] at a1
  omega
/-- Terms that name variables of a list or are constants. -/
def tsOk (n : Nat) (ts : List Int) : Prop := ∀ k, k < ts.length → -10 ≤ ts.getD k 0 ∧ ts.getD k 0 < n
theorem tsOk_at {l : List Rel} {q : Qu} (h : goodQu l q = true) {k : Nat} (hk : k < q.atoms.length) : tsOk q.vc.toNat (q.atoms.getD k default).l := by
  have h2 := goodQu_at h hk
  have hp := goodQu_parts h
  unfold atomOk at h2
  simp only [Bool.and_eq_true] at h2
  intro j hj
  have := upTo_at h2.2.2 hj
  unfold termOk at this
  have := inB_of this
  omega
end Go.Proofs.Ytedciihjgbkjgaa.A


/- VIOLATIONS OF CONSTRAINTS, EQUAL KEYS. Conditions: none. -/
namespace Go.Proofs.Ytedciihjgbkjgaa.A
open Go
set_option linter.unusedSimpArgs false
set_option linter.unusedVariables false
set_option maxRecDepth 100000

abbrev at0 (l : List Int) (i : Int) : Int := l.getD i.toNat 0
def viol (x : Den) (a b : RI) : Bool := (a.r == x.fr) && ((b.r == x.sr) && ((at0 a.l x.fj == at0 b.l x.sj) && (if x.cp = 1 then at0 a.l x.fc == at0 b.l x.sc else decide (at0 a.l x.fc < at0 b.l x.sc))))
def IdxOk (x : Den) (a b : RI) : Prop := (x.cp = 1 ∨ x.cp = 2) ∧ (a.r = x.fr → b.r = x.sr → (0 ≤ x.fj ∧ x.fj < a.l.length) ∧ (0 ≤ x.sj ∧ x.sj < b.l.length) ∧ (0 ≤ x.fc ∧ x.fc < a.l.length) ∧ (0 ≤ x.sc ∧ x.sc < b.l.length))
theorem idx_ok {d : Db} {x : Den} {a b : RI} (h : goodDen d x = true) (ha : goodFact d.rels a = true) (hb : goodFact d.rels b = true) : IdxOk x a b := by
  unfold goodDen at h
  simp only [Bool.and_eq_true] at h
  obtain ⟨g, i1, i2, j1, j2, j3, j4, j5⟩ := h
  have k1 := inB_of j1
  have k2 := inB_of j2
  have k3 := inB_of j3
  have k4 := inB_of j4
  have k5 := inB_of j5
  refine ⟨by omega, fun e1 e2 => ?_⟩
  obtain ⟨m, hm, hm2, hm3⟩ := fact_at ha
  obtain ⟨n, hn, hn2, hn3⟩ := fact_at hb
  have t1 : x.fr.toNat = m := by omega
  have t2 : x.sr.toNat = n := by omega
  unfold arOf at k1 k2 k3 k4
  rw [t1, ← hm3] at k1 k2
  rw [t2, ← hn3] at k3 k4
  omega
def violB (d : Db) (x : Den) (i k : Int) : Bool := goodDen d x && ((i != k) && (inB i 0 ((d.facts.length : Int) - 1) && (inB k 0 ((d.facts.length : Int) - 1) && viol x (d.facts.getD i.toNat default) (d.facts.getD k.toNat default))))
end Go.Proofs.Ytedciihjgbkjgaa.A


/- EQUAL KEYS, CONFLICT EDGES. Conditions: none. -/
namespace Go.Proofs.Ytedciihjgbkjgaa.A
open Go
set_option linter.unusedSimpArgs false
set_option linter.unusedVariables false
set_option maxRecDepth 100000

abbrev klOf (l : List Rel) (r : Int) : Nat := (l.getD r.toNat default).kl.toNat
def sameK (l : List Rel) (a b : RI) : Bool := (a.r == b.r) && decide (a.l.take (klOf l a.r) = b.l.take (klOf l a.r))
def rowE (p : Nat → Nat → Bool) (a : Nat) : Nat → List Edge
  | 0 => []
  | b + 1 => if decide (a < b) && p a b then rowE p a b ++ [⟨a, b⟩] else rowE p a b
def allE (p : Nat → Nat → Bool) (n : Nat) : Nat → List Edge
  | 0 => []
  | a + 1 => allE p n a ++ rowE p a n
theorem rowE_nil (p : Nat → Nat → Bool) (a : Nat) : ∀ b, b ≤ a + 1 → rowE p a b = []
  | 0, _ => rfl
  | b + 1, h => by
    rw [rowE, rowE_nil p a b (by omega), decide_eq_false (by omega : ¬ a < b)]; rfl
theorem rowE_len (p : Nat → Nat → Bool) (a : Nat) : ∀ b, (rowE p a b).length ≤ b
  | 0 => by simp [rowE]
  | b + 1 => by
    have := rowE_len p a b
    unfold rowE; split
    · simp; omega
    · omega
theorem allE_len (p : Nat → Nat → Bool) (n : Nat) : ∀ a, (allE p n a).length ≤ a * n
  | 0 => by simp [allE]
  | a + 1 => by
    have h1 := allE_len p n a
    have h2 := rowE_len p a n
    rw [allE, List.length_append, Nat.add_mul, Nat.one_mul]; omega
def hit (d : Db) (i k : Int) (x : Den) : Bool := violB d x i k || violB d x k i
def confl (d : Db) (l : List Den) (i k : Nat) : Bool := l.any (hit d i k) || sameK d.rels (d.facts.getD i default) (d.facts.getD k default)
def edgesOf (d : Db) (l : List Den) : List Edge := if goodDb d then allE (confl d l) d.facts.length d.facts.length else []
theorem edgesOf_len (d : Db) (l : List Den) : (edgesOf d l).length ≤ 196 := by
  unfold edgesOf
  split
  · rename_i g
    have h := allE_len (confl d l) d.facts.length d.facts.length
    have h2 := (db_of g).2.1
    have h3 : d.facts.length * d.facts.length ≤ 14 * 14 := Nat.mul_le_mul h2 h2
    omega
  · simp
abbrev fDb (d : Db) : List Fld := [.im 3 (rels d.rels), .im 2 (ris 0 d.facts)]
abbrev fDens (l : List Den) : List Fld := [.im 7 (dens l)]
theorem any_step {α : Type} {d : α} {l : List α} {k : Nat} {p : α → Bool} (h : k < l.length) : (l.take (k + 1)).any p = ((l.take k).any p || p (l.getD k d)) := by
  rw [take_snoc d h, List.any_append]; simp
theorem any_hit {α : Type} {d : α} {l : List α} {k : Nat} {p : α → Bool} (h : k < l.length) (hp : p (l.getD k d) = true) : l.any p = true := List.any_eq_true.mpr ⟨_, mem_getD d h, hp⟩
end Go.Proofs.Ytedciihjgbkjgaa.A


/- BLOCKS OF A VALID DATABASE. Conditions: none. -/
namespace Go.Proofs.Ytedciihjgbkjgaa.A
open Go
set_option linter.unusedSimpArgs false
set_option linter.unusedVariables false

theorem cmpInts_trans : ∀ {a b c : List Int}, cmpInts a b < 0 → cmpInts b c < 0 → cmpInts a c < 0
  | [], [], _, h, _ => by simp [cmpInts] at h
  | [], _ :: _, [], _, h => by simp [cmpInts] at h
  | [], _ :: _, _ :: _, _, _ => by simp [cmpInts]
  | _ :: _, [], _, h, _ => by simp [cmpInts] at h
  | _ :: _, _ :: _, [], _, h => by simp [cmpInts] at h
  | x :: a, y :: b, z :: c, h1, h2 => by
    unfold cmpInts at h1 h2 ⊢
    rcases Int.lt_trichotomy x y with d | d | d
    · rcases Int.lt_trichotomy y z with e | e | e
      · rw [if_pos (by omega)]; omega
      · rw [if_pos (by omega)]; omega
      · rw [if_neg (by omega), if_pos e] at h2; omega
    · subst d
      rw [if_neg (by omega), if_neg (by omega)] at h1
      rcases Int.lt_trichotomy x z with e | e | e
      · rw [if_pos e]; omega
      · subst e
        rw [if_neg (by omega), if_neg (by omega)] at h2 ⊢
        exact cmpInts_trans h1 h2
      · rw [if_neg (by omega), if_pos e] at h2; omega
    · rw [if_neg (by omega), if_pos d] at h1; omega
theorem lex_mid : ∀ (m : Nat) {a b c : List Int}, a.length = b.length → b.length = c.length → cmpInts a b ≤ 0 → cmpInts b c ≤ 0 → a.take m = c.take m → a.take m = b.take m
  | 0, _, _, _, _, _, _, _, _ => by simp
  | m + 1, [], [], _, _, _, _, _, _ => rfl
  | m + 1, x :: a, y :: b, [], _, h, _, _, _ => by simp at h
  | m + 1, x :: a, y :: b, z :: c, h1, h2, h3, h4, h5 => by
    simp only [List.take_succ_cons, List.cons.injEq] at h5 ⊢
    obtain ⟨rfl, h5⟩ := h5
    unfold cmpInts at h3 h4
    rcases Int.lt_trichotomy x y with d | d | d
    · rw [if_neg (by omega), if_pos d] at h4; omega
    · subst d
      rw [if_neg (by omega), if_neg (by omega)] at h3 h4
      exact ⟨rfl, lex_mid m (by simpa using h1) (by simpa using h2) h3 h4 h5⟩
    · rw [if_neg (by omega), if_pos d] at h3; omega
theorem cmpRI_trans {a b c : RI} (h1 : cmpRI a b < 0) (h2 : cmpRI b c < 0) : cmpRI a c < 0 := by
  unfold cmpRI at *
  rcases Int.lt_trichotomy a.r b.r with d | d | d
  · rcases Int.lt_trichotomy b.r c.r with e | e | e
    · rw [if_pos (by omega)]; omega
    · rw [if_pos (by omega)]; omega
    · rw [if_neg (by omega), if_pos e] at h2; omega
  · rw [if_neg (by omega), if_neg (by omega)] at h1
    rcases Int.lt_trichotomy b.r c.r with e | e | e
    · rw [if_pos (by omega)]; omega
    · rw [if_neg (by omega), if_neg (by omega)] at h2 ⊢
      exact cmpInts_trans h1 h2
    · rw [if_neg (by omega), if_pos e] at h2; omega
  · rw [if_neg (by omega), if_pos d] at h1; omega
theorem db_step {d : Db} (g : goodDb d = true) {i : Nat} (hi : i + 1 < d.facts.length) : cmpRI (d.facts.getD i default) (d.facts.getD (i + 1) default) < 0 := by
  unfold goodDb at g
  simp only [Bool.and_eq_true] at g
  have := upTo_at g.2.2 hi
  unfold factOk at this
  rw [Bool.and_eq_true, Nat.add_sub_cancel, decide_eq_false (by omega : ¬ i + 1 = 0), Bool.false_or, Bool.not_eq_true', decide_eq_false_iff_not] at this
  omega
theorem db_sorted {d : Db} (g : goodDb d = true) {i : Nat} : ∀ {j : Nat}, i < j → j < d.facts.length → cmpRI (d.facts.getD i default) (d.facts.getD j default) < 0
  | 0, h, _ => by omega
  | j + 1, h, hj => by
    have h1 := db_step g hj
    rcases Nat.lt_or_ge i j with h2 | h2
    · exact cmpRI_trans (db_sorted g h2 (by omega)) h1
    · obtain rfl : i = j := by omega
      exact h1
theorem cmpInts_self (a : List Int) : cmpInts a a = 0 := cmpInts_zero.mpr rfl
theorem cmpRI_self (a : RI) : cmpRI a a = 0 := by
  unfold cmpRI
  rw [if_neg (by omega), if_neg (by omega)]; exact cmpInts_self _
theorem db_le {d : Db} (g : goodDb d = true) {i j : Nat} (h : i ≤ j) (hj : j < d.facts.length) : cmpRI (d.facts.getD i default) (d.facts.getD j default) ≤ 0 := by
  rcases Nat.lt_or_ge i j with h1 | h1
  · have := db_sorted g h1 hj; omega
  · obtain rfl : i = j := by omega
    rw [cmpRI_self]; omega
theorem sameK_iff {l : List Rel} {a b : RI} : sameK l a b = true ↔ a.r = b.r ∧ a.l.take (klOf l a.r) = b.l.take (klOf l a.r) := by
  unfold sameK
  rw [Bool.and_eq_true, beq_iff_eq, decide_eq_true_iff]
theorem good_len {d : Db} (g : goodDb d = true) {i j : Nat} (hi : i < d.facts.length) (hj : j < d.facts.length) (e : (d.facts.getD i default).r = (d.facts.getD j default).r) : (d.facts.getD i default).l.length = (d.facts.getD j default).l.length := by
  have h1 := goodDb_fact g hi
  have h2 := goodDb_fact g hj
  unfold goodFact at h1 h2
  simp only [Bool.and_eq_true, beq_iff_eq] at h1 h2
  have a1 := h1.2.1
  have a2 := h2.2.1
  rw [e] at a1
  omega
def keyR (d : Db) (i k : Nat) : Bool := sameK d.rels (d.facts.getD i default) (d.facts.getD k default)
theorem keyR_eqv {d : Db} (g : goodDb d = true) : Eqv (keyR d) d.facts.length where
  refl i hi := by unfold keyR; rw [sameK_iff]; exact ⟨rfl, rfl⟩
  symm i j hi hj h := by
    unfold keyR at *
    rw [sameK_iff] at *
    exact ⟨h.1.symm, by rw [← h.1]; exact h.2.symm⟩
  trans i j k hi hj hk h1 h2 := by
    unfold keyR at *
    rw [sameK_iff] at *
    refine ⟨h1.1.trans h2.1, ?_⟩
    have := h2.2
    rw [← h1.1] at this
    exact h1.2.trans this
  mid i j k h1 h2 hk h := by
    unfold keyR at *
    rw [sameK_iff] at *
    have a1 := db_le g h1 (by omega)
    have a2 := db_le g h2 hk
    obtain ⟨b1, b2⟩ := h
    have hr : (d.facts.getD i default).r = (d.facts.getD j default).r := by
      unfold cmpRI at a1 a2
      rcases Int.lt_trichotomy (d.facts.getD i default).r (d.facts.getD j default).r with e | e | e
      · rcases Int.lt_trichotomy (d.facts.getD j default).r (d.facts.getD k default).r with e2 | e2 | e2
        · omega
        · omega
        · rw [if_neg (by omega), if_pos e2] at a2; omega
      · exact e
      · rw [if_neg (by omega), if_pos e] at a1; omega
    refine ⟨hr, ?_⟩
    unfold cmpRI at a1 a2
    rw [if_neg (by omega), if_neg (by omega)] at a1 a2
    exact lex_mid _ (good_len g (by omega) (by omega) hr) (good_len g (by omega) hk (by omega)) a1 a2 b2
/-- The blocks. -/
def blocksOf (d : Db) : List (List Int) := blk (keyR d) d.facts.length
theorem blocksOf_prod {d : Db} (g : goodDb d = true) : 0 < prodL (blocksOf d) ∧ prodL (blocksOf d) ≤ 16384 := by
  refine ⟨prodL_pos (blk_ne (keyR_eqv g) (Nat.le_refl _)), ?_⟩
  have h1 := prodL_le (blocksOf d)
  rw [show ((blocksOf d).map List.length).sum = d.facts.length from blk_sum (keyR_eqv g) (Nat.le_refl _)] at h1
  have h2 : 2 ^ d.facts.length ≤ 2 ^ 14 := Nat.pow_le_pow_right (by omega) (goodDb_len g)
  omega
theorem sum_ge : ∀ {l : List (List Int)}, (∀ b ∈ l, 0 < b.length) → l.length ≤ (l.map List.length).sum
  | [], _ => by simp
  | b :: l, h => by
    have := sum_ge (l := l) fun c hc => h c (by simp [hc])
    have := h b (by simp)
    simp; omega
theorem sum_mem : ∀ {l : List (List Int)} {b : List Int}, b ∈ l → b.length ≤ (l.map List.length).sum
  | [], _, h => by cases h
  | c :: l, b, h => by
    rcases List.mem_cons.mp h with rfl | h
    · simp
    · have := sum_mem h
      simp; omega
theorem blocksOf_len {d : Db} (g : goodDb d = true) : (blocksOf d).length ≤ 14 ∧ ∀ b ∈ blocksOf d, 0 < b.length ∧ b.length ≤ 14 := by
  have E := keyR_eqv g
  have h1 := blk_ne E (Nat.le_refl _)
  have h2 := blk_sum E (Nat.le_refl d.facts.length)
  have h3 := goodDb_len g
  refine ⟨?_, fun b hb => ⟨h1 b hb, ?_⟩⟩
  · have := sum_ge h1
    show (blk _ _).length ≤ _
    omega
  · have := sum_mem hb
    have e : ((blocksOf d).map List.length).sum = d.facts.length := h2
    omega
end Go.Proofs.Ytedciihjgbkjgaa.A


/- FACTS ARE SELECTED. Conditions: none. -/
namespace Go.Proofs.Ytedciihjgbkjgaa.A
open Go
set_option linter.unusedSimpArgs false
set_option linter.unusedVariables false
set_option maxRecDepth 100000

theorem goodDb_rels {d : Db} (h : goodDb d = true) : d.rels.length ≤ 4 := by
  unfold goodDb goodRels at h
  simp only [Bool.and_eq_true, decide_eq_true_eq] at h
  omega
theorem repS {α : Type} (a : α) : List.replicate 1 a = [a] := rfl
abbrev zDb : List SV := [.sc (.slice none 0 0), .sc (.slice none 0 0)]
/-- The chosen facts. -/
def selF (fs : List RI) (l : List Int) : List RI := l.map fun i => fs.getD i.toNat default
def selOk (d : Db) (l : List Int) : Bool := goodDb d && idxs l d.facts.length
def selD (d : Db) (l : List Int) : Db := if selOk d l then ⟨d.rels, selF d.facts l⟩ else ⟨[], []⟩
theorem selF_length (fs : List RI) (l : List Int) : (selF fs l).length = l.length := by simp [selF]
theorem selF_take (fs : List RI) (l : List Int) {k : Nat} (h : k < l.length) : selF fs (l.take (k + 1)) = selF fs (l.take k) ++ [fs.getD (l.getD k 0).toNat default] := by
  rw [take_snoc 0 h]; simp [selF]
theorem idxs_at {l : List Int} {n : Int} (h : idxs l n = true) {k : Nat} (hk : k < l.length) : 0 ≤ l.getD k 0 ∧ l.getD k 0 < n := by
  have := upTo_at h hk
  unfold idxAt at this
  rw [Bool.and_eq_true] at this
  have := inB_of this.1
  omega
theorem idxs_lt {l : List Int} {n : Int} (h : idxs l n = true) : ∀ (k j : Nat), k < l.length → j < k → l.getD j 0 < l.getD k 0
  | 0, j, _, hj => by omega
  | k + 1, j, hk, hj => by
    have h1 := upTo_at h hk
    unfold idxAt at h1
    rw [Bool.and_eq_true, Nat.add_sub_cancel, decide_eq_false (by omega : ¬ k + 1 = 0), Bool.false_or, Bool.not_eq_true', decide_eq_false_iff_not] at h1
    have h2 := h1.2
    rcases Nat.lt_or_ge j k with hjk | hjk
    · have := idxs_lt h k j (by omega) hjk
      omega
    · obtain rfl : j = k := by omega
      omega
def cellQ (s id w i j s' off len : Nat) (rows : Rows) (c : Cell) (K : Cell → List (Nat × Option Obj') → Prop) : Prop := match c with
  | .sl s'' xs => s'' = s' ∧ off = 0 ∧ len = xs.length ∧ K (.sl s xs) [(id, some (w, Rows.setCell rows i j .gone))]
  | _ => False
theorem cellQ_sl {s id w i j s' s'' off len : Nat} {rows : Rows} {xs : List Value} {K : Cell → List (Nat × Option Obj') → Prop} : cellQ s id w i j s' off len rows (.sl s'' xs) K = (s'' = s' ∧ off = 0 ∧ len = xs.length ∧ K (.sl s xs) [(id, some (w, Rows.setCell rows i j .gone))]) := rfl
def cellI (s id i j s' off len : Nat) (o : Option Obj') (K : Cell → List (Nat × Option Obj') → Prop) : Prop := match o with
  | some (w, rows) => cellQ s id w i j s' off len rows ((rows.getD i []).getD j .gone) K
  | none => False
theorem cellI_some {s id w i j s' off len : Nat} {rows : Rows} {K : Cell → List (Nat × Option Obj') → Prop} : cellI s id i j s' off len (some (w, rows)) K = cellQ s id w i j s' off len rows ((rows.getD i []).getD j .gone) K := rfl
theorem cell_rin {st : St} {s id i j s' off len : Nat} {K : Cell → List (Nat × Option Obj') → Prop} : cellK st s (.rin id i j s' off len) K = cellI s id i j s' off len (st.objs id) K := by
  simp only [cellK, cellI, cellQ, Rows.cell]
  rcases st.objs id with _ | ⟨w, rows⟩
  · rfl
  · simp only
    rcases (List.getD rows i []).getD j .gone with _ | ⟨s'', xs⟩ | _ <;> rfl
attribute [go_sem] cell_rin cellI_some cellQ_sl
/-! #### rows of which some were moved away -/
def cRH (s : Nat) (x : RI × Bool) : List Cell := [.sc (.int .i64 x.1.r), if x.2 then .gone else .sl s (iv x.1.l)]
def rhs (s : Nat) (l : List (RI × Bool)) : Rows := l.map (cRH s)
theorem rhs_length (s : Nat) (l : List (RI × Bool)) : (rhs s l).length = l.length := by simp [rhs]
theorem rhs_get {s : Nat} {l : List (RI × Bool)} {i : Nat} {r : Int} {xs : List Int} (h : l[i]? = some (⟨r, xs⟩, false)) : (rhs s l).getD i [] = [.sc (.int .i64 r), .sl s (iv xs)] := by
  simp [rhs, cRH, List.getD_eq_getElem?_getD, h]
theorem rhs_stm (n s : Nat) (l : List (RI × Bool)) : stm n (rhs (s + 1) l) = rhs n l := stm_map n _ _ (fun x => by rcases x with ⟨x, b⟩; cases b <;> rfl) l
theorem rhs_gone {s : Nat} {l : List (RI × Bool)} {i : Nat} {r : Int} {xs : List Int} (h : l[i]? = some (⟨r, xs⟩, false)) : Rows.setCell (rhs s l) i 1 .gone = rhs s (l.set i (⟨r, xs⟩, true)) := by
  unfold Rows.setCell
  rw [rhs_get h]
  simp [rhs, List.map_set, cRH]
theorem mapF_get {fs : List RI} {i : Nat} (h : i < fs.length) : (fs.map fun a => (a, false))[i]? = some (fs.getD i default, false) := by
  simp [List.getD_eq_getElem?_getD, h]
theorem rhs_of (s : Nat) (l : List RI) : rhs s (l.map fun a => (a, false)) = ris s l := by simp [rhs, ris, cRH, cRI]
attribute [go_sem] rhs_length rhs_stm
end Go.Proofs.Ytedciihjgbkjgaa.A


/- BLOCKS: the reference. Conditions: none. -/
namespace Go.Proofs.Ytedciihjgbkjgaa.A
open Go
set_option linter.unusedSimpArgs false
set_option linter.unusedVariables false
set_option maxRecDepth 100000

theorem castL_append (a b : List Nat) : castL (a ++ b) = castL a ++ castL b := by simp [castL]
theorem clsOf_le {S : Nat → Nat → Bool} (i k : Nat) : (clsOf S i k).length ≤ k := by
  unfold clsOf
  have := List.length_filter_le (S i) (List.range k)
  simpa using this
theorem castL_len (l : List Nat) : (castL l).length = l.length := by simp [castL]
theorem clsOf_not {S : Nat → Nat → Bool} {n : Nat} (E : Eqv S n) {i : Nat} (hi : i < n) (h : isFst S i = false) : ∃ j t, clsOf S i n = j :: t ∧ j ≠ i := by
  have hex : ∃ j, j < i ∧ S j i = true := by
    refine Classical.byContradiction fun hn => ?_
    rw [isFst_of (fun j hj => by
      rcases e : S j i
      · rfl
      · exact absurd ⟨j, hj, e⟩ hn)] at h
    cases h
  obtain ⟨j, h1, h2⟩ := hex
  have hm : j ∈ clsOf S i n := clsOf_mem.mpr ⟨by omega, E.symm j i (by omega) hi h2⟩
  rcases hc : clsOf S i n with _ | ⟨a, t⟩
  · rw [hc] at hm; cases hm
  · refine ⟨a, t, rfl, ?_⟩
    have hs : (clsOf S i n).Pairwise (· < ·) := List.Pairwise.filter _ List.pairwise_lt_range
    rw [hc] at hs hm
    rcases List.mem_cons.mp hm with rfl | hm
    · omega
    · have := (List.pairwise_cons.mp hs).1 j hm
      omega
def blkS (d : Db) (k : Nat) : List (List Int) := (fsts (keyR d) k).map fun i => castL (clsOf (keyR d) i d.facts.length)
theorem blkS_all (d : Db) : blkS d d.facts.length = blocksOf d := by
  unfold blkS blocksOf blk blkN
  rw [List.map_map]; rfl
theorem blkS_len (d : Db) (k : Nat) : (blkS d k).length ≤ k := by
  unfold blkS fsts
  rw [List.length_map]
  have := List.length_filter_le (isFst (keyR d)) (List.range k)
  simpa using this
def blocksD (d : Db) : List (List Int) := if goodDb d then blocksOf d else []
theorem rst_blk (a : List (List Int)) : rst (iss 999 a) = iss 1 a := iss_rst 998 a
def sizes (l : List (List Int)) : List Int := l.map fun b => (b.length : Int)
theorem sizes_length (l : List (List Int)) : (sizes l).length = l.length := by simp [sizes]
theorem sizes_get {l : List (List Int)} {i : Nat} (h : i < l.length) : (sizes l).getD i 0 = ((l.getD i []).length : Int) := by
  simp [sizes, List.getD_eq_getElem?_getD, h]
theorem sizes_take {l : List (List Int)} {i : Nat} (h : i < l.length) : sizes (l.take (i + 1)) = sizes (l.take i) ++ [((l.getD i []).length : Int)] := by
  rw [take_snoc [] h]; simp [sizes]
theorem blocksD_len (d : Db) : (blocksD d).length ≤ 14 ∧ ∀ b ∈ blocksD d, 0 < b.length ∧ b.length ≤ 14 := by
  unfold blocksD
  split
  · rename_i g; exact blocksOf_len g
  · exact ⟨by simp, fun b hb => by cases hb⟩
theorem prodL_take {l : List (List Int)} {i : Nat} (h : i < l.length) : prodL (l.take (i + 1)) = prodL (l.take i) * (l.getD i []).length := by
  rw [take_snoc [] h, prodL_append]; simp [prodL]
theorem prodL_part {l : List (List Int)} (hl : ∀ b ∈ l, 0 < b.length) (i : Nat) : prodL (l.take i) ≤ prodL l := by
  have h1 := prodL_append (l.take i) (l.drop i)
  rw [List.take_append_drop] at h1
  have h2 : 0 < prodL (l.drop i) := prodL_pos fun b hb => hl b (List.mem_of_mem_drop hb)
  rw [h1]
  exact Nat.le_mul_of_pos_right _ h2
def cntR (d : Db) : Nat := if goodDb d then prodL (blocksOf d) else 0
theorem cntR_le (d : Db) : cntR d ≤ 16384 := by
  unfold cntR
  split
  · rename_i g; exact (blocksOf_prod g).2
  · omega
end Go.Proofs.Ytedciihjgbkjgaa.A


/- REPAIRS BY THEIR RANK; PARTIAL REPAIRS: the reference. Conditions: none. -/
namespace Go.Proofs.Ytedciihjgbkjgaa.A
open Go
set_option linter.unusedSimpArgs false
set_option linter.unusedVariables false
set_option maxRecDepth 100000

def tOf : Nat → Int
  | 0 => -1
  | j + 1 => j
theorem tOf_zero : tOf 0 = -1 := rfl
theorem tOf_succ (j : Nat) : tOf (j + 1) = (j : Int) := rfl
theorem tOf_eq (j : Nat) : tOf j = (j : Int) - 1 := by cases j <;> simp [tOf]
theorem tmodN (a b : Nat) : (a : Int).tmod (b : Int) = ((a % b : Nat) : Int) := by rw [Int.tmod_eq_emod_of_nonneg (by omega)]; rfl
theorem tdivN (a b : Nat) : (a : Int).tdiv (b : Int) = ((a / b : Nat) : Int) := by rw [Int.tdiv_eq_ediv_of_nonneg (by omega)]; rfl
theorem wrapN {n : Nat} (h : n ≤ 9223372036854775807) : IntKind.i64.wrap (n : Int) = n := IntWalk.i64_in _ (by omega)
def nthOk (d : Db) (k : Int) : Bool := inB k 0 ((cntR d : Int) - 1)
def nth' (d : Db) (k : Int) : List Int := if nthOk d k then (pickR (blocksOf d) k.toNat).1 else []
theorem nthOk_good {d : Db} {k : Int} (h : nthOk d k = true) : goodDb d = true ∧ 0 ≤ k ∧ k < cntR d := by
  have h1 := inB_of h
  refine ⟨?_, by omega, by omega⟩
  rcases g : goodDb d
  · have : cntR d = 0 := by unfold cntR; rw [g]; rfl
    omega
  · rfl
theorem nth'_asc {d : Db} (g : goodDb d = true) (r : Nat) : (pickR (blocksOf d) r).1.Pairwise (· < ·) :=
  pickR_asc (blk_ne (keyR_eqv g) (Nat.le_refl _)) (blk_asc (keyR_eqv g) (Nat.le_refl _))
def cst (d : Db) : Bool := goodDb d && decide ((blocksOf d).length = d.facts.length)
def isPR (d : Db) (l : List Int) : Bool := selOk d l && cst (selD d l)
end Go.Proofs.Ytedciihjgbkjgaa.A


/- QUERIES DRAWN. Conditions: none. -/
namespace Go.Proofs.Ytedciihjgbkjgaa.A
open Go
set_option linter.unusedSimpArgs false
set_option linter.unusedVariables false
set_option maxRecDepth 100000

/-! #### terms and atoms -/
def tmD (c : Cur) (v : Nat) : Int := if onV c 12 then -1 - ((beV (byC c) 2 : Nat) : Int) else ((beV (byC c) v : Nat) : Int)
def tmsD (c : Cur) (v : Nat) : Nat → List Int × Cur
  | 0 => ([], c)
  | k + 1 => ((tmsD c v k).1 ++ [tmD (tmsD c v k).2 v], byC (byC (tmsD c v k).2))
theorem tmsD_len (c : Cur) (v : Nat) : ∀ k, (tmsD c v k).1.length = k
  | 0 => rfl
  | k + 1 => by rw [tmsD, List.length_append, tmsD_len c v k]; rfl
theorem tmsD_ok {c : Cur} (h : c.ok) (v : Nat) : ∀ k, (tmsD c v k).2.ok
  | 0 => h
  | k + 1 => byC_ok (byC_ok (tmsD_ok h v k))
def atsD (c : Cur) (v f : Nat) : Nat → List RI × Cur
  | 0 => ([], c)
  | i + 1 => ((atsD c v f i).1 ++ [⟨(((f + i) % 4 : Nat) : Int), (tmsD (atsD c v f i).2 v (2 + ((f + i) % 4) / 3)).1⟩], (tmsD (atsD c v f i).2 v (2 + ((f + i) % 4) / 3)).2)
theorem atsD_len (c : Cur) (v f : Nat) : ∀ k, (atsD c v f k).1.length = k
  | 0 => rfl
  | k + 1 => by rw [atsD, List.length_append, atsD_len c v f k]; rfl
theorem atsD_ok {c : Cur} (h : c.ok) (v f : Nat) : ∀ k, (atsD c v f k).2.ok
  | 0 => h
  | k + 1 => tmsD_ok (atsD_ok h v f k) v _
theorem atsD_mem {c : Cur} {v f : Nat} : ∀ {k : Nat}, ∀ x ∈ (atsD c v f k).1, 2 ≤ x.l.length ∧ x.l.length ≤ 3
  | 0, x, hx => by cases hx
  | k + 1, x, hx => by
    rw [atsD] at hx
    rcases List.mem_append.mp hx with h | h
    · exact atsD_mem x h
    · rw [List.mem_singleton.mp h]
      simp only [tmsD_len]; omega
/-! #### variables get new names -/
def posL (nm : List Int) (t : Int) : Nat → Int
  | 0 => -1
  | j + 1 => if nm.getD j 0 = t then (j : Int) else posL nm t j
theorem posL_lo (nm : List Int) (t : Int) : ∀ j, -1 ≤ posL nm t j ∧ posL nm t j < j
  | 0 => by simp [posL]
  | j + 1 => by
    have := posL_lo nm t j
    rw [posL]; split <;> omega
abbrev Tg := List RI × List Int
def tgS (s : Tg) (i k : Nat) : Tg :=
  let a := s.1.getD i default
  let t := a.l.getD k 0
  if t < 0 then s else if posL s.2 t s.2.length < 0 then (s.1.set i ⟨a.r, a.l.set k s.2.length⟩, s.2 ++ [t]) else (s.1.set i ⟨a.r, a.l.set k (posL s.2 t s.2.length)⟩, s.2)
def tgR (s : Tg) (i : Nat) : Nat → Tg
  | 0 => s
  | k + 1 => tgS (tgR s i k) i k
def tgAll (X : List RI) : Nat → Tg
  | 0 => (X, [])
  | i + 1 => tgR (tgAll X i) i (X.getD i default).l.length
/-- Atoms and terms are as many as they were. -/
def likeX (X Y : List RI) : Prop := Y.length = X.length ∧ ∀ i : Nat, (Y.getD i default).l.length = (X.getD i default).l.length
theorem like_refl (X : List RI) : likeX X X := ⟨rfl, fun _ => rfl⟩
theorem like_set {X Y : List RI} (h : likeX X Y) (i k : Nat) (r : Int) (v : Int) : likeX X (Y.set i ⟨r, ((Y.getD i default).l.set k v)⟩) := by
  refine ⟨by rw [List.length_set]; exact h.1, fun j => ?_⟩
  rw [← h.2 j]
  by_cases e : i = j
  · subst e
    by_cases hi : i < Y.length
    · rw [getD_set_same hi]; simp
    · rw [List.getD_eq_getElem?_getD, List.getElem?_eq_none (by rw [List.length_set]; omega), List.getD_eq_getElem?_getD, List.getElem?_eq_none (by omega)]
  · rw [List.getD_eq_getElem?_getD, List.getElem?_set_ne e, ← List.getD_eq_getElem?_getD]
theorem tgS_ok {X : List RI} {s : Tg} {m i k : Nat} (h : likeX X s.1 ∧ s.2.length ≤ m) : likeX X (tgS s i k).1 ∧ (tgS s i k).2.length ≤ m + 1 := by
  unfold tgS
  simp only
  split
  · exact ⟨h.1, by omega⟩
  split
  · exact ⟨like_set h.1 i k _ _, by rw [List.length_append, List.length_singleton]; omega⟩
  · exact ⟨like_set h.1 i k _ _, by show s.2.length ≤ m + 1; omega⟩
theorem tgR_ok {X : List RI} {s : Tg} {m i : Nat} (h : likeX X s.1 ∧ s.2.length ≤ m) : ∀ k, likeX X (tgR s i k).1 ∧ (tgR s i k).2.length ≤ m + k
  | 0 => h
  | k + 1 => tgS_ok (tgR_ok h k)
theorem tgAll_ok {X : List RI} {M : Nat} (hM : ∀ i, (X.getD i default).l.length ≤ M) : ∀ i, likeX X (tgAll X i).1 ∧ (tgAll X i).2.length ≤ i * M
  | 0 => ⟨like_refl X, by simp [tgAll]⟩
  | i + 1 => by
    obtain ⟨h1, h2⟩ := tgR_ok (i := i) (tgAll_ok hM i) (X.getD i default).l.length
    have := hM i
    refine ⟨h1, ?_⟩
    rw [Nat.add_mul, Nat.one_mul]
    show (tgR (tgAll X i) i (X.getD i default).l.length).2.length ≤ _
    omega
def tightQ (q : Qu) : Qu := ⟨((tgAll q.atoms q.atoms.length).2.length : Int), (tgAll q.atoms q.atoms.length).1, q.free⟩
end Go.Proofs.Ytedciihjgbkjgaa.A


/- QUERIES DRAWN: the walks. Conditions: none. -/
namespace Go.Proofs.Ytedciihjgbkjgaa.A
open Go
set_option linter.unusedSimpArgs false
set_option linter.unusedVariables false
set_option maxRecDepth 100000

abbrev zQ2 : List SV := [.sc (.int .i64 0), .sc (.slice none 0 0), .sc (.slice none 0 0)]
theorem getD_le {X : List RI} {M : Nat} (h : ∀ x ∈ X, x.l.length ≤ M) (i : Nat) : (X.getD i default).l.length ≤ M := by
  rcases Nat.lt_or_ge i X.length with hi | hi
  · exact h _ (mem_getD default hi)
  · rw [List.getD_eq_getElem?_getD, List.getElem?_eq_none hi]; exact Nat.zero_le _
set_option maxHeartbeats 4000000 in
theorem l11Tight_sat (q : Qu) (h : q.ok) (hn : q.atoms.length ≤ 8) (hM : ∀ x ∈ q.atoms, x.l.length ≤ 8) : Sat Try.prog 105 [lQu q] [oQu (tightQ q)] [g3] := by
  refine sat_of_body mixed Try.func105 rfl (by kernel_rfl) (by kernel_rfl) (rs := [.cell 2 28]) rfl rfl rfl ?_
  have hM' := getD_le hM
  have ts := specCopy_sat q h
  have hT := tgAll_ok hM'
  unfold tightQ
  generalize hX : q.atoms = X at hn hM hM' hT ⊢
  simp -implicitDefEqProofs (maxSteps := 2000000) only [go_sem]
  refine call_of (ts) (by simp -implicitDefEqProofs (maxSteps := 2000000) only [go_sem, hX]) (callOk_still (by kernel_rfl) (by simp only [List.all_cons, List.all_nil, LV.still, LV.leaves, Leaf.still, ints_still, ris_still, eds_still, rels_still, iss_still, ems_still, Bool.and_self, Bool.and_true])) (by simp -implicitDefEqProofs (maxSteps := 2000000) only [go_sem, hX]) ?_
  simp -implicitDefEqProofs (maxSteps := 2000000) only [go_sem, hX]
  refine awp_loop Nat (fun i => mkSt [(2, .one (.vad 1064 0)), (3, .one (.vad 1256 0)), (4, .one (.ref 960 1 0 (tgAll X i).2.length)), (5, .sc (.int .i64 i))] [(1064, zQ2), (1256, [.sc (.int .i64 q.vc), .ref 961 2 0 X.length, .ref 962 1 0 q.free.length])] [(960, (1, ints (tgAll X i).2)), (961, (2, ris 999 (tgAll X i).1)), (962, (1, ints q.free))] 4000)
    (fun i => i ≤ X.length) (fun i => X.length - i) 0 (by omega) (le_st' _ _ [⟨960, some _, false, 1, _⟩, ⟨961, some _, false, 2, _⟩, ⟨962, some _, false, 1, _⟩] [] _ (by simp -implicitDefEqProofs (maxSteps := 2000000) only [go_sem, hX, tgAll, List.length_nil, ints_nil] <;> and_intros <;> rfl) (by simp -implicitDefEqProofs (maxSteps := 2000000) only [go_sem, hX, tgAll, List.length_nil, ints_nil] <;> and_intros <;> rfl) (by simp -implicitDefEqProofs (maxSteps := 2000000) only [go_sem, hX, tgAll, List.length_nil, ints_nil] <;> and_intros <;> rfl) (by rfl)) ?_
  rintro i h1
  obtain ⟨k1, k2⟩ := hT i
  have hi8 : i * 8 ≤ 64 := by omega
  have ltk : List.take X.length (tgAll X i).1 = (tgAll X i).1 := List.take_of_length_le (by rw [k1.1]; exact Nat.le_refl _)
  by_cases c1 : i < X.length
  · have wi : IntKind.i64.wrap ((i : Int) + 1) = ((i + 1 : Nat) : Int) := i64_succ (by omega)
    have hstep : tgAll X (i + 1) = tgR (tgAll X i) i (X.getD i default).l.length := rfl
    have hRk := fun k => tgR_ok (i := i) ⟨k1, k2⟩ k
    generalize tgAll X i = s0 at k1 k2 hstep hRk ltk ⊢
    have hml := hM' i
    have hml2 : (X.getD i default).l.length ≤ 8 := hml
    generalize hmm : (X.getD i default).l.length = m at hml hstep hml2
    simp -implicitDefEqProofs (maxSteps := 2000000) only [go_sem, c1, ltk, k1.1]
    refine awp_loop Nat (fun k => mkSt [(2, .one (.vad 1064 0)), (3, .one (.vad 1256 0)), (4, .one (.ref 960 1 0 (tgR s0 i k).2.length)), (5, .sc (.int .i64 i)), (6, .sc (.int .i64 k))] [(1064, zQ2), (1256, [.sc (.int .i64 q.vc), .ref 961 2 0 X.length, .ref 962 1 0 q.free.length])] [(960, (1, ints (tgR s0 i k).2)), (961, (2, ris 999 (tgR s0 i k).1)), (962, (1, ints q.free))] 8000)
      (fun k => k ≤ m) (fun k => m - k) 0 (by omega) (le_st' _ _ [⟨960, some _, false, 1, _⟩, ⟨961, some _, false, 2, _⟩, ⟨962, some _, false, 1, _⟩] [] _ (by simp -implicitDefEqProofs (maxSteps := 2000000) only [go_sem, tgR] <;> and_intros <;> rfl) (by simp -implicitDefEqProofs (maxSteps := 2000000) only [go_sem, tgR] <;> and_intros <;> rfl) (by simp -implicitDefEqProofs (maxSteps := 2000000) only [go_sem, tgR] <;> and_intros <;> rfl) (by rfl)) ?_
    rintro k h2
    obtain ⟨j1, j2⟩ := hRk k
    have hst2 : tgR s0 i (k + 1) = tgS (tgR s0 i k) i k := rfl
    have hdone : tgR s0 i m = tgAll X (i + 1) := hstep.symm
    generalize hs1 : tgR s0 i k = s1 at j1 j2 hst2 ⊢
    rcases s1 with ⟨Y, nm⟩
    simp only at j1 j2
    obtain ⟨y1, y2⟩ := j1
    have c2 : i < Y.length := by omega
    have hyl : (Y.getD i default).l.length = m := by rw [y2 i, hmm]
    have htm : List.take m (Y.getD i default).l = (Y.getD i default).l := List.take_of_length_le (by omega)
    by_cases c3 : k < m
    · have wk : IntKind.i64.wrap ((k : Int) + 1) = ((k + 1 : Nat) : Int) := i64_succ (by omega)
      have c4 : k < (Y.getD i default).l.length := by omega
      rcases d1 : decide ((Y.getD i default).l.getD k 0 < 0)
      · have d1' := of_decide_eq_false d1
        simp -implicitDefEqProofs (maxSteps := 2000000) only [go_sem, c1, c2, c3, c4, htm, hyl, d1]
        have hst3 : tgS (Y, nm) i k = if posL nm ((Y.getD i default).l.getD k 0) nm.length < 0 then (Y.set i ⟨(Y.getD i default).r, (Y.getD i default).l.set k nm.length⟩, nm ++ [(Y.getD i default).l.getD k 0]) else (Y.set i ⟨(Y.getD i default).r, (Y.getD i default).l.set k (posL nm ((Y.getD i default).l.getD k 0) nm.length)⟩, nm) := by
          unfold tgS; simp only; rw [if_neg d1']
        obtain ⟨T, hT2⟩ : ∃ T, (Y.getD i default).l.getD k 0 = T := ⟨_, rfl⟩
        rw [hT2] at hst3
        rw [hT2]
        refine awp_loop Nat (fun j => mkSt [(2, .one (.vad 1064 0)), (3, .one (.vad 1256 0)), (4, .one (.ref 960 1 0 nm.length)), (5, .sc (.int .i64 i)), (6, .sc (.int .i64 k)), (7, .sc (.int .i64 T)), (8, .sc (.int .i64 (posL nm T j))), (9, .sc (.int .i64 j))] [(1064, zQ2), (1256, [.sc (.int .i64 q.vc), .ref 961 2 0 X.length, .ref 962 1 0 q.free.length])] [(960, (1, ints nm)), (961, (2, ris 999 Y)), (962, (1, ints q.free))] 16000)
          (fun j => j ≤ nm.length) (fun j => nm.length - j) 0 (by omega) (le_st' _ _ [⟨960, some _, false, 1, _⟩, ⟨961, some _, false, 2, _⟩, ⟨962, some _, false, 1, _⟩] [] _ (by simp -implicitDefEqProofs (maxSteps := 2000000) only [go_sem, posL] <;> and_intros <;> rfl) (by simp -implicitDefEqProofs (maxSteps := 2000000) only [go_sem, posL] <;> and_intros <;> rfl) (by simp -implicitDefEqProofs (maxSteps := 2000000) only [go_sem, posL] <;> and_intros <;> rfl) (by rfl)) ?_
        rintro j h5
        by_cases c5 : j < nm.length
        · have wj : IntKind.i64.wrap ((j : Int) + 1) = ((j + 1 : Nat) : Int) := i64_succ (by omega)
          rcases d3 : (nm.getD j 0 == T)
          · have e3 : posL nm T (j + 1) = posL nm T j := by rw [posL, if_neg (by simpa using d3)]
            simp -implicitDefEqProofs (maxSteps := 2000000) only [go_sem, c5, d3, wj]
            exact ⟨j + 1, c5, by omega, (le_st' _ _ [⟨960, some _, false, 1, _⟩, ⟨961, some _, false, 2, _⟩, ⟨962, some _, false, 1, _⟩] [] _ (by simp -implicitDefEqProofs (maxSteps := 2000000) only [go_sem, e3] <;> and_intros <;> rfl) (by simp -implicitDefEqProofs (maxSteps := 2000000) only [go_sem, e3] <;> and_intros <;> rfl) (by simp -implicitDefEqProofs (maxSteps := 2000000) only [go_sem, e3] <;> and_intros <;> rfl) (by rfl))⟩
          · have e3 : posL nm T (j + 1) = (j : Int) := by rw [posL, if_pos (by simpa using d3)]
            simp -implicitDefEqProofs (maxSteps := 2000000) only [go_sem, c5, d3, wj]
            exact ⟨j + 1, c5, by omega, (le_st' _ _ [⟨960, some _, false, 1, _⟩, ⟨961, some _, false, 2, _⟩, ⟨962, some _, false, 1, _⟩] [] _ (by simp -implicitDefEqProofs (maxSteps := 2000000) only [go_sem, e3] <;> and_intros <;> rfl) (by simp -implicitDefEqProofs (maxSteps := 2000000) only [go_sem, e3] <;> and_intros <;> rfl) (by simp -implicitDefEqProofs (maxSteps := 2000000) only [go_sem, e3] <;> and_intros <;> rfl) (by rfl))⟩
        · obtain rfl : j = nm.length := by omega
          rcases d4 : decide (posL nm T nm.length < 0)
          · rw [if_neg (of_decide_eq_false d4)] at hst3
            simp -implicitDefEqProofs (maxSteps := 2000000) only [go_sem, c1, c2, c3, c4, c5, htm, hyl, d4]
            repeat (refine And.intro (by omega) ?_)
            rw [wk]
            exact ⟨k + 1, c3, by omega, (le_st' _ _ [⟨960, some _, false, 1, _⟩, ⟨961, some _, false, 2, _⟩, ⟨962, some _, false, 1, _⟩] [] _ (by simp -implicitDefEqProofs (maxSteps := 2000000) only [go_sem, hst2, hst3] <;> and_intros <;> rfl) (by simp -implicitDefEqProofs (maxSteps := 2000000) only [go_sem, hst2, hst3] <;> and_intros <;> rfl) (by simp -implicitDefEqProofs (maxSteps := 2000000) only [go_sem, hst2, hst3] <;> and_intros <;> rfl) (by rfl))⟩
          · rw [if_pos (of_decide_eq_true d4)] at hst3
            simp -implicitDefEqProofs (maxSteps := 2000000) only [go_sem, c1, c2, c3, c4, c5, htm, hyl, d4]
            repeat (refine And.intro (by omega) ?_)
            rw [wk]
            exact ⟨k + 1, c3, by omega, (le_st' _ _ [⟨960, some _, false, 1, _⟩, ⟨961, some _, false, 2, _⟩, ⟨962, some _, false, 1, _⟩] [] _ (by simp -implicitDefEqProofs (maxSteps := 2000000) only [go_sem, hst2, hst3, List.length_append, List.length_singleton] <;> and_intros <;> rfl) (by simp -implicitDefEqProofs (maxSteps := 2000000) only [go_sem, hst2, hst3, List.length_append, List.length_singleton] <;> and_intros <;> rfl) (by simp -implicitDefEqProofs (maxSteps := 2000000) only [go_sem, hst2, hst3, List.length_append, List.length_singleton] <;> and_intros <;> rfl) (by rfl))⟩
      · have d1' := of_decide_eq_true d1
        have hst3 : tgS (Y, nm) i k = (Y, nm) := by unfold tgS; simp only; rw [if_pos d1']
        simp -implicitDefEqProofs (maxSteps := 2000000) only [go_sem, c1, c2, c3, c4, htm, hyl, d1]
        rw [wk]
        exact ⟨k + 1, c3, by omega, (le_st' _ _ [⟨960, some _, false, 1, _⟩, ⟨961, some _, false, 2, _⟩, ⟨962, some _, false, 1, _⟩] [] _ (by simp -implicitDefEqProofs (maxSteps := 2000000) only [go_sem, hst2, hst3] <;> and_intros <;> rfl) (by simp -implicitDefEqProofs (maxSteps := 2000000) only [go_sem, hst2, hst3] <;> and_intros <;> rfl) (by simp -implicitDefEqProofs (maxSteps := 2000000) only [go_sem, hst2, hst3] <;> and_intros <;> rfl) (by rfl))⟩
    · obtain rfl : k = m := by omega
      have hst4 : tgAll X (i + 1) = (Y, nm) := by rw [← hdone, hs1]
      simp -implicitDefEqProofs (maxSteps := 2000000) only [go_sem, c1, c2, c3, htm, hyl]
      rw [wi]
      exact ⟨i + 1, c1, by omega, (le_st' _ _ [⟨960, some _, false, 1, _⟩, ⟨961, some _, false, 2, _⟩, ⟨962, some _, false, 1, _⟩] [] _ (by simp -implicitDefEqProofs (maxSteps := 2000000) only [go_sem, hst4] <;> and_intros <;> rfl) (by simp -implicitDefEqProofs (maxSteps := 2000000) only [go_sem, hst4] <;> and_intros <;> rfl) (by simp -implicitDefEqProofs (maxSteps := 2000000) only [go_sem, hst4] <;> and_intros <;> rfl) (by rfl))⟩
  · obtain rfl : i = X.length := by omega
    simp -implicitDefEqProofs (maxSteps := 2000000) only [go_sem, c1, ltk, k1.1]
    and_intros <;> rfl
end Go.Proofs.Ytedciihjgbkjgaa.A


/- THE LIBRARY'S IndexByte AND Itoa, of this program. Conditions: none. -/
namespace Go.Proofs.Ytedciihjgbkjgaa.A
open Go Go.Shelf
set_option linter.unusedVariables false
set_option maxRecDepth 100000
end Go.Proofs.Ytedciihjgbkjgaa.A


/- A CONSTANT's TERM, as the program has it. Conditions: none. -/
namespace Go.Proofs.Ytedciihjgbkjgaa.A
open Go
set_option linter.unusedSimpArgs false
set_option linter.unusedVariables false
set_option maxRecDepth 100000
end Go.Proofs.Ytedciihjgbkjgaa.A


/- TERMS AND THEIR TEXTS. Conditions: none. -/
namespace Go.Proofs.Ytedciihjgbkjgaa.A
open Go
set_option linter.unusedSimpArgs false
set_option linter.unusedVariables false
set_option maxRecDepth 100000

/-- A term's letter: a digit of a constant, the name of a variable. -/
def letT (t : Int) : UInt8 := if t < 0 then (47 - t).toNat.toUInt8 else if t = 0 then 120 else if t = 1 then 121 else if t = 2 then 122 else 119
def isT (t : Int) : Bool := inB t (-10) 3
def fmtT (t : Int) : ByteArray := if isT t then ⟨#[letT t]⟩ else ⟨#[]⟩
def digT (v : Int) : ByteArray := ⟨#[(48 + v).toNat.toUInt8]⟩
theorem isT_cases {t : Int} (h : isT t = true) : ∃ n : Nat, n < 14 ∧ t = (n : Int) - 10 := by
  have := inB_of h
  exact ⟨(t + 10).toNat, by omega, by omega⟩

theorem byt_eq {a b : ByteArray} (h : a.data.toList = b.data.toList) : a = b := Go.WideShapes.bytes_inj h
theorem byt_app (a b : ByteArray) : (a ++ b).data.toList = a.data.toList ++ b.data.toList := by
  rw [ByteArray.data_append, Array.toList_append]
theorem byt_nil (a : ByteArray) : a ++ (⟨#[]⟩ : ByteArray) = a := byt_eq (by rw [byt_app]; simp)
theorem byteD {v : Nat} (h : v ≤ 9) : IntKind.u8.wrap (IntKind.i64.wrap (48 + (v : Int))) = (((48 + (v : Int)).toNat.toUInt8).toNat : Int) := by
  have key : ∀ v : Fin 10, IntKind.u8.wrap (IntKind.i64.wrap (48 + ((v.val : Nat) : Int))) = (((48 + ((v.val : Nat) : Int)).toNat.toUInt8).toNat : Int) := by decide
  exact key ⟨v, by omega⟩
theorem specFormatInt_sat (v : Nat) (h : v ≤ 9) : Sat Try.prog 122 [lInt v] [lStr (digT v)] [g1] := by
  refine sat_of_body mixed Try.func122 rfl (by kernel_rfl) (by kernel_rfl) (rs := [.tmp 2]) rfl rfl rfl ?_
  by_cases c0 : v = 0
  · subst c0
    simp -implicitDefEqProofs (maxSteps := 2000000) only [go_sem]
    first | done | rfl | exact ⟨rfl, rfl⟩ | exact ⟨rfl, rfl, rfl⟩ | (refine tr_and ?_ ?_ <;> first | rfl | exact ⟨rfl, rfl⟩ | kernel_rfl)
  have d0 : (((v : Nat) : Int) == 0) = false := by rw [beq_eq_false_iff_ne]; omega
  have d2 : (((v : Nat) : Int) != 0) = true := by rw [bne, d0]; rfl
  have d1 : decide (((v : Nat) : Int) < 0) = false := by rw [decide_eq_false_iff_not]; omega
  simp -implicitDefEqProofs (maxSteps := 2000000) only [go_sem, d0, d1]
  refine awp_loop Nat (fun k => mkSt [(0, .sc (.int .i64 (if k = 0 then (v : Int) else 0))), (3, .sc (.string (if k = 0 then ⟨#[]⟩ else digT v))), (4, .sc (.bool false))] [] [] 3000)
    (fun k => k ≤ 1) (fun k => 1 - k) 0 (by omega) (le_st _ _ [] [] _ rfl (by simp -implicitDefEqProofs (maxSteps := 2000000) only [go_sem, d0, d1] <;> rfl) (by simp -implicitDefEqProofs (maxSteps := 2000000) only [go_sem, d0, d1] <;> rfl) (by simp -implicitDefEqProofs (maxSteps := 2000000) only [go_sem, d0, d1] <;> rfl)) ?_
  rintro k h1
  rcases k with _ | _ | k
  · have e1 : Int.tmod ((v : Nat) : Int) 10 = v := by rw [Int.tmod_eq_emod_of_nonneg (by omega)]; omega
    have e2 : Int.tdiv ((v : Nat) : Int) 10 = 0 := by rw [Int.tdiv_eq_ediv_of_nonneg (by omega)]; omega
    simp -implicitDefEqProofs (maxSteps := 2000000) only [go_sem, d0, d1, d2, e1, e2]
    refine ⟨by decide, [(48 + (v : Int)).toNat.toUInt8], by rw [byteD h]; rfl, by simp, by decide, 1, by omega, by omega, ?_⟩
    exact (le_st _ _ [] [] _ rfl (by simp -implicitDefEqProofs (maxSteps := 2000000) only [go_sem, byt_nil, digT] <;> rfl) (by simp -implicitDefEqProofs (maxSteps := 2000000) only [go_sem, byt_nil, digT] <;> rfl) (by simp -implicitDefEqProofs (maxSteps := 2000000) only [go_sem, byt_nil, digT] <;> rfl))
  · simp -implicitDefEqProofs (maxSteps := 2000000) only [go_sem]
    first | done | rfl | exact ⟨rfl, rfl⟩ | exact ⟨rfl, rfl, rfl⟩ | (refine tr_and ?_ ?_ <;> first | rfl | exact ⟨rfl, rfl⟩ | kernel_rfl)
  · omega
theorem wf64 {n : Int} (h : (Lit.int .i64 n).wf = true) : -9223372036854775808 ≤ n ∧ n ≤ 9223372036854775807 := by
  simp only [Lit.wf, Bool.and_eq_true, decide_eq_true_eq] at h
  have e1 : IntKind.i64.min = -9223372036854775808 := by decide
  have e2 : IntKind.i64.max = 9223372036854775807 := by decide
  rw [e1, e2] at h
  exact h
def tvOk (t : Int) : Bool := inB t (-10) (-1)
theorem specTermValue_sat (t : Int) (ht : -9223372036854775808 ≤ t ∧ t ≤ 9223372036854775807) : Sat Try.prog 121 [lInt t] [lInt (if tvOk t then -1 - t else 0), lBool (tvOk t)] [g1] := by
  refine sat_of_body mixed Try.func121 rfl (by kernel_rfl) (by kernel_rfl) (rs := [.tmp 2, .tmp 3]) rfl rfl rfl ?_
  rcases d1 : decide (t ≥ 0)
  · have d1' := of_decide_eq_false d1
    have w1 : IntKind.i64.wrap (-1 - t) = -1 - t := IntWalk.i64_in _ (by omega)
    have e : inB (-1 - t) 0 9 = tvOk t := by
      unfold inB tvOk inB
      rw [Bool.eq_iff_iff]; simp; omega
    rcases d2 : tvOk t
    · rw [d2] at e
      simp -implicitDefEqProofs (maxSteps := 2000000) only [go_sem, d1, w1]
      refine call_of (inB_sat (-1 - t) 0 9) (by simp -implicitDefEqProofs (maxSteps := 2000000) only [go_sem, d1, w1, e]) (by kernel_rfl) (by simp -implicitDefEqProofs (maxSteps := 2000000) only [go_sem, d1, w1, e]) ?_
      simp -implicitDefEqProofs (maxSteps := 2000000) only [go_sem, d1, w1, e]
      first | done | rfl | exact ⟨rfl, rfl⟩ | exact ⟨rfl, rfl, rfl⟩ | (refine tr_and ?_ ?_ <;> first | rfl | exact ⟨rfl, rfl⟩ | kernel_rfl)
    · rw [d2] at e
      simp -implicitDefEqProofs (maxSteps := 2000000) only [go_sem, d1, w1]
      refine call_of (inB_sat (-1 - t) 0 9) (by simp -implicitDefEqProofs (maxSteps := 2000000) only [go_sem, d1, w1, e]) (by kernel_rfl) (by simp -implicitDefEqProofs (maxSteps := 2000000) only [go_sem, d1, w1, e]) ?_
      simp -implicitDefEqProofs (maxSteps := 2000000) only [go_sem, d1, w1, e]
      first | done | rfl | exact ⟨rfl, rfl⟩ | exact ⟨rfl, rfl, rfl⟩ | (refine tr_and ?_ ?_ <;> first | rfl | exact ⟨rfl, rfl⟩ | kernel_rfl)
  · have d1' := of_decide_eq_true d1
    have d2 : tvOk t = false := by unfold tvOk inB; simp; omega
    rw [d2]
    simp -implicitDefEqProofs (maxSteps := 2000000) only [go_sem, d1]
    first | done | rfl | exact ⟨rfl, rfl⟩ | exact ⟨rfl, rfl, rfl⟩ | (refine tr_and ?_ ?_ <;> first | rfl | exact ⟨rfl, rfl⟩ | kernel_rfl)
theorem letters : ∀ n : Fin 4, fmtT (n.val : Int) = (⟨#[120, 121, 122, 119]⟩ : ByteArray).extract n.val (n.val + 1) := by decide +kernel
theorem specFormatTerm_sat (t : Int) (ht : -9223372036854775808 ≤ t ∧ t ≤ 9223372036854775807) : Sat Try.prog 119 [lInt t] [lStr (fmtT t)] [g1] := by
  refine sat_of_body mixed Try.func119 rfl (by kernel_rfl) (by kernel_rfl) (rs := [.tmp 2]) rfl rfl rfl ?_
  rcases d1 : tvOk t
  · simp -implicitDefEqProofs (maxSteps := 2000000) only [go_sem]
    refine call_of (specTermValue_sat t ht) (by simp -implicitDefEqProofs (maxSteps := 2000000) only [go_sem, d1]) (by kernel_rfl) (by simp -implicitDefEqProofs (maxSteps := 2000000) only [go_sem, d1]) ?_
    simp -implicitDefEqProofs (maxSteps := 2000000) only [go_sem, d1]
    rcases d2 : inB t 0 3
    · have e : fmtT t = ⟨#[]⟩ := by
        have : isT t = false := by
          unfold isT inB; unfold tvOk inB at d1; unfold inB at d2
          rw [Bool.and_eq_false_iff] at d1 d2 ⊢
          simp only [decide_eq_false_iff_not] at d1 d2 ⊢
          omega
        rw [fmtT, this]; rfl
      rw [e]
      refine call_of (inB_sat t 0 3) (by simp -implicitDefEqProofs (maxSteps := 2000000) only [go_sem, d2]) (by kernel_rfl) (by simp -implicitDefEqProofs (maxSteps := 2000000) only [go_sem, d2]) ?_
      simp -implicitDefEqProofs (maxSteps := 2000000) only [go_sem, d2]
      first | done | rfl | exact ⟨rfl, rfl⟩ | exact ⟨rfl, rfl, rfl⟩ | (refine tr_and ?_ ?_ <;> first | rfl | exact ⟨rfl, rfl⟩ | kernel_rfl)
    · obtain ⟨n, rfl⟩ : ∃ n : Nat, t = n := ⟨t.toNat, by have := inB_of d2; omega⟩
      have hn : n < 4 := by have := inB_of d2; omega
      have w1 : IntKind.i64.wrap ((n : Int) + 1) = ((n + 1 : Nat) : Int) := i64_succ (by omega)
      refine call_of (inB_sat n 0 3) (by simp -implicitDefEqProofs (maxSteps := 2000000) only [go_sem, d2, w1]) (by kernel_rfl) (by simp -implicitDefEqProofs (maxSteps := 2000000) only [go_sem, d2, w1]) ?_
      simp -implicitDefEqProofs (maxSteps := 2000000) only [go_sem, d2, w1]
      refine ⟨by omega, by omega, ?_⟩
      rw [letters ⟨n, hn⟩]
  · obtain ⟨v, hv⟩ : ∃ v : Nat, -1 - t = v := ⟨(-1 - t).toNat, by have := inB_of d1; omega⟩
    have hv9 : v ≤ 9 := by have := inB_of d1; omega
    have e : fmtT t = digT v := by
      have h1 := inB_of d1
      have : isT t = true := by unfold isT inB; simp; omega
      rw [fmtT, this, if_pos rfl, letT, if_pos (by omega), digT, show 48 + (v : Int) = 47 - t by omega]
    rw [e]
    simp -implicitDefEqProofs (maxSteps := 2000000) only [go_sem]
    refine call_of (specTermValue_sat t ht) (by simp -implicitDefEqProofs (maxSteps := 2000000) only [go_sem, d1, hv]) (by kernel_rfl) (by simp -implicitDefEqProofs (maxSteps := 2000000) only [go_sem, d1, hv]) ?_
    simp -implicitDefEqProofs (maxSteps := 2000000) only [go_sem, d1, hv]
    refine call_of (specFormatInt_sat v hv9) (by simp -implicitDefEqProofs (maxSteps := 2000000) only [go_sem]) (by kernel_rfl) (by simp -implicitDefEqProofs (maxSteps := 2000000) only [go_sem]) ?_
    simp -implicitDefEqProofs (maxSteps := 2000000) only [go_sem]
    first | done | rfl | exact ⟨rfl, rfl⟩ | exact ⟨rfl, rfl, rfl⟩ | (refine tr_and ?_ ?_ <;> first | rfl | exact ⟨rfl, rfl⟩ | kernel_rfl)
/-! #### a term read -/
def p1 (n : Nat) : Int × Bool := if n = 120 then (0, true) else if n = 121 then (1, true) else if n = 122 then (2, true) else if n = 119 then (3, true) else if 48 ≤ n ∧ n ≤ 57 then (47 - (n : Int), true) else (0, false)
def chr0 (s : ByteArray) : UInt8 := s.data.toList.getD 0 0
def pT (s : ByteArray) : Int × Bool := if s.size = 1 then p1 (chr0 s).toNat else (0, false)
theorem pT_of : ∀ k : Fin 14, pT (fmtT ((k.val : Int) - 10)) = ((k.val : Int) - 10, true) := by decide +kernel
theorem fmt_digit : ∀ j : Fin 10, fmtT ((j.val : Int) - 10) = ⟨#[(57 - j.val).toUInt8]⟩ := by decide +kernel
theorem fmt_letter : ∀ j : Fin 4, fmtT (((j.val + 10 : Nat) : Int) - 10) = ⟨#[#[120, 121, 122, 119].getD j.val 0]⟩ := by decide +kernel
theorem byt_one {s : ByteArray} (h : s.size = 1) : s = ⟨#[chr0 s]⟩ := by
  apply byt_eq
  have hl : s.data.toList.length = 1 := by rw [Array.length_toList]; exact h
  unfold chr0
  rcases e : s.data.toList with _ | ⟨c, _ | ⟨_, _⟩⟩
  · rw [e] at hl; simp at hl
  · rfl
  · rw [e] at hl; simp at hl
theorem pT_none {s : ByteArray} (h : ∀ k : Nat, k < 14 → fmtT ((k : Int) - 10) ≠ s) : pT s = (0, false) := by
  unfold pT
  split
  · rename_i h1
    have hs := byt_one h1
    generalize chr0 s = c at hs ⊢
    have hc : ∀ n : Nat, n < 256 → c.toNat = n → c = n.toUInt8 := by
      intro n hn e
      apply UInt8.toNat_inj.mp
      rw [e]; simp; omega
    have nl : ∀ j : Fin 4, c ≠ #[120, 121, 122, 119].getD j.val 0 := fun j e => h (j.val + 10) (by omega) (by rw [fmt_letter j, hs, e])
    have nd : ∀ j : Fin 10, c ≠ (57 - j.val).toUInt8 := fun j e => h j.val (by omega) (by rw [fmt_digit j, hs, e])
    unfold p1
    rw [if_neg (fun e => nl 0 (hc 120 (by omega) e)), if_neg (fun e => nl 1 (hc 121 (by omega) e)), if_neg (fun e => nl 2 (hc 122 (by omega) e)), if_neg (fun e => nl 3 (hc 119 (by omega) e)), if_neg ?_]
    intro ⟨a1, a2⟩
    exact nd ⟨57 - c.toNat, by omega⟩ (hc _ (by simp only; omega) (by simp only; omega))
  · rfl
theorem specParseTerm_sat (s : ByteArray) : Sat Try.prog 115 [lStr s] [lInt (pT s).1, lBool (pT s).2] [g1] := by
  refine sat_of_body mixed Try.func115 rfl (by kernel_rfl) (by kernel_rfl) (rs := [.tmp 2, .tmp 3]) rfl rfl rfl ?_
  simp -implicitDefEqProofs (maxSteps := 2000000) only [go_sem]
  refine awp_loop Nat (fun k => mkSt [(0, .sc (.string s)), (4, .sc (.int .i64 ((k : Int) - 10)))] [] [] 2000)
    (fun k => k ≤ 14 ∧ ∀ j, j < k → fmtT ((j : Int) - 10) ≠ s) (fun k => 14 - k) 0 ⟨by omega, fun j hj => by omega⟩ (le_st _ _ [] [] _ rfl (by simp -implicitDefEqProofs (maxSteps := 2000000) only [go_sem] <;> rfl) trivial trivial) ?_
  rintro k ⟨h1, h2⟩
  by_cases c1 : k < 14
  · have wk : IntKind.i64.wrap ((k : Int) - 10 + 1) = ((k + 1 : Nat) : Int) - 10 := by rw [IntWalk.i64_in _ (by omega)]; omega
    have d1 : decide ((k : Int) - 10 < 4) = true := decide_eq_true (by omega)
    rcases d2 : decide (fmtT ((k : Int) - 10) = s)
    · simp -implicitDefEqProofs (maxSteps := 2000000) only [go_sem, d1]
      refine call_of (specFormatTerm_sat ((k : Int) - 10) (by omega)) (by simp -implicitDefEqProofs (maxSteps := 2000000) only [go_sem, d2, str_beq]) (by kernel_rfl) (by simp -implicitDefEqProofs (maxSteps := 2000000) only [go_sem, d2, str_beq]) ?_
      simp -implicitDefEqProofs (maxSteps := 2000000) only [go_sem, d2, str_beq]
      rw [wk]
      refine ⟨k + 1, ⟨c1, fun j hj => ?_⟩, by omega, (le_st _ _ [] [] _ rfl (by simp -implicitDefEqProofs (maxSteps := 2000000) only [go_sem] <;> rfl) trivial trivial)⟩
      rcases Nat.lt_or_ge j k with h | h
      · exact h2 j h
      · obtain rfl : j = k := by omega
        exact of_decide_eq_false d2
    · have e : pT s = ((k : Int) - 10, true) := by rw [← of_decide_eq_true d2]; exact pT_of ⟨k, c1⟩
      rw [e]
      simp -implicitDefEqProofs (maxSteps := 2000000) only [go_sem, d1]
      refine call_of (specFormatTerm_sat ((k : Int) - 10) (by omega)) (by simp -implicitDefEqProofs (maxSteps := 2000000) only [go_sem, d2, str_beq]) (by kernel_rfl) (by simp -implicitDefEqProofs (maxSteps := 2000000) only [go_sem, d2, str_beq]) ?_
      simp -implicitDefEqProofs (maxSteps := 2000000) only [go_sem, d2, str_beq]
      first | done | rfl | exact ⟨rfl, rfl⟩ | exact ⟨rfl, rfl, rfl⟩ | (refine tr_and ?_ ?_ <;> first | rfl | exact ⟨rfl, rfl⟩ | kernel_rfl)
  · obtain rfl : k = 14 := by omega
    rw [pT_none h2]
    have d1 : decide (((14 : Nat) : Int) - 10 < 4) = false := by decide
    simp -implicitDefEqProofs (maxSteps := 2000000) only [go_sem, d1]
    first | done | rfl | exact ⟨rfl, rfl⟩ | exact ⟨rfl, rfl, rfl⟩ | (refine tr_and ?_ ?_ <;> first | rfl | exact ⟨rfl, rfl⟩ | kernel_rfl)
theorem idx_letter : ∀ n : Fin 256, Lib.indexByte [120, 121, 122, 119] n.val.toUInt8 = if n.val = 120 then 0 else if n.val = 121 then 1 else if n.val = 122 then 2 else if n.val = 119 then 3 else -1 := by decide +kernel
end Go.Proofs.Ytedciihjgbkjgaa.A


/- THE LIBRARY'S JOIN OF STRINGS, of this program. Conditions: none. -/
namespace Go.Proofs.Ytedciihjgbkjgaa.A
open Go Go.Shelf
set_option linter.unusedVariables false
set_option maxRecDepth 100000
def tvs (a : List ByteArray) : List Value := a.map Value.string
def sts (a : List ByteArray) : Rows := lift (tvs a)
theorem tvs_length (a : List ByteArray) : (tvs a).length = a.length := by simp [tvs]
theorem sts_length (a : List ByteArray) : (sts a).length = a.length := by simp [sts, lift, tvs]
theorem sts_eq (a : List ByteArray) : sts a = a.map fun n => [Cell.sc (.string n)] := by simp [sts, lift, tvs]
theorem sts_get {a : List ByteArray} {i : Nat} (h : i < a.length) : (sts a).getD i [] = [Cell.sc (.string (a.getD i default))] := by
  simp [sts_eq, List.getD_eq_getElem?_getD, h]
theorem sts_frz (a : List ByteArray) : frz (sts a) = sts a := frz_lift _
theorem sts_rst (a : List ByteArray) : rst (sts a) = sts a := rst_lift _
theorem sts_stm (n : Nat) (a : List ByteArray) : stm n (sts a) = sts a := stm_lift n _
theorem sts_flat (a : List ByteArray) : flatB (sts a) = true := lift_flatB _
theorem sts_unlift (a : List ByteArray) : lift (unlift (sts a)) = sts a := by unfold sts; rw [unlift_lift]
theorem sts_take (a : List ByteArray) (k : Nat) : (sts a).take k = sts (a.take k) := by simp [sts_eq]
theorem sts_drop (a : List ByteArray) (k : Nat) : (sts a).drop k = sts (a.drop k) := by simp [sts_eq]
theorem sts_append (a b : List ByteArray) : sts a ++ sts b = sts (a ++ b) := by simp [sts_eq]
theorem sts_one (n : ByteArray) : [[Cell.sc (.string n)]] = sts [n] := by simp [sts_eq]
theorem sts_nil : sts [] = [] := rfl
theorem sts_still (a : List ByteArray) : stillRows (sts a) = true := by simp [stillRows, sts_eq, Cell.still]
theorem lift_tvs (a : List ByteArray) : lift (tvs a) = sts a := rfl
attribute [go_sem] lift_tvs tvs_length sts_length sts_get sts_frz sts_rst sts_stm sts_flat sts_unlift sts_take sts_drop sts_append sts_one
abbrev lStrs (xs : List ByteArray) : LV := .one (.im 1 (sts xs))
abbrev oStrs (xs : List ByteArray) : LV := .one (.ow 1 (sts xs))
end Go.Proofs.Ytedciihjgbkjgaa.A


/- TEXTS JOINED. Conditions: none. -/
namespace Go.Proofs.Ytedciihjgbkjgaa.A
open Go
set_option linter.unusedSimpArgs false
set_option linter.unusedVariables false
set_option maxRecDepth 100000

/-! #### texts joined -/
abbrev noB : ByteArray := ⟨#[]⟩
abbrev spB : ByteArray := ⟨#[32]⟩
theorem bytes_eq {a b : ByteArray} (h : a.data.toList = b.data.toList) : a = b := Go.WideShapes.bytes_inj h
theorem app_data (a b : ByteArray) : (a ++ b).data.toList = a.data.toList ++ b.data.toList := by
  rw [ByteArray.data_append, Array.toList_append]
theorem size_data (a : ByteArray) : a.size = a.data.toList.length := (Array.length_toList ..).symm
theorem app_size (a b : ByteArray) : (a ++ b).size = a.size + b.size := by rw [size_data, size_data, size_data, app_data, List.length_append]
theorem joinB_data (xs : List ByteArray) (sep : ByteArray) : (joinB xs sep).data.toList = Lib.join (xs.map (·.data.toList)) sep.data.toList := by simp [joinB]
theorem joinB_nil (sep : ByteArray) : joinB [] sep = noB := bytes_eq (by rw [joinB_data]; rfl)
theorem joinB_one (x sep : ByteArray) : joinB [x] sep = x := bytes_eq (by rw [joinB_data, List.map_cons, List.map_nil, Lib.join_one])
theorem joinB_snoc {xs : List ByteArray} (h : xs ≠ []) (y sep : ByteArray) : joinB (xs ++ [y]) sep = joinB xs sep ++ sep ++ y := by
  obtain ⟨x, r, rfl⟩ := List.exists_cons_of_ne_nil h
  apply bytes_eq
  rw [app_data, app_data, joinB_data, joinB_data, List.cons_append, List.map_cons, List.map_cons, Lib.join_cons, Lib.join_cons]
  simp [Lib.joinTail, List.append_assoc]
theorem joinB_size (sep : ByteArray) (m : Nat) : ∀ (xs : List ByteArray), (∀ x ∈ xs, x.size ≤ m) → (joinB xs sep).size ≤ xs.length * (m + sep.size) := by
  intro xs h
  rcases xs with _ | ⟨x, r⟩
  · rw [joinB_nil]; exact Nat.zero_le _
  have hr : ∀ r : List ByteArray, (∀ x ∈ r, x.size ≤ m) → (Lib.joinTail sep.data.toList (r.map (·.data.toList))).length ≤ r.length * (m + sep.size) := by
    intro r
    induction r with
    | nil => intro _; simp [Lib.joinTail]
    | cons y r ih =>
      intro h
      have h1 := ih fun x hx => h x (List.mem_cons_of_mem _ hx)
      have h2 := h y (List.mem_cons_self ..)
      have e : Lib.joinTail sep.data.toList ((y :: r).map (·.data.toList)) = sep.data.toList ++ y.data.toList ++ Lib.joinTail sep.data.toList (r.map (·.data.toList)) := by simp [Lib.joinTail]
      rw [e, List.length_append, List.length_append, ← size_data, ← size_data, List.length_cons, Nat.add_mul, Nat.one_mul]
      omega
  have h1 := hr r fun x hx => h x (List.mem_cons_of_mem _ hx)
  have h2 := h x (List.mem_cons_self ..)
  rw [size_data, joinB_data, List.map_cons, Lib.join_cons, List.length_append, ← size_data, List.length_cons, Nat.add_mul, Nat.one_mul]
  omega
theorem noB_ne {a : ByteArray} (h : 0 < a.size) : a ≠ noB := by
  rintro rfl
  exact absurd h (by decide)

theorem app_noB (a : ByteArray) : a ++ noB = a := bytes_eq (by rw [app_data]; simp)
theorem noB_app (a : ByteArray) : noB ++ a = a := bytes_eq (by rw [app_data]; rfl)
theorem app_ass (a b c : ByteArray) : a ++ b ++ c = a ++ (b ++ c) := bytes_eq (by simp [app_data])
/-- Texts side by side. -/
def catB (xs : List ByteArray) : ByteArray := joinB xs noB
theorem catB_nil : catB [] = noB := joinB_nil _
theorem catB_snoc (xs : List ByteArray) (y : ByteArray) : catB (xs ++ [y]) = catB xs ++ y := by
  unfold catB
  by_cases h : xs = []
  · subst h; rw [List.nil_append, joinB_one, joinB_nil, noB_app]
  · rw [joinB_snoc h, app_noB]
theorem catB_size {xs : List ByteArray} {m : Nat} (h : ∀ x ∈ xs, x.size ≤ m) : (catB xs).size ≤ xs.length * m := by
  have := joinB_size noB m xs h
  rw [show (noB : ByteArray).size = 0 from rfl, Nat.add_zero] at this
  exact this
end Go.Proofs.Ytedciihjgbkjgaa.A


/- A TERM's TEXT, the program's. Conditions: none. -/
namespace Go.Proofs.Ytedciihjgbkjgaa.A
open Go
set_option linter.unusedSimpArgs false
set_option linter.unusedVariables false
set_option maxRecDepth 100000

theorem dec_dig : ∀ n : Fin 10, (⟨(Lib.decDigits n.val).toArray⟩ : ByteArray) = digT (n.val : Int) := by decide +kernel
end Go.Proofs.Ytedciihjgbkjgaa.A


/- THE TEXT OF A QUERY. Conditions: none. -/
namespace Go.Proofs.Ytedciihjgbkjgaa.A
open Go
set_option linter.unusedSimpArgs false
set_option linter.unusedVariables false
set_option maxRecDepth 100000

theorem getD_inQ {l : List Int} {y : Int} (h : y ∈ l) : ∃ j, j < l.length ∧ l.getD j 0 = y := by
  obtain ⟨j, hj, e⟩ := List.mem_iff_getElem.mp h
  exact ⟨j, hj, by simp [List.getD_eq_getElem?_getD, hj, e]⟩
abbrev barB : ByteArray := ⟨#[124]⟩
abbrev askB : ByteArray := ⟨#[63]⟩
abbrev blB : ByteArray := ⟨#[32]⟩
def fmtTs (ts : List Int) : List ByteArray := ts.map fmtT
def catT (ts : List Int) : ByteArray := catB (fmtTs ts)
theorem catT_nil : catT [] = noB := catB_nil
theorem fmtT_size (t : Int) : (fmtT t).size ≤ 1 := by
  unfold fmtT
  split
  · exact Nat.le_refl 1
  · exact Nat.zero_le 1
theorem fmtTs_size (ts : List Int) : ∀ x ∈ fmtTs ts, x.size ≤ 1 := by
  intro x hx
  obtain ⟨t, _, rfl⟩ := List.mem_map.mp hx
  exact fmtT_size t
theorem fmtTs_len (ts : List Int) : (fmtTs ts).length = ts.length := List.length_map _
theorem catT_size (ts : List Int) : (catT ts).size ≤ ts.length := by
  have := catB_size (fmtTs_size ts)
  rw [fmtTs_len, Nat.mul_one] at this
  exact this
theorem catT_step {ts : List Int} {k : Nat} (h : k < ts.length) : catT (ts.take (k + 1)) = catT (ts.take k) ++ fmtT (ts.getD k 0) := by
  unfold catT fmtTs
  rw [take_snoc 0 h, List.map_append, List.map_cons, List.map_nil, catB_snoc]
/-- Terms with a bar ahead of one. -/
def barT (ts : List Int) (n : Nat) : ByteArray := if n < ts.length then catT (ts.take n) ++ (barB ++ catT (ts.drop n)) else catT (ts.take n)
def barK (ts : List Int) (n : Nat) : Nat → ByteArray
  | 0 => noB
  | k + 1 => (if k = n then barK ts n k ++ barB else barK ts n k) ++ fmtT (ts.getD k 0)
theorem barK_lo {ts : List Int} {n : Nat} : ∀ {k : Nat}, k ≤ n → k ≤ ts.length → barK ts n k = catT (ts.take k)
  | 0, _, _ => by rw [barK, List.take_zero]; exact catB_nil.symm
  | k + 1, h, hl => by rw [barK, if_neg (by omega), barK_lo (by omega) (by omega), catT_step (by omega)]
theorem barK_hi {ts : List Int} {n : Nat} : ∀ {k : Nat}, n < k → k ≤ ts.length → barK ts n k = catT (ts.take n) ++ (barB ++ catT ((ts.drop n).take (k - n)))
  | 0, h, _ => by omega
  | k + 1, h, hl => by
    by_cases e : k = n
    · subst e
      rw [barK, if_pos rfl, barK_lo (Nat.le_refl _) (by omega), show k + 1 - k = 0 + 1 by omega, catT_step (by rw [List.length_drop]; omega), List.take_zero, app_ass,
        show catT ([] : List Int) = noB from catB_nil, noB_app]
      simp [List.getD_eq_getElem?_getD]
    · rw [barK, if_neg e, barK_hi (by omega) (by omega), show k + 1 - n = (k - n) + 1 by omega, catT_step (by rw [List.length_drop]; omega), app_ass, app_ass,
        show (ts.drop n).getD (k - n) 0 = ts.getD k 0 by simp [List.getD_eq_getElem?_getD, show n + (k - n) = k by omega]]
theorem barK_end {ts : List Int} {n : Nat} (h : n ≤ ts.length) : barK ts n ts.length = barT ts n := by
  unfold barT
  split
  · rw [barK_hi (by omega) (Nat.le_refl _), List.take_of_length_le (l := ts.drop n) (by rw [List.length_drop]; exact Nat.le_refl _)]
  · obtain rfl : n = ts.length := by omega
    rw [barK_lo (Nat.le_refl _) (Nat.le_refl _)]
theorem barK_size (ts : List Int) (n : Nat) : ∀ k, (barK ts n k).size ≤ 2 * k
  | 0 => Nat.le_refl 0
  | k + 1 => by
    have h1 := barK_size ts n k
    have h2 := fmtT_size (ts.getD k 0)
    rw [barK, app_size]
    split
    · rw [app_size]
      have : barB.size = 1 := rfl
      omega
    · omega
def atomText (l : List Rel) (a : RI) : ByteArray := (l.getD a.r.toNat default).name ++ barT a.l (l.getD a.r.toNat default).kl.toNat
def atTs (l : List Rel) (rs : List RI) : List ByteArray := rs.map (atomText l)
def qTexts (l : List Rel) (q : Qu) : List ByteArray := atTs l q.atoms
def quText (l : List Rel) (q : Qu) : ByteArray := if goodQu l q then catT q.free ++ askB ++ joinB (qTexts l q) blB else noB
/-- What holds of an atom of a valid query. -/
structure GoodAt (l : List Rel) (a : RI) (n k : Nat) : Prop where
  r : a.r = n
  kl : (l.getD n default).kl = k
  hn : n < l.length
  hk : k ≤ a.l.length
  hl : a.l.length ≤ 3
  sn : (l.getD n default).name.size = 1
  ht : ∀ t ∈ a.l, -10 ≤ t ∧ t ≤ 3
theorem goodAt_of {l : List Rel} {q : Qu} (g : goodQu l q = true) {i : Nat} (hi : i < q.atoms.length) : ∃ n k : Nat, GoodAt l (q.atoms.getD i default) n k := by
  have h1 := goodQu_at g hi
  have hv := (goodQu_parts g).1
  unfold goodQu goodRels at g
  unfold atomOk relAt at h1
  simp only [Bool.and_eq_true] at g h1
  have h2 := inB_of h1.1.1
  have h3 := upTo_at g.1.1 (show (q.atoms.getD i default).r.toNat < l.length by omega)
  unfold relOk goodRel at h3
  simp only [Bool.and_eq_true, beq_iff_eq] at h3 h1
  have h4 := inB_of h3.1.2.2.2.1
  have h5 := inB_of h3.1.2.2.2.2
  refine ⟨(q.atoms.getD i default).r.toNat, (l.getD (q.atoms.getD i default).r.toNat default).kl.toNat, by omega, by omega, by omega, by have := h1.1.2; omega, by have := h1.1.2; omega, by have := h3.1.1; omega, fun t ht => ?_⟩
  obtain ⟨j, hj, rfl⟩ := getD_inQ ht
  have h6 := upTo_at h1.2.2 hj
  unfold termOk at h6
  have := inB_of h6
  omega
theorem goodFree {l : List Rel} {q : Qu} (g : goodQu l q = true) : ∀ t ∈ q.free, -10 ≤ t ∧ t ≤ 3 := by
  have hv := (goodQu_parts g).1
  unfold goodQu at g
  simp only [Bool.and_eq_true] at g
  have h1 := g.2.2.2.1
  intro t ht
  obtain ⟨j, hj, rfl⟩ := getD_inQ ht
  unfold idxs at h1
  have h2 := upTo_at h1 hj
  unfold idxAt at h2
  simp only [Bool.and_eq_true] at h2
  have := inB_of h2.1
  omega
theorem barT_size {ts : List Int} {n : Nat} (h : n ≤ ts.length) : (barT ts n).size ≤ 2 * ts.length := by
  rw [← barK_end h]; exact barK_size ts n _
theorem atomText_size {l : List Rel} {a : RI} {n k : Nat} (G : GoodAt l a n k) : (atomText l a).size ≤ 7 := by
  have h1 := barT_size G.hk
  have h2 := G.hl
  rw [atomText, app_size, G.r, Int.toNat_natCast, G.sn, G.kl, Int.toNat_natCast]
  omega
theorem qTexts_mem {l : List Rel} {q : Qu} (g : goodQu l q = true) : ∀ x ∈ qTexts l q, x.size ≤ 7 := by
  intro x hx
  obtain ⟨a, ha, rfl⟩ := List.mem_map.mp hx
  obtain ⟨i, hi, e⟩ := List.mem_iff_getElem.mp ha
  obtain ⟨n, k, G⟩ := goodAt_of g hi
  have : q.atoms.getD i default = a := by simp [List.getD_eq_getElem?_getD, hi, e]
  rw [this] at G
  exact atomText_size G
theorem atTs_step {l : List Rel} {rs : List RI} {k : Nat} (h : k < rs.length) : atTs l (rs.take (k + 1)) = atTs l (rs.take k) ++ [atomText l (rs.getD k default)] := by
  unfold atTs; rw [take_snoc default h, List.map_append]; rfl
theorem atTs_len (l : List Rel) (rs : List RI) : (atTs l rs).length = rs.length := List.length_map _
theorem l11Atom_sat (l : List Rel) (a : RI) (n k : Nat) (hl : l.length ≤ 9223372036854775807) (G : GoodAt l a n k) : Sat Try.prog 120 [lRels l, lRI a] [lStr (atomText l a)] [g1, g2] := by
  refine sat_of_body mixed Try.func120 rfl (by kernel_rfl) (by kernel_rfl) (rs := [.tmp 4]) rfl rfl rfl ?_
  obtain ⟨er, ek, hn, hk, h3, sn, ht⟩ := G
  unfold atomText
  rcases a with ⟨r, ts⟩
  simp only at er ek hk h3 ht
  subst er
  rw [Int.toNat_natCast, ek, Int.toNat_natCast, ← barK_end hk]
  simp -implicitDefEqProofs (maxSteps := 2000000) only [go_sem, hn]
  refine awp_loop Nat (fun j => mkSt [(0, .one (.im 3 (rels l))), (3, .one (.vad 1000 0)), (5, .sc (.string ((l.getD n default).name ++ barK ts k j))), (6, .sc (.int .i64 j))] [(1000, sRI ⟨n, ts⟩)] [] 3000)
    (fun j => j ≤ ts.length) (fun j => ts.length - j) 0 (by omega) (le_st _ _ [] [] _ rfl (by simp -implicitDefEqProofs (maxSteps := 2000000) only [go_sem, barK, app_noB] <;> rfl) (by simp -implicitDefEqProofs (maxSteps := 2000000) only [go_sem, barK, app_noB] <;> rfl) (by simp -implicitDefEqProofs (maxSteps := 2000000) only [go_sem, barK, app_noB] <;> rfl)) ?_
  rintro j h1
  by_cases c1 : j < ts.length
  · have wj : IntKind.i64.wrap ((j : Int) + 1) = ((j + 1 : Nat) : Int) := i64_succ (by omega)
    have hr := ht _ (mem_getD 0 c1)
    have hbs := barK_size ts k j
    have hfs := fmtT_size (ts.getD j 0)
    have b1 : barB.size = 1 := rfl
    by_cases e : j = k
    · have d1 : (((j : Nat) : Int) == ((k : Nat) : Int)) = true := by rw [beq_iff_eq]; omega
      have hst : (l.getD n default).name ++ barK ts k (j + 1) = (l.getD n default).name ++ barK ts k j ++ barB ++ fmtT (ts.getD j 0) := by rw [barK, if_pos e, app_ass, app_ass, app_ass]
      simp -implicitDefEqProofs (maxSteps := 2000000) only [go_sem, c1, hn, ek, d1, app_size, sn]
      refine ⟨by omega, ?_⟩
      refine call_of (specFormatTerm_sat (ts.getD j 0) (by omega)) (by simp -implicitDefEqProofs (maxSteps := 2000000) only [go_sem, c1, app_size, sn]) (by kernel_rfl) (by simp -implicitDefEqProofs (maxSteps := 2000000) only [go_sem, c1, app_size, sn]) ?_
      simp -implicitDefEqProofs (maxSteps := 2000000) only [go_sem, c1, app_size, sn]
      refine ⟨by omega, ?_⟩
      rw [wj]
      exact ⟨j + 1, c1, by omega, (le_st _ _ [] [] _ rfl (by simp -implicitDefEqProofs (maxSteps := 2000000) only [go_sem, hst] <;> rfl) (by simp -implicitDefEqProofs (maxSteps := 2000000) only [go_sem, hst] <;> rfl) (by simp -implicitDefEqProofs (maxSteps := 2000000) only [go_sem, hst] <;> rfl))⟩
    · have d1 : (((j : Nat) : Int) == ((k : Nat) : Int)) = false := by rw [beq_eq_false_iff_ne]; omega
      have hst : (l.getD n default).name ++ barK ts k (j + 1) = (l.getD n default).name ++ barK ts k j ++ fmtT (ts.getD j 0) := by rw [barK, if_neg e, app_ass]
      simp -implicitDefEqProofs (maxSteps := 2000000) only [go_sem, c1, hn, ek, d1, app_size, sn]
      refine call_of (specFormatTerm_sat (ts.getD j 0) (by omega)) (by simp -implicitDefEqProofs (maxSteps := 2000000) only [go_sem, c1, app_size, sn]) (by kernel_rfl) (by simp -implicitDefEqProofs (maxSteps := 2000000) only [go_sem, c1, app_size, sn]) ?_
      simp -implicitDefEqProofs (maxSteps := 2000000) only [go_sem, c1, app_size, sn]
      refine ⟨by omega, ?_⟩
      rw [wj]
      exact ⟨j + 1, c1, by omega, (le_st _ _ [] [] _ rfl (by simp -implicitDefEqProofs (maxSteps := 2000000) only [go_sem, hst] <;> rfl) (by simp -implicitDefEqProofs (maxSteps := 2000000) only [go_sem, hst] <;> rfl) (by simp -implicitDefEqProofs (maxSteps := 2000000) only [go_sem, hst] <;> rfl))⟩
  · obtain rfl : j = ts.length := by omega
    simp -implicitDefEqProofs (maxSteps := 2000000) only [go_sem, c1]
    first | done | rfl | exact ⟨rfl, rfl⟩ | exact ⟨rfl, rfl, rfl⟩ | (refine tr_and ?_ ?_ <;> first | rfl | exact ⟨rfl, rfl⟩ | kernel_rfl)
theorem specFormatQuery_sat (l : List Rel) (q : Qu) (hl : l.length ≤ 9223372036854775807) (hq : q.ok) : Sat Try.prog 117 [lRels l, lQu q] [lStr (quText l q)] [g1, g3] := by
  refine sat_of_body mixed Try.func117 rfl (by kernel_rfl) (by kernel_rfl) (rs := [.tmp 4]) rfl rfl rfl ?_
  have hqf : q.fit := hq.fit
  unfold quText
  rcases g : goodQu l q
  · rw [if_neg (by simp)]
    simp -implicitDefEqProofs (maxSteps := 2000000) only [go_sem]
    refine call_of (specIsValidQuery_sat l q hl hqf) (by simp -implicitDefEqProofs (maxSteps := 2000000) only [go_sem, g]) (by kernel_rfl) (by simp -implicitDefEqProofs (maxSteps := 2000000) only [go_sem, g]) ?_
    simp -implicitDefEqProofs (maxSteps := 2000000) only [go_sem, g]
    first | done | rfl | exact ⟨rfl, rfl⟩ | exact ⟨rfl, rfl, rfl⟩ | (refine tr_and ?_ ?_ <;> first | rfl | exact ⟨rfl, rfl⟩ | kernel_rfl)
  rw [if_pos rfl]
  obtain ⟨hv, hn1, hn⟩ := goodQu_parts g
  have hf := goodFree g
  have hfl : q.free.length ≤ 1048576 := hq.2
  have s3 : askB.size = 1 := rfl
  have s4 : blB.size = 1 := rfl
  simp -implicitDefEqProofs (maxSteps := 2000000) only [go_sem]
  refine call_of (specIsValidQuery_sat l q hl hqf) (by simp -implicitDefEqProofs (maxSteps := 2000000) only [go_sem, g]) (by kernel_rfl) (by simp -implicitDefEqProofs (maxSteps := 2000000) only [go_sem, g]) ?_
  simp -implicitDefEqProofs (maxSteps := 2000000) only [go_sem, g]
  refine awp_loop Nat (fun k => mkSt [(0, .one (.im 3 (rels l))), (3, .one (.vad 1000 0)), (5, .sc (.string (catT (q.free.take k)))), (6, .sc (.int .i64 k))] [(1000, sQu q)] [] 6000)
    (fun k => k ≤ q.free.length) (fun k => q.free.length - k) 0 (by omega) (le_st _ _ [] [] _ rfl (by simp -implicitDefEqProofs (maxSteps := 2000000) only [go_sem, List.take_zero, catT_nil] <;> rfl) (by simp -implicitDefEqProofs (maxSteps := 2000000) only [go_sem, List.take_zero, catT_nil] <;> rfl) (by simp -implicitDefEqProofs (maxSteps := 2000000) only [go_sem, List.take_zero, catT_nil] <;> rfl)) ?_
  rintro k h1
  by_cases c1 : k < q.free.length
  · have wk : IntKind.i64.wrap ((k : Int) + 1) = ((k + 1 : Nat) : Int) := i64_succ (by omega)
    have hst := catT_step c1
    have hr := hf _ (mem_getD 0 c1)
    have s5 := catT_size (q.free.take k)
    rw [List.length_take] at s5
    have s6 := fmtT_size (q.free.getD k 0)
    simp -implicitDefEqProofs (maxSteps := 2000000) only [go_sem, c1]
    refine call_of (specFormatTerm_sat (q.free.getD k 0) (by omega)) (by simp -implicitDefEqProofs (maxSteps := 2000000) only [go_sem, c1]) (by kernel_rfl) (by simp -implicitDefEqProofs (maxSteps := 2000000) only [go_sem, c1]) ?_
    simp -implicitDefEqProofs (maxSteps := 2000000) only [go_sem, c1]
    refine ⟨by omega, ?_⟩
    rw [wk]
    exact ⟨k + 1, c1, by omega, (le_st _ _ [] [] _ rfl (by simp -implicitDefEqProofs (maxSteps := 2000000) only [go_sem, hst] <;> rfl) (by simp -implicitDefEqProofs (maxSteps := 2000000) only [go_sem, hst] <;> rfl) (by simp -implicitDefEqProofs (maxSteps := 2000000) only [go_sem, hst] <;> rfl))⟩
  obtain rfl : k = q.free.length := by omega
  have s5 := catT_size q.free
  rw [List.take_length]
  simp -implicitDefEqProofs (maxSteps := 2000000) only [go_sem, c1, app_size]
  refine ⟨by omega, ?_⟩
  refine awp_loop Nat (fun k => mkSt [(0, .one (.im 3 (rels l))), (3, .one (.vad 1000 0)), (5, .sc (.string (catT q.free ++ askB ++ joinB (atTs l (q.atoms.take k)) blB))), (7, .sc (.int .i64 k))] [(1000, sQu q)] [] 9000)
    (fun k => k ≤ q.atoms.length) (fun k => q.atoms.length - k) 0 (by omega) (le_st _ _ [] [] _ rfl (by simp -implicitDefEqProofs (maxSteps := 2000000) only [go_sem, atTs, List.take_zero, List.map_nil, joinB_nil, app_noB] <;> rfl) (by simp -implicitDefEqProofs (maxSteps := 2000000) only [go_sem, atTs, List.take_zero, List.map_nil, joinB_nil, app_noB] <;> rfl) (by simp -implicitDefEqProofs (maxSteps := 2000000) only [go_sem, atTs, List.take_zero, List.map_nil, joinB_nil, app_noB] <;> rfl)) ?_
  rintro k h2
  by_cases c2 : k < q.atoms.length
  · have wk : IntKind.i64.wrap ((k : Int) + 1) = ((k + 1 : Nat) : Int) := i64_succ (by omega)
    obtain ⟨n, m, G⟩ := goodAt_of g c2
    have hst := atTs_step (l := l) c2
    have s6 := atomText_size G
    have s7 := joinB_size blB 7 (atTs l (q.atoms.take k)) (fun x hx => by
      obtain ⟨a, ha, rfl⟩ := List.mem_map.mp hx
      exact qTexts_mem g _ (List.mem_map.mpr ⟨a, List.mem_of_mem_take ha, rfl⟩))
    rw [atTs_len, List.length_take, s4] at s7
    have s8 : min k q.atoms.length * (7 + 1) ≤ 3 * 8 := Nat.mul_le_mul (by omega) (by omega)
    rcases k with _ | k
    · have e1 : catT q.free ++ askB ++ joinB (atTs l (q.atoms.take (0 + 1))) blB = catT q.free ++ askB ++ atomText l (q.atoms.getD 0 default) := by
        rw [hst, show atTs l (q.atoms.take 0) = [] from rfl, List.nil_append, joinB_one]
      have e0 : joinB (atTs l []) blB = noB := joinB_nil _
      have d1 : decide ((0 : Int) < ((q.atoms.length : Nat) : Int)) = true := decide_eq_true (by omega)
      simp -implicitDefEqProofs (maxSteps := 2000000) only [go_sem, d1, c2, app_size, e0, app_noB]
      refine call_of (l11Atom_sat l (q.atoms.getD 0 default) n m hl G) (by simp -implicitDefEqProofs (maxSteps := 2000000) only [go_sem, c2, app_size, e0, app_noB]) (by kernel_rfl) (by simp -implicitDefEqProofs (maxSteps := 2000000) only [go_sem, c2, app_size, e0, app_noB]) ?_
      simp -implicitDefEqProofs (maxSteps := 2000000) only [go_sem, c2, app_size, e0, app_noB]
      refine ⟨by omega, ?_⟩
      exact ⟨0 + 1, c2, by omega, (le_st _ _ [] [] _ rfl (by simp -implicitDefEqProofs (maxSteps := 2000000) only [go_sem, e1] <;> rfl) (by simp -implicitDefEqProofs (maxSteps := 2000000) only [go_sem, e1] <;> rfl) (by simp -implicitDefEqProofs (maxSteps := 2000000) only [go_sem, e1] <;> rfl))⟩
    · have hne : atTs l (q.atoms.take (k + 1)) ≠ [] := fun e => by
        have := congrArg List.length e
        rw [atTs_len, List.length_take] at this
        rw [List.length_nil] at this
        omega
      have e1 : catT q.free ++ askB ++ joinB (atTs l (q.atoms.take (k + 1 + 1))) blB = catT q.free ++ askB ++ joinB (atTs l (q.atoms.take (k + 1))) blB ++ blB ++ atomText l (q.atoms.getD (k + 1) default) := by
        rw [hst, joinB_snoc hne]
        simp only [app_ass]
      have d1 : decide (((k + 1 : Nat) : Int) > 0) = true := decide_eq_true (by omega)
      simp -implicitDefEqProofs (maxSteps := 2000000) only [go_sem, c2, d1, app_size]
      refine ⟨by omega, ?_⟩
      refine call_of (l11Atom_sat l (q.atoms.getD (k + 1) default) n m hl G) (by simp -implicitDefEqProofs (maxSteps := 2000000) only [go_sem, c2, app_size]) (by kernel_rfl) (by simp -implicitDefEqProofs (maxSteps := 2000000) only [go_sem, c2, app_size]) ?_
      simp -implicitDefEqProofs (maxSteps := 2000000) only [go_sem, c2, app_size]
      refine ⟨by omega, ?_⟩
      rw [wk]
      exact ⟨k + 1 + 1, c2, by omega, (le_st _ _ [] [] _ rfl (by simp -implicitDefEqProofs (maxSteps := 2000000) only [go_sem, e1] <;> rfl) (by simp -implicitDefEqProofs (maxSteps := 2000000) only [go_sem, e1] <;> rfl) (by simp -implicitDefEqProofs (maxSteps := 2000000) only [go_sem, e1] <;> rfl))⟩
  · obtain rfl : k = q.atoms.length := by omega
    rw [List.take_length]
    simp -implicitDefEqProofs (maxSteps := 2000000) only [go_sem, c2]
    first | done | rfl | exact ⟨rfl, rfl⟩ | exact ⟨rfl, rfl, rfl⟩ | (refine tr_and ?_ ?_ <;> first | rfl | exact ⟨rfl, rfl⟩ | kernel_rfl)
end Go.Proofs.Ytedciihjgbkjgaa.A
