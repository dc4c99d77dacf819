/- Packed by pack.py: FQ2 FCl FDraw7 FDraw8 FCopy FBlk1 F2 FEmD FQF FEm1 FC2 FC3 FBlk2 FSel FBlk3 FBlk4 FDraw11 FDraw12 FLib FConst FTerm FJoin FByt FTerm2 FFQ FPq -/
import Derived.Test.YtedciihjgbkjgabGreatAZ1DBindVariable
import Derived.Test.YtedciihjgbkjgabGreatA43
import Derived.Test.YtedciihjgbkjgabGreatA46
import Derived.WideShapes
import Derived.Test.YtedciihjgbkjgabGreatA45

/- VALID QUERIES: the two programs. Conditions: none. -/
namespace Go.Proofs.YtedciihjgbkjgabGreat.A
open Go
set_option linter.unusedSimpArgs false
set_option linter.unusedVariables false
set_option maxRecDepth 100000

theorem goodQu_atom {l : List Rel} {q : Qu} {i : Nat} (hi : i < q.atoms.length) (h : atomOk l q i = false) : goodQu l q = false := by
  unfold goodQu; rw [upTo_false hi h]; simp
theorem goodQu_var {l : List Rel} {q : Qu} {v : Nat} (hv : v < q.vc.toNat) (h : occurs q q.atoms.length v = false) : goodQu l q = false := by
  unfold goodQu; rw [upTo_false (p := fun v => occurs q q.atoms.length v) hv h]; simp
theorem goodQu_free {l : List Rel} {q : Qu} {v : Nat} (hv : v < q.free.length) (h : idxAt q.free q.vc v = false) : goodQu l q = false := by
  unfold goodQu idxs; rw [upTo_false hv h]; simp
theorem dec_snoc {l : List Int} {x v : Int} (h : v ≠ x) : decide (v ∈ l ++ [x]) = decide (v ∈ l) := by
  rw [Bool.eq_iff_iff, decide_eq_true_iff, decide_eq_true_iff, List.mem_append, List.mem_singleton]
  exact ⟨fun k => k.resolve_right h, .inl⟩
theorem specIsValidQuery_sat (l : List Rel) (q : Qu) (h : l.length ≤ 9223372036854775807) (hq : q.fit) : Sat Tryz.prog 14 [lRels l, lQu q] [lBool (goodQu l q)] [g1, g3] := by
  refine sat_of_body mixed Tryz.func14 rfl (by kernel_rfl) (by kernel_rfl) (rs := [.tmp 4]) rfl rfl rfl ?_
  have w0 : IntKind.i64.wrap ((l.length : Int) - 1) = (l.length : Int) - 1 := IntWalk.i64_in _ (by omega)
  simp -implicitDefEqProofs (maxSteps := 2000000) only [go_sem]
  rcases g : goodRels l
  · rw [show goodQu l q = false by rw [goodQu, g]; rfl]
    refine call_of (specAreValidRelations_sat l h) (by simp -implicitDefEqProofs (maxSteps := 2000000) only [go_sem, g]) (by kernel_rfl) (by simp -implicitDefEqProofs (maxSteps := 2000000) only [go_sem, g]) ?_
    simp -implicitDefEqProofs (maxSteps := 2000000) only [go_sem, g]
  rcases v1 : inB q.vc 0 4
  · rw [show goodQu l q = false by rw [goodQu, v1]; simp]
    refine call_of (specAreValidRelations_sat l h) (by simp -implicitDefEqProofs (maxSteps := 2000000) only [go_sem, g]) (by kernel_rfl) (by simp -implicitDefEqProofs (maxSteps := 2000000) only [go_sem, g]) ?_
    simp -implicitDefEqProofs (maxSteps := 2000000) only [go_sem, g]
    refine call_of (inB_sat q.vc 0 4) (by simp -implicitDefEqProofs (maxSteps := 2000000) only [go_sem, v1]) (by kernel_rfl) (by simp -implicitDefEqProofs (maxSteps := 2000000) only [go_sem, v1]) ?_
    simp -implicitDefEqProofs (maxSteps := 2000000) only [go_sem, v1]
  rcases v2 : inB q.atoms.length 1 3
  · rw [show goodQu l q = false by rw [goodQu, v2]; simp]
    refine call_of (specAreValidRelations_sat l h) (by simp -implicitDefEqProofs (maxSteps := 2000000) only [go_sem, g]) (by kernel_rfl) (by simp -implicitDefEqProofs (maxSteps := 2000000) only [go_sem, g]) ?_
    simp -implicitDefEqProofs (maxSteps := 2000000) only [go_sem, g]
    refine call_of (inB_sat q.vc 0 4) (by simp -implicitDefEqProofs (maxSteps := 2000000) only [go_sem, v1]) (by kernel_rfl) (by simp -implicitDefEqProofs (maxSteps := 2000000) only [go_sem, v1]) ?_
    simp -implicitDefEqProofs (maxSteps := 2000000) only [go_sem, v1]
    refine call_of (inB_sat q.atoms.length 1 3) (by simp -implicitDefEqProofs (maxSteps := 2000000) only [go_sem, v2]) (by kernel_rfl) (by simp -implicitDefEqProofs (maxSteps := 2000000) only [go_sem, v2]) ?_
    simp -implicitDefEqProofs (maxSteps := 2000000) only [go_sem, v2]
  obtain ⟨b1, b2⟩ := inB_of v1
  obtain ⟨b3, b4⟩ := inB_of v2
  have wv : IntKind.i64.wrap (q.vc - 1) = q.vc - 1 := IntWalk.i64_in _ (by omega)
  refine call_of (specAreValidRelations_sat l h) (by simp -implicitDefEqProofs (maxSteps := 2000000) only [go_sem, g]) (by kernel_rfl) (by simp -implicitDefEqProofs (maxSteps := 2000000) only [go_sem, g]) ?_
  simp -implicitDefEqProofs (maxSteps := 2000000) only [go_sem, g]
  refine call_of (inB_sat q.vc 0 4) (by simp -implicitDefEqProofs (maxSteps := 2000000) only [go_sem, v1]) (by kernel_rfl) (by simp -implicitDefEqProofs (maxSteps := 2000000) only [go_sem, v1]) ?_
  simp -implicitDefEqProofs (maxSteps := 2000000) only [go_sem, v1]
  refine call_of (inB_sat q.atoms.length 1 3) (by simp -implicitDefEqProofs (maxSteps := 2000000) only [go_sem, v2]) (by kernel_rfl) (by simp -implicitDefEqProofs (maxSteps := 2000000) only [go_sem, v2]) ?_
  simp -implicitDefEqProofs (maxSteps := 2000000) only [go_sem, v2]
  rw [show (4 : Int) = ((4 : Nat) : Int) from rfl, msK_n]
  refine ⟨by omega, ?_⟩
  simp -implicitDefEqProofs (maxSteps := 2000000) only [go_sem]
  obtain ⟨L0, hL0⟩ : ∃ L, L = List.replicate 4 false := ⟨_, rfl⟩
  rw [← hL0]
  refine awp_loop (Nat × List Bool) (fun x => mkSt [(0, .one (.im 3 (rels l))), (3, .one (.vad 1000 0)), (5, .one (.ref 960 1 0 4)), (6, .sc (.int .i64 x.1))] [(1000, sQu q)] [(960, (1, bls x.2))] 2000)
    (fun x => x.1 ≤ q.atoms.length ∧ upTo (atomOk l q) x.1 = true ∧ x.2 = met4 fun v => occurs q x.1 v) (fun x => q.atoms.length - x.1) (0, L0) ⟨by simp, rfl, hL0.trans rfl⟩ (le_st' _ _ [⟨960, some _, false, 1, _⟩] [] _ (by simp -implicitDefEqProofs (maxSteps := 2000000) only [go_sem] <;> and_intros <;> rfl) (by simp -implicitDefEqProofs (maxSteps := 2000000) only [go_sem] <;> and_intros <;> rfl) (by simp -implicitDefEqProofs (maxSteps := 2000000) only [go_sem] <;> and_intros <;> rfl) (by rfl)) ?_
  rintro ⟨i, b⟩ ⟨h1, h2, hb⟩
  simp only at h1 h2 hb
  have hbl : b.length = 4 := by rw [hb]; rfl
  by_cases c1 : i < q.atoms.length
  · have hfa : (q.atoms.getD i default).fit := hq.1.2 _ (mem_getD default c1)
    rcases ea : q.atoms.getD i default with ⟨r, ts⟩
    rw [ea] at hfa
    have hts : ts.length ≤ 9223372036854775807 := hfa
    have wi : IntKind.i64.wrap ((i : Int) + 1) = ((i + 1 : Nat) : Int) := i64_succ (by omega)
    rcases i1 : inB r 0 ((l.length : Int) - 1)
    · rw [goodQu_atom c1 (by rw [atomOk, ea, relAt, i1]; rfl)]
      simp -implicitDefEqProofs (maxSteps := 2000000) only [go_sem, c1, ea, w0]
      refine call_of (inB_sat r 0 ((l.length : Int) - 1)) (by simp -implicitDefEqProofs (maxSteps := 2000000) only [go_sem, i1]) (by kernel_rfl) (by simp -implicitDefEqProofs (maxSteps := 2000000) only [go_sem, i1]) ?_
      simp -implicitDefEqProofs (maxSteps := 2000000) only [go_sem, i1]
    obtain ⟨r1, r2⟩ := inB_of i1
    obtain ⟨m, rfl⟩ : ∃ m : Nat, r = m := ⟨r.toNat, by omega⟩
    have c2 : m < l.length := by omega
    rcases d2 : (ts.length : Int) == (l.getD m default).ar
    · have d3 : ((ts.length : Int) != (l.getD m default).ar) = true := by rw [bne, d2]; rfl
      rw [goodQu_atom c1 (by rw [atomOk, ea, relAt, i1]; simp only [Int.toNat_natCast, d2]; rfl)]
      simp -implicitDefEqProofs (maxSteps := 2000000) only [go_sem, c1, ea, w0]
      refine call_of (inB_sat m 0 ((l.length : Int) - 1)) (by simp -implicitDefEqProofs (maxSteps := 2000000) only [go_sem, i1, d3, c2]) (by kernel_rfl) (by simp -implicitDefEqProofs (maxSteps := 2000000) only [go_sem, i1, d3, c2]) ?_
      simp -implicitDefEqProofs (maxSteps := 2000000) only [go_sem, i1, d3, c2]
    have d3 : ((ts.length : Int) != (l.getD m default).ar) = false := by rw [bne, d2]; rfl
    have hrel : relAt l ⟨m, ts⟩ = true := by rw [relAt, i1]; simp only [Int.toNat_natCast, d2]; rfl
    simp -implicitDefEqProofs (maxSteps := 2000000) only [go_sem, c1, ea, w0]
    refine call_of (inB_sat m 0 ((l.length : Int) - 1)) (by simp -implicitDefEqProofs (maxSteps := 2000000) only [go_sem, i1, d3, c2]) (by kernel_rfl) (by simp -implicitDefEqProofs (maxSteps := 2000000) only [go_sem, i1, d3, c2]) ?_
    simp -implicitDefEqProofs (maxSteps := 2000000) only [go_sem, i1, d3, c2]
    refine awp_loop Nat (fun k => mkSt [(0, .one (.im 3 (rels l))), (3, .one (.vad 1000 0)), (5, .one (.ref 960 1 0 4)), (6, .sc (.int .i64 i)), (7, .one (.vad 2640 0)), (8, .sc (.int .i64 k))] [(1000, sQu q), (2640, sRI ⟨m, ts⟩)] [(960, (1, bls b))] 4000)
      (fun k => k ≤ i ∧ upTo (newRel q i) k = true) (fun k => i - k) 0 ⟨by omega, rfl⟩ (le_st' _ _ [⟨960, some _, false, 1, _⟩] [] _ (by simp -implicitDefEqProofs (maxSteps := 2000000) only [go_sem] <;> and_intros <;> rfl) (by simp -implicitDefEqProofs (maxSteps := 2000000) only [go_sem] <;> and_intros <;> rfl) (by simp -implicitDefEqProofs (maxSteps := 2000000) only [go_sem] <;> and_intros <;> rfl) (by rfl)) ?_
    rintro k ⟨h3, h4⟩
    by_cases c3 : k < i
    · have c4 : k < q.atoms.length := by omega
      rcases d4 : (q.atoms.getD k default).r == (m : Int)
      · simp -implicitDefEqProofs (maxSteps := 2000000) only [go_sem, c3, c4, d4]
        rw [i64_succ (by omega)]
        exact ⟨k + 1, ⟨c3, upTo_step h4 (by rw [newRel, ea, d4]; rfl)⟩, by omega, (le_st' _ _ [⟨960, some _, false, 1, _⟩] [] _ (by simp -implicitDefEqProofs (maxSteps := 2000000) only [go_sem] <;> and_intros <;> rfl) (by simp -implicitDefEqProofs (maxSteps := 2000000) only [go_sem] <;> and_intros <;> rfl) (by simp -implicitDefEqProofs (maxSteps := 2000000) only [go_sem] <;> and_intros <;> rfl) (by rfl))⟩
      · rw [goodQu_atom c1 (by rw [atomOk, upTo_false c3 (by rw [newRel, ea, d4]; rfl)]; simp)]
        simp -implicitDefEqProofs (maxSteps := 2000000) only [go_sem, c3, c4, d4]
    obtain rfl : k = i := by omega
    simp -implicitDefEqProofs (maxSteps := 2000000) only [go_sem, c3]
    refine awp_loop (Nat × List Bool) (fun x => mkSt [(0, .one (.im 3 (rels l))), (3, .one (.vad 1000 0)), (5, .one (.ref 960 1 0 4)), (6, .sc (.int .i64 k)), (7, .one (.vad 2640 0)), (9, .sc (.int .i64 x.1))] [(1000, sQu q), (2640, sRI ⟨m, ts⟩)] [(960, (1, bls x.2))] 6000)
      (fun x => x.1 ≤ ts.length ∧ upTo (termOk q.vc ts) x.1 = true ∧ x.2 = met4 fun v => occurs q k v || decide ((v : Int) ∈ ts.take x.1)) (fun x => ts.length - x.1) (0, b) ⟨by simp, rfl, hb.trans (met4_eq (p' := fun v => occurs q k v || decide ((v : Int) ∈ ts.take 0)) fun v => by simp)⟩ (le_st' _ _ [⟨960, some _, false, 1, _⟩] [] _ (by simp -implicitDefEqProofs (maxSteps := 2000000) only [go_sem] <;> and_intros <;> rfl) (by simp -implicitDefEqProofs (maxSteps := 2000000) only [go_sem] <;> and_intros <;> rfl) (by simp -implicitDefEqProofs (maxSteps := 2000000) only [go_sem] <;> and_intros <;> rfl) (by rfl)) ?_
    rintro ⟨j, bb⟩ ⟨h5, h6, hbb⟩
    simp only at h5 h6 hbb
    have hbbl : bb.length = 4 := by rw [hbb]; rfl
    by_cases c5 : j < ts.length
    · rcases d5 : inB (ts.getD j 0) (-10) (q.vc - 1)
      · rw [goodQu_atom c1 (by rw [atomOk, ea, upTo_false c5 (by rw [termOk, d5])]; simp)]
        simp -implicitDefEqProofs (maxSteps := 2000000) only [go_sem, c5, wv]
        refine call_of (inB_sat (ts.getD j 0) (-10) (q.vc - 1)) (by simp -implicitDefEqProofs (maxSteps := 2000000) only [go_sem, d5]) (by kernel_rfl) (by simp -implicitDefEqProofs (maxSteps := 2000000) only [go_sem, d5]) ?_
        simp -implicitDefEqProofs (maxSteps := 2000000) only [go_sem, d5]
      obtain ⟨t1, t2⟩ := inB_of d5
      have hts1 : ts.take (j + 1) = ts.take j ++ [ts.getD j 0] := take_snoc 0 c5
      have h6' := upTo_step h6 (show termOk q.vc ts j = true by rw [termOk, d5])
      simp -implicitDefEqProofs (maxSteps := 2000000) only [go_sem, c5, wv]
      refine call_of (inB_sat (ts.getD j 0) (-10) (q.vc - 1)) (by simp -implicitDefEqProofs (maxSteps := 2000000) only [go_sem, d5, c5]) (by kernel_rfl) (by simp -implicitDefEqProofs (maxSteps := 2000000) only [go_sem, d5, c5]) ?_
      simp -implicitDefEqProofs (maxSteps := 2000000) only [go_sem, d5, c5]
      by_cases c6 : 0 ≤ ts.getD j 0
      · obtain ⟨t, ht⟩ : ∃ t : Nat, ts.getD j 0 = t := ⟨(ts.getD j 0).toNat, by omega⟩
        have c7 : t < 4 := by omega
        have c8 : 0 ≤ (t : Int) := by omega
        simp -implicitDefEqProofs (maxSteps := 2000000) only [go_sem, ht, c5, c7, c8, hbbl]
        rw [i64_succ (by omega)]
        refine ⟨(j + 1, bb.set t true), ⟨c5, h6', ?_⟩, by simp; omega, (le_st' _ _ [⟨960, some _, false, 1, _⟩] [] _ (by simp -implicitDefEqProofs (maxSteps := 2000000) only [go_sem, hbbl, c7] <;> and_intros <;> rfl) (by simp -implicitDefEqProofs (maxSteps := 2000000) only [go_sem, hbbl, c7] <;> and_intros <;> rfl) (by simp -implicitDefEqProofs (maxSteps := 2000000) only [go_sem, hbbl, c7] <;> and_intros <;> rfl) (by rfl))⟩
        rw [hbb]
        exact met4_set c7 (by rw [hts1, ht]; simp) (fun v hv => by rw [hts1, ht, dec_snoc (fun e => hv (by omega))])
      · simp -implicitDefEqProofs (maxSteps := 2000000) only [go_sem, c6]
        rw [i64_succ (by omega)]
        refine ⟨(j + 1, bb), ⟨c5, h6', ?_⟩, by simp; omega, (le_st' _ _ [⟨960, some _, false, 1, _⟩] [] _ (by simp -implicitDefEqProofs (maxSteps := 2000000) only [go_sem] <;> and_intros <;> rfl) (by simp -implicitDefEqProofs (maxSteps := 2000000) only [go_sem] <;> and_intros <;> rfl) (by simp -implicitDefEqProofs (maxSteps := 2000000) only [go_sem] <;> and_intros <;> rfl) (by rfl))⟩
        exact hbb.trans (met4_eq (p' := fun v => occurs q k v || decide ((v : Int) ∈ ts.take (j + 1))) fun v => by rw [hts1, dec_snoc (by omega)])
    · obtain rfl : j = ts.length := by omega
      simp -implicitDefEqProofs (maxSteps := 2000000) only [go_sem, c5, wi]
      refine ⟨(k + 1, bb), ⟨c1, upTo_step h2 (by rw [atomOk, ea, hrel, h4, h6]; rfl), ?_⟩, by simp; omega, (le_st' _ _ [⟨960, some _, false, 1, _⟩] [] _ (by simp -implicitDefEqProofs (maxSteps := 2000000) only [go_sem] <;> and_intros <;> rfl) (by simp -implicitDefEqProofs (maxSteps := 2000000) only [go_sem] <;> and_intros <;> rfl) (by simp -implicitDefEqProofs (maxSteps := 2000000) only [go_sem] <;> and_intros <;> rfl) (by rfl))⟩
      exact hbb.trans (met4_eq (p' := fun v => occurs q (k + 1) v) fun v => by rw [occurs_step c1, ea, List.take_length])
  obtain rfl : i = q.atoms.length := by omega
  simp -implicitDefEqProofs (maxSteps := 2000000) only [go_sem, c1]
  refine awp_loop Nat (fun v => mkSt [(3, .one (.vad 1000 0)), (5, .one (.ref 960 1 0 4)), (10, .sc (.int .i64 v))] [(1000, sQu q)] [(960, (1, bls b))] 4000)
    (fun v => v ≤ q.vc.toNat ∧ upTo (fun v => occurs q q.atoms.length v) v = true) (fun v => q.vc.toNat - v) 0 ⟨by omega, rfl⟩ (le_st' _ _ [⟨960, some _, false, 1, _⟩] [] _ (by simp -implicitDefEqProofs (maxSteps := 2000000) only [go_sem] <;> and_intros <;> rfl) (by simp -implicitDefEqProofs (maxSteps := 2000000) only [go_sem] <;> and_intros <;> rfl) (by simp -implicitDefEqProofs (maxSteps := 2000000) only [go_sem] <;> and_intros <;> rfl) (by rfl)) ?_
  rintro v ⟨h3, h4⟩
  by_cases c3 : v < q.vc.toNat
  · have c4 : (v : Int) < q.vc := by omega
    have c5 : v < 4 := by omega
    have e5 : b.getD v false = occurs q q.atoms.length v := by rw [hb]; exact met4_get (p := fun v => occurs q q.atoms.length v) c5
    rcases d5 : occurs q q.atoms.length v
    · rw [goodQu_var c3 d5]
      simp -implicitDefEqProofs (maxSteps := 2000000) only [go_sem, c4, c5, e5, d5, hbl]
    · simp -implicitDefEqProofs (maxSteps := 2000000) only [go_sem, c4, c5, e5, d5, hbl]
      rw [i64_succ (by omega)]
      exact ⟨v + 1, ⟨c3, upTo_step h4 d5⟩, by omega, (le_st' _ _ [⟨960, some _, false, 1, _⟩] [] _ (by simp -implicitDefEqProofs (maxSteps := 2000000) only [go_sem] <;> and_intros <;> rfl) (by simp -implicitDefEqProofs (maxSteps := 2000000) only [go_sem] <;> and_intros <;> rfl) (by simp -implicitDefEqProofs (maxSteps := 2000000) only [go_sem] <;> and_intros <;> rfl) (by rfl))⟩
  obtain rfl : v = q.vc.toNat := by omega
  have c4 : ¬ ((q.vc.toNat : Nat) : Int) < q.vc := by omega
  simp -implicitDefEqProofs (maxSteps := 2000000) only [go_sem, c4]
  have hff := hq.2
  refine awp_loop Nat (fun k => mkSt [(3, .one (.vad 1000 0)), (11, .sc (.int .i64 k))] [(1000, sQu q)] [] 6000)
    (fun k => k ≤ q.free.length ∧ upTo (idxAt q.free q.vc) k = true) (fun k => q.free.length - k) 0 ⟨by omega, rfl⟩ (le_st _ _ [] [] _ rfl (by simp -implicitDefEqProofs (maxSteps := 2000000) only [go_sem] <;> rfl) (by simp -implicitDefEqProofs (maxSteps := 2000000) only [go_sem] <;> rfl) (by simp -implicitDefEqProofs (maxSteps := 2000000) only [go_sem] <;> rfl)) ?_
  rintro k ⟨h5, h6⟩
  by_cases e1 : k < q.free.length
  · rcases d1 : inB (q.free.getD k 0) 0 (q.vc - 1)
    · rw [goodQu_free e1 (by rw [idxAt, d1]; rfl)]
      simp -implicitDefEqProofs (maxSteps := 2000000) only [go_sem, e1, wv]
      refine call_of (inB_sat (q.free.getD k 0) 0 (q.vc - 1)) (by simp -implicitDefEqProofs (maxSteps := 2000000) only [go_sem, d1, e1]) (by kernel_rfl) (by simp -implicitDefEqProofs (maxSteps := 2000000) only [go_sem, d1, e1]) ?_
      simp -implicitDefEqProofs (maxSteps := 2000000) only [go_sem, d1, e1]
    rcases k with _ | j
    · have e : idxAt q.free q.vc 0 = true := by rw [idxAt, d1]; rfl
      have e0 : (0 : Int) < q.free.length := by omega
      simp -implicitDefEqProofs (maxSteps := 2000000) only [go_sem, e1, e0, wv]
      refine call_of (inB_sat (q.free.getD 0 0) 0 (q.vc - 1)) (by simp -implicitDefEqProofs (maxSteps := 2000000) only [go_sem, d1, e1, e0]) (by kernel_rfl) (by simp -implicitDefEqProofs (maxSteps := 2000000) only [go_sem, d1, e1, e0]) ?_
      simp -implicitDefEqProofs (maxSteps := 2000000) only [go_sem, d1, e1, e0]
      exact ⟨1, ⟨e1, upTo_step h6 e⟩, by omega, (le_st _ _ [] [] _ rfl (by simp -implicitDefEqProofs (maxSteps := 2000000) only [go_sem] <;> rfl) (by simp -implicitDefEqProofs (maxSteps := 2000000) only [go_sem] <;> rfl) (by simp -implicitDefEqProofs (maxSteps := 2000000) only [go_sem] <;> rfl))⟩
    · have e2 : j < q.free.length := by omega
      have e3 : 0 < ((j + 1 : Nat) : Int) := by omega
      have w1 := i64_pred (j := j) (by omega)
      rcases d2 : decide (q.free.getD (j + 1) 0 ≤ q.free.getD j 0)
      · have e : idxAt q.free q.vc (j + 1) = true := by rw [idxAt, d1, Nat.add_sub_cancel, d2]; rfl
        simp -implicitDefEqProofs (maxSteps := 2000000) only [go_sem, e1, wv]
        refine call_of (inB_sat (q.free.getD (j + 1) 0) 0 (q.vc - 1)) (by simp -implicitDefEqProofs (maxSteps := 2000000) only [go_sem, d1, d2, e1, e2, e3, w1]) (by kernel_rfl) (by simp -implicitDefEqProofs (maxSteps := 2000000) only [go_sem, d1, d2, e1, e2, e3, w1]) ?_
        simp -implicitDefEqProofs (maxSteps := 2000000) only [go_sem, d1, d2, e1, e2, e3, w1]
        rw [i64_succ (by omega)]
        exact ⟨j + 1 + 1, ⟨e1, upTo_step h6 e⟩, by omega, (le_st _ _ [] [] _ rfl (by simp -implicitDefEqProofs (maxSteps := 2000000) only [go_sem] <;> rfl) (by simp -implicitDefEqProofs (maxSteps := 2000000) only [go_sem] <;> rfl) (by simp -implicitDefEqProofs (maxSteps := 2000000) only [go_sem] <;> rfl))⟩
      · rw [goodQu_free e1 (show idxAt q.free q.vc (j + 1) = false by rw [idxAt, d1, Nat.add_sub_cancel, d2]; rfl)]
        simp -implicitDefEqProofs (maxSteps := 2000000) only [go_sem, e1, wv]
        refine call_of (inB_sat (q.free.getD (j + 1) 0) 0 (q.vc - 1)) (by simp -implicitDefEqProofs (maxSteps := 2000000) only [go_sem, d1, d2, e1, e2, e3, w1]) (by kernel_rfl) (by simp -implicitDefEqProofs (maxSteps := 2000000) only [go_sem, d1, d2, e1, e2, e3, w1]) ?_
        simp -implicitDefEqProofs (maxSteps := 2000000) only [go_sem, d1, d2, e1, e2, e3, w1]
  · obtain rfl : k = q.free.length := by omega
    simp -implicitDefEqProofs (maxSteps := 2000000) only [go_sem, e1]
    rw [goodQu, g, v1, v2, idxs, h6, h2, h4]
    rfl
theorem upTo_congr {p p' : Nat → Bool} : ∀ {n : Nat}, (∀ k, k < n → p k = p' k) → upTo p n = upTo p' n
  | 0, _ => rfl
  | n + 1, h => by rw [upTo, upTo, upTo_congr fun k hk => h k (by omega), h n (by omega)]
def otherRel (a : RI) (l : List RI) (k : Nat) : Bool := !((l.getD k default).r == a.r)
abbrev fRI (a : RI) : List Fld := [.sc (.int .i64 a.r), .im 1 (ints a.l)]
theorem isValidQuery1_sat (a b : RI) : Sat Tryz.prog 71 [lRI b, .one (.ip (fRI a))] [lBool (b.r == a.r)] [g2, g1] := by
  refine sat_of_body mixed Tryz.func71 rfl (by kernel_rfl) (by kernel_rfl) (rs := [.tmp 3]) rfl rfl rfl ?_
  simp -implicitDefEqProofs (maxSteps := 2000000) only [go_sem]
theorem atomsIndex_sat (l : List RI) (a : RI) (h : l.length ≤ 9223372036854775807) : Sat Tryz.prog 91 [lRIs l, .one (.fn 71 [fRI a])] [lInt (firstNo (otherRel a l) l.length 0)] [g1, g1] := by
  refine sat_of_body mixed Tryz.func91 rfl (by kernel_rfl) (by kernel_rfl) (rs := [.tmp 4]) rfl rfl rfl ?_
  simp -implicitDefEqProofs (maxSteps := 2000000) only [go_sem]
  refine awp_loop Nat (fun k => mkSt [(0, .one (.im 2 (ris 0 l))), (1, .one (.fni 71 [fRI a])), (7, .sc (.int .i64 l.length)), (8, .sc (.int .i64 k))] [] [] 1000)
    (fun k => k ≤ l.length ∧ firstNo (otherRel a l) (l.length - k) k = firstNo (otherRel a l) l.length 0) (fun k => l.length - k) 0 ⟨by omega, rfl⟩ (le_st _ _ [] [] _ rfl (by simp -implicitDefEqProofs (maxSteps := 2000000) only [go_sem] <;> rfl) trivial trivial) ?_
  rintro k ⟨h1, h2⟩
  by_cases c1 : k < l.length
  · rw [show l.length - k = (l.length - (k + 1)) + 1 by omega, firstNo] at h2
    rcases d : (l.getD k default).r == a.r
    · rw [if_pos (by rw [otherRel, d]; rfl)] at h2
      simp -implicitDefEqProofs (maxSteps := 2000000) only [go_sem, c1]
      refine call_of (isValidQuery1_sat a (l.getD k default)) (by simp -implicitDefEqProofs (maxSteps := 2000000) only [go_sem, d, c1]) (by kernel_rfl) (by simp -implicitDefEqProofs (maxSteps := 2000000) only [go_sem, d, c1]) ?_
      simp -implicitDefEqProofs (maxSteps := 2000000) only [go_sem, d, c1]
      rw [i64_succ (by omega)]
      exact ⟨k + 1, ⟨c1, h2⟩, by omega, (le_st _ _ [] [] _ rfl (by simp -implicitDefEqProofs (maxSteps := 2000000) only [go_sem] <;> rfl) trivial trivial)⟩
    · rw [if_neg (by rw [otherRel, d]; simp)] at h2
      simp -implicitDefEqProofs (maxSteps := 2000000) only [go_sem, c1]
      refine call_of (isValidQuery1_sat a (l.getD k default)) (by simp -implicitDefEqProofs (maxSteps := 2000000) only [go_sem, d, c1]) (by kernel_rfl) (by simp -implicitDefEqProofs (maxSteps := 2000000) only [go_sem, d, c1]) ?_
      simp -implicitDefEqProofs (maxSteps := 2000000) only [go_sem, d, c1]
      rw [← h2]
  · obtain rfl : k = l.length := by omega
    rw [Nat.sub_self, firstNo] at h2
    simp -implicitDefEqProofs (maxSteps := 2000000) only [go_sem, c1]
    rw [← h2]
theorem atomsContains_sat (l : List RI) (a : RI) (h : l.length ≤ 9223372036854775807) : Sat Tryz.prog 70 [lRIs l, .one (.fn 71 [fRI a])] [lBool (!upTo (otherRel a l) l.length)] [g1, g1] := by
  refine sat_of_body mixed Tryz.func70 rfl (by kernel_rfl) (by kernel_rfl) (rs := [.tmp 4]) rfl rfl rfl ?_
  simp -implicitDefEqProofs (maxSteps := 2000000) only [go_sem]
  refine call_of (atomsIndex_sat l a h) (by simp -implicitDefEqProofs (maxSteps := 2000000) only [go_sem]) (by kernel_rfl) (by simp -implicitDefEqProofs (maxSteps := 2000000) only [go_sem]) ?_
  simp -implicitDefEqProofs (maxSteps := 2000000) only [go_sem]
  rw [firstNo_ge _ _ _ rfl, Nat.zero_add]
theorem implIsValidQuery_sat (l : List Rel) (q : Qu) (h : l.length ≤ 9223372036854775807) (hq : q.ok) : Sat Tryz.prog 45 [lRels l, lQu q] [lBool (goodQu l q)] [g1, g3] := by
  refine sat_of_body mixed Tryz.func45 rfl (by kernel_rfl) (by kernel_rfl) (rs := [.tmp 4]) rfl rfl rfl ?_
  have w0 : IntKind.i64.wrap ((l.length : Int) - 1) = (l.length : Int) - 1 := IntWalk.i64_in _ (by omega)
  have hff : q.free.length ≤ 9223372036854775807 := by have := hq.2; omega
  simp -implicitDefEqProofs (maxSteps := 2000000) only [go_sem]
  rcases g : goodRels l
  · rw [show goodQu l q = false by rw [goodQu, g]; rfl]
    refine call_of (implAreValidRelations_sat l h) (by simp -implicitDefEqProofs (maxSteps := 2000000) only [go_sem, g]) (by kernel_rfl) (by simp -implicitDefEqProofs (maxSteps := 2000000) only [go_sem, g]) ?_
    simp -implicitDefEqProofs (maxSteps := 2000000) only [go_sem, g]
  rcases v1 : inB q.vc 0 4
  · rw [show goodQu l q = false by rw [goodQu, v1]; simp]
    refine call_of (implAreValidRelations_sat l h) (by simp -implicitDefEqProofs (maxSteps := 2000000) only [go_sem, g]) (by kernel_rfl) (by simp -implicitDefEqProofs (maxSteps := 2000000) only [go_sem, g]) ?_
    simp -implicitDefEqProofs (maxSteps := 2000000) only [go_sem, g]
    refine call_of (inW_sat q.vc 0 4) (by simp -implicitDefEqProofs (maxSteps := 2000000) only [go_sem, v1]) (by kernel_rfl) (by simp -implicitDefEqProofs (maxSteps := 2000000) only [go_sem, v1]) ?_
    simp -implicitDefEqProofs (maxSteps := 2000000) only [go_sem, v1]
  rcases v2 : inB q.atoms.length 1 3
  · rw [show goodQu l q = false by rw [goodQu, v2]; simp]
    refine call_of (implAreValidRelations_sat l h) (by simp -implicitDefEqProofs (maxSteps := 2000000) only [go_sem, g]) (by kernel_rfl) (by simp -implicitDefEqProofs (maxSteps := 2000000) only [go_sem, g]) ?_
    simp -implicitDefEqProofs (maxSteps := 2000000) only [go_sem, g]
    refine call_of (inW_sat q.vc 0 4) (by simp -implicitDefEqProofs (maxSteps := 2000000) only [go_sem, v1]) (by kernel_rfl) (by simp -implicitDefEqProofs (maxSteps := 2000000) only [go_sem, v1]) ?_
    simp -implicitDefEqProofs (maxSteps := 2000000) only [go_sem, v1]
    refine call_of (inW_sat q.atoms.length 1 3) (by simp -implicitDefEqProofs (maxSteps := 2000000) only [go_sem, v2]) (by kernel_rfl) (by simp -implicitDefEqProofs (maxSteps := 2000000) only [go_sem, v2]) ?_
    simp -implicitDefEqProofs (maxSteps := 2000000) only [go_sem, v2]
  obtain ⟨b1, b2⟩ := inB_of v1
  obtain ⟨b3, b4⟩ := inB_of v2
  have wv : IntKind.i64.wrap (q.vc - 1) = q.vc - 1 := IntWalk.i64_in _ (by omega)
  rcases v3 : idxs q.free q.vc
  · rw [show goodQu l q = false by rw [goodQu, v3]; simp]
    refine call_of (implAreValidRelations_sat l h) (by simp -implicitDefEqProofs (maxSteps := 2000000) only [go_sem, g]) (by kernel_rfl) (by simp -implicitDefEqProofs (maxSteps := 2000000) only [go_sem, g]) ?_
    simp -implicitDefEqProofs (maxSteps := 2000000) only [go_sem, g]
    refine call_of (inW_sat q.vc 0 4) (by simp -implicitDefEqProofs (maxSteps := 2000000) only [go_sem, v1]) (by kernel_rfl) (by simp -implicitDefEqProofs (maxSteps := 2000000) only [go_sem, v1]) ?_
    simp -implicitDefEqProofs (maxSteps := 2000000) only [go_sem, v1]
    refine call_of (inW_sat q.atoms.length 1 3) (by simp -implicitDefEqProofs (maxSteps := 2000000) only [go_sem, v2]) (by kernel_rfl) (by simp -implicitDefEqProofs (maxSteps := 2000000) only [go_sem, v2]) ?_
    simp -implicitDefEqProofs (maxSteps := 2000000) only [go_sem, v2]
    refine call_of (areIndices_sat q.free q.vc hff (by omega)) (by simp -implicitDefEqProofs (maxSteps := 2000000) only [go_sem, v3]) (by kernel_rfl) (by simp -implicitDefEqProofs (maxSteps := 2000000) only [go_sem, v3]) ?_
    simp -implicitDefEqProofs (maxSteps := 2000000) only [go_sem, v3]
  refine call_of (implAreValidRelations_sat l h) (by simp -implicitDefEqProofs (maxSteps := 2000000) only [go_sem, g]) (by kernel_rfl) (by simp -implicitDefEqProofs (maxSteps := 2000000) only [go_sem, g]) ?_
  simp -implicitDefEqProofs (maxSteps := 2000000) only [go_sem, g]
  refine call_of (inW_sat q.vc 0 4) (by simp -implicitDefEqProofs (maxSteps := 2000000) only [go_sem, v1]) (by kernel_rfl) (by simp -implicitDefEqProofs (maxSteps := 2000000) only [go_sem, v1]) ?_
  simp -implicitDefEqProofs (maxSteps := 2000000) only [go_sem, v1]
  refine call_of (inW_sat q.atoms.length 1 3) (by simp -implicitDefEqProofs (maxSteps := 2000000) only [go_sem, v2]) (by kernel_rfl) (by simp -implicitDefEqProofs (maxSteps := 2000000) only [go_sem, v2]) ?_
  simp -implicitDefEqProofs (maxSteps := 2000000) only [go_sem, v2]
  refine call_of (areIndices_sat q.free q.vc hff (by omega)) (by simp -implicitDefEqProofs (maxSteps := 2000000) only [go_sem, v3]) (by kernel_rfl) (by simp -implicitDefEqProofs (maxSteps := 2000000) only [go_sem, v3]) ?_
  simp -implicitDefEqProofs (maxSteps := 2000000) only [go_sem, v3]
  refine awp_loop Nat (fun i => mkSt [(0, .one (.im 3 (rels l))), (3, .one (.vad 1000 0)), (5, .one (.ref 960 1 0 (selN (occurs q i) 4).length)), (36, .one (.im 2 (ris 0 q.atoms))), (37, .sc (.int .i64 q.atoms.length)), (38, .sc (.int .i64 i))] [(1000, sQu q)] [(960, (1, ints (selN (occurs q i) 4)))] 2000)
    (fun i => i ≤ q.atoms.length ∧ upTo (atomOk l q) i = true) (fun i => q.atoms.length - i) 0 ⟨by omega, rfl⟩ (le_st' _ _ [⟨960, some _, false, 1, _⟩] [] _ (by simp -implicitDefEqProofs (maxSteps := 2000000) only [go_sem] <;> and_intros <;> rfl) (by simp -implicitDefEqProofs (maxSteps := 2000000) only [go_sem] <;> and_intros <;> rfl) (by simp -implicitDefEqProofs (maxSteps := 2000000) only [go_sem] <;> and_intros <;> rfl) (by rfl)) ?_
  rintro i ⟨h1, h2⟩
  have hlo := selN_len (occurs q i) 4
  by_cases c1 : i < q.atoms.length
  · have hfa : (q.atoms.getD i default).ok := hq.1.2 _ (mem_getD default c1)
    have hun := uni_occurs (q := q) c1
    have hvl := varsOf_len (q.atoms.getD i default).l
    rcases ea : q.atoms.getD i default with ⟨r, ts⟩
    rw [ea] at hfa hun hvl
    have hts : ts.length ≤ 1048576 := hfa
    have wi : IntKind.i64.wrap ((i : Int) + 1) = ((i + 1 : Nat) : Int) := i64_succ (by omega)
    rcases i1 : inB r 0 ((l.length : Int) - 1)
    · rw [goodQu_atom c1 (by rw [atomOk, ea, relAt, i1]; rfl)]
      simp -implicitDefEqProofs (maxSteps := 2000000) only [go_sem, c1, ea, w0]
      refine call_of (inW_sat r 0 ((l.length : Int) - 1)) (by simp -implicitDefEqProofs (maxSteps := 2000000) only [go_sem, i1]) (by kernel_rfl) (by simp -implicitDefEqProofs (maxSteps := 2000000) only [go_sem, i1]) ?_
      simp -implicitDefEqProofs (maxSteps := 2000000) only [go_sem, i1]
    obtain ⟨r1, r2⟩ := inB_of i1
    obtain ⟨m, rfl⟩ : ∃ m : Nat, r = m := ⟨r.toNat, by omega⟩
    have c2 : m < l.length := by omega
    rcases d2 : (ts.length : Int) == (l.getD m default).ar
    · have d3 : ((ts.length : Int) != (l.getD m default).ar) = true := by rw [bne, d2]; rfl
      rw [goodQu_atom c1 (by rw [atomOk, ea, relAt, i1]; simp only [Int.toNat_natCast, d2]; rfl)]
      simp -implicitDefEqProofs (maxSteps := 2000000) only [go_sem, c1, ea, w0]
      refine call_of (inW_sat m 0 ((l.length : Int) - 1)) (by simp -implicitDefEqProofs (maxSteps := 2000000) only [go_sem, i1, d3, c2]) (by kernel_rfl) (by simp -implicitDefEqProofs (maxSteps := 2000000) only [go_sem, i1, d3, c2]) ?_
      simp -implicitDefEqProofs (maxSteps := 2000000) only [go_sem, i1, d3, c2]
    have d3 : ((ts.length : Int) != (l.getD m default).ar) = false := by rw [bne, d2]; rfl
    have hrel : relAt l ⟨m, ts⟩ = true := by rw [relAt, i1]; simp only [Int.toNat_natCast, d2]; rfl
    have c3 : i ≤ q.atoms.length := by omega
    have hup : upTo (otherRel ⟨m, ts⟩ (q.atoms.take i)) (q.atoms.take i).length = upTo (newRel q i) i := by
      rw [List.length_take, Nat.min_eq_left c3]
      refine upTo_congr fun k hk => ?_
      rw [otherRel, newRel, ea]
      rw [List.getD_eq_getElem?_getD, List.getD_eq_getElem?_getD, List.getElem?_take_of_lt hk]
    rcases d4 : upTo (newRel q i) i
    · rw [goodQu_atom c1 (by rw [atomOk, d4]; simp)]
      simp -implicitDefEqProofs (maxSteps := 2000000) only [go_sem, c1, ea, w0]
      refine call_of (inW_sat m 0 ((l.length : Int) - 1)) (by simp -implicitDefEqProofs (maxSteps := 2000000) only [go_sem, i1, d3, c2, c3, Nat.zero_le]) (by kernel_rfl) (by simp -implicitDefEqProofs (maxSteps := 2000000) only [go_sem, i1, d3, c2, c3, Nat.zero_le]) ?_
      simp -implicitDefEqProofs (maxSteps := 2000000) only [go_sem, i1, d3, c2, c3, Nat.zero_le]
      refine call_of (atomsContains_sat (q.atoms.take i) ⟨m, ts⟩ (by rw [List.length_take]; omega)) (by simp -implicitDefEqProofs (maxSteps := 2000000) only [go_sem, hup, d4, c3]) (by kernel_rfl) (by simp -implicitDefEqProofs (maxSteps := 2000000) only [go_sem, hup, d4, c3]) ?_
      simp -implicitDefEqProofs (maxSteps := 2000000) only [go_sem, hup, d4, c3]
    simp -implicitDefEqProofs (maxSteps := 2000000) only [go_sem, c1, ea, w0]
    refine call_of (inW_sat m 0 ((l.length : Int) - 1)) (by simp -implicitDefEqProofs (maxSteps := 2000000) only [go_sem, i1, d3, c2, c3, Nat.zero_le]) (by kernel_rfl) (by simp -implicitDefEqProofs (maxSteps := 2000000) only [go_sem, i1, d3, c2, c3, Nat.zero_le]) ?_
    simp -implicitDefEqProofs (maxSteps := 2000000) only [go_sem, i1, d3, c2, c3, Nat.zero_le]
    refine call_of (atomsContains_sat (q.atoms.take i) ⟨m, ts⟩ (by rw [List.length_take]; omega)) (by simp -implicitDefEqProofs (maxSteps := 2000000) only [go_sem, hup, d4, c3]) (by kernel_rfl) (by simp -implicitDefEqProofs (maxSteps := 2000000) only [go_sem, hup, d4, c3]) ?_
    simp -implicitDefEqProofs (maxSteps := 2000000) only [go_sem, hup, d4, c3]
    refine awp_loop Nat (fun j => mkSt [(0, .one (.im 3 (rels l))), (3, .one (.vad 1000 0)), (5, .one (.ref 960 1 0 (selN (occurs q i) 4).length)), (7, .one (.vad 2256 0)), (36, .one (.im 2 (ris 0 q.atoms))), (37, .sc (.int .i64 q.atoms.length)), (38, .sc (.int .i64 i)), (71, .one (.im 1 (ints ts))), (72, .sc (.int .i64 ts.length)), (73, .sc (.int .i64 j))] [(1000, sQu q), (2256, sRI ⟨m, ts⟩)] [(960, (1, ints (selN (occurs q i) 4)))] 6000)
      (fun j => j ≤ ts.length ∧ upTo (termOk q.vc ts) j = true) (fun j => ts.length - j) 0 ⟨by omega, rfl⟩ (le_st' _ _ [⟨960, some _, false, 1, _⟩] [] _ (by simp -implicitDefEqProofs (maxSteps := 2000000) only [go_sem] <;> and_intros <;> rfl) (by simp -implicitDefEqProofs (maxSteps := 2000000) only [go_sem] <;> and_intros <;> rfl) (by simp -implicitDefEqProofs (maxSteps := 2000000) only [go_sem] <;> and_intros <;> rfl) (by rfl)) ?_
    rintro j ⟨h5, h6⟩
    by_cases c5 : j < ts.length
    · rcases d5 : inB (ts.getD j 0) (-10) (q.vc - 1)
      · rw [goodQu_atom c1 (by rw [atomOk, ea, upTo_false c5 (by rw [termOk, d5])]; simp)]
        simp -implicitDefEqProofs (maxSteps := 2000000) only [go_sem, c5, wv]
        refine call_of (inW_sat (ts.getD j 0) (-10) (q.vc - 1)) (by simp -implicitDefEqProofs (maxSteps := 2000000) only [go_sem, d5]) (by kernel_rfl) (by simp -implicitDefEqProofs (maxSteps := 2000000) only [go_sem, d5]) ?_
        simp -implicitDefEqProofs (maxSteps := 2000000) only [go_sem, d5]
      simp -implicitDefEqProofs (maxSteps := 2000000) only [go_sem, c5, wv]
      refine call_of (inW_sat (ts.getD j 0) (-10) (q.vc - 1)) (by simp -implicitDefEqProofs (maxSteps := 2000000) only [go_sem, d5, c5]) (by kernel_rfl) (by simp -implicitDefEqProofs (maxSteps := 2000000) only [go_sem, d5, c5]) ?_
      simp -implicitDefEqProofs (maxSteps := 2000000) only [go_sem, d5, c5]
      rw [i64_succ (by omega)]
      exact ⟨j + 1, ⟨c5, upTo_step h6 (by rw [termOk, d5])⟩, by omega, (le_st' _ _ [⟨960, some _, false, 1, _⟩] [] _ (by simp -implicitDefEqProofs (maxSteps := 2000000) only [go_sem] <;> and_intros <;> rfl) (by simp -implicitDefEqProofs (maxSteps := 2000000) only [go_sem] <;> and_intros <;> rfl) (by simp -implicitDefEqProofs (maxSteps := 2000000) only [go_sem] <;> and_intros <;> rfl) (by rfl))⟩
    · obtain rfl : j = ts.length := by omega
      simp -implicitDefEqProofs (maxSteps := 2000000) only [go_sem, c5]
      refine call_of (implAtomVariables_sat ⟨m, ts⟩ hfa) (by simp -implicitDefEqProofs (maxSteps := 2000000) only [go_sem]) (callOk_still (by kernel_rfl) (by simp only [List.all_cons, List.all_nil, LV.still, LV.leaves, Leaf.still, ints_still, ris_still, eds_still, rels_still, iss_still, ems_still, Bool.and_self, Bool.and_true])) (by simp -implicitDefEqProofs (maxSteps := 2000000) only [go_sem]) ?_
      simp -implicitDefEqProofs (maxSteps := 2000000) only [go_sem]
      refine call_of (union_sat (selN (occurs q i) 4) (varsOf ts) (by simp only at hvl; omega)) (by simp -implicitDefEqProofs (maxSteps := 2000000) only [go_sem, hun]) (callOk_still (by kernel_rfl) (by simp only [List.all_cons, List.all_nil, LV.still, LV.leaves, Leaf.still, ints_still, ris_still, eds_still, rels_still, iss_still, ems_still, Bool.and_self, Bool.and_true])) (by simp -implicitDefEqProofs (maxSteps := 2000000) only [go_sem, hun]) ?_
      simp -implicitDefEqProofs (maxSteps := 2000000) only [go_sem, hun]
      rw [wi]
      refine ⟨i + 1, ⟨c1, upTo_step h2 (by rw [atomOk, ea, hrel, d4, h6]; rfl)⟩, by omega, ?_⟩
      exact (le_st' _ _ [⟨960, some _, false, 1, _⟩] [] _ (by simp -implicitDefEqProofs (maxSteps := 2000000) only [go_sem, hun] <;> and_intros <;> rfl) (by simp -implicitDefEqProofs (maxSteps := 2000000) only [go_sem, hun] <;> and_intros <;> rfl) (by simp -implicitDefEqProofs (maxSteps := 2000000) only [go_sem, hun] <;> and_intros <;> rfl) (by rfl))
  · obtain rfl : i = q.atoms.length := by omega
    simp -implicitDefEqProofs (maxSteps := 2000000) only [go_sem, c1]
    rw [all_occur v1 h2, goodQu, g, v1, v2, v3, h2]
    simp
end Go.Proofs.YtedciihjgbkjgabGreat.A


/- CLOSURES: the plain law. Conditions: none. (No program in sight but the names.) -/
namespace Go.Proofs.YtedciihjgbkjgabGreat.A
open Go
set_option linter.unusedSimpArgs false
set_option linter.unusedVariables false

theorem upTo_true {p : Nat → Bool} : ∀ {n : Nat}, (∀ k, k < n → p k = true) → upTo p n = true
  | 0, _ => rfl
  | n + 1, h => upTo_step (upTo_true fun k hk => h k (by omega)) (h n (by omega))
structure Small (c : List Int) : Prop where
  strict : Strict c
  small : ∀ x ∈ c, 0 ≤ x ∧ x < 4
theorem Small.uni {c v : List Int} (h : Small c) (hv : ∀ x ∈ v, 0 ≤ x ∧ x < 4) : Small (uni c v) :=
  ⟨uni_strict _ _, fun x hx => ((uni_mem _ _ _).mp hx).elim (h.small x) (hv x)⟩
theorem Small.selN {p : Int → Bool} : Small (selN p 4) := ⟨selN_strict _ _, fun x hx => by have := (selN_mem _ _ _).mp hx; omega⟩
theorem Small.eq_selN {c : List Int} (h : Small c) : c = A.selN (fun v => decide (v ∈ c)) 4 := by
  refine strict_eq h.strict (selN_strict _ _) fun x => ?_
  rw [selN_mem]
  exact ⟨fun hx => ⟨(h.small x hx).1, (h.small x hx).2, decide_eq_true hx⟩, fun hx => of_decide_eq_true hx.2.2⟩
theorem Small.len {c : List Int} (h : Small c) : c.length ≤ 4 := by
  rw [h.eq_selN]; exact selN_len _ 4
end Go.Proofs.YtedciihjgbkjgabGreat.A


/- A FACT IS INSERTED. Conditions: none. -/
namespace Go.Proofs.YtedciihjgbkjgabGreat.A
open Go
set_option linter.unusedSimpArgs false
set_option linter.unusedVariables false
set_option maxRecDepth 100000

theorem goneR_take (s : Nat) (A B : List RI) : List.take A.length (goneR (ris s (A ++ B)) A.length B.length) = ris s A := by
  simp [goneR, ris]
theorem rst_ins (s : Nat) (A B : List RI) (f : RI) : rst (ris 999 A ++ (ris (s + 1) [f] ++ ris 999 B)) = ris 1 (A ++ f :: B) := by
  have e : ∀ a b : Rows, rst (a ++ b) = rst a ++ rst b := fun a b => by simp [rst]
  rw [e, e, ris_rst 998, ris_rst s, ris_rst 998, ris_append, ris_append]; rfl
theorem flat_ins (s : Nat) (f : RI) (X : Rows) : flatB (ris (s + 1) [f] ++ X) = false := by simp [flatB, ris, cRI, Cell.flatB]
theorem take_ins (s : Nat) (f : RI) (B : List RI) : List.take (1 + B.length) (ris s [f] ++ ris 999 B) = ris s [f] ++ ris 999 B := List.take_of_length_le (by simp [ris]; omega)
theorem flat_ne {s : Nat} {B : List RI} (h : 0 < B.length) : flatB (ris (s + 1) B) = false := by
  rcases B with _ | ⟨x, B⟩
  · simp at h
  · exact ris_flatN
theorem goneR_tk (L : List RI) {j : Nat} (h : j ≤ L.length) : List.take j (goneR (ris 999 L) j (L.length - j)) = ris 999 (List.take j L) := by
  have := goneR_take 999 (List.take j L) (List.drop j L)
  rw [List.take_append_drop, List.length_take, List.length_drop, Nat.min_eq_left h] at this
  exact this
theorem goneR_ln (L : List RI) {j : Nat} (h : j ≤ L.length) : List.length (goneR (ris 999 L) j (L.length - j)) = L.length := by
  simp [goneR, ris]; omega
theorem insAt (P : Nat → Bool) : ∀ n : Nat, ∃ k, k ≤ n ∧ (∀ j, j < k → P j = true) ∧ (k < n → P k = false)
  | 0 => ⟨0, Nat.le_refl _, fun j h => by omega, fun h => by omega⟩
  | n + 1 => by
    obtain ⟨k, h1, h2, h3⟩ := insAt P n
    rcases Nat.lt_or_ge k n with h | h
    · exact ⟨k, by omega, h2, fun _ => h3 h⟩
    · obtain rfl : k = n := by omega
      rcases e : P k
      · exact ⟨k, by omega, h2, fun _ => e⟩
      · refine ⟨k + 1, Nat.le_refl _, fun j hj => ?_, fun h => by omega⟩
        rcases Nat.lt_or_ge j k with h4 | h4
        · exact h2 j h4
        · obtain rfl : j = k := by omega
          exact e
set_option maxHeartbeats 8000000 in
theorem insertFact_ex (d : Db) (f : RI) (h : d.ok) (hf : f.ok) : ∃ (d' : Db) (b : Bool), d'.rels = d.rels ∧ d'.facts.length ≤ d.facts.length + 1 ∧ (∀ x ∈ d'.facts, x ∈ d.facts ∨ x = f) ∧
    Sat Tryz.prog 79 [lDb d, lRI f] [oDb d', lBool b] [g2, g2] := by
  have hff : f.fit := by unfold RI.ok at hf; unfold RI.fit; omega
  have hn := h.2.1
  have same : (∀ x ∈ d.facts, x ∈ d.facts ∨ x = f) := fun x hx => .inl hx
  rcases g : goodDb d
  · refine ⟨d, false, rfl, by omega, same, ?_⟩
    refine sat_of_body mixed Tryz.func79 rfl (by kernel_rfl) (by kernel_rfl) (rs := [.cell 4 27, .tmp 5]) rfl rfl rfl ?_
    simp -implicitDefEqProofs (maxSteps := 2000000) only [go_sem]
    refine call_of (l4Copy_sat d h) (by simp -implicitDefEqProofs (maxSteps := 2000000) only [go_sem]) (callOk_still (by kernel_rfl) (by simp only [List.all_cons, List.all_nil, LV.still, LV.leaves, Leaf.still, ints_still, ris_still, eds_still, rels_still, iss_still, ems_still, Bool.and_self, Bool.and_true])) (by simp -implicitDefEqProofs (maxSteps := 2000000) only [go_sem]) ?_
    simp -implicitDefEqProofs (maxSteps := 2000000) only [go_sem]
    refine call_of (specIsValidDatabase_sat d h.fit) (by simp -implicitDefEqProofs (maxSteps := 2000000) only [go_sem, g]) (by kernel_rfl) (by simp -implicitDefEqProofs (maxSteps := 2000000) only [go_sem, g]) ?_
    simp -implicitDefEqProofs (maxSteps := 2000000) only [go_sem, g]
    first | done | rfl | exact ⟨rfl, rfl⟩ | exact ⟨rfl, rfl, rfl⟩ | (refine tr_and ?_ ?_ <;> first | rfl | exact ⟨rfl, rfl⟩ | kernel_rfl)
  have gr := (db_of g).1
  rcases g2 : goodFact d.rels f
  · refine ⟨d, false, rfl, by omega, same, ?_⟩
    refine sat_of_body mixed Tryz.func79 rfl (by kernel_rfl) (by kernel_rfl) (rs := [.cell 4 27, .tmp 5]) rfl rfl rfl ?_
    simp -implicitDefEqProofs (maxSteps := 2000000) only [go_sem]
    refine call_of (l4Copy_sat d h) (by simp -implicitDefEqProofs (maxSteps := 2000000) only [go_sem]) (callOk_still (by kernel_rfl) (by simp only [List.all_cons, List.all_nil, LV.still, LV.leaves, Leaf.still, ints_still, ris_still, eds_still, rels_still, iss_still, ems_still, Bool.and_self, Bool.and_true])) (by simp -implicitDefEqProofs (maxSteps := 2000000) only [go_sem]) ?_
    simp -implicitDefEqProofs (maxSteps := 2000000) only [go_sem]
    refine call_of (specIsValidDatabase_sat d h.fit) (by simp -implicitDefEqProofs (maxSteps := 2000000) only [go_sem, g]) (by kernel_rfl) (by simp -implicitDefEqProofs (maxSteps := 2000000) only [go_sem, g]) ?_
    simp -implicitDefEqProofs (maxSteps := 2000000) only [go_sem, g]
    refine call_of (specIsValidFact_sat d.rels f h.fit.1.1 hff) (by simp -implicitDefEqProofs (maxSteps := 2000000) only [go_sem, gr, g2]) (by kernel_rfl) (by simp -implicitDefEqProofs (maxSteps := 2000000) only [go_sem, gr, g2]) ?_
    simp -implicitDefEqProofs (maxSteps := 2000000) only [go_sem, gr, g2]
    first | done | rfl | exact ⟨rfl, rfl⟩ | exact ⟨rfl, rfl, rfl⟩ | (refine tr_and ?_ ?_ <;> first | rfl | exact ⟨rfl, rfl⟩ | kernel_rfl)
  rcases g3 : hasF d f
  case true =>
    refine ⟨d, false, rfl, by omega, same, ?_⟩
    refine sat_of_body mixed Tryz.func79 rfl (by kernel_rfl) (by kernel_rfl) (rs := [.cell 4 27, .tmp 5]) rfl rfl rfl ?_
    simp -implicitDefEqProofs (maxSteps := 2000000) only [go_sem]
    refine call_of (l4Copy_sat d h) (by simp -implicitDefEqProofs (maxSteps := 2000000) only [go_sem]) (callOk_still (by kernel_rfl) (by simp only [List.all_cons, List.all_nil, LV.still, LV.leaves, Leaf.still, ints_still, ris_still, eds_still, rels_still, iss_still, ems_still, Bool.and_self, Bool.and_true])) (by simp -implicitDefEqProofs (maxSteps := 2000000) only [go_sem]) ?_
    simp -implicitDefEqProofs (maxSteps := 2000000) only [go_sem]
    refine call_of (specIsValidDatabase_sat d h.fit) (by simp -implicitDefEqProofs (maxSteps := 2000000) only [go_sem, g]) (by kernel_rfl) (by simp -implicitDefEqProofs (maxSteps := 2000000) only [go_sem, g]) ?_
    simp -implicitDefEqProofs (maxSteps := 2000000) only [go_sem, g]
    refine call_of (specIsValidFact_sat d.rels f h.fit.1.1 hff) (by simp -implicitDefEqProofs (maxSteps := 2000000) only [go_sem, gr, g2]) (by kernel_rfl) (by simp -implicitDefEqProofs (maxSteps := 2000000) only [go_sem, gr, g2]) ?_
    simp -implicitDefEqProofs (maxSteps := 2000000) only [go_sem, gr, g2]
    refine call_of (containsFact_sat d f h.fit) (by simp -implicitDefEqProofs (maxSteps := 2000000) only [go_sem, g3]) (by kernel_rfl) (by simp -implicitDefEqProofs (maxSteps := 2000000) only [go_sem, g3]) ?_
    simp -implicitDefEqProofs (maxSteps := 2000000) only [go_sem, g3]
    first | done | rfl | exact ⟨rfl, rfl⟩ | exact ⟨rfl, rfl, rfl⟩ | (refine tr_and ?_ ?_ <;> first | rfl | exact ⟨rfl, rfl⟩ | kernel_rfl)
  rcases g4 : (((d.facts.length : Nat) : Int) == 14)
  case true =>
    refine ⟨d, false, rfl, by omega, same, ?_⟩
    refine sat_of_body mixed Tryz.func79 rfl (by kernel_rfl) (by kernel_rfl) (rs := [.cell 4 27, .tmp 5]) rfl rfl rfl ?_
    simp -implicitDefEqProofs (maxSteps := 2000000) only [go_sem]
    refine call_of (l4Copy_sat d h) (by simp -implicitDefEqProofs (maxSteps := 2000000) only [go_sem]) (callOk_still (by kernel_rfl) (by simp only [List.all_cons, List.all_nil, LV.still, LV.leaves, Leaf.still, ints_still, ris_still, eds_still, rels_still, iss_still, ems_still, Bool.and_self, Bool.and_true])) (by simp -implicitDefEqProofs (maxSteps := 2000000) only [go_sem]) ?_
    simp -implicitDefEqProofs (maxSteps := 2000000) only [go_sem]
    refine call_of (specIsValidDatabase_sat d h.fit) (by simp -implicitDefEqProofs (maxSteps := 2000000) only [go_sem, g]) (by kernel_rfl) (by simp -implicitDefEqProofs (maxSteps := 2000000) only [go_sem, g]) ?_
    simp -implicitDefEqProofs (maxSteps := 2000000) only [go_sem, g]
    refine call_of (specIsValidFact_sat d.rels f h.fit.1.1 hff) (by simp -implicitDefEqProofs (maxSteps := 2000000) only [go_sem, gr, g2]) (by kernel_rfl) (by simp -implicitDefEqProofs (maxSteps := 2000000) only [go_sem, gr, g2]) ?_
    simp -implicitDefEqProofs (maxSteps := 2000000) only [go_sem, gr, g2]
    refine call_of (containsFact_sat d f h.fit) (by simp -implicitDefEqProofs (maxSteps := 2000000) only [go_sem, g3, g4]) (by kernel_rfl) (by simp -implicitDefEqProofs (maxSteps := 2000000) only [go_sem, g3, g4]) ?_
    simp -implicitDefEqProofs (maxSteps := 2000000) only [go_sem, g3, g4]
    first | done | rfl | exact ⟨rfl, rfl⟩ | exact ⟨rfl, rfl, rfl⟩ | (refine tr_and ?_ ?_ <;> first | rfl | exact ⟨rfl, rfl⟩ | kernel_rfl)
  obtain ⟨k, k1, k2, k3⟩ := insAt (fun i => decide (cmpRI (d.facts.getD i default) f < 0)) d.facts.length
  refine ⟨⟨d.rels, d.facts.take k ++ ([f] ++ d.facts.drop k)⟩, true, rfl, by simp only [List.length_append, List.length_take, List.length_drop, List.length_singleton]; omega, fun x hx => ?_, ?_⟩
  · simp only [List.mem_append, List.mem_singleton] at hx
    rcases hx with h1 | h1 | h1
    · exact .inl (List.mem_of_mem_take h1)
    · exact .inr h1
    · exact .inl (List.mem_of_mem_drop h1)
  refine sat_of_body mixed Tryz.func79 rfl (by kernel_rfl) (by kernel_rfl) (rs := [.cell 4 27, .tmp 5]) rfl rfl rfl ?_
  simp -implicitDefEqProofs (maxSteps := 2000000) only [go_sem]
  refine call_of (l4Copy_sat d h) (by simp -implicitDefEqProofs (maxSteps := 2000000) only [go_sem]) (callOk_still (by kernel_rfl) (by simp only [List.all_cons, List.all_nil, LV.still, LV.leaves, Leaf.still, ints_still, ris_still, eds_still, rels_still, iss_still, ems_still, Bool.and_self, Bool.and_true])) (by simp -implicitDefEqProofs (maxSteps := 2000000) only [go_sem]) ?_
  simp -implicitDefEqProofs (maxSteps := 2000000) only [go_sem]
  refine call_of (specIsValidDatabase_sat d h.fit) (by simp -implicitDefEqProofs (maxSteps := 2000000) only [go_sem, g]) (by kernel_rfl) (by simp -implicitDefEqProofs (maxSteps := 2000000) only [go_sem, g]) ?_
  simp -implicitDefEqProofs (maxSteps := 2000000) only [go_sem, g]
  refine call_of (specIsValidFact_sat d.rels f h.fit.1.1 hff) (by simp -implicitDefEqProofs (maxSteps := 2000000) only [go_sem, gr, g2]) (by kernel_rfl) (by simp -implicitDefEqProofs (maxSteps := 2000000) only [go_sem, gr, g2]) ?_
  simp -implicitDefEqProofs (maxSteps := 2000000) only [go_sem, gr, g2]
  refine call_of (containsFact_sat d f h.fit) (by simp -implicitDefEqProofs (maxSteps := 2000000) only [go_sem, g3, g4]) (by kernel_rfl) (by simp -implicitDefEqProofs (maxSteps := 2000000) only [go_sem, g3, g4]) ?_
  simp -implicitDefEqProofs (maxSteps := 2000000) only [go_sem, g3, g4]
  refine awp_loop Nat (fun j => mkSt [(2, .one (.vad 1000 0)), (3, .one (.vad 1064 0)), (4, .one (.vad 1128 0)), (5, .sc (.bool false)), (6, .one (.vad 1384 0)), (7, .sc (.int .i64 j))] [(1000, sDb d), (1064, sRI f), (1128, yDb), (1384, [.ref 960 3 0 d.rels.length, .ref 961 2 0 d.facts.length])] [(960, (3, rels d.rels)), (961, (2, ris 999 d.facts))] 6000)
    (fun j => j ≤ k) (fun j => k - j) 0 (by omega) (le_st' _ _ [⟨960, some _, false, 3, _⟩, ⟨961, some _, false, 2, _⟩] [] _ (by simp -implicitDefEqProofs (maxSteps := 2000000) only [go_sem] <;> and_intros <;> rfl) (by simp -implicitDefEqProofs (maxSteps := 2000000) only [go_sem] <;> and_intros <;> rfl) (by simp -implicitDefEqProofs (maxSteps := 2000000) only [go_sem] <;> and_intros <;> rfl) (by rfl)) ?_
  rintro j h4
  have hjn : j ≤ d.facts.length := by omega
  by_cases c1 : j < k
  · have wj : IntKind.i64.wrap ((j : Int) + 1) = ((j + 1 : Nat) : Int) := i64_succ (by omega)
    have c2 : j < d.facts.length := by omega
    have d1 := k2 j c1
    have hx := h.fit.2.2 _ (mem_getD default c2)
    simp -implicitDefEqProofs (maxSteps := 2000000) only [go_sem, c2]
    refine call_of (specCompareFacts_sat (d.facts.getD j default) f hx) (by simp -implicitDefEqProofs (maxSteps := 2000000) only [go_sem, c2, d1]) (by kernel_rfl) (by simp -implicitDefEqProofs (maxSteps := 2000000) only [go_sem, c2, d1]) ?_
    simp -implicitDefEqProofs (maxSteps := 2000000) only [go_sem, c2, d1]
    first | (with_reducible refine tr_and ?_ ?_; focus kernel_rfl) | (with_reducible refine tr_only ?_; kernel_rfl) | skip
    rw [wj]
    exact ⟨j + 1, c1, by omega, (le_st' _ _ [⟨960, some _, false, 3, _⟩, ⟨961, some _, false, 2, _⟩] [] _ (by simp -implicitDefEqProofs (maxSteps := 2000000) only [go_sem] <;> and_intros <;> rfl) (by simp -implicitDefEqProofs (maxSteps := 2000000) only [go_sem] <;> and_intros <;> rfl) (by simp -implicitDefEqProofs (maxSteps := 2000000) only [go_sem] <;> and_intros <;> rfl) (by rfl))⟩
  obtain rfl : j = k := by omega
  by_cases c2 : j < d.facts.length
  · have d1 := k3 c2
    have hx := h.fit.2.2 _ (mem_getD default c2)
    simp -implicitDefEqProofs (maxSteps := 2000000) only [go_sem, c2]
    refine call_of (specCompareFacts_sat (d.facts.getD j default) f hx) (by simp -implicitDefEqProofs (maxSteps := 2000000) only [go_sem, c2, d1]) (by kernel_rfl) (by simp -implicitDefEqProofs (maxSteps := 2000000) only [go_sem, c2, d1]) ?_
    simp -implicitDefEqProofs (maxSteps := 2000000) only [go_sem, c2, d1]
    first | (with_reducible refine tr_and ?_ ?_; focus kernel_rfl) | (with_reducible refine tr_only ?_; kernel_rfl) | skip
    have eR : (List.replicate 1 (⟨0, []⟩ : RI)).set 0 ⟨f.r, f.l⟩ = [f] := rfl
    have eT : List.take (d.facts.length - j) (List.drop j d.facts) = List.drop j d.facts := List.take_of_length_le (by rw [List.length_drop]; omega)
    have hdl : (List.drop j d.facts).length = d.facts.length - j := List.length_drop
    have htl : (List.take j d.facts).length = j := by rw [List.length_take]; omega
    have hB : flatB (ris 999 (List.drop j d.facts)) = false := flat_ne (s := 998) (by omega)
    have hG := goneR_tk d.facts hjn
    have hGl := goneR_ln d.facts hjn
    unfold RI.ok at hf
    by_cases j0 : j = 0
    · have hc : (j = 0 ∧ d.facts.length - j = d.facts.length) = True := eq_true ⟨j0, by omega⟩
      have hA : flatB (ris 999 (List.take j d.facts)) = true := by rw [j0]; rfl
      have hFl : flatB (ris 7408 [f] ++ ris 999 d.facts) = false := flat_ins 7407 f _
      have hTk : List.take (1 + d.facts.length) (ris 7408 [f] ++ ris 999 d.facts) = ris 7408 [f] ++ ris 999 d.facts := take_ins _ _ _
      simp only [eT, eR, Nat.sub_zero, hB, hc, hG, hA, hTk, hFl, if_true, Bool.false_eq_true, if_false, ris_length, htl]
      repeat (refine ⟨by omega, ?_⟩)
      refine tr_and (by kernel_rfl) ?_
      repeat (refine ⟨by omega, ?_⟩)
      subst j0
      exact ⟨(rst_ins 7407 [] d.facts f).symm, rfl⟩
    · have hc : (j = 0 ∧ d.facts.length - j = d.facts.length) = False := eq_false (fun h => j0 h.1)
      have hA : flatB (ris 999 (List.take j d.facts)) = false := flat_ne (s := 998) (by omega)
      have hjn2 : (j = d.facts.length) = False := eq_false (by omega)
      have hFl : flatB (ris 7408 [f] ++ ris 999 (List.drop j d.facts)) = false := flat_ins 7407 f _
      have hTk : List.take (1 + (List.drop j d.facts).length) (ris 7408 [f] ++ ris 999 (List.drop j d.facts)) = ris 7408 [f] ++ ris 999 (List.drop j d.facts) := take_ins _ _ _
      simp only [eT, eR, Nat.sub_zero, hB, hc, hG, hGl, hA, hjn2, hTk, hFl, if_true, Bool.false_eq_true, if_false, ris_length, htl]
      repeat (refine ⟨by omega, ?_⟩)
      refine tr_and (by kernel_rfl) ?_
      repeat (refine ⟨by omega, ?_⟩)
      exact ⟨(rst_ins 7407 _ _ f).symm, rfl⟩
  · obtain rfl : j = d.facts.length := by omega
    simp -implicitDefEqProofs (maxSteps := 2000000) only [go_sem, c2]
    have eR : (List.replicate 1 (⟨0, []⟩ : RI)).set 0 ⟨f.r, f.l⟩ = [f] := rfl
    have e0 : flatB (ris 999 ([] : List RI)) = true := rfl
    have hT1 : List.take 1 (ris 7408 [f] ++ ris 999 []) = ris 7408 [f] ++ ris 999 [] := rfl
    have hF1 : flatB (ris 7408 [f] ++ ris 999 []) = false := flat_ins 7407 f _
    have hfin := rst_ins 7407 d.facts [] f
    unfold RI.ok at hf
    rcases hA : flatB (ris 999 d.facts)
    · simp only [eR, e0, hT1, hF1, hA, Nat.sub_zero, List.take_length, if_true, Bool.false_eq_true, if_false]
      repeat (refine ⟨by omega, ?_⟩)
      refine tr_and (by kernel_rfl) ?_
      repeat (refine ⟨by omega, ?_⟩)
      exact ⟨hfin.symm, rfl⟩
    · simp only [eR, e0, hT1, hF1, hA, Nat.sub_zero, List.take_length, if_true, Bool.false_eq_true, if_false]
      repeat (refine ⟨by omega, ?_⟩)
      refine tr_and (by kernel_rfl) ?_
      repeat (refine ⟨by omega, ?_⟩)
      exact ⟨hfin.symm, rfl⟩
end Go.Proofs.YtedciihjgbkjgabGreat.A


/- DATABASES DRAWN. Conditions: none. -/
namespace Go.Proofs.YtedciihjgbkjgabGreat.A
open Go
set_option linter.unusedSimpArgs false
set_option linter.unusedVariables false
set_option maxRecDepth 100000

/-- A row of steps, each of which exists. -/
theorem seqOf {α : Type} (G : Nat → α → Prop) (R : α → α → Prop) (a : α) (h0 : G 0 a) (h : ∀ k a, G k a → ∃ b, G (k + 1) b ∧ R a b) : ∃ s : Nat → α, s 0 = a ∧ ∀ k, G k (s k) ∧ R (s k) (s (k + 1)) := by
  let f : (k : Nat) → { x : α // G k x } := fun k => Nat.rec (motive := fun k => { x : α // G k x }) ⟨a, h0⟩ (fun k x => ⟨Classical.choose (h k x.1 x.2), (Classical.choose_spec (h k x.1 x.2)).1⟩) k
  exact ⟨fun k => (f k).1, rfl, fun k => ⟨(f k).2, (Classical.choose_spec (h k (f k).1 (f k).2)).2⟩⟩
theorem sigs_len (c : Cur) : (sigs c).length = 4 := rfl
theorem sigs_ok (c : Cur) : ∀ x ∈ sigs c, (1 ≤ x.ar ∧ x.ar ≤ 3) ∧ x.name.size ≤ 2 := by
  intro x hx
  unfold sigs sigR at hx
  simp only [List.mem_cons, List.not_mem_nil, or_false] at hx
  rcases hx with rfl | rfl | rfl | rfl <;> exact ⟨by simp only; omega, by simp only; decide⟩
/-- A small database. -/
structure DbS (d : Db) (m : Nat) : Prop where
  rels : d.rels.length ≤ 4
  names : ∀ x ∈ d.rels, x.name.size ≤ 2
  facts : d.facts.length ≤ m
  vals : ∀ x ∈ d.facts, x.l.length ≤ 4
theorem DbS.ok {d : Db} {m : Nat} (h : DbS d m) (hm : m ≤ 1000) : d.ok := by
  have h1 := h.rels
  have h2 := h.facts
  refine ⟨⟨by omega, fun x hx => ?_⟩, by omega, fun x hx => ?_⟩
  · have := h.names x hx; unfold Rel.ok; omega
  · have := h.vals x hx; unfold RI.ok; omega
def valL : List Int := [2, 2, 3, 3]
theorem valL_at : ∀ i : Fin 4, ∃ v : Nat, valL.getD i.val 0 = v ∧ 0 < v ∧ v ≤ 256
  | ⟨0, _⟩ => ⟨2, rfl, by omega, by omega⟩
  | ⟨1, _⟩ => ⟨2, rfl, by omega, by omega⟩
  | ⟨2, _⟩ => ⟨3, rfl, by omega, by omega⟩
  | ⟨3, _⟩ => ⟨3, rfl, by omega, by omega⟩
theorem l4Db_ex (c : Cur) (hc : c.ok) : ∃ (d : Db) (c' : Cur), DbS d 12 ∧ d.rels = sigs c ∧ c'.ok ∧ Sat Tryz.prog 53 [lCur c] [oDb d] [lCur c'] := by
  have hc1 := byC_ok (byC_ok hc)
  obtain ⟨v, hv, hv1, hv2⟩ := valL_at ⟨beV (byC (byC c)) 4, beV_lt _ (by decide)⟩
  simp only at hv
  have hc2 := byC_ok hc1
  have hN := beV_lt (byC (byC (byC c))) (n := 11) (by decide)
  have s0 := l2Sigs_sat c hc
  have hl := sigs_len c
  have hr := sigs_ok c
  generalize hsg : sigs c = rs at s0 hl hr
  obtain ⟨s, z0, hs⟩ := seqOf (α := Db × Cur) (fun k x => x.1.rels = rs ∧ x.1.facts.length ≤ k ∧ (∀ f ∈ x.1.facts, f.l.length ≤ 3) ∧ x.2.ok)
    (fun x y => (∀ f ∈ x.1.facts, f.l.length ≤ 3) ∧ x.1.facts.length ≤ 1000000 → ∃ (f : RI) (b : Bool), Sat Tryz.prog 80 [lCur x.2, lRels rs, lInt v] [oRI f] [lCur y.2, g1, g1] ∧ Sat Tryz.prog 79 [lDb x.1, lRI f] [oDb y.1, lBool b] [g2, g2])
    (⟨rs, []⟩, byC (byC (byC (byC c)))) ⟨rfl, by simp, by simp, byC_ok hc2⟩ (by
      rintro k ⟨d, c1⟩ ⟨h1, h2, h3, h4⟩
      simp only at h1 h2 h3 h4
      have a1 := beV_lt c1 (n := rs.length) (by omega)
      have a2 := (hr _ (mem_getD default a1)).1
      have hfl : (factD c1 rs v).l.length ≤ 3 := by rw [factD_len]; unfold factA; omega
      by_cases hbig : d.facts.length ≤ 1000000
      · have hok : d.ok := ⟨⟨by rw [h1]; omega, fun x hx => by rw [h1] at hx; have := (hr x hx).2; unfold Rel.ok; omega⟩, by omega, fun x hx => by have := h3 x hx; unfold RI.ok; omega⟩
        obtain ⟨d', b, b1, b2, b3, b4⟩ := insertFact_ex d (factD c1 rs v) hok (by unfold RI.ok; omega)
        refine ⟨(d', factC c1 rs v), ⟨by rw [b1, h1], by show d'.facts.length ≤ k + 1; omega, fun f hf => ?_, factC_ok h4 rs v⟩, fun _ => ⟨factD c1 rs v, b, l3Fact_sat c1 rs v h4 (by omega) (by omega) hv1 hv2 (fun x hx => by have := (hr x hx).1; omega), b4⟩⟩
        rcases b3 f hf with h | rfl
        · exact h3 f h
        · exact hfl
      · exact ⟨(d, c1), ⟨h1, by show d.facts.length ≤ k + 1; omega, h3, h4⟩, fun h => absurd h.2 hbig⟩)
  obtain ⟨N, hNN⟩ : ∃ N : Nat, N = 2 + beV (byC (byC (byC c))) 11 := ⟨_, rfl⟩
  have gN := (hs N).1
  refine ⟨(s N).1, (s N).2, ⟨by rw [gN.1]; omega, fun x hx => (hr x (by rw [← gN.1]; exact hx)).2, by have := gN.2.1; omega, fun x hx => by have := gN.2.2.1 x hx; omega⟩, gN.1, gN.2.2.2, ?_⟩
  refine sat_of_bodyB Tryz.func53 rfl (by kernel_rfl) (rs := [.cell 2 27]) rfl rfl rfl ?_
  have eL : ((((List.replicate 4 (0 : Int)).set 0 2).set 1 2).set 2 3).set 3 3 = valL := rfl
  have el : valL.length = 4 := rfl
  have wN : IntKind.i64.wrap (2 + ((beV (byC (byC (byC c))) 11 : Nat) : Int)) = ((N : Nat) : Int) := by rw [IntWalk.i64_in _ (by omega)]; omega
  refine bwp_seq mixed (by kernel_rfl) ?_
  simp -implicitDefEqProofs (maxSteps := 2000000) only [go_sem]
  refine bwp_seq mixed (by kernel_rfl) ?_
  simp -implicitDefEqProofs (maxSteps := 2000000) only [go_sem]
  refine call_of (s0) (by simp -implicitDefEqProofs (maxSteps := 2000000) only [go_sem] <;> and_intros <;> rfl) (by kernel_rfl) (by simp -implicitDefEqProofs (maxSteps := 2000000) only [go_sem]) ?_
  simp -implicitDefEqProofs (maxSteps := 2000000) only [go_sem]
  refine bwp_seq mixed (by kernel_rfl) ?_
  simp -implicitDefEqProofs (maxSteps := 2000000) only [go_sem]
  refine call_of (l1PickInt_own (byC (byC c)) valL hc1 (by decide) (by decide)) (by simp -implicitDefEqProofs (maxSteps := 2000000) only [go_sem, eL, el, hv]) (by kernel_rfl) (by simp -implicitDefEqProofs (maxSteps := 2000000) only [go_sem, eL, el, hv]) ?_
  simp -implicitDefEqProofs (maxSteps := 2000000) only [go_sem, eL, el, hv]
  refine bwp_seqB (bwp_seq mixed (by kernel_rfl) ?_)
  simp -implicitDefEqProofs (maxSteps := 2000000) only [go_sem]
  refine call_of (l1Below_sat (byC (byC (byC c))) 11 hc2 (by decide) (by decide)) (by simp -implicitDefEqProofs (maxSteps := 2000000) only [go_sem, wN] <;> and_intros <;> rfl) (by kernel_rfl) (by simp -implicitDefEqProofs (maxSteps := 2000000) only [go_sem, wN]) ?_
  simp -implicitDefEqProofs (maxSteps := 2000000) only [go_sem, wN]
  have z1 : (s 0).1.rels = rs := by rw [z0]
  have z2 : (s 0).1.facts = [] := by rw [z0]
  have z3 : (s 0).2 = byC (byC (byC (byC c))) := by rw [z0]
  refine bwp_block ?_
  refine bwp_loop Nat (fun j => mkSt [(0, .one (.vad 0 0)), (2, .one (.vad 1000 0)), (3, .one (.vad 1256 0)), (4, .sc (.int .i64 v)), (5, .sc (.int .i64 ((N : Int) - (j : Int))))] [(0, sCur (s j).2), (1000, yDb), (1256, [.ref 960 3 0 rs.length, .ref 961 2 0 (s j).1.facts.length])] [(960, (3, rels rs)), (961, (2, ris 999 (s j).1.facts))] 8000)
    (fun j => j ≤ N) (fun j => N - j) 0 (by omega) (le_st' _ _ [⟨960, some _, false, 3, _⟩, ⟨961, none, false, 2, _⟩] [] _ (by simp -implicitDefEqProofs (maxSteps := 2000000) only [go_sem, z1, z2, z3, hl, ris_nil, List.length_nil, Int.sub_zero, Int.natCast_zero] <;> and_intros <;> rfl) (by simp -implicitDefEqProofs (maxSteps := 2000000) only [go_sem, z1, z2, z3, hl, ris_nil, List.length_nil, Int.sub_zero, Int.natCast_zero] <;> and_intros <;> rfl) (by simp -implicitDefEqProofs (maxSteps := 2000000) only [go_sem, z1, z2, z3, hl, ris_nil, List.length_nil, Int.sub_zero, Int.natCast_zero] <;> and_intros <;> rfl) (by rfl)) ?_
  rintro j h4
  obtain ⟨⟨b1, b2, b3, b4⟩, b5⟩ := hs j
  by_cases c1 : j < N
  · obtain ⟨f, b, t1, t2⟩ := b5 ⟨b3, by omega⟩
    have d1 : decide ((N : Int) - (j : Int) > 0) = true := decide_eq_true (by omega)
    have wj : IntKind.i64.wrap ((N : Int) - (j : Int) - 1) = (N : Int) - ((j + 1 : Nat) : Int) := by rw [IntWalk.i64_in _ (by omega)]; omega
    have b1' := (hs (j + 1)).1.1
    refine bwp_seq mixed (by kernel_rfl) ?_
    simp -implicitDefEqProofs (maxSteps := 2000000) only [go_sem, d1]
    refine bwp_le (st' := mkSt [(0, .one (.vad 0 0)), (2, .one (.vad 1000 0)), (3, .one (.vad 1256 0)), (4, .sc (.int .i64 v)), (5, .sc (.int .i64 ((N : Int) - (j : Int))))] [(0, sCur (s j).2), (1000, yDb), (1256, [.im 3 (rels rs), .ref 961 2 0 (s j).1.facts.length])] [(961, (2, ris 999 (s j).1.facts))] 10000) (le_st' _ _ [⟨961, some 961, false, 2, _⟩] [960] _ (by simp -implicitDefEqProofs (maxSteps := 2000000) only [go_sem, rels_frz] <;> and_intros <;> first | rfl | exact List.mem_singleton_self _ | decide | (refine ⟨_, rfl, Eq.symm ?_⟩; simp -implicitDefEqProofs (maxSteps := 2000000) only [go_sem, rels_frz]; done) | (refine ⟨_, rfl, Eq.symm ?_⟩; simp -implicitDefEqProofs (maxSteps := 2000000) only [go_sem, rels_frz]; rfl)) (by simp -implicitDefEqProofs (maxSteps := 2000000) only [go_sem, rels_frz] <;> and_intros <;> first | rfl | exact List.mem_singleton_self _ | decide | (refine ⟨_, rfl, Eq.symm ?_⟩; simp -implicitDefEqProofs (maxSteps := 2000000) only [go_sem, rels_frz]; done) | (refine ⟨_, rfl, Eq.symm ?_⟩; simp -implicitDefEqProofs (maxSteps := 2000000) only [go_sem, rels_frz]; rfl)) (by simp -implicitDefEqProofs (maxSteps := 2000000) only [go_sem, rels_frz] <;> and_intros <;> rfl) (by rfl)) ?_
    refine bwp_awp mixed (by kernel_rfl) ?_
    simp -implicitDefEqProofs (maxSteps := 2000000) only [go_sem]
    refine call_of (t1) ?_ ?_ ?_ ?_
    · simp -implicitDefEqProofs (maxSteps := 2000000) only [go_sem]
    · kernel_rfl
    · simp -implicitDefEqProofs (maxSteps := 2000000) only [go_sem]
    simp -implicitDefEqProofs (maxSteps := 2000000) only [go_sem]
    refine call_of (t2) (by simp -implicitDefEqProofs (maxSteps := 2000000) only [go_sem, b1]) (callOk_still (by kernel_rfl) (by simp only [List.all_cons, List.all_nil, LV.still, LV.leaves, Leaf.still, ints_still, ris_still, eds_still, rels_still, iss_still, ems_still, Bool.and_self, Bool.and_true])) (by simp -implicitDefEqProofs (maxSteps := 2000000) only [go_sem, b1]) ?_
    simp -implicitDefEqProofs (maxSteps := 2000000) only [go_sem, b1]
    first | (with_reducible refine tr_and ?_ ?_; focus kernel_rfl) | (with_reducible refine tr_only ?_; kernel_rfl) | skip
    rw [wj]
    exact ⟨j + 1, c1, by omega, (le_st' _ _ [⟨960, some _, false, 3, _⟩, ⟨961, some _, false, 2, _⟩] [] _ (by simp -implicitDefEqProofs (maxSteps := 2000000) only [go_sem, b1'] <;> and_intros <;> rfl) (by simp -implicitDefEqProofs (maxSteps := 2000000) only [go_sem, b1'] <;> and_intros <;> rfl) (by simp -implicitDefEqProofs (maxSteps := 2000000) only [go_sem, b1'] <;> and_intros <;> rfl) (by rfl))⟩
  · obtain rfl : j = N := by omega
    have d1 : decide ((j : Int) - (j : Int) > 0) = false := decide_eq_false (by omega)
    refine bwp_seq mixed (by kernel_rfl) ?_
    simp -implicitDefEqProofs (maxSteps := 2000000) only [go_sem, d1]
    refine bwp_awp mixed (by kernel_rfl) ?_
    simp -implicitDefEqProofs (maxSteps := 2000000) only [go_sem]
    and_intros <;> first | rfl | (rw [b1])
end Go.Proofs.YtedciihjgbkjgabGreat.A


/- QUERIES: copies. Conditions: none. -/
namespace Go.Proofs.YtedciihjgbkjgabGreat.A
open Go
set_option linter.unusedSimpArgs false
set_option linter.unusedVariables false
set_option maxRecDepth 100000

theorem repC {α : Type} (a : α) : List.replicate 1 a = [a] := rfl
theorem copyAtom_sat (a : RI) (h : a.l.length ≤ 1048576) : Sat Tryz.prog 59 [lRI a] [oRI a] [g2] := by
  refine sat_of_body mixed Tryz.func59 rfl (by kernel_rfl) (by kernel_rfl) (rs := [.cell 2 50]) rfl rfl rfl ?_
  simp -implicitDefEqProofs (maxSteps := 2000000) only [go_sem]
  repeat (refine ⟨by omega, ?_⟩)
  first | (with_reducible refine tr_and ?_ ?_; focus kernel_rfl) | (with_reducible refine tr_only ?_; kernel_rfl) | skip
  kernel_rfl
theorem implCopyQuery_sat (q : Qu) (h : q.ok) : Sat Tryz.prog 29 [lQu q] [oQu q] [g3] := by
  refine sat_of_body mixed Tryz.func29 rfl (by kernel_rfl) (by kernel_rfl) (rs := [.cell 2 31]) rfl rfl rfl ?_
  have hf := h.2
  have ha := h.1.1
  simp -implicitDefEqProofs (maxSteps := 2000000) only [go_sem]
  repeat (refine ⟨by omega, ?_⟩)
  first | (with_reducible refine tr_and ?_ ?_; focus kernel_rfl) | (with_reducible refine tr_only ?_; kernel_rfl) | skip
  refine awp_loop Nat (fun k => mkSt [(2, .one (.vad 1064 0)), (3, .one (.vad 1576 0)), (14, .one (.im 2 (ris 0 q.atoms))), (15, .sc (.int .i64 q.atoms.length)), (16, .sc (.int .i64 k))] [(1064, [.sc (.int .i64 0), .sc (.slice none 0 0), .sc (.slice none 0 0)]), (1576, [.sc (.int .i64 q.vc), .ref 960 2 0 k, .ref 961 1 0 q.free.length])] [(960, (2, ris 999 (q.atoms.take k))), (961, (1, ints q.free))] 4000)
    (fun k => k ≤ q.atoms.length) (fun k => q.atoms.length - k) 0 (by omega) (le_st' _ _ [⟨960, none, false, 2, _⟩, ⟨961, some _, false, 1, _⟩] [] _ (by simp -implicitDefEqProofs (maxSteps := 2000000) only [go_sem] <;> and_intros <;> rfl) (by simp -implicitDefEqProofs (maxSteps := 2000000) only [go_sem] <;> and_intros <;> rfl) (by simp -implicitDefEqProofs (maxSteps := 2000000) only [go_sem] <;> and_intros <;> rfl) (by rfl)) ?_
  rintro k h4
  by_cases c1 : k < q.atoms.length
  · have wk : IntKind.i64.wrap ((k : Int) + 1) = ((k + 1 : Nat) : Int) := i64_succ (by omega)
    have hx : (q.atoms.getD k default).l.length ≤ 1048576 := h.1.2 _ (mem_getD default c1)
    have ht : (q.atoms.take k).length = k := by rw [List.length_take]; omega
    simp -implicitDefEqProofs (maxSteps := 2000000) only [go_sem, c1]
    refine call_of (copyAtom_sat (q.atoms.getD k default) hx) (by simp -implicitDefEqProofs (maxSteps := 2000000) only [go_sem]) (callOk_still (by kernel_rfl) (by simp only [List.all_cons, List.all_nil, LV.still, LV.leaves, Leaf.still, ints_still, ris_still, eds_still, rels_still, iss_still, ems_still, Bool.and_self, Bool.and_true])) (by simp -implicitDefEqProofs (maxSteps := 2000000) only [go_sem]) ?_
    simp -implicitDefEqProofs (maxSteps := 2000000) only [go_sem]
    repeat (refine ⟨by omega, ?_⟩)
    refine tr_and (by kernel_rfl) ?_
    rw [wk]
    refine ⟨k + 1, c1, by omega, ?_⟩
    rw [take_snoc default c1]
    exact (le_st' _ _ [⟨960, some _, false, 2, _⟩, ⟨961, some _, false, 1, _⟩] [] _ (by simp -implicitDefEqProofs (maxSteps := 2000000) only [go_sem, ht, repC, List.set_cons_zero] <;> and_intros <;> rfl) (by simp -implicitDefEqProofs (maxSteps := 2000000) only [go_sem, ht, repC, List.set_cons_zero] <;> and_intros <;> rfl) (by simp -implicitDefEqProofs (maxSteps := 2000000) only [go_sem, ht, repC, List.set_cons_zero] <;> and_intros <;> rfl) (by rfl))
  · obtain rfl : k = q.atoms.length := by omega
    rw [List.take_length]
    simp -implicitDefEqProofs (maxSteps := 2000000) only [go_sem, c1]
    kernel_rfl
theorem specCopy_sat (q : Qu) (h : q.ok) : Sat Tryz.prog 33 [lQu q] [oQu q] [g3] := by
  refine sat_of_body mixed Tryz.func33 rfl (by kernel_rfl) (by kernel_rfl) (rs := [.cell 2 31]) rfl rfl rfl ?_
  have hf := h.2
  have ha := h.1.1
  simp -implicitDefEqProofs (maxSteps := 2000000) only [go_sem]
  repeat (refine ⟨by omega, ?_⟩)
  first | (with_reducible refine tr_and ?_ ?_; focus kernel_rfl) | (with_reducible refine tr_only ?_; kernel_rfl) | skip
  refine awp_loop Nat (fun k => mkSt [(1, .one (.vad 1000 0)), (2, .one (.vad 1064 0)), (3, .one (.vad 1576 0)), (4, .sc (.int .i64 k))] [(1000, sQu q), (1064, [.sc (.int .i64 0), .sc (.slice none 0 0), .sc (.slice none 0 0)]), (1576, [.sc (.int .i64 q.vc), .ref 960 2 0 k, .ref 961 1 0 q.free.length])] [(960, (2, ris 999 (q.atoms.take k))), (961, (1, ints q.free))] 4000)
    (fun k => k ≤ q.atoms.length) (fun k => q.atoms.length - k) 0 (by omega) (le_st' _ _ [⟨960, none, false, 2, _⟩, ⟨961, some _, false, 1, _⟩] [] _ (by simp -implicitDefEqProofs (maxSteps := 2000000) only [go_sem] <;> and_intros <;> rfl) (by simp -implicitDefEqProofs (maxSteps := 2000000) only [go_sem] <;> and_intros <;> rfl) (by simp -implicitDefEqProofs (maxSteps := 2000000) only [go_sem] <;> and_intros <;> rfl) (by rfl)) ?_
  rintro k h4
  by_cases c1 : k < q.atoms.length
  · have wk : IntKind.i64.wrap ((k : Int) + 1) = ((k + 1 : Nat) : Int) := i64_succ (by omega)
    have hx : (q.atoms.getD k default).l.length ≤ 1048576 := h.1.2 _ (mem_getD default c1)
    have ht : (q.atoms.take k).length = k := by rw [List.length_take]; omega
    simp -implicitDefEqProofs (maxSteps := 2000000) only [go_sem, c1]
    repeat (refine ⟨by omega, ?_⟩)
    refine tr_and (by kernel_rfl) ?_
    rw [wk]
    refine ⟨k + 1, c1, by omega, ?_⟩
    rw [take_snoc default c1]
    exact (le_st' _ _ [⟨960, some _, false, 2, _⟩, ⟨961, some _, false, 1, _⟩] [] _ (by simp -implicitDefEqProofs (maxSteps := 2000000) only [go_sem, ht, repC, List.set_cons_zero] <;> and_intros <;> rfl) (by simp -implicitDefEqProofs (maxSteps := 2000000) only [go_sem, ht, repC, List.set_cons_zero] <;> and_intros <;> rfl) (by simp -implicitDefEqProofs (maxSteps := 2000000) only [go_sem, ht, repC, List.set_cons_zero] <;> and_intros <;> rfl) (by rfl))
  · obtain rfl : k = q.atoms.length := by omega
    rw [List.take_length]
    simp -implicitDefEqProofs (maxSteps := 2000000) only [go_sem, c1]
    kernel_rfl
end Go.Proofs.YtedciihjgbkjgabGreat.A


/- BLOCKS: the plain law. Conditions: none. (No program in sight.) -/
namespace Go.Proofs.YtedciihjgbkjgabGreat.A
open Go
set_option linter.unusedSimpArgs false
set_option linter.unusedVariables false

section eqv
variable {S : Nat → Nat → Bool} {n : Nat}
end eqv

end Go.Proofs.YtedciihjgbkjgabGreat.A


/- EMBEDDINGS. Conditions: none. -/
namespace Go.Proofs.YtedciihjgbkjgabGreat.A
open Go
set_option linter.unusedSimpArgs false
set_option linter.unusedVariables false
set_option maxRecDepth 100000

end Go.Proofs.YtedciihjgbkjgabGreat.A


/- LISTS OF EMBEDDINGS: how they lie, comparison, marks. Conditions: none. -/
namespace Go.Proofs.YtedciihjgbkjgabGreat.A
open Go
set_option linter.unusedSimpArgs false
set_option linter.unusedVariables false
set_option maxRecDepth 100000

abbrev oEms (a : List Emb) : LV := .one (.ow 2 (ems 1 a))

def numEm : List Emb → Nat
  | [] => 0
  | a :: l => a.vs.length + a.fs.length + numEm l
def markEm : List Emb → Int → List Emb
  | [], _ => []
  | a :: l, k => ⟨cnt k a.vs.length, cnt (k + a.vs.length) a.fs.length⟩ :: markEm l (k + a.vs.length + a.fs.length)
theorem numEm_nil : numEm [] = 0 := rfl
attribute [go_sem] numEm_nil
theorem markEm_length : ∀ (a : List Emb) (k : Int), (markEm a k).length = a.length
  | [], _ => rfl
  | a :: l, k => by rw [markEm, List.length_cons, List.length_cons, markEm_length]
theorem markEm_full (a : List Emb) (k : Int) : List.take a.length (markEm a k) = markEm a k := List.take_of_length_le (by rw [markEm_length]; omega)
attribute [go_sem] markEm_full
theorem Emb.eq_iff (a b : Emb) : decide (a = b) = (decide (a.vs = b.vs) && decide (a.fs = b.fs)) := by cases a; cases b; simp
end Go.Proofs.YtedciihjgbkjgabGreat.A


/- QUERIES FOR DATABASES. Conditions: none. -/
namespace Go.Proofs.YtedciihjgbkjgabGreat.A
open Go
set_option linter.unusedSimpArgs false
set_option linter.unusedVariables false
set_option maxRecDepth 100000

def queryFor (d : Db) (q : Qu) : Bool := goodDb d && goodQu d.rels q
theorem specIsQueryFor_sat (d : Db) (q : Qu) (h : d.fit) (hq : q.fit) : Sat Tryz.prog 11 [lDb d, lQu q] [lBool (queryFor d q)] [g2, g3] := by
  refine sat_of_body mixed Tryz.func11 rfl (by kernel_rfl) (by kernel_rfl) (rs := [.tmp 4]) rfl rfl rfl ?_
  unfold queryFor
  simp -implicitDefEqProofs (maxSteps := 2000000) only [go_sem]
  rcases g : goodDb d
  · refine call_of (specIsValidDatabase_sat d h) (by simp -implicitDefEqProofs (maxSteps := 2000000) only [go_sem, g]) (by kernel_rfl) (by simp -implicitDefEqProofs (maxSteps := 2000000) only [go_sem, g]) ?_
    simp -implicitDefEqProofs (maxSteps := 2000000) only [go_sem, g]
  refine call_of (specIsValidDatabase_sat d h) (by simp -implicitDefEqProofs (maxSteps := 2000000) only [go_sem, g]) (by kernel_rfl) (by simp -implicitDefEqProofs (maxSteps := 2000000) only [go_sem, g]) ?_
  simp -implicitDefEqProofs (maxSteps := 2000000) only [go_sem, g]
  refine call_of (specIsValidQuery_sat d.rels q h.1.1 hq) (by simp -implicitDefEqProofs (maxSteps := 2000000) only [go_sem]) (by kernel_rfl) (by simp -implicitDefEqProofs (maxSteps := 2000000) only [go_sem]) ?_
  simp -implicitDefEqProofs (maxSteps := 2000000) only [go_sem]
theorem implIsQueryFor_sat (d : Db) (q : Qu) (h : d.fit) (hq : q.ok) : Sat Tryz.prog 16 [lDb d, lQu q] [lBool (queryFor d q)] [g2, g3] := by
  refine sat_of_body mixed Tryz.func16 rfl (by kernel_rfl) (by kernel_rfl) (rs := [.tmp 4]) rfl rfl rfl ?_
  unfold queryFor
  simp -implicitDefEqProofs (maxSteps := 2000000) only [go_sem]
  rcases g : goodDb d
  · refine call_of (implIsValidDatabase_sat d h) (by simp -implicitDefEqProofs (maxSteps := 2000000) only [go_sem, g]) (by kernel_rfl) (by simp -implicitDefEqProofs (maxSteps := 2000000) only [go_sem, g]) ?_
    simp -implicitDefEqProofs (maxSteps := 2000000) only [go_sem, g]
  refine call_of (implIsValidDatabase_sat d h) (by simp -implicitDefEqProofs (maxSteps := 2000000) only [go_sem, g]) (by kernel_rfl) (by simp -implicitDefEqProofs (maxSteps := 2000000) only [go_sem, g]) ?_
  simp -implicitDefEqProofs (maxSteps := 2000000) only [go_sem, g]
  refine call_of (implIsValidQuery_sat d.rels q h.1.1 hq) (by simp -implicitDefEqProofs (maxSteps := 2000000) only [go_sem]) (by kernel_rfl) (by simp -implicitDefEqProofs (maxSteps := 2000000) only [go_sem]) ?_
  simp -implicitDefEqProofs (maxSteps := 2000000) only [go_sem]
end Go.Proofs.YtedciihjgbkjgabGreat.A


/- EMBEDDINGS: the plain search. Conditions: none. (No program in sight.) -/
namespace Go.Proofs.YtedciihjgbkjgabGreat.A
open Go
set_option linter.unusedSimpArgs false
set_option linter.unusedVariables false

def stepU (x : List Int) (t f : Int) : Option (List Int) :=
  if t < 0 then (if -1 - t = f then some x else none)
  else if x.getD t.toNat 0 < 0 then some (x.set t.toNat f)
  else if x.getD t.toNat 0 = f then some x else none
def uniS (ts fs vs : List Int) : Nat → Option (List Int)
  | 0 => some vs
  | k + 1 => (uniS ts fs vs k).bind fun x => stepU x (ts.getD k 0) (fs.getD k 0)
theorem stepU_len {x y : List Int} {t f : Int} (h : stepU x t f = some y) : y.length = x.length := by
  unfold stepU at h
  split at h
  · split at h
    · cases h; rfl
    · cases h
  · split at h
    · cases h; simp
    · split at h
      · cases h; rfl
      · cases h
theorem uniS_len {ts fs vs : List Int} : ∀ {k : Nat} {x : List Int}, uniS ts fs vs k = some x → x.length = vs.length
  | 0, x, h => by cases h; rfl
  | k + 1, x, h => by
    rw [uniS] at h
    rcases e : uniS ts fs vs k with _ | y
    · rw [e] at h; cases h
    · rw [e, Option.bind_some] at h
      rw [stepU_len h, uniS_len e]
theorem uniS_none {ts fs vs : List Int} {k : Nat} (h : uniS ts fs vs k = none) : ∀ d : Nat, uniS ts fs vs (k + d) = none
  | 0 => h
  | d + 1 => by rw [← Nat.add_assoc, uniS, uniS_none h d]; rfl
theorem uniS_stop {ts fs vs : List Int} {k n : Nat} (h : uniS ts fs vs k = none) (hn : k ≤ n) : uniS ts fs vs n = none := by
  obtain ⟨d, rfl⟩ := Nat.le.dest hn
  exact uniS_none h d
theorem uniS_step {ts fs vs x : List Int} {k : Nat} (h : uniS ts fs vs k = some x) : uniS ts fs vs (k + 1) = stepU x (ts.getD k 0) (fs.getD k 0) := by
  rw [uniS, h]; rfl
/-- The last state before the search fell. -/
def uniL (ts fs vs : List Int) : Nat → List Int
  | 0 => vs
  | k + 1 => match uniS ts fs vs (k + 1) with
    | some x => x
    | none => uniL ts fs vs k
theorem uniL_some {ts fs vs x : List Int} : ∀ {k : Nat}, uniS ts fs vs k = some x → uniL ts fs vs k = x
  | 0, h => by cases h; rfl
  | k + 1, h => by rw [uniL, h]
theorem uniL_none {ts fs vs x : List Int} {k : Nat} (h : uniS ts fs vs k = some x) (h2 : uniS ts fs vs (k + 1) = none) : ∀ d : Nat, uniL ts fs vs (k + 1 + d) = x
  | 0 => by
    rw [Nat.add_zero, uniL, h2]
    exact uniL_some h
  | d + 1 => by
    rw [← Nat.add_assoc, uniL, show uniS ts fs vs (k + 1 + d + 1) = none from uniS_none (k := k + 1) h2 (d + 1)]
    exact uniL_none h h2 d
theorem uniL_stop {ts fs vs x : List Int} {k n : Nat} (h : uniS ts fs vs k = some x) (h2 : uniS ts fs vs (k + 1) = none) (hn : k < n) : uniL ts fs vs n = x := by
  obtain ⟨d, rfl⟩ := Nat.le.dest (show k + 1 ≤ n from hn)
  exact uniL_none h h2 d
def meet (a f : RI) (vs : List Int) : Option (List Int) := if f.r = a.r then uniS a.l f.l vs a.l.length else none
def meetV (a f : RI) (vs : List Int) : List Int := if f.r = a.r then uniL a.l f.l vs a.l.length else vs
theorem meet_len {a f : RI} {vs x : List Int} (h : meet a f vs = some x) : x.length = vs.length := by
  unfold meet at h
  split at h
  · exact uniS_len h
  · cases h
theorem meetV_eq {a f : RI} {vs x : List Int} (h : meet a f vs = some x) : meetV a f vs = x := by
  unfold meet at h
  unfold meetV
  split at h
  · rw [if_pos (by assumption)]; exact uniL_some h
  · cases h
/-- What one round finds: g tells it of each fact. -/
def found {α : Type} (g : Nat → List α) (k : Nat) : List α := (List.range k).flatMap g
theorem found_zero {α : Type} (g : Nat → List α) : found g 0 = [] := rfl
theorem found_succ {α : Type} (g : Nat → List α) (k : Nat) : found g (k + 1) = found g k ++ g k := by
  unfold found
  rw [List.range_succ, List.flatMap_append]; simp
theorem found_len {α : Type} {g : Nat → List α} {b : Nat} (h : ∀ i, (g i).length ≤ b) : ∀ k, (found g k).length ≤ k * b
  | 0 => by simp [found_zero]
  | k + 1 => by
    rw [found_succ, List.length_append, Nat.add_mul]
    have := found_len h k
    have := h k
    omega
theorem found_mem {α : Type} {g : Nat → List α} {k : Nat} {x : α} : x ∈ found g k ↔ ∃ i, i < k ∧ x ∈ g i := by
  unfold found
  rw [List.mem_flatMap]
  constructor
  · rintro ⟨i, h1, h2⟩; exact ⟨i, by simpa using h1, h2⟩
  · rintro ⟨i, h1, h2⟩; exact ⟨i, by simpa using h1, h2⟩
def atomAt (ats : List RI) (m : Nat) : RI := ats.getD (ats.length - (m + 1)) default
def walkE (ds ats : List RI) : Nat → List Int → List Int → List Emb
  | 0, vs, fs => [⟨vs, fs⟩]
  | m + 1, vs, fs => found (fun i => match meet (atomAt ats m) (ds.getD i default) vs with
    | some x => walkE ds ats m x (fs ++ [(i : Int)])
    | none => []) ds.length
def oneE (ds ats : List RI) (m : Nat) (vs fs : List Int) (i : Nat) : List Emb := match meet (atomAt ats m) (ds.getD i default) vs with
    | some x => walkE ds ats m x (fs ++ [(i : Int)])
    | none => []
theorem walkE_succ (ds ats : List RI) (m : Nat) (vs fs : List Int) : walkE ds ats (m + 1) vs fs = found (oneE ds ats m vs fs) ds.length := rfl
theorem oneE_some {ds ats : List RI} {m i : Nat} {vs fs x : List Int} (h : meet (atomAt ats m) (ds.getD i default) vs = some x) : oneE ds ats m vs fs i = walkE ds ats m x (fs ++ [(i : Int)]) := by unfold oneE; rw [h]
theorem oneE_none {ds ats : List RI} {m i : Nat} {vs fs : List Int} (h : meet (atomAt ats m) (ds.getD i default) vs = none) : oneE ds ats m vs fs i = [] := by unfold oneE; rw [h]
theorem walkE_len {ds ats : List RI} (hd : ds.length ≤ 14) : ∀ (m : Nat) (vs fs : List Int), (walkE ds ats m vs fs).length ≤ 14 ^ m
  | 0, _, _ => by simp [walkE]
  | m + 1, vs, fs => by
    rw [walkE_succ]
    have h1 : ∀ i, (oneE ds ats m vs fs i).length ≤ 14 ^ m := by
      intro i
      unfold oneE
      split
      · exact walkE_len hd m _ _
      · simp
    have h2 := found_len h1 ds.length
    have h3 := Nat.mul_le_mul_right (14 ^ m) hd
    rw [Nat.pow_succ, Nat.mul_comm (14 ^ m)]
    omega
theorem walkE_mem {ds ats : List RI} : ∀ {m : Nat} {vs fs : List Int}, ∀ e ∈ walkE ds ats m vs fs, e.vs.length = vs.length ∧ e.fs.length = fs.length + m
  | 0, vs, fs, e, h => by
    simp only [walkE, List.mem_singleton] at h
    subst h; exact ⟨rfl, rfl⟩
  | m + 1, vs, fs, e, h => by
    rw [walkE_succ, found_mem] at h
    obtain ⟨i, _, h⟩ := h
    unfold oneE at h
    split at h
    · rename_i x hx
      obtain ⟨h1, h2⟩ := walkE_mem e h
      rw [List.length_append, List.length_singleton] at h2
      exact ⟨by rw [h1, meet_len hx], by omega⟩
    · cases h
theorem pow14E {m : Nat} (h : m ≤ 3) : 14 ^ m ≤ 2744 := Nat.pow_le_pow_right (by omega) h
/-- ALL EMBEDDINGS. -/
def embs (d : Db) (q : Qu) : List Emb := if queryFor d q then walkE d.facts q.atoms q.atoms.length (List.replicate q.vc.toNat (-1)) [] else []
theorem queryFor_db {d : Db} {q : Qu} (h : queryFor d q = true) : goodDb d = true := by
  unfold queryFor at h; rw [Bool.and_eq_true] at h; exact h.1
theorem queryFor_qu {d : Db} {q : Qu} (h : queryFor d q = true) : goodQu d.rels q = true := by
  unfold queryFor at h; rw [Bool.and_eq_true] at h; exact h.2
theorem goodDb_len {d : Db} (h : goodDb d = true) : d.facts.length ≤ 14 := by
  unfold goodDb at h
  simp only [Bool.and_eq_true, decide_eq_true_eq] at h
  omega
theorem goodQu_parts {l : List Rel} {q : Qu} (h : goodQu l q = true) : (0 ≤ q.vc ∧ q.vc ≤ 4) ∧ 1 ≤ q.atoms.length ∧ q.atoms.length ≤ 3 := by
  unfold goodQu at h
  simp only [Bool.and_eq_true] at h
  have a1 := inB_of h.2.1
  have a2 := inB_of h.2.2.1
  omega
theorem goodDb_fact {d : Db} (h : goodDb d = true) {i : Nat} (hi : i < d.facts.length) : goodFact d.rels (d.facts.getD i default) = true := by
  unfold goodDb at h
  simp only [Bool.and_eq_true] at h
  have := upTo_at h.2.2 hi
  unfold factOk at this
  rw [Bool.and_eq_true] at this
  exact this.1
theorem goodQu_at {l : List Rel} {q : Qu} (h : goodQu l q = true) {k : Nat} (hk : k < q.atoms.length) : atomOk l q k = true := by
  unfold goodQu at h
  simp only [Bool.and_eq_true] at h
  exact upTo_at h.2.2.2.2.1 hk
theorem meet_lens {d : Db} {q : Qu} (h : queryFor d q = true) {k i : Nat} (hk : k < q.atoms.length) (hi : i < d.facts.length) (e : (d.facts.getD i default).r = (q.atoms.getD k default).r) : (d.facts.getD i default).l.length = (q.atoms.getD k default).l.length := by
  have h1 := goodDb_fact (queryFor_db h) hi
  have h2 := goodQu_at (queryFor_qu h) hk
  unfold goodFact at h1
  unfold atomOk relAt at h2
  simp only [Bool.and_eq_true, beq_iff_eq] at h1 h2
  have a1 := h1.2.1
  have a2 := h2.1.2
  rw [e] at a1
  omega
/-- Terms that name variables of a list or are constants. -/
def tsOk (n : Nat) (ts : List Int) : Prop := ∀ k, k < ts.length → -10 ≤ ts.getD k 0 ∧ ts.getD k 0 < n
theorem tsOk_at {l : List Rel} {q : Qu} (h : goodQu l q = true) {k : Nat} (hk : k < q.atoms.length) : tsOk q.vc.toNat (q.atoms.getD k default).l := by
  have h2 := goodQu_at h hk
  have hp := goodQu_parts h
  unfold atomOk at h2
  simp only [Bool.and_eq_true] at h2
  intro j hj
  have := upTo_at h2.2.2 hj
  unfold termOk at this
  have := inB_of this
  omega
end Go.Proofs.YtedciihjgbkjgabGreat.A


/- VIOLATIONS OF CONSTRAINTS, EQUAL KEYS. Conditions: none. -/
namespace Go.Proofs.YtedciihjgbkjgabGreat.A
open Go
set_option linter.unusedSimpArgs false
set_option linter.unusedVariables false
set_option maxRecDepth 100000

end Go.Proofs.YtedciihjgbkjgabGreat.A


/- EQUAL KEYS, CONFLICT EDGES. Conditions: none. -/
namespace Go.Proofs.YtedciihjgbkjgabGreat.A
open Go
set_option linter.unusedSimpArgs false
set_option linter.unusedVariables false
set_option maxRecDepth 100000

end Go.Proofs.YtedciihjgbkjgabGreat.A


/- BLOCKS OF A VALID DATABASE. Conditions: none. -/
namespace Go.Proofs.YtedciihjgbkjgabGreat.A
open Go
set_option linter.unusedSimpArgs false
set_option linter.unusedVariables false

end Go.Proofs.YtedciihjgbkjgabGreat.A


/- FACTS ARE SELECTED. Conditions: none. -/
namespace Go.Proofs.YtedciihjgbkjgabGreat.A
open Go
set_option linter.unusedSimpArgs false
set_option linter.unusedVariables false
set_option maxRecDepth 100000

theorem idxs_at {l : List Int} {n : Int} (h : idxs l n = true) {k : Nat} (hk : k < l.length) : 0 ≤ l.getD k 0 ∧ l.getD k 0 < n := by
  have := upTo_at h hk
  unfold idxAt at this
  rw [Bool.and_eq_true] at this
  have := inB_of this.1
  omega
theorem idxs_lt {l : List Int} {n : Int} (h : idxs l n = true) : ∀ (k j : Nat), k < l.length → j < k → l.getD j 0 < l.getD k 0
  | 0, j, _, hj => by omega
  | k + 1, j, hk, hj => by
    have h1 := upTo_at h hk
    unfold idxAt at h1
    rw [Bool.and_eq_true, Nat.add_sub_cancel, decide_eq_false (by omega : ¬ k + 1 = 0), Bool.false_or, Bool.not_eq_true', decide_eq_false_iff_not] at h1
    have h2 := h1.2
    rcases Nat.lt_or_ge j k with hjk | hjk
    · have := idxs_lt h k j (by omega) hjk
      omega
    · obtain rfl : j = k := by omega
      omega
/-! #### a slice that lies in another one is moved -/
def cellQ (s id w i j s' off len : Nat) (rows : Rows) (c : Cell) (K : Cell → List (Nat × Option Obj') → Prop) : Prop := match c with
  | .sl s'' xs => s'' = s' ∧ off = 0 ∧ len = xs.length ∧ K (.sl s xs) [(id, some (w, Rows.setCell rows i j .gone))]
  | _ => False
theorem cellQ_sl {s id w i j s' s'' off len : Nat} {rows : Rows} {xs : List Value} {K : Cell → List (Nat × Option Obj') → Prop} : cellQ s id w i j s' off len rows (.sl s'' xs) K = (s'' = s' ∧ off = 0 ∧ len = xs.length ∧ K (.sl s xs) [(id, some (w, Rows.setCell rows i j .gone))]) := rfl
def cellI (s id i j s' off len : Nat) (o : Option Obj') (K : Cell → List (Nat × Option Obj') → Prop) : Prop := match o with
  | some (w, rows) => cellQ s id w i j s' off len rows ((rows.getD i []).getD j .gone) K
  | none => False
theorem cellI_some {s id w i j s' off len : Nat} {rows : Rows} {K : Cell → List (Nat × Option Obj') → Prop} : cellI s id i j s' off len (some (w, rows)) K = cellQ s id w i j s' off len rows ((rows.getD i []).getD j .gone) K := rfl
theorem cell_rin {st : St} {s id i j s' off len : Nat} {K : Cell → List (Nat × Option Obj') → Prop} : cellK st s (.rin id i j s' off len) K = cellI s id i j s' off len (st.objs id) K := by
  simp only [cellK, cellI, cellQ, Rows.cell]
  rcases st.objs id with _ | ⟨w, rows⟩
  · rfl
  · simp only
    rcases (List.getD rows i []).getD j .gone with _ | ⟨s'', xs⟩ | _ <;> rfl
attribute [go_sem] cell_rin cellI_some cellQ_sl
/-! #### rows of which some were moved away -/
def cRH (s : Nat) (x : RI × Bool) : List Cell := [.sc (.int .i64 x.1.r), if x.2 then .gone else .sl s (iv x.1.l)]
def rhs (s : Nat) (l : List (RI × Bool)) : Rows := l.map (cRH s)
theorem rhs_length (s : Nat) (l : List (RI × Bool)) : (rhs s l).length = l.length := by simp [rhs]
theorem rhs_stm (n s : Nat) (l : List (RI × Bool)) : stm n (rhs (s + 1) l) = rhs n l := stm_map n _ _ (fun x => by rcases x with ⟨x, b⟩; cases b <;> rfl) l
attribute [go_sem] rhs_length rhs_stm
end Go.Proofs.YtedciihjgbkjgabGreat.A


/- BLOCKS: the reference. Conditions: none. -/
namespace Go.Proofs.YtedciihjgbkjgabGreat.A
open Go
set_option linter.unusedSimpArgs false
set_option linter.unusedVariables false
set_option maxRecDepth 100000

end Go.Proofs.YtedciihjgbkjgabGreat.A


/- REPAIRS BY THEIR RANK; PARTIAL REPAIRS: the reference. Conditions: none. -/
namespace Go.Proofs.YtedciihjgbkjgabGreat.A
open Go
set_option linter.unusedSimpArgs false
set_option linter.unusedVariables false
set_option maxRecDepth 100000

theorem tmodN (a b : Nat) : (a : Int).tmod (b : Int) = ((a % b : Nat) : Int) := by rw [Int.tmod_eq_emod_of_nonneg (by omega)]; rfl
end Go.Proofs.YtedciihjgbkjgabGreat.A


/- QUERIES DRAWN. Conditions: none. -/
namespace Go.Proofs.YtedciihjgbkjgabGreat.A
open Go
set_option linter.unusedSimpArgs false
set_option linter.unusedVariables false
set_option maxRecDepth 100000

/-! #### terms and atoms -/
def tmD (c : Cur) (v : Nat) : Int := if onV c 12 then -1 - ((beV (byC c) 2 : Nat) : Int) else ((beV (byC c) v : Nat) : Int)
def tmsD (c : Cur) (v : Nat) : Nat → List Int × Cur
  | 0 => ([], c)
  | k + 1 => ((tmsD c v k).1 ++ [tmD (tmsD c v k).2 v], byC (byC (tmsD c v k).2))
theorem tmsD_len (c : Cur) (v : Nat) : ∀ k, (tmsD c v k).1.length = k
  | 0 => rfl
  | k + 1 => by rw [tmsD, List.length_append, tmsD_len c v k]; rfl
theorem tmsD_ok {c : Cur} (h : c.ok) (v : Nat) : ∀ k, (tmsD c v k).2.ok
  | 0 => h
  | k + 1 => byC_ok (byC_ok (tmsD_ok h v k))
def atsD (c : Cur) (v f : Nat) : Nat → List RI × Cur
  | 0 => ([], c)
  | i + 1 => ((atsD c v f i).1 ++ [⟨(((f + i) % 4 : Nat) : Int), (tmsD (atsD c v f i).2 v (2 + ((f + i) % 4) / 3)).1⟩], (tmsD (atsD c v f i).2 v (2 + ((f + i) % 4) / 3)).2)
theorem atsD_len (c : Cur) (v f : Nat) : ∀ k, (atsD c v f k).1.length = k
  | 0 => rfl
  | k + 1 => by rw [atsD, List.length_append, atsD_len c v f k]; rfl
theorem atsD_ok {c : Cur} (h : c.ok) (v f : Nat) : ∀ k, (atsD c v f k).2.ok
  | 0 => h
  | k + 1 => tmsD_ok (atsD_ok h v f k) v _
theorem atsD_mem {c : Cur} {v f : Nat} : ∀ {k : Nat}, ∀ x ∈ (atsD c v f k).1, 2 ≤ x.l.length ∧ x.l.length ≤ 3
  | 0, x, hx => by cases hx
  | k + 1, x, hx => by
    rw [atsD] at hx
    rcases List.mem_append.mp hx with h | h
    · exact atsD_mem x h
    · rw [List.mem_singleton.mp h]
      simp only [tmsD_len]; omega
/-! #### variables get new names -/
def posL (nm : List Int) (t : Int) : Nat → Int
  | 0 => -1
  | j + 1 => if nm.getD j 0 = t then (j : Int) else posL nm t j
abbrev Tg := List RI × List Int
def tgS (s : Tg) (i k : Nat) : Tg :=
  let a := s.1.getD i default
  let t := a.l.getD k 0
  if t < 0 then s else if posL s.2 t s.2.length < 0 then (s.1.set i ⟨a.r, a.l.set k s.2.length⟩, s.2 ++ [t]) else (s.1.set i ⟨a.r, a.l.set k (posL s.2 t s.2.length)⟩, s.2)
def tgR (s : Tg) (i : Nat) : Nat → Tg
  | 0 => s
  | k + 1 => tgS (tgR s i k) i k
def tgAll (X : List RI) : Nat → Tg
  | 0 => (X, [])
  | i + 1 => tgR (tgAll X i) i (X.getD i default).l.length
/-- Atoms and terms are as many as they were. -/
def likeX (X Y : List RI) : Prop := Y.length = X.length ∧ ∀ i : Nat, (Y.getD i default).l.length = (X.getD i default).l.length
theorem like_refl (X : List RI) : likeX X X := ⟨rfl, fun _ => rfl⟩
theorem like_set {X Y : List RI} (h : likeX X Y) (i k : Nat) (r : Int) (v : Int) : likeX X (Y.set i ⟨r, ((Y.getD i default).l.set k v)⟩) := by
  refine ⟨by rw [List.length_set]; exact h.1, fun j => ?_⟩
  rw [← h.2 j]
  by_cases e : i = j
  · subst e
    by_cases hi : i < Y.length
    · rw [getD_set_same hi]; simp
    · rw [List.getD_eq_getElem?_getD, List.getElem?_eq_none (by rw [List.length_set]; omega), List.getD_eq_getElem?_getD, List.getElem?_eq_none (by omega)]
  · rw [List.getD_eq_getElem?_getD, List.getElem?_set_ne e, ← List.getD_eq_getElem?_getD]
theorem tgS_ok {X : List RI} {s : Tg} {m i k : Nat} (h : likeX X s.1 ∧ s.2.length ≤ m) : likeX X (tgS s i k).1 ∧ (tgS s i k).2.length ≤ m + 1 := by
  unfold tgS
  simp only
  split
  · exact ⟨h.1, by omega⟩
  split
  · exact ⟨like_set h.1 i k _ _, by rw [List.length_append, List.length_singleton]; omega⟩
  · exact ⟨like_set h.1 i k _ _, by show s.2.length ≤ m + 1; omega⟩
theorem tgR_ok {X : List RI} {s : Tg} {m i : Nat} (h : likeX X s.1 ∧ s.2.length ≤ m) : ∀ k, likeX X (tgR s i k).1 ∧ (tgR s i k).2.length ≤ m + k
  | 0 => h
  | k + 1 => tgS_ok (tgR_ok h k)
theorem tgAll_ok {X : List RI} {M : Nat} (hM : ∀ i, (X.getD i default).l.length ≤ M) : ∀ i, likeX X (tgAll X i).1 ∧ (tgAll X i).2.length ≤ i * M
  | 0 => ⟨like_refl X, by simp [tgAll]⟩
  | i + 1 => by
    obtain ⟨h1, h2⟩ := tgR_ok (i := i) (tgAll_ok hM i) (X.getD i default).l.length
    have := hM i
    refine ⟨h1, ?_⟩
    rw [Nat.add_mul, Nat.one_mul]
    show (tgR (tgAll X i) i (X.getD i default).l.length).2.length ≤ _
    omega
def tightQ (q : Qu) : Qu := ⟨((tgAll q.atoms q.atoms.length).2.length : Int), (tgAll q.atoms q.atoms.length).1, q.free⟩
end Go.Proofs.YtedciihjgbkjgabGreat.A


/- QUERIES DRAWN: the walks. Conditions: none. -/
namespace Go.Proofs.YtedciihjgbkjgabGreat.A
open Go
set_option linter.unusedSimpArgs false
set_option linter.unusedVariables false
set_option maxRecDepth 100000

abbrev zQ2 : List SV := [.sc (.int .i64 0), .sc (.slice none 0 0), .sc (.slice none 0 0)]
theorem getD_le {X : List RI} {M : Nat} (h : ∀ x ∈ X, x.l.length ≤ M) (i : Nat) : (X.getD i default).l.length ≤ M := by
  rcases Nat.lt_or_ge i X.length with hi | hi
  · exact h _ (mem_getD default hi)
  · rw [List.getD_eq_getElem?_getD, List.getElem?_eq_none hi]; exact Nat.zero_le _
set_option maxHeartbeats 4000000 in
theorem l11Tight_sat (q : Qu) (h : q.ok) (hn : q.atoms.length ≤ 8) (hM : ∀ x ∈ q.atoms, x.l.length ≤ 8) : Sat Tryz.prog 108 [lQu q] [oQu (tightQ q)] [g3] := by
  refine sat_of_body mixed Tryz.func108 rfl (by kernel_rfl) (by kernel_rfl) (rs := [.cell 2 31]) rfl rfl rfl ?_
  have hM' := getD_le hM
  have ts := specCopy_sat q h
  have hT := tgAll_ok hM'
  unfold tightQ
  generalize hX : q.atoms = X at hn hM hM' hT ⊢
  simp -implicitDefEqProofs (maxSteps := 2000000) only [go_sem]
  refine call_of (ts) (by simp -implicitDefEqProofs (maxSteps := 2000000) only [go_sem, hX]) (callOk_still (by kernel_rfl) (by simp only [List.all_cons, List.all_nil, LV.still, LV.leaves, Leaf.still, ints_still, ris_still, eds_still, rels_still, iss_still, ems_still, Bool.and_self, Bool.and_true])) (by simp -implicitDefEqProofs (maxSteps := 2000000) only [go_sem, hX]) ?_
  simp -implicitDefEqProofs (maxSteps := 2000000) only [go_sem, hX]
  refine awp_loop Nat (fun i => mkSt [(2, .one (.vad 1064 0)), (3, .one (.vad 1256 0)), (4, .one (.ref 960 1 0 (tgAll X i).2.length)), (5, .sc (.int .i64 i))] [(1064, zQ2), (1256, [.sc (.int .i64 q.vc), .ref 961 2 0 X.length, .ref 962 1 0 q.free.length])] [(960, (1, ints (tgAll X i).2)), (961, (2, ris 999 (tgAll X i).1)), (962, (1, ints q.free))] 4000)
    (fun i => i ≤ X.length) (fun i => X.length - i) 0 (by omega) (le_st' _ _ [⟨960, some _, false, 1, _⟩, ⟨961, some _, false, 2, _⟩, ⟨962, some _, false, 1, _⟩] [] _ (by simp -implicitDefEqProofs (maxSteps := 2000000) only [go_sem, hX, tgAll, List.length_nil, ints_nil] <;> and_intros <;> rfl) (by simp -implicitDefEqProofs (maxSteps := 2000000) only [go_sem, hX, tgAll, List.length_nil, ints_nil] <;> and_intros <;> rfl) (by simp -implicitDefEqProofs (maxSteps := 2000000) only [go_sem, hX, tgAll, List.length_nil, ints_nil] <;> and_intros <;> rfl) (by rfl)) ?_
  rintro i h1
  obtain ⟨k1, k2⟩ := hT i
  have hi8 : i * 8 ≤ 64 := by omega
  have ltk : List.take X.length (tgAll X i).1 = (tgAll X i).1 := List.take_of_length_le (by rw [k1.1]; exact Nat.le_refl _)
  by_cases c1 : i < X.length
  · have wi : IntKind.i64.wrap ((i : Int) + 1) = ((i + 1 : Nat) : Int) := i64_succ (by omega)
    have hstep : tgAll X (i + 1) = tgR (tgAll X i) i (X.getD i default).l.length := rfl
    have hRk := fun k => tgR_ok (i := i) ⟨k1, k2⟩ k
    generalize tgAll X i = s0 at k1 k2 hstep hRk ltk ⊢
    have hml := hM' i
    have hml2 : (X.getD i default).l.length ≤ 8 := hml
    generalize hmm : (X.getD i default).l.length = m at hml hstep hml2
    simp -implicitDefEqProofs (maxSteps := 2000000) only [go_sem, c1, ltk, k1.1]
    refine awp_loop Nat (fun k => mkSt [(2, .one (.vad 1064 0)), (3, .one (.vad 1256 0)), (4, .one (.ref 960 1 0 (tgR s0 i k).2.length)), (5, .sc (.int .i64 i)), (6, .sc (.int .i64 k))] [(1064, zQ2), (1256, [.sc (.int .i64 q.vc), .ref 961 2 0 X.length, .ref 962 1 0 q.free.length])] [(960, (1, ints (tgR s0 i k).2)), (961, (2, ris 999 (tgR s0 i k).1)), (962, (1, ints q.free))] 8000)
      (fun k => k ≤ m) (fun k => m - k) 0 (by omega) (le_st' _ _ [⟨960, some _, false, 1, _⟩, ⟨961, some _, false, 2, _⟩, ⟨962, some _, false, 1, _⟩] [] _ (by simp -implicitDefEqProofs (maxSteps := 2000000) only [go_sem, tgR] <;> and_intros <;> rfl) (by simp -implicitDefEqProofs (maxSteps := 2000000) only [go_sem, tgR] <;> and_intros <;> rfl) (by simp -implicitDefEqProofs (maxSteps := 2000000) only [go_sem, tgR] <;> and_intros <;> rfl) (by rfl)) ?_
    rintro k h2
    obtain ⟨j1, j2⟩ := hRk k
    have hst2 : tgR s0 i (k + 1) = tgS (tgR s0 i k) i k := rfl
    have hdone : tgR s0 i m = tgAll X (i + 1) := hstep.symm
    generalize hs1 : tgR s0 i k = s1 at j1 j2 hst2 ⊢
    rcases s1 with ⟨Y, nm⟩
    simp only at j1 j2
    obtain ⟨y1, y2⟩ := j1
    have c2 : i < Y.length := by omega
    have hyl : (Y.getD i default).l.length = m := by rw [y2 i, hmm]
    have htm : List.take m (Y.getD i default).l = (Y.getD i default).l := List.take_of_length_le (by omega)
    by_cases c3 : k < m
    · have wk : IntKind.i64.wrap ((k : Int) + 1) = ((k + 1 : Nat) : Int) := i64_succ (by omega)
      have c4 : k < (Y.getD i default).l.length := by omega
      rcases d1 : decide ((Y.getD i default).l.getD k 0 < 0)
      · have d1' := of_decide_eq_false d1
        simp -implicitDefEqProofs (maxSteps := 2000000) only [go_sem, c1, c2, c3, c4, htm, hyl, d1]
        have hst3 : tgS (Y, nm) i k = if posL nm ((Y.getD i default).l.getD k 0) nm.length < 0 then (Y.set i ⟨(Y.getD i default).r, (Y.getD i default).l.set k nm.length⟩, nm ++ [(Y.getD i default).l.getD k 0]) else (Y.set i ⟨(Y.getD i default).r, (Y.getD i default).l.set k (posL nm ((Y.getD i default).l.getD k 0) nm.length)⟩, nm) := by
          unfold tgS; simp only; rw [if_neg d1']
        obtain ⟨T, hT2⟩ : ∃ T, (Y.getD i default).l.getD k 0 = T := ⟨_, rfl⟩
        rw [hT2] at hst3
        rw [hT2]
        refine awp_loop Nat (fun j => mkSt [(2, .one (.vad 1064 0)), (3, .one (.vad 1256 0)), (4, .one (.ref 960 1 0 nm.length)), (5, .sc (.int .i64 i)), (6, .sc (.int .i64 k)), (7, .sc (.int .i64 T)), (8, .sc (.int .i64 (posL nm T j))), (9, .sc (.int .i64 j))] [(1064, zQ2), (1256, [.sc (.int .i64 q.vc), .ref 961 2 0 X.length, .ref 962 1 0 q.free.length])] [(960, (1, ints nm)), (961, (2, ris 999 Y)), (962, (1, ints q.free))] 16000)
          (fun j => j ≤ nm.length) (fun j => nm.length - j) 0 (by omega) (le_st' _ _ [⟨960, some _, false, 1, _⟩, ⟨961, some _, false, 2, _⟩, ⟨962, some _, false, 1, _⟩] [] _ (by simp -implicitDefEqProofs (maxSteps := 2000000) only [go_sem, posL] <;> and_intros <;> rfl) (by simp -implicitDefEqProofs (maxSteps := 2000000) only [go_sem, posL] <;> and_intros <;> rfl) (by simp -implicitDefEqProofs (maxSteps := 2000000) only [go_sem, posL] <;> and_intros <;> rfl) (by rfl)) ?_
        rintro j h5
        by_cases c5 : j < nm.length
        · have wj : IntKind.i64.wrap ((j : Int) + 1) = ((j + 1 : Nat) : Int) := i64_succ (by omega)
          rcases d3 : (nm.getD j 0 == T)
          · have e3 : posL nm T (j + 1) = posL nm T j := by rw [posL, if_neg (by simpa using d3)]
            simp -implicitDefEqProofs (maxSteps := 2000000) only [go_sem, c5, d3, wj]
            exact ⟨j + 1, c5, by omega, (le_st' _ _ [⟨960, some _, false, 1, _⟩, ⟨961, some _, false, 2, _⟩, ⟨962, some _, false, 1, _⟩] [] _ (by simp -implicitDefEqProofs (maxSteps := 2000000) only [go_sem, e3] <;> and_intros <;> rfl) (by simp -implicitDefEqProofs (maxSteps := 2000000) only [go_sem, e3] <;> and_intros <;> rfl) (by simp -implicitDefEqProofs (maxSteps := 2000000) only [go_sem, e3] <;> and_intros <;> rfl) (by rfl))⟩
          · have e3 : posL nm T (j + 1) = (j : Int) := by rw [posL, if_pos (by simpa using d3)]
            simp -implicitDefEqProofs (maxSteps := 2000000) only [go_sem, c5, d3, wj]
            exact ⟨j + 1, c5, by omega, (le_st' _ _ [⟨960, some _, false, 1, _⟩, ⟨961, some _, false, 2, _⟩, ⟨962, some _, false, 1, _⟩] [] _ (by simp -implicitDefEqProofs (maxSteps := 2000000) only [go_sem, e3] <;> and_intros <;> rfl) (by simp -implicitDefEqProofs (maxSteps := 2000000) only [go_sem, e3] <;> and_intros <;> rfl) (by simp -implicitDefEqProofs (maxSteps := 2000000) only [go_sem, e3] <;> and_intros <;> rfl) (by rfl))⟩
        · obtain rfl : j = nm.length := by omega
          rcases d4 : decide (posL nm T nm.length < 0)
          · rw [if_neg (of_decide_eq_false d4)] at hst3
            simp -implicitDefEqProofs (maxSteps := 2000000) only [go_sem, c1, c2, c3, c4, c5, htm, hyl, d4]
            repeat (refine And.intro (by omega) ?_)
            rw [wk]
            exact ⟨k + 1, c3, by omega, (le_st' _ _ [⟨960, some _, false, 1, _⟩, ⟨961, some _, false, 2, _⟩, ⟨962, some _, false, 1, _⟩] [] _ (by simp -implicitDefEqProofs (maxSteps := 2000000) only [go_sem, hst2, hst3] <;> and_intros <;> rfl) (by simp -implicitDefEqProofs (maxSteps := 2000000) only [go_sem, hst2, hst3] <;> and_intros <;> rfl) (by simp -implicitDefEqProofs (maxSteps := 2000000) only [go_sem, hst2, hst3] <;> and_intros <;> rfl) (by rfl))⟩
          · rw [if_pos (of_decide_eq_true d4)] at hst3
            simp -implicitDefEqProofs (maxSteps := 2000000) only [go_sem, c1, c2, c3, c4, c5, htm, hyl, d4]
            repeat (refine And.intro (by omega) ?_)
            rw [wk]
            exact ⟨k + 1, c3, by omega, (le_st' _ _ [⟨960, some _, false, 1, _⟩, ⟨961, some _, false, 2, _⟩, ⟨962, some _, false, 1, _⟩] [] _ (by simp -implicitDefEqProofs (maxSteps := 2000000) only [go_sem, hst2, hst3, List.length_append, List.length_singleton] <;> and_intros <;> rfl) (by simp -implicitDefEqProofs (maxSteps := 2000000) only [go_sem, hst2, hst3, List.length_append, List.length_singleton] <;> and_intros <;> rfl) (by simp -implicitDefEqProofs (maxSteps := 2000000) only [go_sem, hst2, hst3, List.length_append, List.length_singleton] <;> and_intros <;> rfl) (by rfl))⟩
      · have d1' := of_decide_eq_true d1
        have hst3 : tgS (Y, nm) i k = (Y, nm) := by unfold tgS; simp only; rw [if_pos d1']
        simp -implicitDefEqProofs (maxSteps := 2000000) only [go_sem, c1, c2, c3, c4, htm, hyl, d1]
        rw [wk]
        exact ⟨k + 1, c3, by omega, (le_st' _ _ [⟨960, some _, false, 1, _⟩, ⟨961, some _, false, 2, _⟩, ⟨962, some _, false, 1, _⟩] [] _ (by simp -implicitDefEqProofs (maxSteps := 2000000) only [go_sem, hst2, hst3] <;> and_intros <;> rfl) (by simp -implicitDefEqProofs (maxSteps := 2000000) only [go_sem, hst2, hst3] <;> and_intros <;> rfl) (by simp -implicitDefEqProofs (maxSteps := 2000000) only [go_sem, hst2, hst3] <;> and_intros <;> rfl) (by rfl))⟩
    · obtain rfl : k = m := by omega
      have hst4 : tgAll X (i + 1) = (Y, nm) := by rw [← hdone, hs1]
      simp -implicitDefEqProofs (maxSteps := 2000000) only [go_sem, c1, c2, c3, htm, hyl]
      rw [wi]
      exact ⟨i + 1, c1, by omega, (le_st' _ _ [⟨960, some _, false, 1, _⟩, ⟨961, some _, false, 2, _⟩, ⟨962, some _, false, 1, _⟩] [] _ (by simp -implicitDefEqProofs (maxSteps := 2000000) only [go_sem, hst4] <;> and_intros <;> rfl) (by simp -implicitDefEqProofs (maxSteps := 2000000) only [go_sem, hst4] <;> and_intros <;> rfl) (by simp -implicitDefEqProofs (maxSteps := 2000000) only [go_sem, hst4] <;> and_intros <;> rfl) (by rfl))⟩
  · obtain rfl : i = X.length := by omega
    simp -implicitDefEqProofs (maxSteps := 2000000) only [go_sem, c1, ltk, k1.1]
    and_intros <;> rfl
end Go.Proofs.YtedciihjgbkjgabGreat.A


/- THE LIBRARY'S IndexByte AND Itoa, of this program. Conditions: none. -/
namespace Go.Proofs.YtedciihjgbkjgabGreat.A
open Go Go.Shelf
set_option linter.unusedVariables false
set_option maxRecDepth 100000
end Go.Proofs.YtedciihjgbkjgabGreat.A


/- A CONSTANT's TERM, as the program has it. Conditions: none. -/
namespace Go.Proofs.YtedciihjgbkjgabGreat.A
open Go
set_option linter.unusedSimpArgs false
set_option linter.unusedVariables false
set_option maxRecDepth 100000
end Go.Proofs.YtedciihjgbkjgabGreat.A


/- TERMS AND THEIR TEXTS. Conditions: none. -/
namespace Go.Proofs.YtedciihjgbkjgabGreat.A
open Go
set_option linter.unusedSimpArgs false
set_option linter.unusedVariables false
set_option maxRecDepth 100000

/-- A term's letter: a digit of a constant, the name of a variable. -/
def letT (t : Int) : UInt8 := if t < 0 then (47 - t).toNat.toUInt8 else if t = 0 then 120 else if t = 1 then 121 else if t = 2 then 122 else 119
def isT (t : Int) : Bool := inB t (-10) 3
def fmtT (t : Int) : ByteArray := if isT t then ⟨#[letT t]⟩ else ⟨#[]⟩
def digT (v : Int) : ByteArray := ⟨#[(48 + v).toNat.toUInt8]⟩
theorem byt_eq {a b : ByteArray} (h : a.data.toList = b.data.toList) : a = b := Go.WideShapes.bytes_inj h
theorem byt_app (a b : ByteArray) : (a ++ b).data.toList = a.data.toList ++ b.data.toList := by
  rw [ByteArray.data_append, Array.toList_append]
theorem byt_nil (a : ByteArray) : a ++ (⟨#[]⟩ : ByteArray) = a := byt_eq (by rw [byt_app]; simp)
theorem byteD {v : Nat} (h : v ≤ 9) : IntKind.u8.wrap (IntKind.i64.wrap (48 + (v : Int))) = (((48 + (v : Int)).toNat.toUInt8).toNat : Int) := by
  have key : ∀ v : Fin 10, IntKind.u8.wrap (IntKind.i64.wrap (48 + ((v.val : Nat) : Int))) = (((48 + ((v.val : Nat) : Int)).toNat.toUInt8).toNat : Int) := by decide
  exact key ⟨v, by omega⟩
theorem specFormatInt_sat (v : Nat) (h : v ≤ 9) : Sat Tryz.prog 135 [lInt v] [lStr (digT v)] [g1] := by
  refine sat_of_body mixed Tryz.func135 rfl (by kernel_rfl) (by kernel_rfl) (rs := [.tmp 2]) rfl rfl rfl ?_
  by_cases c0 : v = 0
  · subst c0
    simp -implicitDefEqProofs (maxSteps := 2000000) only [go_sem]
    first | done | rfl | exact ⟨rfl, rfl⟩ | exact ⟨rfl, rfl, rfl⟩ | (refine tr_and ?_ ?_ <;> first | rfl | exact ⟨rfl, rfl⟩ | kernel_rfl)
  have d0 : (((v : Nat) : Int) == 0) = false := by rw [beq_eq_false_iff_ne]; omega
  have d2 : (((v : Nat) : Int) != 0) = true := by rw [bne, d0]; rfl
  have d1 : decide (((v : Nat) : Int) < 0) = false := by rw [decide_eq_false_iff_not]; omega
  simp -implicitDefEqProofs (maxSteps := 2000000) only [go_sem, d0, d1]
  refine awp_loop Nat (fun k => mkSt [(0, .sc (.int .i64 (if k = 0 then (v : Int) else 0))), (3, .sc (.string (if k = 0 then ⟨#[]⟩ else digT v))), (4, .sc (.bool false))] [] [] 3000)
    (fun k => k ≤ 1) (fun k => 1 - k) 0 (by omega) (le_st _ _ [] [] _ rfl (by simp -implicitDefEqProofs (maxSteps := 2000000) only [go_sem, d0, d1] <;> rfl) (by simp -implicitDefEqProofs (maxSteps := 2000000) only [go_sem, d0, d1] <;> rfl) (by simp -implicitDefEqProofs (maxSteps := 2000000) only [go_sem, d0, d1] <;> rfl)) ?_
  rintro k h1
  rcases k with _ | _ | k
  · have e1 : Int.tmod ((v : Nat) : Int) 10 = v := by rw [Int.tmod_eq_emod_of_nonneg (by omega)]; omega
    have e2 : Int.tdiv ((v : Nat) : Int) 10 = 0 := by rw [Int.tdiv_eq_ediv_of_nonneg (by omega)]; omega
    simp -implicitDefEqProofs (maxSteps := 2000000) only [go_sem, d0, d1, d2, e1, e2]
    refine ⟨by decide, [(48 + (v : Int)).toNat.toUInt8], by rw [byteD h]; rfl, by simp, by decide, 1, by omega, by omega, ?_⟩
    exact (le_st _ _ [] [] _ rfl (by simp -implicitDefEqProofs (maxSteps := 2000000) only [go_sem, byt_nil, digT] <;> rfl) (by simp -implicitDefEqProofs (maxSteps := 2000000) only [go_sem, byt_nil, digT] <;> rfl) (by simp -implicitDefEqProofs (maxSteps := 2000000) only [go_sem, byt_nil, digT] <;> rfl))
  · simp -implicitDefEqProofs (maxSteps := 2000000) only [go_sem]
    first | done | rfl | exact ⟨rfl, rfl⟩ | exact ⟨rfl, rfl, rfl⟩ | (refine tr_and ?_ ?_ <;> first | rfl | exact ⟨rfl, rfl⟩ | kernel_rfl)
  · omega
def tvOk (t : Int) : Bool := inB t (-10) (-1)
theorem specTermValue_sat (t : Int) (ht : -9223372036854775808 ≤ t ∧ t ≤ 9223372036854775807) : Sat Tryz.prog 134 [lInt t] [lInt (if tvOk t then -1 - t else 0), lBool (tvOk t)] [g1] := by
  refine sat_of_body mixed Tryz.func134 rfl (by kernel_rfl) (by kernel_rfl) (rs := [.tmp 2, .tmp 3]) rfl rfl rfl ?_
  rcases d1 : decide (t ≥ 0)
  · have d1' := of_decide_eq_false d1
    have w1 : IntKind.i64.wrap (-1 - t) = -1 - t := IntWalk.i64_in _ (by omega)
    have e : inB (-1 - t) 0 9 = tvOk t := by
      unfold inB tvOk inB
      rw [Bool.eq_iff_iff]; simp; omega
    rcases d2 : tvOk t
    · rw [d2] at e
      simp -implicitDefEqProofs (maxSteps := 2000000) only [go_sem, d1, w1]
      refine call_of (inB_sat (-1 - t) 0 9) (by simp -implicitDefEqProofs (maxSteps := 2000000) only [go_sem, d1, w1, e]) (by kernel_rfl) (by simp -implicitDefEqProofs (maxSteps := 2000000) only [go_sem, d1, w1, e]) ?_
      simp -implicitDefEqProofs (maxSteps := 2000000) only [go_sem, d1, w1, e]
      first | done | rfl | exact ⟨rfl, rfl⟩ | exact ⟨rfl, rfl, rfl⟩ | (refine tr_and ?_ ?_ <;> first | rfl | exact ⟨rfl, rfl⟩ | kernel_rfl)
    · rw [d2] at e
      simp -implicitDefEqProofs (maxSteps := 2000000) only [go_sem, d1, w1]
      refine call_of (inB_sat (-1 - t) 0 9) (by simp -implicitDefEqProofs (maxSteps := 2000000) only [go_sem, d1, w1, e]) (by kernel_rfl) (by simp -implicitDefEqProofs (maxSteps := 2000000) only [go_sem, d1, w1, e]) ?_
      simp -implicitDefEqProofs (maxSteps := 2000000) only [go_sem, d1, w1, e]
      first | done | rfl | exact ⟨rfl, rfl⟩ | exact ⟨rfl, rfl, rfl⟩ | (refine tr_and ?_ ?_ <;> first | rfl | exact ⟨rfl, rfl⟩ | kernel_rfl)
  · have d1' := of_decide_eq_true d1
    have d2 : tvOk t = false := by unfold tvOk inB; simp; omega
    rw [d2]
    simp -implicitDefEqProofs (maxSteps := 2000000) only [go_sem, d1]
    first | done | rfl | exact ⟨rfl, rfl⟩ | exact ⟨rfl, rfl, rfl⟩ | (refine tr_and ?_ ?_ <;> first | rfl | exact ⟨rfl, rfl⟩ | kernel_rfl)
theorem letters : ∀ n : Fin 4, fmtT (n.val : Int) = (⟨#[120, 121, 122, 119]⟩ : ByteArray).extract n.val (n.val + 1) := by decide +kernel
theorem specFormatTerm_sat (t : Int) (ht : -9223372036854775808 ≤ t ∧ t ≤ 9223372036854775807) : Sat Tryz.prog 131 [lInt t] [lStr (fmtT t)] [g1] := by
  refine sat_of_body mixed Tryz.func131 rfl (by kernel_rfl) (by kernel_rfl) (rs := [.tmp 2]) rfl rfl rfl ?_
  rcases d1 : tvOk t
  · simp -implicitDefEqProofs (maxSteps := 2000000) only [go_sem]
    refine call_of (specTermValue_sat t ht) (by simp -implicitDefEqProofs (maxSteps := 2000000) only [go_sem, d1]) (by kernel_rfl) (by simp -implicitDefEqProofs (maxSteps := 2000000) only [go_sem, d1]) ?_
    simp -implicitDefEqProofs (maxSteps := 2000000) only [go_sem, d1]
    rcases d2 : inB t 0 3
    · have e : fmtT t = ⟨#[]⟩ := by
        have : isT t = false := by
          unfold isT inB; unfold tvOk inB at d1; unfold inB at d2
          rw [Bool.and_eq_false_iff] at d1 d2 ⊢
          simp only [decide_eq_false_iff_not] at d1 d2 ⊢
          omega
        rw [fmtT, this]; rfl
      rw [e]
      refine call_of (inB_sat t 0 3) (by simp -implicitDefEqProofs (maxSteps := 2000000) only [go_sem, d2]) (by kernel_rfl) (by simp -implicitDefEqProofs (maxSteps := 2000000) only [go_sem, d2]) ?_
      simp -implicitDefEqProofs (maxSteps := 2000000) only [go_sem, d2]
      first | done | rfl | exact ⟨rfl, rfl⟩ | exact ⟨rfl, rfl, rfl⟩ | (refine tr_and ?_ ?_ <;> first | rfl | exact ⟨rfl, rfl⟩ | kernel_rfl)
    · obtain ⟨n, rfl⟩ : ∃ n : Nat, t = n := ⟨t.toNat, by have := inB_of d2; omega⟩
      have hn : n < 4 := by have := inB_of d2; omega
      have w1 : IntKind.i64.wrap ((n : Int) + 1) = ((n + 1 : Nat) : Int) := i64_succ (by omega)
      refine call_of (inB_sat n 0 3) (by simp -implicitDefEqProofs (maxSteps := 2000000) only [go_sem, d2, w1]) (by kernel_rfl) (by simp -implicitDefEqProofs (maxSteps := 2000000) only [go_sem, d2, w1]) ?_
      simp -implicitDefEqProofs (maxSteps := 2000000) only [go_sem, d2, w1]
      refine ⟨by omega, by omega, ?_⟩
      rw [letters ⟨n, hn⟩]
  · obtain ⟨v, hv⟩ : ∃ v : Nat, -1 - t = v := ⟨(-1 - t).toNat, by have := inB_of d1; omega⟩
    have hv9 : v ≤ 9 := by have := inB_of d1; omega
    have e : fmtT t = digT v := by
      have h1 := inB_of d1
      have : isT t = true := by unfold isT inB; simp; omega
      rw [fmtT, this, if_pos rfl, letT, if_pos (by omega), digT, show 48 + (v : Int) = 47 - t by omega]
    rw [e]
    simp -implicitDefEqProofs (maxSteps := 2000000) only [go_sem]
    refine call_of (specTermValue_sat t ht) (by simp -implicitDefEqProofs (maxSteps := 2000000) only [go_sem, d1, hv]) (by kernel_rfl) (by simp -implicitDefEqProofs (maxSteps := 2000000) only [go_sem, d1, hv]) ?_
    simp -implicitDefEqProofs (maxSteps := 2000000) only [go_sem, d1, hv]
    refine call_of (specFormatInt_sat v hv9) (by simp -implicitDefEqProofs (maxSteps := 2000000) only [go_sem]) (by kernel_rfl) (by simp -implicitDefEqProofs (maxSteps := 2000000) only [go_sem]) ?_
    simp -implicitDefEqProofs (maxSteps := 2000000) only [go_sem]
    first | done | rfl | exact ⟨rfl, rfl⟩ | exact ⟨rfl, rfl, rfl⟩ | (refine tr_and ?_ ?_ <;> first | rfl | exact ⟨rfl, rfl⟩ | kernel_rfl)
/-! #### a term read -/
def p1 (n : Nat) : Int × Bool := if n = 120 then (0, true) else if n = 121 then (1, true) else if n = 122 then (2, true) else if n = 119 then (3, true) else if 48 ≤ n ∧ n ≤ 57 then (47 - (n : Int), true) else (0, false)
def chr0 (s : ByteArray) : UInt8 := s.data.toList.getD 0 0
def pT (s : ByteArray) : Int × Bool := if s.size = 1 then p1 (chr0 s).toNat else (0, false)
theorem pT_of : ∀ k : Fin 14, pT (fmtT ((k.val : Int) - 10)) = ((k.val : Int) - 10, true) := by decide +kernel
theorem fmt_digit : ∀ j : Fin 10, fmtT ((j.val : Int) - 10) = ⟨#[(57 - j.val).toUInt8]⟩ := by decide +kernel
theorem fmt_letter : ∀ j : Fin 4, fmtT (((j.val + 10 : Nat) : Int) - 10) = ⟨#[#[120, 121, 122, 119].getD j.val 0]⟩ := by decide +kernel
theorem byt_one {s : ByteArray} (h : s.size = 1) : s = ⟨#[chr0 s]⟩ := by
  apply byt_eq
  have hl : s.data.toList.length = 1 := by rw [Array.length_toList]; exact h
  unfold chr0
  rcases e : s.data.toList with _ | ⟨c, _ | ⟨_, _⟩⟩
  · rw [e] at hl; simp at hl
  · rfl
  · rw [e] at hl; simp at hl
theorem pT_none {s : ByteArray} (h : ∀ k : Nat, k < 14 → fmtT ((k : Int) - 10) ≠ s) : pT s = (0, false) := by
  unfold pT
  split
  · rename_i h1
    have hs := byt_one h1
    generalize chr0 s = c at hs ⊢
    have hc : ∀ n : Nat, n < 256 → c.toNat = n → c = n.toUInt8 := by
      intro n hn e
      apply UInt8.toNat_inj.mp
      rw [e]; simp; omega
    have nl : ∀ j : Fin 4, c ≠ #[120, 121, 122, 119].getD j.val 0 := fun j e => h (j.val + 10) (by omega) (by rw [fmt_letter j, hs, e])
    have nd : ∀ j : Fin 10, c ≠ (57 - j.val).toUInt8 := fun j e => h j.val (by omega) (by rw [fmt_digit j, hs, e])
    unfold p1
    rw [if_neg (fun e => nl 0 (hc 120 (by omega) e)), if_neg (fun e => nl 1 (hc 121 (by omega) e)), if_neg (fun e => nl 2 (hc 122 (by omega) e)), if_neg (fun e => nl 3 (hc 119 (by omega) e)), if_neg ?_]
    intro ⟨a1, a2⟩
    exact nd ⟨57 - c.toNat, by omega⟩ (hc _ (by simp only; omega) (by simp only; omega))
  · rfl
theorem specParseTerm_sat (s : ByteArray) : Sat Tryz.prog 125 [lStr s] [lInt (pT s).1, lBool (pT s).2] [g1] := by
  refine sat_of_body mixed Tryz.func125 rfl (by kernel_rfl) (by kernel_rfl) (rs := [.tmp 2, .tmp 3]) rfl rfl rfl ?_
  simp -implicitDefEqProofs (maxSteps := 2000000) only [go_sem]
  refine awp_loop Nat (fun k => mkSt [(0, .sc (.string s)), (4, .sc (.int .i64 ((k : Int) - 10)))] [] [] 2000)
    (fun k => k ≤ 14 ∧ ∀ j, j < k → fmtT ((j : Int) - 10) ≠ s) (fun k => 14 - k) 0 ⟨by omega, fun j hj => by omega⟩ (le_st _ _ [] [] _ rfl (by simp -implicitDefEqProofs (maxSteps := 2000000) only [go_sem] <;> rfl) trivial trivial) ?_
  rintro k ⟨h1, h2⟩
  by_cases c1 : k < 14
  · have wk : IntKind.i64.wrap ((k : Int) - 10 + 1) = ((k + 1 : Nat) : Int) - 10 := by rw [IntWalk.i64_in _ (by omega)]; omega
    have d1 : decide ((k : Int) - 10 < 4) = true := decide_eq_true (by omega)
    rcases d2 : decide (fmtT ((k : Int) - 10) = s)
    · simp -implicitDefEqProofs (maxSteps := 2000000) only [go_sem, d1]
      refine call_of (specFormatTerm_sat ((k : Int) - 10) (by omega)) (by simp -implicitDefEqProofs (maxSteps := 2000000) only [go_sem, d2, str_beq]) (by kernel_rfl) (by simp -implicitDefEqProofs (maxSteps := 2000000) only [go_sem, d2, str_beq]) ?_
      simp -implicitDefEqProofs (maxSteps := 2000000) only [go_sem, d2, str_beq]
      rw [wk]
      refine ⟨k + 1, ⟨c1, fun j hj => ?_⟩, by omega, (le_st _ _ [] [] _ rfl (by simp -implicitDefEqProofs (maxSteps := 2000000) only [go_sem] <;> rfl) trivial trivial)⟩
      rcases Nat.lt_or_ge j k with h | h
      · exact h2 j h
      · obtain rfl : j = k := by omega
        exact of_decide_eq_false d2
    · have e : pT s = ((k : Int) - 10, true) := by rw [← of_decide_eq_true d2]; exact pT_of ⟨k, c1⟩
      rw [e]
      simp -implicitDefEqProofs (maxSteps := 2000000) only [go_sem, d1]
      refine call_of (specFormatTerm_sat ((k : Int) - 10) (by omega)) (by simp -implicitDefEqProofs (maxSteps := 2000000) only [go_sem, d2, str_beq]) (by kernel_rfl) (by simp -implicitDefEqProofs (maxSteps := 2000000) only [go_sem, d2, str_beq]) ?_
      simp -implicitDefEqProofs (maxSteps := 2000000) only [go_sem, d2, str_beq]
      first | done | rfl | exact ⟨rfl, rfl⟩ | exact ⟨rfl, rfl, rfl⟩ | (refine tr_and ?_ ?_ <;> first | rfl | exact ⟨rfl, rfl⟩ | kernel_rfl)
  · obtain rfl : k = 14 := by omega
    rw [pT_none h2]
    have d1 : decide (((14 : Nat) : Int) - 10 < 4) = false := by decide
    simp -implicitDefEqProofs (maxSteps := 2000000) only [go_sem, d1]
    first | done | rfl | exact ⟨rfl, rfl⟩ | exact ⟨rfl, rfl, rfl⟩ | (refine tr_and ?_ ?_ <;> first | rfl | exact ⟨rfl, rfl⟩ | kernel_rfl)
end Go.Proofs.YtedciihjgbkjgabGreat.A


/- THE LIBRARY'S JOIN OF STRINGS, of this program. Conditions: none. -/
namespace Go.Proofs.YtedciihjgbkjgabGreat.A
open Go Go.Shelf
set_option linter.unusedVariables false
set_option maxRecDepth 100000
def tvs (a : List ByteArray) : List Value := a.map Value.string
def sts (a : List ByteArray) : Rows := lift (tvs a)
theorem tvs_length (a : List ByteArray) : (tvs a).length = a.length := by simp [tvs]
theorem sts_length (a : List ByteArray) : (sts a).length = a.length := by simp [sts, lift, tvs]
theorem sts_eq (a : List ByteArray) : sts a = a.map fun n => [Cell.sc (.string n)] := by simp [sts, lift, tvs]
theorem sts_get {a : List ByteArray} {i : Nat} (h : i < a.length) : (sts a).getD i [] = [Cell.sc (.string (a.getD i default))] := by
  simp [sts_eq, List.getD_eq_getElem?_getD, h]
theorem sts_frz (a : List ByteArray) : frz (sts a) = sts a := frz_lift _
theorem sts_rst (a : List ByteArray) : rst (sts a) = sts a := rst_lift _
theorem sts_stm (n : Nat) (a : List ByteArray) : stm n (sts a) = sts a := stm_lift n _
theorem sts_flat (a : List ByteArray) : flatB (sts a) = true := lift_flatB _
theorem sts_unlift (a : List ByteArray) : lift (unlift (sts a)) = sts a := by unfold sts; rw [unlift_lift]
theorem sts_take (a : List ByteArray) (k : Nat) : (sts a).take k = sts (a.take k) := by simp [sts_eq]
theorem sts_drop (a : List ByteArray) (k : Nat) : (sts a).drop k = sts (a.drop k) := by simp [sts_eq]
theorem sts_append (a b : List ByteArray) : sts a ++ sts b = sts (a ++ b) := by simp [sts_eq]
theorem sts_one (n : ByteArray) : [[Cell.sc (.string n)]] = sts [n] := by simp [sts_eq]
theorem lift_tvs (a : List ByteArray) : lift (tvs a) = sts a := rfl
attribute [go_sem] lift_tvs tvs_length sts_length sts_get sts_frz sts_rst sts_stm sts_flat sts_unlift sts_take sts_drop sts_append sts_one
end Go.Proofs.YtedciihjgbkjgabGreat.A


/- TEXTS JOINED. Conditions: none. -/
namespace Go.Proofs.YtedciihjgbkjgabGreat.A
open Go
set_option linter.unusedSimpArgs false
set_option linter.unusedVariables false
set_option maxRecDepth 100000

/-! #### texts joined -/
abbrev noB : ByteArray := ⟨#[]⟩
theorem bytes_eq {a b : ByteArray} (h : a.data.toList = b.data.toList) : a = b := Go.WideShapes.bytes_inj h
theorem app_data (a b : ByteArray) : (a ++ b).data.toList = a.data.toList ++ b.data.toList := by
  rw [ByteArray.data_append, Array.toList_append]
theorem size_data (a : ByteArray) : a.size = a.data.toList.length := (Array.length_toList ..).symm
theorem app_size (a b : ByteArray) : (a ++ b).size = a.size + b.size := by rw [size_data, size_data, size_data, app_data, List.length_append]
theorem joinB_data (xs : List ByteArray) (sep : ByteArray) : (joinB xs sep).data.toList = Lib.join (xs.map (·.data.toList)) sep.data.toList := by simp [joinB]
theorem joinB_nil (sep : ByteArray) : joinB [] sep = noB := bytes_eq (by rw [joinB_data]; rfl)
theorem joinB_one (x sep : ByteArray) : joinB [x] sep = x := bytes_eq (by rw [joinB_data, List.map_cons, List.map_nil, Lib.join_one])
theorem joinB_snoc {xs : List ByteArray} (h : xs ≠ []) (y sep : ByteArray) : joinB (xs ++ [y]) sep = joinB xs sep ++ sep ++ y := by
  obtain ⟨x, r, rfl⟩ := List.exists_cons_of_ne_nil h
  apply bytes_eq
  rw [app_data, app_data, joinB_data, joinB_data, List.cons_append, List.map_cons, List.map_cons, Lib.join_cons, Lib.join_cons]
  simp [Lib.joinTail, List.append_assoc]
theorem joinB_size (sep : ByteArray) (m : Nat) : ∀ (xs : List ByteArray), (∀ x ∈ xs, x.size ≤ m) → (joinB xs sep).size ≤ xs.length * (m + sep.size) := by
  intro xs h
  rcases xs with _ | ⟨x, r⟩
  · rw [joinB_nil]; exact Nat.zero_le _
  have hr : ∀ r : List ByteArray, (∀ x ∈ r, x.size ≤ m) → (Lib.joinTail sep.data.toList (r.map (·.data.toList))).length ≤ r.length * (m + sep.size) := by
    intro r
    induction r with
    | nil => intro _; simp [Lib.joinTail]
    | cons y r ih =>
      intro h
      have h1 := ih fun x hx => h x (List.mem_cons_of_mem _ hx)
      have h2 := h y (List.mem_cons_self ..)
      have e : Lib.joinTail sep.data.toList ((y :: r).map (·.data.toList)) = sep.data.toList ++ y.data.toList ++ Lib.joinTail sep.data.toList (r.map (·.data.toList)) := by simp [Lib.joinTail]
      rw [e, List.length_append, List.length_append, ← size_data, ← size_data, List.length_cons, Nat.add_mul, Nat.one_mul]
      omega
  have h1 := hr r fun x hx => h x (List.mem_cons_of_mem _ hx)
  have h2 := h x (List.mem_cons_self ..)
  rw [size_data, joinB_data, List.map_cons, Lib.join_cons, List.length_append, ← size_data, List.length_cons, Nat.add_mul, Nat.one_mul]
  omega
theorem app_noB (a : ByteArray) : a ++ noB = a := bytes_eq (by rw [app_data]; simp)
theorem noB_app (a : ByteArray) : noB ++ a = a := bytes_eq (by rw [app_data]; rfl)
theorem app_ass (a b c : ByteArray) : a ++ b ++ c = a ++ (b ++ c) := bytes_eq (by simp [app_data])
/-- Texts side by side. -/
def catB (xs : List ByteArray) : ByteArray := joinB xs noB
theorem catB_nil : catB [] = noB := joinB_nil _
theorem catB_snoc (xs : List ByteArray) (y : ByteArray) : catB (xs ++ [y]) = catB xs ++ y := by
  unfold catB
  by_cases h : xs = []
  · subst h; rw [List.nil_append, joinB_one, joinB_nil, noB_app]
  · rw [joinB_snoc h, app_noB]
theorem catB_size {xs : List ByteArray} {m : Nat} (h : ∀ x ∈ xs, x.size ≤ m) : (catB xs).size ≤ xs.length * m := by
  have := joinB_size noB m xs h
  rw [show (noB : ByteArray).size = 0 from rfl, Nat.add_zero] at this
  exact this
end Go.Proofs.YtedciihjgbkjgabGreat.A


/- A TERM's TEXT, the program's. Conditions: none. -/
namespace Go.Proofs.YtedciihjgbkjgabGreat.A
open Go
set_option linter.unusedSimpArgs false
set_option linter.unusedVariables false
set_option maxRecDepth 100000

end Go.Proofs.YtedciihjgbkjgabGreat.A


/- THE TEXT OF A QUERY. Conditions: none. -/
namespace Go.Proofs.YtedciihjgbkjgabGreat.A
open Go
set_option linter.unusedSimpArgs false
set_option linter.unusedVariables false
set_option maxRecDepth 100000

theorem getD_inQ {l : List Int} {y : Int} (h : y ∈ l) : ∃ j, j < l.length ∧ l.getD j 0 = y := by
  obtain ⟨j, hj, e⟩ := List.mem_iff_getElem.mp h
  exact ⟨j, hj, by simp [List.getD_eq_getElem?_getD, hj, e]⟩
abbrev barB : ByteArray := ⟨#[124]⟩
abbrev askB : ByteArray := ⟨#[63]⟩
abbrev blB : ByteArray := ⟨#[32]⟩
def fmtTs (ts : List Int) : List ByteArray := ts.map fmtT
def catT (ts : List Int) : ByteArray := catB (fmtTs ts)
theorem catT_nil : catT [] = noB := catB_nil
theorem fmtT_size (t : Int) : (fmtT t).size ≤ 1 := by
  unfold fmtT
  split
  · exact Nat.le_refl 1
  · exact Nat.zero_le 1
theorem fmtTs_size (ts : List Int) : ∀ x ∈ fmtTs ts, x.size ≤ 1 := by
  intro x hx
  obtain ⟨t, _, rfl⟩ := List.mem_map.mp hx
  exact fmtT_size t
theorem fmtTs_len (ts : List Int) : (fmtTs ts).length = ts.length := List.length_map _
theorem catT_size (ts : List Int) : (catT ts).size ≤ ts.length := by
  have := catB_size (fmtTs_size ts)
  rw [fmtTs_len, Nat.mul_one] at this
  exact this
theorem catT_step {ts : List Int} {k : Nat} (h : k < ts.length) : catT (ts.take (k + 1)) = catT (ts.take k) ++ fmtT (ts.getD k 0) := by
  unfold catT fmtTs
  rw [take_snoc 0 h, List.map_append, List.map_cons, List.map_nil, catB_snoc]
/-- Terms with a bar ahead of one. -/
def barT (ts : List Int) (n : Nat) : ByteArray := if n < ts.length then catT (ts.take n) ++ (barB ++ catT (ts.drop n)) else catT (ts.take n)
def barK (ts : List Int) (n : Nat) : Nat → ByteArray
  | 0 => noB
  | k + 1 => (if k = n then barK ts n k ++ barB else barK ts n k) ++ fmtT (ts.getD k 0)
theorem barK_lo {ts : List Int} {n : Nat} : ∀ {k : Nat}, k ≤ n → k ≤ ts.length → barK ts n k = catT (ts.take k)
  | 0, _, _ => by rw [barK, List.take_zero]; exact catB_nil.symm
  | k + 1, h, hl => by rw [barK, if_neg (by omega), barK_lo (by omega) (by omega), catT_step (by omega)]
theorem barK_hi {ts : List Int} {n : Nat} : ∀ {k : Nat}, n < k → k ≤ ts.length → barK ts n k = catT (ts.take n) ++ (barB ++ catT ((ts.drop n).take (k - n)))
  | 0, h, _ => by omega
  | k + 1, h, hl => by
    by_cases e : k = n
    · subst e
      rw [barK, if_pos rfl, barK_lo (Nat.le_refl _) (by omega), show k + 1 - k = 0 + 1 by omega, catT_step (by rw [List.length_drop]; omega), List.take_zero, app_ass,
        show catT ([] : List Int) = noB from catB_nil, noB_app]
      simp [List.getD_eq_getElem?_getD]
    · rw [barK, if_neg e, barK_hi (by omega) (by omega), show k + 1 - n = (k - n) + 1 by omega, catT_step (by rw [List.length_drop]; omega), app_ass, app_ass,
        show (ts.drop n).getD (k - n) 0 = ts.getD k 0 by simp [List.getD_eq_getElem?_getD, show n + (k - n) = k by omega]]
theorem barK_end {ts : List Int} {n : Nat} (h : n ≤ ts.length) : barK ts n ts.length = barT ts n := by
  unfold barT
  split
  · rw [barK_hi (by omega) (Nat.le_refl _), List.take_of_length_le (l := ts.drop n) (by rw [List.length_drop]; exact Nat.le_refl _)]
  · obtain rfl : n = ts.length := by omega
    rw [barK_lo (Nat.le_refl _) (Nat.le_refl _)]
theorem barK_size (ts : List Int) (n : Nat) : ∀ k, (barK ts n k).size ≤ 2 * k
  | 0 => Nat.le_refl 0
  | k + 1 => by
    have h1 := barK_size ts n k
    have h2 := fmtT_size (ts.getD k 0)
    rw [barK, app_size]
    split
    · rw [app_size]
      have : barB.size = 1 := rfl
      omega
    · omega
def atomText (l : List Rel) (a : RI) : ByteArray := (l.getD a.r.toNat default).name ++ barT a.l (l.getD a.r.toNat default).kl.toNat
def atTs (l : List Rel) (rs : List RI) : List ByteArray := rs.map (atomText l)
def qTexts (l : List Rel) (q : Qu) : List ByteArray := atTs l q.atoms
def quText (l : List Rel) (q : Qu) : ByteArray := if goodQu l q then catT q.free ++ askB ++ joinB (qTexts l q) blB else noB
/-- What holds of an atom of a valid query. -/
structure GoodAt (l : List Rel) (a : RI) (n k : Nat) : Prop where
  r : a.r = n
  kl : (l.getD n default).kl = k
  hn : n < l.length
  hk : k ≤ a.l.length
  hl : a.l.length ≤ 3
  sn : (l.getD n default).name.size = 1
  ht : ∀ t ∈ a.l, -10 ≤ t ∧ t ≤ 3
theorem goodAt_of {l : List Rel} {q : Qu} (g : goodQu l q = true) {i : Nat} (hi : i < q.atoms.length) : ∃ n k : Nat, GoodAt l (q.atoms.getD i default) n k := by
  have h1 := goodQu_at g hi
  have hv := (goodQu_parts g).1
  unfold goodQu goodRels at g
  unfold atomOk relAt at h1
  simp only [Bool.and_eq_true] at g h1
  have h2 := inB_of h1.1.1
  have h3 := upTo_at g.1.1 (show (q.atoms.getD i default).r.toNat < l.length by omega)
  unfold relOk goodRel at h3
  simp only [Bool.and_eq_true, beq_iff_eq] at h3 h1
  have h4 := inB_of h3.1.2.2.2.1
  have h5 := inB_of h3.1.2.2.2.2
  refine ⟨(q.atoms.getD i default).r.toNat, (l.getD (q.atoms.getD i default).r.toNat default).kl.toNat, by omega, by omega, by omega, by have := h1.1.2; omega, by have := h1.1.2; omega, by have := h3.1.1; omega, fun t ht => ?_⟩
  obtain ⟨j, hj, rfl⟩ := getD_inQ ht
  have h6 := upTo_at h1.2.2 hj
  unfold termOk at h6
  have := inB_of h6
  omega
theorem goodFree {l : List Rel} {q : Qu} (g : goodQu l q = true) : ∀ t ∈ q.free, -10 ≤ t ∧ t ≤ 3 := by
  have hv := (goodQu_parts g).1
  unfold goodQu at g
  simp only [Bool.and_eq_true] at g
  have h1 := g.2.2.2.1
  intro t ht
  obtain ⟨j, hj, rfl⟩ := getD_inQ ht
  unfold idxs at h1
  have h2 := upTo_at h1 hj
  unfold idxAt at h2
  simp only [Bool.and_eq_true] at h2
  have := inB_of h2.1
  omega
theorem barT_size {ts : List Int} {n : Nat} (h : n ≤ ts.length) : (barT ts n).size ≤ 2 * ts.length := by
  rw [← barK_end h]; exact barK_size ts n _
theorem atomText_size {l : List Rel} {a : RI} {n k : Nat} (G : GoodAt l a n k) : (atomText l a).size ≤ 7 := by
  have h1 := barT_size G.hk
  have h2 := G.hl
  rw [atomText, app_size, G.r, Int.toNat_natCast, G.sn, G.kl, Int.toNat_natCast]
  omega
theorem qTexts_mem {l : List Rel} {q : Qu} (g : goodQu l q = true) : ∀ x ∈ qTexts l q, x.size ≤ 7 := by
  intro x hx
  obtain ⟨a, ha, rfl⟩ := List.mem_map.mp hx
  obtain ⟨i, hi, e⟩ := List.mem_iff_getElem.mp ha
  obtain ⟨n, k, G⟩ := goodAt_of g hi
  have : q.atoms.getD i default = a := by simp [List.getD_eq_getElem?_getD, hi, e]
  rw [this] at G
  exact atomText_size G
theorem atTs_step {l : List Rel} {rs : List RI} {k : Nat} (h : k < rs.length) : atTs l (rs.take (k + 1)) = atTs l (rs.take k) ++ [atomText l (rs.getD k default)] := by
  unfold atTs; rw [take_snoc default h, List.map_append]; rfl
theorem atTs_len (l : List Rel) (rs : List RI) : (atTs l rs).length = rs.length := List.length_map _
theorem l11Atom_sat (l : List Rel) (a : RI) (n k : Nat) (hl : l.length ≤ 9223372036854775807) (G : GoodAt l a n k) : Sat Tryz.prog 132 [lRels l, lRI a] [lStr (atomText l a)] [g1, g2] := by
  refine sat_of_body mixed Tryz.func132 rfl (by kernel_rfl) (by kernel_rfl) (rs := [.tmp 4]) rfl rfl rfl ?_
  obtain ⟨er, ek, hn, hk, h3, sn, ht⟩ := G
  unfold atomText
  rcases a with ⟨r, ts⟩
  simp only at er ek hk h3 ht
  subst er
  rw [Int.toNat_natCast, ek, Int.toNat_natCast, ← barK_end hk]
  simp -implicitDefEqProofs (maxSteps := 2000000) only [go_sem, hn]
  refine awp_loop Nat (fun j => mkSt [(0, .one (.im 3 (rels l))), (3, .one (.vad 1000 0)), (5, .sc (.string ((l.getD n default).name ++ barK ts k j))), (6, .sc (.int .i64 j))] [(1000, sRI ⟨n, ts⟩)] [] 3000)
    (fun j => j ≤ ts.length) (fun j => ts.length - j) 0 (by omega) (le_st _ _ [] [] _ rfl (by simp -implicitDefEqProofs (maxSteps := 2000000) only [go_sem, barK, app_noB] <;> rfl) (by simp -implicitDefEqProofs (maxSteps := 2000000) only [go_sem, barK, app_noB] <;> rfl) (by simp -implicitDefEqProofs (maxSteps := 2000000) only [go_sem, barK, app_noB] <;> rfl)) ?_
  rintro j h1
  by_cases c1 : j < ts.length
  · have wj : IntKind.i64.wrap ((j : Int) + 1) = ((j + 1 : Nat) : Int) := i64_succ (by omega)
    have hr := ht _ (mem_getD 0 c1)
    have hbs := barK_size ts k j
    have hfs := fmtT_size (ts.getD j 0)
    have b1 : barB.size = 1 := rfl
    by_cases e : j = k
    · have d1 : (((j : Nat) : Int) == ((k : Nat) : Int)) = true := by rw [beq_iff_eq]; omega
      have hst : (l.getD n default).name ++ barK ts k (j + 1) = (l.getD n default).name ++ barK ts k j ++ barB ++ fmtT (ts.getD j 0) := by rw [barK, if_pos e, app_ass, app_ass, app_ass]
      simp -implicitDefEqProofs (maxSteps := 2000000) only [go_sem, c1, hn, ek, d1, app_size, sn]
      refine ⟨by omega, ?_⟩
      refine call_of (specFormatTerm_sat (ts.getD j 0) (by omega)) (by simp -implicitDefEqProofs (maxSteps := 2000000) only [go_sem, c1, app_size, sn]) (by kernel_rfl) (by simp -implicitDefEqProofs (maxSteps := 2000000) only [go_sem, c1, app_size, sn]) ?_
      simp -implicitDefEqProofs (maxSteps := 2000000) only [go_sem, c1, app_size, sn]
      refine ⟨by omega, ?_⟩
      rw [wj]
      exact ⟨j + 1, c1, by omega, (le_st _ _ [] [] _ rfl (by simp -implicitDefEqProofs (maxSteps := 2000000) only [go_sem, hst] <;> rfl) (by simp -implicitDefEqProofs (maxSteps := 2000000) only [go_sem, hst] <;> rfl) (by simp -implicitDefEqProofs (maxSteps := 2000000) only [go_sem, hst] <;> rfl))⟩
    · have d1 : (((j : Nat) : Int) == ((k : Nat) : Int)) = false := by rw [beq_eq_false_iff_ne]; omega
      have hst : (l.getD n default).name ++ barK ts k (j + 1) = (l.getD n default).name ++ barK ts k j ++ fmtT (ts.getD j 0) := by rw [barK, if_neg e, app_ass]
      simp -implicitDefEqProofs (maxSteps := 2000000) only [go_sem, c1, hn, ek, d1, app_size, sn]
      refine call_of (specFormatTerm_sat (ts.getD j 0) (by omega)) (by simp -implicitDefEqProofs (maxSteps := 2000000) only [go_sem, c1, app_size, sn]) (by kernel_rfl) (by simp -implicitDefEqProofs (maxSteps := 2000000) only [go_sem, c1, app_size, sn]) ?_
      simp -implicitDefEqProofs (maxSteps := 2000000) only [go_sem, c1, app_size, sn]
      refine ⟨by omega, ?_⟩
      rw [wj]
      exact ⟨j + 1, c1, by omega, (le_st _ _ [] [] _ rfl (by simp -implicitDefEqProofs (maxSteps := 2000000) only [go_sem, hst] <;> rfl) (by simp -implicitDefEqProofs (maxSteps := 2000000) only [go_sem, hst] <;> rfl) (by simp -implicitDefEqProofs (maxSteps := 2000000) only [go_sem, hst] <;> rfl))⟩
  · obtain rfl : j = ts.length := by omega
    simp -implicitDefEqProofs (maxSteps := 2000000) only [go_sem, c1]
    first | done | rfl | exact ⟨rfl, rfl⟩ | exact ⟨rfl, rfl, rfl⟩ | (refine tr_and ?_ ?_ <;> first | rfl | exact ⟨rfl, rfl⟩ | kernel_rfl)
theorem specFormatQuery_sat (l : List Rel) (q : Qu) (hl : l.length ≤ 9223372036854775807) (hq : q.ok) : Sat Tryz.prog 127 [lRels l, lQu q] [lStr (quText l q)] [g1, g3] := by
  refine sat_of_body mixed Tryz.func127 rfl (by kernel_rfl) (by kernel_rfl) (rs := [.tmp 4]) rfl rfl rfl ?_
  have hqf : q.fit := hq.fit
  unfold quText
  rcases g : goodQu l q
  · rw [if_neg (by simp)]
    simp -implicitDefEqProofs (maxSteps := 2000000) only [go_sem]
    refine call_of (specIsValidQuery_sat l q hl hqf) (by simp -implicitDefEqProofs (maxSteps := 2000000) only [go_sem, g]) (by kernel_rfl) (by simp -implicitDefEqProofs (maxSteps := 2000000) only [go_sem, g]) ?_
    simp -implicitDefEqProofs (maxSteps := 2000000) only [go_sem, g]
    first | done | rfl | exact ⟨rfl, rfl⟩ | exact ⟨rfl, rfl, rfl⟩ | (refine tr_and ?_ ?_ <;> first | rfl | exact ⟨rfl, rfl⟩ | kernel_rfl)
  rw [if_pos rfl]
  obtain ⟨hv, hn1, hn⟩ := goodQu_parts g
  have hf := goodFree g
  have hfl : q.free.length ≤ 1048576 := hq.2
  have s3 : askB.size = 1 := rfl
  have s4 : blB.size = 1 := rfl
  simp -implicitDefEqProofs (maxSteps := 2000000) only [go_sem]
  refine call_of (specIsValidQuery_sat l q hl hqf) (by simp -implicitDefEqProofs (maxSteps := 2000000) only [go_sem, g]) (by kernel_rfl) (by simp -implicitDefEqProofs (maxSteps := 2000000) only [go_sem, g]) ?_
  simp -implicitDefEqProofs (maxSteps := 2000000) only [go_sem, g]
  refine awp_loop Nat (fun k => mkSt [(0, .one (.im 3 (rels l))), (3, .one (.vad 1000 0)), (5, .sc (.string (catT (q.free.take k)))), (6, .sc (.int .i64 k))] [(1000, sQu q)] [] 6000)
    (fun k => k ≤ q.free.length) (fun k => q.free.length - k) 0 (by omega) (le_st _ _ [] [] _ rfl (by simp -implicitDefEqProofs (maxSteps := 2000000) only [go_sem, List.take_zero, catT_nil] <;> rfl) (by simp -implicitDefEqProofs (maxSteps := 2000000) only [go_sem, List.take_zero, catT_nil] <;> rfl) (by simp -implicitDefEqProofs (maxSteps := 2000000) only [go_sem, List.take_zero, catT_nil] <;> rfl)) ?_
  rintro k h1
  by_cases c1 : k < q.free.length
  · have wk : IntKind.i64.wrap ((k : Int) + 1) = ((k + 1 : Nat) : Int) := i64_succ (by omega)
    have hst := catT_step c1
    have hr := hf _ (mem_getD 0 c1)
    have s5 := catT_size (q.free.take k)
    rw [List.length_take] at s5
    have s6 := fmtT_size (q.free.getD k 0)
    simp -implicitDefEqProofs (maxSteps := 2000000) only [go_sem, c1]
    refine call_of (specFormatTerm_sat (q.free.getD k 0) (by omega)) (by simp -implicitDefEqProofs (maxSteps := 2000000) only [go_sem, c1]) (by kernel_rfl) (by simp -implicitDefEqProofs (maxSteps := 2000000) only [go_sem, c1]) ?_
    simp -implicitDefEqProofs (maxSteps := 2000000) only [go_sem, c1]
    refine ⟨by omega, ?_⟩
    rw [wk]
    exact ⟨k + 1, c1, by omega, (le_st _ _ [] [] _ rfl (by simp -implicitDefEqProofs (maxSteps := 2000000) only [go_sem, hst] <;> rfl) (by simp -implicitDefEqProofs (maxSteps := 2000000) only [go_sem, hst] <;> rfl) (by simp -implicitDefEqProofs (maxSteps := 2000000) only [go_sem, hst] <;> rfl))⟩
  obtain rfl : k = q.free.length := by omega
  have s5 := catT_size q.free
  rw [List.take_length]
  simp -implicitDefEqProofs (maxSteps := 2000000) only [go_sem, c1, app_size]
  refine ⟨by omega, ?_⟩
  refine awp_loop Nat (fun k => mkSt [(0, .one (.im 3 (rels l))), (3, .one (.vad 1000 0)), (5, .sc (.string (catT q.free ++ askB ++ joinB (atTs l (q.atoms.take k)) blB))), (7, .sc (.int .i64 k))] [(1000, sQu q)] [] 9000)
    (fun k => k ≤ q.atoms.length) (fun k => q.atoms.length - k) 0 (by omega) (le_st _ _ [] [] _ rfl (by simp -implicitDefEqProofs (maxSteps := 2000000) only [go_sem, atTs, List.take_zero, List.map_nil, joinB_nil, app_noB] <;> rfl) (by simp -implicitDefEqProofs (maxSteps := 2000000) only [go_sem, atTs, List.take_zero, List.map_nil, joinB_nil, app_noB] <;> rfl) (by simp -implicitDefEqProofs (maxSteps := 2000000) only [go_sem, atTs, List.take_zero, List.map_nil, joinB_nil, app_noB] <;> rfl)) ?_
  rintro k h2
  by_cases c2 : k < q.atoms.length
  · have wk : IntKind.i64.wrap ((k : Int) + 1) = ((k + 1 : Nat) : Int) := i64_succ (by omega)
    obtain ⟨n, m, G⟩ := goodAt_of g c2
    have hst := atTs_step (l := l) c2
    have s6 := atomText_size G
    have s7 := joinB_size blB 7 (atTs l (q.atoms.take k)) (fun x hx => by
      obtain ⟨a, ha, rfl⟩ := List.mem_map.mp hx
      exact qTexts_mem g _ (List.mem_map.mpr ⟨a, List.mem_of_mem_take ha, rfl⟩))
    rw [atTs_len, List.length_take, s4] at s7
    have s8 : min k q.atoms.length * (7 + 1) ≤ 3 * 8 := Nat.mul_le_mul (by omega) (by omega)
    rcases k with _ | k
    · have e1 : catT q.free ++ askB ++ joinB (atTs l (q.atoms.take (0 + 1))) blB = catT q.free ++ askB ++ atomText l (q.atoms.getD 0 default) := by
        rw [hst, show atTs l (q.atoms.take 0) = [] from rfl, List.nil_append, joinB_one]
      have e0 : joinB (atTs l []) blB = noB := joinB_nil _
      have d1 : decide ((0 : Int) < ((q.atoms.length : Nat) : Int)) = true := decide_eq_true (by omega)
      simp -implicitDefEqProofs (maxSteps := 2000000) only [go_sem, d1, c2, app_size, e0, app_noB]
      refine call_of (l11Atom_sat l (q.atoms.getD 0 default) n m hl G) (by simp -implicitDefEqProofs (maxSteps := 2000000) only [go_sem, c2, app_size, e0, app_noB]) (by kernel_rfl) (by simp -implicitDefEqProofs (maxSteps := 2000000) only [go_sem, c2, app_size, e0, app_noB]) ?_
      simp -implicitDefEqProofs (maxSteps := 2000000) only [go_sem, c2, app_size, e0, app_noB]
      refine ⟨by omega, ?_⟩
      exact ⟨0 + 1, c2, by omega, (le_st _ _ [] [] _ rfl (by simp -implicitDefEqProofs (maxSteps := 2000000) only [go_sem, e1] <;> rfl) (by simp -implicitDefEqProofs (maxSteps := 2000000) only [go_sem, e1] <;> rfl) (by simp -implicitDefEqProofs (maxSteps := 2000000) only [go_sem, e1] <;> rfl))⟩
    · have hne : atTs l (q.atoms.take (k + 1)) ≠ [] := fun e => by
        have := congrArg List.length e
        rw [atTs_len, List.length_take] at this
        rw [List.length_nil] at this
        omega
      have e1 : catT q.free ++ askB ++ joinB (atTs l (q.atoms.take (k + 1 + 1))) blB = catT q.free ++ askB ++ joinB (atTs l (q.atoms.take (k + 1))) blB ++ blB ++ atomText l (q.atoms.getD (k + 1) default) := by
        rw [hst, joinB_snoc hne]
        simp only [app_ass]
      have d1 : decide (((k + 1 : Nat) : Int) > 0) = true := decide_eq_true (by omega)
      simp -implicitDefEqProofs (maxSteps := 2000000) only [go_sem, c2, d1, app_size]
      refine ⟨by omega, ?_⟩
      refine call_of (l11Atom_sat l (q.atoms.getD (k + 1) default) n m hl G) (by simp -implicitDefEqProofs (maxSteps := 2000000) only [go_sem, c2, app_size]) (by kernel_rfl) (by simp -implicitDefEqProofs (maxSteps := 2000000) only [go_sem, c2, app_size]) ?_
      simp -implicitDefEqProofs (maxSteps := 2000000) only [go_sem, c2, app_size]
      refine ⟨by omega, ?_⟩
      rw [wk]
      exact ⟨k + 1 + 1, c2, by omega, (le_st _ _ [] [] _ rfl (by simp -implicitDefEqProofs (maxSteps := 2000000) only [go_sem, e1] <;> rfl) (by simp -implicitDefEqProofs (maxSteps := 2000000) only [go_sem, e1] <;> rfl) (by simp -implicitDefEqProofs (maxSteps := 2000000) only [go_sem, e1] <;> rfl))⟩
  · obtain rfl : k = q.atoms.length := by omega
    rw [List.take_length]
    simp -implicitDefEqProofs (maxSteps := 2000000) only [go_sem, c2]
    first | done | rfl | exact ⟨rfl, rfl⟩ | exact ⟨rfl, rfl, rfl⟩ | (refine tr_and ?_ ?_ <;> first | rfl | exact ⟨rfl, rfl⟩ | kernel_rfl)
end Go.Proofs.YtedciihjgbkjgabGreat.A


/- A QUERY READ FROM A TEXT: the reference. Conditions: none. -/
namespace Go.Proofs.YtedciihjgbkjgabGreat.A
open Go
set_option linter.unusedSimpArgs false
set_option linter.unusedVariables false
set_option maxRecDepth 100000

/-! #### a text cut at a sign -/
abbrev byA (s : ByteArray) (i : Nat) : Nat := (s.data.toList.getD i 0).toNat
def splA (s : ByteArray) (c : Nat) : Nat → Nat
  | 0 => 0
  | i + 1 => if byA s i = c then i + 1 else splA s c i
def splO (s : ByteArray) (c : Nat) : Nat → List ByteArray
  | 0 => []
  | i + 1 => if byA s i = c then splO s c i ++ [s.extract (splA s c i) i] else splO s c i
def splS (s : ByteArray) (c : Nat) : List ByteArray := splO s c s.size ++ [s.extract (splA s c s.size) s.size]
theorem splA_le (s : ByteArray) (c : Nat) : ∀ i, splA s c i ≤ i
  | 0 => Nat.le_refl _
  | i + 1 => by
    have := splA_le s c i
    rw [splA]; split <;> omega
theorem splO_len (s : ByteArray) (c : Nat) : ∀ i, (splO s c i).length ≤ i
  | 0 => Nat.le_refl _
  | i + 1 => by
    have := splO_len s c i
    rw [splO]; split
    · rw [List.length_append, List.length_singleton]; omega
    · omega
theorem splS_len (s : ByteArray) (c : Nat) : (splS s c).length ≤ s.size + 1 := by
  have := splO_len s c s.size
  unfold splS
  rw [List.length_append, List.length_singleton]; omega
theorem ext_size (s : ByteArray) (a b : Nat) : (s.extract a b).size ≤ s.size := by
  rw [ByteArray.size_extract]; omega
theorem splO_mem (s : ByteArray) (c : Nat) : ∀ (i : Nat), ∀ x ∈ splO s c i, x.size ≤ s.size
  | 0, x, hx => by cases hx
  | i + 1, x, hx => by
    rw [splO] at hx
    split at hx
    · rcases List.mem_append.mp hx with h | h
      · exact splO_mem s c i x h
      · rw [List.mem_singleton.mp h]; exact ext_size _ _ _
    · exact splO_mem s c i x hx
theorem splS_mem (s : ByteArray) (c : Nat) : ∀ x ∈ splS s c, x.size ≤ s.size := by
  intro x hx
  rcases List.mem_append.mp hx with h | h
  · exact splO_mem s c _ x h
  · rw [List.mem_singleton.mp h]; exact ext_size _ _ _
theorem txs_append (a b : List ByteArray) : txs a ++ txs b = txs (a ++ b) := by simp [txs]
theorem txs_flat (a : List ByteArray) : flatB (txs a) = true := by simp [flatB, txs, cTx, Cell.flatB]
theorem txs_stm (n : Nat) (a : List ByteArray) : stm n (txs a) = txs a := stm_map n _ _ (fun _ => rfl) a
theorem txs_nil : txs [] = [] := rfl
attribute [go_sem] txs_append txs_flat txs_stm
theorem repP {α : Type} (a : α) : List.replicate 1 a = [a] := rfl
theorem u8_eq {a b : Nat} : (((a : Nat) : Int) == ((b : Nat) : Int)) = decide (a = b) := by
  rw [Bool.eq_iff_iff, beq_iff_eq, decide_eq_true_iff]; omega
theorem l6Cut_sat (s : ByteArray) (c : Nat) (h : s.size ≤ 1048576) : Sat Tryz.prog 124 [lStr s, .one (.sc (.int .u8 c))] [.one (.ow 1 (txs (splS s c)))] [g1, g1] := by
  refine sat_of_body mixed Tryz.func124 rfl (by kernel_rfl) (by kernel_rfl) (rs := [.tmp 4]) rfl rfl rfl ?_
  simp -implicitDefEqProofs (maxSteps := 2000000) only [go_sem]
  refine awp_loop Nat (fun i => mkSt [(0, .sc (.string s)), (1, .sc (.int .u8 c)), (5, .one (.ref 960 1 0 (splO s c i).length)), (6, .sc (.int .i64 (splA s c i))), (7, .sc (.int .i64 i))] [] [(960, (1, txs (splO s c i)))] 4000)
    (fun i => i ≤ s.size) (fun i => s.size - i) 0 (by omega) (le_st' _ _ [⟨960, some _, false, 1, _⟩] [] _ (by simp -implicitDefEqProofs (maxSteps := 2000000) only [go_sem, splO, splA, txs_nil, List.length_nil] <;> and_intros <;> rfl) (by simp -implicitDefEqProofs (maxSteps := 2000000) only [go_sem, splO, splA, txs_nil, List.length_nil] <;> and_intros <;> rfl) (by simp -implicitDefEqProofs (maxSteps := 2000000) only [go_sem, splO, splA, txs_nil, List.length_nil] <;> and_intros <;> rfl) (by rfl)) ?_
  rintro i h1
  have hl := splO_len s c i
  have ha := splA_le s c i
  by_cases c1 : i < s.size
  · have wi : IntKind.i64.wrap ((i : Int) + 1) = ((i + 1 : Nat) : Int) := i64_succ (by omega)
    rcases d : decide (byA s i = c)
    · have e1 : splO s c (i + 1) = splO s c i := by rw [splO, if_neg (of_decide_eq_false d)]
      have e2 : splA s c (i + 1) = splA s c i := by rw [splA, if_neg (of_decide_eq_false d)]
      simp -implicitDefEqProofs (maxSteps := 2000000) only [go_sem, c1, u8_eq, d, wi]
      exact ⟨i + 1, c1, by omega, (le_st' _ _ [⟨960, some _, false, 1, _⟩] [] _ (by simp -implicitDefEqProofs (maxSteps := 2000000) only [go_sem, e1, e2] <;> and_intros <;> rfl) (by simp -implicitDefEqProofs (maxSteps := 2000000) only [go_sem, e1, e2] <;> and_intros <;> rfl) (by simp -implicitDefEqProofs (maxSteps := 2000000) only [go_sem, e1, e2] <;> and_intros <;> rfl) (by rfl))⟩
    · have e1 : splO s c (i + 1) = splO s c i ++ [s.extract (splA s c i) i] := by rw [splO, if_pos (of_decide_eq_true d)]
      have e2 : splA s c (i + 1) = i + 1 := by rw [splA, if_pos (of_decide_eq_true d)]
      simp -implicitDefEqProofs (maxSteps := 2000000) only [go_sem, c1, u8_eq, d, wi]
      repeat (refine And.intro (by omega) ?_)
      exact ⟨i + 1, c1, by omega, (le_st' _ _ [⟨960, some _, false, 1, _⟩] [] _ (by simp -implicitDefEqProofs (maxSteps := 2000000) only [go_sem, e1, e2, repP, List.set_cons_zero] <;> and_intros <;> rfl) (by simp -implicitDefEqProofs (maxSteps := 2000000) only [go_sem, e1, e2, repP, List.set_cons_zero] <;> and_intros <;> rfl) (by simp -implicitDefEqProofs (maxSteps := 2000000) only [go_sem, e1, e2, repP, List.set_cons_zero] <;> and_intros <;> rfl) (by rfl))⟩
  · obtain rfl : i = s.size := by omega
    simp -implicitDefEqProofs (maxSteps := 2000000) only [go_sem, c1]
    repeat (refine And.intro (by omega) ?_)
    exact ⟨rfl, rfl⟩
/-! #### where a name stands -/
def nameNo (l : List Rel) (s : ByteArray) (i : Nat) : Bool := !decide ((l.getD i default).name = s)
def relIx (l : List Rel) (s : ByteArray) : Int := firstNo (nameNo l s) l.length 0
theorem specRelationIndex_sat (l : List Rel) (s : ByteArray) (h : l.length ≤ 9223372036854775807) : Sat Tryz.prog 126 [lRels l, lStr s] [lInt (relIx l s)] [g1, g1] := by
  refine sat_of_body mixed Tryz.func126 rfl (by kernel_rfl) (by kernel_rfl) (rs := [.tmp 4]) rfl rfl rfl ?_
  unfold relIx
  generalize hp : nameNo l s = p
  have hp' : ∀ i, p i = !decide ((l.getD i default).name = s) := fun i => by rw [← hp]; rfl
  simp -implicitDefEqProofs (maxSteps := 2000000) only [go_sem]
  refine awp_loop Nat (fun k => mkSt [(0, .one (.im 3 (rels l))), (1, .sc (.string s)), (5, .sc (.int .i64 k))] [] [] 3000)
    (fun k => k ≤ l.length ∧ firstNo p (l.length - k) k = firstNo p l.length 0) (fun k => l.length - k) 0 ⟨by omega, by rw [Nat.sub_zero]⟩ (le_st _ _ [] [] _ rfl (by simp -implicitDefEqProofs (maxSteps := 2000000) only [go_sem] <;> rfl) trivial trivial) ?_
  rintro k ⟨h1, h2⟩
  by_cases c1 : k < l.length
  · rw [show l.length - k = (l.length - (k + 1)) + 1 by omega, firstNo, hp'] at h2
    rcases e : decide ((l.getD k default).name = s)
    · rw [e, Bool.not_false, if_pos rfl] at h2
      simp -implicitDefEqProofs (maxSteps := 2000000) only [go_sem, c1, e]
      rw [i64_succ (by omega)]
      exact ⟨k + 1, ⟨c1, h2⟩, by omega, (le_st _ _ [] [] _ rfl (by simp -implicitDefEqProofs (maxSteps := 2000000) only [go_sem] <;> rfl) trivial trivial)⟩
    · rw [e, Bool.not_true, if_neg (by simp)] at h2
      simp -implicitDefEqProofs (maxSteps := 2000000) only [go_sem, c1, e]
      rw [← h2]
  · obtain rfl : k = l.length := by omega
    rw [Nat.sub_self, firstNo] at h2
    simp -implicitDefEqProofs (maxSteps := 2000000) only [go_sem, c1]
    rw [← h2]
/-! #### the parts of a query's text -/
def t1 (s : ByteArray) (i : Nat) : Int := (pT (s.extract i (i + 1))).1
def freeT (w : ByteArray) : Nat → List Int
  | 0 => []
  | i + 1 => freeT w i ++ [t1 w i]
def skipT (p : ByteArray) (k : Nat) : Bool := decide (k = 0) || decide (byA p k = 124)
def wordT (p : ByteArray) : Nat → List Int
  | 0 => []
  | k + 1 => if skipT p k then wordT p k else wordT p k ++ [t1 p k]
def wordV (p : ByteArray) (m : Int) : Nat → Int
  | 0 => m
  | k + 1 => if skipT p k then wordV p m k else if t1 p k + 1 > wordV p m k then t1 p k + 1 else wordV p m k
def wordR (l : List Rel) (p : ByteArray) : Nat → Int
  | 0 => 0
  | k + 1 => if k = 0 then relIx l (p.extract 0 1) else wordR l p k
def wordA (l : List Rel) (p : ByteArray) : RI := ⟨wordR l p p.size, wordT p p.size⟩
def allV (ps : List ByteArray) : Nat → Int
  | 0 => 0
  | i + 1 => wordV (ps.getD i ⟨#[]⟩) (allV ps i) (ps.getD i ⟨#[]⟩).size
def allA (l : List Rel) (ps : List ByteArray) (n : Nat) : List RI := (ps.take n).map (wordA l)
def readQ (l : List Rel) (s : ByteArray) : Qu := ⟨allV (splS ((splS s 63).getD 1 ⟨#[]⟩) 32) (splS ((splS s 63).getD 1 ⟨#[]⟩) 32).length, allA l (splS ((splS s 63).getD 1 ⟨#[]⟩) 32) (splS ((splS s 63).getD 1 ⟨#[]⟩) 32).length, freeT ((splS s 63).getD 0 ⟨#[]⟩) ((splS s 63).getD 0 ⟨#[]⟩).size⟩
def noQ : Qu := ⟨0, [], []⟩
def okQ (l : List Rel) (s : ByteArray) : Bool := decide ((splS s 63).length = 2) && decide (quText l (readQ l s) = s)
def parQ (l : List Rel) (s : ByteArray) : Qu := if okQ l s then readQ l s else noQ
theorem freeT_len (w : ByteArray) : ∀ i, (freeT w i).length = i
  | 0 => rfl
  | i + 1 => by rw [freeT, List.length_append, freeT_len w i]; rfl
theorem wordT_len (p : ByteArray) : ∀ i, (wordT p i).length ≤ i
  | 0 => Nat.le_refl _
  | i + 1 => by
    have := wordT_len p i
    rw [wordT]; split
    · omega
    · rw [List.length_append, List.length_singleton]; omega
theorem pT_lo (s : ByteArray) : -10 ≤ (pT s).1 ∧ (pT s).1 ≤ 3 := by
  unfold pT
  split
  · unfold p1
    split
    · simp
    split
    · simp
    split
    · simp
    split
    · simp
    split
    · simp only; omega
    · simp
  · simp
theorem wordV_lo {p : ByteArray} {m : Int} (h : 0 ≤ m ∧ m ≤ 4) : ∀ k, 0 ≤ wordV p m k ∧ wordV p m k ≤ 4
  | 0 => h
  | k + 1 => by
    have h1 := wordV_lo (p := p) h k
    have h2 := pT_lo (p.extract k (k + 1))
    rw [wordV]; split
    · exact h1
    · unfold t1; split <;> omega
theorem allV_lo (ps : List ByteArray) : ∀ i, 0 ≤ allV ps i ∧ allV ps i ≤ 4
  | 0 => by simp [allV]
  | i + 1 => wordV_lo (allV_lo ps i) _
theorem readQ_ok {l : List Rel} {s : ByteArray} (h : s.size ≤ 1048575) : (readQ l s).ok := by
  have m1 : ∀ i, ((splS s 63).getD i ⟨#[]⟩).size ≤ s.size := by
    intro i
    rcases Nat.lt_or_ge i (splS s 63).length with hi | hi
    · exact splS_mem s 63 _ (mem_getD (⟨#[]⟩ : ByteArray) hi)
    · rw [List.getD_eq_getElem?_getD, List.getElem?_eq_none hi]; exact Nat.zero_le _
  have a0 := m1 0
  have a1 := m1 1
  unfold readQ Qu.ok
  generalize (splS s 63).getD 1 ⟨#[]⟩ = w at a1
  have b1 := splS_len w 32
  refine ⟨⟨?_, fun x hx => ?_⟩, ?_⟩
  · show (allA l (splS w 32) (splS w 32).length).length ≤ _
    unfold allA
    rw [List.length_map, List.length_take]; omega
  · unfold allA at hx
    obtain ⟨p, hp, rfl⟩ := List.mem_map.mp hx
    have b2 := splS_mem w 32 p (List.mem_of_mem_take hp)
    have b3 := wordT_len p p.size
    unfold RI.ok wordA
    simp only
    omega
  · show (freeT _ _).length ≤ _
    rw [freeT_len]; omega
theorem wordA_step {l : List Rel} {ps : List ByteArray} {k : Nat} (h : k < ps.length) : allA l ps (k + 1) = allA l ps k ++ [wordA l (ps.getD k ⟨#[]⟩)] := by
  unfold allA
  rw [take_snoc (⟨#[]⟩ : ByteArray) h, List.map_append]; rfl
theorem allA_len (l : List Rel) (ps : List ByteArray) {k : Nat} (h : k ≤ ps.length) : (allA l ps k).length = k := by
  unfold allA
  rw [List.length_map, List.length_take]; omega
abbrev zQ3 : List SV := [.sc (.int .i64 0), .sc (.slice none 0 0), .sc (.slice none 0 0)]
set_option maxHeartbeats 8000000 in
theorem specParseQuery_sat (l : List Rel) (s : ByteArray) (hl : l.length ≤ 9223372036854775807) (h : s.size ≤ 1048575) : Sat Tryz.prog 109 [lRels l, lStr s] [oQu (parQ l s), lBool (okQ l s)] [g1, g1] := by
  refine sat_of_body mixed Tryz.func109 rfl (by kernel_rfl) (by kernel_rfl) (rs := [.cell 4 31, .tmp 5]) rfl rfl rfl ?_
  have hq := readQ_ok (l := l) h
  have hcl := splS_len s 63
  by_cases h2 : (splS s 63).length = 2
  case neg =>
    have e1 : parQ l s = noQ := by rw [parQ, okQ, decide_eq_false h2]; rfl
    have e2 : okQ l s = false := by rw [okQ, decide_eq_false h2]; rfl
    have d2 : ((((splS s 63).length : Nat) : Int) != 2) = true := by rw [bne_iff_ne]; omega
    rw [e1, e2]
    simp -implicitDefEqProofs (maxSteps := 2000000) only [go_sem]
    refine call_of (l6Cut_sat s 63 (by omega)) (by simp -implicitDefEqProofs (maxSteps := 2000000) only [go_sem, d2] <;> and_intros <;> rfl) (by kernel_rfl) (by simp -implicitDefEqProofs (maxSteps := 2000000) only [go_sem, d2]) ?_
    simp -implicitDefEqProofs (maxSteps := 2000000) only [go_sem, d2]
    and_intros <;> rfl
  have d2 : (((2 : Nat) : Int) != 2) = false := rfl
  have hrd : readQ l s = readQ l s := rfl
  obtain ⟨w0, w1, hw⟩ : ∃ w0 w1, splS s 63 = [w0, w1] := by
    rcases e : splS s 63 with _ | ⟨a, _ | ⟨b, _ | ⟨c, r⟩⟩⟩
    · rw [e] at h2; simp at h2
    · rw [e] at h2; simp at h2
    · exact ⟨a, b, rfl⟩
    · rw [e] at h2; simp at h2
  have hs0 : w0.size ≤ s.size := splS_mem s 63 w0 (by rw [hw]; simp)
  have hs1 : w1.size ≤ s.size := splS_mem s 63 w1 (by rw [hw]; simp)
  have s1 := l6Cut_sat s 63 (by omega)
  rw [hw] at s1
  have hR : readQ l s = ⟨allV (splS w1 32) (splS w1 32).length, allA l (splS w1 32) (splS w1 32).length, freeT w0 w0.size⟩ := by unfold readQ; rw [hw]; rfl
  have hpl := splS_len w1 32
  have hpm := splS_mem w1 32
  have e0 : (txs [w0, w1]).getD 0 [] = [.sc (.string w0)] := rfl
  have e1 : (txs [w0, w1]).getD 1 [] = [.sc (.string w1)] := rfl
  have e2 : okQ l s = decide (quText l (readQ l s) = s) := by rw [okQ, decide_eq_true h2, Bool.true_and]
  have s2 := l6Cut_sat w1 32 (by omega)
  rw [parQ, e2]
  rw [hR] at hq ⊢
  generalize splS w1 32 = ps at hpl hpm s2 hq ⊢
  simp -implicitDefEqProofs (maxSteps := 2000000) only [go_sem]
  refine call_of (s1) (by simp -implicitDefEqProofs (maxSteps := 2000000) only [go_sem, d2] <;> and_intros <;> rfl) (by kernel_rfl) (by simp -implicitDefEqProofs (maxSteps := 2000000) only [go_sem, d2]) ?_
  simp -implicitDefEqProofs (maxSteps := 2000000) only [go_sem, d2]
  refine awp_loop Nat (fun i => mkSt [(0, .one (.im 3 (rels l))), (1, .sc (.string s)), (4, .one (.vad 1000 0)), (5, .sc (.bool false)), (6, .one (.ref 960 1 0 2)), (7, .one (.vad 1576 0)), (8, .sc (.int .i64 i))] [(1000, zQ3), (1576, [.sc (.int .i64 0), .sc (.slice none 0 0), .ref 961 1 0 i])] [(960, (1, txs [w0, w1])), (961, (1, ints (freeT w0 i)))] 4000)
    (fun i => i ≤ w0.size) (fun i => w0.size - i) 0 (by omega) (le_st' _ _ [⟨960, some _, false, 1, _⟩, ⟨961, none, false, 1, _⟩] [] _ (by simp -implicitDefEqProofs (maxSteps := 2000000) only [go_sem, freeT, ints_nil] <;> and_intros <;> rfl) (by simp -implicitDefEqProofs (maxSteps := 2000000) only [go_sem, freeT, ints_nil] <;> and_intros <;> rfl) (by simp -implicitDefEqProofs (maxSteps := 2000000) only [go_sem, freeT, ints_nil] <;> and_intros <;> rfl) (by rfl)) ?_
  rintro i h1
  have hfl := freeT_len w0 i
  by_cases c1 : i < w0.size
  · have wi : IntKind.i64.wrap ((i : Int) + 1) = ((i + 1 : Nat) : Int) := i64_succ (by omega)
    have hc1 : i + 1 ≤ w0.size := c1
    have hst : freeT w0 (i + 1) = freeT w0 i ++ [t1 w0 i] := rfl
    simp -implicitDefEqProofs (maxSteps := 2000000) only [go_sem, e0, c1, wi, hc1, Nat.le_add_right]
    refine call_of (specParseTerm_sat (w0.extract i (i + 1))) (by simp -implicitDefEqProofs (maxSteps := 2000000) only [go_sem]) (by kernel_rfl) (by simp -implicitDefEqProofs (maxSteps := 2000000) only [go_sem]) ?_
    simp -implicitDefEqProofs (maxSteps := 2000000) only [go_sem]
    repeat (refine And.intro (by omega) ?_)
    rw [show (pT (w0.extract i (i + 1))).1 = t1 w0 i from rfl, wi]
    refine ⟨i + 1, c1, by omega, ?_⟩
    rw [hst]
    exact (le_st' _ _ [⟨960, some _, false, 1, _⟩, ⟨961, some _, false, 1, _⟩] [] _ (by simp -implicitDefEqProofs (maxSteps := 2000000) only [go_sem, hfl, repP, List.set_cons_zero] <;> and_intros <;> rfl) (by simp -implicitDefEqProofs (maxSteps := 2000000) only [go_sem, hfl, repP, List.set_cons_zero] <;> and_intros <;> rfl) (by simp -implicitDefEqProofs (maxSteps := 2000000) only [go_sem, hfl, repP, List.set_cons_zero] <;> and_intros <;> rfl) (by rfl))
  obtain rfl : i = w0.size := by omega
  simp -implicitDefEqProofs (maxSteps := 2000000) only [go_sem, e0, e1, c1]
  refine call_of (s2) (by simp -implicitDefEqProofs (maxSteps := 2000000) only [go_sem] <;> and_intros <;> rfl) (by kernel_rfl) (by simp -implicitDefEqProofs (maxSteps := 2000000) only [go_sem]) ?_
  simp -implicitDefEqProofs (maxSteps := 2000000) only [go_sem]
  have hA := fun k (hk : k ≤ ps.length) => allA_len l ps hk
  refine awp_loop Nat (fun i => mkSt [(0, .one (.im 3 (rels l))), (1, .sc (.string s)), (4, .one (.vad 1000 0)), (5, .sc (.bool false)), (7, .one (.vad 1576 0)), (11, .one (.ref 960 1 0 ps.length)), (12, .sc (.int .i64 i))] [(1000, zQ3), (1576, [.sc (.int .i64 (allV ps i)), .ref 962 2 0 i, .ref 961 1 0 w0.size])] [(960, (1, txs ps)), (961, (1, ints (freeT w0 w0.size))), (962, (2, ris 999 (allA l ps i)))] 20000)
    (fun i => i ≤ ps.length) (fun i => ps.length - i) 0 (by omega) (le_st' _ _ [⟨960, some _, false, 1, _⟩, ⟨961, some _, false, 1, _⟩, ⟨962, none, false, 2, _⟩] [] _ (by simp -implicitDefEqProofs (maxSteps := 2000000) only [go_sem, hfl, allV, allA, List.take_zero, List.map_nil, ris_nil] <;> and_intros <;> rfl) (by simp -implicitDefEqProofs (maxSteps := 2000000) only [go_sem, hfl, allV, allA, List.take_zero, List.map_nil, ris_nil] <;> and_intros <;> rfl) (by simp -implicitDefEqProofs (maxSteps := 2000000) only [go_sem, hfl, allV, allA, List.take_zero, List.map_nil, ris_nil] <;> and_intros <;> rfl) (by rfl)) ?_
  rintro i h3
  have hAi := hA i h3
  have hVi := allV_lo ps i
  by_cases c2 : i < ps.length
  · have wi : IntKind.i64.wrap ((i : Int) + 1) = ((i + 1 : Nat) : Int) := i64_succ (by omega)
    have hstA := wordA_step (l := l) c2
    have hstV : allV ps (i + 1) = wordV (ps.getD i ⟨#[]⟩) (allV ps i) (ps.getD i ⟨#[]⟩).size := rfl
    have hpz := hpm _ (mem_getD (⟨#[]⟩ : ByteArray) c2)
    have eg := txs_get c2
    have hwA : wordA l (ps.getD i ⟨#[]⟩) = ⟨wordR l (ps.getD i ⟨#[]⟩) (ps.getD i ⟨#[]⟩).size, wordT (ps.getD i ⟨#[]⟩) (ps.getD i ⟨#[]⟩).size⟩ := rfl
    rw [hwA] at hstA
    clear hwA
    generalize ps.getD i ⟨#[]⟩ = p at hstA hstV hpz eg
    generalize allV ps i = m0 at hVi hstV
    simp -implicitDefEqProofs (maxSteps := 2000000) only [go_sem, c2, eg]
    refine awp_loop Nat (fun k => mkSt [(0, .one (.im 3 (rels l))), (1, .sc (.string s)), (4, .one (.vad 1000 0)), (5, .sc (.bool false)), (7, .one (.vad 1576 0)), (11, .one (.ref 960 1 0 ps.length)), (12, .sc (.int .i64 i)), (13, .one (.vad 20320 0)), (14, .sc (.int .i64 k))] [(1000, zQ3), (1576, [.sc (.int .i64 (wordV p m0 k)), .ref 962 2 0 i, .ref 961 1 0 w0.size]), (20320, [.sc (.int .i64 (wordR l p k)), .ref 963 1 0 (wordT p k).length])] [(960, (1, txs ps)), (961, (1, ints (freeT w0 w0.size))), (962, (2, ris 999 (allA l ps i))), (963, (1, ints (wordT p k)))] 40000)
      (fun k => k ≤ p.size) (fun k => p.size - k) 0 (by omega) (le_st' _ _ [⟨960, some _, false, 1, _⟩, ⟨961, some _, false, 1, _⟩, ⟨962, some _, false, 2, _⟩, ⟨963, none, false, 1, _⟩] [] _ (by simp -implicitDefEqProofs (maxSteps := 2000000) only [go_sem, wordV, wordR, wordT, ints_nil, List.length_nil] <;> and_intros <;> rfl) (by simp -implicitDefEqProofs (maxSteps := 2000000) only [go_sem, wordV, wordR, wordT, ints_nil, List.length_nil] <;> and_intros <;> rfl) (by simp -implicitDefEqProofs (maxSteps := 2000000) only [go_sem, wordV, wordR, wordT, ints_nil, List.length_nil] <;> and_intros <;> rfl) (by rfl)) ?_
    rintro k h4
    have hTl := wordT_len p k
    have hVk := wordV_lo (p := p) hVi k
    by_cases c3 : k < p.size
    · have wk : IntKind.i64.wrap ((k : Int) + 1) = ((k + 1 : Nat) : Int) := i64_succ (by omega)
      have c4 : k + 1 ≤ p.size := c3
      by_cases k0 : k = 0
      · have d0 : (((k : Nat) : Int) == 0) = true := by rw [k0]; rfl
        have hp1 : 1 ≤ p.size := by omega
        have hs : skipT p k = true := by unfold skipT; rw [decide_eq_true k0]; rfl
        have q1 : wordV p m0 (k + 1) = wordV p m0 k := by rw [wordV, if_pos hs]
        have q2 : wordT p (k + 1) = wordT p k := by rw [wordT, if_pos hs]
        have q3 : wordR l p (k + 1) = relIx l (p.extract 0 1) := by rw [wordR, if_pos k0]
        simp -implicitDefEqProofs (maxSteps := 2000000) only [go_sem, c2, eg, c3, d0, hp1]
        repeat (refine And.intro (by first | omega | decide) ?_)
        simp -implicitDefEqProofs (maxSteps := 2000000) only [go_sem]
        refine call_of (specRelationIndex_sat l (p.extract 0 1) hl) (by simp -implicitDefEqProofs (maxSteps := 2000000) only [go_sem]) (by kernel_rfl) (by simp -implicitDefEqProofs (maxSteps := 2000000) only [go_sem]) ?_
        simp -implicitDefEqProofs (maxSteps := 2000000) only [go_sem]
        rw [wk]
        exact ⟨k + 1, c3, by omega, (le_st' _ _ [⟨960, some _, false, 1, _⟩, ⟨961, some _, false, 1, _⟩, ⟨962, some _, false, 2, _⟩, ⟨963, some _, false, 1, _⟩] [] _ (by simp -implicitDefEqProofs (maxSteps := 2000000) only [go_sem, q1, q2, q3] <;> and_intros <;> rfl) (by simp -implicitDefEqProofs (maxSteps := 2000000) only [go_sem, q1, q2, q3] <;> and_intros <;> rfl) (by simp -implicitDefEqProofs (maxSteps := 2000000) only [go_sem, q1, q2, q3] <;> and_intros <;> rfl) (by rfl))⟩
      have d0 : (((k : Nat) : Int) == 0) = false := by rw [beq_eq_false_iff_ne]; omega
      have q3 : wordR l p (k + 1) = wordR l p k := by rw [wordR, if_neg k0]
      by_cases k1 : byA p k = 124
      · have d1 : (((byA p k : Nat) : Int) == 124) = true := by rw [k1]; rfl
        have hs : skipT p k = true := by unfold skipT; rw [decide_eq_true k1, Bool.or_true]
        have q1 : wordV p m0 (k + 1) = wordV p m0 k := by rw [wordV, if_pos hs]
        have q2 : wordT p (k + 1) = wordT p k := by rw [wordT, if_pos hs]
        simp -implicitDefEqProofs (maxSteps := 2000000) only [go_sem, c2, eg, c3, d0, d1]
        rw [wk]
        exact ⟨k + 1, c3, by omega, (le_st' _ _ [⟨960, some _, false, 1, _⟩, ⟨961, some _, false, 1, _⟩, ⟨962, some _, false, 2, _⟩, ⟨963, some _, false, 1, _⟩] [] _ (by simp -implicitDefEqProofs (maxSteps := 2000000) only [go_sem, q1, q2, q3] <;> and_intros <;> rfl) (by simp -implicitDefEqProofs (maxSteps := 2000000) only [go_sem, q1, q2, q3] <;> and_intros <;> rfl) (by simp -implicitDefEqProofs (maxSteps := 2000000) only [go_sem, q1, q2, q3] <;> and_intros <;> rfl) (by rfl))⟩
      have d1 : (((byA p k : Nat) : Int) == 124) = false := by rw [beq_eq_false_iff_ne]; omega
      have hs : skipT p k = false := by unfold skipT; rw [decide_eq_false k0, decide_eq_false k1]; rfl
      have q2 : wordT p (k + 1) = wordT p k ++ [t1 p k] := by rw [wordT, hs, if_neg (by simp)]
      have q1 : wordV p m0 (k + 1) = if t1 p k + 1 > wordV p m0 k then t1 p k + 1 else wordV p m0 k := by rw [wordV, hs, if_neg (by simp)]
      have htl := pT_lo (p.extract k (k + 1))
      have wt : IntKind.i64.wrap (t1 p k + 1) = t1 p k + 1 := by unfold t1; exact IntWalk.i64_in _ (by omega)
      have etk : List.take (wordT p k).length (wordT p k) = wordT p k := List.take_length
      simp -implicitDefEqProofs (maxSteps := 2000000) only [go_sem, c2, eg, c3, d0, d1, wk, c4, Nat.le_add_right]
      refine call_of (specParseTerm_sat (p.extract k (k + 1))) (by simp -implicitDefEqProofs (maxSteps := 2000000) only [go_sem]) (by kernel_rfl) (by simp -implicitDefEqProofs (maxSteps := 2000000) only [go_sem]) ?_
      simp -implicitDefEqProofs (maxSteps := 2000000) only [go_sem]
      rw [show (pT (p.extract k (k + 1))).1 = t1 p k from rfl, wt]
      repeat (refine And.intro (by omega) ?_)
      rw [wk]
      refine ⟨k + 1, c3, by omega, ?_⟩
      exact (le_st' _ _ [⟨960, some _, false, 1, _⟩, ⟨961, some _, false, 1, _⟩, ⟨962, some _, false, 2, _⟩, ⟨963, some _, false, 1, _⟩] [] _ (by simp -implicitDefEqProofs (maxSteps := 2000000) only [go_sem, q1, q2, q3, repP, List.set_cons_zero, List.length_append, List.length_singleton] <;> and_intros <;> rfl) (by simp -implicitDefEqProofs (maxSteps := 2000000) only [go_sem, q1, q2, q3, repP, List.set_cons_zero, List.length_append, List.length_singleton] <;> and_intros <;> rfl) (by simp -implicitDefEqProofs (maxSteps := 2000000) only [go_sem, q1, q2, q3, repP, List.set_cons_zero, List.length_append, List.length_singleton] <;> and_intros <;> rfl) (by rfl))
    · obtain rfl : k = p.size := by omega
      simp -implicitDefEqProofs (maxSteps := 2000000) only [go_sem, c2, eg, c3]
      repeat (refine And.intro (by omega) ?_)
      rw [wi]
      refine ⟨i + 1, c2, by omega, ?_⟩
      exact (le_st' _ _ [⟨960, some _, false, 1, _⟩, ⟨961, some _, false, 1, _⟩, ⟨962, some _, false, 2, _⟩] [] _ (by simp -implicitDefEqProofs (maxSteps := 2000000) only [go_sem, hstA, hstV, hAi, repP, List.set_cons_zero] <;> and_intros <;> rfl) (by simp -implicitDefEqProofs (maxSteps := 2000000) only [go_sem, hstA, hstV, hAi, repP, List.set_cons_zero] <;> and_intros <;> rfl) (by simp -implicitDefEqProofs (maxSteps := 2000000) only [go_sem, hstA, hstV, hAi, repP, List.set_cons_zero] <;> and_intros <;> rfl) (by rfl))
  obtain rfl : i = ps.length := by omega
  have rtk : List.take ps.length (allA l ps ps.length) = allA l ps ps.length := List.take_of_length_le (by omega)
  have ftk : List.take w0.size (freeT w0 w0.size) = freeT w0 w0.size := List.take_of_length_le (by omega)
  rcases g : decide (quText l ⟨allV ps ps.length, allA l ps ps.length, freeT w0 w0.size⟩ = s)
  · simp -implicitDefEqProofs (maxSteps := 2000000) only [go_sem, c2, rtk, ftk]
    refine call_of (specFormatQuery_sat l ⟨allV ps ps.length, allA l ps ps.length, freeT w0 w0.size⟩ hl hq) (by simp -implicitDefEqProofs (maxSteps := 2000000) only [go_sem, g, rtk, ftk]) (callOk_still (by kernel_rfl) (by simp only [List.all_cons, List.all_nil, LV.still, LV.leaves, Leaf.still, ints_still, ris_still, eds_still, rels_still, iss_still, ems_still, Bool.and_self, Bool.and_true])) (by simp -implicitDefEqProofs (maxSteps := 2000000) only [go_sem, g, rtk, ftk]) ?_
    simp -implicitDefEqProofs (maxSteps := 2000000) only [go_sem, g, rtk, ftk]
    and_intros <;> rfl
  · simp -implicitDefEqProofs (maxSteps := 2000000) only [go_sem, c2, rtk, ftk]
    refine call_of (specFormatQuery_sat l ⟨allV ps ps.length, allA l ps ps.length, freeT w0 w0.size⟩ hl hq) (by simp -implicitDefEqProofs (maxSteps := 2000000) only [go_sem, g, rtk, ftk]) (callOk_still (by kernel_rfl) (by simp only [List.all_cons, List.all_nil, LV.still, LV.leaves, Leaf.still, ints_still, ris_still, eds_still, rels_still, iss_still, ems_still, Bool.and_self, Bool.and_true])) (by simp -implicitDefEqProofs (maxSteps := 2000000) only [go_sem, g, rtk, ftk]) ?_
    simp -implicitDefEqProofs (maxSteps := 2000000) only [go_sem, g, rtk, ftk]
    exact ⟨⟨by omega, by omega⟩, rfl⟩
end Go.Proofs.YtedciihjgbkjgabGreat.A
