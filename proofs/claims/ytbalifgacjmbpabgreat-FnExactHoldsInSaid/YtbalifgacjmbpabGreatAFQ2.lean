
/- VALID QUERIES: the two programs. Conditions: none. -/
import Derived.Test.YtbalifgacjmbpabGreatAFQ
namespace Go.Proofs.YtbalifgacjmbpabGreat.A
open Go
set_option linter.unusedSimpArgs false
set_option linter.unusedVariables false
set_option maxRecDepth 100000

theorem goodQu_atom {l : List Rel} {q : Qu} {i : Nat} (hi : i < q.atoms.length) (h : atomOk l q i = false) : goodQu l q = false := by
  unfold goodQu; rw [upTo_false hi h]; simp
theorem goodQu_var {l : List Rel} {q : Qu} {v : Nat} (hv : v < q.vc.toNat) (h : occurs q q.atoms.length v = false) : goodQu l q = false := by
  unfold goodQu; rw [upTo_false (p := fun v => occurs q q.atoms.length v) hv h]; simp
theorem goodQu_free {l : List Rel} {q : Qu} {v : Nat} (hv : v < q.free.length) (h : idxAt q.free q.vc v = false) : goodQu l q = false := by
  unfold goodQu idxs; rw [upTo_false hv h]; simp
theorem dec_snoc {l : List Int} {x v : Int} (h : v ≠ x) : decide (v ∈ l ++ [x]) = decide (v ∈ l) := by
  rw [Bool.eq_iff_iff, decide_eq_true_iff, decide_eq_true_iff, List.mem_append, List.mem_singleton]
  exact ⟨fun k => k.resolve_right h, .inl⟩
theorem specIsValidQuery_sat (l : List Rel) (q : Qu) (h : l.length ≤ 9223372036854775807) (hq : q.fit) : Sat Tryz.prog 73 [lRels l, lQu q] [lBool (goodQu l q)] [g1, g3] := by
  refine sat_of_body mixed Tryz.func73 rfl (by kernel_rfl) (by kernel_rfl) (rs := [.tmp 4]) rfl rfl rfl ?_
  have w0 : IntKind.i64.wrap ((l.length : Int) - 1) = (l.length : Int) - 1 := IntWalk.i64_in _ (by omega)
  simp -implicitDefEqProofs (maxSteps := 2000000) only [go_sem]
  rcases g : goodRels l
  · rw [show goodQu l q = false by rw [goodQu, g]; rfl]
    refine call_of (specAreValidRelations_sat l h) (by simp -implicitDefEqProofs (maxSteps := 2000000) only [go_sem, g]) (by kernel_rfl) (by simp -implicitDefEqProofs (maxSteps := 2000000) only [go_sem, g]) ?_
    simp -implicitDefEqProofs (maxSteps := 2000000) only [go_sem, g]
  rcases v1 : inB q.vc 0 4
  · rw [show goodQu l q = false by rw [goodQu, v1]; simp]
    refine call_of (specAreValidRelations_sat l h) (by simp -implicitDefEqProofs (maxSteps := 2000000) only [go_sem, g]) (by kernel_rfl) (by simp -implicitDefEqProofs (maxSteps := 2000000) only [go_sem, g]) ?_
    simp -implicitDefEqProofs (maxSteps := 2000000) only [go_sem, g]
    refine call_of (inB_sat q.vc 0 4) (by simp -implicitDefEqProofs (maxSteps := 2000000) only [go_sem, v1]) (by kernel_rfl) (by simp -implicitDefEqProofs (maxSteps := 2000000) only [go_sem, v1]) ?_
    simp -implicitDefEqProofs (maxSteps := 2000000) only [go_sem, v1]
  rcases v2 : inB q.atoms.length 1 3
  · rw [show goodQu l q = false by rw [goodQu, v2]; simp]
    refine call_of (specAreValidRelations_sat l h) (by simp -implicitDefEqProofs (maxSteps := 2000000) only [go_sem, g]) (by kernel_rfl) (by simp -implicitDefEqProofs (maxSteps := 2000000) only [go_sem, g]) ?_
    simp -implicitDefEqProofs (maxSteps := 2000000) only [go_sem, g]
    refine call_of (inB_sat q.vc 0 4) (by simp -implicitDefEqProofs (maxSteps := 2000000) only [go_sem, v1]) (by kernel_rfl) (by simp -implicitDefEqProofs (maxSteps := 2000000) only [go_sem, v1]) ?_
    simp -implicitDefEqProofs (maxSteps := 2000000) only [go_sem, v1]
    refine call_of (inB_sat q.atoms.length 1 3) (by simp -implicitDefEqProofs (maxSteps := 2000000) only [go_sem, v2]) (by kernel_rfl) (by simp -implicitDefEqProofs (maxSteps := 2000000) only [go_sem, v2]) ?_
    simp -implicitDefEqProofs (maxSteps := 2000000) only [go_sem, v2]
  obtain ⟨b1, b2⟩ := inB_of v1
  obtain ⟨b3, b4⟩ := inB_of v2
  have wv : IntKind.i64.wrap (q.vc - 1) = q.vc - 1 := IntWalk.i64_in _ (by omega)
  refine call_of (specAreValidRelations_sat l h) (by simp -implicitDefEqProofs (maxSteps := 2000000) only [go_sem, g]) (by kernel_rfl) (by simp -implicitDefEqProofs (maxSteps := 2000000) only [go_sem, g]) ?_
  simp -implicitDefEqProofs (maxSteps := 2000000) only [go_sem, g]
  refine call_of (inB_sat q.vc 0 4) (by simp -implicitDefEqProofs (maxSteps := 2000000) only [go_sem, v1]) (by kernel_rfl) (by simp -implicitDefEqProofs (maxSteps := 2000000) only [go_sem, v1]) ?_
  simp -implicitDefEqProofs (maxSteps := 2000000) only [go_sem, v1]
  refine call_of (inB_sat q.atoms.length 1 3) (by simp -implicitDefEqProofs (maxSteps := 2000000) only [go_sem, v2]) (by kernel_rfl) (by simp -implicitDefEqProofs (maxSteps := 2000000) only [go_sem, v2]) ?_
  simp -implicitDefEqProofs (maxSteps := 2000000) only [go_sem, v2]
  rw [show (4 : Int) = ((4 : Nat) : Int) from rfl, msK_n]
  refine ⟨by omega, ?_⟩
  simp -implicitDefEqProofs (maxSteps := 2000000) only [go_sem]
  obtain ⟨L0, hL0⟩ : ∃ L, L = List.replicate 4 false := ⟨_, rfl⟩
  rw [← hL0]
  refine awp_loop (Nat × List Bool) (fun x => mkSt [(0, .one (.im 3 (rels l))), (3, .one (.vad 1000 0)), (5, .one (.ref 960 1 0 4)), (6, .sc (.int .i64 x.1))] [(1000, sQu q)] [(960, (1, bls x.2))] 2000)
    (fun x => x.1 ≤ q.atoms.length ∧ upTo (atomOk l q) x.1 = true ∧ x.2 = met4 fun v => occurs q x.1 v) (fun x => q.atoms.length - x.1) (0, L0) ⟨by simp, rfl, hL0.trans rfl⟩ (le_st' _ _ [⟨960, some _, false, 1, _⟩] [] _ (by simp -implicitDefEqProofs (maxSteps := 2000000) only [go_sem] <;> and_intros <;> rfl) (by simp -implicitDefEqProofs (maxSteps := 2000000) only [go_sem] <;> and_intros <;> rfl) (by simp -implicitDefEqProofs (maxSteps := 2000000) only [go_sem] <;> and_intros <;> rfl) (by rfl)) ?_
  rintro ⟨i, b⟩ ⟨h1, h2, hb⟩
  simp only at h1 h2 hb
  have hbl : b.length = 4 := by rw [hb]; rfl
  by_cases c1 : i < q.atoms.length
  · have hfa : (q.atoms.getD i default).fit := hq.1.2 _ (mem_getD default c1)
    rcases ea : q.atoms.getD i default with ⟨r, ts⟩
    rw [ea] at hfa
    have hts : ts.length ≤ 9223372036854775807 := hfa
    have wi : IntKind.i64.wrap ((i : Int) + 1) = ((i + 1 : Nat) : Int) := i64_succ (by omega)
    rcases i1 : inB r 0 ((l.length : Int) - 1)
    · rw [goodQu_atom c1 (by rw [atomOk, ea, relAt, i1]; rfl)]
      simp -implicitDefEqProofs (maxSteps := 2000000) only [go_sem, c1, ea, w0]
      refine call_of (inB_sat r 0 ((l.length : Int) - 1)) (by simp -implicitDefEqProofs (maxSteps := 2000000) only [go_sem, i1]) (by kernel_rfl) (by simp -implicitDefEqProofs (maxSteps := 2000000) only [go_sem, i1]) ?_
      simp -implicitDefEqProofs (maxSteps := 2000000) only [go_sem, i1]
    obtain ⟨r1, r2⟩ := inB_of i1
    obtain ⟨m, rfl⟩ : ∃ m : Nat, r = m := ⟨r.toNat, by omega⟩
    have c2 : m < l.length := by omega
    rcases d2 : (ts.length : Int) == (l.getD m default).ar
    · have d3 : ((ts.length : Int) != (l.getD m default).ar) = true := by rw [bne, d2]; rfl
      rw [goodQu_atom c1 (by rw [atomOk, ea, relAt, i1]; simp only [Int.toNat_natCast, d2]; rfl)]
      simp -implicitDefEqProofs (maxSteps := 2000000) only [go_sem, c1, ea, w0]
      refine call_of (inB_sat m 0 ((l.length : Int) - 1)) (by simp -implicitDefEqProofs (maxSteps := 2000000) only [go_sem, i1, d3, c2]) (by kernel_rfl) (by simp -implicitDefEqProofs (maxSteps := 2000000) only [go_sem, i1, d3, c2]) ?_
      simp -implicitDefEqProofs (maxSteps := 2000000) only [go_sem, i1, d3, c2]
    have d3 : ((ts.length : Int) != (l.getD m default).ar) = false := by rw [bne, d2]; rfl
    have hrel : relAt l ⟨m, ts⟩ = true := by rw [relAt, i1]; simp only [Int.toNat_natCast, d2]; rfl
    simp -implicitDefEqProofs (maxSteps := 2000000) only [go_sem, c1, ea, w0]
    refine call_of (inB_sat m 0 ((l.length : Int) - 1)) (by simp -implicitDefEqProofs (maxSteps := 2000000) only [go_sem, i1, d3, c2]) (by kernel_rfl) (by simp -implicitDefEqProofs (maxSteps := 2000000) only [go_sem, i1, d3, c2]) ?_
    simp -implicitDefEqProofs (maxSteps := 2000000) only [go_sem, i1, d3, c2]
    refine awp_loop Nat (fun k => mkSt [(0, .one (.im 3 (rels l))), (3, .one (.vad 1000 0)), (5, .one (.ref 960 1 0 4)), (6, .sc (.int .i64 i)), (7, .one (.vad 2640 0)), (8, .sc (.int .i64 k))] [(1000, sQu q), (2640, sRI ⟨m, ts⟩)] [(960, (1, bls b))] 4000)
      (fun k => k ≤ i ∧ upTo (newRel q i) k = true) (fun k => i - k) 0 ⟨by omega, rfl⟩ (le_st' _ _ [⟨960, some _, false, 1, _⟩] [] _ (by simp -implicitDefEqProofs (maxSteps := 2000000) only [go_sem] <;> and_intros <;> rfl) (by simp -implicitDefEqProofs (maxSteps := 2000000) only [go_sem] <;> and_intros <;> rfl) (by simp -implicitDefEqProofs (maxSteps := 2000000) only [go_sem] <;> and_intros <;> rfl) (by rfl)) ?_
    rintro k ⟨h3, h4⟩
    by_cases c3 : k < i
    · have c4 : k < q.atoms.length := by omega
      rcases d4 : (q.atoms.getD k default).r == (m : Int)
      · simp -implicitDefEqProofs (maxSteps := 2000000) only [go_sem, c3, c4, d4]
        rw [i64_succ (by omega)]
        exact ⟨k + 1, ⟨c3, upTo_step h4 (by rw [newRel, ea, d4]; rfl)⟩, by omega, (le_st' _ _ [⟨960, some _, false, 1, _⟩] [] _ (by simp -implicitDefEqProofs (maxSteps := 2000000) only [go_sem] <;> and_intros <;> rfl) (by simp -implicitDefEqProofs (maxSteps := 2000000) only [go_sem] <;> and_intros <;> rfl) (by simp -implicitDefEqProofs (maxSteps := 2000000) only [go_sem] <;> and_intros <;> rfl) (by rfl))⟩
      · rw [goodQu_atom c1 (by rw [atomOk, upTo_false c3 (by rw [newRel, ea, d4]; rfl)]; simp)]
        simp -implicitDefEqProofs (maxSteps := 2000000) only [go_sem, c3, c4, d4]
    obtain rfl : k = i := by omega
    simp -implicitDefEqProofs (maxSteps := 2000000) only [go_sem, c3]
    refine awp_loop (Nat × List Bool) (fun x => mkSt [(0, .one (.im 3 (rels l))), (3, .one (.vad 1000 0)), (5, .one (.ref 960 1 0 4)), (6, .sc (.int .i64 k)), (7, .one (.vad 2640 0)), (9, .sc (.int .i64 x.1))] [(1000, sQu q), (2640, sRI ⟨m, ts⟩)] [(960, (1, bls x.2))] 6000)
      (fun x => x.1 ≤ ts.length ∧ upTo (termOk q.vc ts) x.1 = true ∧ x.2 = met4 fun v => occurs q k v || decide ((v : Int) ∈ ts.take x.1)) (fun x => ts.length - x.1) (0, b) ⟨by simp, rfl, hb.trans (met4_eq (p' := fun v => occurs q k v || decide ((v : Int) ∈ ts.take 0)) fun v => by simp)⟩ (le_st' _ _ [⟨960, some _, false, 1, _⟩] [] _ (by simp -implicitDefEqProofs (maxSteps := 2000000) only [go_sem] <;> and_intros <;> rfl) (by simp -implicitDefEqProofs (maxSteps := 2000000) only [go_sem] <;> and_intros <;> rfl) (by simp -implicitDefEqProofs (maxSteps := 2000000) only [go_sem] <;> and_intros <;> rfl) (by rfl)) ?_
    rintro ⟨j, bb⟩ ⟨h5, h6, hbb⟩
    simp only at h5 h6 hbb
    have hbbl : bb.length = 4 := by rw [hbb]; rfl
    by_cases c5 : j < ts.length
    · rcases d5 : inB (ts.getD j 0) (-10) (q.vc - 1)
      · rw [goodQu_atom c1 (by rw [atomOk, ea, upTo_false c5 (by rw [termOk, d5])]; simp)]
        simp -implicitDefEqProofs (maxSteps := 2000000) only [go_sem, c5, wv]
        refine call_of (inB_sat (ts.getD j 0) (-10) (q.vc - 1)) (by simp -implicitDefEqProofs (maxSteps := 2000000) only [go_sem, d5]) (by kernel_rfl) (by simp -implicitDefEqProofs (maxSteps := 2000000) only [go_sem, d5]) ?_
        simp -implicitDefEqProofs (maxSteps := 2000000) only [go_sem, d5]
      obtain ⟨t1, t2⟩ := inB_of d5
      have hts1 : ts.take (j + 1) = ts.take j ++ [ts.getD j 0] := take_snoc 0 c5
      have h6' := upTo_step h6 (show termOk q.vc ts j = true by rw [termOk, d5])
      simp -implicitDefEqProofs (maxSteps := 2000000) only [go_sem, c5, wv]
      refine call_of (inB_sat (ts.getD j 0) (-10) (q.vc - 1)) (by simp -implicitDefEqProofs (maxSteps := 2000000) only [go_sem, d5, c5]) (by kernel_rfl) (by simp -implicitDefEqProofs (maxSteps := 2000000) only [go_sem, d5, c5]) ?_
      simp -implicitDefEqProofs (maxSteps := 2000000) only [go_sem, d5, c5]
      by_cases c6 : 0 ≤ ts.getD j 0
      · obtain ⟨t, ht⟩ : ∃ t : Nat, ts.getD j 0 = t := ⟨(ts.getD j 0).toNat, by omega⟩
        have c7 : t < 4 := by omega
        have c8 : 0 ≤ (t : Int) := by omega
        simp -implicitDefEqProofs (maxSteps := 2000000) only [go_sem, ht, c5, c7, c8, hbbl]
        rw [i64_succ (by omega)]
        refine ⟨(j + 1, bb.set t true), ⟨c5, h6', ?_⟩, by simp; omega, (le_st' _ _ [⟨960, some _, false, 1, _⟩] [] _ (by simp -implicitDefEqProofs (maxSteps := 2000000) only [go_sem, hbbl, c7] <;> and_intros <;> rfl) (by simp -implicitDefEqProofs (maxSteps := 2000000) only [go_sem, hbbl, c7] <;> and_intros <;> rfl) (by simp -implicitDefEqProofs (maxSteps := 2000000) only [go_sem, hbbl, c7] <;> and_intros <;> rfl) (by rfl))⟩
        rw [hbb]
        exact met4_set c7 (by rw [hts1, ht]; simp) (fun v hv => by rw [hts1, ht, dec_snoc (fun e => hv (by omega))])
      · simp -implicitDefEqProofs (maxSteps := 2000000) only [go_sem, c6]
        rw [i64_succ (by omega)]
        refine ⟨(j + 1, bb), ⟨c5, h6', ?_⟩, by simp; omega, (le_st' _ _ [⟨960, some _, false, 1, _⟩] [] _ (by simp -implicitDefEqProofs (maxSteps := 2000000) only [go_sem] <;> and_intros <;> rfl) (by simp -implicitDefEqProofs (maxSteps := 2000000) only [go_sem] <;> and_intros <;> rfl) (by simp -implicitDefEqProofs (maxSteps := 2000000) only [go_sem] <;> and_intros <;> rfl) (by rfl))⟩
        exact hbb.trans (met4_eq (p' := fun v => occurs q k v || decide ((v : Int) ∈ ts.take (j + 1))) fun v => by rw [hts1, dec_snoc (by omega)])
    · obtain rfl : j = ts.length := by omega
      simp -implicitDefEqProofs (maxSteps := 2000000) only [go_sem, c5, wi]
      refine ⟨(k + 1, bb), ⟨c1, upTo_step h2 (by rw [atomOk, ea, hrel, h4, h6]; rfl), ?_⟩, by simp; omega, (le_st' _ _ [⟨960, some _, false, 1, _⟩] [] _ (by simp -implicitDefEqProofs (maxSteps := 2000000) only [go_sem] <;> and_intros <;> rfl) (by simp -implicitDefEqProofs (maxSteps := 2000000) only [go_sem] <;> and_intros <;> rfl) (by simp -implicitDefEqProofs (maxSteps := 2000000) only [go_sem] <;> and_intros <;> rfl) (by rfl))⟩
      exact hbb.trans (met4_eq (p' := fun v => occurs q (k + 1) v) fun v => by rw [occurs_step c1, ea, List.take_length])
  obtain rfl : i = q.atoms.length := by omega
  simp -implicitDefEqProofs (maxSteps := 2000000) only [go_sem, c1]
  refine awp_loop Nat (fun v => mkSt [(3, .one (.vad 1000 0)), (5, .one (.ref 960 1 0 4)), (10, .sc (.int .i64 v))] [(1000, sQu q)] [(960, (1, bls b))] 4000)
    (fun v => v ≤ q.vc.toNat ∧ upTo (fun v => occurs q q.atoms.length v) v = true) (fun v => q.vc.toNat - v) 0 ⟨by omega, rfl⟩ (le_st' _ _ [⟨960, some _, false, 1, _⟩] [] _ (by simp -implicitDefEqProofs (maxSteps := 2000000) only [go_sem] <;> and_intros <;> rfl) (by simp -implicitDefEqProofs (maxSteps := 2000000) only [go_sem] <;> and_intros <;> rfl) (by simp -implicitDefEqProofs (maxSteps := 2000000) only [go_sem] <;> and_intros <;> rfl) (by rfl)) ?_
  rintro v ⟨h3, h4⟩
  by_cases c3 : v < q.vc.toNat
  · have c4 : (v : Int) < q.vc := by omega
    have c5 : v < 4 := by omega
    have e5 : b.getD v false = occurs q q.atoms.length v := by rw [hb]; exact met4_get (p := fun v => occurs q q.atoms.length v) c5
    rcases d5 : occurs q q.atoms.length v
    · rw [goodQu_var c3 d5]
      simp -implicitDefEqProofs (maxSteps := 2000000) only [go_sem, c4, c5, e5, d5, hbl]
    · simp -implicitDefEqProofs (maxSteps := 2000000) only [go_sem, c4, c5, e5, d5, hbl]
      rw [i64_succ (by omega)]
      exact ⟨v + 1, ⟨c3, upTo_step h4 d5⟩, by omega, (le_st' _ _ [⟨960, some _, false, 1, _⟩] [] _ (by simp -implicitDefEqProofs (maxSteps := 2000000) only [go_sem] <;> and_intros <;> rfl) (by simp -implicitDefEqProofs (maxSteps := 2000000) only [go_sem] <;> and_intros <;> rfl) (by simp -implicitDefEqProofs (maxSteps := 2000000) only [go_sem] <;> and_intros <;> rfl) (by rfl))⟩
  obtain rfl : v = q.vc.toNat := by omega
  have c4 : ¬ ((q.vc.toNat : Nat) : Int) < q.vc := by omega
  simp -implicitDefEqProofs (maxSteps := 2000000) only [go_sem, c4]
  have hff := hq.2
  refine awp_loop Nat (fun k => mkSt [(3, .one (.vad 1000 0)), (11, .sc (.int .i64 k))] [(1000, sQu q)] [] 6000)
    (fun k => k ≤ q.free.length ∧ upTo (idxAt q.free q.vc) k = true) (fun k => q.free.length - k) 0 ⟨by omega, rfl⟩ (le_st _ _ [] [] _ rfl (by simp -implicitDefEqProofs (maxSteps := 2000000) only [go_sem] <;> rfl) (by simp -implicitDefEqProofs (maxSteps := 2000000) only [go_sem] <;> rfl) (by simp -implicitDefEqProofs (maxSteps := 2000000) only [go_sem] <;> rfl)) ?_
  rintro k ⟨h5, h6⟩
  by_cases e1 : k < q.free.length
  · rcases d1 : inB (q.free.getD k 0) 0 (q.vc - 1)
    · rw [goodQu_free e1 (by rw [idxAt, d1]; rfl)]
      simp -implicitDefEqProofs (maxSteps := 2000000) only [go_sem, e1, wv]
      refine call_of (inB_sat (q.free.getD k 0) 0 (q.vc - 1)) (by simp -implicitDefEqProofs (maxSteps := 2000000) only [go_sem, d1, e1]) (by kernel_rfl) (by simp -implicitDefEqProofs (maxSteps := 2000000) only [go_sem, d1, e1]) ?_
      simp -implicitDefEqProofs (maxSteps := 2000000) only [go_sem, d1, e1]
    rcases k with _ | j
    · have e : idxAt q.free q.vc 0 = true := by rw [idxAt, d1]; rfl
      have e0 : (0 : Int) < q.free.length := by omega
      simp -implicitDefEqProofs (maxSteps := 2000000) only [go_sem, e1, e0, wv]
      refine call_of (inB_sat (q.free.getD 0 0) 0 (q.vc - 1)) (by simp -implicitDefEqProofs (maxSteps := 2000000) only [go_sem, d1, e1, e0]) (by kernel_rfl) (by simp -implicitDefEqProofs (maxSteps := 2000000) only [go_sem, d1, e1, e0]) ?_
      simp -implicitDefEqProofs (maxSteps := 2000000) only [go_sem, d1, e1, e0]
      exact ⟨1, ⟨e1, upTo_step h6 e⟩, by omega, (le_st _ _ [] [] _ rfl (by simp -implicitDefEqProofs (maxSteps := 2000000) only [go_sem] <;> rfl) (by simp -implicitDefEqProofs (maxSteps := 2000000) only [go_sem] <;> rfl) (by simp -implicitDefEqProofs (maxSteps := 2000000) only [go_sem] <;> rfl))⟩
    · have e2 : j < q.free.length := by omega
      have e3 : 0 < ((j + 1 : Nat) : Int) := by omega
      have w1 := i64_pred (j := j) (by omega)
      rcases d2 : decide (q.free.getD (j + 1) 0 ≤ q.free.getD j 0)
      · have e : idxAt q.free q.vc (j + 1) = true := by rw [idxAt, d1, Nat.add_sub_cancel, d2]; rfl
        simp -implicitDefEqProofs (maxSteps := 2000000) only [go_sem, e1, wv]
        refine call_of (inB_sat (q.free.getD (j + 1) 0) 0 (q.vc - 1)) (by simp -implicitDefEqProofs (maxSteps := 2000000) only [go_sem, d1, d2, e1, e2, e3, w1]) (by kernel_rfl) (by simp -implicitDefEqProofs (maxSteps := 2000000) only [go_sem, d1, d2, e1, e2, e3, w1]) ?_
        simp -implicitDefEqProofs (maxSteps := 2000000) only [go_sem, d1, d2, e1, e2, e3, w1]
        rw [i64_succ (by omega)]
        exact ⟨j + 1 + 1, ⟨e1, upTo_step h6 e⟩, by omega, (le_st _ _ [] [] _ rfl (by simp -implicitDefEqProofs (maxSteps := 2000000) only [go_sem] <;> rfl) (by simp -implicitDefEqProofs (maxSteps := 2000000) only [go_sem] <;> rfl) (by simp -implicitDefEqProofs (maxSteps := 2000000) only [go_sem] <;> rfl))⟩
      · rw [goodQu_free e1 (show idxAt q.free q.vc (j + 1) = false by rw [idxAt, d1, Nat.add_sub_cancel, d2]; rfl)]
        simp -implicitDefEqProofs (maxSteps := 2000000) only [go_sem, e1, wv]
        refine call_of (inB_sat (q.free.getD (j + 1) 0) 0 (q.vc - 1)) (by simp -implicitDefEqProofs (maxSteps := 2000000) only [go_sem, d1, d2, e1, e2, e3, w1]) (by kernel_rfl) (by simp -implicitDefEqProofs (maxSteps := 2000000) only [go_sem, d1, d2, e1, e2, e3, w1]) ?_
        simp -implicitDefEqProofs (maxSteps := 2000000) only [go_sem, d1, d2, e1, e2, e3, w1]
  · obtain rfl : k = q.free.length := by omega
    simp -implicitDefEqProofs (maxSteps := 2000000) only [go_sem, e1]
    rw [goodQu, g, v1, v2, idxs, h6, h2, h4]
    rfl
theorem upTo_congr {p p' : Nat → Bool} : ∀ {n : Nat}, (∀ k, k < n → p k = p' k) → upTo p n = upTo p' n
  | 0, _ => rfl
  | n + 1, h => by rw [upTo, upTo, upTo_congr fun k hk => h k (by omega), h n (by omega)]
def otherRel (a : RI) (l : List RI) (k : Nat) : Bool := !((l.getD k default).r == a.r)
abbrev fRI (a : RI) : List Fld := [.sc (.int .i64 a.r), .im 1 (ints a.l)]
theorem isValidQuery1_sat (a b : RI) : Sat Tryz.prog 112 [lRI b, .one (.ip (fRI a))] [lBool (b.r == a.r)] [g2, g1] := by
  refine sat_of_body mixed Tryz.func112 rfl (by kernel_rfl) (by kernel_rfl) (rs := [.tmp 3]) rfl rfl rfl ?_
  simp -implicitDefEqProofs (maxSteps := 2000000) only [go_sem]
theorem atomsIndex_sat (l : List RI) (a : RI) (h : l.length ≤ 9223372036854775807) : Sat Tryz.prog 139 [lRIs l, .one (.fn 112 [fRI a])] [lInt (firstNo (otherRel a l) l.length 0)] [g1, g1] := by
  refine sat_of_body mixed Tryz.func139 rfl (by kernel_rfl) (by kernel_rfl) (rs := [.tmp 4]) rfl rfl rfl ?_
  simp -implicitDefEqProofs (maxSteps := 2000000) only [go_sem]
  refine awp_loop Nat (fun k => mkSt [(0, .one (.im 2 (ris 0 l))), (1, .one (.fni 112 [fRI a])), (7, .sc (.int .i64 l.length)), (8, .sc (.int .i64 k))] [] [] 1000)
    (fun k => k ≤ l.length ∧ firstNo (otherRel a l) (l.length - k) k = firstNo (otherRel a l) l.length 0) (fun k => l.length - k) 0 ⟨by omega, rfl⟩ (le_st _ _ [] [] _ rfl (by simp -implicitDefEqProofs (maxSteps := 2000000) only [go_sem] <;> rfl) trivial trivial) ?_
  rintro k ⟨h1, h2⟩
  by_cases c1 : k < l.length
  · rw [show l.length - k = (l.length - (k + 1)) + 1 by omega, firstNo] at h2
    rcases d : (l.getD k default).r == a.r
    · rw [if_pos (by rw [otherRel, d]; rfl)] at h2
      simp -implicitDefEqProofs (maxSteps := 2000000) only [go_sem, c1]
      refine call_of (isValidQuery1_sat a (l.getD k default)) (by simp -implicitDefEqProofs (maxSteps := 2000000) only [go_sem, d, c1]) (by kernel_rfl) (by simp -implicitDefEqProofs (maxSteps := 2000000) only [go_sem, d, c1]) ?_
      simp -implicitDefEqProofs (maxSteps := 2000000) only [go_sem, d, c1]
      rw [i64_succ (by omega)]
      exact ⟨k + 1, ⟨c1, h2⟩, by omega, (le_st _ _ [] [] _ rfl (by simp -implicitDefEqProofs (maxSteps := 2000000) only [go_sem] <;> rfl) trivial trivial)⟩
    · rw [if_neg (by rw [otherRel, d]; simp)] at h2
      simp -implicitDefEqProofs (maxSteps := 2000000) only [go_sem, c1]
      refine call_of (isValidQuery1_sat a (l.getD k default)) (by simp -implicitDefEqProofs (maxSteps := 2000000) only [go_sem, d, c1]) (by kernel_rfl) (by simp -implicitDefEqProofs (maxSteps := 2000000) only [go_sem, d, c1]) ?_
      simp -implicitDefEqProofs (maxSteps := 2000000) only [go_sem, d, c1]
      rw [← h2]
  · obtain rfl : k = l.length := by omega
    rw [Nat.sub_self, firstNo] at h2
    simp -implicitDefEqProofs (maxSteps := 2000000) only [go_sem, c1]
    rw [← h2]
theorem atomsContains_sat (l : List RI) (a : RI) (h : l.length ≤ 9223372036854775807) : Sat Tryz.prog 111 [lRIs l, .one (.fn 112 [fRI a])] [lBool (!upTo (otherRel a l) l.length)] [g1, g1] := by
  refine sat_of_body mixed Tryz.func111 rfl (by kernel_rfl) (by kernel_rfl) (rs := [.tmp 4]) rfl rfl rfl ?_
  simp -implicitDefEqProofs (maxSteps := 2000000) only [go_sem]
  refine call_of (atomsIndex_sat l a h) (by simp -implicitDefEqProofs (maxSteps := 2000000) only [go_sem]) (by kernel_rfl) (by simp -implicitDefEqProofs (maxSteps := 2000000) only [go_sem]) ?_
  simp -implicitDefEqProofs (maxSteps := 2000000) only [go_sem]
  rw [firstNo_ge _ _ _ rfl, Nat.zero_add]
theorem implIsValidQuery_sat (l : List Rel) (q : Qu) (h : l.length ≤ 9223372036854775807) (hq : q.ok) : Sat Tryz.prog 79 [lRels l, lQu q] [lBool (goodQu l q)] [g1, g3] := by
  refine sat_of_body mixed Tryz.func79 rfl (by kernel_rfl) (by kernel_rfl) (rs := [.tmp 4]) rfl rfl rfl ?_
  have w0 : IntKind.i64.wrap ((l.length : Int) - 1) = (l.length : Int) - 1 := IntWalk.i64_in _ (by omega)
  have hff : q.free.length ≤ 9223372036854775807 := by have := hq.2; omega
  simp -implicitDefEqProofs (maxSteps := 2000000) only [go_sem]
  rcases g : goodRels l
  · rw [show goodQu l q = false by rw [goodQu, g]; rfl]
    refine call_of (implAreValidRelations_sat l h) (by simp -implicitDefEqProofs (maxSteps := 2000000) only [go_sem, g]) (by kernel_rfl) (by simp -implicitDefEqProofs (maxSteps := 2000000) only [go_sem, g]) ?_
    simp -implicitDefEqProofs (maxSteps := 2000000) only [go_sem, g]
  rcases v1 : inB q.vc 0 4
  · rw [show goodQu l q = false by rw [goodQu, v1]; simp]
    refine call_of (implAreValidRelations_sat l h) (by simp -implicitDefEqProofs (maxSteps := 2000000) only [go_sem, g]) (by kernel_rfl) (by simp -implicitDefEqProofs (maxSteps := 2000000) only [go_sem, g]) ?_
    simp -implicitDefEqProofs (maxSteps := 2000000) only [go_sem, g]
    refine call_of (inW_sat q.vc 0 4) (by simp -implicitDefEqProofs (maxSteps := 2000000) only [go_sem, v1]) (by kernel_rfl) (by simp -implicitDefEqProofs (maxSteps := 2000000) only [go_sem, v1]) ?_
    simp -implicitDefEqProofs (maxSteps := 2000000) only [go_sem, v1]
  rcases v2 : inB q.atoms.length 1 3
  · rw [show goodQu l q = false by rw [goodQu, v2]; simp]
    refine call_of (implAreValidRelations_sat l h) (by simp -implicitDefEqProofs (maxSteps := 2000000) only [go_sem, g]) (by kernel_rfl) (by simp -implicitDefEqProofs (maxSteps := 2000000) only [go_sem, g]) ?_
    simp -implicitDefEqProofs (maxSteps := 2000000) only [go_sem, g]
    refine call_of (inW_sat q.vc 0 4) (by simp -implicitDefEqProofs (maxSteps := 2000000) only [go_sem, v1]) (by kernel_rfl) (by simp -implicitDefEqProofs (maxSteps := 2000000) only [go_sem, v1]) ?_
    simp -implicitDefEqProofs (maxSteps := 2000000) only [go_sem, v1]
    refine call_of (inW_sat q.atoms.length 1 3) (by simp -implicitDefEqProofs (maxSteps := 2000000) only [go_sem, v2]) (by kernel_rfl) (by simp -implicitDefEqProofs (maxSteps := 2000000) only [go_sem, v2]) ?_
    simp -implicitDefEqProofs (maxSteps := 2000000) only [go_sem, v2]
  obtain ⟨b1, b2⟩ := inB_of v1
  obtain ⟨b3, b4⟩ := inB_of v2
  have wv : IntKind.i64.wrap (q.vc - 1) = q.vc - 1 := IntWalk.i64_in _ (by omega)
  rcases v3 : idxs q.free q.vc
  · rw [show goodQu l q = false by rw [goodQu, v3]; simp]
    refine call_of (implAreValidRelations_sat l h) (by simp -implicitDefEqProofs (maxSteps := 2000000) only [go_sem, g]) (by kernel_rfl) (by simp -implicitDefEqProofs (maxSteps := 2000000) only [go_sem, g]) ?_
    simp -implicitDefEqProofs (maxSteps := 2000000) only [go_sem, g]
    refine call_of (inW_sat q.vc 0 4) (by simp -implicitDefEqProofs (maxSteps := 2000000) only [go_sem, v1]) (by kernel_rfl) (by simp -implicitDefEqProofs (maxSteps := 2000000) only [go_sem, v1]) ?_
    simp -implicitDefEqProofs (maxSteps := 2000000) only [go_sem, v1]
    refine call_of (inW_sat q.atoms.length 1 3) (by simp -implicitDefEqProofs (maxSteps := 2000000) only [go_sem, v2]) (by kernel_rfl) (by simp -implicitDefEqProofs (maxSteps := 2000000) only [go_sem, v2]) ?_
    simp -implicitDefEqProofs (maxSteps := 2000000) only [go_sem, v2]
    refine call_of (areIndices_sat q.free q.vc hff (by omega)) (by simp -implicitDefEqProofs (maxSteps := 2000000) only [go_sem, v3]) (by kernel_rfl) (by simp -implicitDefEqProofs (maxSteps := 2000000) only [go_sem, v3]) ?_
    simp -implicitDefEqProofs (maxSteps := 2000000) only [go_sem, v3]
  refine call_of (implAreValidRelations_sat l h) (by simp -implicitDefEqProofs (maxSteps := 2000000) only [go_sem, g]) (by kernel_rfl) (by simp -implicitDefEqProofs (maxSteps := 2000000) only [go_sem, g]) ?_
  simp -implicitDefEqProofs (maxSteps := 2000000) only [go_sem, g]
  refine call_of (inW_sat q.vc 0 4) (by simp -implicitDefEqProofs (maxSteps := 2000000) only [go_sem, v1]) (by kernel_rfl) (by simp -implicitDefEqProofs (maxSteps := 2000000) only [go_sem, v1]) ?_
  simp -implicitDefEqProofs (maxSteps := 2000000) only [go_sem, v1]
  refine call_of (inW_sat q.atoms.length 1 3) (by simp -implicitDefEqProofs (maxSteps := 2000000) only [go_sem, v2]) (by kernel_rfl) (by simp -implicitDefEqProofs (maxSteps := 2000000) only [go_sem, v2]) ?_
  simp -implicitDefEqProofs (maxSteps := 2000000) only [go_sem, v2]
  refine call_of (areIndices_sat q.free q.vc hff (by omega)) (by simp -implicitDefEqProofs (maxSteps := 2000000) only [go_sem, v3]) (by kernel_rfl) (by simp -implicitDefEqProofs (maxSteps := 2000000) only [go_sem, v3]) ?_
  simp -implicitDefEqProofs (maxSteps := 2000000) only [go_sem, v3]
  refine awp_loop Nat (fun i => mkSt [(0, .one (.im 3 (rels l))), (3, .one (.vad 1000 0)), (5, .one (.ref 960 1 0 (selN (occurs q i) 4).length)), (36, .one (.im 2 (ris 0 q.atoms))), (37, .sc (.int .i64 q.atoms.length)), (38, .sc (.int .i64 i))] [(1000, sQu q)] [(960, (1, ints (selN (occurs q i) 4)))] 2000)
    (fun i => i ≤ q.atoms.length ∧ upTo (atomOk l q) i = true) (fun i => q.atoms.length - i) 0 ⟨by omega, rfl⟩ (le_st' _ _ [⟨960, some _, false, 1, _⟩] [] _ (by simp -implicitDefEqProofs (maxSteps := 2000000) only [go_sem] <;> and_intros <;> rfl) (by simp -implicitDefEqProofs (maxSteps := 2000000) only [go_sem] <;> and_intros <;> rfl) (by simp -implicitDefEqProofs (maxSteps := 2000000) only [go_sem] <;> and_intros <;> rfl) (by rfl)) ?_
  rintro i ⟨h1, h2⟩
  have hlo := selN_len (occurs q i) 4
  by_cases c1 : i < q.atoms.length
  · have hfa : (q.atoms.getD i default).ok := hq.1.2 _ (mem_getD default c1)
    have hun := uni_occurs (q := q) c1
    have hvl := varsOf_len (q.atoms.getD i default).l
    rcases ea : q.atoms.getD i default with ⟨r, ts⟩
    rw [ea] at hfa hun hvl
    have hts : ts.length ≤ 1048576 := hfa
    have wi : IntKind.i64.wrap ((i : Int) + 1) = ((i + 1 : Nat) : Int) := i64_succ (by omega)
    rcases i1 : inB r 0 ((l.length : Int) - 1)
    · rw [goodQu_atom c1 (by rw [atomOk, ea, relAt, i1]; rfl)]
      simp -implicitDefEqProofs (maxSteps := 2000000) only [go_sem, c1, ea, w0]
      refine call_of (inW_sat r 0 ((l.length : Int) - 1)) (by simp -implicitDefEqProofs (maxSteps := 2000000) only [go_sem, i1]) (by kernel_rfl) (by simp -implicitDefEqProofs (maxSteps := 2000000) only [go_sem, i1]) ?_
      simp -implicitDefEqProofs (maxSteps := 2000000) only [go_sem, i1]
    obtain ⟨r1, r2⟩ := inB_of i1
    obtain ⟨m, rfl⟩ : ∃ m : Nat, r = m := ⟨r.toNat, by omega⟩
    have c2 : m < l.length := by omega
    rcases d2 : (ts.length : Int) == (l.getD m default).ar
    · have d3 : ((ts.length : Int) != (l.getD m default).ar) = true := by rw [bne, d2]; rfl
      rw [goodQu_atom c1 (by rw [atomOk, ea, relAt, i1]; simp only [Int.toNat_natCast, d2]; rfl)]
      simp -implicitDefEqProofs (maxSteps := 2000000) only [go_sem, c1, ea, w0]
      refine call_of (inW_sat m 0 ((l.length : Int) - 1)) (by simp -implicitDefEqProofs (maxSteps := 2000000) only [go_sem, i1, d3, c2]) (by kernel_rfl) (by simp -implicitDefEqProofs (maxSteps := 2000000) only [go_sem, i1, d3, c2]) ?_
      simp -implicitDefEqProofs (maxSteps := 2000000) only [go_sem, i1, d3, c2]
    have d3 : ((ts.length : Int) != (l.getD m default).ar) = false := by rw [bne, d2]; rfl
    have hrel : relAt l ⟨m, ts⟩ = true := by rw [relAt, i1]; simp only [Int.toNat_natCast, d2]; rfl
    have c3 : i ≤ q.atoms.length := by omega
    have hup : upTo (otherRel ⟨m, ts⟩ (q.atoms.take i)) (q.atoms.take i).length = upTo (newRel q i) i := by
      rw [List.length_take, Nat.min_eq_left c3]
      refine upTo_congr fun k hk => ?_
      rw [otherRel, newRel, ea]
      rw [List.getD_eq_getElem?_getD, List.getD_eq_getElem?_getD, List.getElem?_take_of_lt hk]
    rcases d4 : upTo (newRel q i) i
    · rw [goodQu_atom c1 (by rw [atomOk, d4]; simp)]
      simp -implicitDefEqProofs (maxSteps := 2000000) only [go_sem, c1, ea, w0]
      refine call_of (inW_sat m 0 ((l.length : Int) - 1)) (by simp -implicitDefEqProofs (maxSteps := 2000000) only [go_sem, i1, d3, c2, c3, Nat.zero_le]) (by kernel_rfl) (by simp -implicitDefEqProofs (maxSteps := 2000000) only [go_sem, i1, d3, c2, c3, Nat.zero_le]) ?_
      simp -implicitDefEqProofs (maxSteps := 2000000) only [go_sem, i1, d3, c2, c3, Nat.zero_le]
      refine call_of (atomsContains_sat (q.atoms.take i) ⟨m, ts⟩ (by rw [List.length_take]; omega)) (by simp -implicitDefEqProofs (maxSteps := 2000000) only [go_sem, hup, d4, c3]) (by kernel_rfl) (by simp -implicitDefEqProofs (maxSteps := 2000000) only [go_sem, hup, d4, c3]) ?_
      simp -implicitDefEqProofs (maxSteps := 2000000) only [go_sem, hup, d4, c3]
    simp -implicitDefEqProofs (maxSteps := 2000000) only [go_sem, c1, ea, w0]
    refine call_of (inW_sat m 0 ((l.length : Int) - 1)) (by simp -implicitDefEqProofs (maxSteps := 2000000) only [go_sem, i1, d3, c2, c3, Nat.zero_le]) (by kernel_rfl) (by simp -implicitDefEqProofs (maxSteps := 2000000) only [go_sem, i1, d3, c2, c3, Nat.zero_le]) ?_
    simp -implicitDefEqProofs (maxSteps := 2000000) only [go_sem, i1, d3, c2, c3, Nat.zero_le]
    refine call_of (atomsContains_sat (q.atoms.take i) ⟨m, ts⟩ (by rw [List.length_take]; omega)) (by simp -implicitDefEqProofs (maxSteps := 2000000) only [go_sem, hup, d4, c3]) (by kernel_rfl) (by simp -implicitDefEqProofs (maxSteps := 2000000) only [go_sem, hup, d4, c3]) ?_
    simp -implicitDefEqProofs (maxSteps := 2000000) only [go_sem, hup, d4, c3]
    refine awp_loop Nat (fun j => mkSt [(0, .one (.im 3 (rels l))), (3, .one (.vad 1000 0)), (5, .one (.ref 960 1 0 (selN (occurs q i) 4).length)), (7, .one (.vad 2256 0)), (36, .one (.im 2 (ris 0 q.atoms))), (37, .sc (.int .i64 q.atoms.length)), (38, .sc (.int .i64 i)), (71, .one (.im 1 (ints ts))), (72, .sc (.int .i64 ts.length)), (73, .sc (.int .i64 j))] [(1000, sQu q), (2256, sRI ⟨m, ts⟩)] [(960, (1, ints (selN (occurs q i) 4)))] 6000)
      (fun j => j ≤ ts.length ∧ upTo (termOk q.vc ts) j = true) (fun j => ts.length - j) 0 ⟨by omega, rfl⟩ (le_st' _ _ [⟨960, some _, false, 1, _⟩] [] _ (by simp -implicitDefEqProofs (maxSteps := 2000000) only [go_sem] <;> and_intros <;> rfl) (by simp -implicitDefEqProofs (maxSteps := 2000000) only [go_sem] <;> and_intros <;> rfl) (by simp -implicitDefEqProofs (maxSteps := 2000000) only [go_sem] <;> and_intros <;> rfl) (by rfl)) ?_
    rintro j ⟨h5, h6⟩
    by_cases c5 : j < ts.length
    · rcases d5 : inB (ts.getD j 0) (-10) (q.vc - 1)
      · rw [goodQu_atom c1 (by rw [atomOk, ea, upTo_false c5 (by rw [termOk, d5])]; simp)]
        simp -implicitDefEqProofs (maxSteps := 2000000) only [go_sem, c5, wv]
        refine call_of (inW_sat (ts.getD j 0) (-10) (q.vc - 1)) (by simp -implicitDefEqProofs (maxSteps := 2000000) only [go_sem, d5]) (by kernel_rfl) (by simp -implicitDefEqProofs (maxSteps := 2000000) only [go_sem, d5]) ?_
        simp -implicitDefEqProofs (maxSteps := 2000000) only [go_sem, d5]
      simp -implicitDefEqProofs (maxSteps := 2000000) only [go_sem, c5, wv]
      refine call_of (inW_sat (ts.getD j 0) (-10) (q.vc - 1)) (by simp -implicitDefEqProofs (maxSteps := 2000000) only [go_sem, d5, c5]) (by kernel_rfl) (by simp -implicitDefEqProofs (maxSteps := 2000000) only [go_sem, d5, c5]) ?_
      simp -implicitDefEqProofs (maxSteps := 2000000) only [go_sem, d5, c5]
      rw [i64_succ (by omega)]
      exact ⟨j + 1, ⟨c5, upTo_step h6 (by rw [termOk, d5])⟩, by omega, (le_st' _ _ [⟨960, some _, false, 1, _⟩] [] _ (by simp -implicitDefEqProofs (maxSteps := 2000000) only [go_sem] <;> and_intros <;> rfl) (by simp -implicitDefEqProofs (maxSteps := 2000000) only [go_sem] <;> and_intros <;> rfl) (by simp -implicitDefEqProofs (maxSteps := 2000000) only [go_sem] <;> and_intros <;> rfl) (by rfl))⟩
    · obtain rfl : j = ts.length := by omega
      simp -implicitDefEqProofs (maxSteps := 2000000) only [go_sem, c5]
      refine call_of (implAtomVariables_sat ⟨m, ts⟩ hfa) (by simp -implicitDefEqProofs (maxSteps := 2000000) only [go_sem]) (callOk_still (by kernel_rfl) (by simp only [List.all_cons, List.all_nil, LV.still, LV.leaves, Leaf.still, ints_still, ris_still, eds_still, rels_still, iss_still, ems_still, Bool.and_self, Bool.and_true])) (by simp -implicitDefEqProofs (maxSteps := 2000000) only [go_sem]) ?_
      simp -implicitDefEqProofs (maxSteps := 2000000) only [go_sem]
      refine call_of (union_sat (selN (occurs q i) 4) (varsOf ts) (by simp only at hvl; omega)) (by simp -implicitDefEqProofs (maxSteps := 2000000) only [go_sem, hun]) (callOk_still (by kernel_rfl) (by simp only [List.all_cons, List.all_nil, LV.still, LV.leaves, Leaf.still, ints_still, ris_still, eds_still, rels_still, iss_still, ems_still, Bool.and_self, Bool.and_true])) (by simp -implicitDefEqProofs (maxSteps := 2000000) only [go_sem, hun]) ?_
      simp -implicitDefEqProofs (maxSteps := 2000000) only [go_sem, hun]
      rw [wi]
      refine ⟨i + 1, ⟨c1, upTo_step h2 (by rw [atomOk, ea, hrel, d4, h6]; rfl)⟩, by omega, ?_⟩
      exact (le_st' _ _ [⟨960, some _, false, 1, _⟩] [] _ (by simp -implicitDefEqProofs (maxSteps := 2000000) only [go_sem, hun] <;> and_intros <;> rfl) (by simp -implicitDefEqProofs (maxSteps := 2000000) only [go_sem, hun] <;> and_intros <;> rfl) (by simp -implicitDefEqProofs (maxSteps := 2000000) only [go_sem, hun] <;> and_intros <;> rfl) (by rfl))
  · obtain rfl : i = q.atoms.length := by omega
    simp -implicitDefEqProofs (maxSteps := 2000000) only [go_sem, c1]
    rw [all_occur v1 h2, goodQu, g, v1, v2, v3, h2]
    simp
end Go.Proofs.YtbalifgacjmbpabGreat.A
