/- Packed by pack.py: FQ2 F2 FEmD FW FQF FEm1 FFQ FE WFormatQuery LFormatQuery -/
import Derived.Test.YtpegfljmblehnaaDoorAZ1FormatQuery
import Derived.Test.YtpegfljmblehnaaDoorRows
import Derived.Test.YtpegfljmblehnaaDoorCards
import Derived.Test.YtpegfljmblehnaaDoorTie
import Derived.Lay
import Derived.LaidLaws
import Derived.Handed
import Derived.SevenTiedAt

/- VALID QUERIES: the two programs. Conditions: none. -/
namespace Go.Proofs.YtpegfljmblehnaaDoor.A
open Go
set_option linter.unusedSimpArgs false
set_option linter.unusedVariables false
set_option maxRecDepth 100000

theorem goodQu_atom {l : List Rel} {q : Qu} {i : Nat} (hi : i < q.atoms.length) (h : atomOk l q i = false) : goodQu l q = false := by
  unfold goodQu; rw [upTo_false hi h]; simp
theorem goodQu_var {l : List Rel} {q : Qu} {v : Nat} (hv : v < q.vc.toNat) (h : occurs q q.atoms.length v = false) : goodQu l q = false := by
  unfold goodQu; rw [upTo_false (p := fun v => occurs q q.atoms.length v) hv h]; simp
theorem goodQu_free {l : List Rel} {q : Qu} {v : Nat} (hv : v < q.free.length) (h : idxAt q.free q.vc v = false) : goodQu l q = false := by
  unfold goodQu idxs; rw [upTo_false hv h]; simp
theorem dec_snoc {l : List Int} {x v : Int} (h : v ≠ x) : decide (v ∈ l ++ [x]) = decide (v ∈ l) := by
  rw [Bool.eq_iff_iff, decide_eq_true_iff, decide_eq_true_iff, List.mem_append, List.mem_singleton]
  exact ⟨fun k => k.resolve_right h, .inl⟩
theorem specIsValidQuery_sat (l : List Rel) (q : Qu) (h : l.length ≤ 9223372036854775807) (hq : q.fit) : Sat Tryd.prog 36 [lRels l, lQu q] [lBool (goodQu l q)] [g1, g3] := by
  refine sat_of_body mixed Tryd.func36 rfl (by kernel_rfl) (by kernel_rfl) (rs := [.tmp 4]) rfl rfl rfl ?_
  have w0 : IntKind.i64.wrap ((l.length : Int) - 1) = (l.length : Int) - 1 := IntWalk.i64_in _ (by omega)
  simp -implicitDefEqProofs (maxSteps := 2000000) only [go_sem]
  rcases g : goodRels l
  · rw [show goodQu l q = false by rw [goodQu, g]; rfl]
    refine call_of (specAreValidRelations_sat l h) (by simp -implicitDefEqProofs (maxSteps := 2000000) only [go_sem, g]) (by kernel_rfl) (by simp -implicitDefEqProofs (maxSteps := 2000000) only [go_sem, g]) ?_
    simp -implicitDefEqProofs (maxSteps := 2000000) only [go_sem, g]
  rcases v1 : inB q.vc 0 4
  · rw [show goodQu l q = false by rw [goodQu, v1]; simp]
    refine call_of (specAreValidRelations_sat l h) (by simp -implicitDefEqProofs (maxSteps := 2000000) only [go_sem, g]) (by kernel_rfl) (by simp -implicitDefEqProofs (maxSteps := 2000000) only [go_sem, g]) ?_
    simp -implicitDefEqProofs (maxSteps := 2000000) only [go_sem, g]
    refine call_of (inB_sat q.vc 0 4) (by simp -implicitDefEqProofs (maxSteps := 2000000) only [go_sem, v1]) (by kernel_rfl) (by simp -implicitDefEqProofs (maxSteps := 2000000) only [go_sem, v1]) ?_
    simp -implicitDefEqProofs (maxSteps := 2000000) only [go_sem, v1]
  rcases v2 : inB q.atoms.length 1 3
  · rw [show goodQu l q = false by rw [goodQu, v2]; simp]
    refine call_of (specAreValidRelations_sat l h) (by simp -implicitDefEqProofs (maxSteps := 2000000) only [go_sem, g]) (by kernel_rfl) (by simp -implicitDefEqProofs (maxSteps := 2000000) only [go_sem, g]) ?_
    simp -implicitDefEqProofs (maxSteps := 2000000) only [go_sem, g]
    refine call_of (inB_sat q.vc 0 4) (by simp -implicitDefEqProofs (maxSteps := 2000000) only [go_sem, v1]) (by kernel_rfl) (by simp -implicitDefEqProofs (maxSteps := 2000000) only [go_sem, v1]) ?_
    simp -implicitDefEqProofs (maxSteps := 2000000) only [go_sem, v1]
    refine call_of (inB_sat q.atoms.length 1 3) (by simp -implicitDefEqProofs (maxSteps := 2000000) only [go_sem, v2]) (by kernel_rfl) (by simp -implicitDefEqProofs (maxSteps := 2000000) only [go_sem, v2]) ?_
    simp -implicitDefEqProofs (maxSteps := 2000000) only [go_sem, v2]
  obtain ⟨b1, b2⟩ := inB_of v1
  obtain ⟨b3, b4⟩ := inB_of v2
  have wv : IntKind.i64.wrap (q.vc - 1) = q.vc - 1 := IntWalk.i64_in _ (by omega)
  refine call_of (specAreValidRelations_sat l h) (by simp -implicitDefEqProofs (maxSteps := 2000000) only [go_sem, g]) (by kernel_rfl) (by simp -implicitDefEqProofs (maxSteps := 2000000) only [go_sem, g]) ?_
  simp -implicitDefEqProofs (maxSteps := 2000000) only [go_sem, g]
  refine call_of (inB_sat q.vc 0 4) (by simp -implicitDefEqProofs (maxSteps := 2000000) only [go_sem, v1]) (by kernel_rfl) (by simp -implicitDefEqProofs (maxSteps := 2000000) only [go_sem, v1]) ?_
  simp -implicitDefEqProofs (maxSteps := 2000000) only [go_sem, v1]
  refine call_of (inB_sat q.atoms.length 1 3) (by simp -implicitDefEqProofs (maxSteps := 2000000) only [go_sem, v2]) (by kernel_rfl) (by simp -implicitDefEqProofs (maxSteps := 2000000) only [go_sem, v2]) ?_
  simp -implicitDefEqProofs (maxSteps := 2000000) only [go_sem, v2]
  rw [show (4 : Int) = ((4 : Nat) : Int) from rfl, msK_n]
  refine ⟨by omega, ?_⟩
  simp -implicitDefEqProofs (maxSteps := 2000000) only [go_sem]
  obtain ⟨L0, hL0⟩ : ∃ L, L = List.replicate 4 false := ⟨_, rfl⟩
  rw [← hL0]
  refine awp_loop (Nat × List Bool) (fun x => mkSt [(0, .one (.im 3 (rels l))), (3, .one (.vad 1000 0)), (5, .one (.ref 960 1 0 4)), (6, .sc (.int .i64 x.1))] [(1000, sQu q)] [(960, (1, bls x.2))] 2000)
    (fun x => x.1 ≤ q.atoms.length ∧ upTo (atomOk l q) x.1 = true ∧ x.2 = met4 fun v => occurs q x.1 v) (fun x => q.atoms.length - x.1) (0, L0) ⟨by simp, rfl, hL0.trans rfl⟩ (le_st' _ _ [⟨960, some _, false, 1, _⟩] [] _ (by simp -implicitDefEqProofs (maxSteps := 2000000) only [go_sem] <;> and_intros <;> rfl) (by simp -implicitDefEqProofs (maxSteps := 2000000) only [go_sem] <;> and_intros <;> rfl) (by simp -implicitDefEqProofs (maxSteps := 2000000) only [go_sem] <;> and_intros <;> rfl) (by rfl)) ?_
  rintro ⟨i, b⟩ ⟨h1, h2, hb⟩
  simp only at h1 h2 hb
  have hbl : b.length = 4 := by rw [hb]; rfl
  by_cases c1 : i < q.atoms.length
  · have hfa : (q.atoms.getD i default).fit := hq.1.2 _ (mem_getD default c1)
    rcases ea : q.atoms.getD i default with ⟨r, ts⟩
    rw [ea] at hfa
    have hts : ts.length ≤ 9223372036854775807 := hfa
    have wi : IntKind.i64.wrap ((i : Int) + 1) = ((i + 1 : Nat) : Int) := i64_succ (by omega)
    rcases i1 : inB r 0 ((l.length : Int) - 1)
    · rw [goodQu_atom c1 (by rw [atomOk, ea, relAt, i1]; rfl)]
      simp -implicitDefEqProofs (maxSteps := 2000000) only [go_sem, c1, ea, w0]
      refine call_of (inB_sat r 0 ((l.length : Int) - 1)) (by simp -implicitDefEqProofs (maxSteps := 2000000) only [go_sem, i1]) (by kernel_rfl) (by simp -implicitDefEqProofs (maxSteps := 2000000) only [go_sem, i1]) ?_
      simp -implicitDefEqProofs (maxSteps := 2000000) only [go_sem, i1]
    obtain ⟨r1, r2⟩ := inB_of i1
    obtain ⟨m, rfl⟩ : ∃ m : Nat, r = m := ⟨r.toNat, by omega⟩
    have c2 : m < l.length := by omega
    rcases d2 : (ts.length : Int) == (l.getD m default).ar
    · have d3 : ((ts.length : Int) != (l.getD m default).ar) = true := by rw [bne, d2]; rfl
      rw [goodQu_atom c1 (by rw [atomOk, ea, relAt, i1]; simp only [Int.toNat_natCast, d2]; rfl)]
      simp -implicitDefEqProofs (maxSteps := 2000000) only [go_sem, c1, ea, w0]
      refine call_of (inB_sat m 0 ((l.length : Int) - 1)) (by simp -implicitDefEqProofs (maxSteps := 2000000) only [go_sem, i1, d3, c2]) (by kernel_rfl) (by simp -implicitDefEqProofs (maxSteps := 2000000) only [go_sem, i1, d3, c2]) ?_
      simp -implicitDefEqProofs (maxSteps := 2000000) only [go_sem, i1, d3, c2]
    have d3 : ((ts.length : Int) != (l.getD m default).ar) = false := by rw [bne, d2]; rfl
    have hrel : relAt l ⟨m, ts⟩ = true := by rw [relAt, i1]; simp only [Int.toNat_natCast, d2]; rfl
    simp -implicitDefEqProofs (maxSteps := 2000000) only [go_sem, c1, ea, w0]
    refine call_of (inB_sat m 0 ((l.length : Int) - 1)) (by simp -implicitDefEqProofs (maxSteps := 2000000) only [go_sem, i1, d3, c2]) (by kernel_rfl) (by simp -implicitDefEqProofs (maxSteps := 2000000) only [go_sem, i1, d3, c2]) ?_
    simp -implicitDefEqProofs (maxSteps := 2000000) only [go_sem, i1, d3, c2]
    refine awp_loop Nat (fun k => mkSt [(0, .one (.im 3 (rels l))), (3, .one (.vad 1000 0)), (5, .one (.ref 960 1 0 4)), (6, .sc (.int .i64 i)), (7, .one (.vad 2640 0)), (8, .sc (.int .i64 k))] [(1000, sQu q), (2640, sRI ⟨m, ts⟩)] [(960, (1, bls b))] 4000)
      (fun k => k ≤ i ∧ upTo (newRel q i) k = true) (fun k => i - k) 0 ⟨by omega, rfl⟩ (le_st' _ _ [⟨960, some _, false, 1, _⟩] [] _ (by simp -implicitDefEqProofs (maxSteps := 2000000) only [go_sem] <;> and_intros <;> rfl) (by simp -implicitDefEqProofs (maxSteps := 2000000) only [go_sem] <;> and_intros <;> rfl) (by simp -implicitDefEqProofs (maxSteps := 2000000) only [go_sem] <;> and_intros <;> rfl) (by rfl)) ?_
    rintro k ⟨h3, h4⟩
    by_cases c3 : k < i
    · have c4 : k < q.atoms.length := by omega
      rcases d4 : (q.atoms.getD k default).r == (m : Int)
      · simp -implicitDefEqProofs (maxSteps := 2000000) only [go_sem, c3, c4, d4]
        rw [i64_succ (by omega)]
        exact ⟨k + 1, ⟨c3, upTo_step h4 (by rw [newRel, ea, d4]; rfl)⟩, by omega, (le_st' _ _ [⟨960, some _, false, 1, _⟩] [] _ (by simp -implicitDefEqProofs (maxSteps := 2000000) only [go_sem] <;> and_intros <;> rfl) (by simp -implicitDefEqProofs (maxSteps := 2000000) only [go_sem] <;> and_intros <;> rfl) (by simp -implicitDefEqProofs (maxSteps := 2000000) only [go_sem] <;> and_intros <;> rfl) (by rfl))⟩
      · rw [goodQu_atom c1 (by rw [atomOk, upTo_false c3 (by rw [newRel, ea, d4]; rfl)]; simp)]
        simp -implicitDefEqProofs (maxSteps := 2000000) only [go_sem, c3, c4, d4]
    obtain rfl : k = i := by omega
    simp -implicitDefEqProofs (maxSteps := 2000000) only [go_sem, c3]
    refine awp_loop (Nat × List Bool) (fun x => mkSt [(0, .one (.im 3 (rels l))), (3, .one (.vad 1000 0)), (5, .one (.ref 960 1 0 4)), (6, .sc (.int .i64 k)), (7, .one (.vad 2640 0)), (9, .sc (.int .i64 x.1))] [(1000, sQu q), (2640, sRI ⟨m, ts⟩)] [(960, (1, bls x.2))] 6000)
      (fun x => x.1 ≤ ts.length ∧ upTo (termOk q.vc ts) x.1 = true ∧ x.2 = met4 fun v => occurs q k v || decide ((v : Int) ∈ ts.take x.1)) (fun x => ts.length - x.1) (0, b) ⟨by simp, rfl, hb.trans (met4_eq (p' := fun v => occurs q k v || decide ((v : Int) ∈ ts.take 0)) fun v => by simp)⟩ (le_st' _ _ [⟨960, some _, false, 1, _⟩] [] _ (by simp -implicitDefEqProofs (maxSteps := 2000000) only [go_sem] <;> and_intros <;> rfl) (by simp -implicitDefEqProofs (maxSteps := 2000000) only [go_sem] <;> and_intros <;> rfl) (by simp -implicitDefEqProofs (maxSteps := 2000000) only [go_sem] <;> and_intros <;> rfl) (by rfl)) ?_
    rintro ⟨j, bb⟩ ⟨h5, h6, hbb⟩
    simp only at h5 h6 hbb
    have hbbl : bb.length = 4 := by rw [hbb]; rfl
    by_cases c5 : j < ts.length
    · rcases d5 : inB (ts.getD j 0) (-10) (q.vc - 1)
      · rw [goodQu_atom c1 (by rw [atomOk, ea, upTo_false c5 (by rw [termOk, d5])]; simp)]
        simp -implicitDefEqProofs (maxSteps := 2000000) only [go_sem, c5, wv]
        refine call_of (inB_sat (ts.getD j 0) (-10) (q.vc - 1)) (by simp -implicitDefEqProofs (maxSteps := 2000000) only [go_sem, d5]) (by kernel_rfl) (by simp -implicitDefEqProofs (maxSteps := 2000000) only [go_sem, d5]) ?_
        simp -implicitDefEqProofs (maxSteps := 2000000) only [go_sem, d5]
      obtain ⟨t1, t2⟩ := inB_of d5
      have hts1 : ts.take (j + 1) = ts.take j ++ [ts.getD j 0] := take_snoc 0 c5
      have h6' := upTo_step h6 (show termOk q.vc ts j = true by rw [termOk, d5])
      simp -implicitDefEqProofs (maxSteps := 2000000) only [go_sem, c5, wv]
      refine call_of (inB_sat (ts.getD j 0) (-10) (q.vc - 1)) (by simp -implicitDefEqProofs (maxSteps := 2000000) only [go_sem, d5, c5]) (by kernel_rfl) (by simp -implicitDefEqProofs (maxSteps := 2000000) only [go_sem, d5, c5]) ?_
      simp -implicitDefEqProofs (maxSteps := 2000000) only [go_sem, d5, c5]
      by_cases c6 : 0 ≤ ts.getD j 0
      · obtain ⟨t, ht⟩ : ∃ t : Nat, ts.getD j 0 = t := ⟨(ts.getD j 0).toNat, by omega⟩
        have c7 : t < 4 := by omega
        have c8 : 0 ≤ (t : Int) := by omega
        simp -implicitDefEqProofs (maxSteps := 2000000) only [go_sem, ht, c5, c7, c8, hbbl]
        rw [i64_succ (by omega)]
        refine ⟨(j + 1, bb.set t true), ⟨c5, h6', ?_⟩, by simp; omega, (le_st' _ _ [⟨960, some _, false, 1, _⟩] [] _ (by simp -implicitDefEqProofs (maxSteps := 2000000) only [go_sem, hbbl, c7] <;> and_intros <;> rfl) (by simp -implicitDefEqProofs (maxSteps := 2000000) only [go_sem, hbbl, c7] <;> and_intros <;> rfl) (by simp -implicitDefEqProofs (maxSteps := 2000000) only [go_sem, hbbl, c7] <;> and_intros <;> rfl) (by rfl))⟩
        rw [hbb]
        exact met4_set c7 (by rw [hts1, ht]; simp) (fun v hv => by rw [hts1, ht, dec_snoc (fun e => hv (by omega))])
      · simp -implicitDefEqProofs (maxSteps := 2000000) only [go_sem, c6]
        rw [i64_succ (by omega)]
        refine ⟨(j + 1, bb), ⟨c5, h6', ?_⟩, by simp; omega, (le_st' _ _ [⟨960, some _, false, 1, _⟩] [] _ (by simp -implicitDefEqProofs (maxSteps := 2000000) only [go_sem] <;> and_intros <;> rfl) (by simp -implicitDefEqProofs (maxSteps := 2000000) only [go_sem] <;> and_intros <;> rfl) (by simp -implicitDefEqProofs (maxSteps := 2000000) only [go_sem] <;> and_intros <;> rfl) (by rfl))⟩
        exact hbb.trans (met4_eq (p' := fun v => occurs q k v || decide ((v : Int) ∈ ts.take (j + 1))) fun v => by rw [hts1, dec_snoc (by omega)])
    · obtain rfl : j = ts.length := by omega
      simp -implicitDefEqProofs (maxSteps := 2000000) only [go_sem, c5, wi]
      refine ⟨(k + 1, bb), ⟨c1, upTo_step h2 (by rw [atomOk, ea, hrel, h4, h6]; rfl), ?_⟩, by simp; omega, (le_st' _ _ [⟨960, some _, false, 1, _⟩] [] _ (by simp -implicitDefEqProofs (maxSteps := 2000000) only [go_sem] <;> and_intros <;> rfl) (by simp -implicitDefEqProofs (maxSteps := 2000000) only [go_sem] <;> and_intros <;> rfl) (by simp -implicitDefEqProofs (maxSteps := 2000000) only [go_sem] <;> and_intros <;> rfl) (by rfl))⟩
      exact hbb.trans (met4_eq (p' := fun v => occurs q (k + 1) v) fun v => by rw [occurs_step c1, ea, List.take_length])
  obtain rfl : i = q.atoms.length := by omega
  simp -implicitDefEqProofs (maxSteps := 2000000) only [go_sem, c1]
  refine awp_loop Nat (fun v => mkSt [(3, .one (.vad 1000 0)), (5, .one (.ref 960 1 0 4)), (10, .sc (.int .i64 v))] [(1000, sQu q)] [(960, (1, bls b))] 4000)
    (fun v => v ≤ q.vc.toNat ∧ upTo (fun v => occurs q q.atoms.length v) v = true) (fun v => q.vc.toNat - v) 0 ⟨by omega, rfl⟩ (le_st' _ _ [⟨960, some _, false, 1, _⟩] [] _ (by simp -implicitDefEqProofs (maxSteps := 2000000) only [go_sem] <;> and_intros <;> rfl) (by simp -implicitDefEqProofs (maxSteps := 2000000) only [go_sem] <;> and_intros <;> rfl) (by simp -implicitDefEqProofs (maxSteps := 2000000) only [go_sem] <;> and_intros <;> rfl) (by rfl)) ?_
  rintro v ⟨h3, h4⟩
  by_cases c3 : v < q.vc.toNat
  · have c4 : (v : Int) < q.vc := by omega
    have c5 : v < 4 := by omega
    have e5 : b.getD v false = occurs q q.atoms.length v := by rw [hb]; exact met4_get (p := fun v => occurs q q.atoms.length v) c5
    rcases d5 : occurs q q.atoms.length v
    · rw [goodQu_var c3 d5]
      simp -implicitDefEqProofs (maxSteps := 2000000) only [go_sem, c4, c5, e5, d5, hbl]
    · simp -implicitDefEqProofs (maxSteps := 2000000) only [go_sem, c4, c5, e5, d5, hbl]
      rw [i64_succ (by omega)]
      exact ⟨v + 1, ⟨c3, upTo_step h4 d5⟩, by omega, (le_st' _ _ [⟨960, some _, false, 1, _⟩] [] _ (by simp -implicitDefEqProofs (maxSteps := 2000000) only [go_sem] <;> and_intros <;> rfl) (by simp -implicitDefEqProofs (maxSteps := 2000000) only [go_sem] <;> and_intros <;> rfl) (by simp -implicitDefEqProofs (maxSteps := 2000000) only [go_sem] <;> and_intros <;> rfl) (by rfl))⟩
  obtain rfl : v = q.vc.toNat := by omega
  have c4 : ¬ ((q.vc.toNat : Nat) : Int) < q.vc := by omega
  simp -implicitDefEqProofs (maxSteps := 2000000) only [go_sem, c4]
  have hff := hq.2
  refine awp_loop Nat (fun k => mkSt [(3, .one (.vad 1000 0)), (11, .sc (.int .i64 k))] [(1000, sQu q)] [] 6000)
    (fun k => k ≤ q.free.length ∧ upTo (idxAt q.free q.vc) k = true) (fun k => q.free.length - k) 0 ⟨by omega, rfl⟩ (le_st _ _ [] [] _ rfl (by simp -implicitDefEqProofs (maxSteps := 2000000) only [go_sem] <;> rfl) (by simp -implicitDefEqProofs (maxSteps := 2000000) only [go_sem] <;> rfl) (by simp -implicitDefEqProofs (maxSteps := 2000000) only [go_sem] <;> rfl)) ?_
  rintro k ⟨h5, h6⟩
  by_cases e1 : k < q.free.length
  · rcases d1 : inB (q.free.getD k 0) 0 (q.vc - 1)
    · rw [goodQu_free e1 (by rw [idxAt, d1]; rfl)]
      simp -implicitDefEqProofs (maxSteps := 2000000) only [go_sem, e1, wv]
      refine call_of (inB_sat (q.free.getD k 0) 0 (q.vc - 1)) (by simp -implicitDefEqProofs (maxSteps := 2000000) only [go_sem, d1, e1]) (by kernel_rfl) (by simp -implicitDefEqProofs (maxSteps := 2000000) only [go_sem, d1, e1]) ?_
      simp -implicitDefEqProofs (maxSteps := 2000000) only [go_sem, d1, e1]
    rcases k with _ | j
    · have e : idxAt q.free q.vc 0 = true := by rw [idxAt, d1]; rfl
      have e0 : (0 : Int) < q.free.length := by omega
      simp -implicitDefEqProofs (maxSteps := 2000000) only [go_sem, e1, e0, wv]
      refine call_of (inB_sat (q.free.getD 0 0) 0 (q.vc - 1)) (by simp -implicitDefEqProofs (maxSteps := 2000000) only [go_sem, d1, e1, e0]) (by kernel_rfl) (by simp -implicitDefEqProofs (maxSteps := 2000000) only [go_sem, d1, e1, e0]) ?_
      simp -implicitDefEqProofs (maxSteps := 2000000) only [go_sem, d1, e1, e0]
      exact ⟨1, ⟨e1, upTo_step h6 e⟩, by omega, (le_st _ _ [] [] _ rfl (by simp -implicitDefEqProofs (maxSteps := 2000000) only [go_sem] <;> rfl) (by simp -implicitDefEqProofs (maxSteps := 2000000) only [go_sem] <;> rfl) (by simp -implicitDefEqProofs (maxSteps := 2000000) only [go_sem] <;> rfl))⟩
    · have e2 : j < q.free.length := by omega
      have e3 : 0 < ((j + 1 : Nat) : Int) := by omega
      have w1 := i64_pred (j := j) (by omega)
      rcases d2 : decide (q.free.getD (j + 1) 0 ≤ q.free.getD j 0)
      · have e : idxAt q.free q.vc (j + 1) = true := by rw [idxAt, d1, Nat.add_sub_cancel, d2]; rfl
        simp -implicitDefEqProofs (maxSteps := 2000000) only [go_sem, e1, wv]
        refine call_of (inB_sat (q.free.getD (j + 1) 0) 0 (q.vc - 1)) (by simp -implicitDefEqProofs (maxSteps := 2000000) only [go_sem, d1, d2, e1, e2, e3, w1]) (by kernel_rfl) (by simp -implicitDefEqProofs (maxSteps := 2000000) only [go_sem, d1, d2, e1, e2, e3, w1]) ?_
        simp -implicitDefEqProofs (maxSteps := 2000000) only [go_sem, d1, d2, e1, e2, e3, w1]
        rw [i64_succ (by omega)]
        exact ⟨j + 1 + 1, ⟨e1, upTo_step h6 e⟩, by omega, (le_st _ _ [] [] _ rfl (by simp -implicitDefEqProofs (maxSteps := 2000000) only [go_sem] <;> rfl) (by simp -implicitDefEqProofs (maxSteps := 2000000) only [go_sem] <;> rfl) (by simp -implicitDefEqProofs (maxSteps := 2000000) only [go_sem] <;> rfl))⟩
      · rw [goodQu_free e1 (show idxAt q.free q.vc (j + 1) = false by rw [idxAt, d1, Nat.add_sub_cancel, d2]; rfl)]
        simp -implicitDefEqProofs (maxSteps := 2000000) only [go_sem, e1, wv]
        refine call_of (inB_sat (q.free.getD (j + 1) 0) 0 (q.vc - 1)) (by simp -implicitDefEqProofs (maxSteps := 2000000) only [go_sem, d1, d2, e1, e2, e3, w1]) (by kernel_rfl) (by simp -implicitDefEqProofs (maxSteps := 2000000) only [go_sem, d1, d2, e1, e2, e3, w1]) ?_
        simp -implicitDefEqProofs (maxSteps := 2000000) only [go_sem, d1, d2, e1, e2, e3, w1]
  · obtain rfl : k = q.free.length := by omega
    simp -implicitDefEqProofs (maxSteps := 2000000) only [go_sem, e1]
    rw [goodQu, g, v1, v2, idxs, h6, h2, h4]
    rfl
theorem upTo_congr {p p' : Nat → Bool} : ∀ {n : Nat}, (∀ k, k < n → p k = p' k) → upTo p n = upTo p' n
  | 0, _ => rfl
  | n + 1, h => by rw [upTo, upTo, upTo_congr fun k hk => h k (by omega), h n (by omega)]
def otherRel (a : RI) (l : List RI) (k : Nat) : Bool := !((l.getD k default).r == a.r)
abbrev fRI (a : RI) : List Fld := [.sc (.int .i64 a.r), .im 1 (ints a.l)]
theorem isValidQuery1_sat (a b : RI) : Sat Tryd.prog 60 [lRI b, .one (.ip (fRI a))] [lBool (b.r == a.r)] [g2, g1] := by
  refine sat_of_body mixed Tryd.func60 rfl (by kernel_rfl) (by kernel_rfl) (rs := [.tmp 3]) rfl rfl rfl ?_
  simp -implicitDefEqProofs (maxSteps := 2000000) only [go_sem]
theorem atomsIndex_sat (l : List RI) (a : RI) (h : l.length ≤ 9223372036854775807) : Sat Tryd.prog 75 [lRIs l, .one (.fn 60 [fRI a])] [lInt (firstNo (otherRel a l) l.length 0)] [g1, g1] := by
  refine sat_of_body mixed Tryd.func75 rfl (by kernel_rfl) (by kernel_rfl) (rs := [.tmp 4]) rfl rfl rfl ?_
  simp -implicitDefEqProofs (maxSteps := 2000000) only [go_sem]
  refine awp_loop Nat (fun k => mkSt [(0, .one (.im 2 (ris 0 l))), (1, .one (.fni 60 [fRI a])), (7, .sc (.int .i64 l.length)), (8, .sc (.int .i64 k))] [] [] 1000)
    (fun k => k ≤ l.length ∧ firstNo (otherRel a l) (l.length - k) k = firstNo (otherRel a l) l.length 0) (fun k => l.length - k) 0 ⟨by omega, rfl⟩ (le_st _ _ [] [] _ rfl (by simp -implicitDefEqProofs (maxSteps := 2000000) only [go_sem] <;> rfl) trivial trivial) ?_
  rintro k ⟨h1, h2⟩
  by_cases c1 : k < l.length
  · rw [show l.length - k = (l.length - (k + 1)) + 1 by omega, firstNo] at h2
    rcases d : (l.getD k default).r == a.r
    · rw [if_pos (by rw [otherRel, d]; rfl)] at h2
      simp -implicitDefEqProofs (maxSteps := 2000000) only [go_sem, c1]
      refine call_of (isValidQuery1_sat a (l.getD k default)) (by simp -implicitDefEqProofs (maxSteps := 2000000) only [go_sem, d, c1]) (by kernel_rfl) (by simp -implicitDefEqProofs (maxSteps := 2000000) only [go_sem, d, c1]) ?_
      simp -implicitDefEqProofs (maxSteps := 2000000) only [go_sem, d, c1]
      rw [i64_succ (by omega)]
      exact ⟨k + 1, ⟨c1, h2⟩, by omega, (le_st _ _ [] [] _ rfl (by simp -implicitDefEqProofs (maxSteps := 2000000) only [go_sem] <;> rfl) trivial trivial)⟩
    · rw [if_neg (by rw [otherRel, d]; simp)] at h2
      simp -implicitDefEqProofs (maxSteps := 2000000) only [go_sem, c1]
      refine call_of (isValidQuery1_sat a (l.getD k default)) (by simp -implicitDefEqProofs (maxSteps := 2000000) only [go_sem, d, c1]) (by kernel_rfl) (by simp -implicitDefEqProofs (maxSteps := 2000000) only [go_sem, d, c1]) ?_
      simp -implicitDefEqProofs (maxSteps := 2000000) only [go_sem, d, c1]
      rw [← h2]
  · obtain rfl : k = l.length := by omega
    rw [Nat.sub_self, firstNo] at h2
    simp -implicitDefEqProofs (maxSteps := 2000000) only [go_sem, c1]
    rw [← h2]
theorem atomsContains_sat (l : List RI) (a : RI) (h : l.length ≤ 9223372036854775807) : Sat Tryd.prog 59 [lRIs l, .one (.fn 60 [fRI a])] [lBool (!upTo (otherRel a l) l.length)] [g1, g1] := by
  refine sat_of_body mixed Tryd.func59 rfl (by kernel_rfl) (by kernel_rfl) (rs := [.tmp 4]) rfl rfl rfl ?_
  simp -implicitDefEqProofs (maxSteps := 2000000) only [go_sem]
  refine call_of (atomsIndex_sat l a h) (by simp -implicitDefEqProofs (maxSteps := 2000000) only [go_sem]) (by kernel_rfl) (by simp -implicitDefEqProofs (maxSteps := 2000000) only [go_sem]) ?_
  simp -implicitDefEqProofs (maxSteps := 2000000) only [go_sem]
  rw [firstNo_ge _ _ _ rfl, Nat.zero_add]
theorem implIsValidQuery_sat (l : List Rel) (q : Qu) (h : l.length ≤ 9223372036854775807) (hq : q.ok) : Sat Tryd.prog 41 [lRels l, lQu q] [lBool (goodQu l q)] [g1, g3] := by
  refine sat_of_body mixed Tryd.func41 rfl (by kernel_rfl) (by kernel_rfl) (rs := [.tmp 4]) rfl rfl rfl ?_
  have w0 : IntKind.i64.wrap ((l.length : Int) - 1) = (l.length : Int) - 1 := IntWalk.i64_in _ (by omega)
  have hff : q.free.length ≤ 9223372036854775807 := by have := hq.2; omega
  simp -implicitDefEqProofs (maxSteps := 2000000) only [go_sem]
  rcases g : goodRels l
  · rw [show goodQu l q = false by rw [goodQu, g]; rfl]
    refine call_of (implAreValidRelations_sat l h) (by simp -implicitDefEqProofs (maxSteps := 2000000) only [go_sem, g]) (by kernel_rfl) (by simp -implicitDefEqProofs (maxSteps := 2000000) only [go_sem, g]) ?_
    simp -implicitDefEqProofs (maxSteps := 2000000) only [go_sem, g]
  rcases v1 : inB q.vc 0 4
  · rw [show goodQu l q = false by rw [goodQu, v1]; simp]
    refine call_of (implAreValidRelations_sat l h) (by simp -implicitDefEqProofs (maxSteps := 2000000) only [go_sem, g]) (by kernel_rfl) (by simp -implicitDefEqProofs (maxSteps := 2000000) only [go_sem, g]) ?_
    simp -implicitDefEqProofs (maxSteps := 2000000) only [go_sem, g]
    refine call_of (inW_sat q.vc 0 4) (by simp -implicitDefEqProofs (maxSteps := 2000000) only [go_sem, v1]) (by kernel_rfl) (by simp -implicitDefEqProofs (maxSteps := 2000000) only [go_sem, v1]) ?_
    simp -implicitDefEqProofs (maxSteps := 2000000) only [go_sem, v1]
  rcases v2 : inB q.atoms.length 1 3
  · rw [show goodQu l q = false by rw [goodQu, v2]; simp]
    refine call_of (implAreValidRelations_sat l h) (by simp -implicitDefEqProofs (maxSteps := 2000000) only [go_sem, g]) (by kernel_rfl) (by simp -implicitDefEqProofs (maxSteps := 2000000) only [go_sem, g]) ?_
    simp -implicitDefEqProofs (maxSteps := 2000000) only [go_sem, g]
    refine call_of (inW_sat q.vc 0 4) (by simp -implicitDefEqProofs (maxSteps := 2000000) only [go_sem, v1]) (by kernel_rfl) (by simp -implicitDefEqProofs (maxSteps := 2000000) only [go_sem, v1]) ?_
    simp -implicitDefEqProofs (maxSteps := 2000000) only [go_sem, v1]
    refine call_of (inW_sat q.atoms.length 1 3) (by simp -implicitDefEqProofs (maxSteps := 2000000) only [go_sem, v2]) (by kernel_rfl) (by simp -implicitDefEqProofs (maxSteps := 2000000) only [go_sem, v2]) ?_
    simp -implicitDefEqProofs (maxSteps := 2000000) only [go_sem, v2]
  obtain ⟨b1, b2⟩ := inB_of v1
  obtain ⟨b3, b4⟩ := inB_of v2
  have wv : IntKind.i64.wrap (q.vc - 1) = q.vc - 1 := IntWalk.i64_in _ (by omega)
  rcases v3 : idxs q.free q.vc
  · rw [show goodQu l q = false by rw [goodQu, v3]; simp]
    refine call_of (implAreValidRelations_sat l h) (by simp -implicitDefEqProofs (maxSteps := 2000000) only [go_sem, g]) (by kernel_rfl) (by simp -implicitDefEqProofs (maxSteps := 2000000) only [go_sem, g]) ?_
    simp -implicitDefEqProofs (maxSteps := 2000000) only [go_sem, g]
    refine call_of (inW_sat q.vc 0 4) (by simp -implicitDefEqProofs (maxSteps := 2000000) only [go_sem, v1]) (by kernel_rfl) (by simp -implicitDefEqProofs (maxSteps := 2000000) only [go_sem, v1]) ?_
    simp -implicitDefEqProofs (maxSteps := 2000000) only [go_sem, v1]
    refine call_of (inW_sat q.atoms.length 1 3) (by simp -implicitDefEqProofs (maxSteps := 2000000) only [go_sem, v2]) (by kernel_rfl) (by simp -implicitDefEqProofs (maxSteps := 2000000) only [go_sem, v2]) ?_
    simp -implicitDefEqProofs (maxSteps := 2000000) only [go_sem, v2]
    refine call_of (areIndices_sat q.free q.vc hff (by omega)) (by simp -implicitDefEqProofs (maxSteps := 2000000) only [go_sem, v3]) (by kernel_rfl) (by simp -implicitDefEqProofs (maxSteps := 2000000) only [go_sem, v3]) ?_
    simp -implicitDefEqProofs (maxSteps := 2000000) only [go_sem, v3]
  refine call_of (implAreValidRelations_sat l h) (by simp -implicitDefEqProofs (maxSteps := 2000000) only [go_sem, g]) (by kernel_rfl) (by simp -implicitDefEqProofs (maxSteps := 2000000) only [go_sem, g]) ?_
  simp -implicitDefEqProofs (maxSteps := 2000000) only [go_sem, g]
  refine call_of (inW_sat q.vc 0 4) (by simp -implicitDefEqProofs (maxSteps := 2000000) only [go_sem, v1]) (by kernel_rfl) (by simp -implicitDefEqProofs (maxSteps := 2000000) only [go_sem, v1]) ?_
  simp -implicitDefEqProofs (maxSteps := 2000000) only [go_sem, v1]
  refine call_of (inW_sat q.atoms.length 1 3) (by simp -implicitDefEqProofs (maxSteps := 2000000) only [go_sem, v2]) (by kernel_rfl) (by simp -implicitDefEqProofs (maxSteps := 2000000) only [go_sem, v2]) ?_
  simp -implicitDefEqProofs (maxSteps := 2000000) only [go_sem, v2]
  refine call_of (areIndices_sat q.free q.vc hff (by omega)) (by simp -implicitDefEqProofs (maxSteps := 2000000) only [go_sem, v3]) (by kernel_rfl) (by simp -implicitDefEqProofs (maxSteps := 2000000) only [go_sem, v3]) ?_
  simp -implicitDefEqProofs (maxSteps := 2000000) only [go_sem, v3]
  refine awp_loop Nat (fun i => mkSt [(0, .one (.im 3 (rels l))), (3, .one (.vad 1000 0)), (5, .one (.ref 960 1 0 (selN (occurs q i) 4).length)), (36, .one (.im 2 (ris 0 q.atoms))), (37, .sc (.int .i64 q.atoms.length)), (38, .sc (.int .i64 i))] [(1000, sQu q)] [(960, (1, ints (selN (occurs q i) 4)))] 2000)
    (fun i => i ≤ q.atoms.length ∧ upTo (atomOk l q) i = true) (fun i => q.atoms.length - i) 0 ⟨by omega, rfl⟩ (le_st' _ _ [⟨960, some _, false, 1, _⟩] [] _ (by simp -implicitDefEqProofs (maxSteps := 2000000) only [go_sem] <;> and_intros <;> rfl) (by simp -implicitDefEqProofs (maxSteps := 2000000) only [go_sem] <;> and_intros <;> rfl) (by simp -implicitDefEqProofs (maxSteps := 2000000) only [go_sem] <;> and_intros <;> rfl) (by rfl)) ?_
  rintro i ⟨h1, h2⟩
  have hlo := selN_len (occurs q i) 4
  by_cases c1 : i < q.atoms.length
  · have hfa : (q.atoms.getD i default).ok := hq.1.2 _ (mem_getD default c1)
    have hun := uni_occurs (q := q) c1
    have hvl := varsOf_len (q.atoms.getD i default).l
    rcases ea : q.atoms.getD i default with ⟨r, ts⟩
    rw [ea] at hfa hun hvl
    have hts : ts.length ≤ 1048576 := hfa
    have wi : IntKind.i64.wrap ((i : Int) + 1) = ((i + 1 : Nat) : Int) := i64_succ (by omega)
    rcases i1 : inB r 0 ((l.length : Int) - 1)
    · rw [goodQu_atom c1 (by rw [atomOk, ea, relAt, i1]; rfl)]
      simp -implicitDefEqProofs (maxSteps := 2000000) only [go_sem, c1, ea, w0]
      refine call_of (inW_sat r 0 ((l.length : Int) - 1)) (by simp -implicitDefEqProofs (maxSteps := 2000000) only [go_sem, i1]) (by kernel_rfl) (by simp -implicitDefEqProofs (maxSteps := 2000000) only [go_sem, i1]) ?_
      simp -implicitDefEqProofs (maxSteps := 2000000) only [go_sem, i1]
    obtain ⟨r1, r2⟩ := inB_of i1
    obtain ⟨m, rfl⟩ : ∃ m : Nat, r = m := ⟨r.toNat, by omega⟩
    have c2 : m < l.length := by omega
    rcases d2 : (ts.length : Int) == (l.getD m default).ar
    · have d3 : ((ts.length : Int) != (l.getD m default).ar) = true := by rw [bne, d2]; rfl
      rw [goodQu_atom c1 (by rw [atomOk, ea, relAt, i1]; simp only [Int.toNat_natCast, d2]; rfl)]
      simp -implicitDefEqProofs (maxSteps := 2000000) only [go_sem, c1, ea, w0]
      refine call_of (inW_sat m 0 ((l.length : Int) - 1)) (by simp -implicitDefEqProofs (maxSteps := 2000000) only [go_sem, i1, d3, c2]) (by kernel_rfl) (by simp -implicitDefEqProofs (maxSteps := 2000000) only [go_sem, i1, d3, c2]) ?_
      simp -implicitDefEqProofs (maxSteps := 2000000) only [go_sem, i1, d3, c2]
    have d3 : ((ts.length : Int) != (l.getD m default).ar) = false := by rw [bne, d2]; rfl
    have hrel : relAt l ⟨m, ts⟩ = true := by rw [relAt, i1]; simp only [Int.toNat_natCast, d2]; rfl
    have c3 : i ≤ q.atoms.length := by omega
    have hup : upTo (otherRel ⟨m, ts⟩ (q.atoms.take i)) (q.atoms.take i).length = upTo (newRel q i) i := by
      rw [List.length_take, Nat.min_eq_left c3]
      refine upTo_congr fun k hk => ?_
      rw [otherRel, newRel, ea]
      rw [List.getD_eq_getElem?_getD, List.getD_eq_getElem?_getD, List.getElem?_take_of_lt hk]
    rcases d4 : upTo (newRel q i) i
    · rw [goodQu_atom c1 (by rw [atomOk, d4]; simp)]
      simp -implicitDefEqProofs (maxSteps := 2000000) only [go_sem, c1, ea, w0]
      refine call_of (inW_sat m 0 ((l.length : Int) - 1)) (by simp -implicitDefEqProofs (maxSteps := 2000000) only [go_sem, i1, d3, c2, c3, Nat.zero_le]) (by kernel_rfl) (by simp -implicitDefEqProofs (maxSteps := 2000000) only [go_sem, i1, d3, c2, c3, Nat.zero_le]) ?_
      simp -implicitDefEqProofs (maxSteps := 2000000) only [go_sem, i1, d3, c2, c3, Nat.zero_le]
      refine call_of (atomsContains_sat (q.atoms.take i) ⟨m, ts⟩ (by rw [List.length_take]; omega)) (by simp -implicitDefEqProofs (maxSteps := 2000000) only [go_sem, hup, d4, c3]) (by kernel_rfl) (by simp -implicitDefEqProofs (maxSteps := 2000000) only [go_sem, hup, d4, c3]) ?_
      simp -implicitDefEqProofs (maxSteps := 2000000) only [go_sem, hup, d4, c3]
    simp -implicitDefEqProofs (maxSteps := 2000000) only [go_sem, c1, ea, w0]
    refine call_of (inW_sat m 0 ((l.length : Int) - 1)) (by simp -implicitDefEqProofs (maxSteps := 2000000) only [go_sem, i1, d3, c2, c3, Nat.zero_le]) (by kernel_rfl) (by simp -implicitDefEqProofs (maxSteps := 2000000) only [go_sem, i1, d3, c2, c3, Nat.zero_le]) ?_
    simp -implicitDefEqProofs (maxSteps := 2000000) only [go_sem, i1, d3, c2, c3, Nat.zero_le]
    refine call_of (atomsContains_sat (q.atoms.take i) ⟨m, ts⟩ (by rw [List.length_take]; omega)) (by simp -implicitDefEqProofs (maxSteps := 2000000) only [go_sem, hup, d4, c3]) (by kernel_rfl) (by simp -implicitDefEqProofs (maxSteps := 2000000) only [go_sem, hup, d4, c3]) ?_
    simp -implicitDefEqProofs (maxSteps := 2000000) only [go_sem, hup, d4, c3]
    refine awp_loop Nat (fun j => mkSt [(0, .one (.im 3 (rels l))), (3, .one (.vad 1000 0)), (5, .one (.ref 960 1 0 (selN (occurs q i) 4).length)), (7, .one (.vad 2256 0)), (36, .one (.im 2 (ris 0 q.atoms))), (37, .sc (.int .i64 q.atoms.length)), (38, .sc (.int .i64 i)), (71, .one (.im 1 (ints ts))), (72, .sc (.int .i64 ts.length)), (73, .sc (.int .i64 j))] [(1000, sQu q), (2256, sRI ⟨m, ts⟩)] [(960, (1, ints (selN (occurs q i) 4)))] 6000)
      (fun j => j ≤ ts.length ∧ upTo (termOk q.vc ts) j = true) (fun j => ts.length - j) 0 ⟨by omega, rfl⟩ (le_st' _ _ [⟨960, some _, false, 1, _⟩] [] _ (by simp -implicitDefEqProofs (maxSteps := 2000000) only [go_sem] <;> and_intros <;> rfl) (by simp -implicitDefEqProofs (maxSteps := 2000000) only [go_sem] <;> and_intros <;> rfl) (by simp -implicitDefEqProofs (maxSteps := 2000000) only [go_sem] <;> and_intros <;> rfl) (by rfl)) ?_
    rintro j ⟨h5, h6⟩
    by_cases c5 : j < ts.length
    · rcases d5 : inB (ts.getD j 0) (-10) (q.vc - 1)
      · rw [goodQu_atom c1 (by rw [atomOk, ea, upTo_false c5 (by rw [termOk, d5])]; simp)]
        simp -implicitDefEqProofs (maxSteps := 2000000) only [go_sem, c5, wv]
        refine call_of (inW_sat (ts.getD j 0) (-10) (q.vc - 1)) (by simp -implicitDefEqProofs (maxSteps := 2000000) only [go_sem, d5]) (by kernel_rfl) (by simp -implicitDefEqProofs (maxSteps := 2000000) only [go_sem, d5]) ?_
        simp -implicitDefEqProofs (maxSteps := 2000000) only [go_sem, d5]
      simp -implicitDefEqProofs (maxSteps := 2000000) only [go_sem, c5, wv]
      refine call_of (inW_sat (ts.getD j 0) (-10) (q.vc - 1)) (by simp -implicitDefEqProofs (maxSteps := 2000000) only [go_sem, d5, c5]) (by kernel_rfl) (by simp -implicitDefEqProofs (maxSteps := 2000000) only [go_sem, d5, c5]) ?_
      simp -implicitDefEqProofs (maxSteps := 2000000) only [go_sem, d5, c5]
      rw [i64_succ (by omega)]
      exact ⟨j + 1, ⟨c5, upTo_step h6 (by rw [termOk, d5])⟩, by omega, (le_st' _ _ [⟨960, some _, false, 1, _⟩] [] _ (by simp -implicitDefEqProofs (maxSteps := 2000000) only [go_sem] <;> and_intros <;> rfl) (by simp -implicitDefEqProofs (maxSteps := 2000000) only [go_sem] <;> and_intros <;> rfl) (by simp -implicitDefEqProofs (maxSteps := 2000000) only [go_sem] <;> and_intros <;> rfl) (by rfl))⟩
    · obtain rfl : j = ts.length := by omega
      simp -implicitDefEqProofs (maxSteps := 2000000) only [go_sem, c5]
      refine call_of (implAtomVariables_sat ⟨m, ts⟩ hfa) (by simp -implicitDefEqProofs (maxSteps := 2000000) only [go_sem]) (callOk_still (by kernel_rfl) (by simp only [List.all_cons, List.all_nil, LV.still, LV.leaves, Leaf.still, ints_still, ris_still, eds_still, rels_still, iss_still, ems_still, Bool.and_self, Bool.and_true])) (by simp -implicitDefEqProofs (maxSteps := 2000000) only [go_sem]) ?_
      simp -implicitDefEqProofs (maxSteps := 2000000) only [go_sem]
      refine call_of (union_sat (selN (occurs q i) 4) (varsOf ts) (by simp only at hvl; omega)) (by simp -implicitDefEqProofs (maxSteps := 2000000) only [go_sem, hun]) (callOk_still (by kernel_rfl) (by simp only [List.all_cons, List.all_nil, LV.still, LV.leaves, Leaf.still, ints_still, ris_still, eds_still, rels_still, iss_still, ems_still, Bool.and_self, Bool.and_true])) (by simp -implicitDefEqProofs (maxSteps := 2000000) only [go_sem, hun]) ?_
      simp -implicitDefEqProofs (maxSteps := 2000000) only [go_sem, hun]
      rw [wi]
      refine ⟨i + 1, ⟨c1, upTo_step h2 (by rw [atomOk, ea, hrel, d4, h6]; rfl)⟩, by omega, ?_⟩
      exact (le_st' _ _ [⟨960, some _, false, 1, _⟩] [] _ (by simp -implicitDefEqProofs (maxSteps := 2000000) only [go_sem, hun] <;> and_intros <;> rfl) (by simp -implicitDefEqProofs (maxSteps := 2000000) only [go_sem, hun] <;> and_intros <;> rfl) (by simp -implicitDefEqProofs (maxSteps := 2000000) only [go_sem, hun] <;> and_intros <;> rfl) (by rfl))
  · obtain rfl : i = q.atoms.length := by omega
    simp -implicitDefEqProofs (maxSteps := 2000000) only [go_sem, c1]
    rw [all_occur v1 h2, goodQu, g, v1, v2, v3, h2]
    simp
end Go.Proofs.YtpegfljmblehnaaDoor.A


/- EMBEDDINGS. Conditions: none. -/
namespace Go.Proofs.YtpegfljmblehnaaDoor.A
open Go
set_option linter.unusedSimpArgs false
set_option linter.unusedVariables false
set_option maxRecDepth 100000

abbrev lEmb (e : Emb) : LV := .agg [.im 1 (ints e.vs), .im 1 (ints e.fs)]
abbrev oEmb (e : Emb) : LV := .agg [.ow 1 (ints e.vs), .ow 1 (ints e.fs)]
def szEmb (e : Emb) (n : Int) : Int := if szl e.vs n < 0 then -1 else if szl e.fs (szl e.vs n) < 0 then -1 else szl e.fs (szl e.vs n)
theorem szEmb_len {e : Emb} {n : Int} (h : -1 ≤ n ∧ n ≤ 1048576) (h0 : ¬ szEmb e n < 0) : e.vs.length ≤ 1048576 ∧ e.fs.length ≤ 1048576 ∧ -1 ≤ szEmb e n ∧ szEmb e n ≤ 1048576 := by
  unfold szEmb at h0 ⊢
  have a1 := szl_le (a := e.vs) h
  split at h0
  · omega
  · rename_i c1
    have a2 := szl_le (a := e.fs) a1
    split at h0
    · omega
    · rename_i c2
      rw [if_neg c1, if_neg c2]
      exact ⟨szl_len h.2 c1, szl_len a1.2 c2, a2⟩
theorem decide_and {p q : Prop} [Decidable p] [Decidable q] (h : p) : decide (p ∧ q) = decide q := by simp [h]
end Go.Proofs.YtpegfljmblehnaaDoor.A


/- LISTS OF EMBEDDINGS: how they lie, comparison, marks. Conditions: none. -/
namespace Go.Proofs.YtpegfljmblehnaaDoor.A
open Go
set_option linter.unusedSimpArgs false
set_option linter.unusedVariables false
set_option maxRecDepth 100000

abbrev lEms (a : List Emb) : LV := .one (.im 2 (ems 0 a))
abbrev oEms (a : List Emb) : LV := .one (.ow 2 (ems 1 a))

def numEm : List Emb → Nat
  | [] => 0
  | a :: l => a.vs.length + a.fs.length + numEm l
def markEm : List Emb → Int → List Emb
  | [], _ => []
  | a :: l, k => ⟨cnt k a.vs.length, cnt (k + a.vs.length) a.fs.length⟩ :: markEm l (k + a.vs.length + a.fs.length)
theorem numEm_nil : numEm [] = 0 := rfl
attribute [go_sem] numEm_nil
theorem markEm_length : ∀ (a : List Emb) (k : Int), (markEm a k).length = a.length
  | [], _ => rfl
  | a :: l, k => by rw [markEm, List.length_cons, List.length_cons, markEm_length]
theorem numEm_take {a : List Emb} {i : Nat} (h : i < a.length) : numEm (a.take (i + 1)) = numEm (a.take i) + (a.getD i default).vs.length + (a.getD i default).fs.length := by
  induction a generalizing i with
  | nil => simp at h
  | cons x a ih =>
    cases i with
    | zero => simp [numEm]
    | succ i =>
      have := ih (i := i) (by simpa using h)
      rw [List.take_succ_cons, List.take_succ_cons, numEm, numEm, this, List.getD_cons_succ]; omega
theorem numEm_le : ∀ {a : List Emb} (i : Nat), numEm (a.take i) ≤ numEm a
  | [], i => by simp [numEm]
  | x :: a, 0 => by simp [numEm]
  | x :: a, i + 1 => by
    rw [List.take_succ_cons, numEm, numEm]
    have := numEm_le (a := a) i
    omega
theorem numEm_small {n m : Nat} : ∀ {a : List Emb}, (∀ x ∈ a, x.vs.length ≤ n ∧ x.fs.length ≤ m) → numEm a ≤ a.length * (n + m)
  | [], _ => by simp [numEm]
  | x :: a, h => by
    have h1 := numEm_small (a := a) fun y hy => h y (List.mem_cons_of_mem _ hy)
    have h2 := h x (List.mem_cons_self ..)
    rw [numEm, List.length_cons, Nat.add_mul]; omega
theorem markEm_get : ∀ {a : List Emb} {k : Int} {i : Nat}, i < a.length → (markEm a k).getD i default = ⟨cnt (k + numEm (a.take i)) (a.getD i default).vs.length, cnt (k + numEm (a.take i) + (a.getD i default).vs.length) (a.getD i default).fs.length⟩
  | x :: a, k, 0, _ => by simp [markEm, numEm]
  | x :: a, k, i + 1, h => by
    rw [markEm, List.getD_cons_succ, markEm_get (by simpa using h), List.getD_cons_succ, List.take_succ_cons, numEm]
    have e : k + (x.vs.length : Int) + (x.fs.length : Int) + (numEm (a.take i) : Int) = k + ((x.vs.length + x.fs.length + numEm (a.take i) : Nat) : Int) := by omega
    rw [e]
theorem markEm_full (a : List Emb) (k : Int) : List.take a.length (markEm a k) = markEm a k := List.take_of_length_le (by rw [markEm_length]; omega)
attribute [go_sem] markEm_full
theorem Emb.eq_iff (a b : Emb) : decide (a = b) = (decide (a.vs = b.vs) && decide (a.fs = b.fs)) := by cases a; cases b; simp
end Go.Proofs.YtpegfljmblehnaaDoor.A


/- FACTS IN ORDER; VALID DATABASES. Conditions: none. -/
namespace Go.Proofs.YtpegfljmblehnaaDoor.A
open Go
set_option linter.unusedSimpArgs false
set_option linter.unusedVariables false
set_option maxRecDepth 100000

def cmpI (a b : Int) : Int := if a < b then -1 else if a > b then 1 else 0
theorem compare_sat (a b : Int) : Sat Tryd.prog 84 [lInt a, lInt b] [lInt (cmpI a b)] [g1, g1] := by
  refine sat_of_body mixed Tryd.func84 rfl (by kernel_rfl) (by kernel_rfl) (rs := [.tmp 4]) rfl rfl rfl ?_
  unfold cmpI
  simp -implicitDefEqProofs (maxSteps := 2000000) only [go_sem]
  refine cond_split (fun d => ?_) fun d => ?_
  · simp -implicitDefEqProofs (maxSteps := 2000000) only [go_sem]
    rw [if_pos (of_decide_eq_true d)]
  rw [if_neg (of_decide_eq_false d)]
  simp -implicitDefEqProofs (maxSteps := 2000000) only [go_sem]
  refine cond_split (fun e => ?_) fun e => ?_
  · simp -implicitDefEqProofs (maxSteps := 2000000) only [go_sem]
    rw [if_pos (of_decide_eq_true e)]
  · simp -implicitDefEqProofs (maxSteps := 2000000) only [go_sem]
    rw [if_neg (of_decide_eq_false e)]
theorem isNaN_sat (a : Int) : Sat Tryd.prog 114 [lInt a] [lBool false] [g1] := by
  refine sat_of_body mixed Tryd.func114 rfl (by kernel_rfl) (by kernel_rfl) (rs := [.tmp 2]) rfl rfl rfl ?_
  simp -implicitDefEqProofs (maxSteps := 2000000) only [go_sem]
theorem cmpCompare_sat (a b : Int) : Sat Tryd.prog 97 [lInt a, lInt b] [lInt (cmpI a b)] [g1, g1] := by
  refine sat_of_body mixed Tryd.func97 rfl (by kernel_rfl) (by kernel_rfl) (rs := [.tmp 4]) rfl rfl rfl ?_
  unfold cmpI
  simp -implicitDefEqProofs (maxSteps := 2000000) only [go_sem]
  refine call_of (isNaN_sat a) (by simp -implicitDefEqProofs (maxSteps := 2000000) only [go_sem]) (by kernel_rfl) (by simp -implicitDefEqProofs (maxSteps := 2000000) only [go_sem]) ?_
  simp -implicitDefEqProofs (maxSteps := 2000000) only [go_sem]
  refine call_of (isNaN_sat b) (by simp -implicitDefEqProofs (maxSteps := 2000000) only [go_sem]) (by kernel_rfl) (by simp -implicitDefEqProofs (maxSteps := 2000000) only [go_sem]) ?_
  simp -implicitDefEqProofs (maxSteps := 2000000) only [go_sem]
  refine cond_split (fun d => ?_) fun d => ?_
  · simp -implicitDefEqProofs (maxSteps := 2000000) only [go_sem]
    rw [if_pos (of_decide_eq_true d)]
  rw [if_neg (of_decide_eq_false d)]
  simp -implicitDefEqProofs (maxSteps := 2000000) only [go_sem]
  refine cond_split (fun e => ?_) fun e => ?_
  · simp -implicitDefEqProofs (maxSteps := 2000000) only [go_sem]
    rw [if_pos (of_decide_eq_true e)]
  · simp -implicitDefEqProofs (maxSteps := 2000000) only [go_sem]
    rw [if_neg (of_decide_eq_false e)]
theorem slicesCompare_sat (a b : List Int) (ha : a.length ≤ 9223372036854775807) : Sat Tryd.prog 85 [lInts a, lInts b] [lInt (cmpInts a b)] [g1, g1] := by
  refine sat_of_body mixed Tryd.func85 rfl (by kernel_rfl) (by kernel_rfl) (rs := [.tmp 4]) rfl rfl rfl ?_
  simp -implicitDefEqProofs (maxSteps := 2000000) only [go_sem]
  refine awp_loop Nat (fun k => mkSt [(0, .one (.im 1 (ints a))), (1, .one (.im 1 (ints b))), (9, .one (.im 1 (ints a))), (10, .sc (.int .i64 a.length)), (11, .sc (.int .i64 k))] [] [] 1000)
    (fun k => k ≤ a.length ∧ k ≤ b.length ∧ cmpInts (a.drop k) (b.drop k) = cmpInts a b) (fun k => a.length - k) 0 ⟨by omega, by omega, rfl⟩ (le_st _ _ [] [] _ rfl (by simp -implicitDefEqProofs (maxSteps := 2000000) only [go_sem] <;> rfl) trivial trivial) ?_
  rintro k ⟨h1, h2, h3⟩
  by_cases c1 : k < a.length
  · rw [drop_cons 0 c1] at h3
    by_cases c2 : k < b.length
    · have c3 : ¬ b.length ≤ k := by omega
      rw [drop_cons 0 c2, cmpInts] at h3
      simp -implicitDefEqProofs (maxSteps := 2000000) only [go_sem, c1, c2, c3]
      refine call_of (cmpCompare_sat (a.getD k 0) (b.getD k 0)) (by simp -implicitDefEqProofs (maxSteps := 2000000) only [go_sem]) (by kernel_rfl) (by simp -implicitDefEqProofs (maxSteps := 2000000) only [go_sem]) ?_
      simp -implicitDefEqProofs (maxSteps := 2000000) only [go_sem]
      unfold cmpI
      by_cases e1 : a.getD k 0 < b.getD k 0
      · rw [if_pos e1] at h3 ⊢
        simp -implicitDefEqProofs (maxSteps := 2000000) only [go_sem]
        rw [← h3]
      rw [if_neg e1] at h3 ⊢
      by_cases e2 : a.getD k 0 > b.getD k 0
      · rw [if_pos e2] at h3 ⊢
        simp -implicitDefEqProofs (maxSteps := 2000000) only [go_sem]
        rw [← h3]
      rw [if_neg e2] at h3 ⊢
      simp -implicitDefEqProofs (maxSteps := 2000000) only [go_sem]
      rw [i64_succ (by omega)]
      exact ⟨k + 1, ⟨c1, c2, h3⟩, by omega, (le_st _ _ [] [] _ rfl (by simp -implicitDefEqProofs (maxSteps := 2000000) only [go_sem] <;> rfl) trivial trivial)⟩
    · obtain rfl : k = b.length := by omega
      rw [List.drop_length, cmpInts] at h3
      simp -implicitDefEqProofs (maxSteps := 2000000) only [go_sem, c1, Nat.le_refl]
      rw [← h3]
  · obtain rfl : k = a.length := by omega
    simp -implicitDefEqProofs (maxSteps := 2000000) only [go_sem, c1]
    rw [List.drop_length] at h3
    refine cond_split (fun d => ?_) fun d => ?_
    · simp -implicitDefEqProofs (maxSteps := 2000000) only [go_sem]
      have d := of_decide_eq_true d
      rw [drop_cons 0 (by omega), cmpInts] at h3
      rw [← h3]
    · simp -implicitDefEqProofs (maxSteps := 2000000) only [go_sem]
      have d := of_decide_eq_false d
      rw [List.drop_of_length_le (by omega), cmpInts] at h3
      rw [← h3]
def cmpRI (a b : RI) : Int := if a.r < b.r then -1 else if a.r > b.r then 1 else cmpInts a.l b.l
theorem specCompareFacts_sat (a b : RI) (h : a.fit) : Sat Tryd.prog 70 [lRI a, lRI b] [lInt (cmpRI a b)] [g2, g2] := by
  refine sat_of_body mixed Tryd.func70 rfl (by kernel_rfl) (by kernel_rfl) (rs := [.tmp 4]) rfl rfl rfl ?_
  unfold cmpRI
  simp -implicitDefEqProofs (maxSteps := 2000000) only [go_sem]
  refine cond_split (fun d => ?_) fun d => ?_
  · simp -implicitDefEqProofs (maxSteps := 2000000) only [go_sem]
    rw [if_pos (of_decide_eq_true d)]
  rw [if_neg (of_decide_eq_false d)]
  simp -implicitDefEqProofs (maxSteps := 2000000) only [go_sem]
  refine cond_split (fun e => ?_) fun e => ?_
  · simp -implicitDefEqProofs (maxSteps := 2000000) only [go_sem]
    rw [if_pos (of_decide_eq_true e)]
  rw [if_neg (of_decide_eq_false e)]
  simp -implicitDefEqProofs (maxSteps := 2000000) only [go_sem]
  refine call_of (l3Ints_sat a.l b.l h) (by simp -implicitDefEqProofs (maxSteps := 2000000) only [go_sem]) (by kernel_rfl) (by simp -implicitDefEqProofs (maxSteps := 2000000) only [go_sem]) ?_
  simp -implicitDefEqProofs (maxSteps := 2000000) only [go_sem]
theorem implCompareFacts_sat (a b : RI) (h : a.fit) : Sat Tryd.prog 72 [lRI a, lRI b] [lInt (cmpRI a b)] [g2, g2] := by
  refine sat_of_body mixed Tryd.func72 rfl (by kernel_rfl) (by kernel_rfl) (rs := [.tmp 4]) rfl rfl rfl ?_
  unfold cmpRI
  simp -implicitDefEqProofs (maxSteps := 2000000) only [go_sem]
  refine cond_split (fun d => ?_) fun d => ?_
  · simp -implicitDefEqProofs (maxSteps := 2000000) only [go_sem]
    refine call_of (compare_sat a.r b.r) (by simp -implicitDefEqProofs (maxSteps := 2000000) only [go_sem]) (by kernel_rfl) (by simp -implicitDefEqProofs (maxSteps := 2000000) only [go_sem]) ?_
    simp -implicitDefEqProofs (maxSteps := 2000000) only [go_sem]
    have d : ¬ a.r = b.r := by simpa using d
    unfold cmpI
    split
    · rfl
    · rw [if_pos (by omega), if_pos (by omega)]
  · have d : a.r = b.r := by simpa using d
    rw [if_neg (by omega), if_neg (by omega)]
    simp -implicitDefEqProofs (maxSteps := 2000000) only [go_sem]
    refine call_of (slicesCompare_sat a.l b.l h) (by simp -implicitDefEqProofs (maxSteps := 2000000) only [go_sem]) (by kernel_rfl) (by simp -implicitDefEqProofs (maxSteps := 2000000) only [go_sem]) ?_
    simp -implicitDefEqProofs (maxSteps := 2000000) only [go_sem]
/-- Is the i-th fact valid, and behind the one before it. -/
def factOk (d : Db) (i : Nat) : Bool := goodFact d.rels (d.facts.getD i default) && (decide (i = 0) || !decide (cmpRI (d.facts.getD (i - 1) default) (d.facts.getD i default) ≥ 0))
def goodDb (d : Db) : Bool := goodRels d.rels && (decide ((d.facts.length : Int) ≤ 14) && upTo (factOk d) d.facts.length)
theorem specIsValidDatabase_sat (d : Db) (h : d.fit) : Sat Tryd.prog 50 [lDb d] [lBool (goodDb d)] [g2] := by
  refine sat_of_body mixed Tryd.func50 rfl (by kernel_rfl) (by kernel_rfl) (rs := [.tmp 2]) rfl rfl rfl ?_
  have hm := fun k (hk : k < d.facts.length) => h.2.2 _ (mem_getD default hk)
  rcases g : goodRels d.rels
  · rw [show goodDb d = false by rw [goodDb, g]; rfl]
    simp -implicitDefEqProofs (maxSteps := 2000000) only [go_sem]
    refine awp_loop Nat (fun k => mkSt [(1, .one (.vad 1000 0)), (3, .sc (.int .i64 k))] [(1000, sDb d)] [] 2000)
      (fun k => k = 0) (fun k => 0) 0 rfl (le_st _ _ [] [] _ rfl (by simp -implicitDefEqProofs (maxSteps := 2000000) only [go_sem] <;> rfl) (by simp -implicitDefEqProofs (maxSteps := 2000000) only [go_sem] <;> rfl) (by simp -implicitDefEqProofs (maxSteps := 2000000) only [go_sem] <;> rfl)) ?_
    rintro k rfl
    by_cases c1 : 0 < d.facts.length
    · have c0 : (0 : Int) < d.facts.length := by omega
      simp -implicitDefEqProofs (maxSteps := 2000000) only [go_sem, c1, c0]
      refine call_of (specIsValidFact_sat d.rels (d.facts.getD 0 default) h.1.1 (hm 0 c1)) (by simp -implicitDefEqProofs (maxSteps := 2000000) only [go_sem, g, c1, c0]) (by kernel_rfl) (by simp -implicitDefEqProofs (maxSteps := 2000000) only [go_sem, g, c1, c0]) ?_
      simp -implicitDefEqProofs (maxSteps := 2000000) only [go_sem, g, c1, c0]
    · have c0 : ¬ (0 : Int) < d.facts.length := by omega
      simp -implicitDefEqProofs (maxSteps := 2000000) only [go_sem, c1, c0]
      refine call_of (specAreValidRelations_sat d.rels h.1.1) (by simp -implicitDefEqProofs (maxSteps := 2000000) only [go_sem, g]) (by kernel_rfl) (by simp -implicitDefEqProofs (maxSteps := 2000000) only [go_sem, g]) ?_
      simp -implicitDefEqProofs (maxSteps := 2000000) only [go_sem, g]
  simp -implicitDefEqProofs (maxSteps := 2000000) only [go_sem]
  refine awp_loop Nat (fun k => mkSt [(1, .one (.vad 1000 0)), (3, .sc (.int .i64 k))] [(1000, sDb d)] [] 2000)
    (fun k => k ≤ d.facts.length ∧ upTo (factOk d) k = true) (fun k => d.facts.length - k) 0 ⟨by omega, rfl⟩ (le_st _ _ [] [] _ rfl (by simp -implicitDefEqProofs (maxSteps := 2000000) only [go_sem] <;> rfl) (by simp -implicitDefEqProofs (maxSteps := 2000000) only [go_sem] <;> rfl) (by simp -implicitDefEqProofs (maxSteps := 2000000) only [go_sem] <;> rfl)) ?_
  rintro k ⟨h1, h2⟩
  have hbig := h.2.1
  by_cases c1 : k < d.facts.length
  · rcases d1 : goodFact d.rels (d.facts.getD k default)
    · have e : factOk d k = false := by rw [factOk, d1]; rfl
      rw [show goodDb d = false by rw [goodDb, g, upTo_false c1 e]; simp]
      simp -implicitDefEqProofs (maxSteps := 2000000) only [go_sem, c1]
      refine call_of (specIsValidFact_sat d.rels (d.facts.getD k default) h.1.1 (hm k c1)) (by simp -implicitDefEqProofs (maxSteps := 2000000) only [go_sem, g, d1, c1]) (by kernel_rfl) (by simp -implicitDefEqProofs (maxSteps := 2000000) only [go_sem, g, d1, c1]) ?_
      simp -implicitDefEqProofs (maxSteps := 2000000) only [go_sem, g, d1, c1]
    rcases k with _ | j
    · have e : factOk d 0 = true := by rw [factOk, d1]; rfl
      have c0 : (0 : Int) < d.facts.length := by omega
      simp -implicitDefEqProofs (maxSteps := 2000000) only [go_sem, c1, c0]
      refine call_of (specIsValidFact_sat d.rels (d.facts.getD 0 default) h.1.1 (hm 0 c1)) (by simp -implicitDefEqProofs (maxSteps := 2000000) only [go_sem, g, d1, c1, c0]) (by kernel_rfl) (by simp -implicitDefEqProofs (maxSteps := 2000000) only [go_sem, g, d1, c1, c0]) ?_
      simp -implicitDefEqProofs (maxSteps := 2000000) only [go_sem, g, d1, c1, c0]
      exact ⟨1, ⟨c1, upTo_step h2 e⟩, by omega, (le_st _ _ [] [] _ rfl (by simp -implicitDefEqProofs (maxSteps := 2000000) only [go_sem] <;> rfl) (by simp -implicitDefEqProofs (maxSteps := 2000000) only [go_sem] <;> rfl) (by simp -implicitDefEqProofs (maxSteps := 2000000) only [go_sem] <;> rfl))⟩
    · have c2 : j < d.facts.length := by omega
      have c3 : 0 < ((j + 1 : Nat) : Int) := by omega
      have w1 := i64_pred (j := j) (by omega)
      rcases d2 : decide (cmpRI (d.facts.getD j default) (d.facts.getD (j + 1) default) ≥ 0)
      · have e : factOk d (j + 1) = true := by rw [factOk, d1, Nat.add_sub_cancel, d2]; rfl
        simp -implicitDefEqProofs (maxSteps := 2000000) only [go_sem, c1]
        refine call_of (specIsValidFact_sat d.rels (d.facts.getD (j + 1) default) h.1.1 (hm _ c1)) (by simp -implicitDefEqProofs (maxSteps := 2000000) only [go_sem, g, d1, c1, c2, c3, w1]) (by kernel_rfl) (by simp -implicitDefEqProofs (maxSteps := 2000000) only [go_sem, g, d1, c1, c2, c3, w1]) ?_
        simp -implicitDefEqProofs (maxSteps := 2000000) only [go_sem, g, d1, c1, c2, c3, w1]
        refine call_of (specCompareFacts_sat (d.facts.getD j default) (d.facts.getD (j + 1) default) (hm _ c2)) (by simp -implicitDefEqProofs (maxSteps := 2000000) only [go_sem, d2]) (by kernel_rfl) (by simp -implicitDefEqProofs (maxSteps := 2000000) only [go_sem, d2]) ?_
        simp -implicitDefEqProofs (maxSteps := 2000000) only [go_sem, d2]
        rw [i64_succ (by omega)]
        exact ⟨j + 1 + 1, ⟨c1, upTo_step h2 e⟩, by omega, (le_st _ _ [] [] _ rfl (by simp -implicitDefEqProofs (maxSteps := 2000000) only [go_sem] <;> rfl) (by simp -implicitDefEqProofs (maxSteps := 2000000) only [go_sem] <;> rfl) (by simp -implicitDefEqProofs (maxSteps := 2000000) only [go_sem] <;> rfl))⟩
      · have e : factOk d (j + 1) = false := by rw [factOk, d1, Nat.add_sub_cancel, d2]; rfl
        rw [show goodDb d = false by rw [goodDb, g, upTo_false c1 e]; simp]
        simp -implicitDefEqProofs (maxSteps := 2000000) only [go_sem, c1]
        refine call_of (specIsValidFact_sat d.rels (d.facts.getD (j + 1) default) h.1.1 (hm _ c1)) (by simp -implicitDefEqProofs (maxSteps := 2000000) only [go_sem, g, d1, c1, c2, c3, w1]) (by kernel_rfl) (by simp -implicitDefEqProofs (maxSteps := 2000000) only [go_sem, g, d1, c1, c2, c3, w1]) ?_
        simp -implicitDefEqProofs (maxSteps := 2000000) only [go_sem, g, d1, c1, c2, c3, w1]
        refine call_of (specCompareFacts_sat (d.facts.getD j default) (d.facts.getD (j + 1) default) (hm _ c2)) (by simp -implicitDefEqProofs (maxSteps := 2000000) only [go_sem, d2]) (by kernel_rfl) (by simp -implicitDefEqProofs (maxSteps := 2000000) only [go_sem, d2]) ?_
        simp -implicitDefEqProofs (maxSteps := 2000000) only [go_sem, d2]
  · obtain rfl : k = d.facts.length := by omega
    simp -implicitDefEqProofs (maxSteps := 2000000) only [go_sem, c1]
    refine call_of (specAreValidRelations_sat d.rels h.1.1) (by simp -implicitDefEqProofs (maxSteps := 2000000) only [go_sem, g]) (by kernel_rfl) (by simp -implicitDefEqProofs (maxSteps := 2000000) only [go_sem, g]) ?_
    simp -implicitDefEqProofs (maxSteps := 2000000) only [go_sem, g]
    rw [goodDb, g, h2]
    simp
theorem implIsValidDatabase_sat (d : Db) (h : d.fit) : Sat Tryd.prog 52 [lDb d] [lBool (goodDb d)] [g2] := by
  refine sat_of_body mixed Tryd.func52 rfl (by kernel_rfl) (by kernel_rfl) (rs := [.tmp 2]) rfl rfl rfl ?_
  have hm := fun k (hk : k < d.facts.length) => h.2.2 _ (mem_getD default hk)
  have hbig := h.2.1
  simp -implicitDefEqProofs (maxSteps := 2000000) only [go_sem]
  rcases g : goodRels d.rels
  · rw [show goodDb d = false by rw [goodDb, g]; rfl]
    refine call_of (implAreValidRelations_sat d.rels h.1.1) (by simp -implicitDefEqProofs (maxSteps := 2000000) only [go_sem, g]) (by kernel_rfl) (by simp -implicitDefEqProofs (maxSteps := 2000000) only [go_sem, g]) ?_
    simp -implicitDefEqProofs (maxSteps := 2000000) only [go_sem, g]
  by_cases c14 : (d.facts.length : Int) > 14
  · rw [show goodDb d = false by rw [goodDb, g, decide_eq_false (by omega)]; rfl]
    refine call_of (implAreValidRelations_sat d.rels h.1.1) (by simp -implicitDefEqProofs (maxSteps := 2000000) only [go_sem, g, c14]) (by kernel_rfl) (by simp -implicitDefEqProofs (maxSteps := 2000000) only [go_sem, g, c14]) ?_
    simp -implicitDefEqProofs (maxSteps := 2000000) only [go_sem, g, c14]
  rw [show goodDb d = upTo (factOk d) d.facts.length by rw [goodDb, g, decide_eq_true (by omega)]; rfl]
  refine call_of (implAreValidRelations_sat d.rels h.1.1) (by simp -implicitDefEqProofs (maxSteps := 2000000) only [go_sem, g, c14]) (by kernel_rfl) (by simp -implicitDefEqProofs (maxSteps := 2000000) only [go_sem, g, c14]) ?_
  simp -implicitDefEqProofs (maxSteps := 2000000) only [go_sem, g, c14]
  refine awp_loop Nat (fun k => mkSt [(1, .one (.vad 1000 0)), (16, .one (.im 2 (ris 0 d.facts))), (17, .sc (.int .i64 d.facts.length)), (18, .sc (.int .i64 k))] [(1000, sDb d)] [] 2000)
    (fun k => k ≤ d.facts.length ∧ upTo (factOk d) k = true) (fun k => d.facts.length - k) 0 ⟨by omega, rfl⟩ (le_st _ _ [] [] _ rfl (by simp -implicitDefEqProofs (maxSteps := 2000000) only [go_sem] <;> rfl) (by simp -implicitDefEqProofs (maxSteps := 2000000) only [go_sem] <;> rfl) (by simp -implicitDefEqProofs (maxSteps := 2000000) only [go_sem] <;> rfl)) ?_
  rintro k ⟨h1, h2⟩
  by_cases c1 : k < d.facts.length
  · rcases d1 : goodFact d.rels (d.facts.getD k default)
    · have e : factOk d k = false := by rw [factOk, d1]; rfl
      rw [upTo_false c1 e]
      simp -implicitDefEqProofs (maxSteps := 2000000) only [go_sem, c1]
      refine call_of (isFact_sat d.rels (d.facts.getD k default) h.1.1 (hm k c1)) (by simp -implicitDefEqProofs (maxSteps := 2000000) only [go_sem, d1, c1]) (by kernel_rfl) (by simp -implicitDefEqProofs (maxSteps := 2000000) only [go_sem, d1, c1]) ?_
      simp -implicitDefEqProofs (maxSteps := 2000000) only [go_sem, d1, c1]
    rcases k with _ | j
    · have e : factOk d 0 = true := by rw [factOk, d1]; rfl
      have c0 : (0 : Int) < d.facts.length := by omega
      simp -implicitDefEqProofs (maxSteps := 2000000) only [go_sem, c1, c0]
      refine call_of (isFact_sat d.rels (d.facts.getD 0 default) h.1.1 (hm 0 c1)) (by simp -implicitDefEqProofs (maxSteps := 2000000) only [go_sem, d1, c1, c0]) (by kernel_rfl) (by simp -implicitDefEqProofs (maxSteps := 2000000) only [go_sem, d1, c1, c0]) ?_
      simp -implicitDefEqProofs (maxSteps := 2000000) only [go_sem, d1, c1, c0]
      exact ⟨1, ⟨c1, upTo_step h2 e⟩, by omega, (le_st _ _ [] [] _ rfl (by simp -implicitDefEqProofs (maxSteps := 2000000) only [go_sem] <;> rfl) (by simp -implicitDefEqProofs (maxSteps := 2000000) only [go_sem] <;> rfl) (by simp -implicitDefEqProofs (maxSteps := 2000000) only [go_sem] <;> rfl))⟩
    · have c2 : j < d.facts.length := by omega
      have c3 : 0 < ((j + 1 : Nat) : Int) := by omega
      have w1 := i64_pred (j := j) (by omega)
      rcases d2 : decide (cmpRI (d.facts.getD j default) (d.facts.getD (j + 1) default) ≥ 0)
      · have e : factOk d (j + 1) = true := by rw [factOk, d1, Nat.add_sub_cancel, d2]; rfl
        simp -implicitDefEqProofs (maxSteps := 2000000) only [go_sem, c1]
        refine call_of (isFact_sat d.rels (d.facts.getD (j + 1) default) h.1.1 (hm _ c1)) (by simp -implicitDefEqProofs (maxSteps := 2000000) only [go_sem, d1, c1, c2, c3, w1]) (by kernel_rfl) (by simp -implicitDefEqProofs (maxSteps := 2000000) only [go_sem, d1, c1, c2, c3, w1]) ?_
        simp -implicitDefEqProofs (maxSteps := 2000000) only [go_sem, d1, c1, c2, c3, w1]
        refine call_of (implCompareFacts_sat (d.facts.getD j default) (d.facts.getD (j + 1) default) (hm _ c2)) (by simp -implicitDefEqProofs (maxSteps := 2000000) only [go_sem, d2]) (by kernel_rfl) (by simp -implicitDefEqProofs (maxSteps := 2000000) only [go_sem, d2]) ?_
        simp -implicitDefEqProofs (maxSteps := 2000000) only [go_sem, d2]
        rw [i64_succ (by omega)]
        exact ⟨j + 1 + 1, ⟨c1, upTo_step h2 e⟩, by omega, (le_st _ _ [] [] _ rfl (by simp -implicitDefEqProofs (maxSteps := 2000000) only [go_sem] <;> rfl) (by simp -implicitDefEqProofs (maxSteps := 2000000) only [go_sem] <;> rfl) (by simp -implicitDefEqProofs (maxSteps := 2000000) only [go_sem] <;> rfl))⟩
      · have e : factOk d (j + 1) = false := by rw [factOk, d1, Nat.add_sub_cancel, d2]; rfl
        rw [upTo_false c1 e]
        simp -implicitDefEqProofs (maxSteps := 2000000) only [go_sem, c1]
        refine call_of (isFact_sat d.rels (d.facts.getD (j + 1) default) h.1.1 (hm _ c1)) (by simp -implicitDefEqProofs (maxSteps := 2000000) only [go_sem, d1, c1, c2, c3, w1]) (by kernel_rfl) (by simp -implicitDefEqProofs (maxSteps := 2000000) only [go_sem, d1, c1, c2, c3, w1]) ?_
        simp -implicitDefEqProofs (maxSteps := 2000000) only [go_sem, d1, c1, c2, c3, w1]
        refine call_of (implCompareFacts_sat (d.facts.getD j default) (d.facts.getD (j + 1) default) (hm _ c2)) (by simp -implicitDefEqProofs (maxSteps := 2000000) only [go_sem, d2]) (by kernel_rfl) (by simp -implicitDefEqProofs (maxSteps := 2000000) only [go_sem, d2]) ?_
        simp -implicitDefEqProofs (maxSteps := 2000000) only [go_sem, d2]
  · obtain rfl : k = d.facts.length := by omega
    simp -implicitDefEqProofs (maxSteps := 2000000) only [go_sem, c1]
    rw [h2]
end Go.Proofs.YtpegfljmblehnaaDoor.A


/- QUERIES FOR DATABASES. Conditions: none. -/
namespace Go.Proofs.YtpegfljmblehnaaDoor.A
open Go
set_option linter.unusedSimpArgs false
set_option linter.unusedVariables false
set_option maxRecDepth 100000

def queryFor (d : Db) (q : Qu) : Bool := goodDb d && goodQu d.rels q
end Go.Proofs.YtpegfljmblehnaaDoor.A


/- EMBEDDINGS: the plain search. Conditions: none. (No program in sight.) -/
namespace Go.Proofs.YtpegfljmblehnaaDoor.A
open Go
set_option linter.unusedSimpArgs false
set_option linter.unusedVariables false

def stepU (x : List Int) (t f : Int) : Option (List Int) :=
  if t < 0 then (if -1 - t = f then some x else none)
  else if x.getD t.toNat 0 < 0 then some (x.set t.toNat f)
  else if x.getD t.toNat 0 = f then some x else none
def uniS (ts fs vs : List Int) : Nat → Option (List Int)
  | 0 => some vs
  | k + 1 => (uniS ts fs vs k).bind fun x => stepU x (ts.getD k 0) (fs.getD k 0)
theorem stepU_len {x y : List Int} {t f : Int} (h : stepU x t f = some y) : y.length = x.length := by
  unfold stepU at h
  split at h
  · split at h
    · cases h; rfl
    · cases h
  · split at h
    · cases h; simp
    · split at h
      · cases h; rfl
      · cases h
theorem uniS_len {ts fs vs : List Int} : ∀ {k : Nat} {x : List Int}, uniS ts fs vs k = some x → x.length = vs.length
  | 0, x, h => by cases h; rfl
  | k + 1, x, h => by
    rw [uniS] at h
    rcases e : uniS ts fs vs k with _ | y
    · rw [e] at h; cases h
    · rw [e, Option.bind_some] at h
      rw [stepU_len h, uniS_len e]
theorem uniS_none {ts fs vs : List Int} {k : Nat} (h : uniS ts fs vs k = none) : ∀ d : Nat, uniS ts fs vs (k + d) = none
  | 0 => h
  | d + 1 => by rw [← Nat.add_assoc, uniS, uniS_none h d]; rfl
theorem uniS_stop {ts fs vs : List Int} {k n : Nat} (h : uniS ts fs vs k = none) (hn : k ≤ n) : uniS ts fs vs n = none := by
  obtain ⟨d, rfl⟩ := Nat.le.dest hn
  exact uniS_none h d
theorem uniS_step {ts fs vs x : List Int} {k : Nat} (h : uniS ts fs vs k = some x) : uniS ts fs vs (k + 1) = stepU x (ts.getD k 0) (fs.getD k 0) := by
  rw [uniS, h]; rfl
/-- The last state before the search fell. -/
def uniL (ts fs vs : List Int) : Nat → List Int
  | 0 => vs
  | k + 1 => match uniS ts fs vs (k + 1) with
    | some x => x
    | none => uniL ts fs vs k
theorem uniL_some {ts fs vs x : List Int} : ∀ {k : Nat}, uniS ts fs vs k = some x → uniL ts fs vs k = x
  | 0, h => by cases h; rfl
  | k + 1, h => by rw [uniL, h]
theorem uniL_none {ts fs vs x : List Int} {k : Nat} (h : uniS ts fs vs k = some x) (h2 : uniS ts fs vs (k + 1) = none) : ∀ d : Nat, uniL ts fs vs (k + 1 + d) = x
  | 0 => by
    rw [Nat.add_zero, uniL, h2]
    exact uniL_some h
  | d + 1 => by
    rw [← Nat.add_assoc, uniL, show uniS ts fs vs (k + 1 + d + 1) = none from uniS_none (k := k + 1) h2 (d + 1)]
    exact uniL_none h h2 d
theorem uniL_stop {ts fs vs x : List Int} {k n : Nat} (h : uniS ts fs vs k = some x) (h2 : uniS ts fs vs (k + 1) = none) (hn : k < n) : uniL ts fs vs n = x := by
  obtain ⟨d, rfl⟩ := Nat.le.dest (show k + 1 ≤ n from hn)
  exact uniL_none h h2 d
def meet (a f : RI) (vs : List Int) : Option (List Int) := if f.r = a.r then uniS a.l f.l vs a.l.length else none
def meetV (a f : RI) (vs : List Int) : List Int := if f.r = a.r then uniL a.l f.l vs a.l.length else vs
theorem meet_len {a f : RI} {vs x : List Int} (h : meet a f vs = some x) : x.length = vs.length := by
  unfold meet at h
  split at h
  · exact uniS_len h
  · cases h
theorem meetV_eq {a f : RI} {vs x : List Int} (h : meet a f vs = some x) : meetV a f vs = x := by
  unfold meet at h
  unfold meetV
  split at h
  · rw [if_pos (by assumption)]; exact uniL_some h
  · cases h
/-- What one round finds: g tells it of each fact. -/
def found {α : Type} (g : Nat → List α) (k : Nat) : List α := (List.range k).flatMap g
theorem found_zero {α : Type} (g : Nat → List α) : found g 0 = [] := rfl
theorem found_succ {α : Type} (g : Nat → List α) (k : Nat) : found g (k + 1) = found g k ++ g k := by
  unfold found
  rw [List.range_succ, List.flatMap_append]; simp
theorem found_len {α : Type} {g : Nat → List α} {b : Nat} (h : ∀ i, (g i).length ≤ b) : ∀ k, (found g k).length ≤ k * b
  | 0 => by simp [found_zero]
  | k + 1 => by
    rw [found_succ, List.length_append, Nat.add_mul]
    have := found_len h k
    have := h k
    omega
theorem found_mem {α : Type} {g : Nat → List α} {k : Nat} {x : α} : x ∈ found g k ↔ ∃ i, i < k ∧ x ∈ g i := by
  unfold found
  rw [List.mem_flatMap]
  constructor
  · rintro ⟨i, h1, h2⟩; exact ⟨i, by simpa using h1, h2⟩
  · rintro ⟨i, h1, h2⟩; exact ⟨i, by simpa using h1, h2⟩
def atomAt (ats : List RI) (m : Nat) : RI := ats.getD (ats.length - (m + 1)) default
def walkE (ds ats : List RI) : Nat → List Int → List Int → List Emb
  | 0, vs, fs => [⟨vs, fs⟩]
  | m + 1, vs, fs => found (fun i => match meet (atomAt ats m) (ds.getD i default) vs with
    | some x => walkE ds ats m x (fs ++ [(i : Int)])
    | none => []) ds.length
def oneE (ds ats : List RI) (m : Nat) (vs fs : List Int) (i : Nat) : List Emb := match meet (atomAt ats m) (ds.getD i default) vs with
    | some x => walkE ds ats m x (fs ++ [(i : Int)])
    | none => []
theorem walkE_succ (ds ats : List RI) (m : Nat) (vs fs : List Int) : walkE ds ats (m + 1) vs fs = found (oneE ds ats m vs fs) ds.length := rfl
theorem oneE_some {ds ats : List RI} {m i : Nat} {vs fs x : List Int} (h : meet (atomAt ats m) (ds.getD i default) vs = some x) : oneE ds ats m vs fs i = walkE ds ats m x (fs ++ [(i : Int)]) := by unfold oneE; rw [h]
theorem oneE_none {ds ats : List RI} {m i : Nat} {vs fs : List Int} (h : meet (atomAt ats m) (ds.getD i default) vs = none) : oneE ds ats m vs fs i = [] := by unfold oneE; rw [h]
theorem walkE_len {ds ats : List RI} (hd : ds.length ≤ 14) : ∀ (m : Nat) (vs fs : List Int), (walkE ds ats m vs fs).length ≤ 14 ^ m
  | 0, _, _ => by simp [walkE]
  | m + 1, vs, fs => by
    rw [walkE_succ]
    have h1 : ∀ i, (oneE ds ats m vs fs i).length ≤ 14 ^ m := by
      intro i
      unfold oneE
      split
      · exact walkE_len hd m _ _
      · simp
    have h2 := found_len h1 ds.length
    have h3 := Nat.mul_le_mul_right (14 ^ m) hd
    rw [Nat.pow_succ, Nat.mul_comm (14 ^ m)]
    omega
theorem walkE_mem {ds ats : List RI} : ∀ {m : Nat} {vs fs : List Int}, ∀ e ∈ walkE ds ats m vs fs, e.vs.length = vs.length ∧ e.fs.length = fs.length + m
  | 0, vs, fs, e, h => by
    simp only [walkE, List.mem_singleton] at h
    subst h; exact ⟨rfl, rfl⟩
  | m + 1, vs, fs, e, h => by
    rw [walkE_succ, found_mem] at h
    obtain ⟨i, _, h⟩ := h
    unfold oneE at h
    split at h
    · rename_i x hx
      obtain ⟨h1, h2⟩ := walkE_mem e h
      rw [List.length_append, List.length_singleton] at h2
      exact ⟨by rw [h1, meet_len hx], by omega⟩
    · cases h
theorem pow14E {m : Nat} (h : m ≤ 3) : 14 ^ m ≤ 2744 := Nat.pow_le_pow_right (by omega) h
/-- ALL EMBEDDINGS. -/
def embs (d : Db) (q : Qu) : List Emb := if queryFor d q then walkE d.facts q.atoms q.atoms.length (List.replicate q.vc.toNat (-1)) [] else []
theorem queryFor_db {d : Db} {q : Qu} (h : queryFor d q = true) : goodDb d = true := by
  unfold queryFor at h; rw [Bool.and_eq_true] at h; exact h.1
theorem queryFor_qu {d : Db} {q : Qu} (h : queryFor d q = true) : goodQu d.rels q = true := by
  unfold queryFor at h; rw [Bool.and_eq_true] at h; exact h.2
theorem goodDb_len {d : Db} (h : goodDb d = true) : d.facts.length ≤ 14 := by
  unfold goodDb at h
  simp only [Bool.and_eq_true, decide_eq_true_eq] at h
  omega
theorem goodQu_parts {l : List Rel} {q : Qu} (h : goodQu l q = true) : (0 ≤ q.vc ∧ q.vc ≤ 4) ∧ 1 ≤ q.atoms.length ∧ q.atoms.length ≤ 3 := by
  unfold goodQu at h
  simp only [Bool.and_eq_true] at h
  have a1 := inB_of h.2.1
  have a2 := inB_of h.2.2.1
  omega
theorem goodDb_fact {d : Db} (h : goodDb d = true) {i : Nat} (hi : i < d.facts.length) : goodFact d.rels (d.facts.getD i default) = true := by
  unfold goodDb at h
  simp only [Bool.and_eq_true] at h
  have := upTo_at h.2.2 hi
  unfold factOk at this
  rw [Bool.and_eq_true] at this
  exact this.1
theorem goodQu_at {l : List Rel} {q : Qu} (h : goodQu l q = true) {k : Nat} (hk : k < q.atoms.length) : atomOk l q k = true := by
  unfold goodQu at h
  simp only [Bool.and_eq_true] at h
  exact upTo_at h.2.2.2.2.1 hk
theorem meet_lens {d : Db} {q : Qu} (h : queryFor d q = true) {k i : Nat} (hk : k < q.atoms.length) (hi : i < d.facts.length) (e : (d.facts.getD i default).r = (q.atoms.getD k default).r) : (d.facts.getD i default).l.length = (q.atoms.getD k default).l.length := by
  have h1 := goodDb_fact (queryFor_db h) hi
  have h2 := goodQu_at (queryFor_qu h) hk
  unfold goodFact at h1
  unfold atomOk relAt at h2
  simp only [Bool.and_eq_true, beq_iff_eq] at h1 h2
  have a1 := h1.2.1
  have a2 := h2.1.2
  rw [e] at a1
  omega
/-- Terms that name variables of a list or are constants. -/
def tsOk (n : Nat) (ts : List Int) : Prop := ∀ k, k < ts.length → -10 ≤ ts.getD k 0 ∧ ts.getD k 0 < n
theorem tsOk_at {l : List Rel} {q : Qu} (h : goodQu l q = true) {k : Nat} (hk : k < q.atoms.length) : tsOk q.vc.toNat (q.atoms.getD k default).l := by
  have h2 := goodQu_at h hk
  have hp := goodQu_parts h
  unfold atomOk at h2
  simp only [Bool.and_eq_true] at h2
  intro j hj
  have := upTo_at h2.2.2 hj
  unfold termOk at this
  have := inB_of this
  omega
end Go.Proofs.YtpegfljmblehnaaDoor.A


/- THE TEXT OF A QUERY. Conditions: none. -/
namespace Go.Proofs.YtpegfljmblehnaaDoor.A
open Go
set_option linter.unusedSimpArgs false
set_option linter.unusedVariables false
set_option maxRecDepth 100000

theorem getD_inQ {l : List Int} {y : Int} (h : y ∈ l) : ∃ j, j < l.length ∧ l.getD j 0 = y := by
  obtain ⟨j, hj, e⟩ := List.mem_iff_getElem.mp h
  exact ⟨j, hj, by simp [List.getD_eq_getElem?_getD, hj, e]⟩
abbrev barB : ByteArray := ⟨#[124]⟩
abbrev askB : ByteArray := ⟨#[63]⟩
abbrev blB : ByteArray := ⟨#[32]⟩
def fmtTs (ts : List Int) : List ByteArray := ts.map fmtT
def catT (ts : List Int) : ByteArray := catB (fmtTs ts)
theorem catT_nil : catT [] = noB := catB_nil
theorem fmtT_size (t : Int) : (fmtT t).size ≤ 1 := by
  unfold fmtT
  split
  · exact Nat.le_refl 1
  · exact Nat.zero_le 1
theorem fmtTs_size (ts : List Int) : ∀ x ∈ fmtTs ts, x.size ≤ 1 := by
  intro x hx
  obtain ⟨t, _, rfl⟩ := List.mem_map.mp hx
  exact fmtT_size t
theorem fmtTs_len (ts : List Int) : (fmtTs ts).length = ts.length := List.length_map _
theorem catT_size (ts : List Int) : (catT ts).size ≤ ts.length := by
  have := catB_size (fmtTs_size ts)
  rw [fmtTs_len, Nat.mul_one] at this
  exact this
theorem catT_step {ts : List Int} {k : Nat} (h : k < ts.length) : catT (ts.take (k + 1)) = catT (ts.take k) ++ fmtT (ts.getD k 0) := by
  unfold catT fmtTs
  rw [take_snoc 0 h, List.map_append, List.map_cons, List.map_nil, catB_snoc]
/-- Terms with a bar ahead of one. -/
def barT (ts : List Int) (n : Nat) : ByteArray := if n < ts.length then catT (ts.take n) ++ (barB ++ catT (ts.drop n)) else catT (ts.take n)
def barK (ts : List Int) (n : Nat) : Nat → ByteArray
  | 0 => noB
  | k + 1 => (if k = n then barK ts n k ++ barB else barK ts n k) ++ fmtT (ts.getD k 0)
theorem barK_lo {ts : List Int} {n : Nat} : ∀ {k : Nat}, k ≤ n → k ≤ ts.length → barK ts n k = catT (ts.take k)
  | 0, _, _ => by rw [barK, List.take_zero]; exact catB_nil.symm
  | k + 1, h, hl => by rw [barK, if_neg (by omega), barK_lo (by omega) (by omega), catT_step (by omega)]
theorem barK_hi {ts : List Int} {n : Nat} : ∀ {k : Nat}, n < k → k ≤ ts.length → barK ts n k = catT (ts.take n) ++ (barB ++ catT ((ts.drop n).take (k - n)))
  | 0, h, _ => by omega
  | k + 1, h, hl => by
    by_cases e : k = n
    · subst e
      rw [barK, if_pos rfl, barK_lo (Nat.le_refl _) (by omega), show k + 1 - k = 0 + 1 by omega, catT_step (by rw [List.length_drop]; omega), List.take_zero, app_ass,
        show catT ([] : List Int) = noB from catB_nil, noB_app]
      simp [List.getD_eq_getElem?_getD]
    · rw [barK, if_neg e, barK_hi (by omega) (by omega), show k + 1 - n = (k - n) + 1 by omega, catT_step (by rw [List.length_drop]; omega), app_ass, app_ass,
        show (ts.drop n).getD (k - n) 0 = ts.getD k 0 by simp [List.getD_eq_getElem?_getD, show n + (k - n) = k by omega]]
theorem barK_end {ts : List Int} {n : Nat} (h : n ≤ ts.length) : barK ts n ts.length = barT ts n := by
  unfold barT
  split
  · rw [barK_hi (by omega) (Nat.le_refl _), List.take_of_length_le (l := ts.drop n) (by rw [List.length_drop]; exact Nat.le_refl _)]
  · obtain rfl : n = ts.length := by omega
    rw [barK_lo (Nat.le_refl _) (Nat.le_refl _)]
theorem barK_size (ts : List Int) (n : Nat) : ∀ k, (barK ts n k).size ≤ 2 * k
  | 0 => Nat.le_refl 0
  | k + 1 => by
    have h1 := barK_size ts n k
    have h2 := fmtT_size (ts.getD k 0)
    rw [barK, app_size]
    split
    · rw [app_size]
      have : barB.size = 1 := rfl
      omega
    · omega
def atomText (l : List Rel) (a : RI) : ByteArray := (l.getD a.r.toNat default).name ++ barT a.l (l.getD a.r.toNat default).kl.toNat
def atTs (l : List Rel) (rs : List RI) : List ByteArray := rs.map (atomText l)
def qTexts (l : List Rel) (q : Qu) : List ByteArray := atTs l q.atoms
def quText (l : List Rel) (q : Qu) : ByteArray := if goodQu l q then catT q.free ++ askB ++ joinB (qTexts l q) blB else noB
/-- What holds of an atom of a valid query. -/
structure GoodAt (l : List Rel) (a : RI) (n k : Nat) : Prop where
  r : a.r = n
  kl : (l.getD n default).kl = k
  hn : n < l.length
  hk : k ≤ a.l.length
  hl : a.l.length ≤ 3
  sn : (l.getD n default).name.size = 1
  ht : ∀ t ∈ a.l, -10 ≤ t ∧ t ≤ 3
theorem goodAt_of {l : List Rel} {q : Qu} (g : goodQu l q = true) {i : Nat} (hi : i < q.atoms.length) : ∃ n k : Nat, GoodAt l (q.atoms.getD i default) n k := by
  have h1 := goodQu_at g hi
  have hv := (goodQu_parts g).1
  unfold goodQu goodRels at g
  unfold atomOk relAt at h1
  simp only [Bool.and_eq_true] at g h1
  have h2 := inB_of h1.1.1
  have h3 := upTo_at g.1.1 (show (q.atoms.getD i default).r.toNat < l.length by omega)
  unfold relOk goodRel at h3
  simp only [Bool.and_eq_true, beq_iff_eq] at h3 h1
  have h4 := inB_of h3.1.2.2.2.1
  have h5 := inB_of h3.1.2.2.2.2
  refine ⟨(q.atoms.getD i default).r.toNat, (l.getD (q.atoms.getD i default).r.toNat default).kl.toNat, by omega, by omega, by omega, by have := h1.1.2; omega, by have := h1.1.2; omega, by have := h3.1.1; omega, fun t ht => ?_⟩
  obtain ⟨j, hj, rfl⟩ := getD_inQ ht
  have h6 := upTo_at h1.2.2 hj
  unfold termOk at h6
  have := inB_of h6
  omega
theorem goodFree {l : List Rel} {q : Qu} (g : goodQu l q = true) : ∀ t ∈ q.free, -10 ≤ t ∧ t ≤ 3 := by
  have hv := (goodQu_parts g).1
  unfold goodQu at g
  simp only [Bool.and_eq_true] at g
  have h1 := g.2.2.2.1
  intro t ht
  obtain ⟨j, hj, rfl⟩ := getD_inQ ht
  unfold idxs at h1
  have h2 := upTo_at h1 hj
  unfold idxAt at h2
  simp only [Bool.and_eq_true] at h2
  have := inB_of h2.1
  omega
theorem barT_size {ts : List Int} {n : Nat} (h : n ≤ ts.length) : (barT ts n).size ≤ 2 * ts.length := by
  rw [← barK_end h]; exact barK_size ts n _
theorem atomText_size {l : List Rel} {a : RI} {n k : Nat} (G : GoodAt l a n k) : (atomText l a).size ≤ 7 := by
  have h1 := barT_size G.hk
  have h2 := G.hl
  rw [atomText, app_size, G.r, Int.toNat_natCast, G.sn, G.kl, Int.toNat_natCast]
  omega
theorem qTexts_mem {l : List Rel} {q : Qu} (g : goodQu l q = true) : ∀ x ∈ qTexts l q, x.size ≤ 7 := by
  intro x hx
  obtain ⟨a, ha, rfl⟩ := List.mem_map.mp hx
  obtain ⟨i, hi, e⟩ := List.mem_iff_getElem.mp ha
  obtain ⟨n, k, G⟩ := goodAt_of g hi
  have : q.atoms.getD i default = a := by simp [List.getD_eq_getElem?_getD, hi, e]
  rw [this] at G
  exact atomText_size G
theorem formatTerms_sat (ts : List Int) (h : ts.length ≤ 1048576) (ht : ∀ t ∈ ts, -10 ≤ t ∧ t ≤ 3) : Sat Tryd.prog 44 [lInts ts] [oStrs (fmtTs ts)] [g1] := by
  refine sat_of_body mixed Tryd.func44 rfl (by kernel_rfl) (by kernel_rfl) (rs := [.tmp 2]) rfl rfl rfl ?_
  simp -implicitDefEqProofs (maxSteps := 2000000) only [go_sem]
  refine awp_loop Nat (fun k => mkSt [(3, .one (.ref 960 1 0 (fmtTs (ts.take k)).length)), (7, .one (.im 1 (ints ts))), (8, .sc (.int .i64 ts.length)), (9, .sc (.int .i64 k))] [] [(960, (1, sts (fmtTs (ts.take k))))] 4000)
    (fun k => k ≤ ts.length) (fun k => ts.length - k) 0 (by omega) (le_st' _ _ [⟨960, some _, false, 1, _⟩] [] _ (by simp -implicitDefEqProofs (maxSteps := 2000000) only [go_sem, fmtTs, List.take_zero, List.map_nil, sts_nil, List.length_nil] <;> and_intros <;> rfl) (by simp -implicitDefEqProofs (maxSteps := 2000000) only [go_sem, fmtTs, List.take_zero, List.map_nil, sts_nil, List.length_nil] <;> and_intros <;> rfl) (by simp -implicitDefEqProofs (maxSteps := 2000000) only [go_sem, fmtTs, List.take_zero, List.map_nil, sts_nil, List.length_nil] <;> and_intros <;> rfl) (by rfl)) ?_
  rintro k h1
  by_cases c1 : k < ts.length
  · have wk : IntKind.i64.wrap ((k : Int) + 1) = ((k + 1 : Nat) : Int) := i64_succ (by omega)
    have hr := ht _ (mem_getD 0 c1)
    have hst : fmtTs (ts.take (k + 1)) = fmtTs (ts.take k) ++ [fmtT (ts.getD k 0)] := by unfold fmtTs; rw [take_snoc 0 c1, List.map_append]; rfl
    have hll : (fmtTs (ts.take k)).length ≤ 1048576 := by rw [fmtTs_len, List.length_take]; omega
    simp -implicitDefEqProofs (maxSteps := 2000000) only [go_sem, c1]
    refine call_of (implFormatTerm_sat (ts.getD k 0) (by omega)) (by simp -implicitDefEqProofs (maxSteps := 2000000) only [go_sem, c1]) (by kernel_rfl) (by simp -implicitDefEqProofs (maxSteps := 2000000) only [go_sem, c1]) ?_
    simp -implicitDefEqProofs (maxSteps := 2000000) only [go_sem, c1]
    refine ⟨by omega, ?_⟩
    rw [wk]
    refine ⟨k + 1, c1, by omega, ?_⟩
    rw [hst]
    exact (le_st' _ _ [⟨960, some _, false, 1, _⟩] [] _ (by simp -implicitDefEqProofs (maxSteps := 2000000) only [go_sem] <;> and_intros <;> rfl) (by simp -implicitDefEqProofs (maxSteps := 2000000) only [go_sem] <;> and_intros <;> rfl) (by simp -implicitDefEqProofs (maxSteps := 2000000) only [go_sem] <;> and_intros <;> rfl) (by rfl))
  · obtain rfl : k = ts.length := by omega
    simp -implicitDefEqProofs (maxSteps := 2000000) only [go_sem, c1, List.take_length]
    first | done | rfl | exact ⟨rfl, rfl⟩ | exact ⟨rfl, rfl, rfl⟩ | (refine tr_and ?_ ?_ <;> first | rfl | exact ⟨rfl, rfl⟩ | kernel_rfl)
theorem barred_sat (ts : List Int) (n : Nat) (h : ts.length ≤ 1048576) (hn : n ≤ ts.length) : Sat Tryd.prog 63 [lStrs (fmtTs ts), lInt n] [lStr (barT ts n)] [g1, g1] := by
  refine sat_of_body mixed Tryd.func63 rfl (by kernel_rfl) (by kernel_rfl) (rs := [.tmp 4]) rfl rfl rfl ?_
  have hl := fmtTs_len ts
  have e1 : (fmtTs ts).take n = fmtTs (ts.take n) := by unfold fmtTs; rw [List.map_take]
  have e2 : (fmtTs ts).drop n = fmtTs (ts.drop n) := by unfold fmtTs; rw [List.map_drop]
  have e3 : (fmtTs ts).take ts.length = fmtTs ts := List.take_of_length_le (by rw [fmtTs_len]; exact Nat.le_refl _)
  have s1 := catT_size (ts.take n)
  have s2 := catT_size (ts.drop n)
  rw [List.length_take] at s1
  rw [List.length_drop] at s2
  unfold catT catB at s1 s2
  unfold barT catT catB
  have b1 : barB.size = 1 := rfl
  simp -implicitDefEqProofs (maxSteps := 2000000) only [go_sem, hl, hn]
  refine ⟨by omega, ?_⟩
  refine call_of (stringsJoin_sat (fmtTs (ts.take n)) noB (by rw [fmtTs_len, List.length_take]; omega) (by omega)) ?_ ?_ ?_ ?_
  · simp -implicitDefEqProofs (maxSteps := 2000000) only [go_sem, e1]
  · kernel_rfl
  · simp -implicitDefEqProofs (maxSteps := 2000000) only [go_sem, e1]
  simp -implicitDefEqProofs (maxSteps := 2000000) only [go_sem, e1]
  by_cases c1 : n < ts.length
  · rw [if_pos c1]
    simp -implicitDefEqProofs (maxSteps := 2000000) only [go_sem, c1, hl]
    refine ⟨by omega, by omega, ?_⟩
    refine call_of (stringsJoin_sat (fmtTs (ts.drop n)) noB (by rw [fmtTs_len, List.length_drop]; omega) (by omega)) ?_ ?_ ?_ ?_
    · simp -implicitDefEqProofs (maxSteps := 2000000) only [go_sem, e2, e3, hl, app_size]
    · kernel_rfl
    · simp -implicitDefEqProofs (maxSteps := 2000000) only [go_sem, e2, e3, hl, app_size]
    simp -implicitDefEqProofs (maxSteps := 2000000) only [go_sem, e2, e3, hl, app_size]
    omega
  · rw [if_neg c1]
    simp -implicitDefEqProofs (maxSteps := 2000000) only [go_sem, c1, hl]
    first | done | rfl | exact ⟨rfl, rfl⟩ | exact ⟨rfl, rfl, rfl⟩ | (refine tr_and ?_ ?_ <;> first | rfl | exact ⟨rfl, rfl⟩ | kernel_rfl)
theorem atTs_step {l : List Rel} {rs : List RI} {k : Nat} (h : k < rs.length) : atTs l (rs.take (k + 1)) = atTs l (rs.take k) ++ [atomText l (rs.getD k default)] := by
  unfold atTs; rw [take_snoc default h, List.map_append]; rfl
theorem atTs_len (l : List Rel) (rs : List RI) : (atTs l rs).length = rs.length := List.length_map _
theorem formatAtom_sat (l : List Rel) (a : RI) (n k : Nat) (hl : l.length ≤ 9223372036854775807) (G : GoodAt l a n k) : Sat Tryd.prog 42 [lRels l, lRI a] [lStr (atomText l a)] [g1, g2] := by
  refine sat_of_body mixed Tryd.func42 rfl (by kernel_rfl) (by kernel_rfl) (rs := [.tmp 4]) rfl rfl rfl ?_
  obtain ⟨er, ek, hn, hk, h3, sn, ht⟩ := G
  have s1 := barT_size hk
  unfold atomText
  rcases a with ⟨r, ts⟩
  simp only at er ek hk h3 ht s1
  subst er
  rw [Int.toNat_natCast, ek, Int.toNat_natCast]
  simp -implicitDefEqProofs (maxSteps := 2000000) only [go_sem, hn]
  refine call_of (formatTerms_sat ts (by omega) ht) (by simp -implicitDefEqProofs (maxSteps := 2000000) only [go_sem, hn, ek]) (callOk_still (by kernel_rfl) (by simp only [List.all_cons, List.all_nil, LV.still, LV.leaves, Leaf.still, ints_still, ris_still, eds_still, rels_still, iss_still, ems_still, sts_still, Bool.and_self, Bool.and_true])) (by simp -implicitDefEqProofs (maxSteps := 2000000) only [go_sem, hn, ek]) ?_
  simp -implicitDefEqProofs (maxSteps := 2000000) only [go_sem, hn, ek]
  refine call_of (barred_sat ts k (by omega) hk) (by simp -implicitDefEqProofs (maxSteps := 2000000) only [go_sem, hn, ek, sn]) (by kernel_rfl) (by simp -implicitDefEqProofs (maxSteps := 2000000) only [go_sem, hn, ek, sn]) ?_
  simp -implicitDefEqProofs (maxSteps := 2000000) only [go_sem, hn, ek, sn]
  exact ⟨by omega, by kernel_rfl⟩
theorem l11Atom_sat (l : List Rel) (a : RI) (n k : Nat) (hl : l.length ≤ 9223372036854775807) (G : GoodAt l a n k) : Sat Tryd.prog 37 [lRels l, lRI a] [lStr (atomText l a)] [g1, g2] := by
  refine sat_of_body mixed Tryd.func37 rfl (by kernel_rfl) (by kernel_rfl) (rs := [.tmp 4]) rfl rfl rfl ?_
  obtain ⟨er, ek, hn, hk, h3, sn, ht⟩ := G
  unfold atomText
  rcases a with ⟨r, ts⟩
  simp only at er ek hk h3 ht
  subst er
  rw [Int.toNat_natCast, ek, Int.toNat_natCast, ← barK_end hk]
  simp -implicitDefEqProofs (maxSteps := 2000000) only [go_sem, hn]
  refine awp_loop Nat (fun j => mkSt [(0, .one (.im 3 (rels l))), (3, .one (.vad 1000 0)), (5, .sc (.string ((l.getD n default).name ++ barK ts k j))), (6, .sc (.int .i64 j))] [(1000, sRI ⟨n, ts⟩)] [] 3000)
    (fun j => j ≤ ts.length) (fun j => ts.length - j) 0 (by omega) (le_st _ _ [] [] _ rfl (by simp -implicitDefEqProofs (maxSteps := 2000000) only [go_sem, barK, app_noB] <;> rfl) (by simp -implicitDefEqProofs (maxSteps := 2000000) only [go_sem, barK, app_noB] <;> rfl) (by simp -implicitDefEqProofs (maxSteps := 2000000) only [go_sem, barK, app_noB] <;> rfl)) ?_
  rintro j h1
  by_cases c1 : j < ts.length
  · have wj : IntKind.i64.wrap ((j : Int) + 1) = ((j + 1 : Nat) : Int) := i64_succ (by omega)
    have hr := ht _ (mem_getD 0 c1)
    have hbs := barK_size ts k j
    have hfs := fmtT_size (ts.getD j 0)
    have b1 : barB.size = 1 := rfl
    by_cases e : j = k
    · have d1 : (((j : Nat) : Int) == ((k : Nat) : Int)) = true := by rw [beq_iff_eq]; omega
      have hst : (l.getD n default).name ++ barK ts k (j + 1) = (l.getD n default).name ++ barK ts k j ++ barB ++ fmtT (ts.getD j 0) := by rw [barK, if_pos e, app_ass, app_ass, app_ass]
      simp -implicitDefEqProofs (maxSteps := 2000000) only [go_sem, c1, hn, ek, d1, app_size, sn]
      refine ⟨by omega, ?_⟩
      refine call_of (specFormatTerm_sat (ts.getD j 0) (by omega)) (by simp -implicitDefEqProofs (maxSteps := 2000000) only [go_sem, c1, app_size, sn]) (by kernel_rfl) (by simp -implicitDefEqProofs (maxSteps := 2000000) only [go_sem, c1, app_size, sn]) ?_
      simp -implicitDefEqProofs (maxSteps := 2000000) only [go_sem, c1, app_size, sn]
      refine ⟨by omega, ?_⟩
      rw [wj]
      exact ⟨j + 1, c1, by omega, (le_st _ _ [] [] _ rfl (by simp -implicitDefEqProofs (maxSteps := 2000000) only [go_sem, hst] <;> rfl) (by simp -implicitDefEqProofs (maxSteps := 2000000) only [go_sem, hst] <;> rfl) (by simp -implicitDefEqProofs (maxSteps := 2000000) only [go_sem, hst] <;> rfl))⟩
    · have d1 : (((j : Nat) : Int) == ((k : Nat) : Int)) = false := by rw [beq_eq_false_iff_ne]; omega
      have hst : (l.getD n default).name ++ barK ts k (j + 1) = (l.getD n default).name ++ barK ts k j ++ fmtT (ts.getD j 0) := by rw [barK, if_neg e, app_ass]
      simp -implicitDefEqProofs (maxSteps := 2000000) only [go_sem, c1, hn, ek, d1, app_size, sn]
      refine call_of (specFormatTerm_sat (ts.getD j 0) (by omega)) (by simp -implicitDefEqProofs (maxSteps := 2000000) only [go_sem, c1, app_size, sn]) (by kernel_rfl) (by simp -implicitDefEqProofs (maxSteps := 2000000) only [go_sem, c1, app_size, sn]) ?_
      simp -implicitDefEqProofs (maxSteps := 2000000) only [go_sem, c1, app_size, sn]
      refine ⟨by omega, ?_⟩
      rw [wj]
      exact ⟨j + 1, c1, by omega, (le_st _ _ [] [] _ rfl (by simp -implicitDefEqProofs (maxSteps := 2000000) only [go_sem, hst] <;> rfl) (by simp -implicitDefEqProofs (maxSteps := 2000000) only [go_sem, hst] <;> rfl) (by simp -implicitDefEqProofs (maxSteps := 2000000) only [go_sem, hst] <;> rfl))⟩
  · obtain rfl : j = ts.length := by omega
    simp -implicitDefEqProofs (maxSteps := 2000000) only [go_sem, c1]
    first | done | rfl | exact ⟨rfl, rfl⟩ | exact ⟨rfl, rfl, rfl⟩ | (refine tr_and ?_ ?_ <;> first | rfl | exact ⟨rfl, rfl⟩ | kernel_rfl)
theorem implFormatQuery_sat (l : List Rel) (q : Qu) (hl : l.length ≤ 9223372036854775807) (hq : q.ok) : Sat Tryd.prog 19 [lRels l, lQu q] [lStr (quText l q)] [g1, g3] := by
  refine sat_of_body mixed Tryd.func19 rfl (by kernel_rfl) (by kernel_rfl) (rs := [.tmp 4]) rfl rfl rfl ?_
  unfold quText
  rcases g : goodQu l q
  · rw [if_neg (by simp)]
    simp -implicitDefEqProofs (maxSteps := 2000000) only [go_sem]
    refine call_of (implIsValidQuery_sat l q hl hq) (by simp -implicitDefEqProofs (maxSteps := 2000000) only [go_sem, g]) (by kernel_rfl) (by simp -implicitDefEqProofs (maxSteps := 2000000) only [go_sem, g]) ?_
    simp -implicitDefEqProofs (maxSteps := 2000000) only [go_sem, g]
    first | done | rfl | exact ⟨rfl, rfl⟩ | exact ⟨rfl, rfl, rfl⟩ | (refine tr_and ?_ ?_ <;> first | rfl | exact ⟨rfl, rfl⟩ | kernel_rfl)
  rw [if_pos rfl]
  obtain ⟨hv, hn1, hn⟩ := goodQu_parts g
  simp -implicitDefEqProofs (maxSteps := 2000000) only [go_sem]
  refine call_of (implIsValidQuery_sat l q hl hq) (by simp -implicitDefEqProofs (maxSteps := 2000000) only [go_sem, g]) (by kernel_rfl) (by simp -implicitDefEqProofs (maxSteps := 2000000) only [go_sem, g]) ?_
  simp -implicitDefEqProofs (maxSteps := 2000000) only [go_sem, g]
  refine awp_loop Nat (fun k => mkSt [(0, .one (.im 3 (rels l))), (3, .one (.vad 1000 0)), (5, .one (.ref 960 1 0 (atTs l (q.atoms.take k)).length)), (14, .one (.im 2 (ris 0 q.atoms))), (15, .sc (.int .i64 q.atoms.length)), (16, .sc (.int .i64 k))] [(1000, sQu q)] [(960, (1, sts (atTs l (q.atoms.take k))))] 6000)
    (fun k => k ≤ q.atoms.length) (fun k => q.atoms.length - k) 0 (by omega) (le_st' _ _ [⟨960, some _, false, 1, _⟩] [] _ (by simp -implicitDefEqProofs (maxSteps := 2000000) only [go_sem, atTs, List.take_zero, List.map_nil, sts_nil, List.length_nil] <;> and_intros <;> rfl) (by simp -implicitDefEqProofs (maxSteps := 2000000) only [go_sem, atTs, List.take_zero, List.map_nil, sts_nil, List.length_nil] <;> and_intros <;> rfl) (by simp -implicitDefEqProofs (maxSteps := 2000000) only [go_sem, atTs, List.take_zero, List.map_nil, sts_nil, List.length_nil] <;> and_intros <;> rfl) (by rfl)) ?_
  rintro k h1
  by_cases c1 : k < q.atoms.length
  · have wk : IntKind.i64.wrap ((k : Int) + 1) = ((k + 1 : Nat) : Int) := i64_succ (by omega)
    obtain ⟨n, m, G⟩ := goodAt_of g c1
    have hst := atTs_step (l := l) c1
    have hll : (atTs l (q.atoms.take k)).length ≤ 3 := by rw [atTs_len, List.length_take]; omega
    simp -implicitDefEqProofs (maxSteps := 2000000) only [go_sem, c1]
    refine call_of (formatAtom_sat l (q.atoms.getD k default) n m hl G) (by simp -implicitDefEqProofs (maxSteps := 2000000) only [go_sem, c1]) (by kernel_rfl) (by simp -implicitDefEqProofs (maxSteps := 2000000) only [go_sem, c1]) ?_
    simp -implicitDefEqProofs (maxSteps := 2000000) only [go_sem, c1]
    refine ⟨by omega, ?_⟩
    rw [wk]
    refine ⟨k + 1, c1, by omega, ?_⟩
    rw [hst]
    exact (le_st' _ _ [⟨960, some _, false, 1, _⟩] [] _ (by simp -implicitDefEqProofs (maxSteps := 2000000) only [go_sem] <;> and_intros <;> rfl) (by simp -implicitDefEqProofs (maxSteps := 2000000) only [go_sem] <;> and_intros <;> rfl) (by simp -implicitDefEqProofs (maxSteps := 2000000) only [go_sem] <;> and_intros <;> rfl) (by rfl))
  · obtain rfl : k = q.atoms.length := by omega
    rw [List.take_length]
    have hf := goodFree g
    have hfl : q.free.length ≤ 1048576 := hq.2
    have s1 := catT_size q.free
    have s2 := joinB_size blB 7 (qTexts l q) (qTexts_mem g)
    rw [show (qTexts l q).length = q.atoms.length from atTs_len l q.atoms, show blB.size = 1 from rfl] at s2
    have s3 : askB.size = 1 := rfl
    unfold qTexts at s2 ⊢
    simp -implicitDefEqProofs (maxSteps := 2000000) only [go_sem, c1]
    refine call_of (formatTerms_sat q.free hfl hf) (by simp -implicitDefEqProofs (maxSteps := 2000000) only [go_sem]) (callOk_still (by kernel_rfl) (by simp only [List.all_cons, List.all_nil, LV.still, LV.leaves, Leaf.still, ints_still, ris_still, eds_still, rels_still, iss_still, ems_still, sts_still, Bool.and_self, Bool.and_true])) (by simp -implicitDefEqProofs (maxSteps := 2000000) only [go_sem]) ?_
    simp -implicitDefEqProofs (maxSteps := 2000000) only [go_sem]
    refine call_of (stringsJoin_sat (fmtTs q.free) noB (by rw [fmtTs_len]; omega) (by unfold catT catB at s1; omega)) (by simp -implicitDefEqProofs (maxSteps := 2000000) only [go_sem]) (by kernel_rfl) (by simp -implicitDefEqProofs (maxSteps := 2000000) only [go_sem]) ?_
    simp -implicitDefEqProofs (maxSteps := 2000000) only [go_sem]
    rw [show joinB (fmtTs q.free) noB = catT q.free from rfl]
    refine ⟨by omega, ?_⟩
    refine call_of (stringsJoin_sat (atTs l q.atoms) blB (by rw [atTs_len]; omega) (by omega)) (by simp -implicitDefEqProofs (maxSteps := 2000000) only [go_sem, app_size]) (by kernel_rfl) (by simp -implicitDefEqProofs (maxSteps := 2000000) only [go_sem, app_size]) ?_
    simp -implicitDefEqProofs (maxSteps := 2000000) only [go_sem, app_size]
    omega
theorem specFormatQuery_sat (l : List Rel) (q : Qu) (hl : l.length ≤ 9223372036854775807) (hq : q.ok) : Sat Tryd.prog 16 [lRels l, lQu q] [lStr (quText l q)] [g1, g3] := by
  refine sat_of_body mixed Tryd.func16 rfl (by kernel_rfl) (by kernel_rfl) (rs := [.tmp 4]) rfl rfl rfl ?_
  have hqf : q.fit := hq.fit
  unfold quText
  rcases g : goodQu l q
  · rw [if_neg (by simp)]
    simp -implicitDefEqProofs (maxSteps := 2000000) only [go_sem]
    refine call_of (specIsValidQuery_sat l q hl hqf) (by simp -implicitDefEqProofs (maxSteps := 2000000) only [go_sem, g]) (by kernel_rfl) (by simp -implicitDefEqProofs (maxSteps := 2000000) only [go_sem, g]) ?_
    simp -implicitDefEqProofs (maxSteps := 2000000) only [go_sem, g]
    first | done | rfl | exact ⟨rfl, rfl⟩ | exact ⟨rfl, rfl, rfl⟩ | (refine tr_and ?_ ?_ <;> first | rfl | exact ⟨rfl, rfl⟩ | kernel_rfl)
  rw [if_pos rfl]
  obtain ⟨hv, hn1, hn⟩ := goodQu_parts g
  have hf := goodFree g
  have hfl : q.free.length ≤ 1048576 := hq.2
  have s3 : askB.size = 1 := rfl
  have s4 : blB.size = 1 := rfl
  simp -implicitDefEqProofs (maxSteps := 2000000) only [go_sem]
  refine call_of (specIsValidQuery_sat l q hl hqf) (by simp -implicitDefEqProofs (maxSteps := 2000000) only [go_sem, g]) (by kernel_rfl) (by simp -implicitDefEqProofs (maxSteps := 2000000) only [go_sem, g]) ?_
  simp -implicitDefEqProofs (maxSteps := 2000000) only [go_sem, g]
  refine awp_loop Nat (fun k => mkSt [(0, .one (.im 3 (rels l))), (3, .one (.vad 1000 0)), (5, .sc (.string (catT (q.free.take k)))), (6, .sc (.int .i64 k))] [(1000, sQu q)] [] 6000)
    (fun k => k ≤ q.free.length) (fun k => q.free.length - k) 0 (by omega) (le_st _ _ [] [] _ rfl (by simp -implicitDefEqProofs (maxSteps := 2000000) only [go_sem, List.take_zero, catT_nil] <;> rfl) (by simp -implicitDefEqProofs (maxSteps := 2000000) only [go_sem, List.take_zero, catT_nil] <;> rfl) (by simp -implicitDefEqProofs (maxSteps := 2000000) only [go_sem, List.take_zero, catT_nil] <;> rfl)) ?_
  rintro k h1
  by_cases c1 : k < q.free.length
  · have wk : IntKind.i64.wrap ((k : Int) + 1) = ((k + 1 : Nat) : Int) := i64_succ (by omega)
    have hst := catT_step c1
    have hr := hf _ (mem_getD 0 c1)
    have s5 := catT_size (q.free.take k)
    rw [List.length_take] at s5
    have s6 := fmtT_size (q.free.getD k 0)
    simp -implicitDefEqProofs (maxSteps := 2000000) only [go_sem, c1]
    refine call_of (specFormatTerm_sat (q.free.getD k 0) (by omega)) (by simp -implicitDefEqProofs (maxSteps := 2000000) only [go_sem, c1]) (by kernel_rfl) (by simp -implicitDefEqProofs (maxSteps := 2000000) only [go_sem, c1]) ?_
    simp -implicitDefEqProofs (maxSteps := 2000000) only [go_sem, c1]
    refine ⟨by omega, ?_⟩
    rw [wk]
    exact ⟨k + 1, c1, by omega, (le_st _ _ [] [] _ rfl (by simp -implicitDefEqProofs (maxSteps := 2000000) only [go_sem, hst] <;> rfl) (by simp -implicitDefEqProofs (maxSteps := 2000000) only [go_sem, hst] <;> rfl) (by simp -implicitDefEqProofs (maxSteps := 2000000) only [go_sem, hst] <;> rfl))⟩
  obtain rfl : k = q.free.length := by omega
  have s5 := catT_size q.free
  rw [List.take_length]
  simp -implicitDefEqProofs (maxSteps := 2000000) only [go_sem, c1, app_size]
  refine ⟨by omega, ?_⟩
  refine awp_loop Nat (fun k => mkSt [(0, .one (.im 3 (rels l))), (3, .one (.vad 1000 0)), (5, .sc (.string (catT q.free ++ askB ++ joinB (atTs l (q.atoms.take k)) blB))), (7, .sc (.int .i64 k))] [(1000, sQu q)] [] 9000)
    (fun k => k ≤ q.atoms.length) (fun k => q.atoms.length - k) 0 (by omega) (le_st _ _ [] [] _ rfl (by simp -implicitDefEqProofs (maxSteps := 2000000) only [go_sem, atTs, List.take_zero, List.map_nil, joinB_nil, app_noB] <;> rfl) (by simp -implicitDefEqProofs (maxSteps := 2000000) only [go_sem, atTs, List.take_zero, List.map_nil, joinB_nil, app_noB] <;> rfl) (by simp -implicitDefEqProofs (maxSteps := 2000000) only [go_sem, atTs, List.take_zero, List.map_nil, joinB_nil, app_noB] <;> rfl)) ?_
  rintro k h2
  by_cases c2 : k < q.atoms.length
  · have wk : IntKind.i64.wrap ((k : Int) + 1) = ((k + 1 : Nat) : Int) := i64_succ (by omega)
    obtain ⟨n, m, G⟩ := goodAt_of g c2
    have hst := atTs_step (l := l) c2
    have s6 := atomText_size G
    have s7 := joinB_size blB 7 (atTs l (q.atoms.take k)) (fun x hx => by
      obtain ⟨a, ha, rfl⟩ := List.mem_map.mp hx
      exact qTexts_mem g _ (List.mem_map.mpr ⟨a, List.mem_of_mem_take ha, rfl⟩))
    rw [atTs_len, List.length_take, s4] at s7
    have s8 : min k q.atoms.length * (7 + 1) ≤ 3 * 8 := Nat.mul_le_mul (by omega) (by omega)
    rcases k with _ | k
    · have e1 : catT q.free ++ askB ++ joinB (atTs l (q.atoms.take (0 + 1))) blB = catT q.free ++ askB ++ atomText l (q.atoms.getD 0 default) := by
        rw [hst, show atTs l (q.atoms.take 0) = [] from rfl, List.nil_append, joinB_one]
      have e0 : joinB (atTs l []) blB = noB := joinB_nil _
      have d1 : decide ((0 : Int) < ((q.atoms.length : Nat) : Int)) = true := decide_eq_true (by omega)
      simp -implicitDefEqProofs (maxSteps := 2000000) only [go_sem, d1, c2, app_size, e0, app_noB]
      refine call_of (l11Atom_sat l (q.atoms.getD 0 default) n m hl G) (by simp -implicitDefEqProofs (maxSteps := 2000000) only [go_sem, c2, app_size, e0, app_noB]) (by kernel_rfl) (by simp -implicitDefEqProofs (maxSteps := 2000000) only [go_sem, c2, app_size, e0, app_noB]) ?_
      simp -implicitDefEqProofs (maxSteps := 2000000) only [go_sem, c2, app_size, e0, app_noB]
      refine ⟨by omega, ?_⟩
      exact ⟨0 + 1, c2, by omega, (le_st _ _ [] [] _ rfl (by simp -implicitDefEqProofs (maxSteps := 2000000) only [go_sem, e1] <;> rfl) (by simp -implicitDefEqProofs (maxSteps := 2000000) only [go_sem, e1] <;> rfl) (by simp -implicitDefEqProofs (maxSteps := 2000000) only [go_sem, e1] <;> rfl))⟩
    · have hne : atTs l (q.atoms.take (k + 1)) ≠ [] := fun e => by
        have := congrArg List.length e
        rw [atTs_len, List.length_take] at this
        rw [List.length_nil] at this
        omega
      have e1 : catT q.free ++ askB ++ joinB (atTs l (q.atoms.take (k + 1 + 1))) blB = catT q.free ++ askB ++ joinB (atTs l (q.atoms.take (k + 1))) blB ++ blB ++ atomText l (q.atoms.getD (k + 1) default) := by
        rw [hst, joinB_snoc hne]
        simp only [app_ass]
      have d1 : decide (((k + 1 : Nat) : Int) > 0) = true := decide_eq_true (by omega)
      simp -implicitDefEqProofs (maxSteps := 2000000) only [go_sem, c2, d1, app_size]
      refine ⟨by omega, ?_⟩
      refine call_of (l11Atom_sat l (q.atoms.getD (k + 1) default) n m hl G) (by simp -implicitDefEqProofs (maxSteps := 2000000) only [go_sem, c2, app_size]) (by kernel_rfl) (by simp -implicitDefEqProofs (maxSteps := 2000000) only [go_sem, c2, app_size]) ?_
      simp -implicitDefEqProofs (maxSteps := 2000000) only [go_sem, c2, app_size]
      refine ⟨by omega, ?_⟩
      rw [wk]
      exact ⟨k + 1 + 1, c2, by omega, (le_st _ _ [] [] _ rfl (by simp -implicitDefEqProofs (maxSteps := 2000000) only [go_sem, e1] <;> rfl) (by simp -implicitDefEqProofs (maxSteps := 2000000) only [go_sem, e1] <;> rfl) (by simp -implicitDefEqProofs (maxSteps := 2000000) only [go_sem, e1] <;> rfl))⟩
  · obtain rfl : k = q.atoms.length := by omega
    rw [List.take_length]
    simp -implicitDefEqProofs (maxSteps := 2000000) only [go_sem, c2]
    first | done | rfl | exact ⟨rfl, rfl⟩ | exact ⟨rfl, rfl, rfl⟩ | (refine tr_and ?_ ?_ <;> first | rfl | exact ⟨rfl, rfl⟩ | kernel_rfl)
end Go.Proofs.YtpegfljmblehnaaDoor.A


/- CONFLICT EDGES: size, copy, comparison, marks; marks of databases. Conditions: none. -/
namespace Go.Proofs.YtpegfljmblehnaaDoor.A
open Go
set_option linter.unusedSimpArgs false
set_option linter.unusedVariables false
set_option maxRecDepth 100000

def szEds (a : List Edge) (n : Int) : Int := if n - a.length < 0 then -1 else n - a.length
theorem szEds_ok : SzOk szEds (fun a => a.length ≤ 1048576) := by
  intro a n h
  unfold szEds
  split
  · exact ⟨by omega, fun h => absurd (by omega) h⟩
  · exact ⟨by omega, fun h => by omega⟩
def cntE : Int → Nat → List Edge
  | _, 0 => []
  | k, n + 1 => ⟨k, k + 1⟩ :: cntE (k + 2) n
theorem cntE_length : ∀ (k : Int) (n : Nat), (cntE k n).length = n
  | _, 0 => rfl
  | k, n + 1 => by rw [cntE, List.length_cons, cntE_length]
theorem cntE_get : ∀ {k : Int} {n i : Nat}, i < n → (cntE k n).getD i default = ⟨k + ((2 * i : Nat) : Int), k + ((2 * i : Nat) : Int) + 1⟩
  | k, n + 1, 0, _ => by simp [cntE]
  | k, n + 1, i + 1, h => by
    rw [cntE, List.getD_cons_succ, cntE_get (by omega), show k + 2 + ((2 * i : Nat) : Int) = k + ((2 * (i + 1) : Nat) : Int) by omega]
theorem cntE_full (k : Int) (n : Nat) : List.take n (cntE k n) = cntE k n := List.take_of_length_le (by rw [cntE_length]; omega)
attribute [go_sem] cntE_full
def numDb (d : Db) : Nat := 3 * d.rels.length + numRI d.facts
theorem numDb_ok {d : Db} (h : d.ok) : numDb d ≤ 1048577 * 1048577 + 3 * 1048576 := by
  have h1 := numRI_ok h.2.2
  have h2 := h.1.1
  have h3 := h.2.1
  unfold numDb
  have : d.facts.length * 1048577 ≤ 1048576 * 1048577 := Nat.mul_le_mul_right _ h3
  omega
end Go.Proofs.YtpegfljmblehnaaDoor.A


/- THE WALK OF THE LAW OF FormatQuery. Conditions: none. -/
namespace Go.Proofs.YtpegfljmblehnaaDoor.A
open Go
set_option linter.unusedSimpArgs false
set_option linter.unusedVariables false
set_option maxRecDepth 100000
set_option maxHeartbeats 8000000 in
/-- THE LAW OF FormatQuery. -/
theorem lawFormatQuery_sat (a0 : List Rel) (a1 : Qu) (h0 : a0.length ≤ 9223372036854775807 ∧ ∀ x ∈ a0, x.fit) (h1 : a1.fit) : Sat Tryd.prog 5 [lRels a0, lQu a1] [lBool true] [g1, g3] := by
  refine sat_of_body mixed Tryd.func5 rfl (by kernel_rfl) (by kernel_rfl) (rs := [.tmp 4]) rfl rfl rfl ?_
  simp -implicitDefEqProofs (maxSteps := 2000000) only [go_sem]
  have z0 := szAll_ok szRel_ok a0 1048576 (by omega)
  refine call_of (szRelationS_sat a0 1048576 (by omega) h0.1 h0.2) (by simp -implicitDefEqProofs (maxSteps := 2000000) only [go_sem]) (by kernel_rfl) (by simp -implicitDefEqProofs (maxSteps := 2000000) only [go_sem]) ?_
  simp -implicitDefEqProofs (maxSteps := 2000000) only [go_sem]
  first | (with_reducible refine tr_and ?_ ?_; focus kernel_rfl) | (with_reducible refine tr_only ?_; kernel_rfl) | skip
  refine cond_split (fun c0 => ?_) fun c0 => ?_
  · simp -implicitDefEqProofs (maxSteps := 2000000) only [go_sem]
  have o0 := z0.2 (of_decide_eq_false c0)
  simp -implicitDefEqProofs (maxSteps := 2000000) only [go_sem]
  have n0 := o0.1
  have z1 := szQu_ok a1 (szAll szRel a0 1048576) z0.1
  refine call_of (szQuery_sat a1 (szAll szRel a0 1048576) z0.1 h1) (by simp -implicitDefEqProofs (maxSteps := 2000000) only [go_sem]) (by kernel_rfl) (by simp -implicitDefEqProofs (maxSteps := 2000000) only [go_sem]) ?_
  simp -implicitDefEqProofs (maxSteps := 2000000) only [go_sem]
  first | (with_reducible refine tr_and ?_ ?_; focus kernel_rfl) | (with_reducible refine tr_only ?_; kernel_rfl) | skip
  refine cond_split (fun c1 => ?_) fun c1 => ?_
  · simp -implicitDefEqProofs (maxSteps := 2000000) only [go_sem]
  have o1 := z1.2 (of_decide_eq_false c1)
  simp -implicitDefEqProofs (maxSteps := 2000000) only [go_sem]
  have n1 := numQu_ok o1
  refine call_of (toRelationS_sat a0 o0.1) (by simp -implicitDefEqProofs (maxSteps := 2000000) only [go_sem]) (by kernel_rfl) (by simp -implicitDefEqProofs (maxSteps := 2000000) only [go_sem]) ?_
  simp -implicitDefEqProofs (maxSteps := 2000000) only [go_sem]
  first | (with_reducible refine tr_and ?_ ?_; focus kernel_rfl) | (with_reducible refine tr_only ?_; kernel_rfl) | skip
  refine call_of (toQuery_sat a1 o1) (by simp -implicitDefEqProofs (maxSteps := 2000000) only [go_sem]) (by kernel_rfl) (by simp -implicitDefEqProofs (maxSteps := 2000000) only [go_sem]) ?_
  simp -implicitDefEqProofs (maxSteps := 2000000) only [go_sem]
  first | (with_reducible refine tr_and ?_ ?_; focus kernel_rfl) | (with_reducible refine tr_only ?_; kernel_rfl) | skip
  refine call_of (specFormatQuery_sat a0 a1 h0.1 o1) (by simp -implicitDefEqProofs (maxSteps := 2000000) only [go_sem]) (by kernel_rfl) (by simp -implicitDefEqProofs (maxSteps := 2000000) only [go_sem]) ?_
  simp -implicitDefEqProofs (maxSteps := 2000000) only [go_sem]
  first | (with_reducible refine tr_and ?_ ?_; focus kernel_rfl) | (with_reducible refine tr_only ?_; kernel_rfl) | skip
  refine call_of (toRelationS_sat a0 o0.1) (by simp -implicitDefEqProofs (maxSteps := 2000000) only [go_sem]) (by kernel_rfl) (by simp -implicitDefEqProofs (maxSteps := 2000000) only [go_sem]) ?_
  simp -implicitDefEqProofs (maxSteps := 2000000) only [go_sem]
  first | (with_reducible refine tr_and ?_ ?_; focus kernel_rfl) | (with_reducible refine tr_only ?_; kernel_rfl) | skip
  refine call_of (toQuery_sat a1 o1) (by simp -implicitDefEqProofs (maxSteps := 2000000) only [go_sem]) (by kernel_rfl) (by simp -implicitDefEqProofs (maxSteps := 2000000) only [go_sem]) ?_
  simp -implicitDefEqProofs (maxSteps := 2000000) only [go_sem]
  first | (with_reducible refine tr_and ?_ ?_; focus kernel_rfl) | (with_reducible refine tr_only ?_; kernel_rfl) | skip
  refine call_of (implFormatQuery_sat a0 a1 h0.1 o1) (by simp -implicitDefEqProofs (maxSteps := 2000000) only [go_sem]) (by kernel_rfl) (by simp -implicitDefEqProofs (maxSteps := 2000000) only [go_sem]) ?_
  simp -implicitDefEqProofs (maxSteps := 2000000) only [go_sem]
  first | (with_reducible refine tr_and ?_ ?_; focus kernel_rfl) | (with_reducible refine tr_only ?_; kernel_rfl) | skip
  refine call_of (toRelationS_sat a0 o0.1) (by simp -implicitDefEqProofs (maxSteps := 2000000) only [go_sem]) (by kernel_rfl) (by simp -implicitDefEqProofs (maxSteps := 2000000) only [go_sem]) ?_
  simp -implicitDefEqProofs (maxSteps := 2000000) only [go_sem]
  first | (with_reducible refine tr_and ?_ ?_; focus kernel_rfl) | (with_reducible refine tr_only ?_; kernel_rfl) | skip
  refine call_of (eqRelationS_sat a0 a0 h0.1) (by simp -implicitDefEqProofs (maxSteps := 2000000) only [go_sem]) (by kernel_rfl) (by simp -implicitDefEqProofs (maxSteps := 2000000) only [go_sem]) ?_
  simp -implicitDefEqProofs (maxSteps := 2000000) only [go_sem]
  first | (with_reducible refine tr_and ?_ ?_; focus kernel_rfl) | (with_reducible refine tr_only ?_; kernel_rfl) | skip
  refine call_of (toQuery_sat a1 o1) (by simp -implicitDefEqProofs (maxSteps := 2000000) only [go_sem]) (by kernel_rfl) (by simp -implicitDefEqProofs (maxSteps := 2000000) only [go_sem]) ?_
  simp -implicitDefEqProofs (maxSteps := 2000000) only [go_sem]
  first | (with_reducible refine tr_and ?_ ?_; focus kernel_rfl) | (with_reducible refine tr_only ?_; kernel_rfl) | skip
  refine call_of (eqQuery_sat a1 a1 h1) (by simp -implicitDefEqProofs (maxSteps := 2000000) only [go_sem]) (by kernel_rfl) (by simp -implicitDefEqProofs (maxSteps := 2000000) only [go_sem]) ?_
  simp -implicitDefEqProofs (maxSteps := 2000000) only [go_sem]
  first | (with_reducible refine tr_and ?_ ?_; focus kernel_rfl) | (with_reducible refine tr_only ?_; kernel_rfl) | skip
end Go.Proofs.YtpegfljmblehnaaDoor.A


/- THE LAW FnExactFormatQuery: for every input it returns true, and the input reads as it did. Conditions: none. -/
namespace Go.Proofs.YtpegfljmblehnaaDoor.lawFormatQuery
open Go.ChangeShapes Go.WideShapes Go.ChangeAt Go.RowKit
open Go.Proofs.YtpegfljmblehnaaDoor.A
set_option linter.unusedVariables false
theorem own : ownKnob Tryd.prog.godebug = none := by kernel_rfl
theorem laid : laidOutB Tryd.prog = true := by kernel_rfl
theorem rowed : mapsRowed Tryd.prog = true := by kernel_rfl
theorem full : ((List.range Tryd.prog.types.size).all fun t => match Tryd.prog.underlying t with | some (.slice e) => decide (0 < Tryd.prog.cellsOf e) | _ => true) = true := by kernel_rfl
set_option maxRecDepth 100000 in
theorem lifted (os : Os) (started : os.Started) (H : Type) (enc : TypeId × Value → H) :
    ReturnsInHanded {} Tryd.checked os 5 .any (fun w args => (Rows.fnExactFormatQuerySpec.pre enc Tryd.prog Tryd.f5 Rows.fnExactFormatQueryRow.domain false w args ∧ laidMetH Tryd.prog Rows.fnExactFormatQueryRow.laid w) ∧ sizedMet enc Tryd.prog Tryd.f5 (OpenSpec.ofChange Rows.fnExactFormatQuerySpec) false w args)
      (Rows.fnExactFormatQuerySpec.post enc Tryd.prog Tryd.f5 false true false false) := by
  refine returnsInHanded_of_change_and (C := Tryd.checked) (X := fun w _ => laidMetH Tryd.prog Rows.fnExactFormatQueryRow.laid w) (fun _ _ _ hh h => h.of_heap hh) own started (by kernel_rfl) Tryd.func5
    (ChangeSpec.witness_shaped (enc := enc) (C := Tryd.checked) (os := os) (X := fun w _ => laidMetH Tryd.prog Rows.fnExactFormatQueryRow.laid w) false (World.laidAll Tryd.prog os Rows.fnExactFormatQueryRow.laid) #[.slice none 0 0, .agg #[.int .i64 0, .slice none 0 0, .slice none 0 0]] 8 (World.laidAll_os _ _ _)
      (World.shaped_of_ZipB (by kernel_rfl) (by kernel_rfl)) (by kernel_rfl) (by kernel_rfl) (by kernel_rfl)
      (by rw [MakeChecks.laidMetH_plain _ _ _ (by kernel_rfl)]; exact laidMet_laidAll _ (by kernel_rfl) (by kernel_rfl))) ?_
  intro W base args ds gs before hval hW _ _ _ _
  obtain ⟨p, q, hA, hV, hpq, _⟩ := id hW
  rw [Tryd.params5] at hA hval
  obtain ⟨v0, vs0, d0, ds0, p0, q0, e0, rfl, rfl, h0, r0⟩ := trodAll_cons hA
  obtain ⟨v1, vs1, d1, ds1, p1, q1, e1, rfl, rfl, h1, r1⟩ := trodAll_cons r0
  subst e1
  obtain ⟨rfl, rfl, rfl⟩ := trodAll_nil r1
  obtain ⟨rfl, _⟩ := trodVars_none hV
  obtain rfl : args = #[v0, v1] := by cases args; simp_all
  have rI := readsC_int (enc := enc) (W := W) und3
  have rS := readsC_str (enc := enc) (W := W) und9
  have rR : ReadsC enc Tryd.prog W 66 cRel Rel.fit := readsC_map (readsC_three Tryd.underlying66 (by kernel_rfl) (by kernel_rfl) rS rI rI) (fun x => ⟨x.1, x.2.1, x.2.2⟩) (fun _ => rfl) (fun _ h => h.1)
  have lRs := readsL_rows (w := 3) rR und24 (by kernel_rfl) (by omega) (fun _ => rfl) rels (fun _ => rfl)
  have rIs := readsC_ints (enc := enc) (W := W) und42 (by kernel_rfl) und3
  have lIs := readsL_ints (enc := enc) (W := W) und42 (by kernel_rfl) und3
  have rA : ReadsC enc Tryd.prog W 91 (cRI 0) RI.fit := readsC_map (readsC_pair Tryd.underlying91 (by kernel_rfl) (by kernel_rfl) rI rIs) (fun x => ⟨x.1, x.2⟩) (fun _ => rfl) (fun _ h => h.2)
  have lAs := readsL_rows (w := 2) rA und41 (by kernel_rfl) (by omega) (fun _ => rfl) (ris 0) (fun _ => rfl)
  obtain ⟨a0, g0, l0⟩ := arg_one lRs (okWide_slice_ne und24 (hval 0 _ v0 rfl rfl)) h0
  obtain ⟨a1, b1, c1, -, gb1, gc1, l1⟩ := arg_three Tryd.underlying44 (by kernel_rfl) (by kernel_rfl) (readsL_int (enc := enc) (W := W) und3) lAs lIs (hval 1 _ v1 rfl rfl) h1
  exact law_calls laid rowed full Tryd.func5 rfl (by kernel_rfl) rfl rfl (by kernel_rfl) rfl und4 hW (lawFormatQuery_sat a0 ⟨a1, b1, c1⟩ g0 ⟨gb1, gc1⟩) ⟨l0 _, l1 _, trivial⟩ rfl rfl rfl
theorem over : Rows.fnExactFormatQueryRow.holds Tryd.pinned (OpenSpec.ofChange Rows.fnExactFormatQuerySpec) :=
  OpenClaim.holds_of_wide 5 Tryd.f5 rfl rfl rfl rfl rfl rfl rfl ⟨rfl, rfl, rfl, rfl, rfl⟩ rfl rfl rfl rfl rfl (by kernel_rfl) Tryd.func5 (by kernel_rfl)
    (of_decide_eq_true (by kernel_rfl)) (by unfold Func.isWrapper; first | (rw [if_pos (by decide +kernel)]; kernel_rfl) | (rw [if_neg (by decide +kernel)]; exact ⟨rfl, rfl⟩))
    (fun os started H enc _ => lifted os started H enc)
end Go.Proofs.YtpegfljmblehnaaDoor.lawFormatQuery
namespace Go.Proofs.YtpegfljmblehnaaDoor
/-- The card. -/
theorem fnExactFormatQuery_holds : Rows.FnExactFormatQueryCardSaid :=
  Claim7.holds_tied_plain_at .later [] [.data, .data, .data] true (true, "15dca222007048aae68865fb3af2919e712b0b59a711ab0c83e90f323d444046") false lawFormatQuery.over (fun _ h => by cases h) (by kernel_rfl) (fun _ h => by cases h) fnExactFormatQuery_row_tie rfl ⟨rfl, rfl⟩ (by kernel_rfl) rfl
    (fun f fn hf hfn => by
      obtain rfl : f = 5 := Option.some.inj ((show Tryd.prog.funcNamed "loop.example/g01918/laws.FnExactFormatQuery" = some 5 by kernel_rfl).symm.trans hf) |>.symm
      obtain rfl : fn = Tryd.f5 := (Option.some.inj (Tryd.func5.symm.trans hfn)).symm
      refine ⟨by kernel_rfl, fun j t ht => ?_⟩
      have hall : (Tryd.f5.params.all fun u => !Tryd.prog.wantsStandIn u) = true := by kernel_rfl
      have hm := Array.mem_of_getElem? ht
      exact (show Tryd.prog.wantsStandIn t = false by simpa using (Array.all_eq_true_iff_forall_mem.mp hall) t hm))
    (by kernel_rfl)
#print axioms fnExactFormatQuery_holds
end Go.Proofs.YtpegfljmblehnaaDoor
