/- Packed by pack.py: FC2 FC3 FBlk2 FSel FBlk3 FBlk4 FRep FEm2 FEm3 FEm4 FWit1 FHold FBlk5 FWit2 FCl2 FHld FKC FE FG FG2 FMis FMis2 FMis3 FMis4 FMis5 FMisP FKcrP -/
import Derived.Test.YtedciihjgbkjgabGreatDoorAZ1DenialConstraints
import Derived.Test.YtedciihjgbkjgabGreatDoorAZ2DenialConstraints
import Derived.Test.YtedciihjgbkjgabGreatDoorA44
import Derived.Test.YtedciihjgbkjgabGreatDoorA43

/- VIOLATIONS OF CONSTRAINTS, EQUAL KEYS. Conditions: none. -/
namespace Go.Proofs.YtedciihjgbkjgabGreatDoor.A
open Go
set_option linter.unusedSimpArgs false
set_option linter.unusedVariables false
set_option maxRecDepth 100000

abbrev at0 (l : List Int) (i : Int) : Int := l.getD i.toNat 0
def viol (x : Den) (a b : RI) : Bool := (a.r == x.fr) && ((b.r == x.sr) && ((at0 a.l x.fj == at0 b.l x.sj) && (if x.cp = 1 then at0 a.l x.fc == at0 b.l x.sc else decide (at0 a.l x.fc < at0 b.l x.sc))))
def IdxOk (x : Den) (a b : RI) : Prop := (x.cp = 1 ∨ x.cp = 2) ∧ (a.r = x.fr → b.r = x.sr → (0 ≤ x.fj ∧ x.fj < a.l.length) ∧ (0 ≤ x.sj ∧ x.sj < b.l.length) ∧ (0 ≤ x.fc ∧ x.fc < a.l.length) ∧ (0 ≤ x.sc ∧ x.sc < b.l.length))
theorem idx_ok {d : Db} {x : Den} {a b : RI} (h : goodDen d x = true) (ha : goodFact d.rels a = true) (hb : goodFact d.rels b = true) : IdxOk x a b := by
  unfold goodDen at h
  simp only [Bool.and_eq_true] at h
  obtain ⟨g, i1, i2, j1, j2, j3, j4, j5⟩ := h
  have k1 := inB_of j1
  have k2 := inB_of j2
  have k3 := inB_of j3
  have k4 := inB_of j4
  have k5 := inB_of j5
  refine ⟨by omega, fun e1 e2 => ?_⟩
  obtain ⟨m, hm, hm2, hm3⟩ := fact_at ha
  obtain ⟨n, hn, hn2, hn3⟩ := fact_at hb
  have t1 : x.fr.toNat = m := by omega
  have t2 : x.sr.toNat = n := by omega
  unfold arOf at k1 k2 k3 k4
  rw [t1, ← hm3] at k1 k2
  rw [t2, ← hn3] at k3 k4
  omega
theorem violates_sat (x : Den) (a b : RI) (hx : IdxOk x a b) : Sat Tryz.prog 76 [lDen x, lRI a, lRI b] [lBool (viol x a b)] [g7, g2, g2] := by
  refine sat_of_body mixed Tryz.func76 rfl (by kernel_rfl) (by kernel_rfl) (rs := [.tmp 6]) rfl rfl rfl ?_
  obtain ⟨hc, hx⟩ := hx
  rcases x with ⟨fr, sr, fj, sj, fc, sc, cp⟩
  rcases a with ⟨ar, us⟩
  rcases b with ⟨br, vs⟩
  simp only at hc hx
  rcases d1 : ar != fr
  case true =>
    rw [show viol ⟨fr, sr, fj, sj, fc, sc, cp⟩ ⟨ar, us⟩ ⟨br, vs⟩ = false by rw [viol, show (ar == fr) = false by simpa [bne] using d1]; rfl]
    simp -implicitDefEqProofs (maxSteps := 2000000) only [go_sem, d1]
  rcases d2 : br != sr
  case true =>
    rw [show viol ⟨fr, sr, fj, sj, fc, sc, cp⟩ ⟨ar, us⟩ ⟨br, vs⟩ = false by rw [viol, show (br == sr) = false by simpa [bne] using d2]; simp]
    simp -implicitDefEqProofs (maxSteps := 2000000) only [go_sem, d1, d2]
  have e1 : (ar == fr) = true := by simpa [bne] using d1
  have e2 : (br == sr) = true := by simpa [bne] using d2
  obtain ⟨⟨h1, h2⟩, ⟨h3, h4⟩, ⟨h5, h6⟩, h7, h8⟩ := hx (eq_of_beq e1) (eq_of_beq e2)
  obtain ⟨j1, rfl⟩ : ∃ m : Nat, fj = m := ⟨fj.toNat, by omega⟩
  obtain ⟨j2, rfl⟩ : ∃ m : Nat, sj = m := ⟨sj.toNat, by omega⟩
  obtain ⟨j3, rfl⟩ : ∃ m : Nat, fc = m := ⟨fc.toNat, by omega⟩
  obtain ⟨j4, rfl⟩ : ∃ m : Nat, sc = m := ⟨sc.toNat, by omega⟩
  have c1 : j1 < us.length := by omega
  have c2 : j2 < vs.length := by omega
  have c3 : j3 < us.length := by omega
  have c4 : j4 < vs.length := by omega
  rcases d3 : us.getD j1 0 != vs.getD j2 0
  case true =>
    rw [show viol ⟨fr, sr, j1, j2, j3, j4, cp⟩ ⟨ar, us⟩ ⟨br, vs⟩ = false by rw [viol, show (at0 us j1 == at0 vs j2) = false by simpa [bne] using d3]; simp]
    simp -implicitDefEqProofs (maxSteps := 2000000) only [go_sem, d1, d2, d3, c1, c2]
  have e3 : (us.getD j1 0 == vs.getD j2 0) = true := by simpa [bne] using d3
  rw [show viol ⟨fr, sr, j1, j2, j3, j4, cp⟩ ⟨ar, us⟩ ⟨br, vs⟩ = (if cp = 1 then us.getD j3 0 == vs.getD j4 0 else decide (us.getD j3 0 < vs.getD j4 0)) by
    show ((ar == fr) && ((br == sr) && ((us.getD j1 0 == vs.getD j2 0) && _))) = _
    rw [e1, e2, e3]; rfl]
  rcases hc with rfl | rfl
  · rw [if_pos rfl]
    rcases d4 : us.getD j3 0 == vs.getD j4 0
    · simp -implicitDefEqProofs (maxSteps := 2000000) only [go_sem, d1, d2, d3, c1, c2, c3, c4, d4]
    · simp -implicitDefEqProofs (maxSteps := 2000000) only [go_sem, d1, d2, d3, c1, c2, c3, c4, d4]
  · rw [if_neg (by omega)]
    simp -implicitDefEqProofs (maxSteps := 2000000) only [go_sem, d1, d2, d3, c1, c2, c3, c4]
def violB (d : Db) (x : Den) (i k : Int) : Bool := goodDen d x && ((i != k) && (inB i 0 ((d.facts.length : Int) - 1) && (inB k 0 ((d.facts.length : Int) - 1) && viol x (d.facts.getD i.toNat default) (d.facts.getD k.toNat default))))
theorem implViolatesConstraint_sat (d : Db) (x : Den) (i k : Int) (h : d.fit) : Sat Tryz.prog 32 [lDb d, lDen x, lInt i, lInt k] [lBool (violB d x i k)] [g2, g7, g1, g1] := by
  refine sat_of_body mixed Tryz.func32 rfl (by kernel_rfl) (by kernel_rfl) (rs := [.tmp 8]) rfl rfl rfl ?_
  have hb := h.2.1
  have w0 : IntKind.i64.wrap ((d.facts.length : Int) - 1) = (d.facts.length : Int) - 1 := IntWalk.i64_in _ (by omega)
  unfold violB
  simp -implicitDefEqProofs (maxSteps := 2000000) only [go_sem, w0]
  rcases g : goodDen d x
  · refine call_of (implIsValidConstraint_sat d x h) (by simp -implicitDefEqProofs (maxSteps := 2000000) only [go_sem, g]) (by kernel_rfl) (by simp -implicitDefEqProofs (maxSteps := 2000000) only [go_sem, g]) ?_
    simp -implicitDefEqProofs (maxSteps := 2000000) only [go_sem, g]
  rcases d1 : i != k
  · refine call_of (implIsValidConstraint_sat d x h) (by simp -implicitDefEqProofs (maxSteps := 2000000) only [go_sem, g, d1]) (by kernel_rfl) (by simp -implicitDefEqProofs (maxSteps := 2000000) only [go_sem, g, d1]) ?_
    simp -implicitDefEqProofs (maxSteps := 2000000) only [go_sem, g, d1]
  refine call_of (implIsValidConstraint_sat d x h) (by simp -implicitDefEqProofs (maxSteps := 2000000) only [go_sem, g, d1]) (by kernel_rfl) (by simp -implicitDefEqProofs (maxSteps := 2000000) only [go_sem, g, d1]) ?_
  simp -implicitDefEqProofs (maxSteps := 2000000) only [go_sem, g, d1]
  rcases i1 : inB i 0 ((d.facts.length : Int) - 1)
  · refine call_of (inW_sat i 0 ((d.facts.length : Int) - 1)) (by simp -implicitDefEqProofs (maxSteps := 2000000) only [go_sem, i1]) (by kernel_rfl) (by simp -implicitDefEqProofs (maxSteps := 2000000) only [go_sem, i1]) ?_
    simp -implicitDefEqProofs (maxSteps := 2000000) only [go_sem, i1]
  refine call_of (inW_sat i 0 ((d.facts.length : Int) - 1)) (by simp -implicitDefEqProofs (maxSteps := 2000000) only [go_sem, i1]) (by kernel_rfl) (by simp -implicitDefEqProofs (maxSteps := 2000000) only [go_sem, i1]) ?_
  simp -implicitDefEqProofs (maxSteps := 2000000) only [go_sem, i1]
  rcases i2 : inB k 0 ((d.facts.length : Int) - 1)
  · refine call_of (inW_sat k 0 ((d.facts.length : Int) - 1)) (by simp -implicitDefEqProofs (maxSteps := 2000000) only [go_sem, i2]) (by kernel_rfl) (by simp -implicitDefEqProofs (maxSteps := 2000000) only [go_sem, i2]) ?_
    simp -implicitDefEqProofs (maxSteps := 2000000) only [go_sem, i2]
  obtain ⟨r1, r2⟩ := inB_of i1
  obtain ⟨m, rfl⟩ : ∃ m : Nat, i = m := ⟨i.toNat, by omega⟩
  obtain ⟨r3, r4⟩ := inB_of i2
  obtain ⟨n, rfl⟩ : ∃ n : Nat, k = n := ⟨k.toNat, by omega⟩
  have c1 : m < d.facts.length := by omega
  have c2 : n < d.facts.length := by omega
  have gd : goodDb d = true := by unfold goodDen at g; rw [Bool.and_eq_true] at g; exact g.1
  refine call_of (inW_sat n 0 ((d.facts.length : Int) - 1)) (by simp -implicitDefEqProofs (maxSteps := 2000000) only [go_sem, i2, c1, c2]) (by kernel_rfl) (by simp -implicitDefEqProofs (maxSteps := 2000000) only [go_sem, i2, c1, c2]) ?_
  simp -implicitDefEqProofs (maxSteps := 2000000) only [go_sem, i2, c1, c2]
  refine call_of (violates_sat x (d.facts.getD m default) (d.facts.getD n default) (idx_ok g (fact_of gd c1) (fact_of gd c2))) (by simp -implicitDefEqProofs (maxSteps := 2000000) only [go_sem]) (by kernel_rfl) (by simp -implicitDefEqProofs (maxSteps := 2000000) only [go_sem]) ?_
  simp -implicitDefEqProofs (maxSteps := 2000000) only [go_sem]
  rfl
theorem specViolatesConstraint_sat (d : Db) (x : Den) (i k : Int) (h : d.fit) : Sat Tryz.prog 35 [lDb d, lDen x, lInt i, lInt k] [lBool (violB d x i k)] [g2, g7, g1, g1] := by
  refine sat_of_body mixed Tryz.func35 rfl (by kernel_rfl) (by kernel_rfl) (rs := [.tmp 8]) rfl rfl rfl ?_
  have hb := h.2.1
  have w0 : IntKind.i64.wrap ((d.facts.length : Int) - 1) = (d.facts.length : Int) - 1 := IntWalk.i64_in _ (by omega)
  simp -implicitDefEqProofs (maxSteps := 2000000) only [go_sem]
  rcases g : goodDen d x
  · rw [show violB d x i k = false by rw [violB, g]; rfl]
    refine call_of (specIsValidConstraint_sat d x h) (by simp -implicitDefEqProofs (maxSteps := 2000000) only [go_sem, g]) (by kernel_rfl) (by simp -implicitDefEqProofs (maxSteps := 2000000) only [go_sem, g]) ?_
    simp -implicitDefEqProofs (maxSteps := 2000000) only [go_sem, g]
  refine call_of (specIsValidConstraint_sat d x h) (by simp -implicitDefEqProofs (maxSteps := 2000000) only [go_sem, g, w0]) (by kernel_rfl) (by simp -implicitDefEqProofs (maxSteps := 2000000) only [go_sem, g, w0]) ?_
  simp -implicitDefEqProofs (maxSteps := 2000000) only [go_sem, g, w0]
  rcases i1 : inB i 0 ((d.facts.length : Int) - 1)
  · rw [show violB d x i k = false by rw [violB, i1]; simp]
    refine call_of (inB_sat i 0 ((d.facts.length : Int) - 1)) (by simp -implicitDefEqProofs (maxSteps := 2000000) only [go_sem, i1]) (by kernel_rfl) (by simp -implicitDefEqProofs (maxSteps := 2000000) only [go_sem, i1]) ?_
    simp -implicitDefEqProofs (maxSteps := 2000000) only [go_sem, i1]
  refine call_of (inB_sat i 0 ((d.facts.length : Int) - 1)) (by simp -implicitDefEqProofs (maxSteps := 2000000) only [go_sem, i1, w0]) (by kernel_rfl) (by simp -implicitDefEqProofs (maxSteps := 2000000) only [go_sem, i1, w0]) ?_
  simp -implicitDefEqProofs (maxSteps := 2000000) only [go_sem, i1, w0]
  rcases i2 : inB k 0 ((d.facts.length : Int) - 1)
  · rw [show violB d x i k = false by rw [violB, i2]; simp]
    refine call_of (inB_sat k 0 ((d.facts.length : Int) - 1)) (by simp -implicitDefEqProofs (maxSteps := 2000000) only [go_sem, i2]) (by kernel_rfl) (by simp -implicitDefEqProofs (maxSteps := 2000000) only [go_sem, i2]) ?_
    simp -implicitDefEqProofs (maxSteps := 2000000) only [go_sem, i2]
  rcases d1 : i == k
  case true =>
    rw [show violB d x i k = false by rw [violB, bne, d1]; simp]
    refine call_of (inB_sat k 0 ((d.facts.length : Int) - 1)) (by simp -implicitDefEqProofs (maxSteps := 2000000) only [go_sem, i2, d1]) (by kernel_rfl) (by simp -implicitDefEqProofs (maxSteps := 2000000) only [go_sem, i2, d1]) ?_
    simp -implicitDefEqProofs (maxSteps := 2000000) only [go_sem, i2, d1]
  obtain ⟨r1, r2⟩ := inB_of i1
  obtain ⟨m, rfl⟩ : ∃ m : Nat, i = m := ⟨i.toNat, by omega⟩
  obtain ⟨r3, r4⟩ := inB_of i2
  obtain ⟨n, rfl⟩ : ∃ n : Nat, k = n := ⟨k.toNat, by omega⟩
  have c1 : m < d.facts.length := by omega
  have c2 : n < d.facts.length := by omega
  have gd : goodDb d = true := by unfold goodDen at g; rw [Bool.and_eq_true] at g; exact g.1
  obtain ⟨hc, hx⟩ := idx_ok g (fact_of gd c1) (fact_of gd c2)
  rw [show violB d x m n = viol x (d.facts.getD m default) (d.facts.getD n default) by rw [violB, g, i1, i2, bne, d1]; rfl]
  refine call_of (inB_sat n 0 ((d.facts.length : Int) - 1)) (by simp -implicitDefEqProofs (maxSteps := 2000000) only [go_sem, i2, d1, c1, c2]) (by kernel_rfl) (by simp -implicitDefEqProofs (maxSteps := 2000000) only [go_sem, i2, d1, c1, c2]) ?_
  simp -implicitDefEqProofs (maxSteps := 2000000) only [go_sem, i2, d1, c1, c2]
  clear g
  rcases x with ⟨fr, sr, fj, sj, fc, sc, cp⟩
  rcases ea : d.facts.getD m default with ⟨ar, us⟩
  rcases eb : d.facts.getD n default with ⟨br, vs⟩
  rw [ea, eb] at hx
  simp only at hc hx
  rcases d1 : ar != fr
  case true =>
    rw [show viol ⟨fr, sr, fj, sj, fc, sc, cp⟩ ⟨ar, us⟩ ⟨br, vs⟩ = false by rw [viol, show (ar == fr) = false by simpa [bne] using d1]; rfl]
    simp -implicitDefEqProofs (maxSteps := 2000000) only [go_sem, d1, ea, eb]
  rcases d2 : br != sr
  case true =>
    rw [show viol ⟨fr, sr, fj, sj, fc, sc, cp⟩ ⟨ar, us⟩ ⟨br, vs⟩ = false by rw [viol, show (br == sr) = false by simpa [bne] using d2]; simp]
    simp -implicitDefEqProofs (maxSteps := 2000000) only [go_sem, d1, d2, ea, eb]
  have e1 : (ar == fr) = true := by simpa [bne] using d1
  have e2 : (br == sr) = true := by simpa [bne] using d2
  obtain ⟨⟨h1, h2⟩, ⟨h3, h4⟩, ⟨h5, h6⟩, h7, h8⟩ := hx (eq_of_beq e1) (eq_of_beq e2)
  obtain ⟨j1, rfl⟩ : ∃ m : Nat, fj = m := ⟨fj.toNat, by omega⟩
  obtain ⟨j2, rfl⟩ : ∃ m : Nat, sj = m := ⟨sj.toNat, by omega⟩
  obtain ⟨j3, rfl⟩ : ∃ m : Nat, fc = m := ⟨fc.toNat, by omega⟩
  obtain ⟨j4, rfl⟩ : ∃ m : Nat, sc = m := ⟨sc.toNat, by omega⟩
  have k1 : j1 < us.length := by omega
  have k2 : j2 < vs.length := by omega
  have k3 : j3 < us.length := by omega
  have k4 : j4 < vs.length := by omega
  rcases d3 : us.getD j1 0 != vs.getD j2 0
  case true =>
    rw [show viol ⟨fr, sr, j1, j2, j3, j4, cp⟩ ⟨ar, us⟩ ⟨br, vs⟩ = false by rw [viol, show (at0 us j1 == at0 vs j2) = false by simpa [bne] using d3]; simp]
    simp -implicitDefEqProofs (maxSteps := 2000000) only [go_sem, d1, d2, d3, k1, k2, ea, eb]
  have e3 : (us.getD j1 0 == vs.getD j2 0) = true := by simpa [bne] using d3
  rw [show viol ⟨fr, sr, j1, j2, j3, j4, cp⟩ ⟨ar, us⟩ ⟨br, vs⟩ = (if cp = 1 then us.getD j3 0 == vs.getD j4 0 else decide (us.getD j3 0 < vs.getD j4 0)) by
    show ((ar == fr) && ((br == sr) && ((us.getD j1 0 == vs.getD j2 0) && _))) = _
    rw [e1, e2, e3]; rfl]
  rcases hc with rfl | rfl
  · rw [if_pos rfl]
    simp -implicitDefEqProofs (maxSteps := 2000000) only [go_sem, d1, d2, d3, k1, k2, k3, k4, ea, eb]
  · rw [if_neg (by omega)]
    simp -implicitDefEqProofs (maxSteps := 2000000) only [go_sem, d1, d2, d3, k1, k2, k3, k4, ea, eb]
end Go.Proofs.YtedciihjgbkjgabGreatDoor.A


/- EQUAL KEYS, CONFLICT EDGES. Conditions: none. -/
namespace Go.Proofs.YtedciihjgbkjgabGreatDoor.A
open Go
set_option linter.unusedSimpArgs false
set_option linter.unusedVariables false
set_option maxRecDepth 100000

abbrev klOf (l : List Rel) (r : Int) : Nat := (l.getD r.toNat default).kl.toNat
def sameK (l : List Rel) (a b : RI) : Bool := (a.r == b.r) && decide (a.l.take (klOf l a.r) = b.l.take (klOf l a.r))
theorem keyOf_sat (l : List Rel) (f : RI) (h : l.length ≤ 9223372036854775807) (g : goodRels l = true) (gf : goodFact l f = true) : Sat Tryz.prog 79 [lRels l, lRI f] [oInts (f.l.take (klOf l f.r))] [g1, g2] := by
  refine sat_of_body mixed Tryz.func79 rfl (by kernel_rfl) (by kernel_rfl) (rs := [.tmp 4]) rfl rfl rfl ?_
  obtain ⟨m, hm, c1, hm3⟩ := fact_at gf
  rcases f with ⟨r, vs⟩
  simp only at hm hm3
  subst hm
  have o := rel_of g c1
  obtain ⟨K, hK⟩ : ∃ K : Nat, (l.getD m default).kl = K := ⟨(l.getD m default).kl.toNat, by omega⟩
  have c2 : K ≤ vs.length := by omega
  rw [show klOf l ((m : Nat) : Int) = K by simp only [klOf, Int.toNat_natCast, hK]]
  have hl : (vs.take K).length ≤ 3 := by rw [List.length_take]; omega
  simp -implicitDefEqProofs (maxSteps := 2000000) only [go_sem]
  refine call_of (specIsValidFact_sat l ⟨m, vs⟩ h (by unfold RI.fit; simp only; omega)) (by simp -implicitDefEqProofs (maxSteps := 2000000) only [go_sem, g, gf, c1, hK, c2, Nat.zero_le]) (by kernel_rfl) (by simp -implicitDefEqProofs (maxSteps := 2000000) only [go_sem, g, gf, c1, hK, c2, Nat.zero_le]) ?_
  simp -implicitDefEqProofs (maxSteps := 2000000) only [go_sem, g, gf, c1, hK, c2, Nat.zero_le]
  refine ⟨by omega, ?_⟩
  exact ⟨by kernel_rfl, rfl⟩
theorem haveSameKey_sat (l : List Rel) (a b : RI) (h : l.length ≤ 9223372036854775807) (g : goodRels l = true) (ga : goodFact l a = true) (gb : goodFact l b = true) : Sat Tryz.prog 34 [lRels l, lRI a, lRI b] [lBool (sameK l a b)] [g1, g2, g2] := by
  refine sat_of_body mixed Tryz.func34 rfl (by kernel_rfl) (by kernel_rfl) (rs := [.tmp 6]) rfl rfl rfl ?_
  unfold sameK
  obtain ⟨m, hm, c1, hm3⟩ := fact_at ga
  obtain ⟨n, hn, c2, hn3⟩ := fact_at gb
  have o1 := (rel_of g c1).1
  have o2 := (rel_of g c2).1
  have fa : a.fit := by unfold RI.fit; omega
  have fb : b.fit := by unfold RI.fit; omega
  simp -implicitDefEqProofs (maxSteps := 2000000) only [go_sem]
  refine call_of (specIsValidFact_sat l a h fa) (by simp -implicitDefEqProofs (maxSteps := 2000000) only [go_sem, g, ga]) (by kernel_rfl) (by simp -implicitDefEqProofs (maxSteps := 2000000) only [go_sem, g, ga]) ?_
  simp -implicitDefEqProofs (maxSteps := 2000000) only [go_sem, g, ga]
  rcases e : a.r == b.r
  · refine call_of (specIsValidFact_sat l b h fb) (by simp -implicitDefEqProofs (maxSteps := 2000000) only [go_sem, g, gb, e]) (by kernel_rfl) (by simp -implicitDefEqProofs (maxSteps := 2000000) only [go_sem, g, gb, e]) ?_
    simp -implicitDefEqProofs (maxSteps := 2000000) only [go_sem, g, gb, e]
  have e' : a.r = b.r := eq_of_beq e
  refine call_of (specIsValidFact_sat l b h fb) (by simp -implicitDefEqProofs (maxSteps := 2000000) only [go_sem, g, gb, e]) (by kernel_rfl) (by simp -implicitDefEqProofs (maxSteps := 2000000) only [go_sem, g, gb, e]) ?_
  simp -implicitDefEqProofs (maxSteps := 2000000) only [go_sem, g, gb, e]
  refine call_of (keyOf_sat l a h g ga) (by simp -implicitDefEqProofs (maxSteps := 2000000) only [go_sem]) (by kernel_rfl) (by simp -implicitDefEqProofs (maxSteps := 2000000) only [go_sem]) ?_
  simp -implicitDefEqProofs (maxSteps := 2000000) only [go_sem]
  refine call_of (keyOf_sat l b h g gb) (by simp -implicitDefEqProofs (maxSteps := 2000000) only [go_sem]) (by kernel_rfl) (by simp -implicitDefEqProofs (maxSteps := 2000000) only [go_sem]) ?_
  simp -implicitDefEqProofs (maxSteps := 2000000) only [go_sem]
  refine call_of (l3Ints_sat (a.l.take (klOf l a.r)) (b.l.take (klOf l b.r)) (by rw [List.length_take]; omega)) (by simp -implicitDefEqProofs (maxSteps := 2000000) only [go_sem]) (by kernel_rfl) (by simp -implicitDefEqProofs (maxSteps := 2000000) only [go_sem]) ?_
  simp -implicitDefEqProofs (maxSteps := 2000000) only [go_sem]
  rw [cmp_beq, e']
  exact ⟨by kernel_rfl, rfl⟩
theorem sameKey_sat (l : List Rel) (a b : RI) (h : l.length ≤ 9223372036854775807) (g : goodRels l = true) (ga : goodFact l a = true) (gb : goodFact l b = true) : Sat Tryz.prog 33 [lRels l, lRI a, lRI b] [lBool (sameK l a b)] [g1, g2, g2] := by
  refine sat_of_body mixed Tryz.func33 rfl (by kernel_rfl) (by kernel_rfl) (rs := [.tmp 6]) rfl rfl rfl ?_
  unfold sameK
  obtain ⟨m, hm, c1, hm3⟩ := fact_at ga
  obtain ⟨n, hn, c2, hn3⟩ := fact_at gb
  rcases a with ⟨ar, us⟩
  rcases b with ⟨br, ws⟩
  simp only at hm hm3 hn hn3
  rcases e : ar == br
  · have e1 : (ar != br) = true := by rw [bne, e]; rfl
    simp -implicitDefEqProofs (maxSteps := 2000000) only [go_sem, e, e1]
  have e1 : (ar != br) = false := by rw [bne, e]; rfl
  have e' : ar = br := eq_of_beq e
  subst e'
  subst hm
  obtain rfl : m = n := by omega
  have o := rel_of g c1
  obtain ⟨K, hK⟩ : ∃ K : Nat, (l.getD m default).kl = K := ⟨(l.getD m default).kl.toNat, by omega⟩
  have k1 : K ≤ us.length := by omega
  have k2 : K ≤ ws.length := by omega
  rw [show klOf l ((m : Nat) : Int) = K by simp only [klOf, Int.toNat_natCast, hK]]
  simp -implicitDefEqProofs (maxSteps := 2000000) only [go_sem, e1, c1, hK, k1, k2, Nat.zero_le]
  refine call_of (slicesEqual_sat (us.take K) (ws.take K) (by rw [List.length_take]; omega)) (by simp -implicitDefEqProofs (maxSteps := 2000000) only [go_sem, k1, k2, Nat.zero_le]) (by kernel_rfl) (by simp -implicitDefEqProofs (maxSteps := 2000000) only [go_sem, k1, k2, Nat.zero_le]) ?_
  simp -implicitDefEqProofs (maxSteps := 2000000) only [go_sem, k1, k2, Nat.zero_le]

/-! #### pairs -/
def rowE (p : Nat → Nat → Bool) (a : Nat) : Nat → List Edge
  | 0 => []
  | b + 1 => if decide (a < b) && p a b then rowE p a b ++ [⟨a, b⟩] else rowE p a b
def allE (p : Nat → Nat → Bool) (n : Nat) : Nat → List Edge
  | 0 => []
  | a + 1 => allE p n a ++ rowE p a n
theorem rowE_nil (p : Nat → Nat → Bool) (a : Nat) : ∀ b, b ≤ a + 1 → rowE p a b = []
  | 0, _ => rfl
  | b + 1, h => by
    rw [rowE, rowE_nil p a b (by omega), decide_eq_false (by omega : ¬ a < b)]; rfl
theorem rowE_len (p : Nat → Nat → Bool) (a : Nat) : ∀ b, (rowE p a b).length ≤ b
  | 0 => by simp [rowE]
  | b + 1 => by
    have := rowE_len p a b
    unfold rowE; split
    · simp; omega
    · omega
theorem allE_len (p : Nat → Nat → Bool) (n : Nat) : ∀ a, (allE p n a).length ≤ a * n
  | 0 => by simp [allE]
  | a + 1 => by
    have h1 := allE_len p n a
    have h2 := rowE_len p a n
    rw [allE, List.length_append, Nat.add_mul, Nat.one_mul]; omega
theorem pairs_sat (n : Nat) (p : Nat → Nat → Bool) (f : FuncId) (c1 c2 : List Fld) (hn : n ≤ 14)
    (hc : ∀ a b : Nat, a < b → b < n → Sat Tryz.prog f [lInt a, lInt b, .one (.ip c1), .one (.ip c2)] [lBool (p a b)] [g1, g1, g1, g1]) :
    Sat Tryz.prog 30 [lInt n, .one (.fn f [c1, c2])] [oEds (allE p n n)] [g1, g1] := by
  refine sat_of_body mixed Tryz.func30 rfl (by kernel_rfl) (by kernel_rfl) (rs := [.tmp 4]) rfl rfl rfl ?_
  simp -implicitDefEqProofs (maxSteps := 2000000) only [go_sem]
  refine awp_loop Nat (fun a => mkSt [(0, .sc (.int .i64 n)), (1, .one (.fni f [c1, c2])), (5, .one (.ref 960 2 0 (allE p n a).length)), (9, .sc (.int .i64 n)), (10, .sc (.int .i64 a))] [] [(960, (2, eds (allE p n a)))] 2000)
    (fun a => a ≤ n) (fun a => n - a) 0 (by omega) (le_st' _ _ [⟨960, some _, false, 2, _⟩] [] _ (by simp -implicitDefEqProofs (maxSteps := 2000000) only [go_sem] <;> and_intros <;> rfl) (by simp -implicitDefEqProofs (maxSteps := 2000000) only [go_sem] <;> and_intros <;> rfl) (by simp -implicitDefEqProofs (maxSteps := 2000000) only [go_sem] <;> and_intros <;> rfl) (by rfl)) ?_
  rintro a h1
  have hl := allE_len p n a
  have hl2 : a * n ≤ 14 * 14 := Nat.mul_le_mul (by omega) hn
  by_cases k1 : a < n
  · simp -implicitDefEqProofs (maxSteps := 2000000) only [go_sem, k1]
    rw [i64_succ (by omega)]
    refine awp_loop Nat (fun b => mkSt [(0, .sc (.int .i64 n)), (1, .one (.fni f [c1, c2])), (5, .one (.ref 960 2 0 (allE p n a ++ rowE p a b).length)), (6, .sc (.int .i64 a)), (7, .sc (.int .i64 b)), (9, .sc (.int .i64 n)), (10, .sc (.int .i64 a))] [] [(960, (2, eds (allE p n a ++ rowE p a b)))] 4000)
      (fun b => a < b ∧ b ≤ n) (fun b => n - b) (a + 1) ⟨by omega, by omega⟩ (by rw [rowE_nil p a (a + 1) (by omega), List.append_nil]; exact (le_st' _ _ [⟨960, some _, false, 2, _⟩] [] _ (by simp -implicitDefEqProofs (maxSteps := 2000000) only [go_sem] <;> and_intros <;> rfl) (by simp -implicitDefEqProofs (maxSteps := 2000000) only [go_sem] <;> and_intros <;> rfl) (by simp -implicitDefEqProofs (maxSteps := 2000000) only [go_sem] <;> and_intros <;> rfl) (by rfl))) ?_
    rintro b ⟨h2, h3⟩
    have hr := rowE_len p a b
    by_cases k2 : b < n
    · simp -implicitDefEqProofs (maxSteps := 2000000) only [go_sem, k2]
      rcases d : p a b
      · refine call_of (hc a b h2 k2) (by simp -implicitDefEqProofs (maxSteps := 2000000) only [go_sem, d]) (by kernel_rfl) (by simp -implicitDefEqProofs (maxSteps := 2000000) only [go_sem, d]) ?_
        simp -implicitDefEqProofs (maxSteps := 2000000) only [go_sem, d]
        rw [i64_succ (by omega)]
        refine ⟨b + 1, ⟨by omega, k2⟩, by omega, ?_⟩
        rw [show rowE p a (b + 1) = rowE p a b by rw [rowE, d]; simp]
        exact (le_st' _ _ [⟨960, some _, false, 2, _⟩] [] _ (by simp -implicitDefEqProofs (maxSteps := 2000000) only [go_sem] <;> and_intros <;> rfl) (by simp -implicitDefEqProofs (maxSteps := 2000000) only [go_sem] <;> and_intros <;> rfl) (by simp -implicitDefEqProofs (maxSteps := 2000000) only [go_sem] <;> and_intros <;> rfl) (by rfl))
      · refine call_of (hc a b h2 k2) (by simp -implicitDefEqProofs (maxSteps := 2000000) only [go_sem, d]) (by kernel_rfl) (by simp -implicitDefEqProofs (maxSteps := 2000000) only [go_sem, d]) ?_
        simp -implicitDefEqProofs (maxSteps := 2000000) only [go_sem, d]
        refine ⟨by omega, ?_⟩
        rw [i64_succ (by omega)]
        refine ⟨b + 1, ⟨by omega, k2⟩, by omega, ?_⟩
        rw [show rowE p a (b + 1) = rowE p a b ++ [⟨a, b⟩] by rw [rowE, d, decide_eq_true h2]; rfl, ← List.append_assoc]
        exact (le_st' _ _ [⟨960, some _, false, 2, _⟩] [] _ (by simp -implicitDefEqProofs (maxSteps := 2000000) only [go_sem] <;> and_intros <;> rfl) (by simp -implicitDefEqProofs (maxSteps := 2000000) only [go_sem] <;> and_intros <;> rfl) (by simp -implicitDefEqProofs (maxSteps := 2000000) only [go_sem] <;> and_intros <;> rfl) (by rfl))
    · obtain rfl : b = n := by omega
      simp -implicitDefEqProofs (maxSteps := 2000000) only [go_sem, k2]
      rw [i64_succ (by omega)]
      refine ⟨a + 1, k1, by omega, ?_⟩
      rw [allE]
      exact (le_st' _ _ [⟨960, some _, false, 2, _⟩] [] _ (by simp -implicitDefEqProofs (maxSteps := 2000000) only [go_sem] <;> and_intros <;> rfl) (by simp -implicitDefEqProofs (maxSteps := 2000000) only [go_sem] <;> and_intros <;> rfl) (by simp -implicitDefEqProofs (maxSteps := 2000000) only [go_sem] <;> and_intros <;> rfl) (by rfl))
  · obtain rfl : a = n := by omega
    simp -implicitDefEqProofs (maxSteps := 2000000) only [go_sem, k1]
    rfl

theorem pairs1_sat (n : Nat) (p : Nat → Nat → Bool) (f : FuncId) (c1 : List Fld) (hn : n ≤ 14)
    (hc : ∀ a b : Nat, a < b → b < n → Sat Tryz.prog f [lInt a, lInt b, .one (.ip c1)] [lBool (p a b)] [g1, g1, g1]) :
    Sat Tryz.prog 30 [lInt n, .one (.fn f [c1])] [oEds (allE p n n)] [g1, g1] := by
  refine sat_of_body mixed Tryz.func30 rfl (by kernel_rfl) (by kernel_rfl) (rs := [.tmp 4]) rfl rfl rfl ?_
  simp -implicitDefEqProofs (maxSteps := 2000000) only [go_sem]
  refine awp_loop Nat (fun a => mkSt [(0, .sc (.int .i64 n)), (1, .one (.fni f [c1])), (5, .one (.ref 960 2 0 (allE p n a).length)), (9, .sc (.int .i64 n)), (10, .sc (.int .i64 a))] [] [(960, (2, eds (allE p n a)))] 2000)
    (fun a => a ≤ n) (fun a => n - a) 0 (by omega) (le_st' _ _ [⟨960, some _, false, 2, _⟩] [] _ (by simp -implicitDefEqProofs (maxSteps := 2000000) only [go_sem] <;> and_intros <;> rfl) (by simp -implicitDefEqProofs (maxSteps := 2000000) only [go_sem] <;> and_intros <;> rfl) (by simp -implicitDefEqProofs (maxSteps := 2000000) only [go_sem] <;> and_intros <;> rfl) (by rfl)) ?_
  rintro a h1
  have hl := allE_len p n a
  have hl2 : a * n ≤ 14 * 14 := Nat.mul_le_mul (by omega) hn
  by_cases k1 : a < n
  · simp -implicitDefEqProofs (maxSteps := 2000000) only [go_sem, k1]
    rw [i64_succ (by omega)]
    refine awp_loop Nat (fun b => mkSt [(0, .sc (.int .i64 n)), (1, .one (.fni f [c1])), (5, .one (.ref 960 2 0 (allE p n a ++ rowE p a b).length)), (6, .sc (.int .i64 a)), (7, .sc (.int .i64 b)), (9, .sc (.int .i64 n)), (10, .sc (.int .i64 a))] [] [(960, (2, eds (allE p n a ++ rowE p a b)))] 4000)
      (fun b => a < b ∧ b ≤ n) (fun b => n - b) (a + 1) ⟨by omega, by omega⟩ (by rw [rowE_nil p a (a + 1) (by omega), List.append_nil]; exact (le_st' _ _ [⟨960, some _, false, 2, _⟩] [] _ (by simp -implicitDefEqProofs (maxSteps := 2000000) only [go_sem] <;> and_intros <;> rfl) (by simp -implicitDefEqProofs (maxSteps := 2000000) only [go_sem] <;> and_intros <;> rfl) (by simp -implicitDefEqProofs (maxSteps := 2000000) only [go_sem] <;> and_intros <;> rfl) (by rfl))) ?_
    rintro b ⟨h2, h3⟩
    have hr := rowE_len p a b
    by_cases k2 : b < n
    · simp -implicitDefEqProofs (maxSteps := 2000000) only [go_sem, k2]
      rcases d : p a b
      · refine call_of (hc a b h2 k2) (by simp -implicitDefEqProofs (maxSteps := 2000000) only [go_sem, d]) (by kernel_rfl) (by simp -implicitDefEqProofs (maxSteps := 2000000) only [go_sem, d]) ?_
        simp -implicitDefEqProofs (maxSteps := 2000000) only [go_sem, d]
        rw [i64_succ (by omega)]
        refine ⟨b + 1, ⟨by omega, k2⟩, by omega, ?_⟩
        rw [show rowE p a (b + 1) = rowE p a b by rw [rowE, d]; simp]
        exact (le_st' _ _ [⟨960, some _, false, 2, _⟩] [] _ (by simp -implicitDefEqProofs (maxSteps := 2000000) only [go_sem] <;> and_intros <;> rfl) (by simp -implicitDefEqProofs (maxSteps := 2000000) only [go_sem] <;> and_intros <;> rfl) (by simp -implicitDefEqProofs (maxSteps := 2000000) only [go_sem] <;> and_intros <;> rfl) (by rfl))
      · refine call_of (hc a b h2 k2) (by simp -implicitDefEqProofs (maxSteps := 2000000) only [go_sem, d]) (by kernel_rfl) (by simp -implicitDefEqProofs (maxSteps := 2000000) only [go_sem, d]) ?_
        simp -implicitDefEqProofs (maxSteps := 2000000) only [go_sem, d]
        refine ⟨by omega, ?_⟩
        rw [i64_succ (by omega)]
        refine ⟨b + 1, ⟨by omega, k2⟩, by omega, ?_⟩
        rw [show rowE p a (b + 1) = rowE p a b ++ [⟨a, b⟩] by rw [rowE, d, decide_eq_true h2]; rfl, ← List.append_assoc]
        exact (le_st' _ _ [⟨960, some _, false, 2, _⟩] [] _ (by simp -implicitDefEqProofs (maxSteps := 2000000) only [go_sem] <;> and_intros <;> rfl) (by simp -implicitDefEqProofs (maxSteps := 2000000) only [go_sem] <;> and_intros <;> rfl) (by simp -implicitDefEqProofs (maxSteps := 2000000) only [go_sem] <;> and_intros <;> rfl) (by rfl))
    · obtain rfl : b = n := by omega
      simp -implicitDefEqProofs (maxSteps := 2000000) only [go_sem, k2]
      rw [i64_succ (by omega)]
      refine ⟨a + 1, k1, by omega, ?_⟩
      rw [allE]
      exact (le_st' _ _ [⟨960, some _, false, 2, _⟩] [] _ (by simp -implicitDefEqProofs (maxSteps := 2000000) only [go_sem] <;> and_intros <;> rfl) (by simp -implicitDefEqProofs (maxSteps := 2000000) only [go_sem] <;> and_intros <;> rfl) (by simp -implicitDefEqProofs (maxSteps := 2000000) only [go_sem] <;> and_intros <;> rfl) (by rfl))
  · obtain rfl : a = n := by omega
    simp -implicitDefEqProofs (maxSteps := 2000000) only [go_sem, k1]
    rfl


/-! #### conflicts -/
def hit (d : Db) (i k : Int) (x : Den) : Bool := violB d x i k || violB d x k i
def confl (d : Db) (l : List Den) (i k : Nat) : Bool := l.any (hit d i k) || sameK d.rels (d.facts.getD i default) (d.facts.getD k default)
def edgesOf (d : Db) (l : List Den) : List Edge := if goodDb d then allE (confl d l) d.facts.length d.facts.length else []
theorem edgesOf_len (d : Db) (l : List Den) : (edgesOf d l).length ≤ 196 := by
  unfold edgesOf
  split
  · rename_i g
    have h := allE_len (confl d l) d.facts.length d.facts.length
    have h2 := (db_of g).2.1
    have h3 : d.facts.length * d.facts.length ≤ 14 * 14 := Nat.mul_le_mul h2 h2
    omega
  · simp
abbrev fDb (d : Db) : List Fld := [.im 3 (rels d.rels), .im 2 (ris 0 d.facts)]
abbrev fDens (l : List Den) : List Fld := [.im 7 (dens l)]
theorem any_step {α : Type} {d : α} {l : List α} {k : Nat} {p : α → Bool} (h : k < l.length) : (l.take (k + 1)).any p = ((l.take k).any p || p (l.getD k d)) := by
  rw [take_snoc d h, List.any_append]; simp
theorem any_hit {α : Type} {d : α} {l : List α} {k : Nat} {p : α → Bool} (h : k < l.length) (hp : p (l.getD k d) = true) : l.any p = true := List.any_eq_true.mpr ⟨_, mem_getD d h, hp⟩
theorem conflictEdges1_sat (d : Db) (l : List Den) (h : d.fit) (hl : l.length ≤ 9223372036854775807) (g : goodDb d = true) (a b : Nat) (ha : a < d.facts.length) (hb : b < d.facts.length) :
    Sat Tryz.prog 31 [lInt a, lInt b, .one (.ip (fDens l)), .one (.ip (fDb d))] [lBool (confl d l a b)] [g1, g1, g1, g1] := by
  refine sat_of_body mixed Tryz.func31 rfl (by kernel_rfl) (by kernel_rfl) (rs := [.tmp 6]) rfl rfl rfl ?_
  simp -implicitDefEqProofs (maxSteps := 2000000) only [go_sem]
  refine awp_loop Nat (fun k => mkSt [(0, .sc (.int .i64 a)), (1, .sc (.int .i64 b)), (3, .one (.ipt (fDb d) 0)), (9, .one (.im 7 (dens l))), (10, .sc (.int .i64 l.length)), (11, .sc (.int .i64 k))] [] [] 1000)
    (fun k => k ≤ l.length ∧ (l.take k).any (hit d a b) = false) (fun k => l.length - k) 0 ⟨by omega, rfl⟩ (le_st _ _ [] [] _ rfl (by simp -implicitDefEqProofs (maxSteps := 2000000) only [go_sem] <;> rfl) trivial trivial) ?_
  rintro k ⟨h1, h2⟩
  by_cases c1 : k < l.length
  · have st := any_step (d := default) (p := hit d a b) c1
    rw [h2, Bool.false_or] at st
    rcases d1 : violB d (l.getD k default) a b
    · rcases d2 : violB d (l.getD k default) b a
      · simp -implicitDefEqProofs (maxSteps := 2000000) only [go_sem, c1]
        refine call_of (implViolatesConstraint_sat d (l.getD k default) a b h) (by simp -implicitDefEqProofs (maxSteps := 2000000) only [go_sem, d1, c1]) (by kernel_rfl) (by simp -implicitDefEqProofs (maxSteps := 2000000) only [go_sem, d1, c1]) ?_
        simp -implicitDefEqProofs (maxSteps := 2000000) only [go_sem, d1, c1]
        refine call_of (implViolatesConstraint_sat d (l.getD k default) b a h) (by simp -implicitDefEqProofs (maxSteps := 2000000) only [go_sem, d2, c1]) (by kernel_rfl) (by simp -implicitDefEqProofs (maxSteps := 2000000) only [go_sem, d2, c1]) ?_
        simp -implicitDefEqProofs (maxSteps := 2000000) only [go_sem, d2, c1]
        rw [i64_succ (by omega)]
        exact ⟨k + 1, ⟨c1, by rw [st, hit, d1, d2]; rfl⟩, by omega, (le_st _ _ [] [] _ rfl (by simp -implicitDefEqProofs (maxSteps := 2000000) only [go_sem] <;> rfl) trivial trivial)⟩
      · rw [show confl d l a b = true by rw [confl, any_hit (d := default) c1 (by rw [hit, d1, d2]; rfl)]; rfl]
        simp -implicitDefEqProofs (maxSteps := 2000000) only [go_sem, c1]
        refine call_of (implViolatesConstraint_sat d (l.getD k default) a b h) (by simp -implicitDefEqProofs (maxSteps := 2000000) only [go_sem, d1, c1]) (by kernel_rfl) (by simp -implicitDefEqProofs (maxSteps := 2000000) only [go_sem, d1, c1]) ?_
        simp -implicitDefEqProofs (maxSteps := 2000000) only [go_sem, d1, c1]
        refine call_of (implViolatesConstraint_sat d (l.getD k default) b a h) (by simp -implicitDefEqProofs (maxSteps := 2000000) only [go_sem, d2, c1]) (by kernel_rfl) (by simp -implicitDefEqProofs (maxSteps := 2000000) only [go_sem, d2, c1]) ?_
        simp -implicitDefEqProofs (maxSteps := 2000000) only [go_sem, d2, c1]
    · rw [show confl d l a b = true by rw [confl, any_hit (d := default) c1 (by rw [hit, d1]; rfl)]; rfl]
      simp -implicitDefEqProofs (maxSteps := 2000000) only [go_sem, c1]
      refine call_of (implViolatesConstraint_sat d (l.getD k default) a b h) (by simp -implicitDefEqProofs (maxSteps := 2000000) only [go_sem, d1, c1]) (by kernel_rfl) (by simp -implicitDefEqProofs (maxSteps := 2000000) only [go_sem, d1, c1]) ?_
      simp -implicitDefEqProofs (maxSteps := 2000000) only [go_sem, d1, c1]
  · rw [List.take_of_length_le (by omega)] at h2
    rw [confl, h2, Bool.false_or]
    simp -implicitDefEqProofs (maxSteps := 2000000) only [go_sem, c1, ha, hb]
    refine call_of (sameKey_sat d.rels (d.facts.getD a default) (d.facts.getD b default) h.1.1 (db_of g).1 (fact_of g ha) (fact_of g hb)) (by simp -implicitDefEqProofs (maxSteps := 2000000) only [go_sem]) (by kernel_rfl) (by simp -implicitDefEqProofs (maxSteps := 2000000) only [go_sem]) ?_
    simp -implicitDefEqProofs (maxSteps := 2000000) only [go_sem]
theorem implConflictEdges_sat (d : Db) (l : List Den) (h : d.fit) (hl : l.length ≤ 9223372036854775807) : Sat Tryz.prog 7 [lDb d, lDens l] [oEds (edgesOf d l)] [g2, g1] := by
  refine sat_of_body mixed Tryz.func7 rfl (by kernel_rfl) (by kernel_rfl) (rs := [.tmp 4]) rfl rfl rfl ?_
  unfold edgesOf
  rcases g : goodDb d
  · simp -implicitDefEqProofs (maxSteps := 2000000) only [go_sem]
    refine call_of (implIsValidDatabase_sat d h) (by simp -implicitDefEqProofs (maxSteps := 2000000) only [go_sem, g]) (by kernel_rfl) (by simp -implicitDefEqProofs (maxSteps := 2000000) only [go_sem, g]) ?_
    simp -implicitDefEqProofs (maxSteps := 2000000) only [go_sem, g]
    first | rfl | exact ⟨rfl, rfl⟩ | (trace_state; sorry)
  · simp -implicitDefEqProofs (maxSteps := 2000000) only [go_sem]
    refine call_of (implIsValidDatabase_sat d h) (by simp -implicitDefEqProofs (maxSteps := 2000000) only [go_sem, g]) (by kernel_rfl) (by simp -implicitDefEqProofs (maxSteps := 2000000) only [go_sem, g]) ?_
    simp -implicitDefEqProofs (maxSteps := 2000000) only [go_sem, g]
    refine call_of (pairs_sat d.facts.length (confl d l) 31 (fDens l) (fDb d) (db_of g).2.1 (fun a b h1 h2 => conflictEdges1_sat d l h hl g a b (by omega) h2)) (by simp -implicitDefEqProofs (maxSteps := 2000000) only [go_sem]) (callOk_still (by kernel_rfl) (by simp only [List.all_cons, List.all_nil, LV.still, LV.leaves, Leaf.still, ints_still, ris_still, eds_still, rels_still, iss_still, ems_still, Bool.and_self, Bool.and_true])) (by simp -implicitDefEqProofs (maxSteps := 2000000) only [go_sem]) ?_
    simp -implicitDefEqProofs (maxSteps := 2000000) only [go_sem]
    first | rfl | exact ⟨rfl, rfl⟩ | (trace_state; sorry)
theorem specConflictEdges_sat (d : Db) (l : List Den) (h : d.fit) (hl : l.length ≤ 9223372036854775807) : Sat Tryz.prog 8 [lDb d, lDens l] [oEds (edgesOf d l)] [g2, g1] := by
  refine sat_of_body mixed Tryz.func8 rfl (by kernel_rfl) (by kernel_rfl) (rs := [.tmp 4]) rfl rfl rfl ?_
  rcases g : goodDb d
  · rw [show edgesOf d l = [] by rw [edgesOf, g]; rfl]
    simp -implicitDefEqProofs (maxSteps := 2000000) only [go_sem]
    refine awp_loop Nat (fun k => mkSt [(2, .one (.vad 1000 0)), (5, .one (.ref 960 2 0 0)), (6, .sc (.int .i64 k))] [(1000, sDb d)] [(960, (2, eds []))] 2000)
      (fun k => k = 0) (fun k => 0) 0 rfl (le_st' _ _ [⟨960, some _, false, 2, _⟩] [] _ (by simp -implicitDefEqProofs (maxSteps := 2000000) only [go_sem] <;> and_intros <;> rfl) (by simp -implicitDefEqProofs (maxSteps := 2000000) only [go_sem] <;> and_intros <;> rfl) (by simp -implicitDefEqProofs (maxSteps := 2000000) only [go_sem] <;> and_intros <;> rfl) (by rfl)) ?_
    rintro k rfl
    by_cases c1 : 0 < d.facts.length
    · have c0 : (0 : Int) < d.facts.length := by omega
      simp -implicitDefEqProofs (maxSteps := 2000000) only [go_sem, c0]
      refine call_of (specIsValidDatabase_sat d h) (by simp -implicitDefEqProofs (maxSteps := 2000000) only [go_sem, g, c0]) (by kernel_rfl) (by simp -implicitDefEqProofs (maxSteps := 2000000) only [go_sem, g, c0]) ?_
      simp -implicitDefEqProofs (maxSteps := 2000000) only [go_sem, g, c0]
      first | rfl | exact ⟨rfl, rfl⟩ | (trace_state; sorry)
    · have c0 : ¬ (0 : Int) < d.facts.length := by omega
      simp -implicitDefEqProofs (maxSteps := 2000000) only [go_sem, c0]
      first | rfl | exact ⟨rfl, rfl⟩ | (trace_state; sorry)
  have hn := (db_of g).2.1
  rw [show edgesOf d l = allE (confl d l) d.facts.length d.facts.length by rw [edgesOf, g]; rfl]
  simp -implicitDefEqProofs (maxSteps := 2000000) only [go_sem]
  refine awp_loop Nat (fun a => mkSt [(1, .one (.im 7 (dens l))), (2, .one (.vad 1000 0)), (5, .one (.ref 960 2 0 (allE (confl d l) d.facts.length a).length)), (6, .sc (.int .i64 a))] [(1000, sDb d)] [(960, (2, eds (allE (confl d l) d.facts.length a)))] 2000)
    (fun a => a ≤ d.facts.length) (fun a => d.facts.length - a) 0 (by omega) (le_st' _ _ [⟨960, some _, false, 2, _⟩] [] _ (by simp -implicitDefEqProofs (maxSteps := 2000000) only [go_sem] <;> and_intros <;> rfl) (by simp -implicitDefEqProofs (maxSteps := 2000000) only [go_sem] <;> and_intros <;> rfl) (by simp -implicitDefEqProofs (maxSteps := 2000000) only [go_sem] <;> and_intros <;> rfl) (by rfl)) ?_
  rintro a h1
  have hla := allE_len (confl d l) d.facts.length a
  have hl2 : a * d.facts.length ≤ 14 * 14 := Nat.mul_le_mul (by omega) hn
  by_cases k1 : a < d.facts.length
  · simp -implicitDefEqProofs (maxSteps := 2000000) only [go_sem, k1]
    refine call_of (specIsValidDatabase_sat d h) (by simp -implicitDefEqProofs (maxSteps := 2000000) only [go_sem, g, k1]) (by kernel_rfl) (by simp -implicitDefEqProofs (maxSteps := 2000000) only [go_sem, g, k1]) ?_
    simp -implicitDefEqProofs (maxSteps := 2000000) only [go_sem, g, k1]
    rw [i64_succ (by omega)]
    refine awp_loop Nat (fun b => mkSt [(1, .one (.im 7 (dens l))), (2, .one (.vad 1000 0)), (5, .one (.ref 960 2 0 (allE (confl d l) d.facts.length a ++ rowE (confl d l) a b).length)), (6, .sc (.int .i64 a)), (7, .sc (.int .i64 b))] [(1000, sDb d)] [(960, (2, eds (allE (confl d l) d.facts.length a ++ rowE (confl d l) a b)))] 4000)
      (fun b => a < b ∧ b ≤ d.facts.length) (fun b => d.facts.length - b) (a + 1) ⟨by omega, by omega⟩ (by rw [rowE_nil _ a (a + 1) (by omega), List.append_nil]; exact (le_st' _ _ [⟨960, some _, false, 2, _⟩] [] _ (by simp -implicitDefEqProofs (maxSteps := 2000000) only [go_sem] <;> and_intros <;> rfl) (by simp -implicitDefEqProofs (maxSteps := 2000000) only [go_sem] <;> and_intros <;> rfl) (by simp -implicitDefEqProofs (maxSteps := 2000000) only [go_sem] <;> and_intros <;> rfl) (by rfl))) ?_
    rintro b ⟨h2, h3⟩
    have hr := rowE_len (confl d l) a b
    by_cases k2 : b < d.facts.length
    · simp -implicitDefEqProofs (maxSteps := 2000000) only [go_sem, k1, k2]
      refine call_of (haveSameKey_sat d.rels (d.facts.getD a default) (d.facts.getD b default) h.1.1 (db_of g).1 (fact_of g k1) (fact_of g k2)) (by simp -implicitDefEqProofs (maxSteps := 2000000) only [go_sem, k1, k2]) (by kernel_rfl) (by simp -implicitDefEqProofs (maxSteps := 2000000) only [go_sem, k1, k2]) ?_
      simp -implicitDefEqProofs (maxSteps := 2000000) only [go_sem, k1, k2]
      generalize hs : sameK d.rels (d.facts.getD a default) (d.facts.getD b default) = s
      refine awp_loop Nat (fun n => mkSt [(1, .one (.im 7 (dens l))), (2, .one (.vad 1000 0)), (5, .one (.ref 960 2 0 (allE (confl d l) d.facts.length a ++ rowE (confl d l) a b).length)), (6, .sc (.int .i64 a)), (7, .sc (.int .i64 b)), (8, .sc (.bool (s || (l.take n).any (hit d a b)))), (9, .sc (.int .i64 n))] [(1000, sDb d)] [(960, (2, eds (allE (confl d l) d.facts.length a ++ rowE (confl d l) a b)))] 8000)
        (fun n => n ≤ l.length) (fun n => l.length - n) 0 (by omega) (by rw [List.take_zero, List.any_nil, Bool.or_false]; exact (le_st' _ _ [⟨960, some _, false, 2, _⟩] [] _ (by simp -implicitDefEqProofs (maxSteps := 2000000) only [go_sem] <;> and_intros <;> rfl) (by simp -implicitDefEqProofs (maxSteps := 2000000) only [go_sem] <;> and_intros <;> rfl) (by simp -implicitDefEqProofs (maxSteps := 2000000) only [go_sem] <;> and_intros <;> rfl) (by rfl))) ?_
      rintro n h4
      by_cases k3 : n < l.length
      · have st := any_step (d := default) (p := hit d a b) k3
        rcases d0 : (s || (l.take n).any (hit d a b))
        · have d0' : (l.take n).any (hit d a b) = false := by rw [Bool.or_eq_false_iff] at d0; exact d0.2
          have s0 : s = false := by rw [Bool.or_eq_false_iff] at d0; exact d0.1
          rcases d1 : violB d (l.getD n default) a b
          · simp -implicitDefEqProofs (maxSteps := 2000000) only [go_sem, k3]
            refine call_of (specViolatesConstraint_sat d (l.getD n default) a b h) (by simp -implicitDefEqProofs (maxSteps := 2000000) only [go_sem, d1, k3]) (by kernel_rfl) (by simp -implicitDefEqProofs (maxSteps := 2000000) only [go_sem, d1, k3]) ?_
            simp -implicitDefEqProofs (maxSteps := 2000000) only [go_sem, d1, k3]
            refine call_of (specViolatesConstraint_sat d (l.getD n default) b a h) (by simp -implicitDefEqProofs (maxSteps := 2000000) only [go_sem, k3]) (by kernel_rfl) (by simp -implicitDefEqProofs (maxSteps := 2000000) only [go_sem, k3]) ?_
            simp -implicitDefEqProofs (maxSteps := 2000000) only [go_sem, k3]
            rw [i64_succ (by omega)]
            refine ⟨n + 1, k3, by omega, ?_⟩
            rw [st, d0', s0, hit, d1, Bool.false_or, Bool.false_or, Bool.false_or]
            exact (le_st' _ _ [⟨960, some _, false, 2, _⟩] [] _ (by simp -implicitDefEqProofs (maxSteps := 2000000) only [go_sem] <;> and_intros <;> rfl) (by simp -implicitDefEqProofs (maxSteps := 2000000) only [go_sem] <;> and_intros <;> rfl) (by simp -implicitDefEqProofs (maxSteps := 2000000) only [go_sem] <;> and_intros <;> rfl) (by rfl))
          · simp -implicitDefEqProofs (maxSteps := 2000000) only [go_sem, k3]
            refine call_of (specViolatesConstraint_sat d (l.getD n default) a b h) (by simp -implicitDefEqProofs (maxSteps := 2000000) only [go_sem, d1, k3]) (by kernel_rfl) (by simp -implicitDefEqProofs (maxSteps := 2000000) only [go_sem, d1, k3]) ?_
            simp -implicitDefEqProofs (maxSteps := 2000000) only [go_sem, d1, k3]
            rw [i64_succ (by omega)]
            refine ⟨n + 1, k3, by omega, ?_⟩
            rw [st, d0', s0, hit, d1, Bool.false_or, Bool.false_or, Bool.true_or]
            exact (le_st' _ _ [⟨960, some _, false, 2, _⟩] [] _ (by simp -implicitDefEqProofs (maxSteps := 2000000) only [go_sem] <;> and_intros <;> rfl) (by simp -implicitDefEqProofs (maxSteps := 2000000) only [go_sem] <;> and_intros <;> rfl) (by simp -implicitDefEqProofs (maxSteps := 2000000) only [go_sem] <;> and_intros <;> rfl) (by rfl))
        · simp -implicitDefEqProofs (maxSteps := 2000000) only [go_sem, k3]
          rw [i64_succ (by omega)]
          refine ⟨n + 1, k3, by omega, ?_⟩
          rw [st, ← Bool.or_assoc, d0, Bool.true_or]
          exact (le_st' _ _ [⟨960, some _, false, 2, _⟩] [] _ (by simp -implicitDefEqProofs (maxSteps := 2000000) only [go_sem] <;> and_intros <;> rfl) (by simp -implicitDefEqProofs (maxSteps := 2000000) only [go_sem] <;> and_intros <;> rfl) (by simp -implicitDefEqProofs (maxSteps := 2000000) only [go_sem] <;> and_intros <;> rfl) (by rfl))
      · obtain rfl : n = l.length := by omega
        rw [List.take_length]
        have hcf : (s || l.any (hit d a b)) = confl d l a b := by rw [confl, hs, Bool.or_comm]
        rw [hcf]
        simp -implicitDefEqProofs (maxSteps := 2000000) only [go_sem, k3]
        rcases d1 : confl d l a b
        · simp -implicitDefEqProofs (maxSteps := 2000000) only [go_sem]
          rw [i64_succ (by omega)]
          refine ⟨b + 1, ⟨by omega, k2⟩, by omega, ?_⟩
          rw [show rowE (confl d l) a (b + 1) = rowE (confl d l) a b by rw [rowE, d1]; simp]
          exact (le_st' _ _ [⟨960, some _, false, 2, _⟩] [] _ (by simp -implicitDefEqProofs (maxSteps := 2000000) only [go_sem] <;> and_intros <;> rfl) (by simp -implicitDefEqProofs (maxSteps := 2000000) only [go_sem] <;> and_intros <;> rfl) (by simp -implicitDefEqProofs (maxSteps := 2000000) only [go_sem] <;> and_intros <;> rfl) (by rfl))
        · simp -implicitDefEqProofs (maxSteps := 2000000) only [go_sem]
          refine ⟨by omega, ?_⟩
          rw [i64_succ (by omega)]
          refine ⟨b + 1, ⟨by omega, k2⟩, by omega, ?_⟩
          rw [show rowE (confl d l) a (b + 1) = rowE (confl d l) a b ++ [⟨a, b⟩] by rw [rowE, d1, decide_eq_true h2]; rfl, ← List.append_assoc]
          exact (le_st' _ _ [⟨960, some _, false, 2, _⟩] [] _ (by simp -implicitDefEqProofs (maxSteps := 2000000) only [go_sem] <;> and_intros <;> rfl) (by simp -implicitDefEqProofs (maxSteps := 2000000) only [go_sem] <;> and_intros <;> rfl) (by simp -implicitDefEqProofs (maxSteps := 2000000) only [go_sem] <;> and_intros <;> rfl) (by rfl))
    · obtain rfl : b = d.facts.length := by omega
      simp -implicitDefEqProofs (maxSteps := 2000000) only [go_sem, k2]
      rw [i64_succ (by omega)]
      refine ⟨a + 1, k1, by omega, ?_⟩
      rw [allE]
      exact (le_st' _ _ [⟨960, some _, false, 2, _⟩] [] _ (by simp -implicitDefEqProofs (maxSteps := 2000000) only [go_sem] <;> and_intros <;> rfl) (by simp -implicitDefEqProofs (maxSteps := 2000000) only [go_sem] <;> and_intros <;> rfl) (by simp -implicitDefEqProofs (maxSteps := 2000000) only [go_sem] <;> and_intros <;> rfl) (by rfl))
  · obtain rfl : a = d.facts.length := by omega
    simp -implicitDefEqProofs (maxSteps := 2000000) only [go_sem, k1]
    rfl
end Go.Proofs.YtedciihjgbkjgabGreatDoor.A


/- BLOCKS OF A VALID DATABASE. Conditions: none. -/
namespace Go.Proofs.YtedciihjgbkjgabGreatDoor.A
open Go
set_option linter.unusedSimpArgs false
set_option linter.unusedVariables false

theorem cmpInts_trans : ∀ {a b c : List Int}, cmpInts a b < 0 → cmpInts b c < 0 → cmpInts a c < 0
  | [], [], _, h, _ => by simp [cmpInts] at h
  | [], _ :: _, [], _, h => by simp [cmpInts] at h
  | [], _ :: _, _ :: _, _, _ => by simp [cmpInts]
  | _ :: _, [], _, h, _ => by simp [cmpInts] at h
  | _ :: _, _ :: _, [], _, h => by simp [cmpInts] at h
  | x :: a, y :: b, z :: c, h1, h2 => by
    unfold cmpInts at h1 h2 ⊢
    rcases Int.lt_trichotomy x y with d | d | d
    · rcases Int.lt_trichotomy y z with e | e | e
      · rw [if_pos (by omega)]; omega
      · rw [if_pos (by omega)]; omega
      · rw [if_neg (by omega), if_pos e] at h2; omega
    · subst d
      rw [if_neg (by omega), if_neg (by omega)] at h1
      rcases Int.lt_trichotomy x z with e | e | e
      · rw [if_pos e]; omega
      · subst e
        rw [if_neg (by omega), if_neg (by omega)] at h2 ⊢
        exact cmpInts_trans h1 h2
      · rw [if_neg (by omega), if_pos e] at h2; omega
    · rw [if_neg (by omega), if_pos d] at h1; omega
theorem lex_mid : ∀ (m : Nat) {a b c : List Int}, a.length = b.length → b.length = c.length → cmpInts a b ≤ 0 → cmpInts b c ≤ 0 → a.take m = c.take m → a.take m = b.take m
  | 0, _, _, _, _, _, _, _, _ => by simp
  | m + 1, [], [], _, _, _, _, _, _ => rfl
  | m + 1, x :: a, y :: b, [], _, h, _, _, _ => by simp at h
  | m + 1, x :: a, y :: b, z :: c, h1, h2, h3, h4, h5 => by
    simp only [List.take_succ_cons, List.cons.injEq] at h5 ⊢
    obtain ⟨rfl, h5⟩ := h5
    unfold cmpInts at h3 h4
    rcases Int.lt_trichotomy x y with d | d | d
    · rw [if_neg (by omega), if_pos d] at h4; omega
    · subst d
      rw [if_neg (by omega), if_neg (by omega)] at h3 h4
      exact ⟨rfl, lex_mid m (by simpa using h1) (by simpa using h2) h3 h4 h5⟩
    · rw [if_neg (by omega), if_pos d] at h3; omega
theorem cmpRI_trans {a b c : RI} (h1 : cmpRI a b < 0) (h2 : cmpRI b c < 0) : cmpRI a c < 0 := by
  unfold cmpRI at *
  rcases Int.lt_trichotomy a.r b.r with d | d | d
  · rcases Int.lt_trichotomy b.r c.r with e | e | e
    · rw [if_pos (by omega)]; omega
    · rw [if_pos (by omega)]; omega
    · rw [if_neg (by omega), if_pos e] at h2; omega
  · rw [if_neg (by omega), if_neg (by omega)] at h1
    rcases Int.lt_trichotomy b.r c.r with e | e | e
    · rw [if_pos (by omega)]; omega
    · rw [if_neg (by omega), if_neg (by omega)] at h2 ⊢
      exact cmpInts_trans h1 h2
    · rw [if_neg (by omega), if_pos e] at h2; omega
  · rw [if_neg (by omega), if_pos d] at h1; omega
theorem db_step {d : Db} (g : goodDb d = true) {i : Nat} (hi : i + 1 < d.facts.length) : cmpRI (d.facts.getD i default) (d.facts.getD (i + 1) default) < 0 := by
  unfold goodDb at g
  simp only [Bool.and_eq_true] at g
  have := upTo_at g.2.2 hi
  unfold factOk at this
  rw [Bool.and_eq_true, Nat.add_sub_cancel, decide_eq_false (by omega : ¬ i + 1 = 0), Bool.false_or, Bool.not_eq_true', decide_eq_false_iff_not] at this
  omega
theorem db_sorted {d : Db} (g : goodDb d = true) {i : Nat} : ∀ {j : Nat}, i < j → j < d.facts.length → cmpRI (d.facts.getD i default) (d.facts.getD j default) < 0
  | 0, h, _ => by omega
  | j + 1, h, hj => by
    have h1 := db_step g hj
    rcases Nat.lt_or_ge i j with h2 | h2
    · exact cmpRI_trans (db_sorted g h2 (by omega)) h1
    · obtain rfl : i = j := by omega
      exact h1
theorem cmpInts_self (a : List Int) : cmpInts a a = 0 := cmpInts_zero.mpr rfl
theorem cmpRI_self (a : RI) : cmpRI a a = 0 := by
  unfold cmpRI
  rw [if_neg (by omega), if_neg (by omega)]; exact cmpInts_self _
theorem db_le {d : Db} (g : goodDb d = true) {i j : Nat} (h : i ≤ j) (hj : j < d.facts.length) : cmpRI (d.facts.getD i default) (d.facts.getD j default) ≤ 0 := by
  rcases Nat.lt_or_ge i j with h1 | h1
  · have := db_sorted g h1 hj; omega
  · obtain rfl : i = j := by omega
    rw [cmpRI_self]; omega
theorem sameK_iff {l : List Rel} {a b : RI} : sameK l a b = true ↔ a.r = b.r ∧ a.l.take (klOf l a.r) = b.l.take (klOf l a.r) := by
  unfold sameK
  rw [Bool.and_eq_true, beq_iff_eq, decide_eq_true_iff]
theorem good_len {d : Db} (g : goodDb d = true) {i j : Nat} (hi : i < d.facts.length) (hj : j < d.facts.length) (e : (d.facts.getD i default).r = (d.facts.getD j default).r) : (d.facts.getD i default).l.length = (d.facts.getD j default).l.length := by
  have h1 := goodDb_fact g hi
  have h2 := goodDb_fact g hj
  unfold goodFact at h1 h2
  simp only [Bool.and_eq_true, beq_iff_eq] at h1 h2
  have a1 := h1.2.1
  have a2 := h2.2.1
  rw [e] at a1
  omega
def keyR (d : Db) (i k : Nat) : Bool := sameK d.rels (d.facts.getD i default) (d.facts.getD k default)
theorem keyR_eqv {d : Db} (g : goodDb d = true) : Eqv (keyR d) d.facts.length where
  refl i hi := by unfold keyR; rw [sameK_iff]; exact ⟨rfl, rfl⟩
  symm i j hi hj h := by
    unfold keyR at *
    rw [sameK_iff] at *
    exact ⟨h.1.symm, by rw [← h.1]; exact h.2.symm⟩
  trans i j k hi hj hk h1 h2 := by
    unfold keyR at *
    rw [sameK_iff] at *
    refine ⟨h1.1.trans h2.1, ?_⟩
    have := h2.2
    rw [← h1.1] at this
    exact h1.2.trans this
  mid i j k h1 h2 hk h := by
    unfold keyR at *
    rw [sameK_iff] at *
    have a1 := db_le g h1 (by omega)
    have a2 := db_le g h2 hk
    obtain ⟨b1, b2⟩ := h
    have hr : (d.facts.getD i default).r = (d.facts.getD j default).r := by
      unfold cmpRI at a1 a2
      rcases Int.lt_trichotomy (d.facts.getD i default).r (d.facts.getD j default).r with e | e | e
      · rcases Int.lt_trichotomy (d.facts.getD j default).r (d.facts.getD k default).r with e2 | e2 | e2
        · omega
        · omega
        · rw [if_neg (by omega), if_pos e2] at a2; omega
      · exact e
      · rw [if_neg (by omega), if_pos e] at a1; omega
    refine ⟨hr, ?_⟩
    unfold cmpRI at a1 a2
    rw [if_neg (by omega), if_neg (by omega)] at a1 a2
    exact lex_mid _ (good_len g (by omega) (by omega) hr) (good_len g (by omega) hk (by omega)) a1 a2 b2
/-- The blocks. -/
def blocksOf (d : Db) : List (List Int) := blk (keyR d) d.facts.length
theorem blocksOf_prod {d : Db} (g : goodDb d = true) : 0 < prodL (blocksOf d) ∧ prodL (blocksOf d) ≤ 16384 := by
  refine ⟨prodL_pos (blk_ne (keyR_eqv g) (Nat.le_refl _)), ?_⟩
  have h1 := prodL_le (blocksOf d)
  rw [show ((blocksOf d).map List.length).sum = d.facts.length from blk_sum (keyR_eqv g) (Nat.le_refl _)] at h1
  have h2 : 2 ^ d.facts.length ≤ 2 ^ 14 := Nat.pow_le_pow_right (by omega) (goodDb_len g)
  omega
theorem sum_ge : ∀ {l : List (List Int)}, (∀ b ∈ l, 0 < b.length) → l.length ≤ (l.map List.length).sum
  | [], _ => by simp
  | b :: l, h => by
    have := sum_ge (l := l) fun c hc => h c (by simp [hc])
    have := h b (by simp)
    simp; omega
theorem sum_mem : ∀ {l : List (List Int)} {b : List Int}, b ∈ l → b.length ≤ (l.map List.length).sum
  | [], _, h => by cases h
  | c :: l, b, h => by
    rcases List.mem_cons.mp h with rfl | h
    · simp
    · have := sum_mem h
      simp; omega
theorem blocksOf_len {d : Db} (g : goodDb d = true) : (blocksOf d).length ≤ 14 ∧ ∀ b ∈ blocksOf d, 0 < b.length ∧ b.length ≤ 14 := by
  have E := keyR_eqv g
  have h1 := blk_ne E (Nat.le_refl _)
  have h2 := blk_sum E (Nat.le_refl d.facts.length)
  have h3 := goodDb_len g
  refine ⟨?_, fun b hb => ⟨h1 b hb, ?_⟩⟩
  · have := sum_ge h1
    show (blk _ _).length ≤ _
    omega
  · have := sum_mem hb
    have e : ((blocksOf d).map List.length).sum = d.facts.length := h2
    omega
end Go.Proofs.YtedciihjgbkjgabGreatDoor.A


/- FACTS ARE SELECTED. Conditions: none. -/
namespace Go.Proofs.YtedciihjgbkjgabGreatDoor.A
open Go
set_option linter.unusedSimpArgs false
set_option linter.unusedVariables false
set_option maxRecDepth 100000

theorem l4Set_sat (d : Db) (l : List Int) (h : l.length ≤ 9223372036854775807) (hd : d.facts.length ≤ 14) : Sat Tryz.prog 47 [lDb d, lInts l] [lBool (idxs l d.facts.length)] [g2, g1] := by
  refine sat_of_body mixed Tryz.func47 rfl (by kernel_rfl) (by kernel_rfl) (rs := [.tmp 4]) rfl rfl rfl ?_
  unfold idxs
  have w0 : IntKind.i64.wrap ((d.facts.length : Int) - 1) = (d.facts.length : Int) - 1 := IntWalk.i64_in _ (by omega)
  obtain ⟨n, hn⟩ : ∃ n : Int, n = (d.facts.length : Int) := ⟨_, rfl⟩
  rw [← hn] at w0 ⊢
  simp -implicitDefEqProofs (maxSteps := 2000000) only [go_sem]
  refine awp_loop Nat (fun k => mkSt [(1, .one (.im 1 (ints l))), (2, .one (.vad 1000 0)), (5, .sc (.int .i64 k))] [(1000, sDb d)] [] 4000)
    (fun k => k ≤ l.length ∧ upTo (idxAt l n) k = true) (fun k => l.length - k) 0 ⟨by omega, rfl⟩ (le_st _ _ [] [] _ rfl (by simp -implicitDefEqProofs (maxSteps := 2000000) only [go_sem] <;> rfl) (by simp -implicitDefEqProofs (maxSteps := 2000000) only [go_sem] <;> rfl) (by simp -implicitDefEqProofs (maxSteps := 2000000) only [go_sem] <;> rfl)) ?_
  rintro k ⟨h1, h2⟩
  by_cases c1 : k < l.length
  · rcases d1 : inB (l.getD k 0) 0 (n - 1)
    · rw [upTo_false c1 (by rw [idxAt, d1]; rfl)]
      simp -implicitDefEqProofs (maxSteps := 2000000) only [go_sem, c1, ← hn, w0]
      refine call_of (inB_sat (l.getD k 0) 0 (n - 1)) (by simp -implicitDefEqProofs (maxSteps := 2000000) only [go_sem, d1, c1]) (by kernel_rfl) (by simp -implicitDefEqProofs (maxSteps := 2000000) only [go_sem, d1, c1]) ?_
      simp -implicitDefEqProofs (maxSteps := 2000000) only [go_sem, d1, c1]
      first | (with_reducible refine tr_and ?_ ?_; focus kernel_rfl) | (with_reducible refine tr_only ?_; kernel_rfl) | skip
      first | done | rfl | exact ⟨rfl, rfl⟩ | exact ⟨rfl, rfl, rfl⟩ | (refine tr_and ?_ ?_ <;> first | rfl | exact ⟨rfl, rfl⟩ | kernel_rfl)
    rcases k with _ | j
    · have e : idxAt l n 0 = true := by rw [idxAt, d1]; rfl
      have c0 : (0 : Int) < l.length := by omega
      simp -implicitDefEqProofs (maxSteps := 2000000) only [go_sem, c1, c0, ← hn, w0]
      refine call_of (inB_sat (l.getD 0 0) 0 (n - 1)) (by simp -implicitDefEqProofs (maxSteps := 2000000) only [go_sem, d1, c1, c0]) (by kernel_rfl) (by simp -implicitDefEqProofs (maxSteps := 2000000) only [go_sem, d1, c1, c0]) ?_
      simp -implicitDefEqProofs (maxSteps := 2000000) only [go_sem, d1, c1, c0]
      first | (with_reducible refine tr_and ?_ ?_; focus kernel_rfl) | (with_reducible refine tr_only ?_; kernel_rfl) | skip
      exact ⟨1, ⟨c1, upTo_step h2 e⟩, by omega, (le_st _ _ [] [] _ rfl (by simp -implicitDefEqProofs (maxSteps := 2000000) only [go_sem] <;> rfl) (by simp -implicitDefEqProofs (maxSteps := 2000000) only [go_sem] <;> rfl) (by simp -implicitDefEqProofs (maxSteps := 2000000) only [go_sem] <;> rfl))⟩
    · have c2 : j < l.length := by omega
      have c3 : 0 < ((j + 1 : Nat) : Int) := by omega
      have w1 := i64_pred (j := j) (by omega)
      rcases d2 : decide (l.getD (j + 1) 0 ≤ l.getD j 0)
      · have e : idxAt l n (j + 1) = true := by rw [idxAt, d1, Nat.add_sub_cancel, d2]; rfl
        simp -implicitDefEqProofs (maxSteps := 2000000) only [go_sem, c1, ← hn, w0]
        refine call_of (inB_sat (l.getD (j + 1) 0) 0 (n - 1)) (by simp -implicitDefEqProofs (maxSteps := 2000000) only [go_sem, d1, d2, c1, c2, c3, w1]) (by kernel_rfl) (by simp -implicitDefEqProofs (maxSteps := 2000000) only [go_sem, d1, d2, c1, c2, c3, w1]) ?_
        simp -implicitDefEqProofs (maxSteps := 2000000) only [go_sem, d1, d2, c1, c2, c3, w1]
        first | (with_reducible refine tr_and ?_ ?_; focus kernel_rfl) | (with_reducible refine tr_only ?_; kernel_rfl) | skip
        rw [i64_succ (by omega)]
        exact ⟨j + 1 + 1, ⟨c1, upTo_step h2 e⟩, by omega, (le_st _ _ [] [] _ rfl (by simp -implicitDefEqProofs (maxSteps := 2000000) only [go_sem] <;> rfl) (by simp -implicitDefEqProofs (maxSteps := 2000000) only [go_sem] <;> rfl) (by simp -implicitDefEqProofs (maxSteps := 2000000) only [go_sem] <;> rfl))⟩
      · rw [upTo_false c1 (show idxAt l n (j + 1) = false by rw [idxAt, d1, Nat.add_sub_cancel, d2]; rfl)]
        simp -implicitDefEqProofs (maxSteps := 2000000) only [go_sem, c1, ← hn, w0]
        refine call_of (inB_sat (l.getD (j + 1) 0) 0 (n - 1)) (by simp -implicitDefEqProofs (maxSteps := 2000000) only [go_sem, d1, d2, c1, c2, c3, w1]) (by kernel_rfl) (by simp -implicitDefEqProofs (maxSteps := 2000000) only [go_sem, d1, d2, c1, c2, c3, w1]) ?_
        simp -implicitDefEqProofs (maxSteps := 2000000) only [go_sem, d1, d2, c1, c2, c3, w1]
        first | (with_reducible refine tr_and ?_ ?_; focus kernel_rfl) | (with_reducible refine tr_only ?_; kernel_rfl) | skip
        first | done | rfl | exact ⟨rfl, rfl⟩ | exact ⟨rfl, rfl, rfl⟩ | (refine tr_and ?_ ?_ <;> first | rfl | exact ⟨rfl, rfl⟩ | kernel_rfl)
  · obtain rfl : k = l.length := by omega
    simp -implicitDefEqProofs (maxSteps := 2000000) only [go_sem, c1]
    rw [h2]
theorem goodDb_rels {d : Db} (h : goodDb d = true) : d.rels.length ≤ 4 := by
  unfold goodDb goodRels at h
  simp only [Bool.and_eq_true, decide_eq_true_eq] at h
  omega
theorem repS {α : Type} (a : α) : List.replicate 1 a = [a] := rfl
abbrev zDb : List SV := [.sc (.slice none 0 0), .sc (.slice none 0 0)]
/-- The chosen facts. -/
def selF (fs : List RI) (l : List Int) : List RI := l.map fun i => fs.getD i.toNat default
def selOk (d : Db) (l : List Int) : Bool := goodDb d && idxs l d.facts.length
def selD (d : Db) (l : List Int) : Db := if selOk d l then ⟨d.rels, selF d.facts l⟩ else ⟨[], []⟩
theorem selF_length (fs : List RI) (l : List Int) : (selF fs l).length = l.length := by simp [selF]
theorem selF_take (fs : List RI) (l : List Int) {k : Nat} (h : k < l.length) : selF fs (l.take (k + 1)) = selF fs (l.take k) ++ [fs.getD (l.getD k 0).toNat default] := by
  rw [take_snoc 0 h]; simp [selF]
theorem idxs_at {l : List Int} {n : Int} (h : idxs l n = true) {k : Nat} (hk : k < l.length) : 0 ≤ l.getD k 0 ∧ l.getD k 0 < n := by
  have := upTo_at h hk
  unfold idxAt at this
  rw [Bool.and_eq_true] at this
  have := inB_of this.1
  omega
theorem idxs_lt {l : List Int} {n : Int} (h : idxs l n = true) : ∀ (k j : Nat), k < l.length → j < k → l.getD j 0 < l.getD k 0
  | 0, j, _, hj => by omega
  | k + 1, j, hk, hj => by
    have h1 := upTo_at h hk
    unfold idxAt at h1
    rw [Bool.and_eq_true, Nat.add_sub_cancel, decide_eq_false (by omega : ¬ k + 1 = 0), Bool.false_or, Bool.not_eq_true', decide_eq_false_iff_not] at h1
    have h2 := h1.2
    rcases Nat.lt_or_ge j k with hjk | hjk
    · have := idxs_lt h k j (by omega) hjk
      omega
    · obtain rfl : j = k := by omega
      omega
theorem specSelectFacts_sat (d : Db) (l : List Int) (h : d.ok) (hl : l.length ≤ 1048576) : Sat Tryz.prog 14 [lDb d, lInts l] [oDb (selD d l), lBool (selOk d l)] [g2, g1] := by
  refine sat_of_body mixed Tryz.func14 rfl (by kernel_rfl) (by kernel_rfl) (rs := [.cell 4 27, .tmp 5]) rfl rfl rfl ?_
  simp -implicitDefEqProofs (maxSteps := 2000000) only [go_sem]
  rcases g : goodDb d
  · rw [show selD d l = ⟨[], []⟩ by rw [selD, selOk, g]; rfl, show selOk d l = false by rw [selOk, g]; rfl]
    refine call_of (specIsValidDatabase_sat d h.fit) (by simp -implicitDefEqProofs (maxSteps := 2000000) only [go_sem, g]) (by kernel_rfl) (by simp -implicitDefEqProofs (maxSteps := 2000000) only [go_sem, g]) ?_
    simp -implicitDefEqProofs (maxSteps := 2000000) only [go_sem, g]
    first | done | rfl | exact ⟨rfl, rfl⟩ | exact ⟨rfl, rfl, rfl⟩ | (refine tr_and ?_ ?_ <;> first | rfl | exact ⟨rfl, rfl⟩ | kernel_rfl)
  have hn := goodDb_len g
  have hr := goodDb_rels g
  rcases g2 : idxs l d.facts.length
  · rw [show selD d l = ⟨[], []⟩ by rw [selD, selOk, g, g2]; rfl, show selOk d l = false by rw [selOk, g, g2]; rfl]
    refine call_of (specIsValidDatabase_sat d h.fit) (by simp -implicitDefEqProofs (maxSteps := 2000000) only [go_sem, g]) (by kernel_rfl) (by simp -implicitDefEqProofs (maxSteps := 2000000) only [go_sem, g]) ?_
    simp -implicitDefEqProofs (maxSteps := 2000000) only [go_sem, g]
    refine call_of (l4Set_sat d l (by omega) hn) (by simp -implicitDefEqProofs (maxSteps := 2000000) only [go_sem, g2]) (by kernel_rfl) (by simp -implicitDefEqProofs (maxSteps := 2000000) only [go_sem, g2]) ?_
    simp -implicitDefEqProofs (maxSteps := 2000000) only [go_sem, g2]
    first | done | rfl | exact ⟨rfl, rfl⟩ | exact ⟨rfl, rfl, rfl⟩ | (refine tr_and ?_ ?_ <;> first | rfl | exact ⟨rfl, rfl⟩ | kernel_rfl)
  rw [show selD d l = ⟨d.rels, selF d.facts l⟩ by rw [selD, selOk, g, g2]; rfl, show selOk d l = true by rw [selOk, g, g2]; rfl]
  refine call_of (specIsValidDatabase_sat d h.fit) (by simp -implicitDefEqProofs (maxSteps := 2000000) only [go_sem, g]) (by kernel_rfl) (by simp -implicitDefEqProofs (maxSteps := 2000000) only [go_sem, g]) ?_
  simp -implicitDefEqProofs (maxSteps := 2000000) only [go_sem, g]
  refine call_of (l4Set_sat d l (by omega) hn) (by simp -implicitDefEqProofs (maxSteps := 2000000) only [go_sem, g2]) (by kernel_rfl) (by simp -implicitDefEqProofs (maxSteps := 2000000) only [go_sem, g2]) ?_
  simp -implicitDefEqProofs (maxSteps := 2000000) only [go_sem, g2]
  repeat (refine ⟨by omega, ?_⟩)
  refine awp_loop Nat (fun k => mkSt [(1, .one (.im 1 (ints l))), (2, .one (.vad 1000 0)), (4, .one (.vad 1064 0)), (6, .one (.vad 2088 0)), (7, .sc (.int .i64 k))] [(1000, sDb d), (1064, zDb), (2088, [.ref 960 3 0 d.rels.length, .ref 961 2 0 k])] [(960, (3, rels d.rels)), (961, (2, ris 999 (selF d.facts (l.take k))))] 4000)
    (fun k => k ≤ l.length) (fun k => l.length - k) 0 (by omega) (le_st' _ _ [⟨960, some _, false, 3, _⟩, ⟨961, none, false, 2, _⟩] [] _ (by simp -implicitDefEqProofs (maxSteps := 2000000) only [go_sem, List.take_zero, ris_nil] <;> and_intros <;> rfl) (by simp -implicitDefEqProofs (maxSteps := 2000000) only [go_sem, List.take_zero, ris_nil] <;> and_intros <;> rfl) (by simp -implicitDefEqProofs (maxSteps := 2000000) only [go_sem, List.take_zero, ris_nil] <;> and_intros <;> rfl) (by rfl)) ?_
  rintro k h4
  by_cases c1 : k < l.length
  · have wk : IntKind.i64.wrap ((k : Int) + 1) = ((k + 1 : Nat) : Int) := i64_succ (by omega)
    obtain ⟨b1, b2⟩ := idxs_at g2 c1
    have hst := selF_take d.facts l c1
    obtain ⟨m, hm⟩ : ∃ m : Nat, l.getD k 0 = m := ⟨(l.getD k 0).toNat, by omega⟩
    have c2 : m < d.facts.length := by omega
    have hx : (d.facts.getD m default).l.length ≤ 1048576 := h.2.2 _ (mem_getD default c2)
    have ht : (selF d.facts (l.take k)).length = k := by rw [selF_length, List.length_take]; omega
    rw [hm, Int.toNat_natCast] at hst
    simp -implicitDefEqProofs (maxSteps := 2000000) only [go_sem, c1, hm, c2]
    refine tr_and (by kernel_rfl) ?_
    repeat (refine ⟨by omega, ?_⟩)
    refine tr_and (by kernel_rfl) ?_
    rw [wk]
    refine ⟨k + 1, c1, by omega, ?_⟩
    rw [hst]
    exact (le_st' _ _ [⟨960, some _, false, 3, _⟩, ⟨961, some _, false, 2, _⟩] [] _ (by simp -implicitDefEqProofs (maxSteps := 2000000) only [go_sem, ht, repS, List.set_cons_zero] <;> and_intros <;> rfl) (by simp -implicitDefEqProofs (maxSteps := 2000000) only [go_sem, ht, repS, List.set_cons_zero] <;> and_intros <;> rfl) (by simp -implicitDefEqProofs (maxSteps := 2000000) only [go_sem, ht, repS, List.set_cons_zero] <;> and_intros <;> rfl) (by rfl))
  · obtain rfl : k = l.length := by omega
    rw [List.take_length]
    simp -implicitDefEqProofs (maxSteps := 2000000) only [go_sem, c1, selF_length]
    kernel_rfl
/-! #### a slice that lies in another one is moved -/
def cellQ (s id w i j s' off len : Nat) (rows : Rows) (c : Cell) (K : Cell → List (Nat × Option Obj') → Prop) : Prop := match c with
  | .sl s'' xs => s'' = s' ∧ off = 0 ∧ len = xs.length ∧ K (.sl s xs) [(id, some (w, Rows.setCell rows i j .gone))]
  | _ => False
theorem cellQ_sl {s id w i j s' s'' off len : Nat} {rows : Rows} {xs : List Value} {K : Cell → List (Nat × Option Obj') → Prop} : cellQ s id w i j s' off len rows (.sl s'' xs) K = (s'' = s' ∧ off = 0 ∧ len = xs.length ∧ K (.sl s xs) [(id, some (w, Rows.setCell rows i j .gone))]) := rfl
def cellI (s id i j s' off len : Nat) (o : Option Obj') (K : Cell → List (Nat × Option Obj') → Prop) : Prop := match o with
  | some (w, rows) => cellQ s id w i j s' off len rows ((rows.getD i []).getD j .gone) K
  | none => False
theorem cellI_some {s id w i j s' off len : Nat} {rows : Rows} {K : Cell → List (Nat × Option Obj') → Prop} : cellI s id i j s' off len (some (w, rows)) K = cellQ s id w i j s' off len rows ((rows.getD i []).getD j .gone) K := rfl
theorem cell_rin {st : St} {s id i j s' off len : Nat} {K : Cell → List (Nat × Option Obj') → Prop} : cellK st s (.rin id i j s' off len) K = cellI s id i j s' off len (st.objs id) K := by
  simp only [cellK, cellI, cellQ, Rows.cell]
  rcases st.objs id with _ | ⟨w, rows⟩
  · rfl
  · simp only
    rcases (List.getD rows i []).getD j .gone with _ | ⟨s'', xs⟩ | _ <;> rfl
attribute [go_sem] cell_rin cellI_some cellQ_sl
/-! #### rows of which some were moved away -/
def cRH (s : Nat) (x : RI × Bool) : List Cell := [.sc (.int .i64 x.1.r), if x.2 then .gone else .sl s (iv x.1.l)]
def rhs (s : Nat) (l : List (RI × Bool)) : Rows := l.map (cRH s)
theorem rhs_length (s : Nat) (l : List (RI × Bool)) : (rhs s l).length = l.length := by simp [rhs]
theorem rhs_get {s : Nat} {l : List (RI × Bool)} {i : Nat} {r : Int} {xs : List Int} (h : l[i]? = some (⟨r, xs⟩, false)) : (rhs s l).getD i [] = [.sc (.int .i64 r), .sl s (iv xs)] := by
  simp [rhs, cRH, List.getD_eq_getElem?_getD, h]
theorem rhs_stm (n s : Nat) (l : List (RI × Bool)) : stm n (rhs (s + 1) l) = rhs n l := stm_map n _ _ (fun x => by rcases x with ⟨x, b⟩; cases b <;> rfl) l
theorem rhs_gone {s : Nat} {l : List (RI × Bool)} {i : Nat} {r : Int} {xs : List Int} (h : l[i]? = some (⟨r, xs⟩, false)) : Rows.setCell (rhs s l) i 1 .gone = rhs s (l.set i (⟨r, xs⟩, true)) := by
  unfold Rows.setCell
  rw [rhs_get h]
  simp [rhs, List.map_set, cRH]
theorem mapF_get {fs : List RI} {i : Nat} (h : i < fs.length) : (fs.map fun a => (a, false))[i]? = some (fs.getD i default, false) := by
  simp [List.getD_eq_getElem?_getD, h]
theorem rhs_of (s : Nat) (l : List RI) : rhs s (l.map fun a => (a, false)) = ris s l := by simp [rhs, ris, cRH, cRI]
attribute [go_sem] rhs_length rhs_stm
end Go.Proofs.YtedciihjgbkjgabGreatDoor.A


/- BLOCKS: the reference. Conditions: none. -/
namespace Go.Proofs.YtedciihjgbkjgabGreatDoor.A
open Go
set_option linter.unusedSimpArgs false
set_option linter.unusedVariables false
set_option maxRecDepth 100000

theorem castL_append (a b : List Nat) : castL (a ++ b) = castL a ++ castL b := by simp [castL]
theorem clsOf_le {S : Nat → Nat → Bool} (i k : Nat) : (clsOf S i k).length ≤ k := by
  unfold clsOf
  have := List.length_filter_le (S i) (List.range k)
  simpa using this
theorem castL_len (l : List Nat) : (castL l).length = l.length := by simp [castL]
theorem clsOf_not {S : Nat → Nat → Bool} {n : Nat} (E : Eqv S n) {i : Nat} (hi : i < n) (h : isFst S i = false) : ∃ j t, clsOf S i n = j :: t ∧ j ≠ i := by
  have hex : ∃ j, j < i ∧ S j i = true := by
    refine Classical.byContradiction fun hn => ?_
    rw [isFst_of (fun j hj => by
      rcases e : S j i
      · rfl
      · exact absurd ⟨j, hj, e⟩ hn)] at h
    cases h
  obtain ⟨j, h1, h2⟩ := hex
  have hm : j ∈ clsOf S i n := clsOf_mem.mpr ⟨by omega, E.symm j i (by omega) hi h2⟩
  rcases hc : clsOf S i n with _ | ⟨a, t⟩
  · rw [hc] at hm; cases hm
  · refine ⟨a, t, rfl, ?_⟩
    have hs : (clsOf S i n).Pairwise (· < ·) := List.Pairwise.filter _ List.pairwise_lt_range
    rw [hc] at hs hm
    rcases List.mem_cons.mp hm with rfl | hm
    · omega
    · have := (List.pairwise_cons.mp hs).1 j hm
      omega
def blkS (d : Db) (k : Nat) : List (List Int) := (fsts (keyR d) k).map fun i => castL (clsOf (keyR d) i d.facts.length)
theorem blkS_all (d : Db) : blkS d d.facts.length = blocksOf d := by
  unfold blkS blocksOf blk blkN
  rw [List.map_map]; rfl
theorem blkS_len (d : Db) (k : Nat) : (blkS d k).length ≤ k := by
  unfold blkS fsts
  rw [List.length_map]
  have := List.length_filter_le (isFst (keyR d)) (List.range k)
  simpa using this
def blocksD (d : Db) : List (List Int) := if goodDb d then blocksOf d else []
theorem rst_blk (a : List (List Int)) : rst (iss 999 a) = iss 1 a := iss_rst 998 a
def sizes (l : List (List Int)) : List Int := l.map fun b => (b.length : Int)
theorem sizes_length (l : List (List Int)) : (sizes l).length = l.length := by simp [sizes]
theorem sizes_get {l : List (List Int)} {i : Nat} (h : i < l.length) : (sizes l).getD i 0 = ((l.getD i []).length : Int) := by
  simp [sizes, List.getD_eq_getElem?_getD, h]
theorem sizes_take {l : List (List Int)} {i : Nat} (h : i < l.length) : sizes (l.take (i + 1)) = sizes (l.take i) ++ [((l.getD i []).length : Int)] := by
  rw [take_snoc [] h]; simp [sizes]
theorem blocksD_len (d : Db) : (blocksD d).length ≤ 14 ∧ ∀ b ∈ blocksD d, 0 < b.length ∧ b.length ≤ 14 := by
  unfold blocksD
  split
  · rename_i g; exact blocksOf_len g
  · exact ⟨by simp, fun b hb => by cases hb⟩
theorem prodL_take {l : List (List Int)} {i : Nat} (h : i < l.length) : prodL (l.take (i + 1)) = prodL (l.take i) * (l.getD i []).length := by
  rw [take_snoc [] h, prodL_append]; simp [prodL]
theorem prodL_part {l : List (List Int)} (hl : ∀ b ∈ l, 0 < b.length) (i : Nat) : prodL (l.take i) ≤ prodL l := by
  have h1 := prodL_append (l.take i) (l.drop i)
  rw [List.take_append_drop] at h1
  have h2 : 0 < prodL (l.drop i) := prodL_pos fun b hb => hl b (List.mem_of_mem_drop hb)
  rw [h1]
  exact Nat.le_mul_of_pos_right _ h2
def cntR (d : Db) : Nat := if goodDb d then prodL (blocksOf d) else 0
theorem cntR_le (d : Db) : cntR d ≤ 16384 := by
  unfold cntR
  split
  · rename_i g; exact (blocksOf_prod g).2
  · omega
end Go.Proofs.YtedciihjgbkjgabGreatDoor.A


/- REPAIRS BY THEIR RANK; PARTIAL REPAIRS: the reference. Conditions: none. -/
namespace Go.Proofs.YtedciihjgbkjgabGreatDoor.A
open Go
set_option linter.unusedSimpArgs false
set_option linter.unusedVariables false
set_option maxRecDepth 100000

def tOf : Nat → Int
  | 0 => -1
  | j + 1 => j
theorem tOf_zero : tOf 0 = -1 := rfl
theorem tOf_succ (j : Nat) : tOf (j + 1) = (j : Int) := rfl
theorem tOf_eq (j : Nat) : tOf j = (j : Int) - 1 := by cases j <;> simp [tOf]
theorem tmodN (a b : Nat) : (a : Int).tmod (b : Int) = ((a % b : Nat) : Int) := by rw [Int.tmod_eq_emod_of_nonneg (by omega)]; rfl
theorem tdivN (a b : Nat) : (a : Int).tdiv (b : Int) = ((a / b : Nat) : Int) := by rw [Int.tdiv_eq_ediv_of_nonneg (by omega)]; rfl
theorem wrapN {n : Nat} (h : n ≤ 9223372036854775807) : IntKind.i64.wrap (n : Int) = n := IntWalk.i64_in _ (by omega)
def nthOk (d : Db) (k : Int) : Bool := inB k 0 ((cntR d : Int) - 1)
def nth' (d : Db) (k : Int) : List Int := if nthOk d k then (pickR (blocksOf d) k.toNat).1 else []
theorem nthOk_good {d : Db} {k : Int} (h : nthOk d k = true) : goodDb d = true ∧ 0 ≤ k ∧ k < cntR d := by
  have h1 := inB_of h
  refine ⟨?_, by omega, by omega⟩
  rcases g : goodDb d
  · have : cntR d = 0 := by unfold cntR; rw [g]; rfl
    omega
  · rfl
theorem nth'_asc {d : Db} (g : goodDb d = true) (r : Nat) : (pickR (blocksOf d) r).1.Pairwise (· < ·) :=
  pickR_asc (blk_ne (keyR_eqv g) (Nat.le_refl _)) (blk_asc (keyR_eqv g) (Nat.le_refl _))
def cst (d : Db) : Bool := goodDb d && decide ((blocksOf d).length = d.facts.length)
def isPR (d : Db) (l : List Int) : Bool := selOk d l && cst (selD d l)
end Go.Proofs.YtedciihjgbkjgabGreatDoor.A


/- THE LIBRARY'S Repeat at one number. Conditions: none. -/
namespace Go.Proofs.YtedciihjgbkjgabGreatDoor.A
open Go
set_option linter.unusedSimpArgs false
set_option linter.unusedVariables false
set_option maxRecDepth 100000

abbrev lU64 (n : Int) : LV := .one (.sc (.int .u64 n))
theorem ints_allSc (a : List Int) : allSc (ints a) = true := by simp [allSc, ints_eq]
theorem ints_range (a b : List Int) (k : Nat) : setRange (ints a) k (ints b) = ints (setRange a k b) := by simp [setRange, ints_eq]
attribute [go_sem] ints_allSc
theorem u64_of {n : Nat} (hn : n ≤ 4) : IntKind.u64.wrap (n : Int) = n := by
  obtain rfl | rfl | rfl | rfl | rfl : n = 0 ∨ n = 1 ∨ n = 2 ∨ n = 3 ∨ n = 4 := by omega
  all_goals rfl
theorem rep1 {α : Type} (a : α) : List.replicate 1 a = [a] := rfl
theorem rep_range {x : Int} {n k : Nat} (hk : k ≤ n) : setRange (List.replicate k x ++ List.replicate (n - k) 0) k ((List.take k (List.replicate k x ++ List.replicate (n - k) 0)).take (n - k)) = List.replicate (k + min k (n - k)) x ++ List.replicate (n - (k + min k (n - k))) 0 := by
  have h1 : List.take k (List.replicate k x ++ List.replicate (n - k) 0) = List.replicate k x := by
    rw [List.take_append_of_le_length (by simp), List.take_replicate, Nat.min_self]
  rw [h1, List.take_replicate, setRange, h1, List.length_replicate, Nat.min_comm (n - k) k, List.replicate_append_replicate]
  congr 1
  rw [List.drop_append, List.drop_replicate, List.drop_replicate, List.length_replicate]
  rw [show k - (k + min k (n - k)) = 0 by omega, List.replicate_zero, List.nil_append]
  congr 1; omega
end Go.Proofs.YtedciihjgbkjgabGreatDoor.A


/- EMBEDDINGS: one fact against one atom, the two programs. Conditions: none. -/
namespace Go.Proofs.YtedciihjgbkjgabGreatDoor.A
open Go
set_option linter.unusedSimpArgs false
set_option linter.unusedVariables false
set_option maxRecDepth 100000

theorem constantTerm_sat (t : Int) (h : -1000 ≤ t ∧ t ≤ 1000) : Sat Tryz.prog 129 [lInt t] [lInt (-1 - t)] [g1] := by
  refine sat_of_body mixed Tryz.func129 rfl (by kernel_rfl) (by kernel_rfl) (rs := [.tmp 2]) rfl rfl rfl ?_
  have w : IntKind.i64.wrap (-1 - t) = -1 - t := IntWalk.i64_in _ (by omega)
  simp -implicitDefEqProofs (maxSteps := 2000000) only [go_sem, w]
  first | done | rfl | exact ⟨rfl, rfl⟩ | exact ⟨rfl, rfl, rfl⟩ | (refine tr_and ?_ ?_ <;> first | rfl | exact ⟨rfl, rfl⟩ | kernel_rfl)
theorem set_same {x : List Int} {t : Nat} {f : Int} (h : x.getD t 0 = f) : x.set t f = x := by
  refine List.ext_getElem? fun k => ?_
  rw [List.getElem?_set]
  split
  · rename_i e
    subst e
    split
    · rename_i hk
      rw [← h, List.getD_eq_getElem?_getD, List.getElem?_eq_getElem hk]; rfl
    · rename_i hk
      rw [List.getElem?_eq_none (by omega)]
  · rfl
def uniO (o : Option (List Int)) : List Int := o.getD []
end Go.Proofs.YtedciihjgbkjgabGreatDoor.A


/- EMBEDDINGS: the reference's search. Conditions: none. -/
namespace Go.Proofs.YtedciihjgbkjgabGreatDoor.A
open Go
set_option linter.unusedSimpArgs false
set_option linter.unusedVariables false
set_option maxRecDepth 100000

/-- What the search leans on: the facts' and atoms' lengths. -/
structure FitE (d : Db) (q : Qu) (n : Nat) : Prop where
  facts : d.facts.length ≤ 14
  atoms : q.atoms.length ≤ 3
  small : n ≤ 4
  vals : ∀ i, i < d.facts.length → (d.facts.getD i default).l.length ≤ 1048576
  lens : ∀ k i, k < q.atoms.length → i < d.facts.length → (d.facts.getD i default).r = (q.atoms.getD k default).r → (d.facts.getD i default).l.length = (q.atoms.getD k default).l.length
  terms : ∀ k, k < q.atoms.length → tsOk n (q.atoms.getD k default).l
theorem goodFact_len {l : List Rel} {f : RI} (h : goodFact l f = true) (hl : goodRels l = true) : f.l.length ≤ 3 := by
  unfold goodFact at h
  simp only [Bool.and_eq_true, beq_iff_eq] at h
  obtain ⟨h1, h2, _⟩ := h
  have h1 := inB_of h1
  have : f.r.toNat < l.length := by omega
  unfold goodRels at hl
  rw [Bool.and_eq_true] at hl
  have h3 := upTo_at hl.1 this
  unfold relOk goodRel at h3
  simp only [Bool.and_eq_true] at h3
  have h4 := inB_of h3.1.2.2.2.1
  omega
theorem fitE {d : Db} {q : Qu} (h : queryFor d q = true) : FitE d q q.vc.toNat := by
  have h1 := goodDb_len (queryFor_db h)
  have h2 := goodQu_parts (queryFor_qu h)
  have hr : goodRels d.rels = true := by
    have := queryFor_db h
    unfold goodDb at this
    rw [Bool.and_eq_true] at this
    exact this.1
  refine ⟨h1, h2.2.2, by omega, fun i hi => ?_, fun k i hk hi e => meet_lens h hk hi e, fun k hk => tsOk_at (queryFor_qu h) hk⟩
  have := goodFact_len (goodDb_fact (queryFor_db h) hi) hr
  omega
theorem ems_rst2 (a b : List Emb) : rst (ems 999 a ++ ems 1 b) = ems 1 (a ++ b) := by
  rw [show ∀ x y : Rows, rst (x ++ y) = rst x ++ rst y from fun x y => List.map_append .., ems_rst 998, ems_rst 0, ems_append]
end Go.Proofs.YtedciihjgbkjgabGreatDoor.A


/- EMBEDDINGS: the reference's function; the program's search. Conditions: none. -/
namespace Go.Proofs.YtedciihjgbkjgabGreatDoor.A
open Go
set_option linter.unusedSimpArgs false
set_option linter.unusedVariables false
set_option maxRecDepth 100000

theorem ints_nilfE : (ints [] = frz []) = True := eq_true rfl
attribute [go_sem] ints_nilfE
theorem embs_len (d : Db) (q : Qu) : (embs d q).length ≤ 2744 := by
  unfold embs
  split
  · rename_i g
    have F := fitE g
    have := walkE_len (ats := q.atoms) F.facts q.atoms.length (List.replicate q.vc.toNat (-1)) []
    have := pow14E F.atoms
    omega
  · simp
theorem embs_mem {d : Db} {q : Qu} : ∀ e ∈ embs d q, e.vs.length ≤ 4 ∧ e.fs.length ≤ 3 := by
  intro e he
  unfold embs at he
  split at he
  · rename_i g
    have F := fitE g
    obtain ⟨h1, h2⟩ := walkE_mem e he
    have := F.small
    have := F.atoms
    rw [h1, h2]
    simp
    omega
  · cases he
end Go.Proofs.YtedciihjgbkjgabGreatDoor.A


/- WITNESSES ARE PARTIAL REPAIRS: the plain law. Conditions: none. -/
namespace Go.Proofs.YtedciihjgbkjgabGreatDoor.A
open Go
set_option linter.unusedSimpArgs false
set_option linter.unusedVariables false

theorem meet_rel {a f : RI} {vs x : List Int} (h : meet a f vs = some x) : f.r = a.r := by
  unfold meet at h
  split at h
  · assumption
  · cases h
/-- The chosen facts are of the atoms' relations. -/
theorem walkE_rel {ds ats : List RI} : ∀ {m : Nat} {vs fs : List Int}, fs.length + m = ats.length → (∀ t, t < fs.length → ∃ i : Nat, fs.getD t 0 = i ∧ i < ds.length ∧ (ds.getD i default).r = (ats.getD t default).r) →
    ∀ e ∈ walkE ds ats m vs fs, e.fs.length = ats.length ∧ ∀ t, t < ats.length → ∃ i : Nat, e.fs.getD t 0 = i ∧ i < ds.length ∧ (ds.getD i default).r = (ats.getD t default).r
  | 0, vs, fs, hl, hf, e, he => by
    simp only [walkE, List.mem_singleton] at he
    subst he
    exact ⟨by simpa using hl, fun t ht => hf t (by omega)⟩
  | m + 1, vs, fs, hl, hf, e, he => by
    rw [walkE_succ, found_mem] at he
    obtain ⟨i, hi, he⟩ := he
    unfold oneE at he
    split at he
    · rename_i x hx
      refine walkE_rel (by rw [List.length_append, List.length_singleton]; omega) (fun t ht => ?_) e he
      rw [List.length_append, List.length_singleton] at ht
      rcases Nat.lt_or_ge t fs.length with h | h
      · obtain ⟨j, h1, h2, h3⟩ := hf t h
        refine ⟨j, ?_, h2, h3⟩
        rw [List.getD_eq_getElem?_getD, List.getElem?_append_left h, ← List.getD_eq_getElem?_getD]; exact h1
      · obtain rfl : t = fs.length := by omega
        refine ⟨i, ?_, hi, ?_⟩
        · rw [List.getD_eq_getElem?_getD, List.getElem?_append_right (Nat.le_refl _), Nat.sub_self]; rfl
        · have := meet_rel hx
          rw [this, atomAt]
          congr 2; omega
    · cases he
theorem newRels {l : List Rel} {q : Qu} (h : goodQu l q = true) {s t : Nat} (hs : s < t) (ht : t < q.atoms.length) : (q.atoms.getD s default).r ≠ (q.atoms.getD t default).r := by
  have h1 := goodQu_at h ht
  unfold atomOk at h1
  simp only [Bool.and_eq_true] at h1
  have := upTo_at h1.2.1 hs
  unfold newRel at this
  rw [Bool.not_eq_true', beq_eq_false_iff_ne] at this
  exact this
theorem idxs_of {l : List Int} {n : Int} (h1 : l.Pairwise (· < ·)) (h2 : ∀ x ∈ l, 0 ≤ x ∧ x < n) : idxs l n = true := by
  unfold idxs
  refine upTo_true fun k hk => ?_
  unfold idxAt
  obtain ⟨a1, a2⟩ := h2 _ (mem_getD 0 hk)
  rw [Bool.and_eq_true]
  refine ⟨by unfold inB; rw [decide_eq_true a1, decide_eq_true (show l.getD k 0 ≤ n - 1 by omega)]; rfl, ?_⟩
  rcases k with _ | k
  · rfl
  · rw [Nat.add_sub_cancel, decide_eq_false (by omega : ¬ k + 1 = 0), Bool.false_or, Bool.not_eq_true', decide_eq_false_iff_not]
    have := List.pairwise_iff_getElem.mp h1 k (k + 1) (by omega) hk (by omega)
    rw [List.getD_eq_getElem?_getD, List.getD_eq_getElem?_getD, List.getElem?_eq_getElem hk, List.getElem?_eq_getElem (show k < l.length by omega)]
    simp only [Option.getD_some]
    omega
theorem sortI_lt {l : List Int} (h : l.Nodup) : (sortI l).Pairwise (· < ·) := by
  have h1 := sortI_sorted l
  have h2 : (sortI l).Nodup := (sortI_perm l).nodup_iff.mpr h
  have := h1.and h2
  exact this.imp fun ⟨a, b⟩ => by omega
theorem isPR_of {d : Db} {l : List Int} (g : goodDb d = true) (h1 : l.Pairwise (· < ·)) (h2 : ∀ x ∈ l, 0 ≤ x ∧ x < d.facts.length)
    (h3 : ∀ x ∈ l, ∀ y ∈ l, x ≠ y → (d.facts.getD x.toNat default).r ≠ (d.facts.getD y.toNat default).r) : isPR d l = true := by
  have hix := idxs_of h1 h2
  have hok : selOk d l = true := by unfold selOk; rw [g, hix]; rfl
  have hsel : selD d l = ⟨d.rels, selF d.facts l⟩ := by unfold selD; rw [hok]; rfl
  have hlen : (selF d.facts l).length = l.length := selF_length _ _
  have hget : ∀ k, k < l.length → (selF d.facts l).getD k default = d.facts.getD (l.getD k 0).toNat default := by
    intro k hk
    simp [selF, List.getD_eq_getElem?_getD, hk]
  have hll : (l.length : Int) ≤ d.facts.length := by
    rcases e : l.length with _ | k
    · omega
    · have : ∀ j, j < l.length → (j : Int) ≤ l.getD j 0 := by
        intro j
        induction j with
        | zero => intro hj; exact (h2 _ (mem_getD 0 hj)).1
        | succ j ih =>
          intro hj
          have := idxs_lt hix (j + 1) j hj (by omega)
          have := ih (by omega)
          omega
      have a1 := this k (by omega)
      have a2 := (h2 _ (mem_getD 0 (show k < l.length by omega))).2
      omega
  have hgood : goodDb (selD d l) = true := by
    have gr := (db_of g).1
    have gn := (db_of g).2.1
    rw [hsel]
    unfold goodDb
    simp only [Bool.and_eq_true, decide_eq_true_eq]
    refine ⟨gr, by rw [hlen]; omega, upTo_true fun k hk => ?_⟩
    rw [hlen] at hk
    obtain ⟨a1, a2⟩ := h2 _ (mem_getD 0 hk)
    unfold factOk
    simp only
    rw [hget k hk, fact_of g (by omega), Bool.true_and]
    rcases k with _ | k
    · rfl
    · rw [Nat.add_sub_cancel, decide_eq_false (by omega : ¬ k + 1 = 0), Bool.false_or, Bool.not_eq_true', decide_eq_false_iff_not, hget k (by omega)]
      have b1 := idxs_lt hix (k + 1) k hk (by omega)
      obtain ⟨b2, b3⟩ := h2 _ (mem_getD 0 (show k < l.length by omega))
      have := db_sorted g (show (l.getD k 0).toNat < (l.getD (k + 1) 0).toNat by omega) (by omega)
      omega
  have hfst : ∀ i, i < l.length → isFst (keyR (selD d l)) i = true := by
    intro i hi
    refine isFst_of fun j hj => ?_
    rcases e : keyR (selD d l) j i
    · rfl
    · unfold keyR at e
      rw [sameK_iff, hsel] at e
      have e1 := e.1
      simp only at e1
      rw [hget j (by omega), hget i hi] at e1
      have b1 := idxs_lt hix i j hi hj
      exact absurd e1 (h3 _ (mem_getD 0 (by omega)) _ (mem_getD 0 hi) (by omega))
  unfold isPR cst
  rw [hok, hgood, Bool.true_and, Bool.true_and, decide_eq_true_iff]
  unfold blocksOf blk blkN
  rw [List.length_map, List.length_map]
  have hf : (selD d l).facts.length = l.length := by rw [hsel]; exact hlen
  rw [hf]
  unfold fsts
  rw [List.filter_eq_self.mpr (fun i hi => hfst i (by simpa using hi)), List.length_range]
theorem embs_fs {d : Db} {q : Qu} : ∀ e ∈ embs d q, queryFor d q = true ∧ e.fs.length = q.atoms.length ∧ ∀ t, t < q.atoms.length → ∃ i : Nat, e.fs.getD t 0 = i ∧ i < d.facts.length ∧ (d.facts.getD i default).r = (q.atoms.getD t default).r := by
  intro e he
  unfold embs at he
  split at he
  · rename_i g
    obtain ⟨h1, h2⟩ := walkE_rel (fs := []) (by simp) (fun t ht => by cases ht) e he
    exact ⟨g, h1, h2⟩
  · cases he
theorem witness_ok {d : Db} {q : Qu} : ∀ e ∈ embs d q, isPR d (sortI e.fs) = true := by
  intro e he
  obtain ⟨g, h1, h2⟩ := embs_fs e he
  have hmem : ∀ x ∈ e.fs, ∃ t, t < q.atoms.length ∧ e.fs.getD t 0 = x := by
    intro x hx
    obtain ⟨t, ht, e1⟩ := getD_in hx
    exact ⟨t, by omega, e1⟩
  have hdiff : ∀ s t, s < q.atoms.length → t < q.atoms.length → s ≠ t → (d.facts.getD (e.fs.getD s 0).toNat default).r ≠ (d.facts.getD (e.fs.getD t 0).toNat default).r := by
    intro s t hs ht hne
    obtain ⟨i, a1, a2, a3⟩ := h2 s hs
    obtain ⟨j, b1, b2, b3⟩ := h2 t ht
    rw [a1, b1, Int.toNat_natCast, Int.toNat_natCast, a3, b3]
    rcases Nat.lt_or_ge s t with h | h
    · exact newRels (queryFor_qu g) h ht
    · exact fun e => newRels (queryFor_qu g) (show t < s by omega) hs e.symm
  have hnd : e.fs.Nodup := by
    rw [List.Nodup, List.pairwise_iff_getElem]
    intro s t hs ht hst heq
    refine hdiff s t (by omega) (by omega) (by omega) ?_
    have : e.fs.getD s 0 = e.fs.getD t 0 := by
      rw [List.getD_eq_getElem?_getD, List.getD_eq_getElem?_getD, List.getElem?_eq_getElem hs, List.getElem?_eq_getElem ht, heq]
    rw [this]
  have hin : ∀ x, x ∈ sortI e.fs → x ∈ e.fs := fun x hx => (sortI_perm e.fs).mem_iff.mp hx
  refine isPR_of (queryFor_db g) (sortI_lt hnd) (fun x hx => ?_) (fun x hx y hy hne => ?_)
  · obtain ⟨t, ht, rfl⟩ := hmem x (hin x hx)
    obtain ⟨i, a1, a2, _⟩ := h2 t ht
    omega
  · obtain ⟨s, hs, rfl⟩ := hmem x (hin x hx)
    obtain ⟨t, ht, rfl⟩ := hmem y (hin y hy)
    exact hdiff s t hs ht (fun e => hne (by rw [e]))
def wits (d : Db) (q : Qu) : List (List Int) := (embs d q).map fun e => sortI e.fs
theorem wits_len (d : Db) (q : Qu) : (wits d q).length ≤ 2744 := by
  unfold wits; rw [List.length_map]; exact embs_len d q
theorem wits_mem {d : Db} {q : Qu} : ∀ w ∈ wits d q, w.length ≤ 3 := by
  intro w hw
  obtain ⟨e, he, rfl⟩ := List.mem_map.mp hw
  rw [sortI_len]
  exact (embs_mem e he).2
end Go.Proofs.YtedciihjgbkjgabGreatDoor.A


/- DOES A QUERY HOLD IN CHOSEN FACTS. Conditions: none. -/
namespace Go.Proofs.YtedciihjgbkjgabGreatDoor.A
open Go
set_option linter.unusedSimpArgs false
set_option linter.unusedVariables false
set_option maxRecDepth 100000

theorem selD_ok {d : Db} (l : List Int) (h : d.ok) (hl : l.length ≤ 1048576) : (selD d l).ok := by
  unfold selD
  split
  · refine ⟨h.1, by rw [selF_length]; exact hl, fun x hx => ?_⟩
    obtain ⟨i, _, rfl⟩ := List.mem_map.mp hx
    rcases Nat.lt_or_ge i.toNat d.facts.length with hi | hi
    · exact h.2.2 _ (mem_getD default hi)
    · rw [List.getD_eq_getElem?_getD, List.getElem?_eq_none hi]
      show ([] : List Int).length ≤ _
      simp
  · exact ⟨⟨by simp, fun x hx => by cases hx⟩, by simp, fun x hx => by cases hx⟩
def holdsIn (d : Db) (l : List Int) (q : Qu) : Bool := selOk d l && decide ((0 : Int) < ((embs (selD d l) q).length : Int))
end Go.Proofs.YtedciihjgbkjgabGreatDoor.A


/- BLOCKS AND REPAIRS: the program. Conditions: none. -/
namespace Go.Proofs.YtedciihjgbkjgabGreatDoor.A
open Go
set_option linter.unusedSimpArgs false
set_option linter.unusedVariables false
set_option maxRecDepth 100000

theorem ia_rin_i {st : St} {K : Eff → Prop} {e b : Nat} {z : List Value} {id i j s off len : Nat} {ik : IntKind} {n : Int} : iaK st (some (e, b, z)) (.one (.rin id i j s off len)) (.sc (.int ik n)) K = (0 ≤ n ∧ idxJ e (st.objs id) id i j s off len n.toNat K) := by
  simp only [iaK, idxA, asNat, idxJ, Rows.cell]
  rcases st.objs id with _ | ⟨w, rows⟩
  · rfl
  · simp only
    rcases (List.getD rows i []).getD j .gone with _ | ⟨s', xs⟩ | _ <;> rfl
def apQ (nid w bytes id i j s off len wo : Nat) (rows : Rows) (c : Cell) (K : Eff → Prop) (more : Rows) (ws : List (Nat × Option Obj')) : Prop := match c with
  | .sl s' xs => s' = s ∧ w = 1 ∧ off = 0 ∧ len = xs.length ∧ (xs.length + more.length + 1) * bytes ≤ 70368744177664 ∧
      K ⟨.one (.ref nid w 0 (xs.length + more.length)), (nid, some (w, lift xs ++ more)) :: (id, some (wo, Rows.setCell rows i j .gone)) :: ws, []⟩
  | _ => False
theorem apI_some {nid w bytes id i j s off len wo : Nat} {rows : Rows} {K : Eff → Prop} {more : Rows} {ws : List (Nat × Option Obj')} : apI nid w bytes id i j s off len (some (wo, rows)) K more ws = apQ nid w bytes id i j s off len wo rows ((rows.getD i []).getD j .gone) K more ws := rfl
theorem apQ_sl {nid w bytes id i j s s' off len wo : Nat} {rows : Rows} {xs : List Value} {K : Eff → Prop} {more : Rows} {ws : List (Nat × Option Obj')} : apQ nid w bytes id i j s off len wo rows (.sl s' xs) K more ws = (s' = s ∧ w = 1 ∧ off = 0 ∧ len = xs.length ∧ (xs.length + more.length + 1) * bytes ≤ 70368744177664 ∧
      K ⟨.one (.ref nid w 0 (xs.length + more.length)), (nid, some (w, lift xs ++ more)) :: (id, some (wo, Rows.setCell rows i j .gone)) :: ws, []⟩) := rfl
attribute [go_sem] apI_some apQ_sl
attribute [go_sem low] ia_rin_i
def goneAt (L : List (List Int)) : Rows := iss 999 L ++ [[Cell.gone]]
theorem goneAt_eq (L : List (List Int)) (b : List Int) : Rows.setCell (iss 999 (L ++ [b])) L.length 0 .gone = goneAt L := by
  unfold Rows.setCell goneAt
  rw [iss_get (by simp)]
  rw [← iss_append, List.set_append_right _ _ (by rw [iss_length]; omega), iss_length, Nat.sub_self]
  rfl
theorem goneAt_length (L : List (List Int)) : (goneAt L).length = L.length + 1 := by simp [goneAt, iss_length]
theorem goneAt_get (L : List (List Int)) : (goneAt L).getD L.length [] = [Cell.gone] := by
  unfold goneAt
  rw [List.getD_eq_getElem?_getD, List.getElem?_append_right (by rw [iss_length]; omega), iss_length, Nat.sub_self]; rfl
theorem goneAt_set (L : List (List Int)) (c : Cell) : (goneAt L).set L.length [c] = iss 999 L ++ [[c]] := by
  unfold goneAt
  rw [List.set_append_right _ _ (by rw [iss_length]; omega), iss_length, Nat.sub_self]; rfl
theorem last_get (L : List (List Int)) (b : List Int) : (L ++ [b]).getD L.length [] = b := by
  rw [List.getD_eq_getElem?_getD, List.getElem?_append_right (Nat.le_refl _), Nat.sub_self]; rfl
theorem zeros_set {n j : Nat} (h : j < n) (x : Int) (t : List Int) : (List.replicate (j + 1) (0 : Int) ++ t).set j x = List.replicate j 0 ++ (x :: t) := by
  rw [List.replicate_succ', List.append_assoc, List.set_append_right _ _ (by simp), List.length_replicate, Nat.sub_self]; rfl
end Go.Proofs.YtedciihjgbkjgabGreatDoor.A


/- WITNESSES: the two programs. Conditions: none. -/
namespace Go.Proofs.YtedciihjgbkjgabGreatDoor.A
open Go
set_option linter.unusedSimpArgs false
set_option linter.unusedVariables false
set_option maxRecDepth 100000

theorem wits_take {d : Db} {q : Qu} {k : Nat} (h : k < (embs d q).length) : (wits d q).take (k + 1) = (wits d q).take k ++ [sortI ((embs d q).getD k default).fs] := by
  unfold wits
  rw [take_snoc [] (by simpa using h)]
  simp [List.getD_eq_getElem?_getD, h]
theorem wits_length (d : Db) (q : Qu) : (wits d q).length = (embs d q).length := by simp [wits]
/-- The embeddings of which the first k were sorted and moved away. -/
def gE (k : Nat) (l : List Emb) : Rows := (l.take k).map (fun e => [Cell.sl 999 (iv e.vs), .gone]) ++ ems 999 (l.drop k)
theorem gE_zero (l : List Emb) : gE 0 l = ems 999 l := by simp [gE]
theorem gE_length {k : Nat} {l : List Emb} (h : k ≤ l.length) : (gE k l).length = l.length := by simp [gE, ems_length]; omega
theorem gE_stm (k : Nat) (l : List Emb) : stm 999 (gE k l) = gE k l := by
  unfold gE
  rw [stm_append, ems_stm 999 998]
  congr 1
  unfold stm
  rw [List.map_map]
  exact List.map_congr_left fun _ _ => rfl
theorem gE_get {k : Nat} {l : List Emb} (h : k < l.length) : (gE k l).getD k [] = [.sl 999 (iv (l.getD k default).vs), .sl 999 (iv (l.getD k default).fs)] := by
  unfold gE
  rw [List.getD_eq_getElem?_getD, List.getElem?_append_right (by simp; omega)]
  simp only [List.length_map, List.length_take, Nat.min_eq_left (Nat.le_of_lt h), Nat.sub_self]
  rw [← List.getD_eq_getElem?_getD, ems_get (by simp; omega)]
  simp [List.getD_eq_getElem?_getD]
theorem gE_move {k : Nat} {l : List Emb} (h : k < l.length) (x : List Int) : Rows.setCell (Rows.setCell (gE k l) k 1 (.sl 999 (iv x))) k 1 .gone = gE (k + 1) l := by
  have h1 : Rows.setCell (gE k l) k 1 (.sl 999 (iv x)) = (gE k l).set k [.sl 999 (iv (l.getD k default).vs), .sl 999 (iv x)] := by unfold Rows.setCell; rw [gE_get h]; rfl
  have hl := gE_length (Nat.le_of_lt h)
  rw [h1]
  unfold Rows.setCell
  rw [getD_set_same (by omega), List.set_set]
  unfold gE
  have hk : ((l.take k).map fun e => [Cell.sl 999 (iv e.vs), Cell.gone]).length = k := by rw [List.length_map, List.length_take]; omega
  rw [List.set_append_right _ _ (by omega), hk, Nat.sub_self, drop_cons default h, take_snoc default h, List.map_append, List.append_assoc]
  rfl
theorem gE_set {k : Nat} {l : List Emb} (h : k < l.length) (x : List Int) : (Rows.setCell (gE k l) k 1 (.sl 999 (iv x))).getD k [] = [.sl 999 (iv (l.getD k default).vs), .sl 999 (iv x)] := by
  have h1 : Rows.setCell (gE k l) k 1 (.sl 999 (iv x)) = (gE k l).set k [.sl 999 (iv (l.getD k default).vs), .sl 999 (iv x)] := by unfold Rows.setCell; rw [gE_get h]; rfl
  rw [h1, getD_set_same (by rw [gE_length (Nat.le_of_lt h)]; omega)]
end Go.Proofs.YtedciihjgbkjgabGreatDoor.A


/- CLOSURES: the two programs. Conditions: none. -/
namespace Go.Proofs.YtedciihjgbkjgabGreatDoor.A
open Go
set_option linter.unusedSimpArgs false
set_option linter.unusedVariables false
set_option maxRecDepth 100000

/-! #### a predicate of numbers, asked of all numbers of a list -/
theorem intsIndex_sat (f : FuncId) (c : List Fld) (p : Int → Bool) (l : List Int) (h : l.length ≤ 9223372036854775807) (hf : ∀ x, Sat Tryz.prog f [lInt x, .one (.ip c)] [lBool (!p x)] [g1, g1]) :
    Sat Tryz.prog 166 [lInts l, .one (.fn f [c])] [lInt (firstNo (fun i => p (l.getD i 0)) l.length 0)] [g1, g1] := by
  refine sat_of_body mixed Tryz.func166 rfl (by kernel_rfl) (by kernel_rfl) (rs := [.tmp 4]) rfl rfl rfl ?_
  generalize hp : (fun i => p (l.getD i 0)) = p'
  have hp' : ∀ i, p' i = p (l.getD i 0) := fun i => by rw [← hp]
  simp -implicitDefEqProofs (maxSteps := 2000000) only [go_sem]
  refine awp_loop Nat (fun k => mkSt [(0, .one (.im 1 (ints l))), (1, .one (.fni f [c])), (7, .sc (.int .i64 l.length)), (8, .sc (.int .i64 k))] [] [] 1000)
    (fun k => k ≤ l.length ∧ firstNo p' (l.length - k) k = firstNo p' l.length 0) (fun k => l.length - k) 0 ⟨by omega, rfl⟩ (le_st _ _ [] [] _ rfl (by simp -implicitDefEqProofs (maxSteps := 2000000) only [go_sem] <;> rfl) trivial trivial) ?_
  rintro k ⟨h1, h2⟩
  by_cases c1 : k < l.length
  · rw [show l.length - k = (l.length - (k + 1)) + 1 by omega, firstNo, hp'] at h2
    rcases d : p (l.getD k 0)
    · rw [if_neg (by rw [d]; simp)] at h2
      simp -implicitDefEqProofs (maxSteps := 2000000) only [go_sem, c1]
      refine call_of (hf (l.getD k 0)) (by simp -implicitDefEqProofs (maxSteps := 2000000) only [go_sem, d, c1]) (by kernel_rfl) (by simp -implicitDefEqProofs (maxSteps := 2000000) only [go_sem, d, c1]) ?_
      simp -implicitDefEqProofs (maxSteps := 2000000) only [go_sem, d, c1]
      rw [← h2]
    · rw [if_pos d] at h2
      simp -implicitDefEqProofs (maxSteps := 2000000) only [go_sem, c1]
      refine call_of (hf (l.getD k 0)) (by simp -implicitDefEqProofs (maxSteps := 2000000) only [go_sem, d, c1]) (by kernel_rfl) (by simp -implicitDefEqProofs (maxSteps := 2000000) only [go_sem, d, c1]) ?_
      simp -implicitDefEqProofs (maxSteps := 2000000) only [go_sem, d, c1]
      rw [i64_succ (by omega)]
      exact ⟨k + 1, ⟨c1, h2⟩, by omega, (le_st _ _ [] [] _ rfl (by simp -implicitDefEqProofs (maxSteps := 2000000) only [go_sem] <;> rfl) trivial trivial)⟩
  · obtain rfl : k = l.length := by omega
    rw [Nat.sub_self, firstNo] at h2
    simp -implicitDefEqProofs (maxSteps := 2000000) only [go_sem, c1]
    rw [← h2]
theorem intsContains_sat (f : FuncId) (c : List Fld) (p : Int → Bool) (l : List Int) (h : l.length ≤ 9223372036854775807) (hf : ∀ x, Sat Tryz.prog f [lInt x, .one (.ip c)] [lBool (!p x)] [g1, g1]) :
    Sat Tryz.prog 142 [lInts l, .one (.fn f [c])] [lBool (!upTo (fun i => p (l.getD i 0)) l.length)] [g1, g1] := by
  refine sat_of_body mixed Tryz.func142 rfl (by kernel_rfl) (by kernel_rfl) (rs := [.tmp 4]) rfl rfl rfl ?_
  simp -implicitDefEqProofs (maxSteps := 2000000) only [go_sem]
  refine call_of (intsIndex_sat f c p l h hf) (by simp -implicitDefEqProofs (maxSteps := 2000000) only [go_sem]) (by kernel_rfl) (by simp -implicitDefEqProofs (maxSteps := 2000000) only [go_sem]) ?_
  simp -implicitDefEqProofs (maxSteps := 2000000) only [go_sem]
  rw [firstNo_ge _ _ _ rfl, Nat.zero_add]
theorem both_uni {c v : List Int} (h : Small c) : selN (fun x => decide (x ∈ c) || decide (x ∈ varsOf v)) 4 = uni c (varsOf v) := by
  refine strict_eq (selN_strict _ _) (uni_strict _ _) fun x => ?_
  rw [selN_mem, uni_mem]
  simp only [Bool.or_eq_true, decide_eq_true_eq]
  refine ⟨fun h => h.2.2, fun k => ⟨?_, ?_, k⟩⟩
  · exact k.elim (fun k => (h.small x k).1) (fun k => (varsOf_small v x k).1)
  · exact k.elim (fun k => (h.small x k).2) (fun k => (varsOf_small v x k).2)

/-! #### the closure -/
def closS (l : List Rel) (ats : List RI) (skip : Int) (k : Nat) (c : List Int) (same : Bool) (L : List Int) : St := match same with
  | true => mkSt [(0, .one (.im 3 (rels l))), (1, .one (.im 2 (ris 0 ats))), (2, .sc (.int .i64 skip)), (9, .one (.ref 960 1 0 c.length)), (10, .one (.ref 960 1 0 c.length)), (16, .one (.im 2 (ris 0 ats))), (17, .sc (.int .i64 ats.length)), (18, .sc (.int .i64 k))] [] [(960, (1, ints c))] 8000
  | false => mkSt [(0, .one (.im 3 (rels l))), (1, .one (.im 2 (ris 0 ats))), (2, .sc (.int .i64 skip)), (9, .one (.ref 960 1 0 c.length)), (10, .one (.ref 961 1 0 L.length)), (16, .one (.im 2 (ris 0 ats))), (17, .sc (.int .i64 ats.length)), (18, .sc (.int .i64 k))] [] [(960, (1, ints c)), (961, (1, ints L))] 8000
/-- What a closure comes to. -/
def clos (l : List Rel) (ats : List RI) (skip : Int) (c : List Int) : List Int := iter l ats skip ats.length c ats.length
end Go.Proofs.YtedciihjgbkjgabGreatDoor.A


/- REPAIRS THAT A QUERY HOLDS IN: how many, the first; the program's walk. Conditions: none. -/
namespace Go.Proofs.YtedciihjgbkjgabGreatDoor.A
open Go
set_option linter.unusedSimpArgs false
set_option linter.unusedVariables false
set_option maxRecDepth 100000

/-- Is some list within another. -/
def metU (ws : List (List Int)) (r : List Int) (i : Nat) : Bool := !subs (ws.getD i []) r
def met (ws : List (List Int)) (r : List Int) : Bool := !upTo (metU ws r) ws.length
/-- The repair of this rank. -/
def repD (d : Db) (k : Nat) : List Int := (pickR (blocksOf d) k).1
def holdP (d : Db) (q : Qu) (want : Bool) (k : Nat) : Bool := met (wits d q) (repD d k) == want
/-- How many of the first ones, and the first of them. -/
def cntP (P : Nat → Bool) : Nat → Nat
  | 0 => 0
  | k + 1 => if P k then cntP P k + 1 else cntP P k
def fstP (P : Nat → Bool) (f : Nat → List Int) : Nat → List Int
  | 0 => []
  | k + 1 => if P k && decide (cntP P k = 0) then f k else fstP P f k
theorem cntP_le (P : Nat → Bool) : ∀ k, cntP P k ≤ k
  | 0 => Nat.le_refl _
  | k + 1 => by
    have := cntP_le P k
    rw [cntP]; split <;> omega
theorem cntP_no {P : Nat → Bool} {k : Nat} (h : P k = false) : cntP P (k + 1) = cntP P k := by rw [cntP, h]; rfl
theorem cntP_yes {P : Nat → Bool} {k : Nat} (h : P k = true) : cntP P (k + 1) = cntP P k + 1 := by rw [cntP, h]; rfl
theorem fstP_no {P : Nat → Bool} {f : Nat → List Int} {k : Nat} (h : P k = false) : fstP P f (k + 1) = fstP P f k := by rw [fstP, h]; rfl
theorem fstP_new {P : Nat → Bool} {f : Nat → List Int} {k : Nat} (h : P k = true) (h0 : cntP P k = 0) : fstP P f (k + 1) = f k := by rw [fstP, h, h0]; rfl
theorem fstP_old {P : Nat → Bool} {f : Nat → List Int} {k : Nat} (h0 : ¬ cntP P k = 0) : fstP P f (k + 1) = fstP P f k := by rw [fstP, decide_eq_false h0, Bool.and_false]; rfl
theorem cntP_mono {P : Nat → Bool} {k : Nat} : ∀ {n : Nat}, k ≤ n → cntP P k ≤ cntP P n
  | 0, h => by rw [show k = 0 by omega]; exact Nat.le_refl _
  | n + 1, h => by
    rcases Nat.lt_or_ge k (n + 1) with h1 | h1
    · have h2 := cntP_mono (P := P) (show k ≤ n by omega)
      rw [cntP]; split <;> omega
    · rw [show k = n + 1 by omega]; exact Nat.le_refl _
/-- The first one is found. -/
theorem fstP_at {P : Nat → Bool} {f : Nat → List Int} {k : Nat} (h : P k = true) (h0 : cntP P k = 0) : ∀ {n : Nat}, k < n → fstP P f n = f k ∧ 0 < cntP P n
  | 0, h => by omega
  | n + 1, hn => by
    by_cases e : k = n
    · subst e
      exact ⟨fstP_new h h0, by rw [cntP_yes h]; omega⟩
    · obtain ⟨h1, h2⟩ := fstP_at (f := f) h h0 (show k < n by omega)
      refine ⟨?_, Nat.lt_of_lt_of_le h2 (cntP_mono (by omega))⟩
      rw [fstP_old (by omega), h1]
def hldC (d : Db) (q : Qu) (want : Bool) : Nat := if queryFor d q then cntP (holdP d q want) (prodL (blocksOf d)) else 0
def hldF (d : Db) (q : Qu) (want : Bool) : List Int := if queryFor d q then fstP (holdP d q want) (repD d) (prodL (blocksOf d)) else []
theorem repD_len (d : Db) (k : Nat) : (repD d k).length = (blocksOf d).length := pickR_len _ _
theorem fstP_len {P : Nat → Bool} {f : Nat → List Int} {m : Nat} (h : ∀ k, (f k).length ≤ m) : ∀ n, (fstP P f n).length ≤ m
  | 0 => by simp [fstP]
  | n + 1 => by rw [fstP]; split <;> first | exact h n | exact fstP_len h n

/-! #### the program -/
end Go.Proofs.YtedciihjgbkjgabGreatDoor.A


/- KEY CONFLICTS. Conditions: none. -/
namespace Go.Proofs.YtedciihjgbkjgabGreatDoor.A
open Go
set_option linter.unusedSimpArgs false
set_option linter.unusedVariables false
set_option maxRecDepth 100000

def keyE (d : Db) (i k : Nat) : Bool := sameK d.rels (d.facts.getD i default) (d.facts.getD k default)
def keysOf (d : Db) : List Edge := if goodDb d then allE (keyE d) d.facts.length d.facts.length else []
theorem keysOf_len (d : Db) : (keysOf d).length ≤ 196 := by
  unfold keysOf
  split
  · rename_i g
    have h := allE_len (keyE d) d.facts.length d.facts.length
    have h2 := (db_of g).2.1
    have h3 : d.facts.length * d.facts.length ≤ 14 * 14 := Nat.mul_le_mul h2 h2
    omega
  · simp
end Go.Proofs.YtedciihjgbkjgabGreatDoor.A


/- CONFLICT EDGES: size, copy, comparison, marks; marks of databases. Conditions: none. -/
namespace Go.Proofs.YtedciihjgbkjgabGreatDoor.A
open Go
set_option linter.unusedSimpArgs false
set_option linter.unusedVariables false
set_option maxRecDepth 100000

def szEds (a : List Edge) (n : Int) : Int := if n - a.length < 0 then -1 else n - a.length
theorem szEds_ok : SzOk szEds (fun a => a.length ≤ 1048576) := by
  intro a n h
  unfold szEds
  split
  · exact ⟨by omega, fun h => absurd (by omega) h⟩
  · exact ⟨by omega, fun h => by omega⟩
def cntE : Int → Nat → List Edge
  | _, 0 => []
  | k, n + 1 => ⟨k, k + 1⟩ :: cntE (k + 2) n
theorem cntE_length : ∀ (k : Int) (n : Nat), (cntE k n).length = n
  | _, 0 => rfl
  | k, n + 1 => by rw [cntE, List.length_cons, cntE_length]
theorem cntE_get : ∀ {k : Int} {n i : Nat}, i < n → (cntE k n).getD i default = ⟨k + ((2 * i : Nat) : Int), k + ((2 * i : Nat) : Int) + 1⟩
  | k, n + 1, 0, _ => by simp [cntE]
  | k, n + 1, i + 1, h => by
    rw [cntE, List.getD_cons_succ, cntE_get (by omega), show k + 2 + ((2 * i : Nat) : Int) = k + ((2 * (i + 1) : Nat) : Int) by omega]
theorem cntE_full (k : Int) (n : Nat) : List.take n (cntE k n) = cntE k n := List.take_of_length_le (by rw [cntE_length]; omega)
attribute [go_sem] cntE_full
def numDb (d : Db) : Nat := 3 * d.rels.length + numRI d.facts
theorem numDb_ok {d : Db} (h : d.ok) : numDb d ≤ 1048577 * 1048577 + 3 * 1048576 := by
  have h1 := numRI_ok h.2.2
  have h2 := h.1.1
  have h3 := h.2.1
  unfold numDb
  have : d.facts.length * 1048577 ≤ 1048576 * 1048577 := Nat.mul_le_mul_right _ h3
  omega
end Go.Proofs.YtedciihjgbkjgabGreatDoor.A


/- CONFLICT GRAPHS: valid edges, independent sets. Conditions: none. -/
namespace Go.Proofs.YtedciihjgbkjgabGreatDoor.A
open Go
set_option linter.unusedSimpArgs false
set_option linter.unusedVariables false
set_option maxRecDepth 100000

/-- Does the i-th edge stand behind the one before it. -/
def lexAt (l : List Edge) (i : Nat) : Bool := decide (i = 0) || !(decide ((l.getD i default).a < (l.getD (i - 1) default).a) || (((l.getD i default).a == (l.getD (i - 1) default).a) && decide ((l.getD i default).b ≤ (l.getD (i - 1) default).b)))
def edAt (n : Int) (l : List Edge) (i : Nat) : Bool := inB (l.getD i default).a 0 ((l.getD i default).b - 1) && (inB (l.getD i default).b 0 (n - 1) && lexAt l i)
def edRaw (n : Int) (l : List Edge) (i : Nat) : Bool := inB (l.getD i default).a 0 (IntKind.i64.wrap ((l.getD i default).b - 1)) && (inB (l.getD i default).b 0 (IntKind.i64.wrap (n - 1)) && lexAt l i)
def goodEds (n : Int) (l : List Edge) : Bool := inB n 0 14 && upTo (edAt n l) l.length
theorem edRaw_eq {n : Int} (hn : inB n 0 14 = true) (l : List Edge) (i : Nat) : edRaw n l i = edAt n l i := by
  obtain ⟨h1, h2⟩ := inB_of hn
  unfold edRaw edAt
  rw [IntWalk.i64_in (n - 1) (by omega)]
  rcases d : inB (l.getD i default).b 0 (n - 1)
  · simp
  · obtain ⟨h3, h4⟩ := inB_of d
    rw [IntWalk.i64_in _ (by omega)]
theorem upTo_same {p p' : Nat → Bool} : ∀ {n : Nat}, (∀ k, k < n → p k = p' k) → upTo p n = upTo p' n
  | 0, _ => rfl
  | n + 1, h => by rw [upTo, upTo, upTo_same fun k hk => h k (by omega), h n (by omega)]
theorem goodEds_raw (n : Int) (l : List Edge) : goodEds n l = (upTo (edRaw n l) l.length && inB n 0 14) := by
  unfold goodEds
  rcases d : inB n 0 14
  · rw [Bool.and_false]; rfl
  · rw [upTo_same fun k _ => edRaw_eq d l k, Bool.and_true]; rfl
set_option maxHeartbeats 8000000 in
theorem implAreValidEdges_sat (n : Int) (l : List Edge) (h : l.length ≤ 9223372036854775807) : Sat Tryz.prog 82 [lInt n, lEds l] [lBool (goodEds n l)] [g1, g1] := by
  refine sat_of_body mixed Tryz.func82 rfl (by kernel_rfl) (by kernel_rfl) (rs := [.tmp 4]) rfl rfl rfl ?_
  simp -implicitDefEqProofs (maxSteps := 2000000) only [go_sem]
  rcases d0 : inB n 0 14
  · rw [show goodEds n l = false by rw [goodEds, d0]; rfl]
    refine call_of (inW_sat n 0 14) (by simp -implicitDefEqProofs (maxSteps := 2000000) only [go_sem, d0]) (by kernel_rfl) (by simp -implicitDefEqProofs (maxSteps := 2000000) only [go_sem, d0]) ?_
    simp -implicitDefEqProofs (maxSteps := 2000000) only [go_sem, d0]
    first | done | rfl | exact ⟨rfl, rfl⟩ | exact ⟨rfl, rfl, rfl⟩ | (refine tr_and ?_ ?_ <;> first | rfl | exact ⟨rfl, rfl⟩ | kernel_rfl)
  refine call_of (inW_sat n 0 14) (by simp -implicitDefEqProofs (maxSteps := 2000000) only [go_sem, d0]) (by kernel_rfl) (by simp -implicitDefEqProofs (maxSteps := 2000000) only [go_sem, d0]) ?_
  simp -implicitDefEqProofs (maxSteps := 2000000) only [go_sem, d0]
  have ge : goodEds n l = upTo (edAt n l) l.length := by rw [goodEds, d0]; rfl
  have bad : ∀ k, k < l.length → edAt n l k = false → goodEds n l = false := fun k hk e => by rw [ge, upTo_false hk e]
  refine awp_loop Nat (fun k => mkSt [(0, .sc (.int .i64 n)), (1, .one (.im 2 (eds l))), (10, .one (.im 2 (eds l))), (11, .sc (.int .i64 l.length)), (12, .sc (.int .i64 k))] [] [] 2000)
    (fun k => k ≤ l.length ∧ upTo (edAt n l) k = true) (fun k => l.length - k) 0 ⟨by omega, rfl⟩ (le_st _ _ [] [] _ rfl (by simp -implicitDefEqProofs (maxSteps := 2000000) only [go_sem] <;> rfl) trivial trivial) ?_
  rintro k ⟨h1, h2⟩
  by_cases c1 : k < l.length
  · rcases d1 : decide ((l.getD k default).a < 0)
    case true =>
      rw [bad k c1 (by rw [edAt, inB, decide_eq_false (by have := of_decide_eq_true d1; omega)]; rfl)]
      simp -implicitDefEqProofs (maxSteps := 2000000) only [go_sem, c1, d1]
      first | (with_reducible refine tr_and ?_ ?_; focus kernel_rfl) | (with_reducible refine tr_only ?_; kernel_rfl) | skip
      first | done | rfl | exact ⟨rfl, rfl⟩ | exact ⟨rfl, rfl, rfl⟩ | (refine tr_and ?_ ?_ <;> first | rfl | exact ⟨rfl, rfl⟩ | kernel_rfl)
    rcases d2 : decide ((l.getD k default).a ≥ (l.getD k default).b)
    case true =>
      rw [bad k c1 (by rw [edAt, inB, decide_eq_false (show ¬ (l.getD k default).a ≤ (l.getD k default).b - 1 by have := of_decide_eq_true d2; omega), Bool.and_false]; rfl)]
      simp -implicitDefEqProofs (maxSteps := 2000000) only [go_sem, c1, d1, d2]
      first | (with_reducible refine tr_and ?_ ?_; focus kernel_rfl) | (with_reducible refine tr_only ?_; kernel_rfl) | skip
      first | done | rfl | exact ⟨rfl, rfl⟩ | exact ⟨rfl, rfl, rfl⟩ | (refine tr_and ?_ ?_ <;> first | rfl | exact ⟨rfl, rfl⟩ | kernel_rfl)
    rcases d3 : decide ((l.getD k default).b ≥ n)
    case true =>
      rw [bad k c1 (by rw [edAt, inB, inB, decide_eq_false (show ¬ (l.getD k default).b ≤ n - 1 by have := of_decide_eq_true d3; omega)]; simp)]
      simp -implicitDefEqProofs (maxSteps := 2000000) only [go_sem, c1, d1, d2, d3]
      first | (with_reducible refine tr_and ?_ ?_; focus kernel_rfl) | (with_reducible refine tr_only ?_; kernel_rfl) | skip
      first | done | rfl | exact ⟨rfl, rfl⟩ | exact ⟨rfl, rfl, rfl⟩ | (refine tr_and ?_ ?_ <;> first | rfl | exact ⟨rfl, rfl⟩ | kernel_rfl)
    have hin : inB (l.getD k default).a 0 ((l.getD k default).b - 1) = true ∧ inB (l.getD k default).b 0 (n - 1) = true := by
      have e1 := of_decide_eq_false d1
      have e2 := of_decide_eq_false d2
      have e3 := of_decide_eq_false d3
      unfold inB
      simp only [Bool.and_eq_true, decide_eq_true_eq]
      omega
    rcases k with _ | j
    · have e : edAt n l 0 = true := by rw [edAt, hin.1, hin.2]; rfl
      have c0 : (0 : Int) < l.length := by omega
      simp -implicitDefEqProofs (maxSteps := 2000000) only [go_sem, c1, c0, d1, d2, d3]
      first | (with_reducible refine tr_and ?_ ?_; focus kernel_rfl) | (with_reducible refine tr_only ?_; kernel_rfl) | skip
      exact ⟨1, ⟨c1, upTo_step h2 e⟩, by omega, (le_st _ _ [] [] _ rfl (by simp -implicitDefEqProofs (maxSteps := 2000000) only [go_sem] <;> rfl) trivial trivial)⟩
    · have c2 : j < l.length := by omega
      have c3 : 0 < ((j + 1 : Nat) : Int) := by omega
      have w1 := i64_pred (j := j) (by omega)
      have sym : ((l.getD (j + 1) default).a == (l.getD j default).a) = ((l.getD j default).a == (l.getD (j + 1) default).a) := by rw [Bool.eq_iff_iff, beq_iff_eq, beq_iff_eq]; exact ⟨Eq.symm, Eq.symm⟩
      rcases d4 : decide ((l.getD j default).a > (l.getD (j + 1) default).a)
      case true =>
        rw [bad (j + 1) c1 (by rw [edAt, hin.1, hin.2, lexAt, Nat.add_sub_cancel, show decide ((l.getD (j + 1) default).a < (l.getD j default).a) = true from d4]; rfl)]
        simp -implicitDefEqProofs (maxSteps := 2000000) only [go_sem, c1, c2, c3, w1, d1, d2, d3, d4]
        first | (with_reducible refine tr_and ?_ ?_; focus kernel_rfl) | (with_reducible refine tr_only ?_; kernel_rfl) | skip
        first | done | rfl | exact ⟨rfl, rfl⟩ | exact ⟨rfl, rfl, rfl⟩ | (refine tr_and ?_ ?_ <;> first | rfl | exact ⟨rfl, rfl⟩ | kernel_rfl)
      rcases d5 : (l.getD j default).a == (l.getD (j + 1) default).a
      · have e : edAt n l (j + 1) = true := by rw [edAt, hin.1, hin.2, lexAt, Nat.add_sub_cancel, show decide ((l.getD (j + 1) default).a < (l.getD j default).a) = false from d4, sym, d5]; rfl
        simp -implicitDefEqProofs (maxSteps := 2000000) only [go_sem, c1, c2, c3, w1, d1, d2, d3, d4, d5]
        first | (with_reducible refine tr_and ?_ ?_; focus kernel_rfl) | (with_reducible refine tr_only ?_; kernel_rfl) | skip
        rw [i64_succ (by omega)]
        exact ⟨j + 1 + 1, ⟨c1, upTo_step h2 e⟩, by omega, (le_st _ _ [] [] _ rfl (by simp -implicitDefEqProofs (maxSteps := 2000000) only [go_sem] <;> rfl) trivial trivial)⟩
      rcases d6 : decide ((l.getD j default).b ≥ (l.getD (j + 1) default).b)
      · have e : edAt n l (j + 1) = true := by rw [edAt, hin.1, hin.2, lexAt, Nat.add_sub_cancel, show decide ((l.getD (j + 1) default).a < (l.getD j default).a) = false from d4, sym, d5, show decide ((l.getD (j + 1) default).b ≤ (l.getD j default).b) = false from d6]; rfl
        simp -implicitDefEqProofs (maxSteps := 2000000) only [go_sem, c1, c2, c3, w1, d1, d2, d3, d4, d5, d6]
        first | (with_reducible refine tr_and ?_ ?_; focus kernel_rfl) | (with_reducible refine tr_only ?_; kernel_rfl) | skip
        rw [i64_succ (by omega)]
        exact ⟨j + 1 + 1, ⟨c1, upTo_step h2 e⟩, by omega, (le_st _ _ [] [] _ rfl (by simp -implicitDefEqProofs (maxSteps := 2000000) only [go_sem] <;> rfl) trivial trivial)⟩
      · rw [bad (j + 1) c1 (by rw [edAt, hin.1, hin.2, lexAt, Nat.add_sub_cancel, show decide ((l.getD (j + 1) default).a < (l.getD j default).a) = false from d4, sym, d5, show decide ((l.getD (j + 1) default).b ≤ (l.getD j default).b) = true from d6]; rfl)]
        simp -implicitDefEqProofs (maxSteps := 2000000) only [go_sem, c1, c2, c3, w1, d1, d2, d3, d4, d5, d6]
        first | (with_reducible refine tr_and ?_ ?_; focus kernel_rfl) | (with_reducible refine tr_only ?_; kernel_rfl) | skip
        first | done | rfl | exact ⟨rfl, rfl⟩ | exact ⟨rfl, rfl, rfl⟩ | (refine tr_and ?_ ?_ <;> first | rfl | exact ⟨rfl, rfl⟩ | kernel_rfl)
  · obtain rfl : k = l.length := by omega
    rw [ge, h2]
    simp -implicitDefEqProofs (maxSteps := 2000000) only [go_sem, c1]

/-! #### independent sets -/
def edNo (s : List Int) (l : List Edge) (k : Nat) : Bool := !(decide ((l.getD k default).a ∈ s) && decide ((l.getD k default).b ∈ s))
def indep (l : List Edge) (s : List Int) : Bool := upTo (edNo s l) l.length
theorem isIndependent1_sat (s : List Int) (x : Edge) (hs : s.length ≤ 9223372036854775807) : Sat Tryz.prog 86 [.agg [.sc (.int .i64 x.a), .sc (.int .i64 x.b)], .one (.ip [.im 1 (ints s)])] [lBool (decide (x.a ∈ s) && decide (x.b ∈ s))] [g2, g1] := by
  refine sat_of_body mixed Tryz.func86 rfl (by kernel_rfl) (by kernel_rfl) (rs := [.tmp 3]) rfl rfl rfl ?_
  rcases x with ⟨a, b⟩
  simp -implicitDefEqProofs (maxSteps := 2000000) only [go_sem]
  rcases d1 : decide (a ∈ s)
  · refine call_of (slicesContains_sat s a hs) (by simp -implicitDefEqProofs (maxSteps := 2000000) only [go_sem, d1]) (by kernel_rfl) (by simp -implicitDefEqProofs (maxSteps := 2000000) only [go_sem, d1]) ?_
    simp -implicitDefEqProofs (maxSteps := 2000000) only [go_sem, d1]
    first | done | rfl | exact ⟨rfl, rfl⟩ | exact ⟨rfl, rfl, rfl⟩ | (refine tr_and ?_ ?_ <;> first | rfl | exact ⟨rfl, rfl⟩ | kernel_rfl)
  · refine call_of (slicesContains_sat s a hs) (by simp -implicitDefEqProofs (maxSteps := 2000000) only [go_sem, d1]) (by kernel_rfl) (by simp -implicitDefEqProofs (maxSteps := 2000000) only [go_sem, d1]) ?_
    simp -implicitDefEqProofs (maxSteps := 2000000) only [go_sem, d1]
    refine call_of (slicesContains_sat s b hs) (by simp -implicitDefEqProofs (maxSteps := 2000000) only [go_sem]) (by kernel_rfl) (by simp -implicitDefEqProofs (maxSteps := 2000000) only [go_sem]) ?_
    simp -implicitDefEqProofs (maxSteps := 2000000) only [go_sem]
    first | done | rfl | exact ⟨rfl, rfl⟩ | exact ⟨rfl, rfl, rfl⟩ | (refine tr_and ?_ ?_ <;> first | rfl | exact ⟨rfl, rfl⟩ | kernel_rfl)
theorem edsIndex_sat (l : List Edge) (s : List Int) (h : l.length ≤ 9223372036854775807) (hs : s.length ≤ 9223372036854775807) : Sat Tryz.prog 113 [lEds l, .one (.fn 86 [[.im 1 (ints s)]])] [lInt (firstNo (edNo s l) l.length 0)] [g1, g1] := by
  refine sat_of_body mixed Tryz.func113 rfl (by kernel_rfl) (by kernel_rfl) (rs := [.tmp 4]) rfl rfl rfl ?_
  simp -implicitDefEqProofs (maxSteps := 2000000) only [go_sem]
  refine awp_loop Nat (fun k => mkSt [(0, .one (.im 2 (eds l))), (1, .one (.fni 86 [[.im 1 (ints s)]])), (7, .sc (.int .i64 l.length)), (8, .sc (.int .i64 k))] [] [] 1000)
    (fun k => k ≤ l.length ∧ firstNo (edNo s l) (l.length - k) k = firstNo (edNo s l) l.length 0) (fun k => l.length - k) 0 ⟨by omega, rfl⟩ (le_st _ _ [] [] _ rfl (by simp -implicitDefEqProofs (maxSteps := 2000000) only [go_sem] <;> rfl) trivial trivial) ?_
  rintro k ⟨h1, h2⟩
  by_cases c1 : k < l.length
  · rw [show l.length - k = (l.length - (k + 1)) + 1 by omega, firstNo] at h2
    rcases d : (decide ((l.getD k default).a ∈ s) && decide ((l.getD k default).b ∈ s))
    · rw [if_pos (by rw [edNo, d]; rfl)] at h2
      simp -implicitDefEqProofs (maxSteps := 2000000) only [go_sem, c1]
      refine call_of (isIndependent1_sat s (l.getD k default) hs) (by simp -implicitDefEqProofs (maxSteps := 2000000) only [go_sem, d, c1]) (by kernel_rfl) (by simp -implicitDefEqProofs (maxSteps := 2000000) only [go_sem, d, c1]) ?_
      simp -implicitDefEqProofs (maxSteps := 2000000) only [go_sem, d, c1]
      rw [i64_succ (by omega)]
      exact ⟨k + 1, ⟨c1, h2⟩, by omega, (le_st _ _ [] [] _ rfl (by simp -implicitDefEqProofs (maxSteps := 2000000) only [go_sem] <;> rfl) trivial trivial)⟩
    · rw [if_neg (by rw [edNo, d]; simp)] at h2
      simp -implicitDefEqProofs (maxSteps := 2000000) only [go_sem, c1]
      refine call_of (isIndependent1_sat s (l.getD k default) hs) (by simp -implicitDefEqProofs (maxSteps := 2000000) only [go_sem, d, c1]) (by kernel_rfl) (by simp -implicitDefEqProofs (maxSteps := 2000000) only [go_sem, d, c1]) ?_
      simp -implicitDefEqProofs (maxSteps := 2000000) only [go_sem, d, c1]
      rw [← h2]
  · obtain rfl : k = l.length := by omega
    rw [Nat.sub_self, firstNo] at h2
    simp -implicitDefEqProofs (maxSteps := 2000000) only [go_sem, c1]
    rw [← h2]
theorem edsContains_sat (l : List Edge) (s : List Int) (h : l.length ≤ 9223372036854775807) (hs : s.length ≤ 9223372036854775807) : Sat Tryz.prog 85 [lEds l, .one (.fn 86 [[.im 1 (ints s)]])] [lBool (!indep l s)] [g1, g1] := by
  refine sat_of_body mixed Tryz.func85 rfl (by kernel_rfl) (by kernel_rfl) (rs := [.tmp 4]) rfl rfl rfl ?_
  simp -implicitDefEqProofs (maxSteps := 2000000) only [go_sem]
  refine call_of (edsIndex_sat l s h hs) (by simp -implicitDefEqProofs (maxSteps := 2000000) only [go_sem]) (by kernel_rfl) (by simp -implicitDefEqProofs (maxSteps := 2000000) only [go_sem]) ?_
  simp -implicitDefEqProofs (maxSteps := 2000000) only [go_sem]
  rw [firstNo_ge _ _ _ rfl, Nat.zero_add]
  rfl
theorem implIsIndependent_sat (l : List Edge) (s : List Int) (h : l.length ≤ 9223372036854775807) (hs : s.length ≤ 9223372036854775807) : Sat Tryz.prog 45 [lEds l, lInts s] [lBool (indep l s)] [g1, g1] := by
  refine sat_of_body mixed Tryz.func45 rfl (by kernel_rfl) (by kernel_rfl) (rs := [.tmp 4]) rfl rfl rfl ?_
  simp -implicitDefEqProofs (maxSteps := 2000000) only [go_sem]
  refine call_of (edsContains_sat l s h hs) (by simp -implicitDefEqProofs (maxSteps := 2000000) only [go_sem]) (by kernel_rfl) (by simp -implicitDefEqProofs (maxSteps := 2000000) only [go_sem]) ?_
  simp -implicitDefEqProofs (maxSteps := 2000000) only [go_sem]
  rw [Bool.not_not]
end Go.Proofs.YtedciihjgbkjgabGreatDoor.A


/- CONFLICT GRAPHS: maximal independent sets. Conditions: none. -/
namespace Go.Proofs.YtedciihjgbkjgabGreatDoor.A
open Go
set_option linter.unusedSimpArgs false
set_option linter.unusedVariables false
set_option maxRecDepth 100000

/-- Is the i-th number an index, and behind the one before it. -/
def ixAt (l : List Int) (n : Int) (i : Nat) : Bool := inB (l.getD i 0) 0 (n - 1) && (decide (i = 0) || !decide (l.getD i 0 ≤ l.getD (i - 1) 0))
def ixs (l : List Int) (n : Int) : Bool := upTo (ixAt l n) l.length
theorem areIxs_sat (l : List Int) (n : Int) (h : l.length ≤ 9223372036854775807) (hn : -9223372036854775807 ≤ n ∧ n ≤ 9223372036854775807) : Sat Tryz.prog 83 [lInts l, lInt n] [lBool (ixs l n)] [g1, g1] := by
  refine sat_of_body mixed Tryz.func83 rfl (by kernel_rfl) (by kernel_rfl) (rs := [.tmp 4]) rfl rfl rfl ?_
  unfold ixs
  have w0 : IntKind.i64.wrap (n - 1) = n - 1 := IntWalk.i64_in _ (by omega)
  simp -implicitDefEqProofs (maxSteps := 2000000) only [go_sem]
  refine awp_loop Nat (fun k => mkSt [(0, .one (.im 1 (ints l))), (1, .sc (.int .i64 n)), (7, .one (.im 1 (ints l))), (8, .sc (.int .i64 l.length)), (9, .sc (.int .i64 k))] [] [] 1000)
    (fun k => k ≤ l.length ∧ upTo (ixAt l n) k = true) (fun k => l.length - k) 0 ⟨by omega, rfl⟩ (le_st _ _ [] [] _ rfl (by simp -implicitDefEqProofs (maxSteps := 2000000) only [go_sem] <;> rfl) trivial trivial) ?_
  rintro k ⟨h1, h2⟩
  by_cases c1 : k < l.length
  · rcases d1 : inB (l.getD k 0) 0 (n - 1)
    · rw [upTo_false c1 (by rw [ixAt, d1]; rfl)]
      simp -implicitDefEqProofs (maxSteps := 2000000) only [go_sem, c1, w0]
      refine call_of (inW_sat (l.getD k 0) 0 (n - 1)) (by simp -implicitDefEqProofs (maxSteps := 2000000) only [go_sem, d1, c1]) (by kernel_rfl) (by simp -implicitDefEqProofs (maxSteps := 2000000) only [go_sem, d1, c1]) ?_
      simp -implicitDefEqProofs (maxSteps := 2000000) only [go_sem, d1, c1]
    rcases k with _ | j
    · have e : ixAt l n 0 = true := by rw [ixAt, d1]; rfl
      have c0 : (0 : Int) < l.length := by omega
      simp -implicitDefEqProofs (maxSteps := 2000000) only [go_sem, c1, c0, w0]
      refine call_of (inW_sat (l.getD 0 0) 0 (n - 1)) (by simp -implicitDefEqProofs (maxSteps := 2000000) only [go_sem, d1, c1, c0]) (by kernel_rfl) (by simp -implicitDefEqProofs (maxSteps := 2000000) only [go_sem, d1, c1, c0]) ?_
      simp -implicitDefEqProofs (maxSteps := 2000000) only [go_sem, d1, c1, c0]
      exact ⟨1, ⟨c1, upTo_step h2 e⟩, by omega, (le_st _ _ [] [] _ rfl (by simp -implicitDefEqProofs (maxSteps := 2000000) only [go_sem] <;> rfl) trivial trivial)⟩
    · have c2 : j < l.length := by omega
      have c3 : 0 < ((j + 1 : Nat) : Int) := by omega
      have w1 := i64_pred (j := j) (by omega)
      rcases d2 : decide (l.getD (j + 1) 0 ≤ l.getD j 0)
      · have e : ixAt l n (j + 1) = true := by rw [ixAt, d1, Nat.add_sub_cancel, d2]; rfl
        simp -implicitDefEqProofs (maxSteps := 2000000) only [go_sem, c1, w0]
        refine call_of (inW_sat (l.getD (j + 1) 0) 0 (n - 1)) (by simp -implicitDefEqProofs (maxSteps := 2000000) only [go_sem, d1, d2, c1, c2, c3, w1]) (by kernel_rfl) (by simp -implicitDefEqProofs (maxSteps := 2000000) only [go_sem, d1, d2, c1, c2, c3, w1]) ?_
        simp -implicitDefEqProofs (maxSteps := 2000000) only [go_sem, d1, d2, c1, c2, c3, w1]
        rw [i64_succ (by omega)]
        exact ⟨j + 1 + 1, ⟨c1, upTo_step h2 e⟩, by omega, (le_st _ _ [] [] _ rfl (by simp -implicitDefEqProofs (maxSteps := 2000000) only [go_sem] <;> rfl) trivial trivial)⟩
      · rw [upTo_false c1 (show ixAt l n (j + 1) = false by rw [ixAt, d1, Nat.add_sub_cancel, d2]; rfl)]
        simp -implicitDefEqProofs (maxSteps := 2000000) only [go_sem, c1, w0]
        refine call_of (inW_sat (l.getD (j + 1) 0) 0 (n - 1)) (by simp -implicitDefEqProofs (maxSteps := 2000000) only [go_sem, d1, d2, c1, c2, c3, w1]) (by kernel_rfl) (by simp -implicitDefEqProofs (maxSteps := 2000000) only [go_sem, d1, d2, c1, c2, c3, w1]) ?_
        simp -implicitDefEqProofs (maxSteps := 2000000) only [go_sem, d1, d2, c1, c2, c3, w1]
  · obtain rfl : k = l.length := by omega
    simp -implicitDefEqProofs (maxSteps := 2000000) only [go_sem, c1]
    rw [h2]
/-- May a number join a set. -/
def fitsE (l : List Edge) (s : List Int) (x : Int) : Bool := !decide (x ∈ s) && indep l (s ++ [x])
def isMax (n : Int) (l : List Edge) (s : List Int) : Bool := goodEds n l && (ixs s n && (indep l s && upTo (fun x => !fitsE l s x) n.toNat))
theorem isIndependentSet_sat (n : Int) (l : List Edge) (s : List Int) (hl : l.length ≤ 9223372036854775807) (hs : s.length ≤ 9223372036854775807) : Sat Tryz.prog 42 [lInt n, lEds l, lInts s] [lBool (goodEds n l && (ixs s n && indep l s))] [g1, g1, g1] := by
  refine sat_of_body mixed Tryz.func42 rfl (by kernel_rfl) (by kernel_rfl) (rs := [.tmp 6]) rfl rfl rfl ?_
  simp -implicitDefEqProofs (maxSteps := 2000000) only [go_sem]
  rcases g : goodEds n l
  · refine call_of (implAreValidEdges_sat n l hl) (by simp -implicitDefEqProofs (maxSteps := 2000000) only [go_sem, g]) (by kernel_rfl) (by simp -implicitDefEqProofs (maxSteps := 2000000) only [go_sem, g]) ?_
    simp -implicitDefEqProofs (maxSteps := 2000000) only [go_sem, g]
    first | done | rfl | exact ⟨rfl, rfl⟩ | exact ⟨rfl, rfl, rfl⟩ | (refine tr_and ?_ ?_ <;> first | rfl | exact ⟨rfl, rfl⟩ | kernel_rfl)
  have hn : 0 ≤ n ∧ n ≤ 14 := by
    unfold goodEds at g
    rw [Bool.and_eq_true] at g
    exact inB_of g.1
  rcases d1 : ixs s n
  · refine call_of (implAreValidEdges_sat n l hl) (by simp -implicitDefEqProofs (maxSteps := 2000000) only [go_sem, g]) (by kernel_rfl) (by simp -implicitDefEqProofs (maxSteps := 2000000) only [go_sem, g]) ?_
    simp -implicitDefEqProofs (maxSteps := 2000000) only [go_sem, g]
    refine call_of (areIxs_sat s n (by omega) (by omega)) (by simp -implicitDefEqProofs (maxSteps := 2000000) only [go_sem, d1]) (by kernel_rfl) (by simp -implicitDefEqProofs (maxSteps := 2000000) only [go_sem, d1]) ?_
    simp -implicitDefEqProofs (maxSteps := 2000000) only [go_sem, d1]
    first | done | rfl | exact ⟨rfl, rfl⟩ | exact ⟨rfl, rfl, rfl⟩ | (refine tr_and ?_ ?_ <;> first | rfl | exact ⟨rfl, rfl⟩ | kernel_rfl)
  · refine call_of (implAreValidEdges_sat n l hl) (by simp -implicitDefEqProofs (maxSteps := 2000000) only [go_sem, g]) (by kernel_rfl) (by simp -implicitDefEqProofs (maxSteps := 2000000) only [go_sem, g]) ?_
    simp -implicitDefEqProofs (maxSteps := 2000000) only [go_sem, g]
    refine call_of (areIxs_sat s n (by omega) (by omega)) (by simp -implicitDefEqProofs (maxSteps := 2000000) only [go_sem, d1]) (by kernel_rfl) (by simp -implicitDefEqProofs (maxSteps := 2000000) only [go_sem, d1]) ?_
    simp -implicitDefEqProofs (maxSteps := 2000000) only [go_sem, d1]
    refine call_of (implIsIndependent_sat l s hl hs) (by simp -implicitDefEqProofs (maxSteps := 2000000) only [go_sem]) (by kernel_rfl) (by simp -implicitDefEqProofs (maxSteps := 2000000) only [go_sem]) ?_
    simp -implicitDefEqProofs (maxSteps := 2000000) only [go_sem]
    first | done | rfl | exact ⟨rfl, rfl⟩ | exact ⟨rfl, rfl, rfl⟩ | (refine tr_and ?_ ?_ <;> first | rfl | exact ⟨rfl, rfl⟩ | kernel_rfl)
theorem ixs_ge {s : List Int} {n : Int} (h : ixs s n = true) : ∀ i : Nat, i < s.length → (i : Int) ≤ s.getD i 0
  | 0, hi => by
    have h1 := upTo_at h hi
    unfold ixAt at h1
    rw [Bool.and_eq_true] at h1
    exact (inB_of h1.1).1
  | i + 1, hi => by
    have ih := ixs_ge h i (by omega)
    have h1 := upTo_at h hi
    unfold ixAt at h1
    rw [Bool.and_eq_true, Nat.add_sub_cancel, decide_eq_false (by omega : ¬ i + 1 = 0), Bool.false_or, Bool.not_eq_true', decide_eq_false_iff_not] at h1
    have := h1.2
    omega
theorem ixs_len {s : List Int} {n : Int} (h : ixs s n = true) (hn : 0 ≤ n) : (s.length : Int) ≤ n := by
  rcases e : s.length with _ | k
  · omega
  · have h1 := ixs_ge h k (by omega)
    have h2 := upTo_at h (show k < s.length by omega)
    unfold ixAt at h2
    rw [Bool.and_eq_true] at h2
    have := (inB_of h2.1).2
    omega
/-! #### a set is extended -/
def extN (l : List Edge) (s : List Int) : Nat → List Int
  | 0 => s
  | k + 1 => if fitsE l (extN l s k) k then extN l s k ++ [(k : Int)] else extN l s k
theorem extN_len (l : List Edge) (s : List Int) : ∀ k, (extN l s k).length ≤ s.length + k
  | 0 => by simp [extN]
  | k + 1 => by
    have := extN_len l s k
    unfold extN
    split
    · simp only [List.length_append, List.length_singleton]; omega
    · omega
def goodSet (n : Int) (l : List Edge) (s : List Int) : Bool := goodEds n l && (ixs s n && indep l s)
def extM (n : Int) (l : List Edge) (s : List Int) : List Int × Bool := if goodSet n l s then (sortI (extN l s n.toNat), true) else ([], false)
theorem extM_len (n : Int) (l : List Edge) (s : List Int) (hs : s.length ≤ 1048576) : (extM n l s).1.length ≤ 1048576 + 14 := by
  unfold extM
  split
  · rename_i g
    unfold goodSet at g
    rw [Bool.and_eq_true] at g
    have g := g.1
    unfold goodEds at g
    rw [Bool.and_eq_true] at g
    have := inB_of g.1
    have := extN_len l s n.toNat
    simp only [sortI_len]
    omega
  · simp
theorem implExtendToMaximal_sat (n : Int) (l : List Edge) (s : List Int) (hl : l.length ≤ 9223372036854775807) (hs : s.length ≤ 1048576) : Sat Tryz.prog 13 [lInt n, lEds l, lInts s] [oInts (extM n l s).1, lBool (extM n l s).2] [g1, g1, g1] := by
  refine sat_of_body mixed Tryz.func13 rfl (by kernel_rfl) (by kernel_rfl) (rs := [.tmp 6, .tmp 7]) rfl rfl rfl ?_
  unfold extM
  simp -implicitDefEqProofs (maxSteps := 2000000) only [go_sem]
  rcases g : goodSet n l s
  · rw [if_neg (by simp)]
    refine call_of (isIndependentSet_sat n l s hl (by omega)) (by simp -implicitDefEqProofs (maxSteps := 2000000) only [go_sem, show (goodEds n l && (ixs s n && indep l s)) = false from g]) (by kernel_rfl) (by simp -implicitDefEqProofs (maxSteps := 2000000) only [go_sem, show (goodEds n l && (ixs s n && indep l s)) = false from g]) ?_
    simp -implicitDefEqProofs (maxSteps := 2000000) only [go_sem, show (goodEds n l && (ixs s n && indep l s)) = false from g]
    first | done | rfl | exact ⟨rfl, rfl⟩ | exact ⟨rfl, rfl, rfl⟩ | (refine tr_and ?_ ?_ <;> first | rfl | exact ⟨rfl, rfl⟩ | kernel_rfl)
  have hn : 0 ≤ n ∧ n ≤ 14 := by
    unfold goodSet at g
    rw [Bool.and_eq_true] at g
    have g := g.1
    unfold goodEds at g
    rw [Bool.and_eq_true] at g
    exact inB_of g.1
  have hsl : (s.length : Int) ≤ n := by
    unfold goodSet at g
    rw [Bool.and_eq_true, Bool.and_eq_true] at g
    exact ixs_len g.2.1 hn.1
  rw [if_pos rfl]
  obtain ⟨m, rfl⟩ : ∃ m : Nat, n = m := ⟨n.toNat, by omega⟩
  rw [show ((m : Nat) : Int).toNat = m by omega]
  refine call_of (isIndependentSet_sat m l s hl (by omega)) (by simp -implicitDefEqProofs (maxSteps := 2000000) only [go_sem, show (goodEds m l && (ixs s m && indep l s)) = true from g]) (by kernel_rfl) (by simp -implicitDefEqProofs (maxSteps := 2000000) only [go_sem, show (goodEds m l && (ixs s m && indep l s)) = true from g]) ?_
  simp -implicitDefEqProofs (maxSteps := 2000000) only [go_sem, show (goodEds m l && (ixs s m && indep l s)) = true from g]
  repeat (refine ⟨by omega, ?_⟩)
  refine awp_loop Nat (fun k => mkSt [(0, .sc (.int .i64 m)), (1, .one (.im 2 (eds l))), (8, .one (.ref 960 1 0 (extN l s k).length)), (19, .sc (.int .i64 m)), (20, .sc (.int .i64 k))] [] [(960, (1, ints (extN l s k)))] 4000)
    (fun k => k ≤ m) (fun k => m - k) 0 (by omega) (le_st' _ _ [⟨960, some _, false, 1, _⟩] [] _ (by simp -implicitDefEqProofs (maxSteps := 2000000) only [go_sem, extN] <;> and_intros <;> rfl) (by simp -implicitDefEqProofs (maxSteps := 2000000) only [go_sem, extN] <;> and_intros <;> rfl) (by simp -implicitDefEqProofs (maxSteps := 2000000) only [go_sem, extN] <;> and_intros <;> rfl) (by rfl)) ?_
  rintro k h1
  have hlen := extN_len l s k
  by_cases c1 : k < m
  · have wk : IntKind.i64.wrap ((k : Int) + 1) = ((k + 1 : Nat) : Int) := i64_succ (by omega)
    have ho : (extN l s k ++ [(k : Int)]).length ≤ 9223372036854775807 := by simp; omega
    rcases d : decide ((k : Int) ∈ extN l s k)
    · rcases d2 : indep l (extN l s k ++ [(k : Int)])
      · have e : extN l s (k + 1) = extN l s k := by rw [extN, fitsE, d, d2]; rfl
        simp -implicitDefEqProofs (maxSteps := 2000000) only [go_sem, c1]
        refine call_of (slicesClone_sat (extN l s k) (by omega)) (by simp -implicitDefEqProofs (maxSteps := 2000000) only [go_sem]) (callOk_still (by kernel_rfl) (by simp only [List.all_cons, List.all_nil, LV.still, LV.leaves, Leaf.still, ints_still, ris_still, eds_still, rels_still, iss_still, ems_still, Bool.and_self, Bool.and_true])) (by simp -implicitDefEqProofs (maxSteps := 2000000) only [go_sem]) ?_
        simp -implicitDefEqProofs (maxSteps := 2000000) only [go_sem]
        repeat (refine ⟨by omega, ?_⟩)
        refine call_of (slicesContains_sat (extN l s k) k (by omega)) (by simp -implicitDefEqProofs (maxSteps := 2000000) only [go_sem, d]) (by kernel_rfl) (by simp -implicitDefEqProofs (maxSteps := 2000000) only [go_sem, d]) ?_
        simp -implicitDefEqProofs (maxSteps := 2000000) only [go_sem, d]
        refine call_of (implIsIndependent_sat l (extN l s k ++ [(k : Int)]) hl ho) (by simp -implicitDefEqProofs (maxSteps := 2000000) only [go_sem, d2]) (by kernel_rfl) (by simp -implicitDefEqProofs (maxSteps := 2000000) only [go_sem, d2]) ?_
        simp -implicitDefEqProofs (maxSteps := 2000000) only [go_sem, d2]
        rw [wk]
        refine ⟨k + 1, c1, by omega, ?_⟩
        rw [e]
        exact (le_st' _ _ [⟨960, some _, false, 1, _⟩] [] _ (by simp -implicitDefEqProofs (maxSteps := 2000000) only [go_sem] <;> and_intros <;> rfl) (by simp -implicitDefEqProofs (maxSteps := 2000000) only [go_sem] <;> and_intros <;> rfl) (by simp -implicitDefEqProofs (maxSteps := 2000000) only [go_sem] <;> and_intros <;> rfl) (by rfl))
      · have e : extN l s (k + 1) = extN l s k ++ [(k : Int)] := by rw [extN, fitsE, d, d2]; rfl
        simp -implicitDefEqProofs (maxSteps := 2000000) only [go_sem, c1]
        refine call_of (slicesClone_sat (extN l s k) (by omega)) (by simp -implicitDefEqProofs (maxSteps := 2000000) only [go_sem]) (callOk_still (by kernel_rfl) (by simp only [List.all_cons, List.all_nil, LV.still, LV.leaves, Leaf.still, ints_still, ris_still, eds_still, rels_still, iss_still, ems_still, Bool.and_self, Bool.and_true])) (by simp -implicitDefEqProofs (maxSteps := 2000000) only [go_sem]) ?_
        simp -implicitDefEqProofs (maxSteps := 2000000) only [go_sem]
        repeat (refine ⟨by omega, ?_⟩)
        refine call_of (slicesContains_sat (extN l s k) k (by omega)) (by simp -implicitDefEqProofs (maxSteps := 2000000) only [go_sem, d]) (by kernel_rfl) (by simp -implicitDefEqProofs (maxSteps := 2000000) only [go_sem, d]) ?_
        simp -implicitDefEqProofs (maxSteps := 2000000) only [go_sem, d]
        refine call_of (implIsIndependent_sat l (extN l s k ++ [(k : Int)]) hl ho) (by simp -implicitDefEqProofs (maxSteps := 2000000) only [go_sem, d2]) (by kernel_rfl) (by simp -implicitDefEqProofs (maxSteps := 2000000) only [go_sem, d2]) ?_
        simp -implicitDefEqProofs (maxSteps := 2000000) only [go_sem, d2]
        rw [wk]
        refine ⟨k + 1, c1, by omega, ?_⟩
        rw [e]
        exact (le_st' _ _ [⟨960, some _, false, 1, _⟩] [] _ (by simp -implicitDefEqProofs (maxSteps := 2000000) only [go_sem, List.length_append] <;> and_intros <;> rfl) (by simp -implicitDefEqProofs (maxSteps := 2000000) only [go_sem, List.length_append] <;> and_intros <;> rfl) (by simp -implicitDefEqProofs (maxSteps := 2000000) only [go_sem, List.length_append] <;> and_intros <;> rfl) (by rfl))
    · have e : extN l s (k + 1) = extN l s k := by rw [extN, fitsE, d]; rfl
      simp -implicitDefEqProofs (maxSteps := 2000000) only [go_sem, c1]
      refine call_of (slicesClone_sat (extN l s k) (by omega)) (by simp -implicitDefEqProofs (maxSteps := 2000000) only [go_sem]) (callOk_still (by kernel_rfl) (by simp only [List.all_cons, List.all_nil, LV.still, LV.leaves, Leaf.still, ints_still, ris_still, eds_still, rels_still, iss_still, ems_still, Bool.and_self, Bool.and_true])) (by simp -implicitDefEqProofs (maxSteps := 2000000) only [go_sem]) ?_
      simp -implicitDefEqProofs (maxSteps := 2000000) only [go_sem]
      repeat (refine ⟨by omega, ?_⟩)
      refine call_of (slicesContains_sat (extN l s k) k (by omega)) (by simp -implicitDefEqProofs (maxSteps := 2000000) only [go_sem, d]) (by kernel_rfl) (by simp -implicitDefEqProofs (maxSteps := 2000000) only [go_sem, d]) ?_
      simp -implicitDefEqProofs (maxSteps := 2000000) only [go_sem, d]
      rw [wk]
      refine ⟨k + 1, c1, by omega, ?_⟩
      rw [e]
      exact (le_st' _ _ [⟨960, some _, false, 1, _⟩] [] _ (by simp -implicitDefEqProofs (maxSteps := 2000000) only [go_sem] <;> and_intros <;> rfl) (by simp -implicitDefEqProofs (maxSteps := 2000000) only [go_sem] <;> and_intros <;> rfl) (by simp -implicitDefEqProofs (maxSteps := 2000000) only [go_sem] <;> and_intros <;> rfl) (by rfl))
  · obtain rfl : k = m := by omega
    simp -implicitDefEqProofs (maxSteps := 2000000) only [go_sem, c1]
    refine call_of (slicesSort_sat (extN l s k) (by omega)) (by simp -implicitDefEqProofs (maxSteps := 2000000) only [go_sem]) (by kernel_rfl) (by simp -implicitDefEqProofs (maxSteps := 2000000) only [go_sem]) ?_
    simp -implicitDefEqProofs (maxSteps := 2000000) only [go_sem]
    exact ⟨⟨(List.length_mergeSort ..).symm, rfl⟩, by kernel_rfl⟩
end Go.Proofs.YtedciihjgbkjgabGreatDoor.A


/- ALL MAXIMAL INDEPENDENT SETS: the plain law. Conditions: none. (No program in sight but the names.) -/
namespace Go.Proofs.YtedciihjgbkjgabGreatDoor.A
open Go
set_option linter.unusedSimpArgs false
set_option linter.unusedVariables false

theorem upTo_all {p : Nat → Bool} : ∀ {n : Nat}, (∀ k, k < n → p k = true) → upTo p n = true
  | 0, _ => rfl
  | n + 1, h => upTo_step (upTo_all fun k hk => h k (by omega)) (h n (by omega))
/-- Is a number an end of an edge. -/
def metE (l : List Edge) (x : Int) : Bool := l.any fun e => (e.a == x) || (e.b == x)
/-- The search of the program, m numbers left. -/
def walkI (n : Nat) (l : List Edge) : Nat → List Int → List (List Int)
  | 0, s => if isMax n l s then [s] else []
  | m + 1, s => (if indep l (s ++ [((n - (m + 1) : Nat) : Int)]) then walkI n l m (s ++ [((n - (m + 1) : Nat) : Int)]) else []) ++ walkI n l m s
/-- The search of the reference. -/
def walkS (n : Nat) (l : List Edge) : Nat → List Int → List (List Int)
  | 0, s => if isMax n l s then [s] else []
  | m + 1, s => (if fitsE l s ((n - (m + 1) : Nat) : Int) then walkS n l m (s ++ [((n - (m + 1) : Nat) : Int)]) else []) ++ (if metE l ((n - (m + 1) : Nat) : Int) then walkS n l m s else [])
theorem walkI_len (n : Nat) (l : List Edge) : ∀ (m : Nat) (s : List Int), (walkI n l m s).length ≤ 2 ^ m
  | 0, s => by unfold walkI; split <;> simp
  | m + 1, s => by
    have h1 := walkI_len n l m (s ++ [((n - (m + 1) : Nat) : Int)])
    have h2 := walkI_len n l m s
    unfold walkI
    rw [List.length_append, Nat.pow_succ]
    split
    · omega
    · simp; omega
/-- A number that no edge meets joins any independent set. -/
theorem indep_join {l : List Edge} {s : List Int} {x : Int} (h : indep l s = true) (hx : metE l x = false) : indep l (s ++ [x]) = true := by
  unfold indep
  refine upTo_all fun k hk => ?_
  have h1 := upTo_at h hk
  have h2 : ((l.getD k default).a == x) = false ∧ ((l.getD k default).b == x) = false := by
    unfold metE at hx
    rw [List.any_eq_false] at hx
    have := hx _ (mem_getD default hk)
    simpa using this
  unfold edNo at h1 ⊢
  have n1 : (l.getD k default).a ≠ x := by simpa using h2.1
  have n2 : (l.getD k default).b ≠ x := by simpa using h2.2
  rw [Bool.not_eq_true'] at h1 ⊢
  rw [← h1]
  congr 1
  · rw [Bool.eq_iff_iff, decide_eq_true_iff, decide_eq_true_iff, List.mem_append, List.mem_singleton]
    exact ⟨fun h => h.resolve_right n1, .inl⟩
  · rw [Bool.eq_iff_iff, decide_eq_true_iff, decide_eq_true_iff, List.mem_append, List.mem_singleton]
    exact ⟨fun h => h.resolve_right n2, .inl⟩
theorem isMax_not {n : Nat} {l : List Edge} {s : List Int} {x : Nat} (hx : x < n) (hm : metE l x = false) (hs : (x : Int) ∉ s) : isMax n l s = false := by
  rcases h : isMax n l s
  · rfl
  · unfold isMax at h
    simp only [Bool.and_eq_true] at h
    obtain ⟨_, _, h3, h4⟩ := h
    have := upTo_at h4 (show x < ((n : Nat) : Int).toNat by omega)
    rw [fitsE, indep_join h3 hm, decide_eq_false hs] at this
    cases this
/-- Where such a number has been left out nothing is found. -/
theorem walkI_none {n : Nat} {l : List Edge} {x : Nat} (hx : x < n) (hm : metE l x = false) : ∀ (m : Nat) (s : List Int), m + x + 1 ≤ n → (x : Int) ∉ s → walkI n l m s = []
  | 0, s, _, hs => by rw [walkI, isMax_not hx hm hs]; rfl
  | m + 1, s, hle, hs => by
    have h2 := walkI_none hx hm m s (by omega) hs
    have h1 := walkI_none hx hm m (s ++ [((n - (m + 1) : Nat) : Int)]) (by omega) (by
      rw [List.mem_append, List.mem_singleton]
      rintro (h | h)
      · exact hs h
      · omega)
    rw [walkI, h1, h2]
    split <;> rfl
theorem walk_same {n : Nat} {l : List Edge} : ∀ (m : Nat) (s : List Int), m ≤ n → (∀ y ∈ s, y < ((n - m : Nat) : Int)) → walkS n l m s = walkI n l m s
  | 0, s, _, _ => rfl
  | m + 1, s, hle, hs => by
    have hn : ((n - (m + 1) : Nat) : Int) ∉ s := fun h => by have := hs _ h; omega
    have h1 := walk_same (n := n) (l := l) m (s ++ [((n - (m + 1) : Nat) : Int)]) (by omega) (by
      intro y hy
      rw [List.mem_append, List.mem_singleton] at hy
      rcases hy with hy | rfl
      · have := hs y hy; omega
      · omega)
    have h2 := walk_same (n := n) (l := l) m s (by omega) (fun y hy => by have := hs y hy; omega)
    rw [walkS, walkI, fitsE, decide_eq_false hn, Bool.not_false, Bool.true_and, h1, h2]
    congr 1
    rcases hm : metE l ((n - (m + 1) : Nat) : Int)
    · rw [walkI_none (x := n - (m + 1)) (by omega) hm m s (by omega) hn]; rfl
    · rfl
def mis (n : Int) (l : List Edge) : List (List Int) := if goodEds n l then walkI n.toNat l n.toNat [] else []
theorem goodEds_n {n : Int} {l : List Edge} (g : goodEds n l = true) : 0 ≤ n ∧ n ≤ 14 := by
  unfold goodEds at g
  rw [Bool.and_eq_true] at g
  exact inB_of g.1
theorem mis_len (n : Int) (l : List Edge) : (mis n l).length ≤ 16384 := by
  unfold mis
  split
  · rename_i g
    have := goodEds_n g
    have h := walkI_len n.toNat l n.toNat []
    have : 2 ^ n.toNat ≤ 2 ^ 14 := Nat.pow_le_pow_right (by omega) (by omega)
    omega
  · simp
/-- What is found is no longer than the numbers that there are. -/
theorem walkI_mem (n : Nat) (l : List Edge) : ∀ (m : Nat) (s : List Int), ∀ t ∈ walkI n l m s, t.length ≤ s.length + m
  | 0, s, t, ht => by
    unfold walkI at ht
    split at ht
    · simp at ht; subst ht; omega
    · cases ht
  | m + 1, s, t, ht => by
    unfold walkI at ht
    rw [List.mem_append] at ht
    rcases ht with ht | ht
    · split at ht
      · have := walkI_mem n l m _ t ht
        simp only [List.length_append, List.length_singleton] at this
        omega
      · cases ht
    · have := walkI_mem n l m s t ht
      omega
theorem mis_small {n : Int} {l : List Edge} : ∀ t ∈ mis n l, t.length ≤ 14 := by
  intro t ht
  unfold mis at ht
  split at ht
  · rename_i g
    have := goodEds_n g
    have := walkI_mem _ _ _ _ t ht
    simp only [List.length_nil] at this
    omega
  · cases ht
end Go.Proofs.YtedciihjgbkjgabGreatDoor.A


/- ALL MAXIMAL INDEPENDENT SETS: the two programs. Conditions: none. -/
namespace Go.Proofs.YtedciihjgbkjgabGreatDoor.A
open Go
set_option linter.unusedSimpArgs false
set_option linter.unusedVariables false
set_option maxRecDepth 100000

theorem any_stepM {α : Type} {d : α} {l : List α} {k : Nat} {p : α → Bool} (h : k < l.length) : (l.take (k + 1)).any p = ((l.take k).any p || p (l.getD k d)) := by
  rw [take_snoc d h, List.any_append]; simp
theorem walkS_len (n : Nat) (l : List Edge) : ∀ (m : Nat) (s : List Int), (walkS n l m s).length ≤ 2 ^ m
  | 0, s => by unfold walkS; split <;> simp
  | m + 1, s => by
    have h1 := walkS_len n l m (s ++ [((n - (m + 1) : Nat) : Int)])
    have h2 := walkS_len n l m s
    unfold walkS
    rw [List.length_append, Nat.pow_succ]
    split <;> split <;> simp <;> omega
theorem pow14 {m : Nat} (h : m ≤ 14) : 2 ^ m ≤ 16384 := Nat.pow_le_pow_right (by omega) h
theorem ints_nilf : (ints [] = frz []) = True := eq_true rfl
attribute [go_sem] ints_nilf
theorem rst_two (a b : List (List Int)) : rst (iss 999 a ++ iss 1 b) = iss 1 (a ++ b) := by
  rw [show ∀ x y : Rows, rst (x ++ y) = rst x ++ rst y from fun x y => List.map_append .., iss_rst 998, iss_rst 0, iss_append]
end Go.Proofs.YtedciihjgbkjgabGreatDoor.A


/- ALL MAXIMAL INDEPENDENT SETS: the program's search. Conditions: none. -/
namespace Go.Proofs.YtedciihjgbkjgabGreatDoor.A
open Go
set_option linter.unusedSimpArgs false
set_option linter.unusedVariables false
set_option maxRecDepth 100000

theorem rep1M {α : Type} (a : α) : List.replicate 1 a = [a] := rfl
end Go.Proofs.YtedciihjgbkjgabGreatDoor.A


/- ALL MAXIMAL INDEPENDENT SETS: the program's function. Conditions: none. -/
namespace Go.Proofs.YtedciihjgbkjgabGreatDoor.A
open Go
set_option linter.unusedSimpArgs false
set_option linter.unusedVariables false
set_option maxRecDepth 100000

end Go.Proofs.YtedciihjgbkjgabGreatDoor.A


/- THE GREATEST SIZE OF AN INDEPENDENT SET. Conditions: none. -/
namespace Go.Proofs.YtedciihjgbkjgabGreatDoor.A
open Go
set_option linter.unusedSimpArgs false
set_option linter.unusedVariables false
set_option maxRecDepth 100000

def longer (m : Int) (t : List Int) : Int := if (t.length : Int) > m then t.length else m
def longest (l : List (List Int)) : Int := l.foldl longer 0
theorem longest_step {l : List (List Int)} {k : Nat} (h : k < l.length) : longest (l.take (k + 1)) = longer (longest (l.take k)) (l.getD k []) := by
  unfold longest
  rw [take_snoc [] h, List.foldl_append]; rfl
end Go.Proofs.YtedciihjgbkjgabGreatDoor.A


/- MAXIMAL INDEPENDENT SETS: what holds of what is found. Conditions: none. (No program in sight.) -/
namespace Go.Proofs.YtedciihjgbkjgabGreatDoor.A
open Go
set_option linter.unusedSimpArgs false
set_option linter.unusedVariables false

theorem walkI_max {n : Nat} {l : List Edge} : ∀ (m : Nat) (s : List Int), ∀ t ∈ walkI n l m s, isMax n l t = true
  | 0, s, t, ht => by
    rw [walkI] at ht
    split at ht
    · rename_i h; rw [List.mem_singleton.mp ht]; exact h
    · cases ht
  | m + 1, s, t, ht => by
    rw [walkI] at ht
    rcases List.mem_append.mp ht with ht | ht
    · split at ht
      · exact walkI_max m _ t ht
      · cases ht
    · exact walkI_max m _ t ht
theorem mis_max {n : Int} {l : List Edge} : ∀ t ∈ mis n l, isMax n l t = true := by
  intro t ht
  unfold mis at ht
  split at ht
  · rename_i g
    have h0 := (goodEds_n g).1
    have := walkI_max _ _ t ht
    rw [Int.toNat_of_nonneg h0] at this
    exact this
  · cases ht
theorem isMax_indep {n : Int} {l : List Edge} {t : List Int} (h : isMax n l t = true) : indep l t = true := by
  unfold isMax at h
  simp only [Bool.and_eq_true] at h
  exact h.2.2.1
theorem foldl_longer : ∀ (L : List (List Int)) (m : Int), m ≤ L.foldl longer m ∧ ∀ t ∈ L, (t.length : Int) ≤ L.foldl longer m
  | [], m => ⟨Int.le_refl _, fun t ht => by cases ht⟩
  | a :: L, m => by
    obtain ⟨h1, h2⟩ := foldl_longer L (longer m a)
    have h3 : m ≤ longer m a ∧ (a.length : Int) ≤ longer m a := by unfold longer; split <;> omega
    rw [List.foldl_cons]
    refine ⟨by omega, fun t ht => ?_⟩
    rcases List.mem_cons.mp ht with rfl | ht
    · omega
    · exact h2 t ht
theorem longest_ge {L : List (List Int)} : ∀ t ∈ L, (t.length : Int) ≤ longest L := (foldl_longer L 0).2
/-- A part of an independent set is independent. -/
theorem indep_sub {l : List Edge} {s t : List Int} (h : indep l t = true) (hs : ∀ x ∈ s, x ∈ t) : indep l s = true := by
  unfold indep
  refine upTo_all fun k hk => ?_
  have h1 := upTo_at h hk
  unfold edNo at h1 ⊢
  rw [Bool.not_eq_true', Bool.and_eq_false_iff, decide_eq_false_iff_not, decide_eq_false_iff_not] at h1 ⊢
  exact h1.imp (fun h a => h (hs _ a)) (fun h a => h (hs _ a))
/-- Every maximal set that begins so is found. -/
theorem walkI_all {n : Nat} {l : List Edge} : ∀ (m : Nat) (s r : List Int), m ≤ n → isMax n l (s ++ r) = true → r.Pairwise (· < ·) → (∀ x ∈ r, ((n - m : Nat) : Int) ≤ x ∧ x < n) → s ++ r ∈ walkI n l m s
  | 0, s, r, _, h, _, hr => by
    obtain rfl : r = [] := by
      rcases r with _ | ⟨x, r⟩
      · rfl
      · have := hr x (List.mem_cons_self ..); omega
    rw [List.append_nil] at h ⊢
    rw [walkI, if_pos h]; exact List.mem_singleton_self _
  | m + 1, s, r, hm, h, hp, hr => by
    rw [walkI]
    apply List.mem_append.mpr
    rcases r with _ | ⟨x, r⟩
    · exact .inr (walkI_all m s [] (by omega) h hp (fun x hx => by cases hx))
    · have hx := hr x (List.mem_cons_self ..)
      obtain ⟨hp1, hp2⟩ := List.pairwise_cons.mp hp
      by_cases e : x = ((n - (m + 1) : Nat) : Int)
      · refine .inl ?_
        subst e
        rw [if_pos (indep_sub (isMax_indep h) (fun y hy => by
          rcases List.mem_append.mp hy with hy | hy
          · exact List.mem_append_left _ hy
          · exact List.mem_append_right _ (by rw [List.mem_singleton.mp hy]; exact List.mem_cons_self ..)))]
        have h2 : isMax n l ((s ++ [((n - (m + 1) : Nat) : Int)]) ++ r) = true := by rw [List.append_assoc]; exact h
        have := walkI_all m (s ++ [((n - (m + 1) : Nat) : Int)]) r (by omega) h2 hp2 (fun y hy => by
          have h3 := hp1 y hy
          have h4 := hr y (List.mem_cons_of_mem _ hy)
          omega)
        rw [List.append_assoc] at this
        exact this
      · exact .inr (walkI_all m s (x :: r) (by omega) h hp (fun y hy => by
          have h4 := hr y hy
          rcases List.mem_cons.mp hy with rfl | hy
          · omega
          · have h3 := hp1 y hy; omega))
theorem ixs_lt {l : List Int} {n : Int} (h : ixs l n = true) : l.Pairwise (· < ·) ∧ ∀ x ∈ l, 0 ≤ x ∧ x < n := by
  have step : ∀ k, k + 1 < l.length → l.getD k 0 < l.getD (k + 1) 0 := by
    intro k hk
    have h1 := upTo_at h hk
    unfold ixAt at h1
    rw [Bool.and_eq_true, Bool.or_eq_true, decide_eq_true_iff, Bool.not_eq_true', decide_eq_false_iff_not, Nat.add_sub_cancel] at h1
    have := h1.2.resolve_left (by omega)
    omega
  have far : ∀ i j, i < j → j < l.length → l.getD i 0 < l.getD j 0 := by
    intro i j
    induction j with
    | zero => intro h; omega
    | succ j ih =>
      intro h1 h2
      have h3 := step j h2
      by_cases e : i = j
      · subst e; exact h3
      · have := ih (by omega) (by omega); omega
  constructor
  · rw [List.pairwise_iff_getElem]
    intro i j hi hj hij
    have := far i j hij hj
    simpa [List.getD_eq_getElem?_getD, hi, hj] using this
  · intro x hx
    obtain ⟨i, hi, rfl⟩ := List.mem_iff_getElem.mp hx
    have h1 := upTo_at h hi
    unfold ixAt at h1
    rw [Bool.and_eq_true] at h1
    have := inB_of h1.1
    simp only [List.getD_eq_getElem?_getD, List.getElem?_eq_getElem hi, Option.getD_some] at this
    omega
theorem mis_all {n : Int} {l : List Edge} {t : List Int} (h : isMax n l t = true) : t ∈ mis n l := by
  have h0 := h
  unfold isMax at h0
  simp only [Bool.and_eq_true] at h0
  obtain ⟨g, hi, _, _⟩ := h0
  obtain ⟨p1, p2⟩ := ixs_lt hi
  have hn := (goodEds_n g).1
  unfold mis
  rw [if_pos g]
  have e : ((n.toNat : Nat) : Int) = n := Int.toNat_of_nonneg hn
  exact walkI_all n.toNat [] t (Nat.le_refl _) (by rw [e]; exact h) p1 (fun x hx => by have := p2 x hx; omega)
theorem extN_sub (l : List Edge) (s : List Int) : ∀ {k : Nat}, ∀ x ∈ s, x ∈ extN l s k
  | 0, x, hx => hx
  | k + 1, x, hx => by
    rw [extN]
    split
    · exact List.mem_append_left _ (extN_sub l s x hx)
    · exact extN_sub l s x hx
theorem extN_mono (l : List Edge) (s : List Int) {j : Nat} : ∀ {k : Nat}, j ≤ k → ∀ x ∈ extN l s j, x ∈ extN l s k
  | 0, h, x, hx => by rw [show j = 0 by omega] at hx; exact hx
  | k + 1, h, x, hx => by
    by_cases e : j = k + 1
    · rw [e] at hx; exact hx
    · have := extN_mono l s (show j ≤ k by omega) x hx
      rw [extN]
      split
      · exact List.mem_append_left _ this
      · exact this
theorem ixs_of {t : List Int} {n : Int} (h1 : t.Pairwise (· < ·)) (h2 : ∀ x ∈ t, 0 ≤ x ∧ x < n) : ixs t n = true := by
  unfold ixs
  refine upTo_all fun k hk => ?_
  unfold ixAt
  have h3 := h2 _ (mem_getD 0 hk)
  rw [Bool.and_eq_true, Bool.or_eq_true, decide_eq_true_iff, Bool.not_eq_true', decide_eq_false_iff_not]
  refine ⟨?_, ?_⟩
  · unfold inB
    rw [Bool.and_eq_true, decide_eq_true_iff, decide_eq_true_iff]; omega
  · rcases k with _ | k
    · exact .inl rfl
    · refine .inr ?_
      have := List.pairwise_iff_getElem.mp h1 k (k + 1) (by omega) hk (by omega)
      simp only [List.getD_eq_getElem?_getD, Nat.add_sub_cancel, List.getElem?_eq_getElem hk, List.getElem?_eq_getElem (show k < t.length by omega), Option.getD_some]
      omega
structure ExtOk (n : Nat) (l : List Edge) (t : List Int) : Prop where
  nd : t.Nodup
  rng : ∀ x ∈ t, 0 ≤ x ∧ x < n
  ind : indep l t = true
theorem extN_ok {n : Nat} {l : List Edge} {s : List Int} (h : ExtOk n l s) : ∀ {k : Nat}, k ≤ n → ExtOk n l (extN l s k)
  | 0, _ => h
  | k + 1, hk => by
    have ih := extN_ok h (k := k) (by omega)
    rw [extN]
    split
    · rename_i hf
      unfold fitsE at hf
      rw [Bool.and_eq_true, Bool.not_eq_true', decide_eq_false_iff_not] at hf
      refine ⟨?_, ?_, hf.2⟩
      · rw [List.nodup_append]
        exact ⟨ih.nd, by simp, fun a ha b hb => by
          rw [List.mem_singleton] at hb
          rintro rfl
          exact hf.1 (hb ▸ ha)⟩
      · intro x hx
        rcases List.mem_append.mp hx with hx | hx
        · exact ih.rng x hx
        · rw [List.mem_singleton.mp hx]; omega
    · exact ih
theorem fitsE_mono {l : List Edge} {s t : List Int} {x : Int} (h : fitsE l s x = false) (hs : ∀ y ∈ s, y ∈ t) : fitsE l t x = false := by
  unfold fitsE at h ⊢
  rw [Bool.and_eq_false_iff, Bool.not_eq_false', decide_eq_true_iff] at h ⊢
  rcases h with h | h
  · exact .inl (hs _ h)
  · refine .inr ?_
    rcases e : indep l (t ++ [x])
    · rfl
    · rw [indep_sub e (fun y hy => by
        rcases List.mem_append.mp hy with hy | hy
        · exact List.mem_append_left _ (hs y hy)
        · exact List.mem_append_right _ hy)] at h
      cases h
theorem extN_end {l : List Edge} {s : List Int} {n x : Nat} (h : x < n) : fitsE l (extN l s n) x = false := by
  by_cases hf : fitsE l (extN l s x) x = true
  · have hm : (x : Int) ∈ extN l s (x + 1) := by rw [extN, if_pos hf]; exact List.mem_append_right _ (List.mem_singleton_self _)
    have := extN_mono l s (show x + 1 ≤ n by omega) _ hm
    unfold fitsE
    rw [decide_eq_true this]; rfl
  · exact fitsE_mono (by simpa using hf) (extN_mono l s (show x ≤ n by omega))
theorem sortI_strict {l : List Int} (h : l.Nodup) : (sortI l).Pairwise (· < ·) := by
  have h1 := sortI_sorted l
  have h2 : (sortI l).Nodup := (sortI_perm l).nodup_iff.mpr h
  exact (List.pairwise_and_iff.mpr ⟨h1, h2⟩).imp (fun h => by have := h.1; have := h.2; omega)
/-- What a set is extended to. -/
theorem extM_ok {n : Int} {l : List Edge} {s : List Int} (g : goodSet n l s = true) : (extM n l s).2 = true ∧ isMax n l (extM n l s).1 = true ∧ ∀ x ∈ s, x ∈ (extM n l s).1 := by
  unfold extM
  rw [if_pos g]
  unfold goodSet at g
  simp only [Bool.and_eq_true] at g
  obtain ⟨ge, hi, hd⟩ := g
  have hn := (goodEds_n ge).1
  have e : ((n.toNat : Nat) : Int) = n := Int.toNat_of_nonneg hn
  obtain ⟨p1, p2⟩ := ixs_lt hi
  have ok : ExtOk n.toNat l s := ⟨p1.imp (fun h => by omega), fun x hx => by have := p2 x hx; omega, hd⟩
  have ok' := extN_ok ok (Nat.le_refl _)
  have hmem : ∀ x, x ∈ sortI (extN l s n.toNat) ↔ x ∈ extN l s n.toNat := fun x => (sortI_perm _).mem_iff
  refine ⟨rfl, ?_, fun x hx => (hmem x).mpr (extN_sub l s x hx)⟩
  unfold isMax
  rw [ge, ixs_of (sortI_strict ok'.nd) (fun x hx => by have := ok'.rng x ((hmem x).mp hx); omega), indep_sub ok'.ind (fun x hx => (hmem x).mp hx), Bool.true_and, Bool.true_and, Bool.true_and]
  refine upTo_all fun k hk => ?_
  rw [Bool.not_eq_true']
  exact fitsE_mono (extN_end hk) (fun y hy => (hmem y).mpr hy)
theorem extM_no {n : Int} {l : List Edge} {s : List Int} (g : goodSet n l s = false) : extM n l s = ([], false) := by
  unfold extM
  rw [g]; rfl
end Go.Proofs.YtedciihjgbkjgabGreatDoor.A


/- KEY CONFLICTS AND REPAIRS: what holds of them. Conditions: none. (No program in sight.) -/
namespace Go.Proofs.YtedciihjgbkjgabGreatDoor.A
open Go
set_option linter.unusedSimpArgs false
set_option linter.unusedVariables false

theorem rowE_mem {p : Nat → Nat → Bool} {a : Nat} {e : Edge} : ∀ {m : Nat}, e ∈ rowE p a m ↔ ∃ b : Nat, b < m ∧ a < b ∧ p a b = true ∧ e = ⟨a, b⟩
  | 0 => by simp [rowE]
  | m + 1 => by
    have ih := rowE_mem (p := p) (a := a) (e := e) (m := m)
    rw [rowE]
    rcases h : (decide (a < m) && p a m)
    · rw [if_neg (by simp)]
      rw [ih]
      constructor
      · rintro ⟨b, h1, h2, h3, h4⟩; exact ⟨b, by omega, h2, h3, h4⟩
      · rintro ⟨b, h1, h2, h3, h4⟩
        rcases Nat.lt_or_ge b m with hb | hb
        · exact ⟨b, hb, h2, h3, h4⟩
        · obtain rfl : b = m := by omega
          rw [decide_eq_true h2, h3] at h; cases h
    · rw [if_pos rfl, List.mem_append, ih, List.mem_singleton]
      rw [Bool.and_eq_true, decide_eq_true_iff] at h
      constructor
      · rintro (⟨b, h1, h2, h3, h4⟩ | rfl)
        · exact ⟨b, by omega, h2, h3, h4⟩
        · exact ⟨m, by omega, h.1, h.2, rfl⟩
      · rintro ⟨b, h1, h2, h3, h4⟩
        rcases Nat.lt_or_ge b m with hb | hb
        · exact .inl ⟨b, hb, h2, h3, h4⟩
        · obtain rfl : b = m := by omega
          exact .inr h4
theorem allE_mem {p : Nat → Nat → Bool} {n : Nat} {e : Edge} : ∀ {k : Nat}, e ∈ allE p n k ↔ ∃ a b : Nat, a < k ∧ b < n ∧ a < b ∧ p a b = true ∧ e = ⟨a, b⟩
  | 0 => by simp [allE]
  | k + 1 => by
    rw [allE, List.mem_append, allE_mem (k := k), rowE_mem]
    constructor
    · rintro (⟨a, b, h1, h2⟩ | ⟨b, h1, h2⟩)
      · exact ⟨a, b, by omega, h2⟩
      · exact ⟨k, b, by omega, h1, h2⟩
    · rintro ⟨a, b, h1, h2⟩
      rcases Nat.lt_or_ge a k with ha | ha
      · exact .inl ⟨a, b, ha, h2⟩
      · obtain rfl : a = k := by omega
        exact .inr ⟨b, h2⟩
def lexE (e f : Edge) : Prop := e.a < f.a ∨ (e.a = f.a ∧ e.b < f.b)
theorem rowE_lex {p : Nat → Nat → Bool} {a : Nat} : ∀ m : Nat, (rowE p a m).Pairwise lexE
  | 0 => by simp [rowE]
  | m + 1 => by
    rw [rowE]
    split
    · rw [List.pairwise_append]
      refine ⟨rowE_lex m, List.pairwise_singleton _ _, fun e he f hf => ?_⟩
      obtain ⟨b, h1, _, _, rfl⟩ := rowE_mem.mp he
      obtain rfl := List.mem_singleton.mp hf
      exact .inr ⟨rfl, by show ((b : Nat) : Int) < m; omega⟩
    · exact rowE_lex m
theorem allE_lex {p : Nat → Nat → Bool} {n : Nat} : ∀ k : Nat, (allE p n k).Pairwise lexE
  | 0 => by simp [allE]
  | k + 1 => by
    rw [allE, List.pairwise_append]
    refine ⟨allE_lex k, rowE_lex n, fun e he f hf => ?_⟩
    obtain ⟨a, b, h1, _, _, _, rfl⟩ := allE_mem.mp he
    obtain ⟨c, _, _, _, rfl⟩ := rowE_mem.mp hf
    exact .inl (by show ((a : Nat) : Int) < k; omega)
theorem allE_good {p : Nat → Nat → Bool} {n : Nat} (hn : n ≤ 14) : goodEds n (allE p n n) = true := by
  unfold goodEds
  rw [Bool.and_eq_true]
  refine ⟨by unfold inB; simp; omega, upTo_all fun k hk => ?_⟩
  unfold edAt
  obtain ⟨a, b, h1, h2, h3, _, he⟩ := allE_mem.mp (mem_getD (default : Edge) hk)
  rw [he, Bool.and_eq_true, Bool.and_eq_true]
  refine ⟨by unfold inB; simp; omega, by unfold inB; simp; omega, ?_⟩
  unfold lexAt
  rcases k with _ | k
  · rfl
  · rw [he, Nat.add_sub_cancel]
    have h4 := List.pairwise_iff_getElem.mp (allE_lex (p := p) (n := n) n) k (k + 1) (by omega) hk (by omega)
    have e1 : (allE p n n)[k] = (allE p n n).getD k default := by simp [List.getD_eq_getElem?_getD, (by omega : k < (allE p n n).length)]
    have e2 : (allE p n n)[k + 1] = (allE p n n).getD (k + 1) default := by simp [List.getD_eq_getElem?_getD, hk]
    rw [e1, e2, he] at h4
    unfold lexE at h4
    simp only at h4 ⊢
    rw [Bool.or_eq_true]
    right
    rw [Bool.not_eq_true', Bool.or_eq_false_iff, Bool.and_eq_false_iff, decide_eq_false_iff_not, beq_eq_false_iff_ne, decide_eq_false_iff_not]
    omega
/-! #### a repair has one fact of each block -/
theorem pickR_hit : ∀ {l : List (List Int)} {r : Nat}, (∀ b ∈ l, 0 < b.length) → ∀ b ∈ l, ∃ y ∈ b, y ∈ (pickR l r).1
  | [], _, _, b, hb => by cases hb
  | c :: l, r, hl, b, hb => by
    rw [pickR]
    rcases List.mem_cons.mp hb with rfl | hb
    · refine ⟨_, ?_, List.mem_cons_self ..⟩
      have hb := hl b (by simp)
      rw [List.getD_eq_getElem?_getD, List.getElem?_eq_getElem (Nat.mod_lt _ hb)]
      exact List.getElem_mem _
    · obtain ⟨y, h1, h2⟩ := pickR_hit (r := r) (fun c hc => hl c (by simp [hc])) b hb
      exact ⟨y, h1, List.mem_cons_of_mem _ h2⟩
theorem pickR_one : ∀ {l : List (List Int)} {r : Nat}, (∀ b ∈ l, 0 < b.length) → (l.Pairwise fun a b => ∀ x ∈ a, ∀ y ∈ b, x < y) → ∀ b ∈ l, ∀ x ∈ b, ∀ y ∈ b, x ∈ (pickR l r).1 → y ∈ (pickR l r).1 → x = y
  | [], _, _, _, b, hb, _, _, _, _, _, _ => by cases hb
  | c :: l, r, hl, hp, b, hb, x, hx, y, hy, h1, h2 => by
    rw [pickR] at h1 h2
    rw [List.pairwise_cons] at hp
    have hl' : ∀ c ∈ l, 0 < c.length := fun c hc => hl c (by simp [hc])
    have hh : c.getD ((pickR l r).2 % c.length) 0 ∈ c := by
      have hc := hl c (by simp)
      rw [List.getD_eq_getElem?_getD, List.getElem?_eq_getElem (Nat.mod_lt _ hc)]
      exact List.getElem_mem _
    have no : ∀ z ∈ b, z = c.getD ((pickR l r).2 % c.length) 0 → b ∈ l → False := by
      intro z hz e hbl
      have := hp.1 b hbl z (by rw [e]; exact hh) z hz
      omega
    have no2 : ∀ z ∈ c, z ∈ (pickR l r).1 → False := by
      intro z hz hzp
      obtain ⟨c', hc', hz'⟩ := pickR_mem hl' hzp
      have := hp.1 c' hc' z hz z hz'
      omega
    rcases List.mem_cons.mp hb with rfl | hbl
    · rcases List.mem_cons.mp h1 with e1 | h1
      · rcases List.mem_cons.mp h2 with e2 | h2
        · rw [e1, e2]
        · exact (no2 y hy h2).elim
      · exact (no2 x hx h1).elim
    · rcases List.mem_cons.mp h1 with e1 | h1
      · exact (no x hx e1 hbl).elim
      · rcases List.mem_cons.mp h2 with e2 | h2
        · exact (no y hy e2 hbl).elim
        · exact pickR_one hl' hp.2 b hbl x hx y hy h1 h2
theorem mem_castL {l : List Nat} {x : Nat} : ((x : Nat) : Int) ∈ castL l ↔ x ∈ l := by
  unfold castL
  rw [List.mem_map]
  constructor
  · rintro ⟨y, hy, e⟩
    obtain rfl : y = x := by omega
    exact hy
  · exact fun h => ⟨x, h, rfl⟩
theorem blk_of {S : Nat → Nat → Bool} {n : Nat} {b : List Int} (h : b ∈ blk S n) : ∃ i, i < n ∧ isFst S i = true ∧ b = castL (clsOf S i n) := by
  unfold blk blkN at h
  obtain ⟨c, hc, rfl⟩ := List.mem_map.mp h
  obtain ⟨i, hi, rfl⟩ := List.mem_map.mp hc
  obtain ⟨h1, h2⟩ := fsts_mem.mp hi
  exact ⟨i, h1, h2, rfl⟩
theorem blk_nat {S : Nat → Nat → Bool} {n : Nat} {b : List Int} (h : b ∈ blk S n) {x : Int} (hx : x ∈ b) : ∃ y : Nat, x = y ∧ y < n := by
  obtain ⟨i, _, _, rfl⟩ := blk_of h
  obtain ⟨y, hy, rfl⟩ := List.mem_map.mp hx
  exact ⟨y, rfl, (clsOf_mem.mp hy).1⟩
theorem blk_cover {S : Nat → Nat → Bool} {n : Nat} (E : Eqv S n) {x : Nat} (hx : x < n) : ∃ b ∈ blk S n, ((x : Nat) : Int) ∈ b := by
  obtain ⟨i, h1, h2, h3⟩ := least (p := fun j => S j x) (k := x + 1) ⟨x, by omega, E.refl x hx⟩
  have hf : isFst S i = true := isFst_of fun j hj => by
    rcases e : S j i
    · rfl
    · have := E.trans j i x (by omega) (by omega) hx e h2
      rw [h3 j hj] at this; cases this
  refine ⟨castL (clsOf S i n), ?_, mem_castL.mpr (clsOf_mem.mpr ⟨hx, h2⟩)⟩
  unfold blk blkN
  exact List.mem_map.mpr ⟨_, List.mem_map.mpr ⟨i, fsts_mem.mpr ⟨by omega, hf⟩, rfl⟩, rfl⟩
theorem blk_same {S : Nat → Nat → Bool} {n : Nat} (E : Eqv S n) {b : List Int} (h : b ∈ blk S n) {x y : Nat} (hx : ((x : Nat) : Int) ∈ b) (hy : y < n) : ((y : Nat) : Int) ∈ b ↔ S x y = true := by
  obtain ⟨i, h1, h2, rfl⟩ := blk_of h
  obtain ⟨a1, a2⟩ := clsOf_mem.mp (mem_castL.mp hx)
  rw [mem_castL, clsOf_mem]
  constructor
  · rintro ⟨_, h4⟩
    exact E.trans x i y a1 h1 hy (E.symm i x h1 a1 a2) h4
  · intro h4
    exact ⟨hy, E.trans i x y h1 a1 hy a2 h4⟩
section rep
variable {d : Db} (g : goodDb d = true)
include g
theorem rep_in {r : Nat} {x : Int} (h : x ∈ (pickR (blocksOf d) r).1) : ∃ y : Nat, x = y ∧ y < d.facts.length := by
  obtain ⟨b, hb, hx⟩ := pickR_mem (fun b hb => (blocksOf_len g).2 b hb |>.1) h
  exact blk_nat hb hx
theorem rep_one {r : Nat} {x y : Nat} (hx : ((x : Nat) : Int) ∈ (pickR (blocksOf d) r).1) (hy : ((y : Nat) : Int) ∈ (pickR (blocksOf d) r).1) (h : keyR d x y = true) : x = y := by
  have E := keyR_eqv g
  have hb := blk_ne E (Nat.le_refl _)
  obtain ⟨b, b1, b2⟩ := pickR_mem hb hx
  obtain ⟨x', e1, hx'⟩ := rep_in g hx
  obtain ⟨y', e2, hy'⟩ := rep_in g hy
  have hy2 : ((y : Nat) : Int) ∈ b := (blk_same E b1 b2 (by omega)).mpr h
  have := pickR_one (r := r) hb (blk_asc E (Nat.le_refl _)) b b1 _ b2 _ hy2 hx hy
  omega
theorem rep_hit {r : Nat} {x : Nat} (hx : x < d.facts.length) : ∃ y : Nat, y < d.facts.length ∧ ((y : Nat) : Int) ∈ (pickR (blocksOf d) r).1 ∧ keyR d x y = true := by
  have E := keyR_eqv g
  have hb := blk_ne E (Nat.le_refl _)
  obtain ⟨b, b1, b2⟩ := blk_cover E hx
  obtain ⟨y, y1, y2⟩ := pickR_hit (r := r) hb b b1
  obtain ⟨y', rfl, hy'⟩ := rep_in g y2
  exact ⟨y', hy', y2, (blk_same E b1 b2 hy').mp y1⟩
theorem rep_ixs (r : Nat) : ixs (pickR (blocksOf d) r).1 d.facts.length = true := by
  refine upTo_all fun k hk => ?_
  unfold ixAt
  obtain ⟨y, e1, e2⟩ := rep_in g (mem_getD 0 hk)
  rw [Bool.and_eq_true]
  refine ⟨by unfold inB; rw [e1]; simp; omega, ?_⟩
  rcases k with _ | k
  · rfl
  · have h4 := List.pairwise_iff_getElem.mp (nth'_asc g r) k (k + 1) (by omega) hk (by omega)
    have a1 : (pickR (blocksOf d) r).1[k] = (pickR (blocksOf d) r).1.getD k 0 := by simp [List.getD_eq_getElem?_getD, (by omega : k < (pickR (blocksOf d) r).1.length)]
    have a2 : (pickR (blocksOf d) r).1[k + 1] = (pickR (blocksOf d) r).1.getD (k + 1) 0 := by simp [List.getD_eq_getElem?_getD, hk]
    rw [a1, a2] at h4
    rw [Bool.or_eq_true, Nat.add_sub_cancel]
    right
    rw [Bool.not_eq_true', decide_eq_false_iff_not]
    omega
theorem keysOf_mem {e : Edge} : e ∈ keysOf d ↔ ∃ a b : Nat, b < d.facts.length ∧ a < b ∧ keyR d a b = true ∧ e = ⟨a, b⟩ := by
  unfold keysOf
  rw [if_pos g, allE_mem]
  constructor
  · rintro ⟨a, b, h1, h2, h3, h4, h5⟩; exact ⟨a, b, h2, h3, h4, h5⟩
  · rintro ⟨a, b, h2, h3, h4, h5⟩; exact ⟨a, b, by omega, h2, h3, h4, h5⟩
theorem keysOf_good : goodEds d.facts.length (keysOf d) = true := by
  unfold keysOf
  rw [if_pos g]
  exact allE_good (goodDb_len g)
theorem rep_indep (r : Nat) : indep (keysOf d) (pickR (blocksOf d) r).1 = true := by
  unfold indep
  refine upTo_all fun k hk => ?_
  unfold edNo
  obtain ⟨a, b, h1, h2, h3, he⟩ := (keysOf_mem g).mp (mem_getD (default : Edge) hk)
  rw [he]
  rcases d1 : decide (((a : Nat) : Int) ∈ (pickR (blocksOf d) r).1)
  · rfl
  rcases d2 : decide (((b : Nat) : Int) ∈ (pickR (blocksOf d) r).1)
  · rfl
  have := rep_one g (of_decide_eq_true d1) (of_decide_eq_true d2) h3
  omega
omit g in
theorem indep_no {l : List Edge} {s : List Int} {e : Edge} (he : e ∈ l) (ha : e.a ∈ s) (hb : e.b ∈ s) : indep l s = false := by
  obtain ⟨k, hk, rfl⟩ := List.mem_iff_getElem.mp he
  have e1 : l.getD k default = l[k] := by simp [List.getD_eq_getElem?_getD, hk]
  refine upTo_false hk ?_
  unfold edNo
  rw [e1, decide_eq_true ha, decide_eq_true hb]; rfl
theorem rep_max (r : Nat) : isMax d.facts.length (keysOf d) (pickR (blocksOf d) r).1 = true := by
  unfold isMax
  rw [keysOf_good g, rep_ixs g, rep_indep g, Int.toNat_natCast]
  refine upTo_all fun x hx => ?_
  unfold fitsE
  rcases d1 : decide (((x : Nat) : Int) ∈ (pickR (blocksOf d) r).1)
  · obtain ⟨y, h1, h2, h3⟩ := rep_hit g (r := r) hx
    have hne : x ≠ y := by
      rintro rfl
      rw [decide_eq_true h2] at d1; cases d1
    have hin : indep (keysOf d) ((pickR (blocksOf d) r).1 ++ [((x : Nat) : Int)]) = false := by
      rcases Nat.lt_or_ge x y with h | h
      · exact indep_no (e := ⟨x, y⟩) ((keysOf_mem g).mpr ⟨x, y, h1, h, h3, rfl⟩) (by simp) (by simp [h2])
      · exact indep_no (e := ⟨y, x⟩) ((keysOf_mem g).mpr ⟨y, x, hx, by omega, (keyR_eqv g).symm x y hx h1 h3, rfl⟩) (by simp [h2]) (by simp)
    rw [hin]; rfl
  · rfl
omit g in
theorem sum_ones : ∀ {l : List (List Int)}, (∀ b ∈ l, 0 < b.length) → l.length = (l.map List.length).sum → ∀ b ∈ l, b.length = 1
  | [], _, _, b, hb => by cases hb
  | c :: l, h, e, b, hb => by
    have h1 := sum_ge (l := l) fun c hc => h c (by simp [hc])
    have h2 := h c (by simp)
    simp only [List.length_cons, List.map_cons, List.sum_cons] at e
    rcases List.mem_cons.mp hb with rfl | hb
    · omega
    · exact sum_ones (fun c hc => h c (by simp [hc])) (by omega) b hb
omit g in
theorem sum_one : ∀ {l : List (List Int)}, (∀ b ∈ l, b.length = 1) → l.length = (l.map List.length).sum
  | [], _ => rfl
  | c :: l, h => by
    have := sum_one (l := l) fun c hc => h c (by simp [hc])
    have := h c (by simp)
    simp only [List.length_cons, List.map_cons, List.sum_cons]
    omega
theorem keys_none : (((keysOf d).length : Int) == 0) = cst d := by
  have E := keyR_eqv g
  have hsum : ((blocksOf d).map List.length).sum = d.facts.length := blk_sum E (Nat.le_refl _)
  have hne : ∀ b ∈ blocksOf d, 0 < b.length := blk_ne E (Nat.le_refl _)
  have key : keysOf d = [] ↔ (blocksOf d).length = d.facts.length := by
    constructor
    · intro h
      rw [← hsum]
      refine sum_one fun b hb => ?_
      have h1 := hne b hb
      rcases Nat.lt_or_ge 1 b.length with h2 | h2
      · obtain ⟨i, hi, hf, rfl⟩ := blk_of hb
        have hp : (clsOf (keyR d) i d.facts.length).Pairwise (· < ·) := List.Pairwise.filter _ List.pairwise_lt_range
        have h3 : 1 < (clsOf (keyR d) i d.facts.length).length := by simpa [castL] using h2
        have h4 := List.pairwise_iff_getElem.mp hp 0 1 (by omega) h3 (by omega)
        obtain ⟨a1, a2⟩ := clsOf_mem.mp (List.getElem_mem (show 0 < (clsOf (keyR d) i d.facts.length).length by omega))
        obtain ⟨b1, b2⟩ := clsOf_mem.mp (List.getElem_mem h3)
        have : (⟨_, _⟩ : Edge) ∈ keysOf d := (keysOf_mem g).mpr ⟨_, _, b1, h4, E.trans _ i _ a1 hi b1 (E.symm i _ hi a1 a2) b2, rfl⟩
        rw [h] at this; cases this
      · omega
    · intro h
      have h1 := sum_ones hne (by omega)
      rcases hk : keysOf d with _ | ⟨e, l⟩
      · rfl
      · obtain ⟨a, b, c1, c2, c3, rfl⟩ := (keysOf_mem g).mp (show e ∈ keysOf d by rw [hk]; simp)
        obtain ⟨B, hB, haB⟩ := blk_cover E (show a < d.facts.length by omega)
        have hbB := (blk_same E hB haB c1).mpr c3
        have h2 := h1 B hB
        obtain ⟨z, rfl⟩ := List.length_eq_one_iff.mp h2
        have := List.mem_singleton.mp haB
        have := List.mem_singleton.mp hbB
        omega
  unfold cst
  rw [g, Bool.true_and, Bool.eq_iff_iff, beq_iff_eq, decide_eq_true_iff, ← key]
  constructor
  · intro h; exact List.length_eq_zero_iff.mp (by omega)
  · intro h; rw [h]; rfl
end rep
theorem edges_nil (d : Db) : edgesOf d [] = keysOf d := by
  unfold edgesOf keysOf confl keyE
  simp only [List.any_nil, Bool.false_or]
end Go.Proofs.YtedciihjgbkjgabGreatDoor.A
