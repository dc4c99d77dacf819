
/- VIOLATIONS OF CONSTRAINTS, EQUAL KEYS. Conditions: none. -/
import Derived.Test.YtobdhbgkmdmpmabAFC1
namespace Go.Proofs.Ytobdhbgkmdmpmab.A
open Go
set_option linter.unusedSimpArgs false
set_option linter.unusedVariables false
set_option maxRecDepth 100000

abbrev at0 (l : List Int) (i : Int) : Int := l.getD i.toNat 0
def viol (x : Den) (a b : RI) : Bool := (a.r == x.fr) && ((b.r == x.sr) && ((at0 a.l x.fj == at0 b.l x.sj) && (if x.cp = 1 then at0 a.l x.fc == at0 b.l x.sc else decide (at0 a.l x.fc < at0 b.l x.sc))))
def IdxOk (x : Den) (a b : RI) : Prop := (x.cp = 1 ∨ x.cp = 2) ∧ (a.r = x.fr → b.r = x.sr → (0 ≤ x.fj ∧ x.fj < a.l.length) ∧ (0 ≤ x.sj ∧ x.sj < b.l.length) ∧ (0 ≤ x.fc ∧ x.fc < a.l.length) ∧ (0 ≤ x.sc ∧ x.sc < b.l.length))
theorem idx_ok {d : Db} {x : Den} {a b : RI} (h : goodDen d x = true) (ha : goodFact d.rels a = true) (hb : goodFact d.rels b = true) : IdxOk x a b := by
  unfold goodDen at h
  simp only [Bool.and_eq_true] at h
  obtain ⟨g, i1, i2, j1, j2, j3, j4, j5⟩ := h
  have k1 := inB_of j1
  have k2 := inB_of j2
  have k3 := inB_of j3
  have k4 := inB_of j4
  have k5 := inB_of j5
  refine ⟨by omega, fun e1 e2 => ?_⟩
  obtain ⟨m, hm, hm2, hm3⟩ := fact_at ha
  obtain ⟨n, hn, hn2, hn3⟩ := fact_at hb
  have t1 : x.fr.toNat = m := by omega
  have t2 : x.sr.toNat = n := by omega
  unfold arOf at k1 k2 k3 k4
  rw [t1, ← hm3] at k1 k2
  rw [t2, ← hn3] at k3 k4
  omega
theorem violates_sat (x : Den) (a b : RI) (hx : IdxOk x a b) : Sat Try.prog 66 [lDen x, lRI a, lRI b] [lBool (viol x a b)] [g7, g2, g2] := by
  refine sat_of_body mixed Try.func66 rfl (by kernel_rfl) (by kernel_rfl) (rs := [.tmp 6]) rfl rfl rfl ?_
  obtain ⟨hc, hx⟩ := hx
  rcases x with ⟨fr, sr, fj, sj, fc, sc, cp⟩
  rcases a with ⟨ar, us⟩
  rcases b with ⟨br, vs⟩
  simp only at hc hx
  rcases d1 : ar != fr
  case true =>
    rw [show viol ⟨fr, sr, fj, sj, fc, sc, cp⟩ ⟨ar, us⟩ ⟨br, vs⟩ = false by rw [viol, show (ar == fr) = false by simpa [bne] using d1]; rfl]
    simp -implicitDefEqProofs (maxSteps := 2000000) only [go_sem, d1]
  rcases d2 : br != sr
  case true =>
    rw [show viol ⟨fr, sr, fj, sj, fc, sc, cp⟩ ⟨ar, us⟩ ⟨br, vs⟩ = false by rw [viol, show (br == sr) = false by simpa [bne] using d2]; simp]
    simp -implicitDefEqProofs (maxSteps := 2000000) only [go_sem, d1, d2]
  have e1 : (ar == fr) = true := by simpa [bne] using d1
  have e2 : (br == sr) = true := by simpa [bne] using d2
  obtain ⟨⟨h1, h2⟩, ⟨h3, h4⟩, ⟨h5, h6⟩, h7, h8⟩ := hx (eq_of_beq e1) (eq_of_beq e2)
  obtain ⟨j1, rfl⟩ : ∃ m : Nat, fj = m := ⟨fj.toNat, by omega⟩
  obtain ⟨j2, rfl⟩ : ∃ m : Nat, sj = m := ⟨sj.toNat, by omega⟩
  obtain ⟨j3, rfl⟩ : ∃ m : Nat, fc = m := ⟨fc.toNat, by omega⟩
  obtain ⟨j4, rfl⟩ : ∃ m : Nat, sc = m := ⟨sc.toNat, by omega⟩
  have c1 : j1 < us.length := by omega
  have c2 : j2 < vs.length := by omega
  have c3 : j3 < us.length := by omega
  have c4 : j4 < vs.length := by omega
  rcases d3 : us.getD j1 0 != vs.getD j2 0
  case true =>
    rw [show viol ⟨fr, sr, j1, j2, j3, j4, cp⟩ ⟨ar, us⟩ ⟨br, vs⟩ = false by rw [viol, show (at0 us j1 == at0 vs j2) = false by simpa [bne] using d3]; simp]
    simp -implicitDefEqProofs (maxSteps := 2000000) only [go_sem, d1, d2, d3, c1, c2]
  have e3 : (us.getD j1 0 == vs.getD j2 0) = true := by simpa [bne] using d3
  rw [show viol ⟨fr, sr, j1, j2, j3, j4, cp⟩ ⟨ar, us⟩ ⟨br, vs⟩ = (if cp = 1 then us.getD j3 0 == vs.getD j4 0 else decide (us.getD j3 0 < vs.getD j4 0)) by
    show ((ar == fr) && ((br == sr) && ((us.getD j1 0 == vs.getD j2 0) && _))) = _
    rw [e1, e2, e3]; rfl]
  rcases hc with rfl | rfl
  · rw [if_pos rfl]
    rcases d4 : us.getD j3 0 == vs.getD j4 0
    · simp -implicitDefEqProofs (maxSteps := 2000000) only [go_sem, d1, d2, d3, c1, c2, c3, c4, d4]
    · simp -implicitDefEqProofs (maxSteps := 2000000) only [go_sem, d1, d2, d3, c1, c2, c3, c4, d4]
  · rw [if_neg (by omega)]
    simp -implicitDefEqProofs (maxSteps := 2000000) only [go_sem, d1, d2, d3, c1, c2, c3, c4]
def violB (d : Db) (x : Den) (i k : Int) : Bool := goodDen d x && ((i != k) && (inB i 0 ((d.facts.length : Int) - 1) && (inB k 0 ((d.facts.length : Int) - 1) && viol x (d.facts.getD i.toNat default) (d.facts.getD k.toNat default))))
theorem implViolatesConstraint_sat (d : Db) (x : Den) (i k : Int) (h : d.fit) : Sat Try.prog 34 [lDb d, lDen x, lInt i, lInt k] [lBool (violB d x i k)] [g2, g7, g1, g1] := by
  refine sat_of_body mixed Try.func34 rfl (by kernel_rfl) (by kernel_rfl) (rs := [.tmp 8]) rfl rfl rfl ?_
  have hb := h.2.1
  have w0 : IntKind.i64.wrap ((d.facts.length : Int) - 1) = (d.facts.length : Int) - 1 := IntWalk.i64_in _ (by omega)
  unfold violB
  simp -implicitDefEqProofs (maxSteps := 2000000) only [go_sem, w0]
  rcases g : goodDen d x
  · refine call_of (implIsValidConstraint_sat d x h) (by simp -implicitDefEqProofs (maxSteps := 2000000) only [go_sem, g]) (by kernel_rfl) (by simp -implicitDefEqProofs (maxSteps := 2000000) only [go_sem, g]) ?_
    simp -implicitDefEqProofs (maxSteps := 2000000) only [go_sem, g]
  rcases d1 : i != k
  · refine call_of (implIsValidConstraint_sat d x h) (by simp -implicitDefEqProofs (maxSteps := 2000000) only [go_sem, g, d1]) (by kernel_rfl) (by simp -implicitDefEqProofs (maxSteps := 2000000) only [go_sem, g, d1]) ?_
    simp -implicitDefEqProofs (maxSteps := 2000000) only [go_sem, g, d1]
  refine call_of (implIsValidConstraint_sat d x h) (by simp -implicitDefEqProofs (maxSteps := 2000000) only [go_sem, g, d1]) (by kernel_rfl) (by simp -implicitDefEqProofs (maxSteps := 2000000) only [go_sem, g, d1]) ?_
  simp -implicitDefEqProofs (maxSteps := 2000000) only [go_sem, g, d1]
  rcases i1 : inB i 0 ((d.facts.length : Int) - 1)
  · refine call_of (inW_sat i 0 ((d.facts.length : Int) - 1)) (by simp -implicitDefEqProofs (maxSteps := 2000000) only [go_sem, i1]) (by kernel_rfl) (by simp -implicitDefEqProofs (maxSteps := 2000000) only [go_sem, i1]) ?_
    simp -implicitDefEqProofs (maxSteps := 2000000) only [go_sem, i1]
  refine call_of (inW_sat i 0 ((d.facts.length : Int) - 1)) (by simp -implicitDefEqProofs (maxSteps := 2000000) only [go_sem, i1]) (by kernel_rfl) (by simp -implicitDefEqProofs (maxSteps := 2000000) only [go_sem, i1]) ?_
  simp -implicitDefEqProofs (maxSteps := 2000000) only [go_sem, i1]
  rcases i2 : inB k 0 ((d.facts.length : Int) - 1)
  · refine call_of (inW_sat k 0 ((d.facts.length : Int) - 1)) (by simp -implicitDefEqProofs (maxSteps := 2000000) only [go_sem, i2]) (by kernel_rfl) (by simp -implicitDefEqProofs (maxSteps := 2000000) only [go_sem, i2]) ?_
    simp -implicitDefEqProofs (maxSteps := 2000000) only [go_sem, i2]
  obtain ⟨r1, r2⟩ := inB_of i1
  obtain ⟨m, rfl⟩ : ∃ m : Nat, i = m := ⟨i.toNat, by omega⟩
  obtain ⟨r3, r4⟩ := inB_of i2
  obtain ⟨n, rfl⟩ : ∃ n : Nat, k = n := ⟨k.toNat, by omega⟩
  have c1 : m < d.facts.length := by omega
  have c2 : n < d.facts.length := by omega
  have gd : goodDb d = true := by unfold goodDen at g; rw [Bool.and_eq_true] at g; exact g.1
  refine call_of (inW_sat n 0 ((d.facts.length : Int) - 1)) (by simp -implicitDefEqProofs (maxSteps := 2000000) only [go_sem, i2, c1, c2]) (by kernel_rfl) (by simp -implicitDefEqProofs (maxSteps := 2000000) only [go_sem, i2, c1, c2]) ?_
  simp -implicitDefEqProofs (maxSteps := 2000000) only [go_sem, i2, c1, c2]
  refine call_of (violates_sat x (d.facts.getD m default) (d.facts.getD n default) (idx_ok g (fact_of gd c1) (fact_of gd c2))) (by simp -implicitDefEqProofs (maxSteps := 2000000) only [go_sem]) (by kernel_rfl) (by simp -implicitDefEqProofs (maxSteps := 2000000) only [go_sem]) ?_
  simp -implicitDefEqProofs (maxSteps := 2000000) only [go_sem]
  rfl
theorem specViolatesConstraint_sat (d : Db) (x : Den) (i k : Int) (h : d.fit) : Sat Try.prog 27 [lDb d, lDen x, lInt i, lInt k] [lBool (violB d x i k)] [g2, g7, g1, g1] := by
  refine sat_of_body mixed Try.func27 rfl (by kernel_rfl) (by kernel_rfl) (rs := [.tmp 8]) rfl rfl rfl ?_
  have hb := h.2.1
  have w0 : IntKind.i64.wrap ((d.facts.length : Int) - 1) = (d.facts.length : Int) - 1 := IntWalk.i64_in _ (by omega)
  simp -implicitDefEqProofs (maxSteps := 2000000) only [go_sem]
  rcases g : goodDen d x
  · rw [show violB d x i k = false by rw [violB, g]; rfl]
    refine call_of (specIsValidConstraint_sat d x h) (by simp -implicitDefEqProofs (maxSteps := 2000000) only [go_sem, g]) (by kernel_rfl) (by simp -implicitDefEqProofs (maxSteps := 2000000) only [go_sem, g]) ?_
    simp -implicitDefEqProofs (maxSteps := 2000000) only [go_sem, g]
  refine call_of (specIsValidConstraint_sat d x h) (by simp -implicitDefEqProofs (maxSteps := 2000000) only [go_sem, g, w0]) (by kernel_rfl) (by simp -implicitDefEqProofs (maxSteps := 2000000) only [go_sem, g, w0]) ?_
  simp -implicitDefEqProofs (maxSteps := 2000000) only [go_sem, g, w0]
  rcases i1 : inB i 0 ((d.facts.length : Int) - 1)
  · rw [show violB d x i k = false by rw [violB, i1]; simp]
    refine call_of (inB_sat i 0 ((d.facts.length : Int) - 1)) (by simp -implicitDefEqProofs (maxSteps := 2000000) only [go_sem, i1]) (by kernel_rfl) (by simp -implicitDefEqProofs (maxSteps := 2000000) only [go_sem, i1]) ?_
    simp -implicitDefEqProofs (maxSteps := 2000000) only [go_sem, i1]
  refine call_of (inB_sat i 0 ((d.facts.length : Int) - 1)) (by simp -implicitDefEqProofs (maxSteps := 2000000) only [go_sem, i1, w0]) (by kernel_rfl) (by simp -implicitDefEqProofs (maxSteps := 2000000) only [go_sem, i1, w0]) ?_
  simp -implicitDefEqProofs (maxSteps := 2000000) only [go_sem, i1, w0]
  rcases i2 : inB k 0 ((d.facts.length : Int) - 1)
  · rw [show violB d x i k = false by rw [violB, i2]; simp]
    refine call_of (inB_sat k 0 ((d.facts.length : Int) - 1)) (by simp -implicitDefEqProofs (maxSteps := 2000000) only [go_sem, i2]) (by kernel_rfl) (by simp -implicitDefEqProofs (maxSteps := 2000000) only [go_sem, i2]) ?_
    simp -implicitDefEqProofs (maxSteps := 2000000) only [go_sem, i2]
  rcases d1 : i == k
  case true =>
    rw [show violB d x i k = false by rw [violB, bne, d1]; simp]
    refine call_of (inB_sat k 0 ((d.facts.length : Int) - 1)) (by simp -implicitDefEqProofs (maxSteps := 2000000) only [go_sem, i2, d1]) (by kernel_rfl) (by simp -implicitDefEqProofs (maxSteps := 2000000) only [go_sem, i2, d1]) ?_
    simp -implicitDefEqProofs (maxSteps := 2000000) only [go_sem, i2, d1]
  obtain ⟨r1, r2⟩ := inB_of i1
  obtain ⟨m, rfl⟩ : ∃ m : Nat, i = m := ⟨i.toNat, by omega⟩
  obtain ⟨r3, r4⟩ := inB_of i2
  obtain ⟨n, rfl⟩ : ∃ n : Nat, k = n := ⟨k.toNat, by omega⟩
  have c1 : m < d.facts.length := by omega
  have c2 : n < d.facts.length := by omega
  have gd : goodDb d = true := by unfold goodDen at g; rw [Bool.and_eq_true] at g; exact g.1
  obtain ⟨hc, hx⟩ := idx_ok g (fact_of gd c1) (fact_of gd c2)
  rw [show violB d x m n = viol x (d.facts.getD m default) (d.facts.getD n default) by rw [violB, g, i1, i2, bne, d1]; rfl]
  refine call_of (inB_sat n 0 ((d.facts.length : Int) - 1)) (by simp -implicitDefEqProofs (maxSteps := 2000000) only [go_sem, i2, d1, c1, c2]) (by kernel_rfl) (by simp -implicitDefEqProofs (maxSteps := 2000000) only [go_sem, i2, d1, c1, c2]) ?_
  simp -implicitDefEqProofs (maxSteps := 2000000) only [go_sem, i2, d1, c1, c2]
  clear g
  rcases x with ⟨fr, sr, fj, sj, fc, sc, cp⟩
  rcases ea : d.facts.getD m default with ⟨ar, us⟩
  rcases eb : d.facts.getD n default with ⟨br, vs⟩
  rw [ea, eb] at hx
  simp only at hc hx
  rcases d1 : ar != fr
  case true =>
    rw [show viol ⟨fr, sr, fj, sj, fc, sc, cp⟩ ⟨ar, us⟩ ⟨br, vs⟩ = false by rw [viol, show (ar == fr) = false by simpa [bne] using d1]; rfl]
    simp -implicitDefEqProofs (maxSteps := 2000000) only [go_sem, d1, ea, eb]
  rcases d2 : br != sr
  case true =>
    rw [show viol ⟨fr, sr, fj, sj, fc, sc, cp⟩ ⟨ar, us⟩ ⟨br, vs⟩ = false by rw [viol, show (br == sr) = false by simpa [bne] using d2]; simp]
    simp -implicitDefEqProofs (maxSteps := 2000000) only [go_sem, d1, d2, ea, eb]
  have e1 : (ar == fr) = true := by simpa [bne] using d1
  have e2 : (br == sr) = true := by simpa [bne] using d2
  obtain ⟨⟨h1, h2⟩, ⟨h3, h4⟩, ⟨h5, h6⟩, h7, h8⟩ := hx (eq_of_beq e1) (eq_of_beq e2)
  obtain ⟨j1, rfl⟩ : ∃ m : Nat, fj = m := ⟨fj.toNat, by omega⟩
  obtain ⟨j2, rfl⟩ : ∃ m : Nat, sj = m := ⟨sj.toNat, by omega⟩
  obtain ⟨j3, rfl⟩ : ∃ m : Nat, fc = m := ⟨fc.toNat, by omega⟩
  obtain ⟨j4, rfl⟩ : ∃ m : Nat, sc = m := ⟨sc.toNat, by omega⟩
  have k1 : j1 < us.length := by omega
  have k2 : j2 < vs.length := by omega
  have k3 : j3 < us.length := by omega
  have k4 : j4 < vs.length := by omega
  rcases d3 : us.getD j1 0 != vs.getD j2 0
  case true =>
    rw [show viol ⟨fr, sr, j1, j2, j3, j4, cp⟩ ⟨ar, us⟩ ⟨br, vs⟩ = false by rw [viol, show (at0 us j1 == at0 vs j2) = false by simpa [bne] using d3]; simp]
    simp -implicitDefEqProofs (maxSteps := 2000000) only [go_sem, d1, d2, d3, k1, k2, ea, eb]
  have e3 : (us.getD j1 0 == vs.getD j2 0) = true := by simpa [bne] using d3
  rw [show viol ⟨fr, sr, j1, j2, j3, j4, cp⟩ ⟨ar, us⟩ ⟨br, vs⟩ = (if cp = 1 then us.getD j3 0 == vs.getD j4 0 else decide (us.getD j3 0 < vs.getD j4 0)) by
    show ((ar == fr) && ((br == sr) && ((us.getD j1 0 == vs.getD j2 0) && _))) = _
    rw [e1, e2, e3]; rfl]
  rcases hc with rfl | rfl
  · rw [if_pos rfl]
    simp -implicitDefEqProofs (maxSteps := 2000000) only [go_sem, d1, d2, d3, k1, k2, k3, k4, ea, eb]
  · rw [if_neg (by omega)]
    simp -implicitDefEqProofs (maxSteps := 2000000) only [go_sem, d1, d2, d3, k1, k2, k3, k4, ea, eb]
end Go.Proofs.Ytobdhbgkmdmpmab.A
