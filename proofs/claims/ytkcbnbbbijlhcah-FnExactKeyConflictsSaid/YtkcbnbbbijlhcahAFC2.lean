
/- VIOLATIONS OF CONSTRAINTS, EQUAL KEYS. Conditions: none. -/
import Derived.Test.YtkcbnbbbijlhcahAFC1
namespace Go.Proofs.Ytkcbnbbbijlhcah.A
open Go
set_option linter.unusedSimpArgs false
set_option linter.unusedVariables false
set_option maxRecDepth 100000

abbrev at0 (l : List Int) (i : Int) : Int := l.getD i.toNat 0
def viol (x : Den) (a b : RI) : Bool := (a.r == x.fr) && ((b.r == x.sr) && ((at0 a.l x.fj == at0 b.l x.sj) && (if x.cp = 1 then at0 a.l x.fc == at0 b.l x.sc else decide (at0 a.l x.fc < at0 b.l x.sc))))
def IdxOk (x : Den) (a b : RI) : Prop := (x.cp = 1 ∨ x.cp = 2) ∧ (a.r = x.fr → b.r = x.sr → (0 ≤ x.fj ∧ x.fj < a.l.length) ∧ (0 ≤ x.sj ∧ x.sj < b.l.length) ∧ (0 ≤ x.fc ∧ x.fc < a.l.length) ∧ (0 ≤ x.sc ∧ x.sc < b.l.length))
theorem idx_ok {d : Db} {x : Den} {a b : RI} (h : goodDen d x = true) (ha : goodFact d.rels a = true) (hb : goodFact d.rels b = true) : IdxOk x a b := by
  unfold goodDen at h
  simp only [Bool.and_eq_true] at h
  obtain ⟨g, i1, i2, j1, j2, j3, j4, j5⟩ := h
  have k1 := inB_of j1
  have k2 := inB_of j2
  have k3 := inB_of j3
  have k4 := inB_of j4
  have k5 := inB_of j5
  refine ⟨by omega, fun e1 e2 => ?_⟩
  obtain ⟨m, hm, hm2, hm3⟩ := fact_at ha
  obtain ⟨n, hn, hn2, hn3⟩ := fact_at hb
  have t1 : x.fr.toNat = m := by omega
  have t2 : x.sr.toNat = n := by omega
  unfold arOf at k1 k2 k3 k4
  rw [t1, ← hm3] at k1 k2
  rw [t2, ← hn3] at k3 k4
  omega
def violB (d : Db) (x : Den) (i k : Int) : Bool := goodDen d x && ((i != k) && (inB i 0 ((d.facts.length : Int) - 1) && (inB k 0 ((d.facts.length : Int) - 1) && viol x (d.facts.getD i.toNat default) (d.facts.getD k.toNat default))))
end Go.Proofs.Ytkcbnbbbijlhcah.A
