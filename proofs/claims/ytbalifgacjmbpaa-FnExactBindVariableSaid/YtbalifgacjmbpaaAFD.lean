
/- RELATIONS, FACTS AND DATABASES: size, copy, comparison, marks. Conditions: none. -/
import Derived.Test.YtbalifgacjmbpaaAFMQ
namespace Go.Proofs.Ytbalifgacjmbpaa.A
open Go
set_option linter.unusedSimpArgs false
set_option linter.unusedVariables false
set_option maxRecDepth 100000

def szRel (a : Rel) (n : Int) : Int := if n - a.name.size < 0 then -1 else n - a.name.size
def Rel.ok (a : Rel) : Prop := a.name.size ≤ 1048576
def Rel.fit (a : Rel) : Prop := a.name.size ≤ 9223372036854775807
theorem szRel_ok : SzOk szRel Rel.ok := by
  intro a n h
  unfold szRel Rel.ok
  split
  · exact ⟨by omega, fun h => absurd (by omega) h⟩
  · exact ⟨by omega, fun h => by omega⟩
theorem Rel.eq_iff (a b : Rel) : decide (a = b) = (decide (a.name = b.name) && (decide (a.ar = b.ar) && decide (a.kl = b.kl))) := by cases a; cases b; simp
def szDb (d : Db) (n : Int) : Int := if szAll szRel d.rels n < 0 then -1 else szAll szRI d.facts (szAll szRel d.rels n)
def Db.ok (d : Db) : Prop := (d.rels.length ≤ 1048576 ∧ ∀ x ∈ d.rels, x.ok) ∧ (d.facts.length ≤ 1048576 ∧ ∀ x ∈ d.facts, x.ok)
def Db.fit (d : Db) : Prop := (d.rels.length ≤ 9223372036854775807 ∧ ∀ x ∈ d.rels, x.fit) ∧ (d.facts.length ≤ 9223372036854775807 ∧ ∀ x ∈ d.facts, x.fit)
theorem Rel.ok.fit {a : Rel} (h : a.ok) : a.fit := by unfold Rel.ok at h; unfold Rel.fit; omega
theorem Db.ok.fit {d : Db} (h : d.ok) : d.fit := by
  unfold Db.ok at h; unfold Db.fit
  exact ⟨⟨by omega, fun x hx => (h.1.2 x hx).fit⟩, by omega, fun x hx => (h.2.2 x hx).fit⟩
theorem szDb_ok : SzOk szDb Db.ok := by
  intro d n h
  unfold szDb Db.ok
  have h1 := szAll_ok szRel_ok d.rels n h
  split
  · exact ⟨by omega, fun h => absurd (by omega) h⟩
  · rename_i c
    have h2 := szAll_ok szRI_ok d.facts _ h1.1
    exact ⟨h2.1, fun h3 => ⟨h1.2 c, h2.2 h3⟩⟩
theorem Db.eq_iff (a b : Db) : decide (a = b) = (decide (a.rels = b.rels) && decide (a.facts = b.facts)) := by cases a; cases b; simp
end Go.Proofs.Ytbalifgacjmbpaa.A
