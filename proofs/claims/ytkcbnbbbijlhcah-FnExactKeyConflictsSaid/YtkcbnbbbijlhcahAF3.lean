
/- ATOMS AND QUERIES: size, copy, comparison. Conditions: none. -/
import Derived.Test.YtkcbnbbbijlhcahAF1
import Derived.Test.YtkcbnbbbijlhcahAD2
namespace Go.Proofs.Ytkcbnbbbijlhcah.A
open Go
set_option linter.unusedSimpArgs false
set_option linter.unusedVariables false
set_option maxRecDepth 100000

/-! #### measures of size -/
def szF {α : Type} (f : α → Int → Int) : List α → Int → Int
  | [], n => n
  | a :: l, n => if f a n < 0 then -1 else szF f l (f a n)
def szAll {α : Type} (f : α → Int → Int) (l : List α) (n : Int) : Int := if n - l.length < 0 then -1 else szF f l (n - l.length)
def SzOk {α : Type} (f : α → Int → Int) (P : α → Prop) : Prop := ∀ a n, -1 ≤ n ∧ n ≤ 1048576 → (-1 ≤ f a n ∧ f a n ≤ 1048576) ∧ (¬ f a n < 0 → P a)
theorem szF_ok {α : Type} {f : α → Int → Int} {P : α → Prop} (h : SzOk f P) : ∀ (l : List α) (n : Int), -1 ≤ n ∧ n ≤ 1048576 → (-1 ≤ szF f l n ∧ szF f l n ≤ 1048576) ∧ (¬ szF f l n < 0 → ∀ a ∈ l, P a)
  | [], n, hn => ⟨hn, fun _ => by simp⟩
  | a :: l, n, hn => by
    unfold szF
    have h1 := h a n hn
    split
    · exact ⟨by omega, fun h => absurd (by omega) h⟩
    · rename_i c
      have h2 := szF_ok h l (f a n) h1.1
      exact ⟨h2.1, fun h3 => by simp only [List.mem_cons, forall_eq_or_imp]; exact ⟨h1.2 c, h2.2 h3⟩⟩
theorem szAll_ok {α : Type} {f : α → Int → Int} {P : α → Prop} (h : SzOk f P) : SzOk (szAll f) (fun l => l.length ≤ 1048576 ∧ ∀ a ∈ l, P a) := by
  intro l n hn
  unfold szAll
  split
  · exact ⟨by omega, fun h => absurd (by omega) h⟩
  · have h2 := szF_ok h l (n - l.length) (by omega)
    exact ⟨h2.1, fun h3 => ⟨by omega, h2.2 h3⟩⟩
theorem szl_ok : SzOk szl (fun a => a.length ≤ 1048576) := fun a n h => ⟨szl_le h, fun c => szl_len h.2 c⟩
def szRI (a : RI) (n : Int) : Int := szl a.l n
def RI.ok (a : RI) : Prop := a.l.length ≤ 1048576
def RI.fit (a : RI) : Prop := a.l.length ≤ 9223372036854775807
theorem szRI_ok : SzOk szRI RI.ok := fun a n h => szl_ok a.l n h

theorem mem_getD {α : Type} {l : List α} {k : Nat} (d : α) (h : k < l.length) : l.getD k d ∈ l := by
  rw [List.getD_eq_getElem?_getD, List.getElem?_eq_getElem h]; exact List.getElem_mem h
def szQu (q : Qu) (n : Int) : Int := if szAll szRI q.atoms n < 0 then -1 else szl q.free (szAll szRI q.atoms n)
def Qu.ok (q : Qu) : Prop := (q.atoms.length ≤ 1048576 ∧ ∀ x ∈ q.atoms, x.ok) ∧ q.free.length ≤ 1048576
def Qu.fit (q : Qu) : Prop := (q.atoms.length ≤ 9223372036854775807 ∧ ∀ x ∈ q.atoms, x.fit) ∧ q.free.length ≤ 9223372036854775807
theorem RI.ok.fit {a : RI} (h : a.ok) : a.fit := by unfold RI.ok at h; unfold RI.fit; omega
theorem Qu.ok.fit {q : Qu} (h : q.ok) : q.fit := by
  unfold Qu.ok at h; unfold Qu.fit
  exact ⟨⟨by omega, fun x hx => (h.1.2 x hx).fit⟩, by omega⟩
theorem szQu_ok : SzOk szQu Qu.ok := by
  intro q n h
  unfold szQu Qu.ok
  have h1 := szAll_ok szRI_ok q.atoms n h
  split
  · exact ⟨by omega, fun h => absurd (by omega) h⟩
  · rename_i c
    have h2 := szl_ok q.free _ h1.1
    exact ⟨h2.1, fun h3 => ⟨h1.2 c, h2.2 h3⟩⟩
theorem RI.eq_iff (a b : RI) : decide (a = b) = (decide (a.r = b.r) && decide (a.l = b.l)) := by cases a; cases b; simp
theorem Qu.eq_iff (a b : Qu) : decide (a = b) = (decide (a.vc = b.vc) && (decide (a.atoms = b.atoms) && decide (a.free = b.free))) := by cases a; cases b; simp
theorem list_step {α : Type} (d : α) {a b : List α} {k : Nat} (h1 : k < a.length) (h2 : k < b.length) (h : a.take k = b.take k) (e : a.getD k d = b.getD k d) : a.take (k + 1) = b.take (k + 1) := by
  rw [take_snoc d h1, take_snoc d h2, h, e]
theorem list_ne {α : Type} {d : α} {a b : List α} {k : Nat} (e : a.getD k d ≠ b.getD k d) : a ≠ b := fun h => e (by rw [h])
end Go.Proofs.Ytkcbnbbbijlhcah.A
