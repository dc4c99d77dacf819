
/- VALID RELATIONS, FACTS AND DATABASES. Conditions: none. -/
import Derived.Test.YtbalifgacjmbpaaAFD
namespace Go.Proofs.Ytbalifgacjmbpaa.A
open Go
set_option linter.unusedSimpArgs false
set_option linter.unusedVariables false
set_option maxRecDepth 100000

/-- Does something hold of all numbers below k. -/
def upTo (p : Nat → Bool) : Nat → Bool
  | 0 => true
  | k + 1 => upTo p k && p k
theorem upTo_false {p : Nat → Bool} {n k : Nat} (h : k < n) (hp : p k = false) : upTo p n = false := by
  induction n with
  | zero => omega
  | succ n ih =>
    unfold upTo
    by_cases e : k = n
    · subst e; simp [hp]
    · rw [ih (by omega)]; rfl
theorem upTo_step {p : Nat → Bool} {k : Nat} (h : upTo p k = true) (hp : p k = true) : upTo p (k + 1) = true := by rw [upTo, h, hp]; rfl
theorem upTo_at {p : Nat → Bool} {n k : Nat} (h : upTo p n = true) (hk : k < n) : p k = true := by
  rcases hp : p k
  · rw [upTo_false hk hp] at h; cases h
  · rfl
def inB (x a b : Int) : Bool := decide (a ≤ x) && decide (x ≤ b)
theorem inB_sat (x a b : Int) : Sat Try.prog 53 [lInt x, lInt a, lInt b] [lBool (inB x a b)] [g1, g1, g1] := l1In_sat x a b
theorem inW_sat (x a b : Int) : Sat Try.prog 56 [lInt x, lInt a, lInt b] [lBool (inB x a b)] [g1, g1, g1] := within_sat x a b
theorem inB_of {x a b : Int} (h : inB x a b = true) : a ≤ x ∧ x ≤ b := by
  unfold inB at h
  simpa using h
abbrev n0 (r : Rel) : Int := ((r.name.data.toList.getD 0 0).toNat : Int)
def goodRel (r : Rel) : Bool := ((r.name.size : Int) == 1) && (decide (n0 r ≥ 97) && (decide (n0 r ≤ 122) && (inB r.ar 1 3 && inB r.kl 0 r.ar)))
/-- Is the i-th relation valid, and behind the one before it. -/
def relOk (l : List Rel) (i : Nat) : Bool := goodRel (l.getD i default) && (decide (i = 0) || Op.bytesLess (l.getD (i - 1) default).name.toList (l.getD i default).name.toList)
def goodRels (l : List Rel) : Bool := upTo (relOk l) l.length && decide ((l.length : Int) ≤ 4)
/-- The first number below which something fails, or -1. -/
def firstNo (p : Nat → Bool) : Nat → Nat → Int
  | 0, _ => -1
  | n + 1, k => if p k then firstNo p n (k + 1) else k
theorem firstNo_ge (p : Nat → Bool) : ∀ (n k : Nat), upTo p k = true → decide (firstNo p n k ≥ 0) = !upTo p (k + n)
  | 0, k, h => by rw [Nat.add_zero, h]; rfl
  | n + 1, k, h => by
    unfold firstNo
    split
    · rename_i e
      rw [firstNo_ge p n (k + 1) (upTo_step h e), show k + 1 + n = k + (n + 1) by omega]
    · rename_i e
      rw [upTo_false (k := k) (by omega) (by simpa using e)]
      exact decide_eq_true (by omega)
def valOk (l : List Int) (i : Nat) : Bool := inB (l.getD i 0) 0 9
def goodFact (l : List Rel) (f : RI) : Bool := inB f.r 0 ((l.length : Int) - 1) && (((f.l.length : Int) == (l.getD f.r.toNat default).ar) && upTo (valOk f.l) f.l.length)
end Go.Proofs.Ytbalifgacjmbpaa.A
