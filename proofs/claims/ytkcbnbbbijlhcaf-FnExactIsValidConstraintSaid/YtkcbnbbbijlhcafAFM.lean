
/- MARKS AND MEMBERS: lists of numbers that a law writes and reads back. Conditions: none. -/
import Derived.Test.YtkcbnbbbijlhcafAF1
import Derived.Test.YtkcbnbbbijlhcafAD2
namespace Go.Proofs.Ytkcbnbbbijlhcaf.A
open Go
set_option linter.unusedSimpArgs false
set_option linter.unusedVariables false
set_option maxRecDepth 100000

theorem i64_plus {k : Int} {i : Nat} (h0 : 0 ≤ k) (h : k + i < 9223372036854775807) : IntKind.i64.wrap (k + i + 1) = k + ((i + 1 : Nat) : Int) := by
  rw [IntWalk.i64_in _ (by omega)]; omega
theorem plus0 (k : Int) : k + ((0 : Nat) : Int) = k := by simp
attribute [go_sem] Int.add_zero Int.ofNat_zero
/-- The numbers from k on. -/
def cnt : Int → Nat → List Int
  | _, 0 => []
  | k, n + 1 => k :: cnt (k + 1) n
theorem cnt_length : ∀ (k : Int) (n : Nat), (cnt k n).length = n
  | _, 0 => rfl
  | k, n + 1 => by rw [cnt, List.length_cons, cnt_length]
theorem cnt_get : ∀ {k : Int} {n i : Nat}, i < n → (cnt k n).getD i 0 = k + i
  | k, n + 1, 0, _ => by simp [cnt]
  | k, n + 1, i + 1, h => by
    rw [cnt, List.getD_cons_succ, cnt_get (by omega)]; omega
theorem cnt_full (k : Int) (n : Nat) : List.take n (cnt k n) = cnt k n := List.take_of_length_le (by rw [cnt_length]; omega)
attribute [go_sem] cnt_full
/-- Where a number stands in a list, or -1. -/
def posI (x : Int) : List Int → Nat → Int
  | [], _ => -1
  | a :: l, k => if a = x then k else posI x l (k + 1)
theorem posI_mem (x : Int) : ∀ (l : List Int) (k : Nat), decide (0 ≤ posI x l k) = decide (x ∈ l)
  | [], k => by simp [posI]
  | a :: l, k => by
    unfold posI
    split
    · rename_i h; subst h; simp
    · rename_i h
      rw [posI_mem x l (k + 1)]
      have : ¬ x = a := fun e => h e.symm
      simp [this]
end Go.Proofs.Ytkcbnbbbijlhcaf.A
