
/- MARKS AND MEMBERS: lists of numbers that a law writes and reads back. Conditions: none. -/
import Derived.Test.YtobdhbgkmdmpmabAF1
import Derived.Test.YtobdhbgkmdmpmabAD2
namespace Go.Proofs.Ytobdhbgkmdmpmab.A
open Go
set_option linter.unusedSimpArgs false
set_option linter.unusedVariables false
set_option maxRecDepth 100000

theorem i64_plus {k : Int} {i : Nat} (h0 : 0 ≤ k) (h : k + i < 9223372036854775807) : IntKind.i64.wrap (k + i + 1) = k + ((i + 1 : Nat) : Int) := by
  rw [IntWalk.i64_in _ (by omega)]; omega
theorem plus0 (k : Int) : k + ((0 : Nat) : Int) = k := by simp
attribute [go_sem] Int.add_zero Int.ofNat_zero
/-- The numbers from k on. -/
def cnt : Int → Nat → List Int
  | _, 0 => []
  | k, n + 1 => k :: cnt (k + 1) n
theorem cnt_length : ∀ (k : Int) (n : Nat), (cnt k n).length = n
  | _, 0 => rfl
  | k, n + 1 => by rw [cnt, List.length_cons, cnt_length]
theorem cnt_get : ∀ {k : Int} {n i : Nat}, i < n → (cnt k n).getD i 0 = k + i
  | k, n + 1, 0, _ => by simp [cnt]
  | k, n + 1, i + 1, h => by
    rw [cnt, List.getD_cons_succ, cnt_get (by omega)]; omega
theorem cnt_full (k : Int) (n : Nat) : List.take n (cnt k n) = cnt k n := List.take_of_length_le (by rw [cnt_length]; omega)
attribute [go_sem] cnt_full
theorem markIntS_sat (a : List Int) (k : Int) (h : 0 ≤ k ∧ k + a.length ≤ 9223372036854775807) : Sat Try.prog 71 [oInts a, lInt k] [lInt (k + a.length)] [oInts (cnt k a.length), g1] := by
  refine sat_of_body mixed Try.func71 rfl (by kernel_rfl) (by kernel_rfl) (rs := [.tmp 4]) rfl rfl rfl ?_
  simp -implicitDefEqProofs (maxSteps := 2000000) only [go_sem]
  refine awp_loop (Nat × List Int) (fun x => mkSt [(0, .one (.ref 0 1 0 a.length)), (1, .sc (.int .i64 (k + x.1))), (5, .sc (.int .i64 x.1))] [] [(0, (1, ints x.2))] 1000)
    (fun x => x.1 ≤ a.length ∧ x.2.length = a.length ∧ x.2.take x.1 = (cnt k a.length).take x.1) (fun x => a.length - x.1) (0, a) ⟨by simp, rfl, rfl⟩ (le_st _ _ [⟨0, some 0, false, 1, _⟩] [] _ rfl (by simp -implicitDefEqProofs (maxSteps := 2000000) only [go_sem] <;> rfl) (by simp -implicitDefEqProofs (maxSteps := 2000000) only [go_sem] <;> rfl) (by simp -implicitDefEqProofs (maxSteps := 2000000) only [go_sem] <;> rfl)) ?_
  rintro ⟨i, b⟩ ⟨h1, h2, h3⟩
  simp only at h1 h2 h3
  by_cases c1 : i < a.length
  · simp -implicitDefEqProofs (maxSteps := 2000000) only [go_sem, c1, h2, List.length_take, Nat.min_self]
    rw [i64_succ (by omega), i64_plus h.1 (by omega)]
    refine ⟨(i + 1, b.set i (k + i)), ⟨c1, by simpa using h2, ?_⟩, by simp; omega, (le_st _ _ [⟨0, some 0, false, 1, _⟩] [] _ rfl (by simp -implicitDefEqProofs (maxSteps := 2000000) only [go_sem] <;> rfl) (by simp -implicitDefEqProofs (maxSteps := 2000000) only [go_sem] <;> rfl) (by simp -implicitDefEqProofs (maxSteps := 2000000) only [go_sem] <;> rfl))⟩
    have h4 := take_set_snoc (a := cnt k a.length) 0 (by rw [cnt_length]; exact h2) h3 (by rw [cnt_length]; exact c1)
    rwa [cnt_get c1] at h4
  · have hb : b = cnt k a.length := of_take (by rw [cnt_length]; exact h2) h3 (by rw [cnt_length]; omega)
    simp -implicitDefEqProofs (maxSteps := 2000000) only [go_sem, c1, h2, List.length_take, Nat.min_self]
    obtain rfl : i = a.length := by omega
    rw [hb]; exact ⟨rfl, rfl, rfl⟩
/-- Where a number stands in a list, or -1. -/
def posI (x : Int) : List Int → Nat → Int
  | [], _ => -1
  | a :: l, k => if a = x then k else posI x l (k + 1)
theorem posI_mem (x : Int) : ∀ (l : List Int) (k : Nat), decide (0 ≤ posI x l k) = decide (x ∈ l)
  | [], k => by simp [posI]
  | a :: l, k => by
    unfold posI
    split
    · rename_i h; subst h; simp
    · rename_i h
      rw [posI_mem x l (k + 1)]
      have : ¬ x = a := fun e => h e.symm
      simp [this]
end Go.Proofs.Ytobdhbgkmdmpmab.A
