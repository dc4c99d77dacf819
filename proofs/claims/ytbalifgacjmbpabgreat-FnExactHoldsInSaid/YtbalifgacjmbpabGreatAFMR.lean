
/- MARKS OF RELATIONS. Conditions: none. -/
import Derived.Test.YtbalifgacjmbpabGreatAFD
namespace Go.Proofs.YtbalifgacjmbpabGreat.A
open Go
set_option linter.unusedSimpArgs false
set_option linter.unusedVariables false
set_option maxRecDepth 100000

def digit (k : Nat) : ByteArray := ⟨[UInt8.ofNat (48 + k % 10)].toArray⟩
def mD : Nat → Nat → ByteArray → ByteArray
  | 0, _, out => out
  | f + 1, k, out => if k = 0 then out else mD f (k / 10) (digit k ++ out)
def markT (k : Int) : ByteArray := if k ≤ 0 then ⟨#[109, 48]⟩ else ⟨#[109]⟩ ++ mD k.toNat k.toNat ByteArray.empty
theorem digit_size (k : Nat) : (digit k).size = 1 := rfl
theorem mD_zero (f : Nat) (out : ByteArray) : mD f 0 out = out := by cases f <;> simp [mD]
theorem u8_digit (k : Nat) : IntKind.u8.wrap (IntKind.i64.wrap (48 + ((k : Int).tmod 10))) = ((48 + k % 10 : Nat) : Int) := by
  have h : (k : Int).tmod 10 = ((k % 10 : Nat) : Int) := by rw [Int.tmod_eq_emod_of_nonneg (by omega)]; omega
  rw [h, IntWalk.i64_in _ (by omega)]
  have h2 : k % 10 < 10 := Nat.mod_lt _ (by omega)
  unfold IntKind.wrap
  simp [IntKind.signed, IntKind.bits]
  omega
theorem i64_div10 {k : Nat} (h : k ≤ 9223372036854775807) : IntKind.i64.wrap ((k : Int).tdiv 10) = ((k / 10 : Nat) : Int) := by
  have h1 : (k : Int).tdiv 10 = ((k / 10 : Nat) : Int) := by rw [Int.tdiv_eq_ediv_of_nonneg (by omega)]; omega
  rw [h1, IntWalk.i64_in _ (by omega)]
theorem markText_sat (k : Int) (h : k + 1 ≤ 9223372036854775807) : Sat Tryz.prog 86 [lInt k] [lStr (markT k)] [g1] := by
  refine sat_of_body mixed Tryz.func86 rfl (by kernel_rfl) (by kernel_rfl) (rs := [.tmp 2]) rfl rfl rfl ?_
  unfold markT
  simp -implicitDefEqProofs (maxSteps := 2000000) only [go_sem]
  refine cond_split (fun d => ?_) fun d => ?_
  · simp -implicitDefEqProofs (maxSteps := 2000000) only [go_sem]
    rw [if_pos (of_decide_eq_true d)]
  have d := of_decide_eq_false d
  rw [if_neg d]
  obtain ⟨n, rfl⟩ : ∃ n : Nat, k = n := ⟨k.toNat, by omega⟩
  rw [Int.toNat_natCast]
  simp -implicitDefEqProofs (maxSteps := 2000000) only [go_sem]
  refine awp_loop (Nat × ByteArray × Nat) (fun x => mkSt [(0, .sc (.int .i64 x.1)), (3, .sc (.string x.2.1))] [] [] 1000)
    (fun x => x.1 ≤ x.2.2 ∧ x.2.1.size + x.1 ≤ n ∧ mD x.2.2 x.1 x.2.1 = mD n n ByteArray.empty) (fun x => x.1) (n, ByteArray.empty, n) ⟨by simp, by simp, rfl⟩ (le_st _ _ [] [] _ rfl (by simp -implicitDefEqProofs (maxSteps := 2000000) only [go_sem] <;> rfl) trivial trivial) ?_
  rintro ⟨m, out, f⟩ ⟨h1, h2, h3⟩
  simp only at h1 h2 h3
  by_cases c1 : 0 < m
  · obtain ⟨f, rfl⟩ : ∃ g, f = g + 1 := ⟨f - 1, by omega⟩
    rw [mD, if_neg (by omega)] at h3
    have c2 : (m : Int) > 0 := by omega
    have e1 := u8_digit m
    have e2 := i64_div10 (k := m) (by omega)
    simp -implicitDefEqProofs (maxSteps := 2000000) only [go_sem, c1, c2, e1, e2]
    have h10 : m % 10 < 10 := Nat.mod_lt _ (by omega)
    refine ⟨by omega, [UInt8.ofNat (48 + m % 10)], ?_, ?_, by omega, (m / 10, digit m ++ out, f), ⟨?_, ?_, h3⟩, ?_, (le_st _ _ [] [] _ rfl (by simp -implicitDefEqProofs (maxSteps := 2000000) only [go_sem] <;> rfl) trivial trivial)⟩
    · have h8 : (UInt8.ofNat (48 + m % 10)).toNat = 48 + m % 10 := by rw [UInt8.toNat_ofNat']; omega
      simp [lift, h8]
      omega
    · show (digit m).size + out.size ≤ _
      rw [digit_size]; omega
    · simp only; omega
    · simp only [ByteArray.size_append, digit_size]; omega
    · simp only; omega
  · obtain rfl : m = 0 := by omega
    rw [mD_zero] at h3
    simp -implicitDefEqProofs (maxSteps := 2000000) only [go_sem]
    exact ⟨by show 1 + out.size ≤ _; omega, by rw [← h3]⟩
theorem markRelationS_sat (a : List Rel) (k : Int) (h : 0 ≤ k ∧ k + ((3 * a.length : Nat) : Int) ≤ 9223372036854775807) (hl : a.length ≤ 9223372036854775807) : Sat Tryz.prog 55 [oRels a, lInt k] [lInt (k + ((3 * a.length : Nat) : Int))] [g1, g1] := by
  refine sat_of_body mixed Tryz.func55 rfl (by kernel_rfl) (by kernel_rfl) (rs := [.tmp 4]) rfl rfl rfl ?_
  simp -implicitDefEqProofs (maxSteps := 2000000) only [go_sem]
  refine awp_loop (Nat × List Rel) (fun x => mkSt [(0, .one (.ref 0 3 0 a.length)), (1, .sc (.int .i64 (k + ((3 * x.1 : Nat) : Int)))), (5, .sc (.int .i64 x.1))] [] [(0, (3, rels x.2))] 1000)
    (fun x => x.1 ≤ a.length ∧ x.2.length = a.length) (fun x => a.length - x.1) (0, a) ⟨by simp, rfl⟩ (le_st _ _ [⟨0, some 0, false, 3, _⟩] [] _ rfl (by simp -implicitDefEqProofs (maxSteps := 2000000) only [go_sem, Nat.mul_zero] <;> rfl) (by simp -implicitDefEqProofs (maxSteps := 2000000) only [go_sem, Nat.mul_zero] <;> rfl) (by simp -implicitDefEqProofs (maxSteps := 2000000) only [go_sem, Nat.mul_zero] <;> rfl)) ?_
  rintro ⟨i, b⟩ ⟨h1, h2⟩
  simp only at h1 h2
  by_cases c1 : i < a.length
  · have w1 : IntKind.i64.wrap (k + ((3 * i : Nat) : Int) + 1) = k + ((3 * i : Nat) : Int) + 1 := IntWalk.i64_in _ (by omega)
    have w2 : IntKind.i64.wrap (k + ((3 * i : Nat) : Int) + 1 + 1) = k + ((3 * i : Nat) : Int) + 1 + 1 := IntWalk.i64_in _ (by omega)
    have w3 : IntKind.i64.wrap (k + ((3 * i : Nat) : Int) + 1 + 1 + 1) = k + ((3 * (i + 1) : Nat) : Int) := by rw [IntWalk.i64_in _ (by omega)]; omega
    simp -implicitDefEqProofs (maxSteps := 2000000) only [go_sem, c1, h2, List.length_take, Nat.min_self]
    refine call_of (markText_sat (k + ((3 * i : Nat) : Int)) (by omega)) (by simp -implicitDefEqProofs (maxSteps := 2000000) only [go_sem, c1, h2, List.length_take, Nat.min_self, w1, w2, w3]) (by kernel_rfl) (by simp -implicitDefEqProofs (maxSteps := 2000000) only [go_sem, c1, h2, List.length_take, Nat.min_self, w1, w2, w3]) ?_
    simp -implicitDefEqProofs (maxSteps := 2000000) only [go_sem, c1, h2, List.length_take, Nat.min_self, w1, w2, w3]
    rw [i64_succ (by omega)]
    exact ⟨(i + 1, b.set i ⟨markT (k + ((3 * i : Nat) : Int)), k + ((3 * i : Nat) : Int) + 1, k + ((3 * i : Nat) : Int) + 1 + 1⟩), ⟨c1, by simpa using h2⟩, by simp; omega, (le_st _ _ [⟨0, some 0, false, 3, _⟩] [] _ rfl (by simp -implicitDefEqProofs (maxSteps := 2000000) only [go_sem, c1, h2] <;> rfl) (by simp -implicitDefEqProofs (maxSteps := 2000000) only [go_sem, c1, h2] <;> rfl) (by simp -implicitDefEqProofs (maxSteps := 2000000) only [go_sem, c1, h2] <;> rfl))⟩
  · obtain rfl : i = a.length := by omega
    simp -implicitDefEqProofs (maxSteps := 2000000) only [go_sem, c1, h2, List.length_take, Nat.min_self]
end Go.Proofs.YtbalifgacjmbpabGreat.A
