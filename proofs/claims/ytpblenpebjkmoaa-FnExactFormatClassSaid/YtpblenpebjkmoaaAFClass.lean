/- CLASSES. Conditions: none. -/
import Derived.Test.YtpblenpebjkmoaaAF1
namespace Go.Proofs.Ytpblenpebjkmoaa.A
open Go
set_option linter.unusedSimpArgs false
set_option linter.unusedVariables false
set_option maxRecDepth 100000
attribute [go_sem] List.replicate_succ List.set_cons_zero List.set_cons_succ
def fmtClass (n : Int) : ByteArray := if n = 0 then ⟨#[110, 111, 110, 101]⟩ else if n = 1 then ⟨#[102, 105, 114, 115, 116]⟩ else if n = 2 then ⟨#[102, 105, 120]⟩ else if n = 3 then ⟨#[104, 97, 114, 100]⟩ else ⟨#[]⟩
theorem specFormatClass_sat (n : Int) : Sat Try.prog 13 [.one (.sc (.int .i64 n))] [.one (.sc (.string (fmtClass n)))] [.one .gone] := by
  refine sat_of_body mixed Try.func13 rfl (by kernel_rfl) (by kernel_rfl) (rs := [.tmp 2]) rfl rfl rfl ?_
  simp -implicitDefEqProofs only [go_sem]
  refine call_of (l1In_sat n 0 3) (by simp -implicitDefEqProofs only [go_sem]) (by kernel_rfl) (by simp -implicitDefEqProofs only [go_sem]) ?_
  simp -implicitDefEqProofs only [go_sem]
  refine cond_split (fun d => ?_) fun d => ?_
  · simp -implicitDefEqProofs only [go_sem]
    have d : n < 0 ∨ 3 < n := by simpa using d
    rw [fmtClass, if_neg (by omega), if_neg (by omega), if_neg (by omega), if_neg (by omega)]
  · have d : 0 ≤ n ∧ n ≤ 3 := by simpa using d
    obtain rfl | rfl | rfl | rfl : n = 0 ∨ n = 1 ∨ n = 2 ∨ n = 3 := by omega
    all_goals
      simp -implicitDefEqProofs only [go_sem]
      rfl
theorem implFormatClass_sat (n : Int) : Sat Try.prog 14 [.one (.sc (.int .i64 n))] [.one (.sc (.string (fmtClass n)))] [.one .gone] := by
  refine sat_of_body mixed Try.func14 rfl (by kernel_rfl) (by kernel_rfl) (rs := [.tmp 2]) rfl rfl rfl ?_
  simp -implicitDefEqProofs only [go_sem]
  refine call_of (within_sat n 0 3) (by simp -implicitDefEqProofs only [go_sem]) (by kernel_rfl) (by simp -implicitDefEqProofs only [go_sem]) ?_
  simp -implicitDefEqProofs only [go_sem]
  refine cond_split (fun d => ?_) fun d => ?_
  · simp -implicitDefEqProofs only [go_sem]
    have d : n < 0 ∨ 3 < n := by simpa using d
    rw [fmtClass, if_neg (by omega), if_neg (by omega), if_neg (by omega), if_neg (by omega)]
  · have d : 0 ≤ n ∧ n ≤ 3 := by simpa using d
    obtain rfl | rfl | rfl | rfl : n = 0 ∨ n = 1 ∨ n = 2 ∨ n = 3 := by omega
    all_goals
      simp -implicitDefEqProofs only [go_sem]
      rfl
theorem lawFormatClass_sat (n : Int) : Sat Try.prog 5 [.one (.sc (.int .i64 n))] [.one (.sc (.bool true))] [.one .gone] := by
  refine sat_of_body mixed Try.func5 rfl (by kernel_rfl) (by kernel_rfl) (rs := [.tmp 2]) rfl rfl rfl ?_
  simp -implicitDefEqProofs only [go_sem]
  refine call_of (specFormatClass_sat n) (by simp -implicitDefEqProofs only [go_sem]) (by kernel_rfl) (by simp -implicitDefEqProofs only [go_sem]) ?_
  simp -implicitDefEqProofs only [go_sem]
  refine call_of (implFormatClass_sat n) (by simp -implicitDefEqProofs only [go_sem]) (by kernel_rfl) (by simp -implicitDefEqProofs only [go_sem]) ?_
  simp -implicitDefEqProofs only [go_sem]
end Go.Proofs.Ytpblenpebjkmoaa.A
