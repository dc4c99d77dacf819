/- For every int t the program's TermValue and the reference's return the same number and the same bool. Conditions: none. -/
import Derived.Test.YtpblenpebjkmoaaPFnExactTermValuex1
namespace Go.Proofs.Ytpblenpebjkmoaa.Pure
open Go.RowKit Go.Proofs.Ytpblenpebjkmoaa.PFnExactTermValue Go.Proofs.YtpblenpebjkmoaaW.PrintWords Go.Proofs.YtpblenpebjkmoaaW.PrintLast

/-- YOURS: ∀ (a0 : Int), (Lit.int .i64 a0).wf = true → laws_FnExactTermValue.f a0 = some true
What it reaches (each with k first where it has rounds; `.mono`: more rounds tell the same; `.l0`, ..: its loops, with `.mono_l`): spec_l1In.f, spec_TermValue.f, impl_within.f, impl_TermValue.f, laws_FnExactTermValue.f -/
theorem FnExactTermValue : laws_FnExactTermValue.Pure := by
  intro a0 h
  have hw : -9223372036854775808 ≤ a0 ∧ a0 ≤ 9223372036854775807 := by
    simpa [Lit.wf, IntKind.min, IntKind.max, IntKind.signed, IntKind.bits] using h
  have key : spec_TermValue.f a0 = impl_TermValue.f a0 := by
    unfold spec_TermValue.f impl_TermValue.f spec_l1In.f impl_within.f
    by_cases h1 : a0 ≥ 0
    · rw [if_pos h1]
      by_cases h2 : -10 ≤ a0
      · rw [if_pos h2]
        have h3 : decide (a0 ≤ -1) = false := by simp; omega
        simp [h3]
      · omega
    · rw [if_neg h1]
      have hwr : wrap64 (-1 - a0) = -1 - a0 := by unfold wrap64; omega
      rw [hwr]
      have h2 : (-1 - a0) ≥ 0 := by omega
      rw [if_pos h2]
      by_cases h3 : -10 ≤ a0
      · rw [if_pos h3]
        have e1 : decide (-1 - a0 ≤ 9) = true := by simp; omega
        have e2 : decide (a0 ≤ -1) = true := by simp; omega
        simp [e1, e2]
      · rw [if_neg h3]
        have e1 : decide (-1 - a0 ≤ 9) = false := by simp; omega
        simp [e1]
  unfold laws_FnExactTermValue.f
  rw [key]
  have : ∃ p, impl_TermValue.f a0 = some p := by
    unfold impl_TermValue.f impl_within.f
    split <;> simp <;> split <;> simp
  obtain ⟨p, hp⟩ := this
  rw [hp]
  simp

end Go.Proofs.Ytpblenpebjkmoaa.Pure
