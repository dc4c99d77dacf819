/- For every int t the program's IsVariable and the reference's return the same bool. Conditions: none. -/
import Derived.Test.YtpblenpebjkmoaaPFnExactIsVariablex1
namespace Go.Proofs.Ytpblenpebjkmoaa.Pure
open Go.RowKit Go.Proofs.Ytpblenpebjkmoaa.PFnExactIsVariable Go.Proofs.YtpblenpebjkmoaaW.PrintWords Go.Proofs.YtpblenpebjkmoaaW.PrintLast

/-- YOURS: ∀ (a0 : Int), (Lit.int .i64 a0).wf = true → laws_FnExactIsVariable.f a0 = some true
What it reaches (each with k first where it has rounds; `.mono`: more rounds tell the same; `.l0`, ..: its loops, with `.mono_l`): spec_IsVariable.f, impl_IsVariable.f, laws_FnExactIsVariable.f -/
theorem FnExactIsVariable : laws_FnExactIsVariable.Pure := by
  intro a0 _
  unfold laws_FnExactIsVariable.f spec_IsVariable.f impl_IsVariable.f
  simp

end Go.Proofs.Ytpblenpebjkmoaa.Pure
