/- For every int v the program's ConstantTerm and the reference's return the same number. Conditions: none. -/
import Derived.Test.YtpblenpebjkmoaaPFnExactConstantTermx1
namespace Go.Proofs.Ytpblenpebjkmoaa.Pure
open Go.RowKit Go.Proofs.Ytpblenpebjkmoaa.PFnExactConstantTerm Go.Proofs.YtpblenpebjkmoaaW.PrintWords Go.Proofs.YtpblenpebjkmoaaW.PrintLast

/-- YOURS: ∀ (a0 : Int), (Lit.int .i64 a0).wf = true → laws_FnExactConstantTerm.f a0 = some true
What it reaches (each with k first where it has rounds; `.mono`: more rounds tell the same; `.l0`, ..: its loops, with `.mono_l`): spec_ConstantTerm.f, impl_ConstantTerm.f, laws_FnExactConstantTerm.f -/
theorem FnExactConstantTerm : laws_FnExactConstantTerm.Pure := by
  intro a0 _
  unfold laws_FnExactConstantTerm.f spec_ConstantTerm.f impl_ConstantTerm.f
  simp

end Go.Proofs.Ytpblenpebjkmoaa.Pure
