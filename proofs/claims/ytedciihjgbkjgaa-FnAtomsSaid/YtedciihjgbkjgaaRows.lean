/-
  No cell of these rows narrows 'for every input' (looked for: loops, veiled, ifaces, maps, wideKeys, modest, calm, conditions, laid).
  DERIVED. THE GIVEN ROWS OF THIS SEAT. 3 by the template 'for every input the law returns true; each argument reads behind the call as it read before'; 0 by the template 'total and deterministic' (their statements: YtedciihjgbkjgaaTotals.lean).
  GIVEN WITH THE SEED: the statements are not yours to turn. If you find one false, say at which input.
  Laid BY PROGRAM, IN A SANDBOX (cutbox-rows.mjs): the forced cells as the released guide's own fill.sh prints them over the translation 7c3ed9d2a5314d44… (all of the seat's roots in one cut). By AI agents, Wed Nov 11 2026. No macro, syntax, notation, axiom, sorry.
-/
import Derived.Test.YtedciihjgbkjgaaChecked
import GoSem.Claim
import GoSem.ClaimJoined
import GoSem.ClaimMapViews
import Derived.JoinedTies
import Derived.KernelRfl
namespace Go.Proofs.Ytedciihjgbkjgaa
/- THE CELL 'sum', in the pinned program and in every row, IS THE sha256 OF THE DUMP (.gsa) THAT YtedciihjgbkjgaaProg.lean LOADS. Nothing in Lean hashes anything: it is a label: what it is worth is what the hold of that sum in a sandbox is worth. -/
noncomputable def Try.pinned : Pinned := { name := "ytedciihjgbkjgaa", sum := "7c3ed9d2a5314d446a7230e0e2b0f4408868df6b2a16f51bba31b6ba5b242c8c", checked := Try.checked }
namespace Rows
def none {H : Type} : Left H := { results := [], args := [] }

/-- 'laws.FnAttributeClosure': WHATEVER THE INPUT: true; the input reads as it did. -/
def fnAttributeClosureSpec : ChangeSpec := { name := "fnAttributeClosure", fn := fun _ => fun
  | [d] => { results := [.lit (.bool true)], args := [d] }
  | _ => none }
def fnAttributeClosureRow : OpenClaim := { program := "ytedciihjgbkjgaa", sum := "7c3ed9d2a5314d446a7230e0e2b0f4408868df6b2a16f51bba31b6ba5b242c8c", func := "loop.example/g01918/laws.FnAttributeClosure", spec := "fnAttributeClosure", unfollowed := true, recurses := true, apart := false }
def FnAttributeClosureSaid : Prop := fnAttributeClosureRow.holds Try.pinned (OpenSpec.ofChange fnAttributeClosureSpec)

/-- ITS FALSE NEIGHBOUR: 'it returns false'. Refute it at one input. -/
def fnAttributeClosureWrong : ChangeSpec := { name := "fnAttributeClosure", fn := fun _ => fun
  | [d] => { results := [.lit (.bool false)], args := [d] }
  | _ => none }
def FnAttributeClosureWrongFalsely : Prop := fnAttributeClosureRow.holds Try.pinned (OpenSpec.ofChange fnAttributeClosureWrong)

/-- 'laws.FnExactRemoveAtom': WHATEVER THE INPUT: true; the input reads as it did. -/
def fnExactRemoveAtomSpec : ChangeSpec := { name := "fnExactRemoveAtom", fn := fun _ => fun
  | [d1, d2] => { results := [.lit (.bool true)], args := [d1, d2] }
  | _ => none }
def fnExactRemoveAtomRow : OpenClaim := { program := "ytedciihjgbkjgaa", sum := "7c3ed9d2a5314d446a7230e0e2b0f4408868df6b2a16f51bba31b6ba5b242c8c", func := "loop.example/g01918/laws.FnExactRemoveAtom", spec := "fnExactRemoveAtom", apart := false }
def FnExactRemoveAtomSaid : Prop := fnExactRemoveAtomRow.holds Try.pinned (OpenSpec.ofChange fnExactRemoveAtomSpec)

/-- ITS FALSE NEIGHBOUR: 'it returns false'. Refute it at one input. -/
def fnExactRemoveAtomWrong : ChangeSpec := { name := "fnExactRemoveAtom", fn := fun _ => fun
  | [d1, d2] => { results := [.lit (.bool false)], args := [d1, d2] }
  | _ => none }
def FnExactRemoveAtomWrongFalsely : Prop := fnExactRemoveAtomRow.holds Try.pinned (OpenSpec.ofChange fnExactRemoveAtomWrong)

/-- 'laws.FnAtoms': WHATEVER THE INPUT: true; the input reads as it did. -/
def fnAtomsSpec : ChangeSpec := { name := "fnAtoms", fn := fun _ => fun
  | [d] => { results := [.lit (.bool true)], args := [d] }
  | _ => none }
def fnAtomsRow : OpenClaim := { program := "ytedciihjgbkjgaa", sum := "7c3ed9d2a5314d446a7230e0e2b0f4408868df6b2a16f51bba31b6ba5b242c8c", func := "loop.example/g01918/laws.FnAtoms", spec := "fnAtoms", recurses := true, apart := false }
def FnAtomsSaid : Prop := fnAtomsRow.holds Try.pinned (OpenSpec.ofChange fnAtomsSpec)

/-- ITS FALSE NEIGHBOUR: 'it returns false'. Refute it at one input. -/
def fnAtomsWrong : ChangeSpec := { name := "fnAtoms", fn := fun _ => fun
  | [d] => { results := [.lit (.bool false)], args := [d] }
  | _ => none }
def FnAtomsWrongFalsely : Prop := fnAtomsRow.holds Try.pinned (OpenSpec.ofChange fnAtomsWrong)

/- THE SECOND FORM. 'bulk': how many values and letters a reading holds, each counted each time it is reached (what is shared counts as often as it is met; a slice's spare places count too). A statement '..UptoSaid' is the law's where the arguments, and the package variables that the reading takes, are together of bulk at most 1048576: NARROWER than '..Said'. Prove '..Said' where nothing that the law and all that it calls make is longer than what came in: it says more and counts as full. Else prove '..UptoSaid'. A law counts once. -/
mutual
def uptoBulk {H : Type} : DataW H → Nat
  | .lit (.string bytes) => bytes.length + 1
  | .lit _ => 1
  | .nil => 1
  | .ptr d => uptoBulk d + 1
  | .slice elems spare => uptoBulkAll elems + uptoBulkAll spare + 1
  | .agg parts => uptoBulkAll parts + 1
  | .iface _ d => uptoBulk d + 1
  | .map entries => uptoBulkEntries entries + 1
  | .held _ => 1
def uptoBulkAll {H : Type} : List (DataW H) → Nat
  | [] => 0
  | d :: r => uptoBulk d + uptoBulkAll r
def uptoBulkEntries {H : Type} : List (Lit × DataW H) → Nat
  | [] => 0
  | x :: r => uptoBulkEntry x + uptoBulkEntries r
def uptoBulkEntry {H : Type} : Lit × DataW H → Nat
  | (.string bytes, d) => bytes.length + uptoBulk d + 1
  | (_, d) => uptoBulk d + 1
 end
def uptoSmall : (H : Type) → List (DataW H) → Bool := fun _ ds => decide (uptoBulkAll ds ≤ 1048576)
def OpenSpec.upto (s : _root_.Go.ChangeSpec) : _root_.Go.OpenSpec := { _root_.Go.OpenSpec.ofChange s with cond := some uptoSmall }

/-- 'laws.FnAttributeClosure', WHERE WHAT IT READS IS OF BULK AT MOST 1048576: true; the input reads as it did. -/
def fnAttributeClosureUptoRow : OpenClaim := { program := "ytedciihjgbkjgaa", sum := "7c3ed9d2a5314d446a7230e0e2b0f4408868df6b2a16f51bba31b6ba5b242c8c", func := "loop.example/g01918/laws.FnAttributeClosure", spec := "fnAttributeClosure", unfollowed := true, recurses := true, apart := false, narrowed := true }
def FnAttributeClosureUptoSaid : Prop := fnAttributeClosureUptoRow.holds Try.pinned (OpenSpec.upto fnAttributeClosureSpec)

/-- 'laws.FnExactRemoveAtom', WHERE WHAT IT READS IS OF BULK AT MOST 1048576: true; the input reads as it did. -/
def fnExactRemoveAtomUptoRow : OpenClaim := { program := "ytedciihjgbkjgaa", sum := "7c3ed9d2a5314d446a7230e0e2b0f4408868df6b2a16f51bba31b6ba5b242c8c", func := "loop.example/g01918/laws.FnExactRemoveAtom", spec := "fnExactRemoveAtom", apart := false, narrowed := true }
def FnExactRemoveAtomUptoSaid : Prop := fnExactRemoveAtomUptoRow.holds Try.pinned (OpenSpec.upto fnExactRemoveAtomSpec)

/-- 'laws.FnAtoms', WHERE WHAT IT READS IS OF BULK AT MOST 1048576: true; the input reads as it did. -/
def fnAtomsUptoRow : OpenClaim := { program := "ytedciihjgbkjgaa", sum := "7c3ed9d2a5314d446a7230e0e2b0f4408868df6b2a16f51bba31b6ba5b242c8c", func := "loop.example/g01918/laws.FnAtoms", spec := "fnAtoms", recurses := true, apart := false, narrowed := true }
def FnAtomsUptoSaid : Prop := fnAtomsUptoRow.holds Try.pinned (OpenSpec.upto fnAtomsSpec)

end Rows
end Go.Proofs.Ytedciihjgbkjgaa
