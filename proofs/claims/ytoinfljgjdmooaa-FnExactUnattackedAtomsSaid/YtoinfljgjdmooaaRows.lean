/-
  No cell of these rows narrows 'for every input' (looked for: loops, veiled, ifaces, maps, wideKeys, modest, calm, conditions, laid).
  DERIVED. THE GIVEN ROWS OF THIS SEAT. 6 by the template 'for every input the law returns true; each argument reads behind the call as it read before'; 0 by the template 'total and deterministic' (their statements: YtoinfljgjdmooaaTotals.lean).
  GIVEN WITH THE SEED: the statements are not yours to turn. If you find one false, say at which input.
  Laid BY PROGRAM, IN A SANDBOX (cutbox-rows.mjs): the forced cells as the released guide's own fill.sh prints them over the translation c53428528c701184… (all of the seat's roots in one cut). By AI agents, Wed Nov 11 2026. No macro, syntax, notation, axiom, sorry.
-/
import Derived.Test.YtoinfljgjdmooaaChecked
import GoSem.Claim
import GoSem.ClaimJoined
import GoSem.ClaimMapViews
import Derived.JoinedTies
import Derived.KernelRfl
namespace Go.Proofs.Ytoinfljgjdmooaa
/- THE CELL 'sum', in the pinned program and in every row, IS THE sha256 OF THE DUMP (.gsa) THAT YtoinfljgjdmooaaProg.lean LOADS. Nothing in Lean hashes anything: it is a label: what it is worth is what the hold of that sum in a sandbox is worth. -/
noncomputable def Try.pinned : Pinned := { name := "ytoinfljgjdmooaa", sum := "c53428528c701184a02ac6a856df0cd138383e6aa2e2b25c5944596ce412ede0", checked := Try.checked }
namespace Rows
def none {H : Type} : Left H := { results := [], args := [] }

/-- 'laws.FnExactKeyClosure': WHATEVER THE INPUT: true; the input reads as it did. -/
def fnExactKeyClosureSpec : ChangeSpec := { name := "fnExactKeyClosure", fn := fun _ => fun
  | [d1, d2, d3] => { results := [.lit (.bool true)], args := [d1, d2, d3] }
  | _ => none }
def fnExactKeyClosureRow : OpenClaim := { program := "ytoinfljgjdmooaa", sum := "c53428528c701184a02ac6a856df0cd138383e6aa2e2b25c5944596ce412ede0", func := "loop.example/g01918/laws.FnExactKeyClosure", spec := "fnExactKeyClosure", unfollowed := true, recurses := true, apart := false }
def FnExactKeyClosureSaid : Prop := fnExactKeyClosureRow.holds Try.pinned (OpenSpec.ofChange fnExactKeyClosureSpec)

/-- ITS FALSE NEIGHBOUR: 'it returns false'. Refute it at one input. -/
def fnExactKeyClosureWrong : ChangeSpec := { name := "fnExactKeyClosure", fn := fun _ => fun
  | [d1, d2, d3] => { results := [.lit (.bool false)], args := [d1, d2, d3] }
  | _ => none }
def FnExactKeyClosureWrongFalsely : Prop := fnExactKeyClosureRow.holds Try.pinned (OpenSpec.ofChange fnExactKeyClosureWrong)

/-- 'laws.FnExactHasAttack': WHATEVER THE INPUT: true; the input reads as it did. -/
def fnExactHasAttackSpec : ChangeSpec := { name := "fnExactHasAttack", fn := fun _ => fun
  | [d1, d2, d3, d4] => { results := [.lit (.bool true)], args := [d1, d2, d3, d4] }
  | _ => none }
def fnExactHasAttackRow : OpenClaim := { program := "ytoinfljgjdmooaa", sum := "c53428528c701184a02ac6a856df0cd138383e6aa2e2b25c5944596ce412ede0", func := "loop.example/g01918/laws.FnExactHasAttack", spec := "fnExactHasAttack", unfollowed := true, recurses := true, apart := false }
def FnExactHasAttackSaid : Prop := fnExactHasAttackRow.holds Try.pinned (OpenSpec.ofChange fnExactHasAttackSpec)

/-- ITS FALSE NEIGHBOUR: 'it returns false'. Refute it at one input. -/
def fnExactHasAttackWrong : ChangeSpec := { name := "fnExactHasAttack", fn := fun _ => fun
  | [d1, d2, d3, d4] => { results := [.lit (.bool false)], args := [d1, d2, d3, d4] }
  | _ => none }
def FnExactHasAttackWrongFalsely : Prop := fnExactHasAttackRow.holds Try.pinned (OpenSpec.ofChange fnExactHasAttackWrong)

/-- 'laws.FnExactFindTwoCycle': WHATEVER THE INPUT: true; the input reads as it did. -/
def fnExactFindTwoCycleSpec : ChangeSpec := { name := "fnExactFindTwoCycle", fn := fun _ => fun
  | [d1, d2] => { results := [.lit (.bool true)], args := [d1, d2] }
  | _ => none }
def fnExactFindTwoCycleRow : OpenClaim := { program := "ytoinfljgjdmooaa", sum := "c53428528c701184a02ac6a856df0cd138383e6aa2e2b25c5944596ce412ede0", func := "loop.example/g01918/laws.FnExactFindTwoCycle", spec := "fnExactFindTwoCycle", unfollowed := true, recurses := true, apart := false }
def FnExactFindTwoCycleSaid : Prop := fnExactFindTwoCycleRow.holds Try.pinned (OpenSpec.ofChange fnExactFindTwoCycleSpec)

/-- ITS FALSE NEIGHBOUR: 'it returns false'. Refute it at one input. -/
def fnExactFindTwoCycleWrong : ChangeSpec := { name := "fnExactFindTwoCycle", fn := fun _ => fun
  | [d1, d2] => { results := [.lit (.bool false)], args := [d1, d2] }
  | _ => none }
def FnExactFindTwoCycleWrongFalsely : Prop := fnExactFindTwoCycleRow.holds Try.pinned (OpenSpec.ofChange fnExactFindTwoCycleWrong)

/-- 'laws.FnExactIsWeakAttack': WHATEVER THE INPUT: true; the input reads as it did. -/
def fnExactIsWeakAttackSpec : ChangeSpec := { name := "fnExactIsWeakAttack", fn := fun _ => fun
  | [d1, d2, d3, d4] => { results := [.lit (.bool true)], args := [d1, d2, d3, d4] }
  | _ => none }
def fnExactIsWeakAttackRow : OpenClaim := { program := "ytoinfljgjdmooaa", sum := "c53428528c701184a02ac6a856df0cd138383e6aa2e2b25c5944596ce412ede0", func := "loop.example/g01918/laws.FnExactIsWeakAttack", spec := "fnExactIsWeakAttack", unfollowed := true, recurses := true, apart := false }
def FnExactIsWeakAttackSaid : Prop := fnExactIsWeakAttackRow.holds Try.pinned (OpenSpec.ofChange fnExactIsWeakAttackSpec)

/-- ITS FALSE NEIGHBOUR: 'it returns false'. Refute it at one input. -/
def fnExactIsWeakAttackWrong : ChangeSpec := { name := "fnExactIsWeakAttack", fn := fun _ => fun
  | [d1, d2, d3, d4] => { results := [.lit (.bool false)], args := [d1, d2, d3, d4] }
  | _ => none }
def FnExactIsWeakAttackWrongFalsely : Prop := fnExactIsWeakAttackRow.holds Try.pinned (OpenSpec.ofChange fnExactIsWeakAttackWrong)

/-- 'laws.FnExactAttackedVariables': WHATEVER THE INPUT: true; the input reads as it did. -/
def fnExactAttackedVariablesSpec : ChangeSpec := { name := "fnExactAttackedVariables", fn := fun _ => fun
  | [d1, d2, d3] => { results := [.lit (.bool true)], args := [d1, d2, d3] }
  | _ => none }
def fnExactAttackedVariablesRow : OpenClaim := { program := "ytoinfljgjdmooaa", sum := "c53428528c701184a02ac6a856df0cd138383e6aa2e2b25c5944596ce412ede0", func := "loop.example/g01918/laws.FnExactAttackedVariables", spec := "fnExactAttackedVariables", unfollowed := true, recurses := true, apart := false }
def FnExactAttackedVariablesSaid : Prop := fnExactAttackedVariablesRow.holds Try.pinned (OpenSpec.ofChange fnExactAttackedVariablesSpec)

/-- ITS FALSE NEIGHBOUR: 'it returns false'. Refute it at one input. -/
def fnExactAttackedVariablesWrong : ChangeSpec := { name := "fnExactAttackedVariables", fn := fun _ => fun
  | [d1, d2, d3] => { results := [.lit (.bool false)], args := [d1, d2, d3] }
  | _ => none }
def FnExactAttackedVariablesWrongFalsely : Prop := fnExactAttackedVariablesRow.holds Try.pinned (OpenSpec.ofChange fnExactAttackedVariablesWrong)

/-- 'laws.FnExactUnattackedAtoms': WHATEVER THE INPUT: true; the input reads as it did. -/
def fnExactUnattackedAtomsSpec : ChangeSpec := { name := "fnExactUnattackedAtoms", fn := fun _ => fun
  | [d1, d2] => { results := [.lit (.bool true)], args := [d1, d2] }
  | _ => none }
def fnExactUnattackedAtomsRow : OpenClaim := { program := "ytoinfljgjdmooaa", sum := "c53428528c701184a02ac6a856df0cd138383e6aa2e2b25c5944596ce412ede0", func := "loop.example/g01918/laws.FnExactUnattackedAtoms", spec := "fnExactUnattackedAtoms", unfollowed := true, recurses := true, apart := false }
def FnExactUnattackedAtomsSaid : Prop := fnExactUnattackedAtomsRow.holds Try.pinned (OpenSpec.ofChange fnExactUnattackedAtomsSpec)

/-- ITS FALSE NEIGHBOUR: 'it returns false'. Refute it at one input. -/
def fnExactUnattackedAtomsWrong : ChangeSpec := { name := "fnExactUnattackedAtoms", fn := fun _ => fun
  | [d1, d2] => { results := [.lit (.bool false)], args := [d1, d2] }
  | _ => none }
def FnExactUnattackedAtomsWrongFalsely : Prop := fnExactUnattackedAtomsRow.holds Try.pinned (OpenSpec.ofChange fnExactUnattackedAtomsWrong)

/- THE SECOND FORM. 'bulk': how many values and letters a reading holds, each counted each time it is reached (what is shared counts as often as it is met; a slice's spare places count too). A statement '..UptoSaid' is the law's where the arguments, and the package variables that the reading takes, are together of bulk at most 1048576: NARROWER than '..Said'. Prove '..Said' where nothing that the law and all that it calls make is longer than what came in: it says more and counts as full. Else prove '..UptoSaid'. A law counts once. -/
mutual
def uptoBulk {H : Type} : DataW H → Nat
  | .lit (.string bytes) => bytes.length + 1
  | .lit _ => 1
  | .nil => 1
  | .ptr d => uptoBulk d + 1
  | .slice elems spare => uptoBulkAll elems + uptoBulkAll spare + 1
  | .agg parts => uptoBulkAll parts + 1
  | .iface _ d => uptoBulk d + 1
  | .map entries => uptoBulkEntries entries + 1
  | .held _ => 1
def uptoBulkAll {H : Type} : List (DataW H) → Nat
  | [] => 0
  | d :: r => uptoBulk d + uptoBulkAll r
def uptoBulkEntries {H : Type} : List (Lit × DataW H) → Nat
  | [] => 0
  | x :: r => uptoBulkEntry x + uptoBulkEntries r
def uptoBulkEntry {H : Type} : Lit × DataW H → Nat
  | (.string bytes, d) => bytes.length + uptoBulk d + 1
  | (_, d) => uptoBulk d + 1
 end
def uptoSmall : (H : Type) → List (DataW H) → Bool := fun _ ds => decide (uptoBulkAll ds ≤ 1048576)
def OpenSpec.upto (s : _root_.Go.ChangeSpec) : _root_.Go.OpenSpec := { _root_.Go.OpenSpec.ofChange s with cond := some uptoSmall }

/-- 'laws.FnExactKeyClosure', WHERE WHAT IT READS IS OF BULK AT MOST 1048576: true; the input reads as it did. -/
def fnExactKeyClosureUptoRow : OpenClaim := { program := "ytoinfljgjdmooaa", sum := "c53428528c701184a02ac6a856df0cd138383e6aa2e2b25c5944596ce412ede0", func := "loop.example/g01918/laws.FnExactKeyClosure", spec := "fnExactKeyClosure", unfollowed := true, recurses := true, apart := false, narrowed := true }
def FnExactKeyClosureUptoSaid : Prop := fnExactKeyClosureUptoRow.holds Try.pinned (OpenSpec.upto fnExactKeyClosureSpec)

/-- 'laws.FnExactHasAttack', WHERE WHAT IT READS IS OF BULK AT MOST 1048576: true; the input reads as it did. -/
def fnExactHasAttackUptoRow : OpenClaim := { program := "ytoinfljgjdmooaa", sum := "c53428528c701184a02ac6a856df0cd138383e6aa2e2b25c5944596ce412ede0", func := "loop.example/g01918/laws.FnExactHasAttack", spec := "fnExactHasAttack", unfollowed := true, recurses := true, apart := false, narrowed := true }
def FnExactHasAttackUptoSaid : Prop := fnExactHasAttackUptoRow.holds Try.pinned (OpenSpec.upto fnExactHasAttackSpec)

/-- 'laws.FnExactFindTwoCycle', WHERE WHAT IT READS IS OF BULK AT MOST 1048576: true; the input reads as it did. -/
def fnExactFindTwoCycleUptoRow : OpenClaim := { program := "ytoinfljgjdmooaa", sum := "c53428528c701184a02ac6a856df0cd138383e6aa2e2b25c5944596ce412ede0", func := "loop.example/g01918/laws.FnExactFindTwoCycle", spec := "fnExactFindTwoCycle", unfollowed := true, recurses := true, apart := false, narrowed := true }
def FnExactFindTwoCycleUptoSaid : Prop := fnExactFindTwoCycleUptoRow.holds Try.pinned (OpenSpec.upto fnExactFindTwoCycleSpec)

/-- 'laws.FnExactIsWeakAttack', WHERE WHAT IT READS IS OF BULK AT MOST 1048576: true; the input reads as it did. -/
def fnExactIsWeakAttackUptoRow : OpenClaim := { program := "ytoinfljgjdmooaa", sum := "c53428528c701184a02ac6a856df0cd138383e6aa2e2b25c5944596ce412ede0", func := "loop.example/g01918/laws.FnExactIsWeakAttack", spec := "fnExactIsWeakAttack", unfollowed := true, recurses := true, apart := false, narrowed := true }
def FnExactIsWeakAttackUptoSaid : Prop := fnExactIsWeakAttackUptoRow.holds Try.pinned (OpenSpec.upto fnExactIsWeakAttackSpec)

/-- 'laws.FnExactAttackedVariables', WHERE WHAT IT READS IS OF BULK AT MOST 1048576: true; the input reads as it did. -/
def fnExactAttackedVariablesUptoRow : OpenClaim := { program := "ytoinfljgjdmooaa", sum := "c53428528c701184a02ac6a856df0cd138383e6aa2e2b25c5944596ce412ede0", func := "loop.example/g01918/laws.FnExactAttackedVariables", spec := "fnExactAttackedVariables", unfollowed := true, recurses := true, apart := false, narrowed := true }
def FnExactAttackedVariablesUptoSaid : Prop := fnExactAttackedVariablesUptoRow.holds Try.pinned (OpenSpec.upto fnExactAttackedVariablesSpec)

/-- 'laws.FnExactUnattackedAtoms', WHERE WHAT IT READS IS OF BULK AT MOST 1048576: true; the input reads as it did. -/
def fnExactUnattackedAtomsUptoRow : OpenClaim := { program := "ytoinfljgjdmooaa", sum := "c53428528c701184a02ac6a856df0cd138383e6aa2e2b25c5944596ce412ede0", func := "loop.example/g01918/laws.FnExactUnattackedAtoms", spec := "fnExactUnattackedAtoms", unfollowed := true, recurses := true, apart := false, narrowed := true }
def FnExactUnattackedAtomsUptoSaid : Prop := fnExactUnattackedAtomsUptoRow.holds Try.pinned (OpenSpec.upto fnExactUnattackedAtomsSpec)

end Rows
end Go.Proofs.Ytoinfljgjdmooaa
