/-
  No cell of these rows narrows 'for every input' (looked for: loops, veiled, ifaces, maps, wideKeys, modest, calm, conditions, laid).
  DERIVED. THE GIVEN ROWS OF THIS SEAT. 4 by the template 'for every input the law returns true; each argument reads behind the call as it read before'; 0 by the template 'total and deterministic' (their statements: YtbalifgacjmbpacGreatTotals.lean).
  GIVEN WITH THE SEED: the statements are not yours to turn. If you find one false, say at which input.
  Laid BY PROGRAM, IN A SANDBOX (cutbox-rows.mjs): the forced cells as the released guide's own fill.sh prints them over the translation 1e7e0c94a49c5440… (all of the seat's roots in one cut). By AI agents, Wed Nov 11 2026. No macro, syntax, notation, axiom, sorry.
-/
import Derived.Test.YtbalifgacjmbpacGreatChecked
import GoSem.Claim
import GoSem.ClaimJoined
import GoSem.ClaimMapViews
import Derived.JoinedTies
import Derived.KernelRfl
namespace Go.Proofs.YtbalifgacjmbpacGreat
/- THE CELL 'sum', in the pinned program and in every row, IS THE sha256 OF THE DUMP (.gsa) THAT YtbalifgacjmbpacGreatProg.lean LOADS. Nothing in Lean hashes anything: it is a label: what it is worth is what the hold of that sum in a sandbox is worth. -/
noncomputable def Tryz.pinned : Pinned := { name := "ytbalifgacjmbpacgreat", sum := "1e7e0c94a49c5440e9581e29f22ff3cd59d98074fd17f18977d3d488122af815", checked := Tryz.checked }
namespace Rows
def none {H : Type} : Left H := { results := [], args := [] }

/-- 'laws.FnExactIsCertain': WHATEVER THE INPUT: true; the input reads as it did. -/
def fnExactIsCertainSpec : ChangeSpec := { name := "fnExactIsCertain", fn := fun _ => fun
  | [d1, d2] => { results := [.lit (.bool true)], args := [d1, d2] }
  | _ => none }
def fnExactIsCertainRow : OpenClaim := { program := "ytbalifgacjmbpacgreat", sum := "1e7e0c94a49c5440e9581e29f22ff3cd59d98074fd17f18977d3d488122af815", func := "loop.example/g01918/laws.FnExactIsCertain", spec := "fnExactIsCertain", unfollowed := true, recurses := true, apart := false }
def FnExactIsCertainSaid : Prop := fnExactIsCertainRow.holds Tryz.pinned (OpenSpec.ofChange fnExactIsCertainSpec)

/-- ITS FALSE NEIGHBOUR: 'it returns false'. Refute it at one input. -/
def fnExactIsCertainWrong : ChangeSpec := { name := "fnExactIsCertain", fn := fun _ => fun
  | [d1, d2] => { results := [.lit (.bool false)], args := [d1, d2] }
  | _ => none }
def FnExactIsCertainWrongFalsely : Prop := fnExactIsCertainRow.holds Tryz.pinned (OpenSpec.ofChange fnExactIsCertainWrong)

/-- 'laws.FnExactIsPossible': WHATEVER THE INPUT: true; the input reads as it did. -/
def fnExactIsPossibleSpec : ChangeSpec := { name := "fnExactIsPossible", fn := fun _ => fun
  | [d1, d2] => { results := [.lit (.bool true)], args := [d1, d2] }
  | _ => none }
def fnExactIsPossibleRow : OpenClaim := { program := "ytbalifgacjmbpacgreat", sum := "1e7e0c94a49c5440e9581e29f22ff3cd59d98074fd17f18977d3d488122af815", func := "loop.example/g01918/laws.FnExactIsPossible", spec := "fnExactIsPossible", unfollowed := true, recurses := true, apart := false }
def FnExactIsPossibleSaid : Prop := fnExactIsPossibleRow.holds Tryz.pinned (OpenSpec.ofChange fnExactIsPossibleSpec)

/-- ITS FALSE NEIGHBOUR: 'it returns false'. Refute it at one input. -/
def fnExactIsPossibleWrong : ChangeSpec := { name := "fnExactIsPossible", fn := fun _ => fun
  | [d1, d2] => { results := [.lit (.bool false)], args := [d1, d2] }
  | _ => none }
def FnExactIsPossibleWrongFalsely : Prop := fnExactIsPossibleRow.holds Tryz.pinned (OpenSpec.ofChange fnExactIsPossibleWrong)

/-- 'laws.FnExactFalsifyingRepair': WHATEVER THE INPUT: true; the input reads as it did. -/
def fnExactFalsifyingRepairSpec : ChangeSpec := { name := "fnExactFalsifyingRepair", fn := fun _ => fun
  | [d1, d2] => { results := [.lit (.bool true)], args := [d1, d2] }
  | _ => none }
def fnExactFalsifyingRepairRow : OpenClaim := { program := "ytbalifgacjmbpacgreat", sum := "1e7e0c94a49c5440e9581e29f22ff3cd59d98074fd17f18977d3d488122af815", func := "loop.example/g01918/laws.FnExactFalsifyingRepair", spec := "fnExactFalsifyingRepair", unfollowed := true, recurses := true, apart := false }
def FnExactFalsifyingRepairSaid : Prop := fnExactFalsifyingRepairRow.holds Tryz.pinned (OpenSpec.ofChange fnExactFalsifyingRepairSpec)

/-- ITS FALSE NEIGHBOUR: 'it returns false'. Refute it at one input. -/
def fnExactFalsifyingRepairWrong : ChangeSpec := { name := "fnExactFalsifyingRepair", fn := fun _ => fun
  | [d1, d2] => { results := [.lit (.bool false)], args := [d1, d2] }
  | _ => none }
def FnExactFalsifyingRepairWrongFalsely : Prop := fnExactFalsifyingRepairRow.holds Tryz.pinned (OpenSpec.ofChange fnExactFalsifyingRepairWrong)

/-- 'laws.FnExactSatisfyingRepair': WHATEVER THE INPUT: true; the input reads as it did. -/
def fnExactSatisfyingRepairSpec : ChangeSpec := { name := "fnExactSatisfyingRepair", fn := fun _ => fun
  | [d1, d2] => { results := [.lit (.bool true)], args := [d1, d2] }
  | _ => none }
def fnExactSatisfyingRepairRow : OpenClaim := { program := "ytbalifgacjmbpacgreat", sum := "1e7e0c94a49c5440e9581e29f22ff3cd59d98074fd17f18977d3d488122af815", func := "loop.example/g01918/laws.FnExactSatisfyingRepair", spec := "fnExactSatisfyingRepair", unfollowed := true, recurses := true, apart := false }
def FnExactSatisfyingRepairSaid : Prop := fnExactSatisfyingRepairRow.holds Tryz.pinned (OpenSpec.ofChange fnExactSatisfyingRepairSpec)

/-- ITS FALSE NEIGHBOUR: 'it returns false'. Refute it at one input. -/
def fnExactSatisfyingRepairWrong : ChangeSpec := { name := "fnExactSatisfyingRepair", fn := fun _ => fun
  | [d1, d2] => { results := [.lit (.bool false)], args := [d1, d2] }
  | _ => none }
def FnExactSatisfyingRepairWrongFalsely : Prop := fnExactSatisfyingRepairRow.holds Tryz.pinned (OpenSpec.ofChange fnExactSatisfyingRepairWrong)

/- THE SECOND FORM. 'bulk': how many values and letters a reading holds, each counted each time it is reached (what is shared counts as often as it is met; a slice's spare places count too). A statement '..UptoSaid' is the law's where the arguments, and the package variables that the reading takes, are together of bulk at most 1048576: NARROWER than '..Said'. Prove '..Said' where nothing that the law and all that it calls make is longer than what came in: it says more and counts as full. Else prove '..UptoSaid'. A law counts once. -/
mutual
def uptoBulk {H : Type} : DataW H → Nat
  | .lit (.string bytes) => bytes.length + 1
  | .lit _ => 1
  | .nil => 1
  | .ptr d => uptoBulk d + 1
  | .slice elems spare => uptoBulkAll elems + uptoBulkAll spare + 1
  | .agg parts => uptoBulkAll parts + 1
  | .iface _ d => uptoBulk d + 1
  | .map entries => uptoBulkEntries entries + 1
  | .held _ => 1
def uptoBulkAll {H : Type} : List (DataW H) → Nat
  | [] => 0
  | d :: r => uptoBulk d + uptoBulkAll r
def uptoBulkEntries {H : Type} : List (Lit × DataW H) → Nat
  | [] => 0
  | x :: r => uptoBulkEntry x + uptoBulkEntries r
def uptoBulkEntry {H : Type} : Lit × DataW H → Nat
  | (.string bytes, d) => bytes.length + uptoBulk d + 1
  | (_, d) => uptoBulk d + 1
 end
def uptoSmall : (H : Type) → List (DataW H) → Bool := fun _ ds => decide (uptoBulkAll ds ≤ 1048576)
def OpenSpec.upto (s : _root_.Go.ChangeSpec) : _root_.Go.OpenSpec := { _root_.Go.OpenSpec.ofChange s with cond := some uptoSmall }

/-- 'laws.FnExactIsCertain', WHERE WHAT IT READS IS OF BULK AT MOST 1048576: true; the input reads as it did. -/
def fnExactIsCertainUptoRow : OpenClaim := { program := "ytbalifgacjmbpacgreat", sum := "1e7e0c94a49c5440e9581e29f22ff3cd59d98074fd17f18977d3d488122af815", func := "loop.example/g01918/laws.FnExactIsCertain", spec := "fnExactIsCertain", unfollowed := true, recurses := true, apart := false, narrowed := true }
def FnExactIsCertainUptoSaid : Prop := fnExactIsCertainUptoRow.holds Tryz.pinned (OpenSpec.upto fnExactIsCertainSpec)

/-- 'laws.FnExactIsPossible', WHERE WHAT IT READS IS OF BULK AT MOST 1048576: true; the input reads as it did. -/
def fnExactIsPossibleUptoRow : OpenClaim := { program := "ytbalifgacjmbpacgreat", sum := "1e7e0c94a49c5440e9581e29f22ff3cd59d98074fd17f18977d3d488122af815", func := "loop.example/g01918/laws.FnExactIsPossible", spec := "fnExactIsPossible", unfollowed := true, recurses := true, apart := false, narrowed := true }
def FnExactIsPossibleUptoSaid : Prop := fnExactIsPossibleUptoRow.holds Tryz.pinned (OpenSpec.upto fnExactIsPossibleSpec)

/-- 'laws.FnExactFalsifyingRepair', WHERE WHAT IT READS IS OF BULK AT MOST 1048576: true; the input reads as it did. -/
def fnExactFalsifyingRepairUptoRow : OpenClaim := { program := "ytbalifgacjmbpacgreat", sum := "1e7e0c94a49c5440e9581e29f22ff3cd59d98074fd17f18977d3d488122af815", func := "loop.example/g01918/laws.FnExactFalsifyingRepair", spec := "fnExactFalsifyingRepair", unfollowed := true, recurses := true, apart := false, narrowed := true }
def FnExactFalsifyingRepairUptoSaid : Prop := fnExactFalsifyingRepairUptoRow.holds Tryz.pinned (OpenSpec.upto fnExactFalsifyingRepairSpec)

/-- 'laws.FnExactSatisfyingRepair', WHERE WHAT IT READS IS OF BULK AT MOST 1048576: true; the input reads as it did. -/
def fnExactSatisfyingRepairUptoRow : OpenClaim := { program := "ytbalifgacjmbpacgreat", sum := "1e7e0c94a49c5440e9581e29f22ff3cd59d98074fd17f18977d3d488122af815", func := "loop.example/g01918/laws.FnExactSatisfyingRepair", spec := "fnExactSatisfyingRepair", unfollowed := true, recurses := true, apart := false, narrowed := true }
def FnExactSatisfyingRepairUptoSaid : Prop := fnExactSatisfyingRepairUptoRow.holds Tryz.pinned (OpenSpec.upto fnExactSatisfyingRepairSpec)

end Rows
end Go.Proofs.YtbalifgacjmbpacGreat
