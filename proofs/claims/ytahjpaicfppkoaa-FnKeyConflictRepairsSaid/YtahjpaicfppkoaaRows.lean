/-
  No cell of these rows narrows 'for every input' (looked for: loops, veiled, ifaces, maps, wideKeys, modest, calm, conditions, laid).
  DERIVED. THE GIVEN ROWS OF THIS SEAT. 4 by the template 'for every input the law returns true; each argument reads behind the call as it read before'; 0 by the template 'total and deterministic' (their statements: YtahjpaicfppkoaaTotals.lean).
  GIVEN WITH THE SEED: the statements are not yours to turn. If you find one false, say at which input.
  Laid BY PROGRAM, IN A SANDBOX (cutbox-rows.mjs): the forced cells as the released guide's own fill.sh prints them over the translation 0ae43af607dc7cc9… (all of the seat's roots in one cut). By AI agents, Wed Nov 11 2026. No macro, syntax, notation, axiom, sorry.
-/
import Derived.Test.YtahjpaicfppkoaaChecked
import GoSem.Claim
import GoSem.ClaimJoined
import GoSem.ClaimMapViews
import Derived.JoinedTies
import Derived.KernelRfl
namespace Go.Proofs.Ytahjpaicfppkoaa
/- THE CELL 'sum', in the pinned program and in every row, IS THE sha256 OF THE DUMP (.gsa) THAT YtahjpaicfppkoaaProg.lean LOADS. Nothing in Lean hashes anything: it is a label: what it is worth is what the hold of that sum in a sandbox is worth. -/
noncomputable def Try.pinned : Pinned := { name := "ytahjpaicfppkoaa", sum := "0ae43af607dc7cc9cbaf7b7206af1ab5575a7d557e5c44e152fad0f5fce6ab62", checked := Try.checked }
namespace Rows
def none {H : Type} : Left H := { results := [], args := [] }

/-- 'laws.FnConstraintViolation': WHATEVER THE INPUT: true; the input reads as it did. -/
def fnConstraintViolationSpec : ChangeSpec := { name := "fnConstraintViolation", fn := fun _ => fun
  | [d] => { results := [.lit (.bool true)], args := [d] }
  | _ => none }
def fnConstraintViolationRow : OpenClaim := { program := "ytahjpaicfppkoaa", sum := "0ae43af607dc7cc9cbaf7b7206af1ab5575a7d557e5c44e152fad0f5fce6ab62", func := "loop.example/g01918/laws.FnConstraintViolation", spec := "fnConstraintViolation", unfollowed := true, recurses := true, apart := false }
def FnConstraintViolationSaid : Prop := fnConstraintViolationRow.holds Try.pinned (OpenSpec.ofChange fnConstraintViolationSpec)

/-- ITS FALSE NEIGHBOUR: 'it returns false'. Refute it at one input. -/
def fnConstraintViolationWrong : ChangeSpec := { name := "fnConstraintViolation", fn := fun _ => fun
  | [d] => { results := [.lit (.bool false)], args := [d] }
  | _ => none }
def FnConstraintViolationWrongFalsely : Prop := fnConstraintViolationRow.holds Try.pinned (OpenSpec.ofChange fnConstraintViolationWrong)

/-- 'laws.FnKeyConflictRepairs': WHATEVER THE INPUT: true; the input reads as it did. -/
def fnKeyConflictRepairsSpec : ChangeSpec := { name := "fnKeyConflictRepairs", fn := fun _ => fun
  | [d] => { results := [.lit (.bool true)], args := [d] }
  | _ => none }
def fnKeyConflictRepairsRow : OpenClaim := { program := "ytahjpaicfppkoaa", sum := "0ae43af607dc7cc9cbaf7b7206af1ab5575a7d557e5c44e152fad0f5fce6ab62", func := "loop.example/g01918/laws.FnKeyConflictRepairs", spec := "fnKeyConflictRepairs", unfollowed := true, recurses := true, apart := false }
def FnKeyConflictRepairsSaid : Prop := fnKeyConflictRepairsRow.holds Try.pinned (OpenSpec.ofChange fnKeyConflictRepairsSpec)

/-- ITS FALSE NEIGHBOUR: 'it returns false'. Refute it at one input. -/
def fnKeyConflictRepairsWrong : ChangeSpec := { name := "fnKeyConflictRepairs", fn := fun _ => fun
  | [d] => { results := [.lit (.bool false)], args := [d] }
  | _ => none }
def FnKeyConflictRepairsWrongFalsely : Prop := fnKeyConflictRepairsRow.holds Try.pinned (OpenSpec.ofChange fnKeyConflictRepairsWrong)

/-- 'laws.FnMaximalIndependentSets': WHATEVER THE INPUT: true; the input reads as it did. -/
def fnMaximalIndependentSetsSpec : ChangeSpec := { name := "fnMaximalIndependentSets", fn := fun _ => fun
  | [d] => { results := [.lit (.bool true)], args := [d] }
  | _ => none }
def fnMaximalIndependentSetsRow : OpenClaim := { program := "ytahjpaicfppkoaa", sum := "0ae43af607dc7cc9cbaf7b7206af1ab5575a7d557e5c44e152fad0f5fce6ab62", func := "loop.example/g01918/laws.FnMaximalIndependentSets", spec := "fnMaximalIndependentSets", unfollowed := true, recurses := true, apart := false }
def FnMaximalIndependentSetsSaid : Prop := fnMaximalIndependentSetsRow.holds Try.pinned (OpenSpec.ofChange fnMaximalIndependentSetsSpec)

/-- ITS FALSE NEIGHBOUR: 'it returns false'. Refute it at one input. -/
def fnMaximalIndependentSetsWrong : ChangeSpec := { name := "fnMaximalIndependentSets", fn := fun _ => fun
  | [d] => { results := [.lit (.bool false)], args := [d] }
  | _ => none }
def FnMaximalIndependentSetsWrongFalsely : Prop := fnMaximalIndependentSetsRow.holds Try.pinned (OpenSpec.ofChange fnMaximalIndependentSetsWrong)

/-- 'laws.FnAttributeClosure': WHATEVER THE INPUT: true; the input reads as it did. -/
def fnAttributeClosureSpec : ChangeSpec := { name := "fnAttributeClosure", fn := fun _ => fun
  | [d] => { results := [.lit (.bool true)], args := [d] }
  | _ => none }
def fnAttributeClosureRow : OpenClaim := { program := "ytahjpaicfppkoaa", sum := "0ae43af607dc7cc9cbaf7b7206af1ab5575a7d557e5c44e152fad0f5fce6ab62", func := "loop.example/g01918/laws.FnAttributeClosure", spec := "fnAttributeClosure", unfollowed := true, recurses := true, apart := false }
def FnAttributeClosureSaid : Prop := fnAttributeClosureRow.holds Try.pinned (OpenSpec.ofChange fnAttributeClosureSpec)

/-- ITS FALSE NEIGHBOUR: 'it returns false'. Refute it at one input. -/
def fnAttributeClosureWrong : ChangeSpec := { name := "fnAttributeClosure", fn := fun _ => fun
  | [d] => { results := [.lit (.bool false)], args := [d] }
  | _ => none }
def FnAttributeClosureWrongFalsely : Prop := fnAttributeClosureRow.holds Try.pinned (OpenSpec.ofChange fnAttributeClosureWrong)

/- THE SECOND FORM. 'bulk': how many values and letters a reading holds, each counted each time it is reached (what is shared counts as often as it is met; a slice's spare places count too). A statement '..UptoSaid' is the law's where the arguments, and the package variables that the reading takes, are together of bulk at most 1048576: NARROWER than '..Said'. Prove '..Said' where nothing that the law and all that it calls make is longer than what came in: it says more and counts as full. Else prove '..UptoSaid'. A law counts once. -/
mutual
def uptoBulk {H : Type} : DataW H → Nat
  | .lit (.string bytes) => bytes.length + 1
  | .lit _ => 1
  | .nil => 1
  | .ptr d => uptoBulk d + 1
  | .slice elems spare => uptoBulkAll elems + uptoBulkAll spare + 1
  | .agg parts => uptoBulkAll parts + 1
  | .iface _ d => uptoBulk d + 1
  | .map entries => uptoBulkEntries entries + 1
  | .held _ => 1
def uptoBulkAll {H : Type} : List (DataW H) → Nat
  | [] => 0
  | d :: r => uptoBulk d + uptoBulkAll r
def uptoBulkEntries {H : Type} : List (Lit × DataW H) → Nat
  | [] => 0
  | x :: r => uptoBulkEntry x + uptoBulkEntries r
def uptoBulkEntry {H : Type} : Lit × DataW H → Nat
  | (.string bytes, d) => bytes.length + uptoBulk d + 1
  | (_, d) => uptoBulk d + 1
 end
def uptoSmall : (H : Type) → List (DataW H) → Bool := fun _ ds => decide (uptoBulkAll ds ≤ 1048576)
def OpenSpec.upto (s : _root_.Go.ChangeSpec) : _root_.Go.OpenSpec := { _root_.Go.OpenSpec.ofChange s with cond := some uptoSmall }

/-- 'laws.FnConstraintViolation', WHERE WHAT IT READS IS OF BULK AT MOST 1048576: true; the input reads as it did. -/
def fnConstraintViolationUptoRow : OpenClaim := { program := "ytahjpaicfppkoaa", sum := "0ae43af607dc7cc9cbaf7b7206af1ab5575a7d557e5c44e152fad0f5fce6ab62", func := "loop.example/g01918/laws.FnConstraintViolation", spec := "fnConstraintViolation", unfollowed := true, recurses := true, apart := false, narrowed := true }
def FnConstraintViolationUptoSaid : Prop := fnConstraintViolationUptoRow.holds Try.pinned (OpenSpec.upto fnConstraintViolationSpec)

/-- 'laws.FnKeyConflictRepairs', WHERE WHAT IT READS IS OF BULK AT MOST 1048576: true; the input reads as it did. -/
def fnKeyConflictRepairsUptoRow : OpenClaim := { program := "ytahjpaicfppkoaa", sum := "0ae43af607dc7cc9cbaf7b7206af1ab5575a7d557e5c44e152fad0f5fce6ab62", func := "loop.example/g01918/laws.FnKeyConflictRepairs", spec := "fnKeyConflictRepairs", unfollowed := true, recurses := true, apart := false, narrowed := true }
def FnKeyConflictRepairsUptoSaid : Prop := fnKeyConflictRepairsUptoRow.holds Try.pinned (OpenSpec.upto fnKeyConflictRepairsSpec)

/-- 'laws.FnMaximalIndependentSets', WHERE WHAT IT READS IS OF BULK AT MOST 1048576: true; the input reads as it did. -/
def fnMaximalIndependentSetsUptoRow : OpenClaim := { program := "ytahjpaicfppkoaa", sum := "0ae43af607dc7cc9cbaf7b7206af1ab5575a7d557e5c44e152fad0f5fce6ab62", func := "loop.example/g01918/laws.FnMaximalIndependentSets", spec := "fnMaximalIndependentSets", unfollowed := true, recurses := true, apart := false, narrowed := true }
def FnMaximalIndependentSetsUptoSaid : Prop := fnMaximalIndependentSetsUptoRow.holds Try.pinned (OpenSpec.upto fnMaximalIndependentSetsSpec)

/-- 'laws.FnAttributeClosure', WHERE WHAT IT READS IS OF BULK AT MOST 1048576: true; the input reads as it did. -/
def fnAttributeClosureUptoRow : OpenClaim := { program := "ytahjpaicfppkoaa", sum := "0ae43af607dc7cc9cbaf7b7206af1ab5575a7d557e5c44e152fad0f5fce6ab62", func := "loop.example/g01918/laws.FnAttributeClosure", spec := "fnAttributeClosure", unfollowed := true, recurses := true, apart := false, narrowed := true }
def FnAttributeClosureUptoSaid : Prop := fnAttributeClosureUptoRow.holds Try.pinned (OpenSpec.upto fnAttributeClosureSpec)

end Rows
end Go.Proofs.Ytahjpaicfppkoaa
