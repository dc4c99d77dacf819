/-
  No cell of these rows narrows 'for every input' (looked for: loops, veiled, ifaces, maps, wideKeys, modest, calm, conditions, laid).
  DERIVED. THE GIVEN ROWS OF THIS SEAT. 5 by the template 'for every input the law returns true; each argument reads behind the call as it read before'; 0 by the template 'total and deterministic' (their statements: YtbalifgacjmbpaaTotals.lean).
  GIVEN WITH THE SEED: the statements are not yours to turn. If you find one false, say at which input.
  Laid BY PROGRAM, IN A SANDBOX (cutbox-rows.mjs): the forced cells as the released guide's own fill.sh prints them over the translation c688a40ecd68eff0… (all of the seat's roots in one cut). By AI agents, Wed Nov 11 2026. No macro, syntax, notation, axiom, sorry.
-/
import Derived.Test.YtbalifgacjmbpaaChecked
import GoSem.Claim
import GoSem.ClaimJoined
import GoSem.ClaimMapViews
import Derived.JoinedTies
import Derived.KernelRfl
namespace Go.Proofs.Ytbalifgacjmbpaa
/- THE CELL 'sum', in the pinned program and in every row, IS THE sha256 OF THE DUMP (.gsa) THAT YtbalifgacjmbpaaProg.lean LOADS. Nothing in Lean hashes anything: it is a label: what it is worth is what the hold of that sum in a sandbox is worth. -/
noncomputable def Try.pinned : Pinned := { name := "ytbalifgacjmbpaa", sum := "c688a40ecd68eff0784778f848d452c50fb70a3f75c63050424e33ef311c99a4", checked := Try.checked }
namespace Rows
def none {H : Type} : Left H := { results := [], args := [] }

/-- 'laws.FnExactMaximalIndependentSets': WHATEVER THE INPUT: true; the input reads as it did. -/
def fnExactMaximalIndependentSetsSpec : ChangeSpec := { name := "fnExactMaximalIndependentSets", fn := fun _ => fun
  | [d1, d2] => { results := [.lit (.bool true)], args := [d1, d2] }
  | _ => none }
def fnExactMaximalIndependentSetsRow : OpenClaim := { program := "ytbalifgacjmbpaa", sum := "c688a40ecd68eff0784778f848d452c50fb70a3f75c63050424e33ef311c99a4", func := "loop.example/g01918/laws.FnExactMaximalIndependentSets", spec := "fnExactMaximalIndependentSets", unfollowed := true, recurses := true, apart := false }
def FnExactMaximalIndependentSetsSaid : Prop := fnExactMaximalIndependentSetsRow.holds Try.pinned (OpenSpec.ofChange fnExactMaximalIndependentSetsSpec)

/-- ITS FALSE NEIGHBOUR: 'it returns false'. Refute it at one input. -/
def fnExactMaximalIndependentSetsWrong : ChangeSpec := { name := "fnExactMaximalIndependentSets", fn := fun _ => fun
  | [d1, d2] => { results := [.lit (.bool false)], args := [d1, d2] }
  | _ => none }
def FnExactMaximalIndependentSetsWrongFalsely : Prop := fnExactMaximalIndependentSetsRow.holds Try.pinned (OpenSpec.ofChange fnExactMaximalIndependentSetsWrong)

/-- 'laws.FnExactMaximumIndependentSize': WHATEVER THE INPUT: true; the input reads as it did. -/
def fnExactMaximumIndependentSizeSpec : ChangeSpec := { name := "fnExactMaximumIndependentSize", fn := fun _ => fun
  | [d1, d2] => { results := [.lit (.bool true)], args := [d1, d2] }
  | _ => none }
def fnExactMaximumIndependentSizeRow : OpenClaim := { program := "ytbalifgacjmbpaa", sum := "c688a40ecd68eff0784778f848d452c50fb70a3f75c63050424e33ef311c99a4", func := "loop.example/g01918/laws.FnExactMaximumIndependentSize", spec := "fnExactMaximumIndependentSize", unfollowed := true, recurses := true, apart := false }
def FnExactMaximumIndependentSizeSaid : Prop := fnExactMaximumIndependentSizeRow.holds Try.pinned (OpenSpec.ofChange fnExactMaximumIndependentSizeSpec)

/-- ITS FALSE NEIGHBOUR: 'it returns false'. Refute it at one input. -/
def fnExactMaximumIndependentSizeWrong : ChangeSpec := { name := "fnExactMaximumIndependentSize", fn := fun _ => fun
  | [d1, d2] => { results := [.lit (.bool false)], args := [d1, d2] }
  | _ => none }
def FnExactMaximumIndependentSizeWrongFalsely : Prop := fnExactMaximumIndependentSizeRow.holds Try.pinned (OpenSpec.ofChange fnExactMaximumIndependentSizeWrong)

/-- 'laws.FnExactExtendToMaximal': WHATEVER THE INPUT: true; the input reads as it did. -/
def fnExactExtendToMaximalSpec : ChangeSpec := { name := "fnExactExtendToMaximal", fn := fun _ => fun
  | [d1, d2, d3] => { results := [.lit (.bool true)], args := [d1, d2, d3] }
  | _ => none }
def fnExactExtendToMaximalRow : OpenClaim := { program := "ytbalifgacjmbpaa", sum := "c688a40ecd68eff0784778f848d452c50fb70a3f75c63050424e33ef311c99a4", func := "loop.example/g01918/laws.FnExactExtendToMaximal", spec := "fnExactExtendToMaximal", unfollowed := true, recurses := true, apart := false }
def FnExactExtendToMaximalSaid : Prop := fnExactExtendToMaximalRow.holds Try.pinned (OpenSpec.ofChange fnExactExtendToMaximalSpec)

/-- ITS FALSE NEIGHBOUR: 'it returns false'. Refute it at one input. -/
def fnExactExtendToMaximalWrong : ChangeSpec := { name := "fnExactExtendToMaximal", fn := fun _ => fun
  | [d1, d2, d3] => { results := [.lit (.bool false)], args := [d1, d2, d3] }
  | _ => none }
def FnExactExtendToMaximalWrongFalsely : Prop := fnExactExtendToMaximalRow.holds Try.pinned (OpenSpec.ofChange fnExactExtendToMaximalWrong)

/-- 'laws.FnExactBindVariable': WHATEVER THE INPUT: true; the input reads as it did. -/
def fnExactBindVariableSpec : ChangeSpec := { name := "fnExactBindVariable", fn := fun _ => fun
  | [d1, d2, d3] => { results := [.lit (.bool true)], args := [d1, d2, d3] }
  | _ => none }
def fnExactBindVariableRow : OpenClaim := { program := "ytbalifgacjmbpaa", sum := "c688a40ecd68eff0784778f848d452c50fb70a3f75c63050424e33ef311c99a4", func := "loop.example/g01918/laws.FnExactBindVariable", spec := "fnExactBindVariable", apart := false }
def FnExactBindVariableSaid : Prop := fnExactBindVariableRow.holds Try.pinned (OpenSpec.ofChange fnExactBindVariableSpec)

/-- ITS FALSE NEIGHBOUR: 'it returns false'. Refute it at one input. -/
def fnExactBindVariableWrong : ChangeSpec := { name := "fnExactBindVariable", fn := fun _ => fun
  | [d1, d2, d3] => { results := [.lit (.bool false)], args := [d1, d2, d3] }
  | _ => none }
def FnExactBindVariableWrongFalsely : Prop := fnExactBindVariableRow.holds Try.pinned (OpenSpec.ofChange fnExactBindVariableWrong)

/-- 'laws.FnExactRemoveAtom': WHATEVER THE INPUT: true; the input reads as it did. -/
def fnExactRemoveAtomSpec : ChangeSpec := { name := "fnExactRemoveAtom", fn := fun _ => fun
  | [d1, d2] => { results := [.lit (.bool true)], args := [d1, d2] }
  | _ => none }
def fnExactRemoveAtomRow : OpenClaim := { program := "ytbalifgacjmbpaa", sum := "c688a40ecd68eff0784778f848d452c50fb70a3f75c63050424e33ef311c99a4", func := "loop.example/g01918/laws.FnExactRemoveAtom", spec := "fnExactRemoveAtom", apart := false }
def FnExactRemoveAtomSaid : Prop := fnExactRemoveAtomRow.holds Try.pinned (OpenSpec.ofChange fnExactRemoveAtomSpec)

/-- ITS FALSE NEIGHBOUR: 'it returns false'. Refute it at one input. -/
def fnExactRemoveAtomWrong : ChangeSpec := { name := "fnExactRemoveAtom", fn := fun _ => fun
  | [d1, d2] => { results := [.lit (.bool false)], args := [d1, d2] }
  | _ => none }
def FnExactRemoveAtomWrongFalsely : Prop := fnExactRemoveAtomRow.holds Try.pinned (OpenSpec.ofChange fnExactRemoveAtomWrong)

/- THE SECOND FORM. 'bulk': how many values and letters a reading holds, each counted each time it is reached (what is shared counts as often as it is met; a slice's spare places count too). A statement '..UptoSaid' is the law's where the arguments, and the package variables that the reading takes, are together of bulk at most 1048576: NARROWER than '..Said'. Prove '..Said' where nothing that the law and all that it calls make is longer than what came in: it says more and counts as full. Else prove '..UptoSaid'. A law counts once. -/
mutual
def uptoBulk {H : Type} : DataW H → Nat
  | .lit (.string bytes) => bytes.length + 1
  | .lit _ => 1
  | .nil => 1
  | .ptr d => uptoBulk d + 1
  | .slice elems spare => uptoBulkAll elems + uptoBulkAll spare + 1
  | .agg parts => uptoBulkAll parts + 1
  | .iface _ d => uptoBulk d + 1
  | .map entries => uptoBulkEntries entries + 1
  | .held _ => 1
def uptoBulkAll {H : Type} : List (DataW H) → Nat
  | [] => 0
  | d :: r => uptoBulk d + uptoBulkAll r
def uptoBulkEntries {H : Type} : List (Lit × DataW H) → Nat
  | [] => 0
  | x :: r => uptoBulkEntry x + uptoBulkEntries r
def uptoBulkEntry {H : Type} : Lit × DataW H → Nat
  | (.string bytes, d) => bytes.length + uptoBulk d + 1
  | (_, d) => uptoBulk d + 1
 end
def uptoSmall : (H : Type) → List (DataW H) → Bool := fun _ ds => decide (uptoBulkAll ds ≤ 1048576)
def OpenSpec.upto (s : _root_.Go.ChangeSpec) : _root_.Go.OpenSpec := { _root_.Go.OpenSpec.ofChange s with cond := some uptoSmall }

/-- 'laws.FnExactMaximalIndependentSets', WHERE WHAT IT READS IS OF BULK AT MOST 1048576: true; the input reads as it did. -/
def fnExactMaximalIndependentSetsUptoRow : OpenClaim := { program := "ytbalifgacjmbpaa", sum := "c688a40ecd68eff0784778f848d452c50fb70a3f75c63050424e33ef311c99a4", func := "loop.example/g01918/laws.FnExactMaximalIndependentSets", spec := "fnExactMaximalIndependentSets", unfollowed := true, recurses := true, apart := false, narrowed := true }
def FnExactMaximalIndependentSetsUptoSaid : Prop := fnExactMaximalIndependentSetsUptoRow.holds Try.pinned (OpenSpec.upto fnExactMaximalIndependentSetsSpec)

/-- 'laws.FnExactMaximumIndependentSize', WHERE WHAT IT READS IS OF BULK AT MOST 1048576: true; the input reads as it did. -/
def fnExactMaximumIndependentSizeUptoRow : OpenClaim := { program := "ytbalifgacjmbpaa", sum := "c688a40ecd68eff0784778f848d452c50fb70a3f75c63050424e33ef311c99a4", func := "loop.example/g01918/laws.FnExactMaximumIndependentSize", spec := "fnExactMaximumIndependentSize", unfollowed := true, recurses := true, apart := false, narrowed := true }
def FnExactMaximumIndependentSizeUptoSaid : Prop := fnExactMaximumIndependentSizeUptoRow.holds Try.pinned (OpenSpec.upto fnExactMaximumIndependentSizeSpec)

/-- 'laws.FnExactExtendToMaximal', WHERE WHAT IT READS IS OF BULK AT MOST 1048576: true; the input reads as it did. -/
def fnExactExtendToMaximalUptoRow : OpenClaim := { program := "ytbalifgacjmbpaa", sum := "c688a40ecd68eff0784778f848d452c50fb70a3f75c63050424e33ef311c99a4", func := "loop.example/g01918/laws.FnExactExtendToMaximal", spec := "fnExactExtendToMaximal", unfollowed := true, recurses := true, apart := false, narrowed := true }
def FnExactExtendToMaximalUptoSaid : Prop := fnExactExtendToMaximalUptoRow.holds Try.pinned (OpenSpec.upto fnExactExtendToMaximalSpec)

/-- 'laws.FnExactBindVariable', WHERE WHAT IT READS IS OF BULK AT MOST 1048576: true; the input reads as it did. -/
def fnExactBindVariableUptoRow : OpenClaim := { program := "ytbalifgacjmbpaa", sum := "c688a40ecd68eff0784778f848d452c50fb70a3f75c63050424e33ef311c99a4", func := "loop.example/g01918/laws.FnExactBindVariable", spec := "fnExactBindVariable", apart := false, narrowed := true }
def FnExactBindVariableUptoSaid : Prop := fnExactBindVariableUptoRow.holds Try.pinned (OpenSpec.upto fnExactBindVariableSpec)

/-- 'laws.FnExactRemoveAtom', WHERE WHAT IT READS IS OF BULK AT MOST 1048576: true; the input reads as it did. -/
def fnExactRemoveAtomUptoRow : OpenClaim := { program := "ytbalifgacjmbpaa", sum := "c688a40ecd68eff0784778f848d452c50fb70a3f75c63050424e33ef311c99a4", func := "loop.example/g01918/laws.FnExactRemoveAtom", spec := "fnExactRemoveAtom", apart := false, narrowed := true }
def FnExactRemoveAtomUptoSaid : Prop := fnExactRemoveAtomUptoRow.holds Try.pinned (OpenSpec.upto fnExactRemoveAtomSpec)

end Rows
end Go.Proofs.Ytbalifgacjmbpaa
