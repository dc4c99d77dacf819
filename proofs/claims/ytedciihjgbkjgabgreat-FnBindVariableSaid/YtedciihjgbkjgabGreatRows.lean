/-
  No cell of these rows narrows 'for every input' (looked for: loops, veiled, ifaces, maps, wideKeys, modest, calm, conditions, laid).
  DERIVED. THE GIVEN ROWS OF THIS SEAT. 2 by the template 'for every input the law returns true; each argument reads behind the call as it read before'; 0 by the template 'total and deterministic' (their statements: YtedciihjgbkjgabGreatTotals.lean).
  GIVEN WITH THE SEED: the statements are not yours to turn. If you find one false, say at which input.
  Laid BY PROGRAM, IN A SANDBOX (cutbox-rows.mjs): the forced cells as the released guide's own fill.sh prints them over the translation e35bec47f5072079… (all of the seat's roots in one cut). By AI agents, Wed Nov 11 2026. No macro, syntax, notation, axiom, sorry.
-/
import Derived.Test.YtedciihjgbkjgabGreatChecked
import GoSem.Claim
import GoSem.ClaimJoined
import GoSem.ClaimMapViews
import Derived.JoinedTies
import Derived.KernelRfl
namespace Go.Proofs.YtedciihjgbkjgabGreat
/- THE CELL 'sum', in the pinned program and in every row, IS THE sha256 OF THE DUMP (.gsa) THAT YtedciihjgbkjgabGreatProg.lean LOADS. Nothing in Lean hashes anything: it is a label: what it is worth is what the hold of that sum in a sandbox is worth. -/
noncomputable def Tryz.pinned : Pinned := { name := "ytedciihjgbkjgabgreat", sum := "e35bec47f5072079685a54c9286b5f611a6e01d3283e6a06891c49b0b3e668ec", checked := Tryz.checked }
namespace Rows
def none {H : Type} : Left H := { results := [], args := [] }

/-- 'laws.FnBindVariable': WHATEVER THE INPUT: true; the input reads as it did. -/
def fnBindVariableSpec : ChangeSpec := { name := "fnBindVariable", fn := fun _ => fun
  | [d] => { results := [.lit (.bool true)], args := [d] }
  | _ => none }
def fnBindVariableRow : OpenClaim := { program := "ytedciihjgbkjgabgreat", sum := "e35bec47f5072079685a54c9286b5f611a6e01d3283e6a06891c49b0b3e668ec", func := "loop.example/g01918/laws.FnBindVariable", spec := "fnBindVariable", unfollowed := true, recurses := true, apart := false }
def FnBindVariableSaid : Prop := fnBindVariableRow.holds Tryz.pinned (OpenSpec.ofChange fnBindVariableSpec)

/-- ITS FALSE NEIGHBOUR: 'it returns false'. Refute it at one input. -/
def fnBindVariableWrong : ChangeSpec := { name := "fnBindVariable", fn := fun _ => fun
  | [d] => { results := [.lit (.bool false)], args := [d] }
  | _ => none }
def FnBindVariableWrongFalsely : Prop := fnBindVariableRow.holds Tryz.pinned (OpenSpec.ofChange fnBindVariableWrong)

/-- 'laws.FnEmbeddings': WHATEVER THE INPUT: true; the input reads as it did. -/
def fnEmbeddingsSpec : ChangeSpec := { name := "fnEmbeddings", fn := fun _ => fun
  | [d] => { results := [.lit (.bool true)], args := [d] }
  | _ => none }
def fnEmbeddingsRow : OpenClaim := { program := "ytedciihjgbkjgabgreat", sum := "e35bec47f5072079685a54c9286b5f611a6e01d3283e6a06891c49b0b3e668ec", func := "loop.example/g01918/laws.FnEmbeddings", spec := "fnEmbeddings", unfollowed := true, recurses := true, apart := false }
def FnEmbeddingsSaid : Prop := fnEmbeddingsRow.holds Tryz.pinned (OpenSpec.ofChange fnEmbeddingsSpec)

/-- ITS FALSE NEIGHBOUR: 'it returns false'. Refute it at one input. -/
def fnEmbeddingsWrong : ChangeSpec := { name := "fnEmbeddings", fn := fun _ => fun
  | [d] => { results := [.lit (.bool false)], args := [d] }
  | _ => none }
def FnEmbeddingsWrongFalsely : Prop := fnEmbeddingsRow.holds Tryz.pinned (OpenSpec.ofChange fnEmbeddingsWrong)

/- THE SECOND FORM. 'bulk': how many values and letters a reading holds, each counted each time it is reached (what is shared counts as often as it is met; a slice's spare places count too). A statement '..UptoSaid' is the law's where the arguments, and the package variables that the reading takes, are together of bulk at most 1048576: NARROWER than '..Said'. Prove '..Said' where nothing that the law and all that it calls make is longer than what came in: it says more and counts as full. Else prove '..UptoSaid'. A law counts once. -/
mutual
def uptoBulk {H : Type} : DataW H → Nat
  | .lit (.string bytes) => bytes.length + 1
  | .lit _ => 1
  | .nil => 1
  | .ptr d => uptoBulk d + 1
  | .slice elems spare => uptoBulkAll elems + uptoBulkAll spare + 1
  | .agg parts => uptoBulkAll parts + 1
  | .iface _ d => uptoBulk d + 1
  | .map entries => uptoBulkEntries entries + 1
  | .held _ => 1
def uptoBulkAll {H : Type} : List (DataW H) → Nat
  | [] => 0
  | d :: r => uptoBulk d + uptoBulkAll r
def uptoBulkEntries {H : Type} : List (Lit × DataW H) → Nat
  | [] => 0
  | x :: r => uptoBulkEntry x + uptoBulkEntries r
def uptoBulkEntry {H : Type} : Lit × DataW H → Nat
  | (.string bytes, d) => bytes.length + uptoBulk d + 1
  | (_, d) => uptoBulk d + 1
 end
def uptoSmall : (H : Type) → List (DataW H) → Bool := fun _ ds => decide (uptoBulkAll ds ≤ 1048576)
def OpenSpec.upto (s : _root_.Go.ChangeSpec) : _root_.Go.OpenSpec := { _root_.Go.OpenSpec.ofChange s with cond := some uptoSmall }

/-- 'laws.FnBindVariable', WHERE WHAT IT READS IS OF BULK AT MOST 1048576: true; the input reads as it did. -/
def fnBindVariableUptoRow : OpenClaim := { program := "ytedciihjgbkjgabgreat", sum := "e35bec47f5072079685a54c9286b5f611a6e01d3283e6a06891c49b0b3e668ec", func := "loop.example/g01918/laws.FnBindVariable", spec := "fnBindVariable", unfollowed := true, recurses := true, apart := false, narrowed := true }
def FnBindVariableUptoSaid : Prop := fnBindVariableUptoRow.holds Tryz.pinned (OpenSpec.upto fnBindVariableSpec)

/-- 'laws.FnEmbeddings', WHERE WHAT IT READS IS OF BULK AT MOST 1048576: true; the input reads as it did. -/
def fnEmbeddingsUptoRow : OpenClaim := { program := "ytedciihjgbkjgabgreat", sum := "e35bec47f5072079685a54c9286b5f611a6e01d3283e6a06891c49b0b3e668ec", func := "loop.example/g01918/laws.FnEmbeddings", spec := "fnEmbeddings", unfollowed := true, recurses := true, apart := false, narrowed := true }
def FnEmbeddingsUptoSaid : Prop := fnEmbeddingsUptoRow.holds Tryz.pinned (OpenSpec.upto fnEmbeddingsSpec)

end Rows
end Go.Proofs.YtedciihjgbkjgabGreat
