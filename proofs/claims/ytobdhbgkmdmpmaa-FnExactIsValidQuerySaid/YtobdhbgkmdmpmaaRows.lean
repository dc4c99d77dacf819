/-
  No cell of these rows narrows 'for every input' (looked for: loops, veiled, ifaces, maps, wideKeys, modest, calm, conditions, laid).
  DERIVED. THE GIVEN ROWS OF THIS SEAT. 2 by the template 'for every input the law returns true; each argument reads behind the call as it read before'; 0 by the template 'total and deterministic' (their statements: YtobdhbgkmdmpmaaTotals.lean).
  GIVEN WITH THE SEED: the statements are not yours to turn. If you find one false, say at which input.
  Laid BY PROGRAM, IN A SANDBOX (cutbox-rows.mjs): the forced cells as the released guide's own fill.sh prints them over the translation 06a8c1b7520ce121… (all of the seat's roots in one cut). By AI agents, Wed Nov 11 2026. No macro, syntax, notation, axiom, sorry.
-/
import Derived.Test.YtobdhbgkmdmpmaaChecked
import GoSem.Claim
import GoSem.ClaimJoined
import GoSem.ClaimMapViews
import Derived.JoinedTies
import Derived.KernelRfl
namespace Go.Proofs.Ytobdhbgkmdmpmaa
/- THE CELL 'sum', in the pinned program and in every row, IS THE sha256 OF THE DUMP (.gsa) THAT YtobdhbgkmdmpmaaProg.lean LOADS. Nothing in Lean hashes anything: it is a label: what it is worth is what the hold of that sum in a sandbox is worth. -/
noncomputable def Try.pinned : Pinned := { name := "ytobdhbgkmdmpmaa", sum := "06a8c1b7520ce121b7ccef235178c24ae7a134df174ec67c5277015a8be7b46e", checked := Try.checked }
namespace Rows
def none {H : Type} : Left H := { results := [], args := [] }

/-- 'laws.FnExactKeyVariables': WHATEVER THE INPUT: true; the input reads as it did. -/
def fnExactKeyVariablesSpec : ChangeSpec := { name := "fnExactKeyVariables", fn := fun _ => fun
  | [d1, d2] => { results := [.lit (.bool true)], args := [d1, d2] }
  | _ => none }
def fnExactKeyVariablesRow : OpenClaim := { program := "ytobdhbgkmdmpmaa", sum := "06a8c1b7520ce121b7ccef235178c24ae7a134df174ec67c5277015a8be7b46e", func := "loop.example/g01918/laws.FnExactKeyVariables", spec := "fnExactKeyVariables", recurses := true, apart := false }
def FnExactKeyVariablesSaid : Prop := fnExactKeyVariablesRow.holds Try.pinned (OpenSpec.ofChange fnExactKeyVariablesSpec)

/-- ITS FALSE NEIGHBOUR: 'it returns false'. Refute it at one input. -/
def fnExactKeyVariablesWrong : ChangeSpec := { name := "fnExactKeyVariables", fn := fun _ => fun
  | [d1, d2] => { results := [.lit (.bool false)], args := [d1, d2] }
  | _ => none }
def FnExactKeyVariablesWrongFalsely : Prop := fnExactKeyVariablesRow.holds Try.pinned (OpenSpec.ofChange fnExactKeyVariablesWrong)

/-- 'laws.FnExactIsValidQuery': WHATEVER THE INPUT: true; the input reads as it did. -/
def fnExactIsValidQuerySpec : ChangeSpec := { name := "fnExactIsValidQuery", fn := fun _ => fun
  | [d1, d2] => { results := [.lit (.bool true)], args := [d1, d2] }
  | _ => none }
def fnExactIsValidQueryRow : OpenClaim := { program := "ytobdhbgkmdmpmaa", sum := "06a8c1b7520ce121b7ccef235178c24ae7a134df174ec67c5277015a8be7b46e", func := "loop.example/g01918/laws.FnExactIsValidQuery", spec := "fnExactIsValidQuery", unfollowed := true, recurses := true, apart := false }
def FnExactIsValidQuerySaid : Prop := fnExactIsValidQueryRow.holds Try.pinned (OpenSpec.ofChange fnExactIsValidQuerySpec)

/-- ITS FALSE NEIGHBOUR: 'it returns false'. Refute it at one input. -/
def fnExactIsValidQueryWrong : ChangeSpec := { name := "fnExactIsValidQuery", fn := fun _ => fun
  | [d1, d2] => { results := [.lit (.bool false)], args := [d1, d2] }
  | _ => none }
def FnExactIsValidQueryWrongFalsely : Prop := fnExactIsValidQueryRow.holds Try.pinned (OpenSpec.ofChange fnExactIsValidQueryWrong)

/- THE SECOND FORM. 'bulk': how many values and letters a reading holds, each counted each time it is reached (what is shared counts as often as it is met; a slice's spare places count too). A statement '..UptoSaid' is the law's where the arguments, and the package variables that the reading takes, are together of bulk at most 1048576: NARROWER than '..Said'. Prove '..Said' where nothing that the law and all that it calls make is longer than what came in: it says more and counts as full. Else prove '..UptoSaid'. A law counts once. -/
mutual
def uptoBulk {H : Type} : DataW H → Nat
  | .lit (.string bytes) => bytes.length + 1
  | .lit _ => 1
  | .nil => 1
  | .ptr d => uptoBulk d + 1
  | .slice elems spare => uptoBulkAll elems + uptoBulkAll spare + 1
  | .agg parts => uptoBulkAll parts + 1
  | .iface _ d => uptoBulk d + 1
  | .map entries => uptoBulkEntries entries + 1
  | .held _ => 1
def uptoBulkAll {H : Type} : List (DataW H) → Nat
  | [] => 0
  | d :: r => uptoBulk d + uptoBulkAll r
def uptoBulkEntries {H : Type} : List (Lit × DataW H) → Nat
  | [] => 0
  | x :: r => uptoBulkEntry x + uptoBulkEntries r
def uptoBulkEntry {H : Type} : Lit × DataW H → Nat
  | (.string bytes, d) => bytes.length + uptoBulk d + 1
  | (_, d) => uptoBulk d + 1
 end
def uptoSmall : (H : Type) → List (DataW H) → Bool := fun _ ds => decide (uptoBulkAll ds ≤ 1048576)
def OpenSpec.upto (s : _root_.Go.ChangeSpec) : _root_.Go.OpenSpec := { _root_.Go.OpenSpec.ofChange s with cond := some uptoSmall }

/-- 'laws.FnExactKeyVariables', WHERE WHAT IT READS IS OF BULK AT MOST 1048576: true; the input reads as it did. -/
def fnExactKeyVariablesUptoRow : OpenClaim := { program := "ytobdhbgkmdmpmaa", sum := "06a8c1b7520ce121b7ccef235178c24ae7a134df174ec67c5277015a8be7b46e", func := "loop.example/g01918/laws.FnExactKeyVariables", spec := "fnExactKeyVariables", recurses := true, apart := false, narrowed := true }
def FnExactKeyVariablesUptoSaid : Prop := fnExactKeyVariablesUptoRow.holds Try.pinned (OpenSpec.upto fnExactKeyVariablesSpec)

/-- 'laws.FnExactIsValidQuery', WHERE WHAT IT READS IS OF BULK AT MOST 1048576: true; the input reads as it did. -/
def fnExactIsValidQueryUptoRow : OpenClaim := { program := "ytobdhbgkmdmpmaa", sum := "06a8c1b7520ce121b7ccef235178c24ae7a134df174ec67c5277015a8be7b46e", func := "loop.example/g01918/laws.FnExactIsValidQuery", spec := "fnExactIsValidQuery", unfollowed := true, recurses := true, apart := false, narrowed := true }
def FnExactIsValidQueryUptoSaid : Prop := fnExactIsValidQueryUptoRow.holds Try.pinned (OpenSpec.upto fnExactIsValidQuerySpec)

end Rows
end Go.Proofs.Ytobdhbgkmdmpmaa
