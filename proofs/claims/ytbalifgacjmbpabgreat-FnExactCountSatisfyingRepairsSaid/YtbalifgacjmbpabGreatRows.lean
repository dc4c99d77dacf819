/-
  No cell of these rows narrows 'for every input' (looked for: loops, veiled, ifaces, maps, wideKeys, modest, calm, conditions, laid).
  DERIVED. THE GIVEN ROWS OF THIS SEAT. 5 by the template 'for every input the law returns true; each argument reads behind the call as it read before'; 0 by the template 'total and deterministic' (their statements: YtbalifgacjmbpabGreatTotals.lean).
  GIVEN WITH THE SEED: the statements are not yours to turn. If you find one false, say at which input.
  Laid BY PROGRAM, IN A SANDBOX (cutbox-rows.mjs): the forced cells as the released guide's own fill.sh prints them over the translation 6d4aa7a2011fac49… (all of the seat's roots in one cut). By AI agents, Wed Nov 11 2026. No macro, syntax, notation, axiom, sorry.
-/
import Derived.Test.YtbalifgacjmbpabGreatChecked
import GoSem.Claim
import GoSem.ClaimJoined
import GoSem.ClaimMapViews
import Derived.JoinedTies
import Derived.KernelRfl
namespace Go.Proofs.YtbalifgacjmbpabGreat
/- THE CELL 'sum', in the pinned program and in every row, IS THE sha256 OF THE DUMP (.gsa) THAT YtbalifgacjmbpabGreatProg.lean LOADS. Nothing in Lean hashes anything: it is a label: what it is worth is what the hold of that sum in a sandbox is worth. -/
noncomputable def Tryz.pinned : Pinned := { name := "ytbalifgacjmbpabgreat", sum := "6d4aa7a2011fac49e58b51fdf0629194d4301b8d198c1aaf12dd463905e302cd", checked := Tryz.checked }
namespace Rows
def none {H : Type} : Left H := { results := [], args := [] }

/-- 'laws.FnExactFindEmbeddings': WHATEVER THE INPUT: true; the input reads as it did. -/
def fnExactFindEmbeddingsSpec : ChangeSpec := { name := "fnExactFindEmbeddings", fn := fun _ => fun
  | [d1, d2] => { results := [.lit (.bool true)], args := [d1, d2] }
  | _ => none }
def fnExactFindEmbeddingsRow : OpenClaim := { program := "ytbalifgacjmbpabgreat", sum := "6d4aa7a2011fac49e58b51fdf0629194d4301b8d198c1aaf12dd463905e302cd", func := "loop.example/g01918/laws.FnExactFindEmbeddings", spec := "fnExactFindEmbeddings", unfollowed := true, recurses := true, apart := false }
def FnExactFindEmbeddingsSaid : Prop := fnExactFindEmbeddingsRow.holds Tryz.pinned (OpenSpec.ofChange fnExactFindEmbeddingsSpec)

/-- ITS FALSE NEIGHBOUR: 'it returns false'. Refute it at one input. -/
def fnExactFindEmbeddingsWrong : ChangeSpec := { name := "fnExactFindEmbeddings", fn := fun _ => fun
  | [d1, d2] => { results := [.lit (.bool false)], args := [d1, d2] }
  | _ => none }
def FnExactFindEmbeddingsWrongFalsely : Prop := fnExactFindEmbeddingsRow.holds Tryz.pinned (OpenSpec.ofChange fnExactFindEmbeddingsWrong)

/-- 'laws.FnExactHoldsIn': WHATEVER THE INPUT: true; the input reads as it did. -/
def fnExactHoldsInSpec : ChangeSpec := { name := "fnExactHoldsIn", fn := fun _ => fun
  | [d1, d2, d3] => { results := [.lit (.bool true)], args := [d1, d2, d3] }
  | _ => none }
def fnExactHoldsInRow : OpenClaim := { program := "ytbalifgacjmbpabgreat", sum := "6d4aa7a2011fac49e58b51fdf0629194d4301b8d198c1aaf12dd463905e302cd", func := "loop.example/g01918/laws.FnExactHoldsIn", spec := "fnExactHoldsIn", unfollowed := true, recurses := true, apart := false }
def FnExactHoldsInSaid : Prop := fnExactHoldsInRow.holds Tryz.pinned (OpenSpec.ofChange fnExactHoldsInSpec)

/-- ITS FALSE NEIGHBOUR: 'it returns false'. Refute it at one input. -/
def fnExactHoldsInWrong : ChangeSpec := { name := "fnExactHoldsIn", fn := fun _ => fun
  | [d1, d2, d3] => { results := [.lit (.bool false)], args := [d1, d2, d3] }
  | _ => none }
def FnExactHoldsInWrongFalsely : Prop := fnExactHoldsInRow.holds Tryz.pinned (OpenSpec.ofChange fnExactHoldsInWrong)

/-- 'laws.FnExactWitnesses': WHATEVER THE INPUT: true; the input reads as it did. -/
def fnExactWitnessesSpec : ChangeSpec := { name := "fnExactWitnesses", fn := fun _ => fun
  | [d1, d2] => { results := [.lit (.bool true)], args := [d1, d2] }
  | _ => none }
def fnExactWitnessesRow : OpenClaim := { program := "ytbalifgacjmbpabgreat", sum := "6d4aa7a2011fac49e58b51fdf0629194d4301b8d198c1aaf12dd463905e302cd", func := "loop.example/g01918/laws.FnExactWitnesses", spec := "fnExactWitnesses", unfollowed := true, recurses := true, apart := false }
def FnExactWitnessesSaid : Prop := fnExactWitnessesRow.holds Tryz.pinned (OpenSpec.ofChange fnExactWitnessesSpec)

/-- ITS FALSE NEIGHBOUR: 'it returns false'. Refute it at one input. -/
def fnExactWitnessesWrong : ChangeSpec := { name := "fnExactWitnesses", fn := fun _ => fun
  | [d1, d2] => { results := [.lit (.bool false)], args := [d1, d2] }
  | _ => none }
def FnExactWitnessesWrongFalsely : Prop := fnExactWitnessesRow.holds Tryz.pinned (OpenSpec.ofChange fnExactWitnessesWrong)

/-- 'laws.FnExactRelevantFacts': WHATEVER THE INPUT: true; the input reads as it did. -/
def fnExactRelevantFactsSpec : ChangeSpec := { name := "fnExactRelevantFacts", fn := fun _ => fun
  | [d1, d2] => { results := [.lit (.bool true)], args := [d1, d2] }
  | _ => none }
def fnExactRelevantFactsRow : OpenClaim := { program := "ytbalifgacjmbpabgreat", sum := "6d4aa7a2011fac49e58b51fdf0629194d4301b8d198c1aaf12dd463905e302cd", func := "loop.example/g01918/laws.FnExactRelevantFacts", spec := "fnExactRelevantFacts", unfollowed := true, recurses := true, apart := false }
def FnExactRelevantFactsSaid : Prop := fnExactRelevantFactsRow.holds Tryz.pinned (OpenSpec.ofChange fnExactRelevantFactsSpec)

/-- ITS FALSE NEIGHBOUR: 'it returns false'. Refute it at one input. -/
def fnExactRelevantFactsWrong : ChangeSpec := { name := "fnExactRelevantFacts", fn := fun _ => fun
  | [d1, d2] => { results := [.lit (.bool false)], args := [d1, d2] }
  | _ => none }
def FnExactRelevantFactsWrongFalsely : Prop := fnExactRelevantFactsRow.holds Tryz.pinned (OpenSpec.ofChange fnExactRelevantFactsWrong)

/-- 'laws.FnExactCountSatisfyingRepairs': WHATEVER THE INPUT: true; the input reads as it did. -/
def fnExactCountSatisfyingRepairsSpec : ChangeSpec := { name := "fnExactCountSatisfyingRepairs", fn := fun _ => fun
  | [d1, d2] => { results := [.lit (.bool true)], args := [d1, d2] }
  | _ => none }
def fnExactCountSatisfyingRepairsRow : OpenClaim := { program := "ytbalifgacjmbpabgreat", sum := "6d4aa7a2011fac49e58b51fdf0629194d4301b8d198c1aaf12dd463905e302cd", func := "loop.example/g01918/laws.FnExactCountSatisfyingRepairs", spec := "fnExactCountSatisfyingRepairs", unfollowed := true, recurses := true, apart := false }
def FnExactCountSatisfyingRepairsSaid : Prop := fnExactCountSatisfyingRepairsRow.holds Tryz.pinned (OpenSpec.ofChange fnExactCountSatisfyingRepairsSpec)

/-- ITS FALSE NEIGHBOUR: 'it returns false'. Refute it at one input. -/
def fnExactCountSatisfyingRepairsWrong : ChangeSpec := { name := "fnExactCountSatisfyingRepairs", fn := fun _ => fun
  | [d1, d2] => { results := [.lit (.bool false)], args := [d1, d2] }
  | _ => none }
def FnExactCountSatisfyingRepairsWrongFalsely : Prop := fnExactCountSatisfyingRepairsRow.holds Tryz.pinned (OpenSpec.ofChange fnExactCountSatisfyingRepairsWrong)

/- THE SECOND FORM. 'bulk': how many values and letters a reading holds, each counted each time it is reached (what is shared counts as often as it is met; a slice's spare places count too). A statement '..UptoSaid' is the law's where the arguments, and the package variables that the reading takes, are together of bulk at most 1048576: NARROWER than '..Said'. Prove '..Said' where nothing that the law and all that it calls make is longer than what came in: it says more and counts as full. Else prove '..UptoSaid'. A law counts once. -/
mutual
def uptoBulk {H : Type} : DataW H → Nat
  | .lit (.string bytes) => bytes.length + 1
  | .lit _ => 1
  | .nil => 1
  | .ptr d => uptoBulk d + 1
  | .slice elems spare => uptoBulkAll elems + uptoBulkAll spare + 1
  | .agg parts => uptoBulkAll parts + 1
  | .iface _ d => uptoBulk d + 1
  | .map entries => uptoBulkEntries entries + 1
  | .held _ => 1
def uptoBulkAll {H : Type} : List (DataW H) → Nat
  | [] => 0
  | d :: r => uptoBulk d + uptoBulkAll r
def uptoBulkEntries {H : Type} : List (Lit × DataW H) → Nat
  | [] => 0
  | x :: r => uptoBulkEntry x + uptoBulkEntries r
def uptoBulkEntry {H : Type} : Lit × DataW H → Nat
  | (.string bytes, d) => bytes.length + uptoBulk d + 1
  | (_, d) => uptoBulk d + 1
 end
def uptoSmall : (H : Type) → List (DataW H) → Bool := fun _ ds => decide (uptoBulkAll ds ≤ 1048576)
def OpenSpec.upto (s : _root_.Go.ChangeSpec) : _root_.Go.OpenSpec := { _root_.Go.OpenSpec.ofChange s with cond := some uptoSmall }

/-- 'laws.FnExactFindEmbeddings', WHERE WHAT IT READS IS OF BULK AT MOST 1048576: true; the input reads as it did. -/
def fnExactFindEmbeddingsUptoRow : OpenClaim := { program := "ytbalifgacjmbpabgreat", sum := "6d4aa7a2011fac49e58b51fdf0629194d4301b8d198c1aaf12dd463905e302cd", func := "loop.example/g01918/laws.FnExactFindEmbeddings", spec := "fnExactFindEmbeddings", unfollowed := true, recurses := true, apart := false, narrowed := true }
def FnExactFindEmbeddingsUptoSaid : Prop := fnExactFindEmbeddingsUptoRow.holds Tryz.pinned (OpenSpec.upto fnExactFindEmbeddingsSpec)

/-- 'laws.FnExactHoldsIn', WHERE WHAT IT READS IS OF BULK AT MOST 1048576: true; the input reads as it did. -/
def fnExactHoldsInUptoRow : OpenClaim := { program := "ytbalifgacjmbpabgreat", sum := "6d4aa7a2011fac49e58b51fdf0629194d4301b8d198c1aaf12dd463905e302cd", func := "loop.example/g01918/laws.FnExactHoldsIn", spec := "fnExactHoldsIn", unfollowed := true, recurses := true, apart := false, narrowed := true }
def FnExactHoldsInUptoSaid : Prop := fnExactHoldsInUptoRow.holds Tryz.pinned (OpenSpec.upto fnExactHoldsInSpec)

/-- 'laws.FnExactWitnesses', WHERE WHAT IT READS IS OF BULK AT MOST 1048576: true; the input reads as it did. -/
def fnExactWitnessesUptoRow : OpenClaim := { program := "ytbalifgacjmbpabgreat", sum := "6d4aa7a2011fac49e58b51fdf0629194d4301b8d198c1aaf12dd463905e302cd", func := "loop.example/g01918/laws.FnExactWitnesses", spec := "fnExactWitnesses", unfollowed := true, recurses := true, apart := false, narrowed := true }
def FnExactWitnessesUptoSaid : Prop := fnExactWitnessesUptoRow.holds Tryz.pinned (OpenSpec.upto fnExactWitnessesSpec)

/-- 'laws.FnExactRelevantFacts', WHERE WHAT IT READS IS OF BULK AT MOST 1048576: true; the input reads as it did. -/
def fnExactRelevantFactsUptoRow : OpenClaim := { program := "ytbalifgacjmbpabgreat", sum := "6d4aa7a2011fac49e58b51fdf0629194d4301b8d198c1aaf12dd463905e302cd", func := "loop.example/g01918/laws.FnExactRelevantFacts", spec := "fnExactRelevantFacts", unfollowed := true, recurses := true, apart := false, narrowed := true }
def FnExactRelevantFactsUptoSaid : Prop := fnExactRelevantFactsUptoRow.holds Tryz.pinned (OpenSpec.upto fnExactRelevantFactsSpec)

/-- 'laws.FnExactCountSatisfyingRepairs', WHERE WHAT IT READS IS OF BULK AT MOST 1048576: true; the input reads as it did. -/
def fnExactCountSatisfyingRepairsUptoRow : OpenClaim := { program := "ytbalifgacjmbpabgreat", sum := "6d4aa7a2011fac49e58b51fdf0629194d4301b8d198c1aaf12dd463905e302cd", func := "loop.example/g01918/laws.FnExactCountSatisfyingRepairs", spec := "fnExactCountSatisfyingRepairs", unfollowed := true, recurses := true, apart := false, narrowed := true }
def FnExactCountSatisfyingRepairsUptoSaid : Prop := fnExactCountSatisfyingRepairsUptoRow.holds Tryz.pinned (OpenSpec.upto fnExactCountSatisfyingRepairsSpec)

end Rows
end Go.Proofs.YtbalifgacjmbpabGreat
