/-
  No cell of these rows narrows 'for every input' (looked for: loops, veiled, ifaces, maps, wideKeys, modest, calm, conditions, laid).
  DERIVED. THE GIVEN ROWS OF THIS SEAT. 6 by the template 'for every input the law returns true; each argument reads behind the call as it read before'; 0 by the template 'total and deterministic' (their statements: YtcekenllpjhckaaTotals.lean).
  GIVEN WITH THE SEED: the statements are not yours to turn. If you find one false, say at which input.
  Laid BY PROGRAM, IN A SANDBOX (cutbox-rows.mjs): the forced cells as the released guide's own fill.sh prints them over the translation a2ea3903d1a84058… (all of the seat's roots in one cut). By AI agents, Wed Nov 11 2026. No macro, syntax, notation, axiom, sorry.
-/
import Derived.Test.YtcekenllpjhckaaChecked
import GoSem.Claim
import GoSem.ClaimJoined
import GoSem.ClaimMapViews
import Derived.JoinedTies
import Derived.KernelRfl
namespace Go.Proofs.Ytcekenllpjhckaa
/- THE CELL 'sum', in the pinned program and in every row, IS THE sha256 OF THE DUMP (.gsa) THAT YtcekenllpjhckaaProg.lean LOADS. Nothing in Lean hashes anything: it is a label: what it is worth is what the hold of that sum in a sandbox is worth. -/
noncomputable def Try.pinned : Pinned := { name := "ytcekenllpjhckaa", sum := "a2ea3903d1a84058b63c6be909447d388382f5e4e504ee21b95eb61a17b26a68", checked := Try.checked }
namespace Rows
def none {H : Type} : Left H := { results := [], args := [] }

/-- 'laws.FnExactGroupSize': WHATEVER THE INPUT: true; the input reads as it did. -/
def fnExactGroupSizeSpec : ChangeSpec := { name := "fnExactGroupSize", fn := fun _ => fun
  | [d] => { results := [.lit (.bool true)], args := [d] }
  | _ => none }
def fnExactGroupSizeRow : OpenClaim := { program := "ytcekenllpjhckaa", sum := "a2ea3903d1a84058b63c6be909447d388382f5e4e504ee21b95eb61a17b26a68", func := "loop.example/g03103/laws.FnExactGroupSize", spec := "fnExactGroupSize", apart := false }
def FnExactGroupSizeSaid : Prop := fnExactGroupSizeRow.holds Try.pinned (OpenSpec.ofChange fnExactGroupSizeSpec)

/-- ITS FALSE NEIGHBOUR: 'it returns false'. Refute it at one input. -/
def fnExactGroupSizeWrong : ChangeSpec := { name := "fnExactGroupSize", fn := fun _ => fun
  | [d] => { results := [.lit (.bool false)], args := [d] }
  | _ => none }
def FnExactGroupSizeWrongFalsely : Prop := fnExactGroupSizeRow.holds Try.pinned (OpenSpec.ofChange fnExactGroupSizeWrong)

/-- 'laws.FnExactVectorSum': WHATEVER THE INPUT: true; the input reads as it did. -/
def fnExactVectorSumSpec : ChangeSpec := { name := "fnExactVectorSum", fn := fun _ => fun
  | [d] => { results := [.lit (.bool true)], args := [d] }
  | _ => none }
def fnExactVectorSumRow : OpenClaim := { program := "ytcekenllpjhckaa", sum := "a2ea3903d1a84058b63c6be909447d388382f5e4e504ee21b95eb61a17b26a68", func := "loop.example/g03103/laws.FnExactVectorSum", spec := "fnExactVectorSum", apart := false }
def FnExactVectorSumSaid : Prop := fnExactVectorSumRow.holds Try.pinned (OpenSpec.ofChange fnExactVectorSumSpec)

/-- ITS FALSE NEIGHBOUR: 'it returns false'. Refute it at one input. -/
def fnExactVectorSumWrong : ChangeSpec := { name := "fnExactVectorSum", fn := fun _ => fun
  | [d] => { results := [.lit (.bool false)], args := [d] }
  | _ => none }
def FnExactVectorSumWrongFalsely : Prop := fnExactVectorSumRow.holds Try.pinned (OpenSpec.ofChange fnExactVectorSumWrong)

/-- 'laws.FnExactCountRuns': WHATEVER THE INPUT: true; the input reads as it did. -/
def fnExactCountRunsSpec : ChangeSpec := { name := "fnExactCountRuns", fn := fun _ => fun
  | [d1, d2, d3] => { results := [.lit (.bool true)], args := [d1, d2, d3] }
  | _ => none }
def fnExactCountRunsRow : OpenClaim := { program := "ytcekenllpjhckaa", sum := "a2ea3903d1a84058b63c6be909447d388382f5e4e504ee21b95eb61a17b26a68", func := "loop.example/g03103/laws.FnExactCountRuns", spec := "fnExactCountRuns", apart := false }
def FnExactCountRunsSaid : Prop := fnExactCountRunsRow.holds Try.pinned (OpenSpec.ofChange fnExactCountRunsSpec)

/-- ITS FALSE NEIGHBOUR: 'it returns false'. Refute it at one input. -/
def fnExactCountRunsWrong : ChangeSpec := { name := "fnExactCountRuns", fn := fun _ => fun
  | [d1, d2, d3] => { results := [.lit (.bool false)], args := [d1, d2, d3] }
  | _ => none }
def FnExactCountRunsWrongFalsely : Prop := fnExactCountRunsRow.holds Try.pinned (OpenSpec.ofChange fnExactCountRunsWrong)

/-- 'laws.FnExactIsChance': WHATEVER THE INPUT: true; the input reads as it did. -/
def fnExactIsChanceSpec : ChangeSpec := { name := "fnExactIsChance", fn := fun _ => fun
  | [d] => { results := [.lit (.bool true)], args := [d] }
  | _ => none }
def fnExactIsChanceRow : OpenClaim := { program := "ytcekenllpjhckaa", sum := "a2ea3903d1a84058b63c6be909447d388382f5e4e504ee21b95eb61a17b26a68", func := "loop.example/g03103/laws.FnExactIsChance", spec := "fnExactIsChance", apart := false }
def FnExactIsChanceSaid : Prop := fnExactIsChanceRow.holds Try.pinned (OpenSpec.ofChange fnExactIsChanceSpec)

/-- ITS FALSE NEIGHBOUR: 'it returns false'. Refute it at one input. -/
def fnExactIsChanceWrong : ChangeSpec := { name := "fnExactIsChance", fn := fun _ => fun
  | [d] => { results := [.lit (.bool false)], args := [d] }
  | _ => none }
def FnExactIsChanceWrongFalsely : Prop := fnExactIsChanceRow.holds Try.pinned (OpenSpec.ofChange fnExactIsChanceWrong)

/-- 'laws.FnExactRunLabels': WHATEVER THE INPUT: true; the input reads as it did. -/
def fnExactRunLabelsSpec : ChangeSpec := { name := "fnExactRunLabels", fn := fun _ => fun
  | [d1, d2] => { results := [.lit (.bool true)], args := [d1, d2] }
  | _ => none }
def fnExactRunLabelsRow : OpenClaim := { program := "ytcekenllpjhckaa", sum := "a2ea3903d1a84058b63c6be909447d388382f5e4e504ee21b95eb61a17b26a68", func := "loop.example/g03103/laws.FnExactRunLabels", spec := "fnExactRunLabels", apart := false }
def FnExactRunLabelsSaid : Prop := fnExactRunLabelsRow.holds Try.pinned (OpenSpec.ofChange fnExactRunLabelsSpec)

/-- ITS FALSE NEIGHBOUR: 'it returns false'. Refute it at one input. -/
def fnExactRunLabelsWrong : ChangeSpec := { name := "fnExactRunLabels", fn := fun _ => fun
  | [d1, d2] => { results := [.lit (.bool false)], args := [d1, d2] }
  | _ => none }
def FnExactRunLabelsWrongFalsely : Prop := fnExactRunLabelsRow.holds Try.pinned (OpenSpec.ofChange fnExactRunLabelsWrong)

/-- 'laws.FnExactIsEven': WHATEVER THE INPUT: true; the input reads as it did. -/
def fnExactIsEvenSpec : ChangeSpec := { name := "fnExactIsEven", fn := fun _ => fun
  | [d] => { results := [.lit (.bool true)], args := [d] }
  | _ => none }
def fnExactIsEvenRow : OpenClaim := { program := "ytcekenllpjhckaa", sum := "a2ea3903d1a84058b63c6be909447d388382f5e4e504ee21b95eb61a17b26a68", func := "loop.example/g03103/laws.FnExactIsEven", spec := "fnExactIsEven", apart := false }
def FnExactIsEvenSaid : Prop := fnExactIsEvenRow.holds Try.pinned (OpenSpec.ofChange fnExactIsEvenSpec)

/-- ITS FALSE NEIGHBOUR: 'it returns false'. Refute it at one input. -/
def fnExactIsEvenWrong : ChangeSpec := { name := "fnExactIsEven", fn := fun _ => fun
  | [d] => { results := [.lit (.bool false)], args := [d] }
  | _ => none }
def FnExactIsEvenWrongFalsely : Prop := fnExactIsEvenRow.holds Try.pinned (OpenSpec.ofChange fnExactIsEvenWrong)

/- THE SECOND FORM. 'bulk': how many values and letters a reading holds, each counted each time it is reached (what is shared counts as often as it is met; a slice's spare places count too). A statement '..UptoSaid' is the law's where the arguments, and the package variables that the reading takes, are together of bulk at most 1048576: NARROWER than '..Said'. Prove '..Said' where nothing that the law and all that it calls make is longer than what came in: it says more and counts as full. Else prove '..UptoSaid'. A law counts once. -/
mutual
def uptoBulk {H : Type} : DataW H → Nat
  | .lit (.string bytes) => bytes.length + 1
  | .lit _ => 1
  | .nil => 1
  | .ptr d => uptoBulk d + 1
  | .slice elems spare => uptoBulkAll elems + uptoBulkAll spare + 1
  | .agg parts => uptoBulkAll parts + 1
  | .iface _ d => uptoBulk d + 1
  | .map entries => uptoBulkEntries entries + 1
  | .held _ => 1
def uptoBulkAll {H : Type} : List (DataW H) → Nat
  | [] => 0
  | d :: r => uptoBulk d + uptoBulkAll r
def uptoBulkEntries {H : Type} : List (Lit × DataW H) → Nat
  | [] => 0
  | x :: r => uptoBulkEntry x + uptoBulkEntries r
def uptoBulkEntry {H : Type} : Lit × DataW H → Nat
  | (.string bytes, d) => bytes.length + uptoBulk d + 1
  | (_, d) => uptoBulk d + 1
 end
def uptoSmall : (H : Type) → List (DataW H) → Bool := fun _ ds => decide (uptoBulkAll ds ≤ 1048576)
def OpenSpec.upto (s : _root_.Go.ChangeSpec) : _root_.Go.OpenSpec := { _root_.Go.OpenSpec.ofChange s with cond := some uptoSmall }

/-- 'laws.FnExactGroupSize', WHERE WHAT IT READS IS OF BULK AT MOST 1048576: true; the input reads as it did. -/
def fnExactGroupSizeUptoRow : OpenClaim := { program := "ytcekenllpjhckaa", sum := "a2ea3903d1a84058b63c6be909447d388382f5e4e504ee21b95eb61a17b26a68", func := "loop.example/g03103/laws.FnExactGroupSize", spec := "fnExactGroupSize", apart := false, narrowed := true }
def FnExactGroupSizeUptoSaid : Prop := fnExactGroupSizeUptoRow.holds Try.pinned (OpenSpec.upto fnExactGroupSizeSpec)

/-- 'laws.FnExactVectorSum', WHERE WHAT IT READS IS OF BULK AT MOST 1048576: true; the input reads as it did. -/
def fnExactVectorSumUptoRow : OpenClaim := { program := "ytcekenllpjhckaa", sum := "a2ea3903d1a84058b63c6be909447d388382f5e4e504ee21b95eb61a17b26a68", func := "loop.example/g03103/laws.FnExactVectorSum", spec := "fnExactVectorSum", apart := false, narrowed := true }
def FnExactVectorSumUptoSaid : Prop := fnExactVectorSumUptoRow.holds Try.pinned (OpenSpec.upto fnExactVectorSumSpec)

/-- 'laws.FnExactCountRuns', WHERE WHAT IT READS IS OF BULK AT MOST 1048576: true; the input reads as it did. -/
def fnExactCountRunsUptoRow : OpenClaim := { program := "ytcekenllpjhckaa", sum := "a2ea3903d1a84058b63c6be909447d388382f5e4e504ee21b95eb61a17b26a68", func := "loop.example/g03103/laws.FnExactCountRuns", spec := "fnExactCountRuns", apart := false, narrowed := true }
def FnExactCountRunsUptoSaid : Prop := fnExactCountRunsUptoRow.holds Try.pinned (OpenSpec.upto fnExactCountRunsSpec)

/-- 'laws.FnExactIsChance', WHERE WHAT IT READS IS OF BULK AT MOST 1048576: true; the input reads as it did. -/
def fnExactIsChanceUptoRow : OpenClaim := { program := "ytcekenllpjhckaa", sum := "a2ea3903d1a84058b63c6be909447d388382f5e4e504ee21b95eb61a17b26a68", func := "loop.example/g03103/laws.FnExactIsChance", spec := "fnExactIsChance", apart := false, narrowed := true }
def FnExactIsChanceUptoSaid : Prop := fnExactIsChanceUptoRow.holds Try.pinned (OpenSpec.upto fnExactIsChanceSpec)

/-- 'laws.FnExactRunLabels', WHERE WHAT IT READS IS OF BULK AT MOST 1048576: true; the input reads as it did. -/
def fnExactRunLabelsUptoRow : OpenClaim := { program := "ytcekenllpjhckaa", sum := "a2ea3903d1a84058b63c6be909447d388382f5e4e504ee21b95eb61a17b26a68", func := "loop.example/g03103/laws.FnExactRunLabels", spec := "fnExactRunLabels", apart := false, narrowed := true }
def FnExactRunLabelsUptoSaid : Prop := fnExactRunLabelsUptoRow.holds Try.pinned (OpenSpec.upto fnExactRunLabelsSpec)

/-- 'laws.FnExactIsEven', WHERE WHAT IT READS IS OF BULK AT MOST 1048576: true; the input reads as it did. -/
def fnExactIsEvenUptoRow : OpenClaim := { program := "ytcekenllpjhckaa", sum := "a2ea3903d1a84058b63c6be909447d388382f5e4e504ee21b95eb61a17b26a68", func := "loop.example/g03103/laws.FnExactIsEven", spec := "fnExactIsEven", apart := false, narrowed := true }
def FnExactIsEvenUptoSaid : Prop := fnExactIsEvenUptoRow.holds Try.pinned (OpenSpec.upto fnExactIsEvenSpec)

end Rows
end Go.Proofs.Ytcekenllpjhckaa
