/-
  No cell of these rows narrows 'for every input' (looked for: loops, veiled, ifaces, maps, wideKeys, modest, calm, conditions, laid).
  DERIVED. THE GIVEN ROWS OF THIS SEAT. 9 by the template 'for every input the law returns true; each argument reads behind the call as it read before'; 0 by the template 'total and deterministic' (their statements: YtaomoahcdlkifaaTotals.lean).
  GIVEN WITH THE SEED: the statements are not yours to turn. If you find one false, say at which input.
  Laid BY PROGRAM, IN A SANDBOX (cutbox-rows.mjs): the forced cells as the released guide's own fill.sh prints them over the translation c851ecf0db386591… (all of the seat's roots in one cut). By AI agents, Wed Nov 11 2026. No macro, syntax, notation, axiom, sorry.
-/
import Derived.Test.YtaomoahcdlkifaaChecked
import GoSem.Claim
import GoSem.ClaimJoined
import GoSem.ClaimMapViews
import Derived.JoinedTies
import Derived.KernelRfl
namespace Go.Proofs.Ytaomoahcdlkifaa
/- THE CELL 'sum', in the pinned program and in every row, IS THE sha256 OF THE DUMP (.gsa) THAT YtaomoahcdlkifaaProg.lean LOADS. Nothing in Lean hashes anything: it is a label: what it is worth is what the hold of that sum in a sandbox is worth. -/
noncomputable def Try.pinned : Pinned := { name := "ytaomoahcdlkifaa", sum := "c851ecf0db3865913848ffdda5393be78b03be5e1924bf470d8e6e8f811bf843", checked := Try.checked }
namespace Rows
def none {H : Type} : Left H := { results := [], args := [] }

/-- 'laws.FnExactCountRuns': WHATEVER THE INPUT: true; the input reads as it did. -/
def fnExactCountRunsSpec : ChangeSpec := { name := "fnExactCountRuns", fn := fun _ => fun
  | [d1, d2, d3] => { results := [.lit (.bool true)], args := [d1, d2, d3] }
  | _ => none }
def fnExactCountRunsRow : OpenClaim := { program := "ytaomoahcdlkifaa", sum := "c851ecf0db3865913848ffdda5393be78b03be5e1924bf470d8e6e8f811bf843", func := "loop.example/g03103/laws.FnExactCountRuns", spec := "fnExactCountRuns", apart := false }
def FnExactCountRunsSaid : Prop := fnExactCountRunsRow.holds Try.pinned (OpenSpec.ofChange fnExactCountRunsSpec)

/-- ITS FALSE NEIGHBOUR: 'it returns false'. Refute it at one input. -/
def fnExactCountRunsWrong : ChangeSpec := { name := "fnExactCountRuns", fn := fun _ => fun
  | [d1, d2, d3] => { results := [.lit (.bool false)], args := [d1, d2, d3] }
  | _ => none }
def FnExactCountRunsWrongFalsely : Prop := fnExactCountRunsRow.holds Try.pinned (OpenSpec.ofChange fnExactCountRunsWrong)

/-- 'laws.FnExactRunLabels': WHATEVER THE INPUT: true; the input reads as it did. -/
def fnExactRunLabelsSpec : ChangeSpec := { name := "fnExactRunLabels", fn := fun _ => fun
  | [d1, d2] => { results := [.lit (.bool true)], args := [d1, d2] }
  | _ => none }
def fnExactRunLabelsRow : OpenClaim := { program := "ytaomoahcdlkifaa", sum := "c851ecf0db3865913848ffdda5393be78b03be5e1924bf470d8e6e8f811bf843", func := "loop.example/g03103/laws.FnExactRunLabels", spec := "fnExactRunLabels", apart := false }
def FnExactRunLabelsSaid : Prop := fnExactRunLabelsRow.holds Try.pinned (OpenSpec.ofChange fnExactRunLabelsSpec)

/-- ITS FALSE NEIGHBOUR: 'it returns false'. Refute it at one input. -/
def fnExactRunLabelsWrong : ChangeSpec := { name := "fnExactRunLabels", fn := fun _ => fun
  | [d1, d2] => { results := [.lit (.bool false)], args := [d1, d2] }
  | _ => none }
def FnExactRunLabelsWrongFalsely : Prop := fnExactRunLabelsRow.holds Try.pinned (OpenSpec.ofChange fnExactRunLabelsWrong)

/-- 'laws.FnExactStateSums': WHATEVER THE INPUT: true; the input reads as it did. -/
def fnExactStateSumsSpec : ChangeSpec := { name := "fnExactStateSums", fn := fun _ => fun
  | [d] => { results := [.lit (.bool true)], args := [d] }
  | _ => none }
def fnExactStateSumsRow : OpenClaim := { program := "ytaomoahcdlkifaa", sum := "c851ecf0db3865913848ffdda5393be78b03be5e1924bf470d8e6e8f811bf843", func := "loop.example/g03103/laws.FnExactStateSums", spec := "fnExactStateSums", apart := false }
def FnExactStateSumsSaid : Prop := fnExactStateSumsRow.holds Try.pinned (OpenSpec.ofChange fnExactStateSumsSpec)

/-- ITS FALSE NEIGHBOUR: 'it returns false'. Refute it at one input. -/
def fnExactStateSumsWrong : ChangeSpec := { name := "fnExactStateSums", fn := fun _ => fun
  | [d] => { results := [.lit (.bool false)], args := [d] }
  | _ => none }
def FnExactStateSumsWrongFalsely : Prop := fnExactStateSumsRow.holds Try.pinned (OpenSpec.ofChange fnExactStateSumsWrong)

/-- 'laws.FnExactIsEncoder': WHATEVER THE INPUT: true; the input reads as it did. -/
def fnExactIsEncoderSpec : ChangeSpec := { name := "fnExactIsEncoder", fn := fun _ => fun
  | [d] => { results := [.lit (.bool true)], args := [d] }
  | _ => none }
def fnExactIsEncoderRow : OpenClaim := { program := "ytaomoahcdlkifaa", sum := "c851ecf0db3865913848ffdda5393be78b03be5e1924bf470d8e6e8f811bf843", func := "loop.example/g03103/laws.FnExactIsEncoder", spec := "fnExactIsEncoder", apart := false }
def FnExactIsEncoderSaid : Prop := fnExactIsEncoderRow.holds Try.pinned (OpenSpec.ofChange fnExactIsEncoderSpec)

/-- ITS FALSE NEIGHBOUR: 'it returns false'. Refute it at one input. -/
def fnExactIsEncoderWrong : ChangeSpec := { name := "fnExactIsEncoder", fn := fun _ => fun
  | [d] => { results := [.lit (.bool false)], args := [d] }
  | _ => none }
def FnExactIsEncoderWrongFalsely : Prop := fnExactIsEncoderRow.holds Try.pinned (OpenSpec.ofChange fnExactIsEncoderWrong)

/-- 'laws.FnExactRunMatrix': WHATEVER THE INPUT: true; the input reads as it did. -/
def fnExactRunMatrixSpec : ChangeSpec := { name := "fnExactRunMatrix", fn := fun _ => fun
  | [d1, d2] => { results := [.lit (.bool true)], args := [d1, d2] }
  | _ => none }
def fnExactRunMatrixRow : OpenClaim := { program := "ytaomoahcdlkifaa", sum := "c851ecf0db3865913848ffdda5393be78b03be5e1924bf470d8e6e8f811bf843", func := "loop.example/g03103/laws.FnExactRunMatrix", spec := "fnExactRunMatrix", apart := false }
def FnExactRunMatrixSaid : Prop := fnExactRunMatrixRow.holds Try.pinned (OpenSpec.ofChange fnExactRunMatrixSpec)

/-- ITS FALSE NEIGHBOUR: 'it returns false'. Refute it at one input. -/
def fnExactRunMatrixWrong : ChangeSpec := { name := "fnExactRunMatrix", fn := fun _ => fun
  | [d1, d2] => { results := [.lit (.bool false)], args := [d1, d2] }
  | _ => none }
def FnExactRunMatrixWrongFalsely : Prop := fnExactRunMatrixRow.holds Try.pinned (OpenSpec.ofChange fnExactRunMatrixWrong)

/-- 'laws.FnExactPruneLabels': WHATEVER THE INPUT: true; the input reads as it did. -/
def fnExactPruneLabelsSpec : ChangeSpec := { name := "fnExactPruneLabels", fn := fun _ => fun
  | [d] => { results := [.lit (.bool true)], args := [d] }
  | _ => none }
def fnExactPruneLabelsRow : OpenClaim := { program := "ytaomoahcdlkifaa", sum := "c851ecf0db3865913848ffdda5393be78b03be5e1924bf470d8e6e8f811bf843", func := "loop.example/g03103/laws.FnExactPruneLabels", spec := "fnExactPruneLabels", apart := false }
def FnExactPruneLabelsSaid : Prop := fnExactPruneLabelsRow.holds Try.pinned (OpenSpec.ofChange fnExactPruneLabelsSpec)

/-- ITS FALSE NEIGHBOUR: 'it returns false'. Refute it at one input. -/
def fnExactPruneLabelsWrong : ChangeSpec := { name := "fnExactPruneLabels", fn := fun _ => fun
  | [d] => { results := [.lit (.bool false)], args := [d] }
  | _ => none }
def FnExactPruneLabelsWrongFalsely : Prop := fnExactPruneLabelsRow.holds Try.pinned (OpenSpec.ofChange fnExactPruneLabelsWrong)

/-- 'laws.FnExactEncodeBits': WHATEVER THE INPUT: true; the input reads as it did. -/
def fnExactEncodeBitsSpec : ChangeSpec := { name := "fnExactEncodeBits", fn := fun _ => fun
  | [d1, d2, d3] => { results := [.lit (.bool true)], args := [d1, d2, d3] }
  | _ => none }
def fnExactEncodeBitsRow : OpenClaim := { program := "ytaomoahcdlkifaa", sum := "c851ecf0db3865913848ffdda5393be78b03be5e1924bf470d8e6e8f811bf843", func := "loop.example/g03103/laws.FnExactEncodeBits", spec := "fnExactEncodeBits", apart := false }
def FnExactEncodeBitsSaid : Prop := fnExactEncodeBitsRow.holds Try.pinned (OpenSpec.ofChange fnExactEncodeBitsSpec)

/-- ITS FALSE NEIGHBOUR: 'it returns false'. Refute it at one input. -/
def fnExactEncodeBitsWrong : ChangeSpec := { name := "fnExactEncodeBits", fn := fun _ => fun
  | [d1, d2, d3] => { results := [.lit (.bool false)], args := [d1, d2, d3] }
  | _ => none }
def FnExactEncodeBitsWrongFalsely : Prop := fnExactEncodeBitsRow.holds Try.pinned (OpenSpec.ofChange fnExactEncodeBitsWrong)

/-- 'laws.FnExactDecodeWord': WHATEVER THE INPUT: true; the input reads as it did. -/
def fnExactDecodeWordSpec : ChangeSpec := { name := "fnExactDecodeWord", fn := fun _ => fun
  | [d1, d2, d3] => { results := [.lit (.bool true)], args := [d1, d2, d3] }
  | _ => none }
def fnExactDecodeWordRow : OpenClaim := { program := "ytaomoahcdlkifaa", sum := "c851ecf0db3865913848ffdda5393be78b03be5e1924bf470d8e6e8f811bf843", func := "loop.example/g03103/laws.FnExactDecodeWord", spec := "fnExactDecodeWord", apart := false }
def FnExactDecodeWordSaid : Prop := fnExactDecodeWordRow.holds Try.pinned (OpenSpec.ofChange fnExactDecodeWordSpec)

/-- ITS FALSE NEIGHBOUR: 'it returns false'. Refute it at one input. -/
def fnExactDecodeWordWrong : ChangeSpec := { name := "fnExactDecodeWord", fn := fun _ => fun
  | [d1, d2, d3] => { results := [.lit (.bool false)], args := [d1, d2, d3] }
  | _ => none }
def FnExactDecodeWordWrongFalsely : Prop := fnExactDecodeWordRow.holds Try.pinned (OpenSpec.ofChange fnExactDecodeWordWrong)

/-- 'laws.FnExactSplitState': WHATEVER THE INPUT: true; the input reads as it did. -/
def fnExactSplitStateSpec : ChangeSpec := { name := "fnExactSplitState", fn := fun _ => fun
  | [d1, d2, d3] => { results := [.lit (.bool true)], args := [d1, d2, d3] }
  | _ => none }
def fnExactSplitStateRow : OpenClaim := { program := "ytaomoahcdlkifaa", sum := "c851ecf0db3865913848ffdda5393be78b03be5e1924bf470d8e6e8f811bf843", func := "loop.example/g03103/laws.FnExactSplitState", spec := "fnExactSplitState", unfollowed := true, recurses := true, apart := false }
def FnExactSplitStateSaid : Prop := fnExactSplitStateRow.holds Try.pinned (OpenSpec.ofChange fnExactSplitStateSpec)

/-- ITS FALSE NEIGHBOUR: 'it returns false'. Refute it at one input. -/
def fnExactSplitStateWrong : ChangeSpec := { name := "fnExactSplitState", fn := fun _ => fun
  | [d1, d2, d3] => { results := [.lit (.bool false)], args := [d1, d2, d3] }
  | _ => none }
def FnExactSplitStateWrongFalsely : Prop := fnExactSplitStateRow.holds Try.pinned (OpenSpec.ofChange fnExactSplitStateWrong)

/- THE SECOND FORM. 'bulk': how many values and letters a reading holds, each counted each time it is reached (what is shared counts as often as it is met; a slice's spare places count too). A statement '..UptoSaid' is the law's where the arguments, and the package variables that the reading takes, are together of bulk at most 1048576: NARROWER than '..Said'. Prove '..Said' where nothing that the law and all that it calls make is longer than what came in: it says more and counts as full. Else prove '..UptoSaid'. A law counts once. -/
mutual
def uptoBulk {H : Type} : DataW H → Nat
  | .lit (.string bytes) => bytes.length + 1
  | .lit _ => 1
  | .nil => 1
  | .ptr d => uptoBulk d + 1
  | .slice elems spare => uptoBulkAll elems + uptoBulkAll spare + 1
  | .agg parts => uptoBulkAll parts + 1
  | .iface _ d => uptoBulk d + 1
  | .map entries => uptoBulkEntries entries + 1
  | .held _ => 1
def uptoBulkAll {H : Type} : List (DataW H) → Nat
  | [] => 0
  | d :: r => uptoBulk d + uptoBulkAll r
def uptoBulkEntries {H : Type} : List (Lit × DataW H) → Nat
  | [] => 0
  | x :: r => uptoBulkEntry x + uptoBulkEntries r
def uptoBulkEntry {H : Type} : Lit × DataW H → Nat
  | (.string bytes, d) => bytes.length + uptoBulk d + 1
  | (_, d) => uptoBulk d + 1
 end
def uptoSmall : (H : Type) → List (DataW H) → Bool := fun _ ds => decide (uptoBulkAll ds ≤ 1048576)
def OpenSpec.upto (s : _root_.Go.ChangeSpec) : _root_.Go.OpenSpec := { _root_.Go.OpenSpec.ofChange s with cond := some uptoSmall }

/-- 'laws.FnExactCountRuns', WHERE WHAT IT READS IS OF BULK AT MOST 1048576: true; the input reads as it did. -/
def fnExactCountRunsUptoRow : OpenClaim := { program := "ytaomoahcdlkifaa", sum := "c851ecf0db3865913848ffdda5393be78b03be5e1924bf470d8e6e8f811bf843", func := "loop.example/g03103/laws.FnExactCountRuns", spec := "fnExactCountRuns", apart := false, narrowed := true }
def FnExactCountRunsUptoSaid : Prop := fnExactCountRunsUptoRow.holds Try.pinned (OpenSpec.upto fnExactCountRunsSpec)

/-- 'laws.FnExactRunLabels', WHERE WHAT IT READS IS OF BULK AT MOST 1048576: true; the input reads as it did. -/
def fnExactRunLabelsUptoRow : OpenClaim := { program := "ytaomoahcdlkifaa", sum := "c851ecf0db3865913848ffdda5393be78b03be5e1924bf470d8e6e8f811bf843", func := "loop.example/g03103/laws.FnExactRunLabels", spec := "fnExactRunLabels", apart := false, narrowed := true }
def FnExactRunLabelsUptoSaid : Prop := fnExactRunLabelsUptoRow.holds Try.pinned (OpenSpec.upto fnExactRunLabelsSpec)

/-- 'laws.FnExactStateSums', WHERE WHAT IT READS IS OF BULK AT MOST 1048576: true; the input reads as it did. -/
def fnExactStateSumsUptoRow : OpenClaim := { program := "ytaomoahcdlkifaa", sum := "c851ecf0db3865913848ffdda5393be78b03be5e1924bf470d8e6e8f811bf843", func := "loop.example/g03103/laws.FnExactStateSums", spec := "fnExactStateSums", apart := false, narrowed := true }
def FnExactStateSumsUptoSaid : Prop := fnExactStateSumsUptoRow.holds Try.pinned (OpenSpec.upto fnExactStateSumsSpec)

/-- 'laws.FnExactIsEncoder', WHERE WHAT IT READS IS OF BULK AT MOST 1048576: true; the input reads as it did. -/
def fnExactIsEncoderUptoRow : OpenClaim := { program := "ytaomoahcdlkifaa", sum := "c851ecf0db3865913848ffdda5393be78b03be5e1924bf470d8e6e8f811bf843", func := "loop.example/g03103/laws.FnExactIsEncoder", spec := "fnExactIsEncoder", apart := false, narrowed := true }
def FnExactIsEncoderUptoSaid : Prop := fnExactIsEncoderUptoRow.holds Try.pinned (OpenSpec.upto fnExactIsEncoderSpec)

/-- 'laws.FnExactRunMatrix', WHERE WHAT IT READS IS OF BULK AT MOST 1048576: true; the input reads as it did. -/
def fnExactRunMatrixUptoRow : OpenClaim := { program := "ytaomoahcdlkifaa", sum := "c851ecf0db3865913848ffdda5393be78b03be5e1924bf470d8e6e8f811bf843", func := "loop.example/g03103/laws.FnExactRunMatrix", spec := "fnExactRunMatrix", apart := false, narrowed := true }
def FnExactRunMatrixUptoSaid : Prop := fnExactRunMatrixUptoRow.holds Try.pinned (OpenSpec.upto fnExactRunMatrixSpec)

/-- 'laws.FnExactPruneLabels', WHERE WHAT IT READS IS OF BULK AT MOST 1048576: true; the input reads as it did. -/
def fnExactPruneLabelsUptoRow : OpenClaim := { program := "ytaomoahcdlkifaa", sum := "c851ecf0db3865913848ffdda5393be78b03be5e1924bf470d8e6e8f811bf843", func := "loop.example/g03103/laws.FnExactPruneLabels", spec := "fnExactPruneLabels", apart := false, narrowed := true }
def FnExactPruneLabelsUptoSaid : Prop := fnExactPruneLabelsUptoRow.holds Try.pinned (OpenSpec.upto fnExactPruneLabelsSpec)

/-- 'laws.FnExactEncodeBits', WHERE WHAT IT READS IS OF BULK AT MOST 1048576: true; the input reads as it did. -/
def fnExactEncodeBitsUptoRow : OpenClaim := { program := "ytaomoahcdlkifaa", sum := "c851ecf0db3865913848ffdda5393be78b03be5e1924bf470d8e6e8f811bf843", func := "loop.example/g03103/laws.FnExactEncodeBits", spec := "fnExactEncodeBits", apart := false, narrowed := true }
def FnExactEncodeBitsUptoSaid : Prop := fnExactEncodeBitsUptoRow.holds Try.pinned (OpenSpec.upto fnExactEncodeBitsSpec)

/-- 'laws.FnExactDecodeWord', WHERE WHAT IT READS IS OF BULK AT MOST 1048576: true; the input reads as it did. -/
def fnExactDecodeWordUptoRow : OpenClaim := { program := "ytaomoahcdlkifaa", sum := "c851ecf0db3865913848ffdda5393be78b03be5e1924bf470d8e6e8f811bf843", func := "loop.example/g03103/laws.FnExactDecodeWord", spec := "fnExactDecodeWord", apart := false, narrowed := true }
def FnExactDecodeWordUptoSaid : Prop := fnExactDecodeWordUptoRow.holds Try.pinned (OpenSpec.upto fnExactDecodeWordSpec)

/-- 'laws.FnExactSplitState', WHERE WHAT IT READS IS OF BULK AT MOST 1048576: true; the input reads as it did. -/
def fnExactSplitStateUptoRow : OpenClaim := { program := "ytaomoahcdlkifaa", sum := "c851ecf0db3865913848ffdda5393be78b03be5e1924bf470d8e6e8f811bf843", func := "loop.example/g03103/laws.FnExactSplitState", spec := "fnExactSplitState", unfollowed := true, recurses := true, apart := false, narrowed := true }
def FnExactSplitStateUptoSaid : Prop := fnExactSplitStateUptoRow.holds Try.pinned (OpenSpec.upto fnExactSplitStateSpec)

end Rows
end Go.Proofs.Ytaomoahcdlkifaa
