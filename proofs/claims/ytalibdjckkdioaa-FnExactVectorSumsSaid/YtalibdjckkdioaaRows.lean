/-
  No cell of these rows narrows 'for every input' (looked for: loops, veiled, ifaces, maps, wideKeys, modest, calm, conditions, laid).
  DERIVED. THE GIVEN ROWS OF THIS SEAT. 11 by the template 'for every input the law returns true; each argument reads behind the call as it read before'; 0 by the template 'total and deterministic' (their statements: YtalibdjckkdioaaTotals.lean).
  GIVEN WITH THE SEED: the statements are not yours to turn. If you find one false, say at which input.
  Laid BY PROGRAM, IN A SANDBOX (cutbox-rows.mjs): the forced cells as the released guide's own fill.sh prints them over the translation ee50a55dd21788ca… (all of the seat's roots in one cut). By AI agents, Wed Nov 11 2026. No macro, syntax, notation, axiom, sorry.
-/
import Derived.Test.YtalibdjckkdioaaChecked
import GoSem.Claim
import GoSem.ClaimJoined
import GoSem.ClaimMapViews
import Derived.JoinedTies
import Derived.KernelRfl
namespace Go.Proofs.Ytalibdjckkdioaa
/- THE CELL 'sum', in the pinned program and in every row, IS THE sha256 OF THE DUMP (.gsa) THAT YtalibdjckkdioaaProg.lean LOADS. Nothing in Lean hashes anything: it is a label: what it is worth is what the hold of that sum in a sandbox is worth. -/
noncomputable def Try.pinned : Pinned := { name := "ytalibdjckkdioaa", sum := "ee50a55dd21788ca3d9ed11c2c2ee8c25399160ae3611d301405971bc2e79ed2", checked := Try.checked }
namespace Rows
def none {H : Type} : Left H := { results := [], args := [] }

/-- 'laws.FnExactStretchGraph': WHATEVER THE INPUT: true; the input reads as it did. -/
def fnExactStretchGraphSpec : ChangeSpec := { name := "fnExactStretchGraph", fn := fun _ => fun
  | [d1, d2] => { results := [.lit (.bool true)], args := [d1, d2] }
  | _ => none }
def fnExactStretchGraphRow : OpenClaim := { program := "ytalibdjckkdioaa", sum := "ee50a55dd21788ca3d9ed11c2c2ee8c25399160ae3611d301405971bc2e79ed2", func := "loop.example/g03103/laws.FnExactStretchGraph", spec := "fnExactStretchGraph", apart := false }
def FnExactStretchGraphSaid : Prop := fnExactStretchGraphRow.holds Try.pinned (OpenSpec.ofChange fnExactStretchGraphSpec)

/-- ITS FALSE NEIGHBOUR: 'it returns false'. Refute it at one input. -/
def fnExactStretchGraphWrong : ChangeSpec := { name := "fnExactStretchGraph", fn := fun _ => fun
  | [d1, d2] => { results := [.lit (.bool false)], args := [d1, d2] }
  | _ => none }
def FnExactStretchGraphWrongFalsely : Prop := fnExactStretchGraphRow.holds Try.pinned (OpenSpec.ofChange fnExactStretchGraphWrong)

/-- 'laws.FnExactIsVector': WHATEVER THE INPUT: true; the input reads as it did. -/
def fnExactIsVectorSpec : ChangeSpec := { name := "fnExactIsVector", fn := fun _ => fun
  | [d1, d2, d3] => { results := [.lit (.bool true)], args := [d1, d2, d3] }
  | _ => none }
def fnExactIsVectorRow : OpenClaim := { program := "ytalibdjckkdioaa", sum := "ee50a55dd21788ca3d9ed11c2c2ee8c25399160ae3611d301405971bc2e79ed2", func := "loop.example/g03103/laws.FnExactIsVector", spec := "fnExactIsVector", apart := false }
def FnExactIsVectorSaid : Prop := fnExactIsVectorRow.holds Try.pinned (OpenSpec.ofChange fnExactIsVectorSpec)

/-- ITS FALSE NEIGHBOUR: 'it returns false'. Refute it at one input. -/
def fnExactIsVectorWrong : ChangeSpec := { name := "fnExactIsVector", fn := fun _ => fun
  | [d1, d2, d3] => { results := [.lit (.bool false)], args := [d1, d2, d3] }
  | _ => none }
def FnExactIsVectorWrongFalsely : Prop := fnExactIsVectorRow.holds Try.pinned (OpenSpec.ofChange fnExactIsVectorWrong)

/-- 'laws.FnExactRunMatrix': WHATEVER THE INPUT: true; the input reads as it did. -/
def fnExactRunMatrixSpec : ChangeSpec := { name := "fnExactRunMatrix", fn := fun _ => fun
  | [d1, d2] => { results := [.lit (.bool true)], args := [d1, d2] }
  | _ => none }
def fnExactRunMatrixRow : OpenClaim := { program := "ytalibdjckkdioaa", sum := "ee50a55dd21788ca3d9ed11c2c2ee8c25399160ae3611d301405971bc2e79ed2", func := "loop.example/g03103/laws.FnExactRunMatrix", spec := "fnExactRunMatrix", apart := false }
def FnExactRunMatrixSaid : Prop := fnExactRunMatrixRow.holds Try.pinned (OpenSpec.ofChange fnExactRunMatrixSpec)

/-- ITS FALSE NEIGHBOUR: 'it returns false'. Refute it at one input. -/
def fnExactRunMatrixWrong : ChangeSpec := { name := "fnExactRunMatrix", fn := fun _ => fun
  | [d1, d2] => { results := [.lit (.bool false)], args := [d1, d2] }
  | _ => none }
def FnExactRunMatrixWrongFalsely : Prop := fnExactRunMatrixRow.holds Try.pinned (OpenSpec.ofChange fnExactRunMatrixWrong)

/-- 'laws.FnExactCountRooted': WHATEVER THE INPUT: true; the input reads as it did. -/
def fnExactCountRootedSpec : ChangeSpec := { name := "fnExactCountRooted", fn := fun _ => fun
  | [d1, d2, d3] => { results := [.lit (.bool true)], args := [d1, d2, d3] }
  | _ => none }
def fnExactCountRootedRow : OpenClaim := { program := "ytalibdjckkdioaa", sum := "ee50a55dd21788ca3d9ed11c2c2ee8c25399160ae3611d301405971bc2e79ed2", func := "loop.example/g03103/laws.FnExactCountRooted", spec := "fnExactCountRooted", apart := false }
def FnExactCountRootedSaid : Prop := fnExactCountRootedRow.holds Try.pinned (OpenSpec.ofChange fnExactCountRootedSpec)

/-- ITS FALSE NEIGHBOUR: 'it returns false'. Refute it at one input. -/
def fnExactCountRootedWrong : ChangeSpec := { name := "fnExactCountRooted", fn := fun _ => fun
  | [d1, d2, d3] => { results := [.lit (.bool false)], args := [d1, d2, d3] }
  | _ => none }
def FnExactCountRootedWrongFalsely : Prop := fnExactCountRootedRow.holds Try.pinned (OpenSpec.ofChange fnExactCountRootedWrong)

/-- 'laws.FnExactStateSums': WHATEVER THE INPUT: true; the input reads as it did. -/
def fnExactStateSumsSpec : ChangeSpec := { name := "fnExactStateSums", fn := fun _ => fun
  | [d] => { results := [.lit (.bool true)], args := [d] }
  | _ => none }
def fnExactStateSumsRow : OpenClaim := { program := "ytalibdjckkdioaa", sum := "ee50a55dd21788ca3d9ed11c2c2ee8c25399160ae3611d301405971bc2e79ed2", func := "loop.example/g03103/laws.FnExactStateSums", spec := "fnExactStateSums", apart := false }
def FnExactStateSumsSaid : Prop := fnExactStateSumsRow.holds Try.pinned (OpenSpec.ofChange fnExactStateSumsSpec)

/-- ITS FALSE NEIGHBOUR: 'it returns false'. Refute it at one input. -/
def fnExactStateSumsWrong : ChangeSpec := { name := "fnExactStateSums", fn := fun _ => fun
  | [d] => { results := [.lit (.bool false)], args := [d] }
  | _ => none }
def FnExactStateSumsWrongFalsely : Prop := fnExactStateSumsRow.holds Try.pinned (OpenSpec.ofChange fnExactStateSumsWrong)

/-- 'laws.FnExactIsEncoder': WHATEVER THE INPUT: true; the input reads as it did. -/
def fnExactIsEncoderSpec : ChangeSpec := { name := "fnExactIsEncoder", fn := fun _ => fun
  | [d] => { results := [.lit (.bool true)], args := [d] }
  | _ => none }
def fnExactIsEncoderRow : OpenClaim := { program := "ytalibdjckkdioaa", sum := "ee50a55dd21788ca3d9ed11c2c2ee8c25399160ae3611d301405971bc2e79ed2", func := "loop.example/g03103/laws.FnExactIsEncoder", spec := "fnExactIsEncoder", apart := false }
def FnExactIsEncoderSaid : Prop := fnExactIsEncoderRow.holds Try.pinned (OpenSpec.ofChange fnExactIsEncoderSpec)

/-- ITS FALSE NEIGHBOUR: 'it returns false'. Refute it at one input. -/
def fnExactIsEncoderWrong : ChangeSpec := { name := "fnExactIsEncoder", fn := fun _ => fun
  | [d] => { results := [.lit (.bool false)], args := [d] }
  | _ => none }
def FnExactIsEncoderWrongFalsely : Prop := fnExactIsEncoderRow.holds Try.pinned (OpenSpec.ofChange fnExactIsEncoderWrong)

/-- 'laws.FnExactSignOf': WHATEVER THE INPUT: true; the input reads as it did. -/
def fnExactSignOfSpec : ChangeSpec := { name := "fnExactSignOf", fn := fun _ => fun
  | [d] => { results := [.lit (.bool true)], args := [d] }
  | _ => none }
def fnExactSignOfRow : OpenClaim := { program := "ytalibdjckkdioaa", sum := "ee50a55dd21788ca3d9ed11c2c2ee8c25399160ae3611d301405971bc2e79ed2", func := "loop.example/g03103/laws.FnExactSignOf", spec := "fnExactSignOf", recurses := true, apart := false }
def FnExactSignOfSaid : Prop := fnExactSignOfRow.holds Try.pinned (OpenSpec.ofChange fnExactSignOfSpec)

/-- ITS FALSE NEIGHBOUR: 'it returns false'. Refute it at one input. -/
def fnExactSignOfWrong : ChangeSpec := { name := "fnExactSignOf", fn := fun _ => fun
  | [d] => { results := [.lit (.bool false)], args := [d] }
  | _ => none }
def FnExactSignOfWrongFalsely : Prop := fnExactSignOfRow.holds Try.pinned (OpenSpec.ofChange fnExactSignOfWrong)

/-- 'laws.FnExactFirstReturns': WHATEVER THE INPUT: true; the input reads as it did. -/
def fnExactFirstReturnsSpec : ChangeSpec := { name := "fnExactFirstReturns", fn := fun _ => fun
  | [d1, d2, d3] => { results := [.lit (.bool true)], args := [d1, d2, d3] }
  | _ => none }
def fnExactFirstReturnsRow : OpenClaim := { program := "ytalibdjckkdioaa", sum := "ee50a55dd21788ca3d9ed11c2c2ee8c25399160ae3611d301405971bc2e79ed2", func := "loop.example/g03103/laws.FnExactFirstReturns", spec := "fnExactFirstReturns", apart := false }
def FnExactFirstReturnsSaid : Prop := fnExactFirstReturnsRow.holds Try.pinned (OpenSpec.ofChange fnExactFirstReturnsSpec)

/-- ITS FALSE NEIGHBOUR: 'it returns false'. Refute it at one input. -/
def fnExactFirstReturnsWrong : ChangeSpec := { name := "fnExactFirstReturns", fn := fun _ => fun
  | [d1, d2, d3] => { results := [.lit (.bool false)], args := [d1, d2, d3] }
  | _ => none }
def FnExactFirstReturnsWrongFalsely : Prop := fnExactFirstReturnsRow.holds Try.pinned (OpenSpec.ofChange fnExactFirstReturnsWrong)

/-- 'laws.FnExactMinorsOf': WHATEVER THE INPUT: true; the input reads as it did. -/
def fnExactMinorsOfSpec : ChangeSpec := { name := "fnExactMinorsOf", fn := fun _ => fun
  | [d1, d2] => { results := [.lit (.bool true)], args := [d1, d2] }
  | _ => none }
def fnExactMinorsOfRow : OpenClaim := { program := "ytalibdjckkdioaa", sum := "ee50a55dd21788ca3d9ed11c2c2ee8c25399160ae3611d301405971bc2e79ed2", func := "loop.example/g03103/laws.FnExactMinorsOf", spec := "fnExactMinorsOf", recurses := true, apart := false }
def FnExactMinorsOfSaid : Prop := fnExactMinorsOfRow.holds Try.pinned (OpenSpec.ofChange fnExactMinorsOfSpec)

/-- ITS FALSE NEIGHBOUR: 'it returns false'. Refute it at one input. -/
def fnExactMinorsOfWrong : ChangeSpec := { name := "fnExactMinorsOf", fn := fun _ => fun
  | [d1, d2] => { results := [.lit (.bool false)], args := [d1, d2] }
  | _ => none }
def FnExactMinorsOfWrongFalsely : Prop := fnExactMinorsOfRow.holds Try.pinned (OpenSpec.ofChange fnExactMinorsOfWrong)

/-- 'laws.FnExactVectorSums': WHATEVER THE INPUT: true; the input reads as it did. -/
def fnExactVectorSumsSpec : ChangeSpec := { name := "fnExactVectorSums", fn := fun _ => fun
  | [d1, d2] => { results := [.lit (.bool true)], args := [d1, d2] }
  | _ => none }
def fnExactVectorSumsRow : OpenClaim := { program := "ytalibdjckkdioaa", sum := "ee50a55dd21788ca3d9ed11c2c2ee8c25399160ae3611d301405971bc2e79ed2", func := "loop.example/g03103/laws.FnExactVectorSums", spec := "fnExactVectorSums", apart := false }
def FnExactVectorSumsSaid : Prop := fnExactVectorSumsRow.holds Try.pinned (OpenSpec.ofChange fnExactVectorSumsSpec)

/-- ITS FALSE NEIGHBOUR: 'it returns false'. Refute it at one input. -/
def fnExactVectorSumsWrong : ChangeSpec := { name := "fnExactVectorSums", fn := fun _ => fun
  | [d1, d2] => { results := [.lit (.bool false)], args := [d1, d2] }
  | _ => none }
def FnExactVectorSumsWrongFalsely : Prop := fnExactVectorSumsRow.holds Try.pinned (OpenSpec.ofChange fnExactVectorSumsWrong)

/-- 'laws.FnExactRankOf': WHATEVER THE INPUT: true; the input reads as it did. -/
def fnExactRankOfSpec : ChangeSpec := { name := "fnExactRankOf", fn := fun _ => fun
  | [d] => { results := [.lit (.bool true)], args := [d] }
  | _ => none }
def fnExactRankOfRow : OpenClaim := { program := "ytalibdjckkdioaa", sum := "ee50a55dd21788ca3d9ed11c2c2ee8c25399160ae3611d301405971bc2e79ed2", func := "loop.example/g03103/laws.FnExactRankOf", spec := "fnExactRankOf", recurses := true, apart := false }
def FnExactRankOfSaid : Prop := fnExactRankOfRow.holds Try.pinned (OpenSpec.ofChange fnExactRankOfSpec)

/-- ITS FALSE NEIGHBOUR: 'it returns false'. Refute it at one input. -/
def fnExactRankOfWrong : ChangeSpec := { name := "fnExactRankOf", fn := fun _ => fun
  | [d] => { results := [.lit (.bool false)], args := [d] }
  | _ => none }
def FnExactRankOfWrongFalsely : Prop := fnExactRankOfRow.holds Try.pinned (OpenSpec.ofChange fnExactRankOfWrong)

/- THE SECOND FORM. 'bulk': how many values and letters a reading holds, each counted each time it is reached (what is shared counts as often as it is met; a slice's spare places count too). A statement '..UptoSaid' is the law's where the arguments, and the package variables that the reading takes, are together of bulk at most 1048576: NARROWER than '..Said'. Prove '..Said' where nothing that the law and all that it calls make is longer than what came in: it says more and counts as full. Else prove '..UptoSaid'. A law counts once. -/
mutual
def uptoBulk {H : Type} : DataW H → Nat
  | .lit (.string bytes) => bytes.length + 1
  | .lit _ => 1
  | .nil => 1
  | .ptr d => uptoBulk d + 1
  | .slice elems spare => uptoBulkAll elems + uptoBulkAll spare + 1
  | .agg parts => uptoBulkAll parts + 1
  | .iface _ d => uptoBulk d + 1
  | .map entries => uptoBulkEntries entries + 1
  | .held _ => 1
def uptoBulkAll {H : Type} : List (DataW H) → Nat
  | [] => 0
  | d :: r => uptoBulk d + uptoBulkAll r
def uptoBulkEntries {H : Type} : List (Lit × DataW H) → Nat
  | [] => 0
  | x :: r => uptoBulkEntry x + uptoBulkEntries r
def uptoBulkEntry {H : Type} : Lit × DataW H → Nat
  | (.string bytes, d) => bytes.length + uptoBulk d + 1
  | (_, d) => uptoBulk d + 1
 end
def uptoSmall : (H : Type) → List (DataW H) → Bool := fun _ ds => decide (uptoBulkAll ds ≤ 1048576)
def OpenSpec.upto (s : _root_.Go.ChangeSpec) : _root_.Go.OpenSpec := { _root_.Go.OpenSpec.ofChange s with cond := some uptoSmall }

/-- 'laws.FnExactStretchGraph', WHERE WHAT IT READS IS OF BULK AT MOST 1048576: true; the input reads as it did. -/
def fnExactStretchGraphUptoRow : OpenClaim := { program := "ytalibdjckkdioaa", sum := "ee50a55dd21788ca3d9ed11c2c2ee8c25399160ae3611d301405971bc2e79ed2", func := "loop.example/g03103/laws.FnExactStretchGraph", spec := "fnExactStretchGraph", apart := false, narrowed := true }
def FnExactStretchGraphUptoSaid : Prop := fnExactStretchGraphUptoRow.holds Try.pinned (OpenSpec.upto fnExactStretchGraphSpec)

/-- 'laws.FnExactIsVector', WHERE WHAT IT READS IS OF BULK AT MOST 1048576: true; the input reads as it did. -/
def fnExactIsVectorUptoRow : OpenClaim := { program := "ytalibdjckkdioaa", sum := "ee50a55dd21788ca3d9ed11c2c2ee8c25399160ae3611d301405971bc2e79ed2", func := "loop.example/g03103/laws.FnExactIsVector", spec := "fnExactIsVector", apart := false, narrowed := true }
def FnExactIsVectorUptoSaid : Prop := fnExactIsVectorUptoRow.holds Try.pinned (OpenSpec.upto fnExactIsVectorSpec)

/-- 'laws.FnExactRunMatrix', WHERE WHAT IT READS IS OF BULK AT MOST 1048576: true; the input reads as it did. -/
def fnExactRunMatrixUptoRow : OpenClaim := { program := "ytalibdjckkdioaa", sum := "ee50a55dd21788ca3d9ed11c2c2ee8c25399160ae3611d301405971bc2e79ed2", func := "loop.example/g03103/laws.FnExactRunMatrix", spec := "fnExactRunMatrix", apart := false, narrowed := true }
def FnExactRunMatrixUptoSaid : Prop := fnExactRunMatrixUptoRow.holds Try.pinned (OpenSpec.upto fnExactRunMatrixSpec)

/-- 'laws.FnExactCountRooted', WHERE WHAT IT READS IS OF BULK AT MOST 1048576: true; the input reads as it did. -/
def fnExactCountRootedUptoRow : OpenClaim := { program := "ytalibdjckkdioaa", sum := "ee50a55dd21788ca3d9ed11c2c2ee8c25399160ae3611d301405971bc2e79ed2", func := "loop.example/g03103/laws.FnExactCountRooted", spec := "fnExactCountRooted", apart := false, narrowed := true }
def FnExactCountRootedUptoSaid : Prop := fnExactCountRootedUptoRow.holds Try.pinned (OpenSpec.upto fnExactCountRootedSpec)

/-- 'laws.FnExactStateSums', WHERE WHAT IT READS IS OF BULK AT MOST 1048576: true; the input reads as it did. -/
def fnExactStateSumsUptoRow : OpenClaim := { program := "ytalibdjckkdioaa", sum := "ee50a55dd21788ca3d9ed11c2c2ee8c25399160ae3611d301405971bc2e79ed2", func := "loop.example/g03103/laws.FnExactStateSums", spec := "fnExactStateSums", apart := false, narrowed := true }
def FnExactStateSumsUptoSaid : Prop := fnExactStateSumsUptoRow.holds Try.pinned (OpenSpec.upto fnExactStateSumsSpec)

/-- 'laws.FnExactIsEncoder', WHERE WHAT IT READS IS OF BULK AT MOST 1048576: true; the input reads as it did. -/
def fnExactIsEncoderUptoRow : OpenClaim := { program := "ytalibdjckkdioaa", sum := "ee50a55dd21788ca3d9ed11c2c2ee8c25399160ae3611d301405971bc2e79ed2", func := "loop.example/g03103/laws.FnExactIsEncoder", spec := "fnExactIsEncoder", apart := false, narrowed := true }
def FnExactIsEncoderUptoSaid : Prop := fnExactIsEncoderUptoRow.holds Try.pinned (OpenSpec.upto fnExactIsEncoderSpec)

/-- 'laws.FnExactSignOf', WHERE WHAT IT READS IS OF BULK AT MOST 1048576: true; the input reads as it did. -/
def fnExactSignOfUptoRow : OpenClaim := { program := "ytalibdjckkdioaa", sum := "ee50a55dd21788ca3d9ed11c2c2ee8c25399160ae3611d301405971bc2e79ed2", func := "loop.example/g03103/laws.FnExactSignOf", spec := "fnExactSignOf", recurses := true, apart := false, narrowed := true }
def FnExactSignOfUptoSaid : Prop := fnExactSignOfUptoRow.holds Try.pinned (OpenSpec.upto fnExactSignOfSpec)

/-- 'laws.FnExactFirstReturns', WHERE WHAT IT READS IS OF BULK AT MOST 1048576: true; the input reads as it did. -/
def fnExactFirstReturnsUptoRow : OpenClaim := { program := "ytalibdjckkdioaa", sum := "ee50a55dd21788ca3d9ed11c2c2ee8c25399160ae3611d301405971bc2e79ed2", func := "loop.example/g03103/laws.FnExactFirstReturns", spec := "fnExactFirstReturns", apart := false, narrowed := true }
def FnExactFirstReturnsUptoSaid : Prop := fnExactFirstReturnsUptoRow.holds Try.pinned (OpenSpec.upto fnExactFirstReturnsSpec)

/-- 'laws.FnExactMinorsOf', WHERE WHAT IT READS IS OF BULK AT MOST 1048576: true; the input reads as it did. -/
def fnExactMinorsOfUptoRow : OpenClaim := { program := "ytalibdjckkdioaa", sum := "ee50a55dd21788ca3d9ed11c2c2ee8c25399160ae3611d301405971bc2e79ed2", func := "loop.example/g03103/laws.FnExactMinorsOf", spec := "fnExactMinorsOf", recurses := true, apart := false, narrowed := true }
def FnExactMinorsOfUptoSaid : Prop := fnExactMinorsOfUptoRow.holds Try.pinned (OpenSpec.upto fnExactMinorsOfSpec)

/-- 'laws.FnExactVectorSums', WHERE WHAT IT READS IS OF BULK AT MOST 1048576: true; the input reads as it did. -/
def fnExactVectorSumsUptoRow : OpenClaim := { program := "ytalibdjckkdioaa", sum := "ee50a55dd21788ca3d9ed11c2c2ee8c25399160ae3611d301405971bc2e79ed2", func := "loop.example/g03103/laws.FnExactVectorSums", spec := "fnExactVectorSums", apart := false, narrowed := true }
def FnExactVectorSumsUptoSaid : Prop := fnExactVectorSumsUptoRow.holds Try.pinned (OpenSpec.upto fnExactVectorSumsSpec)

/-- 'laws.FnExactRankOf', WHERE WHAT IT READS IS OF BULK AT MOST 1048576: true; the input reads as it did. -/
def fnExactRankOfUptoRow : OpenClaim := { program := "ytalibdjckkdioaa", sum := "ee50a55dd21788ca3d9ed11c2c2ee8c25399160ae3611d301405971bc2e79ed2", func := "loop.example/g03103/laws.FnExactRankOf", spec := "fnExactRankOf", recurses := true, apart := false, narrowed := true }
def FnExactRankOfUptoSaid : Prop := fnExactRankOfUptoRow.holds Try.pinned (OpenSpec.upto fnExactRankOfSpec)

end Rows
end Go.Proofs.Ytalibdjckkdioaa
