/-
  No cell of these rows narrows 'for every input' (looked for: loops, veiled, ifaces, maps, wideKeys, modest, calm, conditions, laid).
  DERIVED. THE GIVEN ROWS OF THIS SEAT. 11 by the template 'for every input the law returns true; each argument reads behind the call as it read before'; 0 by the template 'total and deterministic' (their statements: YtlhognagaknhcaaTotals.lean).
  GIVEN WITH THE SEED: the statements are not yours to turn. If you find one false, say at which input.
  Laid BY PROGRAM, IN A SANDBOX (cutbox-rows.mjs): the forced cells as the released guide's own fill.sh prints them over the translation d5d9f52873d886d8… (all of the seat's roots in one cut). By AI agents, Wed Nov 11 2026. No macro, syntax, notation, axiom, sorry.
-/
import Derived.Test.YtlhognagaknhcaaChecked
import GoSem.Claim
import GoSem.ClaimJoined
import GoSem.ClaimMapViews
import Derived.JoinedTies
import Derived.KernelRfl
namespace Go.Proofs.Ytlhognagaknhcaa
/- THE CELL 'sum', in the pinned program and in every row, IS THE sha256 OF THE DUMP (.gsa) THAT YtlhognagaknhcaaProg.lean LOADS. Nothing in Lean hashes anything: it is a label: what it is worth is what the hold of that sum in a sandbox is worth. -/
noncomputable def Try.pinned : Pinned := { name := "ytlhognagaknhcaa", sum := "d5d9f52873d886d84bb826b2e229b1fdc79e24a64ee58d3e7cb99cce1789450f", checked := Try.checked }
namespace Rows
def none {H : Type} : Left H := { results := [], args := [] }

/-- 'laws.FnExactGreatestVector': WHATEVER THE INPUT: true; the input reads as it did. -/
def fnExactGreatestVectorSpec : ChangeSpec := { name := "fnExactGreatestVector", fn := fun _ => fun
  | [d1, d2, d3] => { results := [.lit (.bool true)], args := [d1, d2, d3] }
  | _ => none }
def fnExactGreatestVectorRow : OpenClaim := { program := "ytlhognagaknhcaa", sum := "d5d9f52873d886d84bb826b2e229b1fdc79e24a64ee58d3e7cb99cce1789450f", func := "loop.example/g03103/laws.FnExactGreatestVector", spec := "fnExactGreatestVector", apart := false }
def FnExactGreatestVectorSaid : Prop := fnExactGreatestVectorRow.holds Try.pinned (OpenSpec.ofChange fnExactGreatestVectorSpec)

/-- ITS FALSE NEIGHBOUR: 'it returns false'. Refute it at one input. -/
def fnExactGreatestVectorWrong : ChangeSpec := { name := "fnExactGreatestVector", fn := fun _ => fun
  | [d1, d2, d3] => { results := [.lit (.bool false)], args := [d1, d2, d3] }
  | _ => none }
def FnExactGreatestVectorWrongFalsely : Prop := fnExactGreatestVectorRow.holds Try.pinned (OpenSpec.ofChange fnExactGreatestVectorWrong)

/-- 'laws.FnExactLeastVector': WHATEVER THE INPUT: true; the input reads as it did. -/
def fnExactLeastVectorSpec : ChangeSpec := { name := "fnExactLeastVector", fn := fun _ => fun
  | [d1, d2] => { results := [.lit (.bool true)], args := [d1, d2] }
  | _ => none }
def fnExactLeastVectorRow : OpenClaim := { program := "ytlhognagaknhcaa", sum := "d5d9f52873d886d84bb826b2e229b1fdc79e24a64ee58d3e7cb99cce1789450f", func := "loop.example/g03103/laws.FnExactLeastVector", spec := "fnExactLeastVector", apart := false }
def FnExactLeastVectorSaid : Prop := fnExactLeastVectorRow.holds Try.pinned (OpenSpec.ofChange fnExactLeastVectorSpec)

/-- ITS FALSE NEIGHBOUR: 'it returns false'. Refute it at one input. -/
def fnExactLeastVectorWrong : ChangeSpec := { name := "fnExactLeastVector", fn := fun _ => fun
  | [d1, d2] => { results := [.lit (.bool false)], args := [d1, d2] }
  | _ => none }
def FnExactLeastVectorWrongFalsely : Prop := fnExactLeastVectorRow.holds Try.pinned (OpenSpec.ofChange fnExactLeastVectorWrong)

/-- 'laws.FnExactCanEncode': WHATEVER THE INPUT: true; the input reads as it did. -/
def fnExactCanEncodeSpec : ChangeSpec := { name := "fnExactCanEncode", fn := fun _ => fun
  | [d1, d2, d3] => { results := [.lit (.bool true)], args := [d1, d2, d3] }
  | _ => none }
def fnExactCanEncodeRow : OpenClaim := { program := "ytlhognagaknhcaa", sum := "d5d9f52873d886d84bb826b2e229b1fdc79e24a64ee58d3e7cb99cce1789450f", func := "loop.example/g03103/laws.FnExactCanEncode", spec := "fnExactCanEncode", apart := false }
def FnExactCanEncodeSaid : Prop := fnExactCanEncodeRow.holds Try.pinned (OpenSpec.ofChange fnExactCanEncodeSpec)

/-- ITS FALSE NEIGHBOUR: 'it returns false'. Refute it at one input. -/
def fnExactCanEncodeWrong : ChangeSpec := { name := "fnExactCanEncode", fn := fun _ => fun
  | [d1, d2, d3] => { results := [.lit (.bool false)], args := [d1, d2, d3] }
  | _ => none }
def FnExactCanEncodeWrongFalsely : Prop := fnExactCanEncodeRow.holds Try.pinned (OpenSpec.ofChange fnExactCanEncodeWrong)

/-- 'laws.FnExactGroupOf': WHATEVER THE INPUT: true; the input reads as it did. -/
def fnExactGroupOfSpec : ChangeSpec := { name := "fnExactGroupOf", fn := fun _ => fun
  | [d] => { results := [.lit (.bool true)], args := [d] }
  | _ => none }
def fnExactGroupOfRow : OpenClaim := { program := "ytlhognagaknhcaa", sum := "d5d9f52873d886d84bb826b2e229b1fdc79e24a64ee58d3e7cb99cce1789450f", func := "loop.example/g03103/laws.FnExactGroupOf", spec := "fnExactGroupOf", unfollowed := true, recurses := true, apart := false }
def FnExactGroupOfSaid : Prop := fnExactGroupOfRow.holds Try.pinned (OpenSpec.ofChange fnExactGroupOfSpec)

/-- ITS FALSE NEIGHBOUR: 'it returns false'. Refute it at one input. -/
def fnExactGroupOfWrong : ChangeSpec := { name := "fnExactGroupOf", fn := fun _ => fun
  | [d] => { results := [.lit (.bool false)], args := [d] }
  | _ => none }
def FnExactGroupOfWrongFalsely : Prop := fnExactGroupOfRow.holds Try.pinned (OpenSpec.ofChange fnExactGroupOfWrong)

/-- 'laws.FnExactAreFlowLike': WHATEVER THE INPUT: true; the input reads as it did. -/
def fnExactAreFlowLikeSpec : ChangeSpec := { name := "fnExactAreFlowLike", fn := fun _ => fun
  | [d1, d2] => { results := [.lit (.bool true)], args := [d1, d2] }
  | _ => none }
def fnExactAreFlowLikeRow : OpenClaim := { program := "ytlhognagaknhcaa", sum := "d5d9f52873d886d84bb826b2e229b1fdc79e24a64ee58d3e7cb99cce1789450f", func := "loop.example/g03103/laws.FnExactAreFlowLike", spec := "fnExactAreFlowLike", unfollowed := true, recurses := true, apart := false }
def FnExactAreFlowLikeSaid : Prop := fnExactAreFlowLikeRow.holds Try.pinned (OpenSpec.ofChange fnExactAreFlowLikeSpec)

/-- ITS FALSE NEIGHBOUR: 'it returns false'. Refute it at one input. -/
def fnExactAreFlowLikeWrong : ChangeSpec := { name := "fnExactAreFlowLike", fn := fun _ => fun
  | [d1, d2] => { results := [.lit (.bool false)], args := [d1, d2] }
  | _ => none }
def FnExactAreFlowLikeWrongFalsely : Prop := fnExactAreFlowLikeRow.holds Try.pinned (OpenSpec.ofChange fnExactAreFlowLikeWrong)

/-- 'laws.FnExactFitsInto': WHATEVER THE INPUT: true; the input reads as it did. -/
def fnExactFitsIntoSpec : ChangeSpec := { name := "fnExactFitsInto", fn := fun _ => fun
  | [d1, d2, d3] => { results := [.lit (.bool true)], args := [d1, d2, d3] }
  | _ => none }
def fnExactFitsIntoRow : OpenClaim := { program := "ytlhognagaknhcaa", sum := "d5d9f52873d886d84bb826b2e229b1fdc79e24a64ee58d3e7cb99cce1789450f", func := "loop.example/g03103/laws.FnExactFitsInto", spec := "fnExactFitsInto", apart := false }
def FnExactFitsIntoSaid : Prop := fnExactFitsIntoRow.holds Try.pinned (OpenSpec.ofChange fnExactFitsIntoSpec)

/-- ITS FALSE NEIGHBOUR: 'it returns false'. Refute it at one input. -/
def fnExactFitsIntoWrong : ChangeSpec := { name := "fnExactFitsInto", fn := fun _ => fun
  | [d1, d2, d3] => { results := [.lit (.bool false)], args := [d1, d2, d3] }
  | _ => none }
def FnExactFitsIntoWrongFalsely : Prop := fnExactFitsIntoRow.holds Try.pinned (OpenSpec.ofChange fnExactFitsIntoWrong)

/-- 'laws.FnExactOrbitRow': WHATEVER THE INPUT: true; the input reads as it did. -/
def fnExactOrbitRowSpec : ChangeSpec := { name := "fnExactOrbitRow", fn := fun _ => fun
  | [d1, d2] => { results := [.lit (.bool true)], args := [d1, d2] }
  | _ => none }
def fnExactOrbitRowRow : OpenClaim := { program := "ytlhognagaknhcaa", sum := "d5d9f52873d886d84bb826b2e229b1fdc79e24a64ee58d3e7cb99cce1789450f", func := "loop.example/g03103/laws.FnExactOrbitRow", spec := "fnExactOrbitRow", apart := false }
def FnExactOrbitRowSaid : Prop := fnExactOrbitRowRow.holds Try.pinned (OpenSpec.ofChange fnExactOrbitRowSpec)

/-- ITS FALSE NEIGHBOUR: 'it returns false'. Refute it at one input. -/
def fnExactOrbitRowWrong : ChangeSpec := { name := "fnExactOrbitRow", fn := fun _ => fun
  | [d1, d2] => { results := [.lit (.bool false)], args := [d1, d2] }
  | _ => none }
def FnExactOrbitRowWrongFalsely : Prop := fnExactOrbitRowRow.holds Try.pinned (OpenSpec.ofChange fnExactOrbitRowWrong)

/-- 'laws.FnExactRestingOf': WHATEVER THE INPUT: true; the input reads as it did. -/
def fnExactRestingOfSpec : ChangeSpec := { name := "fnExactRestingOf", fn := fun _ => fun
  | [d] => { results := [.lit (.bool true)], args := [d] }
  | _ => none }
def fnExactRestingOfRow : OpenClaim := { program := "ytlhognagaknhcaa", sum := "d5d9f52873d886d84bb826b2e229b1fdc79e24a64ee58d3e7cb99cce1789450f", func := "loop.example/g03103/laws.FnExactRestingOf", spec := "fnExactRestingOf", recurses := true, apart := false }
def FnExactRestingOfSaid : Prop := fnExactRestingOfRow.holds Try.pinned (OpenSpec.ofChange fnExactRestingOfSpec)

/-- ITS FALSE NEIGHBOUR: 'it returns false'. Refute it at one input. -/
def fnExactRestingOfWrong : ChangeSpec := { name := "fnExactRestingOf", fn := fun _ => fun
  | [d] => { results := [.lit (.bool false)], args := [d] }
  | _ => none }
def FnExactRestingOfWrongFalsely : Prop := fnExactRestingOfRow.holds Try.pinned (OpenSpec.ofChange fnExactRestingOfWrong)

/-- 'laws.FnExactIsBothWays': WHATEVER THE INPUT: true; the input reads as it did. -/
def fnExactIsBothWaysSpec : ChangeSpec := { name := "fnExactIsBothWays", fn := fun _ => fun
  | [d] => { results := [.lit (.bool true)], args := [d] }
  | _ => none }
def fnExactIsBothWaysRow : OpenClaim := { program := "ytlhognagaknhcaa", sum := "d5d9f52873d886d84bb826b2e229b1fdc79e24a64ee58d3e7cb99cce1789450f", func := "loop.example/g03103/laws.FnExactIsBothWays", spec := "fnExactIsBothWays", unfollowed := true, recurses := true, apart := false }
def FnExactIsBothWaysSaid : Prop := fnExactIsBothWaysRow.holds Try.pinned (OpenSpec.ofChange fnExactIsBothWaysSpec)

/-- ITS FALSE NEIGHBOUR: 'it returns false'. Refute it at one input. -/
def fnExactIsBothWaysWrong : ChangeSpec := { name := "fnExactIsBothWays", fn := fun _ => fun
  | [d] => { results := [.lit (.bool false)], args := [d] }
  | _ => none }
def FnExactIsBothWaysWrongFalsely : Prop := fnExactIsBothWaysRow.holds Try.pinned (OpenSpec.ofChange fnExactIsBothWaysWrong)

/-- 'laws.FnExactStretchGraph': WHATEVER THE INPUT: true; the input reads as it did. -/
def fnExactStretchGraphSpec : ChangeSpec := { name := "fnExactStretchGraph", fn := fun _ => fun
  | [d1, d2] => { results := [.lit (.bool true)], args := [d1, d2] }
  | _ => none }
def fnExactStretchGraphRow : OpenClaim := { program := "ytlhognagaknhcaa", sum := "d5d9f52873d886d84bb826b2e229b1fdc79e24a64ee58d3e7cb99cce1789450f", func := "loop.example/g03103/laws.FnExactStretchGraph", spec := "fnExactStretchGraph", apart := false }
def FnExactStretchGraphSaid : Prop := fnExactStretchGraphRow.holds Try.pinned (OpenSpec.ofChange fnExactStretchGraphSpec)

/-- ITS FALSE NEIGHBOUR: 'it returns false'. Refute it at one input. -/
def fnExactStretchGraphWrong : ChangeSpec := { name := "fnExactStretchGraph", fn := fun _ => fun
  | [d1, d2] => { results := [.lit (.bool false)], args := [d1, d2] }
  | _ => none }
def FnExactStretchGraphWrongFalsely : Prop := fnExactStretchGraphRow.holds Try.pinned (OpenSpec.ofChange fnExactStretchGraphWrong)

/-- 'laws.FnExactFirstReturns': WHATEVER THE INPUT: true; the input reads as it did. -/
def fnExactFirstReturnsSpec : ChangeSpec := { name := "fnExactFirstReturns", fn := fun _ => fun
  | [d1, d2, d3] => { results := [.lit (.bool true)], args := [d1, d2, d3] }
  | _ => none }
def fnExactFirstReturnsRow : OpenClaim := { program := "ytlhognagaknhcaa", sum := "d5d9f52873d886d84bb826b2e229b1fdc79e24a64ee58d3e7cb99cce1789450f", func := "loop.example/g03103/laws.FnExactFirstReturns", spec := "fnExactFirstReturns", apart := false }
def FnExactFirstReturnsSaid : Prop := fnExactFirstReturnsRow.holds Try.pinned (OpenSpec.ofChange fnExactFirstReturnsSpec)

/-- ITS FALSE NEIGHBOUR: 'it returns false'. Refute it at one input. -/
def fnExactFirstReturnsWrong : ChangeSpec := { name := "fnExactFirstReturns", fn := fun _ => fun
  | [d1, d2, d3] => { results := [.lit (.bool false)], args := [d1, d2, d3] }
  | _ => none }
def FnExactFirstReturnsWrongFalsely : Prop := fnExactFirstReturnsRow.holds Try.pinned (OpenSpec.ofChange fnExactFirstReturnsWrong)

/- THE SECOND FORM. 'bulk': how many values and letters a reading holds, each counted each time it is reached (what is shared counts as often as it is met; a slice's spare places count too). A statement '..UptoSaid' is the law's where the arguments, and the package variables that the reading takes, are together of bulk at most 1048576: NARROWER than '..Said'. Prove '..Said' where nothing that the law and all that it calls make is longer than what came in: it says more and counts as full. Else prove '..UptoSaid'. A law counts once. -/
mutual
def uptoBulk {H : Type} : DataW H → Nat
  | .lit (.string bytes) => bytes.length + 1
  | .lit _ => 1
  | .nil => 1
  | .ptr d => uptoBulk d + 1
  | .slice elems spare => uptoBulkAll elems + uptoBulkAll spare + 1
  | .agg parts => uptoBulkAll parts + 1
  | .iface _ d => uptoBulk d + 1
  | .map entries => uptoBulkEntries entries + 1
  | .held _ => 1
def uptoBulkAll {H : Type} : List (DataW H) → Nat
  | [] => 0
  | d :: r => uptoBulk d + uptoBulkAll r
def uptoBulkEntries {H : Type} : List (Lit × DataW H) → Nat
  | [] => 0
  | x :: r => uptoBulkEntry x + uptoBulkEntries r
def uptoBulkEntry {H : Type} : Lit × DataW H → Nat
  | (.string bytes, d) => bytes.length + uptoBulk d + 1
  | (_, d) => uptoBulk d + 1
 end
def uptoSmall : (H : Type) → List (DataW H) → Bool := fun _ ds => decide (uptoBulkAll ds ≤ 1048576)
def OpenSpec.upto (s : _root_.Go.ChangeSpec) : _root_.Go.OpenSpec := { _root_.Go.OpenSpec.ofChange s with cond := some uptoSmall }

/-- 'laws.FnExactGreatestVector', WHERE WHAT IT READS IS OF BULK AT MOST 1048576: true; the input reads as it did. -/
def fnExactGreatestVectorUptoRow : OpenClaim := { program := "ytlhognagaknhcaa", sum := "d5d9f52873d886d84bb826b2e229b1fdc79e24a64ee58d3e7cb99cce1789450f", func := "loop.example/g03103/laws.FnExactGreatestVector", spec := "fnExactGreatestVector", apart := false, narrowed := true }
def FnExactGreatestVectorUptoSaid : Prop := fnExactGreatestVectorUptoRow.holds Try.pinned (OpenSpec.upto fnExactGreatestVectorSpec)

/-- 'laws.FnExactLeastVector', WHERE WHAT IT READS IS OF BULK AT MOST 1048576: true; the input reads as it did. -/
def fnExactLeastVectorUptoRow : OpenClaim := { program := "ytlhognagaknhcaa", sum := "d5d9f52873d886d84bb826b2e229b1fdc79e24a64ee58d3e7cb99cce1789450f", func := "loop.example/g03103/laws.FnExactLeastVector", spec := "fnExactLeastVector", apart := false, narrowed := true }
def FnExactLeastVectorUptoSaid : Prop := fnExactLeastVectorUptoRow.holds Try.pinned (OpenSpec.upto fnExactLeastVectorSpec)

/-- 'laws.FnExactCanEncode', WHERE WHAT IT READS IS OF BULK AT MOST 1048576: true; the input reads as it did. -/
def fnExactCanEncodeUptoRow : OpenClaim := { program := "ytlhognagaknhcaa", sum := "d5d9f52873d886d84bb826b2e229b1fdc79e24a64ee58d3e7cb99cce1789450f", func := "loop.example/g03103/laws.FnExactCanEncode", spec := "fnExactCanEncode", apart := false, narrowed := true }
def FnExactCanEncodeUptoSaid : Prop := fnExactCanEncodeUptoRow.holds Try.pinned (OpenSpec.upto fnExactCanEncodeSpec)

/-- 'laws.FnExactGroupOf', WHERE WHAT IT READS IS OF BULK AT MOST 1048576: true; the input reads as it did. -/
def fnExactGroupOfUptoRow : OpenClaim := { program := "ytlhognagaknhcaa", sum := "d5d9f52873d886d84bb826b2e229b1fdc79e24a64ee58d3e7cb99cce1789450f", func := "loop.example/g03103/laws.FnExactGroupOf", spec := "fnExactGroupOf", unfollowed := true, recurses := true, apart := false, narrowed := true }
def FnExactGroupOfUptoSaid : Prop := fnExactGroupOfUptoRow.holds Try.pinned (OpenSpec.upto fnExactGroupOfSpec)

/-- 'laws.FnExactAreFlowLike', WHERE WHAT IT READS IS OF BULK AT MOST 1048576: true; the input reads as it did. -/
def fnExactAreFlowLikeUptoRow : OpenClaim := { program := "ytlhognagaknhcaa", sum := "d5d9f52873d886d84bb826b2e229b1fdc79e24a64ee58d3e7cb99cce1789450f", func := "loop.example/g03103/laws.FnExactAreFlowLike", spec := "fnExactAreFlowLike", unfollowed := true, recurses := true, apart := false, narrowed := true }
def FnExactAreFlowLikeUptoSaid : Prop := fnExactAreFlowLikeUptoRow.holds Try.pinned (OpenSpec.upto fnExactAreFlowLikeSpec)

/-- 'laws.FnExactFitsInto', WHERE WHAT IT READS IS OF BULK AT MOST 1048576: true; the input reads as it did. -/
def fnExactFitsIntoUptoRow : OpenClaim := { program := "ytlhognagaknhcaa", sum := "d5d9f52873d886d84bb826b2e229b1fdc79e24a64ee58d3e7cb99cce1789450f", func := "loop.example/g03103/laws.FnExactFitsInto", spec := "fnExactFitsInto", apart := false, narrowed := true }
def FnExactFitsIntoUptoSaid : Prop := fnExactFitsIntoUptoRow.holds Try.pinned (OpenSpec.upto fnExactFitsIntoSpec)

/-- 'laws.FnExactOrbitRow', WHERE WHAT IT READS IS OF BULK AT MOST 1048576: true; the input reads as it did. -/
def fnExactOrbitRowUptoRow : OpenClaim := { program := "ytlhognagaknhcaa", sum := "d5d9f52873d886d84bb826b2e229b1fdc79e24a64ee58d3e7cb99cce1789450f", func := "loop.example/g03103/laws.FnExactOrbitRow", spec := "fnExactOrbitRow", apart := false, narrowed := true }
def FnExactOrbitRowUptoSaid : Prop := fnExactOrbitRowUptoRow.holds Try.pinned (OpenSpec.upto fnExactOrbitRowSpec)

/-- 'laws.FnExactRestingOf', WHERE WHAT IT READS IS OF BULK AT MOST 1048576: true; the input reads as it did. -/
def fnExactRestingOfUptoRow : OpenClaim := { program := "ytlhognagaknhcaa", sum := "d5d9f52873d886d84bb826b2e229b1fdc79e24a64ee58d3e7cb99cce1789450f", func := "loop.example/g03103/laws.FnExactRestingOf", spec := "fnExactRestingOf", recurses := true, apart := false, narrowed := true }
def FnExactRestingOfUptoSaid : Prop := fnExactRestingOfUptoRow.holds Try.pinned (OpenSpec.upto fnExactRestingOfSpec)

/-- 'laws.FnExactIsBothWays', WHERE WHAT IT READS IS OF BULK AT MOST 1048576: true; the input reads as it did. -/
def fnExactIsBothWaysUptoRow : OpenClaim := { program := "ytlhognagaknhcaa", sum := "d5d9f52873d886d84bb826b2e229b1fdc79e24a64ee58d3e7cb99cce1789450f", func := "loop.example/g03103/laws.FnExactIsBothWays", spec := "fnExactIsBothWays", unfollowed := true, recurses := true, apart := false, narrowed := true }
def FnExactIsBothWaysUptoSaid : Prop := fnExactIsBothWaysUptoRow.holds Try.pinned (OpenSpec.upto fnExactIsBothWaysSpec)

/-- 'laws.FnExactStretchGraph', WHERE WHAT IT READS IS OF BULK AT MOST 1048576: true; the input reads as it did. -/
def fnExactStretchGraphUptoRow : OpenClaim := { program := "ytlhognagaknhcaa", sum := "d5d9f52873d886d84bb826b2e229b1fdc79e24a64ee58d3e7cb99cce1789450f", func := "loop.example/g03103/laws.FnExactStretchGraph", spec := "fnExactStretchGraph", apart := false, narrowed := true }
def FnExactStretchGraphUptoSaid : Prop := fnExactStretchGraphUptoRow.holds Try.pinned (OpenSpec.upto fnExactStretchGraphSpec)

/-- 'laws.FnExactFirstReturns', WHERE WHAT IT READS IS OF BULK AT MOST 1048576: true; the input reads as it did. -/
def fnExactFirstReturnsUptoRow : OpenClaim := { program := "ytlhognagaknhcaa", sum := "d5d9f52873d886d84bb826b2e229b1fdc79e24a64ee58d3e7cb99cce1789450f", func := "loop.example/g03103/laws.FnExactFirstReturns", spec := "fnExactFirstReturns", apart := false, narrowed := true }
def FnExactFirstReturnsUptoSaid : Prop := fnExactFirstReturnsUptoRow.holds Try.pinned (OpenSpec.upto fnExactFirstReturnsSpec)

end Rows
end Go.Proofs.Ytlhognagaknhcaa
