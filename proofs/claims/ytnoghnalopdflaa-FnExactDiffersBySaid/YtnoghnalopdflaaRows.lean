/-
  No cell of these rows narrows 'for every input' (looked for: loops, veiled, ifaces, maps, wideKeys, modest, calm, conditions, laid).
  DERIVED. THE GIVEN ROWS OF THIS SEAT. 6 by the template 'for every input the law returns true; each argument reads behind the call as it read before'; 0 by the template 'total and deterministic' (their statements: YtnoghnalopdflaaTotals.lean).
  GIVEN WITH THE SEED: the statements are not yours to turn. If you find one false, say at which input.
  Laid BY PROGRAM, IN A SANDBOX (cutbox-rows.mjs): the forced cells as the released guide's own fill.sh prints them over the translation c2114f47c1680909… (all of the seat's roots in one cut). By AI agents, Wed Nov 11 2026. No macro, syntax, notation, axiom, sorry.
-/
import Derived.Test.YtnoghnalopdflaaChecked
import GoSem.Claim
import GoSem.ClaimJoined
import GoSem.ClaimMapViews
import Derived.JoinedTies
import Derived.KernelRfl
namespace Go.Proofs.Ytnoghnalopdflaa
/- THE CELL 'sum', in the pinned program and in every row, IS THE sha256 OF THE DUMP (.gsa) THAT YtnoghnalopdflaaProg.lean LOADS. Nothing in Lean hashes anything: it is a label: what it is worth is what the hold of that sum in a sandbox is worth. -/
noncomputable def Try.pinned : Pinned := { name := "ytnoghnalopdflaa", sum := "c2114f47c168090948a1338b87b69c51c3f3e8fbfbe07dc830ca6da37b3b90ac", checked := Try.checked }
namespace Rows
def none {H : Type} : Left H := { results := [], args := [] }

/-- 'laws.FnExactSplitState': WHATEVER THE INPUT: true; the input reads as it did. -/
def fnExactSplitStateSpec : ChangeSpec := { name := "fnExactSplitState", fn := fun _ => fun
  | [d1, d2, d3] => { results := [.lit (.bool true)], args := [d1, d2, d3] }
  | _ => none }
def fnExactSplitStateRow : OpenClaim := { program := "ytnoghnalopdflaa", sum := "c2114f47c168090948a1338b87b69c51c3f3e8fbfbe07dc830ca6da37b3b90ac", func := "loop.example/g03103/laws.FnExactSplitState", spec := "fnExactSplitState", unfollowed := true, recurses := true, apart := false }
def FnExactSplitStateSaid : Prop := fnExactSplitStateRow.holds Try.pinned (OpenSpec.ofChange fnExactSplitStateSpec)

/-- ITS FALSE NEIGHBOUR: 'it returns false'. Refute it at one input. -/
def fnExactSplitStateWrong : ChangeSpec := { name := "fnExactSplitState", fn := fun _ => fun
  | [d1, d2, d3] => { results := [.lit (.bool false)], args := [d1, d2, d3] }
  | _ => none }
def FnExactSplitStateWrongFalsely : Prop := fnExactSplitStateRow.holds Try.pinned (OpenSpec.ofChange fnExactSplitStateWrong)

/-- 'laws.FnExactRunBound': WHATEVER THE INPUT: true; the input reads as it did. -/
def fnExactRunBoundSpec : ChangeSpec := { name := "fnExactRunBound", fn := fun _ => fun
  | [d1, d2] => { results := [.lit (.bool true)], args := [d1, d2] }
  | _ => none }
def fnExactRunBoundRow : OpenClaim := { program := "ytnoghnalopdflaa", sum := "c2114f47c168090948a1338b87b69c51c3f3e8fbfbe07dc830ca6da37b3b90ac", func := "loop.example/g03103/laws.FnExactRunBound", spec := "fnExactRunBound", recurses := true, apart := false }
def FnExactRunBoundSaid : Prop := fnExactRunBoundRow.holds Try.pinned (OpenSpec.ofChange fnExactRunBoundSpec)

/-- ITS FALSE NEIGHBOUR: 'it returns false'. Refute it at one input. -/
def fnExactRunBoundWrong : ChangeSpec := { name := "fnExactRunBound", fn := fun _ => fun
  | [d1, d2] => { results := [.lit (.bool false)], args := [d1, d2] }
  | _ => none }
def FnExactRunBoundWrongFalsely : Prop := fnExactRunBoundRow.holds Try.pinned (OpenSpec.ofChange fnExactRunBoundWrong)

/-- 'laws.FnExactOrbitWords': WHATEVER THE INPUT: true; the input reads as it did. -/
def fnExactOrbitWordsSpec : ChangeSpec := { name := "fnExactOrbitWords", fn := fun _ => fun
  | [d1, d2] => { results := [.lit (.bool true)], args := [d1, d2] }
  | _ => none }
def fnExactOrbitWordsRow : OpenClaim := { program := "ytnoghnalopdflaa", sum := "c2114f47c168090948a1338b87b69c51c3f3e8fbfbe07dc830ca6da37b3b90ac", func := "loop.example/g03103/laws.FnExactOrbitWords", spec := "fnExactOrbitWords", inPlace := ["internal/abi.NoEscape", "internal/bytealg.MakeNoZero", "internal/bytealg.IndexByteString", "internal/bytealg.IndexString"], unfollowed := true, recurses := true, named := ["internal/bytealg.MaxLen"], apart := false }
def FnExactOrbitWordsSaid : Prop := fnExactOrbitWordsRow.holds Try.pinned (OpenSpec.ofChange fnExactOrbitWordsSpec)

/-- ITS FALSE NEIGHBOUR: 'it returns false'. Refute it at one input. -/
def fnExactOrbitWordsWrong : ChangeSpec := { name := "fnExactOrbitWords", fn := fun _ => fun
  | [d1, d2] => { results := [.lit (.bool false)], args := [d1, d2] }
  | _ => none }
def FnExactOrbitWordsWrongFalsely : Prop := fnExactOrbitWordsRow.holds Try.pinned (OpenSpec.ofChange fnExactOrbitWordsWrong)

/-- 'laws.FnExactDiffersBy': WHATEVER THE INPUT: true; the input reads as it did. -/
def fnExactDiffersBySpec : ChangeSpec := { name := "fnExactDiffersBy", fn := fun _ => fun
  | [d1, d2] => { results := [.lit (.bool true)], args := [d1, d2] }
  | _ => none }
def fnExactDiffersByRow : OpenClaim := { program := "ytnoghnalopdflaa", sum := "c2114f47c168090948a1338b87b69c51c3f3e8fbfbe07dc830ca6da37b3b90ac", func := "loop.example/g03103/laws.FnExactDiffersBy", spec := "fnExactDiffersBy", unfollowed := true, recurses := true, apart := false }
def FnExactDiffersBySaid : Prop := fnExactDiffersByRow.holds Try.pinned (OpenSpec.ofChange fnExactDiffersBySpec)

/-- ITS FALSE NEIGHBOUR: 'it returns false'. Refute it at one input. -/
def fnExactDiffersByWrong : ChangeSpec := { name := "fnExactDiffersBy", fn := fun _ => fun
  | [d1, d2] => { results := [.lit (.bool false)], args := [d1, d2] }
  | _ => none }
def FnExactDiffersByWrongFalsely : Prop := fnExactDiffersByRow.holds Try.pinned (OpenSpec.ofChange fnExactDiffersByWrong)

/-- 'laws.FnEncoders': WHATEVER THE INPUT: true; the input reads as it did. -/
def fnEncodersSpec : ChangeSpec := { name := "fnEncoders", fn := fun _ => fun
  | [d] => { results := [.lit (.bool true)], args := [d] }
  | _ => none }
def fnEncodersRow : OpenClaim := { program := "ytnoghnalopdflaa", sum := "c2114f47c168090948a1338b87b69c51c3f3e8fbfbe07dc830ca6da37b3b90ac", func := "loop.example/g03103/laws.FnEncoders", spec := "fnEncoders", unfollowed := true, recurses := true, apart := false }
def FnEncodersSaid : Prop := fnEncodersRow.holds Try.pinned (OpenSpec.ofChange fnEncodersSpec)

/-- ITS FALSE NEIGHBOUR: 'it returns false'. Refute it at one input. -/
def fnEncodersWrong : ChangeSpec := { name := "fnEncoders", fn := fun _ => fun
  | [d] => { results := [.lit (.bool false)], args := [d] }
  | _ => none }
def FnEncodersWrongFalsely : Prop := fnEncodersRow.holds Try.pinned (OpenSpec.ofChange fnEncodersWrong)

/-- 'laws.FnSplits': WHATEVER THE INPUT: true; the input reads as it did. -/
def fnSplitsSpec : ChangeSpec := { name := "fnSplits", fn := fun _ => fun
  | [d] => { results := [.lit (.bool true)], args := [d] }
  | _ => none }
def fnSplitsRow : OpenClaim := { program := "ytnoghnalopdflaa", sum := "c2114f47c168090948a1338b87b69c51c3f3e8fbfbe07dc830ca6da37b3b90ac", func := "loop.example/g03103/laws.FnSplits", spec := "fnSplits", unfollowed := true, recurses := true, apart := false }
def FnSplitsSaid : Prop := fnSplitsRow.holds Try.pinned (OpenSpec.ofChange fnSplitsSpec)

/-- ITS FALSE NEIGHBOUR: 'it returns false'. Refute it at one input. -/
def fnSplitsWrong : ChangeSpec := { name := "fnSplits", fn := fun _ => fun
  | [d] => { results := [.lit (.bool false)], args := [d] }
  | _ => none }
def FnSplitsWrongFalsely : Prop := fnSplitsRow.holds Try.pinned (OpenSpec.ofChange fnSplitsWrong)

/- THE SECOND FORM. 'bulk': how many values and letters a reading holds, each counted each time it is reached (what is shared counts as often as it is met; a slice's spare places count too). A statement '..UptoSaid' is the law's where the arguments, and the package variables that the reading takes, are together of bulk at most 1048576: NARROWER than '..Said'. Prove '..Said' where nothing that the law and all that it calls make is longer than what came in: it says more and counts as full. Else prove '..UptoSaid'. A law counts once. -/
mutual
def uptoBulk {H : Type} : DataW H → Nat
  | .lit (.string bytes) => bytes.length + 1
  | .lit _ => 1
  | .nil => 1
  | .ptr d => uptoBulk d + 1
  | .slice elems spare => uptoBulkAll elems + uptoBulkAll spare + 1
  | .agg parts => uptoBulkAll parts + 1
  | .iface _ d => uptoBulk d + 1
  | .map entries => uptoBulkEntries entries + 1
  | .held _ => 1
def uptoBulkAll {H : Type} : List (DataW H) → Nat
  | [] => 0
  | d :: r => uptoBulk d + uptoBulkAll r
def uptoBulkEntries {H : Type} : List (Lit × DataW H) → Nat
  | [] => 0
  | x :: r => uptoBulkEntry x + uptoBulkEntries r
def uptoBulkEntry {H : Type} : Lit × DataW H → Nat
  | (.string bytes, d) => bytes.length + uptoBulk d + 1
  | (_, d) => uptoBulk d + 1
 end
def uptoSmall : (H : Type) → List (DataW H) → Bool := fun _ ds => decide (uptoBulkAll ds ≤ 1048576)
def OpenSpec.upto (s : _root_.Go.ChangeSpec) : _root_.Go.OpenSpec := { _root_.Go.OpenSpec.ofChange s with cond := some uptoSmall }

/-- 'laws.FnExactSplitState', WHERE WHAT IT READS IS OF BULK AT MOST 1048576: true; the input reads as it did. -/
def fnExactSplitStateUptoRow : OpenClaim := { program := "ytnoghnalopdflaa", sum := "c2114f47c168090948a1338b87b69c51c3f3e8fbfbe07dc830ca6da37b3b90ac", func := "loop.example/g03103/laws.FnExactSplitState", spec := "fnExactSplitState", unfollowed := true, recurses := true, apart := false, narrowed := true }
def FnExactSplitStateUptoSaid : Prop := fnExactSplitStateUptoRow.holds Try.pinned (OpenSpec.upto fnExactSplitStateSpec)

/-- 'laws.FnExactRunBound', WHERE WHAT IT READS IS OF BULK AT MOST 1048576: true; the input reads as it did. -/
def fnExactRunBoundUptoRow : OpenClaim := { program := "ytnoghnalopdflaa", sum := "c2114f47c168090948a1338b87b69c51c3f3e8fbfbe07dc830ca6da37b3b90ac", func := "loop.example/g03103/laws.FnExactRunBound", spec := "fnExactRunBound", recurses := true, apart := false, narrowed := true }
def FnExactRunBoundUptoSaid : Prop := fnExactRunBoundUptoRow.holds Try.pinned (OpenSpec.upto fnExactRunBoundSpec)

/-- 'laws.FnExactOrbitWords', WHERE WHAT IT READS IS OF BULK AT MOST 1048576: true; the input reads as it did. -/
def fnExactOrbitWordsUptoRow : OpenClaim := { program := "ytnoghnalopdflaa", sum := "c2114f47c168090948a1338b87b69c51c3f3e8fbfbe07dc830ca6da37b3b90ac", func := "loop.example/g03103/laws.FnExactOrbitWords", spec := "fnExactOrbitWords", inPlace := ["internal/abi.NoEscape", "internal/bytealg.MakeNoZero", "internal/bytealg.IndexByteString", "internal/bytealg.IndexString"], unfollowed := true, recurses := true, named := ["internal/bytealg.MaxLen"], apart := false, narrowed := true }
def FnExactOrbitWordsUptoSaid : Prop := fnExactOrbitWordsUptoRow.holds Try.pinned (OpenSpec.upto fnExactOrbitWordsSpec)

/-- 'laws.FnExactDiffersBy', WHERE WHAT IT READS IS OF BULK AT MOST 1048576: true; the input reads as it did. -/
def fnExactDiffersByUptoRow : OpenClaim := { program := "ytnoghnalopdflaa", sum := "c2114f47c168090948a1338b87b69c51c3f3e8fbfbe07dc830ca6da37b3b90ac", func := "loop.example/g03103/laws.FnExactDiffersBy", spec := "fnExactDiffersBy", unfollowed := true, recurses := true, apart := false, narrowed := true }
def FnExactDiffersByUptoSaid : Prop := fnExactDiffersByUptoRow.holds Try.pinned (OpenSpec.upto fnExactDiffersBySpec)

/-- 'laws.FnEncoders', WHERE WHAT IT READS IS OF BULK AT MOST 1048576: true; the input reads as it did. -/
def fnEncodersUptoRow : OpenClaim := { program := "ytnoghnalopdflaa", sum := "c2114f47c168090948a1338b87b69c51c3f3e8fbfbe07dc830ca6da37b3b90ac", func := "loop.example/g03103/laws.FnEncoders", spec := "fnEncoders", unfollowed := true, recurses := true, apart := false, narrowed := true }
def FnEncodersUptoSaid : Prop := fnEncodersUptoRow.holds Try.pinned (OpenSpec.upto fnEncodersSpec)

/-- 'laws.FnSplits', WHERE WHAT IT READS IS OF BULK AT MOST 1048576: true; the input reads as it did. -/
def fnSplitsUptoRow : OpenClaim := { program := "ytnoghnalopdflaa", sum := "c2114f47c168090948a1338b87b69c51c3f3e8fbfbe07dc830ca6da37b3b90ac", func := "loop.example/g03103/laws.FnSplits", spec := "fnSplits", unfollowed := true, recurses := true, apart := false, narrowed := true }
def FnSplitsUptoSaid : Prop := fnSplitsUptoRow.holds Try.pinned (OpenSpec.upto fnSplitsSpec)

end Rows
end Go.Proofs.Ytnoghnalopdflaa
