/-
  DERIVED. GIVEN WITH THE SEED: THE CARDS: each row of YtgcemkpinmjaeaaDoorRows.lean that lists a variable, with what it lists TIED to the program's text (the seventh form; the later family's looks); each row that meets fmt, with fmt's text TOLD by the authors' own Lean function (tested against real Go, not proved from fmt's source: count such statements apart). THE CARD IS WHAT COUNTS. Prove the row's statement (the work); the ties are given (YtgcemkpinmjaeaaDoorTie.lean); close each card by the builder's one call (the guide's Derived/Test/ToyasCard.lean, 'card_holds'). Laid BY PROGRAM, IN A SANDBOX (cutbox-door.mjs). By AI agents, Wed Nov 11 2026. No macro, syntax, notation, axiom, sorry.
-/
import Derived.Test.YtgcemkpinmjaeaaDoorRows
import GoSem.ClaimSeven
namespace Go.Proofs.YtgcemkpinmjaeaaDoor
namespace Rows

/-- THE TIED CARD OF 'laws.FnDiagonal'. -/
def fnDiagonalCard : Claim7 := { stood := { row := fnDiagonalRow, standIns := [], harness := (true, "485b1b85f7326aae8ec7a45f48aa8377d159c215a30927cc798ca2377fb1d855"), looks := false }, kinds := [], alts := [], laidByText := true, laidKinds := [.data, .data, .data], laidTests := true, laidLooks := .later }
def FnDiagonalCardSaid : Prop := Claim7.holds Tryd.pinned (.plain (OpenSpec.ofChange fnDiagonalSpec)) fnDiagonalCard

/-- THE SECOND FORM's CARD OF 'laws.FnDiagonal'. -/
def fnDiagonalUptoCard : Claim7 := { stood := { row := fnDiagonalUptoRow, standIns := [], harness := (true, "485b1b85f7326aae8ec7a45f48aa8377d159c215a30927cc798ca2377fb1d855"), looks := false }, kinds := [], alts := [], laidByText := true, laidKinds := [.data, .data, .data], laidTests := true, laidLooks := .later }
def FnDiagonalUptoCardSaid : Prop := Claim7.holds Tryd.pinned (.plain (OpenSpec.upto fnDiagonalSpec)) fnDiagonalUptoCard
end Rows
end Go.Proofs.YtgcemkpinmjaeaaDoor
