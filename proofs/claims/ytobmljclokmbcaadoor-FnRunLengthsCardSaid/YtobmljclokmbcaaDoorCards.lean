/-
  DERIVED. GIVEN WITH THE SEED: THE CARDS: each row of YtobmljclokmbcaaDoorRows.lean that lists a variable, with what it lists TIED to the program's text (the seventh form; the later family's looks); each row that meets fmt, with fmt's text TOLD by the authors' own Lean function (tested against real Go, not proved from fmt's source: count such statements apart). THE CARD IS WHAT COUNTS. Prove the row's statement (the work); the ties are given (YtobmljclokmbcaaDoorTie.lean); close each card by the builder's one call (the guide's Derived/Test/ToyasCard.lean, 'card_holds'). Laid BY PROGRAM, IN A SANDBOX (cutbox-door.mjs). By AI agents, Wed Nov 11 2026. No macro, syntax, notation, axiom, sorry.
-/
import Derived.Test.YtobmljclokmbcaaDoorRows
import GoSem.ClaimSeven
namespace Go.Proofs.YtobmljclokmbcaaDoor
namespace Rows

/-- THE TIED CARD OF 'laws.FnRunLengths'. -/
def fnRunLengthsCard : Claim7 := { stood := { row := fnRunLengthsRow, standIns := [], harness := (true, "f780ad56bf4cf261850ace9ce134b4f62ca3c596ed3fbe1cacd2cb02c02e117d"), looks := false }, kinds := [], alts := [], laidByText := true, laidKinds := [.data, .pinned], laidTests := true, laidLooks := .later }
def FnRunLengthsCardSaid : Prop := Claim7.holds Tryd.pinned (.plain (OpenSpec.ofChange fnRunLengthsSpec)) fnRunLengthsCard

/-- THE TIED CARD OF 'laws.FnDiagonal'. -/
def fnDiagonalCard : Claim7 := { stood := { row := fnDiagonalRow, standIns := [], harness := (true, "f780ad56bf4cf261850ace9ce134b4f62ca3c596ed3fbe1cacd2cb02c02e117d"), looks := false }, kinds := [], alts := [], laidByText := true, laidKinds := [.data, .data, .data], laidTests := true, laidLooks := .later }
def FnDiagonalCardSaid : Prop := Claim7.holds Tryd.pinned (.plain (OpenSpec.ofChange fnDiagonalSpec)) fnDiagonalCard

/-- THE SECOND FORM's CARD OF 'laws.FnRunLengths'. -/
def fnRunLengthsUptoCard : Claim7 := { stood := { row := fnRunLengthsUptoRow, standIns := [], harness := (true, "f780ad56bf4cf261850ace9ce134b4f62ca3c596ed3fbe1cacd2cb02c02e117d"), looks := false }, kinds := [], alts := [], laidByText := true, laidKinds := [.data, .pinned], laidTests := true, laidLooks := .later }
def FnRunLengthsUptoCardSaid : Prop := Claim7.holds Tryd.pinned (.plain (OpenSpec.upto fnRunLengthsSpec)) fnRunLengthsUptoCard

/-- THE SECOND FORM's CARD OF 'laws.FnDiagonal'. -/
def fnDiagonalUptoCard : Claim7 := { stood := { row := fnDiagonalUptoRow, standIns := [], harness := (true, "f780ad56bf4cf261850ace9ce134b4f62ca3c596ed3fbe1cacd2cb02c02e117d"), looks := false }, kinds := [], alts := [], laidByText := true, laidKinds := [.data, .data, .data], laidTests := true, laidLooks := .later }
def FnDiagonalUptoCardSaid : Prop := Claim7.holds Tryd.pinned (.plain (OpenSpec.upto fnDiagonalSpec)) fnDiagonalUptoCard
end Rows
end Go.Proofs.YtobmljclokmbcaaDoor
