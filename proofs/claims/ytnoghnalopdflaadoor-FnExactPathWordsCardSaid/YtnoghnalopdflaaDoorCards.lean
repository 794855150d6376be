/-
  DERIVED. GIVEN WITH THE SEED: THE CARDS: each row of YtnoghnalopdflaaDoorRows.lean that lists a variable, with what it lists TIED to the program's text (the seventh form; the later family's looks); each row that meets fmt, with fmt's text TOLD by the authors' own Lean function (tested against real Go, not proved from fmt's source: count such statements apart). THE CARD IS WHAT COUNTS. Prove the row's statement (the work); the ties are given (YtnoghnalopdflaaDoorTie.lean); close each card by the builder's one call (the guide's Derived/Test/ToyasCard.lean, 'card_holds'). Laid BY PROGRAM, IN A SANDBOX (cutbox-door.mjs). By AI agents, Wed Nov 11 2026. No macro, syntax, notation, axiom, sorry.
-/
import Derived.Test.YtnoghnalopdflaaDoorRows
import GoSem.ClaimSeven
namespace Go.Proofs.YtnoghnalopdflaaDoor
namespace Rows

/-- THE TIED CARD OF 'laws.FnExactGroupText'. -/
def fnExactGroupTextCard : Claim7 := { stood := { row := fnExactGroupTextRow, standIns := [], harness := (true, "fdc43c725705bf310600304d226d47c1706285aead0d74acdcb20ffbc2e0a687"), looks := false }, kinds := [], alts := [], laidByText := true, laidKinds := [.data, .data, .data], laidTests := true, laidLooks := .later }
def FnExactGroupTextCardSaid : Prop := Claim7.holds Tryd.pinned (.plain (OpenSpec.ofChange fnExactGroupTextSpec)) fnExactGroupTextCard

/-- THE TIED CARD OF 'laws.FnExactRunWords'. -/
def fnExactRunWordsCard : Claim7 := { stood := { row := fnExactRunWordsRow, standIns := [], harness := (true, "fdc43c725705bf310600304d226d47c1706285aead0d74acdcb20ffbc2e0a687"), looks := false }, kinds := [], alts := [], laidByText := true, laidKinds := [.data, .pinned], laidTests := true, laidLooks := .later }
def FnExactRunWordsCardSaid : Prop := Claim7.holds Tryd.pinned (.plain (OpenSpec.ofChange fnExactRunWordsSpec)) fnExactRunWordsCard

/-- THE TIED CARD OF 'laws.FnExactPathWords'. -/
def fnExactPathWordsCard : Claim7 := { stood := { row := fnExactPathWordsRow, standIns := [], harness := (true, "fdc43c725705bf310600304d226d47c1706285aead0d74acdcb20ffbc2e0a687"), looks := false }, kinds := [], alts := [], laidByText := true, laidKinds := [.data, .data, .data], laidTests := true, laidLooks := .later }
def FnExactPathWordsCardSaid : Prop := Claim7.holds Tryd.pinned (.plain (OpenSpec.ofChange fnExactPathWordsSpec)) fnExactPathWordsCard

/-- THE TIED CARD OF 'laws.FnExactCannotEmbed'. -/
def fnExactCannotEmbedCard : Claim7 := { stood := { row := fnExactCannotEmbedRow, standIns := [], harness := (true, "fdc43c725705bf310600304d226d47c1706285aead0d74acdcb20ffbc2e0a687"), looks := false }, kinds := [], alts := [], laidByText := true, laidKinds := [.data, .data, .data], laidTests := true, laidLooks := .later }
def FnExactCannotEmbedCardSaid : Prop := Claim7.holds Tryd.pinned (.plain (OpenSpec.ofChange fnExactCannotEmbedSpec)) fnExactCannotEmbedCard

/-- THE TIED CARD OF 'laws.FnExactLinesOf'. -/
def fnExactLinesOfCard : Claim7 := { stood := { row := fnExactLinesOfRow, standIns := [], harness := (true, "fdc43c725705bf310600304d226d47c1706285aead0d74acdcb20ffbc2e0a687"), looks := false }, kinds := [], alts := [], laidByText := true, laidKinds := [.data, .data, .data], laidTests := true, laidLooks := .later }
def FnExactLinesOfCardSaid : Prop := Claim7.holds Tryd.pinned (.plain (OpenSpec.ofChange fnExactLinesOfSpec)) fnExactLinesOfCard

/-- THE TIED CARD OF 'laws.FnRunLengths'. -/
def fnRunLengthsCard : Claim7 := { stood := { row := fnRunLengthsRow, standIns := [], harness := (true, "fdc43c725705bf310600304d226d47c1706285aead0d74acdcb20ffbc2e0a687"), looks := false }, kinds := [], alts := [], laidByText := true, laidKinds := [.data, .pinned], laidTests := true, laidLooks := .later }
def FnRunLengthsCardSaid : Prop := Claim7.holds Tryd.pinned (.plain (OpenSpec.ofChange fnRunLengthsSpec)) fnRunLengthsCard

/-- THE SECOND FORM's CARD OF 'laws.FnExactGroupText'. -/
def fnExactGroupTextUptoCard : Claim7 := { stood := { row := fnExactGroupTextUptoRow, standIns := [], harness := (true, "fdc43c725705bf310600304d226d47c1706285aead0d74acdcb20ffbc2e0a687"), looks := false }, kinds := [], alts := [], laidByText := true, laidKinds := [.data, .data, .data], laidTests := true, laidLooks := .later }
def FnExactGroupTextUptoCardSaid : Prop := Claim7.holds Tryd.pinned (.plain (OpenSpec.upto fnExactGroupTextSpec)) fnExactGroupTextUptoCard

/-- THE SECOND FORM's CARD OF 'laws.FnExactRunWords'. -/
def fnExactRunWordsUptoCard : Claim7 := { stood := { row := fnExactRunWordsUptoRow, standIns := [], harness := (true, "fdc43c725705bf310600304d226d47c1706285aead0d74acdcb20ffbc2e0a687"), looks := false }, kinds := [], alts := [], laidByText := true, laidKinds := [.data, .pinned], laidTests := true, laidLooks := .later }
def FnExactRunWordsUptoCardSaid : Prop := Claim7.holds Tryd.pinned (.plain (OpenSpec.upto fnExactRunWordsSpec)) fnExactRunWordsUptoCard

/-- THE SECOND FORM's CARD OF 'laws.FnExactPathWords'. -/
def fnExactPathWordsUptoCard : Claim7 := { stood := { row := fnExactPathWordsUptoRow, standIns := [], harness := (true, "fdc43c725705bf310600304d226d47c1706285aead0d74acdcb20ffbc2e0a687"), looks := false }, kinds := [], alts := [], laidByText := true, laidKinds := [.data, .data, .data], laidTests := true, laidLooks := .later }
def FnExactPathWordsUptoCardSaid : Prop := Claim7.holds Tryd.pinned (.plain (OpenSpec.upto fnExactPathWordsSpec)) fnExactPathWordsUptoCard

/-- THE SECOND FORM's CARD OF 'laws.FnExactCannotEmbed'. -/
def fnExactCannotEmbedUptoCard : Claim7 := { stood := { row := fnExactCannotEmbedUptoRow, standIns := [], harness := (true, "fdc43c725705bf310600304d226d47c1706285aead0d74acdcb20ffbc2e0a687"), looks := false }, kinds := [], alts := [], laidByText := true, laidKinds := [.data, .data, .data], laidTests := true, laidLooks := .later }
def FnExactCannotEmbedUptoCardSaid : Prop := Claim7.holds Tryd.pinned (.plain (OpenSpec.upto fnExactCannotEmbedSpec)) fnExactCannotEmbedUptoCard

/-- THE SECOND FORM's CARD OF 'laws.FnExactLinesOf'. -/
def fnExactLinesOfUptoCard : Claim7 := { stood := { row := fnExactLinesOfUptoRow, standIns := [], harness := (true, "fdc43c725705bf310600304d226d47c1706285aead0d74acdcb20ffbc2e0a687"), looks := false }, kinds := [], alts := [], laidByText := true, laidKinds := [.data, .data, .data], laidTests := true, laidLooks := .later }
def FnExactLinesOfUptoCardSaid : Prop := Claim7.holds Tryd.pinned (.plain (OpenSpec.upto fnExactLinesOfSpec)) fnExactLinesOfUptoCard

/-- THE SECOND FORM's CARD OF 'laws.FnRunLengths'. -/
def fnRunLengthsUptoCard : Claim7 := { stood := { row := fnRunLengthsUptoRow, standIns := [], harness := (true, "fdc43c725705bf310600304d226d47c1706285aead0d74acdcb20ffbc2e0a687"), looks := false }, kinds := [], alts := [], laidByText := true, laidKinds := [.data, .pinned], laidTests := true, laidLooks := .later }
def FnRunLengthsUptoCardSaid : Prop := Claim7.holds Tryd.pinned (.plain (OpenSpec.upto fnRunLengthsSpec)) fnRunLengthsUptoCard
end Rows
end Go.Proofs.YtnoghnalopdflaaDoor
