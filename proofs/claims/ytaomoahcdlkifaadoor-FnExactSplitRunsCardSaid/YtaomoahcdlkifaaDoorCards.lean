/-
  DERIVED. GIVEN WITH THE SEED: THE CARDS: each row of YtaomoahcdlkifaaDoorRows.lean that lists a variable, with what it lists TIED to the program's text (the seventh form; the later family's looks); each row that meets fmt, with fmt's text TOLD by the authors' own Lean function (tested against real Go, not proved from fmt's source: count such statements apart). THE CARD IS WHAT COUNTS. Prove the row's statement (the work); the ties are given (YtaomoahcdlkifaaDoorTie.lean); close each card by the builder's one call (the guide's Derived/Test/ToyasCard.lean, 'card_holds'). Laid BY PROGRAM, IN A SANDBOX (cutbox-door.mjs). By AI agents, Wed Nov 11 2026. No macro, syntax, notation, axiom, sorry.
-/
import Derived.Test.YtaomoahcdlkifaaDoorRows
import GoSem.ClaimSeven
namespace Go.Proofs.YtaomoahcdlkifaaDoor
namespace Rows

/-- THE TIED CARD OF 'laws.FnExactKeepsRuns'. -/
def fnExactKeepsRunsCard : Claim7 := { stood := { row := fnExactKeepsRunsRow, standIns := [], harness := (true, "85948bd615aabcfaded7d539363d5e01a3d62bc8e6ae321b775647be289a6936"), looks := false }, kinds := [], alts := [], laidByText := true, laidKinds := [.data, .pinned], laidTests := true, laidLooks := .later }
def FnExactKeepsRunsCardSaid : Prop := Claim7.holds Tryd.pinned (.plain (OpenSpec.ofChange fnExactKeepsRunsSpec)) fnExactKeepsRunsCard

/-- THE TIED CARD OF 'laws.FnExactSplitRuns'. -/
def fnExactSplitRunsCard : Claim7 := { stood := { row := fnExactSplitRunsRow, standIns := [], harness := (true, "85948bd615aabcfaded7d539363d5e01a3d62bc8e6ae321b775647be289a6936"), looks := false }, kinds := [], alts := [], laidByText := true, laidKinds := [.data, .pinned], laidTests := true, laidLooks := .later }
def FnExactSplitRunsCardSaid : Prop := Claim7.holds Tryd.pinned (.plain (OpenSpec.ofChange fnExactSplitRunsSpec)) fnExactSplitRunsCard

/-- THE TIED CARD OF 'laws.FnExactRunWords'. -/
def fnExactRunWordsCard : Claim7 := { stood := { row := fnExactRunWordsRow, standIns := [], harness := (true, "85948bd615aabcfaded7d539363d5e01a3d62bc8e6ae321b775647be289a6936"), looks := false }, kinds := [], alts := [], laidByText := true, laidKinds := [.data, .pinned], laidTests := true, laidLooks := .later }
def FnExactRunWordsCardSaid : Prop := Claim7.holds Tryd.pinned (.plain (OpenSpec.ofChange fnExactRunWordsSpec)) fnExactRunWordsCard

/-- THE SECOND FORM's CARD OF 'laws.FnExactKeepsRuns'. -/
def fnExactKeepsRunsUptoCard : Claim7 := { stood := { row := fnExactKeepsRunsUptoRow, standIns := [], harness := (true, "85948bd615aabcfaded7d539363d5e01a3d62bc8e6ae321b775647be289a6936"), looks := false }, kinds := [], alts := [], laidByText := true, laidKinds := [.data, .pinned], laidTests := true, laidLooks := .later }
def FnExactKeepsRunsUptoCardSaid : Prop := Claim7.holds Tryd.pinned (.plain (OpenSpec.upto fnExactKeepsRunsSpec)) fnExactKeepsRunsUptoCard

/-- THE SECOND FORM's CARD OF 'laws.FnExactSplitRuns'. -/
def fnExactSplitRunsUptoCard : Claim7 := { stood := { row := fnExactSplitRunsUptoRow, standIns := [], harness := (true, "85948bd615aabcfaded7d539363d5e01a3d62bc8e6ae321b775647be289a6936"), looks := false }, kinds := [], alts := [], laidByText := true, laidKinds := [.data, .pinned], laidTests := true, laidLooks := .later }
def FnExactSplitRunsUptoCardSaid : Prop := Claim7.holds Tryd.pinned (.plain (OpenSpec.upto fnExactSplitRunsSpec)) fnExactSplitRunsUptoCard

/-- THE SECOND FORM's CARD OF 'laws.FnExactRunWords'. -/
def fnExactRunWordsUptoCard : Claim7 := { stood := { row := fnExactRunWordsUptoRow, standIns := [], harness := (true, "85948bd615aabcfaded7d539363d5e01a3d62bc8e6ae321b775647be289a6936"), looks := false }, kinds := [], alts := [], laidByText := true, laidKinds := [.data, .pinned], laidTests := true, laidLooks := .later }
def FnExactRunWordsUptoCardSaid : Prop := Claim7.holds Tryd.pinned (.plain (OpenSpec.upto fnExactRunWordsSpec)) fnExactRunWordsUptoCard
end Rows
end Go.Proofs.YtaomoahcdlkifaaDoor
