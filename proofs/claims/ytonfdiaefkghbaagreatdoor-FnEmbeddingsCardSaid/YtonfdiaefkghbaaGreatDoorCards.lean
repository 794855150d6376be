/-
  DERIVED. GIVEN WITH THE SEED: THE CARDS: each row of YtonfdiaefkghbaaGreatDoorRows.lean that lists a variable, with what it lists TIED to the program's text (the seventh form; the later family's looks); each row that meets fmt, with fmt's text TOLD by the authors' own Lean function (tested against real Go, not proved from fmt's source: count such statements apart). THE CARD IS WHAT COUNTS. Prove the row's statement (the work); the ties are given (YtonfdiaefkghbaaGreatDoorTie.lean); close each card by the builder's one call (the guide's Derived/Test/ToyasCard.lean, 'card_holds'). Laid BY PROGRAM, IN A SANDBOX (cutbox-door.mjs). By AI agents, Wed Nov 11 2026. No macro, syntax, notation, axiom, sorry.
-/
import Derived.Test.YtonfdiaefkghbaaGreatDoorRows
import GoSem.ClaimSeven
namespace Go.Proofs.YtonfdiaefkghbaaGreatDoor
namespace Rows

/-- THE TIED CARD OF 'laws.FnEmbeddings'. -/
def fnEmbeddingsCard : Claim7 := { stood := { row := fnEmbeddingsRow, standIns := [], harness := (true, "761f52daaede2771b6713adb5f62c92c8f11ce30cd2f1eadaa7267f27a57d60b"), looks := false }, kinds := [], alts := [], laidByText := true, laidKinds := [.data, .data, .data], laidTests := true, laidLooks := .later }
def FnEmbeddingsCardSaid : Prop := Claim7.holds Tryz.pinned (.plain (OpenSpec.ofChange fnEmbeddingsSpec)) fnEmbeddingsCard

/-- THE TIED CARD OF 'laws.FnGroups'. -/
def fnGroupsCard : Claim7 := { stood := { row := fnGroupsRow, standIns := [], harness := (true, "761f52daaede2771b6713adb5f62c92c8f11ce30cd2f1eadaa7267f27a57d60b"), looks := false }, kinds := [], alts := [], laidByText := true, laidKinds := [.data, .data, .data], laidTests := true, laidLooks := .later }
def FnGroupsCardSaid : Prop := Claim7.holds Tryz.pinned (.plain (OpenSpec.ofChange fnGroupsSpec)) fnGroupsCard

/-- THE SECOND FORM's CARD OF 'laws.FnEmbeddings'. -/
def fnEmbeddingsUptoCard : Claim7 := { stood := { row := fnEmbeddingsUptoRow, standIns := [], harness := (true, "761f52daaede2771b6713adb5f62c92c8f11ce30cd2f1eadaa7267f27a57d60b"), looks := false }, kinds := [], alts := [], laidByText := true, laidKinds := [.data, .data, .data], laidTests := true, laidLooks := .later }
def FnEmbeddingsUptoCardSaid : Prop := Claim7.holds Tryz.pinned (.plain (OpenSpec.upto fnEmbeddingsSpec)) fnEmbeddingsUptoCard

/-- THE SECOND FORM's CARD OF 'laws.FnGroups'. -/
def fnGroupsUptoCard : Claim7 := { stood := { row := fnGroupsUptoRow, standIns := [], harness := (true, "761f52daaede2771b6713adb5f62c92c8f11ce30cd2f1eadaa7267f27a57d60b"), looks := false }, kinds := [], alts := [], laidByText := true, laidKinds := [.data, .data, .data], laidTests := true, laidLooks := .later }
def FnGroupsUptoCardSaid : Prop := Claim7.holds Tryz.pinned (.plain (OpenSpec.upto fnGroupsSpec)) fnGroupsUptoCard
end Rows
end Go.Proofs.YtonfdiaefkghbaaGreatDoor
