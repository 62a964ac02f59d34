/-
  DERIVED. GIVEN WITH THE SEED: THE CARDS: each row of YtkbdfjlpicflaaaGreatDoorRows.lean that lists a variable, with what it lists TIED to the program's text (the seventh form; the later family's looks); each row that meets fmt, with fmt's text TOLD by the authors' own Lean function (tested against real Go, not proved from fmt's source: count such statements apart). THE CARD IS WHAT COUNTS. Prove the row's statement (the work); the ties are given (YtkbdfjlpicflaaaGreatDoorTie.lean); close each card by the builder's one call (the guide's Derived/Test/ToyasCard.lean, 'card_holds'). Laid BY PROGRAM, IN A SANDBOX (cutbox-door.mjs). By AI agents, Wed Nov 11 2026. No macro, syntax, notation, axiom, sorry.
-/
import Derived.Test.YtkbdfjlpicflaaaGreatDoorRows
import GoSem.ClaimSeven
namespace Go.Proofs.YtkbdfjlpicflaaaGreatDoor
namespace Rows

/-- THE TIED CARD OF 'gambitlaw21.SwapNames'. -/
def swapNamesCard : Claim7 := { stood := { row := swapNamesRow, standIns := [], harness := (true, "a43b6c5814731dd9f725c84c8151445704790f091e3a6791de751d640a5e4438"), looks := false }, kinds := [], alts := [], laidByText := true, laidKinds := [.data, .pinned], laidTests := true, laidLooks := .later }
def SwapNamesCardSaid : Prop := Claim7.holds Tryz.pinned (.plain (OpenSpec.ofChange swapNamesSpec)) swapNamesCard

/-- THE TIED CARD OF 'gambitlaw22.EventKnown'. -/
def eventKnownCard : Claim7 := { stood := { row := eventKnownRow, standIns := [], harness := (true, "a43b6c5814731dd9f725c84c8151445704790f091e3a6791de751d640a5e4438"), looks := false }, kinds := [], alts := [], laidByText := true, laidKinds := [.data, .pinned], laidTests := true, laidLooks := .later }
def EventKnownCardSaid : Prop := Claim7.holds Tryz.pinned (.plain (OpenSpec.ofChange eventKnownSpec)) eventKnownCard

/-- THE TIED CARD OF 'gambitlaw22.EventNone'. -/
def eventNoneCard : Claim7 := { stood := { row := eventNoneRow, standIns := [], harness := (true, "a43b6c5814731dd9f725c84c8151445704790f091e3a6791de751d640a5e4438"), looks := false }, kinds := [], alts := [], laidByText := true, laidKinds := [.data, .pinned], laidTests := true, laidLooks := .later }
def EventNoneCardSaid : Prop := Claim7.holds Tryz.pinned (.plain (OpenSpec.ofChange eventNoneSpec)) eventNoneCard

/-- THE SECOND FORM's CARD OF 'gambitlaw21.SwapNames'. -/
def swapNamesUptoCard : Claim7 := { stood := { row := swapNamesUptoRow, standIns := [], harness := (true, "a43b6c5814731dd9f725c84c8151445704790f091e3a6791de751d640a5e4438"), looks := false }, kinds := [], alts := [], laidByText := true, laidKinds := [.data, .pinned], laidTests := true, laidLooks := .later }
def SwapNamesUptoCardSaid : Prop := Claim7.holds Tryz.pinned (.plain (OpenSpec.upto swapNamesSpec)) swapNamesUptoCard

/-- THE SECOND FORM's CARD OF 'gambitlaw22.EventKnown'. -/
def eventKnownUptoCard : Claim7 := { stood := { row := eventKnownUptoRow, standIns := [], harness := (true, "a43b6c5814731dd9f725c84c8151445704790f091e3a6791de751d640a5e4438"), looks := false }, kinds := [], alts := [], laidByText := true, laidKinds := [.data, .pinned], laidTests := true, laidLooks := .later }
def EventKnownUptoCardSaid : Prop := Claim7.holds Tryz.pinned (.plain (OpenSpec.upto eventKnownSpec)) eventKnownUptoCard

/-- THE SECOND FORM's CARD OF 'gambitlaw22.EventNone'. -/
def eventNoneUptoCard : Claim7 := { stood := { row := eventNoneUptoRow, standIns := [], harness := (true, "a43b6c5814731dd9f725c84c8151445704790f091e3a6791de751d640a5e4438"), looks := false }, kinds := [], alts := [], laidByText := true, laidKinds := [.data, .pinned], laidTests := true, laidLooks := .later }
def EventNoneUptoCardSaid : Prop := Claim7.holds Tryz.pinned (.plain (OpenSpec.upto eventNoneSpec)) eventNoneUptoCard
end Rows
end Go.Proofs.YtkbdfjlpicflaaaGreatDoor
