/-
  DERIVED. GIVEN WITH THE SEED: THE CARDS: each row of YtmpdpfkdebbngaaGreatDoorRows.lean that lists a variable, with what it lists TIED to the program's text (the seventh form; the later family's looks); each row that meets fmt, with fmt's text TOLD by the authors' own Lean function (tested against real Go, not proved from fmt's source: count such statements apart). THE CARD IS WHAT COUNTS. Prove the row's statement (the work); the ties are given (YtmpdpfkdebbngaaGreatDoorTie.lean); close each card by the builder's one call (the guide's Derived/Test/ToyasCard.lean, 'card_holds'). Laid BY PROGRAM, IN A SANDBOX (cutbox-door.mjs). By AI agents, Wed Nov 11 2026. No macro, syntax, notation, axiom, sorry.
-/
import Derived.Test.YtmpdpfkdebbngaaGreatDoorRows
import GoSem.ClaimSeven
namespace Go.Proofs.YtmpdpfkdebbngaaGreatDoor
namespace Rows

/-- THE TIED CARD OF 'gambitlaw22.EventPlain'. -/
def eventPlainCard : Claim7 := { stood := { row := eventPlainRow, standIns := [], harness := (true, "f1a74cb4bd20997636fc3ad1cfb56cbd4f5e7723e781922e9bb2b346f7e09b68"), looks := false }, kinds := [], alts := [], laidByText := true, laidKinds := [.data, .pinned], laidTests := true, laidLooks := .later }
def EventPlainCardSaid : Prop := Claim7.holds Tryz.pinned (.plain (OpenSpec.ofChange eventPlainSpec)) eventPlainCard

/-- THE TIED CARD OF 'gambitlaw22.EventKnown'. -/
def eventKnownCard : Claim7 := { stood := { row := eventKnownRow, standIns := [], harness := (true, "f1a74cb4bd20997636fc3ad1cfb56cbd4f5e7723e781922e9bb2b346f7e09b68"), looks := false }, kinds := [], alts := [], laidByText := true, laidKinds := [.data, .pinned], laidTests := true, laidLooks := .later }
def EventKnownCardSaid : Prop := Claim7.holds Tryz.pinned (.plain (OpenSpec.ofChange eventKnownSpec)) eventKnownCard

/-- THE TIED CARD OF 'gambitlaw22.EventNothing'. -/
def eventNothingCard : Claim7 := { stood := { row := eventNothingRow, standIns := [], harness := (true, "f1a74cb4bd20997636fc3ad1cfb56cbd4f5e7723e781922e9bb2b346f7e09b68"), looks := false }, kinds := [], alts := [], laidByText := true, laidKinds := [.data, .pinned], laidTests := true, laidLooks := .later }
def EventNothingCardSaid : Prop := Claim7.holds Tryz.pinned (.plain (OpenSpec.ofChange eventNothingSpec)) eventNothingCard

/-- THE SECOND FORM's CARD OF 'gambitlaw22.EventPlain'. -/
def eventPlainUptoCard : Claim7 := { stood := { row := eventPlainUptoRow, standIns := [], harness := (true, "f1a74cb4bd20997636fc3ad1cfb56cbd4f5e7723e781922e9bb2b346f7e09b68"), looks := false }, kinds := [], alts := [], laidByText := true, laidKinds := [.data, .pinned], laidTests := true, laidLooks := .later }
def EventPlainUptoCardSaid : Prop := Claim7.holds Tryz.pinned (.plain (OpenSpec.upto eventPlainSpec)) eventPlainUptoCard

/-- THE SECOND FORM's CARD OF 'gambitlaw22.EventKnown'. -/
def eventKnownUptoCard : Claim7 := { stood := { row := eventKnownUptoRow, standIns := [], harness := (true, "f1a74cb4bd20997636fc3ad1cfb56cbd4f5e7723e781922e9bb2b346f7e09b68"), looks := false }, kinds := [], alts := [], laidByText := true, laidKinds := [.data, .pinned], laidTests := true, laidLooks := .later }
def EventKnownUptoCardSaid : Prop := Claim7.holds Tryz.pinned (.plain (OpenSpec.upto eventKnownSpec)) eventKnownUptoCard

/-- THE SECOND FORM's CARD OF 'gambitlaw22.EventNothing'. -/
def eventNothingUptoCard : Claim7 := { stood := { row := eventNothingUptoRow, standIns := [], harness := (true, "f1a74cb4bd20997636fc3ad1cfb56cbd4f5e7723e781922e9bb2b346f7e09b68"), looks := false }, kinds := [], alts := [], laidByText := true, laidKinds := [.data, .pinned], laidTests := true, laidLooks := .later }
def EventNothingUptoCardSaid : Prop := Claim7.holds Tryz.pinned (.plain (OpenSpec.upto eventNothingSpec)) eventNothingUptoCard
end Rows
end Go.Proofs.YtmpdpfkdebbngaaGreatDoor
