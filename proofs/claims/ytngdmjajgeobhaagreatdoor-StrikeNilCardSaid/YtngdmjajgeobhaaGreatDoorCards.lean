/-
  DERIVED. GIVEN WITH THE SEED: THE CARDS: each row of YtngdmjajgeobhaaGreatDoorRows.lean that lists a variable, with what it lists TIED to the program's text (the seventh form; the later family's looks); each row that meets fmt, with fmt's text TOLD by the authors' own Lean function (tested against real Go, not proved from fmt's source: count such statements apart). THE CARD IS WHAT COUNTS. Prove the row's statement (the work); the ties are given (YtngdmjajgeobhaaGreatDoorTie.lean); close each card by the builder's one call (the guide's Derived/Test/ToyasCard.lean, 'card_holds'). Laid BY PROGRAM, IN A SANDBOX (cutbox-door.mjs). By AI agents, Wed Nov 11 2026. No macro, syntax, notation, axiom, sorry.
-/
import Derived.Test.YtngdmjajgeobhaaGreatDoorRows
import GoSem.ClaimSeven
namespace Go.Proofs.YtngdmjajgeobhaaGreatDoor
namespace Rows

/-- THE TIED CARD OF 'gambitlaw26.StrikeNames'. -/
def strikeNamesCard : Claim7 := { stood := { row := strikeNamesRow, standIns := [], harness := (true, "3e27f091ef175af7e8142e61b3f96c167ed8e706becfd61498e5a44d8c09a766"), looks := false }, kinds := [], alts := [], laidByText := true, laidKinds := [.data, .pinned], laidTests := true, laidLooks := .later }
def StrikeNamesCardSaid : Prop := Claim7.holds Tryz.pinned (.plain (OpenSpec.ofChange strikeNamesSpec)) strikeNamesCard

/-- THE TIED CARD OF 'gambitlaw26.StrikeNil'. -/
def strikeNilCard : Claim7 := { stood := { row := strikeNilRow, standIns := [], harness := (true, "3e27f091ef175af7e8142e61b3f96c167ed8e706becfd61498e5a44d8c09a766"), looks := false }, kinds := [], alts := [], laidByText := true, laidKinds := [.data, .pinned], laidTests := true, laidLooks := .later }
def StrikeNilCardSaid : Prop := Claim7.holds Tryz.pinned (.plain (OpenSpec.ofChange strikeNilSpec)) strikeNilCard

/-- THE TIED CARD OF 'gambitlaw26.StrikeCalls'. -/
def strikeCallsCard : Claim7 := { stood := { row := strikeCallsRow, standIns := [], harness := (true, "3e27f091ef175af7e8142e61b3f96c167ed8e706becfd61498e5a44d8c09a766"), looks := false }, kinds := [], alts := [], laidByText := true, laidKinds := [.data, .pinned], laidTests := true, laidLooks := .later }
def StrikeCallsCardSaid : Prop := Claim7.holds Tryz.pinned (.plain (OpenSpec.ofChange strikeCallsSpec)) strikeCallsCard

/-- THE TIED CARD OF 'gambitlaw26.StrikeAgrees'. -/
def strikeAgreesCard : Claim7 := { stood := { row := strikeAgreesRow, standIns := [], harness := (true, "3e27f091ef175af7e8142e61b3f96c167ed8e706becfd61498e5a44d8c09a766"), looks := false }, kinds := [], alts := [], laidByText := true, laidKinds := [.data, .pinned], laidTests := true, laidLooks := .later }
def StrikeAgreesCardSaid : Prop := Claim7.holds Tryz.pinned (.plain (OpenSpec.ofChange strikeAgreesSpec)) strikeAgreesCard

/-- THE SECOND FORM's CARD OF 'gambitlaw26.StrikeNames'. -/
def strikeNamesUptoCard : Claim7 := { stood := { row := strikeNamesUptoRow, standIns := [], harness := (true, "3e27f091ef175af7e8142e61b3f96c167ed8e706becfd61498e5a44d8c09a766"), looks := false }, kinds := [], alts := [], laidByText := true, laidKinds := [.data, .pinned], laidTests := true, laidLooks := .later }
def StrikeNamesUptoCardSaid : Prop := Claim7.holds Tryz.pinned (.plain (OpenSpec.upto strikeNamesSpec)) strikeNamesUptoCard

/-- THE SECOND FORM's CARD OF 'gambitlaw26.StrikeNil'. -/
def strikeNilUptoCard : Claim7 := { stood := { row := strikeNilUptoRow, standIns := [], harness := (true, "3e27f091ef175af7e8142e61b3f96c167ed8e706becfd61498e5a44d8c09a766"), looks := false }, kinds := [], alts := [], laidByText := true, laidKinds := [.data, .pinned], laidTests := true, laidLooks := .later }
def StrikeNilUptoCardSaid : Prop := Claim7.holds Tryz.pinned (.plain (OpenSpec.upto strikeNilSpec)) strikeNilUptoCard

/-- THE SECOND FORM's CARD OF 'gambitlaw26.StrikeCalls'. -/
def strikeCallsUptoCard : Claim7 := { stood := { row := strikeCallsUptoRow, standIns := [], harness := (true, "3e27f091ef175af7e8142e61b3f96c167ed8e706becfd61498e5a44d8c09a766"), looks := false }, kinds := [], alts := [], laidByText := true, laidKinds := [.data, .pinned], laidTests := true, laidLooks := .later }
def StrikeCallsUptoCardSaid : Prop := Claim7.holds Tryz.pinned (.plain (OpenSpec.upto strikeCallsSpec)) strikeCallsUptoCard

/-- THE SECOND FORM's CARD OF 'gambitlaw26.StrikeAgrees'. -/
def strikeAgreesUptoCard : Claim7 := { stood := { row := strikeAgreesUptoRow, standIns := [], harness := (true, "3e27f091ef175af7e8142e61b3f96c167ed8e706becfd61498e5a44d8c09a766"), looks := false }, kinds := [], alts := [], laidByText := true, laidKinds := [.data, .pinned], laidTests := true, laidLooks := .later }
def StrikeAgreesUptoCardSaid : Prop := Claim7.holds Tryz.pinned (.plain (OpenSpec.upto strikeAgreesSpec)) strikeAgreesUptoCard
end Rows
end Go.Proofs.YtngdmjajgeobhaaGreatDoor
