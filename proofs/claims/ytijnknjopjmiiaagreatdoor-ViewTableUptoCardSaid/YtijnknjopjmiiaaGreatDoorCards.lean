/-
  DERIVED. GIVEN WITH THE SEED: THE CARDS: each row of YtijnknjopjmiiaaGreatDoorRows.lean that lists a variable, with what it lists TIED to the program's text (the seventh form; the later family's looks); each row that meets fmt, with fmt's text TOLD by the authors' own Lean function (tested against real Go, not proved from fmt's source: count such statements apart). THE CARD IS WHAT COUNTS. Prove the row's statement (the work); the ties are given (YtijnknjopjmiiaaGreatDoorTie.lean); close each card by the builder's one call (the guide's Derived/Test/ToyasCard.lean, 'card_holds'). Laid BY PROGRAM, IN A SANDBOX (cutbox-door.mjs). By AI agents, Wed Nov 11 2026. No macro, syntax, notation, axiom, sorry.
-/
import Derived.Test.YtijnknjopjmiiaaGreatDoorRows
import GoSem.ClaimSeven
namespace Go.Proofs.YtijnknjopjmiiaaGreatDoor
namespace Rows

/-- THE TIED CARD OF 'gambitlaw20.ViewTable'. -/
def viewTableCard : Claim7 := { stood := { row := viewTableRow, standIns := [], harness := (true, "2ebef37da359e09262369773347cf5dbae6b2f2a4f0e805c5fde8b58e3b6efb8"), looks := false }, kinds := [], alts := [], laidByText := true, laidKinds := [.data, .pinned], laidTests := true, laidLooks := .later }
def ViewTableCardSaid : Prop := Claim7.holds Tryz.pinned (.plain (OpenSpec.ofChange viewTableSpec)) viewTableCard

/-- THE TIED CARD OF 'gambitlaw20.ViewCalls'. -/
def viewCallsCard : Claim7 := { stood := { row := viewCallsRow, standIns := [], harness := (true, "2ebef37da359e09262369773347cf5dbae6b2f2a4f0e805c5fde8b58e3b6efb8"), looks := false }, kinds := [], alts := [], laidByText := true, laidKinds := [.data, .pinned], laidTests := true, laidLooks := .later }
def ViewCallsCardSaid : Prop := Claim7.holds Tryz.pinned (.plain (OpenSpec.ofChange viewCallsSpec)) viewCallsCard

/-- THE TIED CARD OF 'gambitlaw20.ViewPlain'. -/
def viewPlainCard : Claim7 := { stood := { row := viewPlainRow, standIns := [], harness := (true, "2ebef37da359e09262369773347cf5dbae6b2f2a4f0e805c5fde8b58e3b6efb8"), looks := false }, kinds := [], alts := [], laidByText := true, laidKinds := [.data, .pinned], laidTests := true, laidLooks := .later }
def ViewPlainCardSaid : Prop := Claim7.holds Tryz.pinned (.plain (OpenSpec.ofChange viewPlainSpec)) viewPlainCard

/-- THE SECOND FORM's CARD OF 'gambitlaw20.ViewTable'. -/
def viewTableUptoCard : Claim7 := { stood := { row := viewTableUptoRow, standIns := [], harness := (true, "2ebef37da359e09262369773347cf5dbae6b2f2a4f0e805c5fde8b58e3b6efb8"), looks := false }, kinds := [], alts := [], laidByText := true, laidKinds := [.data, .pinned], laidTests := true, laidLooks := .later }
def ViewTableUptoCardSaid : Prop := Claim7.holds Tryz.pinned (.plain (OpenSpec.upto viewTableSpec)) viewTableUptoCard

/-- THE SECOND FORM's CARD OF 'gambitlaw20.ViewCalls'. -/
def viewCallsUptoCard : Claim7 := { stood := { row := viewCallsUptoRow, standIns := [], harness := (true, "2ebef37da359e09262369773347cf5dbae6b2f2a4f0e805c5fde8b58e3b6efb8"), looks := false }, kinds := [], alts := [], laidByText := true, laidKinds := [.data, .pinned], laidTests := true, laidLooks := .later }
def ViewCallsUptoCardSaid : Prop := Claim7.holds Tryz.pinned (.plain (OpenSpec.upto viewCallsSpec)) viewCallsUptoCard

/-- THE SECOND FORM's CARD OF 'gambitlaw20.ViewPlain'. -/
def viewPlainUptoCard : Claim7 := { stood := { row := viewPlainUptoRow, standIns := [], harness := (true, "2ebef37da359e09262369773347cf5dbae6b2f2a4f0e805c5fde8b58e3b6efb8"), looks := false }, kinds := [], alts := [], laidByText := true, laidKinds := [.data, .pinned], laidTests := true, laidLooks := .later }
def ViewPlainUptoCardSaid : Prop := Claim7.holds Tryz.pinned (.plain (OpenSpec.upto viewPlainSpec)) viewPlainUptoCard
end Rows
end Go.Proofs.YtijnknjopjmiiaaGreatDoor
