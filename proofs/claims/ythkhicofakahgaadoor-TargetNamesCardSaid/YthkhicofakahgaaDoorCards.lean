/-
  DERIVED. GIVEN WITH THE SEED: THE CARDS: each row of YthkhicofakahgaaDoorRows.lean that lists a variable, with what it lists TIED to the program's text (the seventh form; the later family's looks); each row that meets fmt, with fmt's text TOLD by the authors' own Lean function (tested against real Go, not proved from fmt's source: count such statements apart). THE CARD IS WHAT COUNTS. Prove the row's statement (the work); the ties are given (YthkhicofakahgaaDoorTie.lean); close each card by the builder's one call (the guide's Derived/Test/ToyasCard.lean, 'card_holds'). Laid BY PROGRAM, IN A SANDBOX (cutbox-door.mjs). By AI agents, Wed Nov 11 2026. No macro, syntax, notation, axiom, sorry.
-/
import Derived.Test.YthkhicofakahgaaDoorRows
import GoSem.ClaimSeven
namespace Go.Proofs.YthkhicofakahgaaDoor
namespace Rows

/-- THE TIED CARD OF 'gambitlaw24.TargetNames'. -/
def targetNamesCard : Claim7 := { stood := { row := targetNamesRow, standIns := [], harness := (true, "1ee62effd7f58344afdbefd9af896c503ac0f273550490467264334fad8b54ad"), looks := false }, kinds := [], alts := [], laidByText := true, laidKinds := [.data, .pinned], laidTests := true, laidLooks := .later }
def TargetNamesCardSaid : Prop := Claim7.holds Tryd.pinned (.plain (OpenSpec.ofChange targetNamesSpec)) targetNamesCard

/-- THE SECOND FORM's CARD OF 'gambitlaw24.TargetNames'. -/
def targetNamesUptoCard : Claim7 := { stood := { row := targetNamesUptoRow, standIns := [], harness := (true, "1ee62effd7f58344afdbefd9af896c503ac0f273550490467264334fad8b54ad"), looks := false }, kinds := [], alts := [], laidByText := true, laidKinds := [.data, .pinned], laidTests := true, laidLooks := .later }
def TargetNamesUptoCardSaid : Prop := Claim7.holds Tryd.pinned (.plain (OpenSpec.upto targetNamesSpec)) targetNamesUptoCard
end Rows
end Go.Proofs.YthkhicofakahgaaDoor
