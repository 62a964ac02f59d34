/-
  DERIVED. GIVEN WITH THE SEED: THE CARDS: each row of YtolekmhhkopooaaGreatDoorRows.lean that lists a variable, with what it lists TIED to the program's text (the seventh form; the later family's looks); each row that meets fmt, with fmt's text TOLD by the authors' own Lean function (tested against real Go, not proved from fmt's source: count such statements apart). THE CARD IS WHAT COUNTS. Prove the row's statement (the work); the ties are given (YtolekmhhkopooaaGreatDoorTie.lean); close each card by the builder's one call (the guide's Derived/Test/ToyasCard.lean, 'card_holds'). Laid BY PROGRAM, IN A SANDBOX (cutbox-door.mjs). By AI agents, Wed Nov 11 2026. No macro, syntax, notation, axiom, sorry.
-/
import Derived.Test.YtolekmhhkopooaaGreatDoorRows
import GoSem.ClaimSeven
namespace Go.Proofs.YtolekmhhkopooaaGreatDoor
namespace Rows

/-- THE TIED CARD OF 'gambitlaw24.TargetLone'. -/
def targetLoneCard : Claim7 := { stood := { row := targetLoneRow, standIns := [], harness := (true, "a5e96cc60d58bf14c3597e384d89846ee577a9515aa1e9fb5791a76e646bd46f"), looks := false }, kinds := [], alts := [], laidByText := true, laidKinds := [.data, .pinned], laidTests := true, laidLooks := .later }
def TargetLoneCardSaid : Prop := Claim7.holds Tryz.pinned (.plain (OpenSpec.ofChange targetLoneSpec)) targetLoneCard

/-- THE TIED CARD OF 'gambitlaw24.TargetAll'. -/
def targetAllCard : Claim7 := { stood := { row := targetAllRow, standIns := [], harness := (true, "a5e96cc60d58bf14c3597e384d89846ee577a9515aa1e9fb5791a76e646bd46f"), looks := false }, kinds := [], alts := [], laidByText := true, laidKinds := [.data, .pinned], laidTests := true, laidLooks := .later }
def TargetAllCardSaid : Prop := Claim7.holds Tryz.pinned (.plain (OpenSpec.ofChange targetAllSpec)) targetAllCard

/-- THE TIED CARD OF 'gambitlaw19.LayerStamps'. -/
def layerStampsCard : Claim7 := { stood := { row := layerStampsRow, standIns := [], harness := (true, "a5e96cc60d58bf14c3597e384d89846ee577a9515aa1e9fb5791a76e646bd46f"), looks := false }, kinds := [], alts := [], laidByText := true, laidKinds := [.data, .pinned], laidTests := true, laidLooks := .later }
def LayerStampsCardSaid : Prop := Claim7.holds Tryz.pinned (.plain (OpenSpec.ofChange layerStampsSpec)) layerStampsCard

/-- THE TIED CARD OF 'gambitlaw19.LayerApplies'. -/
def layerAppliesCard : Claim7 := { stood := { row := layerAppliesRow, standIns := [], harness := (true, "a5e96cc60d58bf14c3597e384d89846ee577a9515aa1e9fb5791a76e646bd46f"), looks := false }, kinds := [], alts := [], laidByText := true, laidKinds := [.data, .pinned], laidTests := true, laidLooks := .later }
def LayerAppliesCardSaid : Prop := Claim7.holds Tryz.pinned (.plain (OpenSpec.ofChange layerAppliesSpec)) layerAppliesCard

/-- THE TIED CARD OF 'gambitlaw19.LayerOnce'. -/
def layerOnceCard : Claim7 := { stood := { row := layerOnceRow, standIns := [], harness := (true, "a5e96cc60d58bf14c3597e384d89846ee577a9515aa1e9fb5791a76e646bd46f"), looks := false }, kinds := [], alts := [], laidByText := true, laidKinds := [.data, .pinned], laidTests := true, laidLooks := .later }
def LayerOnceCardSaid : Prop := Claim7.holds Tryz.pinned (.plain (OpenSpec.ofChange layerOnceSpec)) layerOnceCard

/-- THE TIED CARD OF 'gambitlaw19.LayerRaises'. -/
def layerRaisesCard : Claim7 := { stood := { row := layerRaisesRow, standIns := [], harness := (true, "a5e96cc60d58bf14c3597e384d89846ee577a9515aa1e9fb5791a76e646bd46f"), looks := false }, kinds := [], alts := [], laidByText := true, laidKinds := [.data, .pinned], laidTests := true, laidLooks := .later }
def LayerRaisesCardSaid : Prop := Claim7.holds Tryz.pinned (.plain (OpenSpec.ofChange layerRaisesSpec)) layerRaisesCard

/-- THE TIED CARD OF 'gambitlaw19.LayerAll'. -/
def layerAllCard : Claim7 := { stood := { row := layerAllRow, standIns := [], harness := (true, "a5e96cc60d58bf14c3597e384d89846ee577a9515aa1e9fb5791a76e646bd46f"), looks := false }, kinds := [], alts := [], laidByText := true, laidKinds := [.data, .pinned], laidTests := true, laidLooks := .later }
def LayerAllCardSaid : Prop := Claim7.holds Tryz.pinned (.plain (OpenSpec.ofChange layerAllSpec)) layerAllCard

/-- THE SECOND FORM's CARD OF 'gambitlaw24.TargetLone'. -/
def targetLoneUptoCard : Claim7 := { stood := { row := targetLoneUptoRow, standIns := [], harness := (true, "a5e96cc60d58bf14c3597e384d89846ee577a9515aa1e9fb5791a76e646bd46f"), looks := false }, kinds := [], alts := [], laidByText := true, laidKinds := [.data, .pinned], laidTests := true, laidLooks := .later }
def TargetLoneUptoCardSaid : Prop := Claim7.holds Tryz.pinned (.plain (OpenSpec.upto targetLoneSpec)) targetLoneUptoCard

/-- THE SECOND FORM's CARD OF 'gambitlaw24.TargetAll'. -/
def targetAllUptoCard : Claim7 := { stood := { row := targetAllUptoRow, standIns := [], harness := (true, "a5e96cc60d58bf14c3597e384d89846ee577a9515aa1e9fb5791a76e646bd46f"), looks := false }, kinds := [], alts := [], laidByText := true, laidKinds := [.data, .pinned], laidTests := true, laidLooks := .later }
def TargetAllUptoCardSaid : Prop := Claim7.holds Tryz.pinned (.plain (OpenSpec.upto targetAllSpec)) targetAllUptoCard

/-- THE SECOND FORM's CARD OF 'gambitlaw19.LayerStamps'. -/
def layerStampsUptoCard : Claim7 := { stood := { row := layerStampsUptoRow, standIns := [], harness := (true, "a5e96cc60d58bf14c3597e384d89846ee577a9515aa1e9fb5791a76e646bd46f"), looks := false }, kinds := [], alts := [], laidByText := true, laidKinds := [.data, .pinned], laidTests := true, laidLooks := .later }
def LayerStampsUptoCardSaid : Prop := Claim7.holds Tryz.pinned (.plain (OpenSpec.upto layerStampsSpec)) layerStampsUptoCard

/-- THE SECOND FORM's CARD OF 'gambitlaw19.LayerApplies'. -/
def layerAppliesUptoCard : Claim7 := { stood := { row := layerAppliesUptoRow, standIns := [], harness := (true, "a5e96cc60d58bf14c3597e384d89846ee577a9515aa1e9fb5791a76e646bd46f"), looks := false }, kinds := [], alts := [], laidByText := true, laidKinds := [.data, .pinned], laidTests := true, laidLooks := .later }
def LayerAppliesUptoCardSaid : Prop := Claim7.holds Tryz.pinned (.plain (OpenSpec.upto layerAppliesSpec)) layerAppliesUptoCard

/-- THE SECOND FORM's CARD OF 'gambitlaw19.LayerOnce'. -/
def layerOnceUptoCard : Claim7 := { stood := { row := layerOnceUptoRow, standIns := [], harness := (true, "a5e96cc60d58bf14c3597e384d89846ee577a9515aa1e9fb5791a76e646bd46f"), looks := false }, kinds := [], alts := [], laidByText := true, laidKinds := [.data, .pinned], laidTests := true, laidLooks := .later }
def LayerOnceUptoCardSaid : Prop := Claim7.holds Tryz.pinned (.plain (OpenSpec.upto layerOnceSpec)) layerOnceUptoCard

/-- THE SECOND FORM's CARD OF 'gambitlaw19.LayerRaises'. -/
def layerRaisesUptoCard : Claim7 := { stood := { row := layerRaisesUptoRow, standIns := [], harness := (true, "a5e96cc60d58bf14c3597e384d89846ee577a9515aa1e9fb5791a76e646bd46f"), looks := false }, kinds := [], alts := [], laidByText := true, laidKinds := [.data, .pinned], laidTests := true, laidLooks := .later }
def LayerRaisesUptoCardSaid : Prop := Claim7.holds Tryz.pinned (.plain (OpenSpec.upto layerRaisesSpec)) layerRaisesUptoCard

/-- THE SECOND FORM's CARD OF 'gambitlaw19.LayerAll'. -/
def layerAllUptoCard : Claim7 := { stood := { row := layerAllUptoRow, standIns := [], harness := (true, "a5e96cc60d58bf14c3597e384d89846ee577a9515aa1e9fb5791a76e646bd46f"), looks := false }, kinds := [], alts := [], laidByText := true, laidKinds := [.data, .pinned], laidTests := true, laidLooks := .later }
def LayerAllUptoCardSaid : Prop := Claim7.holds Tryz.pinned (.plain (OpenSpec.upto layerAllSpec)) layerAllUptoCard
end Rows
end Go.Proofs.YtolekmhhkopooaaGreatDoor
