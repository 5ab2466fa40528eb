/-
  DERIVED. GIVEN WITH THE SEED: THE CARDS: each row of YtaphnbaiamnfpaaDoorRows.lean that lists a variable, with what it lists TIED to the program's text (the seventh form; the later family's looks); each row that meets fmt, with fmt's text TOLD by the authors' own Lean function (tested against real Go, not proved from fmt's source: count such statements apart). THE CARD IS WHAT COUNTS. Prove the row's statement (the work); the ties are given (YtaphnbaiamnfpaaDoorTie.lean); close each card by the builder's one call (the guide's Derived/Test/ToyasCard.lean, 'card_holds'). Laid BY PROGRAM, IN A SANDBOX (cutbox-door.mjs). By AI agents, Wed Nov 11 2026. No macro, syntax, notation, axiom, sorry.
-/
import Derived.Test.YtaphnbaiamnfpaaDoorRows
import GoSem.ClaimSeven
namespace Go.Proofs.YtaphnbaiamnfpaaDoor
namespace Rows

/-- THE TIED CARD OF 'sortilegelaw07.PrinterRights'. -/
def printerRightsCard : Claim7 := { stood := { row := printerRightsRow, standIns := [], harness := (true, "a2d75ce4b53743f7a3e88b778fed4b3fc2e58a33b10361903807f4ba3dfd4102"), looks := true }, kinds := [], alts := [], laidByText := true, laidKinds := [.data, .data, .data], laidTests := true, laidLooks := .later }
def PrinterRightsCardSaid : Prop := Claim7.holds Tryd.pinned (.plain (OpenSpec.ofChange printerRightsSpec)) printerRightsCard

/-- THE TIED CARD OF 'sortilegelaw07.PrinterExprs'. -/
def printerExprsCard : Claim7 := { stood := { row := printerExprsRow, standIns := [], harness := (true, "a2d75ce4b53743f7a3e88b778fed4b3fc2e58a33b10361903807f4ba3dfd4102"), looks := true }, kinds := [], alts := [], laidByText := true, laidKinds := [.data, .data, .data], laidTests := true, laidLooks := .later }
def PrinterExprsCardSaid : Prop := Claim7.holds Tryd.pinned (.plain (OpenSpec.ofChange printerExprsSpec)) printerExprsCard

/-- THE TIED CARD OF 'sortilegelaw07.PrinterPlaces'. -/
def printerPlacesCard : Claim7 := { stood := { row := printerPlacesRow, standIns := [], harness := (true, "a2d75ce4b53743f7a3e88b778fed4b3fc2e58a33b10361903807f4ba3dfd4102"), looks := true }, kinds := [], alts := [], laidByText := true, laidKinds := [.data, .data, .data], laidTests := true, laidLooks := .later }
def PrinterPlacesCardSaid : Prop := Claim7.holds Tryd.pinned (.plain (OpenSpec.ofChange printerPlacesSpec)) printerPlacesCard

/-- THE TIED CARD OF 'sortilegelaw07.PrinterLean'. -/
def printerLeanCard : Claim7 := { stood := { row := printerLeanRow, standIns := [], harness := (true, "a2d75ce4b53743f7a3e88b778fed4b3fc2e58a33b10361903807f4ba3dfd4102"), looks := true }, kinds := [], alts := [], laidByText := true, laidKinds := [.data, .data, .data], laidTests := true, laidLooks := .later }
def PrinterLeanCardSaid : Prop := Claim7.holds Tryd.pinned (.plain (OpenSpec.ofChange printerLeanSpec)) printerLeanCard

/-- THE SECOND FORM's CARD OF 'sortilegelaw07.PrinterRights'. -/
def printerRightsUptoCard : Claim7 := { stood := { row := printerRightsUptoRow, standIns := [], harness := (true, "a2d75ce4b53743f7a3e88b778fed4b3fc2e58a33b10361903807f4ba3dfd4102"), looks := true }, kinds := [], alts := [], laidByText := true, laidKinds := [.data, .data, .data], laidTests := true, laidLooks := .later }
def PrinterRightsUptoCardSaid : Prop := Claim7.holds Tryd.pinned (.plain (OpenSpec.upto printerRightsSpec)) printerRightsUptoCard

/-- THE SECOND FORM's CARD OF 'sortilegelaw07.PrinterExprs'. -/
def printerExprsUptoCard : Claim7 := { stood := { row := printerExprsUptoRow, standIns := [], harness := (true, "a2d75ce4b53743f7a3e88b778fed4b3fc2e58a33b10361903807f4ba3dfd4102"), looks := true }, kinds := [], alts := [], laidByText := true, laidKinds := [.data, .data, .data], laidTests := true, laidLooks := .later }
def PrinterExprsUptoCardSaid : Prop := Claim7.holds Tryd.pinned (.plain (OpenSpec.upto printerExprsSpec)) printerExprsUptoCard

/-- THE SECOND FORM's CARD OF 'sortilegelaw07.PrinterPlaces'. -/
def printerPlacesUptoCard : Claim7 := { stood := { row := printerPlacesUptoRow, standIns := [], harness := (true, "a2d75ce4b53743f7a3e88b778fed4b3fc2e58a33b10361903807f4ba3dfd4102"), looks := true }, kinds := [], alts := [], laidByText := true, laidKinds := [.data, .data, .data], laidTests := true, laidLooks := .later }
def PrinterPlacesUptoCardSaid : Prop := Claim7.holds Tryd.pinned (.plain (OpenSpec.upto printerPlacesSpec)) printerPlacesUptoCard

/-- THE SECOND FORM's CARD OF 'sortilegelaw07.PrinterLean'. -/
def printerLeanUptoCard : Claim7 := { stood := { row := printerLeanUptoRow, standIns := [], harness := (true, "a2d75ce4b53743f7a3e88b778fed4b3fc2e58a33b10361903807f4ba3dfd4102"), looks := true }, kinds := [], alts := [], laidByText := true, laidKinds := [.data, .data, .data], laidTests := true, laidLooks := .later }
def PrinterLeanUptoCardSaid : Prop := Claim7.holds Tryd.pinned (.plain (OpenSpec.upto printerLeanSpec)) printerLeanUptoCard
end Rows
end Go.Proofs.YtaphnbaiamnfpaaDoor
