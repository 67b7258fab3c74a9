/-
  DERIVED. GIVEN WITH THE SEED: THE CARDS: each row of YtjpgffihafknlaaGreatDoorRows.lean that lists a variable, with what it lists TIED to the program's text (the seventh form; the later family's looks); each row that meets fmt, with fmt's text TOLD by the authors' own Lean function (tested against real Go, not proved from fmt's source: count such statements apart). THE CARD IS WHAT COUNTS. Prove the row's statement (the work); the ties are given (YtjpgffihafknlaaGreatDoorTie.lean); close each card by the builder's one call (the guide's Derived/Test/ToyasCard.lean, 'card_holds'). Laid BY PROGRAM, IN A SANDBOX (cutbox-door.mjs). By AI agents, Wed Nov 11 2026. No macro, syntax, notation, axiom, sorry.
-/
import Derived.Test.YtjpgffihafknlaaGreatDoorRows
import GoSem.ClaimSeven
namespace Go.Proofs.YtjpgffihafknlaaGreatDoor
namespace Rows

/-- THE TIED CARD OF 'quillworklaw18.ViewLines'. -/
def viewLinesCard : Claim7 := { stood := { row := viewLinesRow, standIns := [], harness := (true, "76d3eec919a36195a9fdef37264c8599e621972f0a2fbd8b386aa60f0577ffc0"), looks := false }, kinds := [], alts := [], laidByText := true, laidKinds := [.data, .pinned], laidTests := true, laidLooks := .later }
def ViewLinesCardSaid : Prop := Claim7.holds Tryz.pinned (.plain (OpenSpec.ofChange viewLinesSpec)) viewLinesCard

/-- THE TIED CARD OF 'quillworklaw18.ViewBeside'. -/
def viewBesideCard : Claim7 := { stood := { row := viewBesideRow, standIns := [], harness := (true, "76d3eec919a36195a9fdef37264c8599e621972f0a2fbd8b386aa60f0577ffc0"), looks := false }, kinds := [], alts := [], laidByText := true, laidKinds := [.data, .pinned], laidTests := true, laidLooks := .later }
def ViewBesideCardSaid : Prop := Claim7.holds Tryz.pinned (.plain (OpenSpec.ofChange viewBesideSpec)) viewBesideCard

/-- THE TIED CARD OF 'quillworklaw18.ViewPlaces'. -/
def viewPlacesCard : Claim7 := { stood := { row := viewPlacesRow, standIns := [], harness := (true, "76d3eec919a36195a9fdef37264c8599e621972f0a2fbd8b386aa60f0577ffc0"), looks := false }, kinds := [], alts := [], laidByText := true, laidKinds := [.data, .pinned], laidTests := true, laidLooks := .later }
def ViewPlacesCardSaid : Prop := Claim7.holds Tryz.pinned (.plain (OpenSpec.ofChange viewPlacesSpec)) viewPlacesCard

/-- THE TIED CARD OF 'quillworklaw18.ViewMay'. -/
def viewMayCard : Claim7 := { stood := { row := viewMayRow, standIns := [], harness := (true, "76d3eec919a36195a9fdef37264c8599e621972f0a2fbd8b386aa60f0577ffc0"), looks := false }, kinds := [], alts := [], laidByText := true, laidKinds := [.data, .pinned], laidTests := true, laidLooks := .later }
def ViewMayCardSaid : Prop := Claim7.holds Tryz.pinned (.plain (OpenSpec.ofChange viewMaySpec)) viewMayCard

/-- THE TIED CARD OF 'quillworklaw18.ViewOrder'. -/
def viewOrderCard : Claim7 := { stood := { row := viewOrderRow, standIns := [], harness := (true, "76d3eec919a36195a9fdef37264c8599e621972f0a2fbd8b386aa60f0577ffc0"), looks := false }, kinds := [], alts := [], laidByText := true, laidKinds := [.data, .pinned], laidTests := true, laidLooks := .later }
def ViewOrderCardSaid : Prop := Claim7.holds Tryz.pinned (.plain (OpenSpec.ofChange viewOrderSpec)) viewOrderCard

/-- THE TIED CARD OF 'quillworklaw19.RenderBack'. -/
def renderBackCard : Claim7 := { stood := { row := renderBackRow, standIns := [], harness := (true, "76d3eec919a36195a9fdef37264c8599e621972f0a2fbd8b386aa60f0577ffc0"), looks := false }, kinds := [], alts := [], laidByText := true, laidKinds := [.data, .pinned], laidTests := true, laidLooks := .later }
def RenderBackCardSaid : Prop := Claim7.holds Tryz.pinned (.plain (OpenSpec.ofChange renderBackSpec)) renderBackCard

/-- THE SECOND FORM's CARD OF 'quillworklaw18.ViewLines'. -/
def viewLinesUptoCard : Claim7 := { stood := { row := viewLinesUptoRow, standIns := [], harness := (true, "76d3eec919a36195a9fdef37264c8599e621972f0a2fbd8b386aa60f0577ffc0"), looks := false }, kinds := [], alts := [], laidByText := true, laidKinds := [.data, .pinned], laidTests := true, laidLooks := .later }
def ViewLinesUptoCardSaid : Prop := Claim7.holds Tryz.pinned (.plain (OpenSpec.upto viewLinesSpec)) viewLinesUptoCard

/-- THE SECOND FORM's CARD OF 'quillworklaw18.ViewBeside'. -/
def viewBesideUptoCard : Claim7 := { stood := { row := viewBesideUptoRow, standIns := [], harness := (true, "76d3eec919a36195a9fdef37264c8599e621972f0a2fbd8b386aa60f0577ffc0"), looks := false }, kinds := [], alts := [], laidByText := true, laidKinds := [.data, .pinned], laidTests := true, laidLooks := .later }
def ViewBesideUptoCardSaid : Prop := Claim7.holds Tryz.pinned (.plain (OpenSpec.upto viewBesideSpec)) viewBesideUptoCard

/-- THE SECOND FORM's CARD OF 'quillworklaw18.ViewPlaces'. -/
def viewPlacesUptoCard : Claim7 := { stood := { row := viewPlacesUptoRow, standIns := [], harness := (true, "76d3eec919a36195a9fdef37264c8599e621972f0a2fbd8b386aa60f0577ffc0"), looks := false }, kinds := [], alts := [], laidByText := true, laidKinds := [.data, .pinned], laidTests := true, laidLooks := .later }
def ViewPlacesUptoCardSaid : Prop := Claim7.holds Tryz.pinned (.plain (OpenSpec.upto viewPlacesSpec)) viewPlacesUptoCard

/-- THE SECOND FORM's CARD OF 'quillworklaw18.ViewMay'. -/
def viewMayUptoCard : Claim7 := { stood := { row := viewMayUptoRow, standIns := [], harness := (true, "76d3eec919a36195a9fdef37264c8599e621972f0a2fbd8b386aa60f0577ffc0"), looks := false }, kinds := [], alts := [], laidByText := true, laidKinds := [.data, .pinned], laidTests := true, laidLooks := .later }
def ViewMayUptoCardSaid : Prop := Claim7.holds Tryz.pinned (.plain (OpenSpec.upto viewMaySpec)) viewMayUptoCard

/-- THE SECOND FORM's CARD OF 'quillworklaw18.ViewOrder'. -/
def viewOrderUptoCard : Claim7 := { stood := { row := viewOrderUptoRow, standIns := [], harness := (true, "76d3eec919a36195a9fdef37264c8599e621972f0a2fbd8b386aa60f0577ffc0"), looks := false }, kinds := [], alts := [], laidByText := true, laidKinds := [.data, .pinned], laidTests := true, laidLooks := .later }
def ViewOrderUptoCardSaid : Prop := Claim7.holds Tryz.pinned (.plain (OpenSpec.upto viewOrderSpec)) viewOrderUptoCard

/-- THE SECOND FORM's CARD OF 'quillworklaw19.RenderBack'. -/
def renderBackUptoCard : Claim7 := { stood := { row := renderBackUptoRow, standIns := [], harness := (true, "76d3eec919a36195a9fdef37264c8599e621972f0a2fbd8b386aa60f0577ffc0"), looks := false }, kinds := [], alts := [], laidByText := true, laidKinds := [.data, .pinned], laidTests := true, laidLooks := .later }
def RenderBackUptoCardSaid : Prop := Claim7.holds Tryz.pinned (.plain (OpenSpec.upto renderBackSpec)) renderBackUptoCard
end Rows
end Go.Proofs.YtjpgffihafknlaaGreatDoor
