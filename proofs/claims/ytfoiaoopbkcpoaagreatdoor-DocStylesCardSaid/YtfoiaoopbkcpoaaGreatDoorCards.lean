/-
  DERIVED. GIVEN WITH THE SEED: THE CARDS: each row of YtfoiaoopbkcpoaaGreatDoorRows.lean that lists a variable, with what it lists TIED to the program's text (the seventh form; the later family's looks); each row that meets fmt, with fmt's text TOLD by the authors' own Lean function (tested against real Go, not proved from fmt's source: count such statements apart). THE CARD IS WHAT COUNTS. Prove the row's statement (the work); the ties are given (YtfoiaoopbkcpoaaGreatDoorTie.lean); close each card by the builder's one call (the guide's Derived/Test/ToyasCard.lean, 'card_holds'). Laid BY PROGRAM, IN A SANDBOX (cutbox-door.mjs). By AI agents, Wed Nov 11 2026. No macro, syntax, notation, axiom, sorry.
-/
import Derived.Test.YtfoiaoopbkcpoaaGreatDoorRows
import GoSem.ClaimSeven
namespace Go.Proofs.YtfoiaoopbkcpoaaGreatDoor
namespace Rows

/-- THE TIED CARD OF 'quillworklaw07.DocPlaces'. -/
def docPlacesCard : Claim7 := { stood := { row := docPlacesRow, standIns := [], harness := (true, "4b9706ef7a026ab6f0e0cad115ab693963c34c6af47abf37a96e87f381fc1f01"), looks := false }, kinds := [], alts := [], laidByText := true, laidKinds := [.data, .pinned], laidTests := true, laidLooks := .later }
def DocPlacesCardSaid : Prop := Claim7.holds Tryz.pinned (.plain (OpenSpec.ofChange docPlacesSpec)) docPlacesCard

/-- THE TIED CARD OF 'quillworklaw07.DocSets'. -/
def docSetsCard : Claim7 := { stood := { row := docSetsRow, standIns := [], harness := (true, "4b9706ef7a026ab6f0e0cad115ab693963c34c6af47abf37a96e87f381fc1f01"), looks := false }, kinds := [], alts := [], laidByText := true, laidKinds := [.data, .pinned], laidTests := true, laidLooks := .later }
def DocSetsCardSaid : Prop := Claim7.holds Tryz.pinned (.plain (OpenSpec.ofChange docSetsSpec)) docSetsCard

/-- THE TIED CARD OF 'quillworklaw07.DocStyles'. -/
def docStylesCard : Claim7 := { stood := { row := docStylesRow, standIns := [], harness := (true, "4b9706ef7a026ab6f0e0cad115ab693963c34c6af47abf37a96e87f381fc1f01"), looks := false }, kinds := [], alts := [], laidByText := true, laidKinds := [.data, .pinned], laidTests := true, laidLooks := .later }
def DocStylesCardSaid : Prop := Claim7.holds Tryz.pinned (.plain (OpenSpec.ofChange docStylesSpec)) docStylesCard

/-- THE TIED CARD OF 'quillworklaw07.DocSame'. -/
def docSameCard : Claim7 := { stood := { row := docSameRow, standIns := [], harness := (true, "4b9706ef7a026ab6f0e0cad115ab693963c34c6af47abf37a96e87f381fc1f01"), looks := false }, kinds := [], alts := [], laidByText := true, laidKinds := [.data, .pinned], laidTests := true, laidLooks := .later }
def DocSameCardSaid : Prop := Claim7.holds Tryz.pinned (.plain (OpenSpec.ofChange docSameSpec)) docSameCard

/-- THE TIED CARD OF 'quillworklaw07.DocParts'. -/
def docPartsCard : Claim7 := { stood := { row := docPartsRow, standIns := [], harness := (true, "4b9706ef7a026ab6f0e0cad115ab693963c34c6af47abf37a96e87f381fc1f01"), looks := false }, kinds := [], alts := [], laidByText := true, laidKinds := [.data, .pinned], laidTests := true, laidLooks := .later }
def DocPartsCardSaid : Prop := Claim7.holds Tryz.pinned (.plain (OpenSpec.ofChange docPartsSpec)) docPartsCard

/-- THE TIED CARD OF 'quillworklaw07.DocCuts'. -/
def docCutsCard : Claim7 := { stood := { row := docCutsRow, standIns := [], harness := (true, "4b9706ef7a026ab6f0e0cad115ab693963c34c6af47abf37a96e87f381fc1f01"), looks := false }, kinds := [], alts := [], laidByText := true, laidKinds := [.data, .pinned], laidTests := true, laidLooks := .later }
def DocCutsCardSaid : Prop := Claim7.holds Tryz.pinned (.plain (OpenSpec.ofChange docCutsSpec)) docCutsCard

/-- THE TIED CARD OF 'quillworklaw07.DocBack'. -/
def docBackCard : Claim7 := { stood := { row := docBackRow, standIns := [], harness := (true, "4b9706ef7a026ab6f0e0cad115ab693963c34c6af47abf37a96e87f381fc1f01"), looks := false }, kinds := [], alts := [], laidByText := true, laidKinds := [.data, .pinned], laidTests := true, laidLooks := .later }
def DocBackCardSaid : Prop := Claim7.holds Tryz.pinned (.plain (OpenSpec.ofChange docBackSpec)) docBackCard

/-- THE SECOND FORM's CARD OF 'quillworklaw07.DocPlaces'. -/
def docPlacesUptoCard : Claim7 := { stood := { row := docPlacesUptoRow, standIns := [], harness := (true, "4b9706ef7a026ab6f0e0cad115ab693963c34c6af47abf37a96e87f381fc1f01"), looks := false }, kinds := [], alts := [], laidByText := true, laidKinds := [.data, .pinned], laidTests := true, laidLooks := .later }
def DocPlacesUptoCardSaid : Prop := Claim7.holds Tryz.pinned (.plain (OpenSpec.upto docPlacesSpec)) docPlacesUptoCard

/-- THE SECOND FORM's CARD OF 'quillworklaw07.DocSets'. -/
def docSetsUptoCard : Claim7 := { stood := { row := docSetsUptoRow, standIns := [], harness := (true, "4b9706ef7a026ab6f0e0cad115ab693963c34c6af47abf37a96e87f381fc1f01"), looks := false }, kinds := [], alts := [], laidByText := true, laidKinds := [.data, .pinned], laidTests := true, laidLooks := .later }
def DocSetsUptoCardSaid : Prop := Claim7.holds Tryz.pinned (.plain (OpenSpec.upto docSetsSpec)) docSetsUptoCard

/-- THE SECOND FORM's CARD OF 'quillworklaw07.DocStyles'. -/
def docStylesUptoCard : Claim7 := { stood := { row := docStylesUptoRow, standIns := [], harness := (true, "4b9706ef7a026ab6f0e0cad115ab693963c34c6af47abf37a96e87f381fc1f01"), looks := false }, kinds := [], alts := [], laidByText := true, laidKinds := [.data, .pinned], laidTests := true, laidLooks := .later }
def DocStylesUptoCardSaid : Prop := Claim7.holds Tryz.pinned (.plain (OpenSpec.upto docStylesSpec)) docStylesUptoCard

/-- THE SECOND FORM's CARD OF 'quillworklaw07.DocSame'. -/
def docSameUptoCard : Claim7 := { stood := { row := docSameUptoRow, standIns := [], harness := (true, "4b9706ef7a026ab6f0e0cad115ab693963c34c6af47abf37a96e87f381fc1f01"), looks := false }, kinds := [], alts := [], laidByText := true, laidKinds := [.data, .pinned], laidTests := true, laidLooks := .later }
def DocSameUptoCardSaid : Prop := Claim7.holds Tryz.pinned (.plain (OpenSpec.upto docSameSpec)) docSameUptoCard

/-- THE SECOND FORM's CARD OF 'quillworklaw07.DocParts'. -/
def docPartsUptoCard : Claim7 := { stood := { row := docPartsUptoRow, standIns := [], harness := (true, "4b9706ef7a026ab6f0e0cad115ab693963c34c6af47abf37a96e87f381fc1f01"), looks := false }, kinds := [], alts := [], laidByText := true, laidKinds := [.data, .pinned], laidTests := true, laidLooks := .later }
def DocPartsUptoCardSaid : Prop := Claim7.holds Tryz.pinned (.plain (OpenSpec.upto docPartsSpec)) docPartsUptoCard

/-- THE SECOND FORM's CARD OF 'quillworklaw07.DocCuts'. -/
def docCutsUptoCard : Claim7 := { stood := { row := docCutsUptoRow, standIns := [], harness := (true, "4b9706ef7a026ab6f0e0cad115ab693963c34c6af47abf37a96e87f381fc1f01"), looks := false }, kinds := [], alts := [], laidByText := true, laidKinds := [.data, .pinned], laidTests := true, laidLooks := .later }
def DocCutsUptoCardSaid : Prop := Claim7.holds Tryz.pinned (.plain (OpenSpec.upto docCutsSpec)) docCutsUptoCard

/-- THE SECOND FORM's CARD OF 'quillworklaw07.DocBack'. -/
def docBackUptoCard : Claim7 := { stood := { row := docBackUptoRow, standIns := [], harness := (true, "4b9706ef7a026ab6f0e0cad115ab693963c34c6af47abf37a96e87f381fc1f01"), looks := false }, kinds := [], alts := [], laidByText := true, laidKinds := [.data, .pinned], laidTests := true, laidLooks := .later }
def DocBackUptoCardSaid : Prop := Claim7.holds Tryz.pinned (.plain (OpenSpec.upto docBackSpec)) docBackUptoCard
end Rows
end Go.Proofs.YtfoiaoopbkcpoaaGreatDoor
