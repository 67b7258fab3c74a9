/-
  DERIVED. GIVEN WITH THE SEED: THE CARDS: each row of YtgeaijnelopkbaaDoorRows.lean that lists a variable, with what it lists TIED to the program's text (the seventh form; the later family's looks); each row that meets fmt, with fmt's text TOLD by the authors' own Lean function (tested against real Go, not proved from fmt's source: count such statements apart). THE CARD IS WHAT COUNTS. Prove the row's statement (the work); the ties are given (YtgeaijnelopkbaaDoorTie.lean); close each card by the builder's one call (the guide's Derived/Test/ToyasCard.lean, 'card_holds'). Laid BY PROGRAM, IN A SANDBOX (cutbox-door.mjs). By AI agents, Wed Nov 11 2026. No macro, syntax, notation, axiom, sorry.
-/
import Derived.Test.YtgeaijnelopkbaaDoorRows
import GoSem.ClaimSeven
namespace Go.Proofs.YtgeaijnelopkbaaDoor
namespace Rows

/-- THE TIED CARD OF 'quillworklaw17.ValueSays'. -/
def valueSaysCard : Claim7 := { stood := { row := valueSaysRow, standIns := [], harness := (true, "fc0c2c2959919e23dea753086602139356a3570e87201568ad55ba1c13ee6f85"), looks := false }, kinds := [], alts := [], laidByText := true, laidKinds := [.data, .pinned], laidTests := true, laidLooks := .later }
def ValueSaysCardSaid : Prop := Claim7.holds Tryd.pinned (.plain (OpenSpec.ofChange valueSaysSpec)) valueSaysCard

/-- THE TIED CARD OF 'quillworklaw17.ValueTrees'. -/
def valueTreesCard : Claim7 := { stood := { row := valueTreesRow, standIns := [], harness := (true, "fc0c2c2959919e23dea753086602139356a3570e87201568ad55ba1c13ee6f85"), looks := false }, kinds := [], alts := [], laidByText := true, laidKinds := [.data, .pinned], laidTests := true, laidLooks := .later }
def ValueTreesCardSaid : Prop := Claim7.holds Tryd.pinned (.plain (OpenSpec.ofChange valueTreesSpec)) valueTreesCard

/-- THE TIED CARD OF 'quillworklaw17.ValueOver'. -/
def valueOverCard : Claim7 := { stood := { row := valueOverRow, standIns := [], harness := (true, "fc0c2c2959919e23dea753086602139356a3570e87201568ad55ba1c13ee6f85"), looks := false }, kinds := [], alts := [], laidByText := true, laidKinds := [.data, .pinned], laidTests := true, laidLooks := .later }
def ValueOverCardSaid : Prop := Claim7.holds Tryd.pinned (.plain (OpenSpec.ofChange valueOverSpec)) valueOverCard

/-- THE TIED CARD OF 'quillworklaw17.ValueWraps'. -/
def valueWrapsCard : Claim7 := { stood := { row := valueWrapsRow, standIns := [], harness := (true, "fc0c2c2959919e23dea753086602139356a3570e87201568ad55ba1c13ee6f85"), looks := false }, kinds := [], alts := [], laidByText := true, laidKinds := [.data, .pinned], laidTests := true, laidLooks := .later }
def ValueWrapsCardSaid : Prop := Claim7.holds Tryd.pinned (.plain (OpenSpec.ofChange valueWrapsSpec)) valueWrapsCard

/-- THE TIED CARD OF 'quillworklaw17.ValueMakes'. -/
def valueMakesCard : Claim7 := { stood := { row := valueMakesRow, standIns := [], harness := (true, "fc0c2c2959919e23dea753086602139356a3570e87201568ad55ba1c13ee6f85"), looks := false }, kinds := [], alts := [], laidByText := true, laidKinds := [.data, .pinned], laidTests := true, laidLooks := .later }
def ValueMakesCardSaid : Prop := Claim7.holds Tryd.pinned (.plain (OpenSpec.ofChange valueMakesSpec)) valueMakesCard

/-- THE SECOND FORM's CARD OF 'quillworklaw17.ValueSays'. -/
def valueSaysUptoCard : Claim7 := { stood := { row := valueSaysUptoRow, standIns := [], harness := (true, "fc0c2c2959919e23dea753086602139356a3570e87201568ad55ba1c13ee6f85"), looks := false }, kinds := [], alts := [], laidByText := true, laidKinds := [.data, .pinned], laidTests := true, laidLooks := .later }
def ValueSaysUptoCardSaid : Prop := Claim7.holds Tryd.pinned (.plain (OpenSpec.upto valueSaysSpec)) valueSaysUptoCard

/-- THE SECOND FORM's CARD OF 'quillworklaw17.ValueTrees'. -/
def valueTreesUptoCard : Claim7 := { stood := { row := valueTreesUptoRow, standIns := [], harness := (true, "fc0c2c2959919e23dea753086602139356a3570e87201568ad55ba1c13ee6f85"), looks := false }, kinds := [], alts := [], laidByText := true, laidKinds := [.data, .pinned], laidTests := true, laidLooks := .later }
def ValueTreesUptoCardSaid : Prop := Claim7.holds Tryd.pinned (.plain (OpenSpec.upto valueTreesSpec)) valueTreesUptoCard

/-- THE SECOND FORM's CARD OF 'quillworklaw17.ValueOver'. -/
def valueOverUptoCard : Claim7 := { stood := { row := valueOverUptoRow, standIns := [], harness := (true, "fc0c2c2959919e23dea753086602139356a3570e87201568ad55ba1c13ee6f85"), looks := false }, kinds := [], alts := [], laidByText := true, laidKinds := [.data, .pinned], laidTests := true, laidLooks := .later }
def ValueOverUptoCardSaid : Prop := Claim7.holds Tryd.pinned (.plain (OpenSpec.upto valueOverSpec)) valueOverUptoCard

/-- THE SECOND FORM's CARD OF 'quillworklaw17.ValueWraps'. -/
def valueWrapsUptoCard : Claim7 := { stood := { row := valueWrapsUptoRow, standIns := [], harness := (true, "fc0c2c2959919e23dea753086602139356a3570e87201568ad55ba1c13ee6f85"), looks := false }, kinds := [], alts := [], laidByText := true, laidKinds := [.data, .pinned], laidTests := true, laidLooks := .later }
def ValueWrapsUptoCardSaid : Prop := Claim7.holds Tryd.pinned (.plain (OpenSpec.upto valueWrapsSpec)) valueWrapsUptoCard

/-- THE SECOND FORM's CARD OF 'quillworklaw17.ValueMakes'. -/
def valueMakesUptoCard : Claim7 := { stood := { row := valueMakesUptoRow, standIns := [], harness := (true, "fc0c2c2959919e23dea753086602139356a3570e87201568ad55ba1c13ee6f85"), looks := false }, kinds := [], alts := [], laidByText := true, laidKinds := [.data, .pinned], laidTests := true, laidLooks := .later }
def ValueMakesUptoCardSaid : Prop := Claim7.holds Tryd.pinned (.plain (OpenSpec.upto valueMakesSpec)) valueMakesUptoCard
end Rows
end Go.Proofs.YtgeaijnelopkbaaDoor
