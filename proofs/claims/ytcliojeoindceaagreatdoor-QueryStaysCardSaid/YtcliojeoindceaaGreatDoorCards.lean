/-
  DERIVED. GIVEN WITH THE SEED: THE CARDS: each row of YtcliojeoindceaaGreatDoorRows.lean that lists a variable, with what it lists TIED to the program's text (the seventh form; the later family's looks); each row that meets fmt, with fmt's text TOLD by the authors' own Lean function (tested against real Go, not proved from fmt's source: count such statements apart). THE CARD IS WHAT COUNTS. Prove the row's statement (the work); the ties are given (YtcliojeoindceaaGreatDoorTie.lean); close each card by the builder's one call (the guide's Derived/Test/ToyasCard.lean, 'card_holds'). Laid BY PROGRAM, IN A SANDBOX (cutbox-door.mjs). By AI agents, Wed Nov 11 2026. No macro, syntax, notation, axiom, sorry.
-/
import Derived.Test.YtcliojeoindceaaGreatDoorRows
import GoSem.ClaimSeven
namespace Go.Proofs.YtcliojeoindceaaGreatDoor
namespace Rows

/-- THE TIED CARD OF 'quillworklaw26.QueryDoes'. -/
def queryDoesCard : Claim7 := { stood := { row := queryDoesRow, standIns := [], harness := (true, "28499599970758f98bbd8a2738aff815c4f86616ff21c55d6fe4c293a6d532d6"), looks := false }, kinds := [], alts := [], laidByText := true, laidKinds := [.data, .pinned], laidTests := true, laidLooks := .later }
def QueryDoesCardSaid : Prop := Claim7.holds Tryz.pinned (.plain (OpenSpec.ofChange queryDoesSpec)) queryDoesCard

/-- THE TIED CARD OF 'quillworklaw26.QueryTells'. -/
def queryTellsCard : Claim7 := { stood := { row := queryTellsRow, standIns := [], harness := (true, "28499599970758f98bbd8a2738aff815c4f86616ff21c55d6fe4c293a6d532d6"), looks := false }, kinds := [], alts := [], laidByText := true, laidKinds := [.data, .pinned], laidTests := true, laidLooks := .later }
def QueryTellsCardSaid : Prop := Claim7.holds Tryz.pinned (.plain (OpenSpec.ofChange queryTellsSpec)) queryTellsCard

/-- THE TIED CARD OF 'quillworklaw26.QueryToggles'. -/
def queryTogglesCard : Claim7 := { stood := { row := queryTogglesRow, standIns := [], harness := (true, "28499599970758f98bbd8a2738aff815c4f86616ff21c55d6fe4c293a6d532d6"), looks := false }, kinds := [], alts := [], laidByText := true, laidKinds := [.data, .pinned], laidTests := true, laidLooks := .later }
def QueryTogglesCardSaid : Prop := Claim7.holds Tryz.pinned (.plain (OpenSpec.ofChange queryTogglesSpec)) queryTogglesCard

/-- THE TIED CARD OF 'quillworklaw26.QueryNames'. -/
def queryNamesCard : Claim7 := { stood := { row := queryNamesRow, standIns := [], harness := (true, "28499599970758f98bbd8a2738aff815c4f86616ff21c55d6fe4c293a6d532d6"), looks := false }, kinds := [], alts := [], laidByText := true, laidKinds := [.data, .pinned], laidTests := true, laidLooks := .later }
def QueryNamesCardSaid : Prop := Claim7.holds Tryz.pinned (.plain (OpenSpec.ofChange queryNamesSpec)) queryNamesCard

/-- THE TIED CARD OF 'quillworklaw26.QueryFinds'. -/
def queryFindsCard : Claim7 := { stood := { row := queryFindsRow, standIns := [], harness := (true, "28499599970758f98bbd8a2738aff815c4f86616ff21c55d6fe4c293a6d532d6"), looks := false }, kinds := [], alts := [], laidByText := true, laidKinds := [.data, .pinned], laidTests := true, laidLooks := .later }
def QueryFindsCardSaid : Prop := Claim7.holds Tryz.pinned (.plain (OpenSpec.ofChange queryFindsSpec)) queryFindsCard

/-- THE TIED CARD OF 'quillworklaw26.QueryStays'. -/
def queryStaysCard : Claim7 := { stood := { row := queryStaysRow, standIns := [], harness := (true, "28499599970758f98bbd8a2738aff815c4f86616ff21c55d6fe4c293a6d532d6"), looks := false }, kinds := [], alts := [], laidByText := true, laidKinds := [.data, .pinned], laidTests := true, laidLooks := .later }
def QueryStaysCardSaid : Prop := Claim7.holds Tryz.pinned (.plain (OpenSpec.ofChange queryStaysSpec)) queryStaysCard

/-- THE TIED CARD OF 'quillworklaw26.QueryArgs'. -/
def queryArgsCard : Claim7 := { stood := { row := queryArgsRow, standIns := [], harness := (true, "28499599970758f98bbd8a2738aff815c4f86616ff21c55d6fe4c293a6d532d6"), looks := false }, kinds := [], alts := [], laidByText := true, laidKinds := [.data, .pinned], laidTests := true, laidLooks := .later }
def QueryArgsCardSaid : Prop := Claim7.holds Tryz.pinned (.plain (OpenSpec.ofChange queryArgsSpec)) queryArgsCard

/-- THE SECOND FORM's CARD OF 'quillworklaw26.QueryDoes'. -/
def queryDoesUptoCard : Claim7 := { stood := { row := queryDoesUptoRow, standIns := [], harness := (true, "28499599970758f98bbd8a2738aff815c4f86616ff21c55d6fe4c293a6d532d6"), looks := false }, kinds := [], alts := [], laidByText := true, laidKinds := [.data, .pinned], laidTests := true, laidLooks := .later }
def QueryDoesUptoCardSaid : Prop := Claim7.holds Tryz.pinned (.plain (OpenSpec.upto queryDoesSpec)) queryDoesUptoCard

/-- THE SECOND FORM's CARD OF 'quillworklaw26.QueryTells'. -/
def queryTellsUptoCard : Claim7 := { stood := { row := queryTellsUptoRow, standIns := [], harness := (true, "28499599970758f98bbd8a2738aff815c4f86616ff21c55d6fe4c293a6d532d6"), looks := false }, kinds := [], alts := [], laidByText := true, laidKinds := [.data, .pinned], laidTests := true, laidLooks := .later }
def QueryTellsUptoCardSaid : Prop := Claim7.holds Tryz.pinned (.plain (OpenSpec.upto queryTellsSpec)) queryTellsUptoCard

/-- THE SECOND FORM's CARD OF 'quillworklaw26.QueryToggles'. -/
def queryTogglesUptoCard : Claim7 := { stood := { row := queryTogglesUptoRow, standIns := [], harness := (true, "28499599970758f98bbd8a2738aff815c4f86616ff21c55d6fe4c293a6d532d6"), looks := false }, kinds := [], alts := [], laidByText := true, laidKinds := [.data, .pinned], laidTests := true, laidLooks := .later }
def QueryTogglesUptoCardSaid : Prop := Claim7.holds Tryz.pinned (.plain (OpenSpec.upto queryTogglesSpec)) queryTogglesUptoCard

/-- THE SECOND FORM's CARD OF 'quillworklaw26.QueryNames'. -/
def queryNamesUptoCard : Claim7 := { stood := { row := queryNamesUptoRow, standIns := [], harness := (true, "28499599970758f98bbd8a2738aff815c4f86616ff21c55d6fe4c293a6d532d6"), looks := false }, kinds := [], alts := [], laidByText := true, laidKinds := [.data, .pinned], laidTests := true, laidLooks := .later }
def QueryNamesUptoCardSaid : Prop := Claim7.holds Tryz.pinned (.plain (OpenSpec.upto queryNamesSpec)) queryNamesUptoCard

/-- THE SECOND FORM's CARD OF 'quillworklaw26.QueryFinds'. -/
def queryFindsUptoCard : Claim7 := { stood := { row := queryFindsUptoRow, standIns := [], harness := (true, "28499599970758f98bbd8a2738aff815c4f86616ff21c55d6fe4c293a6d532d6"), looks := false }, kinds := [], alts := [], laidByText := true, laidKinds := [.data, .pinned], laidTests := true, laidLooks := .later }
def QueryFindsUptoCardSaid : Prop := Claim7.holds Tryz.pinned (.plain (OpenSpec.upto queryFindsSpec)) queryFindsUptoCard

/-- THE SECOND FORM's CARD OF 'quillworklaw26.QueryStays'. -/
def queryStaysUptoCard : Claim7 := { stood := { row := queryStaysUptoRow, standIns := [], harness := (true, "28499599970758f98bbd8a2738aff815c4f86616ff21c55d6fe4c293a6d532d6"), looks := false }, kinds := [], alts := [], laidByText := true, laidKinds := [.data, .pinned], laidTests := true, laidLooks := .later }
def QueryStaysUptoCardSaid : Prop := Claim7.holds Tryz.pinned (.plain (OpenSpec.upto queryStaysSpec)) queryStaysUptoCard

/-- THE SECOND FORM's CARD OF 'quillworklaw26.QueryArgs'. -/
def queryArgsUptoCard : Claim7 := { stood := { row := queryArgsUptoRow, standIns := [], harness := (true, "28499599970758f98bbd8a2738aff815c4f86616ff21c55d6fe4c293a6d532d6"), looks := false }, kinds := [], alts := [], laidByText := true, laidKinds := [.data, .pinned], laidTests := true, laidLooks := .later }
def QueryArgsUptoCardSaid : Prop := Claim7.holds Tryz.pinned (.plain (OpenSpec.upto queryArgsSpec)) queryArgsUptoCard
end Rows
end Go.Proofs.YtcliojeoindceaaGreatDoor
