/-
  DERIVED. GIVEN WITH THE SEED: THE CARDS: each row of YtcpenjbacgjjeaaDoorRows.lean that lists a variable, with what it lists TIED to the program's text (the seventh form; the later family's looks); each row that meets fmt, with fmt's text TOLD by the authors' own Lean function (tested against real Go, not proved from fmt's source: count such statements apart). THE CARD IS WHAT COUNTS. Prove the row's statement (the work); the ties are given (YtcpenjbacgjjeaaDoorTie.lean); close each card by the builder's one call (the guide's Derived/Test/ToyasCard.lean, 'card_holds'). Laid BY PROGRAM, IN A SANDBOX (cutbox-door.mjs). By AI agents, Wed Nov 11 2026. No macro, syntax, notation, axiom, sorry.
-/
import Derived.Test.YtcpenjbacgjjeaaDoorRows
import GoSem.ClaimSeven
namespace Go.Proofs.YtcpenjbacgjjeaaDoor
namespace Rows

/-- THE TIED CARD OF 'quillworklaw04.CssParses'. -/
def cssParsesCard : Claim7 := { stood := { row := cssParsesRow, standIns := [], harness := (true, "dfc11d59364ff1c9d7f282bedb413f299f36d098b74a6b3a3cb26b248668f846"), looks := false }, kinds := [], alts := [], laidByText := true, laidKinds := [.data, .pinned], laidTests := true, laidLooks := .later }
def CssParsesCardSaid : Prop := Claim7.holds Tryd.pinned (.plain (OpenSpec.ofChange cssParsesSpec)) cssParsesCard

/-- THE TIED CARD OF 'quillworklaw04.CssPrints'. -/
def cssPrintsCard : Claim7 := { stood := { row := cssPrintsRow, standIns := [], harness := (true, "dfc11d59364ff1c9d7f282bedb413f299f36d098b74a6b3a3cb26b248668f846"), looks := false }, kinds := [], alts := [], laidByText := true, laidKinds := [.data, .pinned], laidTests := true, laidLooks := .later }
def CssPrintsCardSaid : Prop := Claim7.holds Tryd.pinned (.plain (OpenSpec.ofChange cssPrintsSpec)) cssPrintsCard

/-- THE TIED CARD OF 'quillworklaw04.CssBack'. -/
def cssBackCard : Claim7 := { stood := { row := cssBackRow, standIns := [], harness := (true, "dfc11d59364ff1c9d7f282bedb413f299f36d098b74a6b3a3cb26b248668f846"), looks := false }, kinds := [], alts := [], laidByText := true, laidKinds := [.data, .pinned], laidTests := true, laidLooks := .later }
def CssBackCardSaid : Prop := Claim7.holds Tryd.pinned (.plain (OpenSpec.ofChange cssBackSpec)) cssBackCard

/-- THE TIED CARD OF 'quillworklaw04.CssLater'. -/
def cssLaterCard : Claim7 := { stood := { row := cssLaterRow, standIns := [], harness := (true, "dfc11d59364ff1c9d7f282bedb413f299f36d098b74a6b3a3cb26b248668f846"), looks := false }, kinds := [], alts := [], laidByText := true, laidKinds := [.data, .pinned], laidTests := true, laidLooks := .later }
def CssLaterCardSaid : Prop := Claim7.holds Tryd.pinned (.plain (OpenSpec.ofChange cssLaterSpec)) cssLaterCard

/-- THE TIED CARD OF 'quillworklaw04.CssOver'. -/
def cssOverCard : Claim7 := { stood := { row := cssOverRow, standIns := [], harness := (true, "dfc11d59364ff1c9d7f282bedb413f299f36d098b74a6b3a3cb26b248668f846"), looks := false }, kinds := [], alts := [], laidByText := true, laidKinds := [.data, .pinned], laidTests := true, laidLooks := .later }
def CssOverCardSaid : Prop := Claim7.holds Tryd.pinned (.plain (OpenSpec.ofChange cssOverSpec)) cssOverCard

/-- THE SECOND FORM's CARD OF 'quillworklaw04.CssParses'. -/
def cssParsesUptoCard : Claim7 := { stood := { row := cssParsesUptoRow, standIns := [], harness := (true, "dfc11d59364ff1c9d7f282bedb413f299f36d098b74a6b3a3cb26b248668f846"), looks := false }, kinds := [], alts := [], laidByText := true, laidKinds := [.data, .pinned], laidTests := true, laidLooks := .later }
def CssParsesUptoCardSaid : Prop := Claim7.holds Tryd.pinned (.plain (OpenSpec.upto cssParsesSpec)) cssParsesUptoCard

/-- THE SECOND FORM's CARD OF 'quillworklaw04.CssPrints'. -/
def cssPrintsUptoCard : Claim7 := { stood := { row := cssPrintsUptoRow, standIns := [], harness := (true, "dfc11d59364ff1c9d7f282bedb413f299f36d098b74a6b3a3cb26b248668f846"), looks := false }, kinds := [], alts := [], laidByText := true, laidKinds := [.data, .pinned], laidTests := true, laidLooks := .later }
def CssPrintsUptoCardSaid : Prop := Claim7.holds Tryd.pinned (.plain (OpenSpec.upto cssPrintsSpec)) cssPrintsUptoCard

/-- THE SECOND FORM's CARD OF 'quillworklaw04.CssBack'. -/
def cssBackUptoCard : Claim7 := { stood := { row := cssBackUptoRow, standIns := [], harness := (true, "dfc11d59364ff1c9d7f282bedb413f299f36d098b74a6b3a3cb26b248668f846"), looks := false }, kinds := [], alts := [], laidByText := true, laidKinds := [.data, .pinned], laidTests := true, laidLooks := .later }
def CssBackUptoCardSaid : Prop := Claim7.holds Tryd.pinned (.plain (OpenSpec.upto cssBackSpec)) cssBackUptoCard

/-- THE SECOND FORM's CARD OF 'quillworklaw04.CssLater'. -/
def cssLaterUptoCard : Claim7 := { stood := { row := cssLaterUptoRow, standIns := [], harness := (true, "dfc11d59364ff1c9d7f282bedb413f299f36d098b74a6b3a3cb26b248668f846"), looks := false }, kinds := [], alts := [], laidByText := true, laidKinds := [.data, .pinned], laidTests := true, laidLooks := .later }
def CssLaterUptoCardSaid : Prop := Claim7.holds Tryd.pinned (.plain (OpenSpec.upto cssLaterSpec)) cssLaterUptoCard

/-- THE SECOND FORM's CARD OF 'quillworklaw04.CssOver'. -/
def cssOverUptoCard : Claim7 := { stood := { row := cssOverUptoRow, standIns := [], harness := (true, "dfc11d59364ff1c9d7f282bedb413f299f36d098b74a6b3a3cb26b248668f846"), looks := false }, kinds := [], alts := [], laidByText := true, laidKinds := [.data, .pinned], laidTests := true, laidLooks := .later }
def CssOverUptoCardSaid : Prop := Claim7.holds Tryd.pinned (.plain (OpenSpec.upto cssOverSpec)) cssOverUptoCard
end Rows
end Go.Proofs.YtcpenjbacgjjeaaDoor
