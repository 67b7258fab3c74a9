/-
  DERIVED. GIVEN WITH THE SEED: THE CARDS: each row of YtpndnbjpnajaaaaGreatDoorRows.lean that lists a variable, with what it lists TIED to the program's text (the seventh form; the later family's looks); each row that meets fmt, with fmt's text TOLD by the authors' own Lean function (tested against real Go, not proved from fmt's source: count such statements apart). THE CARD IS WHAT COUNTS. Prove the row's statement (the work); the ties are given (YtpndnbjpnajaaaaGreatDoorTie.lean); close each card by the builder's one call (the guide's Derived/Test/ToyasCard.lean, 'card_holds'). Laid BY PROGRAM, IN A SANDBOX (cutbox-door.mjs). By AI agents, Wed Nov 11 2026. No macro, syntax, notation, axiom, sorry.
-/
import Derived.Test.YtpndnbjpnajaaaaGreatDoorRows
import GoSem.ClaimSeven
namespace Go.Proofs.YtpndnbjpnajaaaaGreatDoor
namespace Rows

/-- THE TIED CARD OF 'quillworklaw24.StylingTells'. -/
def stylingTellsCard : Claim7 := { stood := { row := stylingTellsRow, standIns := [], harness := (true, "5c5bec3b4079a8d708a27990978b136c5eea21082ee1642a55def4a8fb902e64"), looks := false }, kinds := [], alts := [], laidByText := true, laidKinds := [.data, .pinned], laidTests := true, laidLooks := .later }
def StylingTellsCardSaid : Prop := Claim7.holds Tryz.pinned (.plain (OpenSpec.ofChange stylingTellsSpec)) stylingTellsCard

/-- THE TIED CARD OF 'quillworklaw24.StylingOutside'. -/
def stylingOutsideCard : Claim7 := { stood := { row := stylingOutsideRow, standIns := [], harness := (true, "5c5bec3b4079a8d708a27990978b136c5eea21082ee1642a55def4a8fb902e64"), looks := false }, kinds := [], alts := [], laidByText := true, laidKinds := [.data, .pinned], laidTests := true, laidLooks := .later }
def StylingOutsideCardSaid : Prop := Claim7.holds Tryz.pinned (.plain (OpenSpec.ofChange stylingOutsideSpec)) stylingOutsideCard

/-- THE TIED CARD OF 'quillworklaw24.StylingDoes'. -/
def stylingDoesCard : Claim7 := { stood := { row := stylingDoesRow, standIns := [], harness := (true, "5c5bec3b4079a8d708a27990978b136c5eea21082ee1642a55def4a8fb902e64"), looks := false }, kinds := [], alts := [], laidByText := true, laidKinds := [.data, .pinned], laidTests := true, laidLooks := .later }
def StylingDoesCardSaid : Prop := Claim7.holds Tryz.pinned (.plain (OpenSpec.ofChange stylingDoesSpec)) stylingDoesCard

/-- THE TIED CARD OF 'quillworklaw24.StylingStays'. -/
def stylingStaysCard : Claim7 := { stood := { row := stylingStaysRow, standIns := [], harness := (true, "5c5bec3b4079a8d708a27990978b136c5eea21082ee1642a55def4a8fb902e64"), looks := false }, kinds := [], alts := [], laidByText := true, laidKinds := [.data, .pinned], laidTests := true, laidLooks := .later }
def StylingStaysCardSaid : Prop := Claim7.holds Tryz.pinned (.plain (OpenSpec.ofChange stylingStaysSpec)) stylingStaysCard

/-- THE TIED CARD OF 'quillworklaw24.StylingLinks'. -/
def stylingLinksCard : Claim7 := { stood := { row := stylingLinksRow, standIns := [], harness := (true, "5c5bec3b4079a8d708a27990978b136c5eea21082ee1642a55def4a8fb902e64"), looks := false }, kinds := [], alts := [], laidByText := true, laidKinds := [.data, .pinned], laidTests := true, laidLooks := .later }
def StylingLinksCardSaid : Prop := Claim7.holds Tryz.pinned (.plain (OpenSpec.ofChange stylingLinksSpec)) stylingLinksCard

/-- THE TIED CARD OF 'quillworklaw23.TypingKeys'. -/
def typingKeysCard : Claim7 := { stood := { row := typingKeysRow, standIns := [], harness := (true, "5c5bec3b4079a8d708a27990978b136c5eea21082ee1642a55def4a8fb902e64"), looks := false }, kinds := [], alts := [], laidByText := true, laidKinds := [.data, .pinned], laidTests := true, laidLooks := .later }
def TypingKeysCardSaid : Prop := Claim7.holds Tryz.pinned (.plain (OpenSpec.ofChange typingKeysSpec)) typingKeysCard

/-- THE TIED CARD OF 'quillworklaw23.TypingText'. -/
def typingTextCard : Claim7 := { stood := { row := typingTextRow, standIns := [], harness := (true, "5c5bec3b4079a8d708a27990978b136c5eea21082ee1642a55def4a8fb902e64"), looks := false }, kinds := [], alts := [], laidByText := true, laidKinds := [.data, .pinned], laidTests := true, laidLooks := .later }
def TypingTextCardSaid : Prop := Claim7.holds Tryz.pinned (.plain (OpenSpec.ofChange typingTextSpec)) typingTextCard

/-- THE TIED CARD OF 'quillworklaw23.TypingWhole'. -/
def typingWholeCard : Claim7 := { stood := { row := typingWholeRow, standIns := [], harness := (true, "5c5bec3b4079a8d708a27990978b136c5eea21082ee1642a55def4a8fb902e64"), looks := false }, kinds := [], alts := [], laidByText := true, laidKinds := [.data, .pinned], laidTests := true, laidLooks := .later }
def TypingWholeCardSaid : Prop := Claim7.holds Tryz.pinned (.plain (OpenSpec.ofChange typingWholeSpec)) typingWholeCard

/-- THE TIED CARD OF 'quillworklaw23.TypingEmpties'. -/
def typingEmptiesCard : Claim7 := { stood := { row := typingEmptiesRow, standIns := [], harness := (true, "5c5bec3b4079a8d708a27990978b136c5eea21082ee1642a55def4a8fb902e64"), looks := false }, kinds := [], alts := [], laidByText := true, laidKinds := [.data, .pinned], laidTests := true, laidLooks := .later }
def TypingEmptiesCardSaid : Prop := Claim7.holds Tryz.pinned (.plain (OpenSpec.ofChange typingEmptiesSpec)) typingEmptiesCard

/-- THE TIED CARD OF 'quillworklaw23.TypingStays'. -/
def typingStaysCard : Claim7 := { stood := { row := typingStaysRow, standIns := [], harness := (true, "5c5bec3b4079a8d708a27990978b136c5eea21082ee1642a55def4a8fb902e64"), looks := false }, kinds := [], alts := [], laidByText := true, laidKinds := [.data, .pinned], laidTests := true, laidLooks := .later }
def TypingStaysCardSaid : Prop := Claim7.holds Tryz.pinned (.plain (OpenSpec.ofChange typingStaysSpec)) typingStaysCard

/-- THE TIED CARD OF 'quillworklaw23.TypingBack'. -/
def typingBackCard : Claim7 := { stood := { row := typingBackRow, standIns := [], harness := (true, "5c5bec3b4079a8d708a27990978b136c5eea21082ee1642a55def4a8fb902e64"), looks := false }, kinds := [], alts := [], laidByText := true, laidKinds := [.data, .pinned], laidTests := true, laidLooks := .later }
def TypingBackCardSaid : Prop := Claim7.holds Tryz.pinned (.plain (OpenSpec.ofChange typingBackSpec)) typingBackCard

/-- THE TIED CARD OF 'quillworklaw23.TypingSplits'. -/
def typingSplitsCard : Claim7 := { stood := { row := typingSplitsRow, standIns := [], harness := (true, "5c5bec3b4079a8d708a27990978b136c5eea21082ee1642a55def4a8fb902e64"), looks := false }, kinds := [], alts := [], laidByText := true, laidKinds := [.data, .pinned], laidTests := true, laidLooks := .later }
def TypingSplitsCardSaid : Prop := Claim7.holds Tryz.pinned (.plain (OpenSpec.ofChange typingSplitsSpec)) typingSplitsCard

/-- THE TIED CARD OF 'quillworklaw23.TypingMay'. -/
def typingMayCard : Claim7 := { stood := { row := typingMayRow, standIns := [], harness := (true, "5c5bec3b4079a8d708a27990978b136c5eea21082ee1642a55def4a8fb902e64"), looks := false }, kinds := [], alts := [], laidByText := true, laidKinds := [.data, .pinned], laidTests := true, laidLooks := .later }
def TypingMayCardSaid : Prop := Claim7.holds Tryz.pinned (.plain (OpenSpec.ofChange typingMaySpec)) typingMayCard

/-- THE TIED CARD OF 'quillworklaw24.StylingTwice'. -/
def stylingTwiceCard : Claim7 := { stood := { row := stylingTwiceRow, standIns := [], harness := (true, "5c5bec3b4079a8d708a27990978b136c5eea21082ee1642a55def4a8fb902e64"), looks := false }, kinds := [], alts := [], laidByText := true, laidKinds := [.data, .pinned], laidTests := true, laidLooks := .later }
def StylingTwiceCardSaid : Prop := Claim7.holds Tryz.pinned (.plain (OpenSpec.ofChange stylingTwiceSpec)) stylingTwiceCard

/-- THE SECOND FORM's CARD OF 'quillworklaw24.StylingTells'. -/
def stylingTellsUptoCard : Claim7 := { stood := { row := stylingTellsUptoRow, standIns := [], harness := (true, "5c5bec3b4079a8d708a27990978b136c5eea21082ee1642a55def4a8fb902e64"), looks := false }, kinds := [], alts := [], laidByText := true, laidKinds := [.data, .pinned], laidTests := true, laidLooks := .later }
def StylingTellsUptoCardSaid : Prop := Claim7.holds Tryz.pinned (.plain (OpenSpec.upto stylingTellsSpec)) stylingTellsUptoCard

/-- THE SECOND FORM's CARD OF 'quillworklaw24.StylingOutside'. -/
def stylingOutsideUptoCard : Claim7 := { stood := { row := stylingOutsideUptoRow, standIns := [], harness := (true, "5c5bec3b4079a8d708a27990978b136c5eea21082ee1642a55def4a8fb902e64"), looks := false }, kinds := [], alts := [], laidByText := true, laidKinds := [.data, .pinned], laidTests := true, laidLooks := .later }
def StylingOutsideUptoCardSaid : Prop := Claim7.holds Tryz.pinned (.plain (OpenSpec.upto stylingOutsideSpec)) stylingOutsideUptoCard

/-- THE SECOND FORM's CARD OF 'quillworklaw24.StylingDoes'. -/
def stylingDoesUptoCard : Claim7 := { stood := { row := stylingDoesUptoRow, standIns := [], harness := (true, "5c5bec3b4079a8d708a27990978b136c5eea21082ee1642a55def4a8fb902e64"), looks := false }, kinds := [], alts := [], laidByText := true, laidKinds := [.data, .pinned], laidTests := true, laidLooks := .later }
def StylingDoesUptoCardSaid : Prop := Claim7.holds Tryz.pinned (.plain (OpenSpec.upto stylingDoesSpec)) stylingDoesUptoCard

/-- THE SECOND FORM's CARD OF 'quillworklaw24.StylingStays'. -/
def stylingStaysUptoCard : Claim7 := { stood := { row := stylingStaysUptoRow, standIns := [], harness := (true, "5c5bec3b4079a8d708a27990978b136c5eea21082ee1642a55def4a8fb902e64"), looks := false }, kinds := [], alts := [], laidByText := true, laidKinds := [.data, .pinned], laidTests := true, laidLooks := .later }
def StylingStaysUptoCardSaid : Prop := Claim7.holds Tryz.pinned (.plain (OpenSpec.upto stylingStaysSpec)) stylingStaysUptoCard

/-- THE SECOND FORM's CARD OF 'quillworklaw24.StylingLinks'. -/
def stylingLinksUptoCard : Claim7 := { stood := { row := stylingLinksUptoRow, standIns := [], harness := (true, "5c5bec3b4079a8d708a27990978b136c5eea21082ee1642a55def4a8fb902e64"), looks := false }, kinds := [], alts := [], laidByText := true, laidKinds := [.data, .pinned], laidTests := true, laidLooks := .later }
def StylingLinksUptoCardSaid : Prop := Claim7.holds Tryz.pinned (.plain (OpenSpec.upto stylingLinksSpec)) stylingLinksUptoCard

/-- THE SECOND FORM's CARD OF 'quillworklaw23.TypingKeys'. -/
def typingKeysUptoCard : Claim7 := { stood := { row := typingKeysUptoRow, standIns := [], harness := (true, "5c5bec3b4079a8d708a27990978b136c5eea21082ee1642a55def4a8fb902e64"), looks := false }, kinds := [], alts := [], laidByText := true, laidKinds := [.data, .pinned], laidTests := true, laidLooks := .later }
def TypingKeysUptoCardSaid : Prop := Claim7.holds Tryz.pinned (.plain (OpenSpec.upto typingKeysSpec)) typingKeysUptoCard

/-- THE SECOND FORM's CARD OF 'quillworklaw23.TypingText'. -/
def typingTextUptoCard : Claim7 := { stood := { row := typingTextUptoRow, standIns := [], harness := (true, "5c5bec3b4079a8d708a27990978b136c5eea21082ee1642a55def4a8fb902e64"), looks := false }, kinds := [], alts := [], laidByText := true, laidKinds := [.data, .pinned], laidTests := true, laidLooks := .later }
def TypingTextUptoCardSaid : Prop := Claim7.holds Tryz.pinned (.plain (OpenSpec.upto typingTextSpec)) typingTextUptoCard

/-- THE SECOND FORM's CARD OF 'quillworklaw23.TypingWhole'. -/
def typingWholeUptoCard : Claim7 := { stood := { row := typingWholeUptoRow, standIns := [], harness := (true, "5c5bec3b4079a8d708a27990978b136c5eea21082ee1642a55def4a8fb902e64"), looks := false }, kinds := [], alts := [], laidByText := true, laidKinds := [.data, .pinned], laidTests := true, laidLooks := .later }
def TypingWholeUptoCardSaid : Prop := Claim7.holds Tryz.pinned (.plain (OpenSpec.upto typingWholeSpec)) typingWholeUptoCard

/-- THE SECOND FORM's CARD OF 'quillworklaw23.TypingEmpties'. -/
def typingEmptiesUptoCard : Claim7 := { stood := { row := typingEmptiesUptoRow, standIns := [], harness := (true, "5c5bec3b4079a8d708a27990978b136c5eea21082ee1642a55def4a8fb902e64"), looks := false }, kinds := [], alts := [], laidByText := true, laidKinds := [.data, .pinned], laidTests := true, laidLooks := .later }
def TypingEmptiesUptoCardSaid : Prop := Claim7.holds Tryz.pinned (.plain (OpenSpec.upto typingEmptiesSpec)) typingEmptiesUptoCard

/-- THE SECOND FORM's CARD OF 'quillworklaw23.TypingStays'. -/
def typingStaysUptoCard : Claim7 := { stood := { row := typingStaysUptoRow, standIns := [], harness := (true, "5c5bec3b4079a8d708a27990978b136c5eea21082ee1642a55def4a8fb902e64"), looks := false }, kinds := [], alts := [], laidByText := true, laidKinds := [.data, .pinned], laidTests := true, laidLooks := .later }
def TypingStaysUptoCardSaid : Prop := Claim7.holds Tryz.pinned (.plain (OpenSpec.upto typingStaysSpec)) typingStaysUptoCard

/-- THE SECOND FORM's CARD OF 'quillworklaw23.TypingBack'. -/
def typingBackUptoCard : Claim7 := { stood := { row := typingBackUptoRow, standIns := [], harness := (true, "5c5bec3b4079a8d708a27990978b136c5eea21082ee1642a55def4a8fb902e64"), looks := false }, kinds := [], alts := [], laidByText := true, laidKinds := [.data, .pinned], laidTests := true, laidLooks := .later }
def TypingBackUptoCardSaid : Prop := Claim7.holds Tryz.pinned (.plain (OpenSpec.upto typingBackSpec)) typingBackUptoCard

/-- THE SECOND FORM's CARD OF 'quillworklaw23.TypingSplits'. -/
def typingSplitsUptoCard : Claim7 := { stood := { row := typingSplitsUptoRow, standIns := [], harness := (true, "5c5bec3b4079a8d708a27990978b136c5eea21082ee1642a55def4a8fb902e64"), looks := false }, kinds := [], alts := [], laidByText := true, laidKinds := [.data, .pinned], laidTests := true, laidLooks := .later }
def TypingSplitsUptoCardSaid : Prop := Claim7.holds Tryz.pinned (.plain (OpenSpec.upto typingSplitsSpec)) typingSplitsUptoCard

/-- THE SECOND FORM's CARD OF 'quillworklaw23.TypingMay'. -/
def typingMayUptoCard : Claim7 := { stood := { row := typingMayUptoRow, standIns := [], harness := (true, "5c5bec3b4079a8d708a27990978b136c5eea21082ee1642a55def4a8fb902e64"), looks := false }, kinds := [], alts := [], laidByText := true, laidKinds := [.data, .pinned], laidTests := true, laidLooks := .later }
def TypingMayUptoCardSaid : Prop := Claim7.holds Tryz.pinned (.plain (OpenSpec.upto typingMaySpec)) typingMayUptoCard

/-- THE SECOND FORM's CARD OF 'quillworklaw24.StylingTwice'. -/
def stylingTwiceUptoCard : Claim7 := { stood := { row := stylingTwiceUptoRow, standIns := [], harness := (true, "5c5bec3b4079a8d708a27990978b136c5eea21082ee1642a55def4a8fb902e64"), looks := false }, kinds := [], alts := [], laidByText := true, laidKinds := [.data, .pinned], laidTests := true, laidLooks := .later }
def StylingTwiceUptoCardSaid : Prop := Claim7.holds Tryz.pinned (.plain (OpenSpec.upto stylingTwiceSpec)) stylingTwiceUptoCard
end Rows
end Go.Proofs.YtpndnbjpnajaaaaGreatDoor
