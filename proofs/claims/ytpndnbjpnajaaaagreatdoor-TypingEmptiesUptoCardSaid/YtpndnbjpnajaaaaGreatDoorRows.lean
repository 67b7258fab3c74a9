/-
  NARROWER THAN 'FOR EVERY INPUT', by the rows' own cells (each row's printed sentence says how): StylingTells: laid · StylingOutside: laid · StylingDoes: laid · StylingStays: laid · StylingLinks: laid · TypingKeys: laid · TypingText: laid · TypingWhole: laid · TypingEmpties: laid · TypingStays: laid · TypingBack: laid · TypingSplits: laid · TypingMay: laid · StylingTwice: laid.
  DERIVED. THE GIVEN ROWS OF THIS SEAT. 14 by the template 'for every input the law returns true; each argument reads behind the call as it read before'; 0 by the template 'total and deterministic' (their statements: YtpndnbjpnajaaaaGreatDoorTotals.lean).
  GIVEN WITH THE SEED: the statements are not yours to turn. If you find one false, say at which input.
  Laid BY PROGRAM, IN A SANDBOX (cutbox-rows.mjs): the forced cells as the released guide's own fill.sh prints them over the translation 566947f27f9e0d48… (all of the seat's roots in one cut). By AI agents, Wed Nov 11 2026. No macro, syntax, notation, axiom, sorry.
-/
import Derived.Test.YtpndnbjpnajaaaaGreatDoorChecked
import GoSem.PinnedTables
import GoSem.Claim
import GoSem.ClaimJoined
import GoSem.ClaimMapViews
import Derived.JoinedTies
import Derived.KernelRfl
namespace Go.Proofs.YtpndnbjpnajaaaaGreatDoor
/- THE CELL 'sum', in the pinned program and in every row, IS THE sha256 OF THE DUMP (.gsa) THAT YtpndnbjpnajaaaaGreatDoorProg.lean LOADS. Nothing in Lean hashes anything: it is a label: what it is worth is what the hold of that sum in a sandbox is worth. -/
noncomputable def Tryz.pinned : Pinned := { name := "ytpndnbjpnajaaaagreatdoor", sum := "566947f27f9e0d4852c892d7f0c4e3fcee7a144a2d8b1394e4f694cdbeb0e860", checked := Tryz.checked }
namespace Rows
def none {H : Type} : Left H := { results := [], args := [] }

/- WHAT THE LISTED PACKAGE-LEVEL VARIABLES READ AS WHEN THE CALL BEGINS. Each datum BY PROGRAM (the guide's laid-datum.mjs) off the statement by which the dump's own 'gosem.cut.vars' lays the variable. In a bare row this is a premise. The card (YtpndnbjpnajaaaaGreatDoorCards.lean) ties it to the program's text. -/
def laid_unicode_utf8_acceptRanges {H : Type} : DataW H := .agg [.agg [.lit (.int .u8 128), .lit (.int .u8 191)], .agg [.lit (.int .u8 160), .lit (.int .u8 191)], .agg [.lit (.int .u8 128), .lit (.int .u8 159)], .agg [.lit (.int .u8 144), .lit (.int .u8 191)], .agg [.lit (.int .u8 128), .lit (.int .u8 143)], .agg [.lit (.int .u8 0), .lit (.int .u8 0)], .agg [.lit (.int .u8 0), .lit (.int .u8 0)], .agg [.lit (.int .u8 0), .lit (.int .u8 0)], .agg [.lit (.int .u8 0), .lit (.int .u8 0)], .agg [.lit (.int .u8 0), .lit (.int .u8 0)], .agg [.lit (.int .u8 0), .lit (.int .u8 0)], .agg [.lit (.int .u8 0), .lit (.int .u8 0)], .agg [.lit (.int .u8 0), .lit (.int .u8 0)], .agg [.lit (.int .u8 0), .lit (.int .u8 0)], .agg [.lit (.int .u8 0), .lit (.int .u8 0)], .agg [.lit (.int .u8 0), .lit (.int .u8 0)]]
/-- One of Go's own tables, pinned by name: the form's constant. -/
def laid_unicode_utf8_first : DataW Unit := Go.Pinned.utf8First

/-- 'quillworklaw24.StylingTells': WHATEVER THE INPUT: true; the input reads as it did. -/
def stylingTellsSpec : ChangeSpec := { name := "stylingTells", fn := fun _ => fun
  | [d1, d2] => { results := [.lit (.bool true)], args := [d1, d2] }
  | _ => none }
def stylingTellsRow : OpenClaim := { program := "ytpndnbjpnajaaaagreatdoor", sum := "566947f27f9e0d4852c892d7f0c4e3fcee7a144a2d8b1394e4f694cdbeb0e860", func := "quillwork/quillworklaw24.StylingTells", spec := "stylingTells", inPlace := ["internal/bytealg.IndexByteString", "internal/bytealg.IndexString", "internal/abi.NoEscape", "internal/bytealg.MakeNoZero"], unfollowed := true, recurses := true, named := ["internal/bytealg.MaxLen", "unicode/utf8.first", "unicode/utf8.acceptRanges"], apart := false, laid := [("unicode/utf8.acceptRanges", laid_unicode_utf8_acceptRanges), ("unicode/utf8.first", laid_unicode_utf8_first)] }
def StylingTellsSaid : Prop := stylingTellsRow.holds Tryz.pinned (OpenSpec.ofChange stylingTellsSpec)

/-- ITS FALSE NEIGHBOUR: 'it returns false'. Refute it at one input. -/
def stylingTellsWrong : ChangeSpec := { name := "stylingTells", fn := fun _ => fun
  | [d1, d2] => { results := [.lit (.bool false)], args := [d1, d2] }
  | _ => none }
def StylingTellsWrongFalsely : Prop := stylingTellsRow.holds Tryz.pinned (OpenSpec.ofChange stylingTellsWrong)

/-- 'quillworklaw24.StylingOutside': WHATEVER THE INPUT: true; the input reads as it did. -/
def stylingOutsideSpec : ChangeSpec := { name := "stylingOutside", fn := fun _ => fun
  | [d1, d2, d3] => { results := [.lit (.bool true)], args := [d1, d2, d3] }
  | _ => none }
def stylingOutsideRow : OpenClaim := { program := "ytpndnbjpnajaaaagreatdoor", sum := "566947f27f9e0d4852c892d7f0c4e3fcee7a144a2d8b1394e4f694cdbeb0e860", func := "quillwork/quillworklaw24.StylingOutside", spec := "stylingOutside", inPlace := ["internal/bytealg.IndexByteString", "internal/bytealg.IndexString", "internal/abi.NoEscape", "internal/bytealg.MakeNoZero"], unfollowed := true, recurses := true, named := ["internal/bytealg.MaxLen", "unicode/utf8.first", "unicode/utf8.acceptRanges"], apart := false, laid := [("unicode/utf8.acceptRanges", laid_unicode_utf8_acceptRanges), ("unicode/utf8.first", laid_unicode_utf8_first)] }
def StylingOutsideSaid : Prop := stylingOutsideRow.holds Tryz.pinned (OpenSpec.ofChange stylingOutsideSpec)

/-- ITS FALSE NEIGHBOUR: 'it returns false'. Refute it at one input. -/
def stylingOutsideWrong : ChangeSpec := { name := "stylingOutside", fn := fun _ => fun
  | [d1, d2, d3] => { results := [.lit (.bool false)], args := [d1, d2, d3] }
  | _ => none }
def StylingOutsideWrongFalsely : Prop := stylingOutsideRow.holds Tryz.pinned (OpenSpec.ofChange stylingOutsideWrong)

/-- 'quillworklaw24.StylingDoes': WHATEVER THE INPUT: true; the input reads as it did. -/
def stylingDoesSpec : ChangeSpec := { name := "stylingDoes", fn := fun _ => fun
  | [d1, d2, d3] => { results := [.lit (.bool true)], args := [d1, d2, d3] }
  | _ => none }
def stylingDoesRow : OpenClaim := { program := "ytpndnbjpnajaaaagreatdoor", sum := "566947f27f9e0d4852c892d7f0c4e3fcee7a144a2d8b1394e4f694cdbeb0e860", func := "quillwork/quillworklaw24.StylingDoes", spec := "stylingDoes", inPlace := ["internal/bytealg.IndexByteString", "internal/bytealg.IndexString", "internal/abi.NoEscape", "internal/bytealg.MakeNoZero"], unfollowed := true, recurses := true, named := ["internal/bytealg.MaxLen", "unicode/utf8.first", "unicode/utf8.acceptRanges"], apart := false, laid := [("unicode/utf8.acceptRanges", laid_unicode_utf8_acceptRanges), ("unicode/utf8.first", laid_unicode_utf8_first)] }
def StylingDoesSaid : Prop := stylingDoesRow.holds Tryz.pinned (OpenSpec.ofChange stylingDoesSpec)

/-- ITS FALSE NEIGHBOUR: 'it returns false'. Refute it at one input. -/
def stylingDoesWrong : ChangeSpec := { name := "stylingDoes", fn := fun _ => fun
  | [d1, d2, d3] => { results := [.lit (.bool false)], args := [d1, d2, d3] }
  | _ => none }
def StylingDoesWrongFalsely : Prop := stylingDoesRow.holds Tryz.pinned (OpenSpec.ofChange stylingDoesWrong)

/-- 'quillworklaw24.StylingStays': WHATEVER THE INPUT: true; the input reads as it did. -/
def stylingStaysSpec : ChangeSpec := { name := "stylingStays", fn := fun _ => fun
  | [d1, d2, d3] => { results := [.lit (.bool true)], args := [d1, d2, d3] }
  | _ => none }
def stylingStaysRow : OpenClaim := { program := "ytpndnbjpnajaaaagreatdoor", sum := "566947f27f9e0d4852c892d7f0c4e3fcee7a144a2d8b1394e4f694cdbeb0e860", func := "quillwork/quillworklaw24.StylingStays", spec := "stylingStays", inPlace := ["internal/bytealg.IndexByteString", "internal/bytealg.IndexString", "internal/abi.NoEscape", "internal/bytealg.MakeNoZero"], unfollowed := true, recurses := true, named := ["internal/bytealg.MaxLen", "unicode/utf8.first", "unicode/utf8.acceptRanges"], apart := false, laid := [("unicode/utf8.acceptRanges", laid_unicode_utf8_acceptRanges), ("unicode/utf8.first", laid_unicode_utf8_first)] }
def StylingStaysSaid : Prop := stylingStaysRow.holds Tryz.pinned (OpenSpec.ofChange stylingStaysSpec)

/-- ITS FALSE NEIGHBOUR: 'it returns false'. Refute it at one input. -/
def stylingStaysWrong : ChangeSpec := { name := "stylingStays", fn := fun _ => fun
  | [d1, d2, d3] => { results := [.lit (.bool false)], args := [d1, d2, d3] }
  | _ => none }
def StylingStaysWrongFalsely : Prop := stylingStaysRow.holds Tryz.pinned (OpenSpec.ofChange stylingStaysWrong)

/-- 'quillworklaw24.StylingLinks': WHATEVER THE INPUT: true; the input reads as it did. -/
def stylingLinksSpec : ChangeSpec := { name := "stylingLinks", fn := fun _ => fun
  | [d1, d2] => { results := [.lit (.bool true)], args := [d1, d2] }
  | _ => none }
def stylingLinksRow : OpenClaim := { program := "ytpndnbjpnajaaaagreatdoor", sum := "566947f27f9e0d4852c892d7f0c4e3fcee7a144a2d8b1394e4f694cdbeb0e860", func := "quillwork/quillworklaw24.StylingLinks", spec := "stylingLinks", inPlace := ["internal/bytealg.IndexByteString", "internal/bytealg.IndexString", "internal/abi.NoEscape", "internal/bytealg.MakeNoZero"], unfollowed := true, recurses := true, named := ["internal/bytealg.MaxLen", "unicode/utf8.first", "unicode/utf8.acceptRanges"], apart := false, laid := [("unicode/utf8.acceptRanges", laid_unicode_utf8_acceptRanges), ("unicode/utf8.first", laid_unicode_utf8_first)] }
def StylingLinksSaid : Prop := stylingLinksRow.holds Tryz.pinned (OpenSpec.ofChange stylingLinksSpec)

/-- ITS FALSE NEIGHBOUR: 'it returns false'. Refute it at one input. -/
def stylingLinksWrong : ChangeSpec := { name := "stylingLinks", fn := fun _ => fun
  | [d1, d2] => { results := [.lit (.bool false)], args := [d1, d2] }
  | _ => none }
def StylingLinksWrongFalsely : Prop := stylingLinksRow.holds Tryz.pinned (OpenSpec.ofChange stylingLinksWrong)

/-- 'quillworklaw23.TypingKeys': WHATEVER THE INPUT: true; the input reads as it did. -/
def typingKeysSpec : ChangeSpec := { name := "typingKeys", fn := fun _ => fun
  | [d] => { results := [.lit (.bool true)], args := [d] }
  | _ => none }
def typingKeysRow : OpenClaim := { program := "ytpndnbjpnajaaaagreatdoor", sum := "566947f27f9e0d4852c892d7f0c4e3fcee7a144a2d8b1394e4f694cdbeb0e860", func := "quillwork/quillworklaw23.TypingKeys", spec := "typingKeys", inPlace := ["internal/bytealg.IndexByteString", "internal/bytealg.IndexString", "internal/abi.NoEscape", "internal/bytealg.MakeNoZero", "slices.overlaps[quillwork/api.Line]"], unfollowed := true, recurses := true, named := ["internal/bytealg.MaxLen", "unicode/utf8.first", "unicode/utf8.acceptRanges"], apart := false, laid := [("unicode/utf8.acceptRanges", laid_unicode_utf8_acceptRanges), ("unicode/utf8.first", laid_unicode_utf8_first)] }
def TypingKeysSaid : Prop := typingKeysRow.holds Tryz.pinned (OpenSpec.ofChange typingKeysSpec)

/-- ITS FALSE NEIGHBOUR: 'it returns false'. Refute it at one input. -/
def typingKeysWrong : ChangeSpec := { name := "typingKeys", fn := fun _ => fun
  | [d] => { results := [.lit (.bool false)], args := [d] }
  | _ => none }
def TypingKeysWrongFalsely : Prop := typingKeysRow.holds Tryz.pinned (OpenSpec.ofChange typingKeysWrong)

/-- 'quillworklaw23.TypingText': WHATEVER THE INPUT: true; the input reads as it did. -/
def typingTextSpec : ChangeSpec := { name := "typingText", fn := fun _ => fun
  | [d1, d2] => { results := [.lit (.bool true)], args := [d1, d2] }
  | _ => none }
def typingTextRow : OpenClaim := { program := "ytpndnbjpnajaaaagreatdoor", sum := "566947f27f9e0d4852c892d7f0c4e3fcee7a144a2d8b1394e4f694cdbeb0e860", func := "quillwork/quillworklaw23.TypingText", spec := "typingText", inPlace := ["internal/bytealg.IndexByteString", "internal/bytealg.IndexString", "internal/abi.NoEscape", "internal/bytealg.MakeNoZero", "slices.overlaps[quillwork/api.Line]"], unfollowed := true, recurses := true, named := ["internal/bytealg.MaxLen", "unicode/utf8.first", "unicode/utf8.acceptRanges"], apart := false, laid := [("unicode/utf8.acceptRanges", laid_unicode_utf8_acceptRanges), ("unicode/utf8.first", laid_unicode_utf8_first)] }
def TypingTextSaid : Prop := typingTextRow.holds Tryz.pinned (OpenSpec.ofChange typingTextSpec)

/-- ITS FALSE NEIGHBOUR: 'it returns false'. Refute it at one input. -/
def typingTextWrong : ChangeSpec := { name := "typingText", fn := fun _ => fun
  | [d1, d2] => { results := [.lit (.bool false)], args := [d1, d2] }
  | _ => none }
def TypingTextWrongFalsely : Prop := typingTextRow.holds Tryz.pinned (OpenSpec.ofChange typingTextWrong)

/-- 'quillworklaw23.TypingWhole': WHATEVER THE INPUT: true; the input reads as it did. -/
def typingWholeSpec : ChangeSpec := { name := "typingWhole", fn := fun _ => fun
  | [d1, d2] => { results := [.lit (.bool true)], args := [d1, d2] }
  | _ => none }
def typingWholeRow : OpenClaim := { program := "ytpndnbjpnajaaaagreatdoor", sum := "566947f27f9e0d4852c892d7f0c4e3fcee7a144a2d8b1394e4f694cdbeb0e860", func := "quillwork/quillworklaw23.TypingWhole", spec := "typingWhole", inPlace := ["internal/bytealg.IndexByteString", "internal/bytealg.IndexString", "internal/abi.NoEscape", "internal/bytealg.MakeNoZero", "slices.overlaps[quillwork/api.Line]"], unfollowed := true, recurses := true, named := ["internal/bytealg.MaxLen", "unicode/utf8.first", "unicode/utf8.acceptRanges"], apart := false, laid := [("unicode/utf8.acceptRanges", laid_unicode_utf8_acceptRanges), ("unicode/utf8.first", laid_unicode_utf8_first)] }
def TypingWholeSaid : Prop := typingWholeRow.holds Tryz.pinned (OpenSpec.ofChange typingWholeSpec)

/-- ITS FALSE NEIGHBOUR: 'it returns false'. Refute it at one input. -/
def typingWholeWrong : ChangeSpec := { name := "typingWhole", fn := fun _ => fun
  | [d1, d2] => { results := [.lit (.bool false)], args := [d1, d2] }
  | _ => none }
def TypingWholeWrongFalsely : Prop := typingWholeRow.holds Tryz.pinned (OpenSpec.ofChange typingWholeWrong)

/-- 'quillworklaw23.TypingEmpties': WHATEVER THE INPUT: true; the input reads as it did. -/
def typingEmptiesSpec : ChangeSpec := { name := "typingEmpties", fn := fun _ => fun
  | [d] => { results := [.lit (.bool true)], args := [d] }
  | _ => none }
def typingEmptiesRow : OpenClaim := { program := "ytpndnbjpnajaaaagreatdoor", sum := "566947f27f9e0d4852c892d7f0c4e3fcee7a144a2d8b1394e4f694cdbeb0e860", func := "quillwork/quillworklaw23.TypingEmpties", spec := "typingEmpties", inPlace := ["internal/bytealg.IndexByteString", "internal/bytealg.IndexString", "internal/abi.NoEscape", "internal/bytealg.MakeNoZero", "slices.overlaps[quillwork/api.Line]"], unfollowed := true, recurses := true, named := ["internal/bytealg.MaxLen", "unicode/utf8.first", "unicode/utf8.acceptRanges"], apart := false, laid := [("unicode/utf8.acceptRanges", laid_unicode_utf8_acceptRanges), ("unicode/utf8.first", laid_unicode_utf8_first)] }
def TypingEmptiesSaid : Prop := typingEmptiesRow.holds Tryz.pinned (OpenSpec.ofChange typingEmptiesSpec)

/-- ITS FALSE NEIGHBOUR: 'it returns false'. Refute it at one input. -/
def typingEmptiesWrong : ChangeSpec := { name := "typingEmpties", fn := fun _ => fun
  | [d] => { results := [.lit (.bool false)], args := [d] }
  | _ => none }
def TypingEmptiesWrongFalsely : Prop := typingEmptiesRow.holds Tryz.pinned (OpenSpec.ofChange typingEmptiesWrong)

/-- 'quillworklaw23.TypingStays': WHATEVER THE INPUT: true; the input reads as it did. -/
def typingStaysSpec : ChangeSpec := { name := "typingStays", fn := fun _ => fun
  | [d1, d2, d3] => { results := [.lit (.bool true)], args := [d1, d2, d3] }
  | _ => none }
def typingStaysRow : OpenClaim := { program := "ytpndnbjpnajaaaagreatdoor", sum := "566947f27f9e0d4852c892d7f0c4e3fcee7a144a2d8b1394e4f694cdbeb0e860", func := "quillwork/quillworklaw23.TypingStays", spec := "typingStays", inPlace := ["internal/bytealg.IndexByteString", "internal/bytealg.IndexString", "internal/abi.NoEscape", "internal/bytealg.MakeNoZero", "slices.overlaps[quillwork/api.Line]"], unfollowed := true, recurses := true, named := ["internal/bytealg.MaxLen", "unicode/utf8.first", "unicode/utf8.acceptRanges"], apart := false, laid := [("unicode/utf8.acceptRanges", laid_unicode_utf8_acceptRanges), ("unicode/utf8.first", laid_unicode_utf8_first)] }
def TypingStaysSaid : Prop := typingStaysRow.holds Tryz.pinned (OpenSpec.ofChange typingStaysSpec)

/-- ITS FALSE NEIGHBOUR: 'it returns false'. Refute it at one input. -/
def typingStaysWrong : ChangeSpec := { name := "typingStays", fn := fun _ => fun
  | [d1, d2, d3] => { results := [.lit (.bool false)], args := [d1, d2, d3] }
  | _ => none }
def TypingStaysWrongFalsely : Prop := typingStaysRow.holds Tryz.pinned (OpenSpec.ofChange typingStaysWrong)

/-- 'quillworklaw23.TypingBack': WHATEVER THE INPUT: true; the input reads as it did. -/
def typingBackSpec : ChangeSpec := { name := "typingBack", fn := fun _ => fun
  | [d1, d2] => { results := [.lit (.bool true)], args := [d1, d2] }
  | _ => none }
def typingBackRow : OpenClaim := { program := "ytpndnbjpnajaaaagreatdoor", sum := "566947f27f9e0d4852c892d7f0c4e3fcee7a144a2d8b1394e4f694cdbeb0e860", func := "quillwork/quillworklaw23.TypingBack", spec := "typingBack", inPlace := ["internal/bytealg.IndexByteString", "internal/bytealg.IndexString", "internal/abi.NoEscape", "internal/bytealg.MakeNoZero", "slices.overlaps[quillwork/api.Line]"], unfollowed := true, recurses := true, named := ["internal/bytealg.MaxLen", "unicode/utf8.first", "unicode/utf8.acceptRanges"], apart := false, laid := [("unicode/utf8.acceptRanges", laid_unicode_utf8_acceptRanges), ("unicode/utf8.first", laid_unicode_utf8_first)] }
def TypingBackSaid : Prop := typingBackRow.holds Tryz.pinned (OpenSpec.ofChange typingBackSpec)

/-- ITS FALSE NEIGHBOUR: 'it returns false'. Refute it at one input. -/
def typingBackWrong : ChangeSpec := { name := "typingBack", fn := fun _ => fun
  | [d1, d2] => { results := [.lit (.bool false)], args := [d1, d2] }
  | _ => none }
def TypingBackWrongFalsely : Prop := typingBackRow.holds Tryz.pinned (OpenSpec.ofChange typingBackWrong)

/-- 'quillworklaw23.TypingSplits': WHATEVER THE INPUT: true; the input reads as it did. -/
def typingSplitsSpec : ChangeSpec := { name := "typingSplits", fn := fun _ => fun
  | [d] => { results := [.lit (.bool true)], args := [d] }
  | _ => none }
def typingSplitsRow : OpenClaim := { program := "ytpndnbjpnajaaaagreatdoor", sum := "566947f27f9e0d4852c892d7f0c4e3fcee7a144a2d8b1394e4f694cdbeb0e860", func := "quillwork/quillworklaw23.TypingSplits", spec := "typingSplits", inPlace := ["internal/bytealg.IndexByteString", "internal/bytealg.IndexString", "internal/abi.NoEscape", "internal/bytealg.MakeNoZero", "slices.overlaps[quillwork/api.Line]"], unfollowed := true, recurses := true, named := ["internal/bytealg.MaxLen", "unicode/utf8.first", "unicode/utf8.acceptRanges"], apart := false, laid := [("unicode/utf8.acceptRanges", laid_unicode_utf8_acceptRanges), ("unicode/utf8.first", laid_unicode_utf8_first)] }
def TypingSplitsSaid : Prop := typingSplitsRow.holds Tryz.pinned (OpenSpec.ofChange typingSplitsSpec)

/-- ITS FALSE NEIGHBOUR: 'it returns false'. Refute it at one input. -/
def typingSplitsWrong : ChangeSpec := { name := "typingSplits", fn := fun _ => fun
  | [d] => { results := [.lit (.bool false)], args := [d] }
  | _ => none }
def TypingSplitsWrongFalsely : Prop := typingSplitsRow.holds Tryz.pinned (OpenSpec.ofChange typingSplitsWrong)

/-- 'quillworklaw23.TypingMay': WHATEVER THE INPUT: true; the input reads as it did. -/
def typingMaySpec : ChangeSpec := { name := "typingMay", fn := fun _ => fun
  | [d1, d2, d3, d4] => { results := [.lit (.bool true)], args := [d1, d2, d3, d4] }
  | _ => none }
def typingMayRow : OpenClaim := { program := "ytpndnbjpnajaaaagreatdoor", sum := "566947f27f9e0d4852c892d7f0c4e3fcee7a144a2d8b1394e4f694cdbeb0e860", func := "quillwork/quillworklaw23.TypingMay", spec := "typingMay", inPlace := ["internal/bytealg.IndexByteString", "internal/bytealg.IndexString", "internal/abi.NoEscape", "internal/bytealg.MakeNoZero", "slices.overlaps[quillwork/api.Line]"], unfollowed := true, recurses := true, named := ["internal/bytealg.MaxLen", "unicode/utf8.first", "unicode/utf8.acceptRanges"], apart := false, laid := [("unicode/utf8.acceptRanges", laid_unicode_utf8_acceptRanges), ("unicode/utf8.first", laid_unicode_utf8_first)] }
def TypingMaySaid : Prop := typingMayRow.holds Tryz.pinned (OpenSpec.ofChange typingMaySpec)

/-- ITS FALSE NEIGHBOUR: 'it returns false'. Refute it at one input. -/
def typingMayWrong : ChangeSpec := { name := "typingMay", fn := fun _ => fun
  | [d1, d2, d3, d4] => { results := [.lit (.bool false)], args := [d1, d2, d3, d4] }
  | _ => none }
def TypingMayWrongFalsely : Prop := typingMayRow.holds Tryz.pinned (OpenSpec.ofChange typingMayWrong)

/-- 'quillworklaw24.StylingTwice': WHATEVER THE INPUT: true; the input reads as it did. -/
def stylingTwiceSpec : ChangeSpec := { name := "stylingTwice", fn := fun _ => fun
  | [d1, d2, d3] => { results := [.lit (.bool true)], args := [d1, d2, d3] }
  | _ => none }
def stylingTwiceRow : OpenClaim := { program := "ytpndnbjpnajaaaagreatdoor", sum := "566947f27f9e0d4852c892d7f0c4e3fcee7a144a2d8b1394e4f694cdbeb0e860", func := "quillwork/quillworklaw24.StylingTwice", spec := "stylingTwice", inPlace := ["internal/bytealg.IndexByteString", "internal/bytealg.IndexString", "internal/abi.NoEscape", "internal/bytealg.MakeNoZero", "slices.overlaps[quillwork/api.Line]"], unfollowed := true, recurses := true, named := ["internal/bytealg.MaxLen", "unicode/utf8.first", "unicode/utf8.acceptRanges"], apart := false, laid := [("unicode/utf8.acceptRanges", laid_unicode_utf8_acceptRanges), ("unicode/utf8.first", laid_unicode_utf8_first)] }
def StylingTwiceSaid : Prop := stylingTwiceRow.holds Tryz.pinned (OpenSpec.ofChange stylingTwiceSpec)

/-- ITS FALSE NEIGHBOUR: 'it returns false'. Refute it at one input. -/
def stylingTwiceWrong : ChangeSpec := { name := "stylingTwice", fn := fun _ => fun
  | [d1, d2, d3] => { results := [.lit (.bool false)], args := [d1, d2, d3] }
  | _ => none }
def StylingTwiceWrongFalsely : Prop := stylingTwiceRow.holds Tryz.pinned (OpenSpec.ofChange stylingTwiceWrong)

/- THE SECOND FORM. 'bulk': how many values and letters a reading holds, each counted each time it is reached (what is shared counts as often as it is met; a slice's spare places count too). A statement '..UptoSaid' is the law's where the arguments, and the package variables that the reading takes, are together of bulk at most 1048576: NARROWER than '..Said'. Prove '..Said' where nothing that the law and all that it calls make is longer than what came in: it says more and counts as full. Else prove '..UptoSaid'. A law counts once. -/
mutual
def uptoBulk {H : Type} : DataW H → Nat
  | .lit (.string bytes) => bytes.length + 1
  | .lit _ => 1
  | .nil => 1
  | .ptr d => uptoBulk d + 1
  | .slice elems spare => uptoBulkAll elems + uptoBulkAll spare + 1
  | .agg parts => uptoBulkAll parts + 1
  | .iface _ d => uptoBulk d + 1
  | .map entries => uptoBulkEntries entries + 1
  | .held _ => 1
def uptoBulkAll {H : Type} : List (DataW H) → Nat
  | [] => 0
  | d :: r => uptoBulk d + uptoBulkAll r
def uptoBulkEntries {H : Type} : List (Lit × DataW H) → Nat
  | [] => 0
  | x :: r => uptoBulkEntry x + uptoBulkEntries r
def uptoBulkEntry {H : Type} : Lit × DataW H → Nat
  | (.string bytes, d) => bytes.length + uptoBulk d + 1
  | (_, d) => uptoBulk d + 1
 end
def uptoSmall : (H : Type) → List (DataW H) → Bool := fun _ ds => decide (uptoBulkAll ds ≤ 1048576)
def OpenSpec.upto (s : _root_.Go.ChangeSpec) : _root_.Go.OpenSpec := { _root_.Go.OpenSpec.ofChange s with cond := some uptoSmall }

/-- 'quillworklaw24.StylingTells', WHERE WHAT IT READS IS OF BULK AT MOST 1048576: true; the input reads as it did. -/
def stylingTellsUptoRow : OpenClaim := { program := "ytpndnbjpnajaaaagreatdoor", sum := "566947f27f9e0d4852c892d7f0c4e3fcee7a144a2d8b1394e4f694cdbeb0e860", func := "quillwork/quillworklaw24.StylingTells", spec := "stylingTells", inPlace := ["internal/bytealg.IndexByteString", "internal/bytealg.IndexString", "internal/abi.NoEscape", "internal/bytealg.MakeNoZero"], unfollowed := true, recurses := true, named := ["internal/bytealg.MaxLen", "unicode/utf8.first", "unicode/utf8.acceptRanges"], apart := false, laid := [("unicode/utf8.acceptRanges", laid_unicode_utf8_acceptRanges), ("unicode/utf8.first", laid_unicode_utf8_first)], narrowed := true }
def StylingTellsUptoSaid : Prop := stylingTellsUptoRow.holds Tryz.pinned (OpenSpec.upto stylingTellsSpec)

/-- 'quillworklaw24.StylingOutside', WHERE WHAT IT READS IS OF BULK AT MOST 1048576: true; the input reads as it did. -/
def stylingOutsideUptoRow : OpenClaim := { program := "ytpndnbjpnajaaaagreatdoor", sum := "566947f27f9e0d4852c892d7f0c4e3fcee7a144a2d8b1394e4f694cdbeb0e860", func := "quillwork/quillworklaw24.StylingOutside", spec := "stylingOutside", inPlace := ["internal/bytealg.IndexByteString", "internal/bytealg.IndexString", "internal/abi.NoEscape", "internal/bytealg.MakeNoZero"], unfollowed := true, recurses := true, named := ["internal/bytealg.MaxLen", "unicode/utf8.first", "unicode/utf8.acceptRanges"], apart := false, laid := [("unicode/utf8.acceptRanges", laid_unicode_utf8_acceptRanges), ("unicode/utf8.first", laid_unicode_utf8_first)], narrowed := true }
def StylingOutsideUptoSaid : Prop := stylingOutsideUptoRow.holds Tryz.pinned (OpenSpec.upto stylingOutsideSpec)

/-- 'quillworklaw24.StylingDoes', WHERE WHAT IT READS IS OF BULK AT MOST 1048576: true; the input reads as it did. -/
def stylingDoesUptoRow : OpenClaim := { program := "ytpndnbjpnajaaaagreatdoor", sum := "566947f27f9e0d4852c892d7f0c4e3fcee7a144a2d8b1394e4f694cdbeb0e860", func := "quillwork/quillworklaw24.StylingDoes", spec := "stylingDoes", inPlace := ["internal/bytealg.IndexByteString", "internal/bytealg.IndexString", "internal/abi.NoEscape", "internal/bytealg.MakeNoZero"], unfollowed := true, recurses := true, named := ["internal/bytealg.MaxLen", "unicode/utf8.first", "unicode/utf8.acceptRanges"], apart := false, laid := [("unicode/utf8.acceptRanges", laid_unicode_utf8_acceptRanges), ("unicode/utf8.first", laid_unicode_utf8_first)], narrowed := true }
def StylingDoesUptoSaid : Prop := stylingDoesUptoRow.holds Tryz.pinned (OpenSpec.upto stylingDoesSpec)

/-- 'quillworklaw24.StylingStays', WHERE WHAT IT READS IS OF BULK AT MOST 1048576: true; the input reads as it did. -/
def stylingStaysUptoRow : OpenClaim := { program := "ytpndnbjpnajaaaagreatdoor", sum := "566947f27f9e0d4852c892d7f0c4e3fcee7a144a2d8b1394e4f694cdbeb0e860", func := "quillwork/quillworklaw24.StylingStays", spec := "stylingStays", inPlace := ["internal/bytealg.IndexByteString", "internal/bytealg.IndexString", "internal/abi.NoEscape", "internal/bytealg.MakeNoZero"], unfollowed := true, recurses := true, named := ["internal/bytealg.MaxLen", "unicode/utf8.first", "unicode/utf8.acceptRanges"], apart := false, laid := [("unicode/utf8.acceptRanges", laid_unicode_utf8_acceptRanges), ("unicode/utf8.first", laid_unicode_utf8_first)], narrowed := true }
def StylingStaysUptoSaid : Prop := stylingStaysUptoRow.holds Tryz.pinned (OpenSpec.upto stylingStaysSpec)

/-- 'quillworklaw24.StylingLinks', WHERE WHAT IT READS IS OF BULK AT MOST 1048576: true; the input reads as it did. -/
def stylingLinksUptoRow : OpenClaim := { program := "ytpndnbjpnajaaaagreatdoor", sum := "566947f27f9e0d4852c892d7f0c4e3fcee7a144a2d8b1394e4f694cdbeb0e860", func := "quillwork/quillworklaw24.StylingLinks", spec := "stylingLinks", inPlace := ["internal/bytealg.IndexByteString", "internal/bytealg.IndexString", "internal/abi.NoEscape", "internal/bytealg.MakeNoZero"], unfollowed := true, recurses := true, named := ["internal/bytealg.MaxLen", "unicode/utf8.first", "unicode/utf8.acceptRanges"], apart := false, laid := [("unicode/utf8.acceptRanges", laid_unicode_utf8_acceptRanges), ("unicode/utf8.first", laid_unicode_utf8_first)], narrowed := true }
def StylingLinksUptoSaid : Prop := stylingLinksUptoRow.holds Tryz.pinned (OpenSpec.upto stylingLinksSpec)

/-- 'quillworklaw23.TypingKeys', WHERE WHAT IT READS IS OF BULK AT MOST 1048576: true; the input reads as it did. -/
def typingKeysUptoRow : OpenClaim := { program := "ytpndnbjpnajaaaagreatdoor", sum := "566947f27f9e0d4852c892d7f0c4e3fcee7a144a2d8b1394e4f694cdbeb0e860", func := "quillwork/quillworklaw23.TypingKeys", spec := "typingKeys", inPlace := ["internal/bytealg.IndexByteString", "internal/bytealg.IndexString", "internal/abi.NoEscape", "internal/bytealg.MakeNoZero", "slices.overlaps[quillwork/api.Line]"], unfollowed := true, recurses := true, named := ["internal/bytealg.MaxLen", "unicode/utf8.first", "unicode/utf8.acceptRanges"], apart := false, laid := [("unicode/utf8.acceptRanges", laid_unicode_utf8_acceptRanges), ("unicode/utf8.first", laid_unicode_utf8_first)], narrowed := true }
def TypingKeysUptoSaid : Prop := typingKeysUptoRow.holds Tryz.pinned (OpenSpec.upto typingKeysSpec)

/-- 'quillworklaw23.TypingText', WHERE WHAT IT READS IS OF BULK AT MOST 1048576: true; the input reads as it did. -/
def typingTextUptoRow : OpenClaim := { program := "ytpndnbjpnajaaaagreatdoor", sum := "566947f27f9e0d4852c892d7f0c4e3fcee7a144a2d8b1394e4f694cdbeb0e860", func := "quillwork/quillworklaw23.TypingText", spec := "typingText", inPlace := ["internal/bytealg.IndexByteString", "internal/bytealg.IndexString", "internal/abi.NoEscape", "internal/bytealg.MakeNoZero", "slices.overlaps[quillwork/api.Line]"], unfollowed := true, recurses := true, named := ["internal/bytealg.MaxLen", "unicode/utf8.first", "unicode/utf8.acceptRanges"], apart := false, laid := [("unicode/utf8.acceptRanges", laid_unicode_utf8_acceptRanges), ("unicode/utf8.first", laid_unicode_utf8_first)], narrowed := true }
def TypingTextUptoSaid : Prop := typingTextUptoRow.holds Tryz.pinned (OpenSpec.upto typingTextSpec)

/-- 'quillworklaw23.TypingWhole', WHERE WHAT IT READS IS OF BULK AT MOST 1048576: true; the input reads as it did. -/
def typingWholeUptoRow : OpenClaim := { program := "ytpndnbjpnajaaaagreatdoor", sum := "566947f27f9e0d4852c892d7f0c4e3fcee7a144a2d8b1394e4f694cdbeb0e860", func := "quillwork/quillworklaw23.TypingWhole", spec := "typingWhole", inPlace := ["internal/bytealg.IndexByteString", "internal/bytealg.IndexString", "internal/abi.NoEscape", "internal/bytealg.MakeNoZero", "slices.overlaps[quillwork/api.Line]"], unfollowed := true, recurses := true, named := ["internal/bytealg.MaxLen", "unicode/utf8.first", "unicode/utf8.acceptRanges"], apart := false, laid := [("unicode/utf8.acceptRanges", laid_unicode_utf8_acceptRanges), ("unicode/utf8.first", laid_unicode_utf8_first)], narrowed := true }
def TypingWholeUptoSaid : Prop := typingWholeUptoRow.holds Tryz.pinned (OpenSpec.upto typingWholeSpec)

/-- 'quillworklaw23.TypingEmpties', WHERE WHAT IT READS IS OF BULK AT MOST 1048576: true; the input reads as it did. -/
def typingEmptiesUptoRow : OpenClaim := { program := "ytpndnbjpnajaaaagreatdoor", sum := "566947f27f9e0d4852c892d7f0c4e3fcee7a144a2d8b1394e4f694cdbeb0e860", func := "quillwork/quillworklaw23.TypingEmpties", spec := "typingEmpties", inPlace := ["internal/bytealg.IndexByteString", "internal/bytealg.IndexString", "internal/abi.NoEscape", "internal/bytealg.MakeNoZero", "slices.overlaps[quillwork/api.Line]"], unfollowed := true, recurses := true, named := ["internal/bytealg.MaxLen", "unicode/utf8.first", "unicode/utf8.acceptRanges"], apart := false, laid := [("unicode/utf8.acceptRanges", laid_unicode_utf8_acceptRanges), ("unicode/utf8.first", laid_unicode_utf8_first)], narrowed := true }
def TypingEmptiesUptoSaid : Prop := typingEmptiesUptoRow.holds Tryz.pinned (OpenSpec.upto typingEmptiesSpec)

/-- 'quillworklaw23.TypingStays', WHERE WHAT IT READS IS OF BULK AT MOST 1048576: true; the input reads as it did. -/
def typingStaysUptoRow : OpenClaim := { program := "ytpndnbjpnajaaaagreatdoor", sum := "566947f27f9e0d4852c892d7f0c4e3fcee7a144a2d8b1394e4f694cdbeb0e860", func := "quillwork/quillworklaw23.TypingStays", spec := "typingStays", inPlace := ["internal/bytealg.IndexByteString", "internal/bytealg.IndexString", "internal/abi.NoEscape", "internal/bytealg.MakeNoZero", "slices.overlaps[quillwork/api.Line]"], unfollowed := true, recurses := true, named := ["internal/bytealg.MaxLen", "unicode/utf8.first", "unicode/utf8.acceptRanges"], apart := false, laid := [("unicode/utf8.acceptRanges", laid_unicode_utf8_acceptRanges), ("unicode/utf8.first", laid_unicode_utf8_first)], narrowed := true }
def TypingStaysUptoSaid : Prop := typingStaysUptoRow.holds Tryz.pinned (OpenSpec.upto typingStaysSpec)

/-- 'quillworklaw23.TypingBack', WHERE WHAT IT READS IS OF BULK AT MOST 1048576: true; the input reads as it did. -/
def typingBackUptoRow : OpenClaim := { program := "ytpndnbjpnajaaaagreatdoor", sum := "566947f27f9e0d4852c892d7f0c4e3fcee7a144a2d8b1394e4f694cdbeb0e860", func := "quillwork/quillworklaw23.TypingBack", spec := "typingBack", inPlace := ["internal/bytealg.IndexByteString", "internal/bytealg.IndexString", "internal/abi.NoEscape", "internal/bytealg.MakeNoZero", "slices.overlaps[quillwork/api.Line]"], unfollowed := true, recurses := true, named := ["internal/bytealg.MaxLen", "unicode/utf8.first", "unicode/utf8.acceptRanges"], apart := false, laid := [("unicode/utf8.acceptRanges", laid_unicode_utf8_acceptRanges), ("unicode/utf8.first", laid_unicode_utf8_first)], narrowed := true }
def TypingBackUptoSaid : Prop := typingBackUptoRow.holds Tryz.pinned (OpenSpec.upto typingBackSpec)

/-- 'quillworklaw23.TypingSplits', WHERE WHAT IT READS IS OF BULK AT MOST 1048576: true; the input reads as it did. -/
def typingSplitsUptoRow : OpenClaim := { program := "ytpndnbjpnajaaaagreatdoor", sum := "566947f27f9e0d4852c892d7f0c4e3fcee7a144a2d8b1394e4f694cdbeb0e860", func := "quillwork/quillworklaw23.TypingSplits", spec := "typingSplits", inPlace := ["internal/bytealg.IndexByteString", "internal/bytealg.IndexString", "internal/abi.NoEscape", "internal/bytealg.MakeNoZero", "slices.overlaps[quillwork/api.Line]"], unfollowed := true, recurses := true, named := ["internal/bytealg.MaxLen", "unicode/utf8.first", "unicode/utf8.acceptRanges"], apart := false, laid := [("unicode/utf8.acceptRanges", laid_unicode_utf8_acceptRanges), ("unicode/utf8.first", laid_unicode_utf8_first)], narrowed := true }
def TypingSplitsUptoSaid : Prop := typingSplitsUptoRow.holds Tryz.pinned (OpenSpec.upto typingSplitsSpec)

/-- 'quillworklaw23.TypingMay', WHERE WHAT IT READS IS OF BULK AT MOST 1048576: true; the input reads as it did. -/
def typingMayUptoRow : OpenClaim := { program := "ytpndnbjpnajaaaagreatdoor", sum := "566947f27f9e0d4852c892d7f0c4e3fcee7a144a2d8b1394e4f694cdbeb0e860", func := "quillwork/quillworklaw23.TypingMay", spec := "typingMay", inPlace := ["internal/bytealg.IndexByteString", "internal/bytealg.IndexString", "internal/abi.NoEscape", "internal/bytealg.MakeNoZero", "slices.overlaps[quillwork/api.Line]"], unfollowed := true, recurses := true, named := ["internal/bytealg.MaxLen", "unicode/utf8.first", "unicode/utf8.acceptRanges"], apart := false, laid := [("unicode/utf8.acceptRanges", laid_unicode_utf8_acceptRanges), ("unicode/utf8.first", laid_unicode_utf8_first)], narrowed := true }
def TypingMayUptoSaid : Prop := typingMayUptoRow.holds Tryz.pinned (OpenSpec.upto typingMaySpec)

/-- 'quillworklaw24.StylingTwice', WHERE WHAT IT READS IS OF BULK AT MOST 1048576: true; the input reads as it did. -/
def stylingTwiceUptoRow : OpenClaim := { program := "ytpndnbjpnajaaaagreatdoor", sum := "566947f27f9e0d4852c892d7f0c4e3fcee7a144a2d8b1394e4f694cdbeb0e860", func := "quillwork/quillworklaw24.StylingTwice", spec := "stylingTwice", inPlace := ["internal/bytealg.IndexByteString", "internal/bytealg.IndexString", "internal/abi.NoEscape", "internal/bytealg.MakeNoZero", "slices.overlaps[quillwork/api.Line]"], unfollowed := true, recurses := true, named := ["internal/bytealg.MaxLen", "unicode/utf8.first", "unicode/utf8.acceptRanges"], apart := false, laid := [("unicode/utf8.acceptRanges", laid_unicode_utf8_acceptRanges), ("unicode/utf8.first", laid_unicode_utf8_first)], narrowed := true }
def StylingTwiceUptoSaid : Prop := stylingTwiceUptoRow.holds Tryz.pinned (OpenSpec.upto stylingTwiceSpec)

end Rows
end Go.Proofs.YtpndnbjpnajaaaaGreatDoor
