/-
  NARROWER THAN 'FOR EVERY INPUT', by the rows' own cells (each row's printed sentence says how): ViewLines: loops, laid · ViewBeside: loops, laid · ViewPlaces: loops, laid · ViewMay: loops, laid · ViewOrder: loops, laid · RenderBack: laid.
  DERIVED. THE GIVEN ROWS OF THIS SEAT. 6 by the template 'for every input the law returns true; each argument reads behind the call as it read before'; 0 by the template 'total and deterministic' (their statements: YtjpgffihafknlaaGreatDoorTotals.lean).
  GIVEN WITH THE SEED: the statements are not yours to turn. If you find one false, say at which input.
  Laid BY PROGRAM, IN A SANDBOX (cutbox-rows.mjs): the forced cells as the released guide's own fill.sh prints them over the translation 86888ee78840e92a… (all of the seat's roots in one cut). By AI agents, Wed Nov 11 2026. No macro, syntax, notation, axiom, sorry.
-/
import Derived.Test.YtjpgffihafknlaaGreatDoorChecked
import GoSem.PinnedTables
import GoSem.Claim
import GoSem.ClaimJoined
import GoSem.ClaimMapViews
import Derived.JoinedTies
import Derived.KernelRfl
namespace Go.Proofs.YtjpgffihafknlaaGreatDoor
/- THE CELL 'sum', in the pinned program and in every row, IS THE sha256 OF THE DUMP (.gsa) THAT YtjpgffihafknlaaGreatDoorProg.lean LOADS. Nothing in Lean hashes anything: it is a label: what it is worth is what the hold of that sum in a sandbox is worth. -/
noncomputable def Tryz.pinned : Pinned := { name := "ytjpgffihafknlaagreatdoor", sum := "86888ee78840e92a37578366ce4c746f38bf19a43d1c9e565b0237a970bf8f0c", checked := Tryz.checked }
namespace Rows
def none {H : Type} : Left H := { results := [], args := [] }

/- WHAT THE LISTED PACKAGE-LEVEL VARIABLES READ AS WHEN THE CALL BEGINS. Each datum BY PROGRAM (the guide's laid-datum.mjs) off the statement by which the dump's own 'gosem.cut.vars' lays the variable. In a bare row this is a premise. The card (YtjpgffihafknlaaGreatDoorCards.lean) ties it to the program's text. -/
def laid_unicode_utf8_acceptRanges {H : Type} : DataW H := .agg [.agg [.lit (.int .u8 128), .lit (.int .u8 191)], .agg [.lit (.int .u8 160), .lit (.int .u8 191)], .agg [.lit (.int .u8 128), .lit (.int .u8 159)], .agg [.lit (.int .u8 144), .lit (.int .u8 191)], .agg [.lit (.int .u8 128), .lit (.int .u8 143)], .agg [.lit (.int .u8 0), .lit (.int .u8 0)], .agg [.lit (.int .u8 0), .lit (.int .u8 0)], .agg [.lit (.int .u8 0), .lit (.int .u8 0)], .agg [.lit (.int .u8 0), .lit (.int .u8 0)], .agg [.lit (.int .u8 0), .lit (.int .u8 0)], .agg [.lit (.int .u8 0), .lit (.int .u8 0)], .agg [.lit (.int .u8 0), .lit (.int .u8 0)], .agg [.lit (.int .u8 0), .lit (.int .u8 0)], .agg [.lit (.int .u8 0), .lit (.int .u8 0)], .agg [.lit (.int .u8 0), .lit (.int .u8 0)], .agg [.lit (.int .u8 0), .lit (.int .u8 0)]]
/-- One of Go's own tables, pinned by name: the form's constant. -/
def laid_unicode_utf8_first : DataW Unit := Go.Pinned.utf8First

/-- 'quillworklaw18.ViewLines': WHATEVER THE INPUT: true; the input reads as it did. -/
def viewLinesSpec : ChangeSpec := { name := "viewLines", fn := fun _ => fun
  | [d] => { results := [.lit (.bool true)], args := [d] }
  | _ => none }
def viewLinesRow : OpenClaim := { program := "ytjpgffihafknlaagreatdoor", sum := "86888ee78840e92a37578366ce4c746f38bf19a43d1c9e565b0237a970bf8f0c", func := "quillwork/quillworklaw18.ViewLines", spec := "viewLines", inPlace := ["internal/bytealg.CountString", "internal/bytealg.IndexByteString", "internal/bytealg.IndexString", "internal/abi.NoEscape", "internal/bytealg.MakeNoZero"], unfollowed := true, recurses := true, named := ["unicode/utf8.first", "unicode/utf8.acceptRanges", "internal/bytealg.MaxLen"], loops := true, apart := false, laid := [("unicode/utf8.acceptRanges", laid_unicode_utf8_acceptRanges), ("unicode/utf8.first", laid_unicode_utf8_first)] }
def ViewLinesSaid : Prop := viewLinesRow.holds Tryz.pinned (OpenSpec.ofChange viewLinesSpec)

/-- ITS FALSE NEIGHBOUR: 'it returns false'. Refute it at one input. -/
def viewLinesWrong : ChangeSpec := { name := "viewLines", fn := fun _ => fun
  | [d] => { results := [.lit (.bool false)], args := [d] }
  | _ => none }
def ViewLinesWrongFalsely : Prop := viewLinesRow.holds Tryz.pinned (OpenSpec.ofChange viewLinesWrong)

/-- 'quillworklaw18.ViewBeside': WHATEVER THE INPUT: true; the input reads as it did. -/
def viewBesideSpec : ChangeSpec := { name := "viewBeside", fn := fun _ => fun
  | [d] => { results := [.lit (.bool true)], args := [d] }
  | _ => none }
def viewBesideRow : OpenClaim := { program := "ytjpgffihafknlaagreatdoor", sum := "86888ee78840e92a37578366ce4c746f38bf19a43d1c9e565b0237a970bf8f0c", func := "quillwork/quillworklaw18.ViewBeside", spec := "viewBeside", inPlace := ["internal/bytealg.CountString", "internal/bytealg.IndexByteString", "internal/bytealg.IndexString", "internal/abi.NoEscape", "internal/bytealg.MakeNoZero"], unfollowed := true, recurses := true, named := ["unicode/utf8.first", "unicode/utf8.acceptRanges", "internal/bytealg.MaxLen"], loops := true, apart := false, laid := [("unicode/utf8.acceptRanges", laid_unicode_utf8_acceptRanges), ("unicode/utf8.first", laid_unicode_utf8_first)] }
def ViewBesideSaid : Prop := viewBesideRow.holds Tryz.pinned (OpenSpec.ofChange viewBesideSpec)

/-- ITS FALSE NEIGHBOUR: 'it returns false'. Refute it at one input. -/
def viewBesideWrong : ChangeSpec := { name := "viewBeside", fn := fun _ => fun
  | [d] => { results := [.lit (.bool false)], args := [d] }
  | _ => none }
def ViewBesideWrongFalsely : Prop := viewBesideRow.holds Tryz.pinned (OpenSpec.ofChange viewBesideWrong)

/-- 'quillworklaw18.ViewPlaces': WHATEVER THE INPUT: true; the input reads as it did. -/
def viewPlacesSpec : ChangeSpec := { name := "viewPlaces", fn := fun _ => fun
  | [d1, d2] => { results := [.lit (.bool true)], args := [d1, d2] }
  | _ => none }
def viewPlacesRow : OpenClaim := { program := "ytjpgffihafknlaagreatdoor", sum := "86888ee78840e92a37578366ce4c746f38bf19a43d1c9e565b0237a970bf8f0c", func := "quillwork/quillworklaw18.ViewPlaces", spec := "viewPlaces", inPlace := ["internal/bytealg.CountString", "internal/bytealg.IndexByteString", "internal/bytealg.IndexString", "internal/abi.NoEscape", "internal/bytealg.MakeNoZero"], unfollowed := true, recurses := true, named := ["unicode/utf8.first", "unicode/utf8.acceptRanges", "internal/bytealg.MaxLen"], loops := true, apart := false, laid := [("unicode/utf8.acceptRanges", laid_unicode_utf8_acceptRanges), ("unicode/utf8.first", laid_unicode_utf8_first)] }
def ViewPlacesSaid : Prop := viewPlacesRow.holds Tryz.pinned (OpenSpec.ofChange viewPlacesSpec)

/-- ITS FALSE NEIGHBOUR: 'it returns false'. Refute it at one input. -/
def viewPlacesWrong : ChangeSpec := { name := "viewPlaces", fn := fun _ => fun
  | [d1, d2] => { results := [.lit (.bool false)], args := [d1, d2] }
  | _ => none }
def ViewPlacesWrongFalsely : Prop := viewPlacesRow.holds Tryz.pinned (OpenSpec.ofChange viewPlacesWrong)

/-- 'quillworklaw18.ViewMay': WHATEVER THE INPUT: true; the input reads as it did. -/
def viewMaySpec : ChangeSpec := { name := "viewMay", fn := fun _ => fun
  | [d1, d2] => { results := [.lit (.bool true)], args := [d1, d2] }
  | _ => none }
def viewMayRow : OpenClaim := { program := "ytjpgffihafknlaagreatdoor", sum := "86888ee78840e92a37578366ce4c746f38bf19a43d1c9e565b0237a970bf8f0c", func := "quillwork/quillworklaw18.ViewMay", spec := "viewMay", inPlace := ["internal/bytealg.CountString", "internal/bytealg.IndexByteString", "internal/bytealg.IndexString", "internal/abi.NoEscape", "internal/bytealg.MakeNoZero"], unfollowed := true, recurses := true, named := ["unicode/utf8.first", "unicode/utf8.acceptRanges", "internal/bytealg.MaxLen"], loops := true, apart := false, laid := [("unicode/utf8.acceptRanges", laid_unicode_utf8_acceptRanges), ("unicode/utf8.first", laid_unicode_utf8_first)] }
def ViewMaySaid : Prop := viewMayRow.holds Tryz.pinned (OpenSpec.ofChange viewMaySpec)

/-- ITS FALSE NEIGHBOUR: 'it returns false'. Refute it at one input. -/
def viewMayWrong : ChangeSpec := { name := "viewMay", fn := fun _ => fun
  | [d1, d2] => { results := [.lit (.bool false)], args := [d1, d2] }
  | _ => none }
def ViewMayWrongFalsely : Prop := viewMayRow.holds Tryz.pinned (OpenSpec.ofChange viewMayWrong)

/-- 'quillworklaw18.ViewOrder': WHATEVER THE INPUT: true; the input reads as it did. -/
def viewOrderSpec : ChangeSpec := { name := "viewOrder", fn := fun _ => fun
  | [d] => { results := [.lit (.bool true)], args := [d] }
  | _ => none }
def viewOrderRow : OpenClaim := { program := "ytjpgffihafknlaagreatdoor", sum := "86888ee78840e92a37578366ce4c746f38bf19a43d1c9e565b0237a970bf8f0c", func := "quillwork/quillworklaw18.ViewOrder", spec := "viewOrder", inPlace := ["internal/bytealg.CountString", "internal/bytealg.IndexByteString", "internal/bytealg.IndexString", "internal/abi.NoEscape", "internal/bytealg.MakeNoZero"], unfollowed := true, recurses := true, named := ["unicode/utf8.first", "unicode/utf8.acceptRanges", "internal/bytealg.MaxLen"], loops := true, apart := false, laid := [("unicode/utf8.acceptRanges", laid_unicode_utf8_acceptRanges), ("unicode/utf8.first", laid_unicode_utf8_first)] }
def ViewOrderSaid : Prop := viewOrderRow.holds Tryz.pinned (OpenSpec.ofChange viewOrderSpec)

/-- ITS FALSE NEIGHBOUR: 'it returns false'. Refute it at one input. -/
def viewOrderWrong : ChangeSpec := { name := "viewOrder", fn := fun _ => fun
  | [d] => { results := [.lit (.bool false)], args := [d] }
  | _ => none }
def ViewOrderWrongFalsely : Prop := viewOrderRow.holds Tryz.pinned (OpenSpec.ofChange viewOrderWrong)

/-- 'quillworklaw19.RenderBack': WHATEVER THE INPUT: true; the input reads as it did. -/
def renderBackSpec : ChangeSpec := { name := "renderBack", fn := fun _ => fun
  | [d1, d2] => { results := [.lit (.bool true)], args := [d1, d2] }
  | _ => none }
def renderBackRow : OpenClaim := { program := "ytjpgffihafknlaagreatdoor", sum := "86888ee78840e92a37578366ce4c746f38bf19a43d1c9e565b0237a970bf8f0c", func := "quillwork/quillworklaw19.RenderBack", spec := "renderBack", inPlace := ["internal/bytealg.IndexByteString", "internal/bytealg.IndexString", "internal/abi.NoEscape", "internal/bytealg.MakeNoZero", "internal/bytealg.CountString"], unfollowed := true, recurses := true, named := ["internal/bytealg.MaxLen", "unicode/utf8.first", "unicode/utf8.acceptRanges"], apart := false, laid := [("unicode/utf8.acceptRanges", laid_unicode_utf8_acceptRanges), ("unicode/utf8.first", laid_unicode_utf8_first)] }
def RenderBackSaid : Prop := renderBackRow.holds Tryz.pinned (OpenSpec.ofChange renderBackSpec)

/-- ITS FALSE NEIGHBOUR: 'it returns false'. Refute it at one input. -/
def renderBackWrong : ChangeSpec := { name := "renderBack", fn := fun _ => fun
  | [d1, d2] => { results := [.lit (.bool false)], args := [d1, d2] }
  | _ => none }
def RenderBackWrongFalsely : Prop := renderBackRow.holds Tryz.pinned (OpenSpec.ofChange renderBackWrong)

/- THE SECOND FORM. 'bulk': how many values and letters a reading holds, each counted each time it is reached (what is shared counts as often as it is met; a slice's spare places count too). A statement '..UptoSaid' is the law's where the arguments, and the package variables that the reading takes, are together of bulk at most 1048576: NARROWER than '..Said'. Prove '..Said' where nothing that the law and all that it calls make is longer than what came in: it says more and counts as full. Else prove '..UptoSaid'. A law counts once. -/
mutual
def uptoBulk {H : Type} : DataW H → Nat
  | .lit (.string bytes) => bytes.length + 1
  | .lit _ => 1
  | .nil => 1
  | .ptr d => uptoBulk d + 1
  | .slice elems spare => uptoBulkAll elems + uptoBulkAll spare + 1
  | .agg parts => uptoBulkAll parts + 1
  | .iface _ d => uptoBulk d + 1
  | .map entries => uptoBulkEntries entries + 1
  | .held _ => 1
def uptoBulkAll {H : Type} : List (DataW H) → Nat
  | [] => 0
  | d :: r => uptoBulk d + uptoBulkAll r
def uptoBulkEntries {H : Type} : List (Lit × DataW H) → Nat
  | [] => 0
  | x :: r => uptoBulkEntry x + uptoBulkEntries r
def uptoBulkEntry {H : Type} : Lit × DataW H → Nat
  | (.string bytes, d) => bytes.length + uptoBulk d + 1
  | (_, d) => uptoBulk d + 1
 end
def uptoSmall : (H : Type) → List (DataW H) → Bool := fun _ ds => decide (uptoBulkAll ds ≤ 1048576)
def OpenSpec.upto (s : _root_.Go.ChangeSpec) : _root_.Go.OpenSpec := { _root_.Go.OpenSpec.ofChange s with cond := some uptoSmall }

/-- 'quillworklaw18.ViewLines', WHERE WHAT IT READS IS OF BULK AT MOST 1048576: true; the input reads as it did. -/
def viewLinesUptoRow : OpenClaim := { program := "ytjpgffihafknlaagreatdoor", sum := "86888ee78840e92a37578366ce4c746f38bf19a43d1c9e565b0237a970bf8f0c", func := "quillwork/quillworklaw18.ViewLines", spec := "viewLines", inPlace := ["internal/bytealg.CountString", "internal/bytealg.IndexByteString", "internal/bytealg.IndexString", "internal/abi.NoEscape", "internal/bytealg.MakeNoZero"], unfollowed := true, recurses := true, named := ["unicode/utf8.first", "unicode/utf8.acceptRanges", "internal/bytealg.MaxLen"], loops := true, apart := false, laid := [("unicode/utf8.acceptRanges", laid_unicode_utf8_acceptRanges), ("unicode/utf8.first", laid_unicode_utf8_first)], narrowed := true }
def ViewLinesUptoSaid : Prop := viewLinesUptoRow.holds Tryz.pinned (OpenSpec.upto viewLinesSpec)

/-- 'quillworklaw18.ViewBeside', WHERE WHAT IT READS IS OF BULK AT MOST 1048576: true; the input reads as it did. -/
def viewBesideUptoRow : OpenClaim := { program := "ytjpgffihafknlaagreatdoor", sum := "86888ee78840e92a37578366ce4c746f38bf19a43d1c9e565b0237a970bf8f0c", func := "quillwork/quillworklaw18.ViewBeside", spec := "viewBeside", inPlace := ["internal/bytealg.CountString", "internal/bytealg.IndexByteString", "internal/bytealg.IndexString", "internal/abi.NoEscape", "internal/bytealg.MakeNoZero"], unfollowed := true, recurses := true, named := ["unicode/utf8.first", "unicode/utf8.acceptRanges", "internal/bytealg.MaxLen"], loops := true, apart := false, laid := [("unicode/utf8.acceptRanges", laid_unicode_utf8_acceptRanges), ("unicode/utf8.first", laid_unicode_utf8_first)], narrowed := true }
def ViewBesideUptoSaid : Prop := viewBesideUptoRow.holds Tryz.pinned (OpenSpec.upto viewBesideSpec)

/-- 'quillworklaw18.ViewPlaces', WHERE WHAT IT READS IS OF BULK AT MOST 1048576: true; the input reads as it did. -/
def viewPlacesUptoRow : OpenClaim := { program := "ytjpgffihafknlaagreatdoor", sum := "86888ee78840e92a37578366ce4c746f38bf19a43d1c9e565b0237a970bf8f0c", func := "quillwork/quillworklaw18.ViewPlaces", spec := "viewPlaces", inPlace := ["internal/bytealg.CountString", "internal/bytealg.IndexByteString", "internal/bytealg.IndexString", "internal/abi.NoEscape", "internal/bytealg.MakeNoZero"], unfollowed := true, recurses := true, named := ["unicode/utf8.first", "unicode/utf8.acceptRanges", "internal/bytealg.MaxLen"], loops := true, apart := false, laid := [("unicode/utf8.acceptRanges", laid_unicode_utf8_acceptRanges), ("unicode/utf8.first", laid_unicode_utf8_first)], narrowed := true }
def ViewPlacesUptoSaid : Prop := viewPlacesUptoRow.holds Tryz.pinned (OpenSpec.upto viewPlacesSpec)

/-- 'quillworklaw18.ViewMay', WHERE WHAT IT READS IS OF BULK AT MOST 1048576: true; the input reads as it did. -/
def viewMayUptoRow : OpenClaim := { program := "ytjpgffihafknlaagreatdoor", sum := "86888ee78840e92a37578366ce4c746f38bf19a43d1c9e565b0237a970bf8f0c", func := "quillwork/quillworklaw18.ViewMay", spec := "viewMay", inPlace := ["internal/bytealg.CountString", "internal/bytealg.IndexByteString", "internal/bytealg.IndexString", "internal/abi.NoEscape", "internal/bytealg.MakeNoZero"], unfollowed := true, recurses := true, named := ["unicode/utf8.first", "unicode/utf8.acceptRanges", "internal/bytealg.MaxLen"], loops := true, apart := false, laid := [("unicode/utf8.acceptRanges", laid_unicode_utf8_acceptRanges), ("unicode/utf8.first", laid_unicode_utf8_first)], narrowed := true }
def ViewMayUptoSaid : Prop := viewMayUptoRow.holds Tryz.pinned (OpenSpec.upto viewMaySpec)

/-- 'quillworklaw18.ViewOrder', WHERE WHAT IT READS IS OF BULK AT MOST 1048576: true; the input reads as it did. -/
def viewOrderUptoRow : OpenClaim := { program := "ytjpgffihafknlaagreatdoor", sum := "86888ee78840e92a37578366ce4c746f38bf19a43d1c9e565b0237a970bf8f0c", func := "quillwork/quillworklaw18.ViewOrder", spec := "viewOrder", inPlace := ["internal/bytealg.CountString", "internal/bytealg.IndexByteString", "internal/bytealg.IndexString", "internal/abi.NoEscape", "internal/bytealg.MakeNoZero"], unfollowed := true, recurses := true, named := ["unicode/utf8.first", "unicode/utf8.acceptRanges", "internal/bytealg.MaxLen"], loops := true, apart := false, laid := [("unicode/utf8.acceptRanges", laid_unicode_utf8_acceptRanges), ("unicode/utf8.first", laid_unicode_utf8_first)], narrowed := true }
def ViewOrderUptoSaid : Prop := viewOrderUptoRow.holds Tryz.pinned (OpenSpec.upto viewOrderSpec)

/-- 'quillworklaw19.RenderBack', WHERE WHAT IT READS IS OF BULK AT MOST 1048576: true; the input reads as it did. -/
def renderBackUptoRow : OpenClaim := { program := "ytjpgffihafknlaagreatdoor", sum := "86888ee78840e92a37578366ce4c746f38bf19a43d1c9e565b0237a970bf8f0c", func := "quillwork/quillworklaw19.RenderBack", spec := "renderBack", inPlace := ["internal/bytealg.IndexByteString", "internal/bytealg.IndexString", "internal/abi.NoEscape", "internal/bytealg.MakeNoZero", "internal/bytealg.CountString"], unfollowed := true, recurses := true, named := ["internal/bytealg.MaxLen", "unicode/utf8.first", "unicode/utf8.acceptRanges"], apart := false, laid := [("unicode/utf8.acceptRanges", laid_unicode_utf8_acceptRanges), ("unicode/utf8.first", laid_unicode_utf8_first)], narrowed := true }
def RenderBackUptoSaid : Prop := renderBackUptoRow.holds Tryz.pinned (OpenSpec.upto renderBackSpec)

end Rows
end Go.Proofs.YtjpgffihafknlaaGreatDoor
