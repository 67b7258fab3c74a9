/-
  NARROWER THAN 'FOR EVERY INPUT', by the rows' own cells (each row's printed sentence says how): DocPlaces: laid · DocSets: laid · DocStyles: laid · DocSame: laid · DocParts: laid · DocCuts: laid · DocBack: laid.
  DERIVED. THE GIVEN ROWS OF THIS SEAT. 7 by the template 'for every input the law returns true; each argument reads behind the call as it read before'; 0 by the template 'total and deterministic' (their statements: YtfoiaoopbkcpoaaGreatDoorTotals.lean).
  GIVEN WITH THE SEED: the statements are not yours to turn. If you find one false, say at which input.
  Laid BY PROGRAM, IN A SANDBOX (cutbox-rows.mjs): the forced cells as the released guide's own fill.sh prints them over the translation 0005f65695283442… (all of the seat's roots in one cut). By AI agents, Wed Nov 11 2026. No macro, syntax, notation, axiom, sorry.
-/
import Derived.Test.YtfoiaoopbkcpoaaGreatDoorChecked
import GoSem.PinnedTables
import GoSem.Claim
import GoSem.ClaimJoined
import GoSem.ClaimMapViews
import Derived.JoinedTies
import Derived.KernelRfl
namespace Go.Proofs.YtfoiaoopbkcpoaaGreatDoor
/- THE CELL 'sum', in the pinned program and in every row, IS THE sha256 OF THE DUMP (.gsa) THAT YtfoiaoopbkcpoaaGreatDoorProg.lean LOADS. Nothing in Lean hashes anything: it is a label: what it is worth is what the hold of that sum in a sandbox is worth. -/
noncomputable def Tryz.pinned : Pinned := { name := "ytfoiaoopbkcpoaagreatdoor", sum := "0005f656952834422f3523d4cd6d9bc003158982b577ca0463e8ecfd5c59c675", checked := Tryz.checked }
namespace Rows
def none {H : Type} : Left H := { results := [], args := [] }

/- WHAT THE LISTED PACKAGE-LEVEL VARIABLES READ AS WHEN THE CALL BEGINS. Each datum BY PROGRAM (the guide's laid-datum.mjs) off the statement by which the dump's own 'gosem.cut.vars' lays the variable. In a bare row this is a premise. The card (YtfoiaoopbkcpoaaGreatDoorCards.lean) ties it to the program's text. -/
def laid_unicode_utf8_acceptRanges {H : Type} : DataW H := .agg [.agg [.lit (.int .u8 128), .lit (.int .u8 191)], .agg [.lit (.int .u8 160), .lit (.int .u8 191)], .agg [.lit (.int .u8 128), .lit (.int .u8 159)], .agg [.lit (.int .u8 144), .lit (.int .u8 191)], .agg [.lit (.int .u8 128), .lit (.int .u8 143)], .agg [.lit (.int .u8 0), .lit (.int .u8 0)], .agg [.lit (.int .u8 0), .lit (.int .u8 0)], .agg [.lit (.int .u8 0), .lit (.int .u8 0)], .agg [.lit (.int .u8 0), .lit (.int .u8 0)], .agg [.lit (.int .u8 0), .lit (.int .u8 0)], .agg [.lit (.int .u8 0), .lit (.int .u8 0)], .agg [.lit (.int .u8 0), .lit (.int .u8 0)], .agg [.lit (.int .u8 0), .lit (.int .u8 0)], .agg [.lit (.int .u8 0), .lit (.int .u8 0)], .agg [.lit (.int .u8 0), .lit (.int .u8 0)], .agg [.lit (.int .u8 0), .lit (.int .u8 0)]]
/-- One of Go's own tables, pinned by name: the form's constant. -/
def laid_unicode_utf8_first : DataW Unit := Go.Pinned.utf8First

/-- 'quillworklaw07.DocPlaces': WHATEVER THE INPUT: true; the input reads as it did. -/
def docPlacesSpec : ChangeSpec := { name := "docPlaces", fn := fun _ => fun
  | [d1, d2, d3, d4, d5] => { results := [.lit (.bool true)], args := [d1, d2, d3, d4, d5] }
  | _ => none }
def docPlacesRow : OpenClaim := { program := "ytfoiaoopbkcpoaagreatdoor", sum := "0005f656952834422f3523d4cd6d9bc003158982b577ca0463e8ecfd5c59c675", func := "quillwork/quillworklaw07.DocPlaces", spec := "docPlaces", inPlace := ["internal/bytealg.IndexByteString", "internal/bytealg.IndexString", "internal/abi.NoEscape", "internal/bytealg.MakeNoZero", "slices.overlaps[quillwork/api.Line]"], unfollowed := true, recurses := true, named := ["internal/bytealg.MaxLen", "unicode/utf8.first", "unicode/utf8.acceptRanges"], apart := false, laid := [("unicode/utf8.acceptRanges", laid_unicode_utf8_acceptRanges), ("unicode/utf8.first", laid_unicode_utf8_first)] }
def DocPlacesSaid : Prop := docPlacesRow.holds Tryz.pinned (OpenSpec.ofChange docPlacesSpec)

/-- ITS FALSE NEIGHBOUR: 'it returns false'. Refute it at one input. -/
def docPlacesWrong : ChangeSpec := { name := "docPlaces", fn := fun _ => fun
  | [d1, d2, d3, d4, d5] => { results := [.lit (.bool false)], args := [d1, d2, d3, d4, d5] }
  | _ => none }
def DocPlacesWrongFalsely : Prop := docPlacesRow.holds Tryz.pinned (OpenSpec.ofChange docPlacesWrong)

/-- 'quillworklaw07.DocSets': WHATEVER THE INPUT: true; the input reads as it did. -/
def docSetsSpec : ChangeSpec := { name := "docSets", fn := fun _ => fun
  | [d1, d2, d3, d4, d5, d6] => { results := [.lit (.bool true)], args := [d1, d2, d3, d4, d5, d6] }
  | _ => none }
def docSetsRow : OpenClaim := { program := "ytfoiaoopbkcpoaagreatdoor", sum := "0005f656952834422f3523d4cd6d9bc003158982b577ca0463e8ecfd5c59c675", func := "quillwork/quillworklaw07.DocSets", spec := "docSets", inPlace := ["internal/bytealg.IndexByteString", "internal/bytealg.IndexString", "internal/abi.NoEscape", "internal/bytealg.MakeNoZero", "slices.overlaps[quillwork/api.Line]"], unfollowed := true, recurses := true, named := ["internal/bytealg.MaxLen", "unicode/utf8.first", "unicode/utf8.acceptRanges"], apart := false, laid := [("unicode/utf8.acceptRanges", laid_unicode_utf8_acceptRanges), ("unicode/utf8.first", laid_unicode_utf8_first)] }
def DocSetsSaid : Prop := docSetsRow.holds Tryz.pinned (OpenSpec.ofChange docSetsSpec)

/-- ITS FALSE NEIGHBOUR: 'it returns false'. Refute it at one input. -/
def docSetsWrong : ChangeSpec := { name := "docSets", fn := fun _ => fun
  | [d1, d2, d3, d4, d5, d6] => { results := [.lit (.bool false)], args := [d1, d2, d3, d4, d5, d6] }
  | _ => none }
def DocSetsWrongFalsely : Prop := docSetsRow.holds Tryz.pinned (OpenSpec.ofChange docSetsWrong)

/-- 'quillworklaw07.DocStyles': WHATEVER THE INPUT: true; the input reads as it did. -/
def docStylesSpec : ChangeSpec := { name := "docStyles", fn := fun _ => fun
  | [d1, d2, d3, d4, d5] => { results := [.lit (.bool true)], args := [d1, d2, d3, d4, d5] }
  | _ => none }
def docStylesRow : OpenClaim := { program := "ytfoiaoopbkcpoaagreatdoor", sum := "0005f656952834422f3523d4cd6d9bc003158982b577ca0463e8ecfd5c59c675", func := "quillwork/quillworklaw07.DocStyles", spec := "docStyles", inPlace := ["internal/bytealg.IndexByteString", "internal/bytealg.IndexString", "internal/abi.NoEscape", "internal/bytealg.MakeNoZero", "slices.overlaps[quillwork/api.Line]"], unfollowed := true, recurses := true, named := ["internal/bytealg.MaxLen", "unicode/utf8.first", "unicode/utf8.acceptRanges"], apart := false, laid := [("unicode/utf8.acceptRanges", laid_unicode_utf8_acceptRanges), ("unicode/utf8.first", laid_unicode_utf8_first)] }
def DocStylesSaid : Prop := docStylesRow.holds Tryz.pinned (OpenSpec.ofChange docStylesSpec)

/-- ITS FALSE NEIGHBOUR: 'it returns false'. Refute it at one input. -/
def docStylesWrong : ChangeSpec := { name := "docStyles", fn := fun _ => fun
  | [d1, d2, d3, d4, d5] => { results := [.lit (.bool false)], args := [d1, d2, d3, d4, d5] }
  | _ => none }
def DocStylesWrongFalsely : Prop := docStylesRow.holds Tryz.pinned (OpenSpec.ofChange docStylesWrong)

/-- 'quillworklaw07.DocSame': WHATEVER THE INPUT: true; the input reads as it did. -/
def docSameSpec : ChangeSpec := { name := "docSame", fn := fun _ => fun
  | [d1, d2] => { results := [.lit (.bool true)], args := [d1, d2] }
  | _ => none }
def docSameRow : OpenClaim := { program := "ytfoiaoopbkcpoaagreatdoor", sum := "0005f656952834422f3523d4cd6d9bc003158982b577ca0463e8ecfd5c59c675", func := "quillwork/quillworklaw07.DocSame", spec := "docSame", inPlace := ["internal/bytealg.IndexByteString", "internal/bytealg.IndexString", "internal/abi.NoEscape", "internal/bytealg.MakeNoZero", "slices.overlaps[quillwork/api.Line]"], unfollowed := true, recurses := true, named := ["internal/bytealg.MaxLen", "unicode/utf8.first", "unicode/utf8.acceptRanges"], apart := false, laid := [("unicode/utf8.acceptRanges", laid_unicode_utf8_acceptRanges), ("unicode/utf8.first", laid_unicode_utf8_first)] }
def DocSameSaid : Prop := docSameRow.holds Tryz.pinned (OpenSpec.ofChange docSameSpec)

/-- ITS FALSE NEIGHBOUR: 'it returns false'. Refute it at one input. -/
def docSameWrong : ChangeSpec := { name := "docSame", fn := fun _ => fun
  | [d1, d2] => { results := [.lit (.bool false)], args := [d1, d2] }
  | _ => none }
def DocSameWrongFalsely : Prop := docSameRow.holds Tryz.pinned (OpenSpec.ofChange docSameWrong)

/-- 'quillworklaw07.DocParts': WHATEVER THE INPUT: true; the input reads as it did. -/
def docPartsSpec : ChangeSpec := { name := "docParts", fn := fun _ => fun
  | [d1, d2, d3, d4] => { results := [.lit (.bool true)], args := [d1, d2, d3, d4] }
  | _ => none }
def docPartsRow : OpenClaim := { program := "ytfoiaoopbkcpoaagreatdoor", sum := "0005f656952834422f3523d4cd6d9bc003158982b577ca0463e8ecfd5c59c675", func := "quillwork/quillworklaw07.DocParts", spec := "docParts", inPlace := ["internal/bytealg.IndexByteString", "internal/bytealg.IndexString", "internal/abi.NoEscape", "internal/bytealg.MakeNoZero", "slices.overlaps[quillwork/api.Line]"], unfollowed := true, recurses := true, named := ["internal/bytealg.MaxLen", "unicode/utf8.first", "unicode/utf8.acceptRanges"], apart := false, laid := [("unicode/utf8.acceptRanges", laid_unicode_utf8_acceptRanges), ("unicode/utf8.first", laid_unicode_utf8_first)] }
def DocPartsSaid : Prop := docPartsRow.holds Tryz.pinned (OpenSpec.ofChange docPartsSpec)

/-- ITS FALSE NEIGHBOUR: 'it returns false'. Refute it at one input. -/
def docPartsWrong : ChangeSpec := { name := "docParts", fn := fun _ => fun
  | [d1, d2, d3, d4] => { results := [.lit (.bool false)], args := [d1, d2, d3, d4] }
  | _ => none }
def DocPartsWrongFalsely : Prop := docPartsRow.holds Tryz.pinned (OpenSpec.ofChange docPartsWrong)

/-- 'quillworklaw07.DocCuts': WHATEVER THE INPUT: true; the input reads as it did. -/
def docCutsSpec : ChangeSpec := { name := "docCuts", fn := fun _ => fun
  | [d1, d2, d3, d4] => { results := [.lit (.bool true)], args := [d1, d2, d3, d4] }
  | _ => none }
def docCutsRow : OpenClaim := { program := "ytfoiaoopbkcpoaagreatdoor", sum := "0005f656952834422f3523d4cd6d9bc003158982b577ca0463e8ecfd5c59c675", func := "quillwork/quillworklaw07.DocCuts", spec := "docCuts", inPlace := ["internal/bytealg.IndexByteString", "internal/bytealg.IndexString", "internal/abi.NoEscape", "internal/bytealg.MakeNoZero", "slices.overlaps[quillwork/api.Line]"], unfollowed := true, recurses := true, named := ["internal/bytealg.MaxLen", "unicode/utf8.first", "unicode/utf8.acceptRanges"], apart := false, laid := [("unicode/utf8.acceptRanges", laid_unicode_utf8_acceptRanges), ("unicode/utf8.first", laid_unicode_utf8_first)] }
def DocCutsSaid : Prop := docCutsRow.holds Tryz.pinned (OpenSpec.ofChange docCutsSpec)

/-- ITS FALSE NEIGHBOUR: 'it returns false'. Refute it at one input. -/
def docCutsWrong : ChangeSpec := { name := "docCuts", fn := fun _ => fun
  | [d1, d2, d3, d4] => { results := [.lit (.bool false)], args := [d1, d2, d3, d4] }
  | _ => none }
def DocCutsWrongFalsely : Prop := docCutsRow.holds Tryz.pinned (OpenSpec.ofChange docCutsWrong)

/-- 'quillworklaw07.DocBack': WHATEVER THE INPUT: true; the input reads as it did. -/
def docBackSpec : ChangeSpec := { name := "docBack", fn := fun _ => fun
  | [d1, d2, d3, d4] => { results := [.lit (.bool true)], args := [d1, d2, d3, d4] }
  | _ => none }
def docBackRow : OpenClaim := { program := "ytfoiaoopbkcpoaagreatdoor", sum := "0005f656952834422f3523d4cd6d9bc003158982b577ca0463e8ecfd5c59c675", func := "quillwork/quillworklaw07.DocBack", spec := "docBack", inPlace := ["internal/bytealg.IndexByteString", "internal/bytealg.IndexString", "internal/abi.NoEscape", "internal/bytealg.MakeNoZero", "slices.overlaps[quillwork/api.Line]"], unfollowed := true, recurses := true, named := ["internal/bytealg.MaxLen", "unicode/utf8.first", "unicode/utf8.acceptRanges"], apart := false, laid := [("unicode/utf8.acceptRanges", laid_unicode_utf8_acceptRanges), ("unicode/utf8.first", laid_unicode_utf8_first)] }
def DocBackSaid : Prop := docBackRow.holds Tryz.pinned (OpenSpec.ofChange docBackSpec)

/-- ITS FALSE NEIGHBOUR: 'it returns false'. Refute it at one input. -/
def docBackWrong : ChangeSpec := { name := "docBack", fn := fun _ => fun
  | [d1, d2, d3, d4] => { results := [.lit (.bool false)], args := [d1, d2, d3, d4] }
  | _ => none }
def DocBackWrongFalsely : Prop := docBackRow.holds Tryz.pinned (OpenSpec.ofChange docBackWrong)

/- THE SECOND FORM. 'bulk': how many values and letters a reading holds, each counted each time it is reached (what is shared counts as often as it is met; a slice's spare places count too). A statement '..UptoSaid' is the law's where the arguments, and the package variables that the reading takes, are together of bulk at most 1048576: NARROWER than '..Said'. Prove '..Said' where nothing that the law and all that it calls make is longer than what came in: it says more and counts as full. Else prove '..UptoSaid'. A law counts once. -/
mutual
def uptoBulk {H : Type} : DataW H → Nat
  | .lit (.string bytes) => bytes.length + 1
  | .lit _ => 1
  | .nil => 1
  | .ptr d => uptoBulk d + 1
  | .slice elems spare => uptoBulkAll elems + uptoBulkAll spare + 1
  | .agg parts => uptoBulkAll parts + 1
  | .iface _ d => uptoBulk d + 1
  | .map entries => uptoBulkEntries entries + 1
  | .held _ => 1
def uptoBulkAll {H : Type} : List (DataW H) → Nat
  | [] => 0
  | d :: r => uptoBulk d + uptoBulkAll r
def uptoBulkEntries {H : Type} : List (Lit × DataW H) → Nat
  | [] => 0
  | x :: r => uptoBulkEntry x + uptoBulkEntries r
def uptoBulkEntry {H : Type} : Lit × DataW H → Nat
  | (.string bytes, d) => bytes.length + uptoBulk d + 1
  | (_, d) => uptoBulk d + 1
 end
def uptoSmall : (H : Type) → List (DataW H) → Bool := fun _ ds => decide (uptoBulkAll ds ≤ 1048576)
def OpenSpec.upto (s : _root_.Go.ChangeSpec) : _root_.Go.OpenSpec := { _root_.Go.OpenSpec.ofChange s with cond := some uptoSmall }

/-- 'quillworklaw07.DocPlaces', WHERE WHAT IT READS IS OF BULK AT MOST 1048576: true; the input reads as it did. -/
def docPlacesUptoRow : OpenClaim := { program := "ytfoiaoopbkcpoaagreatdoor", sum := "0005f656952834422f3523d4cd6d9bc003158982b577ca0463e8ecfd5c59c675", func := "quillwork/quillworklaw07.DocPlaces", spec := "docPlaces", inPlace := ["internal/bytealg.IndexByteString", "internal/bytealg.IndexString", "internal/abi.NoEscape", "internal/bytealg.MakeNoZero", "slices.overlaps[quillwork/api.Line]"], unfollowed := true, recurses := true, named := ["internal/bytealg.MaxLen", "unicode/utf8.first", "unicode/utf8.acceptRanges"], apart := false, laid := [("unicode/utf8.acceptRanges", laid_unicode_utf8_acceptRanges), ("unicode/utf8.first", laid_unicode_utf8_first)], narrowed := true }
def DocPlacesUptoSaid : Prop := docPlacesUptoRow.holds Tryz.pinned (OpenSpec.upto docPlacesSpec)

/-- 'quillworklaw07.DocSets', WHERE WHAT IT READS IS OF BULK AT MOST 1048576: true; the input reads as it did. -/
def docSetsUptoRow : OpenClaim := { program := "ytfoiaoopbkcpoaagreatdoor", sum := "0005f656952834422f3523d4cd6d9bc003158982b577ca0463e8ecfd5c59c675", func := "quillwork/quillworklaw07.DocSets", spec := "docSets", inPlace := ["internal/bytealg.IndexByteString", "internal/bytealg.IndexString", "internal/abi.NoEscape", "internal/bytealg.MakeNoZero", "slices.overlaps[quillwork/api.Line]"], unfollowed := true, recurses := true, named := ["internal/bytealg.MaxLen", "unicode/utf8.first", "unicode/utf8.acceptRanges"], apart := false, laid := [("unicode/utf8.acceptRanges", laid_unicode_utf8_acceptRanges), ("unicode/utf8.first", laid_unicode_utf8_first)], narrowed := true }
def DocSetsUptoSaid : Prop := docSetsUptoRow.holds Tryz.pinned (OpenSpec.upto docSetsSpec)

/-- 'quillworklaw07.DocStyles', WHERE WHAT IT READS IS OF BULK AT MOST 1048576: true; the input reads as it did. -/
def docStylesUptoRow : OpenClaim := { program := "ytfoiaoopbkcpoaagreatdoor", sum := "0005f656952834422f3523d4cd6d9bc003158982b577ca0463e8ecfd5c59c675", func := "quillwork/quillworklaw07.DocStyles", spec := "docStyles", inPlace := ["internal/bytealg.IndexByteString", "internal/bytealg.IndexString", "internal/abi.NoEscape", "internal/bytealg.MakeNoZero", "slices.overlaps[quillwork/api.Line]"], unfollowed := true, recurses := true, named := ["internal/bytealg.MaxLen", "unicode/utf8.first", "unicode/utf8.acceptRanges"], apart := false, laid := [("unicode/utf8.acceptRanges", laid_unicode_utf8_acceptRanges), ("unicode/utf8.first", laid_unicode_utf8_first)], narrowed := true }
def DocStylesUptoSaid : Prop := docStylesUptoRow.holds Tryz.pinned (OpenSpec.upto docStylesSpec)

/-- 'quillworklaw07.DocSame', WHERE WHAT IT READS IS OF BULK AT MOST 1048576: true; the input reads as it did. -/
def docSameUptoRow : OpenClaim := { program := "ytfoiaoopbkcpoaagreatdoor", sum := "0005f656952834422f3523d4cd6d9bc003158982b577ca0463e8ecfd5c59c675", func := "quillwork/quillworklaw07.DocSame", spec := "docSame", inPlace := ["internal/bytealg.IndexByteString", "internal/bytealg.IndexString", "internal/abi.NoEscape", "internal/bytealg.MakeNoZero", "slices.overlaps[quillwork/api.Line]"], unfollowed := true, recurses := true, named := ["internal/bytealg.MaxLen", "unicode/utf8.first", "unicode/utf8.acceptRanges"], apart := false, laid := [("unicode/utf8.acceptRanges", laid_unicode_utf8_acceptRanges), ("unicode/utf8.first", laid_unicode_utf8_first)], narrowed := true }
def DocSameUptoSaid : Prop := docSameUptoRow.holds Tryz.pinned (OpenSpec.upto docSameSpec)

/-- 'quillworklaw07.DocParts', WHERE WHAT IT READS IS OF BULK AT MOST 1048576: true; the input reads as it did. -/
def docPartsUptoRow : OpenClaim := { program := "ytfoiaoopbkcpoaagreatdoor", sum := "0005f656952834422f3523d4cd6d9bc003158982b577ca0463e8ecfd5c59c675", func := "quillwork/quillworklaw07.DocParts", spec := "docParts", inPlace := ["internal/bytealg.IndexByteString", "internal/bytealg.IndexString", "internal/abi.NoEscape", "internal/bytealg.MakeNoZero", "slices.overlaps[quillwork/api.Line]"], unfollowed := true, recurses := true, named := ["internal/bytealg.MaxLen", "unicode/utf8.first", "unicode/utf8.acceptRanges"], apart := false, laid := [("unicode/utf8.acceptRanges", laid_unicode_utf8_acceptRanges), ("unicode/utf8.first", laid_unicode_utf8_first)], narrowed := true }
def DocPartsUptoSaid : Prop := docPartsUptoRow.holds Tryz.pinned (OpenSpec.upto docPartsSpec)

/-- 'quillworklaw07.DocCuts', WHERE WHAT IT READS IS OF BULK AT MOST 1048576: true; the input reads as it did. -/
def docCutsUptoRow : OpenClaim := { program := "ytfoiaoopbkcpoaagreatdoor", sum := "0005f656952834422f3523d4cd6d9bc003158982b577ca0463e8ecfd5c59c675", func := "quillwork/quillworklaw07.DocCuts", spec := "docCuts", inPlace := ["internal/bytealg.IndexByteString", "internal/bytealg.IndexString", "internal/abi.NoEscape", "internal/bytealg.MakeNoZero", "slices.overlaps[quillwork/api.Line]"], unfollowed := true, recurses := true, named := ["internal/bytealg.MaxLen", "unicode/utf8.first", "unicode/utf8.acceptRanges"], apart := false, laid := [("unicode/utf8.acceptRanges", laid_unicode_utf8_acceptRanges), ("unicode/utf8.first", laid_unicode_utf8_first)], narrowed := true }
def DocCutsUptoSaid : Prop := docCutsUptoRow.holds Tryz.pinned (OpenSpec.upto docCutsSpec)

/-- 'quillworklaw07.DocBack', WHERE WHAT IT READS IS OF BULK AT MOST 1048576: true; the input reads as it did. -/
def docBackUptoRow : OpenClaim := { program := "ytfoiaoopbkcpoaagreatdoor", sum := "0005f656952834422f3523d4cd6d9bc003158982b577ca0463e8ecfd5c59c675", func := "quillwork/quillworklaw07.DocBack", spec := "docBack", inPlace := ["internal/bytealg.IndexByteString", "internal/bytealg.IndexString", "internal/abi.NoEscape", "internal/bytealg.MakeNoZero", "slices.overlaps[quillwork/api.Line]"], unfollowed := true, recurses := true, named := ["internal/bytealg.MaxLen", "unicode/utf8.first", "unicode/utf8.acceptRanges"], apart := false, laid := [("unicode/utf8.acceptRanges", laid_unicode_utf8_acceptRanges), ("unicode/utf8.first", laid_unicode_utf8_first)], narrowed := true }
def DocBackUptoSaid : Prop := docBackUptoRow.holds Tryz.pinned (OpenSpec.upto docBackSpec)

end Rows
end Go.Proofs.YtfoiaoopbkcpoaaGreatDoor
