/-
  NARROWER THAN 'FOR EVERY INPUT', by the rows' own cells (each row's printed sentence says how): CssParses: laid · CssPrints: laid · CssBack: laid · CssLater: laid · CssOver: laid.
  DERIVED. THE GIVEN ROWS OF THIS SEAT. 5 by the template 'for every input the law returns true; each argument reads behind the call as it read before'; 0 by the template 'total and deterministic' (their statements: YtcpenjbacgjjeaaDoorTotals.lean).
  GIVEN WITH THE SEED: the statements are not yours to turn. If you find one false, say at which input.
  Laid BY PROGRAM, IN A SANDBOX (cutbox-rows.mjs): the forced cells as the released guide's own fill.sh prints them over the translation 417346c1f280c529… (all of the seat's roots in one cut). By AI agents, Wed Nov 11 2026. No macro, syntax, notation, axiom, sorry.
-/
import Derived.Test.YtcpenjbacgjjeaaDoorChecked
import GoSem.PinnedTables
import GoSem.Claim
import GoSem.ClaimJoined
import GoSem.ClaimMapViews
import Derived.JoinedTies
import Derived.KernelRfl
namespace Go.Proofs.YtcpenjbacgjjeaaDoor
/- THE CELL 'sum', in the pinned program and in every row, IS THE sha256 OF THE DUMP (.gsa) THAT YtcpenjbacgjjeaaDoorProg.lean LOADS. Nothing in Lean hashes anything: it is a label: what it is worth is what the hold of that sum in a sandbox is worth. -/
noncomputable def Tryd.pinned : Pinned := { name := "ytcpenjbacgjjeaadoor", sum := "417346c1f280c52992b6ae9c6ab91398d5a2814598878ff78dc32933e9ebf3ff", checked := Tryd.checked }
namespace Rows
def none {H : Type} : Left H := { results := [], args := [] }

/- WHAT THE LISTED PACKAGE-LEVEL VARIABLES READ AS WHEN THE CALL BEGINS. Each datum BY PROGRAM (the guide's laid-datum.mjs) off the statement by which the dump's own 'gosem.cut.vars' lays the variable. In a bare row this is a premise. The card (YtcpenjbacgjjeaaDoorCards.lean) ties it to the program's text. -/
def laid_unicode_utf8_acceptRanges {H : Type} : DataW H := .agg [.agg [.lit (.int .u8 128), .lit (.int .u8 191)], .agg [.lit (.int .u8 160), .lit (.int .u8 191)], .agg [.lit (.int .u8 128), .lit (.int .u8 159)], .agg [.lit (.int .u8 144), .lit (.int .u8 191)], .agg [.lit (.int .u8 128), .lit (.int .u8 143)], .agg [.lit (.int .u8 0), .lit (.int .u8 0)], .agg [.lit (.int .u8 0), .lit (.int .u8 0)], .agg [.lit (.int .u8 0), .lit (.int .u8 0)], .agg [.lit (.int .u8 0), .lit (.int .u8 0)], .agg [.lit (.int .u8 0), .lit (.int .u8 0)], .agg [.lit (.int .u8 0), .lit (.int .u8 0)], .agg [.lit (.int .u8 0), .lit (.int .u8 0)], .agg [.lit (.int .u8 0), .lit (.int .u8 0)], .agg [.lit (.int .u8 0), .lit (.int .u8 0)], .agg [.lit (.int .u8 0), .lit (.int .u8 0)], .agg [.lit (.int .u8 0), .lit (.int .u8 0)]]
/-- One of Go's own tables, pinned by name: the form's constant. -/
def laid_unicode_utf8_first : DataW Unit := Go.Pinned.utf8First

/-- 'quillworklaw04.CssParses': WHATEVER THE INPUT: true; the input reads as it did. -/
def cssParsesSpec : ChangeSpec := { name := "cssParses", fn := fun _ => fun
  | [d] => { results := [.lit (.bool true)], args := [d] }
  | _ => none }
def cssParsesRow : OpenClaim := { program := "ytcpenjbacgjjeaadoor", sum := "417346c1f280c52992b6ae9c6ab91398d5a2814598878ff78dc32933e9ebf3ff", func := "quillwork/quillworklaw04.CssParses", spec := "cssParses", inPlace := ["internal/bytealg.CountString", "internal/bytealg.IndexByteString", "internal/bytealg.IndexString", "internal/abi.NoEscape", "internal/bytealg.MakeNoZero"], unfollowed := true, recurses := true, named := ["unicode/utf8.first", "unicode/utf8.acceptRanges", "internal/bytealg.MaxLen"], apart := false, laid := [("unicode/utf8.acceptRanges", laid_unicode_utf8_acceptRanges), ("unicode/utf8.first", laid_unicode_utf8_first)] }
def CssParsesSaid : Prop := cssParsesRow.holds Tryd.pinned (OpenSpec.ofChange cssParsesSpec)

/-- ITS FALSE NEIGHBOUR: 'it returns false'. Refute it at one input. -/
def cssParsesWrong : ChangeSpec := { name := "cssParses", fn := fun _ => fun
  | [d] => { results := [.lit (.bool false)], args := [d] }
  | _ => none }
def CssParsesWrongFalsely : Prop := cssParsesRow.holds Tryd.pinned (OpenSpec.ofChange cssParsesWrong)

/-- 'quillworklaw04.CssPrints': WHATEVER THE INPUT: true; the input reads as it did. -/
def cssPrintsSpec : ChangeSpec := { name := "cssPrints", fn := fun _ => fun
  | [d1, d2, d3] => { results := [.lit (.bool true)], args := [d1, d2, d3] }
  | _ => none }
def cssPrintsRow : OpenClaim := { program := "ytcpenjbacgjjeaadoor", sum := "417346c1f280c52992b6ae9c6ab91398d5a2814598878ff78dc32933e9ebf3ff", func := "quillwork/quillworklaw04.CssPrints", spec := "cssPrints", inPlace := ["internal/abi.NoEscape", "internal/bytealg.MakeNoZero", "internal/bytealg.CountString", "internal/bytealg.IndexByteString", "internal/bytealg.IndexString"], unfollowed := true, recurses := true, named := ["unicode/utf8.first", "unicode/utf8.acceptRanges", "internal/bytealg.MaxLen"], apart := false, laid := [("unicode/utf8.acceptRanges", laid_unicode_utf8_acceptRanges), ("unicode/utf8.first", laid_unicode_utf8_first)] }
def CssPrintsSaid : Prop := cssPrintsRow.holds Tryd.pinned (OpenSpec.ofChange cssPrintsSpec)

/-- ITS FALSE NEIGHBOUR: 'it returns false'. Refute it at one input. -/
def cssPrintsWrong : ChangeSpec := { name := "cssPrints", fn := fun _ => fun
  | [d1, d2, d3] => { results := [.lit (.bool false)], args := [d1, d2, d3] }
  | _ => none }
def CssPrintsWrongFalsely : Prop := cssPrintsRow.holds Tryd.pinned (OpenSpec.ofChange cssPrintsWrong)

/-- 'quillworklaw04.CssBack': WHATEVER THE INPUT: true; the input reads as it did. -/
def cssBackSpec : ChangeSpec := { name := "cssBack", fn := fun _ => fun
  | [d1, d2] => { results := [.lit (.bool true)], args := [d1, d2] }
  | _ => none }
def cssBackRow : OpenClaim := { program := "ytcpenjbacgjjeaadoor", sum := "417346c1f280c52992b6ae9c6ab91398d5a2814598878ff78dc32933e9ebf3ff", func := "quillwork/quillworklaw04.CssBack", spec := "cssBack", inPlace := ["internal/abi.NoEscape", "internal/bytealg.MakeNoZero", "internal/bytealg.CountString", "internal/bytealg.IndexByteString", "internal/bytealg.IndexString"], unfollowed := true, recurses := true, named := ["unicode/utf8.first", "unicode/utf8.acceptRanges", "internal/bytealg.MaxLen"], apart := false, laid := [("unicode/utf8.acceptRanges", laid_unicode_utf8_acceptRanges), ("unicode/utf8.first", laid_unicode_utf8_first)] }
def CssBackSaid : Prop := cssBackRow.holds Tryd.pinned (OpenSpec.ofChange cssBackSpec)

/-- ITS FALSE NEIGHBOUR: 'it returns false'. Refute it at one input. -/
def cssBackWrong : ChangeSpec := { name := "cssBack", fn := fun _ => fun
  | [d1, d2] => { results := [.lit (.bool false)], args := [d1, d2] }
  | _ => none }
def CssBackWrongFalsely : Prop := cssBackRow.holds Tryd.pinned (OpenSpec.ofChange cssBackWrong)

/-- 'quillworklaw04.CssLater': WHATEVER THE INPUT: true; the input reads as it did. -/
def cssLaterSpec : ChangeSpec := { name := "cssLater", fn := fun _ => fun
  | [d1, d2] => { results := [.lit (.bool true)], args := [d1, d2] }
  | _ => none }
def cssLaterRow : OpenClaim := { program := "ytcpenjbacgjjeaadoor", sum := "417346c1f280c52992b6ae9c6ab91398d5a2814598878ff78dc32933e9ebf3ff", func := "quillwork/quillworklaw04.CssLater", spec := "cssLater", inPlace := ["internal/bytealg.CountString", "internal/bytealg.IndexByteString", "internal/bytealg.IndexString", "internal/abi.NoEscape", "internal/bytealg.MakeNoZero"], unfollowed := true, recurses := true, named := ["unicode/utf8.first", "unicode/utf8.acceptRanges", "internal/bytealg.MaxLen"], apart := false, laid := [("unicode/utf8.acceptRanges", laid_unicode_utf8_acceptRanges), ("unicode/utf8.first", laid_unicode_utf8_first)] }
def CssLaterSaid : Prop := cssLaterRow.holds Tryd.pinned (OpenSpec.ofChange cssLaterSpec)

/-- ITS FALSE NEIGHBOUR: 'it returns false'. Refute it at one input. -/
def cssLaterWrong : ChangeSpec := { name := "cssLater", fn := fun _ => fun
  | [d1, d2] => { results := [.lit (.bool false)], args := [d1, d2] }
  | _ => none }
def CssLaterWrongFalsely : Prop := cssLaterRow.holds Tryd.pinned (OpenSpec.ofChange cssLaterWrong)

/-- 'quillworklaw04.CssOver': WHATEVER THE INPUT: true; the input reads as it did. -/
def cssOverSpec : ChangeSpec := { name := "cssOver", fn := fun _ => fun
  | [d1, d2, d3] => { results := [.lit (.bool true)], args := [d1, d2, d3] }
  | _ => none }
def cssOverRow : OpenClaim := { program := "ytcpenjbacgjjeaadoor", sum := "417346c1f280c52992b6ae9c6ab91398d5a2814598878ff78dc32933e9ebf3ff", func := "quillwork/quillworklaw04.CssOver", spec := "cssOver", inPlace := ["internal/bytealg.CountString", "internal/bytealg.IndexByteString", "internal/bytealg.IndexString", "internal/abi.NoEscape", "internal/bytealg.MakeNoZero"], unfollowed := true, recurses := true, named := ["unicode/utf8.first", "unicode/utf8.acceptRanges", "internal/bytealg.MaxLen"], apart := false, laid := [("unicode/utf8.acceptRanges", laid_unicode_utf8_acceptRanges), ("unicode/utf8.first", laid_unicode_utf8_first)] }
def CssOverSaid : Prop := cssOverRow.holds Tryd.pinned (OpenSpec.ofChange cssOverSpec)

/-- ITS FALSE NEIGHBOUR: 'it returns false'. Refute it at one input. -/
def cssOverWrong : ChangeSpec := { name := "cssOver", fn := fun _ => fun
  | [d1, d2, d3] => { results := [.lit (.bool false)], args := [d1, d2, d3] }
  | _ => none }
def CssOverWrongFalsely : Prop := cssOverRow.holds Tryd.pinned (OpenSpec.ofChange cssOverWrong)

/- THE SECOND FORM. 'bulk': how many values and letters a reading holds, each counted each time it is reached (what is shared counts as often as it is met; a slice's spare places count too). A statement '..UptoSaid' is the law's where the arguments, and the package variables that the reading takes, are together of bulk at most 1048576: NARROWER than '..Said'. Prove '..Said' where nothing that the law and all that it calls make is longer than what came in: it says more and counts as full. Else prove '..UptoSaid'. A law counts once. -/
mutual
def uptoBulk {H : Type} : DataW H → Nat
  | .lit (.string bytes) => bytes.length + 1
  | .lit _ => 1
  | .nil => 1
  | .ptr d => uptoBulk d + 1
  | .slice elems spare => uptoBulkAll elems + uptoBulkAll spare + 1
  | .agg parts => uptoBulkAll parts + 1
  | .iface _ d => uptoBulk d + 1
  | .map entries => uptoBulkEntries entries + 1
  | .held _ => 1
def uptoBulkAll {H : Type} : List (DataW H) → Nat
  | [] => 0
  | d :: r => uptoBulk d + uptoBulkAll r
def uptoBulkEntries {H : Type} : List (Lit × DataW H) → Nat
  | [] => 0
  | x :: r => uptoBulkEntry x + uptoBulkEntries r
def uptoBulkEntry {H : Type} : Lit × DataW H → Nat
  | (.string bytes, d) => bytes.length + uptoBulk d + 1
  | (_, d) => uptoBulk d + 1
 end
def uptoSmall : (H : Type) → List (DataW H) → Bool := fun _ ds => decide (uptoBulkAll ds ≤ 1048576)
def OpenSpec.upto (s : _root_.Go.ChangeSpec) : _root_.Go.OpenSpec := { _root_.Go.OpenSpec.ofChange s with cond := some uptoSmall }

/-- 'quillworklaw04.CssParses', WHERE WHAT IT READS IS OF BULK AT MOST 1048576: true; the input reads as it did. -/
def cssParsesUptoRow : OpenClaim := { program := "ytcpenjbacgjjeaadoor", sum := "417346c1f280c52992b6ae9c6ab91398d5a2814598878ff78dc32933e9ebf3ff", func := "quillwork/quillworklaw04.CssParses", spec := "cssParses", inPlace := ["internal/bytealg.CountString", "internal/bytealg.IndexByteString", "internal/bytealg.IndexString", "internal/abi.NoEscape", "internal/bytealg.MakeNoZero"], unfollowed := true, recurses := true, named := ["unicode/utf8.first", "unicode/utf8.acceptRanges", "internal/bytealg.MaxLen"], apart := false, laid := [("unicode/utf8.acceptRanges", laid_unicode_utf8_acceptRanges), ("unicode/utf8.first", laid_unicode_utf8_first)], narrowed := true }
def CssParsesUptoSaid : Prop := cssParsesUptoRow.holds Tryd.pinned (OpenSpec.upto cssParsesSpec)

/-- 'quillworklaw04.CssPrints', WHERE WHAT IT READS IS OF BULK AT MOST 1048576: true; the input reads as it did. -/
def cssPrintsUptoRow : OpenClaim := { program := "ytcpenjbacgjjeaadoor", sum := "417346c1f280c52992b6ae9c6ab91398d5a2814598878ff78dc32933e9ebf3ff", func := "quillwork/quillworklaw04.CssPrints", spec := "cssPrints", inPlace := ["internal/abi.NoEscape", "internal/bytealg.MakeNoZero", "internal/bytealg.CountString", "internal/bytealg.IndexByteString", "internal/bytealg.IndexString"], unfollowed := true, recurses := true, named := ["unicode/utf8.first", "unicode/utf8.acceptRanges", "internal/bytealg.MaxLen"], apart := false, laid := [("unicode/utf8.acceptRanges", laid_unicode_utf8_acceptRanges), ("unicode/utf8.first", laid_unicode_utf8_first)], narrowed := true }
def CssPrintsUptoSaid : Prop := cssPrintsUptoRow.holds Tryd.pinned (OpenSpec.upto cssPrintsSpec)

/-- 'quillworklaw04.CssBack', WHERE WHAT IT READS IS OF BULK AT MOST 1048576: true; the input reads as it did. -/
def cssBackUptoRow : OpenClaim := { program := "ytcpenjbacgjjeaadoor", sum := "417346c1f280c52992b6ae9c6ab91398d5a2814598878ff78dc32933e9ebf3ff", func := "quillwork/quillworklaw04.CssBack", spec := "cssBack", inPlace := ["internal/abi.NoEscape", "internal/bytealg.MakeNoZero", "internal/bytealg.CountString", "internal/bytealg.IndexByteString", "internal/bytealg.IndexString"], unfollowed := true, recurses := true, named := ["unicode/utf8.first", "unicode/utf8.acceptRanges", "internal/bytealg.MaxLen"], apart := false, laid := [("unicode/utf8.acceptRanges", laid_unicode_utf8_acceptRanges), ("unicode/utf8.first", laid_unicode_utf8_first)], narrowed := true }
def CssBackUptoSaid : Prop := cssBackUptoRow.holds Tryd.pinned (OpenSpec.upto cssBackSpec)

/-- 'quillworklaw04.CssLater', WHERE WHAT IT READS IS OF BULK AT MOST 1048576: true; the input reads as it did. -/
def cssLaterUptoRow : OpenClaim := { program := "ytcpenjbacgjjeaadoor", sum := "417346c1f280c52992b6ae9c6ab91398d5a2814598878ff78dc32933e9ebf3ff", func := "quillwork/quillworklaw04.CssLater", spec := "cssLater", inPlace := ["internal/bytealg.CountString", "internal/bytealg.IndexByteString", "internal/bytealg.IndexString", "internal/abi.NoEscape", "internal/bytealg.MakeNoZero"], unfollowed := true, recurses := true, named := ["unicode/utf8.first", "unicode/utf8.acceptRanges", "internal/bytealg.MaxLen"], apart := false, laid := [("unicode/utf8.acceptRanges", laid_unicode_utf8_acceptRanges), ("unicode/utf8.first", laid_unicode_utf8_first)], narrowed := true }
def CssLaterUptoSaid : Prop := cssLaterUptoRow.holds Tryd.pinned (OpenSpec.upto cssLaterSpec)

/-- 'quillworklaw04.CssOver', WHERE WHAT IT READS IS OF BULK AT MOST 1048576: true; the input reads as it did. -/
def cssOverUptoRow : OpenClaim := { program := "ytcpenjbacgjjeaadoor", sum := "417346c1f280c52992b6ae9c6ab91398d5a2814598878ff78dc32933e9ebf3ff", func := "quillwork/quillworklaw04.CssOver", spec := "cssOver", inPlace := ["internal/bytealg.CountString", "internal/bytealg.IndexByteString", "internal/bytealg.IndexString", "internal/abi.NoEscape", "internal/bytealg.MakeNoZero"], unfollowed := true, recurses := true, named := ["unicode/utf8.first", "unicode/utf8.acceptRanges", "internal/bytealg.MaxLen"], apart := false, laid := [("unicode/utf8.acceptRanges", laid_unicode_utf8_acceptRanges), ("unicode/utf8.first", laid_unicode_utf8_first)], narrowed := true }
def CssOverUptoSaid : Prop := cssOverUptoRow.holds Tryd.pinned (OpenSpec.upto cssOverSpec)

end Rows
end Go.Proofs.YtcpenjbacgjjeaaDoor
