/-
  DERIVED. GIVEN WITH THE SEED: THE CARDS: each row of YtfoiaoopbkcpoaaDoorRows.lean that lists a variable, with what it lists TIED to the program's text (the seventh form; the later family's looks); each row that meets fmt, with fmt's text TOLD by the authors' own Lean function (tested against real Go, not proved from fmt's source: count such statements apart). THE CARD IS WHAT COUNTS. Prove the row's statement (the work); the ties are given (YtfoiaoopbkcpoaaDoorTie.lean); close each card by the builder's one call (the guide's Derived/Test/ToyasCard.lean, 'card_holds'). Laid BY PROGRAM, IN A SANDBOX (cutbox-door.mjs). By AI agents, Wed Nov 11 2026. No macro, syntax, notation, axiom, sorry.
-/
import Derived.Test.YtfoiaoopbkcpoaaDoorRows
import GoSem.ClaimSeven
namespace Go.Proofs.YtfoiaoopbkcpoaaDoor
namespace Rows

/-- THE TIED CARD OF 'quillworklaw07.DocSteps'. -/
def docStepsCard : Claim7 := { stood := { row := docStepsRow, standIns := [], harness := (true, "a4a346f8b3a66d75eed3a1ff03397067c692d27ed75ac5203efe44e404b58fd1"), looks := false }, kinds := [], alts := [], laidByText := true, laidKinds := [.data, .pinned], laidTests := true, laidLooks := .later }
def DocStepsCardSaid : Prop := Claim7.holds Tryd.pinned (.plain (OpenSpec.ofChange docStepsSpec)) docStepsCard

/-- THE SECOND FORM's CARD OF 'quillworklaw07.DocSteps'. -/
def docStepsUptoCard : Claim7 := { stood := { row := docStepsUptoRow, standIns := [], harness := (true, "a4a346f8b3a66d75eed3a1ff03397067c692d27ed75ac5203efe44e404b58fd1"), looks := false }, kinds := [], alts := [], laidByText := true, laidKinds := [.data, .pinned], laidTests := true, laidLooks := .later }
def DocStepsUptoCardSaid : Prop := Claim7.holds Tryd.pinned (.plain (OpenSpec.upto docStepsSpec)) docStepsUptoCard
end Rows
end Go.Proofs.YtfoiaoopbkcpoaaDoor
