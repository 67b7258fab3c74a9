/- The walks of the reference's Link, May of cells, lines, documents. -/
import Derived.Test.YtfoiaoopbkcpoaaDoorRefTarget
import Derived.Test.YtfoiaoopbkcpoaaDoorMay
import Derived.Test.YtfoiaoopbkcpoaaDoorRefPlace
namespace Go.Proofs.YtfoiaoopbkcpoaaDoor
open Go.RowKit
open Go.Proofs.Qw

theorem mayL_bad {l : Lin} (h : ¬ (0 ≤ l.quote ∧ l.quote ≤ 6 ∧ l.lists.length ≤ 6 ∧ 0 ≤ l.kind ∧ l.kind ≤ 3)) : mayL l = false := by
  cases hm : mayL l
  · rfl
  · exfalso
    apply h
    unfold mayL at hm
    simp only [Bool.and_eq_true, decide_eq_true_eq] at hm
    omega
def okK (kind k : Int) : Bool := decide (k = 0 ∨ k = 1) && decide (kind = 0)
theorem mayL_good {l : Lin} (h : 0 ≤ l.quote ∧ l.quote ≤ 6 ∧ l.lists.length ≤ 6 ∧ 0 ≤ l.kind ∧ l.kind ≤ 3) : mayL l = (l.lists.all (okK l.kind) && mayCs l.cells) := by
  unfold mayL
  rw [decide_eq_true h.1, decide_eq_true h.2.1, decide_eq_true h.2.2.1, decide_eq_true h.2.2.2.1, decide_eq_true h.2.2.2.2]
  have e : l.lists.all (okK l.kind) = ((decide (l.lists = []) || decide (l.kind = 0)) && l.lists.all (fun k => decide (k = 0 ∨ k = 1))) := by
    by_cases hk : l.kind = 0
    · have e0 : okK l.kind = fun k => decide (k = 0 ∨ k = 1) := by funext k; simp [okK, hk]
      rw [e0, hk]; simp
    · cases hl : l.lists with
      | nil => simp
      | cons x t => simp [okK, hk]
  rw [e]
  simp

end Go.Proofs.YtfoiaoopbkcpoaaDoor
