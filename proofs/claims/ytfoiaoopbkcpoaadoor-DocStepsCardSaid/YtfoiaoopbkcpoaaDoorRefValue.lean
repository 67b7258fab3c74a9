/- The walk of the reference's Value. -/
import Derived.Test.YtfoiaoopbkcpoaaDoorRefChars
namespace Go.Proofs.YtfoiaoopbkcpoaaDoor
open Go.RowKit
open Go.Proofs.Qw

theorem valueB_eq (s : ByteArray) : valueB s = (decide (s.size ≤ 200) && (((runesBytes (runesB s)).toList == s.toList) && (runesB s).all mayR)) := by
  have h : ((runesBytes (runesB s)).toList == s.toList) = Lib.validD s.data.toList := by
    rw [toList_eq, toList_eq, runesBytes_eq, Bool.eq_iff_iff, beq_iff_eq]
    exact runesB_back s
  rw [h]
  unfold valueB
  cases (runesB s).all mayR <;> cases decide (s.size ≤ 200) <;> cases Lib.validD s.data.toList <;> rfl
theorem runes_shape {own : Bool} {w : World} {S : Nat → Prop} {v : Value} {d : List Int} (h : RunesR own w S v d) :
    ∃ a c, v = .slice a d.length c ∧ d.length ≤ c ∧ c ≤ maxLen ∧ ∀ i l, d[i]? = some l → ∃ b o, a = some ⟨b, o, none⟩ ∧ b < w.heap.size ∧ w.cell? ⟨b, o + i, none⟩ = some (.int .i32 l) := by
  obtain ⟨a, c, rfl, hc, hm, hx⟩ := h.shape
  refine ⟨a, c, rfl, hc, hm, fun i l hl => ?_⟩
  obtain ⟨b, o, vs, rfl, hz, _, _, e, he⟩ := hx i l hl
  cases e
  have := he 0 _ rfl
  rw [Nat.mul_one] at this
  exact ⟨b, o, rfl, hz, this⟩
theorem all_take {α : Type} {f : α → Bool} {l : List α} {k : Nat} {x : α} (hx : l[k]? = some x) (h : (l.take k).all f = true) (hf : f x = true) : (l.take (k + 1)).all f = true := by
  rw [take_some hx, List.all_append, h]; simp [hf]
theorem all_no {α : Type} {f : α → Bool} {l : List α} {k : Nat} {x : α} (hx : l[k]? = some x) (hf : f x = false) : l.all f = false := by
  rw [List.all_eq_false]
  exact ⟨x, List.mem_of_getElem? hx, by simp [hf]⟩

end Go.Proofs.YtfoiaoopbkcpoaaDoor
