/- The walks of slices.Equal, EqualFunc, lines.Same, doc.Same and the reference's. -/
import Derived.Test.YtfoiaoopbkcpoaaDoorOwn
import Derived.BigQuiet
import Derived.Deep.QuietTactic
import Derived.Deep.RegionHeld3
import Derived.Deep.DrawnRows
namespace Go.Proofs.YtfoiaoopbkcpoaaDoor
open Go.RowKit
open Go.Proofs.Qw

theorem guardCell : Tryd.prog.eqGuardType Tryd.prog.depth 41 = false := by kernel_rfl
theorem run_neq_cell (x y : Cel) (w : World) : (binOp .neq 41 (.agg #[.int .i32 x.r, .int .i64 x.bits, .string ⟨x.href.toArray⟩]) (.agg #[.int .i32 y.r, .int .i64 y.bits, .string ⟨y.href.toArray⟩])).run Tryd.prog w = .ok (.bool (!decide (x = y))) w := by
  have h1 : Tryd.prog.stoodInHeld 41 = false := by kernel_rfl
  have h2 : Tryd.prog.underlying 41 = some (.struct (Tryd.prog.fieldsOf 41)) := by kernel_rfl
  rw [run_neq_struct, show (10000:Nat) = 9999 + 1 from rfl, run_equalIn_agg _ _ _ _ _ h2 h1]
  simp [Tryd.underlying41, go_sem]
  obtain ⟨a, b, c⟩ := x
  obtain ⟨d, e, f⟩ := y
  simp only [Cel.mk.injEq]
  by_cases e1 : a = d <;> by_cases e2 : b = e <;> by_cases e3 : c = f <;> simp [e1, e2, e3]
theorem take_both {α : Type} {l m : List α} {k : Nat} {x y : α} (hx : l[k]? = some x) (hy : m[k]? = some y) (h : l.take k = m.take k) (e : x = y) : l.take (k + 1) = m.take (k + 1) := by
  rw [take_some hx, take_some hy, h, e]
theorem ne_at {α : Type} {l m : List α} {k : Nat} {x y : α} (hx : l[k]? = some x) (hy : m[k]? = some y) (e : x ≠ y) : l ≠ m := fun h => e (by rw [h, hy] at hx; cases hx; rfl)

theorem cel_ne {x y : Cel} (h : x.r ≠ y.r ∨ x.bits ≠ y.bits ∨ x.href ≠ y.href) : x ≠ y := by rintro rfl; simp at h
theorem cel_cases (x y : Cel) : ((x.r != y.r) = false ∧ (x.bits != y.bits) = false ∧ (x.href == y.href) = true ∧ x = y) ∨
    ((x.r != y.r) = true ∧ x ≠ y) ∨ ((x.r != y.r) = false ∧ (x.bits != y.bits) = true ∧ x ≠ y) ∨ ((x.r != y.r) = false ∧ (x.bits != y.bits) = false ∧ (x.href == y.href) = false ∧ x ≠ y) := by
  by_cases e1 : x.r = y.r
  · by_cases e2 : x.bits = y.bits
    · by_cases e3 : x.href = y.href
      · refine .inl ⟨by simp [e1], by simp [e2], by simp [e3], ?_⟩
        obtain ⟨a, b, c⟩ := x
        obtain ⟨d, e, f⟩ := y
        simp_all
      · exact .inr (.inr (.inr ⟨by simp [e1], by simp [e2], by simp [e3], cel_ne (.inr (.inr e3))⟩))
    · exact .inr (.inr (.inl ⟨by simp [e1], by simp [e2], cel_ne (.inr (.inl e2))⟩))
  · exact .inr (.inl ⟨by simp [e1], cel_ne (.inl e1)⟩)
end Go.Proofs.YtfoiaoopbkcpoaaDoor
namespace Go.Proofs.YtfoiaoopbkcpoaaDoor
open Go.RowKit
open Go.Proofs.Qw

theorem linSame_eq (l1 l2 : Lin) : decide (l1 = l2) = ((l1.quote == l2.quote) && (l1.kind == l2.kind) && decide (l1.lists = l2.lists) && decide (l1.cells = l2.cells)) := by
  obtain ⟨a, b, c, d⟩ := l1
  obtain ⟨e, f, g, h⟩ := l2
  simp only [Lin.mk.injEq]
  by_cases h1 : a = e <;> by_cases h2 : b = f <;> by_cases h3 : c = g <;> by_cases h4 : d = h <;> simp [h1, h2, h3, h4]
/-- Two lines in blocks, as a callee lays its arguments. -/
theorem two_lines (w : World) (x1 x2 x3 x4 y1 y2 y3 y4 : Value) : ∃ W1, (w.alloc (.cells #[x1, x2, x3, x4] 45)).alloc (.cells #[y1, y2, y3, y4] 45) = W1 ∧ Below w.heap.size w W1 ∧ w.heap.size + 2 = W1.heap.size ∧
    W1.heap[w.heap.size]? = some (.cells #[x1, x2, x3, x4] 45) ∧ W1.heap[w.heap.size + 1]? = some (.cells #[y1, y2, y3, y4] 45) :=
  ⟨_, rfl, ((Below.refl _ _).alloc (Nat.le_refl _) _).alloc (by simp) _, by simp, heap_old _ _ (heap_new _ _ rfl), heap_new _ _ (by simp)⟩

end Go.Proofs.YtfoiaoopbkcpoaaDoor
namespace Go.Proofs.YtfoiaoopbkcpoaaDoor
open Go.RowKit
open Go.Proofs.Qw
attribute [local go_sem ↓] Go.wp_at_zero Go.wp_at_succ

end Go.Proofs.YtfoiaoopbkcpoaaDoor
