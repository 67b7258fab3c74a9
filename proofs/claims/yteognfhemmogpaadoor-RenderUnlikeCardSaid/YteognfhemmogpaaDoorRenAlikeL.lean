/- The walks of slices.Equal, EqualFunc, lines.Same, doc.Same and the reference's. -/
import Derived.Test.YteognfhemmogpaaDoorMayL
import Derived.BigQuiet
import Derived.Deep.QuietTactic
import Derived.Deep.RegionHeld3
import Derived.Deep.DrawnRows
import Derived.Lib.TrimAscii
import Derived.Test.YteognfhemmogpaaDoorCards
import Derived.Test.YteognfhemmogpaaDoorTie
import Derived.ProofKit
import Derived.OpenShut
import Derived.Deep.DeepHandedRow
import Derived.Lib.LaidTab
import Derived.Lib.SmallJoins
import Derived.Lib.LaidU8T
import Derived.Carry
import Derived.Lib.AppendZeros
import Derived.Shelf.AbstractIn
import Derived.Lib.QuoteLoop
import Derived.Lib.TrimUEq
import Derived.Lib.SplitLaws
import Derived.Lib.IndexLaws
import Derived.Lib.TrimByte
import Derived.Lib.Join
import Derived.Laws.Entries
import Derived.StillTailTactics
set_option linter.unusedVariables false
set_option linter.unusedSimpArgs false
namespace Go.Proofs.YteognfhemmogpaaDoor
open Go.RowKit
open Go.Proofs.Qw
theorem guardCell : Tryd.prog.eqGuardType Tryd.prog.depth 37 = false := by kernel_rfl
theorem take_both {α : Type} {l m : List α} {k : Nat} {x y : α} (hx : l[k]? = some x) (hy : m[k]? = some y) (h : l.take k = m.take k) (e : x = y) : l.take (k + 1) = m.take (k + 1) := by
 rw [take_some hx, take_some hy, h, e]
theorem ne_at {α : Type} {l m : List α} {k : Nat} {x y : α} (hx : l[k]? = some x) (hy : m[k]? = some y) (e : x ≠ y) : l ≠ m := fun h => e (by rw [h, hy] at hx; cases hx; rfl)
theorem cel_ne {x y : Cel} (h : x.r ≠ y.r ∨ x.bits ≠ y.bits ∨ x.href ≠ y.href) : x ≠ y := by rintro rfl; simp at h
theorem cel_cases (x y : Cel) : ((x.r != y.r) = false ∧ (x.bits != y.bits) = false ∧ (x.href == y.href) = true ∧ x = y) ∨
  ((x.r != y.r) = true ∧ x ≠ y) ∨ ((x.r != y.r) = false ∧ (x.bits != y.bits) = true ∧ x ≠ y) ∨ ((x.r != y.r) = false ∧ (x.bits != y.bits) = false ∧ (x.href == y.href) = false ∧ x ≠ y) := by
 by_cases e1 : x.r = y.r
 ·by_cases e2 : x.bits = y.bits
  ·by_cases e3 : x.href = y.href
   ·refine .inl ⟨by simp [e1], by simp [e2], by simp [e3], ?_⟩
    obtain ⟨a, b, c⟩ := x
    obtain ⟨d, e, f⟩ := y
    simp_all
   ·exact .inr (.inr (.inr ⟨by simp [e1], by simp [e2], by simp [e3], cel_ne (.inr (.inr e3))⟩))
  ·exact .inr (.inr (.inl ⟨by simp [e1], by simp [e2], cel_ne (.inr (.inl e2))⟩))
 ·exact .inr (.inl ⟨by simp [e1], cel_ne (.inl e1)⟩)
set_option maxRecDepth 100000 in
set_option maxHeartbeats 4000000 in
theorem refInts_any (v1 v2 : Value) (d1 d2 : List Int) (w : World) (S1 S2 : Nat → Prop) (h1 : IntsR false w S1 v1 d1) (h2 : IntsR false w S2 v2 d2) :
  Calls Tryd.prog 49 #[v1, v2] w fun e w' => e = .returned (.bool (decide (d1 = d2))) ∧ Below w.heap.size w w' := by
 obtain ⟨a, c, rfl, hc, hm, hx⟩ := ints_shape h1
 obtain ⟨a2, c2, rfl, hc2, hm2, hx2⟩ := ints_shape h2
 have HX := Lib.hid hx
 have HX2 := Lib.hid hx2
 clear hx hx2 h1 h2
 unfold maxLen at hm hm2
 go_enter Tryd.func49, Tryd.ntmps49
 by_cases hl : d1.length = d2.length
 ·have HL := Lib.hid hl
  have hlb : ((d1.length : Int) != d2.length) = false := by simp [hl]
  clear hl
  go_wp2_with fail
  go_loopw [5] (fun i wr => ∃ k : Nat, k ≤ d1.length ∧ i = .int .i64 k ∧ Hid (d1.take k = d2.take k) ∧ Below w.heap.size w wr) (fun i _ => d1.length - (intOf i).toNat)
  case atStart => exact ⟨0, Nat.zero_le _, rfl, Lib.hid rfl, Below.refl _ _⟩
  case round =>
   obtain ⟨k, hk, rfl, HE, hb⟩ := hrel
   by_cases hlt : k < d1.length
   ·obtain ⟨x, hx, _⟩ := getOf d1 k hlt
    obtain ⟨y, hy, _⟩ := getOf d2 k (by have := HL.out; omega)
    obtain ⟨b, o, rfl, hz, c0⟩ := HX.out k x hx; obtain ⟨b2, o2, rfl, hz2, k0⟩ := HX2.out k y hy; have c0 := (hb.cell (p := ⟨b, o + k, none⟩) hz).trans c0; have k0 := (hb.cell (p := ⟨b2, o2 + k, none⟩) hz2).trans k0
    have i0 : (0 : Int) ≤ (k : Int) := Int.natCast_nonneg _
    have i1 : (k : Int) < (d1.length : Int) := by omega
    have i2 : (k : Int) < (d2.length : Int) := by have := HL.out; omega
    have HXY := Lib.hid (And.intro hx hy)
    clear hx hy
    have hg := guardCell
    have hcs : ((x != y) = false ∧ x = y) ∨ ((x != y) = true ∧ x ≠ y) := by (by_cases e : x = y <;> simp [e])
    rcases hcs with ⟨hq, hxy⟩ | ⟨hq, hxy⟩
    ·have HE2 := Lib.hid (take_both HXY.out.1 HXY.out.2 HE.out hxy)
     clear hxy
     go_wp2_with fail
     go_quiet (fail)
     all_goals go_wp2_with fail
     go_roundw
     case rel => exact ⟨k + 1, hlt, by go_num, HE2, drewN_below hb⟩
     case measure => simp [intOf]; omega
    all_goals
     have HN := Lib.hid (ne_at HXY.out.1 HXY.out.2 hxy)
     clear hxy
     go_wp2_with fail
     go_quiet (fail)
     all_goals go_wp2_with fail
     go_ret
     exact ⟨by rw [decide_eq_false HN.out]; rfl, drewN_below hb⟩
   ·obtain rfl : k = d1.length := by omega
    have HD : Hid (d1 = d2) := Lib.hid (by have h1 := HE.out; have h2 := HL.out; rw [List.take_length, h2, List.take_length] at h1; exact h1)
    have HB := Lib.hid hb
    clear hb
    go_wp2_with fail
    go_ret
    exact ⟨by rw [decide_eq_true HD.out]; rfl, HB.out⟩
 ·have hlb : ((d1.length : Int) != d2.length) = true := by simp; omega
  have HL : Hid (d1 ≠ d2) := Lib.hid fun e => hl (e ▸ rfl)
  clear hl
  go_wp2_with fail
  go_ret
  exact ⟨by rw [decide_eq_false HL.out]; rfl, Below.refl _ _⟩
set_option maxRecDepth 100000 in
set_option maxHeartbeats 4000000 in
theorem refSameC_any (v1 v2 : Value) (d1 d2 : List Cel) (w : World) (S1 S2 : Nat → Prop) (h1 : CelsR false w S1 v1 d1) (h2 : CelsR false w S2 v2 d2) :
  Calls Tryd.prog 50 #[v1, v2] w fun e w' => e = .returned (.bool (decide (d1 = d2))) ∧ Below w.heap.size w w' := by
 obtain ⟨a, c, rfl, hc, hm, hx⟩ := cels_shape h1
 obtain ⟨a2, c2, rfl, hc2, hm2, hx2⟩ := cels_shape h2
 have HX := Lib.hid hx
 have HX2 := Lib.hid hx2
 clear hx hx2 h1 h2
 unfold maxLen at hm hm2
 go_enter Tryd.func50, Tryd.ntmps50
 by_cases hl : d1.length = d2.length
 ·have HL := Lib.hid hl
  have hlb : ((d1.length : Int) != d2.length) = false := by simp [hl]
  clear hl
  go_wp2_with fail
  go_loopw [5] (fun i wr => ∃ k : Nat, k ≤ d1.length ∧ i = .int .i64 k ∧ Hid (d1.take k = d2.take k) ∧ Below w.heap.size w wr) (fun i _ => d1.length - (intOf i).toNat)
  case atStart => exact ⟨0, Nat.zero_le _, rfl, Lib.hid rfl, Below.refl _ _⟩
  case round =>
   obtain ⟨k, hk, rfl, HE, hb⟩ := hrel
   by_cases hlt : k < d1.length
   ·obtain ⟨x, hx, _⟩ := getOf d1 k hlt
    obtain ⟨y, hy, _⟩ := getOf d2 k (by have := HL.out; omega)
    obtain ⟨b, o, rfl, hz, c0, c1, c2⟩ := HX.out k x hx; obtain ⟨b2, o2, rfl, hz2, k0, k1, k2⟩ := HX2.out k y hy; have c0 := (hb.cell (p := ⟨b, o + k * 3, none⟩) hz).trans c0; have c1 := (hb.cell (p := ⟨b, o + k * 3 + 1, none⟩) hz).trans c1; have c2 := (hb.cell (p := ⟨b, o + k * 3 + 2, none⟩) hz).trans c2; have k0 := (hb.cell (p := ⟨b2, o2 + k * 3, none⟩) hz2).trans k0; have k1 := (hb.cell (p := ⟨b2, o2 + k * 3 + 1, none⟩) hz2).trans k1; have k2 := (hb.cell (p := ⟨b2, o2 + k * 3 + 2, none⟩) hz2).trans k2
    have i0 : (0 : Int) ≤ (k : Int) := Int.natCast_nonneg _
    have i1 : (k : Int) < (d1.length : Int) := by omega
    have i2 : (k : Int) < (d2.length : Int) := by have := HL.out; omega
    have HXY := Lib.hid (And.intro hx hy)
    clear hx hy
    have hg := guardCell
    have hcs := cel_cases x y
    rcases hcs with ⟨hq, hq2, hq3, hxy⟩ | ⟨hq, hxy⟩ | ⟨hq, hq2, hxy⟩ | ⟨hq, hq2, hq3, hxy⟩
    ·have HE2 := Lib.hid (take_both HXY.out.1 HXY.out.2 HE.out hxy)
     clear hxy
     go_wp2_with fail
     go_quiet (fail)
     all_goals go_wp2_with fail
     go_roundw
     case rel => exact ⟨k + 1, hlt, by go_num, HE2, drewN_below hb⟩
     case measure => simp [intOf]; omega
    all_goals
     have HN := Lib.hid (ne_at HXY.out.1 HXY.out.2 hxy)
     clear hxy
     go_wp2_with fail
     go_quiet (fail)
     all_goals go_wp2_with fail
     go_ret
     exact ⟨by rw [decide_eq_false HN.out]; rfl, drewN_below hb⟩
   ·obtain rfl : k = d1.length := by omega
    have HD : Hid (d1 = d2) := Lib.hid (by have h1 := HE.out; have h2 := HL.out; rw [List.take_length, h2, List.take_length] at h1; exact h1)
    have HB := Lib.hid hb
    clear hb
    go_wp2_with fail
    go_ret
    exact ⟨by rw [decide_eq_true HD.out]; rfl, HB.out⟩
 ·have hlb : ((d1.length : Int) != d2.length) = true := by simp; omega
  have HL : Hid (d1 ≠ d2) := Lib.hid fun e => hl (e ▸ rfl)
  clear hl
  go_wp2_with fail
  go_ret
  exact ⟨by rw [decide_eq_false HL.out]; rfl, Below.refl _ _⟩
end Go.Proofs.YteognfhemmogpaaDoor
namespace Go.Proofs.YteognfhemmogpaaDoor
open Go.RowKit
open Go.Proofs.Qw
theorem linSame_eq (l1 l2 : Lin) : decide (l1 = l2) = ((l1.quote == l2.quote) && (l1.kind == l2.kind) && decide (l1.lists = l2.lists) && decide (l1.cells = l2.cells)) := by
 obtain ⟨a, b, c, d⟩ := l1
 obtain ⟨e, f, g, h⟩ := l2
 simp only [Lin.mk.injEq]
 by_cases h1 : a = e <;> by_cases h2 : b = f <;> by_cases h3 : c = g <;> by_cases h4 : d = h <;> simp [h1, h2, h3, h4]
theorem two_lines (w : World) (x1 x2 x3 x4 y1 y2 y3 y4 : Value) : ∃ W1, (w.alloc (.cells #[x1, x2, x3, x4] 26)).alloc (.cells #[y1, y2, y3, y4] 26) = W1 ∧ Below w.heap.size w W1 ∧ w.heap.size + 2 = W1.heap.size ∧
  W1.heap[w.heap.size]? = some (.cells #[x1, x2, x3, x4] 26) ∧ W1.heap[w.heap.size + 1]? = some (.cells #[y1, y2, y3, y4] 26) :=
 ⟨_, rfl, ((Below.refl _ _).alloc (Nat.le_refl _) _).alloc (by simp) _, by simp, heap_old _ _ (heap_new _ _ rfl), heap_new _ _ (by simp)⟩
set_option maxRecDepth 100000 in
set_option maxHeartbeats 4000000 in
theorem refSameL_any (l1 l2 : Lin) (a1 b1 a2 b2 : Value) (w : World) (S1 S2 : Nat → Prop) (hL1 : IntsR false w S1 a1 l1.lists) (hC1 : CelsR false w S1 b1 l1.cells) (hL2 : IntsR false w S2 a2 l2.lists) (hC2 : CelsR false w S2 b2 l2.cells) :
  Calls Tryd.prog 30 #[linV l1 a1 b1, linV l2 a2 b2] w fun e w' => e = .returned (.bool (decide (l1 = l2))) ∧ Below w.heap.size w w' := by
 have HC1 : Hid (∀ W, Below w.heap.size w W → Calls Tryd.prog 49 #[a1, a2] W fun e w' => e = .returned (.bool (decide (l1.lists = l2.lists))) ∧ Below W.heap.size W w') := Lib.hid fun W h => refInts_any _ _ _ _ W S1 S2 (hL1.below (rdOf_stable _) h) (hL2.below (rdOf_stable _) h)
 have HC2 : Hid (∀ W, Below w.heap.size w W → Calls Tryd.prog 50 #[b1, b2] W fun e w' => e = .returned (.bool (decide (l1.cells = l2.cells))) ∧ Below W.heap.size W w') := Lib.hid fun W h => refSameC_any _ _ _ _ W S1 S2 (hC1.below (rdOf_stable _) h) (hC2.below (rdOf_stable _) h)
 have HE := Lib.hid (linSame_eq l1 l2)
 obtain ⟨la, lc, rfl⟩ := hL1.slice
 obtain ⟨ca, cc, rfl⟩ := hC1.slice
 obtain ⟨la2, lc2, rfl⟩ := hL2.slice
 obtain ⟨ca2, cc2, rfl⟩ := hC2.slice
 generalize decide (l1 = l2) = r at *
 generalize decide (l1.lists = l2.lists) = x at *
 generalize decide (l1.cells = l2.cells) = y at *
 clear hL1 hC1 hL2 hC2
 obtain ⟨W1, hW1, hB, hz, hA1, hA2⟩ := two_lines w (.int .i64 l1.quote) (.slice la l1.lists.length lc) (.int .i64 l1.kind) (.slice ca l1.cells.length cc) (.int .i64 l2.quote) (.slice la2 l2.lists.length lc2) (.int .i64 l2.kind) (.slice ca2 l2.cells.length cc2)
 have HZ := Lib.hid hz
 clear hz
 obtain ⟨p1, f1⟩ := blk hA1
 obtain ⟨p2, f2⟩ := blk hA2
 go_enter Tryd.func30, Tryd.ntmps30
 go_wp2_with (first | (go_at_call 49; refine (HC1.out _ hB).mono ?_; rintro e w2 ⟨rfl, hb2⟩; have hbb := hB.trans (hb2.mono hB.size); have hA3 := heap_below hb2 hA1; have hA4 := heap_below hb2 hA2; obtain ⟨p3, f3⟩ := blk hA3; obtain ⟨p4, f4⟩ := blk hA4; clear hb2; cases x) | (go_at_call 50; refine (HC2.out _ hbb).mono ?_; rintro e w3 ⟨rfl, hb3⟩; have hb4 := Below.trans hbb (hb3.mono (Below.size hbb))))
 all_goals
  go_ret
  refine ⟨?_, by first | assumption | exact hB⟩
  rw [HE.out]
  refine congrArg Ending.returned (congrArg Value.bool ?_)
  clear HE HC1 HC2
  simp (config := { failIfUnchanged := false }) [*]
end Go.Proofs.YteognfhemmogpaaDoor
namespace Go.Proofs.YteognfhemmogpaaDoor
open Go.RowKit
open Go.Proofs.Qw
attribute [local go_sem ↓] Go.wp_at_zero Go.wp_at_succ
set_option maxRecDepth 100000 in
set_option maxHeartbeats 4000000 in
theorem refSame_any (v1 v2 : Value) (d1 d2 : List Lin) (w : World) (S1 S2 : Nat → Prop) (h1 : LinsR w S1 v1 d1) (h2 : LinsR w S2 v2 d2) :
  Calls Tryd.prog 13 #[v1, v2] w fun e w' => e = .returned (.bool (decide (d1 = d2))) ∧ Below w.heap.size w w' := by
 obtain ⟨a, c, rfl, hc, hm, hx⟩ := lins_shape h1
 obtain ⟨a2, c2, rfl, hc2, hm2, hx2⟩ := lins_shape h2
 have HX := Lib.hid hx
 have HX2 := Lib.hid hx2
 clear hx hx2 h1 h2
 unfold maxLen at hm hm2
 go_enter Tryd.func13, Tryd.ntmps13
 by_cases hl : d1.length = d2.length
 ·have HL := Lib.hid hl
  have hlb : ((d1.length : Int) != d2.length) = false := by simp [hl]
  clear hl
  go_wp2_with fail
  go_loopw [5] (fun i wr => ∃ k : Nat, k ≤ d1.length ∧ i = .int .i64 k ∧ Hid (d1.take k = d2.take k) ∧ Below w.heap.size w wr) (fun i _ => d1.length - (intOf i).toNat)
  case atStart => exact ⟨0, Nat.zero_le _, rfl, Lib.hid rfl, Below.refl _ _⟩
  case round =>
   obtain ⟨k, hk, rfl, HE, hb⟩ := hrel
   by_cases hlt : k < d1.length
   ·obtain ⟨x, hx, _⟩ := getOf d1 k hlt
    obtain ⟨y, hy, _⟩ := getOf d2 k (by have := HL.out; omega)
    obtain ⟨b, o, la, lc, ca, cc, rfl, hA⟩ := HX.out k x hx
    obtain ⟨b2, o2, la2, lc2, ca2, cc2, rfl, hA2⟩ := HX2.out k y hy
    have HW : Hid (∀ W, Below wr.heap.size wr W → Calls Tryd.prog 30 #[linV x (.slice la x.lists.length lc) (.slice ca x.cells.length cc), linV y (.slice la2 y.lists.length lc2) (.slice ca2 y.cells.length cc2)] W fun e w' => e = .returned (.bool (decide (x = y))) ∧ Below W.heap.size W w') := Lib.hid fun W hW => by
     have h3 := hA.below (below_from hb hW)
     have h4 := hA2.below (below_from hb hW)
     exact refSameL_any x y _ _ _ _ W S1 S2 h3.listsR h3.cellsR h4.listsR h4.cellsR
    obtain ⟨hz, c0, c1, c2, c3, _, _⟩ := hA.below hb
    obtain ⟨hz2, k0, k1, k2, k3, _, _⟩ := hA2.below hb
    have i0 : (0 : Int) ≤ (k : Int) := Int.natCast_nonneg _
    have i1 : (k : Int) < (d1.length : Int) := by omega
    have i2 : (k : Int) < (d2.length : Int) := by have := HL.out; omega
    have HXY := Lib.hid (And.intro hx hy)
    have hbs := hb.size
    clear hx hy hA hA2
    have hwr : Below wr.heap.size wr wr := Below.refl _ _
    rcases Classical.em (x = y) with hxy | hxy
    ·have HE2 := Lib.hid (take_both HXY.out.1 HXY.out.2 HE.out hxy)
     have hd : decide (x = y) = true := decide_eq_true hxy
     rw [hd] at HW
     clear hxy hd
     go_wp2_with fail
     (go_region_held3 (fun w' => w'.cell? ⟨b, o + k * 4, none⟩ = some (.int .i64 x.quote) ∧ w'.cell? ⟨b, o + k * 4 + 1, none⟩ = some (.slice la x.lists.length lc) ∧ w'.cell? ⟨b, o + k * 4 + 2, none⟩ = some (.int .i64 x.kind) ∧ w'.cell? ⟨b, o + k * 4 + 3, none⟩ = some (.slice ca x.cells.length cc) ∧ w'.cell? ⟨b2, o2 + k * 4, none⟩ = some (.int .i64 y.quote) ∧ w'.cell? ⟨b2, o2 + k * 4 + 1, none⟩ = some (.slice la2 y.lists.length lc2) ∧ w'.cell? ⟨b2, o2 + k * 4 + 2, none⟩ = some (.int .i64 y.kind) ∧ w'.cell? ⟨b2, o2 + k * 4 + 3, none⟩ = some (.slice ca2 y.cells.length cc2)) ((first | go_keep | skip)) ((go_at_call 30; refine (HW.out _ hwr.drew).mono ?_; rintro e w1 ⟨rfl, hb1⟩; have hk1 := hb1.cell (p := ⟨b, o + k * 4, none⟩) hz; have hk2 := hb1.cell (p := ⟨b, o + k * 4 + 1, none⟩) hz; have hk3 := hb1.cell (p := ⟨b, o + k * 4 + 2, none⟩) hz; have hk4 := hb1.cell (p := ⟨b, o + k * 4 + 3, none⟩) hz; have hk5 := hb1.cell (p := ⟨b2, o2 + k * 4, none⟩) hz2; have hk6 := hb1.cell (p := ⟨b2, o2 + k * 4 + 1, none⟩) hz2; have hk7 := hb1.cell (p := ⟨b2, o2 + k * 4 + 2, none⟩) hz2; have hk8 := hb1.cell (p := ⟨b2, o2 + k * 4 + 3, none⟩) hz2))); go_wp2_with fail
     go_roundw
     case rel => exact ⟨k + 1, hlt, by go_num, HE2, (hb.drew.trans (hb1.mono hbs))⟩
     case measure => simp [intOf]; omega
    ·have HN := Lib.hid (ne_at HXY.out.1 HXY.out.2 hxy)
     have hd : decide (x = y) = false := decide_eq_false hxy
     rw [hd] at HW
     clear hxy hd
     go_wp2_with fail
     (go_region_held3 (fun w' => w'.cell? ⟨b, o + k * 4, none⟩ = some (.int .i64 x.quote) ∧ w'.cell? ⟨b, o + k * 4 + 1, none⟩ = some (.slice la x.lists.length lc) ∧ w'.cell? ⟨b, o + k * 4 + 2, none⟩ = some (.int .i64 x.kind) ∧ w'.cell? ⟨b, o + k * 4 + 3, none⟩ = some (.slice ca x.cells.length cc) ∧ w'.cell? ⟨b2, o2 + k * 4, none⟩ = some (.int .i64 y.quote) ∧ w'.cell? ⟨b2, o2 + k * 4 + 1, none⟩ = some (.slice la2 y.lists.length lc2) ∧ w'.cell? ⟨b2, o2 + k * 4 + 2, none⟩ = some (.int .i64 y.kind) ∧ w'.cell? ⟨b2, o2 + k * 4 + 3, none⟩ = some (.slice ca2 y.cells.length cc2)) ((first | go_keep | skip)) ((go_at_call 30; refine (HW.out _ hwr.drew).mono ?_; rintro e w1 ⟨rfl, hb1⟩; have hk1 := hb1.cell (p := ⟨b, o + k * 4, none⟩) hz; have hk2 := hb1.cell (p := ⟨b, o + k * 4 + 1, none⟩) hz; have hk3 := hb1.cell (p := ⟨b, o + k * 4 + 2, none⟩) hz; have hk4 := hb1.cell (p := ⟨b, o + k * 4 + 3, none⟩) hz; have hk5 := hb1.cell (p := ⟨b2, o2 + k * 4, none⟩) hz2; have hk6 := hb1.cell (p := ⟨b2, o2 + k * 4 + 1, none⟩) hz2; have hk7 := hb1.cell (p := ⟨b2, o2 + k * 4 + 2, none⟩) hz2; have hk8 := hb1.cell (p := ⟨b2, o2 + k * 4 + 3, none⟩) hz2))); go_wp2_with fail
     go_ret
     exact ⟨by rw [decide_eq_false HN.out]; rfl, (hb.drew.trans (hb1.mono hbs))⟩
   ·obtain rfl : k = d1.length := by omega
    have HD : Hid (d1 = d2) := Lib.hid (by have h1 := HE.out; have h2 := HL.out; rw [List.take_length, h2, List.take_length] at h1; exact h1)
    have HB := Lib.hid hb
    clear hb
    go_wp2_with fail
    go_ret
    exact ⟨by rw [decide_eq_true HD.out]; rfl, HB.out⟩
 ·have hlb : ((d1.length : Int) != d2.length) = true := by simp; omega
  have HL : Hid (d1 ≠ d2) := Lib.hid fun e => hl (e ▸ rfl)
  clear hl
  go_wp2_with fail
  go_ret
  exact ⟨by rw [decide_eq_false HL.out]; rfl, Below.refl _ _⟩
end Go.Proofs.YteognfhemmogpaaDoor
namespace Go.Proofs.YteognfhemmogpaaDoor
open Go.RowKit
open Go.Proofs.Qw
def Sane (d : Doc) : Prop := ∀ l ∈ d, l.lists.length ≤ 70368744177664 ∧ l.cells.length ≤ 70368744177664 ∧ ∀ c ∈ l.cells, c.href.length ≤ 281474976710656
structure Sml (d : Doc) : Prop where
 len : d.length ≤ 300
 size : sizeD d ≤ 20000
 lin : ∀ l ∈ d, l.lists.length ≤ 20000 ∧ ∀ c ∈ l.cells, c.href.length ≤ 160007
theorem Sml.small {d : Doc} (h : Sml d) : Small d := ⟨by have := h.size; omega, by have := h.len; omega, fun l hl c hc => by have := (h.lin l hl).2 c hc; omega⟩
def LongSaid (d : Doc) (w : World) (e : Ending) (w' : World) : Prop := ∃ r, e = .returned (.bool r) ∧ (r = false → Sml d) ∧ Below w.heap.size w w'
end Go.Proofs.YteognfhemmogpaaDoor
namespace Go.Proofs.YteognfhemmogpaaDoor
open Go.ChangeShapes Go.WideShapes Go.ChangeAt Go.RowKit
theorem own : ownKnob Tryd.prog.godebug = none := by kernel_rfl
def numOf : DataW Unit → List Value
 | .lit (.int k n) => [.int k n]
 | .agg l => l.flatMap fun
  | .lit (.int k n) => [.int k n]
  | .agg m => m.flatMap fun
   | .lit (.int k n) => [.int k n]
   | _ => []
  | _ => []
 | _ => []
def putAt (w : World) (g : Nat) (cs : List Value) : World := { w with heap := w.heap.modify g fun
   | .cells _ t frozen => .cells cs.toArray t frozen
   | o => o }
noncomputable def laidWorld (os : Os) : World :=
 putAt (putAt (World.holding Tryd.prog os ⟨#[], #[], []⟩) 0 (numOf Rows.laid_unicode_utf8_first)) 1 (numOf Rows.laid_unicode_utf8_acceptRanges)
end Go.Proofs.YteognfhemmogpaaDoor
namespace Go.Proofs.Qw
open Go.RowKit Go.Proofs.YteognfhemmogpaaDoor Go.Deep
section
variable {H : Type} {enc : TypeId × Value → H} {P : Program} {w : World} {base : Nat} {held : Bool}
theorem open_row {α : Type} [Inhabited α] {t e t0 : TypeId} {k fuel : Nat} {R : Rd α} {cs : List Value} {x : DataW H × List MemPlace} (Q : DataW H → α → Prop) (ht : P.underlying t = some (.slice e)) (hk : P.cellsOf e = k) (hk0 : 0 < k)
  (h : DataW.trod enc P w base (fun _ => true) held fuel t cs = some x)
  (hR : ∀ n cs y, DataW.trod enc P w base (fun _ => true) held n e cs = some y → ∃ x, R w (fun _ => True) cs x ∧ Q y.1 x) :
  ∃ (v : Value) (xs : List α), cs = [v] ∧ SliceR t0 k R false w (fun _ => True) v xs ∧ ((x.1 = .nil ∧ xs = []) ∨ ∃ (elems spare : List (DataW H)), x.1 = .slice elems spare ∧ elems.length = xs.length ∧ ∀ (i : Nat) (a : α), xs[i]? = some a → ∃ d, elems[i]? = some d ∧ Q d a) := by
 rcases open_slice ht h with ⟨rfl, rfl⟩ | ⟨a, len, cap, m, n, D, Pl, rfl, hb, hl, hm, hmm, rfl, hx⟩
 ·exact ⟨_, [], rfl, SliceR.nil _ _ _ _ _ _, .inl ⟨rfl, rfl⟩⟩
 simp only [if_pos] at hmm
 subst hmm
 have hx2 : ∀ i, i < len → ∃ y : α, ∃ cs', (w.cells? base (a.add (i * P.cellsOf e)) (P.cellsOf e) = some cs' ∧ R w (fun _ => True) cs' y) ∧ Q (D i) y := fun i hi => by
  obtain ⟨cs', h1, h2⟩ := hx i (by omega)
  obtain ⟨y, g1, g2⟩ := hR _ _ _ h2
  exact ⟨y, cs', ⟨h1, g1⟩, g2⟩
 obtain ⟨Y, hY⟩ := choose_lt hx2
 refine ⟨_, (List.range len).map Y, rfl, ?_, .inr ⟨_, _, rfl, by simp, fun i y hi => ?_⟩⟩
 ·by_cases h0 : len = 0
  ·subst h0
   exact ⟨some a, m, rfl, by simp, hm, .inl ⟨rfl, fun h => by cases h⟩⟩
  obtain ⟨c0, ⟨g1, _⟩, _⟩ := hY 0 (by omega)
  have gs := World.cells?_some g1
  obtain ⟨b, off, spot⟩ := a
  have hc0 : c0.length = k := by rw [gs.2.1, hk]
  have g3 := gs.2.2 0 (by omega)
  have hspot : spot = none := by
   rw [List.getElem?_eq_getElem (by omega)] at g3
   simpa [Addr.add] using World.cell?_spot g3
  subst hspot
  have hlt : b < w.heap.size := by
   have := World.cells?_block g1 (by omega)
   simpa [Addr.add] using this
  refine ⟨_, m, by simp, by simp; omega, hm, .inr ⟨b, off, rfl, trivial, hlt, (fun h => by cases h), fun i y hi => ?_⟩⟩
  have hil : i < len := by have := (List.getElem?_eq_some_iff.1 hi).1; simpa using this
  have hy : y = Y i := by simp [hil] at hi; exact hi.symm
  subst hy
  obtain ⟨cs', ⟨q1, q2⟩, _⟩ := hY i hil
  have qs := World.cells?_some q1
  refine ⟨cs', by rw [qs.2.1, hk], q2, fun j u hu => ?_⟩
  have hj := (List.getElem?_eq_some_iff.1 hu).1
  have := qs.2.2 j (by rw [← qs.2.1]; exact hj)
  rw [hu, hk, WideShapes.add_plain, WideShapes.add_plain] at this
  rwa [Nat.add_assoc] at this ⊢
 ·have hil : i < len := by have := (List.getElem?_eq_some_iff.1 hi).1; simpa using this
  have hy : y = Y i := by simp [hil] at hi; exact hi.symm
  subst hy
  obtain ⟨cs', _, q⟩ := hY i hil
  exact ⟨D i, by simp [hil], q⟩
theorem weightsAll_mem {e : TypeId} {d : DataW H} {n : Nat} (hn : n ∈ d.weights P e) : ∀ {l : List (DataW H)}, d ∈ l → n ∈ DataW.weightsAll P e l
 | x :: r, h => by
  rw [DataW.weightsAll, List.mem_append]
  rcases List.mem_cons.1 h with rfl | h
  ·exact .inl hn
  ·exact .inr (weightsAll_mem hn h)
end
section
variable {H : Type} {enc : TypeId × Value → H} {w : World} {base : Nat} {held : Bool} {sp : Nat → Bool}
theorem str_back (s : ByteArray) : (⟨s.data.toList.toArray⟩ : ByteArray) = s := by simp
def CelD (d : DataW H) (c : Cel) : Prop := d = .agg [.lit (.int .i32 c.r), .lit (.int .i64 c.bits), .lit (.string c.href)]
set_option maxRecDepth 100000 in
theorem open_cel {n : Nat} {cs : List Value} {y : DataW H × List MemPlace} (h : DataW.trod enc Tryd.prog w base sp held n 37 cs = some y) : ∃ c : Cel, rdOf encCel w (fun _ => True) cs c ∧ CelD y.1 c := by
 obtain ⟨xs, m, _, rfl, hl, hxs, hf⟩ := DataW.trod_struct Tryd.underlying37 h
 have h0 := hf 0 _ rfl
 have h1 := hf 1 _ rfl
 have h2 := hf 2 _ rfl
 rw [show Tryd.prog.cellsOf 37 = 3 by kernel_rfl] at hl
 match cs, hl with
 | [a, b, c], _ =>
  match xs, hxs with
  | [x0, x1, x2], _ =>
   obtain ⟨r, e0, rfl, _⟩ := DataW.trod_int Tryd.underlying21 h0
   obtain ⟨bt, e1, rfl, _⟩ := DataW.trod_int Tryd.underlying3 h1
   obtain ⟨s, e2, rfl, _⟩ := DataW.trod_string Tryd.underlying9 h2
   have e0 : [a] = [Value.int .i32 r] := e0
   have e1 : [b] = [Value.int .i64 bt] := e1
   have e2 : [c] = [Value.string s] := e2
   cases e0
   cases e1
   cases e2
   exact ⟨⟨r, bt, s.data.toList⟩, by show _ = encCel _; unfold encCel; rw [str_back], rfl⟩
def LinD (P : Program) (t : TypeId) (d : DataW H) (l : Lin) : Prop := (∀ n ∈ d.weights P t, n ≤ reachBytes) → l.lists.length ≤ 70368744177664 ∧ l.cells.length ≤ 70368744177664 ∧ ∀ c ∈ l.cells, c.href.length ≤ 281474976710656
set_option maxRecDepth 100000 in
theorem open_lin {n : Nat} {cs : List Value} {y : DataW H × List MemPlace} (h : DataW.trod enc Tryd.prog w base (fun _ => true) held n 26 cs = some y) : ∃ l : Lin, rdLin false w (fun _ => True) cs l ∧ LinD Tryd.prog 26 y.1 l := by
 obtain ⟨xs, m, _, rfl, hl, hxs, hf⟩ := DataW.trod_struct Tryd.underlying26 h
 have h0 := hf 0 _ rfl
 have h1 := hf 1 _ rfl
 have h2 := hf 2 _ rfl
 have h3 := hf 3 _ rfl
 rw [show Tryd.prog.cellsOf 26 = 4 by kernel_rfl] at hl
 match cs, hl with
 | [a, b, c, d], _ =>
  match xs, hxs with
  | [x0, x1, x2, x3], _ =>
   obtain ⟨q, e0, rfl, _⟩ := DataW.trod_int Tryd.underlying3 h0
   obtain ⟨k, e2, rfl, _⟩ := DataW.trod_int Tryd.underlying3 h2
   obtain ⟨lv, ls, e1, hls, hlw⟩ := open_row (t0 := 3) (k := 1) (R := rdOf encInt) (fun _ _ => True) Tryd.underlying24 (by kernel_rfl) Nat.one_pos h1 (fun n cs y h => by
    obtain ⟨z, rfl, _, _⟩ := DataW.trod_int Tryd.underlying3 h
    exact ⟨z, rfl, trivial⟩)
   obtain ⟨cv, cc, e3, hcs, hcw⟩ := open_row (t0 := 37) (k := 3) (R := rdOf encCel) CelD Tryd.underlying22 (by kernel_rfl) (by decide) h3 (fun n cs y h => open_cel h)
   have e0 : [a] = [Value.int .i64 q] := e0
   have e1 : [b] = [lv] := e1
   have e2 : [c] = [Value.int .i64 k] := e2
   have e3 : [d] = [cv] := e3
   cases e0
   cases e1
   cases e2
   cases e3
   refine ⟨⟨q, ls, k, cc⟩, ⟨_, _, rfl, hls, hcs⟩, fun hw => ?_⟩
   have hw1 : ∀ n ∈ x1.1.weights Tryd.prog 24, n ≤ reachBytes := fun n hn => hw n (by
    simp only [List.map_cons, List.map_nil, DataW.weights, Tryd.underlying26, DataW.weightsEach, List.mem_append]
    simp [hn])
   have hw3 : ∀ n ∈ x3.1.weights Tryd.prog 22, n ≤ reachBytes := fun n hn => hw n (by
    simp only [List.map_cons, List.map_nil, DataW.weights, Tryd.underlying26, DataW.weightsEach, List.mem_append]
    simp [hn])
   clear hw
   refine ⟨?_, ?_, ?_⟩
   ·rcases hlw with ⟨_, rfl⟩ | ⟨el, spr, hd, hl, _⟩
    ·simp
    ·rw [hd] at hw1
     have := hw1 ((el.length + spr.length) * Tryd.prog.bytesOf 3) (by rw [DataW.weights, Tryd.underlying24]; exact List.mem_cons_self)
     rw [show Tryd.prog.bytesOf 3 = 8 by kernel_rfl] at this
     unfold reachBytes at this
     show ls.length ≤ _
     omega
   ·rcases hcw with ⟨_, rfl⟩ | ⟨el, spr, hd, hl, _⟩
    ·simp
    ·rw [hd] at hw3
     have := hw3 ((el.length + spr.length) * Tryd.prog.bytesOf 37) (by rw [DataW.weights, Tryd.underlying22]; exact List.mem_cons_self)
     rw [show Tryd.prog.bytesOf 37 = 32 by kernel_rfl] at this
     unfold reachBytes at this
     show cc.length ≤ _
     omega
   ·intro c hc
    rcases hcw with ⟨_, rfl⟩ | ⟨el, spr, hd, hl, hel⟩
    ·cases hc
    ·rw [hd] at hw3
     obtain ⟨i, hi⟩ := List.getElem?_of_mem hc
     obtain ⟨dd, g1, g2⟩ := hel i c hi
     have := hw3 c.href.length (by
      rw [DataW.weights, Tryd.underlying22]
      refine List.mem_cons_of_mem _ (List.mem_append_left _ (weightsAll_mem (d := dd) ?_ (List.mem_of_getElem? g1)))
      rw [show dd = _ from g2]
      simp [DataW.weights, Tryd.underlying37, DataW.weightsEach])
     unfold reachBytes at this
     omega
set_option maxRecDepth 100000 in
theorem open_doc {v : Value} {d : DataW H} {ps : List MemPlace} (hv : ∃ a n c, v = .slice a n c) (h : DataW.Trod enc Tryd.prog w base (fun _ => true) held 27 v d ps) (hw : ∀ n ∈ d.weights Tryd.prog 27, n ≤ reachBytes) :
  ∃ x : Doc, LinsR w (fun _ => True) v x ∧ Sane x := by
 obtain ⟨fuel, hf⟩ := h
 obtain ⟨v', xs, e, hs, hx⟩ := open_row (t0 := 26) (k := 4) (R := rdLin false) (LinD Tryd.prog 26) Tryd.underlying27 (by kernel_rfl) (by decide) hf (fun n cs y h => open_lin h)
 refine ⟨xs, ?_, fun l hl => ?_⟩
 ·have : v = v' := by
   obtain ⟨a, n, c, rfl⟩ := hv
   have e : [Value.slice a n c] = [v'] := e
   cases e
   rfl
  exact this ▸ hs
 ·obtain ⟨i, hi⟩ := List.getElem?_of_mem hl
  rcases hx with ⟨_, rfl⟩ | ⟨el, spr, hd, _, hel⟩
  ·cases hl
  ·obtain ⟨dd, g1, g2⟩ := hel i l hi
   have hd : d = .slice el spr := hd
   subst hd
   exact g2 fun n hn => hw n (by
    rw [DataW.weights, Tryd.underlying27]
    exact List.mem_cons_of_mem _ (List.mem_append_left _ (weightsAll_mem hn (List.mem_of_getElem? g1))))
end
end Go.Proofs.Qw
namespace Go.Proofs.YteognfhemmogpaaDoor
open Go.ChangeShapes Go.WideShapes Go.ChangeAt Go.RowKit
open Go.Proofs.Qw
def u8Ren : Shelf.Ren := { f := fun x => x, t := fun n => if n = 5 then 5 else if n = 119 then 151 else if n = 138 then 153 else 154, g := fun n => if n = 3 then 0 else 1 }
theorem u8First : (Rows.laid_unicode_utf8_first : DataW Unit) = Go.Lib.firstData := by kernel_rfl
theorem u8Accept : (Rows.laid_unicode_utf8_acceptRanges : DataW Unit) = Go.Lib.acceptData := by kernel_rfl
theorem tabs_of {W : World} (hL : laidMetH Tryd.prog [("unicode/utf8.acceptRanges", Rows.laid_unicode_utf8_acceptRanges), ("unicode/utf8.first", Rows.laid_unicode_utf8_first)] W) : Lib.Utf8Tabs 0 1 W :=
 utf8Tabs_of_readsT (ρ := u8Ren) ⟨by kernel_rfl, by kernel_rfl, by kernel_rfl, by kernel_rfl⟩ ⟨by kernel_rfl, by kernel_rfl, by kernel_rfl, by kernel_rfl, by kernel_rfl, by kernel_rfl, by kernel_rfl⟩
  (u8First ▸ Lib.laidMet.reads hL (.tail _ (.head _))) (u8Accept ▸ Lib.laidMet.reads hL (.head _))
theorem post_old {H : Type} {enc : TypeId × Value → H} {P : Program} {f : Func} {s : ChangeSpec} {apart fresh handsOn : Bool} {W W' : World} {args : Array Value} {v : Value} {ds gs : List (DataW H)} {before pa pv : List MemPlace}
  (hW : DataW.Whole enc P f.params.toList s.vars apart W args.toList ds gs before)
  (hres : ∀ (b : Nat) (sp : Nat → Bool) (hd : Bool), DataW.TrodAll enc P W' b sp hd f.resultTypes.toList (v.resultList f.resultTypes.size) (s.fn H (ds ++ gs)).results [])
  (hargs : DataW.TrodAll enc P W' 0 (fun b => decide (b < W.heap.size)) true f.params.toList args.toList (s.fn H (ds ++ gs)).args pa)
  (hvars : ∀ sp : Nat → Bool, (∀ p ∈ before, sp p.block = true) → DataW.TrodVars enc P W' sp s.vars (s.fn H (ds ++ gs)).vars pv)
  (hb : Below W.heap.size W W') : s.post enc P f apart fresh handsOn false W args v W' :=
 ⟨ds, gs, before, [], pa, pv, hW, hres _ _ _, hargs, hvars _ (fun p hp => by simpa using hW.lt p hp), hb.frame _, fun h => by cases h⟩
theorem laidOut : laidOutB Tryd.prog = true := by kernel_rfl
end Go.Proofs.YteognfhemmogpaaDoor
namespace Go.Proofs.Qw
open Go.RowKit
theorem wpList_copy_run {P : Program} (w : World) {ops : Array Oper} {rest : List Oper} {o : Oper} {a : Act} {Q : Exit → Act → World → Prop} (hgd : o.guard = none) (s x : Operand) (t tn : TypeId)
  (ho : o.op = .call { callee := .builtin .copy, args := #[s, x], argTypes := #[t, tn] }) (vs vx : Value) (hs : a.eval s = vs) (hx : a.eval x = vx)
  (v' : Value) (w' : World) (hr : (Builtin.copy_ #[t, tn] o.type #[vs, vx]).run P w = .ok v' w') (h : wpList P ops Q rest (a.put o.dst v') w') : wpList P ops Q (o :: rest) a w := by
 refine wpList_plain hgd fun K hK => ?_
 unfold Oper.wp execOp
 simp only [ho, resolve, invoke, builtin, Sem.run_bind, Sem.run_pure, Result.andThen_ok, List.map_toArray, List.map_cons, List.map_nil, hs, hx, hr]
 exact hK _ _ h
theorem step_copy_run {P : Program} {w : World} {ops : Array Oper} {o : Oper} {a : Act} {K : Act → World → Prop} {Q : Exit → Act → World → Prop} {E : Prop} (hgd : o.guard = none) (s x : Operand) (t tn : TypeId)
  (ho : o.op = .call { callee := .builtin .copy, args := #[s, x], argTypes := #[t, tn] }) (vs vx : Value) (hs : a.eval s = vs) (hx : a.eval x = vx)
  (v' : Value) (w' : World) (hr : (Builtin.copy_ #[t, tn] o.type #[vs, vx]).run P w = .ok v' w') (h : K (a.put o.dst v') w') : if Region.wanted o (yielded ops a.tmps) = true then Oper.wp P o a w K Q else E := by
 have hw : Region.wanted o (yielded ops a.tmps) = true := by simp [Region.wanted, hgd]
 rw [if_pos hw]
 unfold Oper.wp execOp
 simp only [ho, resolve, invoke, builtin, Sem.run_bind, Sem.run_pure, Result.andThen_ok, List.map_toArray, List.map_cons, List.map_nil, hs, hx, hr]
 exact h
end Go.Proofs.Qw
namespace Go.Proofs.YteognfhemmogpaaDoor
open Go.RowKit
open Go.Proofs.Qw
set_option maxHeartbeats 1000000 in
theorem docMay1_any (l : Lin) (b o : Nat) (la ca : Option Addr) (lc cc : Nat) (w w0 : World) (S : Nat → Prop) (hA : LinAt w0 S b o l la lc ca cc)
  (he : EnvT w) (h0 : Below w0.heap.size w0 w) (hs : ∀ c ∈ l.cells, c.href.length ≤ 1000000) :
  Calls Tryd.prog 42 #[.agg #[.int .i64 l.quote, .slice la l.lists.length lc, .int .i64 l.kind, .slice ca l.cells.length cc]] w fun e w' => e = .returned (.bool (!mayL l)) ∧ Below w.heap.size w w' := by
 obtain ⟨W1, hW1⟩ : ∃ W1, w.alloc (.cells #[.int .i64 l.quote, .slice la l.lists.length lc, .int .i64 l.kind, .slice ca l.cells.length cc] 26) = W1 := ⟨_, rfl⟩
 have hB : Below w.heap.size w W1 := hW1 ▸ (Below.refl _ _).alloc (Nat.le_refl _) _
 have k0 : W1.cell? ⟨w.heap.size, 0, none⟩ = some (.int .i64 l.quote) := hW1 ▸ cell_new _ _ _ 0
 have k1 : W1.cell? ⟨w.heap.size, 1, none⟩ = some (.slice la l.lists.length lc) := hW1 ▸ cell_new _ _ _ 1
 have k2 : W1.cell? ⟨w.heap.size, 2, none⟩ = some (.int .i64 l.kind) := hW1 ▸ cell_new _ _ _ 2
 have k3 : W1.cell? ⟨w.heap.size, 3, none⟩ = some (.slice ca l.cells.length cc) := hW1 ▸ cell_new _ _ _ 3
 have HC := Lib.hid (lineMay_any l la ca lc cc W1 w0 S hA.listsR hA.cellsR (he.below hB) (below_from h0 hB) hs)
 generalize mayL l = r at *
 clear hA
 go_enter Tryd.func42, Tryd.ntmps42
 go_wp2_with (go_at_call 43; refine HC.out.mono ?_; rintro e w1 ⟨rfl, hb1⟩)
 go_ret
 exact ⟨rfl, hB.trans (hb1.mono hB.size)⟩
set_option maxHeartbeats 1000000 in
theorem docMay_any (v : Value) (d : Doc) (w w0 : World) (S : Nat → Prop) (h : LinsR w0 S v d) (he : EnvT w) (h0 : Below w0.heap.size w0 w) (hs : Small d) :
  Calls Tryd.prog 25 #[v] w fun e w' => e = .returned (.bool (mayD d)) ∧ Below w.heap.size w w' := by
 have HC1 := Lib.hid (size_any v d w w0 S h h0 hs.1)
 have HC2 : Hid (∀ W, EnvT W → Below w0.heap.size w0 W → Calls Tryd.prog 41 #[v, .func (.func 42) #[] #[]] W fun e w' => e = .returned (.bool (d.any fun l => !mayL l)) ∧ Below W.heap.size W w') := Lib.hid fun W h1 h2 =>
  containsLine_any v d (fun l => !mayL l) 42 #[] (enters_of Tryd.func42 (by kernel_rfl) rfl) W w0 S h h1 h2 (fun i l W' b o la lc ca cc hi hA h1 h2 _ => docMay1_any l b o la ca lc cc W' w0 S hA h1 h2 (hs.2.2 l (List.mem_of_getElem? hi)))
 have HE : Hid (mayD d = (decide (1 ≤ (d.length : Int)) && (decide ((d.length : Int) ≤ 200) && (decide ((sizeD d : Int) ≤ 4000) && !(d.any fun l => !mayL l))))) := Lib.hid (by
  unfold mayD
  rw [List.any_eq_not_all_not, Bool.not_not, Bool.and_assoc, Bool.and_assoc]
  rw [show decide (1 ≤ d.length) = decide (1 ≤ (d.length : Int)) from decide_eq_decide.2 (by omega), show decide (d.length ≤ 200) = decide ((d.length : Int) ≤ 200) from decide_eq_decide.2 (by omega), show decide (sizeD d ≤ 4000) = decide ((sizeD d : Int) ≤ 4000) from decide_eq_decide.2 (by omega)]
  simp)
 obtain ⟨a, c, rfl⟩ := h.slice
 generalize (d.any fun l => !mayL l) = x at *
 generalize mayD d = r at *
 generalize sizeD d = z at *
 clear h
 go_enter Tryd.func25, Tryd.ntmps25
 go_wp2_with (first | (go_at_call 40; refine HC1.out.mono ?_; rintro e w1 ⟨rfl, hb1⟩; have he1 := he.below hb1; have hw1 := below_from h0 hb1) | (go_at_call 41; refine (HC2.out _ (by assumption) (by assumption)).mono ?_; rintro e w2 ⟨rfl, hb2⟩; have hb4 := Below.trans hb1 (hb2.mono (Below.size hb1))))
 all_goals
  go_ret
  refine ⟨?_, by first | assumption | exact Below.refl _ _⟩
  rw [HE.out]
  refine congrArg Ending.returned (congrArg Value.bool ?_)
  clear HE HC1 HC2
  simp (config := { failIfUnchanged := false }) [*]
 all_goals try omega
end Go.Proofs.YteognfhemmogpaaDoor
namespace Go.Proofs.YteognfhemmogpaaDoor
open Go.RowKit
open Go.Proofs.Qw
def spanD (d : Doc) (a b : Ps) : Bool := mayD d && isD d a && isD d b && decide (cmpP a b ≤ 0)
end Go.Proofs.YteognfhemmogpaaDoor
namespace Go.Proofs.Qw
open Go.RowKit Go.Proofs.YteognfhemmogpaaDoor
def rowB (d : Doc) (i p j q k : Nat) : Nat × Nat × Nat := (k, if k = i then p else 0, if k = j then q else (d.getD k default).cells.length)
def rowsTo (d : Doc) (i p j q k : Nat) : List (Nat × Nat × Nat) := (List.range (k - i)).map fun n => rowB d i p j q (i + n)
end Go.Proofs.Qw
namespace Go.Proofs.Qw
open Go.RowKit Go.Proofs.YteognfhemmogpaaDoor
def cellsB (d : Doc) (x : Nat × Nat × Nat) : List Cel := ((d.getD x.1 default).cells.drop x.2.1).take (x.2.2 - x.2.1)
def cellsL (d : Doc) (l : List (Nat × Nat × Nat)) : List Cel := l.flatMap (cellsB d)
def cellsD (d : Doc) (a b : Ps) : List Cel := if spanD d a b = true then cellsL d (rowsTo d a.line.toNat a.col.toNat b.line.toNat b.col.toNat (b.line.toNat + 1)) else []
theorem blk_own {β : Type} (B k : Nat) (cs : Array Value) (t : TypeId) : OwnFrom B (fun (_ : β) (W : World) => W.heap[k]? = some (.cells cs t)) := fun _ X _ _ hs hg hr =>
 (hg.block k (Array.getElem?_eq_some_iff.1 hs).1 (fun e => by obtain ⟨_, o, ho, hc⟩ := hr k e.symm; rw [hs] at ho; cases ho; cases hc)).trans hs
end Go.Proofs.Qw
namespace Go.Proofs.YteognfhemmogpaaDoor
open Go.RowKit
open Go.Proofs.Qw
attribute [local go_sem] Oper.semAt_some
attribute [local go_sem] Oper.semAt_some
structure Kb (n₀ base top : Nat) (W W' : World) : Prop where
 below : Below n₀ W W'
 cells : ∀ k o, base ≤ k → k < top → W.heap[k]? = some o → o.isCells = true → W'.heap[k]? = some o
theorem Kb.t {n₀ base top : Nat} {A B C : World} (h : Kb n₀ base top A B) (k : Kb n₀ base top B C) : Kb n₀ base top A C := ⟨h.below.trans k.below, fun i o hi ht ho hc => k.cells i o hi ht (h.cells i o hi ht ho hc) hc⟩
theorem Kb.of_kp {n₀ base top : Nat} {A B : World} (h : Kp n₀ base A B) : Kb n₀ base top A B := ⟨h.below, fun i o hi _ ho hc => h.cells i o hi ho hc⟩
theorem Kb.b {n₀ base top : Nat} {w : World} (hn : n₀ ≤ w.heap.size) (W : World) (l : Nat) (o o' : Obj) (hl : w.heap.size ≤ l) (h : W.heap[l]? = some o) (hc : o.isCells = false) (hw : o.isWalk = false) : Kb n₀ base top W (W.putObj l o') := .of_kp (Kp.b hn W l o o' hl h hc hw)
theorem Kb.of_below {n₀ base top : Nat} {W W' : World} (hn : n₀ ≤ W.heap.size) (hb : Below W.heap.size W W') : Kb n₀ base top W W' := .of_kp (.of_below hn hb)
theorem Kb.of_top {n₀ base top Z : Nat} {W W' : World} (hn : n₀ ≤ Z) (ht : top ≤ Z) (hb : Below Z W W') : Kb n₀ base top W W' := ⟨hb.mono hn, fun k _ _ hk h _ => (hb.block k (by omega)).trans h⟩
theorem Kb.setCell {n₀ base top : Nat} (W : World) {B o : Nat} (h1 : n₀ ≤ B) (h2 : B < base ∨ top ≤ B) (v : Value) : Kb n₀ base top W (W.setCell ⟨B, o, none⟩ v) :=
 ⟨(Below.refl _ _).setCell h1 _, fun k u hk ht h _ => by rw [Below.heap_setCell _ _ _ _ (by simp; omega)]; exact h⟩
theorem wpListIn_append_R {F : Fence} {m : Nat} {P : Program} (w : World) {ops : Array Oper} {rest : List Oper} {o : Oper} {a : Act} {Q : Exit → Act → World → Prop} (hgd : o.guard = none) (s x : Operand) (st tx : TypeId)
  (ho : o.op = .call { callee := .builtin .append, args := #[s, x], argTypes := #[st, tx] }) {t : TypeId} {k : Nat} (hT : RowT P st t k) {α : Type} {R : Rd α} (hE : Elt t k R) (n : Nat) (v y : Value) {xs ys : List α} {news : List Value} (hs : a.eval s = v) (hx : a.eval x = y)
  (h1 : SliceR t k R true w (fun b => n ≤ b) v xs) (hn : n ≤ w.heap.size) (hsrc : Src P k tx y ys.length news w) (hnew : NewsR k R w (fun b => n ≤ b) news ys) (hlen : xs.length + ys.length ≤ 100000000)
  (h : ∀ v' w', SliceR t k R true w' (fun b => n ≤ b) v' (xs ++ ys) → Below n w w' → w.grownBy w' v.ownBlock → (v'.ownBlock = v.ownBlock ∨ v'.ownBlock = some w.heap.size) → wpListIn F m P ops Q rest (a.put o.dst v') w') :
  wpListIn F m P ops Q (o :: rest) a w := by
 refine wpListIn_plain hgd fun K hK => ?_
 obtain ⟨v', w', hr, h2, h3, h4, h5⟩ := append_R (P := P) (ty := o.type) hT hE h1 hn hsrc hnew hlen
 unfold Oper.wpIn
 refine ⟨?_, ?_⟩
 ·simp [Oper.about, ho, resolve, Target.leads, Sem.run_pure]
 ·rw [Oper.semAt_plain F _ _ (by rw [ho]; intro c hc'; cases hc')]
  simp [execOp, ho, resolve, invoke, builtin, hs, hx, hr, Result.andThen]
  exact hK _ _ (h v' w' h2 h3 h4 h5)
theorem append_keeps {α : Type} {t : TypeId} {k : Nat} {R : Rd α} {w w' : World} {S : Nat → Prop} {v : Value} {xs : List α} (h : SliceR t k R true w S v xs) (hne : v = .slice none 0 0 ∨ xs ≠ []) (hg : w.grownBy w' v.ownBlock) : KeepsOthers w w' :=
 KeepsOthers.of_grownBy hg fun j o ej hj => by
  obtain ⟨a, c, rfl, _, _, hx⟩ := h
  rcases hx with ⟨rfl, hc0⟩ | ⟨b, o', rfl, _, _, hf, _⟩
  ·rcases hne with e | e
   ·cases e
    cases ej
   ·exact absurd rfl e
  ·obtain ⟨cs, h1, _⟩ := hf rfl
   have ej : some b = some j := ej
   cases ej
   rw [h1] at hj
   cases hj
   rfl
end Go.Proofs.YteognfhemmogpaaDoor
namespace Go.Proofs.Qw
open Go.RowKit
structure Att where
 name : List UInt8
 value : List UInt8
 deriving DecidableEq, Inhabited
inductive Nod where
 | mk (tag : Int) (attrs : List Att) (text : List UInt8) (kids : List Nod)
 deriving Inhabited
namespace Nod
def tag : Nod → Int | mk t _ _ _ => t
def attrs : Nod → List Att | mk _ a _ _ => a
def text : Nod → List UInt8 | mk _ _ x _ => x
def kids : Nod → List Nod | mk _ _ _ k => k
mutual
def decEq : (a b : Nod) → Decidable (a = b)
 | mk t a x k, mk t' a' x' k' =>
  if h1 : t = t' then if h2 : a = a' then if h3 : x = x' then
   match decEqs k k' with
   | isTrue h => isTrue (by subst h1 h2 h3 h; rfl)
   | isFalse h => isFalse (by intro e; cases e; exact h rfl)
  else isFalse (by intro e; cases e; exact h3 rfl)
  else isFalse (by intro e; cases e; exact h2 rfl)
  else isFalse (by intro e; cases e; exact h1 rfl)
def decEqs : (a b : List Nod) → Decidable (a = b)
 | [], [] => isTrue rfl
 | [], _ :: _ => isFalse (by simp)
 | _ :: _, [] => isFalse (by simp)
 | x :: xs, y :: ys => match decEq x y, decEqs xs ys with
  | isTrue h1, isTrue h2 => isTrue (by rw [h1, h2])
  | isFalse h, _ => isFalse (by intro e; cases e; exact h rfl)
  | _, isFalse h => isFalse (by intro e; cases e; exact h rfl)
end
instance : DecidableEq Nod := decEq
mutual
def deep : Nod → Nat | mk _ _ _ ks => deeps ks
def deeps : List Nod → Nat | [] => 0 | k :: ks => max (deep k + 1) (deeps ks)
end
end Nod
def partsBy {α : Type} (r : α → α → Bool) : List α → List (List α)
 | [] => []
 | a :: l => (a :: l.takeWhile (r a)) :: partsBy r (l.dropWhile (r a))
 termination_by l => l.length
 decreasing_by exact Nat.lt_succ_of_le (List.dropWhile_suffix _).length_le
theorem parts_nil {α : Type} (r : α → α → Bool) : partsBy r [] = [] := by unfold partsBy; rfl
theorem parts_cons {α : Type} (r : α → α → Bool) (a : α) (l : List α) : partsBy r (a :: l) = (a :: l.takeWhile (r a)) :: partsBy r (l.dropWhile (r a)) := by rw [partsBy]
theorem takeWhile_all {α : Type} {p : α → Bool} : ∀ {l : List α} (m : List α), (∀ x ∈ l, p x = true) → (l ++ m).takeWhile p = l ++ m.takeWhile p
 | [], m, _ => rfl
 | a :: l, m, h => by rw [List.cons_append, List.takeWhile_cons_of_pos (h a (by simp)), takeWhile_all m (fun x hx => h x (by simp [hx])), List.cons_append]
theorem dropWhile_all {α : Type} {p : α → Bool} : ∀ {l : List α} (m : List α), (∀ x ∈ l, p x = true) → (l ++ m).dropWhile p = m.dropWhile p
 | [], m, _ => rfl
 | a :: l, m, h => by rw [List.cons_append, List.dropWhile_cons_of_pos (h a (by simp)), dropWhile_all m (fun x hx => h x (by simp [hx]))]
theorem parts_flat {α : Type} (r : α → α → Bool) : ∀ (n : Nat) (l : List α), l.length ≤ n → (partsBy r l).flatten = l
 | 0, l, hl => by
  have : l = [] := List.length_eq_zero_iff.1 (by omega)
  subst this
  rw [parts_nil]; rfl
 | n + 1, [], _ => by rw [parts_nil]; rfl
 | n + 1, a :: l, hl => by
  rw [parts_cons, List.flatten_cons, parts_flat r n _ (by have := (List.dropWhile_suffix (l := l) (r a)).length_le; simp at hl; omega), List.cons_append, List.takeWhile_append_dropWhile]
theorem parts_ne {α : Type} (r : α → α → Bool) : ∀ (n : Nat) (l : List α), l.length ≤ n → ∀ p ∈ partsBy r l, p ≠ []
 | 0, l, hl => by
  have : l = [] := List.length_eq_zero_iff.1 (by omega)
  subst this
  rw [parts_nil]; simp
 | n + 1, [], _ => by rw [parts_nil]; simp
 | n + 1, a :: l, hl => by
  rw [parts_cons]
  intro p hp
  rcases List.mem_cons.1 hp with rfl | h
  ·simp
  ·exact parts_ne r n _ (by have := (List.dropWhile_suffix (l := l) (r a)).length_le; simp at hl; omega) p h
end Go.Proofs.Qw
namespace Go.Proofs.Qw
open Go.RowKit
def hrefA (h : List UInt8) : List Att := [⟨[104, 114, 101, 102], h⟩]
namespace Nod
mutual
def Sane : Nod → Prop | mk _ ats x ks => (x.length ≤ 281474976710656 ∧ ks.length ≤ 281474976710656 ∧ ats.length ≤ 281474976710656 ∧ ∀ a ∈ ats, a.name.length ≤ 281474976710656 ∧ a.value.length ≤ 281474976710656) ∧ Sanes ks
def Sanes : List Nod → Prop | [] => True | k :: ks => Sane k ∧ Sanes ks
end
end Nod
end Go.Proofs.Qw
namespace Go.Proofs.Qw
open Go.RowKit
abbrev Wr := Int × List Att
def txtL (l : List Int) : List UInt8 := l.flatMap Lib.encodeRune
def txtN (l : List Int) : Nod := .mk 0 [] (txtL l) []
def brN : Nod := .mk 16 [] [] []
def wrapO (w : Option Wr) (ns : List Nod) : List Nod := match w with | none => ns | some w => [.mk w.1 w.2 [] ns]
def textR (a b : Cel) : Bool := decide (a.r ≠ 10) && decide (b.r ≠ 10)
def leafP (p : List Cel) : Nod := if (p.headD default).r = 10 then brN else txtN (p.map (·.r))
def leavesN (l : List Cel) : List Nod := (partsBy textR l).map leafP
def gr : List (Cel → Option Wr) → List Cel → List Nod
 | [], l => leavesN l
 | k :: ks, l => (partsBy (fun a b => decide (k a = k b)) l).flatMap fun p => wrapO (k (p.headD default)) (gr ks p)
theorem wrapO_ne {w : Option Wr} {ns : List Nod} (h : ns ≠ []) : wrapO w ns ≠ [] := by
 cases w <;> simp [wrapO, h]
theorem parts_ne_nil {α : Type} {r : α → α → Bool} {l : List α} (h : l ≠ []) : partsBy r l ≠ [] := by
 cases l with
 | nil => exact absurd rfl h
 | cons a l => rw [parts_cons]; simp
theorem gr_ne : ∀ (ks : List (Cel → Option Wr)) {l : List Cel}, l ≠ [] → gr ks l ≠ []
 | [], l, h => by
  unfold gr leavesN
  intro e
  exact parts_ne_nil h (List.map_eq_nil_iff.1 e)
 | k :: ks, l, h => by
  unfold gr
  intro e
  obtain ⟨p, ps, hp⟩ : ∃ p ps, partsBy (fun a b => decide (k a = k b)) l = p :: ps := by
   cases hq : partsBy (fun a b => decide (k a = k b)) l with
   | nil => exact absurd hq (parts_ne_nil h)
   | cons p ps => exact ⟨p, ps, rfl⟩
  rw [hp, List.flatMap_cons] at e
  have hpe : p ≠ [] := parts_ne _ _ l (Nat.le_refl _) p (by rw [hp]; simp)
  exact wrapO_ne (gr_ne ks hpe) (List.append_eq_nil_iff.1 e).1
theorem key_all {k : Cel → Option Wr} : ∀ (n : Nat) (l : List Cel), l.length ≤ n → ∀ p ∈ partsBy (fun a b => decide (k a = k b)) l, ∀ x ∈ p, k x = k (p.headD default)
 | 0, l, hl => by
  have : l = [] := List.length_eq_zero_iff.1 (by omega)
  subst this
  rw [parts_nil]; simp
 | n + 1, [], _ => by rw [parts_nil]; simp
 | n + 1, a :: l, hl => by
  rw [parts_cons]
  intro p hp
  rcases List.mem_cons.1 hp with rfl | h
  ·intro x hx
   rcases List.mem_cons.1 hx with rfl | hx
   ·rfl
   ·have := List.all_takeWhile (l := l) (p := fun b => decide (k a = k b))
    rw [List.all_eq_true] at this
    have := this x hx
    simpa using (of_decide_eq_true this).symm
  ·exact key_all n _ (by have := (List.dropWhile_suffix (l := l) (fun b => decide (k a = k b))).length_le; simp at hl; omega) p h
end Go.Proofs.Qw
namespace Go.Proofs.Qw
open Go.RowKit
def wayL (l : Lin) : List Int := List.replicate (min l.quote.toNat 6) 6 ++ l.lists.map (fun k => if k = 0 then 7 else 8)
def stepL (lv : Nat) (l : Lin) : Int := (wayL l).getD lv 0
def stepR (lv : Nat) (a b : Lin) : Bool := decide (stepL lv a ≠ 0) && decide (stepL lv a = stepL lv b)
def lvHref (c : Cel) : Option Wr := if c.href = [] then none else some (10, hrefA c.href)
def lineN (row : List Cel → List Nod) (l : Lin) : Nod := .mk (if l.lists ≠ [] then 9 else l.kind + 2) [] [] (row l.cells)
def hostL (leaf : Lin → Nod) : Nat → Nat → List Lin → List Nod
 | 0, _, d => d.map leaf
 | n + 1, lv, d => (partsBy (stepR lv) d).flatMap fun p => if stepL lv (p.headD default) ≠ 0 then [.mk (stepL lv (p.headD default)) [] [] (hostL leaf n (lv + 1) p)] else [leaf (p.headD default)]
theorem step_all {lv : Nat} : ∀ (n : Nat) (l : List Lin), l.length ≤ n → ∀ p ∈ partsBy (stepR lv) l, ∀ x ∈ p, stepL lv x = stepL lv (p.headD default)
 | 0, l, hl => by
  have : l = [] := List.length_eq_zero_iff.1 (by omega)
  subst this
  rw [parts_nil]; simp
 | n + 1, [], _ => by rw [parts_nil]; simp
 | n + 1, a :: l, hl => by
  rw [parts_cons]
  intro p hp
  rcases List.mem_cons.1 hp with rfl | h
  ·intro x hx
   rcases List.mem_cons.1 hx with rfl | hx
   ·rfl
   ·have := List.all_takeWhile (l := l) (p := stepR lv a)
    rw [List.all_eq_true] at this
    have := this x hx
    unfold stepR at this
    simp only [Bool.and_eq_true, decide_eq_true_eq] at this
    exact this.2.symm
  ·exact step_all n _ (by have := (List.dropWhile_suffix (l := l) (stepR lv a)).length_le; simp at hl; omega) p h
theorem way_pos {l : Lin} {t : Int} (h : t ∈ wayL l) : t ≠ 0 := by
 unfold wayL at h
 rcases List.mem_append.1 h with h | h
 ·rw [List.eq_of_mem_replicate h]; decide
 ·obtain ⟨k, _, rfl⟩ := List.mem_map.1 h
  split <;> decide
theorem stepL_some {l : Lin} {lv : Nat} (h : stepL lv l ≠ 0) : lv < (wayL l).length ∧ (wayL l).drop lv = stepL lv l :: (wayL l).drop (lv + 1) := by
 have hl : lv < (wayL l).length := by
  rcases Nat.lt_or_ge lv (wayL l).length with h1 | h1
  ·exact h1
  ·exfalso; apply h; unfold stepL; rw [List.getD_eq_getElem?_getD, List.getElem?_eq_none h1]; rfl
 refine ⟨hl, ?_⟩
 rw [List.drop_eq_getElem_cons hl]
 unfold stepL
 rw [List.getD_eq_getElem?_getD, List.getElem?_eq_getElem hl]
 rfl
theorem stepL_none {l : Lin} {lv : Nat} (h : stepL lv l = 0) : (wayL l).drop lv = [] := by
 rcases Nat.lt_or_ge lv (wayL l).length with h1 | h1
 ·exfalso
  unfold stepL at h
  rw [List.getD_eq_getElem?_getD, List.getElem?_eq_getElem h1] at h
  exact way_pos (List.getElem_mem h1) h
 ·exact List.drop_eq_nil_of_le h1
end Go.Proofs.Qw
namespace Go.Proofs.Qw
open Go.RowKit Go.Proofs.YteognfhemmogpaaDoor
def cellsOf (l : List Int) (b : Int) (h : List UInt8) : List Cel := l.map fun c => ⟨c, b, h⟩
end Go.Proofs.Qw
namespace Go.Proofs.Qw
open Go.RowKit Go.Proofs.YteognfhemmogpaaDoor
theorem byte_nat {x : Int} (h0 : 0 ≤ x) (h1 : x < 256) : (x.toNat.toUInt8).toNat = x.toNat := by
 rw [UInt8.toNat_ofNat']
 omega
theorem decode_encode {r : Int} (h : Lib.validRune r = true) (t : List UInt8) : Lib.decodeL (Lib.encodeRune r ++ t) = (r.toNat, (Lib.encodeRune r).length) := by
 unfold Lib.validRune at h
 rw [decide_eq_true_eq] at h
 rw [Lib.decodeL_N]
 unfold Lib.encodeRune
 by_cases h1 : r ≤ 127
 ·rw [Lib.encodeRuneZ_one (by omega) h1]
  simp only [List.map_cons, List.map_nil, List.singleton_append, List.length_cons, List.length_nil, List.getD_cons_zero]
  rw [byte_nat (by omega) (by omega)]
  unfold Lib.decodeN
  rw [if_pos (by omega)]
 by_cases h2 : r ≤ 2047
 ·rw [Lib.encodeRuneZ_two (by omega) h2]
  simp only [List.map_cons, List.map_nil, List.cons_append, List.nil_append, List.length_cons, List.length_nil, List.getD_cons_zero, List.getD_cons_succ]
  rw [byte_nat (by omega) (by omega), byte_nat (by omega) (by omega)]
  unfold Lib.decodeN
  rw [if_neg (by omega), if_pos (by omega), if_pos (by omega)]
  congr 1
  omega
 by_cases h3 : r ≤ 65535
 ·rw [Lib.encodeRuneZ_three (by omega)]
  simp only [List.map_cons, List.map_nil, List.cons_append, List.nil_append, List.length_cons, List.length_nil, List.getD_cons_zero, List.getD_cons_succ]
  rw [byte_nat (by omega) (by omega), byte_nat (by omega) (by omega), byte_nat (by omega) (by omega)]
  unfold Lib.decodeN
  rw [if_neg (by omega), if_neg (by omega), if_pos (by omega), if_pos (by omega)]
  congr 1
  omega
 ·rw [Lib.encodeRuneZ_four (by omega) (by omega)]
  simp only [List.map_cons, List.map_nil, List.cons_append, List.nil_append, List.length_cons, List.length_nil, List.getD_cons_zero, List.getD_cons_succ]
  rw [byte_nat (by omega) (by omega), byte_nat (by omega) (by omega), byte_nat (by omega) (by omega), byte_nat (by omega) (by omega)]
  unfold Lib.decodeN
  rw [if_neg (by omega), if_neg (by omega), if_neg (by omega), if_pos (by omega), if_pos (by omega)]
  congr 1
  omega
theorem encode_pos (r : Int) : 1 ≤ (Lib.encodeRune r).length := by
 unfold Lib.encodeRune
 rw [List.length_map]
 exact (Lib.encodeRuneZ_length r).1
theorem runesL_of : ∀ (l : List Int) (f : Nat), (∀ c ∈ l, Lib.validRune c = true) → (l.flatMap Lib.encodeRune).length ≤ f → runesL f (l.flatMap Lib.encodeRune) = l
 | [], f, _, _ => by
  cases f with
  | zero => rfl
  | succ f => rw [List.flatMap_nil, runesL, if_pos rfl]
 | c :: l, f, hv, hf => by
  have hp := encode_pos c
  have hc := hv c (by simp)
  rw [List.flatMap_cons] at hf ⊢
  rw [List.length_append] at hf
  cases f with
  | zero => omega
  | succ f =>
   have hne : Lib.encodeRune c ++ l.flatMap Lib.encodeRune ≠ [] := by
    intro e
    rw [(List.append_eq_nil_iff.1 e).1] at hp
    simp at hp
   rw [runesL, if_neg hne, decode_encode hc, List.drop_left, runesL_of l f (fun x hx => hv x (by simp [hx])) (by omega)]
   congr 1
   unfold Lib.validRune at hc
   rw [decide_eq_true_eq] at hc
   simp only
   omega
theorem runesB_of (l : List Int) (hv : ∀ c ∈ l, Lib.validRune c = true) : runesB ⟨(l.flatMap Lib.encodeRune).toArray⟩ = l := by
 unfold runesB
 rw [runesGo_eq]
 simp only [List.drop_zero]
 exact runesL_of l _ hv (by simp [ByteArray.size])
theorem mayR_valid {c : Int} (h : mayR c = true) : Lib.validRune c = true := by
 unfold mayR at h
 rw [decide_eq_true_eq] at h
 unfold classF at h
 cases hv : Lib.validRune c with
 | true => rfl
 | false => rw [if_pos hv] at h; omega
def flatC (c : Int) : Option Int := if c = 9 ∨ c = 10 ∨ c = 12 ∨ c = 13 then some 32 else if classF c = 1 then none else some c
theorem flat_may (c : Int) (h : mayR c = true) : flatC c = some c := by
 unfold mayR at h
 rw [decide_eq_true_eq] at h
 unfold flatC
 rw [if_neg, if_neg (by omega)]
 rintro (rfl | rfl | rfl | rfl) <;> exact absurd h (by decide)
theorem bits_up (x : Int) (j : Nat) (h0 : 0 ≤ x) (h1 : x ≤ 15) (hj : j < 4) : (bits .and .i64 x (2 ^ j) = 0 ∧ bits .and .i64 x (2 ^ (j + 1) - 1) = bits .and .i64 x (2 ^ j - 1)) ∨ (bits .and .i64 x (2 ^ j) ≠ 0 ∧ bits .or .i64 (bits .andNot .i64 (bits .and .i64 x (2 ^ j - 1)) 0) (2 ^ j) = bits .and .i64 x (2 ^ (j + 1) - 1)) := by
 have H : ∀ (x : Fin 16) (j : Fin 4), (bits .and .i64 (x.val : Int) (2 ^ j.val) = 0 ∧ bits .and .i64 (x.val : Int) (2 ^ (j.val + 1) - 1) = bits .and .i64 (x.val : Int) (2 ^ j.val - 1)) ∨ (bits .and .i64 (x.val : Int) (2 ^ j.val) ≠ 0 ∧ bits .or .i64 (bits .andNot .i64 (bits .and .i64 (x.val : Int) (2 ^ j.val - 1)) 0) (2 ^ j.val) = bits .and .i64 (x.val : Int) (2 ^ (j.val + 1) - 1)) := by decide +kernel
 have := H ⟨x.toNat, by omega⟩ ⟨j, hj⟩
 have e : ((x.toNat : Nat) : Int) = x := Int.toNat_of_nonneg h0
 simp only [e] at this
 exact this
theorem bits_all (x : Int) (h0 : 0 ≤ x) (h1 : x ≤ 15) : bits .and .i64 x 15 = x := by
 have H : ∀ x : Fin 16, bits .and .i64 (x.val : Int) 15 = (x.val : Int) := by decide +kernel
 have := H ⟨x.toNat, by omega⟩
 have e : ((x.toNat : Nat) : Int) = x := Int.toNat_of_nonneg h0
 simp only [e] at this
 exact this
theorem bits_none (x : Int) : bits .and .i64 x 0 = 0 := by
 unfold bits
 simp
 decide
theorem band_or0 (x : Int) (h0 : 0 ≤ x) (h1 : x ≤ 15) : bits .or .i64 (bits .andNot .i64 x 0) 0 = x := by
 have H : ∀ x : Fin 16, bits .or .i64 (bits .andNot .i64 (x.val : Int) 0) 0 = (x.val : Int) := by decide +kernel
 have := H ⟨x.toNat, by omega⟩
 have e : ((x.toNat : Nat) : Int) = x := Int.toNat_of_nonneg h0
 simp only [e] at this
 exact this
end Go.Proofs.Qw
namespace Go.Proofs.Qw
def lowc (c : UInt8) : UInt8 := if 65 ≤ c ∧ c ≤ 90 then c + 32 else c
def low (l : List UInt8) : List UInt8 := l.map lowc
def splitL (c : UInt8) : List UInt8 → List (List UInt8)
 | [] => [[]]
 | b :: l => if b = c then [] :: splitL c l else (b :: (splitL c l).headD []) :: (splitL c l).tail
def underline : List UInt8 := [117, 110, 100, 101, 114, 108, 105, 110, 101]
def through : List UInt8 := [108, 105, 110, 101, 45, 116, 104, 114, 111, 117, 103, 104]
def textDeco : List UInt8 := [116, 101, 120, 116, 45, 100, 101, 99, 111, 114, 97, 116, 105, 111, 110]
def normal : List UInt8 := [110, 111, 114, 109, 97, 108]
def wordsGo (b : Int) (s : Bool) : List (List UInt8) → Int × Bool
 | [] => (b, s)
 | w :: r => if w = underline then wordsGo (bits .or .i64 b 4) true r
  else if w = through then wordsGo (bits .or .i64 b 8) true r
  else if w = [] then wordsGo b s r else (0, false)
def words (l : List UInt8) : Int × Bool := wordsGo 0 false (splitL 32 l)
def declOf (d : List UInt8) : Option (List UInt8 × List UInt8) :=
 if (Lib.cut d [58]).2.2 = true then some (low (Lib.trimB (Lib.cut d [58]).1 32), low (Lib.trimB (Lib.cut d [58]).2.1 32)) else none
def decls (l : List UInt8) : List (List UInt8 × List UInt8) := (splitL 59 l).filterMap declOf
def cssSay (st : Int × Int) (on off : Int) : Int × Int := (bits .or .i64 (bits .andNot .i64 st.1 off) on, bits .or .i64 (bits .andNot .i64 st.2 on) off)
def cssStepT (t : List UInt8) (st : Int × Int) (nm vl : List UInt8) : Int × Int :=
 if t = [102, 111, 110, 116, 45, 119, 101, 105, 103, 104, 116, 58, 98, 111, 108, 100] then cssSay st 1 0 else
 if t = [102, 111, 110, 116, 45, 119, 101, 105, 103, 104, 116, 58, 55, 48, 48] then cssSay st 1 0 else
 if t = [102, 111, 110, 116, 45, 119, 101, 105, 103, 104, 116, 58, 110, 111, 114, 109, 97, 108] then cssSay st 0 1 else
 if t = [102, 111, 110, 116, 45, 119, 101, 105, 103, 104, 116, 58, 52, 48, 48] then cssSay st 0 1 else
 if t = [102, 111, 110, 116, 45, 115, 116, 121, 108, 101, 58, 105, 116, 97, 108, 105, 99] then cssSay st 2 0 else
 if t = [102, 111, 110, 116, 45, 115, 116, 121, 108, 101, 58, 110, 111, 114, 109, 97, 108] then cssSay st 0 2 else
 if t = [116, 101, 120, 116, 45, 100, 101, 99, 111, 114, 97, 116, 105, 111, 110, 58, 110, 111, 110, 101] then cssSay st 0 12 else
 if (words vl).2 = true then (if nm = textDeco then cssSay st (words vl).1 (bits .andNot .i64 12 (words vl).1) else st) else st
def cssStep (st : Int × Int) (x : List UInt8 × List UInt8) : Int × Int := cssStepT (x.1 ++ 58 :: x.2) st x.1 x.2
def cssParse (l : List UInt8) : Int × Int := (decls l).foldl cssStep (0, 0)
end Go.Proofs.Qw
namespace Go.Proofs.Qw
def en (v : BitVec 64) : Int := IntKind.i64.wrap (v.toNat : Int)
end Go.Proofs.Qw
namespace Go.Proofs.Qw
open Go.RowKit
def attrF (ats : List Att) (name : List UInt8) : Option (List UInt8) := (ats.find? fun a => decide (a.name = name)).map (·.value)
def styleN : List UInt8 := [115, 116, 121, 108, 101]
def hrefN : List UInt8 := [104, 114, 101, 102]
def saysN (n : Nod) : Int × Int := if n.tag = 11 then (1, 0) else if n.tag = 12 then (2, 0) else if n.tag = 13 then (4, 0) else if n.tag = 14 then (8, 0) else if n.tag = 15 then cssParse ((attrF n.attrs styleN).getD []) else (0, 0)
def bitsN (n : Nod) (around : Int) : Int := bits .or .i64 (bits .andNot .i64 around (saysN n).2) (saysN n).1
def linkN (n : Nod) (around : List UInt8) : List UInt8 := match attrF n.attrs hrefN with | some h => if n.tag = 10 ∧ targetF h = true then h else around | none => around
def wrap1 (b k tag : Int) (o : List Nod) : List Nod := if bits .and .i64 b k = 0 then o else [.mk tag [] [] o]
def wrapB (b : Int) (kids : List Nod) : List Nod := wrap1 b 1 11 (wrap1 b 2 12 (wrap1 b 4 13 (wrap1 b 8 14 kids)))
def wrapN (b : Int) (href : List UInt8) (kids : List Nod) : List Nod := if href = [] then wrapB b kids else [.mk 10 (hrefA href) [] (wrapB b kids)]
theorem and_bit (v : BitVec 64) (m : BitVec 64) (j : Nat) (hj : j < 64) (hm : ∀ i (hi : i < 64), m[i] = decide (i = j)) : (v &&& m = 0#64 ↔ v[j] = false) := by
 constructor
 ·intro h
  have := congrArg (fun x : BitVec 64 => x[j]) h
  simp only [BitVec.getElem_and, hm j hj, BitVec.getElem_zero] at this
  simpa using this
 ·intro h
  apply BitVec.eq_of_getElem_eq
  intro i hi
  simp only [BitVec.getElem_and, hm i hi, BitVec.getElem_zero]
  by_cases e : i = j
  ·subst e; simp [h]
  ·simp [e]
end Go.Proofs.Qw
namespace Go.Proofs.Qw
open Go.RowKit
def tagC (t : Int) : Int := if t < 0 ∨ 16 < t then 0 else if t = 0 then 1 else if t = 1 ∨ t = 6 ∨ t = 7 ∨ t = 8 then 2 else if (2 ≤ t ∧ t ≤ 5) ∨ t = 9 then 3 else if t = 16 then 5 else 4
def headT (t : Int) : Int := if 3 ≤ t ∧ t ≤ 5 then t - 2 else 0
structure Aro where
 quote : Int
 lists : List Int
 kind : Int
 bits : Int
 href : List UInt8
structure VSt where
 lines : List Lin
 cells : Nat
 opn : Bool
 spot : Int
 pos : Ps
abbrev Plc := Option (List Int × Int)
def frameA (a : Aro) : Lin := ⟨a.quote, a.lists, if a.lists = [] then a.kind else 0, []⟩
def beginV (a : Aro) (s : VSt) : VSt := ⟨s.lines ++ [frameA a], s.cells, true, if s.spot = 1 then 2 else s.spot, if s.spot = 1 then ⟨s.lines.length, 0⟩ else s.pos⟩
def lastD (f : Lin → Lin) (d : List Lin) : List Lin := d.dropLast ++ (d.getLast?.map f).toList
def addV (a : Aro) (c : Int) (s : VSt) : VSt := { s with lines := lastD (fun l => { l with cells := l.cells ++ [⟨c, a.bits, a.href⟩] }) s.lines, cells := s.cells + 1 }
def putV (a : Aro) (c : Int) (s : VSt) : VSt := addV a c (if s.opn = true then s else beginV a s)
def metV (s : VSt) : VSt := if s.spot ≠ 0 then s else if s.opn = true then { s with spot := 2, pos := ⟨(s.lines.length : Int) - 1, ((s.lines.getLastD default).cells.length : Int)⟩ } else { s with spot := 1 }
def textV (a : Aro) : List Int → Option Int → VSt → VSt
 | [], at_, s => match at_ with | some k => if 0 ≤ k then metV s else s | none => s
 | c :: l, at_, s =>
  let s := if at_ = some 0 then metV s else s
  textV a l (at_.map (· - 1)) (match flatC c with | some c => putV a c s | none => s)
def asideT (t : Int) : Bool := decide (tagC t = 1) || decide (tagC t = 5)
def normP (t : Int) (n : Nat) : Plc → Plc
 | none => none
 | some ([], k) => some ([], if k < 0 then 0 else k)
 | some (i :: p, k) => if asideT t = true ∨ i < 0 ∨ (n : Int) ≤ i then some ([], 0) else if k < 0 then some (i :: p, 0) else some (i :: p, k)
def boxA (t : Int) (a : Aro) : Aro := if t = 6 then { a with quote := min (a.quote + 1) 6 } else if t ≠ 1 ∧ a.lists.length < 6 then { a with lists := a.lists ++ [t - 7] } else a
mutual
def nodeV : Nod → Aro → Plc → VSt → VSt
 | .mk t ats x ks, a, p0, s =>
  let p := normP t ks.length p0
  if tagC t = 1 then textV a (runesB ⟨x.toArray⟩) (p.map (·.2)) s
  else if tagC t = 5 then putV a 10 (if p.isSome = true then metV s else s)
  else if tagC t = 3 then
   let s1 : VSt := { s with opn := false }
   let a1 : Aro := { a with kind := headT t }
   let s2 := kidsV ks 0 a1 p s1
   let s3 := if s2.lines.length = s.lines.length then beginV a1 s2 else s2
   { s3 with opn := false }
  else if tagC t = 2 then
   let s2 := kidsV ks 0 (boxA t a) p { s with opn := false }
   { s2 with opn := false }
  else kidsV ks 0 { a with bits := bitsN (.mk t ats x ks) a.bits, href := linkN (.mk t ats x ks) a.href } p s
def kidsV : List Nod → Nat → Aro → Plc → VSt → VSt
 | [], _, _, p, s => match p with | some ([], _) => metV s | _ => s
 | k :: ks, i, a, p, s =>
  kidsV ks (i + 1) a p (match p with
   | none => nodeV k a none s
   | some ([], at_) => nodeV k a none (if at_ = i then metV s else s)
   | some (j :: path, at_) => if j = i then nodeV k a (some (path, at_)) s else nodeV k a none s)
end
def aro0 : Aro := ⟨0, [], 0, 0, []⟩
def vst0 : VSt := ⟨[], 0, false, 0, ⟨0, 0⟩⟩
def goesV (n : Nod) (p : Plc) : VSt := let s := nodeV n aro0 p vst0; if s.lines = [] then beginV aro0 s else s
end Go.Proofs.Qw
namespace Go.Proofs.Qw
open Go.RowKit
theorem runes_back (l : List Int) (h : ∀ c ∈ l, mayR c = true) : runesB ⟨(txtL l).toArray⟩ = l := runesB_of l (fun c hc => mayR_valid (h c hc))
def lvBit (j : Nat) (c : Cel) : Option Wr := if bits .and .i64 c.bits (2 ^ j) = 0 then none else some (11 + (j : Int), [])
def rowK : List (Cel → Option Wr) := [lvHref, lvBit 0, lvBit 1, lvBit 2, lvBit 3]
theorem kids_none : ∀ (ks : List Nod) (i : Nat) (a : Aro) (s : VSt), kidsV ks i a none s = ks.foldl (fun s k => nodeV k a none s) s
 | [], i, a, s => by unfold kidsV; rfl
 | k :: ks, i, a, s => by rw [kidsV, kids_none ks]; rfl
def putC (a : Aro) (s : VSt) (c : Cel) : VSt := putV { a with bits := c.bits, href := c.href } c.r s
def kidsN (ks : List Nod) (a : Aro) (s : VSt) : VSt := ks.foldl (fun s k => nodeV k a none s) s
theorem kidsN_append (x y : List Nod) (a : Aro) (s : VSt) : kidsN (x ++ y) a s = kidsN y a (kidsN x a s) := by unfold kidsN; rw [List.foldl_append]
theorem tag_in {t : Int} (h : 10 ≤ t ∧ t ≤ 14) : tagC t = 4 := by
 unfold tagC
 rw [if_neg (by omega), if_neg (by omega), if_neg (by omega), if_neg (by omega), if_neg (by omega)]
theorem node_inline {t : Int} (h : 10 ≤ t ∧ t ≤ 14) (ats : List Att) (x : List UInt8) (ks : List Nod) (a : Aro) (s : VSt) :
  nodeV (.mk t ats x ks) a none s = kidsN ks { a with bits := bitsN (.mk t ats x ks) a.bits, href := linkN (.mk t ats x ks) a.href } s := by
 rw [nodeV]
 have e := tag_in h
 simp only [e, normP]
 rw [if_neg (by decide), if_neg (by decide), if_neg (by decide), if_neg (by decide), kids_none]
 rfl
def CelOk (c : Cel) : Prop := (mayR c.r = true ∨ c.r = 10) ∧ 0 ≤ c.bits ∧ c.bits ≤ 15 ∧ (c.href = [] ∨ targetF c.href = true)
def Said (j : Nat) (a : Aro) (c : Cel) : Prop := a.bits = bits .and .i64 c.bits (2 ^ j - 1) ∧ a.href = c.href
theorem textV_none (a : Aro) : ∀ (l : List Int) (s : VSt), (∀ c ∈ l, mayR c = true) → textV a l none s = l.foldl (fun s c => putV a c s) s
 | [], s, _ => by unfold textV; rfl
 | c :: l, s, h => by
  rw [textV]
  simp only [flat_may c (h c (by simp)), Option.map_none, List.foldl_cons]
  rw [if_neg (by simp), textV_none a l _ (fun c hc => h c (by simp [hc]))]
theorem node_text (l : List Int) (a : Aro) (s : VSt) (h : ∀ c ∈ l, mayR c = true) : nodeV (txtN l) a none s = l.foldl (fun s c => putV a c s) s := by
 unfold txtN
 rw [nodeV]
 have e : tagC 0 = 1 := by decide
 simp only [e, normP, Option.map_none]
 rw [if_pos trivial, runes_back l h, textV_none a l s h]
theorem node_br (a : Aro) (s : VSt) : nodeV brN a none s = putV a 10 s := by
 unfold brN
 rw [nodeV]
 have e : tagC 16 = 5 := by decide
 simp only [e, normP]
 rw [if_neg (by decide), if_pos trivial]
 rfl
theorem aro_said {a : Aro} {c : Cel} (hs : Said 4 a c) (hc : CelOk c) : ({ a with bits := c.bits, href := c.href } : Aro) = a := by
 obtain ⟨h1, h2⟩ := hs
 have : a.bits = c.bits := by rw [h1]; exact bits_all c.bits hc.2.1 hc.2.2.1
 rw [← this, ← h2]
theorem parts_sub {α : Type} (r : α → α → Bool) (l : List α) {p : List α} (hp : p ∈ partsBy r l) {x : α} (hx : x ∈ p) : x ∈ l := by
 rw [← parts_flat r _ l (Nat.le_refl _)]
 exact List.mem_flatten.2 ⟨p, hp, hx⟩
theorem part_text : ∀ (n : Nat) (l : List Cel), l.length ≤ n → ∀ p ∈ partsBy textR l, (p = [p.headD default] ∧ (p.headD default).r = 10) ∨ (∀ c ∈ p, c.r ≠ 10)
 | 0, l, hl => by
  have : l = [] := List.length_eq_zero_iff.1 (by omega)
  subst this
  rw [parts_nil]; simp
 | n + 1, [], _ => by rw [parts_nil]; simp
 | n + 1, a :: l, hl => by
  rw [parts_cons]
  intro p hp
  rcases List.mem_cons.1 hp with rfl | h
  ·by_cases ha : a.r = 10
   ·have : l.takeWhile (textR a) = [] := by
     cases l with
     | nil => rfl
     | cons y ys => rw [List.takeWhile_cons_of_neg (by unfold textR; simp [ha])]
    rw [this]
    exact .inl ⟨rfl, ha⟩
   ·right
    intro c hc
    rcases List.mem_cons.1 hc with rfl | hc
    ·exact ha
    ·have := List.all_takeWhile (l := l) (p := textR a)
     rw [List.all_eq_true] at this
     have := this c hc
     unfold textR at this
     simp at this
     exact this.2
  ·exact part_text n _ (by have := (List.dropWhile_suffix (l := l) (textR a)).length_le; simp at hl; omega) p h
theorem fold_parts {α σ : Type} (r : α → α → Bool) (l : List α) (f : σ → α → σ) (s : σ) : (partsBy r l).foldl (fun s p => p.foldl f s) s = l.foldl f s := by
 conv => rhs; rw [← parts_flat r _ l (Nat.le_refl _)]
 rw [List.foldl_flatten]
theorem foldl_congr {α σ : Type} {f g : σ → α → σ} : ∀ (l : List α) (s : σ), (∀ s, ∀ x ∈ l, f s x = g s x) → l.foldl f s = l.foldl g s
 | [], s, _ => rfl
 | x :: l, s, h => by rw [List.foldl_cons, List.foldl_cons, h s x (by simp), foldl_congr l _ (fun s y hy => h s y (by simp [hy]))]
theorem leaves_view (l : List Cel) (a : Aro) (s : VSt) (hc : ∀ c ∈ l, CelOk c) (hs : ∀ c ∈ l, Said 4 a c) : kidsN (leavesN l) a s = l.foldl (putC a) s := by
 unfold leavesN kidsN
 rw [List.foldl_map, ← fold_parts textR l (putC a) s]
 refine foldl_congr _ _ (fun s p hp => ?_)
 have hsub : ∀ x ∈ p, x ∈ l := fun x hx => parts_sub textR l hp hx
 unfold leafP
 rcases part_text _ l (Nat.le_refl _) p hp with ⟨h1, h2⟩ | h
 ·rw [if_pos h2, node_br]
  have hm : p.headD default ∈ l := hsub _ (by rw [h1]; simp)
  conv => rhs; rw [h1]
  simp only [List.foldl_cons, List.foldl_nil]
  unfold putC
  rw [aro_said (hs _ hm) (hc _ hm), h2]
 ·have hne := parts_ne textR _ l (Nat.le_refl _) p hp
  have hh : p.headD default ∈ p := by
   cases p with
   | nil => exact absurd rfl hne
   | cons a l => simp
  rw [if_neg (h _ hh), node_text _ _ _ (fun c hc' => by
   obtain ⟨x, hx, rfl⟩ := List.mem_map.1 hc'
   exact (hc x (hsub x hx)).1.elim id (fun e => absurd e (h x hx))), List.foldl_map]
  refine foldl_congr _ _ (fun s x hx => ?_)
  unfold putC
  rw [aro_said (hs x (hsub x hx)) (hc x (hsub x hx))]
theorem level_view (k : Cel → Option Wr) (ks : List (Cel → Option Wr)) (l : List Cel) (a : Aro) (s : VSt)
  (h : ∀ p ∈ partsBy (fun a b => decide (k a = k b)) l, ∀ s, kidsN (wrapO (k (p.headD default)) (gr ks p)) a s = p.foldl (putC a) s) : kidsN (gr (k :: ks) l) a s = l.foldl (putC a) s := by
 unfold gr kidsN
 rw [List.foldl_flatMap, ← fold_parts (fun a b => decide (k a = k b)) l (putC a) s]
 exact foldl_congr _ _ (fun s p hp => h p hp s)
def bitsK : Nat → List (Cel → Option Wr)
 | 0 => []
 | n + 1 => lvBit (3 - n) :: bitsK n
theorem kidsN_one (n : Nod) (a : Aro) (s : VSt) : kidsN [n] a s = nodeV n a none s := rfl
theorem putC_aro {a a' : Aro} (h1 : a'.quote = a.quote) (h2 : a'.lists = a.lists) (h3 : a'.kind = a.kind) : putC a' = putC a := by
 funext s c
 unfold putC
 rw [h1, h2, h3]
theorem bits_view : ∀ (n : Nat) (l : List Cel) (a : Aro) (s : VSt), n ≤ 4 → (∀ c ∈ l, CelOk c) → (∀ c ∈ l, Said (4 - n) a c) → kidsN (gr (bitsK n) l) a s = l.foldl (putC a) s
 | 0, l, a, s, _, hc, hs => leaves_view l a s hc hs
 | n + 1, l, a, s, hn, hc, hs => by
  unfold bitsK
  refine level_view _ _ l a s (fun p hp s => ?_)
  have hsub : ∀ x ∈ p, x ∈ l := fun x hx => parts_sub _ l hp hx
  have hkey := key_all _ l (Nat.le_refl _) p hp
  have hj : 3 - n < 4 := by omega
  have e4 : 4 - (n + 1) = 3 - n := by omega
  have e5 : 3 - n + 1 = 4 - n := by omega
  cases hk : lvBit (3 - n) (p.headD default) with
  | none =>
   simp only [wrapO]
   refine bits_view n p a s (by omega) (fun c h => hc c (hsub c h)) (fun c h => ?_)
   have h1 := hs c (hsub c h)
   rw [e4] at h1
   have h2 := hkey c h
   rw [hk] at h2
   unfold lvBit at h2
   split at h2
   ·rename_i h3
    have hok := hc c (hsub c h)
    rcases bits_up c.bits (3 - n) hok.2.1 hok.2.2.1 hj with h4 | h4
    ·refine ⟨?_, h1.2⟩
     rw [h1.1, ← h4.2, e5]
    ·exact absurd h3 h4.1
   ·cases h2
  | some w =>
   simp only [wrapO, kidsN_one]
   have hw : w = (11 + ((3 - n : Nat) : Int), []) := by
    unfold lvBit at hk
    split at hk
    ·cases hk
    ·injection hk with hk; exact hk.symm
   subst hw
   rw [node_inline (by omega)]
   have hb : bitsN (.mk (11 + ((3 - n : Nat) : Int)) [] [] (gr (bitsK n) p)) a.bits = bits .or .i64 (bits .andNot .i64 a.bits 0) (2 ^ (3 - n)) := by
    have : n = 0 ∨ n = 1 ∨ n = 2 ∨ n = 3 := by omega
    rcases this with rfl | rfl | rfl | rfl <;> rfl
   have hl : linkN (.mk (11 + ((3 - n : Nat) : Int)) [] [] (gr (bitsK n) p)) a.href = a.href := rfl
   rw [hb, hl, bits_view n p _ s (by omega) (fun c h => hc c (hsub c h)) (fun c h => ?_)]
   ·exact congrArg (fun f => p.foldl f s) (putC_aro rfl rfl rfl)
   ·have h1 := hs c (hsub c h)
    rw [e4] at h1
    have h2 := hkey c h
    rw [hk] at h2
    unfold lvBit at h2
    split at h2
    ·cases h2
    ·rename_i h3
     have hok := hc c (hsub c h)
     rcases bits_up c.bits (3 - n) hok.2.1 hok.2.2.1 hj with h4 | h4
     ·exact absurd h4.1 h3
     ·refine ⟨?_, h1.2⟩
      show bits .or .i64 (bits .andNot .i64 a.bits 0) (2 ^ (3 - n)) = _
      rw [h1.1, h4.2, e5]
theorem row_view (l : List Cel) (a : Aro) (s : VSt) (hc : ∀ c ∈ l, CelOk c) (ha : a.bits = 0 ∧ a.href = []) : kidsN (gr rowK l) a s = l.foldl (putC a) s := by
 have e : rowK = lvHref :: bitsK 4 := rfl
 rw [e]
 refine level_view _ _ l a s (fun p hp s => ?_)
 have hsub : ∀ x ∈ p, x ∈ l := fun x hx => parts_sub _ l hp hx
 have hkey := key_all _ l (Nat.le_refl _) p hp
 have hne := parts_ne _ _ l (Nat.le_refl _) p hp
 have hh : p.headD default ∈ p := by
  cases p with
  | nil => exact absurd rfl hne
  | cons a l => simp
 have hz : ∀ c : Cel, bits .and .i64 c.bits (2 ^ (4 - 4) - 1) = 0 := fun c => bits_none c.bits
 cases hk : lvHref (p.headD default) with
 | none =>
  simp only [wrapO]
  refine bits_view 4 p a s (by omega) (fun c h => hc c (hsub c h)) (fun c h => ?_)
  have h2 := hkey c h
  rw [hk] at h2
  unfold lvHref at h2
  split at h2
  ·rename_i h3
   exact ⟨by rw [ha.1, hz], by rw [ha.2, h3]⟩
  ·cases h2
 | some w =>
  simp only [wrapO, kidsN_one]
  have hhr : ∀ c ∈ p, c.href = (p.headD default).href := fun c h => by
   have h2 := hkey c h
   rw [hk] at h2
   unfold lvHref at h2 hk
   split at h2
   ·cases h2
   split at hk
   ·cases hk
   rw [← h2] at hk
   injection hk with hk
   injection hk with _ hk
   unfold hrefA at hk
   injection hk with hk _
   injection hk with _ hk
   exact hk.symm
  have hw : w = (10, hrefA (p.headD default).href) := by
   unfold lvHref at hk
   split at hk
   ·cases hk
   ·injection hk with hk; exact hk.symm
  have hne2 : (p.headD default).href ≠ [] := by
   intro e
   unfold lvHref at hk
   rw [if_pos e] at hk
   cases hk
  subst hw
  rw [node_inline (by omega)]
  have hok := hc _ (hsub _ hh)
  have ht : targetF (p.headD default).href = true := hok.2.2.2.elim (fun e => absurd e hne2) id
  have hb : bitsN (.mk 10 (hrefA (p.headD default).href) [] (gr (bitsK 4) p)) a.bits = 0 := by
   rw [ha.1]
   exact band_or0 0 (by decide) (by decide)
  have hl : linkN (.mk 10 (hrefA (p.headD default).href) [] (gr (bitsK 4) p)) a.href = (p.headD default).href := by
   unfold linkN
   have : attrF (Nod.mk 10 (hrefA (p.headD default).href) [] (gr (bitsK 4) p)).attrs hrefN = some (p.headD default).href := rfl
   rw [this]
   exact if_pos ⟨rfl, ht⟩
  rw [hb, hl, bits_view 4 p _ s (by omega) (fun c h => hc c (hsub c h)) (fun c h => ⟨(hz c).symm, (hhr c h).symm⟩)]
  exact congrArg (fun f => p.foldl f s) (putC_aro rfl rfl rfl)
end Go.Proofs.Qw
namespace Go.Proofs.Qw
open Go.RowKit
def runTo {α : Type} (r : α → α → Bool) (a : α) (d : List α) (i : Nat) : Nat := i + ((d.drop i).takeWhile (r a)).length
theorem runTo_yes {α : Type} {r : α → α → Bool} {a x : α} {d : List α} {i : Nat} (h : d.drop i = x :: d.drop (i + 1)) (hr : r a x = true) : runTo r a d i = runTo r a d (i + 1) := by
 unfold runTo
 rw [h, List.takeWhile_cons_of_pos hr, List.length_cons]
 omega
theorem runTo_no {α : Type} {r : α → α → Bool} {a x : α} {d : List α} {i : Nat} (h : d.drop i = x :: d.drop (i + 1)) (hr : r a x = false) : runTo r a d i = i := by
 unfold runTo
 rw [h, List.takeWhile_cons_of_neg (by simp [hr])]
 rfl
theorem runTo_end {α : Type} {r : α → α → Bool} {a : α} {d : List α} : runTo r a d d.length = d.length := by
 unfold runTo
 rw [List.drop_length]
 rfl
theorem drop_while {α : Type} {p : α → Bool} : ∀ (l : List α), l.drop (l.takeWhile p).length = l.dropWhile p
 | [] => rfl
 | x :: l => by
  by_cases h : p x = true
  ·rw [List.takeWhile_cons_of_pos h, List.dropWhile_cons_of_pos h, List.length_cons, List.drop_succ_cons, drop_while l]
  ·rw [List.takeWhile_cons_of_neg h, List.dropWhile_cons_of_neg h]
   rfl
theorem take_while {α : Type} {p : α → Bool} : ∀ (l : List α), l.take (l.takeWhile p).length = l.takeWhile p
 | [] => rfl
 | x :: l => by
  by_cases h : p x = true
  ·rw [List.takeWhile_cons_of_pos h, List.length_cons, List.take_succ_cons, take_while l]
  ·rw [List.takeWhile_cons_of_neg h]
   rfl
def cutP {α : Type} (d : List α) (x : Nat × Nat) : List α := (d.drop x.1).take (x.2 - x.1)
theorem parts_cut {α : Type} {r : α → α → Bool} {a : α} {d : List α} {i : Nat} (h : d.drop i = a :: d.drop (i + 1)) : partsBy r (d.drop i) = cutP d (i, runTo r a d (i + 1)) :: partsBy r (d.drop (runTo r a d (i + 1))) := by
 rw [h, parts_cons]
 have e1 : runTo r a d (i + 1) - i = ((d.drop (i + 1)).takeWhile (r a)).length + 1 := by unfold runTo; omega
 congr 1
 ·unfold cutP
  simp only
  rw [e1, h, List.take_succ_cons, take_while]
 ·have e : d.drop (runTo r a d (i + 1)) = (d.drop (i + 1)).dropWhile (r a) := by
   unfold runTo
   have e0 : ((d.drop (i + 1)).drop ((d.drop (i + 1)).takeWhile (r a)).length) = d.drop (i + 1 + ((d.drop (i + 1)).takeWhile (r a)).length) := by rw [List.drop_drop]
   rw [← e0, drop_while]
  rw [e]
def CutOk {α : Type} (d : List α) (x : Nat × Nat) : Prop := x.1 < x.2 ∧ x.2 ≤ d.length
theorem parts_snoc2 {α : Type} {r : α → α → Bool} {a : α} {d : List α} {i : Nat} {pre : List (Nat × Nat)} (hp : pre.map (cutP d) ++ partsBy r (d.drop i) = partsBy r d) (h : d.drop i = a :: d.drop (i + 1)) :
  (pre ++ [(i, runTo r a d (i + 1))]).map (cutP d) ++ partsBy r (d.drop (runTo r a d (i + 1))) = partsBy r d := by
 rw [← hp, parts_cut (r := r) h, List.map_append, List.append_assoc]
 rfl
theorem parts_all {α : Type} {r : α → α → Bool} {d : List α} {pre : List (Nat × Nat)} (hp : pre.map (cutP d) ++ partsBy r (d.drop d.length) = partsBy r d) : pre.map (cutP d) = partsBy r d := by
 rw [← hp, List.drop_length, parts_nil, List.append_nil]
theorem cut_cons {α : Type} {r : α → α → Bool} {a : α} {d : List α} {i j : Nat} (h : d.drop i = a :: d.drop (i + 1)) (hj : runTo r a d (i + 1) = j) : cutP d (i, j) = a :: (d.drop (i + 1)).takeWhile (r a) := by
 have e := parts_cut (r := r) h
 rw [hj] at e
 have e2 : partsBy r (d.drop i) = (a :: (d.drop (i + 1)).takeWhile (r a)) :: partsBy r ((d.drop (i + 1)).dropWhile (r a)) := by
  conv => lhs; rw [h]
  rw [parts_cons]
 rw [e2] at e
 exact (List.cons.inj e).1.symm
def CutR {α : Type} (r : α → α → Bool) (d : List α) (x : Nat × Nat) : Prop := CutOk d x ∧ ∀ a l, cutP d x = a :: l → ∀ y ∈ l, r a y = true
theorem cut_run {α : Type} {r : α → α → Bool} {a : α} {d : List α} {i j : Nat} (h : d.drop i = a :: d.drop (i + 1)) (hj : runTo r a d (i + 1) = j) : ∀ a' l', cutP d (i, j) = a' :: l' → ∀ y ∈ l', r a' y = true := by
 intro a' l' e y hy
 rw [cut_cons h hj] at e
 cases e
 have := List.all_takeWhile (l := d.drop (i + 1)) (p := r a)
 rw [List.all_eq_true] at this
 exact this y hy
abbrev PartY {α : Type} (r : α → α → Bool) (d : List α) : Type := { x : Nat × Nat // CutR r d x }
end Go.Proofs.Qw
namespace Go.Proofs.Qw
open Go.RowKit
theorem bit_or (v : BitVec 64) (m : BitVec 64) (j : Nat) (hj : j < 64) (hm : ∀ i (hi : i < 64), m[i] = decide (i = j)) : v &&& m = 0#64 ∨ v &&& m = m := by
 cases h : v[j] with
 | false => exact .inl ((and_bit v m j hj hm).2 h)
 | true =>
  refine .inr (BitVec.eq_of_getElem_eq fun i hi => ?_)
  simp only [BitVec.getElem_and, hm i hi]
  by_cases e : i = j
  ·subst e; simp [h]
  ·simp [e]
theorem bit_two : ∀ (j : Nat), j ≤ 3 → ∀ x : Int, bits .and .i64 x (2 ^ j) = 0 ∨ bits .and .i64 x (2 ^ j) = 2 ^ j
 | 0, _, x => by
  rcases bit_or (BitVec.ofInt 64 x) 1#64 0 (by decide) (by decide) with h | h
  ·exact .inl (by show en (BitVec.ofInt 64 x &&& 1#64) = 0; rw [h]; decide +kernel)
  ·exact .inr (by show en (BitVec.ofInt 64 x &&& 1#64) = 1; rw [h]; decide +kernel)
 | 1, _, x => by
  rcases bit_or (BitVec.ofInt 64 x) 2#64 1 (by decide) (by decide) with h | h
  ·exact .inl (by show en (BitVec.ofInt 64 x &&& 2#64) = 0; rw [h]; decide +kernel)
  ·exact .inr (by show en (BitVec.ofInt 64 x &&& 2#64) = 2; rw [h]; decide +kernel)
 | 2, _, x => by
  rcases bit_or (BitVec.ofInt 64 x) 4#64 2 (by decide) (by decide) with h | h
  ·exact .inl (by show en (BitVec.ofInt 64 x &&& 4#64) = 0; rw [h]; decide +kernel)
  ·exact .inr (by show en (BitVec.ofInt 64 x &&& 4#64) = 4; rw [h]; decide +kernel)
 | 3, _, x => by
  rcases bit_or (BitVec.ofInt 64 x) 8#64 3 (by decide) (by decide) with h | h
  ·exact .inl (by show en (BitVec.ofInt 64 x &&& 8#64) = 0; rw [h]; decide +kernel)
  ·exact .inr (by show en (BitVec.ofInt 64 x &&& 8#64) = 8; rw [h]; decide +kernel)
 | n + 4, h, _ => by omega
theorem two_ne (j : Nat) : (2 : Int) ^ j ≠ 0 := by
 have : (0 : Int) < 2 ^ j := by exact Int.pow_pos (by decide)
 omega
def bitR (j : Nat) (a b : Cel) : Bool := decide (lvBit j a = lvBit j b)
def hrefR (a b : Cel) : Bool := decide (lvHref a = lvHref b)
theorem bitR_is {j : Nat} (hj : j ≤ 3) (a b : Cel) : bitR j a b = (bits .and .i64 a.bits (2 ^ j) == bits .and .i64 b.bits (2 ^ j)) := by
 unfold bitR lvBit
 rcases bit_two j hj a.bits with h1 | h1 <;> rcases bit_two j hj b.bits with h2 | h2 <;> rw [h1, h2] <;> simp [two_ne j, Ne.symm (two_ne j)]
theorem hrefR_is (a b : Cel) : hrefR a b = (a.href == b.href) := by
 unfold hrefR
 by_cases h : a.href = b.href
 ·have e : lvHref a = lvHref b := by unfold lvHref; rw [h]
  rw [decide_eq_true e, h]
  simp
 ·have e : lvHref a ≠ lvHref b := fun e => h (by
   unfold lvHref at e
   by_cases h1 : a.href = []
   ·by_cases h2 : b.href = []
    ·rw [h1, h2]
    ·rw [if_pos h1, if_neg h2] at e; cases e
   ·by_cases h2 : b.href = []
    ·rw [if_neg h1, if_pos h2] at e; cases e
    ·rw [if_neg h1, if_neg h2] at e
     simp only [Option.some.injEq, Prod.mk.injEq, true_and] at e
     unfold hrefA at e
     simp only [List.cons.injEq, Att.mk.injEq, true_and, and_true] at e
     exact e)
  rw [decide_eq_false e]
  symm
  simpa using h
theorem wrap_bit : ∀ (j : Nat), j ≤ 3 → ∀ (c : Cel) (kids : List Nod), wrapN (bits .and .i64 c.bits (2 ^ j)) [] kids = wrapO (lvBit j c) kids
 | 0, h, c, kids => by
  unfold wrapN lvBit wrapB wrap1
  rw [if_pos rfl]
  rcases bit_two 0 h c.bits with h1 | h1 <;> rw [h1] <;> rfl
 | 1, h, c, kids => by
  unfold wrapN lvBit wrapB wrap1
  rw [if_pos rfl]
  rcases bit_two 1 h c.bits with h1 | h1 <;> rw [h1] <;> rfl
 | 2, h, c, kids => by
  unfold wrapN lvBit wrapB wrap1
  rw [if_pos rfl]
  rcases bit_two 2 h c.bits with h1 | h1 <;> rw [h1] <;> rfl
 | 3, h, c, kids => by
  unfold wrapN lvBit wrapB wrap1
  rw [if_pos rfl]
  rcases bit_two 3 h c.bits with h1 | h1 <;> rw [h1] <;> rfl
 | n + 4, h, _, _ => by omega
theorem wrap_href (c : Cel) (kids : List Nod) : wrapN 0 c.href kids = wrapO (lvHref c) kids := by
 unfold wrapN lvHref
 by_cases h : c.href = []
 ·rw [if_pos h, if_pos h]; rfl
 ·rw [if_neg h, if_neg h]; rfl
theorem gr_bit (j n : Nat) (l : List Cel) (h : 3 - n = j) : gr (bitsK (n + 1)) l = (partsBy (bitR j) l).flatMap fun p => wrapO (lvBit j (p.headD default)) (gr (bitsK n) p) := by
 subst h
 rfl
theorem gr_href (l : List Cel) : gr rowK l = (partsBy hrefR l).flatMap fun p => wrapO (lvHref (p.headD default)) (gr (bitsK 4) p) := rfl
end Go.Proofs.Qw
namespace Go.Proofs.YteognfhemmogpaaDoor
open Go.RowKit
open Go.Proofs.Qw
def CellsSaid (d : List Cel) (err : Int) (w : World) (e : Ending) (w' : World) : Prop := ∃ v', e = .returned (.tuple #[v', .int .i64 err]) ∧ CelsR true w' (fun b => w.heap.size ≤ b) v' d ∧ Below w.heap.size w w'
theorem CellsSaid.from {d : List Cel} {err : Int} {w W : World} {e : Ending} {w' : World} (h : CellsSaid d err W e w') (hb : Below w.heap.size w W) : CellsSaid d err w e w' := by
 obtain ⟨v', h1, h2, h3⟩ := h
 exact ⟨v', h1, SliceR.stable (rdOf_stable _) h2 (Keeps.refl _ _) (fun b h _ => Nat.le_trans hb.size h), below_from hb h3⟩
end Go.Proofs.YteognfhemmogpaaDoor
namespace Go.Proofs.Qw
open Go.RowKit Go.Proofs.YteognfhemmogpaaDoor
def setRow (C : List Cel → Nat → Nat → List Cel) (D : Doc) (x : Nat × Nat × Nat) : Doc := D.set x.1 { (D.getD x.1 default) with cells := C (D.getD x.1 default).cells x.2.1 x.2.2 }
def Alike (D E : Doc) : Prop := D.length = E.length ∧ ∀ (k : Nat) (l : Lin), D[k]? = some l → ∃ m, E[k]? = some m ∧ m.cells.length = l.cells.length
theorem Alike.refl (D : Doc) : Alike D D := ⟨rfl, fun _ l h => ⟨l, h, rfl⟩⟩
theorem Alike.trans {D E F : Doc} (h : Alike D E) (k : Alike E F) : Alike D F := ⟨h.1.trans k.1, fun i l hl => by
 obtain ⟨m, h1, h2⟩ := h.2 i l hl
 obtain ⟨n, h3, h4⟩ := k.2 i m h1
 exact ⟨n, h3, h4.trans h2⟩⟩
end Go.Proofs.Qw
namespace Go.Proofs.YteognfhemmogpaaDoor
open Go.RowKit
open Go.Proofs.Qw
attribute [local go_sem] Oper.semAt_some
theorem cell_on {w : World} {p : Addr} {u : Value} (h : w.cell? p = some u) : ∀ ob, (w.alloc ob).cell? p = some u := fun _ => (World.cell?_alloc_lt _ _ _ (World.block_lt_of_cell? w p h)).trans h
end Go.Proofs.YteognfhemmogpaaDoor
namespace Go.Proofs.YteognfhemmogpaaDoor
open Go.RowKit
open Go.Proofs.Qw
attribute [local go_sem ↓] Go.wp_at_zero Go.wp_at_succ
theorem textR_is (a b : Cel) : textR a b = ((a.r != 10) && (b.r != 10)) := by
 unfold textR
 by_cases h1 : a.r = 10 <;> by_cases h2 : b.r = 10 <;> simp [h1, h2]
set_option maxHeartbeats 1000000 in
theorem al_leaves (x y : Cel) (w : World) : Calls Tryd.prog 54 #[.agg #[.int .i32 x.r, .int .i64 x.bits, .string ⟨x.href.toArray⟩], .agg #[.int .i32 y.r, .int .i64 y.bits, .string ⟨y.href.toArray⟩]] w fun e w' => e = .returned (.bool (textR x y)) ∧ Below w.heap.size w w' := by
 rw [textR_is]
 cases b1 : (x.r != 10)
 ·go_enter Tryd.func54, Tryd.ntmps54
  go_wp2_with fail
  go_ret
  exact ⟨by simp, ((Below.refl _ _).alloc (Nat.le_refl _) _).alloc (by simp) _⟩
 ·cases b2 : (y.r != 10)
  all_goals
   go_enter Tryd.func54, Tryd.ntmps54
   go_wp2_with fail
   go_ret
   exact ⟨by simp, ((Below.refl _ _).alloc (Nat.le_refl _) _).alloc (by simp) _⟩
set_option maxHeartbeats 1000000 in
theorem al_row (x y : Cel) (w : World) : Calls Tryd.prog 16 #[.agg #[.int .i32 x.r, .int .i64 x.bits, .string ⟨x.href.toArray⟩], .agg #[.int .i32 y.r, .int .i64 y.bits, .string ⟨y.href.toArray⟩]] w fun e w' => e = .returned (.bool (hrefR x y)) ∧ Below w.heap.size w w' := by
 rw [hrefR_is]
 cases b1 : (x.href == y.href)
 all_goals
  go_enter Tryd.func16, Tryd.ntmps16
  go_wp2_with fail
  go_ret
  exact ⟨by simp [b1], ((Below.refl _ _).alloc (Nat.le_refl _) _).alloc (by simp) _⟩
set_option maxHeartbeats 1000000 in
theorem al_bit (x y : Cel) (Bb j : Nat) (hj : j ≤ 3) (w : World) (hb : w.heap[Bb]? = some (.cells #[.int .i64 (2 ^ j)] 3)) : Calls Tryd.prog 38 #[.agg #[.int .i32 x.r, .int .i64 x.bits, .string ⟨x.href.toArray⟩], .agg #[.int .i32 y.r, .int .i64 y.bits, .string ⟨y.href.toArray⟩], .pointer (some ⟨Bb, 0, none⟩)] w fun e w' => e = .returned (.bool (bitR j x y)) ∧ Below w.heap.size w w' := by
 rw [bitR_is hj]
 obtain ⟨z, hz⟩ : ∃ z : Int, 2 ^ j = z := ⟨_, rfl⟩
 rw [hz] at hb ⊢
 obtain ⟨q, f⟩ := blk hb
 have q0 := q 0
 have r1 : ∀ ob ob', ((w.alloc ob).alloc ob').cell? ⟨Bb, 0, none⟩ = some (.int .i64 z) := fun ob ob' => cell_on (cell_on q0 ob) ob'
 clear q f hb hz
 cases b1 : (bits .and .i64 x.bits z == bits .and .i64 y.bits z)
 all_goals
  go_enter Tryd.func38, Tryd.ntmps38
  go_wp2_with fail
  go_ret
  exact ⟨by simp [b1], ((Below.refl _ _).alloc (Nat.le_refl _) _).alloc (by simp) _⟩
end Go.Proofs.YteognfhemmogpaaDoor
