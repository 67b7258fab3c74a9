/- The walks of slices.Equal, EqualFunc, lines.Same, doc.Same and the reference's. -/
import Derived.Test.YtfoiaoopbkcpoaaGreatDoorOwn
import Derived.BigQuiet
import Derived.Deep.QuietTactic
import Derived.Deep.RegionHeld3
import Derived.Deep.DrawnRows
namespace Go.Proofs.YtfoiaoopbkcpoaaGreatDoor
open Go.RowKit
open Go.Proofs.Qw

theorem guardCell : Tryz.prog.eqGuardType Tryz.prog.depth 58 = false := by kernel_rfl
theorem run_neq_cell (x y : Cel) (w : World) : (binOp .neq 58 (.agg #[.int .i32 x.r, .int .i64 x.bits, .string ⟨x.href.toArray⟩]) (.agg #[.int .i32 y.r, .int .i64 y.bits, .string ⟨y.href.toArray⟩])).run Tryz.prog w = .ok (.bool (!decide (x = y))) w := by
  have h1 : Tryz.prog.stoodInHeld 58 = false := by kernel_rfl
  have h2 : Tryz.prog.underlying 58 = some (.struct (Tryz.prog.fieldsOf 58)) := by kernel_rfl
  rw [run_neq_struct, show (10000:Nat) = 9999 + 1 from rfl, run_equalIn_agg _ _ _ _ _ h2 h1]
  simp [Tryz.underlying58, go_sem]
  obtain ⟨a, b, c⟩ := x
  obtain ⟨d, e, f⟩ := y
  simp only [Cel.mk.injEq]
  by_cases e1 : a = d <;> by_cases e2 : b = e <;> by_cases e3 : c = f <;> simp [e1, e2, e3]
theorem take_both {α : Type} {l m : List α} {k : Nat} {x y : α} (hx : l[k]? = some x) (hy : m[k]? = some y) (h : l.take k = m.take k) (e : x = y) : l.take (k + 1) = m.take (k + 1) := by
  rw [take_some hx, take_some hy, h, e]
theorem ne_at {α : Type} {l m : List α} {k : Nat} {x y : α} (hx : l[k]? = some x) (hy : m[k]? = some y) (e : x ≠ y) : l ≠ m := fun h => e (by rw [h, hy] at hx; cases hx; rfl)

theorem cel_ne {x y : Cel} (h : x.r ≠ y.r ∨ x.bits ≠ y.bits ∨ x.href ≠ y.href) : x ≠ y := by rintro rfl; simp at h
theorem cel_cases (x y : Cel) : ((x.r != y.r) = false ∧ (x.bits != y.bits) = false ∧ (x.href == y.href) = true ∧ x = y) ∨
    ((x.r != y.r) = true ∧ x ≠ y) ∨ ((x.r != y.r) = false ∧ (x.bits != y.bits) = true ∧ x ≠ y) ∨ ((x.r != y.r) = false ∧ (x.bits != y.bits) = false ∧ (x.href == y.href) = false ∧ x ≠ y) := by
  by_cases e1 : x.r = y.r
  · by_cases e2 : x.bits = y.bits
    · by_cases e3 : x.href = y.href
      · refine .inl ⟨by simp [e1], by simp [e2], by simp [e3], ?_⟩
        obtain ⟨a, b, c⟩ := x
        obtain ⟨d, e, f⟩ := y
        simp_all
      · exact .inr (.inr (.inr ⟨by simp [e1], by simp [e2], by simp [e3], cel_ne (.inr (.inr e3))⟩))
    · exact .inr (.inr (.inl ⟨by simp [e1], by simp [e2], cel_ne (.inr (.inl e2))⟩))
  · exact .inr (.inl ⟨by simp [e1], cel_ne (.inl e1)⟩)
set_option maxRecDepth 100000 in
set_option maxHeartbeats 4000000 in
theorem equalInt_any (v1 v2 : Value) (d1 d2 : List Int) (w : World) (S1 S2 : Nat → Prop) (h1 : IntsR false w S1 v1 d1) (h2 : IntsR false w S2 v2 d2) :
    Calls Tryz.prog 118 #[v1, v2] w fun e w' => e = .returned (.bool (decide (d1 = d2))) ∧ Below w.heap.size w w' := by
  obtain ⟨a, c, rfl, hc, hm, hx⟩ := ints_shape h1
  obtain ⟨a2, c2, rfl, hc2, hm2, hx2⟩ := ints_shape h2
  have HX := Lib.hid hx
  have HX2 := Lib.hid hx2
  clear hx hx2 h1 h2
  unfold maxLen at hm hm2
  go_enter Tryz.func118, Tryz.ntmps118
  by_cases hl : d1.length = d2.length
  · have HL := Lib.hid hl
    have hlb : ((d1.length : Int) != d2.length) = false := by simp [hl]
    clear hl
    go_wp2_with fail
    go_loopw [13, 5] (fun i _ wr => ∃ k : Nat, k ≤ d1.length ∧ i = .int .i64 k ∧ Hid (d1.take k = d2.take k) ∧ Below w.heap.size w wr) (fun i _ _ => d1.length - (intOf i).toNat)
    case atStart => exact ⟨0, Nat.zero_le _, rfl, Lib.hid rfl, Below.refl _ _⟩
    case round =>
      obtain ⟨k, hk, rfl, HE, hb⟩ := hrel
      by_cases hlt : k < d1.length
      · obtain ⟨x, hx, _⟩ := getOf d1 k hlt
        obtain ⟨y, hy, _⟩ := getOf d2 k (by have := HL.out; omega)
        obtain ⟨b, o, rfl, hz, c0⟩ := HX.out k x hx; obtain ⟨b2, o2, rfl, hz2, k0⟩ := HX2.out k y hy; have c0 := (hb.cell (p := ⟨b, o + k, none⟩) hz).trans c0; have k0 := (hb.cell (p := ⟨b2, o2 + k, none⟩) hz2).trans k0
        have i0 : (0 : Int) ≤ (k : Int) := Int.natCast_nonneg _
        have i1 : (k : Int) < (d1.length : Int) := by omega
        have i2 : (k : Int) < (d2.length : Int) := by have := HL.out; omega
        have HXY := Lib.hid (And.intro hx hy)
        clear hx hy
        have hg := guardCell
        have hcs : ((x != y) = false ∧ x = y) ∨ ((x != y) = true ∧ x ≠ y) := by (by_cases e : x = y <;> simp [e])
        rcases hcs with ⟨hq, hxy⟩ | ⟨hq, hxy⟩
        · have HE2 := Lib.hid (take_both HXY.out.1 HXY.out.2 HE.out hxy)
          clear hxy
          go_wp2_with fail
          go_quiet (fail)
          all_goals go_wp2_with fail
          go_roundw
          case rel => exact ⟨k + 1, hlt, by go_num, HE2, drewN_below hb⟩
          case measure => simp [intOf]; omega
        all_goals
          have HN := Lib.hid (ne_at HXY.out.1 HXY.out.2 hxy)
          clear hxy
          go_wp2_with fail
          go_quiet (fail)
          all_goals go_wp2_with fail
          go_ret
          exact ⟨by rw [decide_eq_false HN.out]; rfl, drewN_below hb⟩
      · obtain rfl : k = d1.length := by omega
        have HD : Hid (d1 = d2) := Lib.hid (by have h1 := HE.out; have h2 := HL.out; rw [List.take_length, h2, List.take_length] at h1; exact h1)
        have HB := Lib.hid hb
        clear hb
        go_wp2_with fail
        go_ret
        exact ⟨by rw [decide_eq_true HD.out]; rfl, HB.out⟩
  · have hlb : ((d1.length : Int) != d2.length) = true := by simp; omega
    have HL : Hid (d1 ≠ d2) := Lib.hid fun e => hl (e ▸ rfl)
    clear hl
    go_wp2_with fail
    go_ret
    exact ⟨by rw [decide_eq_false HL.out]; rfl, Below.refl _ _⟩
set_option maxRecDepth 100000 in
set_option maxHeartbeats 4000000 in
theorem equalCell_any (v1 v2 : Value) (d1 d2 : List Cel) (w : World) (S1 S2 : Nat → Prop) (h1 : CelsR false w S1 v1 d1) (h2 : CelsR false w S2 v2 d2) :
    Calls Tryz.prog 142 #[v1, v2] w fun e w' => e = .returned (.bool (decide (d1 = d2))) ∧ Below w.heap.size w w' := by
  obtain ⟨a, c, rfl, hc, hm, hx⟩ := cels_shape h1
  obtain ⟨a2, c2, rfl, hc2, hm2, hx2⟩ := cels_shape h2
  have HX := Lib.hid hx
  have HX2 := Lib.hid hx2
  clear hx hx2 h1 h2
  unfold maxLen at hm hm2
  go_enter Tryz.func142, Tryz.ntmps142
  by_cases hl : d1.length = d2.length
  · have HL := Lib.hid hl
    have hlb : ((d1.length : Int) != d2.length) = false := by simp [hl]
    clear hl
    go_wp2_with fail
    go_loopw [13, 5] (fun i _ wr => ∃ k : Nat, k ≤ d1.length ∧ i = .int .i64 k ∧ Hid (d1.take k = d2.take k) ∧ Below w.heap.size w wr) (fun i _ _ => d1.length - (intOf i).toNat)
    case atStart => exact ⟨0, Nat.zero_le _, rfl, Lib.hid rfl, Below.refl _ _⟩
    case round =>
      obtain ⟨k, hk, rfl, HE, hb⟩ := hrel
      by_cases hlt : k < d1.length
      · obtain ⟨x, hx, _⟩ := getOf d1 k hlt
        obtain ⟨y, hy, _⟩ := getOf d2 k (by have := HL.out; omega)
        obtain ⟨b, o, rfl, hz, c0, c1, c2⟩ := HX.out k x hx; obtain ⟨b2, o2, rfl, hz2, k0, k1, k2⟩ := HX2.out k y hy; have c0 := (hb.cell (p := ⟨b, o + k * 3, none⟩) hz).trans c0; have c1 := (hb.cell (p := ⟨b, o + k * 3 + 1, none⟩) hz).trans c1; have c2 := (hb.cell (p := ⟨b, o + k * 3 + 2, none⟩) hz).trans c2; have k0 := (hb.cell (p := ⟨b2, o2 + k * 3, none⟩) hz2).trans k0; have k1 := (hb.cell (p := ⟨b2, o2 + k * 3 + 1, none⟩) hz2).trans k1; have k2 := (hb.cell (p := ⟨b2, o2 + k * 3 + 2, none⟩) hz2).trans k2
        have i0 : (0 : Int) ≤ (k : Int) := Int.natCast_nonneg _
        have i1 : (k : Int) < (d1.length : Int) := by omega
        have i2 : (k : Int) < (d2.length : Int) := by have := HL.out; omega
        have HXY := Lib.hid (And.intro hx hy)
        clear hx hy
        have hg := guardCell
        have hcs : ((∀ w, (binOp .neq 58 (.agg #[.int .i32 x.r, .int .i64 x.bits, .string ⟨x.href.toArray⟩]) (.agg #[.int .i32 y.r, .int .i64 y.bits, .string ⟨y.href.toArray⟩])).run Tryz.prog w = .ok (.bool false) w) ∧ x = y) ∨ ((∀ w, (binOp .neq 58 (.agg #[.int .i32 x.r, .int .i64 x.bits, .string ⟨x.href.toArray⟩]) (.agg #[.int .i32 y.r, .int .i64 y.bits, .string ⟨y.href.toArray⟩])).run Tryz.prog w = .ok (.bool true) w) ∧ x ≠ y) := by (by_cases e : x = y; exact .inl ⟨fun w => by rw [run_neq_cell, e]; simp, e⟩; exact .inr ⟨fun w => by rw [run_neq_cell]; simp [e], e⟩)
        rcases hcs with ⟨hq, hxy⟩ | ⟨hq, hxy⟩
        · have HE2 := Lib.hid (take_both HXY.out.1 HXY.out.2 HE.out hxy)
          clear hxy
          go_wp2_with fail
          go_quiet (fail)
          all_goals go_wp2_with fail
          go_roundw
          case rel => exact ⟨k + 1, hlt, by go_num, HE2, drewN_below hb⟩
          case measure => simp [intOf]; omega
        all_goals
          have HN := Lib.hid (ne_at HXY.out.1 HXY.out.2 hxy)
          clear hxy
          go_wp2_with fail
          go_quiet (fail)
          all_goals go_wp2_with fail
          go_ret
          exact ⟨by rw [decide_eq_false HN.out]; rfl, drewN_below hb⟩
      · obtain rfl : k = d1.length := by omega
        have HD : Hid (d1 = d2) := Lib.hid (by have h1 := HE.out; have h2 := HL.out; rw [List.take_length, h2, List.take_length] at h1; exact h1)
        have HB := Lib.hid hb
        clear hb
        go_wp2_with fail
        go_ret
        exact ⟨by rw [decide_eq_true HD.out]; rfl, HB.out⟩
  · have hlb : ((d1.length : Int) != d2.length) = true := by simp; omega
    have HL : Hid (d1 ≠ d2) := Lib.hid fun e => hl (e ▸ rfl)
    clear hl
    go_wp2_with fail
    go_ret
    exact ⟨by rw [decide_eq_false HL.out]; rfl, Below.refl _ _⟩
set_option maxRecDepth 100000 in
set_option maxHeartbeats 4000000 in
theorem refInts_any (v1 v2 : Value) (d1 d2 : List Int) (w : World) (S1 S2 : Nat → Prop) (h1 : IntsR false w S1 v1 d1) (h2 : IntsR false w S2 v2 d2) :
    Calls Tryz.prog 86 #[v1, v2] w fun e w' => e = .returned (.bool (decide (d1 = d2))) ∧ Below w.heap.size w w' := by
  obtain ⟨a, c, rfl, hc, hm, hx⟩ := ints_shape h1
  obtain ⟨a2, c2, rfl, hc2, hm2, hx2⟩ := ints_shape h2
  have HX := Lib.hid hx
  have HX2 := Lib.hid hx2
  clear hx hx2 h1 h2
  unfold maxLen at hm hm2
  go_enter Tryz.func86, Tryz.ntmps86
  by_cases hl : d1.length = d2.length
  · have HL := Lib.hid hl
    have hlb : ((d1.length : Int) != d2.length) = false := by simp [hl]
    clear hl
    go_wp2_with fail
    go_loopw [5] (fun i wr => ∃ k : Nat, k ≤ d1.length ∧ i = .int .i64 k ∧ Hid (d1.take k = d2.take k) ∧ Below w.heap.size w wr) (fun i _ => d1.length - (intOf i).toNat)
    case atStart => exact ⟨0, Nat.zero_le _, rfl, Lib.hid rfl, Below.refl _ _⟩
    case round =>
      obtain ⟨k, hk, rfl, HE, hb⟩ := hrel
      by_cases hlt : k < d1.length
      · obtain ⟨x, hx, _⟩ := getOf d1 k hlt
        obtain ⟨y, hy, _⟩ := getOf d2 k (by have := HL.out; omega)
        obtain ⟨b, o, rfl, hz, c0⟩ := HX.out k x hx; obtain ⟨b2, o2, rfl, hz2, k0⟩ := HX2.out k y hy; have c0 := (hb.cell (p := ⟨b, o + k, none⟩) hz).trans c0; have k0 := (hb.cell (p := ⟨b2, o2 + k, none⟩) hz2).trans k0
        have i0 : (0 : Int) ≤ (k : Int) := Int.natCast_nonneg _
        have i1 : (k : Int) < (d1.length : Int) := by omega
        have i2 : (k : Int) < (d2.length : Int) := by have := HL.out; omega
        have HXY := Lib.hid (And.intro hx hy)
        clear hx hy
        have hg := guardCell
        have hcs : ((x != y) = false ∧ x = y) ∨ ((x != y) = true ∧ x ≠ y) := by (by_cases e : x = y <;> simp [e])
        rcases hcs with ⟨hq, hxy⟩ | ⟨hq, hxy⟩
        · have HE2 := Lib.hid (take_both HXY.out.1 HXY.out.2 HE.out hxy)
          clear hxy
          go_wp2_with fail
          go_quiet (fail)
          all_goals go_wp2_with fail
          go_roundw
          case rel => exact ⟨k + 1, hlt, by go_num, HE2, drewN_below hb⟩
          case measure => simp [intOf]; omega
        all_goals
          have HN := Lib.hid (ne_at HXY.out.1 HXY.out.2 hxy)
          clear hxy
          go_wp2_with fail
          go_quiet (fail)
          all_goals go_wp2_with fail
          go_ret
          exact ⟨by rw [decide_eq_false HN.out]; rfl, drewN_below hb⟩
      · obtain rfl : k = d1.length := by omega
        have HD : Hid (d1 = d2) := Lib.hid (by have h1 := HE.out; have h2 := HL.out; rw [List.take_length, h2, List.take_length] at h1; exact h1)
        have HB := Lib.hid hb
        clear hb
        go_wp2_with fail
        go_ret
        exact ⟨by rw [decide_eq_true HD.out]; rfl, HB.out⟩
  · have hlb : ((d1.length : Int) != d2.length) = true := by simp; omega
    have HL : Hid (d1 ≠ d2) := Lib.hid fun e => hl (e ▸ rfl)
    clear hl
    go_wp2_with fail
    go_ret
    exact ⟨by rw [decide_eq_false HL.out]; rfl, Below.refl _ _⟩
set_option maxRecDepth 100000 in
set_option maxHeartbeats 4000000 in
theorem refSameC_any (v1 v2 : Value) (d1 d2 : List Cel) (w : World) (S1 S2 : Nat → Prop) (h1 : CelsR false w S1 v1 d1) (h2 : CelsR false w S2 v2 d2) :
    Calls Tryz.prog 48 #[v1, v2] w fun e w' => e = .returned (.bool (decide (d1 = d2))) ∧ Below w.heap.size w w' := by
  obtain ⟨a, c, rfl, hc, hm, hx⟩ := cels_shape h1
  obtain ⟨a2, c2, rfl, hc2, hm2, hx2⟩ := cels_shape h2
  have HX := Lib.hid hx
  have HX2 := Lib.hid hx2
  clear hx hx2 h1 h2
  unfold maxLen at hm hm2
  go_enter Tryz.func48, Tryz.ntmps48
  by_cases hl : d1.length = d2.length
  · have HL := Lib.hid hl
    have hlb : ((d1.length : Int) != d2.length) = false := by simp [hl]
    clear hl
    go_wp2_with fail
    go_loopw [5] (fun i wr => ∃ k : Nat, k ≤ d1.length ∧ i = .int .i64 k ∧ Hid (d1.take k = d2.take k) ∧ Below w.heap.size w wr) (fun i _ => d1.length - (intOf i).toNat)
    case atStart => exact ⟨0, Nat.zero_le _, rfl, Lib.hid rfl, Below.refl _ _⟩
    case round =>
      obtain ⟨k, hk, rfl, HE, hb⟩ := hrel
      by_cases hlt : k < d1.length
      · obtain ⟨x, hx, _⟩ := getOf d1 k hlt
        obtain ⟨y, hy, _⟩ := getOf d2 k (by have := HL.out; omega)
        obtain ⟨b, o, rfl, hz, c0, c1, c2⟩ := HX.out k x hx; obtain ⟨b2, o2, rfl, hz2, k0, k1, k2⟩ := HX2.out k y hy; have c0 := (hb.cell (p := ⟨b, o + k * 3, none⟩) hz).trans c0; have c1 := (hb.cell (p := ⟨b, o + k * 3 + 1, none⟩) hz).trans c1; have c2 := (hb.cell (p := ⟨b, o + k * 3 + 2, none⟩) hz).trans c2; have k0 := (hb.cell (p := ⟨b2, o2 + k * 3, none⟩) hz2).trans k0; have k1 := (hb.cell (p := ⟨b2, o2 + k * 3 + 1, none⟩) hz2).trans k1; have k2 := (hb.cell (p := ⟨b2, o2 + k * 3 + 2, none⟩) hz2).trans k2
        have i0 : (0 : Int) ≤ (k : Int) := Int.natCast_nonneg _
        have i1 : (k : Int) < (d1.length : Int) := by omega
        have i2 : (k : Int) < (d2.length : Int) := by have := HL.out; omega
        have HXY := Lib.hid (And.intro hx hy)
        clear hx hy
        have hg := guardCell
        have hcs := cel_cases x y
        rcases hcs with ⟨hq, hq2, hq3, hxy⟩ | ⟨hq, hxy⟩ | ⟨hq, hq2, hxy⟩ | ⟨hq, hq2, hq3, hxy⟩
        · have HE2 := Lib.hid (take_both HXY.out.1 HXY.out.2 HE.out hxy)
          clear hxy
          go_wp2_with fail
          go_quiet (fail)
          all_goals go_wp2_with fail
          go_roundw
          case rel => exact ⟨k + 1, hlt, by go_num, HE2, drewN_below hb⟩
          case measure => simp [intOf]; omega
        all_goals
          have HN := Lib.hid (ne_at HXY.out.1 HXY.out.2 hxy)
          clear hxy
          go_wp2_with fail
          go_quiet (fail)
          all_goals go_wp2_with fail
          go_ret
          exact ⟨by rw [decide_eq_false HN.out]; rfl, drewN_below hb⟩
      · obtain rfl : k = d1.length := by omega
        have HD : Hid (d1 = d2) := Lib.hid (by have h1 := HE.out; have h2 := HL.out; rw [List.take_length, h2, List.take_length] at h1; exact h1)
        have HB := Lib.hid hb
        clear hb
        go_wp2_with fail
        go_ret
        exact ⟨by rw [decide_eq_true HD.out]; rfl, HB.out⟩
  · have hlb : ((d1.length : Int) != d2.length) = true := by simp; omega
    have HL : Hid (d1 ≠ d2) := Lib.hid fun e => hl (e ▸ rfl)
    clear hl
    go_wp2_with fail
    go_ret
    exact ⟨by rw [decide_eq_false HL.out]; rfl, Below.refl _ _⟩
end Go.Proofs.YtfoiaoopbkcpoaaGreatDoor
namespace Go.Proofs.YtfoiaoopbkcpoaaGreatDoor
open Go.RowKit
open Go.Proofs.Qw

theorem linSame_eq (l1 l2 : Lin) : decide (l1 = l2) = ((l1.quote == l2.quote) && (l1.kind == l2.kind) && decide (l1.lists = l2.lists) && decide (l1.cells = l2.cells)) := by
  obtain ⟨a, b, c, d⟩ := l1
  obtain ⟨e, f, g, h⟩ := l2
  simp only [Lin.mk.injEq]
  by_cases h1 : a = e <;> by_cases h2 : b = f <;> by_cases h3 : c = g <;> by_cases h4 : d = h <;> simp [h1, h2, h3, h4]
/-- Two lines in blocks, as a callee lays its arguments. -/
theorem two_lines (w : World) (x1 x2 x3 x4 y1 y2 y3 y4 : Value) : ∃ W1, (w.alloc (.cells #[x1, x2, x3, x4] 55)).alloc (.cells #[y1, y2, y3, y4] 55) = W1 ∧ Below w.heap.size w W1 ∧ w.heap.size + 2 = W1.heap.size ∧
    W1.heap[w.heap.size]? = some (.cells #[x1, x2, x3, x4] 55) ∧ W1.heap[w.heap.size + 1]? = some (.cells #[y1, y2, y3, y4] 55) :=
  ⟨_, rfl, ((Below.refl _ _).alloc (Nat.le_refl _) _).alloc (by simp) _, by simp, heap_old _ _ (heap_new _ _ rfl), heap_new _ _ (by simp)⟩

theorem cellsSame_any (v1 v2 : Value) (d1 d2 : List Cel) (w : World) (S1 S2 : Nat → Prop) (h1 : CelsR false w S1 v1 d1) (h2 : CelsR false w S2 v2 d2) :
    Calls Tryz.prog 119 #[v1, v2] w fun e w' => e = .returned (.bool (decide (d1 = d2))) ∧ Below w.heap.size w w' := by
  have HC := Lib.hid (equalCell_any v1 v2 d1 d2 w S1 S2 h1 h2)
  clear h1 h2
  generalize decide (d1 = d2) = r at *
  go_enter Tryz.func119, Tryz.ntmps119
  go_wp2_with (go_at_call 142; refine HC.out.mono ?_; rintro e w1 ⟨rfl, hb1⟩)
  go_ret
  exact ⟨rfl, hb1⟩
set_option maxRecDepth 100000 in
set_option maxHeartbeats 4000000 in
theorem lineSame_any (l1 l2 : Lin) (a1 b1 a2 b2 : Value) (w : World) (S1 S2 : Nat → Prop) (hL1 : IntsR false w S1 a1 l1.lists) (hC1 : CelsR false w S1 b1 l1.cells) (hL2 : IntsR false w S2 a2 l2.lists) (hC2 : CelsR false w S2 b2 l2.cells) :
    Calls Tryz.prog 89 #[linV l1 a1 b1, linV l2 a2 b2] w fun e w' => e = .returned (.bool (decide (l1 = l2))) ∧ Below w.heap.size w w' := by
  have HC1 : Hid (∀ W, Below w.heap.size w W → Calls Tryz.prog 118 #[a1, a2] W fun e w' => e = .returned (.bool (decide (l1.lists = l2.lists))) ∧ Below W.heap.size W w') := Lib.hid fun W h => equalInt_any _ _ _ _ W S1 S2 (hL1.below (rdOf_stable _) h) (hL2.below (rdOf_stable _) h)
  have HC2 : Hid (∀ W, Below w.heap.size w W → Calls Tryz.prog 119 #[b1, b2] W fun e w' => e = .returned (.bool (decide (l1.cells = l2.cells))) ∧ Below W.heap.size W w') := Lib.hid fun W h => cellsSame_any _ _ _ _ W S1 S2 (hC1.below (rdOf_stable _) h) (hC2.below (rdOf_stable _) h)
  have HE := Lib.hid (linSame_eq l1 l2)
  obtain ⟨la, lc, rfl⟩ := hL1.slice
  obtain ⟨ca, cc, rfl⟩ := hC1.slice
  obtain ⟨la2, lc2, rfl⟩ := hL2.slice
  obtain ⟨ca2, cc2, rfl⟩ := hC2.slice
  generalize decide (l1 = l2) = r at *
  generalize decide (l1.lists = l2.lists) = x at *
  generalize decide (l1.cells = l2.cells) = y at *
  clear hL1 hC1 hL2 hC2
  obtain ⟨W1, hW1, hB, hz, hA1, hA2⟩ := two_lines w (.int .i64 l1.quote) (.slice la l1.lists.length lc) (.int .i64 l1.kind) (.slice ca l1.cells.length cc) (.int .i64 l2.quote) (.slice la2 l2.lists.length lc2) (.int .i64 l2.kind) (.slice ca2 l2.cells.length cc2)
  have HZ := Lib.hid hz
  clear hz
  obtain ⟨p1, f1⟩ := blk hA1
  obtain ⟨p2, f2⟩ := blk hA2
  go_enter Tryz.func89, Tryz.ntmps89
  go_wp2_with (first | (go_at_call 118; refine (HC1.out _ hB).mono ?_; rintro e w2 ⟨rfl, hb2⟩; have hbb := hB.trans (hb2.mono hB.size); have hA3 := heap_below hb2 hA1; have hA4 := heap_below hb2 hA2; obtain ⟨p3, f3⟩ := blk hA3; obtain ⟨p4, f4⟩ := blk hA4; clear hb2; cases x) | (go_at_call 119; refine (HC2.out _ hbb).mono ?_; rintro e w3 ⟨rfl, hb3⟩; have hb4 := Below.trans hbb (hb3.mono (Below.size hbb))))
  all_goals
    go_ret
    refine ⟨?_, by first | assumption | exact hB⟩
    rw [HE.out]
    refine congrArg Ending.returned (congrArg Value.bool ?_)
    clear HE HC1 HC2
    simp (config := { failIfUnchanged := false }) [*]
set_option maxRecDepth 100000 in
set_option maxHeartbeats 4000000 in
theorem refSameL_any (l1 l2 : Lin) (a1 b1 a2 b2 : Value) (w : World) (S1 S2 : Nat → Prop) (hL1 : IntsR false w S1 a1 l1.lists) (hC1 : CelsR false w S1 b1 l1.cells) (hL2 : IntsR false w S2 a2 l2.lists) (hC2 : CelsR false w S2 b2 l2.cells) :
    Calls Tryz.prog 44 #[linV l1 a1 b1, linV l2 a2 b2] w fun e w' => e = .returned (.bool (decide (l1 = l2))) ∧ Below w.heap.size w w' := by
  have HC1 : Hid (∀ W, Below w.heap.size w W → Calls Tryz.prog 86 #[a1, a2] W fun e w' => e = .returned (.bool (decide (l1.lists = l2.lists))) ∧ Below W.heap.size W w') := Lib.hid fun W h => refInts_any _ _ _ _ W S1 S2 (hL1.below (rdOf_stable _) h) (hL2.below (rdOf_stable _) h)
  have HC2 : Hid (∀ W, Below w.heap.size w W → Calls Tryz.prog 48 #[b1, b2] W fun e w' => e = .returned (.bool (decide (l1.cells = l2.cells))) ∧ Below W.heap.size W w') := Lib.hid fun W h => refSameC_any _ _ _ _ W S1 S2 (hC1.below (rdOf_stable _) h) (hC2.below (rdOf_stable _) h)
  have HE := Lib.hid (linSame_eq l1 l2)
  obtain ⟨la, lc, rfl⟩ := hL1.slice
  obtain ⟨ca, cc, rfl⟩ := hC1.slice
  obtain ⟨la2, lc2, rfl⟩ := hL2.slice
  obtain ⟨ca2, cc2, rfl⟩ := hC2.slice
  generalize decide (l1 = l2) = r at *
  generalize decide (l1.lists = l2.lists) = x at *
  generalize decide (l1.cells = l2.cells) = y at *
  clear hL1 hC1 hL2 hC2
  obtain ⟨W1, hW1, hB, hz, hA1, hA2⟩ := two_lines w (.int .i64 l1.quote) (.slice la l1.lists.length lc) (.int .i64 l1.kind) (.slice ca l1.cells.length cc) (.int .i64 l2.quote) (.slice la2 l2.lists.length lc2) (.int .i64 l2.kind) (.slice ca2 l2.cells.length cc2)
  have HZ := Lib.hid hz
  clear hz
  obtain ⟨p1, f1⟩ := blk hA1
  obtain ⟨p2, f2⟩ := blk hA2
  go_enter Tryz.func44, Tryz.ntmps44
  go_wp2_with (first | (go_at_call 86; refine (HC1.out _ hB).mono ?_; rintro e w2 ⟨rfl, hb2⟩; have hbb := hB.trans (hb2.mono hB.size); have hA3 := heap_below hb2 hA1; have hA4 := heap_below hb2 hA2; obtain ⟨p3, f3⟩ := blk hA3; obtain ⟨p4, f4⟩ := blk hA4; clear hb2; cases x) | (go_at_call 48; refine (HC2.out _ hbb).mono ?_; rintro e w3 ⟨rfl, hb3⟩; have hb4 := Below.trans hbb (hb3.mono (Below.size hbb))))
  all_goals
    go_ret
    refine ⟨?_, by first | assumption | exact hB⟩
    rw [HE.out]
    refine congrArg Ending.returned (congrArg Value.bool ?_)
    clear HE HC1 HC2
    simp (config := { failIfUnchanged := false }) [*]
end Go.Proofs.YtfoiaoopbkcpoaaGreatDoor
namespace Go.Proofs.YtfoiaoopbkcpoaaGreatDoor
open Go.RowKit
open Go.Proofs.Qw
attribute [local go_sem ↓] Go.wp_at_zero Go.wp_at_succ

set_option maxRecDepth 100000 in
set_option maxHeartbeats 4000000 in
theorem equalFunc_any (v1 v2 : Value) (d1 d2 : List Lin) (w : World) (S1 S2 : Nat → Prop) (h1 : LinsR w S1 v1 d1) (h2 : LinsR w S2 v2 d2) :
    Calls Tryz.prog 88 #[v1, v2, .func (.func 89) #[] #[]] w fun e w' => e = .returned (.bool (decide (d1 = d2))) ∧ Below w.heap.size w w' := by
  obtain ⟨a, c, rfl, hc, hm, hx⟩ := lins_shape h1
  obtain ⟨a2, c2, rfl, hc2, hm2, hx2⟩ := lins_shape h2
  have HX := Lib.hid hx
  have HX2 := Lib.hid hx2
  clear hx hx2 h1 h2
  unfold maxLen at hm hm2
  go_enter Tryz.func88, Tryz.ntmps88
  by_cases hl : d1.length = d2.length
  · have HL := Lib.hid hl
    have hlb : ((d1.length : Int) != d2.length) = false := by simp [hl]
    clear hl
    go_wp2_with fail
    go_loopw [17, 7] (fun i _ wr => ∃ k : Nat, k ≤ d1.length ∧ i = .int .i64 k ∧ Hid (d1.take k = d2.take k) ∧ Below w.heap.size w wr) (fun i _ _ => d1.length - (intOf i).toNat)
    case atStart => exact ⟨0, Nat.zero_le _, rfl, Lib.hid rfl, Below.refl _ _⟩
    case round =>
      obtain ⟨k, hk, rfl, HE, hb⟩ := hrel
      by_cases hlt : k < d1.length
      · obtain ⟨x, hx, _⟩ := getOf d1 k hlt
        obtain ⟨y, hy, _⟩ := getOf d2 k (by have := HL.out; omega)
        obtain ⟨b, o, la, lc, ca, cc, rfl, hA⟩ := HX.out k x hx
        obtain ⟨b2, o2, la2, lc2, ca2, cc2, rfl, hA2⟩ := HX2.out k y hy
        have HW : Hid (∀ W, Below wr.heap.size wr W → Calls Tryz.prog 89 #[linV x (.slice la x.lists.length lc) (.slice ca x.cells.length cc), linV y (.slice la2 y.lists.length lc2) (.slice ca2 y.cells.length cc2)] W fun e w' => e = .returned (.bool (decide (x = y))) ∧ Below W.heap.size W w') := Lib.hid fun W hW => by
          have h3 := hA.below (below_from hb hW)
          have h4 := hA2.below (below_from hb hW)
          exact lineSame_any x y _ _ _ _ W S1 S2 h3.listsR h3.cellsR h4.listsR h4.cellsR
        obtain ⟨hz, c0, c1, c2, c3, _, _⟩ := hA.below hb
        obtain ⟨hz2, k0, k1, k2, k3, _, _⟩ := hA2.below hb
        have i0 : (0 : Int) ≤ (k : Int) := Int.natCast_nonneg _
        have i1 : (k : Int) < (d1.length : Int) := by omega
        have i2 : (k : Int) < (d2.length : Int) := by have := HL.out; omega
        have HXY := Lib.hid (And.intro hx hy)
        have hbs := hb.size
        clear hx hy hA hA2
        have hwr : Below wr.heap.size wr wr := Below.refl _ _
        rcases Classical.em (x = y) with hxy | hxy
        · have HE2 := Lib.hid (take_both HXY.out.1 HXY.out.2 HE.out hxy)
          have hd : decide (x = y) = true := decide_eq_true hxy
          rw [hd] at HW
          clear hxy hd
          skip
          go_wp2_with (go_at_call 89; go_must (refine (HW.out _ (by go_grown)).mono ?_); rintro e w1 ⟨rfl, hb1⟩)
          go_roundw
          case rel => exact ⟨k + 1, hlt, by go_num, HE2, (hb.trans ((((Below.refl _ _).alloc hbs _).alloc (by simp; omega) _).trans (hb1.mono (by simp; omega))))⟩
          case measure => simp [intOf]; omega
        · have HN := Lib.hid (ne_at HXY.out.1 HXY.out.2 hxy)
          have hd : decide (x = y) = false := decide_eq_false hxy
          rw [hd] at HW
          clear hxy hd
          skip
          go_wp2_with (go_at_call 89; go_must (refine (HW.out _ (by go_grown)).mono ?_); rintro e w1 ⟨rfl, hb1⟩)
          go_ret
          exact ⟨by rw [decide_eq_false HN.out]; rfl, (hb.trans ((((Below.refl _ _).alloc hbs _).alloc (by simp; omega) _).trans (hb1.mono (by simp; omega))))⟩
      · obtain rfl : k = d1.length := by omega
        have HD : Hid (d1 = d2) := Lib.hid (by have h1 := HE.out; have h2 := HL.out; rw [List.take_length, h2, List.take_length] at h1; exact h1)
        have HB := Lib.hid hb
        clear hb
        go_wp2_with fail
        go_ret
        exact ⟨by rw [decide_eq_true HD.out]; rfl, HB.out⟩
  · have hlb : ((d1.length : Int) != d2.length) = true := by simp; omega
    have HL : Hid (d1 ≠ d2) := Lib.hid fun e => hl (e ▸ rfl)
    clear hl
    go_wp2_with fail
    go_ret
    exact ⟨by rw [decide_eq_false HL.out]; rfl, Below.refl _ _⟩
set_option maxRecDepth 100000 in
set_option maxHeartbeats 4000000 in
theorem refSame_any (v1 v2 : Value) (d1 d2 : List Lin) (w : World) (S1 S2 : Nat → Prop) (h1 : LinsR w S1 v1 d1) (h2 : LinsR w S2 v2 d2) :
    Calls Tryz.prog 33 #[v1, v2] w fun e w' => e = .returned (.bool (decide (d1 = d2))) ∧ Below w.heap.size w w' := by
  obtain ⟨a, c, rfl, hc, hm, hx⟩ := lins_shape h1
  obtain ⟨a2, c2, rfl, hc2, hm2, hx2⟩ := lins_shape h2
  have HX := Lib.hid hx
  have HX2 := Lib.hid hx2
  clear hx hx2 h1 h2
  unfold maxLen at hm hm2
  go_enter Tryz.func33, Tryz.ntmps33
  by_cases hl : d1.length = d2.length
  · have HL := Lib.hid hl
    have hlb : ((d1.length : Int) != d2.length) = false := by simp [hl]
    clear hl
    go_wp2_with fail
    go_loopw [5] (fun i wr => ∃ k : Nat, k ≤ d1.length ∧ i = .int .i64 k ∧ Hid (d1.take k = d2.take k) ∧ Below w.heap.size w wr) (fun i _ => d1.length - (intOf i).toNat)
    case atStart => exact ⟨0, Nat.zero_le _, rfl, Lib.hid rfl, Below.refl _ _⟩
    case round =>
      obtain ⟨k, hk, rfl, HE, hb⟩ := hrel
      by_cases hlt : k < d1.length
      · obtain ⟨x, hx, _⟩ := getOf d1 k hlt
        obtain ⟨y, hy, _⟩ := getOf d2 k (by have := HL.out; omega)
        obtain ⟨b, o, la, lc, ca, cc, rfl, hA⟩ := HX.out k x hx
        obtain ⟨b2, o2, la2, lc2, ca2, cc2, rfl, hA2⟩ := HX2.out k y hy
        have HW : Hid (∀ W, Below wr.heap.size wr W → Calls Tryz.prog 44 #[linV x (.slice la x.lists.length lc) (.slice ca x.cells.length cc), linV y (.slice la2 y.lists.length lc2) (.slice ca2 y.cells.length cc2)] W fun e w' => e = .returned (.bool (decide (x = y))) ∧ Below W.heap.size W w') := Lib.hid fun W hW => by
          have h3 := hA.below (below_from hb hW)
          have h4 := hA2.below (below_from hb hW)
          exact refSameL_any x y _ _ _ _ W S1 S2 h3.listsR h3.cellsR h4.listsR h4.cellsR
        obtain ⟨hz, c0, c1, c2, c3, _, _⟩ := hA.below hb
        obtain ⟨hz2, k0, k1, k2, k3, _, _⟩ := hA2.below hb
        have i0 : (0 : Int) ≤ (k : Int) := Int.natCast_nonneg _
        have i1 : (k : Int) < (d1.length : Int) := by omega
        have i2 : (k : Int) < (d2.length : Int) := by have := HL.out; omega
        have HXY := Lib.hid (And.intro hx hy)
        have hbs := hb.size
        clear hx hy hA hA2
        have hwr : Below wr.heap.size wr wr := Below.refl _ _
        rcases Classical.em (x = y) with hxy | hxy
        · have HE2 := Lib.hid (take_both HXY.out.1 HXY.out.2 HE.out hxy)
          have hd : decide (x = y) = true := decide_eq_true hxy
          rw [hd] at HW
          clear hxy hd
          go_wp2_with fail
          (go_region_held3 (fun w' => w'.cell? ⟨b, o + k * 4, none⟩ = some (.int .i64 x.quote) ∧ w'.cell? ⟨b, o + k * 4 + 1, none⟩ = some (.slice la x.lists.length lc) ∧ w'.cell? ⟨b, o + k * 4 + 2, none⟩ = some (.int .i64 x.kind) ∧ w'.cell? ⟨b, o + k * 4 + 3, none⟩ = some (.slice ca x.cells.length cc) ∧ w'.cell? ⟨b2, o2 + k * 4, none⟩ = some (.int .i64 y.quote) ∧ w'.cell? ⟨b2, o2 + k * 4 + 1, none⟩ = some (.slice la2 y.lists.length lc2) ∧ w'.cell? ⟨b2, o2 + k * 4 + 2, none⟩ = some (.int .i64 y.kind) ∧ w'.cell? ⟨b2, o2 + k * 4 + 3, none⟩ = some (.slice ca2 y.cells.length cc2)) ((first | go_keep | skip)) ((go_at_call 44; refine (HW.out _ hwr.drew).mono ?_; rintro e w1 ⟨rfl, hb1⟩; have hk1 := hb1.cell (p := ⟨b, o + k * 4, none⟩) hz; have hk2 := hb1.cell (p := ⟨b, o + k * 4 + 1, none⟩) hz; have hk3 := hb1.cell (p := ⟨b, o + k * 4 + 2, none⟩) hz; have hk4 := hb1.cell (p := ⟨b, o + k * 4 + 3, none⟩) hz; have hk5 := hb1.cell (p := ⟨b2, o2 + k * 4, none⟩) hz2; have hk6 := hb1.cell (p := ⟨b2, o2 + k * 4 + 1, none⟩) hz2; have hk7 := hb1.cell (p := ⟨b2, o2 + k * 4 + 2, none⟩) hz2; have hk8 := hb1.cell (p := ⟨b2, o2 + k * 4 + 3, none⟩) hz2))); go_wp2_with fail
          go_roundw
          case rel => exact ⟨k + 1, hlt, by go_num, HE2, (hb.drew.trans (hb1.mono hbs))⟩
          case measure => simp [intOf]; omega
        · have HN := Lib.hid (ne_at HXY.out.1 HXY.out.2 hxy)
          have hd : decide (x = y) = false := decide_eq_false hxy
          rw [hd] at HW
          clear hxy hd
          go_wp2_with fail
          (go_region_held3 (fun w' => w'.cell? ⟨b, o + k * 4, none⟩ = some (.int .i64 x.quote) ∧ w'.cell? ⟨b, o + k * 4 + 1, none⟩ = some (.slice la x.lists.length lc) ∧ w'.cell? ⟨b, o + k * 4 + 2, none⟩ = some (.int .i64 x.kind) ∧ w'.cell? ⟨b, o + k * 4 + 3, none⟩ = some (.slice ca x.cells.length cc) ∧ w'.cell? ⟨b2, o2 + k * 4, none⟩ = some (.int .i64 y.quote) ∧ w'.cell? ⟨b2, o2 + k * 4 + 1, none⟩ = some (.slice la2 y.lists.length lc2) ∧ w'.cell? ⟨b2, o2 + k * 4 + 2, none⟩ = some (.int .i64 y.kind) ∧ w'.cell? ⟨b2, o2 + k * 4 + 3, none⟩ = some (.slice ca2 y.cells.length cc2)) ((first | go_keep | skip)) ((go_at_call 44; refine (HW.out _ hwr.drew).mono ?_; rintro e w1 ⟨rfl, hb1⟩; have hk1 := hb1.cell (p := ⟨b, o + k * 4, none⟩) hz; have hk2 := hb1.cell (p := ⟨b, o + k * 4 + 1, none⟩) hz; have hk3 := hb1.cell (p := ⟨b, o + k * 4 + 2, none⟩) hz; have hk4 := hb1.cell (p := ⟨b, o + k * 4 + 3, none⟩) hz; have hk5 := hb1.cell (p := ⟨b2, o2 + k * 4, none⟩) hz2; have hk6 := hb1.cell (p := ⟨b2, o2 + k * 4 + 1, none⟩) hz2; have hk7 := hb1.cell (p := ⟨b2, o2 + k * 4 + 2, none⟩) hz2; have hk8 := hb1.cell (p := ⟨b2, o2 + k * 4 + 3, none⟩) hz2))); go_wp2_with fail
          go_ret
          exact ⟨by rw [decide_eq_false HN.out]; rfl, (hb.drew.trans (hb1.mono hbs))⟩
      · obtain rfl : k = d1.length := by omega
        have HD : Hid (d1 = d2) := Lib.hid (by have h1 := HE.out; have h2 := HL.out; rw [List.take_length, h2, List.take_length] at h1; exact h1)
        have HB := Lib.hid hb
        clear hb
        go_wp2_with fail
        go_ret
        exact ⟨by rw [decide_eq_true HD.out]; rfl, HB.out⟩
  · have hlb : ((d1.length : Int) != d2.length) = true := by simp; omega
    have HL : Hid (d1 ≠ d2) := Lib.hid fun e => hl (e ▸ rfl)
    clear hl
    go_wp2_with fail
    go_ret
    exact ⟨by rw [decide_eq_false HL.out]; rfl, Below.refl _ _⟩
theorem docSame_any (v1 v2 : Value) (d1 d2 : List Lin) (w : World) (S1 S2 : Nat → Prop) (h1 : LinsR w S1 v1 d1) (h2 : LinsR w S2 v2 d2) :
    Calls Tryz.prog 47 #[v1, v2] w fun e w' => e = .returned (.bool (decide (d1 = d2))) ∧ Below w.heap.size w w' := by
  have HC := Lib.hid (equalFunc_any v1 v2 d1 d2 w S1 S2 h1 h2)
  clear h1 h2
  generalize decide (d1 = d2) = r at *
  go_enter Tryz.func47, Tryz.ntmps47
  go_wp2_with (go_at_call 88; refine HC.out.mono ?_; rintro e w1 ⟨rfl, hb1⟩)
  go_ret
  exact ⟨rfl, hb1⟩
end Go.Proofs.YtfoiaoopbkcpoaaGreatDoor
