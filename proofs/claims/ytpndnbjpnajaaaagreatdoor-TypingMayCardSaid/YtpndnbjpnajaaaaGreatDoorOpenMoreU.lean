/- The walks of slices.Equal, EqualFunc, lines.Same, doc.Same and the reference's. -/
import Derived.Test.YtpndnbjpnajaaaaGreatDoorRefTargetU
import Derived.BigQuiet
import Derived.Deep.QuietTactic
import Derived.Deep.RegionHeld3
import Derived.Deep.DrawnRows
import Derived.Test.YtpndnbjpnajaaaaGreatDoorCards
import Derived.Test.YtpndnbjpnajaaaaGreatDoorTie
import Derived.Test.YtpndnbjpnajaaaaGreatDoorAttrWalkU
import Derived.ProofKit
import Derived.OpenShut
import Derived.Deep.DeepHandedRow
import Derived.Lib.LaidTab
import Derived.Lib.SmallJoins
import Derived.Lib.LaidU8T
import Derived.Carry
set_option linter.unusedVariables false
set_option linter.unusedSimpArgs false
namespace Go.Proofs.YtpndnbjpnajaaaaGreatDoor
open Go.RowKit
open Go.Proofs.Qw
theorem guardCell : Tryz.prog.eqGuardType Tryz.prog.depth 44 = false := by kernel_rfl
theorem run_neq_cell (x y : Cel) (w : World) : (binOp .neq 44 (.agg #[.int .i32 x.r, .int .i64 x.bits, .string ⟨x.href.toArray⟩]) (.agg #[.int .i32 y.r, .int .i64 y.bits, .string ⟨y.href.toArray⟩])).run Tryz.prog w = .ok (.bool (!decide (x = y))) w := by
 have h1 : Tryz.prog.stoodInHeld 44 = false := by kernel_rfl
 have h2 : Tryz.prog.underlying 44 = some (.struct (Tryz.prog.fieldsOf 44)) := by kernel_rfl
 rw [run_neq_struct, show (10000:Nat) = 9999 + 1 from rfl, run_equalIn_agg _ _ _ _ _ h2 h1]
 simp [Tryz.underlying44, go_sem]
 obtain ⟨a, b, c⟩ := x
 obtain ⟨d, e, f⟩ := y
 simp only [Cel.mk.injEq]
 by_cases e1 : a = d <;> by_cases e2 : b = e <;> by_cases e3 : c = f <;> simp [e1, e2, e3]
theorem take_both {α : Type} {l m : List α} {k : Nat} {x y : α} (hx : l[k]? = some x) (hy : m[k]? = some y) (h : l.take k = m.take k) (e : x = y) : l.take (k + 1) = m.take (k + 1) := by
 rw [take_some hx, take_some hy, h, e]
theorem ne_at {α : Type} {l m : List α} {k : Nat} {x y : α} (hx : l[k]? = some x) (hy : m[k]? = some y) (e : x ≠ y) : l ≠ m := fun h => e (by rw [h, hy] at hx; cases hx; rfl)
theorem cel_ne {x y : Cel} (h : x.r ≠ y.r ∨ x.bits ≠ y.bits ∨ x.href ≠ y.href) : x ≠ y := by rintro rfl; simp at h
theorem cel_cases (x y : Cel) : ((x.r != y.r) = false ∧ (x.bits != y.bits) = false ∧ (x.href == y.href) = true ∧ x = y) ∨
  ((x.r != y.r) = true ∧ x ≠ y) ∨ ((x.r != y.r) = false ∧ (x.bits != y.bits) = true ∧ x ≠ y) ∨ ((x.r != y.r) = false ∧ (x.bits != y.bits) = false ∧ (x.href == y.href) = false ∧ x ≠ y) := by
 by_cases e1 : x.r = y.r
 ·by_cases e2 : x.bits = y.bits
  ·by_cases e3 : x.href = y.href
   ·refine .inl ⟨by simp [e1], by simp [e2], by simp [e3], ?_⟩
    obtain ⟨a, b, c⟩ := x
    obtain ⟨d, e, f⟩ := y
    simp_all
   ·exact .inr (.inr (.inr ⟨by simp [e1], by simp [e2], by simp [e3], cel_ne (.inr (.inr e3))⟩))
  ·exact .inr (.inr (.inl ⟨by simp [e1], by simp [e2], cel_ne (.inr (.inl e2))⟩))
 ·exact .inr (.inl ⟨by simp [e1], cel_ne (.inl e1)⟩)
set_option maxRecDepth 100000 in
set_option maxHeartbeats 4000000 in
theorem equalInt_any (v1 v2 : Value) (d1 d2 : List Int) (w : World) (S1 S2 : Nat → Prop) (h1 : IntsR false w S1 v1 d1) (h2 : IntsR false w S2 v2 d2) :
  Calls Tryz.prog 239 #[v1, v2] w fun e w' => e = .returned (.bool (decide (d1 = d2))) ∧ Below w.heap.size w w' := by
 obtain ⟨a, c, rfl, hc, hm, hx⟩ := ints_shape h1
 obtain ⟨a2, c2, rfl, hc2, hm2, hx2⟩ := ints_shape h2
 have HX := Lib.hid hx
 have HX2 := Lib.hid hx2
 clear hx hx2 h1 h2
 unfold maxLen at hm hm2
 go_enter Tryz.func239, Tryz.ntmps239
 by_cases hl : d1.length = d2.length
 ·have HL := Lib.hid hl
  have hlb : ((d1.length : Int) != d2.length) = false := by simp [hl]
  clear hl
  go_wp2_with fail
  go_loopw [13, 5] (fun i _ wr => ∃ k : Nat, k ≤ d1.length ∧ i = .int .i64 k ∧ Hid (d1.take k = d2.take k) ∧ Below w.heap.size w wr) (fun i _ _ => d1.length - (intOf i).toNat)
  case atStart => exact ⟨0, Nat.zero_le _, rfl, Lib.hid rfl, Below.refl _ _⟩
  case round =>
   obtain ⟨k, hk, rfl, HE, hb⟩ := hrel
   by_cases hlt : k < d1.length
   ·obtain ⟨x, hx, _⟩ := getOf d1 k hlt
    obtain ⟨y, hy, _⟩ := getOf d2 k (by have := HL.out; omega)
    obtain ⟨b, o, rfl, hz, c0⟩ := HX.out k x hx; obtain ⟨b2, o2, rfl, hz2, k0⟩ := HX2.out k y hy; have c0 := (hb.cell (p := ⟨b, o + k, none⟩) hz).trans c0; have k0 := (hb.cell (p := ⟨b2, o2 + k, none⟩) hz2).trans k0
    have i0 : (0 : Int) ≤ (k : Int) := Int.natCast_nonneg _
    have i1 : (k : Int) < (d1.length : Int) := by omega
    have i2 : (k : Int) < (d2.length : Int) := by have := HL.out; omega
    have HXY := Lib.hid (And.intro hx hy)
    clear hx hy
    have hg := guardCell
    have hcs : ((x != y) = false ∧ x = y) ∨ ((x != y) = true ∧ x ≠ y) := by (by_cases e : x = y <;> simp [e])
    rcases hcs with ⟨hq, hxy⟩ | ⟨hq, hxy⟩
    ·have HE2 := Lib.hid (take_both HXY.out.1 HXY.out.2 HE.out hxy)
     clear hxy
     go_wp2_with fail
     go_quiet (fail)
     all_goals go_wp2_with fail
     go_roundw
     case rel => exact ⟨k + 1, hlt, by go_num, HE2, drewN_below hb⟩
     case measure => simp [intOf]; omega
    all_goals
     have HN := Lib.hid (ne_at HXY.out.1 HXY.out.2 hxy)
     clear hxy
     go_wp2_with fail
     go_quiet (fail)
     all_goals go_wp2_with fail
     go_ret
     exact ⟨by rw [decide_eq_false HN.out]; rfl, drewN_below hb⟩
   ·obtain rfl : k = d1.length := by omega
    have HD : Hid (d1 = d2) := Lib.hid (by have h1 := HE.out; have h2 := HL.out; rw [List.take_length, h2, List.take_length] at h1; exact h1)
    have HB := Lib.hid hb
    clear hb
    go_wp2_with fail
    go_ret
    exact ⟨by rw [decide_eq_true HD.out]; rfl, HB.out⟩
 ·have hlb : ((d1.length : Int) != d2.length) = true := by simp; omega
  have HL : Hid (d1 ≠ d2) := Lib.hid fun e => hl (e ▸ rfl)
  clear hl
  go_wp2_with fail
  go_ret
  exact ⟨by rw [decide_eq_false HL.out]; rfl, Below.refl _ _⟩
set_option maxRecDepth 100000 in
set_option maxHeartbeats 4000000 in
theorem equalCell_any (v1 v2 : Value) (d1 d2 : List Cel) (w : World) (S1 S2 : Nat → Prop) (h1 : CelsR false w S1 v1 d1) (h2 : CelsR false w S2 v2 d2) :
  Calls Tryz.prog 250 #[v1, v2] w fun e w' => e = .returned (.bool (decide (d1 = d2))) ∧ Below w.heap.size w w' := by
 obtain ⟨a, c, rfl, hc, hm, hx⟩ := cels_shape h1
 obtain ⟨a2, c2, rfl, hc2, hm2, hx2⟩ := cels_shape h2
 have HX := Lib.hid hx
 have HX2 := Lib.hid hx2
 clear hx hx2 h1 h2
 unfold maxLen at hm hm2
 go_enter Tryz.func250, Tryz.ntmps250
 by_cases hl : d1.length = d2.length
 ·have HL := Lib.hid hl
  have hlb : ((d1.length : Int) != d2.length) = false := by simp [hl]
  clear hl
  go_wp2_with fail
  go_loopw [13, 5] (fun i _ wr => ∃ k : Nat, k ≤ d1.length ∧ i = .int .i64 k ∧ Hid (d1.take k = d2.take k) ∧ Below w.heap.size w wr) (fun i _ _ => d1.length - (intOf i).toNat)
  case atStart => exact ⟨0, Nat.zero_le _, rfl, Lib.hid rfl, Below.refl _ _⟩
  case round =>
   obtain ⟨k, hk, rfl, HE, hb⟩ := hrel
   by_cases hlt : k < d1.length
   ·obtain ⟨x, hx, _⟩ := getOf d1 k hlt
    obtain ⟨y, hy, _⟩ := getOf d2 k (by have := HL.out; omega)
    obtain ⟨b, o, rfl, hz, c0, c1, c2⟩ := HX.out k x hx; obtain ⟨b2, o2, rfl, hz2, k0, k1, k2⟩ := HX2.out k y hy; have c0 := (hb.cell (p := ⟨b, o + k * 3, none⟩) hz).trans c0; have c1 := (hb.cell (p := ⟨b, o + k * 3 + 1, none⟩) hz).trans c1; have c2 := (hb.cell (p := ⟨b, o + k * 3 + 2, none⟩) hz).trans c2; have k0 := (hb.cell (p := ⟨b2, o2 + k * 3, none⟩) hz2).trans k0; have k1 := (hb.cell (p := ⟨b2, o2 + k * 3 + 1, none⟩) hz2).trans k1; have k2 := (hb.cell (p := ⟨b2, o2 + k * 3 + 2, none⟩) hz2).trans k2
    have i0 : (0 : Int) ≤ (k : Int) := Int.natCast_nonneg _
    have i1 : (k : Int) < (d1.length : Int) := by omega
    have i2 : (k : Int) < (d2.length : Int) := by have := HL.out; omega
    have HXY := Lib.hid (And.intro hx hy)
    clear hx hy
    have hg := guardCell
    have hcs : ((∀ w, (binOp .neq 44 (.agg #[.int .i32 x.r, .int .i64 x.bits, .string ⟨x.href.toArray⟩]) (.agg #[.int .i32 y.r, .int .i64 y.bits, .string ⟨y.href.toArray⟩])).run Tryz.prog w = .ok (.bool false) w) ∧ x = y) ∨ ((∀ w, (binOp .neq 44 (.agg #[.int .i32 x.r, .int .i64 x.bits, .string ⟨x.href.toArray⟩]) (.agg #[.int .i32 y.r, .int .i64 y.bits, .string ⟨y.href.toArray⟩])).run Tryz.prog w = .ok (.bool true) w) ∧ x ≠ y) := by (by_cases e : x = y; exact .inl ⟨fun w => by rw [run_neq_cell, e]; simp, e⟩; exact .inr ⟨fun w => by rw [run_neq_cell]; simp [e], e⟩)
    rcases hcs with ⟨hq, hxy⟩ | ⟨hq, hxy⟩
    ·have HE2 := Lib.hid (take_both HXY.out.1 HXY.out.2 HE.out hxy)
     clear hxy
     go_wp2_with fail
     go_quiet (fail)
     all_goals go_wp2_with fail
     go_roundw
     case rel => exact ⟨k + 1, hlt, by go_num, HE2, drewN_below hb⟩
     case measure => simp [intOf]; omega
    all_goals
     have HN := Lib.hid (ne_at HXY.out.1 HXY.out.2 hxy)
     clear hxy
     go_wp2_with fail
     go_quiet (fail)
     all_goals go_wp2_with fail
     go_ret
     exact ⟨by rw [decide_eq_false HN.out]; rfl, drewN_below hb⟩
   ·obtain rfl : k = d1.length := by omega
    have HD : Hid (d1 = d2) := Lib.hid (by have h1 := HE.out; have h2 := HL.out; rw [List.take_length, h2, List.take_length] at h1; exact h1)
    have HB := Lib.hid hb
    clear hb
    go_wp2_with fail
    go_ret
    exact ⟨by rw [decide_eq_true HD.out]; rfl, HB.out⟩
 ·have hlb : ((d1.length : Int) != d2.length) = true := by simp; omega
  have HL : Hid (d1 ≠ d2) := Lib.hid fun e => hl (e ▸ rfl)
  clear hl
  go_wp2_with fail
  go_ret
  exact ⟨by rw [decide_eq_false HL.out]; rfl, Below.refl _ _⟩
set_option maxRecDepth 100000 in
set_option maxHeartbeats 4000000 in
theorem refInts_any (v1 v2 : Value) (d1 d2 : List Int) (w : World) (S1 S2 : Nat → Prop) (h1 : IntsR false w S1 v1 d1) (h2 : IntsR false w S2 v2 d2) :
  Calls Tryz.prog 203 #[v1, v2] w fun e w' => e = .returned (.bool (decide (d1 = d2))) ∧ Below w.heap.size w w' := by
 obtain ⟨a, c, rfl, hc, hm, hx⟩ := ints_shape h1
 obtain ⟨a2, c2, rfl, hc2, hm2, hx2⟩ := ints_shape h2
 have HX := Lib.hid hx
 have HX2 := Lib.hid hx2
 clear hx hx2 h1 h2
 unfold maxLen at hm hm2
 go_enter Tryz.func203, Tryz.ntmps203
 by_cases hl : d1.length = d2.length
 ·have HL := Lib.hid hl
  have hlb : ((d1.length : Int) != d2.length) = false := by simp [hl]
  clear hl
  go_wp2_with fail
  go_loopw [5] (fun i wr => ∃ k : Nat, k ≤ d1.length ∧ i = .int .i64 k ∧ Hid (d1.take k = d2.take k) ∧ Below w.heap.size w wr) (fun i _ => d1.length - (intOf i).toNat)
  case atStart => exact ⟨0, Nat.zero_le _, rfl, Lib.hid rfl, Below.refl _ _⟩
  case round =>
   obtain ⟨k, hk, rfl, HE, hb⟩ := hrel
   by_cases hlt : k < d1.length
   ·obtain ⟨x, hx, _⟩ := getOf d1 k hlt
    obtain ⟨y, hy, _⟩ := getOf d2 k (by have := HL.out; omega)
    obtain ⟨b, o, rfl, hz, c0⟩ := HX.out k x hx; obtain ⟨b2, o2, rfl, hz2, k0⟩ := HX2.out k y hy; have c0 := (hb.cell (p := ⟨b, o + k, none⟩) hz).trans c0; have k0 := (hb.cell (p := ⟨b2, o2 + k, none⟩) hz2).trans k0
    have i0 : (0 : Int) ≤ (k : Int) := Int.natCast_nonneg _
    have i1 : (k : Int) < (d1.length : Int) := by omega
    have i2 : (k : Int) < (d2.length : Int) := by have := HL.out; omega
    have HXY := Lib.hid (And.intro hx hy)
    clear hx hy
    have hg := guardCell
    have hcs : ((x != y) = false ∧ x = y) ∨ ((x != y) = true ∧ x ≠ y) := by (by_cases e : x = y <;> simp [e])
    rcases hcs with ⟨hq, hxy⟩ | ⟨hq, hxy⟩
    ·have HE2 := Lib.hid (take_both HXY.out.1 HXY.out.2 HE.out hxy)
     clear hxy
     go_wp2_with fail
     go_quiet (fail)
     all_goals go_wp2_with fail
     go_roundw
     case rel => exact ⟨k + 1, hlt, by go_num, HE2, drewN_below hb⟩
     case measure => simp [intOf]; omega
    all_goals
     have HN := Lib.hid (ne_at HXY.out.1 HXY.out.2 hxy)
     clear hxy
     go_wp2_with fail
     go_quiet (fail)
     all_goals go_wp2_with fail
     go_ret
     exact ⟨by rw [decide_eq_false HN.out]; rfl, drewN_below hb⟩
   ·obtain rfl : k = d1.length := by omega
    have HD : Hid (d1 = d2) := Lib.hid (by have h1 := HE.out; have h2 := HL.out; rw [List.take_length, h2, List.take_length] at h1; exact h1)
    have HB := Lib.hid hb
    clear hb
    go_wp2_with fail
    go_ret
    exact ⟨by rw [decide_eq_true HD.out]; rfl, HB.out⟩
 ·have hlb : ((d1.length : Int) != d2.length) = true := by simp; omega
  have HL : Hid (d1 ≠ d2) := Lib.hid fun e => hl (e ▸ rfl)
  clear hl
  go_wp2_with fail
  go_ret
  exact ⟨by rw [decide_eq_false HL.out]; rfl, Below.refl _ _⟩
set_option maxRecDepth 100000 in
set_option maxHeartbeats 4000000 in
theorem refSameC_any (v1 v2 : Value) (d1 d2 : List Cel) (w : World) (S1 S2 : Nat → Prop) (h1 : CelsR false w S1 v1 d1) (h2 : CelsR false w S2 v2 d2) :
  Calls Tryz.prog 204 #[v1, v2] w fun e w' => e = .returned (.bool (decide (d1 = d2))) ∧ Below w.heap.size w w' := by
 obtain ⟨a, c, rfl, hc, hm, hx⟩ := cels_shape h1
 obtain ⟨a2, c2, rfl, hc2, hm2, hx2⟩ := cels_shape h2
 have HX := Lib.hid hx
 have HX2 := Lib.hid hx2
 clear hx hx2 h1 h2
 unfold maxLen at hm hm2
 go_enter Tryz.func204, Tryz.ntmps204
 by_cases hl : d1.length = d2.length
 ·have HL := Lib.hid hl
  have hlb : ((d1.length : Int) != d2.length) = false := by simp [hl]
  clear hl
  go_wp2_with fail
  go_loopw [5] (fun i wr => ∃ k : Nat, k ≤ d1.length ∧ i = .int .i64 k ∧ Hid (d1.take k = d2.take k) ∧ Below w.heap.size w wr) (fun i _ => d1.length - (intOf i).toNat)
  case atStart => exact ⟨0, Nat.zero_le _, rfl, Lib.hid rfl, Below.refl _ _⟩
  case round =>
   obtain ⟨k, hk, rfl, HE, hb⟩ := hrel
   by_cases hlt : k < d1.length
   ·obtain ⟨x, hx, _⟩ := getOf d1 k hlt
    obtain ⟨y, hy, _⟩ := getOf d2 k (by have := HL.out; omega)
    obtain ⟨b, o, rfl, hz, c0, c1, c2⟩ := HX.out k x hx; obtain ⟨b2, o2, rfl, hz2, k0, k1, k2⟩ := HX2.out k y hy; have c0 := (hb.cell (p := ⟨b, o + k * 3, none⟩) hz).trans c0; have c1 := (hb.cell (p := ⟨b, o + k * 3 + 1, none⟩) hz).trans c1; have c2 := (hb.cell (p := ⟨b, o + k * 3 + 2, none⟩) hz).trans c2; have k0 := (hb.cell (p := ⟨b2, o2 + k * 3, none⟩) hz2).trans k0; have k1 := (hb.cell (p := ⟨b2, o2 + k * 3 + 1, none⟩) hz2).trans k1; have k2 := (hb.cell (p := ⟨b2, o2 + k * 3 + 2, none⟩) hz2).trans k2
    have i0 : (0 : Int) ≤ (k : Int) := Int.natCast_nonneg _
    have i1 : (k : Int) < (d1.length : Int) := by omega
    have i2 : (k : Int) < (d2.length : Int) := by have := HL.out; omega
    have HXY := Lib.hid (And.intro hx hy)
    clear hx hy
    have hg := guardCell
    have hcs := cel_cases x y
    rcases hcs with ⟨hq, hq2, hq3, hxy⟩ | ⟨hq, hxy⟩ | ⟨hq, hq2, hxy⟩ | ⟨hq, hq2, hq3, hxy⟩
    ·have HE2 := Lib.hid (take_both HXY.out.1 HXY.out.2 HE.out hxy)
     clear hxy
     go_wp2_with fail
     go_quiet (fail)
     all_goals go_wp2_with fail
     go_roundw
     case rel => exact ⟨k + 1, hlt, by go_num, HE2, drewN_below hb⟩
     case measure => simp [intOf]; omega
    all_goals
     have HN := Lib.hid (ne_at HXY.out.1 HXY.out.2 hxy)
     clear hxy
     go_wp2_with fail
     go_quiet (fail)
     all_goals go_wp2_with fail
     go_ret
     exact ⟨by rw [decide_eq_false HN.out]; rfl, drewN_below hb⟩
   ·obtain rfl : k = d1.length := by omega
    have HD : Hid (d1 = d2) := Lib.hid (by have h1 := HE.out; have h2 := HL.out; rw [List.take_length, h2, List.take_length] at h1; exact h1)
    have HB := Lib.hid hb
    clear hb
    go_wp2_with fail
    go_ret
    exact ⟨by rw [decide_eq_true HD.out]; rfl, HB.out⟩
 ·have hlb : ((d1.length : Int) != d2.length) = true := by simp; omega
  have HL : Hid (d1 ≠ d2) := Lib.hid fun e => hl (e ▸ rfl)
  clear hl
  go_wp2_with fail
  go_ret
  exact ⟨by rw [decide_eq_false HL.out]; rfl, Below.refl _ _⟩
end Go.Proofs.YtpndnbjpnajaaaaGreatDoor
namespace Go.Proofs.YtpndnbjpnajaaaaGreatDoor
open Go.RowKit
open Go.Proofs.Qw
theorem linSame_eq (l1 l2 : Lin) : decide (l1 = l2) = ((l1.quote == l2.quote) && (l1.kind == l2.kind) && decide (l1.lists = l2.lists) && decide (l1.cells = l2.cells)) := by
 obtain ⟨a, b, c, d⟩ := l1
 obtain ⟨e, f, g, h⟩ := l2
 simp only [Lin.mk.injEq]
 by_cases h1 : a = e <;> by_cases h2 : b = f <;> by_cases h3 : c = g <;> by_cases h4 : d = h <;> simp [h1, h2, h3, h4]
theorem two_lines (w : World) (x1 x2 x3 x4 y1 y2 y3 y4 : Value) : ∃ W1, (w.alloc (.cells #[x1, x2, x3, x4] 42)).alloc (.cells #[y1, y2, y3, y4] 42) = W1 ∧ Below w.heap.size w W1 ∧ w.heap.size + 2 = W1.heap.size ∧
  W1.heap[w.heap.size]? = some (.cells #[x1, x2, x3, x4] 42) ∧ W1.heap[w.heap.size + 1]? = some (.cells #[y1, y2, y3, y4] 42) :=
 ⟨_, rfl, ((Below.refl _ _).alloc (Nat.le_refl _) _).alloc (by simp) _, by simp, heap_old _ _ (heap_new _ _ rfl), heap_new _ _ (by simp)⟩
theorem cellsSame_any (v1 v2 : Value) (d1 d2 : List Cel) (w : World) (S1 S2 : Nat → Prop) (h1 : CelsR false w S1 v1 d1) (h2 : CelsR false w S2 v2 d2) :
  Calls Tryz.prog 240 #[v1, v2] w fun e w' => e = .returned (.bool (decide (d1 = d2))) ∧ Below w.heap.size w w' := by
 have HC := Lib.hid (equalCell_any v1 v2 d1 d2 w S1 S2 h1 h2)
 clear h1 h2
 generalize decide (d1 = d2) = r at *
 go_enter Tryz.func240, Tryz.ntmps240
 go_wp2_with (go_at_call 250; refine HC.out.mono ?_; rintro e w1 ⟨rfl, hb1⟩)
 go_ret
 exact ⟨rfl, hb1⟩
set_option maxRecDepth 100000 in
set_option maxHeartbeats 4000000 in
theorem lineSame_any (l1 l2 : Lin) (a1 b1 a2 b2 : Value) (w : World) (S1 S2 : Nat → Prop) (hL1 : IntsR false w S1 a1 l1.lists) (hC1 : CelsR false w S1 b1 l1.cells) (hL2 : IntsR false w S2 a2 l2.lists) (hC2 : CelsR false w S2 b2 l2.cells) :
  Calls Tryz.prog 206 #[linV l1 a1 b1, linV l2 a2 b2] w fun e w' => e = .returned (.bool (decide (l1 = l2))) ∧ Below w.heap.size w w' := by
 have HC1 : Hid (∀ W, Below w.heap.size w W → Calls Tryz.prog 239 #[a1, a2] W fun e w' => e = .returned (.bool (decide (l1.lists = l2.lists))) ∧ Below W.heap.size W w') := Lib.hid fun W h => equalInt_any _ _ _ _ W S1 S2 (hL1.below (rdOf_stable _) h) (hL2.below (rdOf_stable _) h)
 have HC2 : Hid (∀ W, Below w.heap.size w W → Calls Tryz.prog 240 #[b1, b2] W fun e w' => e = .returned (.bool (decide (l1.cells = l2.cells))) ∧ Below W.heap.size W w') := Lib.hid fun W h => cellsSame_any _ _ _ _ W S1 S2 (hC1.below (rdOf_stable _) h) (hC2.below (rdOf_stable _) h)
 have HE := Lib.hid (linSame_eq l1 l2)
 obtain ⟨la, lc, rfl⟩ := hL1.slice
 obtain ⟨ca, cc, rfl⟩ := hC1.slice
 obtain ⟨la2, lc2, rfl⟩ := hL2.slice
 obtain ⟨ca2, cc2, rfl⟩ := hC2.slice
 generalize decide (l1 = l2) = r at *
 generalize decide (l1.lists = l2.lists) = x at *
 generalize decide (l1.cells = l2.cells) = y at *
 clear hL1 hC1 hL2 hC2
 obtain ⟨W1, hW1, hB, hz, hA1, hA2⟩ := two_lines w (.int .i64 l1.quote) (.slice la l1.lists.length lc) (.int .i64 l1.kind) (.slice ca l1.cells.length cc) (.int .i64 l2.quote) (.slice la2 l2.lists.length lc2) (.int .i64 l2.kind) (.slice ca2 l2.cells.length cc2)
 have HZ := Lib.hid hz
 clear hz
 obtain ⟨p1, f1⟩ := blk hA1
 obtain ⟨p2, f2⟩ := blk hA2
 go_enter Tryz.func206, Tryz.ntmps206
 go_wp2_with (first | (go_at_call 239; refine (HC1.out _ hB).mono ?_; rintro e w2 ⟨rfl, hb2⟩; have hbb := hB.trans (hb2.mono hB.size); have hA3 := heap_below hb2 hA1; have hA4 := heap_below hb2 hA2; obtain ⟨p3, f3⟩ := blk hA3; obtain ⟨p4, f4⟩ := blk hA4; clear hb2; cases x) | (go_at_call 240; refine (HC2.out _ hbb).mono ?_; rintro e w3 ⟨rfl, hb3⟩; have hb4 := Below.trans hbb (hb3.mono (Below.size hbb))))
 all_goals
  go_ret
  refine ⟨?_, by first | assumption | exact hB⟩
  rw [HE.out]
  refine congrArg Ending.returned (congrArg Value.bool ?_)
  clear HE HC1 HC2
  simp (config := { failIfUnchanged := false }) [*]
set_option maxRecDepth 100000 in
set_option maxHeartbeats 4000000 in
theorem refSameL_any (l1 l2 : Lin) (a1 b1 a2 b2 : Value) (w : World) (S1 S2 : Nat → Prop) (hL1 : IntsR false w S1 a1 l1.lists) (hC1 : CelsR false w S1 b1 l1.cells) (hL2 : IntsR false w S2 a2 l2.lists) (hC2 : CelsR false w S2 b2 l2.cells) :
  Calls Tryz.prog 142 #[linV l1 a1 b1, linV l2 a2 b2] w fun e w' => e = .returned (.bool (decide (l1 = l2))) ∧ Below w.heap.size w w' := by
 have HC1 : Hid (∀ W, Below w.heap.size w W → Calls Tryz.prog 203 #[a1, a2] W fun e w' => e = .returned (.bool (decide (l1.lists = l2.lists))) ∧ Below W.heap.size W w') := Lib.hid fun W h => refInts_any _ _ _ _ W S1 S2 (hL1.below (rdOf_stable _) h) (hL2.below (rdOf_stable _) h)
 have HC2 : Hid (∀ W, Below w.heap.size w W → Calls Tryz.prog 204 #[b1, b2] W fun e w' => e = .returned (.bool (decide (l1.cells = l2.cells))) ∧ Below W.heap.size W w') := Lib.hid fun W h => refSameC_any _ _ _ _ W S1 S2 (hC1.below (rdOf_stable _) h) (hC2.below (rdOf_stable _) h)
 have HE := Lib.hid (linSame_eq l1 l2)
 obtain ⟨la, lc, rfl⟩ := hL1.slice
 obtain ⟨ca, cc, rfl⟩ := hC1.slice
 obtain ⟨la2, lc2, rfl⟩ := hL2.slice
 obtain ⟨ca2, cc2, rfl⟩ := hC2.slice
 generalize decide (l1 = l2) = r at *
 generalize decide (l1.lists = l2.lists) = x at *
 generalize decide (l1.cells = l2.cells) = y at *
 clear hL1 hC1 hL2 hC2
 obtain ⟨W1, hW1, hB, hz, hA1, hA2⟩ := two_lines w (.int .i64 l1.quote) (.slice la l1.lists.length lc) (.int .i64 l1.kind) (.slice ca l1.cells.length cc) (.int .i64 l2.quote) (.slice la2 l2.lists.length lc2) (.int .i64 l2.kind) (.slice ca2 l2.cells.length cc2)
 have HZ := Lib.hid hz
 clear hz
 obtain ⟨p1, f1⟩ := blk hA1
 obtain ⟨p2, f2⟩ := blk hA2
 go_enter Tryz.func142, Tryz.ntmps142
 go_wp2_with (first | (go_at_call 203; refine (HC1.out _ hB).mono ?_; rintro e w2 ⟨rfl, hb2⟩; have hbb := hB.trans (hb2.mono hB.size); have hA3 := heap_below hb2 hA1; have hA4 := heap_below hb2 hA2; obtain ⟨p3, f3⟩ := blk hA3; obtain ⟨p4, f4⟩ := blk hA4; clear hb2; cases x) | (go_at_call 204; refine (HC2.out _ hbb).mono ?_; rintro e w3 ⟨rfl, hb3⟩; have hb4 := Below.trans hbb (hb3.mono (Below.size hbb))))
 all_goals
  go_ret
  refine ⟨?_, by first | assumption | exact hB⟩
  rw [HE.out]
  refine congrArg Ending.returned (congrArg Value.bool ?_)
  clear HE HC1 HC2
  simp (config := { failIfUnchanged := false }) [*]
end Go.Proofs.YtpndnbjpnajaaaaGreatDoor
namespace Go.Proofs.YtpndnbjpnajaaaaGreatDoor
open Go.RowKit
open Go.Proofs.Qw
attribute [local go_sem ↓] Go.wp_at_zero Go.wp_at_succ
set_option maxRecDepth 100000 in
set_option maxHeartbeats 4000000 in
theorem equalFunc_any (v1 v2 : Value) (d1 d2 : List Lin) (w : World) (S1 S2 : Nat → Prop) (h1 : LinsR w S1 v1 d1) (h2 : LinsR w S2 v2 d2) :
  Calls Tryz.prog 205 #[v1, v2, .func (.func 206) #[] #[]] w fun e w' => e = .returned (.bool (decide (d1 = d2))) ∧ Below w.heap.size w w' := by
 obtain ⟨a, c, rfl, hc, hm, hx⟩ := lins_shape h1
 obtain ⟨a2, c2, rfl, hc2, hm2, hx2⟩ := lins_shape h2
 have HX := Lib.hid hx
 have HX2 := Lib.hid hx2
 clear hx hx2 h1 h2
 unfold maxLen at hm hm2
 go_enter Tryz.func205, Tryz.ntmps205
 by_cases hl : d1.length = d2.length
 ·have HL := Lib.hid hl
  have hlb : ((d1.length : Int) != d2.length) = false := by simp [hl]
  clear hl
  go_wp2_with fail
  go_loopw [17, 7] (fun i _ wr => ∃ k : Nat, k ≤ d1.length ∧ i = .int .i64 k ∧ Hid (d1.take k = d2.take k) ∧ Below w.heap.size w wr) (fun i _ _ => d1.length - (intOf i).toNat)
  case atStart => exact ⟨0, Nat.zero_le _, rfl, Lib.hid rfl, Below.refl _ _⟩
  case round =>
   obtain ⟨k, hk, rfl, HE, hb⟩ := hrel
   by_cases hlt : k < d1.length
   ·obtain ⟨x, hx, _⟩ := getOf d1 k hlt
    obtain ⟨y, hy, _⟩ := getOf d2 k (by have := HL.out; omega)
    obtain ⟨b, o, la, lc, ca, cc, rfl, hA⟩ := HX.out k x hx
    obtain ⟨b2, o2, la2, lc2, ca2, cc2, rfl, hA2⟩ := HX2.out k y hy
    have HW : Hid (∀ W, Below wr.heap.size wr W → Calls Tryz.prog 206 #[linV x (.slice la x.lists.length lc) (.slice ca x.cells.length cc), linV y (.slice la2 y.lists.length lc2) (.slice ca2 y.cells.length cc2)] W fun e w' => e = .returned (.bool (decide (x = y))) ∧ Below W.heap.size W w') := Lib.hid fun W hW => by
     have h3 := hA.below (below_from hb hW)
     have h4 := hA2.below (below_from hb hW)
     exact lineSame_any x y _ _ _ _ W S1 S2 h3.listsR h3.cellsR h4.listsR h4.cellsR
    obtain ⟨hz, c0, c1, c2, c3, _, _⟩ := hA.below hb
    obtain ⟨hz2, k0, k1, k2, k3, _, _⟩ := hA2.below hb
    have i0 : (0 : Int) ≤ (k : Int) := Int.natCast_nonneg _
    have i1 : (k : Int) < (d1.length : Int) := by omega
    have i2 : (k : Int) < (d2.length : Int) := by have := HL.out; omega
    have HXY := Lib.hid (And.intro hx hy)
    have hbs := hb.size
    clear hx hy hA hA2
    have hwr : Below wr.heap.size wr wr := Below.refl _ _
    rcases Classical.em (x = y) with hxy | hxy
    ·have HE2 := Lib.hid (take_both HXY.out.1 HXY.out.2 HE.out hxy)
     have hd : decide (x = y) = true := decide_eq_true hxy
     rw [hd] at HW
     clear hxy hd
     skip
     go_wp2_with (go_at_call 206; go_must (refine (HW.out _ (by go_grown)).mono ?_); rintro e w1 ⟨rfl, hb1⟩)
     go_roundw
     case rel => exact ⟨k + 1, hlt, by go_num, HE2, (hb.trans ((((Below.refl _ _).alloc hbs _).alloc (by simp; omega) _).trans (hb1.mono (by simp; omega))))⟩
     case measure => simp [intOf]; omega
    ·have HN := Lib.hid (ne_at HXY.out.1 HXY.out.2 hxy)
     have hd : decide (x = y) = false := decide_eq_false hxy
     rw [hd] at HW
     clear hxy hd
     skip
     go_wp2_with (go_at_call 206; go_must (refine (HW.out _ (by go_grown)).mono ?_); rintro e w1 ⟨rfl, hb1⟩)
     go_ret
     exact ⟨by rw [decide_eq_false HN.out]; rfl, (hb.trans ((((Below.refl _ _).alloc hbs _).alloc (by simp; omega) _).trans (hb1.mono (by simp; omega))))⟩
   ·obtain rfl : k = d1.length := by omega
    have HD : Hid (d1 = d2) := Lib.hid (by have h1 := HE.out; have h2 := HL.out; rw [List.take_length, h2, List.take_length] at h1; exact h1)
    have HB := Lib.hid hb
    clear hb
    go_wp2_with fail
    go_ret
    exact ⟨by rw [decide_eq_true HD.out]; rfl, HB.out⟩
 ·have hlb : ((d1.length : Int) != d2.length) = true := by simp; omega
  have HL : Hid (d1 ≠ d2) := Lib.hid fun e => hl (e ▸ rfl)
  clear hl
  go_wp2_with fail
  go_ret
  exact ⟨by rw [decide_eq_false HL.out]; rfl, Below.refl _ _⟩
set_option maxRecDepth 100000 in
set_option maxHeartbeats 4000000 in
theorem refSame_any (v1 v2 : Value) (d1 d2 : List Lin) (w : World) (S1 S2 : Nat → Prop) (h1 : LinsR w S1 v1 d1) (h2 : LinsR w S2 v2 d2) :
  Calls Tryz.prog 65 #[v1, v2] w fun e w' => e = .returned (.bool (decide (d1 = d2))) ∧ Below w.heap.size w w' := by
 obtain ⟨a, c, rfl, hc, hm, hx⟩ := lins_shape h1
 obtain ⟨a2, c2, rfl, hc2, hm2, hx2⟩ := lins_shape h2
 have HX := Lib.hid hx
 have HX2 := Lib.hid hx2
 clear hx hx2 h1 h2
 unfold maxLen at hm hm2
 go_enter Tryz.func65, Tryz.ntmps65
 by_cases hl : d1.length = d2.length
 ·have HL := Lib.hid hl
  have hlb : ((d1.length : Int) != d2.length) = false := by simp [hl]
  clear hl
  go_wp2_with fail
  go_loopw [5] (fun i wr => ∃ k : Nat, k ≤ d1.length ∧ i = .int .i64 k ∧ Hid (d1.take k = d2.take k) ∧ Below w.heap.size w wr) (fun i _ => d1.length - (intOf i).toNat)
  case atStart => exact ⟨0, Nat.zero_le _, rfl, Lib.hid rfl, Below.refl _ _⟩
  case round =>
   obtain ⟨k, hk, rfl, HE, hb⟩ := hrel
   by_cases hlt : k < d1.length
   ·obtain ⟨x, hx, _⟩ := getOf d1 k hlt
    obtain ⟨y, hy, _⟩ := getOf d2 k (by have := HL.out; omega)
    obtain ⟨b, o, la, lc, ca, cc, rfl, hA⟩ := HX.out k x hx
    obtain ⟨b2, o2, la2, lc2, ca2, cc2, rfl, hA2⟩ := HX2.out k y hy
    have HW : Hid (∀ W, Below wr.heap.size wr W → Calls Tryz.prog 142 #[linV x (.slice la x.lists.length lc) (.slice ca x.cells.length cc), linV y (.slice la2 y.lists.length lc2) (.slice ca2 y.cells.length cc2)] W fun e w' => e = .returned (.bool (decide (x = y))) ∧ Below W.heap.size W w') := Lib.hid fun W hW => by
     have h3 := hA.below (below_from hb hW)
     have h4 := hA2.below (below_from hb hW)
     exact refSameL_any x y _ _ _ _ W S1 S2 h3.listsR h3.cellsR h4.listsR h4.cellsR
    obtain ⟨hz, c0, c1, c2, c3, _, _⟩ := hA.below hb
    obtain ⟨hz2, k0, k1, k2, k3, _, _⟩ := hA2.below hb
    have i0 : (0 : Int) ≤ (k : Int) := Int.natCast_nonneg _
    have i1 : (k : Int) < (d1.length : Int) := by omega
    have i2 : (k : Int) < (d2.length : Int) := by have := HL.out; omega
    have HXY := Lib.hid (And.intro hx hy)
    have hbs := hb.size
    clear hx hy hA hA2
    have hwr : Below wr.heap.size wr wr := Below.refl _ _
    rcases Classical.em (x = y) with hxy | hxy
    ·have HE2 := Lib.hid (take_both HXY.out.1 HXY.out.2 HE.out hxy)
     have hd : decide (x = y) = true := decide_eq_true hxy
     rw [hd] at HW
     clear hxy hd
     go_wp2_with fail
     (go_region_held3 (fun w' => w'.cell? ⟨b, o + k * 4, none⟩ = some (.int .i64 x.quote) ∧ w'.cell? ⟨b, o + k * 4 + 1, none⟩ = some (.slice la x.lists.length lc) ∧ w'.cell? ⟨b, o + k * 4 + 2, none⟩ = some (.int .i64 x.kind) ∧ w'.cell? ⟨b, o + k * 4 + 3, none⟩ = some (.slice ca x.cells.length cc) ∧ w'.cell? ⟨b2, o2 + k * 4, none⟩ = some (.int .i64 y.quote) ∧ w'.cell? ⟨b2, o2 + k * 4 + 1, none⟩ = some (.slice la2 y.lists.length lc2) ∧ w'.cell? ⟨b2, o2 + k * 4 + 2, none⟩ = some (.int .i64 y.kind) ∧ w'.cell? ⟨b2, o2 + k * 4 + 3, none⟩ = some (.slice ca2 y.cells.length cc2)) ((first | go_keep | skip)) ((go_at_call 142; refine (HW.out _ hwr.drew).mono ?_; rintro e w1 ⟨rfl, hb1⟩; have hk1 := hb1.cell (p := ⟨b, o + k * 4, none⟩) hz; have hk2 := hb1.cell (p := ⟨b, o + k * 4 + 1, none⟩) hz; have hk3 := hb1.cell (p := ⟨b, o + k * 4 + 2, none⟩) hz; have hk4 := hb1.cell (p := ⟨b, o + k * 4 + 3, none⟩) hz; have hk5 := hb1.cell (p := ⟨b2, o2 + k * 4, none⟩) hz2; have hk6 := hb1.cell (p := ⟨b2, o2 + k * 4 + 1, none⟩) hz2; have hk7 := hb1.cell (p := ⟨b2, o2 + k * 4 + 2, none⟩) hz2; have hk8 := hb1.cell (p := ⟨b2, o2 + k * 4 + 3, none⟩) hz2))); go_wp2_with fail
     go_roundw
     case rel => exact ⟨k + 1, hlt, by go_num, HE2, (hb.drew.trans (hb1.mono hbs))⟩
     case measure => simp [intOf]; omega
    ·have HN := Lib.hid (ne_at HXY.out.1 HXY.out.2 hxy)
     have hd : decide (x = y) = false := decide_eq_false hxy
     rw [hd] at HW
     clear hxy hd
     go_wp2_with fail
     (go_region_held3 (fun w' => w'.cell? ⟨b, o + k * 4, none⟩ = some (.int .i64 x.quote) ∧ w'.cell? ⟨b, o + k * 4 + 1, none⟩ = some (.slice la x.lists.length lc) ∧ w'.cell? ⟨b, o + k * 4 + 2, none⟩ = some (.int .i64 x.kind) ∧ w'.cell? ⟨b, o + k * 4 + 3, none⟩ = some (.slice ca x.cells.length cc) ∧ w'.cell? ⟨b2, o2 + k * 4, none⟩ = some (.int .i64 y.quote) ∧ w'.cell? ⟨b2, o2 + k * 4 + 1, none⟩ = some (.slice la2 y.lists.length lc2) ∧ w'.cell? ⟨b2, o2 + k * 4 + 2, none⟩ = some (.int .i64 y.kind) ∧ w'.cell? ⟨b2, o2 + k * 4 + 3, none⟩ = some (.slice ca2 y.cells.length cc2)) ((first | go_keep | skip)) ((go_at_call 142; refine (HW.out _ hwr.drew).mono ?_; rintro e w1 ⟨rfl, hb1⟩; have hk1 := hb1.cell (p := ⟨b, o + k * 4, none⟩) hz; have hk2 := hb1.cell (p := ⟨b, o + k * 4 + 1, none⟩) hz; have hk3 := hb1.cell (p := ⟨b, o + k * 4 + 2, none⟩) hz; have hk4 := hb1.cell (p := ⟨b, o + k * 4 + 3, none⟩) hz; have hk5 := hb1.cell (p := ⟨b2, o2 + k * 4, none⟩) hz2; have hk6 := hb1.cell (p := ⟨b2, o2 + k * 4 + 1, none⟩) hz2; have hk7 := hb1.cell (p := ⟨b2, o2 + k * 4 + 2, none⟩) hz2; have hk8 := hb1.cell (p := ⟨b2, o2 + k * 4 + 3, none⟩) hz2))); go_wp2_with fail
     go_ret
     exact ⟨by rw [decide_eq_false HN.out]; rfl, (hb.drew.trans (hb1.mono hbs))⟩
   ·obtain rfl : k = d1.length := by omega
    have HD : Hid (d1 = d2) := Lib.hid (by have h1 := HE.out; have h2 := HL.out; rw [List.take_length, h2, List.take_length] at h1; exact h1)
    have HB := Lib.hid hb
    clear hb
    go_wp2_with fail
    go_ret
    exact ⟨by rw [decide_eq_true HD.out]; rfl, HB.out⟩
 ·have hlb : ((d1.length : Int) != d2.length) = true := by simp; omega
  have HL : Hid (d1 ≠ d2) := Lib.hid fun e => hl (e ▸ rfl)
  clear hl
  go_wp2_with fail
  go_ret
  exact ⟨by rw [decide_eq_false HL.out]; rfl, Below.refl _ _⟩
theorem docSame_any (v1 v2 : Value) (d1 d2 : List Lin) (w : World) (S1 S2 : Nat → Prop) (h1 : LinsR w S1 v1 d1) (h2 : LinsR w S2 v2 d2) :
  Calls Tryz.prog 143 #[v1, v2] w fun e w' => e = .returned (.bool (decide (d1 = d2))) ∧ Below w.heap.size w w' := by
 have HC := Lib.hid (equalFunc_any v1 v2 d1 d2 w S1 S2 h1 h2)
 clear h1 h2
 generalize decide (d1 = d2) = r at *
 go_enter Tryz.func143, Tryz.ntmps143
 go_wp2_with (go_at_call 205; refine HC.out.mono ?_; rintro e w1 ⟨rfl, hb1⟩)
 go_ret
 exact ⟨rfl, hb1⟩
end Go.Proofs.YtpndnbjpnajaaaaGreatDoor
namespace Go.Proofs.YtpndnbjpnajaaaaGreatDoor
open Go.RowKit
open Go.Proofs.Qw
attribute [local go_sem ↓] Go.wp_at_zero Go.wp_at_succ
set_option maxRecDepth 100000 in
set_option maxHeartbeats 1000000 in
theorem refOwnC_any (v : Value) (d : List Cel) (own : Bool) (w : World) (S : Nat → Prop) (h : CelsR own w S v d) (hs : d.length ≤ 1000000) :
  Calls Tryz.prog 183 #[v] w fun e w' => ∃ v', e = .returned v' ∧ CelsR true w' (fun b => w.heap.size ≤ b) v' d ∧ Below w.heap.size w w' := by
 have HS := Lib.hid (SliceR.src_flat rowCell eltCell (SliceR.below (rdOf_stable _) h ((Below.refl w.heap.size w).alloc (Nat.le_refl _) (.cells #[] 44))))
 clear h
 go_enter Tryz.func183, Tryz.ntmps183
 go_wp2_with (at_builtin; go_must (refine wpList_append_R _ rfl _ _ 40 40 rfl rowCell eltCell w.heap.size _ _ (xs := []) (ys := d) (news := d.flatMap encCel) rfl rfl (SliceR.empty _ _ _ _ _ _ _) (by simp) HS.out (flatCell _ _ _) (by simp; omega) ?_); intro v' w1 hR hB _ _; have HR := Lib.hid hR; have HB := Lib.hid hB; clear hR hB)
 go_ret
 exact ⟨_, rfl, HR.out, ((Below.refl _ _).alloc (Nat.le_refl _) _).trans HB.out⟩
set_option maxRecDepth 100000 in
set_option maxHeartbeats 4000000 in
theorem refOwnL_any (l : Lin) (a b : Value) (o1 o2 : Bool) (w : World) (S : Nat → Prop) (hL : IntsR o1 w S a l.lists) (hC : CelsR o2 w S b l.cells) (hs : l.lists.length ≤ 1000000 ∧ l.cells.length ≤ 1000000) :
  Calls Tryz.prog 173 #[linV l a b] w fun e w' => ∃ a' b', e = .returned (linV l a' b') ∧ IntsR true w' (fun b => w.heap.size ≤ b) a' l.lists ∧ CelsR true w' (fun b => w.heap.size ≤ b) b' l.cells ∧ Below w.heap.size w w' := by
 obtain ⟨la, lc, rfl⟩ := hL.slice
 obtain ⟨ca, cc, rfl⟩ := hC.slice
 obtain ⟨W1, hW1, hB, hz, hA1, hA2⟩ := two_lines w (.int .i64 l.quote) (.slice la l.lists.length lc) (.int .i64 l.kind) (.slice ca l.cells.length cc) (.int .i64 0) (.slice none 0 0) (.int .i64 0) (.slice none 0 0)
 have hs1 := hB.size
 have HS : Hid (∀ W, Below W1.heap.size W1 W → Src Tryz.prog 1 39 (.slice la l.lists.length lc) l.lists.length (l.lists.flatMap encInt) W) := Lib.hid fun W hW => SliceR.src_flat rowInt eltInt (hL.below (rdOf_stable _) (hB.trans (hW.mono hs1)))
 have HC : Hid (∀ W, Below W1.heap.size W1 W → Calls Tryz.prog 183 #[.slice ca l.cells.length cc] W fun e w' => ∃ v', e = .returned v' ∧ CelsR true w' (fun b => W.heap.size ≤ b) v' l.cells ∧ Below W.heap.size W w') := Lib.hid fun W hW => refOwnC_any _ _ o2 W S (hC.below (rdOf_stable _) (hB.trans (hW.mono hs1))) hs.2
 have HB0 : Hid (∀ W, Below W1.heap.size W1 W → W.heap[w.heap.size]? = _) := Lib.hid fun W hW => heap_below hW hA1
 have HB1 : Hid (∀ W, Below W1.heap.size W1 W → W.heap[w.heap.size + 1]? = _) := Lib.hid fun W hW => heap_below hW hA2
 have HN1 : Hid (([] : List Int).length + l.lists.length ≤ 100000000) := Lib.hid (by simp; omega)
 obtain ⟨p1, f1⟩ := blk hA1
 obtain ⟨p2, f2⟩ := blk hA2
 have HZ := Lib.hid hz
 clear hL hC hz hA1 hA2 hs
 go_enter Tryz.func173, Tryz.ntmps173
 go_wp2_with fail
 go_region_held3 (fun w' => w'.cell? ⟨w.heap.size, 0, none⟩ = some (.int .i64 l.quote) ∧ w'.cell? ⟨w.heap.size, 1, none⟩ = some (.slice la l.lists.length lc) ∧ w'.cell? ⟨w.heap.size, 2, none⟩ = some (.int .i64 l.kind) ∧ w'.cell? ⟨w.heap.size, 3, none⟩ = some (.slice ca l.cells.length cc)) (go_keep) (first | ((refine step_append_R (by rfl) _ _ 39 39 (by rfl) rowInt eltInt _ _ _ (xs := []) (ys := l.lists) (news := l.lists.flatMap encInt) (by rfl) (by rfl) (SliceR.empty _ _ _ _ _ _ _) (Nat.le_refl _) (HS.out _ (by go_grown)) (flatInt _ _ _) HN1.out ?_; intro v1 w2 hv1 hb1 _ _; have hx1 : Below W1.heap.size W1 w2 := below_from (by go_grown) hb1; obtain ⟨p3, f3⟩ := blk (HB0.out _ hx1); obtain ⟨p4, f4⟩ := blk (HB1.out _ hx1); obtain ⟨a1, c1, hv1e⟩ := hv1.slice; subst hv1e)) | ((go_at_call 183; refine (HC.out _ (by go_grown)).mono ?_; rintro e w3 ⟨v2, rfl, hv2, hb2⟩; have hx2 : Below W1.heap.size W1 w3 := below_from (by go_grown) hb2; obtain ⟨p5, f5⟩ := blk (HB0.out _ hx2); obtain ⟨p6, f6⟩ := blk (HB1.out _ hx2); obtain ⟨a2, c2, hv2e⟩ := hv2.slice; subst hv2e)))
 go_wp2_with fail
 refine bodyPost_ret (results_line rfl _ _ (w.heap.size + 1) (.int .i64 l.quote) (.slice a1 l.lists.length c1) (.int .i64 l.kind) (.slice a2 l.cells.length c2) rfl (by simp [heap_set, putIn, HB1.out _ hx2])) rfl ?_
 have shb1 := Below.size hb1; have shb2 := Below.size hb2; (try simp at shb1); (try simp at shb2)
 have hfin := hB.trans (hx2.mono hs1)
 have := HZ.out
 exact ⟨_, _, rfl, (SliceR.stable (rdOf_stable _) hv1 (by (repeat' (first | (with_reducible exact Keeps.refl _ _) | (with_reducible refine Keeps.set ?_ ?_ _) | (with_reducible refine Keeps.alloc ?_ _) | (with_reducible refine Keeps.drew ?_) | (first | refine Keeps.on ?_ hb2) | (simp; omega)))) (fun b h _ => (by have h' := h; (try simp at h'); omega))), (SliceR.stable (rdOf_stable _) hv2 (by (repeat' (first | (with_reducible exact Keeps.refl _ _) | (with_reducible refine Keeps.set ?_ ?_ _) | (with_reducible refine Keeps.alloc ?_ _) | (with_reducible refine Keeps.drew ?_) | (first | fail) | (simp; omega)))) (fun b h _ => (by have h' := h; (try simp at h'); omega))), by go_grown⟩
set_option maxRecDepth 100000 in
set_option maxHeartbeats 4000000 in
theorem refFrame_any (l : Lin) (a b : Value) (o1 o2 : Bool) (w : World) (S : Nat → Prop) (hL : IntsR o1 w S a l.lists) (hC : CelsR o2 w S b l.cells) (hs : l.lists.length ≤ 1000000) :
  Calls Tryz.prog 182 #[linV l a b] w fun e w' => ∃ a', e = .returned (linV l a' (.slice none 0 0)) ∧ IntsR true w' (fun b => w.heap.size ≤ b) a' l.lists ∧ Below w.heap.size w w' := by
 obtain ⟨la, lc, rfl⟩ := hL.slice
 obtain ⟨ca, cc, rfl⟩ := hC.slice
 obtain ⟨W1, hW1, hB, hz, hA1, hA2⟩ := two_lines w (.int .i64 l.quote) (.slice la l.lists.length lc) (.int .i64 l.kind) (.slice ca l.cells.length cc) (.int .i64 0) (.slice none 0 0) (.int .i64 0) (.slice none 0 0)
 have hs1 := hB.size
 have HS : Hid (∀ W, Below W1.heap.size W1 W → Src Tryz.prog 1 39 (.slice la l.lists.length lc) l.lists.length (l.lists.flatMap encInt) W) := Lib.hid fun W hW => SliceR.src_flat rowInt eltInt (hL.below (rdOf_stable _) (hB.trans (hW.mono hs1)))
 have HB0 : Hid (∀ W, Below W1.heap.size W1 W → W.heap[w.heap.size]? = _) := Lib.hid fun W hW => heap_below hW hA1
 have HB1 : Hid (∀ W, Below W1.heap.size W1 W → W.heap[w.heap.size + 1]? = _) := Lib.hid fun W hW => heap_below hW hA2
 have HN1 : Hid (([] : List Int).length + l.lists.length ≤ 100000000) := Lib.hid (by simp; omega)
 obtain ⟨p1, f1⟩ := blk hA1
 obtain ⟨p2, f2⟩ := blk hA2
 have HZ := Lib.hid hz
 clear hL hC hz hA1 hA2 hs
 go_enter Tryz.func182, Tryz.ntmps182
 go_wp2_with fail
 go_region_held3 (fun w' => w'.cell? ⟨w.heap.size, 0, none⟩ = some (.int .i64 l.quote) ∧ w'.cell? ⟨w.heap.size, 1, none⟩ = some (.slice la l.lists.length lc) ∧ w'.cell? ⟨w.heap.size, 2, none⟩ = some (.int .i64 l.kind)) (go_keep) (((refine step_append_R (by rfl) _ _ 39 39 (by rfl) rowInt eltInt _ _ _ (xs := []) (ys := l.lists) (news := l.lists.flatMap encInt) (by rfl) (by rfl) (SliceR.empty _ _ _ _ _ _ _) (Nat.le_refl _) (HS.out _ (by go_grown)) (flatInt _ _ _) HN1.out ?_; intro v1 w2 hv1 hb1 _ _; have hx1 : Below W1.heap.size W1 w2 := below_from (by go_grown) hb1; obtain ⟨p3, f3⟩ := blk (HB0.out _ hx1); obtain ⟨p4, f4⟩ := blk (HB1.out _ hx1); obtain ⟨a1, c1, hv1e⟩ := hv1.slice; subst hv1e)))
 go_wp2_with fail
 refine bodyPost_ret (results_line rfl _ _ (w.heap.size + 1) (.int .i64 l.quote) (.slice a1 l.lists.length c1) (.int .i64 l.kind) (.slice none 0 0) rfl (by simp [heap_set, putIn, HB1.out _ hx1])) rfl ?_
 have shb1 := Below.size hb1; have shx1 := Below.size hx1; (try simp at shb1); (try simp at shx1)
 have hfin := hB.trans (hx1.mono hs1)
 have := HZ.out
 exact ⟨_, rfl, (SliceR.stable (rdOf_stable _) hv1 (by (repeat' (first | (with_reducible exact Keeps.refl _ _) | (with_reducible refine Keeps.set ?_ ?_ _) | (with_reducible refine Keeps.alloc ?_ _) | (with_reducible refine Keeps.drew ?_) | (first | fail) | (simp; omega)))) (fun b h _ => (by have h' := h; (try simp at h'); omega))), by go_grown⟩
end Go.Proofs.YtpndnbjpnajaaaaGreatDoor
namespace Go.Proofs.YtpndnbjpnajaaaaGreatDoor
open Go.RowKit
open Go.Proofs.Qw
set_option maxRecDepth 100000 in
set_option maxHeartbeats 2000000 in
theorem refOwnD_any (v : Value) (d : List Lin) (w : World) (S : Nat → Prop) (h : LinsR w S v d) (hs : Fits d) :
  Calls Tryz.prog 102 #[v] w fun e w' => ∃ v', e = .returned v' ∧ DocR true w' (fun b => w.heap.size ≤ b) v' d ∧ Below w.heap.size w w' := by
 obtain ⟨a, c, rfl, hc, hm, hx⟩ := lins_shape h
 have HX := Lib.hid hx
 have HF := Lib.hid hs
 have hn : d.length ≤ 1000000 := hs.1
 clear hx h hs
 unfold maxLen at hm
 go_enter Tryz.func102, Tryz.ntmps102
 go_wp2_with fail
 go_loopw [3, 4] (fun out i wr => ∃ k : Nat, k ≤ d.length ∧ i = .int .i64 k ∧ DocR true wr (fun b => w.heap.size ≤ b) out (d.take k) ∧ Below w.heap.size w wr) (fun _ i _ => d.length - (intOf i).toNat)
 case atStart => exact ⟨0, Nat.zero_le _, rfl, SliceR.nil _ _ _ _ _ _, Below.refl _ _⟩
 case round =>
  obtain ⟨k, hk, rfl, hO, hb⟩ := hrel
  by_cases hlt : k < d.length
  ·obtain ⟨l, hl, hd⟩ := getOf d k hlt
   obtain ⟨b, o, la, lc, ca, cc, rfl, hA⟩ := HX.out k l hl
   have hfl := HF.out.2 l (List.mem_of_getElem? hl)
   have HT := Lib.hid (take_some hl)
   have HW : Hid (∀ W, Below w.heap.size w W → Calls Tryz.prog 173 #[linV l (.slice la l.lists.length lc) (.slice ca l.cells.length cc)] W fun e w' => ∃ a' b', e = .returned (linV l a' b') ∧ IntsR true w' (fun b => W.heap.size ≤ b) a' l.lists ∧ CelsR true w' (fun b => W.heap.size ≤ b) b' l.cells ∧ Below W.heap.size W w') :=
    Lib.hid fun W hW => refOwnL_any l _ _ false false W S (hA.below hW).listsR (hA.below hW).cellsR hfl
   obtain ⟨_, c0, c1, c2, c3, _, _⟩ := hA.below hb
   have HO := Lib.hid hO
   have hbs := hb.size
   have htl : (d.take k).length + 1 ≤ 100000000 := by rw [List.length_take]; omega
   clear hA hd hl hO hfl
   go_wp2_with (first
    | (go_at_call 173; refine (HW.out _ hb).mono ?_; rintro e w2 ⟨a', b', rfl, ha', hb', hb2⟩; obtain ⟨a1, c1, rfl⟩ := ha'.slice; obtain ⟨a2, c2, rfl⟩ := hb'.slice; have HA1 := Lib.hid ha'; have HA2 := Lib.hid hb'; have HB2 := Lib.hid hb2; have hw2 := below_from hb hb2; clear ha' hb'; have hz2 := hb2.size; clear hb2; unfold linV)
    | (at_builtin; refine wpList_append_R _ rfl _ _ 22 22 rfl rowLine eltLine w.heap.size _ _ (xs := d.take k) (ys := [l]) (news := [.int .i64 l.quote, .slice a1 l.lists.length c1, .int .i64 l.kind, .slice a2 l.cells.length c2]) rfl rfl (HO.out.stable (rdLin_stable _) (by (repeat' (first | (with_reducible exact Keeps.refl _ _) | (with_reducible refine Keeps.set ?_ ?_ _) | (with_reducible refine Keeps.alloc ?_ _) | (with_reducible refine Keeps.drew ?_) | (first | refine Keeps.on ?_ HB2.out) | (simp; omega)))) (fun _ h _ => h)) (by simp; omega) (src_one rowLine w2 _ rfl (oneV_line _ _ _ _ _ _ _) 1) (NewsR.one rfl ⟨_, _, rfl, HA1.out.stable (rdOf_stable _) ((Keeps.refl _ _).alloc _) (fun b h _ => Nat.le_trans hbs h), HA2.out.stable (rdOf_stable _) ((Keeps.refl _ _).alloc _) (fun b h _ => Nat.le_trans hbs h)⟩) htl ?_; intro v' w3 hR hB _ _; rw [← HT.out] at hR; have HR := Lib.hid hR; have HB3 := Lib.hid hB; clear hR hB))
   go_roundw
   case rel => exact ⟨k + 1, hlt, by go_num, HR.out, (hw2.alloc (by omega) _).trans HB3.out⟩
   case measure => simp [intOf]; omega
  ·obtain rfl : k = d.length := by omega
   have HT := Lib.hid (List.take_length (l := d))
   have HO := Lib.hid hO
   have HB := Lib.hid hb
   clear hb hO
   go_wp2_with fail
   go_ret
   exact ⟨_, rfl, Eq.mp (congrArg (fun x => DocR true wr (fun b => w.heap.size ≤ b) _ x) HT.out) HO.out, HB.out⟩
end Go.Proofs.YtpndnbjpnajaaaaGreatDoor
namespace Go.Proofs.YtpndnbjpnajaaaaGreatDoor
open Go.RowKit
open Go.Proofs.Qw
set_option maxHeartbeats 1000000 in
theorem refSize_any (v : Value) (d : Doc) (w : World) (S : Nat → Prop) (h : LinsR w S v d) (hs : sizeD d ≤ 100000) :
  Calls Tryz.prog 56 #[v] w fun e w' => e = .returned (.int .i64 (sizeD d)) ∧ Below w.heap.size w w' := by
 obtain ⟨a, c, rfl, hc, hm, hx⟩ := lins_shape h
 have HX := Lib.hid hx
 clear hx h
 unfold maxLen at hm
 go_enter Tryz.func56, Tryz.ntmps56
 go_wp2_with fail
 go_loopw [3, 4] (fun n i wr => ∃ k : Nat, k ≤ d.length ∧ i = .int .i64 k ∧ n = .int .i64 (sizeD (d.take k)) ∧ Below w.heap.size w wr) (fun _ i _ => d.length - (intOf i).toNat)
 case atStart => exact ⟨0, Nat.zero_le _, rfl, rfl, Below.refl _ _⟩
 case round =>
  obtain ⟨k, hk, rfl, rfl, hb⟩ := hrel
  by_cases hlt : k < d.length
  ·obtain ⟨l, hl, hd⟩ := getOf d k hlt
   obtain ⟨b, o, la, lc, ca, cc, rfl, hA⟩ := HX.out k l hl
   obtain ⟨_, c0, c1, c2, c3, _, _⟩ := hA.below hb
   have e1 := sizeD_step hl
   have e2 := sizeD_le d (k + 1)
   have HE := Lib.hid e1
   have hle : sizeD (d.take k) + l.cells.length ≤ 100000 := by omega
   clear hA hd hl e1 e2
   go_wp2_with fail
   go_roundw
   case rel =>
    refine ⟨k + 1, hlt, by go_num, ?_, hb⟩
    rw [HE.out]
    go_num
   case measure => simp [intOf]; omega
  ·obtain rfl : k = d.length := by omega
   have HT : Hid (d.take d.length = d) := Lib.hid (List.take_length ..)
   have HB := Lib.hid hb
   clear hb
   go_wp2_with fail
   go_ret
   rw [HT.out]
   exact ⟨rfl, HB.out⟩
set_option maxRecDepth 100000 in
set_option maxHeartbeats 1000000 in
theorem refIs_any (v : Value) (d : Doc) (p : Ps) (w : World) (S : Nat → Prop) (h : LinsR w S v d) :
  Calls Tryz.prog 144 #[v, posV p] w fun e w' => e = .returned (.bool (isD d p)) ∧ Below w.heap.size w w' := by
 obtain ⟨a, c, rfl, hc, hm, hx⟩ := lins_shape h
 have HX := Lib.hid hx
 clear hx h
 unfold maxLen at hm
 obtain ⟨i, j⟩ := p
 unfold posV
 go_enter Tryz.func144, Tryz.ntmps144
 by_cases hi : 0 ≤ i ∧ i < d.length
 ·obtain ⟨i, rfl⟩ := Int.eq_ofNat_of_zero_le hi.1
  obtain ⟨l, hl, hd⟩ := getOf d i (by omega)
  obtain ⟨b, o, la, lc, ca, cc, rfl, hA⟩ := HX.out _ l hl
  obtain ⟨hlt, c0, c1, c2, c3, _, _⟩ := hA
  have HI := Lib.hid (isD_at (j := j) hl)
  clear hd hl
  have h1 : ((i : Int) < 0) = False := by simp
  rcases Bool.eq_false_or_eq_true (decide (0 ≤ j)) with hj | hj
  all_goals
   go_wp2_with fail
   go_quiet (fail)
   go_wp2_with fail
   go_ret
   refine ⟨?_, drewN_below (by go_grown)⟩
   rw [HI.out, hj]
   rfl
 ·have hi' : decide (i < 0) = true ∨ (decide (i < 0) = false ∧ decide ((d.length : Int) ≤ i) = true) := by
   by_cases h1 : i < 0
   ·exact .inl (decide_eq_true h1)
   ·exact .inr ⟨decide_eq_false h1, decide_eq_true (by omega)⟩
  have HI := Lib.hid (isD_off (d := d) (j := j) hi)
  clear hi
  rcases hi' with hi | ⟨hi, hi2⟩
  all_goals
   go_wp2_with fail
   go_ret
   refine ⟨?_, by (repeat' (first | (with_reducible exact Below.refl _ _) | (with_reducible assumption) | (with_reducible refine Below.alloc ?_ ?_ _) | (with_reducible refine Below.drew ?_) | (with_reducible refine drewN_below ?_) | (with_reducible refine Below.setCell ?_ ?_ _) | go_size))⟩
   rw [HI.out]
   rfl
theorem run_eql_pos (p q : Ps) (w : World) : (binOp .eql 24 (.agg #[.int .i64 p.line, .int .i64 p.col]) (.agg #[.int .i64 q.line, .int .i64 q.col])).run Tryz.prog w = .ok (.bool (decide (p = q))) w := by
 have h1 : Tryz.prog.stoodInHeld 24 = false := by kernel_rfl
 have h2 : Tryz.prog.underlying 24 = some (.struct (Tryz.prog.fieldsOf 24)) := by kernel_rfl
 rw [run_eql_struct, show (10000:Nat) = 9999 + 1 from rfl, run_equalIn_agg _ _ _ _ _ h2 h1]
 simp [Tryz.underlying24, go_sem]
 obtain ⟨a, b⟩ := p
 obtain ⟨d, e⟩ := q
 simp only [Ps.mk.injEq]
 by_cases e1 : a = d <;> by_cases e2 : b = e <;> simp [e1, e2]
theorem guardPos : Tryz.prog.eqGuardType Tryz.prog.depth 24 = false := by kernel_rfl
set_option maxRecDepth 100000 in
set_option maxHeartbeats 2000000 in
theorem refCmp_any (p q : Ps) (w : World) :
  Calls Tryz.prog 32 #[posV p, posV q] w fun e w' => e = .returned (.int .i64 (cmpP p q)) ∧ Below w.heap.size w w' := by
 have hg := guardPos
 have hcs : (p = q ∧ cmpP p q = 0) ∨ (p ≠ q ∧ p.line < q.line ∧ cmpP p q = -1) ∨ (p ≠ q ∧ ¬ p.line < q.line ∧ (p.line == q.line) = true ∧ p.col < q.col ∧ cmpP p q = -1) ∨ (p ≠ q ∧ ¬ p.line < q.line ∧ (p.line == q.line) = true ∧ ¬ p.col < q.col ∧ cmpP p q = 1) ∨ (p ≠ q ∧ ¬ p.line < q.line ∧ (p.line == q.line) = false ∧ cmpP p q = 1) := by
  obtain ⟨a, b⟩ := p
  obtain ⟨d, e⟩ := q
  simp only [Ps.mk.injEq, cmpP, cmpI, ne_eq]
  by_cases h1 : a < d
  ·simp [h1]; omega
  ·by_cases h2 : d < a
   ·simp [h1, h2]; omega
   ·obtain rfl : a = d := by omega
    by_cases h3 : b < e
    ·simp [h3]; omega
    ·by_cases h4 : e < b
     ·simp [h3, h4]; omega
     ·obtain rfl : b = e := by omega
      simp
 have hq := fun (w : World) => run_eql_pos p q w
 have HP : Hid (posV p = .agg #[.int .i64 p.line, .int .i64 p.col]) := Lib.hid rfl
 have HQ : Hid (posV q = .agg #[.int .i64 q.line, .int .i64 q.col]) := Lib.hid rfl
 rw [HP.out, HQ.out]
 go_enter Tryz.func32, Tryz.ntmps32
 rcases hcs with ⟨h1, hr⟩ | ⟨h1, h2, hr⟩ | ⟨h1, h2, h3, h4, hr⟩ | ⟨h1, h2, h3, h4, hr⟩ | ⟨h1, h2, h3, hr⟩
 ·have HR := Lib.hid hr
  have hd : decide (p = q) = true := decide_eq_true h1
  rw [hd] at hq
  clear h1 hr hd
  go_wp2_with fail
  go_ret
  rw [HR.out]
  exact ⟨rfl, by (repeat' (first | (with_reducible exact Below.refl _ _) | (with_reducible assumption) | (with_reducible refine Below.alloc ?_ ?_ _) | (with_reducible refine Below.drew ?_) | (with_reducible refine drewN_below ?_) | (with_reducible refine Below.setCell ?_ ?_ _) | go_size))⟩
 all_goals
  have HR := Lib.hid hr
  have hd : decide (p = q) = false := decide_eq_false h1
  rw [hd] at hq
  clear h1 hr hd
  go_wp2_with fail
  go_ret
  rw [HR.out]
  exact ⟨rfl, by (repeat' (first | (with_reducible exact Below.refl _ _) | (with_reducible assumption) | (with_reducible refine Below.alloc ?_ ?_ _) | (with_reducible refine Below.drew ?_) | (with_reducible refine drewN_below ?_) | (with_reducible refine Below.setCell ?_ ?_ _) | go_size))⟩
end Go.Proofs.YtpndnbjpnajaaaaGreatDoor
namespace Go.Proofs.YtpndnbjpnajaaaaGreatDoor
open Go.RowKit
open Go.Proofs.Qw
set_option maxHeartbeats 400000 in
theorem refLink_any (s : ByteArray) (w : World) (hs : s.size ≤ 1000000) :
  Calls Tryz.prog 179 #[.string s] w fun e w' => e = .returned (.bool (linkF s.data.toList)) ∧ Below w.heap.size w w' := by
 have HC := Lib.hid (refTarget_any s w hs)
 have HL : Hid (linkF s.data.toList = (s.toList.isEmpty || targetF s.data.toList)) := Lib.hid (by
  unfold linkF
  rw [toList_eq]
  cases s.data.toList <;> rfl)
 generalize targetF s.data.toList = r at *
 go_enter Tryz.func179, Tryz.ntmps179
 go_wp2_with (go_at_call 105; refine HC.out.mono ?_; rintro e w1 ⟨rfl, hb1⟩)
 ·go_ret
  rw [HL.out, show s.toList = [] by assumption]
  exact ⟨rfl, Below.refl _ _⟩
 ·go_ret
  rw [HL.out]
  exact ⟨rfl, hb1⟩
set_option maxRecDepth 100000 in
set_option maxHeartbeats 2000000 in
theorem refCellsMay_any (v : Value) (d : List Cel) (w : World) (S : Nat → Prop) (h : CelsR false w S v d) (hs : ∀ c ∈ d, c.href.length ≤ 1000000) :
  Calls Tryz.prog 197 #[v] w fun e w' => e = .returned (.bool (mayCs d)) ∧ Below w.heap.size w w' := by
 obtain ⟨a, c, rfl, hc, hm, hx⟩ := cels_shape h
 have HX := Lib.hid hx
 have HS := Lib.hid hs
 clear hx h hs
 unfold maxLen at hm
 go_enter Tryz.func197, Tryz.ntmps197
 go_wp2_with fail
 go_loopw [3] (fun i wr => ∃ k : Nat, k ≤ d.length ∧ i = .int .i64 k ∧ Hid ((d.take k).all mayC = true) ∧ Below w.heap.size w wr) (fun i _ => d.length - (intOf i).toNat)
 case atStart => exact ⟨0, Nat.zero_le _, rfl, Lib.hid rfl, Below.refl _ _⟩
 case round =>
  obtain ⟨k, hk, rfl, HA, hb⟩ := hrel
  by_cases hlt : k < d.length
  ·obtain ⟨x, hx, _⟩ := getOf d k hlt
   obtain ⟨b, o, rfl, hz, c0, c1, c2⟩ := HX.out k x hx
   have c0 := (hb.cell (p := ⟨b, o + k * 3, none⟩) hz).trans c0
   have c1 := (hb.cell (p := ⟨b, o + k * 3 + 1, none⟩) hz).trans c1
   have c2 := (hb.cell (p := ⟨b, o + k * 3 + 2, none⟩) hz).trans c2
   have HX2 := Lib.hid hx
   have hbs := hb.size
   obtain ⟨W1, hW1⟩ : ∃ W1, wr.alloc (.cells #[.int .i32 x.r, .int .i64 x.bits, .string ⟨x.href.toArray⟩] 44) = W1 := ⟨_, rfl⟩
   have hB : Below w.heap.size w W1 := hW1 ▸ hb.alloc hbs _
   have hA1 : W1.heap[wr.heap.size]? = some (.cells #[.int .i32 x.r, .int .i64 x.bits, .string ⟨x.href.toArray⟩] 44) := hW1 ▸ heap_new _ _ rfl
   obtain ⟨p1, f1⟩ := blk hA1
   have HM : Hid (∀ W, Calls Tryz.prog 229 #[.int .i32 x.r] W fun e w' => e = .returned (.bool (mayR x.r)) ∧ w' = W) := Lib.hid fun W => refCharMay_any x.r W
   have HC : Hid (∀ W, Calls Tryz.prog 179 #[.string ⟨x.href.toArray⟩] W fun e w' => e = .returned (.bool (linkF x.href)) ∧ Below W.heap.size W w') := Lib.hid fun W => refLink_any ⟨x.href.toArray⟩ W (by show x.href.toArray.size ≤ _; simpa using HS.out x (List.mem_of_getElem? hx))
   have HE := Lib.hid (mayC_eq x)
   have HT : Hid ((!mayC x) = false → (d.take (k + 1)).all mayC = true) := Lib.hid fun h => all_take HX2.out HA.out (by simpa using h)
   have HF : Hid ((!mayC x) = true → mayCs d = false) := Lib.hid fun h => all_no HX2.out (by simpa using h)
   clear hx hA1
   generalize (!mayC x) = r at *
   generalize mayR x.r = m at *
   generalize linkF x.href = lk at *
   go_wp2_with (first | (go_at_call 229; refine (HM.out _).mono ?_; rintro e w1 ⟨rfl, rfl⟩; cases m) | (go_at_call 179; refine (HC.out _).mono ?_; rintro e w1 ⟨rfl, hb1⟩; have hB2 := hB.trans (Below.mono hb1 hB.size); cases lk))
   all_goals first
    | (go_roundw
       case rel =>
         refine ⟨k + 1, hlt, by go_num, Lib.hid (HT.out ?_), by first | exact hB2 | exact hB⟩
         rw [HE.out]
         clear HE HM HC HT HF
         simp (config := { failIfUnchanged := false }) [*]
       case measure => simp [intOf]; omega)
    | (go_ret
       refine ⟨?_, by first | exact hB2 | exact hB⟩
       rw [HF.out (by rw [HE.out]; clear HE HM HC HT HF; simp (config := { failIfUnchanged := false }) [*])]
       rfl)
  ·obtain rfl : k = d.length := by omega
   have HF : Hid (mayCs d = true) := Lib.hid (by have := HA.out; rwa [List.take_length] at this)
   have HB := Lib.hid hb
   clear hb
   go_wp2_with fail
   go_ret
   rw [HF.out]
   exact ⟨rfl, HB.out⟩
theorem mayL_bad {l : Lin} (h : ¬ (0 ≤ l.quote ∧ l.quote ≤ 6 ∧ l.lists.length ≤ 6 ∧ 0 ≤ l.kind ∧ l.kind ≤ 3)) : mayL l = false := by
 cases hm : mayL l
 ·rfl
 ·exfalso
  apply h
  unfold mayL at hm
  simp only [Bool.and_eq_true, decide_eq_true_eq] at hm
  omega
def okK (kind k : Int) : Bool := decide (k = 0 ∨ k = 1) && decide (kind = 0)
theorem mayL_good {l : Lin} (h : 0 ≤ l.quote ∧ l.quote ≤ 6 ∧ l.lists.length ≤ 6 ∧ 0 ≤ l.kind ∧ l.kind ≤ 3) : mayL l = (l.lists.all (okK l.kind) && mayCs l.cells) := by
 unfold mayL
 rw [decide_eq_true h.1, decide_eq_true h.2.1, decide_eq_true h.2.2.1, decide_eq_true h.2.2.2.1, decide_eq_true h.2.2.2.2]
 have e : l.lists.all (okK l.kind) = ((decide (l.lists = []) || decide (l.kind = 0)) && l.lists.all (fun k => decide (k = 0 ∨ k = 1))) := by
  by_cases hk : l.kind = 0
  ·have e0 : okK l.kind = fun k => decide (k = 0 ∨ k = 1) := by funext k; simp [okK, hk]
   rw [e0, hk]; simp
  ·cases hl : l.lists with
   | nil => simp
   | cons x t => simp [okK, hk]
 rw [e]
 simp
set_option maxRecDepth 100000 in
set_option maxHeartbeats 4000000 in
theorem refLineMay_any (l : Lin) (a b : Value) (w : World) (S : Nat → Prop) (hL : IntsR false w S a l.lists) (hC : CelsR false w S b l.cells) (hs : ∀ c ∈ l.cells, c.href.length ≤ 1000000) :
  Calls Tryz.prog 139 #[linV l a b] w fun e w' => e = .returned (.bool (mayL l)) ∧ Below w.heap.size w w' := by
 have HC : Hid (∀ W, Below w.heap.size w W → Calls Tryz.prog 197 #[b] W fun e w' => e = .returned (.bool (mayCs l.cells)) ∧ Below W.heap.size W w') := Lib.hid fun W hW => refCellsMay_any b l.cells W S (hC.below (rdOf_stable _) hW) hs
 obtain ⟨la, lc, rfl, hlc, hlm, hx⟩ := ints_shape hL
 have HX := Lib.hid hx
 obtain ⟨ca, cc, rfl⟩ := hC.slice
 obtain ⟨W1, hW1⟩ : ∃ W1, w.alloc (.cells #[.int .i64 l.quote, .slice la l.lists.length lc, .int .i64 l.kind, .slice ca l.cells.length cc] 42) = W1 := ⟨_, rfl⟩
 have hB : Below w.heap.size w W1 := hW1 ▸ (Below.refl _ _).alloc (Nat.le_refl _) _
 have hA1 : W1.heap[w.heap.size]? = some (.cells #[.int .i64 l.quote, .slice la l.lists.length lc, .int .i64 l.kind, .slice ca l.cells.length cc] 42) := hW1 ▸ heap_new _ _ rfl
 obtain ⟨p1, f1⟩ := blk hA1
 unfold maxLen at hlm
 clear hx hL hC hs hA1
 by_cases hh : 0 ≤ l.quote ∧ l.quote ≤ 6 ∧ l.lists.length ≤ 6 ∧ 0 ≤ l.kind ∧ l.kind ≤ 3
 ·have HG := Lib.hid (mayL_good hh)
  obtain ⟨h1, h2, h3, h4, h5⟩ := hh
  go_enter Tryz.func139, Tryz.ntmps139
  go_wp2_with fail
  go_loopw [3] (fun i wr => ∃ k : Nat, k ≤ l.lists.length ∧ i = .int .i64 k ∧ Hid ((l.lists.take k).all (okK l.kind) = true) ∧ wr = W1) (fun i _ => l.lists.length - (intOf i).toNat)
  case atStart => exact ⟨0, Nat.zero_le _, rfl, Lib.hid rfl, rfl⟩
  case round =>
   obtain ⟨k, hk, rfl, HA, rfl⟩ := hrel
   by_cases hlt : k < l.lists.length
   ·obtain ⟨x, hx, _⟩ := getOf l.lists k hlt
    obtain ⟨b, o, rfl, hz, c0⟩ := HX.out k x hx
    have c0 := (hB.cell (p := ⟨b, o + k, none⟩) hz).trans c0
    have HX2 := Lib.hid hx
    clear hx
    have hcs : ((x != 0) = true ∧ (x != 1) = true ∧ okK l.kind x = false) ∨ ((x != 0) = false ∧ (l.kind != 0) = true ∧ okK l.kind x = false) ∨ ((x != 0) = true ∧ (x != 1) = false ∧ (l.kind != 0) = true ∧ okK l.kind x = false) ∨ ((x != 0) = false ∧ (l.kind != 0) = false ∧ okK l.kind x = true) ∨ ((x != 0) = true ∧ (x != 1) = false ∧ (l.kind != 0) = false ∧ okK l.kind x = true) := by
     unfold okK
     by_cases e0 : x = 0 <;> by_cases e1 : x = 1 <;> by_cases e2 : l.kind = 0 <;> simp [e0, e1, e2] <;> omega
    rcases hcs with ⟨t1, t2, t3⟩ | ⟨t1, t2, t3⟩ | ⟨t1, t2, t4, t3⟩ | ⟨t1, t2, t3⟩ | ⟨t1, t2, t4, t3⟩
    ·have HF : Hid (mayL l = false) := Lib.hid (by rw [HG.out, all_no HX2.out t3]; rfl)
     clear t3
     go_wp2_with fail
     go_ret
     rw [HF.out]
     exact ⟨rfl, hB⟩
    ·have HF : Hid (mayL l = false) := Lib.hid (by rw [HG.out, all_no HX2.out t3]; rfl)
     clear t3
     go_wp2_with fail
     go_ret
     rw [HF.out]
     exact ⟨rfl, hB⟩
    ·have HF : Hid (mayL l = false) := Lib.hid (by rw [HG.out, all_no HX2.out t3]; rfl)
     clear t3
     go_wp2_with fail
     go_ret
     rw [HF.out]
     exact ⟨rfl, hB⟩
    all_goals
     have HT := Lib.hid (all_take HX2.out HA.out t3)
     clear t3
     go_wp2_with fail
     go_roundw
     case rel => exact ⟨k + 1, hlt, by go_num, HT, by first | rfl | trivial⟩
     case measure => simp [intOf]; omega
   ·obtain rfl : k = l.lists.length := by omega
    have HF : Hid (mayL l = mayCs l.cells) := Lib.hid (by have := HA.out; rw [List.take_length] at this; rw [HG.out, this]; rfl)
    go_wp2_with (go_at_call 197; refine (HC.out _ hB).mono ?_; rintro e w2 ⟨rfl, hb2⟩)
    go_ret
    rw [HF.out]
    exact ⟨rfl, hB.trans (hb2.mono hB.size)⟩
 ·have HF := Lib.hid (mayL_bad hh)
  go_enter Tryz.func139, Tryz.ntmps139
  have hcs : (l.quote < 0) ∨ (0 ≤ l.quote ∧ 6 < l.quote) ∨ (0 ≤ l.quote ∧ l.quote ≤ 6 ∧ 6 < (l.lists.length : Int)) ∨ (0 ≤ l.quote ∧ l.quote ≤ 6 ∧ (l.lists.length : Int) ≤ 6 ∧ l.kind < 0) ∨ (0 ≤ l.quote ∧ l.quote ≤ 6 ∧ (l.lists.length : Int) ≤ 6 ∧ 0 ≤ l.kind ∧ 3 < l.kind) := by omega
  clear hh
  rcases hcs with t1 | ⟨t1, t2⟩ | ⟨t1, t2, t3⟩ | ⟨t1, t2, t3, t4⟩ | ⟨t1, t2, t3, t4, t5⟩
  all_goals
   go_wp2_with fail
   go_ret
   rw [HF.out]
   exact ⟨rfl, hB⟩
set_option maxRecDepth 100000 in
set_option maxHeartbeats 4000000 in
theorem refMay_any (v : Value) (d : Doc) (w : World) (S : Nat → Prop) (h : LinsR w S v d) (hs : Small d) :
  Calls Tryz.prog 62 #[v] w fun e w' => e = .returned (.bool (mayD d)) ∧ Below w.heap.size w w' := by
 have HC := Lib.hid (refSize_any v d w S h hs.1)
 have hsz := hs.1
 obtain ⟨a, c, rfl, hc, hm, hx⟩ := lins_shape h
 have HX := Lib.hid hx
 have HS := Lib.hid hs
 unfold maxLen at hm
 clear hx h hs
 by_cases hh : 1 ≤ d.length ∧ d.length ≤ 200 ∧ sizeD d ≤ 4000
 ·have HG : Hid (mayD d = d.all mayL) := Lib.hid (by unfold mayD; rw [decide_eq_true hh.1, decide_eq_true hh.2.1, decide_eq_true hh.2.2]; rfl)
  obtain ⟨h1, h2, h3⟩ := hh
  go_enter Tryz.func62, Tryz.ntmps62
  go_wp2_with (go_at_call 56; refine HC.out.mono ?_; rintro e w1 ⟨rfl, hb1⟩)
  go_loopw [3] (fun i wr => ∃ k : Nat, k ≤ d.length ∧ i = .int .i64 k ∧ Hid ((d.take k).all mayL = true) ∧ Below w.heap.size w wr) (fun i _ => d.length - (intOf i).toNat)
  case atStart => exact ⟨0, Nat.zero_le _, rfl, Lib.hid rfl, hb1⟩
  case round =>
   obtain ⟨k, hk, rfl, HA, hb⟩ := hrel
   by_cases hlt : k < d.length
   ·obtain ⟨l, hl, _⟩ := getOf d k hlt
    obtain ⟨b, o, la, lc, ca, cc, rfl, hA⟩ := HX.out k l hl
    have HW : Hid (∀ W, Below w.heap.size w W → Calls Tryz.prog 139 #[linV l (.slice la l.lists.length lc) (.slice ca l.cells.length cc)] W fun e w' => e = .returned (.bool (mayL l)) ∧ Below W.heap.size W w') := Lib.hid fun W hW => refLineMay_any l _ _ W S (hA.below hW).listsR (hA.below hW).cellsR (HS.out.2.2 l (List.mem_of_getElem? hl))
    obtain ⟨_, c0, c1, c2, c3, _, _⟩ := hA.below hb
    have HX2 := Lib.hid hl
    clear hl hA
    cases hm : mayL l
    ·rw [hm] at HW
     have HF : Hid (mayD d = false) := Lib.hid (by rw [HG.out]; exact all_no HX2.out hm)
     clear hm
     go_wp2_with (go_at_call 139; refine (HW.out _ hb).mono ?_; rintro e w2 ⟨rfl, hb2⟩)
     go_ret
     rw [HF.out]
     exact ⟨rfl, below_from hb hb2⟩
    ·rw [hm] at HW
     have HF := Lib.hid (all_take HX2.out HA.out hm)
     clear hm
     go_wp2_with (go_at_call 139; refine (HW.out _ hb).mono ?_; rintro e w2 ⟨rfl, hb2⟩)
     go_roundw
     case rel => exact ⟨k + 1, hlt, by go_num, HF, below_from hb hb2⟩
     case measure => simp [intOf]; omega
   ·obtain rfl : k = d.length := by omega
    have HF : Hid (mayD d = true) := Lib.hid (by have := HA.out; rw [List.take_length] at this; rw [HG.out, this])
    have HB := Lib.hid hb
    clear hb
    go_wp2_with fail
    go_ret
    rw [HF.out]
    exact ⟨rfl, HB.out⟩
 ·have HF : Hid (mayD d = false) := Lib.hid (by
   cases hm : mayD d
   ·rfl
   ·exfalso
    apply hh
    unfold mayD at hm
    simp only [Bool.and_eq_true, decide_eq_true_eq] at hm
    omega)
  have hcs : ((d.length : Int) < 1) ∨ (1 ≤ (d.length : Int) ∧ 200 < (d.length : Int)) ∨ (1 ≤ (d.length : Int) ∧ (d.length : Int) ≤ 200 ∧ 4000 < (sizeD d : Int)) := by omega
  clear hh
  go_enter Tryz.func62, Tryz.ntmps62
  rcases hcs with t1 | ⟨t1, t2⟩ | ⟨t1, t2, t3⟩
  ·go_wp2_with fail
   go_ret
   rw [HF.out]
   exact ⟨rfl, Below.refl _ _⟩
  ·go_wp2_with fail
   go_ret
   rw [HF.out]
   exact ⟨rfl, Below.refl _ _⟩
  ·go_wp2_with (go_at_call 56; refine HC.out.mono ?_; rintro e w1 ⟨rfl, hb1⟩)
   go_ret
   rw [HF.out]
   exact ⟨rfl, hb1⟩
end Go.Proofs.YtpndnbjpnajaaaaGreatDoor
namespace Go.Proofs.YtpndnbjpnajaaaaGreatDoor
open Go.RowKit
open Go.Proofs.Qw
def Sane (d : Doc) : Prop := ∀ l ∈ d, l.lists.length ≤ 70368744177664 ∧ l.cells.length ≤ 70368744177664 ∧ ∀ c ∈ l.cells, c.href.length ≤ 281474976710656
structure Sml (d : Doc) : Prop where
 len : d.length ≤ 300
 size : sizeD d ≤ 20000
 lin : ∀ l ∈ d, l.lists.length ≤ 20000 ∧ ∀ c ∈ l.cells, c.href.length ≤ 160007
theorem Sml.small {d : Doc} (h : Sml d) : Small d := ⟨by have := h.size; omega, by have := h.len; omega, fun l hl c hc => by have := (h.lin l hl).2 c hc; omega⟩
theorem Sml.fits {d : Doc} (h : Sml d) : Fits d := ⟨by have := h.len; omega, fun l hl => ⟨by have := (h.lin l hl).1; omega, by
 obtain ⟨i, hi⟩ := List.getElem?_of_mem hl
 have := cells_le hi
 have := h.size
 omega⟩⟩
def LongSaid (d : Doc) (w : World) (e : Ending) (w' : World) : Prop := ∃ r, e = .returned (.bool r) ∧ (r = false → Sml d) ∧ Below w.heap.size w w'
set_option maxRecDepth 100000 in
set_option maxHeartbeats 4000000 in
theorem refLong_any (v : Value) (d : Doc) (w : World) (S : Nat → Prop) (h : LinsR w S v d) (hs : Sane d) :
  Calls Tryz.prog 74 #[v] w (LongSaid d w) := by
 obtain ⟨a, c, rfl, hc, hm, hx⟩ := lins_shape h
 have HX := Lib.hid hx
 have HS := Lib.hid hs
 unfold maxLen at hm
 clear hx h hs
 go_enter Tryz.func74, Tryz.ntmps74
 by_cases hl : 300 < d.length
 ·go_wp2_with fail
  go_ret
  exact ⟨true, rfl, (fun h => by cases h), Below.refl _ _⟩
 ·go_wp2_with fail
  go_loopw [3, 4, 5] (fun n i _ wr => ∃ (k m : Nat), k ≤ d.length ∧ i = .int .i64 k ∧ n = .int .i64 m ∧ m ≤ 20000 ∧ Hid (sizeD (d.take k) ≤ m ∧ ∀ l ∈ d.take k, l.lists.length ≤ 20000 ∧ ∀ c ∈ l.cells, c.href.length ≤ 160007) ∧ Below w.heap.size w wr) (fun _ i _ _ => d.length - (intOf i).toNat)
  case atStart => exact ⟨0, 0, Nat.zero_le _, rfl, rfl, Nat.zero_le _, Lib.hid ⟨Nat.le_refl _, fun l h => by cases h⟩, Below.refl _ _⟩
  case round =>
   obtain ⟨k, m, hk, rfl, rfl, hm2, HA, hb⟩ := hrel
   obtain ⟨wo, rfl⟩ : ∃ wo : World, wo = wr := ⟨_, rfl⟩
   by_cases hlt : k < d.length
   ·obtain ⟨l, hl', hd⟩ := getOf d k hlt
    obtain ⟨b, o, la, lc, ca, cc, rfl, hA⟩ := HX.out k l hl'
    have hsn := HS.out l (List.mem_of_getElem? hl')
    have hs1 := hsn.1
    have hs2 := hsn.2.1
    have HS3 := Lib.hid hsn.2.2
    have HA2 := Lib.hid hA
    obtain ⟨_, c0, c1, c2, c3, _, hcr⟩ := hA.below hb
    obtain ⟨ca', cc', hce, hcl, hcm, hcx⟩ := cels_shape hA.cellsR
    cases hce
    have HCX := Lib.hid hcx
    have HT := Lib.hid hl'
    have i0 : (0 : Int) ≤ (k : Int) := Int.natCast_nonneg _
    have i1 : (k : Int) < (d.length : Int) := by omega
    have hw : IntKind.i64.wrap ((l.cells.length : Int) + (l.lists.length : Int)) = (l.cells.length : Int) + (l.lists.length : Int) := IntWalk.i64_in _ (by omega)
    have hw2 : IntKind.i64.wrap ((m : Int) + ((l.cells.length : Int) + (l.lists.length : Int))) = (m : Int) + ((l.cells.length : Int) + (l.lists.length : Int)) := IntWalk.i64_in _ (by omega)
    unfold maxLen at hcm
    clear hA hl' hd hsn hcx hcr
    go_wp2_with fail
    go_quiet (fail)
    clear hw hw2
    go_wp2_with fail
    go_loopw [3, 5] (fun n j wi => ∃ (q m' : Nat), q ≤ l.cells.length ∧ j = .int .i64 q ∧ n = .int .i64 m' ∧ m' ≤ 562949953421312 ∧ Hid (m + (l.cells.length + l.lists.length) ≤ m' ∧ (m' ≤ 20000 → ∀ c ∈ l.cells.take q, c.href.length ≤ 160007)) ∧ Below w.heap.size w wi) (fun _ j _ => l.cells.length - (intOf j).toNat)
    case atStart => exact ⟨0, m + (l.cells.length + l.lists.length), Nat.zero_le _, rfl, by go_num, by omega, Lib.hid ⟨Nat.le_refl _, fun _ c h => by cases h⟩, drewN_below hb⟩
    case round =>
     obtain ⟨q, m', hq, rfl, rfl, hm3, HQ, hb2⟩ := hrel
     obtain ⟨hzb, c0, c1, c2, c3, _, _⟩ := HA2.out.below hb2
     have hcs : (q < l.cells.length ∧ m' ≤ 20000) ∨ 20000 < m' ∨ (q = l.cells.length ∧ m' ≤ 20000) := by omega
     rcases hcs with ⟨h1, h2⟩ | h2 | ⟨h1, h2⟩
     ·obtain ⟨x, hx, _⟩ := getOf l.cells q h1
      obtain ⟨bc, oc, rfl, hz, k0, k1, k2⟩ := HCX.out q x hx
      have k2 := (hb2.cell (p := ⟨bc, oc + q * 3 + 2, none⟩) hz).trans k2
      have hxl := HS3.out x (List.mem_of_getElem? hx)
      have HN : Hid (m + (l.cells.length + l.lists.length) ≤ m' + x.href.length / 8 ∧ (m' + x.href.length / 8 ≤ 20000 → ∀ c ∈ l.cells.take (q + 1), c.href.length ≤ 160007)) := Lib.hid ⟨by have := HQ.out.1; omega, fun h c hc => by
       rw [take_some hx, List.mem_append] at hc
       rcases hc with hc | hc
       ·exact HQ.out.2 (by omega) c hc
       ·rw [List.mem_singleton] at hc; subst hc; omega⟩
      clear hx
      go_wp2_with fail
      go_roundw
      case rel => exact ⟨q + 1, m' + x.href.length / 8, h1, by go_num, by go_num, by omega, HN, hb2⟩
      case measure => simp [intOf]; omega
     ·by_cases h1 : q < l.cells.length
      all_goals
       go_wp2_with fail
       go_ret
       exact ⟨true, rfl, (fun h => by cases h), hb2⟩
     ·subst h1
      have HN : Hid (sizeD (d.take (k + 1)) ≤ m' ∧ ∀ l ∈ d.take (k + 1), l.lists.length ≤ 20000 ∧ ∀ c ∈ l.cells, c.href.length ≤ 160007) := Lib.hid (by
       have h3 := HQ.out.1
       have h4 := sizeD_step HT.out
       have h5 := HA.out.1
       refine ⟨by omega, fun x hx => ?_⟩
       rw [take_some HT.out, List.mem_append] at hx
       rcases hx with hx | hx
       ·exact HA.out.2 x hx
       ·rw [List.mem_singleton] at hx
        subst hx
        exact ⟨by omega, fun c hc => HQ.out.2 h2 c (by rw [List.take_length]; exact hc)⟩)
      go_wp2_with fail
      go_roundw
      case rel => exact ⟨k + 1, m', hlt, by go_num, rfl, h2, HN, hb2⟩
      case measure => simp [intOf]; omega
   ·obtain rfl : k = d.length := by omega
    have HF : Hid (Sml d) := Lib.hid (by
     have h1 := HA.out
     rw [List.take_length] at h1
     exact ⟨by omega, by omega, h1.2⟩)
    have HB := Lib.hid hb
    clear hb
    go_wp2_with fail
    go_ret
    exact ⟨false, rfl, fun _ => HF.out, HB.out⟩
end Go.Proofs.YtpndnbjpnajaaaaGreatDoor
namespace Go.Proofs.YtpndnbjpnajaaaaGreatDoor
open Go.ChangeShapes Go.WideShapes Go.ChangeAt Go.RowKit
theorem own : ownKnob Tryz.prog.godebug = none := by kernel_rfl
def numOf : DataW Unit → List Value
 | .lit (.int k n) => [.int k n]
 | .agg l => l.flatMap fun
  | .lit (.int k n) => [.int k n]
  | .agg m => m.flatMap fun
   | .lit (.int k n) => [.int k n]
   | _ => []
  | _ => []
 | _ => []
def putAt (w : World) (g : Nat) (cs : List Value) : World := { w with heap := w.heap.modify g fun
   | .cells _ t frozen => .cells cs.toArray t frozen
   | o => o }
noncomputable def laidWorld (os : Os) : World :=
 putAt (putAt (World.holding Tryz.prog os ⟨#[], #[], []⟩) 0 (numOf Rows.laid_unicode_utf8_first)) 1 (numOf Rows.laid_unicode_utf8_acceptRanges)
end Go.Proofs.YtpndnbjpnajaaaaGreatDoor
namespace Go.Proofs.Qw
open Go.RowKit Go.Proofs.YtpndnbjpnajaaaaGreatDoor Go.Deep
section
variable {H : Type} {enc : TypeId × Value → H} {P : Program} {w : World} {base : Nat} {held : Bool}
theorem open_row {α : Type} [Inhabited α] {t e t0 : TypeId} {k fuel : Nat} {R : Rd α} {cs : List Value} {x : DataW H × List MemPlace} (Q : DataW H → α → Prop) (ht : P.underlying t = some (.slice e)) (hk : P.cellsOf e = k) (hk0 : 0 < k)
  (h : DataW.trod enc P w base (fun _ => true) held fuel t cs = some x)
  (hR : ∀ n cs y, DataW.trod enc P w base (fun _ => true) held n e cs = some y → ∃ x, R w (fun _ => True) cs x ∧ Q y.1 x) :
  ∃ (v : Value) (xs : List α), cs = [v] ∧ SliceR t0 k R false w (fun _ => True) v xs ∧ ((x.1 = .nil ∧ xs = []) ∨ ∃ (elems spare : List (DataW H)), x.1 = .slice elems spare ∧ elems.length = xs.length ∧ ∀ (i : Nat) (a : α), xs[i]? = some a → ∃ d, elems[i]? = some d ∧ Q d a) := by
 rcases open_slice ht h with ⟨rfl, rfl⟩ | ⟨a, len, cap, m, n, D, Pl, rfl, hb, hl, hm, hmm, rfl, hx⟩
 ·exact ⟨_, [], rfl, SliceR.nil _ _ _ _ _ _, .inl ⟨rfl, rfl⟩⟩
 simp only [if_pos] at hmm
 subst hmm
 have hx2 : ∀ i, i < len → ∃ y : α, ∃ cs', (w.cells? base (a.add (i * P.cellsOf e)) (P.cellsOf e) = some cs' ∧ R w (fun _ => True) cs' y) ∧ Q (D i) y := fun i hi => by
  obtain ⟨cs', h1, h2⟩ := hx i (by omega)
  obtain ⟨y, g1, g2⟩ := hR _ _ _ h2
  exact ⟨y, cs', ⟨h1, g1⟩, g2⟩
 obtain ⟨Y, hY⟩ := choose_lt hx2
 refine ⟨_, (List.range len).map Y, rfl, ?_, .inr ⟨_, _, rfl, by simp, fun i y hi => ?_⟩⟩
 ·by_cases h0 : len = 0
  ·subst h0
   exact ⟨some a, m, rfl, by simp, hm, .inl ⟨rfl, fun h => by cases h⟩⟩
  obtain ⟨c0, ⟨g1, _⟩, _⟩ := hY 0 (by omega)
  have gs := World.cells?_some g1
  obtain ⟨b, off, spot⟩ := a
  have hc0 : c0.length = k := by rw [gs.2.1, hk]
  have g3 := gs.2.2 0 (by omega)
  have hspot : spot = none := by
   rw [List.getElem?_eq_getElem (by omega)] at g3
   simpa [Addr.add] using World.cell?_spot g3
  subst hspot
  have hlt : b < w.heap.size := by
   have := World.cells?_block g1 (by omega)
   simpa [Addr.add] using this
  refine ⟨_, m, by simp, by simp; omega, hm, .inr ⟨b, off, rfl, trivial, hlt, (fun h => by cases h), fun i y hi => ?_⟩⟩
  have hil : i < len := by have := (List.getElem?_eq_some_iff.1 hi).1; simpa using this
  have hy : y = Y i := by simp [hil] at hi; exact hi.symm
  subst hy
  obtain ⟨cs', ⟨q1, q2⟩, _⟩ := hY i hil
  have qs := World.cells?_some q1
  refine ⟨cs', by rw [qs.2.1, hk], q2, fun j u hu => ?_⟩
  have hj := (List.getElem?_eq_some_iff.1 hu).1
  have := qs.2.2 j (by rw [← qs.2.1]; exact hj)
  rw [hu, hk, WideShapes.add_plain, WideShapes.add_plain] at this
  rwa [Nat.add_assoc] at this ⊢
 ·have hil : i < len := by have := (List.getElem?_eq_some_iff.1 hi).1; simpa using this
  have hy : y = Y i := by simp [hil] at hi; exact hi.symm
  subst hy
  obtain ⟨cs', _, q⟩ := hY i hil
  exact ⟨D i, by simp [hil], q⟩
theorem weightsAll_mem {e : TypeId} {d : DataW H} {n : Nat} (hn : n ∈ d.weights P e) : ∀ {l : List (DataW H)}, d ∈ l → n ∈ DataW.weightsAll P e l
 | x :: r, h => by
  rw [DataW.weightsAll, List.mem_append]
  rcases List.mem_cons.1 h with rfl | h
  ·exact .inl hn
  ·exact .inr (weightsAll_mem hn h)
end
section
variable {H : Type} {enc : TypeId × Value → H} {w : World} {base : Nat} {held : Bool} {sp : Nat → Bool}
theorem str_back (s : ByteArray) : (⟨s.data.toList.toArray⟩ : ByteArray) = s := by simp
def CelD (d : DataW H) (c : Cel) : Prop := d = .agg [.lit (.int .i32 c.r), .lit (.int .i64 c.bits), .lit (.string c.href)]
set_option maxRecDepth 100000 in
theorem open_cel {n : Nat} {cs : List Value} {y : DataW H × List MemPlace} (h : DataW.trod enc Tryz.prog w base sp held n 44 cs = some y) : ∃ c : Cel, rdOf encCel w (fun _ => True) cs c ∧ CelD y.1 c := by
 obtain ⟨xs, m, _, rfl, hl, hxs, hf⟩ := DataW.trod_struct Tryz.underlying44 h
 have h0 := hf 0 _ rfl
 have h1 := hf 1 _ rfl
 have h2 := hf 2 _ rfl
 rw [show Tryz.prog.cellsOf 44 = 3 by kernel_rfl] at hl
 match cs, hl with
 | [a, b, c], _ =>
  match xs, hxs with
  | [x0, x1, x2], _ =>
   obtain ⟨r, e0, rfl, _⟩ := DataW.trod_int Tryz.underlying21 h0
   obtain ⟨bt, e1, rfl, _⟩ := DataW.trod_int Tryz.underlying3 h1
   obtain ⟨s, e2, rfl, _⟩ := DataW.trod_string Tryz.underlying9 h2
   have e0 : [a] = [Value.int .i32 r] := e0
   have e1 : [b] = [Value.int .i64 bt] := e1
   have e2 : [c] = [Value.string s] := e2
   cases e0
   cases e1
   cases e2
   exact ⟨⟨r, bt, s.data.toList⟩, by show _ = encCel _; unfold encCel; rw [str_back], rfl⟩
def LinD (P : Program) (t : TypeId) (d : DataW H) (l : Lin) : Prop := (∀ n ∈ d.weights P t, n ≤ reachBytes) → l.lists.length ≤ 70368744177664 ∧ l.cells.length ≤ 70368744177664 ∧ ∀ c ∈ l.cells, c.href.length ≤ 281474976710656
set_option maxRecDepth 100000 in
theorem open_lin {n : Nat} {cs : List Value} {y : DataW H × List MemPlace} (h : DataW.trod enc Tryz.prog w base (fun _ => true) held n 42 cs = some y) : ∃ l : Lin, rdLin false w (fun _ => True) cs l ∧ LinD Tryz.prog 42 y.1 l := by
 obtain ⟨xs, m, _, rfl, hl, hxs, hf⟩ := DataW.trod_struct Tryz.underlying42 h
 have h0 := hf 0 _ rfl
 have h1 := hf 1 _ rfl
 have h2 := hf 2 _ rfl
 have h3 := hf 3 _ rfl
 rw [show Tryz.prog.cellsOf 42 = 4 by kernel_rfl] at hl
 match cs, hl with
 | [a, b, c, d], _ =>
  match xs, hxs with
  | [x0, x1, x2, x3], _ =>
   obtain ⟨q, e0, rfl, _⟩ := DataW.trod_int Tryz.underlying3 h0
   obtain ⟨k, e2, rfl, _⟩ := DataW.trod_int Tryz.underlying3 h2
   obtain ⟨lv, ls, e1, hls, hlw⟩ := open_row (t0 := 3) (k := 1) (R := rdOf encInt) (fun _ _ => True) Tryz.underlying39 (by kernel_rfl) Nat.one_pos h1 (fun n cs y h => by
    obtain ⟨z, rfl, _, _⟩ := DataW.trod_int Tryz.underlying3 h
    exact ⟨z, rfl, trivial⟩)
   obtain ⟨cv, cc, e3, hcs, hcw⟩ := open_row (t0 := 44) (k := 3) (R := rdOf encCel) CelD Tryz.underlying40 (by kernel_rfl) (by decide) h3 (fun n cs y h => open_cel h)
   have e0 : [a] = [Value.int .i64 q] := e0
   have e1 : [b] = [lv] := e1
   have e2 : [c] = [Value.int .i64 k] := e2
   have e3 : [d] = [cv] := e3
   cases e0
   cases e1
   cases e2
   cases e3
   refine ⟨⟨q, ls, k, cc⟩, ⟨_, _, rfl, hls, hcs⟩, fun hw => ?_⟩
   have hw1 : ∀ n ∈ x1.1.weights Tryz.prog 39, n ≤ reachBytes := fun n hn => hw n (by
    simp only [List.map_cons, List.map_nil, DataW.weights, Tryz.underlying42, DataW.weightsEach, List.mem_append]
    simp [hn])
   have hw3 : ∀ n ∈ x3.1.weights Tryz.prog 40, n ≤ reachBytes := fun n hn => hw n (by
    simp only [List.map_cons, List.map_nil, DataW.weights, Tryz.underlying42, DataW.weightsEach, List.mem_append]
    simp [hn])
   clear hw
   refine ⟨?_, ?_, ?_⟩
   ·rcases hlw with ⟨_, rfl⟩ | ⟨el, spr, hd, hl, _⟩
    ·simp
    ·rw [hd] at hw1
     have := hw1 ((el.length + spr.length) * Tryz.prog.bytesOf 3) (by rw [DataW.weights, Tryz.underlying39]; exact List.mem_cons_self)
     rw [show Tryz.prog.bytesOf 3 = 8 by kernel_rfl] at this
     unfold reachBytes at this
     show ls.length ≤ _
     omega
   ·rcases hcw with ⟨_, rfl⟩ | ⟨el, spr, hd, hl, _⟩
    ·simp
    ·rw [hd] at hw3
     have := hw3 ((el.length + spr.length) * Tryz.prog.bytesOf 44) (by rw [DataW.weights, Tryz.underlying40]; exact List.mem_cons_self)
     rw [show Tryz.prog.bytesOf 44 = 32 by kernel_rfl] at this
     unfold reachBytes at this
     show cc.length ≤ _
     omega
   ·intro c hc
    rcases hcw with ⟨_, rfl⟩ | ⟨el, spr, hd, hl, hel⟩
    ·cases hc
    ·rw [hd] at hw3
     obtain ⟨i, hi⟩ := List.getElem?_of_mem hc
     obtain ⟨dd, g1, g2⟩ := hel i c hi
     have := hw3 c.href.length (by
      rw [DataW.weights, Tryz.underlying40]
      refine List.mem_cons_of_mem _ (List.mem_append_left _ (weightsAll_mem (d := dd) ?_ (List.mem_of_getElem? g1)))
      rw [show dd = _ from g2]
      simp [DataW.weights, Tryz.underlying44, DataW.weightsEach])
     unfold reachBytes at this
     omega
end
end Go.Proofs.Qw
namespace Go.Proofs.YtpndnbjpnajaaaaGreatDoor
open Go.ChangeShapes Go.WideShapes Go.ChangeAt Go.RowKit
open Go.Proofs.Qw
def u8Ren : Shelf.Ren := { f := fun x => x, t := fun n => if n = 5 then 5 else if n = 119 then 193 else if n = 138 then 195 else 196, g := fun n => if n = 3 then 0 else 1 }
theorem u8First : (Rows.laid_unicode_utf8_first : DataW Unit) = Go.Lib.firstData := by kernel_rfl
theorem u8Accept : (Rows.laid_unicode_utf8_acceptRanges : DataW Unit) = Go.Lib.acceptData := by kernel_rfl
theorem tabs_of {W : World} (hL : laidMetH Tryz.prog [("unicode/utf8.acceptRanges", Rows.laid_unicode_utf8_acceptRanges), ("unicode/utf8.first", Rows.laid_unicode_utf8_first)] W) : Lib.Utf8Tabs 0 1 W :=
 utf8Tabs_of_readsT (ρ := u8Ren) ⟨by kernel_rfl, by kernel_rfl, by kernel_rfl, by kernel_rfl⟩ ⟨by kernel_rfl, by kernel_rfl, by kernel_rfl, by kernel_rfl, by kernel_rfl, by kernel_rfl, by kernel_rfl⟩
  (u8First ▸ Lib.laidMet.reads hL (.tail _ (.head _))) (u8Accept ▸ Lib.laidMet.reads hL (.head _))
theorem post_old {H : Type} {enc : TypeId × Value → H} {P : Program} {f : Func} {s : ChangeSpec} {apart fresh handsOn : Bool} {W W' : World} {args : Array Value} {v : Value} {ds gs : List (DataW H)} {before pa pv : List MemPlace}
  (hW : DataW.Whole enc P f.params.toList s.vars apart W args.toList ds gs before)
  (hres : ∀ (b : Nat) (sp : Nat → Bool) (hd : Bool), DataW.TrodAll enc P W' b sp hd f.resultTypes.toList (v.resultList f.resultTypes.size) (s.fn H (ds ++ gs)).results [])
  (hargs : DataW.TrodAll enc P W' 0 (fun b => decide (b < W.heap.size)) true f.params.toList args.toList (s.fn H (ds ++ gs)).args pa)
  (hvars : ∀ sp : Nat → Bool, (∀ p ∈ before, sp p.block = true) → DataW.TrodVars enc P W' sp s.vars (s.fn H (ds ++ gs)).vars pv)
  (hb : Below W.heap.size W W') : s.post enc P f apart fresh handsOn false W args v W' :=
 ⟨ds, gs, before, [], pa, pv, hW, hres _ _ _, hargs, hvars _ (fun p hp => by simpa using hW.lt p hp), hb.frame _, fun h => by cases h⟩
theorem laidOut : laidOutB Tryz.prog = true := by kernel_rfl
end Go.Proofs.YtpndnbjpnajaaaaGreatDoor
namespace Go.Proofs.YtpndnbjpnajaaaaGreatDoor
open Go.ChangeShapes Go.WideShapes Go.ChangeAt Go.RowKit
open Go.Proofs.Qw Go.Deep
section
variable {H : Type} {enc : TypeId × Value → H} {w : World} {base : Nat} {held : Bool} {sp : Nat → Bool}
set_option maxRecDepth 100000 in
theorem open_pos {v : Value} {d : DataW H} {ps : List MemPlace} (hv : ∃ cs, v = .agg cs ∧ cs.size = Tryz.prog.cellsOf 24) (h : DataW.Trod enc Tryz.prog w base sp held 24 v d ps) : ∃ x : Ps, v = posV x := by
 obtain ⟨cs, rfl, hsz⟩ := hv
 obtain ⟨fuel, hf⟩ := h
 obtain ⟨xs, m, _, _, hl, hxs, hff⟩ := DataW.trod_struct Tryz.underlying24 hf
 have h0 := hff 0 _ rfl
 have h1 := hff 1 _ rfl
 rw [show Tryz.prog.cellsOf 24 = 2 by kernel_rfl] at hsz
 obtain ⟨l⟩ := cs
 match l, hsz with
 | [a, b], _ =>
  match xs, hxs with
  | [x0, x1], _ =>
   obtain ⟨q, e0, _, _⟩ := DataW.trod_int Tryz.underlying3 h0
   obtain ⟨r, e1, _, _⟩ := DataW.trod_int Tryz.underlying3 h1
   have e0 : [a] = [Value.int .i64 q] := e0
   have e1 : [b] = [Value.int .i64 r] := e1
   cases e0
   cases e1
   exact ⟨⟨q, r⟩, rfl⟩
end
end Go.Proofs.YtpndnbjpnajaaaaGreatDoor
