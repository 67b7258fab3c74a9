/- The walk of a view's kids: the node's walk as it is said. -/
import Derived.Test.YtjpgffihafknlaaGreatDoorVwPlcB
import Derived.Test.YtjpgffihafknlaaGreatDoorCharsTextB
import Derived.Test.YtjpgffihafknlaaGreatDoorRenAlikeB
import Derived.Deep.Cut
import Derived.Deep.CutRange
import Derived.Test.YtjpgffihafknlaaGreatDoorDocPosB
set_option linter.unusedVariables false
set_option linter.unusedSimpArgs false
namespace Go.Proofs.YtjpgffihafknlaaGreatDoor
open Go.RowKit
open Go.Proofs.Qw
attribute [local go_sem] Oper.semAt_some
def ViewAt (h : Nat) : Prop := ∀ (n : Nod) (na nk pv : Value) (p : Plc) (B : Nat) (a : Aro) (lv : Value) (s : VSt) (w w0 : World) (S S' : Nat → Prop),
  AttsR false w0 S na n.attrs → NodsR false h w0 S nk n.kids → EnvT w0 → Below w0.heap.size w0 w → w0.heap.size ≤ B → VwR B w a lv s → ArW a → OpW s → AvN n → capV s + capM n ≤ 3900000 → PlcR B w0 w S' pv p →
  Calls Tryz.prog 63 #[.pointer (some ⟨B, 0, none⟩), nodV n na nk, pv] w fun e w' => (∃ u, e = .returned u) ∧ VwR B w' a lv (nodeV n a p s) ∧ KeepT B w w'
def KidsAt (h : Nat) : Prop := ∀ (n : Nod) (na nk pv : Value) (p : Plc) (B : Nat) (a : Aro) (lv : Value) (s : VSt) (w w0 : World) (S S' : Nat → Prop),
  AttsR false w0 S na n.attrs → NodsR false h w0 S nk n.kids → EnvT w0 → Below w0.heap.size w0 w → w0.heap.size ≤ B → VwR B w a lv s → ArW a → OpW s → AvK n.kids → capV s + capMs n.kids ≤ 3900000 → PlcR B w0 w S' pv p →
  Calls Tryz.prog 99 #[.pointer (some ⟨B, 0, none⟩), nodV n na nk, pv] w fun e w' => (∃ u, e = .returned u) ∧ VwR B w' a lv (kidsV n.kids 0 a p s) ∧ KeepT B w w'
set_option maxRecDepth 100000 in
set_option maxHeartbeats 4000000 in
theorem kids_none (h : Nat) (ih : ∀ h', h = h' + 1 → ViewAt h') (n : Nod) (na nk : Value) (B : Nat) (a : Aro) (lv : Value) (s : VSt) (w w0 : World) (S S' : Nat → Prop) (hA : AttsR false w0 S na n.attrs) (hK : NodsR false h w0 S nk n.kids) (he : EnvT w0) (h0 : Below w0.heap.size w0 w) (hwB : w0.heap.size ≤ B) (hV : VwR B w a lv s) (ha : ArW a) (ho : OpW s) (hav : AvK n.kids) (hc : capV s + capMs n.kids ≤ 3900000) :
  Calls Tryz.prog 99 #[.pointer (some ⟨B, 0, none⟩), nodV n na nk, .pointer none] w fun e w' => (∃ u, e = .returned u) ∧ VwR B w' a lv (kidsV n.kids 0 a (none) s) ∧ KeepT B w w' := by
 have hBz := hV.lt
 obtain ⟨la, lc, rfl⟩ := hA.slice
 obtain ⟨ka, kc, rfl, hkc, hkm, hx⟩ := nods_shape hK
 obtain ⟨W1, hW1, hB, hz, hB1⟩ := one_node w (.int .i64 n.tag) (.slice la n.attrs.length lc) (.string ⟨n.text.toArray⟩) (.slice ka n.kids.length kc)
 have HX := Lib.hid hx
 have HI := Lib.hid ih
 have HE := Lib.hid he
 have HAV := Lib.hid hav
 have HA := Lib.hid ha
 have HW1 := Lib.hid hW1
 have HZ := Lib.hid hz
 have HB := Lib.hid hB
 have HN1 := Lib.hid hB1
 have HV1 := Lib.hid (hV.below hB)
 have HX1 := Lib.hid (below_from h0 hB)
 have HWB := Lib.hid hwB
 have HC := Lib.hid (And.intro ho hc)
 obtain ⟨p1, f1⟩ := blk hB1
 unfold maxLen at hkm
 clear hA hK hx ih he hav ha hW1 hz hB1 hV h0 hwB ho hc hB
 unfold nodV
 go_enter Tryz.func99, Tryz.ntmps99
 go_wp2_with fail
 rw [HW1.out]
 go_loopw [11] (fun i wr => ∃ (j : Nat) (sj : VSt), j ≤ n.kids.length ∧ i = .int .i64 j ∧ Hid (VwR B wr a lv sj) ∧ Hid (kidsV n.kids 0 a (none) s = kidsV (n.kids.drop j) j a (none) sj) ∧ Hid (OpW sj ∧ capV sj + capMs (n.kids.drop j) ≤ 3900000) ∧ Hid (KeepT B W1 wr)) (fun i _ => n.kids.length - (intOf i).toNat)
 case atStart => exact ⟨0, s, Nat.zero_le _, rfl, HV1, Lib.hid rfl, HC, Lib.hid (KeepT.refl _ _)⟩
 case round =>
  obtain ⟨j, sj, hj, rfl, HVr, HEq, HCr, HKr⟩ := hrel
  clear p1 f1
  have hwr : Below w0.heap.size w0 wr := HX1.out.trans ((HKr.out.below (Nat.lt_of_lt_of_le hBz HB.out.size)).mono HWB.out)
  have hBr := HVr.out.lt
  by_cases hlt : j < n.kids.length
  ·obtain ⟨x, hl, hd⟩ := getOf n.kids j hlt
   obtain ⟨bb, oo, xa, xc, ya, yc, h', rfl, rfl, hAx⟩ := HX.out j x hl
   have HE1 := Lib.hid (HEq.out.trans (kids_one hd a (none) sj))
   have hcx := capMs_drop hd
   have HCx : Hid (OpW (oneV x j a (none) sj) ∧ capV (oneV x j a (none) sj) + capMs (n.kids.drop (j + 1)) ≤ 3900000) := Lib.hid ⟨opw_one x j a _ HCr.out.1, by
    have h1 := HCr.out.2
    have h2 := cap_onev x j a (none) sj
    omega⟩
   have HCy : Hid (capV sj + capM x ≤ 3900000) := Lib.hid (by
    have h1 := HCr.out.2
    omega)
   have HNd : Hid (∀ (W : World) (pv' : Value) (p' : Plc) (t : VSt), Below w0.heap.size w0 W → VwR B W a lv t → OpW t → capV t = capV sj → PlcR B w0 W S' pv' p' → Calls Tryz.prog 63 #[.pointer (some ⟨B, 0, none⟩), .agg #[.int .i64 x.tag, .slice xa x.attrs.length xc, .string ⟨x.text.toArray⟩, .slice ya x.kids.length yc], pv'] W fun e w' => (∃ u, e = .returned u) ∧ VwR B w' a lv (nodeV x a p' t) ∧ KeepT B W w') :=
    Lib.hid fun W pv' p' t hW hVt hOt hct hPt => HI.out h' rfl x _ _ pv' p' B a lv t W w0 S S' hAx.attrsR hAx.kidsR HE.out hW HWB.out hVt HA.out hOt (av_mem HAV.out (List.mem_of_getElem? hl)) (by rw [hct]; exact HCy.out) hPt
   obtain ⟨hzx, c0, c1, c2, c3, _, _⟩ := hAx.below hwr
   obtain ⟨qn, gn⟩ := blk (HKr.out.heap HN1.out (Nat.ne_of_gt hBz) (by decide) (by decide))
   have i0' : (0 : Int) ≤ (j : Int) := Int.natCast_nonneg _
   have i1' : (j : Int) < (n.kids.length : Int) := by omega
   obtain ⟨W2, hW2⟩ : ∃ W, wr.alloc (.cells #[.int .i64 x.tag, .slice xa x.attrs.length xc, .string ⟨x.text.toArray⟩, .slice ya x.kids.length yc] 25) = W := ⟨_, rfl⟩
   have hb2 : Below wr.heap.size wr W2 := hW2 ▸ (Below.refl _ _).alloc (Nat.le_refl _) _
   have hn2 : W2.heap[wr.heap.size]? = some (.cells #[.int .i64 x.tag, .slice xa x.attrs.length xc, .string ⟨x.text.toArray⟩, .slice ya x.kids.length yc] 25) := hW2 ▸ heap_new _ _ rfl
   have HW2 := Lib.hid hW2
   have HX2 := Lib.hid (below_from hwr hb2)
   have HV2 := Lib.hid (HVr.out.below hb2)
   have HK2 := Lib.hid (HKr.out.trans (KeepT.of hb2))
   have HN2 := Lib.hid hn2
   obtain ⟨q2, g2⟩ := blk hn2
   clear hAx hl hd hcx hW2 hn2 hb2
   go_wp2_with (go_at_call 63; rw [HW2.out]; refine (HNd.out _ _ none _ HX2.out HV2.out HCr.out.1 rfl (PlcR.none _ _ _ _)).mono ?_; rintro e w5 ⟨⟨u, rfl⟩, hv5, hk5⟩)
   go_roundw
   case rel => exact ⟨j + 1, _, hlt, by go_num, Lib.hid hv5, HE1, HCx, Lib.hid (HK2.out.trans hk5)⟩
   case measure => simp [intOf]; omega
  ·obtain rfl : j = n.kids.length := by omega
   have HEnd := Lib.hid (HEq.out.trans (kids_end n.kids a (none) sj))
   go_wp2_with fail
   go_returns
   rw [HEnd.out]
   exact ⟨⟨_, rfl⟩, HVr.out, (KeepT.of HB.out).trans HKr.out⟩
set_option maxRecDepth 100000 in
set_option maxHeartbeats 4000000 in
theorem kids_nil (h : Nat) (ih : ∀ h', h = h' + 1 → ViewAt h') (pk : Int) (b : Nat) (pa : Option Addr) (pc : Nat) (n : Nod) (na nk : Value) (B : Nat) (a : Aro) (lv : Value) (s : VSt) (w w0 : World) (S S' : Nat → Prop) (hA : AttsR false w0 S na n.attrs) (hK : NodsR false h w0 S nk n.kids) (he : EnvT w0) (h0 : Below w0.heap.size w0 w) (hwB : w0.heap.size ≤ B) (hV : VwR B w a lv s) (ha : ArW a) (ho : OpW s) (hav : AvK n.kids) (hc : capV s + capMs n.kids ≤ 3900000) (hb : b ≠ B) (hP : w.heap[b]? = some (.cells #[.slice pa 0 pc, .int .i64 pk] 44)) :
  Calls Tryz.prog 99 #[.pointer (some ⟨B, 0, none⟩), nodV n na nk, .pointer (some ⟨b, 0, none⟩)] w fun e w' => (∃ u, e = .returned u) ∧ VwR B w' a lv (kidsV n.kids 0 a (some ([], pk)) s) ∧ KeepT B w w' := by
 have hBz := hV.lt
 obtain ⟨la, lc, rfl⟩ := hA.slice
 obtain ⟨ka, kc, rfl, hkc, hkm, hx⟩ := nods_shape hK
 obtain ⟨W1, hW1, hB, hz, hB1⟩ := one_node w (.int .i64 n.tag) (.slice la n.attrs.length lc) (.string ⟨n.text.toArray⟩) (.slice ka n.kids.length kc)
 have HX := Lib.hid hx
 have HI := Lib.hid ih
 have HE := Lib.hid he
 have HAV := Lib.hid hav
 have HA := Lib.hid ha
 have HW1 := Lib.hid hW1
 have HZ := Lib.hid hz
 have HB := Lib.hid hB
 have HN1 := Lib.hid hB1
 have HV1 := Lib.hid (hV.below hB)
 have HX1 := Lib.hid (below_from h0 hB)
 have HWB := Lib.hid hwB
 have HC := Lib.hid (And.intro ho hc)
 have HP : Hid (∀ W, KeepT B w W → W.heap[b]? = some (.cells #[.slice pa 0 pc, .int .i64 pk] 44)) := Lib.hid fun W hW => hW.heap hP hb (by decide) (by decide)
 have HPZ := Lib.hid (And.intro hb (lt_of_heap hP))
 obtain ⟨p1, f1⟩ := blk hB1
 unfold maxLen at hkm
 clear hA hK hx ih he hav ha hW1 hz hB1 hV h0 hwB ho hc hB hP hb
 unfold nodV
 go_enter Tryz.func99, Tryz.ntmps99
 go_wp2_with fail
 rw [HW1.out]
 go_loopw [11] (fun i wr => ∃ (j : Nat) (sj : VSt), j ≤ n.kids.length ∧ i = .int .i64 j ∧ Hid (VwR B wr a lv sj) ∧ Hid (kidsV n.kids 0 a (some ([], pk)) s = kidsV (n.kids.drop j) j a (some ([], pk)) sj) ∧ Hid (OpW sj ∧ capV sj + capMs (n.kids.drop j) ≤ 3900000) ∧ Hid (KeepT B W1 wr)) (fun i _ => n.kids.length - (intOf i).toNat)
 case atStart => exact ⟨0, s, Nat.zero_le _, rfl, HV1, Lib.hid rfl, HC, Lib.hid (KeepT.refl _ _)⟩
 case round =>
  obtain ⟨j, sj, hj, rfl, HVr, HEq, HCr, HKr⟩ := hrel
  clear p1 f1
  have hwr : Below w0.heap.size w0 wr := HX1.out.trans ((HKr.out.below (Nat.lt_of_lt_of_le hBz HB.out.size)).mono HWB.out)
  have hBr := HVr.out.lt
  by_cases hlt : j < n.kids.length
  ·obtain ⟨x, hl, hd⟩ := getOf n.kids j hlt
   obtain ⟨bb, oo, xa, xc, ya, yc, h', rfl, rfl, hAx⟩ := HX.out j x hl
   have HE1 := Lib.hid (HEq.out.trans (kids_one hd a (some ([], pk)) sj))
   have hcx := capMs_drop hd
   have HCx : Hid (OpW (oneV x j a (some ([], pk)) sj) ∧ capV (oneV x j a (some ([], pk)) sj) + capMs (n.kids.drop (j + 1)) ≤ 3900000) := Lib.hid ⟨opw_one x j a _ HCr.out.1, by
    have h1 := HCr.out.2
    have h2 := cap_onev x j a (some ([], pk)) sj
    omega⟩
   have HCy : Hid (capV sj + capM x ≤ 3900000) := Lib.hid (by
    have h1 := HCr.out.2
    omega)
   have HNd : Hid (∀ (W : World) (pv' : Value) (p' : Plc) (t : VSt), Below w0.heap.size w0 W → VwR B W a lv t → OpW t → capV t = capV sj → PlcR B w0 W S' pv' p' → Calls Tryz.prog 63 #[.pointer (some ⟨B, 0, none⟩), .agg #[.int .i64 x.tag, .slice xa x.attrs.length xc, .string ⟨x.text.toArray⟩, .slice ya x.kids.length yc], pv'] W fun e w' => (∃ u, e = .returned u) ∧ VwR B w' a lv (nodeV x a p' t) ∧ KeepT B W w') :=
    Lib.hid fun W pv' p' t hW hVt hOt hct hPt => HI.out h' rfl x _ _ pv' p' B a lv t W w0 S S' hAx.attrsR hAx.kidsR HE.out hW HWB.out hVt HA.out hOt (av_mem HAV.out (List.mem_of_getElem? hl)) (by rw [hct]; exact HCy.out) hPt
   obtain ⟨hzx, c0, c1, c2, c3, _, _⟩ := hAx.below hwr
   obtain ⟨qn, gn⟩ := blk (HKr.out.heap HN1.out (Nat.ne_of_gt hBz) (by decide) (by decide))
   have i0' : (0 : Int) ≤ (j : Int) := Int.natCast_nonneg _
   have i1' : (j : Int) < (n.kids.length : Int) := by omega
   obtain ⟨W2, hW2⟩ : ∃ W, wr.alloc (.cells #[.int .i64 x.tag, .slice xa x.attrs.length xc, .string ⟨x.text.toArray⟩, .slice ya x.kids.length yc] 25) = W := ⟨_, rfl⟩
   have hb2 : Below wr.heap.size wr W2 := hW2 ▸ (Below.refl _ _).alloc (Nat.le_refl _) _
   have hn2 : W2.heap[wr.heap.size]? = some (.cells #[.int .i64 x.tag, .slice xa x.attrs.length xc, .string ⟨x.text.toArray⟩, .slice ya x.kids.length yc] 25) := hW2 ▸ heap_new _ _ rfl
   have HW2 := Lib.hid hW2
   have HX2 := Lib.hid (below_from hwr hb2)
   have HV2 := Lib.hid (HVr.out.below hb2)
   have HK2 := Lib.hid (HKr.out.trans (KeepT.of hb2))
   have HN2 := Lib.hid hn2
   obtain ⟨q2, g2⟩ := blk hn2
   have hp2 := HP.out W2 ((KeepT.of HB.out).trans HK2.out)
   have HP2 := Lib.hid hp2
   obtain ⟨q3, g3⟩ := blk hp2
   rw [← HW2.out] at q3 g3
   clear hp2
   clear hAx hl hd hcx hW2 hn2 hb2
   by_cases hjk : pk = (j : Int)
   ·subst hjk
    have HMet := Lib.hid (met_any B a lv _ W2 HV2.out HCr.out.1 (by have := HCr.out.2; unfold capV at this; omega))
    have e1 : oneV x j a (some ([], (j : Int))) sj = nodeV x a none (metV sj) := by unfold oneV; simp
    rw [e1] at HE1 HCx
    go_wp2_with (first
     | (go_at_call 93; rw [HW2.out]; refine HMet.out.mono ?_; rintro e w4 ⟨⟨u, rfl⟩, hv4, hk4⟩; have hx4 : Below w0.heap.size w0 w4 := HX2.out.trans ((hk4.below (Nat.lt_of_lt_of_le hBr (by have := HV2.out.lt; have := (lt_of_heap HN2.out); omega))).mono HWB.out); obtain ⟨q4, g4⟩ := blk (hk4.heap HN2.out (Nat.ne_of_gt hBr) (by decide) (by decide)))
     | (go_at_call 63; refine (HNd.out _ _ none _ hx4 hv4 (opw_met HCr.out.1) (cap_met _) (PlcR.none _ _ _ _)).mono ?_; rintro e w5 ⟨⟨u, rfl⟩, hv5, hk5⟩))
    go_roundw
    case rel => exact ⟨j + 1, _, hlt, by go_num, Lib.hid hv5, HE1, HCx, Lib.hid ((HK2.out.trans hk4).trans hk5)⟩
    case measure => simp [intOf]; omega
   ·have e1 : oneV x j a (some ([], pk)) sj = nodeV x a none sj := by unfold oneV; simp only; rw [if_neg hjk]
    rw [e1] at HE1 HCx
    have hjk2 : ((j : Int) == pk) = false := beq_eq_false_iff_ne.2 (fun e => hjk e.symm)
    clear hjk
    go_wp2_with (go_at_call 63; rw [HW2.out]; refine (HNd.out _ _ none _ HX2.out HV2.out HCr.out.1 rfl (PlcR.none _ _ _ _)).mono ?_; rintro e w5 ⟨⟨u, rfl⟩, hv5, hk5⟩)
    go_roundw
    case rel => exact ⟨j + 1, _, hlt, by go_num, Lib.hid hv5, HE1, HCx, Lib.hid (HK2.out.trans hk5)⟩
    case measure => simp [intOf]; omega
  ·obtain rfl : j = n.kids.length := by omega
   have HEnd := Lib.hid (HEq.out.trans (kids_end n.kids a (some ([], pk)) sj))
   obtain ⟨q3, g3⟩ := blk (HP.out wr ((KeepT.of HB.out).trans HKr.out))
   have HMet := Lib.hid (met_any B a lv _ wr HVr.out HCr.out.1 (by have := HCr.out.2; unfold capV at this; omega))
   go_wp2_with (go_at_call 93; refine HMet.out.mono ?_; rintro e w4 ⟨⟨u, rfl⟩, hv4, hk4⟩)
   go_returns
   rw [HEnd.out]
   exact ⟨⟨_, rfl⟩, hv4, ((KeepT.of HB.out).trans HKr.out).trans hk4⟩
set_option maxRecDepth 100000 in
set_option maxHeartbeats 4000000 in
theorem kids_cons (h : Nat) (ih : ∀ h', h = h' + 1 → ViewAt h') (i0 : Int) (r : List Int) (pk : Int) (b : Nat) (pb po pc : Nat) (n : Nod) (na nk : Value) (B : Nat) (a : Aro) (lv : Value) (s : VSt) (w w0 : World) (S S' : Nat → Prop) (hA : AttsR false w0 S na n.attrs) (hK : NodsR false h w0 S nk n.kids) (he : EnvT w0) (h0 : Below w0.heap.size w0 w) (hwB : w0.heap.size ≤ B) (hV : VwR B w a lv s) (ha : ArW a) (ho : OpW s) (hav : AvK n.kids) (hc : capV s + capMs n.kids ≤ 3900000) (hb : b ≠ B) (hP : w.heap[b]? = some (.cells #[.slice (some ⟨pb, po, none⟩) (r.length + 1) pc, .int .i64 pk] 44)) (hpr : IntsR false w0 S' (.slice (some ⟨pb, po, none⟩) (r.length + 1) pc) (i0 :: r)) :
  Calls Tryz.prog 99 #[.pointer (some ⟨B, 0, none⟩), nodV n na nk, .pointer (some ⟨b, 0, none⟩)] w fun e w' => (∃ u, e = .returned u) ∧ VwR B w' a lv (kidsV n.kids 0 a (some (i0 :: r, pk)) s) ∧ KeepT B w w' := by
 have hBz := hV.lt
 obtain ⟨la, lc, rfl⟩ := hA.slice
 obtain ⟨ka, kc, rfl, hkc, hkm, hx⟩ := nods_shape hK
 obtain ⟨W1, hW1, hB, hz, hB1⟩ := one_node w (.int .i64 n.tag) (.slice la n.attrs.length lc) (.string ⟨n.text.toArray⟩) (.slice ka n.kids.length kc)
 have HX := Lib.hid hx
 have HI := Lib.hid ih
 have HE := Lib.hid he
 have HAV := Lib.hid hav
 have HA := Lib.hid ha
 have HW1 := Lib.hid hW1
 have HZ := Lib.hid hz
 have HB := Lib.hid hB
 have HN1 := Lib.hid hB1
 have HV1 := Lib.hid (hV.below hB)
 have HX1 := Lib.hid (below_from h0 hB)
 have HWB := Lib.hid hwB
 have HC := Lib.hid (And.intro ho hc)
 have HP : Hid (∀ W, KeepT B w W → W.heap[b]? = some (.cells #[.slice (some ⟨pb, po, none⟩) (r.length + 1) pc, .int .i64 pk] 44)) := Lib.hid fun W hW => hW.heap hP hb (by decide) (by decide)
 have HPZ := Lib.hid (And.intro hb (lt_of_heap hP))
 have HPR := Lib.hid hpr
 obtain ⟨hpl1, hpl2⟩ : r.length + 1 ≤ pc ∧ pc ≤ maxLen := ⟨(SliceR.len hpr).2.1, (SliceR.len hpr).2.2⟩
 have HFst : Hid (∀ W, Below w0.heap.size w0 W → W.cell? ⟨pb, po, none⟩ = some (.int .i64 i0)) := Lib.hid fun W hW => by
  obtain ⟨a2, c2, e2, _, _, hx2⟩ := ints_shape hpr
  cases e2
  obtain ⟨b2, o2, e3, hz2, hc2⟩ := hx2 0 i0 rfl
  cases e3
  exact (hW.cell hz2).trans hc2
 obtain ⟨p1, f1⟩ := blk hB1
 unfold maxLen at hkm hpl2
 clear hA hK hx ih he hav ha hW1 hz hB1 hV h0 hwB ho hc hB hP hb hpr
 unfold nodV
 go_enter Tryz.func99, Tryz.ntmps99
 go_wp2_with fail
 rw [HW1.out]
 go_loopw [11] (fun i wr => ∃ (j : Nat) (sj : VSt), j ≤ n.kids.length ∧ i = .int .i64 j ∧ Hid (VwR B wr a lv sj) ∧ Hid (kidsV n.kids 0 a (some (i0 :: r, pk)) s = kidsV (n.kids.drop j) j a (some (i0 :: r, pk)) sj) ∧ Hid (OpW sj ∧ capV sj + capMs (n.kids.drop j) ≤ 3900000) ∧ Hid (KeepT B W1 wr)) (fun i _ => n.kids.length - (intOf i).toNat)
 case atStart => exact ⟨0, s, Nat.zero_le _, rfl, HV1, Lib.hid rfl, HC, Lib.hid (KeepT.refl _ _)⟩
 case round =>
  obtain ⟨j, sj, hj, rfl, HVr, HEq, HCr, HKr⟩ := hrel
  clear p1 f1
  have hwr : Below w0.heap.size w0 wr := HX1.out.trans ((HKr.out.below (Nat.lt_of_lt_of_le hBz HB.out.size)).mono HWB.out)
  have hBr := HVr.out.lt
  by_cases hlt : j < n.kids.length
  ·obtain ⟨x, hl, hd⟩ := getOf n.kids j hlt
   obtain ⟨bb, oo, xa, xc, ya, yc, h', rfl, rfl, hAx⟩ := HX.out j x hl
   have HE1 := Lib.hid (HEq.out.trans (kids_one hd a (some (i0 :: r, pk)) sj))
   have hcx := capMs_drop hd
   have HCx : Hid (OpW (oneV x j a (some (i0 :: r, pk)) sj) ∧ capV (oneV x j a (some (i0 :: r, pk)) sj) + capMs (n.kids.drop (j + 1)) ≤ 3900000) := Lib.hid ⟨opw_one x j a _ HCr.out.1, by
    have h1 := HCr.out.2
    have h2 := cap_onev x j a (some (i0 :: r, pk)) sj
    omega⟩
   have HCy : Hid (capV sj + capM x ≤ 3900000) := Lib.hid (by
    have h1 := HCr.out.2
    omega)
   have HNd : Hid (∀ (W : World) (pv' : Value) (p' : Plc) (t : VSt), Below w0.heap.size w0 W → VwR B W a lv t → OpW t → capV t = capV sj → PlcR B w0 W S' pv' p' → Calls Tryz.prog 63 #[.pointer (some ⟨B, 0, none⟩), .agg #[.int .i64 x.tag, .slice xa x.attrs.length xc, .string ⟨x.text.toArray⟩, .slice ya x.kids.length yc], pv'] W fun e w' => (∃ u, e = .returned u) ∧ VwR B w' a lv (nodeV x a p' t) ∧ KeepT B W w') :=
    Lib.hid fun W pv' p' t hW hVt hOt hct hPt => HI.out h' rfl x _ _ pv' p' B a lv t W w0 S S' hAx.attrsR hAx.kidsR HE.out hW HWB.out hVt HA.out hOt (av_mem HAV.out (List.mem_of_getElem? hl)) (by rw [hct]; exact HCy.out) hPt
   obtain ⟨hzx, c0, c1, c2, c3, _, _⟩ := hAx.below hwr
   obtain ⟨qn, gn⟩ := blk (HKr.out.heap HN1.out (Nat.ne_of_gt hBz) (by decide) (by decide))
   have i0' : (0 : Int) ≤ (j : Int) := Int.natCast_nonneg _
   have i1' : (j : Int) < (n.kids.length : Int) := by omega
   obtain ⟨W2, hW2⟩ : ∃ W, wr.alloc (.cells #[.int .i64 x.tag, .slice xa x.attrs.length xc, .string ⟨x.text.toArray⟩, .slice ya x.kids.length yc] 25) = W := ⟨_, rfl⟩
   have hb2 : Below wr.heap.size wr W2 := hW2 ▸ (Below.refl _ _).alloc (Nat.le_refl _) _
   have hn2 : W2.heap[wr.heap.size]? = some (.cells #[.int .i64 x.tag, .slice xa x.attrs.length xc, .string ⟨x.text.toArray⟩, .slice ya x.kids.length yc] 25) := hW2 ▸ heap_new _ _ rfl
   have HW2 := Lib.hid hW2
   have HX2 := Lib.hid (below_from hwr hb2)
   have HV2 := Lib.hid (HVr.out.below hb2)
   have HK2 := Lib.hid (HKr.out.trans (KeepT.of hb2))
   have HN2 := Lib.hid hn2
   obtain ⟨q2, g2⟩ := blk hn2
   have hp2 := HP.out W2 ((KeepT.of HB.out).trans HK2.out)
   have HP2 := Lib.hid hp2
   obtain ⟨q3, g3⟩ := blk hp2
   rw [← HW2.out] at q3 g3
   clear hp2
   have hfst := HFst.out W2 HX2.out
   rw [← HW2.out] at hfst
   have j0 : (0 : Int) < ((r.length : Nat) : Int) + 1 := by omega
   clear hAx hl hd hcx hW2 hn2 hb2
   by_cases hjk : i0 = (j : Int)
   ·have e1 : oneV x j a (some (i0 :: r, pk)) sj = nodeV x a (some (r, pk)) sj := by unfold oneV; simp only; rw [if_pos hjk]
    rw [e1] at HE1 HCx
    have hjk2 : (i0 == (j : Int)) = true := by simpa using hjk
    clear hjk
    go_upto_region 12 with fail
    rw [HW2.out]
    have HAf : Hid (∀ X : World, KeepT B W2 X → X.cell? ⟨wr.heap.size, 0, none⟩ = some (.int .i64 x.tag) ∧ X.cell? ⟨wr.heap.size, 1, none⟩ = some (.slice xa x.attrs.length xc) ∧ X.cell? ⟨wr.heap.size, 2, none⟩ = some (.string ⟨x.text.toArray⟩) ∧ X.cell? ⟨wr.heap.size, 3, none⟩ = some (.slice ya x.kids.length yc) ∧ X.cell? ⟨b, 0, none⟩ = some (.slice (some ⟨pb, po, none⟩) (r.length + 1) pc) ∧ X.cell? ⟨b, 1, none⟩ = some (.int .i64 pk)) := Lib.hid fun X hX => by
     have h1 := hX.heap HN2.out (Nat.ne_of_gt hBr) (by decide) (by decide)
     have h2 := hX.heap HP2.out HPZ.out.1 (by decide) (by decide)
     exact ⟨by rw [(blk h1).1 0]; rfl, by rw [(blk h1).1 1]; rfl, by rw [(blk h1).1 2]; rfl, by rw [(blk h1).1 3]; rfl, by rw [(blk h2).1 0]; rfl, by rw [(blk h2).1 1]; rfl⟩
    have hk3 : KeepT B W2 W2.drew := KeepT.of ((Below.refl _ _).drew)
    clear q2 g2 q3 g3 hfst qn gn c0 c1 c2 c3
    have s1 : (1 : Int) ≤ (r.length : Int) + 1 := by omega
    obtain ⟨sa, hsa⟩ : ∃ sa, (if pc = 1 then some (Addr.mk pb po none) else some (Addr.mk pb (po + 1) none)) = sa := ⟨_, rfl⟩
    have HSub : Hid (IntsR false w0 S' (.slice sa r.length (pc - 1)) r) := Lib.hid (by
     have h1 := SliceR.part HPR.out (i := 1) (j := r.length + 1) (m := pc) (by omega) (by simp) hpl1 (Nat.le_refl _)
     rw [← hsa]
     simpa [sliced, Addr.add] using h1)
    refine wp_region_T (fun X => X.cell? ⟨wr.heap.size, 0, none⟩ = some (.int .i64 x.tag) ∧ X.cell? ⟨wr.heap.size, 1, none⟩ = some (.slice xa x.attrs.length xc) ∧ X.cell? ⟨wr.heap.size, 2, none⟩ = some (.string ⟨x.text.toArray⟩) ∧ X.cell? ⟨wr.heap.size, 3, none⟩ = some (.slice ya x.kids.length yc) ∧ X.cell? ⟨b, 0, none⟩ = some (.slice (some ⟨pb, po, none⟩) (r.length + 1) pc) ∧ X.cell? ⟨b, 1, none⟩ = some (.int .i64 pk)) (fun _ => True) 13 (by kernel_rfl) ?_
    refine anyT_takeA (i := 0) (v := ?_) (by simp only [qA, qS, qZ]; rfl) (by kernel_rfl) (by kernel_rfl) (by kernel_rfl) (by kernel_rfl) (fun _ _ _ h => h) (Or.inl ⟨by rfl, ?_⟩) (HAf.out _ hk3) (Or.inr trivial) ?_
    rotate_left 1
    ·intro w hSw; (try dsimp only at hSw); go_simp; (first | done | with_reducible rfl)
    try simp only [Act.put, qI, qX, qY]
    refine anyT_takeA (i := 1) (v := ?_) (by simp only [qA, qS, qZ]; rfl) (by kernel_rfl) (by kernel_rfl) (by kernel_rfl) (by kernel_rfl) (fun _ _ _ h => h) (Or.inl ⟨by rfl, ?_⟩) (HAf.out _ hk3) (Or.inr trivial) ?_
    rotate_left 1
    ·intro w hSw; (try dsimp only at hSw); go_simp; (first | done | with_reducible rfl)
    try simp only [Act.put, qI, qX, qY]
    refine anyT_takeA (i := 2) (v := ?_) (by simp only [qA, qS, qZ]; rfl) (by kernel_rfl) (by kernel_rfl) (by kernel_rfl) (by kernel_rfl) (fun _ _ _ h => h) (Or.inl ⟨by rfl, ?_⟩) (HAf.out _ hk3) (Or.inr trivial) ?_
    rotate_left 1
    ·intro w hSw; (try dsimp only at hSw); go_simp; (first | done | with_reducible rfl)
    try simp only [Act.put, qI, qX, qY]
    refine anyT_takeA (i := 3) (v := ?_) (by simp only [qA, qS, qZ]; rfl) (by kernel_rfl) (by kernel_rfl) (by kernel_rfl) (by kernel_rfl) (fun _ _ _ h => h) (Or.inl ⟨by rfl, ?_⟩) (HAf.out _ hk3) (Or.inr trivial) ?_
    rotate_left 1
    ·intro w hSw; (try dsimp only at hSw); go_simp; (first | done | with_reducible rfl)
    try simp only [Act.put, qI, qX, qY]
    refine anyT_takeA (i := 4) (v := ?_) (by simp only [qA, qS, qZ]; rfl) (by kernel_rfl) (by kernel_rfl) (by kernel_rfl) (by kernel_rfl) (fun _ _ _ h => h) (Or.inl ⟨by rfl, ?_⟩) (HAf.out _ hk3) (Or.inr trivial) ?_
    rotate_left 1
    ·intro w hSw; (try dsimp only at hSw); go_simp; (first | done | with_reducible rfl)
    try simp only [Act.put, qI, qX, qY]
    refine anyT_takeA (i := 5) (v := ?_) (by simp only [qA, qS, qZ]; rfl) (by kernel_rfl) (by kernel_rfl) (by kernel_rfl) (by kernel_rfl) (fun _ _ _ h => h) (Or.inl ⟨by rfl, ?_⟩) (HAf.out _ hk3) (Or.inr trivial) ?_
    rotate_left 1
    ·intro w hSw; (try dsimp only at hSw); go_simp; (first | done | with_reducible rfl)
    try simp only [Act.put, qI, qX, qY]
    refine anyT_takeA (i := 6) (v := ?_) (by simp only [qA, qS, qZ]; rfl) (by kernel_rfl) (by kernel_rfl) (by kernel_rfl) (by kernel_rfl) (fun _ _ _ h => h) (Or.inl ⟨by rfl, ?_⟩) (HAf.out _ hk3) (Or.inr trivial) ?_
    rotate_left 1
    ·intro w hSw; (try dsimp only at hSw); go_simp; (first | done | with_reducible rfl)
    try simp only [Act.put, qI, qX, qY]
    refine anyT_takeA (i := 7) (v := ?_) (by simp only [qA, qS, qZ]; rfl) (by kernel_rfl) (by kernel_rfl) (by kernel_rfl) (by kernel_rfl) (fun _ _ _ h => h) (Or.inl ⟨by rfl, ?_⟩) (HAf.out _ hk3) (Or.inr trivial) ?_
    rotate_left 1
    ·intro w hSw; (try dsimp only at hSw); go_simp; (first | done | with_reducible rfl)
    try simp only [Act.put, qI, qX, qY]
    refine anyT_takeA (i := 8) (v := ?_) (by simp only [qA, qS, qZ]; rfl) (by kernel_rfl) (by kernel_rfl) (by kernel_rfl) (by kernel_rfl) (fun _ _ _ h => h) (Or.inl ⟨by rfl, ?_⟩) (HAf.out _ hk3) (Or.inr trivial) ?_
    rotate_left 1
    ·intro w hSw; (try dsimp only at hSw); go_simp; (first | done | with_reducible rfl)
    try simp only [Act.put, qI, qX, qY]
    refine anyT_takeA (i := 9) (v := ?_) (by simp only [qA, qS, qZ]; rfl) (by kernel_rfl) (by kernel_rfl) (by kernel_rfl) (by kernel_rfl) (fun _ _ _ h => h) (Or.inl ⟨by rfl, ?_⟩) (HAf.out _ hk3) (Or.inr trivial) ?_
    rotate_left 1
    ·intro w hSw; (try dsimp only at hSw); go_simp; (first | done | with_reducible rfl)
    try simp only [Act.put, qI, qX, qY]
    refine anyT_takeA (i := 10) (v := ?_) (by simp only [qA, qS, qZ]; rfl) (by kernel_rfl) (by kernel_rfl) (by kernel_rfl) (by kernel_rfl) (fun _ _ _ h => h) (Or.inl ⟨by rfl, ?_⟩) (HAf.out _ hk3) (Or.inr trivial) ?_
    rotate_left 1
    ·intro w hSw; (try dsimp only at hSw); go_simp; (first | done | with_reducible rfl)
    try simp only [Act.put, qI, qX, qY]
    refine anyT_takeA (i := 11) (v := ?_) (by simp only [qA, qS, qZ]; rfl) (by kernel_rfl) (by kernel_rfl) (by kernel_rfl) (by kernel_rfl) (fun _ _ _ h => h) (Or.inl ⟨by rfl, ?_⟩) (HAf.out _ hk3) (Or.inr trivial) ?_
    rotate_left 1
    ·intro w hSw; (try dsimp only at hSw); go_simp; (first | done | with_reducible rfl)
    try simp only [Act.put, qI, qX, qY]
    refine anyT_ready (rs := [12]) (by kernel_rfl) (by simp) ?_
    refine AllReadyT.cons (by simp only [qA, qS, qZ]; rfl) (fun K hK => ?_) AllReadyT.nil
    go_simp
    obtain ⟨X1, hX1⟩ : ∃ X, (W2.alloc (.cells #[.slice sa r.length (pc - 1), .int .i64 pk] 44)).drew = X := ⟨_, rfl⟩
    have hb31 : Below W2.heap.size W2 X1 := hX1 ▸ ((Below.refl _ _).alloc (Nat.le_refl _) _).drew
    have hP31 : X1.heap[W2.heap.size]? = some (.cells #[.slice sa r.length (pc - 1), .int .i64 pk] 44) := hX1 ▸ heap_new W2 _ rfl
    rw [hX1]
    have hk31 : KeepT B W2 X1 := KeepT.of hb31
    have hx31 : Below w0.heap.size w0 X1 := below_from HX2.out hb31
    have hne31 : W2.heap.size ≠ B := Nat.ne_of_gt HV2.out.lt
    refine hK.out _ _ (HAf.out _ hk31) (Or.inr trivial) ?_
    clear hK K
    try simp only [Act.put, qI, qX, qY]
    refine anyT_ready (rs := [13]) (by kernel_rfl) (by simp) ?_
    refine AllReadyT.cons (by simp only [qA, qS, qZ]; rfl) (fun K hK => ?_) AllReadyT.nil
    go_simp
    refine (HNd.out X1 _ (some (r, pk)) sj hx31 (HV2.out.below hb31) HCr.out.1 rfl (.inr ⟨r, pk, W2.heap.size, _, rfl, rfl, hne31, hP31, HSub.out⟩)).mono ?_
    rintro e w5 ⟨⟨u, rfl⟩, hv5, hk5⟩
    refine hK.out _ _ (HAf.out _ (hk31.trans hk5)) (Or.inr trivial) ?_
    clear hK K
    refine anyT_done (by kernel_rfl) ?_ _
    refine NoPanic.normal ?_
    go_wp2_with fail
    go_roundw
    case rel => exact ⟨j + 1, _, hlt, by go_num, Lib.hid hv5, HE1, HCx, Lib.hid ((HK2.out.trans hk31).trans hk5)⟩
    case measure => simp [intOf]; omega
   ·have e1 : oneV x j a (some (i0 :: r, pk)) sj = nodeV x a none sj := by unfold oneV; simp only; rw [if_neg hjk]
    rw [e1] at HE1 HCx
    have hjk2 : (i0 == (j : Int)) = false := beq_eq_false_iff_ne.2 hjk
    clear hjk
    go_wp2_with (go_at_call 63; rw [HW2.out]; refine (HNd.out _ _ none _ HX2.out HV2.out HCr.out.1 rfl (PlcR.none _ _ _ _)).mono ?_; rintro e w5 ⟨⟨u, rfl⟩, hv5, hk5⟩)
    go_roundw
    case rel => exact ⟨j + 1, _, hlt, by go_num, Lib.hid hv5, HE1, HCx, Lib.hid (HK2.out.trans hk5)⟩
    case measure => simp [intOf]; omega
  ·obtain rfl : j = n.kids.length := by omega
   have HEnd := Lib.hid (HEq.out.trans (kids_end n.kids a (some (i0 :: r, pk)) sj))
   obtain ⟨q3, g3⟩ := blk (HP.out wr ((KeepT.of HB.out).trans HKr.out))
   go_wp2_with fail
   go_returns
   rw [HEnd.out]
   exact ⟨⟨_, rfl⟩, HVr.out, (KeepT.of HB.out).trans HKr.out⟩
theorem kids_step (h : Nat) (ih : ∀ h', h = h' + 1 → ViewAt h') : KidsAt h := by
 intro n na nk pv p B a lv s w w0 S S' hA hK he h0 hwB hV ha ho hav hc hp
 rcases hp with ⟨rfl, rfl⟩ | ⟨path, k, b, v, rfl, rfl, h3, h4, h5⟩
 ·exact kids_none h ih n na nk B a lv s w w0 S S' hA hK he h0 hwB hV ha ho hav hc
 ·cases path with
  | nil =>
   obtain ⟨pa, pc, rfl⟩ := h5.slice
   exact kids_nil h ih k b pa pc n na nk B a lv s w w0 S S' hA hK he h0 hwB hV ha ho hav hc h3 h4
  | cons i0 r =>
   obtain ⟨pa, pc, rfl⟩ := h5.slice
   obtain ⟨a2, c2, e2, _, _, hx2⟩ := ints_shape h5
   cases e2
   obtain ⟨pb, po, rfl, _⟩ := hx2 0 i0 rfl
   exact kids_cons h ih i0 r k b pb po pc n na nk B a lv s w w0 S S' hA hK he h0 hwB hV ha ho hav hc h3 h4 h5
end Go.Proofs.YtjpgffihafknlaaGreatDoor
namespace Go.Proofs.Qw
open Go.RowKit
theorem attrF_cons (x : Att) (l : List Att) (nm : List UInt8) : attrF (x :: l) nm = if x.name = nm then some x.value else attrF l nm := by
 unfold attrF
 by_cases h : x.name = nm
 ·rw [if_pos h, List.find?_cons_of_pos (by simpa using h)]; rfl
 ·rw [if_neg h, List.find?_cons_of_neg (by simpa using h)]
def PlaceA (d : List Att) (nm : List UInt8) (z : Int) : Prop := (z = -1 ∧ attrF d nm = none) ∨ ∃ (k : Nat) (x : Att), z = k ∧ d[k]? = some x ∧ attrF d nm = some x.value
end Go.Proofs.Qw
namespace Go.Proofs.YtjpgffihafknlaaGreatDoor
open Go.RowKit
open Go.Proofs.Qw
attribute [local go_sem ↓] Go.wp_at_zero Go.wp_at_succ
set_option maxHeartbeats 1000000 in
theorem at1_any (x : Att) (nm : List UInt8) (B : Nat) (T : TypeId) (w : World) (hB : w.heap[B]? = some (.cells #[.string ⟨nm.toArray⟩] T)) :
  Calls Tryz.prog 154 #[.agg #[.string ⟨x.name.toArray⟩, .string ⟨x.value.toArray⟩], .pointer (some ⟨B, 0, none⟩)] w fun e w' => e = .returned (.bool (decide (x.name = nm))) ∧ Below w.heap.size w w' := by
 obtain ⟨p1, f1⟩ := blk hB
 have hz : B < w.heap.size := (Array.getElem?_eq_some_iff.1 hB).1
 have ne1 : ¬ B = w.heap.size := by omega
 have ne2 : ¬ w.heap.size = B := by omega
 go_enter Tryz.func154, Tryz.ntmps154
 go_wp2_with fail
 go_ret
 refine ⟨?_, (Below.refl _ _).alloc (Nat.le_refl _) _⟩
 by_cases h : x.name = nm <;> simp [h]
set_option maxHeartbeats 1000000 in
theorem indexAtt_any (v : Value) (d : List Att) (nm : List UInt8) (B : Nat) (T : TypeId) (w : World) (S : Nat → Prop) (h : AttsR false w S v d) (hB : w.heap[B]? = some (.cells #[.string ⟨nm.toArray⟩] T)) :
  Calls Tryz.prog 153 #[v, .func (.func 154) #[] #[.pointer (some ⟨B, 0, none⟩)]] w fun e w' => ∃ z, e = .returned (.int .i64 z) ∧ PlaceA d nm z ∧ Below w.heap.size w w' := by
 obtain ⟨a, c, rfl, hc, hm, hx⟩ := atts_shape h
 have HX := Lib.hid hx
 have HB := Lib.hid hB
 clear hx h hB
 unfold maxLen at hm
 go_enter Tryz.func153, Tryz.ntmps153
 go_wp2_with fail
 go_loopw [8] (fun i wr => ∃ k : Nat, k ≤ d.length ∧ i = .int .i64 k ∧ Hid (attrF d nm = attrF (d.drop k) nm) ∧ Below w.heap.size w wr) (fun i _ => d.length - (intOf i).toNat)
 case atStart => exact ⟨0, Nat.zero_le _, rfl, Lib.hid rfl, Below.refl _ _⟩
 case round =>
  obtain ⟨k, hk, rfl, HG, hb⟩ := hrel
  by_cases hlt : k < d.length
  ·obtain ⟨x, hl, hd⟩ := getOf d k hlt
   obtain ⟨b, o, rfl, hbz, c0, c1⟩ := HX.out k x hl
   have c0 := (hb.cell (p := ⟨b, o + k * 2, none⟩) hbz).trans c0
   have c1 := (hb.cell (p := ⟨b, o + k * 2 + 1, none⟩) hbz).trans c1
   have HE : Hid (attrF d nm = if x.name = nm then some x.value else attrF (d.drop (k + 1)) nm) := Lib.hid (by rw [HG.out, hd, attrF_cons])
   have HL := Lib.hid hl
   have HC := Lib.hid (at1_any x nm B T wr (heap_below hb HB.out))
   obtain ⟨r, hr⟩ : ∃ r, decide (x.name = nm) = r := ⟨_, rfl⟩
   have HR := Lib.hid hr
   rw [hr] at HC
   clear hd hl hr
   go_wp2_with (go_at_call 154; refine HC.out.mono ?_; rintro e w1 ⟨rfl, hb1⟩; cases r)
   ·go_roundw
    case rel => exact ⟨k + 1, hlt, by go_num, Lib.hid (HE.out.trans (if_neg (by simpa using HR.out))), below_from hb hb1⟩
    case measure => simp [intOf]; omega
   ·go_ret
    refine ⟨_, rfl, ?_, below_from hb hb1⟩
    exact .inr ⟨k, x, rfl, HL.out, HE.out.trans (if_pos (by simpa using HR.out))⟩
  ·obtain rfl : k = d.length := by omega
   go_wp2_with fail
   go_ret
   refine ⟨_, rfl, .inl ⟨rfl, ?_⟩, hb⟩
   rw [HG.out, List.drop_eq_nil_of_le (Nat.le_refl _)]
   rfl
set_option maxHeartbeats 1000000 in
theorem attrAt_any (v : Value) (d : List Att) (nm : List UInt8) (w : World) (S : Nat → Prop) (h : AttsR false w S v d) :
  Calls Tryz.prog 138 #[v, .string ⟨nm.toArray⟩] w fun e w' => ∃ z, e = .returned (.int .i64 z) ∧ PlaceA d nm z ∧ Below w.heap.size w w' := by
 have HC : Hid (∀ T, Calls Tryz.prog 153 #[v, .func (.func 154) #[] #[.pointer (some ⟨w.heap.size, 0, none⟩)]] (w.alloc (.cells #[.string ⟨nm.toArray⟩] T)) fun e w' => ∃ z, e = .returned (.int .i64 z) ∧ PlaceA d nm z ∧ Below w.heap.size w w') :=
  Lib.hid fun T => (indexAtt_any v d nm w.heap.size T _ S (SliceR.below (rdOf_stable _) h ((Below.refl _ _).alloc (Nat.le_refl _) _)) (heap_new _ _ rfl)).mono fun _ _ ⟨z, h1, h2, h3⟩ => ⟨z, h1, h2, below_from ((Below.refl _ _).alloc (Nat.le_refl _) _) h3⟩
 obtain ⟨a, c, rfl⟩ := h.slice
 clear h
 generalize d.length = m at *
 go_enter Tryz.func138, Tryz.ntmps138
 go_wp2_with (go_at_call 153; refine (HC.out _).mono ?_; rintro e w1 ⟨z, rfl, hz, hb1⟩; have HZ := Lib.hid hz; clear hz)
 go_ret
 exact ⟨_, rfl, HZ.out, hb1⟩
set_option maxHeartbeats 1000000 in
theorem attrGet_any (v : Value) (d : List Att) (nm : List UInt8) (w : World) (S : Nat → Prop) (h : AttsR false w S v d) :
  Calls Tryz.prog 124 #[v, .string ⟨nm.toArray⟩] w fun e w' => e = .returned (.tuple #[.string ⟨((attrF d nm).getD []).toArray⟩, .bool (attrF d nm).isSome]) ∧ Below w.heap.size w w' := by
 have HC := Lib.hid (attrAt_any v d nm w S h)
 obtain ⟨a, c, rfl, hc, hm, hx⟩ := atts_shape h
 have HX := Lib.hid hx
 clear hx h
 unfold maxLen at hm
 go_enter Tryz.func124, Tryz.ntmps124
 go_upto_if 11 with (go_at_call 138; refine HC.out.mono ?_; rintro e w1 ⟨z, rfl, hz, hb1⟩; have HZ := Lib.hid hz; have HB1 := Lib.hid hb1; clear hz hb1)
 obtain ⟨rfl, he⟩ | ⟨k, x, rfl, hl, he⟩ := HZ.out
 ·have HE := Lib.hid he
  clear he
  go_wp2_with fail
  go_ret2
  rw [HE.out]
  exact ⟨rfl, HB1.out⟩
 ·have HE := Lib.hid he
  obtain ⟨b, o, rfl, hbz, c0, c1⟩ := HX.out k x hl
  have hlt : k < d.length := (List.getElem?_eq_some_iff.1 hl).1
  have c1 := (HB1.out.cell (p := ⟨b, o + k * 2 + 1, none⟩) hbz).trans c1
  have i0 : (0 : Int) ≤ (k : Int) := Int.natCast_nonneg _
  have i1 : (k : Int) < (d.length : Int) := by omega
  clear he hl c0
  go_wp2_with fail
  go_ret2
  rw [HE.out]
  exact ⟨rfl, HB1.out⟩
end Go.Proofs.YtjpgffihafknlaaGreatDoor
namespace Go.Proofs.Qw
open Go.RowKit Go.Proofs.YtjpgffihafknlaaGreatDoor
theorem attrF_mem {d : List Att} {nm v : List UInt8} (h : attrF d nm = some v) : ∃ x ∈ d, x.value = v := by
 induction d with
 | nil => cases h
 | cons y d ih =>
  rw [attrF_cons] at h
  by_cases c : y.name = nm
  ·rw [if_pos c] at h
   injection h with h
   exact ⟨y, by simp, h⟩
  ·rw [if_neg c] at h
   obtain ⟨x, h1, h2⟩ := ih h
   exact ⟨x, by simp [h1], h2⟩
theorem attrF_size {d : List Att} {nm : List UInt8} {m : Nat} (h : ∀ x ∈ d, x.value.length ≤ m) : ((attrF d nm).getD []).length ≤ m := by
 cases hf : attrF d nm with
 | none => simp
 | some v =>
  obtain ⟨x, h1, h2⟩ := attrF_mem hf
  have := h x h1
  rw [← h2]
  exact this
end Go.Proofs.Qw
namespace Go.Proofs.YtjpgffihafknlaaGreatDoor
open Go.RowKit
open Go.Proofs.Qw
attribute [local go_sem ↓] Go.wp_at_zero Go.wp_at_succ
def CssP : Prop := ∀ (s : ByteArray) (w : World), Env w → s.size ≤ 100000 → Calls Tryz.prog 137 #[.string s] w fun e w' => e = .returned (.tuple #[.int .i64 (cssParse s.data.toList).1, .int .i64 (cssParse s.data.toList).2]) ∧ Below w.heap.size w w'
set_option maxRecDepth 100000 in
set_option maxHeartbeats 2000000 in
theorem nodSays_any (HP : CssP) (n : Nod) (a : Value) (ka : Option Addr) (km kc : Nat) (w : World) (S : Nat → Prop) (hA : AttsR false w S a n.attrs) (he : Env w) (hsz : ∀ x ∈ n.attrs, x.value.length ≤ 100000) :
  Calls Tryz.prog 122 #[nodV n a (.slice ka km kc)] w fun e w' => e = .returned (.tuple #[.int .i64 (saysN n).1, .int .i64 (saysN n).2]) ∧ Below w.heap.size w w' := by
 obtain ⟨la, lc, rfl⟩ := hA.slice
 obtain ⟨W1, hW1, hB, hz, hB1⟩ := one_node w (.int .i64 n.tag) (.slice la n.attrs.length lc) (.string ⟨n.text.toArray⟩) (.slice ka km kc)
 have HG : Hid (∀ W, Below w.heap.size w W → Calls Tryz.prog 124 #[.slice la n.attrs.length lc, .string ⟨#[115, 116, 121, 108, 101]⟩] W fun e w' => e = .returned (.tuple #[.string ⟨((attrF n.attrs styleN).getD []).toArray⟩, .bool (attrF n.attrs styleN).isSome]) ∧ Below W.heap.size W w') :=
  Lib.hid fun W hW => attrGet_any _ n.attrs styleN W S (hA.below (rdOf_stable _) hW)
 have HC : Hid (∀ W, Below w.heap.size w W → Calls Tryz.prog 137 #[.string ⟨((attrF n.attrs styleN).getD []).toArray⟩] W fun e w' => e = .returned (.tuple #[.int .i64 (cssParse ((attrF n.attrs styleN).getD [])).1, .int .i64 (cssParse ((attrF n.attrs styleN).getD [])).2]) ∧ Below W.heap.size W w') :=
  Lib.hid fun W hW => HP _ W (he.below hW) (by have := attrF_size (nm := styleN) hsz; simpa [ByteArray.size] using this)
 have HS : Hid (saysN n = if n.tag = 11 then (1, 0) else if n.tag = 12 then (2, 0) else if n.tag = 13 then (4, 0) else if n.tag = 14 then (8, 0) else if n.tag = 15 then cssParse ((attrF n.attrs styleN).getD []) else (0, 0)) := Lib.hid rfl
 have HB := Lib.hid hB
 obtain ⟨p1, f1⟩ := blk hB1
 clear hA he hsz hz
 unfold nodV
 generalize n.attrs.length = m at *
 generalize cssParse ((attrF n.attrs styleN).getD []) = r at *
 generalize (attrF n.attrs styleN).isSome = q at *
 generalize ((attrF n.attrs styleN).getD []).toArray = y at *
 generalize n.tag = t at *
 go_enter Tryz.func122, Tryz.ntmps122
 by_cases h1 : t = 11
 ·subst h1
  go_wp2_with fail
  go_ret2
  rw [HS.out]
  exact ⟨rfl, HB.out⟩
 by_cases h2 : t = 12
 ·subst h2
  go_wp2_with fail
  go_ret2
  rw [HS.out]
  exact ⟨rfl, HB.out⟩
 by_cases h3 : t = 13
 ·subst h3
  go_wp2_with fail
  go_ret2
  rw [HS.out]
  exact ⟨rfl, HB.out⟩
 by_cases h4 : t = 14
 ·subst h4
  go_wp2_with fail
  go_ret2
  rw [HS.out]
  exact ⟨rfl, HB.out⟩
 by_cases h5 : t = 15
 ·subst h5
  go_wp2_with (first
   | (go_at_call 124; refine (HG.out _ HB.out).mono ?_; rintro e w2 ⟨rfl, hb2⟩; have HB2 := Lib.hid (below_from HB.out hb2); clear hb2)
   | (go_at_call 137; refine (HC.out _ HB2.out).mono ?_; rintro e w3 ⟨rfl, hb3⟩))
  go_ret2
  rw [HS.out]
  exact ⟨rfl, below_from HB2.out hb3⟩
 ·have HT := Lib.hid (⟨h1, h2, h3, h4, h5⟩ : ¬ t = 11 ∧ ¬ t = 12 ∧ ¬ t = 13 ∧ ¬ t = 14 ∧ ¬ t = 15)
  go_wp2_with fail
  go_ret2
  obtain ⟨g1, g2, g3, g4, g5⟩ := HT.out
  rw [HS.out, if_neg g1, if_neg g2, if_neg g3, if_neg g4, if_neg g5]
  exact ⟨rfl, HB.out⟩
end Go.Proofs.YtjpgffihafknlaaGreatDoor
namespace Go.Proofs.YtjpgffihafknlaaGreatDoor
open Go.RowKit
open Go.Proofs.Qw
attribute [local go_sem ↓] Go.wp_at_zero Go.wp_at_succ
set_option maxHeartbeats 400000 in
theorem overV_any (a b c : Int) (w : World) : Calls Tryz.prog 123 #[.int .i64 a, .int .i64 b, .int .i64 c] w fun e w' => e = .returned (.int .i64 (bits .or .i64 (bits .andNot .i64 a c) b)) ∧ w = w' := by
 go_enter Tryz.func123, Tryz.ntmps123
 go_wp2
 go_ret
 exact ⟨rfl, rfl⟩
set_option maxHeartbeats 1000000 in
theorem nodBits_any (HP : CssP) (n : Nod) (a : Value) (ka : Option Addr) (km kc : Nat) (g : Int) (w : World) (S : Nat → Prop) (hA : AttsR false w S a n.attrs) (he : Env w) (hsz : ∀ x ∈ n.attrs, x.value.length ≤ 100000) :
  Calls Tryz.prog 97 #[nodV n a (.slice ka km kc), .int .i64 g] w fun e w' => e = .returned (.int .i64 (bitsN n g)) ∧ Below w.heap.size w w' := by
 obtain ⟨la, lc, rfl⟩ := hA.slice
 obtain ⟨W1, hW1, hB, hz, hB1⟩ := one_node w (.int .i64 n.tag) (.slice la n.attrs.length lc) (.string ⟨n.text.toArray⟩) (.slice ka km kc)
 have HC := Lib.hid (nodSays_any HP n _ ka km kc W1 S (hA.below (rdOf_stable _) hB) (he.below hB) hsz)
 have HO : Hid (∀ W, Calls Tryz.prog 123 #[.int .i64 g, .int .i64 (saysN n).1, .int .i64 (saysN n).2] W fun e w' => e = .returned (.int .i64 (bitsN n g)) ∧ W = w') := Lib.hid fun W => overV_any _ _ _ W
 have HB := Lib.hid hB
 obtain ⟨p1, f1⟩ := blk hB1
 clear hA he hsz hz hB1
 unfold nodV at *
 generalize n.attrs.length = m at *
 generalize saysN n = r at *
 generalize bitsN n g = q at *
 go_enter Tryz.func97, Tryz.ntmps97
 go_wp2_with (first
  | (go_at_call 122; refine HC.out.mono ?_; rintro e w2 ⟨rfl, hb2⟩)
  | (go_at_call 123; refine (HO.out _).mono ?_; rintro e w3 ⟨rfl, rfl⟩))
 go_ret
 exact ⟨rfl, below_from HB.out hb2⟩
set_option maxHeartbeats 1000000 in
theorem nodLink_any (n : Nod) (a : Value) (ka : Option Addr) (km kc : Nat) (g : List UInt8) (w : World) (S : Nat → Prop) (hA : AttsR false w S a n.attrs) (he : EnvT w) (hsz : ∀ x ∈ n.attrs, x.value.length ≤ 100000) :
  Calls Tryz.prog 98 #[nodV n a (.slice ka km kc), .string ⟨g.toArray⟩] w fun e w' => e = .returned (.string ⟨(linkN n g).toArray⟩) ∧ Below w.heap.size w w' := by
 obtain ⟨la, lc, rfl⟩ := hA.slice
 obtain ⟨W1, hW1, hB, hz, hB1⟩ := one_node w (.int .i64 n.tag) (.slice la n.attrs.length lc) (.string ⟨n.text.toArray⟩) (.slice ka km kc)
 have HG := Lib.hid (attrGet_any _ n.attrs hrefN W1 S (hA.below (rdOf_stable _) hB))
 have HL : Hid (linkN n g = match attrF n.attrs hrefN with | some h => if n.tag = 10 ∧ targetF h = true then h else g | none => g) := Lib.hid rfl
 have HZ : Hid (∀ h, attrF n.attrs hrefN = some h → h.length ≤ 100000) := Lib.hid fun h hh => by have := attrF_size (nm := hrefN) hsz; rw [hh] at this; exact this
 have HB := Lib.hid hB
 have HE := Lib.hid (he.below hB)
 have HB1 := Lib.hid hB1
 obtain ⟨p1, f1⟩ := blk hB1
 clear hA he hsz hz hB1
 unfold nodV
 generalize linkN n g = q at *
 generalize attrF n.attrs hrefN = f at *
 generalize n.attrs.length = m at *
 generalize n.tag = t at *
 cases f with
 | none =>
  have HG : Hid (Calls Tryz.prog 124 #[.slice la m lc, .string ⟨#[104, 114, 101, 102]⟩] W1 fun e w' => e = .returned (.tuple #[.string ⟨#[]⟩, .bool false]) ∧ Below W1.heap.size W1 w') := HG
  go_enter Tryz.func98, Tryz.ntmps98
  go_wp2_with (go_at_call 124; refine HG.out.mono ?_; rintro e w2 ⟨rfl, hb2⟩)
  go_ret
  rw [HL.out]
  exact ⟨rfl, below_from HB.out hb2⟩
 | some h =>
  have HG : Hid (Calls Tryz.prog 124 #[.slice la m lc, .string ⟨#[104, 114, 101, 102]⟩] W1 fun e w' => e = .returned (.tuple #[.string ⟨h.toArray⟩, .bool true]) ∧ Below W1.heap.size W1 w') := HG
  have HT : Hid (∀ W, EnvT W → Calls Tryz.prog 125 #[.string ⟨h.toArray⟩] W fun e w' => e = .returned (.bool (targetF h)) ∧ Below W.heap.size W w') := Lib.hid fun W hW => target_any ⟨h.toArray⟩ W hW (by have := HZ.out h rfl; simp [ByteArray.size]; omega)
  by_cases h1 : t = 10
  ·subst h1
   generalize hr : targetF h = r at *
   have HR := Lib.hid hr
   clear hr
   go_enter Tryz.func98, Tryz.ntmps98
   go_wp2_with (first
    | (go_at_call 124; refine HG.out.mono ?_; rintro e w2 ⟨rfl, hb2⟩; have he2 := HE.out.below hb2; obtain ⟨p2, f2⟩ := blk (heap_below hb2 HB1.out))
    | (go_at_call 125; refine (HT.out _ he2).mono ?_; rintro e w3 ⟨rfl, hb3⟩; cases r))
   ·go_ret
    rw [HL.out]
    exact ⟨by simp [HR.out], below_from (below_from HB.out hb2) hb3⟩
   ·go_ret
    rw [HL.out]
    exact ⟨by simp [HR.out], below_from (below_from HB.out hb2) hb3⟩
  ·have HN := Lib.hid h1
   go_enter Tryz.func98, Tryz.ntmps98
   go_wp2_with (go_at_call 124; refine HG.out.mono ?_; rintro e w2 ⟨rfl, hb2⟩; obtain ⟨p2, f2⟩ := blk (heap_below hb2 HB1.out))
   go_ret
   rw [HL.out]
   exact ⟨by simp [HN.out], below_from HB.out hb2⟩
end Go.Proofs.YtjpgffihafknlaaGreatDoor
namespace Go.Proofs.YtjpgffihafknlaaGreatDoor
open Go.RowKit
open Go.Proofs.Qw
attribute [local go_sem] Oper.semAt_some
theorem VwR.open {B : Nat} {w : World} {a : Aro} {lv : Value} {s : VSt} (h : VwR B w a lv s) : ∃ la lc na nc, lv = .slice la a.lists.length lc ∧ w.heap[B]? = some (.cells #[.int .i64 a.quote, .slice la a.lists.length lc, .int .i64 a.kind, .slice none 0 0, .int .i64 a.bits, .string ⟨a.href.toArray⟩, .slice na s.lines.length nc, .int .i64 s.cells, .bool s.opn, .int .i64 s.spot, .int .i64 s.pos.line, .int .i64 s.pos.col] 74) := by
 obtain ⟨lns, xs, hB, hI, hL, hx⟩ := h
 obtain ⟨la, lc, rfl⟩ := hI.slice
 obtain ⟨na, nc, rfl⟩ := hL.row.slice
 have : xs.length = s.lines.length := by rw [← hx, List.length_map]
 rw [this] at hB
 exact ⟨la, lc, na, nc, rfl, hB⟩
theorem VwR.setOpn {B : Nat} {w : World} {a : Aro} {lv : Value} {s : VSt} (h : VwR B w a lv s) (b : Bool) : VwR B (w.setCell ⟨B, 8, none⟩ (.bool b)) a lv { s with opn := b } := by
 obtain ⟨lns, xs, hB, hI, hL, hx⟩ := h
 exact VwR.turn hL (SetB.one B w 8 (.bool b)).blk (by simp) (setCell_heap hB _) hI hx
theorem VwR.setKind {B : Nat} {w : World} {a : Aro} {lv : Value} {s : VSt} (h : VwR B w a lv s) (k : Int) : VwR B (w.setCell ⟨B, 2, none⟩ (.int .i64 k)) { a with kind := k } lv s := by
 obtain ⟨lns, xs, hB, hI, hL, hx⟩ := h
 exact VwR.turn hL (SetB.one B w 2 (.int .i64 k)).blk (by simp) (setCell_heap hB _) hI hx
theorem VwR.setSaid {B : Nat} {w : World} {a : Aro} {lv : Value} {s : VSt} (h : VwR B w a lv s) (g : Int) (r : List UInt8) : VwR B ((w.setCell ⟨B, 4, none⟩ (.int .i64 g)).setCell ⟨B, 5, none⟩ (.string ⟨r.toArray⟩)) { a with bits := g, href := r } lv s := by
 obtain ⟨lns, xs, hB, hI, hL, hx⟩ := h
 exact VwR.turn hL ((SetB.one B w 4 (.int .i64 g)).trans (SetB.one B _ 5 (.string ⟨r.toArray⟩))).blk (by simp) (setCell_heap (setCell_heap hB _) _) hI hx
theorem capk_all (a : Aro) (p : Plc) : ∀ (ks : List Nod) (i : Nat) (s : VSt), capV (kidsV ks i a p s) ≤ capV s + capMs ks
 | [], i, s => by
  rw [kidsV_nil]
  split
  ·rw [cap_met]; omega
  ·omega
 | k :: ks, i, s => by
  rw [kidsV_cons, capMs]
  have h1 := cap_onev k i a p s
  have h2 := capk_all a p ks (i + 1) (oneV k i a p s)
  show capV (kidsV ks (i + 1) a p (oneV k i a p s)) ≤ _
  omega
structure Given (h : Nat) (n : Nod) (na nk pv : Value) (p : Plc) (B Z3 Z4 Z5 : Nat) (W w0 : World) (S S' : Nat → Prop) : Prop where
 atts : AttsR false w0 S na n.attrs
 kids : NodsR false h w0 S nk n.kids
 env : EnvT w0
 below : Below w0.heap.size w0 W
 le : w0.heap.size ≤ B
 plc : PlcR B w0 W S' pv p
 z3 : W.heap[Z3]? = some (.cells #[.pointer (some ⟨B, 0, none⟩)] 68)
 z4 : W.heap[Z4]? = some (.cells #[.int .i64 n.tag, na, .string ⟨n.text.toArray⟩, nk] 25)
 z5 : W.heap[Z5]? = some (.cells #[pv] 87)
 n3 : Z3 ≠ B
 n4 : Z4 ≠ B
 n5 : Z5 ≠ B
theorem Given.keep {h : Nat} {n : Nod} {na nk pv : Value} {p : Plc} {B Z3 Z4 Z5 : Nat} {W W' w0 : World} {S S' : Nat → Prop} (g : Given h n na nk pv p B Z3 Z4 Z5 W w0 S S') (hk : KeepT B W W') (hB : B < W.heap.size) : Given h n na nk pv p B Z3 Z4 Z5 W' w0 S S' :=
 ⟨g.atts, g.kids, g.env, g.below.trans ((hk.below hB).mono g.le), g.le, g.plc.keep hk, hk.heap g.z3 g.n3 (by decide) (by decide), hk.heap g.z4 g.n4 (by decide) (by decide), hk.heap g.z5 g.n5 (by decide) (by decide), g.n3, g.n4, g.n5⟩
set_option maxRecDepth 100000 in
set_option maxHeartbeats 4000000 in
theorem inl_any (HCs : CssP) (h : Nat) (hk : KidsAt h) (n : Nod) (na nk pv : Value) (p : Plc) (B Z3 Z4 Z5 : Nat) (a : Aro) (lv : Value) (s : VSt) (W w0 : World) (S S' : Nat → Prop) (hg : Given h n na nk pv p B Z3 Z4 Z5 W w0 S S') (hV : VwR B W a lv s) (ha : ArW a) (ho : OpW s) (hav : AvN n) (hc : capV s + capM n ≤ 3900000) :
  Calls Tryz.prog 96 #[.pointer (some ⟨Z4, 0, none⟩), .pointer (some ⟨Z3, 0, none⟩), .pointer (some ⟨Z5, 0, none⟩)] W fun e w' => (∃ u, e = .returned u) ∧ (∃ a' lv', VwR B w' a' lv' (kidsV n.kids 0 { a with bits := bitsN n a.bits, href := linkN n a.href } p s)) ∧ KeepT B W w' := by
 have hBz := hV.lt
 obtain ⟨la, lc, rfl⟩ := hg.atts.slice
 obtain ⟨ka, kc, rfl⟩ := hg.kids.slice
 have HK : Hid (∀ (X : World) (a' : Aro) (lv' : Value) (t : VSt), KeepT B W X → VwR B X a' lv' t → ArW a' → OpW t → capV t = capV s → Calls Tryz.prog 99 #[.pointer (some ⟨B, 0, none⟩), .agg #[.int .i64 n.tag, .slice la n.attrs.length lc, .string ⟨n.text.toArray⟩, .slice ka n.kids.length kc], pv] X fun e w' => (∃ u, e = .returned u) ∧ VwR B w' a' lv' (kidsV n.kids 0 a' p t) ∧ KeepT B X w') := Lib.hid fun X a' lv' t hX hVt hat hot hct => by
  have g := hg.keep hX hBz
  have h1 := cap_parts n
  exact hk n _ _ pv p B a' lv' t X w0 S S' g.atts g.kids g.env g.below g.le hVt hat hot (av_parts hav).2 (by rw [hct]; omega) g.plc
 have HBi : Hid (∀ X, Below W.heap.size W X → Calls Tryz.prog 97 #[.agg #[.int .i64 n.tag, .slice la n.attrs.length lc, .string ⟨n.text.toArray⟩, .slice ka n.kids.length kc], .int .i64 a.bits] X fun e w' => e = .returned (.int .i64 (bitsN n a.bits)) ∧ Below X.heap.size X w') := Lib.hid fun X hX => by
  have hb := below_from hg.below hX
  exact nodBits_any HCs n _ ka _ kc a.bits X S (hg.atts.below (rdOf_stable _) hb) (hg.env.below hb).1 (av_parts hav).1
 have HLi : Hid (∀ X, Below W.heap.size W X → Calls Tryz.prog 98 #[.agg #[.int .i64 n.tag, .slice la n.attrs.length lc, .string ⟨n.text.toArray⟩, .slice ka n.kids.length kc], .string ⟨a.href.toArray⟩] X fun e w' => e = .returned (.string ⟨(linkN n a.href).toArray⟩) ∧ Below X.heap.size X w') := Lib.hid fun X hX => by
  have hb := below_from hg.below hX
  exact nodLink_any n _ ka _ kc a.href X S (hg.atts.below (rdOf_stable _) hb) (hg.env.below hb) (av_parts hav).1
 obtain ⟨va, vc, na, nc, rfl, hB⟩ := hV.open
 have HG := Lib.hid hg
 have HV := Lib.hid hV
 have HAr := Lib.hid (And.intro ha ho)
 have HBc := Lib.hid hB
 generalize bitsN n a.bits = g at *
 generalize linkN n a.href = r at *
 have HAf : Hid (∀ X : World, KeepT B W X → X.cell? ⟨Z3, 0, none⟩ = some (.pointer (some ⟨B, 0, none⟩)) ∧ X.cell? ⟨Z4, 0, none⟩ = some (.int .i64 n.tag) ∧ X.cell? ⟨Z4, 1, none⟩ = some (.slice la n.attrs.length lc) ∧ X.cell? ⟨Z4, 2, none⟩ = some (.string ⟨n.text.toArray⟩) ∧ X.cell? ⟨Z4, 3, none⟩ = some (.slice ka n.kids.length kc)) := Lib.hid fun X hX => by
  have h3 := hX.heap hg.z3 hg.n3 (by decide) (by decide)
  have h4 := hX.heap hg.z4 hg.n4 (by decide) (by decide)
  exact ⟨by rw [(blk h3).1 0]; rfl, by rw [(blk h4).1 0]; rfl, by rw [(blk h4).1 1]; rfl, by rw [(blk h4).1 2]; rfl, by rw [(blk h4).1 3]; rfl⟩
 have HBf : Hid (∀ X : World, X.heap[B]? = W.heap[B]? → X.cell? ⟨B, 4, none⟩ = some (.int .i64 a.bits) ∧ X.cell? ⟨B, 5, none⟩ = some (.string ⟨a.href.toArray⟩)) := Lib.hid fun X hX => ⟨by rw [(blk (hX.trans hB)).1 4]; rfl, by rw [(blk (hX.trans hB)).1 5]; rfl⟩
 clear hg hV ha ho hav hc hB hk HCs
 go_enter Tryz.func96, Tryz.ntmps96
 go_upto_region 0 with fail
 have hd : Below W.heap.size W W.drew := (Below.refl _ _).drew
 have hk0 : KeepT B W W.drew := KeepT.of hd
 refine wp_region_T (fun X => X.cell? ⟨Z3, 0, none⟩ = some (.pointer (some ⟨B, 0, none⟩)) ∧ X.cell? ⟨Z4, 0, none⟩ = some (.int .i64 n.tag) ∧ X.cell? ⟨Z4, 1, none⟩ = some (.slice la n.attrs.length lc) ∧ X.cell? ⟨Z4, 2, none⟩ = some (.string ⟨n.text.toArray⟩) ∧ X.cell? ⟨Z4, 3, none⟩ = some (.slice ka n.kids.length kc)) (fun X => X.cell? ⟨B, 4, none⟩ = some (.int .i64 a.bits) ∧ X.cell? ⟨B, 5, none⟩ = some (.string ⟨a.href.toArray⟩)) 19 (by kernel_rfl) ?_
 refine anyT_takeA (i := 0) (v := ?_) (by simp only [qA, qS, qZ]; rfl) (by kernel_rfl) (by kernel_rfl) (by kernel_rfl) (by kernel_rfl) (fun _ _ _ h => h) (Or.inl ⟨by rfl, ?_⟩) (HAf.out _ hk0) (Or.inr (HBf.out _ rfl)) ?_
 rotate_left 1
 ·intro w hSw; (try dsimp only at hSw); go_simp; (first | done | with_reducible rfl)
 try simp only [Act.put, qI, qX, qY]
 refine anyT_takeA (i := 1) (v := ?_) (by simp only [qA, qS, qZ]; rfl) (by kernel_rfl) (by kernel_rfl) (by kernel_rfl) (by kernel_rfl) (fun _ _ _ h => h) (Or.inl ⟨by rfl, ?_⟩) (HAf.out _ hk0) (Or.inr (HBf.out _ rfl)) ?_
 rotate_left 1
 ·intro w hSw; (try dsimp only at hSw); go_simp; (first | done | with_reducible rfl)
 try simp only [Act.put, qI, qX, qY]
 refine anyT_takeA (i := 2) (v := ?_) (by simp only [qA, qS, qZ]; rfl) (by kernel_rfl) (by kernel_rfl) (by kernel_rfl) (by kernel_rfl) (fun _ _ _ h => h) (Or.inl ⟨by rfl, ?_⟩) (HAf.out _ hk0) (Or.inr (HBf.out _ rfl)) ?_
 rotate_left 1
 ·intro w hSw; (try dsimp only at hSw); go_simp; (first | done | with_reducible rfl)
 try simp only [Act.put, qI, qX, qY]
 refine anyT_takeA (i := 3) (v := ?_) (by simp only [qA, qS, qZ]; rfl) (by kernel_rfl) (by kernel_rfl) (by kernel_rfl) (by kernel_rfl) (fun _ _ _ h => h) (Or.inl ⟨by rfl, ?_⟩) (HAf.out _ hk0) (Or.inr (HBf.out _ rfl)) ?_
 rotate_left 1
 ·intro w hSw; (try dsimp only at hSw); go_simp; (first | done | with_reducible rfl)
 try simp only [Act.put, qI, qX, qY]
 refine anyT_takeA (i := 4) (v := ?_) (by simp only [qA, qS, qZ]; rfl) (by kernel_rfl) (by kernel_rfl) (by kernel_rfl) (by kernel_rfl) (fun _ _ _ h => h) (Or.inl ⟨by rfl, ?_⟩) (HAf.out _ hk0) (Or.inr (HBf.out _ rfl)) ?_
 rotate_left 1
 ·intro w hSw; (try dsimp only at hSw); go_simp; (first | done | with_reducible rfl)
 try simp only [Act.put, qI, qX, qY]
 refine anyT_takeA (i := 5) (v := ?_) (by simp only [qA, qS, qZ]; rfl) (by kernel_rfl) (by kernel_rfl) (by kernel_rfl) (by kernel_rfl) (fun _ _ _ h => h) (Or.inl ⟨by rfl, ?_⟩) (HAf.out _ hk0) (Or.inr (HBf.out _ rfl)) ?_
 rotate_left 1
 ·intro w hSw; (try dsimp only at hSw); go_simp; (first | done | with_reducible rfl)
 try simp only [Act.put, qI, qX, qY]
 refine anyT_takeA (i := 6) (v := ?_) (by simp only [qA, qS, qZ]; rfl) (by kernel_rfl) (by kernel_rfl) (by kernel_rfl) (by kernel_rfl) (fun _ _ _ h => h) (Or.inl ⟨by rfl, ?_⟩) (HAf.out _ hk0) (Or.inr (HBf.out _ rfl)) ?_
 rotate_left 1
 ·intro w hSw; (try dsimp only at hSw); go_simp; (first | done | with_reducible rfl)
 try simp only [Act.put, qI, qX, qY]
 refine anyT_take (i := 7) (v := ?_) (by simp only [qA, qS, qZ]; rfl) (by kernel_rfl) (by kernel_rfl) (by kernel_rfl) (by kernel_rfl) (fun _ _ _ h => h) (Or.inl ⟨by rfl, ?_⟩) ⟨HAf.out _ hk0, HBf.out _ rfl⟩ ?_
 rotate_left 1
 ·intro w hSw; (try dsimp only at hSw); go_simp; (first | done | with_reducible rfl)
 try simp only [Act.put, qI, qX, qY]
 refine anyT_takeA (i := 9) (v := ?_) (by simp only [qA, qS, qZ]; rfl) (by kernel_rfl) (by kernel_rfl) (by kernel_rfl) (by kernel_rfl) (fun _ _ _ h => h) (Or.inl ⟨by rfl, ?_⟩) (HAf.out _ hk0) (Or.inr (HBf.out _ rfl)) ?_
 rotate_left 1
 ·intro w hSw; (try dsimp only at hSw); go_simp; (first | done | with_reducible rfl)
 try simp only [Act.put, qI, qX, qY]
 refine anyT_takeA (i := 10) (v := ?_) (by simp only [qA, qS, qZ]; rfl) (by kernel_rfl) (by kernel_rfl) (by kernel_rfl) (by kernel_rfl) (fun _ _ _ h => h) (Or.inl ⟨by rfl, ?_⟩) (HAf.out _ hk0) (Or.inr (HBf.out _ rfl)) ?_
 rotate_left 1
 ·intro w hSw; (try dsimp only at hSw); go_simp; (first | done | with_reducible rfl)
 try simp only [Act.put, qI, qX, qY]
 refine anyT_takeA (i := 11) (v := ?_) (by simp only [qA, qS, qZ]; rfl) (by kernel_rfl) (by kernel_rfl) (by kernel_rfl) (by kernel_rfl) (fun _ _ _ h => h) (Or.inl ⟨by rfl, ?_⟩) (HAf.out _ hk0) (Or.inr (HBf.out _ rfl)) ?_
 rotate_left 1
 ·intro w hSw; (try dsimp only at hSw); go_simp; (first | done | with_reducible rfl)
 try simp only [Act.put, qI, qX, qY]
 refine anyT_takeA (i := 12) (v := ?_) (by simp only [qA, qS, qZ]; rfl) (by kernel_rfl) (by kernel_rfl) (by kernel_rfl) (by kernel_rfl) (fun _ _ _ h => h) (Or.inl ⟨by rfl, ?_⟩) (HAf.out _ hk0) (Or.inr (HBf.out _ rfl)) ?_
 rotate_left 1
 ·intro w hSw; (try dsimp only at hSw); go_simp; (first | done | with_reducible rfl)
 try simp only [Act.put, qI, qX, qY]
 refine anyT_takeA (i := 13) (v := ?_) (by simp only [qA, qS, qZ]; rfl) (by kernel_rfl) (by kernel_rfl) (by kernel_rfl) (by kernel_rfl) (fun _ _ _ h => h) (Or.inl ⟨by rfl, ?_⟩) (HAf.out _ hk0) (Or.inr (HBf.out _ rfl)) ?_
 rotate_left 1
 ·intro w hSw; (try dsimp only at hSw); go_simp; (first | done | with_reducible rfl)
 try simp only [Act.put, qI, qX, qY]
 refine anyT_take (i := 14) (v := ?_) (by simp only [qA, qS, qZ]; rfl) (by kernel_rfl) (by kernel_rfl) (by kernel_rfl) (by kernel_rfl) (fun _ _ _ h => h) (Or.inl ⟨by rfl, ?_⟩) ⟨HAf.out _ hk0, HBf.out _ rfl⟩ ?_
 rotate_left 1
 ·intro w hSw; (try dsimp only at hSw); go_simp; (first | done | with_reducible rfl)
 try simp only [Act.put, qI, qX, qY]
 refine anyT_ready (rs := [8]) (by kernel_rfl) (by simp) ?_
 refine AllReadyT.cons (by simp only [qA, qS, qZ]; rfl) (fun K hK => ?_) AllReadyT.nil
 go_simp
 refine (HBi.out _ hd).mono ?_
 rintro e w2 ⟨rfl, hb2⟩
 have hx2 := below_from hd hb2
 refine hK.out _ _ (HAf.out _ (KeepT.of hx2)) (Or.inr (HBf.out _ (hx2.block _ hBz))) ?_
 clear hK K
 try simp only [Act.put, qI, qX, qY]
 refine anyT_ready (rs := [15]) (by kernel_rfl) (by simp) ?_
 refine AllReadyT.cons (by simp only [qA, qS, qZ]; rfl) (fun K hK => ?_) AllReadyT.nil
 go_simp
 refine (HLi.out _ hx2).mono ?_
 rintro e w3 ⟨rfl, hb3⟩
 have hx3 := below_from hx2 hb3
 have hk3 : KeepT B W w3 := KeepT.of hx3
 have hB3 := (hx3.block _ hBz).trans HBc.out
 refine hK.out _ _ (HAf.out _ hk3) (Or.inr (HBf.out _ (hx3.block _ hBz))) ?_
 clear hK K
 try simp only [Act.put, qI, qX, qY]
 refine anyT_takeA (i := 16) (v := ?_) (by simp only [qA, qS, qZ]; rfl) (by kernel_rfl) (by kernel_rfl) (by kernel_rfl) (by kernel_rfl) (fun _ _ _ h => h) (Or.inl ⟨by rfl, ?_⟩) (HAf.out _ hk3) (Or.inr (HBf.out _ (hx3.block _ hBz))) ?_
 rotate_left 1
 ·intro w hSw; (try dsimp only at hSw); go_simp; (first | done | with_reducible rfl)
 try simp only [Act.put, qI, qX, qY]
 refine anyT_takeA (i := 17) (v := ?_) (by simp only [qA, qS, qZ]; rfl) (by kernel_rfl) (by kernel_rfl) (by kernel_rfl) (by kernel_rfl) (fun _ _ _ h => h) (Or.inl ⟨by rfl, ?_⟩) (HAf.out _ hk3) (Or.inr (HBf.out _ (hx3.block _ hBz))) ?_
 rotate_left 1
 ·intro w hSw; (try dsimp only at hSw); go_simp; (first | done | with_reducible rfl)
 try simp only [Act.put, qI, qX, qY]
 refine anyT_takeA (i := 18) (v := ?_) (by simp only [qA, qS, qZ]; rfl) (by kernel_rfl) (by kernel_rfl) (by kernel_rfl) (by kernel_rfl) (fun _ _ _ h => h) (Or.inl ⟨by rfl, ?_⟩) (HAf.out _ hk3) (Or.inr (HBf.out _ (hx3.block _ hBz))) ?_
 rotate_left 1
 ·intro w hSw; (try dsimp only at hSw); go_simp; (first | done | with_reducible rfl)
 try simp only [Act.put, qI, qX, qY]
 obtain ⟨p3, f3⟩ := blk hB3
 refine anyT_ready (rs := [19]) (by kernel_rfl) (by simp) ?_
 refine AllReadyT.cons (by simp only [qA, qS, qZ]; rfl) (fun K hK => ?_) AllReadyT.nil
 go_simp
 have hk4 : KeepT B W (w3.setCell ⟨B, 4, none⟩ (.int .i64 g)) := hk3.trans (KeepT.set _ _ _)
 refine hK.out _ _ (HAf.out _ hk4) (Or.inl (by rfl)) ?_
 clear hK K
 try simp only [Act.put, qI, qX, qY]
 refine anyT_takeA (i := 20) (v := ?_) (by simp only [qA, qS, qZ]; rfl) (by kernel_rfl) (by kernel_rfl) (by kernel_rfl) (by kernel_rfl) (fun _ _ _ h => h) (Or.inl ⟨by rfl, ?_⟩) (HAf.out _ hk4) (Or.inl (by rfl)) ?_
 rotate_left 1
 ·intro w hSw; (try dsimp only at hSw); go_simp; (first | done | with_reducible rfl)
 try simp only [Act.put, qI, qX, qY]
 refine anyT_takeA (i := 21) (v := ?_) (by simp only [qA, qS, qZ]; rfl) (by kernel_rfl) (by kernel_rfl) (by kernel_rfl) (by kernel_rfl) (fun _ _ _ h => h) (Or.inl ⟨by rfl, ?_⟩) (HAf.out _ hk4) (Or.inl (by rfl)) ?_
 rotate_left 1
 ·intro w hSw; (try dsimp only at hSw); go_simp; (first | done | with_reducible rfl)
 try simp only [Act.put, qI, qX, qY]
 refine anyT_takeA (i := 22) (v := ?_) (by simp only [qA, qS, qZ]; rfl) (by kernel_rfl) (by kernel_rfl) (by kernel_rfl) (by kernel_rfl) (fun _ _ _ h => h) (Or.inl ⟨by rfl, ?_⟩) (HAf.out _ hk4) (Or.inl (by rfl)) ?_
 rotate_left 1
 ·intro w hSw; (try dsimp only at hSw); go_simp; (first | done | with_reducible rfl)
 try simp only [Act.put, qI, qX, qY]
 clear p3 f3
 have hB4 := setCell_heap (o := 4) hB3 (.int .i64 g)
 obtain ⟨p4, f4⟩ := blk hB4
 refine anyT_ready (rs := [23]) (by kernel_rfl) (by simp) ?_
 refine AllReadyT.cons (by simp only [qA, qS, qZ]; rfl) (fun K hK => ?_) AllReadyT.nil
 go_simp
 have hk5 : KeepT B W ((w3.setCell ⟨B, 4, none⟩ (.int .i64 g)).setCell ⟨B, 5, none⟩ (.string ⟨r.toArray⟩)) := hk4.trans (KeepT.set _ _ _)
 refine hK.out _ _ (HAf.out _ hk5) (Or.inl (by rfl)) ?_
 clear hK K
 refine anyT_done (by kernel_rfl) ?_ _
 refine NoPanic.normal ?_
 have hV5 := (HV.out.below hx3).setSaid g r
 obtain ⟨X5, hX5⟩ : ∃ X, (w3.setCell ⟨B, 4, none⟩ (.int .i64 g)).setCell ⟨B, 5, none⟩ (.string ⟨r.toArray⟩) = X := ⟨_, rfl⟩
 rw [hX5] at hk5 hV5 ⊢
 have g5 := HG.out.keep hk5 hBz
 obtain ⟨s3, t3⟩ := blk g5.z3
 obtain ⟨s4, t4⟩ := blk g5.z4
 obtain ⟨s5, t5⟩ := blk g5.z5
 clear hX5 p4 f4 hB4 hB3 hk4 g5
 go_wp2_with (go_at_call 99; refine (HK.out _ _ _ _ hk5 hV5 HAr.out.1 HAr.out.2 rfl).mono ?_; rintro e w6 ⟨⟨u, rfl⟩, hv6, hk6⟩)
 go_returns
 exact ⟨⟨_, rfl⟩, ⟨_, _, hv6⟩, hk5.trans hk6⟩
def lineE (n : Nod) (a : Aro) (p : Plc) (s : VSt) : VSt := { (if (kidsV n.kids 0 { a with kind := headT n.tag } p { s with opn := false }).lines.length = s.lines.length then beginV { a with kind := headT n.tag } (kidsV n.kids 0 { a with kind := headT n.tag } p { s with opn := false }) else kidsV n.kids 0 { a with kind := headT n.tag } p { s with opn := false }) with opn := false }
theorem lineE_pos {n : Nod} {a : Aro} {p : Plc} {s kk : VSt} (h : kidsV n.kids 0 { a with kind := headT n.tag } p { s with opn := false } = kk) (he : kk.lines.length = s.lines.length) : lineE n a p s = { beginV { a with kind := headT n.tag } kk with opn := false } := by unfold lineE; rw [h, if_pos he]
theorem lineE_neg {n : Nod} {a : Aro} {p : Plc} {s kk : VSt} (h : kidsV n.kids 0 { a with kind := headT n.tag } p { s with opn := false } = kk) (he : ¬ kk.lines.length = s.lines.length) : lineE n a p s = { kk with opn := false } := by unfold lineE; rw [h, if_neg he]
set_option maxRecDepth 100000 in
set_option maxHeartbeats 4000000 in
theorem lin_any (h : Nat) (hk : KidsAt h) (n : Nod) (na nk pv : Value) (p : Plc) (B Z3 Z4 Z5 : Nat) (a : Aro) (lv : Value) (s : VSt) (W w0 : World) (S S' : Nat → Prop) (hg : Given h n na nk pv p B Z3 Z4 Z5 W w0 S S') (hV : VwR B W a lv s) (ha : ArW a) (ho : OpW s) (hav : AvN n) (hc : capV s + capM n ≤ 3900000) :
  Calls Tryz.prog 100 #[.pointer (some ⟨Z3, 0, none⟩), .pointer (some ⟨Z4, 0, none⟩), .pointer (some ⟨Z5, 0, none⟩)] W fun e w' => (∃ u, e = .returned u) ∧ (∃ a' lv', VwR B w' a' lv' (lineE n a p s)) ∧ KeepT B W w' := by
 have hBz := hV.lt
 obtain ⟨la, lc, rfl⟩ := hg.atts.slice
 obtain ⟨ka, kc, rfl⟩ := hg.kids.slice
 have HK : Hid (∀ (X : World) (a' : Aro) (lv' : Value) (t : VSt), KeepT B W X → VwR B X a' lv' t → ArW a' → OpW t → capV t = capV s → Calls Tryz.prog 99 #[.pointer (some ⟨B, 0, none⟩), .agg #[.int .i64 n.tag, .slice la n.attrs.length lc, .string ⟨n.text.toArray⟩, .slice ka n.kids.length kc], pv] X fun e w' => (∃ u, e = .returned u) ∧ VwR B w' a' lv' (kidsV n.kids 0 a' p t) ∧ KeepT B X w') := Lib.hid fun X a' lv' t hX hVt hat hot hct => by
  have g := hg.keep hX hBz
  have h1 := cap_parts n
  exact hk n _ _ pv p B a' lv' t X w0 S S' g.atts g.kids g.env g.below g.le hVt hat hot (av_parts hav).2 (by rw [hct]; omega) g.plc
 have HH : Hid (∀ X, Calls Tryz.prog 101 #[.int .i64 n.tag] X fun e w' => e = .returned (.int .i64 (headT n.tag)) ∧ Below X.heap.size X w') := Lib.hid fun X => headT_any n.tag X
 obtain ⟨va, vc, na, nc, rfl, hB⟩ := hV.open
 have HG := Lib.hid hg
 have HV := Lib.hid hV
 have HAr := Lib.hid (And.intro ha ho)
 have hkc := capk_all { a with kind := headT n.tag } p n.kids 0 { s with opn := false }
 have hcp := cap_parts n
 have HCap : Hid (capV (kidsV n.kids 0 { a with kind := headT n.tag } p { s with opn := false }) ≤ 3900000) := Lib.hid (by
  have e : capV ({ s with opn := false } : VSt) = capV s := rfl
  omega)
 have HAf : Hid (∀ X : World, KeepT B W X → X.cell? ⟨Z3, 0, none⟩ = some (.pointer (some ⟨B, 0, none⟩)) ∧ X.cell? ⟨Z4, 0, none⟩ = some (.int .i64 n.tag)) := Lib.hid fun X hX => by
  have h3 := hX.heap hg.z3 hg.n3 (by decide) (by decide)
  have h4 := hX.heap hg.z4 hg.n4 (by decide) (by decide)
  exact ⟨by rw [(blk h3).1 0]; rfl, by rw [(blk h4).1 0]; rfl⟩
 obtain ⟨p1, f1⟩ := blk hB
 obtain ⟨q3, g3⟩ := blk hg.z3
 have hne : ¬ Z3 = B := hg.n3
 have hne2 : ¬ B = Z3 := fun e => hne e.symm
 have hk1 : KeepT B W (W.setCell ⟨B, 8, none⟩ (.bool false)) := KeepT.set _ _ _
 have hV1 := hV.setOpn false
 have hB1 := setCell_heap (o := 8) hB (.bool false)
 have HB1 := Lib.hid hB1
 have HV1 := Lib.hid hV1
 have HHN : Hid (headT n.tag = headT n.tag) := Lib.hid rfl
 clear hg hV ha ho hav hc hB hk hkc hcp hV1 hB1
 go_enter Tryz.func100, Tryz.ntmps100
 go_upto_region 2 with fail
 obtain ⟨X1, hX1⟩ : ∃ X, W.setCell ⟨B, 8, none⟩ (.bool false) = X := ⟨_, rfl⟩
 rw [hX1]
 rw [hX1] at hk1 HB1 HV1
 clear p1 f1 q3 g3 hne hne2 hX1
 have hB1z := HV1.out.lt
 have hd : Below X1.heap.size X1 X1.drew := (Below.refl _ _).drew
 have hk0 : KeepT B W X1.drew := hk1.trans (KeepT.of hd)
 refine wp_region_T (fun X => X.cell? ⟨Z3, 0, none⟩ = some (.pointer (some ⟨B, 0, none⟩)) ∧ X.cell? ⟨Z4, 0, none⟩ = some (.int .i64 n.tag)) (fun _ => True) 8 (by kernel_rfl) ?_
 refine anyT_takeA (i := 0) (v := ?_) (by simp only [qA, qS, qZ]; rfl) (by kernel_rfl) (by kernel_rfl) (by kernel_rfl) (by kernel_rfl) (fun _ _ _ h => h) (Or.inl ⟨by rfl, ?_⟩) (HAf.out _ hk0) (Or.inr trivial) ?_
 rotate_left 1
 ·intro w hSw; (try dsimp only at hSw); go_simp; (first | done | with_reducible rfl)
 try simp only [Act.put, qI, qX, qY]
 refine anyT_takeA (i := 1) (v := ?_) (by simp only [qA, qS, qZ]; rfl) (by kernel_rfl) (by kernel_rfl) (by kernel_rfl) (by kernel_rfl) (fun _ _ _ h => h) (Or.inl ⟨by rfl, ?_⟩) (HAf.out _ hk0) (Or.inr trivial) ?_
 rotate_left 1
 ·intro w hSw; (try dsimp only at hSw); go_simp; (first | done | with_reducible rfl)
 try simp only [Act.put, qI, qX, qY]
 refine anyT_takeA (i := 2) (v := ?_) (by simp only [qA, qS, qZ]; rfl) (by kernel_rfl) (by kernel_rfl) (by kernel_rfl) (by kernel_rfl) (fun _ _ _ h => h) (Or.inl ⟨by rfl, ?_⟩) (HAf.out _ hk0) (Or.inr trivial) ?_
 rotate_left 1
 ·intro w hSw; (try dsimp only at hSw); go_simp; (first | done | with_reducible rfl)
 try simp only [Act.put, qI, qX, qY]
 refine anyT_ready (rs := [3]) (by kernel_rfl) (by simp) ?_
 refine AllReadyT.cons (by simp only [qA, qS, qZ]; rfl) (fun K hK => ?_) AllReadyT.nil
 go_simp
 refine (HH.out _).mono ?_
 rintro e w2 ⟨rfl, hb2⟩
 have hx2 := below_from hd hb2
 have hk2 : KeepT B W w2 := hk1.trans (KeepT.of hx2)
 refine hK.out _ _ (HAf.out _ hk2) (Or.inr trivial) ?_
 clear hK K
 try simp only [Act.put, qI, qX, qY]
 refine anyT_takeA (i := 4) (v := ?_) (by simp only [qA, qS, qZ]; rfl) (by kernel_rfl) (by kernel_rfl) (by kernel_rfl) (by kernel_rfl) (fun _ _ _ h => h) (Or.inl ⟨by rfl, ?_⟩) (HAf.out _ hk2) (Or.inr trivial) ?_
 rotate_left 1
 ·intro w hSw; (try dsimp only at hSw); go_simp; (first | done | with_reducible rfl)
 try simp only [Act.put, qI, qX, qY]
 refine anyT_takeA (i := 5) (v := ?_) (by simp only [qA, qS, qZ]; rfl) (by kernel_rfl) (by kernel_rfl) (by kernel_rfl) (by kernel_rfl) (fun _ _ _ h => h) (Or.inl ⟨by rfl, ?_⟩) (HAf.out _ hk2) (Or.inr trivial) ?_
 rotate_left 1
 ·intro w hSw; (try dsimp only at hSw); go_simp; (first | done | with_reducible rfl)
 try simp only [Act.put, qI, qX, qY]
 refine anyT_takeA (i := 6) (v := ?_) (by simp only [qA, qS, qZ]; rfl) (by kernel_rfl) (by kernel_rfl) (by kernel_rfl) (by kernel_rfl) (fun _ _ _ h => h) (Or.inl ⟨by rfl, ?_⟩) (HAf.out _ hk2) (Or.inr trivial) ?_
 rotate_left 1
 ·intro w hSw; (try dsimp only at hSw); go_simp; (first | done | with_reducible rfl)
 try simp only [Act.put, qI, qX, qY]
 refine anyT_takeA (i := 7) (v := ?_) (by simp only [qA, qS, qZ]; rfl) (by kernel_rfl) (by kernel_rfl) (by kernel_rfl) (by kernel_rfl) (fun _ _ _ h => h) (Or.inl ⟨by rfl, ?_⟩) (HAf.out _ hk2) (Or.inr trivial) ?_
 rotate_left 1
 ·intro w hSw; (try dsimp only at hSw); go_simp; (first | done | with_reducible rfl)
 try simp only [Act.put, qI, qX, qY]
 obtain ⟨p2, f2⟩ := blk ((hx2.block _ hB1z).trans HB1.out)
 refine anyT_ready (rs := [8]) (by kernel_rfl) (by simp) ?_
 refine AllReadyT.cons (by simp only [qA, qS, qZ]; rfl) (fun K hK => ?_) AllReadyT.nil
 go_simp
 have hk3 : KeepT B W (w2.setCell ⟨B, 2, none⟩ (.int .i64 (headT n.tag))) := hk2.trans (KeepT.set _ _ _)
 refine hK.out _ _ (HAf.out _ hk3) (Or.inl (by rfl)) ?_
 clear hK K
 refine anyT_done (by kernel_rfl) ?_ _
 refine NoPanic.normal ?_
 have hV3 := (HV1.out.below hx2).setKind (headT n.tag)
 obtain ⟨X3, hX3⟩ : ∃ X, w2.setCell ⟨B, 2, none⟩ (.int .i64 (headT n.tag)) = X := ⟨_, rfl⟩
 rw [hX3] at hk3 hV3 ⊢
 have g5 := HG.out.keep hk3 hBz
 obtain ⟨s3, t3⟩ := blk g5.z3
 obtain ⟨s4, t4⟩ := blk g5.z4
 obtain ⟨s5, t5⟩ := blk g5.z5
 have ho1 := opw_close HAr.out.2
 clear hX3 p2 f2 g5
 go_upto_region 4 with (go_at_call 99; refine (HK.out _ _ _ _ hk3 hV3 HAr.out.1 ho1 rfl).mono ?_; rintro e w6 ⟨⟨u, rfl⟩, hv6, hk6⟩)
 obtain ⟨kk, hkk⟩ : ∃ q, kidsV n.kids 0 { a with kind := headT n.tag } p { s with opn := false } = q := ⟨_, rfl⟩
 rw [hkk] at hv6 HCap
 have hk36 := hk3.trans hk6
 have g6 := HG.out.keep hk36 hBz
 obtain ⟨va6, vc6, na6, nc6, hlv6, hB6⟩ := hv6.open
 cases hlv6
 obtain ⟨p6, f6⟩ := blk hB6
 obtain ⟨r3, y3⟩ := blk g6.z3
 have HV6 := Lib.hid hv6
 have HK36 := Lib.hid hk36
 have HG6 := Lib.hid g6
 have HKK := Lib.hid hkk
 clear s3 t3 s4 t4 s5 t5 hkk hv6 hB6 g6 hk6 hk36
 by_cases hle : kk.lines.length = s.lines.length
 ·have hbq : ((kk.lines.length : Int) == (s.lines.length : Int)) = true := beq_iff_eq.2 (by omega)
  have HLE := Lib.hid hle
  clear hle
  have HBg := Lib.hid (begin_any B { a with kind := headT n.tag } _ kk w6 HV6.out (by have := HCap.out; unfold capV at this; omega) (Nat.le_trans HAr.out.1.2.2 (by decide)))
  go_wp2_with (go_at_call 64; refine HBg.out.mono ?_; rintro e w7 ⟨⟨u, rfl⟩, hv7, hk7⟩; obtain ⟨va7, vc7, na7, nc7, hlv7, hB7⟩ := hv7.open; obtain ⟨p7, f7⟩ := blk hB7; have g7 := HG6.out.keep hk7 HV6.out.lt; obtain ⟨z3, zz3⟩ := blk g7.z3)
  go_returns
  rw [lineE_pos HKK.out HLE.out]
  exact ⟨⟨_, rfl⟩, ⟨_, _, hv7.setOpn false⟩, (HK36.out.trans hk7).trans (KeepT.set _ _ _)⟩
 ·have hbq : ((kk.lines.length : Int) == (s.lines.length : Int)) = false := beq_eq_false_iff_ne.2 (by omega)
  have HLE := Lib.hid hle
  clear hle
  go_wp2_with fail
  go_returns
  rw [lineE_neg HKK.out HLE.out]
  exact ⟨⟨_, rfl⟩, ⟨_, _, HV6.out.setOpn false⟩, HK36.out.trans (KeepT.set _ _ _)⟩
set_option maxRecDepth 100000 in
set_option maxHeartbeats 4000000 in
theorem bxx_any (h : Nat) (hk : KidsAt h) (n : Nod) (na nk pv : Value) (p : Plc) (B Z3 Z4 Z5 : Nat) (a : Aro) (lv : Value) (s : VSt) (W w0 : World) (S S' : Nat → Prop) (hg : Given h n na nk pv p B Z3 Z4 Z5 W w0 S S') (hV : VwR B W a lv s) (ha : ArW a) (ho : OpW s) (hav : AvN n) (hc : capV s + capM n ≤ 3900000) (ht : -100 ≤ n.tag ∧ n.tag ≤ 100) :
  Calls Tryz.prog 102 #[.pointer (some ⟨Z3, 0, none⟩), .pointer (some ⟨Z4, 0, none⟩), .pointer (some ⟨Z5, 0, none⟩)] W fun e w' => (∃ u, e = .returned u) ∧ (∃ a' lv', VwR B w' a' lv' ({ (kidsV n.kids 0 (boxA n.tag a) p { s with opn := false }) with opn := false })) ∧ KeepT B W w' := by
 have hBz := hV.lt
 obtain ⟨la, lc, rfl⟩ := hg.atts.slice
 obtain ⟨ka, kc, rfl⟩ := hg.kids.slice
 have HK : Hid (∀ (X : World) (a' : Aro) (lv' : Value) (t : VSt), KeepT B W X → VwR B X a' lv' t → ArW a' → OpW t → capV t = capV s → Calls Tryz.prog 99 #[.pointer (some ⟨B, 0, none⟩), .agg #[.int .i64 n.tag, .slice la n.attrs.length lc, .string ⟨n.text.toArray⟩, .slice ka n.kids.length kc], pv] X fun e w' => (∃ u, e = .returned u) ∧ VwR B w' a' lv' (kidsV n.kids 0 a' p t) ∧ KeepT B X w') := Lib.hid fun X a' lv' t hX hVt hat hot hct => by
  have g := hg.keep hX hBz
  have h1 := cap_parts n
  exact hk n _ _ pv p B a' lv' t X w0 S S' g.atts g.kids g.env g.below g.le hVt hat hot (av_parts hav).2 (by rw [hct]; omega) g.plc
 obtain ⟨va, vc, na, nc, rfl, hB⟩ := hV.open
 have HG := Lib.hid hg
 have HV := Lib.hid hV
 have HAr := Lib.hid (And.intro ha ho)
 obtain ⟨p1, f1⟩ := blk hB
 obtain ⟨q3, g3⟩ := blk hg.z3
 obtain ⟨q4, g4⟩ := blk hg.z4
 have hne : ¬ Z3 = B := hg.n3
 have hne2 : ¬ B = Z3 := fun e => hne e.symm
 have hne4 : ¬ Z4 = B := hg.n4
 have hne5 : ¬ B = Z4 := fun e => hne4 e.symm
 have hk1 : KeepT B W (W.setCell ⟨B, 8, none⟩ (.bool false)) := KeepT.set _ _ _
 have HV1 := Lib.hid (hV.setOpn false)
 have ho1 := opw_close ho
 have HBx := Lib.hid (box_any B a _ _ n.tag _ HV1.out ha ht)
 clear hg hV ha ho hav hc hB hk ht
 go_enter Tryz.func102, Tryz.ntmps102
 go_upto_region 2 with (go_at_call 103; refine HBx.out.mono ?_; rintro e w2 ⟨⟨u, rfl⟩, ⟨lv2, hv2⟩, hk2⟩)
 have hk12 := hk1.trans hk2
 have g2 := HG.out.keep hk12 hBz
 obtain ⟨s3, t3⟩ := blk g2.z3
 obtain ⟨s4, t4⟩ := blk g2.z4
 obtain ⟨s5, t5⟩ := blk g2.z5
 have har := arw_box n.tag HAr.out.1
 clear p1 f1 q3 g3 q4 g4 hne hne2 hne4 hne5 g2
 go_upto_region 3 with (go_at_call 99; refine (HK.out _ _ _ _ hk12 hv2 har ho1 rfl).mono ?_; rintro e w6 ⟨⟨u, rfl⟩, hv6, hk6⟩)
 have hk36 := hk12.trans hk6
 have g6 := HG.out.keep hk36 hBz
 obtain ⟨va6, vc6, na6, nc6, hlv6, hB6⟩ := hv6.open
 obtain ⟨p6, f6⟩ := blk hB6
 obtain ⟨r3, y3⟩ := blk g6.z3
 clear s3 t3 s4 t4 s5 t5
 go_wp2_with fail
 go_returns
 exact ⟨⟨_, rfl⟩, ⟨_, _, hv6.setOpn false⟩, hk36.trans (KeepT.set _ _ _)⟩
end Go.Proofs.YtjpgffihafknlaaGreatDoor
