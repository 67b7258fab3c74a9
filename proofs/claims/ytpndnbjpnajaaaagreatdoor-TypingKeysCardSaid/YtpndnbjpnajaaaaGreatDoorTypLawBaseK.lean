/- What styling does: styling.Toggle. -/
import Derived.Test.YtpndnbjpnajaaaaGreatDoorTypTextK
import Derived.Test.YtpndnbjpnajaaaaGreatDoorKeys3K
import Derived.Test.YtpndnbjpnajaaaaGreatDoorDocPartK
import Derived.Test.YtpndnbjpnajaaaaGreatDoorReplaceK
import Derived.Test.YtpndnbjpnajaaaaGreatDoorOwnK
set_option linter.unusedVariables false
set_option linter.unusedSimpArgs false
namespace Go.Proofs.YtpndnbjpnajaaaaGreatDoor
open Go.RowKit
open Go.Proofs.Qw
attribute [local go_sem] Oper.semAt_some
theorem set_st (w : World) (B : Nat) {x0 x1 x2 x3 x4 x5 x6 : Value} {t : TypeId} (h : w.heap[B]? = some (.cells #[x0, x1, x2, x3, x4, x5, x6] t)) (a b c d e f g : Value) :
  ∃ W, ((((((w.setCell ⟨B, 0, none⟩ a).setCell ⟨B, 1, none⟩ b).setCell ⟨B, 2, none⟩ c).setCell ⟨B, 3, none⟩ d).setCell ⟨B, 4, none⟩ e).setCell ⟨B, 5, none⟩ f).setCell ⟨B, 6, none⟩ g = W ∧
   W.heap[B]? = some (.cells #[a, b, c, d, e, f, g] t) ∧ (∀ n, n ≤ B → Below n w W) ∧ (∀ k, k ≠ B → W.heap[k]? = w.heap[k]?) ∧ W.heap.size = w.heap.size :=
 ⟨_, rfl, by simp [heap_set, putIn, h], fun n hn => (((((((Below.refl _ _).setCell hn _).setCell hn _).setCell hn _).setCell hn _).setCell hn _).setCell hn _).setCell hn _, fun k hk => by simp [heap_set, Ne.symm hk], by simp⟩
theorem slice_blk {α : Type} {t : TypeId} {k : Nat} {enc : α → List Value} (hk : ∀ x, (enc x).length = k) {w : World} {S : Nat → Prop} {b : Nat} (xs : List α) (h : w.heap[b]? = some (.cells (xs.map enc).flatten.toArray t)) (hS : S b) (hm : xs.length ≤ maxLen) {u : TypeId} :
  SliceR u k (rdOf enc) false w S (.slice (some ⟨b, 0, none⟩) xs.length xs.length) xs := by
 refine ⟨_, xs.length, rfl, Nat.le_refl _, hm, .inr ⟨b, 0, rfl, hS, (Array.getElem?_eq_some_iff.1 h).1, fun h => (by cases h), fun i x hx => ⟨enc x, hk x, rfl, fun j u hu => ?_⟩⟩⟩
 rw [cell_of_heap h, Nat.zero_add, List.getElem?_toArray]
 exact flatten_at (xs.map enc) i (enc x) j u (by simp; intro a _; exact hk a) (by rw [List.getElem?_map, hx]; rfl) hu
end Go.Proofs.YtpndnbjpnajaaaaGreatDoor
namespace Go.Proofs.YtpndnbjpnajaaaaGreatDoor
open Go.RowKit
open Go.Proofs.Qw
attribute [local go_sem] Oper.semAt_some
theorem on1g {w : World} {B : Nat} {cs : Array Value} {t : TypeId} (h : w.heap[B]? = some (.cells cs t)) : ∀ X k, (w.alloc X).frozen? ⟨B, k, none⟩ = false := fun X _ => frozen_of_heap (heap_old _ X h)
set_option maxRecDepth 100000 in
set_option maxHeartbeats 8000000 in
theorem awake23_any (w : World) (he : EnvT w) : Calls Tryz.prog 44 #[] w fun e w' => e = .returned (.bool true) ∧ Below w.heap.size w w' := by
 obtain ⟨W1, hW1⟩ : ∃ W1, (((w.alloc (.cells #[.int .i32 97, .int .i64 0, .string ⟨#[]⟩, .int .i32 98, .int .i64 0, .string ⟨#[]⟩] 44)).alloc (.cells #[.int .i64 0] 3)).alloc (.cells #[.int .i64 0, .slice none 0 0, .int .i64 0, .slice (some ⟨w.heap.size, 0, none⟩) 2 2, .int .i64 0, .slice (some ⟨w.heap.size + 1, 0, none⟩) 1 1, .int .i64 0, .slice none 0 0] 42)).alloc (.cells #[.slice (some ⟨w.heap.size + 1 + 1, 0, none⟩) 2 2, .int .i64 0, .int .i64 1, .int .i64 0, .int .i64 1, .int .i64 0, .int .i64 0] 26) = W1 := ⟨_, rfl⟩
 have hB : Below w.heap.size w W1 := hW1 ▸ below1 (below3 (Below.refl _ _) _ _ _) _
 have hz : w.heap.size + 4 = W1.heap.size := by rw [← hW1]; simp
 have k0 : W1.heap[w.heap.size]? = some (.cells #[.int .i32 97, .int .i64 0, .string ⟨#[]⟩, .int .i32 98, .int .i64 0, .string ⟨#[]⟩] 44) := hW1 ▸ heap_old _ _ (heap_old _ _ (heap_old _ _ (heap_new _ _ rfl)))
 have k1 : W1.heap[w.heap.size + 1]? = some (.cells #[.int .i64 0] 3) := hW1 ▸ heap_old _ _ (heap_old _ _ (heap_new _ _ (by simp)))
 have k2 : W1.heap[w.heap.size + 1 + 1]? = some (.cells #[.int .i64 0, .slice none 0 0, .int .i64 0, .slice (some ⟨w.heap.size, 0, none⟩) 2 2, .int .i64 0, .slice (some ⟨w.heap.size + 1, 0, none⟩) 1 1, .int .i64 0, .slice none 0 0] 42) := hW1 ▸ heap_old _ _ (heap_new _ _ (by simp))
 have k3 : W1.heap[w.heap.size + 1 + 1 + 1]? = some (.cells #[.slice (some ⟨w.heap.size + 1 + 1, 0, none⟩) 2 2, .int .i64 0, .int .i64 1, .int .i64 0, .int .i64 1, .int .i64 0, .int .i64 0] 26) := hW1 ▸ heap_new _ _ (by simp)
 have hd0 : LinsR W1 (fun b => b < w.heap.size + 3) (.slice (some ⟨w.heap.size + 1 + 1, 0, none⟩) 2 2) exT0 := by
  refine ⟨_, 2, rfl, Nat.le_refl _, by decide, .inr ⟨w.heap.size + 1 + 1, 0, rfl, (by show w.heap.size + 1 + 1 < w.heap.size + 3; omega), by omega, fun h => (by cases h), fun i x hx => ?_⟩⟩
  match i, hx with
  | 0, hx =>
   cases hx
   exact ⟨[.int .i64 0, .slice none 0 0, .int .i64 0, .slice (some ⟨w.heap.size, 0, none⟩) 2 2], rfl, ⟨.slice none 0 0, _, rfl, SliceR.nil _ _ _ _ _ _, slice_blk (enc := encCel) (fun _ => rfl) [exRc 97, exRc 98] k0 (by show w.heap.size < w.heap.size + 3; omega) (by decide)⟩, fun j u hu => by
    rw [cell_of_heap k2, Nat.zero_mul, Nat.zero_add]
    match j, hu with
    | 0, hu => exact hu
    | 1, hu => exact hu
    | 2, hu => exact hu
    | 3, hu => exact hu⟩
  | 1, hx =>
   cases hx
   exact ⟨[.int .i64 0, .slice (some ⟨w.heap.size + 1, 0, none⟩) 1 1, .int .i64 0, .slice none 0 0], rfl, ⟨_, .slice none 0 0, rfl, slice_blk (enc := encInt) (fun _ => rfl) [0] k1 (by show w.heap.size + 1 < w.heap.size + 3; omega) (by decide), SliceR.nil _ _ _ _ _ _⟩, fun j u hu => by
    rw [cell_of_heap k2]
    match j, hu with
    | 0, hu => exact hu
    | 1, hu => exact hu
    | 2, hu => exact hu
    | 3, hu => exact hu⟩
 have hs1 := hB.size
 have HE : Hid (∀ W, Below w.heap.size w W → EnvT W) := Lib.hid fun W hW => he.below hW
 have HB1 := Lib.hid hB
 have HD1 := Lib.hid hd0
 have HK1 := Lib.hid k3
 have HS1 : Hid (w.heap.size + 4 ≤ W1.heap.size) := Lib.hid (by omega)
 have HW1 := Lib.hid hW1
 have hsm0 := may_small ex0_may
 have hsma := may_small exa_may
 clear he hd0 k0 k1 k2 k3 hB hW1
 go_enter Tryz.func44, Tryz.ntmps44
 go_wp2_with fail
 rw [HW1.out]
 have HC2 : Hid (Calls Tryz.prog 54 #[.agg #[.slice (some ⟨w.heap.size + 1 + 1, 0, none⟩) 2 2, .int .i64 0, .int .i64 1, .int .i64 0, .int .i64 1, .int .i64 0, .int .i64 0], .string ⟨#[120, 121]⟩] W1 (StSaid ((⟨exTa, ⟨0, 3⟩, ⟨0, 3⟩, 0, 0⟩, 0)) W1)) := Lib.hid (by
  have := typText_any (.slice (some ⟨w.heap.size + 1 + 1, 0, none⟩) 2 2) exS1 ⟨#[120, 121]⟩ W1 _ HD1.out (HE.out _ HB1.out) hsm0.1 hsm0.2 (by decide)
  rw [ex_text] at this
  exact this)
 refine HC2.out.mono ?_
 intro e w2 hsaid
 obtain ⟨v2, rfl, hv2, hst2⟩ := hsaid
 obtain ⟨x2, y2, hve2⟩ := hv2.slice
 have hve2 : v2 = .slice x2 2 y2 := hve2
 subst hve2
 have HB20 : Hid (Below w.heap.size w w2) := Lib.hid (below_from HB1.out hst2)
 have HK20 := Lib.hid (heap_below hst2 HK1.out)
 have HD20 := Lib.hid (HD1.out.below (rdLin_stable _) hst2)
 have HS20 := Lib.hid (Nat.le_trans HS1.out hst2.size)
 have HR2_20 := Lib.hid hv2
 clear hv2
 obtain ⟨q2, g2⟩ := blk HK20.out
 have r2 := on1 HK20.out
 have u2 := on1g HK20.out
 have e2 : ¬ w2.heap.size = w.heap.size + 1 + 1 + 1 := by have := HS20.out; omega
 go_upto_region 3 with fail
 obtain ⟨m2, hm2⟩ : ∃ m2, w2.alloc (.cells #[.slice x2 2 y2, .int .i64 0, .int .i64 3, .int .i64 0, .int .i64 3, .int .i64 0, .int .i64 0] 26) = m2 := ⟨_, rfl⟩
 rw [hm2]
 have hbm2 : Below w2.heap.size w2 m2 := hm2 ▸ below1 (Below.refl _ _) _
 have HN2_2 : Hid (m2.heap[w2.heap.size]? = some (.cells #[.slice x2 2 y2, .int .i64 0, .int .i64 3, .int .i64 0, .int .i64 3, .int .i64 0, .int .i64 0] 26)) := Lib.hid (hm2 ▸ heap_new _ _ rfl)
 have HB2 := Lib.hid (below_from HB20.out hbm2)
 have HK2 := Lib.hid (heap_below hbm2 HK20.out)
 have HD2 := Lib.hid (HD20.out.below (rdLin_stable _) hbm2)
 have HS2 := Lib.hid (Nat.le_trans HS20.out hbm2.size)
 have HR2_2 := Lib.hid (HR2_20.out.below hbm2)
 clear hbm2 hm2 q2 g2 r2 u2 e2 hst2
 obtain ⟨j2, l2⟩ := blk HN2_2.out
 go_wp2_with fail
 have HC3 : Hid (Calls Tryz.prog 50 #[.agg #[.slice x2 2 y2, .int .i64 0, .int .i64 3, .int .i64 0, .int .i64 3, .int .i64 0, .int .i64 0]] m2 (StSaid ((⟨exTb, ⟨0, 2⟩, ⟨0, 2⟩, 0, 0⟩, 0)) m2)) := Lib.hid (by
  have := typBack_any _ exSa m2 _ HR2_2.out.read (HE.out _ HB2.out) hsma.1 hsma.2
  rw [ex_back] at this
  exact this)
 refine HC3.out.mono ?_
 intro e w3 hsaid
 obtain ⟨v3, rfl, hv3, hst3⟩ := hsaid
 obtain ⟨x3, y3, hve3⟩ := hv3.slice
 have hve3 : v3 = .slice x3 2 y3 := hve3
 subst hve3
 have HB30 : Hid (Below w.heap.size w w3) := Lib.hid (below_from HB2.out hst3)
 have HK30 := Lib.hid (heap_below hst3 HK2.out)
 have HD30 := Lib.hid (HD2.out.below (rdLin_stable _) hst3)
 have HS30 := Lib.hid (Nat.le_trans HS2.out hst3.size)
 have HR3_30 := Lib.hid hv3
 have HR2_30 := Lib.hid (HR2_2.out.below hst3)
 have HN2_30 := Lib.hid (heap_below hst3 HN2_2.out)
 clear hv3
 obtain ⟨q3, g3⟩ := blk HK30.out
 have r3 := on1 HK30.out
 have u3 := on1g HK30.out
 have e3 : ¬ w3.heap.size = w.heap.size + 1 + 1 + 1 := by have := HS30.out; omega
 go_upto_region 4 with fail
 obtain ⟨m3, hm3⟩ : ∃ m3, w3.alloc (.cells #[.slice x3 2 y3, .int .i64 0, .int .i64 2, .int .i64 0, .int .i64 2, .int .i64 0, .int .i64 0] 26) = m3 := ⟨_, rfl⟩
 rw [hm3]
 have hbm3 : Below w3.heap.size w3 m3 := hm3 ▸ below1 (Below.refl _ _) _
 have HN3_3 : Hid (m3.heap[w3.heap.size]? = some (.cells #[.slice x3 2 y3, .int .i64 0, .int .i64 2, .int .i64 0, .int .i64 2, .int .i64 0, .int .i64 0] 26)) := Lib.hid (hm3 ▸ heap_new _ _ rfl)
 have HB3 := Lib.hid (below_from HB30.out hbm3)
 have HK3 := Lib.hid (heap_below hbm3 HK30.out)
 have HD3 := Lib.hid (HD30.out.below (rdLin_stable _) hbm3)
 have HS3 := Lib.hid (Nat.le_trans HS30.out hbm3.size)
 have HR3_3 := Lib.hid (HR3_30.out.below hbm3)
 have HR2_3 := Lib.hid (HR2_30.out.below hbm3)
 have HN2_3 := Lib.hid (heap_below hbm3 HN2_30.out)
 clear hbm3 hm3 q3 g3 r3 u3 e3 hst3
 clear j2 l2
 obtain ⟨j3, l3⟩ := blk HK3.out
 go_wp2_with fail
 have HC4 : Hid (Calls Tryz.prog 48 #[.agg #[.slice (some ⟨w.heap.size + 1 + 1, 0, none⟩) 2 2, .int .i64 0, .int .i64 1, .int .i64 0, .int .i64 1, .int .i64 0, .int .i64 0]] m3 (StSaid ((⟨exTc, ⟨1, 0⟩, ⟨1, 0⟩, 0, 0⟩, 0)) m3)) := Lib.hid (by
  have := typParagraph_any (.slice (some ⟨w.heap.size + 1 + 1, 0, none⟩) 2 2) exS1 m3 _ HD3.out (HE.out _ HB3.out) hsm0.1 hsm0.2
  rw [ex_para] at this
  exact this)
 refine HC4.out.mono ?_
 intro e w4 hsaid
 obtain ⟨v4, rfl, hv4, hst4⟩ := hsaid
 obtain ⟨x4, y4, hve4⟩ := hv4.slice
 have hve4 : v4 = .slice x4 3 y4 := hve4
 subst hve4
 have HB40 : Hid (Below w.heap.size w w4) := Lib.hid (below_from HB3.out hst4)
 have HK40 := Lib.hid (heap_below hst4 HK3.out)
 have HD40 := Lib.hid (HD3.out.below (rdLin_stable _) hst4)
 have HS40 := Lib.hid (Nat.le_trans HS3.out hst4.size)
 have HR4_40 := Lib.hid hv4
 have HR2_40 := Lib.hid (HR2_3.out.below hst4)
 have HN2_40 := Lib.hid (heap_below hst4 HN2_3.out)
 have HR3_40 := Lib.hid (HR3_3.out.below hst4)
 have HN3_40 := Lib.hid (heap_below hst4 HN3_3.out)
 clear hv4
 obtain ⟨q4, g4⟩ := blk HK40.out
 have r4 := on1 HK40.out
 have u4 := on1g HK40.out
 have e4 : ¬ w4.heap.size = w.heap.size + 1 + 1 + 1 := by have := HS40.out; omega
 go_upto_region 5 with fail
 obtain ⟨m4, hm4⟩ : ∃ m4, w4.alloc (.cells #[.slice x4 3 y4, .int .i64 1, .int .i64 0, .int .i64 1, .int .i64 0, .int .i64 0, .int .i64 0] 26) = m4 := ⟨_, rfl⟩
 rw [hm4]
 have hbm4 : Below w4.heap.size w4 m4 := hm4 ▸ below1 (Below.refl _ _) _
 have HN4_4 : Hid (m4.heap[w4.heap.size]? = some (.cells #[.slice x4 3 y4, .int .i64 1, .int .i64 0, .int .i64 1, .int .i64 0, .int .i64 0, .int .i64 0] 26)) := Lib.hid (hm4 ▸ heap_new _ _ rfl)
 have HB4 := Lib.hid (below_from HB40.out hbm4)
 have HK4 := Lib.hid (heap_below hbm4 HK40.out)
 have HD4 := Lib.hid (HD40.out.below (rdLin_stable _) hbm4)
 have HS4 := Lib.hid (Nat.le_trans HS40.out hbm4.size)
 have HR4_4 := Lib.hid (HR4_40.out.below hbm4)
 have HR2_4 := Lib.hid (HR2_40.out.below hbm4)
 have HN2_4 := Lib.hid (heap_below hbm4 HN2_40.out)
 have HR3_4 := Lib.hid (HR3_40.out.below hbm4)
 have HN3_4 := Lib.hid (heap_below hbm4 HN3_40.out)
 clear hbm4 hm4 q4 g4 r4 u4 e4 hst4
 clear j3 l3
 obtain ⟨j4, l4⟩ := blk HK4.out
 go_upto_region 6 with fail
 obtain ⟨m5, hm5⟩ : ∃ m5, ((m4).setCell ⟨w.heap.size + 1 + 1 + 1, 3, none⟩ (.int .i64 1)).setCell ⟨w.heap.size + 1 + 1 + 1, 4, none⟩ (.int .i64 0) = m5 := ⟨_, rfl⟩
 rw [hm5]
 have o5 : ∀ k, k ≠ w.heap.size + 1 + 1 + 1 → m5.heap[k]? = m4.heap[k]? := fun k hk => by rw [← hm5, heap_set, if_neg (Ne.symm hk), heap_set, if_neg (Ne.symm hk)]
 have z5 : m5.heap.size = m4.heap.size := by rw [← hm5]; simp
 have HB5 : Hid (Below w.heap.size w m5) := Lib.hid (hm5 ▸ (HB4.out.setCell (by show w.heap.size ≤ w.heap.size + 1 + 1 + 1; omega) _).setCell (by show w.heap.size ≤ w.heap.size + 1 + 1 + 1; omega) _)
 have HK5 : Hid (m5.heap[w.heap.size + 1 + 1 + 1]? = some (.cells #[.slice (some ⟨w.heap.size + 1 + 1, 0, none⟩) 2 2, .int .i64 0, .int .i64 1, .int .i64 1, .int .i64 0, .int .i64 0, .int .i64 0] 26)) := Lib.hid (by rw [← hm5, heap_set, if_pos rfl, heap_set, if_pos rfl, HK4.out]; rfl)
 have HD5 := Lib.hid (SliceR.stable (rdLin_stable false) HD4.out ⟨by omega, fun b hb _ => o5 b (by have hb : b < w.heap.size + 3 := hb; omega)⟩ (fun b h _ => h))
 have HS5 : Hid (w.heap.size + 4 ≤ m5.heap.size) := Lib.hid (by have := HS4.out; omega)
 have HR2_5 : Hid (DocR true m5 (fun b => W1.heap.size ≤ b) (.slice x2 2 y2) (exTa)) := Lib.hid (SliceR.stable (rdLin_stable true) HR2_4.out ⟨by omega, fun b hb _ => o5 b (by have hb : W1.heap.size ≤ b := hb; have := HS1.out; omega)⟩ (fun b h _ => h))
 have HN2_5 := Lib.hid ((o5 w2.heap.size (by have := HS20.out; omega)).trans HN2_4.out)
 have HR3_5 : Hid (DocR true m5 (fun b => m2.heap.size ≤ b) (.slice x3 2 y3) (exTb)) := Lib.hid (SliceR.stable (rdLin_stable true) HR3_4.out ⟨by omega, fun b hb _ => o5 b (by have hb : m2.heap.size ≤ b := hb; have := HS2.out; omega)⟩ (fun b h _ => h))
 have HN3_5 := Lib.hid ((o5 w3.heap.size (by have := HS30.out; omega)).trans HN3_4.out)
 have HR4_5 : Hid (DocR true m5 (fun b => m3.heap.size ≤ b) (.slice x4 3 y4) (exTc)) := Lib.hid (SliceR.stable (rdLin_stable true) HR4_4.out ⟨by omega, fun b hb _ => o5 b (by have hb : m3.heap.size ≤ b := hb; have := HS3.out; omega)⟩ (fun b h _ => h))
 have HN4_5 := Lib.hid ((o5 w4.heap.size (by have := HS40.out; omega)).trans HN4_4.out)
 clear hm5 o5 z5
 clear j4 l4
 obtain ⟨j5, l5⟩ := blk HK5.out
 go_wp2_with fail
 have HC6 : Hid (Calls Tryz.prog 45 #[.agg #[.slice (some ⟨w.heap.size + 1 + 1, 0, none⟩) 2 2, .int .i64 0, .int .i64 1, .int .i64 1, .int .i64 0, .int .i64 0, .int .i64 0]] m5 (StSaid ((⟨exTd, ⟨0, 1⟩, ⟨0, 1⟩, 0, 0⟩, 0)) m5)) := Lib.hid (by
  have := typErase_any (.slice (some ⟨w.heap.size + 1 + 1, 0, none⟩) 2 2) exS2 m5 _ HD5.out (HE.out _ HB5.out) hsm0.1 hsm0.2
  rw [ex_erase] at this
  exact this)
 refine HC6.out.mono ?_
 intro e w6 hsaid
 obtain ⟨v6, rfl, hv6, hst6⟩ := hsaid
 obtain ⟨x6, y6, hve6⟩ := hv6.slice
 have hve6 : v6 = .slice x6 1 y6 := hve6
 subst hve6
 have HB60 : Hid (Below w.heap.size w w6) := Lib.hid (below_from HB5.out hst6)
 have HK60 := Lib.hid (heap_below hst6 HK5.out)
 have HD60 := Lib.hid (HD5.out.below (rdLin_stable _) hst6)
 have HS60 := Lib.hid (Nat.le_trans HS5.out hst6.size)
 have HR6_60 := Lib.hid hv6
 have HR2_60 := Lib.hid (HR2_5.out.below hst6)
 have HN2_60 := Lib.hid (heap_below hst6 HN2_5.out)
 have HR3_60 := Lib.hid (HR3_5.out.below hst6)
 have HN3_60 := Lib.hid (heap_below hst6 HN3_5.out)
 have HR4_60 := Lib.hid (HR4_5.out.below hst6)
 have HN4_60 := Lib.hid (heap_below hst6 HN4_5.out)
 clear hv6
 obtain ⟨q6, g6⟩ := blk HK60.out
 have r6 := on1 HK60.out
 have u6 := on1g HK60.out
 have e6 : ¬ w6.heap.size = w.heap.size + 1 + 1 + 1 := by have := HS60.out; omega
 go_upto_region 7 with fail
 obtain ⟨m6, hm6⟩ : ∃ m6, w6.alloc (.cells #[.slice x6 1 y6, .int .i64 0, .int .i64 1, .int .i64 0, .int .i64 1, .int .i64 0, .int .i64 0] 26) = m6 := ⟨_, rfl⟩
 rw [hm6]
 have hbm6 : Below w6.heap.size w6 m6 := hm6 ▸ below1 (Below.refl _ _) _
 have HN6_6 : Hid (m6.heap[w6.heap.size]? = some (.cells #[.slice x6 1 y6, .int .i64 0, .int .i64 1, .int .i64 0, .int .i64 1, .int .i64 0, .int .i64 0] 26)) := Lib.hid (hm6 ▸ heap_new _ _ rfl)
 have HB6 := Lib.hid (below_from HB60.out hbm6)
 have HK6 := Lib.hid (heap_below hbm6 HK60.out)
 have HD6 := Lib.hid (HD60.out.below (rdLin_stable _) hbm6)
 have HS6 := Lib.hid (Nat.le_trans HS60.out hbm6.size)
 have HR6_6 := Lib.hid (HR6_60.out.below hbm6)
 have HR2_6 := Lib.hid (HR2_60.out.below hbm6)
 have HN2_6 := Lib.hid (heap_below hbm6 HN2_60.out)
 have HR3_6 := Lib.hid (HR3_60.out.below hbm6)
 have HN3_6 := Lib.hid (heap_below hbm6 HN3_60.out)
 have HR4_6 := Lib.hid (HR4_60.out.below hbm6)
 have HN4_6 := Lib.hid (heap_below hbm6 HN4_60.out)
 clear hbm6 hm6 q6 g6 r6 u6 e6 hst6
 clear j5 l5
 obtain ⟨j6, l6⟩ := blk HK6.out
 go_upto_region 8 with fail
 obtain ⟨m7, hm7⟩ : ∃ m7, ((m6).setCell ⟨w.heap.size + 1 + 1 + 1, 1, none⟩ (.int .i64 1)).setCell ⟨w.heap.size + 1 + 1 + 1, 2, none⟩ (.int .i64 0) = m7 := ⟨_, rfl⟩
 rw [hm7]
 have o7 : ∀ k, k ≠ w.heap.size + 1 + 1 + 1 → m7.heap[k]? = m6.heap[k]? := fun k hk => by rw [← hm7, heap_set, if_neg (Ne.symm hk), heap_set, if_neg (Ne.symm hk)]
 have z7 : m7.heap.size = m6.heap.size := by rw [← hm7]; simp
 have HB7 : Hid (Below w.heap.size w m7) := Lib.hid (hm7 ▸ (HB6.out.setCell (by show w.heap.size ≤ w.heap.size + 1 + 1 + 1; omega) _).setCell (by show w.heap.size ≤ w.heap.size + 1 + 1 + 1; omega) _)
 have HK7 : Hid (m7.heap[w.heap.size + 1 + 1 + 1]? = some (.cells #[.slice (some ⟨w.heap.size + 1 + 1, 0, none⟩) 2 2, .int .i64 1, .int .i64 0, .int .i64 1, .int .i64 0, .int .i64 0, .int .i64 0] 26)) := Lib.hid (by rw [← hm7, heap_set, if_pos rfl, heap_set, if_pos rfl, HK6.out]; rfl)
 have HD7 := Lib.hid (SliceR.stable (rdLin_stable false) HD6.out ⟨by omega, fun b hb _ => o7 b (by have hb : b < w.heap.size + 3 := hb; omega)⟩ (fun b h _ => h))
 have HS7 : Hid (w.heap.size + 4 ≤ m7.heap.size) := Lib.hid (by have := HS6.out; omega)
 have HR2_7 : Hid (DocR true m7 (fun b => W1.heap.size ≤ b) (.slice x2 2 y2) (exTa)) := Lib.hid (SliceR.stable (rdLin_stable true) HR2_6.out ⟨by omega, fun b hb _ => o7 b (by have hb : W1.heap.size ≤ b := hb; have := HS1.out; omega)⟩ (fun b h _ => h))
 have HN2_7 := Lib.hid ((o7 w2.heap.size (by have := HS20.out; omega)).trans HN2_6.out)
 have HR3_7 : Hid (DocR true m7 (fun b => m2.heap.size ≤ b) (.slice x3 2 y3) (exTb)) := Lib.hid (SliceR.stable (rdLin_stable true) HR3_6.out ⟨by omega, fun b hb _ => o7 b (by have hb : m2.heap.size ≤ b := hb; have := HS2.out; omega)⟩ (fun b h _ => h))
 have HN3_7 := Lib.hid ((o7 w3.heap.size (by have := HS30.out; omega)).trans HN3_6.out)
 have HR4_7 : Hid (DocR true m7 (fun b => m3.heap.size ≤ b) (.slice x4 3 y4) (exTc)) := Lib.hid (SliceR.stable (rdLin_stable true) HR4_6.out ⟨by omega, fun b hb _ => o7 b (by have hb : m3.heap.size ≤ b := hb; have := HS3.out; omega)⟩ (fun b h _ => h))
 have HN4_7 := Lib.hid ((o7 w4.heap.size (by have := HS40.out; omega)).trans HN4_6.out)
 have HR6_7 : Hid (DocR true m7 (fun b => m5.heap.size ≤ b) (.slice x6 1 y6) (exTd)) := Lib.hid (SliceR.stable (rdLin_stable true) HR6_6.out ⟨by omega, fun b hb _ => o7 b (by have hb : m5.heap.size ≤ b := hb; have := HS5.out; omega)⟩ (fun b h _ => h))
 have HN6_7 := Lib.hid ((o7 w6.heap.size (by have := HS60.out; omega)).trans HN6_6.out)
 clear hm7 o7 z7
 clear j6 l6
 obtain ⟨j7, l7⟩ := blk HK7.out
 go_wp2_with fail
 have HC8 : Hid (Calls Tryz.prog 48 #[.agg #[.slice (some ⟨w.heap.size + 1 + 1, 0, none⟩) 2 2, .int .i64 1, .int .i64 0, .int .i64 1, .int .i64 0, .int .i64 0, .int .i64 0]] m7 (StSaid ((⟨exTp, ⟨1, 0⟩, ⟨1, 0⟩, 0, 0⟩, 0)) m7)) := Lib.hid (by
  have := typParagraph_any (.slice (some ⟨w.heap.size + 1 + 1, 0, none⟩) 2 2) exS3 m7 _ HD7.out (HE.out _ HB7.out) hsm0.1 hsm0.2
  rw [ex_out] at this
  exact this)
 refine HC8.out.mono ?_
 intro e w8 hsaid
 obtain ⟨v8, rfl, hv8, hst8⟩ := hsaid
 obtain ⟨x8, y8, hve8⟩ := hv8.slice
 have hve8 : v8 = .slice x8 2 y8 := hve8
 subst hve8
 have HB80 : Hid (Below w.heap.size w w8) := Lib.hid (below_from HB7.out hst8)
 have HK80 := Lib.hid (heap_below hst8 HK7.out)
 have HD80 := Lib.hid (HD7.out.below (rdLin_stable _) hst8)
 have HS80 := Lib.hid (Nat.le_trans HS7.out hst8.size)
 have HR8_80 := Lib.hid hv8
 have HR2_80 := Lib.hid (HR2_7.out.below hst8)
 have HN2_80 := Lib.hid (heap_below hst8 HN2_7.out)
 have HR3_80 := Lib.hid (HR3_7.out.below hst8)
 have HN3_80 := Lib.hid (heap_below hst8 HN3_7.out)
 have HR4_80 := Lib.hid (HR4_7.out.below hst8)
 have HN4_80 := Lib.hid (heap_below hst8 HN4_7.out)
 have HR6_80 := Lib.hid (HR6_7.out.below hst8)
 have HN6_80 := Lib.hid (heap_below hst8 HN6_7.out)
 clear hv8
 obtain ⟨q8, g8⟩ := blk HK80.out
 have r8 := on1 HK80.out
 have u8 := on1g HK80.out
 have e8 : ¬ w8.heap.size = w.heap.size + 1 + 1 + 1 := by have := HS80.out; omega
 go_upto_region 9 with fail
 obtain ⟨m8, hm8⟩ : ∃ m8, w8.alloc (.cells #[.slice x8 2 y8, .int .i64 1, .int .i64 0, .int .i64 1, .int .i64 0, .int .i64 0, .int .i64 0] 26) = m8 := ⟨_, rfl⟩
 rw [hm8]
 have hbm8 : Below w8.heap.size w8 m8 := hm8 ▸ below1 (Below.refl _ _) _
 have HN8_8 : Hid (m8.heap[w8.heap.size]? = some (.cells #[.slice x8 2 y8, .int .i64 1, .int .i64 0, .int .i64 1, .int .i64 0, .int .i64 0, .int .i64 0] 26)) := Lib.hid (hm8 ▸ heap_new _ _ rfl)
 have HB8 := Lib.hid (below_from HB80.out hbm8)
 have HK8 := Lib.hid (heap_below hbm8 HK80.out)
 have HD8 := Lib.hid (HD80.out.below (rdLin_stable _) hbm8)
 have HS8 := Lib.hid (Nat.le_trans HS80.out hbm8.size)
 have HR8_8 := Lib.hid (HR8_80.out.below hbm8)
 have HR2_8 := Lib.hid (HR2_80.out.below hbm8)
 have HN2_8 := Lib.hid (heap_below hbm8 HN2_80.out)
 have HR3_8 := Lib.hid (HR3_80.out.below hbm8)
 have HN3_8 := Lib.hid (heap_below hbm8 HN3_80.out)
 have HR4_8 := Lib.hid (HR4_80.out.below hbm8)
 have HN4_8 := Lib.hid (heap_below hbm8 HN4_80.out)
 have HR6_8 := Lib.hid (HR6_80.out.below hbm8)
 have HN6_8 := Lib.hid (heap_below hbm8 HN6_80.out)
 clear hbm8 hm8 q8 g8 r8 u8 e8 hst8
 clear j7 l7
 obtain ⟨j8, l8⟩ := blk HK8.out
 go_wp2_with fail
 have HC9 : Hid (Calls Tryz.prog 52 #[.agg #[.slice (some ⟨w.heap.size + 1 + 1, 0, none⟩) 2 2, .int .i64 1, .int .i64 0, .int .i64 1, .int .i64 0, .int .i64 0, .int .i64 0]] m8 (StSaid ((⟨[], ⟨0, 0⟩, ⟨0, 0⟩, 0, 0⟩, 7)) m8)) := Lib.hid (by
  have := typForth_any (.slice (some ⟨w.heap.size + 1 + 1, 0, none⟩) 2 2) exS3 m8 _ HD8.out (HE.out _ HB8.out) hsm0.1 hsm0.2
  rw [ex_forth] at this
  exact this)
 refine HC9.out.mono ?_
 intro e w9 hsaid
 obtain ⟨v9, rfl, hv9, hst9⟩ := hsaid
 obtain ⟨x9, y9, hve9⟩ := hv9.slice
 have hve9 : v9 = .slice x9 0 y9 := hve9
 subst hve9
 have HB90 : Hid (Below w.heap.size w w9) := Lib.hid (below_from HB8.out hst9)
 have HK90 := Lib.hid (heap_below hst9 HK8.out)
 have HD90 := Lib.hid (HD8.out.below (rdLin_stable _) hst9)
 have HS90 := Lib.hid (Nat.le_trans HS8.out hst9.size)
 have HR9_90 := Lib.hid hv9
 have HR2_90 := Lib.hid (HR2_8.out.below hst9)
 have HN2_90 := Lib.hid (heap_below hst9 HN2_8.out)
 have HR3_90 := Lib.hid (HR3_8.out.below hst9)
 have HN3_90 := Lib.hid (heap_below hst9 HN3_8.out)
 have HR4_90 := Lib.hid (HR4_8.out.below hst9)
 have HN4_90 := Lib.hid (heap_below hst9 HN4_8.out)
 have HR6_90 := Lib.hid (HR6_8.out.below hst9)
 have HN6_90 := Lib.hid (heap_below hst9 HN6_8.out)
 have HR8_90 := Lib.hid (HR8_8.out.below hst9)
 have HN8_90 := Lib.hid (heap_below hst9 HN8_8.out)
 clear hv9
 obtain ⟨q9, g9⟩ := blk HK90.out
 have r9 := on1 HK90.out
 have u9 := on1g HK90.out
 have e9 : ¬ w9.heap.size = w.heap.size + 1 + 1 + 1 := by have := HS90.out; omega
 go_upto_region 10 with fail
 obtain ⟨m9, hm9⟩ : ∃ m9, w9.alloc (.cells #[.slice x9 0 y9, .int .i64 0, .int .i64 0, .int .i64 0, .int .i64 0, .int .i64 0, .int .i64 0] 26) = m9 := ⟨_, rfl⟩
 rw [hm9]
 have hbm9 : Below w9.heap.size w9 m9 := hm9 ▸ below1 (Below.refl _ _) _
 have HN9_9 : Hid (m9.heap[w9.heap.size]? = some (.cells #[.slice x9 0 y9, .int .i64 0, .int .i64 0, .int .i64 0, .int .i64 0, .int .i64 0, .int .i64 0] 26)) := Lib.hid (hm9 ▸ heap_new _ _ rfl)
 have HB9 := Lib.hid (below_from HB90.out hbm9)
 have HK9 := Lib.hid (heap_below hbm9 HK90.out)
 have HD9 := Lib.hid (HD90.out.below (rdLin_stable _) hbm9)
 have HS9 := Lib.hid (Nat.le_trans HS90.out hbm9.size)
 have HR9_9 := Lib.hid (HR9_90.out.below hbm9)
 have HR2_9 := Lib.hid (HR2_90.out.below hbm9)
 have HN2_9 := Lib.hid (heap_below hbm9 HN2_90.out)
 have HR3_9 := Lib.hid (HR3_90.out.below hbm9)
 have HN3_9 := Lib.hid (heap_below hbm9 HN3_90.out)
 have HR4_9 := Lib.hid (HR4_90.out.below hbm9)
 have HN4_9 := Lib.hid (heap_below hbm9 HN4_90.out)
 have HR6_9 := Lib.hid (HR6_90.out.below hbm9)
 have HN6_9 := Lib.hid (heap_below hbm9 HN6_90.out)
 have HR8_9 := Lib.hid (HR8_90.out.below hbm9)
 have HN8_9 := Lib.hid (heap_below hbm9 HN8_90.out)
 clear hbm9 hm9 q9 g9 r9 u9 e9 hst9
 clear j8 l8
 obtain ⟨q2, g2⟩ := blk HN2_9.out
 obtain ⟨q3, g3⟩ := blk HN3_9.out
 obtain ⟨q4, g4⟩ := blk HN4_9.out
 obtain ⟨q6, g6⟩ := blk HN6_9.out
 obtain ⟨q8, g8⟩ := blk HN8_9.out
 obtain ⟨a', c', ee, h2, h3, hx2⟩ := lins_shape HR2_9.out.read
 have ee : Value.slice x2 2 y2 = .slice a' 2 c' := ee
 injection ee with e1 e2 e3
 subst e1 e3
 obtain ⟨b2, o2, la2, lc2, ca2, cc2, hb2, hA2⟩ := hx2 0 ⟨0, [], 0, [exRc 97, exRc 120, exRc 121, exRc 98]⟩ rfl
 subst hb2
 obtain ⟨_, _, _, _, d3, _, _⟩ := hA2
 rw [Nat.zero_mul, Nat.add_zero] at d3
 simp only [List.length_cons, List.length_nil, Nat.zero_add, Nat.reduceAdd] at d3
 obtain ⟨a8', c8', ee8, h28, h38, hx8⟩ := lins_shape HR8_9.out.read
 have ee8 : Value.slice x8 2 y8 = .slice a8' 2 c8' := ee8
 injection ee8 with e1 e2 e3
 subst e1 e3
 obtain ⟨b8, o8, la8, lc8, ca8, cc8, hb8, hA8⟩ := hx8 1 ⟨0, [], 0, []⟩ rfl
 subst hb8
 obtain ⟨_, _, d8, _, _, _, _⟩ := hA8
 rw [Nat.one_mul] at d8
 simp only [List.length_nil] at d8
 have h2 : 2 ≤ y2 := h2
 have h28 : 2 ≤ y8 := h28
 unfold maxLen at h3 h38
 have hg := guardPos
 have hq := fun (w : World) => run_eql_pos ⟨1, 0⟩ ⟨1, 0⟩ w
 rw [decide_eq_true rfl] at hq
 clear hx2 hx8 e2 hsm0 hsma
 go_wp2_with fail
 go_ret
 exact ⟨rfl, HB9.out⟩
end Go.Proofs.YtpndnbjpnajaaaaGreatDoor
namespace Go.Proofs.YtpndnbjpnajaaaaGreatDoor
open Go.RowKit
open Go.Proofs.Qw
set_option maxRecDepth 100000 in
set_option maxHeartbeats 4000000 in
theorem refStSame_any (v u : Value) (s t : St) (w : World) (S1 S2 : Nat → Prop) (h1 : LinsR w S1 v s.lines) (h2 : LinsR w S2 u t.lines) :
  Calls Tryz.prog 40 #[stV v s, stV u t] w fun e w' => e = .returned (.bool (decide (s = t))) ∧ Below w.heap.size w w' := by
 obtain ⟨W1, hW1, hB, hz, k0, k1⟩ := st_both w v u s t
 have hs1 := hB.size
 have HC := Lib.hid (refSame_any v u s.lines t.lines W1 S1 S2 (h1.below (rdLin_stable _) hB) (h2.below (rdLin_stable _) hB))
 have HB : Hid (∀ W, Below W1.heap.size W1 W → W.heap[w.heap.size]? = some (.cells #[v, .int .i64 s.anc.line, .int .i64 s.anc.col, .int .i64 s.foc.line, .int .i64 s.foc.col, .int .i64 s.on, .int .i64 s.off] 26) ∧ W.heap[w.heap.size + 1]? = some (.cells #[u, .int .i64 t.anc.line, .int .i64 t.anc.col, .int .i64 t.foc.line, .int .i64 t.foc.col, .int .i64 t.on, .int .i64 t.off] 26)) := Lib.hid fun W hW => ⟨heap_below hW k0, heap_below hW k1⟩
 have HE : Hid (decide (s = t) = (decide (s.lines = t.lines) && (decide (s.anc = t.anc) && (decide (s.foc = t.foc) && ((s.on == t.on) && (s.off == t.off)))))) := Lib.hid (by
  obtain ⟨a1, a2, a3, a4, a5⟩ := s
  obtain ⟨b1, b2, b3, b4, b5⟩ := t
  rw [Bool.eq_iff_iff]
  simp)
 have hg := guardPos
 have hq1 := fun (w : World) => run_eql_pos s.anc t.anc w
 have hq2 := fun (w : World) => run_eql_pos s.foc t.foc w
 have H1 := Lib.hid hB
 obtain ⟨p0, f0⟩ := blk k0
 obtain ⟨p1, f1⟩ := blk k1
 obtain ⟨va, vc, rfl⟩ := h1.slice
 obtain ⟨ua, uc, rfl⟩ := h2.slice
 clear h1 h2 k0 k1 hB
 generalize decide (s = t) = r at *
 generalize decide (s.lines = t.lines) = x at *
 generalize decide (s.anc = t.anc) = y at *
 generalize decide (s.foc = t.foc) = z at *
 cases y
 all_goals
  cases z
  all_goals
   go_enter Tryz.func40, Tryz.ntmps40
   go_wp2_with (go_at_call 65; refine HC.out.mono ?_; rintro e w2 ⟨rfl, hb2⟩; obtain ⟨q0, g0⟩ := blk (HB.out _ hb2).1; obtain ⟨q1, g1⟩ := blk (HB.out _ hb2).2; cases x)
   all_goals
    go_ret
    refine ⟨?_, H1.out.trans (hb2.mono hs1)⟩
    rw [HE.out]
    refine congrArg Ending.returned (congrArg Value.bool ?_)
    clear HE HC HB H1
    simp (config := { failIfUnchanged := false }) [*]
end Go.Proofs.YtpndnbjpnajaaaaGreatDoor
namespace Go.Proofs.YtpndnbjpnajaaaaGreatDoor
open Go.RowKit
open Go.Proofs.Qw
def KeepSt (w w' : World) : Prop := ∀ (k : Nat) (cs : Array Value), w.heap[k]? = some (.cells cs 26) → w'.heap[k]? = some (.cells cs 26)
theorem keep_st {w2 wr : World} {b : Nat} {cs : Array Value} {t : TypeId} (h : KeepSt w2 wr) (hb : w2.heap[b]? = some (.cells cs t)) (ht : t ≠ 26) (off : Nat) (u : Value) :
  KeepSt w2 (wr.setCell ⟨b, off, none⟩ u) := by
 intro k cs hk
 have hne : b ≠ k := fun e => by
  subst e
  rw [hb] at hk
  cases hk
  exact ht rfl
 rw [heap_set, if_neg hne]
 exact h k cs hk
set_option maxRecDepth 100000 in
set_option maxHeartbeats 4000000 in
theorem lawIs23_any (v m : Value) (x y : St) (e f : Int) (n : Nat) (w : World) (S : Nat → Prop) (hn : n ≤ w.heap.size) (hx : DocR true w (fun b => n ≤ b) v x.lines) (hy : LinsR w S m y.lines) :
  Calls Tryz.prog 47 #[stV v x, .int .i64 e, stV m y, .int .i64 f] w fun r w' => r = .returned (.bool (decide (e = f) && decide (x = y))) ∧ Below n w w' ∧ KeepSt w w' := by
 obtain ⟨W1, hW1, hB, hz, k0, k1⟩ := st_both w v m x y
 have HB : Hid (∀ W, Below W1.heap.size W1 W → W.heap[w.heap.size]? = some (.cells #[v, .int .i64 x.anc.line, .int .i64 x.anc.col, .int .i64 x.foc.line, .int .i64 x.foc.col, .int .i64 x.on, .int .i64 x.off] 26) ∧ W.heap[w.heap.size + 1]? = some (.cells #[m, .int .i64 y.anc.line, .int .i64 y.anc.col, .int .i64 y.foc.line, .int .i64 y.foc.col, .int .i64 y.on, .int .i64 y.off] 26)) := Lib.hid fun W hW => ⟨heap_below hW k0, heap_below hW k1⟩
 have hs1 := hB.size
 have H1 := Lib.hid hB
 have HN := Lib.hid hn
 have hw0 : Below W1.heap.size W1 W1 := Below.refl _ _
 have HS := Lib.hid (refStSame_any v m x y W1 _ S ((DocR.read hx).below (rdLin_stable _) hB) (hy.below (rdLin_stable _) hB))
 have HD : Hid (∀ W, Below W1.heap.size W1 W → DocR true W (fun b => n ≤ b ∧ b < w.heap.size) v x.lines) := Lib.hid fun W hW => SliceR.stable (rdLin_stable true) hx (.all (hB.trans (hW.mono hs1))) (fun b h hz => ⟨h, hz⟩)
 obtain ⟨q, hq⟩ : ∃ q, decide (x = y) = q := ⟨_, rfl⟩
 rw [hq] at HS ⊢
 clear hq
 obtain ⟨p0, f0⟩ := blk k0
 obtain ⟨p1, f1⟩ := blk k1
 obtain ⟨a1, c1, rfl⟩ := hx.slice
 obtain ⟨a2, c2, rfl⟩ := hy.slice
 clear hx hy hn k0 k1 hB
 obtain ⟨d, hd⟩ : ∃ d, x.lines = d := ⟨_, rfl⟩
 rw [hd] at HD p0 HB HS hW1 ⊢
 have HSub := Lib.hid hd
 clear hd
 by_cases hef : e = f
 ·have HR : Hid ((decide (e = f) && q) = q) := Lib.hid (by rw [decide_eq_true hef]; rfl)
  have hq1 : (e == f) = true := by simpa using hef
  clear hef
  go_enter Tryz.func47, Tryz.ntmps47
  go_wp2_with (go_at_call 40; refine HS.out.mono ?_; rintro r w2 ⟨rfl, hb2⟩)
  obtain ⟨a3, c3, hve, hc2, hm2, hx2⟩ := docOwn_shape (HD.out _ hb2)
  cases hve
  have HX := Lib.hid hx2
  clear hx2 p0 f0 p1 f1
  unfold maxLen at hm2
  go_loopw [10, 11] (fun i _ wr => ∃ k : Nat, k ≤ d.length ∧ i = .int .i64 k ∧ Hid (Shp w2 wr) ∧ Hid (Below n w2 wr) ∧ Hid (KeepSt w2 wr)) (fun i _ _ => d.length - (intOf i).toNat)
  case atStart => exact ⟨0, Nat.zero_le _, rfl, Lib.hid (Shp.refl _), Lib.hid (Below.refl _ _), Lib.hid (fun _ _ h => h)⟩
  case round =>
   obtain ⟨k, hk, rfl, HSh, HBl, HBx⟩ := hrel
   obtain ⟨wo, rfl⟩ : ∃ wo : World, wo = wr := ⟨_, rfl⟩
   obtain ⟨r0, s0⟩ := blk (HBx.out _ _ (HB.out _ hb2).1)
   have k0 : (0 : Int) ≤ (k : Int) := Int.natCast_nonneg _
   by_cases hlt : k < d.length
   ·obtain ⟨l, hl, hdd⟩ := getOf d k hlt
    obtain ⟨b0, o0, cs, la, lc, ca, cc, rfl, hSb, hg, e1, e2, e3, hI, hC⟩ := HX.out k l hl
    have hSb1 : n ≤ b0 := hSb.1
    have hSb2 : b0 < w.heap.size := hSb.2
    have hcl := hC.len
    have HL := Lib.hid (And.intro hg (And.intro e1 (And.intro e2 e3)))
    have HIC := Lib.hid hC
    have q3 := HSh.out.slice hg e3
    unfold maxLen at hcl
    have i1 : (k : Int) < (d.length : Int) := by omega
    clear hl hdd hI hC hg e1 e2 e3 hSb
    go_wp2_with fail
    go_loopw [11] (fun j wi => ∃ q : Nat, q ≤ l.cells.length ∧ j = .int .i64 q ∧ Hid (Shp w2 wi) ∧ Hid (Below n w2 wi) ∧ Hid (KeepSt w2 wi)) (fun j _ => l.cells.length - (intOf j).toNat)
    case atStart => exact ⟨0, Nat.zero_le _, rfl, HSh, HBl, HBx⟩
    case round =>
     clear q3 HSh HBl HBx r0 s0
     obtain ⟨q, hq, rfl, HSh, HBl, HBx⟩ := hrel
     obtain ⟨r0, s0⟩ := blk (HBx.out _ _ (HB.out _ hb2).1)
     have q3 := HSh.out.slice HL.out.1 HL.out.2.2.2
     have q0 : (0 : Int) ≤ (q : Int) := Int.natCast_nonneg _
     by_cases hlt2 : q < l.cells.length
     ·obtain ⟨bc, oc, cs2, rfl, hSc, hg2, hsz⟩ := HIC.out.cellAt hlt2
      have hSc1 : n ≤ bc := hSc.1
      have hSc2 : bc < w.heap.size := hSc.2
      obtain ⟨⟨u, hu⟩, hf⟩ := HSh.out.at (off := oc + q * 3) hg2 (by omega)
      have HG2 := Lib.hid hg2
      have q1 : (q : Int) < (l.cells.length : Int) := by omega
      clear hg2 hSc
      go_wp2_with fail
      go_roundw
      case rel => exact ⟨q + 1, hlt2, by go_num, Lib.hid (HSh.out.set HG2.out (fun e => absurd e (by decide)) _), Lib.hid (HBl.out.setCell hSc1 _), Lib.hid (keep_st HBx.out HG2.out (by decide) _ _)⟩
      case measure => simp [intOf]; omega
     ·obtain rfl : q = l.cells.length := by omega
      have hos : o0 + k * 4 + 2 < cs.size := (Array.getElem?_eq_some_iff.1 HL.out.2.2.1).1
      obtain ⟨⟨u, hu⟩, hf⟩ := HSh.out.at (off := o0 + k * 4 + 2) HL.out.1 hos
      go_wp2_with fail
      go_roundw
      case rel => exact ⟨k + 1, hlt, by go_num, Lib.hid (HSh.out.set HL.out.1 (fun _ => ⟨_, _, HL.out.2.2.1⟩) _), Lib.hid (HBl.out.setCell hSb1 _), Lib.hid (keep_st HBx.out HL.out.1 (by decide) _ _)⟩
      case measure => simp [intOf]; omega
   ·obtain rfl : k = d.length := by omega
    go_wp2_with fail
    go_ret
    rw [HR.out]
    exact ⟨rfl, (H1.out.mono HN.out).trans ((hb2.mono (Nat.le_trans HN.out hs1)).trans HBl.out), fun k cs hk => HBx.out k cs (heap_below hb2 (heap_below H1.out hk))⟩
 ·have HR : Hid ((decide (e = f) && q) = false) := Lib.hid (by rw [decide_eq_false hef]; rfl)
  have hq1 : (e == f) = false := by simpa using hef
  obtain ⟨w2, hw2⟩ : ∃ w2, w2 = W1 := ⟨_, rfl⟩
  have hb2 : Below W1.heap.size W1 w2 := hw2 ▸ hw0
  have HW2 := Lib.hid hw2
  clear hef hw2
  go_enter Tryz.func47, Tryz.ntmps47
  go_wp2_with fail
  rw [← HW2.out]
  obtain ⟨a3, c3, hve, hc2, hm2, hx2⟩ := docOwn_shape (HD.out _ hb2)
  cases hve
  have HX := Lib.hid hx2
  clear hx2 p0 f0 p1 f1
  unfold maxLen at hm2
  go_loopw [10, 11] (fun i _ wr => ∃ k : Nat, k ≤ d.length ∧ i = .int .i64 k ∧ Hid (Shp w2 wr) ∧ Hid (Below n w2 wr) ∧ Hid (KeepSt w2 wr)) (fun i _ _ => d.length - (intOf i).toNat)
  case atStart => exact ⟨0, Nat.zero_le _, rfl, Lib.hid (Shp.refl _), Lib.hid (Below.refl _ _), Lib.hid (fun _ _ h => h)⟩
  case round =>
   obtain ⟨k, hk, rfl, HSh, HBl, HBx⟩ := hrel
   obtain ⟨wo, rfl⟩ : ∃ wo : World, wo = wr := ⟨_, rfl⟩
   obtain ⟨r0, s0⟩ := blk (HBx.out _ _ (HB.out _ hb2).1)
   have k0 : (0 : Int) ≤ (k : Int) := Int.natCast_nonneg _
   by_cases hlt : k < d.length
   ·obtain ⟨l, hl, hdd⟩ := getOf d k hlt
    obtain ⟨b0, o0, cs, la, lc, ca, cc, rfl, hSb, hg, e1, e2, e3, hI, hC⟩ := HX.out k l hl
    have hSb1 : n ≤ b0 := hSb.1
    have hSb2 : b0 < w.heap.size := hSb.2
    have hcl := hC.len
    have HL := Lib.hid (And.intro hg (And.intro e1 (And.intro e2 e3)))
    have HIC := Lib.hid hC
    have q3 := HSh.out.slice hg e3
    unfold maxLen at hcl
    have i1 : (k : Int) < (d.length : Int) := by omega
    clear hl hdd hI hC hg e1 e2 e3 hSb
    go_wp2_with fail
    go_loopw [11] (fun j wi => ∃ q : Nat, q ≤ l.cells.length ∧ j = .int .i64 q ∧ Hid (Shp w2 wi) ∧ Hid (Below n w2 wi) ∧ Hid (KeepSt w2 wi)) (fun j _ => l.cells.length - (intOf j).toNat)
    case atStart => exact ⟨0, Nat.zero_le _, rfl, HSh, HBl, HBx⟩
    case round =>
     clear q3 HSh HBl HBx r0 s0
     obtain ⟨q, hq, rfl, HSh, HBl, HBx⟩ := hrel
     obtain ⟨r0, s0⟩ := blk (HBx.out _ _ (HB.out _ hb2).1)
     have q3 := HSh.out.slice HL.out.1 HL.out.2.2.2
     have q0 : (0 : Int) ≤ (q : Int) := Int.natCast_nonneg _
     by_cases hlt2 : q < l.cells.length
     ·obtain ⟨bc, oc, cs2, rfl, hSc, hg2, hsz⟩ := HIC.out.cellAt hlt2
      have hSc1 : n ≤ bc := hSc.1
      have hSc2 : bc < w.heap.size := hSc.2
      obtain ⟨⟨u, hu⟩, hf⟩ := HSh.out.at (off := oc + q * 3) hg2 (by omega)
      have HG2 := Lib.hid hg2
      have q1 : (q : Int) < (l.cells.length : Int) := by omega
      clear hg2 hSc
      go_wp2_with fail
      go_roundw
      case rel => exact ⟨q + 1, hlt2, by go_num, Lib.hid (HSh.out.set HG2.out (fun e => absurd e (by decide)) _), Lib.hid (HBl.out.setCell hSc1 _), Lib.hid (keep_st HBx.out HG2.out (by decide) _ _)⟩
      case measure => simp [intOf]; omega
     ·obtain rfl : q = l.cells.length := by omega
      have hos : o0 + k * 4 + 2 < cs.size := (Array.getElem?_eq_some_iff.1 HL.out.2.2.1).1
      obtain ⟨⟨u, hu⟩, hf⟩ := HSh.out.at (off := o0 + k * 4 + 2) HL.out.1 hos
      go_wp2_with fail
      go_roundw
      case rel => exact ⟨k + 1, hlt, by go_num, Lib.hid (HSh.out.set HL.out.1 (fun _ => ⟨_, _, HL.out.2.2.1⟩) _), Lib.hid (HBl.out.setCell hSb1 _), Lib.hid (keep_st HBx.out HL.out.1 (by decide) _ _)⟩
      case measure => simp [intOf]; omega
   ·obtain rfl : k = d.length := by omega
    go_wp2_with fail
    go_ret
    rw [HR.out]
    exact ⟨rfl, (H1.out.mono HN.out).trans ((hb2.mono (Nat.le_trans HN.out hs1)).trans HBl.out), fun k cs hk => HBx.out k cs (heap_below hb2 (heap_below H1.out hk))⟩
end Go.Proofs.YtpndnbjpnajaaaaGreatDoor
namespace Go.Proofs.YtpndnbjpnajaaaaGreatDoor
open Go.RowKit
open Go.Proofs.Qw
attribute [local go_sem] Oper.semAt_some
theorem long23_any (v : Value) (s : St) (w : World) (S : Nat → Prop) (h : LinsR w S v s.lines) (hs : Sane s.lines) :
  Calls Tryz.prog 43 #[stV v s] w (LongSaid s.lines w) := by
 obtain ⟨W1, hW1, hB, hz, k0⟩ := one_st w v s
 have HC := Lib.hid (refLong_any v s.lines W1 S (h.below (rdLin_stable _) hB) hs)
 have H1 := Lib.hid hB
 have hs1 := hB.size
 obtain ⟨p0, f0⟩ := blk k0
 obtain ⟨va, vc, rfl⟩ := h.slice
 clear h hs k0 hB
 go_enter Tryz.func43, Tryz.ntmps43
 go_wp2_with (go_at_call 74; refine HC.out.mono ?_; rintro e w1 ⟨r, rfl, hr, hb⟩)
 go_ret
 exact ⟨r, rfl, hr, H1.out.trans (hb.mono hs1)⟩
end Go.Proofs.YtpndnbjpnajaaaaGreatDoor
