/- The walk of the law's 'awake' of layer 24: the chapter's examples. -/
import Derived.Test.YtpndnbjpnajaaaaGreatDoorStyEx
import Derived.Test.YtpndnbjpnajaaaaGreatDoorStRefOwn
import Derived.Test.YtpndnbjpnajaaaaGreatDoorRefPart
import Derived.Test.YtpndnbjpnajaaaaGreatDoorCells
import Derived.Test.YtpndnbjpnajaaaaGreatDoorRefChars
namespace Go.Proofs.YtpndnbjpnajaaaaGreatDoor
open Go.RowKit
open Go.Proofs.Qw
theorem on1f {w : World} {B : Nat} {cs : Array Value} {t : TypeId} (h : w.heap[B]? = some (.cells cs t)) : ∀ X k, (w.alloc X).frozen? ⟨B, k, none⟩ = false := fun X _ => frozen_of_heap (heap_old _ X h)
theorem exL_small (b c : Int) {h k : List UInt8} (h1 : h.length ≤ 10) (h2 : k.length ≤ 10) : Small (exL b c h k) ∧ Fits (exL b c h k) := by
  refine ⟨⟨by simp [sizeD, exL], by simp [exL], fun l hl x hx => ?_⟩, by simp [exL], fun l hl => ?_⟩
  · simp only [exL, List.mem_singleton] at hl
    subst hl
    simp only [List.mem_cons, List.mem_nil_iff, or_false] at hx
    rcases hx with rfl | rfl
    · show h.length ≤ _; omega
    · show k.length ≤ _; omega
  · simp only [exL, List.mem_singleton] at hl
    subst hl
    simp
theorem exL_at {w : World} {S : Nat → Prop} {v : Value} {b c : Int} {h k : List UInt8} (hv : DocR true w S v (exL b c h k)) :
    ∃ p o n la lc p2 o2 n2, v = .slice (some ⟨p, o, none⟩) 1 n ∧ p < w.heap.size ∧ p2 < w.heap.size ∧ w.cell? ⟨p, o + 1, none⟩ = some (.slice la 0 lc) ∧ w.cell? ⟨p, o + 3, none⟩ = some (.slice (some ⟨p2, o2, none⟩) 2 n2) ∧ w.cell? ⟨p2, o2 + 1, none⟩ = some (.int .i64 b) ∧ w.cell? ⟨p2, o2 + 3 + 1, none⟩ = some (.int .i64 c) ∧ n ≤ maxLen ∧ n2 ≤ maxLen ∧ 1 ≤ n ∧ 2 ≤ n2 := by
  obtain ⟨p, o, n, la, lc, ca, cc, rfl, hc, hm, hA, _, hC, _⟩ := docOwn_at hv (i := 0) (l := ⟨0, [], 0, [⟨97, b, h⟩, ⟨98, c, k⟩]⟩) rfl
  rw [Nat.zero_mul, Nat.add_zero] at hA
  obtain ⟨hlt, _, a1, _, a3, _, _⟩ := hA
  obtain ⟨a, n2, he, hn2, hm2, hx⟩ := cels_shape (SliceR.read (fun _ _ h => h) hC)
  cases he
  obtain ⟨p2, o2, rfl, hz2, _, c1, _⟩ := hx 0 _ rfl
  obtain ⟨p3, o3, he3, _, _, d1, _⟩ := hx 1 _ rfl
  cases he3
  rw [Nat.zero_mul, Nat.add_zero] at c1
  rw [Nat.one_mul] at d1
  exact ⟨p, o, n, la, lc, p2, o2, _, rfl, hlt, hz2, a1, a3, c1, d1, hm, hm2, hc, hn2⟩
set_option maxRecDepth 100000 in
set_option maxHeartbeats 4000000 in
theorem awake24_any (w : World) (he : EnvT w) : Calls Tryz.prog 18 #[] w fun e w' => e = .returned (.bool true) ∧ Below w.heap.size w w' := by
  obtain ⟨W1, hW1⟩ : ∃ W1, ((w.alloc (.cells #[.int .i32 97, .int .i64 0, .string ⟨#[]⟩, .int .i32 98, .int .i64 1, .string ⟨#[]⟩] 44)).alloc (.cells #[.int .i64 0, .slice none 0 0, .int .i64 0, .slice (some ⟨w.heap.size, 0, none⟩) 2 2] 42)).alloc (.cells #[.slice (some ⟨w.heap.size + 1, 0, none⟩) 1 1, .int .i64 0, .int .i64 0, .int .i64 0, .int .i64 2, .int .i64 0, .int .i64 0] 26) = W1 := ⟨_, rfl⟩
  have hB : Below w.heap.size w W1 := hW1 ▸ below3 (Below.refl _ _) _ _ _
  have hz : w.heap.size + 3 = W1.heap.size := by rw [← hW1]; simp
  have k0 : W1.heap[w.heap.size]? = some (.cells #[.int .i32 97, .int .i64 0, .string ⟨#[]⟩, .int .i32 98, .int .i64 1, .string ⟨#[]⟩] 44) := hW1 ▸ heap_old _ _ (heap_old _ _ (heap_new _ _ rfl))
  have k1 : W1.heap[w.heap.size + 1]? = some (.cells #[.int .i64 0, .slice none 0 0, .int .i64 0, .slice (some ⟨w.heap.size, 0, none⟩) 2 2] 42) := hW1 ▸ heap_old _ _ (heap_new _ _ (by simp))
  have k2 : W1.heap[w.heap.size + 1 + 1]? = some (.cells #[.slice (some ⟨w.heap.size + 1, 0, none⟩) 1 1, .int .i64 0, .int .i64 0, .int .i64 0, .int .i64 2, .int .i64 0, .int .i64 0] 26) := hW1 ▸ heap_new _ _ (by simp)
  have hd0 : LinsR W1 (fun b => b < w.heap.size + 2) (.slice (some ⟨w.heap.size + 1, 0, none⟩) 1 1) (exL 0 1 [] []) := by
    refine ⟨_, 1, rfl, Nat.le_refl _, by decide, .inr ⟨w.heap.size + 1, 0, rfl, (by show w.heap.size + 1 < w.heap.size + 2; omega), by omega, fun h => (by cases h), fun i x hx => ?_⟩⟩
    match i, hx with
    | 0, hx =>
      cases hx
      exact ⟨[.int .i64 0, .slice none 0 0, .int .i64 0, .slice (some ⟨w.heap.size, 0, none⟩) 2 2], rfl, ⟨.slice none 0 0, _, rfl, SliceR.nil _ _ _ _ _ _, slice_blk (enc := encCel) (fun _ => rfl) [⟨97, 0, []⟩, ⟨98, 1, []⟩] k0 (by show w.heap.size < w.heap.size + 2; omega) (by decide)⟩, fun j u hu => by
        rw [cell_of_heap k1, Nat.zero_mul, Nat.zero_add]
        simpa using hu⟩
  have hs1 := hB.size
  have HE : Hid (∀ W, Below w.heap.size w W → EnvT W) := Lib.hid fun W hW => he.below hW
  have HB1 := Lib.hid hB
  have HD1 := Lib.hid hd0
  have HK1 := Lib.hid k2
  have HS1 : Hid (w.heap.size + 3 ≤ W1.heap.size) := Lib.hid (by omega)
  have HW1 := Lib.hid hW1
  clear he hd0 k0 k1 k2 hB hW1
  go_enter Tryz.func18, Tryz.ntmps18
  go_wp2_with fail
  rw [HW1.out]
  have HC2 : Hid (Calls Tryz.prog 29 #[.agg #[.slice (some ⟨w.heap.size + 1, 0, none⟩) 1 1, .int .i64 0, .int .i64 0, .int .i64 0, .int .i64 2, .int .i64 0, .int .i64 0], .int .i64 1] W1 (StSaid ((⟨exL 1 1 [] [], ⟨0, 0⟩, ⟨0, 2⟩, 0, 0⟩, 0)) W1)) := Lib.hid (by
    have := styToggle_any (.slice (some ⟨w.heap.size + 1, 0, none⟩) 1 1) exA 1 W1 _ HD1.out (HE.out _ HB1.out) (exL_small _ _ (by decide) (by decide)).1 (exL_small _ _ (by decide) (by decide)).2
    rw [exA_tog] at this
    exact this)
  refine HC2.out.mono ?_
  intro e w2 hsaid
  obtain ⟨v2, rfl, hv2, hst2⟩ := hsaid
  obtain ⟨x2, y2, hve2⟩ := hv2.slice
  rw [show (exL 1 1 [] []).length = 1 from rfl] at hve2
  subst hve2
  have HB20 : Hid (Below w.heap.size w w2) := Lib.hid (below_from HB1.out hst2)
  have HK20 := Lib.hid (heap_below hst2 HK1.out)
  have HD20 := Lib.hid (HD1.out.below (rdLin_stable _) hst2)
  have HS20 := Lib.hid (Nat.le_trans HS1.out hst2.size)
  have HR2_20 := Lib.hid hv2
  have HT2 := Lib.hid hst2
  clear hv2 hst2
  obtain ⟨q2, g2⟩ := blk HK20.out
  have r2 := on1 HK20.out
  have u2 := on1f HK20.out
  have e2 : ¬ w2.heap.size = w.heap.size + 1 + 1 := by have := HS20.out; omega
  go_wp2_with fail
  obtain ⟨m2, hm2⟩ : ∃ m2, w2.alloc (.cells #[.slice x2 1 y2, .int .i64 0, .int .i64 0, .int .i64 0, .int .i64 2, .int .i64 0, .int .i64 0] 26) = m2 := ⟨_, rfl⟩
  rw [hm2]
  have hbm2 : Below w2.heap.size w2 m2 := hm2 ▸ below1 (Below.refl _ _) _
  have HN2_2 : Hid (m2.heap[w2.heap.size]? = some (.cells #[.slice x2 1 y2, .int .i64 0, .int .i64 0, .int .i64 0, .int .i64 2, .int .i64 0, .int .i64 0] 26)) := Lib.hid (hm2 ▸ heap_new _ _ rfl)
  have HB2 := Lib.hid (below_from HB20.out hbm2)
  have HK2 := Lib.hid (heap_below hbm2 HK20.out)
  have HD2 := Lib.hid (HD20.out.below (rdLin_stable _) hbm2)
  have HS2 := Lib.hid (Nat.le_trans HS20.out hbm2.size)
  have HR2_2 := Lib.hid (HR2_20.out.below hbm2)
  clear hbm2 hm2 q2 g2 r2 u2 e2
  have HC3 : Hid (Calls Tryz.prog 29 #[.agg #[.slice x2 1 y2, .int .i64 0, .int .i64 0, .int .i64 0, .int .i64 2, .int .i64 0, .int .i64 0], .int .i64 1] m2 (StSaid ((⟨exL 0 0 [] [], ⟨0, 0⟩, ⟨0, 2⟩, 0, 0⟩, 0)) m2)) := Lib.hid (by
    have := styToggle_any _ exB 1 m2 _ HR2_2.out.read (HE.out _ HB2.out) (exL_small _ _ (by decide) (by decide)).1 (exL_small _ _ (by decide) (by decide)).2
    rw [exB_tog] at this
    exact this)
  refine HC3.out.mono ?_
  intro e w3 hsaid
  obtain ⟨v3, rfl, hv3, hst3⟩ := hsaid
  obtain ⟨x3, y3, hve3⟩ := hv3.slice
  rw [show (exL 0 0 [] []).length = 1 from rfl] at hve3
  subst hve3
  have HB30 : Hid (Below w.heap.size w w3) := Lib.hid (below_from HB2.out hst3)
  have HK30 := Lib.hid (heap_below hst3 HK2.out)
  have HD30 := Lib.hid (HD2.out.below (rdLin_stable _) hst3)
  have HS30 := Lib.hid (Nat.le_trans HS2.out hst3.size)
  have HR3_30 := Lib.hid hv3
  have HR2_30 := Lib.hid (HR2_2.out.below hst3)
  have HN2_30 := Lib.hid (heap_below hst3 HN2_2.out)
  have HT3 := Lib.hid hst3
  clear hv3 hst3
  obtain ⟨q3, g3⟩ := blk HK30.out
  have r3 := on1 HK30.out
  have u3 := on1f HK30.out
  have e3 : ¬ w3.heap.size = w.heap.size + 1 + 1 := by have := HS30.out; omega
  go_wp2_with fail
  obtain ⟨m3, hm3⟩ : ∃ m3, w3.alloc (.cells #[.slice x3 1 y3, .int .i64 0, .int .i64 0, .int .i64 0, .int .i64 2, .int .i64 0, .int .i64 0] 26) = m3 := ⟨_, rfl⟩
  rw [hm3]
  have hbm3 : Below w3.heap.size w3 m3 := hm3 ▸ below1 (Below.refl _ _) _
  have HN3_3 : Hid (m3.heap[w3.heap.size]? = some (.cells #[.slice x3 1 y3, .int .i64 0, .int .i64 0, .int .i64 0, .int .i64 2, .int .i64 0, .int .i64 0] 26)) := Lib.hid (hm3 ▸ heap_new _ _ rfl)
  have HB3 := Lib.hid (below_from HB30.out hbm3)
  have HK3 := Lib.hid (heap_below hbm3 HK30.out)
  have HD3 := Lib.hid (HD30.out.below (rdLin_stable _) hbm3)
  have HS3 := Lib.hid (Nat.le_trans HS30.out hbm3.size)
  have HR3_3 := Lib.hid (HR3_30.out.below hbm3)
  have HR2_3 := Lib.hid (HR2_30.out.below hbm3)
  have HN2_3 := Lib.hid (heap_below hbm3 HN2_30.out)
  clear hbm3 hm3 q3 g3 r3 u3 e3
  have HC4 : Hid (Calls Tryz.prog 30 #[.agg #[.slice (some ⟨w.heap.size + 1, 0, none⟩) 1 1, .int .i64 0, .int .i64 0, .int .i64 0, .int .i64 2, .int .i64 0, .int .i64 0], .string ⟨#[120]⟩] m3 (StSaid ((⟨exL 0 1 exX exX, ⟨0, 0⟩, ⟨0, 2⟩, 0, 0⟩, 0)) m3)) := Lib.hid (by
    have := styLink_any (.slice (some ⟨w.heap.size + 1, 0, none⟩) 1 1) exA [120] m3 _ HD3.out (HE.out _ HB3.out) (exL_small _ _ (by decide) (by decide)).1 (exL_small _ _ (by decide) (by decide)).2 (by decide)
    rw [exA_link] at this
    exact this)
  refine HC4.out.mono ?_
  intro e w4 hsaid
  obtain ⟨v4, rfl, hv4, hst4⟩ := hsaid
  obtain ⟨x4, y4, hve4⟩ := hv4.slice
  rw [show (exL 0 1 exX exX).length = 1 from rfl] at hve4
  subst hve4
  have HB40 : Hid (Below w.heap.size w w4) := Lib.hid (below_from HB3.out hst4)
  have HK40 := Lib.hid (heap_below hst4 HK3.out)
  have HD40 := Lib.hid (HD3.out.below (rdLin_stable _) hst4)
  have HS40 := Lib.hid (Nat.le_trans HS3.out hst4.size)
  have HR4_40 := Lib.hid hv4
  have HR2_40 := Lib.hid (HR2_3.out.below hst4)
  have HN2_40 := Lib.hid (heap_below hst4 HN2_3.out)
  have HR3_40 := Lib.hid (HR3_3.out.below hst4)
  have HN3_40 := Lib.hid (heap_below hst4 HN3_3.out)
  have HT4 := Lib.hid hst4
  clear hv4 hst4
  obtain ⟨q4, g4⟩ := blk HK40.out
  have r4 := on1 HK40.out
  have u4 := on1f HK40.out
  have e4 : ¬ w4.heap.size = w.heap.size + 1 + 1 := by have := HS40.out; omega
  go_wp2_with fail
  obtain ⟨m4, hm4⟩ : ∃ m4, w4.alloc (.cells #[.slice x4 1 y4, .int .i64 0, .int .i64 0, .int .i64 0, .int .i64 2, .int .i64 0, .int .i64 0] 26) = m4 := ⟨_, rfl⟩
  rw [hm4]
  have hbm4 : Below w4.heap.size w4 m4 := hm4 ▸ below1 (Below.refl _ _) _
  have HN4_4 : Hid (m4.heap[w4.heap.size]? = some (.cells #[.slice x4 1 y4, .int .i64 0, .int .i64 0, .int .i64 0, .int .i64 2, .int .i64 0, .int .i64 0] 26)) := Lib.hid (hm4 ▸ heap_new _ _ rfl)
  have HB4 := Lib.hid (below_from HB40.out hbm4)
  have HK4 := Lib.hid (heap_below hbm4 HK40.out)
  have HD4 := Lib.hid (HD40.out.below (rdLin_stable _) hbm4)
  have HS4 := Lib.hid (Nat.le_trans HS40.out hbm4.size)
  have HR4_4 := Lib.hid (HR4_40.out.below hbm4)
  have HR2_4 := Lib.hid (HR2_40.out.below hbm4)
  have HN2_4 := Lib.hid (heap_below hbm4 HN2_40.out)
  have HR3_4 := Lib.hid (HR3_40.out.below hbm4)
  have HN3_4 := Lib.hid (heap_below hbm4 HN3_40.out)
  clear hbm4 hm4 q4 g4 r4 u4 e4
  have HC5 : Hid (Calls Tryz.prog 30 #[.agg #[.slice (some ⟨w.heap.size + 1, 0, none⟩) 1 1, .int .i64 0, .int .i64 0, .int .i64 0, .int .i64 2, .int .i64 0, .int .i64 0], .string ⟨#[32, 120]⟩] m4 (StSaid ((⟨[], ⟨0, 0⟩, ⟨0, 0⟩, 0, 0⟩, 1)) m4)) := Lib.hid (by
    have := styLink_any (.slice (some ⟨w.heap.size + 1, 0, none⟩) 1 1) exA [32, 120] m4 _ HD4.out (HE.out _ HB4.out) (exL_small _ _ (by decide) (by decide)).1 (exL_small _ _ (by decide) (by decide)).2 (by decide)
    rw [exA_off] at this
    exact this)
  refine HC5.out.mono ?_
  intro e w5 hsaid
  obtain ⟨v5, rfl, hv5, hst5⟩ := hsaid
  obtain ⟨x5, y5, hve5⟩ := hv5.slice
  rw [show (([] : Doc)).length = 0 from rfl] at hve5
  subst hve5
  have HB50 : Hid (Below w.heap.size w w5) := Lib.hid (below_from HB4.out hst5)
  have HK50 := Lib.hid (heap_below hst5 HK4.out)
  have HD50 := Lib.hid (HD4.out.below (rdLin_stable _) hst5)
  have HS50 := Lib.hid (Nat.le_trans HS4.out hst5.size)
  have HR5_50 := Lib.hid hv5
  have HR2_50 := Lib.hid (HR2_4.out.below hst5)
  have HN2_50 := Lib.hid (heap_below hst5 HN2_4.out)
  have HR3_50 := Lib.hid (HR3_4.out.below hst5)
  have HN3_50 := Lib.hid (heap_below hst5 HN3_4.out)
  have HR4_50 := Lib.hid (HR4_4.out.below hst5)
  have HN4_50 := Lib.hid (heap_below hst5 HN4_4.out)
  have HT5 := Lib.hid hst5
  clear hv5 hst5
  obtain ⟨q5, g5⟩ := blk HK50.out
  have r5 := on1 HK50.out
  have u5 := on1f HK50.out
  have e5 : ¬ w5.heap.size = w.heap.size + 1 + 1 := by have := HS50.out; omega
  go_wp2_with fail
  obtain ⟨m5, hm5⟩ : ∃ m5, w5.alloc (.cells #[.slice x5 0 y5, .int .i64 0, .int .i64 0, .int .i64 0, .int .i64 0, .int .i64 0, .int .i64 0] 26) = m5 := ⟨_, rfl⟩
  rw [hm5]
  have hbm5 : Below w5.heap.size w5 m5 := hm5 ▸ below1 (Below.refl _ _) _
  have HN5_5 : Hid (m5.heap[w5.heap.size]? = some (.cells #[.slice x5 0 y5, .int .i64 0, .int .i64 0, .int .i64 0, .int .i64 0, .int .i64 0, .int .i64 0] 26)) := Lib.hid (hm5 ▸ heap_new _ _ rfl)
  have HB5 := Lib.hid (below_from HB50.out hbm5)
  have HK5 := Lib.hid (heap_below hbm5 HK50.out)
  have HD5 := Lib.hid (HD50.out.below (rdLin_stable _) hbm5)
  have HS5 := Lib.hid (Nat.le_trans HS50.out hbm5.size)
  have HR5_5 := Lib.hid (HR5_50.out.below hbm5)
  have HR2_5 := Lib.hid (HR2_50.out.below hbm5)
  have HN2_5 := Lib.hid (heap_below hbm5 HN2_50.out)
  have HR3_5 := Lib.hid (HR3_50.out.below hbm5)
  have HN3_5 := Lib.hid (heap_below hbm5 HN3_50.out)
  have HR4_5 := Lib.hid (HR4_50.out.below hbm5)
  have HN4_5 := Lib.hid (heap_below hbm5 HN4_50.out)
  clear hbm5 hm5 q5 g5 r5 u5 e5
  obtain ⟨m6, hm6⟩ : ∃ m6, (m5.setCell ⟨w.heap.size + 1 + 1, 1, none⟩ (.int .i64 0)).setCell ⟨w.heap.size + 1 + 1, 2, none⟩ (.int .i64 2) = m6 := ⟨_, rfl⟩
  rw [hm6]
  have o6 : ∀ k, k ≠ w.heap.size + 1 + 1 → m6.heap[k]? = m5.heap[k]? := fun k hk => by rw [← hm6, heap_set, if_neg (Ne.symm hk), heap_set, if_neg (Ne.symm hk)]
  have z6 : m6.heap.size = m5.heap.size := by rw [← hm6]; simp
  have HB6 : Hid (Below w.heap.size w m6) := Lib.hid (hm6 ▸ (HB5.out.setCell (by show w.heap.size ≤ w.heap.size + 1 + 1; omega) _).setCell (by show w.heap.size ≤ w.heap.size + 1 + 1; omega) _)
  have HK6 : Hid (m6.heap[w.heap.size + 1 + 1]? = some (.cells #[.slice (some ⟨w.heap.size + 1, 0, none⟩) 1 1, .int .i64 0, .int .i64 2, .int .i64 0, .int .i64 2, .int .i64 0, .int .i64 0] 26)) := Lib.hid (by rw [← hm6, heap_set, if_pos rfl, heap_set, if_pos rfl, HK5.out]; rfl)
  have HD6 := Lib.hid (SliceR.stable (rdLin_stable false) HD5.out ⟨by omega, fun b hb _ => o6 b (by have hb : b < w.heap.size + 2 := hb; omega)⟩ (fun b h _ => h))
  have HS6 : Hid (w.heap.size + 3 ≤ m6.heap.size) := Lib.hid (by have := HS5.out; omega)
  have HR2_6 : Hid (DocR true m6 (fun b => W1.heap.size ≤ b) (.slice x2 1 y2) (exL 1 1 [] [])) := Lib.hid (SliceR.stable (rdLin_stable true) HR2_5.out ⟨by omega, fun b hb _ => o6 b (by have hb : W1.heap.size ≤ b := hb; have := HS1.out; omega)⟩ (fun b h _ => h))
  have HN2_6 := Lib.hid ((o6 w2.heap.size (by have := HS20.out; omega)).trans HN2_5.out)
  have HR3_6 : Hid (DocR true m6 (fun b => m2.heap.size ≤ b) (.slice x3 1 y3) (exL 0 0 [] [])) := Lib.hid (SliceR.stable (rdLin_stable true) HR3_5.out ⟨by omega, fun b hb _ => o6 b (by have hb : m2.heap.size ≤ b := hb; have := HS2.out; omega)⟩ (fun b h _ => h))
  have HN3_6 := Lib.hid ((o6 w3.heap.size (by have := HS30.out; omega)).trans HN3_5.out)
  have HR4_6 : Hid (DocR true m6 (fun b => m3.heap.size ≤ b) (.slice x4 1 y4) (exL 0 1 exX exX)) := Lib.hid (SliceR.stable (rdLin_stable true) HR4_5.out ⟨by omega, fun b hb _ => o6 b (by have hb : m3.heap.size ≤ b := hb; have := HS3.out; omega)⟩ (fun b h _ => h))
  have HN4_6 := Lib.hid ((o6 w4.heap.size (by have := HS40.out; omega)).trans HN4_5.out)
  clear hm6 o6 z6
  have HC7 : Hid (Calls Tryz.prog 29 #[.agg #[.slice (some ⟨w.heap.size + 1, 0, none⟩) 1 1, .int .i64 0, .int .i64 2, .int .i64 0, .int .i64 2, .int .i64 0, .int .i64 0], .int .i64 1] m6 (StSaid ((⟨exL 0 1 [] [], ⟨0, 2⟩, ⟨0, 2⟩, 0, 1⟩, 0)) m6)) := Lib.hid (by
    have := styToggle_any (.slice (some ⟨w.heap.size + 1, 0, none⟩) 1 1) exE 1 m6 _ HD6.out (HE.out _ HB6.out) (exL_small _ _ (by decide) (by decide)).1 (exL_small _ _ (by decide) (by decide)).2
    rw [exE_tog] at this
    exact this)
  refine HC7.out.mono ?_
  intro e w7 hsaid
  obtain ⟨v7, rfl, hv7, hst7⟩ := hsaid
  obtain ⟨x7, y7, hve7⟩ := hv7.slice
  rw [show (exL 0 1 [] []).length = 1 from rfl] at hve7
  subst hve7
  have HB70 : Hid (Below w.heap.size w w7) := Lib.hid (below_from HB6.out hst7)
  have HK70 := Lib.hid (heap_below hst7 HK6.out)
  have HD70 := Lib.hid (HD6.out.below (rdLin_stable _) hst7)
  have HS70 := Lib.hid (Nat.le_trans HS6.out hst7.size)
  have HR7_70 := Lib.hid hv7
  have HR2_70 := Lib.hid (HR2_6.out.below hst7)
  have HN2_70 := Lib.hid (heap_below hst7 HN2_6.out)
  have HR3_70 := Lib.hid (HR3_6.out.below hst7)
  have HN3_70 := Lib.hid (heap_below hst7 HN3_6.out)
  have HR4_70 := Lib.hid (HR4_6.out.below hst7)
  have HN4_70 := Lib.hid (heap_below hst7 HN4_6.out)
  have HT7 := Lib.hid hst7
  clear hv7 hst7
  obtain ⟨q7, g7⟩ := blk HK70.out
  have r7 := on1 HK70.out
  have u7 := on1f HK70.out
  have e7 : ¬ w7.heap.size = w.heap.size + 1 + 1 := by have := HS70.out; omega
  go_upto_region 8 with fail
  obtain ⟨m7, hm7⟩ : ∃ m7, w7.alloc (.cells #[.slice x7 1 y7, .int .i64 0, .int .i64 2, .int .i64 0, .int .i64 2, .int .i64 0, .int .i64 1] 26) = m7 := ⟨_, rfl⟩
  rw [hm7]
  have hbm7 : Below w7.heap.size w7 m7 := hm7 ▸ below1 (Below.refl _ _) _
  have HN7_7 : Hid (m7.heap[w7.heap.size]? = some (.cells #[.slice x7 1 y7, .int .i64 0, .int .i64 2, .int .i64 0, .int .i64 2, .int .i64 0, .int .i64 1] 26)) := Lib.hid (hm7 ▸ heap_new _ _ rfl)
  have HB7 := Lib.hid (below_from HB70.out hbm7)
  have HK7 := Lib.hid (heap_below hbm7 HK70.out)
  have HD7 := Lib.hid (HD70.out.below (rdLin_stable _) hbm7)
  have HS7 := Lib.hid (Nat.le_trans HS70.out hbm7.size)
  have HR7_7 := Lib.hid (HR7_70.out.below hbm7)
  have HR2_7 := Lib.hid (HR2_70.out.below hbm7)
  have HN2_7 := Lib.hid (heap_below hbm7 HN2_70.out)
  have HR3_7 := Lib.hid (HR3_70.out.below hbm7)
  have HN3_7 := Lib.hid (heap_below hbm7 HN3_70.out)
  have HR4_7 := Lib.hid (HR4_70.out.below hbm7)
  have HN4_7 := Lib.hid (heap_below hbm7 HN4_70.out)
  clear hbm7 hm7 q7 g7 r7 u7 e7
  have H7 := Below.refl m7.heap.size m7
  have HHr : Hid (Calls Tryz.prog 25 #[.agg #[.slice x4 1 y4, .int .i64 0, .int .i64 0, .int .i64 0, .int .i64 2, .int .i64 0, .int .i64 0]] m7 fun e w' => e = .returned (.string ⟨#[120]⟩) ∧ Below m7.heap.size m7 w') := Lib.hid (by
    have := styHref_any _ exD m7 _ HR4_7.out.read (HE.out _ HB7.out) (exL_small _ _ (by decide) (by decide)).1 (exL_small _ _ (by decide) (by decide)).2
    rw [exD_href] at this
    exact this)
  have HBe : Hid (∀ W, Below m7.heap.size m7 W → Calls Tryz.prog 19 #[.agg #[.slice (some ⟨w.heap.size + 1, 0, none⟩) 1 1, .int .i64 0, .int .i64 2, .int .i64 0, .int .i64 2, .int .i64 0, .int .i64 0]] W fun e w' => e = .returned (.int .i64 1) ∧ Below W.heap.size W w') := Lib.hid fun W hW => by
    have := styBits_any (.slice (some ⟨w.heap.size + 1, 0, none⟩) 1 1) exE W _ (HD7.out.below (rdLin_stable _) hW) (HE.out _ (below_from HB7.out hW)) (exL_small _ _ (by decide) (by decide)).1 (exL_small _ _ (by decide) (by decide)).2
    rw [exE_bits] at this
    exact this
  have HBf : Hid (∀ W, Below m7.heap.size m7 W → Calls Tryz.prog 19 #[.agg #[.slice x7 1 y7, .int .i64 0, .int .i64 2, .int .i64 0, .int .i64 2, .int .i64 0, .int .i64 1]] W fun e w' => e = .returned (.int .i64 0) ∧ Below W.heap.size W w') := Lib.hid fun W hW => by
    have := styBits_any _ exF W _ ((HR7_7.out.read).below (rdLin_stable _) hW) (HE.out _ (below_from HB7.out hW)) (exL_small _ _ (by decide) (by decide)).1 (exL_small _ _ (by decide) (by decide)).2
    rw [exF_bits] at this
    exact this
  have HX2 := Lib.hid (exL_at HR2_7.out)
  have HX3 := Lib.hid (exL_at HR3_7.out)
  obtain ⟨q2, g2⟩ := blk HN2_7.out
  obtain ⟨q3, g3⟩ := blk HN3_7.out
  obtain ⟨q4, g4⟩ := blk HN4_7.out
  obtain ⟨q7, g7⟩ := blk HN7_7.out
  obtain ⟨p2, o2, n2, la2, lc2, p3, o3, n3, he2, _, _, _, a2, b2, _, hn2, hn3, hn4, hn5⟩ := HX2.out
  cases he2
  obtain ⟨p4, o4, n6, la4, lc4, p5, o5, n7, he4, _, _, _, a4, _, b5, hn6, hn7, hn8, hn9⟩ := HX3.out
  cases he4
  unfold maxLen at hn2 hn3 hn6 hn7
  clear HX2 HX3
  go_wp2_with fail
  with_reducible refine HHr.out.mono ?_
  rintro e w8 ⟨rfl, hb8⟩
  obtain ⟨s1, t1⟩ := blk (heap_below hb8 HK7.out)
  obtain ⟨s2, t2⟩ := blk (heap_below hb8 HN7_7.out)
  go_wp2_with fail
  with_reducible refine (HBe.out _ hb8).mono ?_
  rintro e w9 ⟨rfl, hst9⟩
  have hb9 := below_from hb8 hst9
  obtain ⟨s3, t3⟩ := blk (heap_below hb9 HN7_7.out)
  go_wp2_with fail
  with_reducible refine (HBf.out _ hb9).mono ?_
  rintro e w10 ⟨rfl, hst10⟩
  have hb10 := below_from hb9 hst10
  go_wp2_with fail
  go_ret
  exact ⟨rfl, below_from HB7.out hb10⟩
end Go.Proofs.YtpndnbjpnajaaaaGreatDoor
namespace Go.Proofs.YtpndnbjpnajaaaaGreatDoor
open Go.RowKit
open Go.Proofs.Qw
set_option maxRecDepth 100000 in
set_option maxHeartbeats 4000000 in
theorem refStSame_any (v u : Value) (s t : St) (w : World) (S1 S2 : Nat → Prop) (h1 : LinsR w S1 v s.lines) (h2 : LinsR w S2 u t.lines) :
    Calls Tryz.prog 40 #[stV v s, stV u t] w fun e w' => e = .returned (.bool (decide (s = t))) ∧ Below w.heap.size w w' := by
  obtain ⟨W1, hW1, hB, hz, k0, k1⟩ := st_both w v u s t
  have hs1 := hB.size
  have HC := Lib.hid (refSame_any v u s.lines t.lines W1 S1 S2 (h1.below (rdLin_stable _) hB) (h2.below (rdLin_stable _) hB))
  have HB : Hid (∀ W, Below W1.heap.size W1 W → W.heap[w.heap.size]? = some (.cells #[v, .int .i64 s.anc.line, .int .i64 s.anc.col, .int .i64 s.foc.line, .int .i64 s.foc.col, .int .i64 s.on, .int .i64 s.off] 26) ∧ W.heap[w.heap.size + 1]? = some (.cells #[u, .int .i64 t.anc.line, .int .i64 t.anc.col, .int .i64 t.foc.line, .int .i64 t.foc.col, .int .i64 t.on, .int .i64 t.off] 26)) := Lib.hid fun W hW => ⟨heap_below hW k0, heap_below hW k1⟩
  have HE : Hid (decide (s = t) = (decide (s.lines = t.lines) && (decide (s.anc = t.anc) && (decide (s.foc = t.foc) && ((s.on == t.on) && (s.off == t.off)))))) := Lib.hid (by
    obtain ⟨a1, a2, a3, a4, a5⟩ := s
    obtain ⟨b1, b2, b3, b4, b5⟩ := t
    rw [Bool.eq_iff_iff]
    simp)
  have hg := guardPos
  have hq1 := fun (w : World) => run_eql_pos s.anc t.anc w
  have hq2 := fun (w : World) => run_eql_pos s.foc t.foc w
  have H1 := Lib.hid hB
  obtain ⟨p0, f0⟩ := blk k0
  obtain ⟨p1, f1⟩ := blk k1
  obtain ⟨va, vc, rfl⟩ := h1.slice
  obtain ⟨ua, uc, rfl⟩ := h2.slice
  clear h1 h2 k0 k1 hB
  generalize decide (s = t) = r at *
  generalize decide (s.lines = t.lines) = x at *
  generalize decide (s.anc = t.anc) = y at *
  generalize decide (s.foc = t.foc) = z at *
  cases y
  all_goals
    cases z
    all_goals
      go_enter Tryz.func40, Tryz.ntmps40
      go_wp2_with (go_at_call 65; refine HC.out.mono ?_; rintro e w2 ⟨rfl, hb2⟩; obtain ⟨q0, g0⟩ := blk (HB.out _ hb2).1; obtain ⟨q1, g1⟩ := blk (HB.out _ hb2).2; cases x)
      all_goals
        go_ret
        refine ⟨?_, H1.out.trans (hb2.mono hs1)⟩
        rw [HE.out]
        refine congrArg Ending.returned (congrArg Value.bool ?_)
        clear HE HC HB H1
        simp (config := { failIfUnchanged := false }) [*]
end Go.Proofs.YtpndnbjpnajaaaaGreatDoor
namespace Go.Proofs.YtpndnbjpnajaaaaGreatDoor
open Go.RowKit
open Go.Proofs.Qw
def KeepSt (w w' : World) : Prop := ∀ (k : Nat) (cs : Array Value), w.heap[k]? = some (.cells cs 26) → w'.heap[k]? = some (.cells cs 26)
theorem keep_st {w2 wr : World} {b : Nat} {cs : Array Value} {t : TypeId} (h : KeepSt w2 wr) (hb : w2.heap[b]? = some (.cells cs t)) (ht : t ≠ 26) (off : Nat) (u : Value) :
    KeepSt w2 (wr.setCell ⟨b, off, none⟩ u) := by
  intro k cs hk
  have hne : b ≠ k := fun e => by
    subst e
    rw [hb] at hk
    cases hk
    exact ht rfl
  rw [heap_set, if_neg hne]
  exact h k cs hk
set_option maxRecDepth 100000 in
set_option maxHeartbeats 4000000 in
theorem lawIs24_any (v m : Value) (x y : St) (e f : Int) (n : Nat) (w : World) (S : Nat → Prop) (hn : n ≤ w.heap.size) (hx : DocR true w (fun b => n ≤ b) v x.lines) (hy : LinsR w S m y.lines) :
    Calls Tryz.prog 35 #[stV v x, .int .i64 e, stV m y, .int .i64 f] w fun r w' => r = .returned (.bool (decide (e = f) && decide (x = y))) ∧ Below n w w' ∧ KeepSt w w' := by
  obtain ⟨W1, hW1, hB, hz, k0, k1⟩ := st_both w v m x y
  have HB : Hid (∀ W, Below W1.heap.size W1 W → W.heap[w.heap.size]? = some (.cells #[v, .int .i64 x.anc.line, .int .i64 x.anc.col, .int .i64 x.foc.line, .int .i64 x.foc.col, .int .i64 x.on, .int .i64 x.off] 26) ∧ W.heap[w.heap.size + 1]? = some (.cells #[m, .int .i64 y.anc.line, .int .i64 y.anc.col, .int .i64 y.foc.line, .int .i64 y.foc.col, .int .i64 y.on, .int .i64 y.off] 26)) := Lib.hid fun W hW => ⟨heap_below hW k0, heap_below hW k1⟩
  have hs1 := hB.size
  have H1 := Lib.hid hB
  have HN := Lib.hid hn
  have hw0 : Below W1.heap.size W1 W1 := Below.refl _ _
  have HS := Lib.hid (refStSame_any v m x y W1 _ S ((DocR.read hx).below (rdLin_stable _) hB) (hy.below (rdLin_stable _) hB))
  have HD : Hid (∀ W, Below W1.heap.size W1 W → DocR true W (fun b => n ≤ b ∧ b < w.heap.size) v x.lines) := Lib.hid fun W hW => SliceR.stable (rdLin_stable true) hx (.all (hB.trans (hW.mono hs1))) (fun b h hz => ⟨h, hz⟩)
  obtain ⟨q, hq⟩ : ∃ q, decide (x = y) = q := ⟨_, rfl⟩
  rw [hq] at HS ⊢
  clear hq
  obtain ⟨p0, f0⟩ := blk k0
  obtain ⟨p1, f1⟩ := blk k1
  obtain ⟨a1, c1, rfl⟩ := hx.slice
  obtain ⟨a2, c2, rfl⟩ := hy.slice
  clear hx hy hn k0 k1 hB
  obtain ⟨d, hd⟩ : ∃ d, x.lines = d := ⟨_, rfl⟩
  rw [hd] at HD p0 HB HS hW1 ⊢
  have HSub := Lib.hid hd
  clear hd
  by_cases hef : e = f
  · have HR : Hid ((decide (e = f) && q) = q) := Lib.hid (by rw [decide_eq_true hef]; rfl)
    have hq1 : (e == f) = true := by simpa using hef
    clear hef
    go_enter Tryz.func35, Tryz.ntmps35
    go_wp2_with (go_at_call 40; refine HS.out.mono ?_; rintro r w2 ⟨rfl, hb2⟩)
    obtain ⟨a3, c3, hve, hc2, hm2, hx2⟩ := docOwn_shape (HD.out _ hb2)
    cases hve
    have HX := Lib.hid hx2
    clear hx2 p0 f0 p1 f1
    unfold maxLen at hm2
    go_loopw [10, 11] (fun i _ wr => ∃ k : Nat, k ≤ d.length ∧ i = .int .i64 k ∧ Hid (Shp w2 wr) ∧ Hid (Below n w2 wr) ∧ Hid (KeepSt w2 wr)) (fun i _ _ => d.length - (intOf i).toNat)
    case atStart => exact ⟨0, Nat.zero_le _, rfl, Lib.hid (Shp.refl _), Lib.hid (Below.refl _ _), Lib.hid (fun _ _ h => h)⟩
    case round =>
      obtain ⟨k, hk, rfl, HSh, HBl, HBx⟩ := hrel
      obtain ⟨wo, rfl⟩ : ∃ wo : World, wo = wr := ⟨_, rfl⟩
      obtain ⟨r0, s0⟩ := blk (HBx.out _ _ (HB.out _ hb2).1)
      have k0 : (0 : Int) ≤ (k : Int) := Int.natCast_nonneg _
      by_cases hlt : k < d.length
      · obtain ⟨l, hl, hdd⟩ := getOf d k hlt
        obtain ⟨b0, o0, cs, la, lc, ca, cc, rfl, hSb, hg, e1, e2, e3, hI, hC⟩ := HX.out k l hl
        have hSb1 : n ≤ b0 := hSb.1
        have hSb2 : b0 < w.heap.size := hSb.2
        have hcl := hC.len
        have HL := Lib.hid (And.intro hg (And.intro e1 (And.intro e2 e3)))
        have HIC := Lib.hid hC
        have q3 := HSh.out.slice hg e3
        unfold maxLen at hcl
        have i1 : (k : Int) < (d.length : Int) := by omega
        clear hl hdd hI hC hg e1 e2 e3 hSb
        go_wp2_with fail
        go_loopw [11] (fun j wi => ∃ q : Nat, q ≤ l.cells.length ∧ j = .int .i64 q ∧ Hid (Shp w2 wi) ∧ Hid (Below n w2 wi) ∧ Hid (KeepSt w2 wi)) (fun j _ => l.cells.length - (intOf j).toNat)
        case atStart => exact ⟨0, Nat.zero_le _, rfl, HSh, HBl, HBx⟩
        case round =>
          clear q3 HSh HBl HBx r0 s0
          obtain ⟨q, hq, rfl, HSh, HBl, HBx⟩ := hrel
          obtain ⟨r0, s0⟩ := blk (HBx.out _ _ (HB.out _ hb2).1)
          have q3 := HSh.out.slice HL.out.1 HL.out.2.2.2
          have q0 : (0 : Int) ≤ (q : Int) := Int.natCast_nonneg _
          by_cases hlt2 : q < l.cells.length
          · obtain ⟨bc, oc, cs2, rfl, hSc, hg2, hsz⟩ := HIC.out.cellAt hlt2
            have hSc1 : n ≤ bc := hSc.1
            have hSc2 : bc < w.heap.size := hSc.2
            obtain ⟨⟨u, hu⟩, hf⟩ := HSh.out.at (off := oc + q * 3) hg2 (by omega)
            have HG2 := Lib.hid hg2
            have q1 : (q : Int) < (l.cells.length : Int) := by omega
            clear hg2 hSc
            go_wp2_with fail
            go_roundw
            case rel => exact ⟨q + 1, hlt2, by go_num, Lib.hid (HSh.out.set HG2.out (fun e => absurd e (by decide)) _), Lib.hid (HBl.out.setCell hSc1 _), Lib.hid (keep_st HBx.out HG2.out (by decide) _ _)⟩
            case measure => simp [intOf]; omega
          · obtain rfl : q = l.cells.length := by omega
            have hos : o0 + k * 4 + 2 < cs.size := (Array.getElem?_eq_some_iff.1 HL.out.2.2.1).1
            obtain ⟨⟨u, hu⟩, hf⟩ := HSh.out.at (off := o0 + k * 4 + 2) HL.out.1 hos
            go_wp2_with fail
            go_roundw
            case rel => exact ⟨k + 1, hlt, by go_num, Lib.hid (HSh.out.set HL.out.1 (fun _ => ⟨_, _, HL.out.2.2.1⟩) _), Lib.hid (HBl.out.setCell hSb1 _), Lib.hid (keep_st HBx.out HL.out.1 (by decide) _ _)⟩
            case measure => simp [intOf]; omega
      · obtain rfl : k = d.length := by omega
        go_wp2_with fail
        go_ret
        rw [HR.out]
        exact ⟨rfl, (H1.out.mono HN.out).trans ((hb2.mono (Nat.le_trans HN.out hs1)).trans HBl.out), fun k cs hk => HBx.out k cs (heap_below hb2 (heap_below H1.out hk))⟩
  · have HR : Hid ((decide (e = f) && q) = false) := Lib.hid (by rw [decide_eq_false hef]; rfl)
    have hq1 : (e == f) = false := by simpa using hef
    obtain ⟨w2, hw2⟩ : ∃ w2, w2 = W1 := ⟨_, rfl⟩
    have hb2 : Below W1.heap.size W1 w2 := hw2 ▸ hw0
    have HW2 := Lib.hid hw2
    clear hef hw2
    go_enter Tryz.func35, Tryz.ntmps35
    go_wp2_with fail
    rw [← HW2.out]
    obtain ⟨a3, c3, hve, hc2, hm2, hx2⟩ := docOwn_shape (HD.out _ hb2)
    cases hve
    have HX := Lib.hid hx2
    clear hx2 p0 f0 p1 f1
    unfold maxLen at hm2
    go_loopw [10, 11] (fun i _ wr => ∃ k : Nat, k ≤ d.length ∧ i = .int .i64 k ∧ Hid (Shp w2 wr) ∧ Hid (Below n w2 wr) ∧ Hid (KeepSt w2 wr)) (fun i _ _ => d.length - (intOf i).toNat)
    case atStart => exact ⟨0, Nat.zero_le _, rfl, Lib.hid (Shp.refl _), Lib.hid (Below.refl _ _), Lib.hid (fun _ _ h => h)⟩
    case round =>
      obtain ⟨k, hk, rfl, HSh, HBl, HBx⟩ := hrel
      obtain ⟨wo, rfl⟩ : ∃ wo : World, wo = wr := ⟨_, rfl⟩
      obtain ⟨r0, s0⟩ := blk (HBx.out _ _ (HB.out _ hb2).1)
      have k0 : (0 : Int) ≤ (k : Int) := Int.natCast_nonneg _
      by_cases hlt : k < d.length
      · obtain ⟨l, hl, hdd⟩ := getOf d k hlt
        obtain ⟨b0, o0, cs, la, lc, ca, cc, rfl, hSb, hg, e1, e2, e3, hI, hC⟩ := HX.out k l hl
        have hSb1 : n ≤ b0 := hSb.1
        have hSb2 : b0 < w.heap.size := hSb.2
        have hcl := hC.len
        have HL := Lib.hid (And.intro hg (And.intro e1 (And.intro e2 e3)))
        have HIC := Lib.hid hC
        have q3 := HSh.out.slice hg e3
        unfold maxLen at hcl
        have i1 : (k : Int) < (d.length : Int) := by omega
        clear hl hdd hI hC hg e1 e2 e3 hSb
        go_wp2_with fail
        go_loopw [11] (fun j wi => ∃ q : Nat, q ≤ l.cells.length ∧ j = .int .i64 q ∧ Hid (Shp w2 wi) ∧ Hid (Below n w2 wi) ∧ Hid (KeepSt w2 wi)) (fun j _ => l.cells.length - (intOf j).toNat)
        case atStart => exact ⟨0, Nat.zero_le _, rfl, HSh, HBl, HBx⟩
        case round =>
          clear q3 HSh HBl HBx r0 s0
          obtain ⟨q, hq, rfl, HSh, HBl, HBx⟩ := hrel
          obtain ⟨r0, s0⟩ := blk (HBx.out _ _ (HB.out _ hb2).1)
          have q3 := HSh.out.slice HL.out.1 HL.out.2.2.2
          have q0 : (0 : Int) ≤ (q : Int) := Int.natCast_nonneg _
          by_cases hlt2 : q < l.cells.length
          · obtain ⟨bc, oc, cs2, rfl, hSc, hg2, hsz⟩ := HIC.out.cellAt hlt2
            have hSc1 : n ≤ bc := hSc.1
            have hSc2 : bc < w.heap.size := hSc.2
            obtain ⟨⟨u, hu⟩, hf⟩ := HSh.out.at (off := oc + q * 3) hg2 (by omega)
            have HG2 := Lib.hid hg2
            have q1 : (q : Int) < (l.cells.length : Int) := by omega
            clear hg2 hSc
            go_wp2_with fail
            go_roundw
            case rel => exact ⟨q + 1, hlt2, by go_num, Lib.hid (HSh.out.set HG2.out (fun e => absurd e (by decide)) _), Lib.hid (HBl.out.setCell hSc1 _), Lib.hid (keep_st HBx.out HG2.out (by decide) _ _)⟩
            case measure => simp [intOf]; omega
          · obtain rfl : q = l.cells.length := by omega
            have hos : o0 + k * 4 + 2 < cs.size := (Array.getElem?_eq_some_iff.1 HL.out.2.2.1).1
            obtain ⟨⟨u, hu⟩, hf⟩ := HSh.out.at (off := o0 + k * 4 + 2) HL.out.1 hos
            go_wp2_with fail
            go_roundw
            case rel => exact ⟨k + 1, hlt, by go_num, Lib.hid (HSh.out.set HL.out.1 (fun _ => ⟨_, _, HL.out.2.2.1⟩) _), Lib.hid (HBl.out.setCell hSb1 _), Lib.hid (keep_st HBx.out HL.out.1 (by decide) _ _)⟩
            case measure => simp [intOf]; omega
      · obtain rfl : k = d.length := by omega
        go_wp2_with fail
        go_ret
        rw [HR.out]
        exact ⟨rfl, (H1.out.mono HN.out).trans ((hb2.mono (Nat.le_trans HN.out hs1)).trans HBl.out), fun k cs hk => HBx.out k cs (heap_below hb2 (heap_below H1.out hk))⟩
theorem long24_any (v : Value) (s : St) (w : World) (S : Nat → Prop) (h : LinsR w S v s.lines) (hs : Sane s.lines) :
    Calls Tryz.prog 17 #[stV v s] w (LongSaid s.lines w) := by
  obtain ⟨W1, hW1, hB, hz, k0⟩ := one_st w v s
  have HC := Lib.hid (refLong_any v s.lines W1 S (h.below (rdLin_stable _) hB) hs)
  have H1 := Lib.hid hB
  have hs1 := hB.size
  obtain ⟨p0, f0⟩ := blk k0
  obtain ⟨va, vc, rfl⟩ := h.slice
  clear h hs k0 hB
  go_enter Tryz.func17, Tryz.ntmps17
  go_wp2_with (go_at_call 74; refine HC.out.mono ?_; rintro e w1 ⟨r, rfl, hr, hb⟩)
  go_ret
  exact ⟨r, rfl, hr, H1.out.trans (hb.mono hs1)⟩
end Go.Proofs.YtpndnbjpnajaaaaGreatDoor
namespace Go.Proofs.YtpndnbjpnajaaaaGreatDoor
open Go.RowKit
open Go.Proofs.Qw
attribute [local go_sem] Oper.semAt_some
set_option maxRecDepth 100000 in
set_option maxHeartbeats 4000000 in
theorem lawStDoes_any (v : Value) (s : St) (t : Int) (hr : List UInt8) (w : World) (S : Nat → Prop) (h : LinsR w S v s.lines) (sn : Sane s.lines) (ho : -9223372036854775808 ≤ s.on ∧ s.on ≤ 9223372036854775807) (hof : -9223372036854775808 ≤ s.off ∧ s.off ≤ 9223372036854775807) (he : EnvT w) :
    Calls Tryz.prog 5 #[stV v s, .int .i64 t, .string ⟨hr.toArray⟩] w fun e w' => e = .returned (.bool true) ∧ Below w.heap.size w w' := by
  obtain ⟨W1, hW1, hB, hz, k0⟩ := one_st w v s
  have HB : Hid (∀ W, Below W1.heap.size W1 W → W.heap[w.heap.size]? = some (.cells #[v, .int .i64 s.anc.line, .int .i64 s.anc.col, .int .i64 s.foc.line, .int .i64 s.foc.col, .int .i64 s.on, .int .i64 s.off] 26)) := Lib.hid fun W hW => heap_below hW k0
  have hs1 := hB.size
  have H1 := Lib.hid hB
  have hw0 : Below W1.heap.size W1 W1 := Below.refl _ _
  have HV : Hid (∀ W, Below W1.heap.size W1 W → LinsR W S v s.lines) := Lib.hid fun W hW => h.below (rdLin_stable _) (hB.trans (hW.mono hs1))
  have HE : Hid (∀ W, Below W1.heap.size W1 W → EnvT W) := Lib.hid fun W hW => (he.below hB).below hW
  have HLo := Lib.hid (long24_any v s W1 S (HV.out _ hw0) sn)
  have HA : Hid (∀ W, Below W1.heap.size W1 W → Calls Tryz.prog 18 #[] W fun e w' => e = .returned (.bool true) ∧ Below W.heap.size W w') := Lib.hid fun W hW => awake24_any W (HE.out W hW)
  have HI := Lib.hid (And.intro ho hof)
  obtain ⟨p0, f0⟩ := blk k0
  obtain ⟨va, vc, hve⟩ := h.slice
  subst hve
  clear h sn ho hof he k0 hB
  by_cases hlen : 1000 < hr.length
  · have hl1 : (1000 : Int) < (hr.length : Int) := by omega
    clear hlen
    go_enter Tryz.func5, Tryz.ntmps5
    go_wp2_with fail
    refine HLo.out.mono ?_
    rintro e w1 ⟨r, rfl, _, hb1⟩
    cases r
    all_goals
      go_wp2_with fail
      refine (HA.out _ hb1).mono ?_
      rintro e w2 ⟨rfl, hst2⟩
      go_wp2_with fail
      go_ret
      exact ⟨rfl, H1.out.trans ((below_from hb1 hst2).mono hs1)⟩
  have hl1 : (hr.length : Int) ≤ 1000 := by omega
  have hh : hr.length ≤ 1000000 := by omega
  have HH := Lib.hid hh
  clear hlen hh
  go_enter Tryz.func5, Tryz.ntmps5
  go_wp2_with fail
  refine HLo.out.mono ?_
  rintro e w1 ⟨r, rfl, hr1, hb1⟩
  have HRS := Lib.hid hr1
  clear hr1
  cases r
  rotate_left 1
  · go_wp2_with fail
    refine (HA.out _ hb1).mono ?_
    rintro e w2 ⟨rfl, hst2⟩
    go_wp2_with fail
    go_ret
    exact ⟨rfl, H1.out.trans ((below_from hb1 hst2).mono hs1)⟩
  have HSF : Hid (Small s.lines ∧ Fits s.lines) := Lib.hid ⟨(HRS.out rfl).small, (HRS.out rfl).fits⟩
  clear p0 f0
  obtain ⟨p0, f0⟩ := blk (HB.out _ hb1)
  go_wp2_with fail
  refine (refStOwn_any _ s w1 S (HV.out _ hb1) HSF.out.2).mono ?_
  rintro e w2 ⟨v2, rfl, hv2, hst2⟩
  obtain ⟨x2, y2, hve2⟩ := hv2.slice
  subst hve2
  have hb2 := below_from hb1 hst2
  have HV2 := Lib.hid hv2
  have HST2 := Lib.hid hst2
  clear hv2 hst2
  obtain ⟨q0, g0⟩ := blk (HB.out _ hb2)
  have r0 := on1 (HB.out _ hb2)
  have hz2 := hb2.size
  have e02 : ¬ w2.heap.size = w.heap.size := by omega
  have e20 : ¬ w.heap.size = w2.heap.size := by omega
  go_wp2_with fail
  obtain ⟨M, hM⟩ : ∃ M, w2.alloc (.cells #[.slice x2 s.lines.length y2, .int .i64 s.anc.line, .int .i64 s.anc.col, .int .i64 s.foc.line, .int .i64 s.foc.col, .int .i64 s.on, .int .i64 s.off] 26) = M := ⟨_, rfl⟩
  rw [hM]
  have hb2M : Below w2.heap.size w2 M := hM ▸ below1 (Below.refl _ _) _
  have hbM := below_from hb2 hb2M
  have zM : M.heap.size = w2.heap.size + 1 := by rw [← hM]; simp
  have nM : M.heap[w2.heap.size]? = some (.cells #[.slice x2 s.lines.length y2, .int .i64 s.anc.line, .int .i64 s.anc.col, .int .i64 s.foc.line, .int .i64 s.foc.col, .int .i64 s.on, .int .i64 s.off] 26) := hM ▸ heap_new _ _ rfl
  have HBM : Hid (∀ W, Below M.heap.size M W → Below W1.heap.size W1 W) := Lib.hid fun W hW => below_from hbM hW
  have HK : Hid (∀ W, Below M.heap.size M W → W.heap[w.heap.size]? = some (.cells #[.slice va s.lines.length vc, .int .i64 s.anc.line, .int .i64 s.anc.col, .int .i64 s.foc.line, .int .i64 s.foc.col, .int .i64 s.on, .int .i64 s.off] 26) ∧ W.heap[w2.heap.size]? = some (.cells #[.slice x2 s.lines.length y2, .int .i64 s.anc.line, .int .i64 s.anc.col, .int .i64 s.foc.line, .int .i64 s.foc.col, .int .i64 s.on, .int .i64 s.off] 26)) := Lib.hid fun W hW => ⟨HB.out W (HBM.out W hW), heap_below hW nM⟩
  have HV0 : Hid (∀ W, Below M.heap.size M W → LinsR W S (.slice va s.lines.length vc) s.lines) := Lib.hid fun W hW => HV.out W (HBM.out W hW)
  have HVO : Hid (∀ W, Below M.heap.size M W → LinsR W (fun b => w1.heap.size ≤ b) (.slice x2 s.lines.length y2) s.lines) := Lib.hid fun W hW => (((DocR.read HV2.out).below (rdLin_stable _) hb2M)).below (rdLin_stable _) hW
  have HE0 : Hid (∀ W, Below M.heap.size M W → EnvT W) := Lib.hid fun W hW => HE.out W (HBM.out W hW)
  have hm0 : Below M.heap.size M M := Below.refl _ _
  have HP1 : Hid (∀ W, Below M.heap.size M W → Calls Tryz.prog 29 #[stV (.slice va s.lines.length vc) s, .int .i64 t] W (StSaid (toggleS s t) W)) := Lib.hid fun W hW => styToggle_any _ s t W S (HV0.out W hW) (HE0.out W hW) HSF.out.1 HSF.out.2
  have HQ1 : Hid (∀ W, Below M.heap.size M W → Calls Tryz.prog 34 #[stV (.slice x2 s.lines.length y2) s, .int .i64 t] W (StSaid (toggleS s t) W)) := Lib.hid fun W hW => refStToggle_any _ s t W _ (HVO.out W hW) HSF.out.1 HSF.out.2 HI.out.1 HI.out.2
  have HP2 : Hid (∀ W, Below M.heap.size M W → Calls Tryz.prog 30 #[stV (.slice va s.lines.length vc) s, .string ⟨hr.toArray⟩] W (StSaid (changedS s (linkL s hr)) W)) := Lib.hid fun W hW => styLink_any _ s hr W S (HV0.out W hW) (HE0.out W hW) HSF.out.1 HSF.out.2 HH.out
  have HQ2 : Hid (∀ W, Below M.heap.size M W → Calls Tryz.prog 36 #[stV (.slice x2 s.lines.length y2) s, .string ⟨hr.toArray⟩] W (StSaid (changedS s (linkL s hr)) W)) := Lib.hid fun W hW => refStLink_any _ s hr W _ (HVO.out W hW) HSF.out.1 HSF.out.2 HI.out.1 HI.out.2 HH.out
  have HP3 : Hid (∀ W, Below M.heap.size M W → Calls Tryz.prog 37 #[stV (.slice va s.lines.length vc) s] W (StSaid (changedS s (unlinkL s)) W)) := Lib.hid fun W hW => styUnlink_any _ s W S (HV0.out W hW) (HE0.out W hW) HSF.out.1 HSF.out.2
  have HQ3 : Hid (∀ W, Below M.heap.size M W → Calls Tryz.prog 38 #[stV (.slice x2 s.lines.length y2) s] W (StSaid (changedS s (unlinkL s)) W)) := Lib.hid fun W hW => refStUnlink_any _ s W _ (HVO.out W hW) HSF.out.1 HSF.out.2 HI.out.1 HI.out.2
  have HP4 : Hid (∀ W, Below M.heap.size M W → Calls Tryz.prog 31 #[stV (.slice va s.lines.length vc) s] W (StSaid (changedS s (plainL s)) W)) := Lib.hid fun W hW => styPlain_any _ s W S (HV0.out W hW) (HE0.out W hW) HSF.out.1 HSF.out.2
  have HQ4 : Hid (∀ W, Below M.heap.size M W → Calls Tryz.prog 39 #[stV (.slice x2 s.lines.length y2) s] W (StSaid (changedS s (plainL s)) W)) := Lib.hid fun W hW => refStPlain_any _ s W _ (HVO.out W hW) HSF.out.1 HSF.out.2 HI.out.1 HI.out.2
  obtain ⟨X1, hX1⟩ : ∃ X, toggleS s t = X := ⟨_, rfl⟩
  rw [hX1] at HP1 HQ1
  clear hX1
  obtain ⟨X2, hX2⟩ : ∃ X, changedS s (linkL s hr) = X := ⟨_, rfl⟩
  rw [hX2] at HP2 HQ2
  clear hX2
  obtain ⟨X3, hX3⟩ : ∃ X, changedS s (unlinkL s) = X := ⟨_, rfl⟩
  rw [hX3] at HP3 HQ3
  clear hX3
  obtain ⟨X4, hX4⟩ : ∃ X, changedS s (plainL s) = X := ⟨_, rfl⟩
  rw [hX4] at HP4 HQ4
  clear hX4
  have HIs : Hid (∀ (a b : Value) (X : St × Int) W (T : Nat → Prop), Below M.heap.size M W → DocR true W (fun b => M.heap.size ≤ b) a X.1.lines → LinsR W T b X.1.lines → Calls Tryz.prog 35 #[stV a X.1, .int .i64 X.2, stV b X.1, .int .i64 X.2] W fun r w' => r = .returned (.bool true) ∧ Below M.heap.size W w' ∧ KeepSt W w') := Lib.hid fun a b X W T hW ha hb => by
    have := lawIs24_any a b X.1 X.1 X.2 X.2 M.heap.size W T hW.size ha hb
    rw [decide_eq_true rfl, decide_eq_true rfl] at this
    exact this
  have HSa : Hid (∀ W, Below M.heap.size M W → Calls Tryz.prog 40 #[stV (.slice va s.lines.length vc) s, stV (.slice x2 s.lines.length y2) s] W fun e w' => e = .returned (.bool true) ∧ Below W.heap.size W w') := Lib.hid fun W hW => by
    have := refStSame_any (.slice va s.lines.length vc) (.slice x2 s.lines.length y2) s s W S _ (HV0.out W hW) (HVO.out W hW)
    rw [decide_eq_true rfl] at this
    exact this
  clear hM nM q0 g0 r0 p0 f0 hbM hb2M HV2 HST2
  go_wp2_with fail
  with_reducible refine (HP1.out _ hm0).mono ?_
  intro e w3 hsaid
  obtain ⟨v3, rfl, hv3, hst3⟩ := hsaid
  obtain ⟨x3, y3, hve3⟩ := hv3.slice
  subst hve3
  have hb3 := below_from hm0 hst3
  have HV3 := Lib.hid hv3
  clear hv3
  obtain ⟨q3, g3⟩ := blk (HK.out _ hb3).2
  have r3 := on1 (HK.out _ hb3).2
  have hz3 := hb3.size
  have e32 : ¬ w3.heap.size = w2.heap.size := by omega
  go_wp2_with fail
  obtain ⟨m3, hm3⟩ : ∃ m3, w3.alloc (.cells #[.slice x3 X1.1.lines.length y3, .int .i64 X1.1.anc.line, .int .i64 X1.1.anc.col, .int .i64 X1.1.foc.line, .int .i64 X1.1.foc.col, .int .i64 X1.1.on, .int .i64 X1.1.off] 26) = m3 := ⟨_, rfl⟩
  rw [hm3]
  have hbm3 : Below w3.heap.size w3 m3 := hm3 ▸ below1 (Below.refl _ _) _
  have zm3 : m3.heap.size = w3.heap.size + 1 := by rw [← hm3]; simp
  have n3 : m3.heap[w3.heap.size]? = some (.cells #[.slice x3 X1.1.lines.length y3, .int .i64 X1.1.anc.line, .int .i64 X1.1.anc.col, .int .i64 X1.1.foc.line, .int .i64 X1.1.foc.col, .int .i64 X1.1.on, .int .i64 X1.1.off] 26) := hm3 ▸ heap_new _ _ rfl
  have hc3 := below_from hb3 hbm3
  have HD3 := Lib.hid (HV3.out.below hbm3)
  clear hm3 q3 g3 r3 hbm3
  with_reducible refine (HQ1.out _ hc3).mono ?_
  intro e w4 hsaid
  obtain ⟨v4, rfl, hv4, hst4⟩ := hsaid
  obtain ⟨x4, y4, hve4⟩ := hv4.slice
  subst hve4
  have hb4 := below_from hc3 hst4
  have HV4 := Lib.hid hv4
  clear hv4
  have n4 := heap_below hst4 n3
  obtain ⟨q4, g4⟩ := blk n4
  have r4 := on1 n4
  have hz4 := hst4.size
  have e43 : ¬ w4.heap.size = w3.heap.size := by omega
  go_wp2_with fail
  obtain ⟨m4, hm4⟩ : ∃ m4, w4.alloc (.cells #[.slice x4 X1.1.lines.length y4, .int .i64 X1.1.anc.line, .int .i64 X1.1.anc.col, .int .i64 X1.1.foc.line, .int .i64 X1.1.foc.col, .int .i64 X1.1.on, .int .i64 X1.1.off] 26) = m4 := ⟨_, rfl⟩
  rw [hm4]
  have hbm4 : Below w4.heap.size w4 m4 := hm4 ▸ below1 (Below.refl _ _) _
  have zm4 : m4.heap.size = w4.heap.size + 1 := by rw [← hm4]; simp
  have K10_0 : m4.heap[w4.heap.size]? = some (.cells #[.slice x4 X1.1.lines.length y4, .int .i64 X1.1.anc.line, .int .i64 X1.1.anc.col, .int .i64 X1.1.foc.line, .int .i64 X1.1.foc.col, .int .i64 X1.1.on, .int .i64 X1.1.off] 26) := hm4 ▸ heap_new _ _ rfl
  have K8_0 := heap_below hbm4 n4
  have hc4 := below_from hb4 hbm4
  have HI1 := Lib.hid (HIs.out (.slice x3 X1.1.lines.length y3) (.slice x4 X1.1.lines.length y4) X1 m4 _ hc4 ((HD3.out.below hst4).below hbm4) ((DocR.read HV4.out).below (rdLin_stable _) hbm4))
  clear hm4 q4 g4 r4
  with_reducible refine HI1.out.mono ?_
  rintro e w5 ⟨rfl, hst5, hks5⟩
  have hb5 : Below M.heap.size M w5 := hc4.trans hst5
  have K8 := Lib.hid (hks5 _ _ K8_0)
  have K10 := Lib.hid (hks5 _ _ K10_0)
  have hz5 := hst5.size
  clear K8_0 K10_0 n3 n4 hks5 HD3 HV3 HV4 hst3 hst4 hst5 hbm4
  have e34 : ¬ w3.heap.size = w4.heap.size := by omega
  have e23 : ¬ w2.heap.size = w3.heap.size := by omega
  have e24 : ¬ w2.heap.size = w4.heap.size := by omega
  have e42 : ¬ w4.heap.size = w2.heap.size := by omega
  have e03 : ¬ w.heap.size = w3.heap.size := by omega
  have e30 : ¬ w3.heap.size = w.heap.size := by omega
  have l3 : M.heap.size ≤ w3.heap.size := by omega
  have l4 : M.heap.size ≤ w4.heap.size := by omega
  have z5 : w3.heap.size < w5.heap.size ∧ w4.heap.size < w5.heap.size := by omega
  obtain ⟨q0, g0⟩ := blk (HK.out _ hb5).1
  go_wp2_with fail
  with_reducible refine (HP2.out _ hb5).mono ?_
  intro e w6 hsaid
  obtain ⟨v6, rfl, hv6, hst6⟩ := hsaid
  obtain ⟨x6, y6, hve6⟩ := hv6.slice
  subst hve6
  have hb6 := below_from hb5 hst6
  have HV6 := Lib.hid hv6
  have K8a := heap_below hst6 K8.out
  have K10a := heap_below hst6 K10.out
  clear q0 g0
  obtain ⟨q8, g8⟩ := blk K8a
  obtain ⟨q7, g7⟩ := blk (HK.out _ hb6).2
  have hz6 := hst6.size
  clear hv6
  go_wp2_with fail
  obtain ⟨m6, hm6, n6, b6, o6, s6⟩ := set_st w6 w3.heap.size K8a (.slice x6 X2.1.lines.length y6) (.int .i64 X2.1.anc.line) (.int .i64 X2.1.anc.col) (.int .i64 X2.1.foc.line) (.int .i64 X2.1.foc.col) (.int .i64 X2.1.on) (.int .i64 X2.1.off)
  rw [hm6]
  have hc6 : Below M.heap.size M m6 := hb6.trans (b6 _ l3)
  have HD6 : Hid (DocR true m6 (fun b => w5.heap.size ≤ b) (.slice x6 X2.1.lines.length y6) X2.1.lines) := Lib.hid (SliceR.stable (rdLin_stable true) HV6.out ⟨Nat.le_of_eq s6.symm, fun b hb _ => o6 b (fun e => by have hb : w5.heap.size ≤ b := hb; omega)⟩ (fun _ h _ => h))
  have K10b := (o6 w4.heap.size e43).trans K10a
  clear hm6 b6 o6 q8 g8 q7 g7 K8a K10a HV6
  with_reducible refine (HQ2.out _ hc6).mono ?_
  intro e w7 hsaid
  obtain ⟨v7, rfl, hv7, hst7⟩ := hsaid
  obtain ⟨x7, y7, hve7⟩ := hv7.slice
  subst hve7
  have hb7 := below_from hc6 hst7
  have HV7 := Lib.hid hv7
  have K8c := heap_below hst7 n6
  have K10c := heap_below hst7 K10b
  obtain ⟨q8, g8⟩ := blk K8c
  obtain ⟨q10, g10⟩ := blk K10c
  have hz7 := hst7.size
  clear hv7 n6 K10b
  go_wp2_with fail
  obtain ⟨m7, hm7, n7, b7, o7, s7⟩ := set_st w7 w4.heap.size K10c (.slice x7 X2.1.lines.length y7) (.int .i64 X2.1.anc.line) (.int .i64 X2.1.anc.col) (.int .i64 X2.1.foc.line) (.int .i64 X2.1.foc.col) (.int .i64 X2.1.on) (.int .i64 X2.1.off)
  rw [hm7]
  have hc7 : Below M.heap.size M m7 := hb7.trans (b7 _ l4)
  have HD7 : Hid (DocR true m7 (fun b => m6.heap.size ≤ b) (.slice x7 X2.1.lines.length y7) X2.1.lines) := Lib.hid (SliceR.stable (rdLin_stable true) HV7.out ⟨Nat.le_of_eq s7.symm, fun b hb _ => o7 b (fun e => by have hb : m6.heap.size ≤ b := hb; omega)⟩ (fun _ h _ => h))
  have HF6 : Hid (DocR true m7 (fun b => M.heap.size ≤ b) (.slice x6 X2.1.lines.length y6) X2.1.lines) := Lib.hid (SliceR.stable (rdLin_stable true) (HD6.out.below hst7) ⟨Nat.le_of_eq s7.symm, fun b hb _ => o7 b (fun e => by have hb : w5.heap.size ≤ b := hb; omega)⟩ (fun b h _ => by have h : w5.heap.size ≤ b := h; show M.heap.size ≤ b; omega))
  have K8d := (o7 w3.heap.size e34).trans K8c
  have HI2 := Lib.hid (HIs.out (.slice x6 X2.1.lines.length y6) (.slice x7 X2.1.lines.length y7) X2 m7 _ hc7 HF6.out (DocR.read HD7.out))
  clear hm7 b7 o7 q8 g8 q10 g10 K8c K10c HV7
  with_reducible refine HI2.out.mono ?_
  rintro e w8 ⟨rfl, hst8, hks8⟩
  have hb8 : Below M.heap.size M w8 := hc7.trans hst8
  have K8 := Lib.hid (hks8 _ _ K8d)
  have K10 := Lib.hid (hks8 _ _ n7)
  have hz8 := hst8.size
  clear hks8 K8d n7 hst6 hst7 hst8 HD6 HD7 HF6 HI2
  obtain ⟨q0, g0⟩ := blk (HK.out _ hb8).1
  go_wp2_with fail
  with_reducible refine (HP3.out _ hb8).mono ?_
  intro e w9 hsaid
  obtain ⟨v9, rfl, hv9, hst9⟩ := hsaid
  obtain ⟨x9, y9, hve9⟩ := hv9.slice
  subst hve9
  have hb9 := below_from hb8 hst9
  have HV9 := Lib.hid hv9
  have K8a := heap_below hst9 K8.out
  have K10a := heap_below hst9 K10.out
  clear q0 g0
  obtain ⟨q8, g8⟩ := blk K8a
  obtain ⟨q7, g7⟩ := blk (HK.out _ hb9).2
  have hz9 := hst9.size
  clear hv9
  go_wp2_with fail
  obtain ⟨m9, hm9, n9, b9, o9, s9⟩ := set_st w9 w3.heap.size K8a (.slice x9 X3.1.lines.length y9) (.int .i64 X3.1.anc.line) (.int .i64 X3.1.anc.col) (.int .i64 X3.1.foc.line) (.int .i64 X3.1.foc.col) (.int .i64 X3.1.on) (.int .i64 X3.1.off)
  rw [hm9]
  have hc9 : Below M.heap.size M m9 := hb9.trans (b9 _ l3)
  have HD9 : Hid (DocR true m9 (fun b => w8.heap.size ≤ b) (.slice x9 X3.1.lines.length y9) X3.1.lines) := Lib.hid (SliceR.stable (rdLin_stable true) HV9.out ⟨Nat.le_of_eq s9.symm, fun b hb _ => o9 b (fun e => by have hb : w8.heap.size ≤ b := hb; omega)⟩ (fun _ h _ => h))
  have K10b := (o9 w4.heap.size e43).trans K10a
  clear hm9 b9 o9 q8 g8 q7 g7 K8a K10a HV9
  with_reducible refine (HQ3.out _ hc9).mono ?_
  intro e w10 hsaid
  obtain ⟨v10, rfl, hv10, hst10⟩ := hsaid
  obtain ⟨x10, y10, hve10⟩ := hv10.slice
  subst hve10
  have hb10 := below_from hc9 hst10
  have HV10 := Lib.hid hv10
  have K8c := heap_below hst10 n9
  have K10c := heap_below hst10 K10b
  obtain ⟨q8, g8⟩ := blk K8c
  obtain ⟨q10, g10⟩ := blk K10c
  have hz10 := hst10.size
  clear hv10 n9 K10b
  go_wp2_with fail
  obtain ⟨m10, hm10, n10, b10, o10, s10⟩ := set_st w10 w4.heap.size K10c (.slice x10 X3.1.lines.length y10) (.int .i64 X3.1.anc.line) (.int .i64 X3.1.anc.col) (.int .i64 X3.1.foc.line) (.int .i64 X3.1.foc.col) (.int .i64 X3.1.on) (.int .i64 X3.1.off)
  rw [hm10]
  have hc10 : Below M.heap.size M m10 := hb10.trans (b10 _ l4)
  have HD10 : Hid (DocR true m10 (fun b => m9.heap.size ≤ b) (.slice x10 X3.1.lines.length y10) X3.1.lines) := Lib.hid (SliceR.stable (rdLin_stable true) HV10.out ⟨Nat.le_of_eq s10.symm, fun b hb _ => o10 b (fun e => by have hb : m9.heap.size ≤ b := hb; omega)⟩ (fun _ h _ => h))
  have HF9 : Hid (DocR true m10 (fun b => M.heap.size ≤ b) (.slice x9 X3.1.lines.length y9) X3.1.lines) := Lib.hid (SliceR.stable (rdLin_stable true) (HD9.out.below hst10) ⟨Nat.le_of_eq s10.symm, fun b hb _ => o10 b (fun e => by have hb : w8.heap.size ≤ b := hb; omega)⟩ (fun b h _ => by have h : w8.heap.size ≤ b := h; show M.heap.size ≤ b; omega))
  have K8d := (o10 w3.heap.size e34).trans K8c
  have HI3 := Lib.hid (HIs.out (.slice x9 X3.1.lines.length y9) (.slice x10 X3.1.lines.length y10) X3 m10 _ hc10 HF9.out (DocR.read HD10.out))
  clear hm10 b10 o10 q8 g8 q10 g10 K8c K10c HV10
  with_reducible refine HI3.out.mono ?_
  rintro e w11 ⟨rfl, hst11, hks11⟩
  have hb11 : Below M.heap.size M w11 := hc10.trans hst11
  have K8 := Lib.hid (hks11 _ _ K8d)
  have K10 := Lib.hid (hks11 _ _ n10)
  have hz11 := hst11.size
  clear hks11 K8d n10 hst9 hst10 hst11 HD9 HD10 HF9 HI3
  obtain ⟨q0, g0⟩ := blk (HK.out _ hb11).1
  go_wp2_with fail
  with_reducible refine (HP4.out _ hb11).mono ?_
  intro e w12 hsaid
  obtain ⟨v12, rfl, hv12, hst12⟩ := hsaid
  obtain ⟨x12, y12, hve12⟩ := hv12.slice
  subst hve12
  have hb12 := below_from hb11 hst12
  have HV12 := Lib.hid hv12
  have K8a := heap_below hst12 K8.out
  have K10a := heap_below hst12 K10.out
  clear q0 g0
  obtain ⟨q8, g8⟩ := blk K8a
  obtain ⟨q7, g7⟩ := blk (HK.out _ hb12).2
  have hz12 := hst12.size
  clear hv12
  go_wp2_with fail
  obtain ⟨m12, hm12, n12, b12, o12, s12⟩ := set_st w12 w3.heap.size K8a (.slice x12 X4.1.lines.length y12) (.int .i64 X4.1.anc.line) (.int .i64 X4.1.anc.col) (.int .i64 X4.1.foc.line) (.int .i64 X4.1.foc.col) (.int .i64 X4.1.on) (.int .i64 X4.1.off)
  rw [hm12]
  have hc12 : Below M.heap.size M m12 := hb12.trans (b12 _ l3)
  have HD12 : Hid (DocR true m12 (fun b => w11.heap.size ≤ b) (.slice x12 X4.1.lines.length y12) X4.1.lines) := Lib.hid (SliceR.stable (rdLin_stable true) HV12.out ⟨Nat.le_of_eq s12.symm, fun b hb _ => o12 b (fun e => by have hb : w11.heap.size ≤ b := hb; omega)⟩ (fun _ h _ => h))
  have K10b := (o12 w4.heap.size e43).trans K10a
  clear hm12 b12 o12 q8 g8 q7 g7 K8a K10a HV12
  with_reducible refine (HQ4.out _ hc12).mono ?_
  intro e w13 hsaid
  obtain ⟨v13, rfl, hv13, hst13⟩ := hsaid
  obtain ⟨x13, y13, hve13⟩ := hv13.slice
  subst hve13
  have hb13 := below_from hc12 hst13
  have HV13 := Lib.hid hv13
  have K8c := heap_below hst13 n12
  have K10c := heap_below hst13 K10b
  obtain ⟨q8, g8⟩ := blk K8c
  obtain ⟨q10, g10⟩ := blk K10c
  have hz13 := hst13.size
  clear hv13 n12 K10b
  go_wp2_with fail
  obtain ⟨m13, hm13, n13, b13, o13, s13⟩ := set_st w13 w4.heap.size K10c (.slice x13 X4.1.lines.length y13) (.int .i64 X4.1.anc.line) (.int .i64 X4.1.anc.col) (.int .i64 X4.1.foc.line) (.int .i64 X4.1.foc.col) (.int .i64 X4.1.on) (.int .i64 X4.1.off)
  rw [hm13]
  have hc13 : Below M.heap.size M m13 := hb13.trans (b13 _ l4)
  have HD13 : Hid (DocR true m13 (fun b => m12.heap.size ≤ b) (.slice x13 X4.1.lines.length y13) X4.1.lines) := Lib.hid (SliceR.stable (rdLin_stable true) HV13.out ⟨Nat.le_of_eq s13.symm, fun b hb _ => o13 b (fun e => by have hb : m12.heap.size ≤ b := hb; omega)⟩ (fun _ h _ => h))
  have HF12 : Hid (DocR true m13 (fun b => M.heap.size ≤ b) (.slice x12 X4.1.lines.length y12) X4.1.lines) := Lib.hid (SliceR.stable (rdLin_stable true) (HD12.out.below hst13) ⟨Nat.le_of_eq s13.symm, fun b hb _ => o13 b (fun e => by have hb : w11.heap.size ≤ b := hb; omega)⟩ (fun b h _ => by have h : w11.heap.size ≤ b := h; show M.heap.size ≤ b; omega))
  have K8d := (o13 w3.heap.size e34).trans K8c
  have HI4 := Lib.hid (HIs.out (.slice x12 X4.1.lines.length y12) (.slice x13 X4.1.lines.length y13) X4 m13 _ hc13 HF12.out (DocR.read HD13.out))
  clear hm13 b13 o13 q8 g8 q10 g10 K8c K10c HV13
  with_reducible refine HI4.out.mono ?_
  rintro e w14 ⟨rfl, hst14, hks14⟩
  have hb14 : Below M.heap.size M w14 := hc13.trans hst14
  have K8 := Lib.hid (hks14 _ _ K8d)
  have K10 := Lib.hid (hks14 _ _ n13)
  have hz14 := hst14.size
  clear hks14 K8d n13 hst12 hst13 hst14 HD12 HD13 HF12 HI4
  obtain ⟨q0, g0⟩ := blk (HK.out _ hb14).1
  obtain ⟨q1, g1⟩ := blk (HK.out _ hb14).2
  go_wp2_with fail
  with_reducible refine (HSa.out _ hb14).mono ?_
  rintro e z1 ⟨rfl, hs1z⟩
  have hbz := below_from hb14 hs1z
  go_wp2_with fail
  with_reducible refine (HA.out _ (HBM.out _ hbz)).mono ?_
  rintro e z2 ⟨rfl, hs2z⟩
  go_wp2_with fail
  go_ret
  exact ⟨rfl, H1.out.trans ((below_from (HBM.out _ hbz) hs2z).mono hs1)⟩
theorem lawStDoes_str (v : Value) (s : St) (t : Int) (hr : ByteArray) (w : World) (S : Nat → Prop) (h : LinsR w S v s.lines) (sn : Sane s.lines) (ho : -9223372036854775808 ≤ s.on ∧ s.on ≤ 9223372036854775807) (hof : -9223372036854775808 ≤ s.off ∧ s.off ≤ 9223372036854775807) (he : EnvT w) :
    Calls Tryz.prog 5 #[stV v s, .int .i64 t, .string hr] w fun e w' => e = .returned (.bool true) ∧ Below w.heap.size w w' := by
  have := lawStDoes_any v s t hr.data.toList w S h sn ho hof he
  rw [show (⟨hr.data.toList.toArray⟩ : ByteArray) = hr by simp] at this
  exact this
end Go.Proofs.YtpndnbjpnajaaaaGreatDoor
