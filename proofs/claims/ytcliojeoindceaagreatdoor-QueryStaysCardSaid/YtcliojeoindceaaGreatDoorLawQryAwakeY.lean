/- Parts of the proof. -/
import Derived.Test.YtcliojeoindceaaGreatDoorQuietWalkY
import Derived.Test.YtcliojeoindceaaGreatDoorTypLawBaseY
set_option linter.unusedVariables false
set_option linter.unusedSimpArgs false
set_option maxHeartbeats 8000000
namespace Go.Proofs.Qw
open Go.RowKit Go.Proofs.YtcliojeoindceaaGreatDoor
def exH : St := ⟨[⟨0, [], 2, [⟨97, 0, []⟩, ⟨98, 1, []⟩]⟩], ⟨0, 0⟩, ⟨0, 2⟩, 0, 0⟩
set_option maxRecDepth 10000 in
theorem zMD : runQ exA [66, 111, 108, 100] [] = (exB, 0) := by decide +kernel
theorem zNO : runQ exA [120] [] = (noS, 2) := by decide +kernel
theorem zNe : runQ exA [102, 111, 114, 109, 97, 116, 66, 108, 111, 99, 107] [60, 72, 50, 62] = (exH, 0) := by decide +kernel
theorem zNC : runQ exA [102, 111, 114, 109, 97, 116, 66, 108, 111, 99, 107] [108, 105] = (noS, 1) := by decide +kernel
theorem zGN : xX [66, 79, 76, 68] = 5 ∧ (kF [66, 79, 76, 68]).isSome = true := by decide +kernel
theorem zMC : zAO [105, 110, 115, 101, 114, 116, 84, 101, 120, 116] [120] = ([120], true) := by decide +kernel
theorem zLC : uF exA [98, 111, 108, 100] = true := by decide +kernel
theorem zLB : zAt exA [102, 111, 114, 109, 97, 116, 66, 108, 111, 99, 107] = [112] := by decide +kernel
end Go.Proofs.Qw
namespace Go.Proofs.YtcliojeoindceaaGreatDoor
open Go.RowKit
open Go.Proofs.Qw
open _root_.Go.Lib renaming hid → zA
open _root_.Nat renaming le_trans → zD
open _root_.Go.RowKit.Below renaming refl → zE
open _root_.Go.Proofs.Tryz renaming prog → zV
open _root_.Go.Proofs.YtcliojeoindceaaGreatDoor renaming jG → zX, jI → zY
open _root_.Go.Proofs.Qw renaming jW → qB
set_option maxRecDepth 100000 in
theorem zJL (w : World) (he : EnvT w) : Calls zV 11 #[] w fun e w' => e = .returned (.bool true) ∧ Below w.heap.size w w' := by
 obtain ⟨W1, hW1⟩ : ∃ W1, ((w.alloc (.cells #[.int .i32 97, .int .i64 0, .string ⟨#[]⟩, .int .i32 98, .int .i64 1, .string ⟨#[]⟩] 57)).alloc (.cells #[.int .i64 0, .slice none 0 0, .int .i64 0, .slice (some ⟨w.heap.size, 0, none⟩) 2 2] 60)).alloc (.cells #[.slice (some ⟨w.heap.size + 1, 0, none⟩) 1 1, .int .i64 0, .int .i64 0, .int .i64 0, .int .i64 2, .int .i64 0, .int .i64 0] 26) = W1 := ⟨_, rfl⟩;have hB : Below w.heap.size w W1 := hW1 ▸ zBY (zE _ _) _ _ _;have hz : w.heap.size + 3 = W1.heap.size := by rw [← hW1]; simp
 have k0 : W1.heap[w.heap.size]? = some (.cells #[.int .i32 97, .int .i64 0, .string ⟨#[]⟩, .int .i32 98, .int .i64 1, .string ⟨#[]⟩] 57) := hW1 ▸ jK _ _ (jK _ _ (jF _ _ rfl));have k1 : W1.heap[w.heap.size + 1]? = some (.cells #[.int .i64 0, .slice none 0 0, .int .i64 0, .slice (some ⟨w.heap.size, 0, none⟩) 2 2] 60) := hW1 ▸ jK _ _ (jF _ _ qF);have k2 : W1.heap[w.heap.size + 1 + 1]? = some (.cells #[.slice (some ⟨w.heap.size + 1, 0, none⟩) 1 1, .int .i64 0, .int .i64 0, .int .i64 0, .int .i64 2, .int .i64 0, .int .i64 0] 26) := hW1 ▸ jF _ _ qF
 have hd0 : jD W1 (fun b => b < w.heap.size + 2) (.slice (some ⟨w.heap.size + 1, 0, none⟩) 1 1) (exL 0 1 [] []) := by
  refine ⟨_, 1, rfl, Nat.le_refl _, by decide, .inr ⟨w.heap.size + 1, 0, rfl, (by show w.heap.size + 1 < w.heap.size + 2; omega), by omega, fun h => kY, fun i x hx => ?_⟩⟩
  match i, hx with
  | 0, hx =>
   cases hx
   exact ⟨[.int .i64 0, .slice none 0 0, .int .i64 0, .slice (some ⟨w.heap.size, 0, none⟩) 2 2], rfl, ⟨.slice none 0 0, _, rfl, SliceR.nil _ _ _ _ _ _, zBM (enc := kX) (fun _ => rfl) [⟨97, 0, []⟩, ⟨98, 1, []⟩] k0 (by show w.heap.size < w.heap.size + 2; omega) qW⟩, fun j u hu => by
    rw [jT k1, Nat.zero_mul, Nat.zero_add]
    simpa using hu⟩
 have hs1 := hB.size;have HE : Hid (∀ W, Below w.heap.size w W → EnvT W) := zA fun W hW => he.below hW;have HB1 := zA hB;have HD1 := zA hd0;have HK1 := zA k2;have HS1 : Hid (w.heap.size + 3 ≤ W1.heap.size) := zA qD;have HW1 := zA hW1;clear he hd0 k0 k1 k2 hB hW1;go_enter Tryz.func11, Tryz.ntmps11;go_wp2_with fail;rw [HW1.out]
 have HFd : Hid (Calls zV 26 #[.string ⟨#[66, 79, 76, 68]⟩] W1 fun e w' => e = .returned (.tuple #[.int .i64 5, .bool true]) ∧ Below W1.heap.size W1 w') := zA (by
  have := zAD ⟨#[66, 79, 76, 68]⟩ W1 (HE.out _ HB1.out) qW;rw [show (⟨#[66, 79, 76, 68]⟩ : ByteArray).data.toList = [66, 79, 76, 68] from rfl, zGN.1, zGN.2] at this;exact this)
 refine HFd.out.mono ?_;rintro e m0 ⟨rfl, hst0⟩;have HB0 := zA (zX HB1.out hst0);have HK0 := zA (zY hst0 HK1.out);have HD0 := zA (HD1.out.below (qB _) hst0);have HS0 := zA (zD HS1.out hst0.size);clear hst0;obtain ⟨q1, g1⟩ := blk HK0.out;have r1 := on1 HK0.out;have u1 := on1f HK0.out;have e1 : ¬ m0.heap.size = w.heap.size + 1 + 1 := by have := HS0.out; omega
 go_wp2_with fail
 have HC1 : Hid (Calls zV 13 #[.agg #[.slice (some ⟨w.heap.size + 1, 0, none⟩) 1 1, .int .i64 0, .int .i64 0, .int .i64 0, .int .i64 2, .int .i64 0, .int .i64 0], .string ⟨#[66, 111, 108, 100]⟩, .string ⟨#[]⟩] m0 (StSaid (exB, 0) m0)) := zA (by
  have := zBa (.slice (some ⟨w.heap.size + 1, 0, none⟩) 1 1) exA ⟨#[66, 111, 108, 100]⟩ ⟨#[]⟩ m0 _ HD0.out (HE.out _ HB0.out) (vW _ _ qW qW).1 (vW _ _ qW qW).2 qW qW;rw [show (⟨#[66, 111, 108, 100]⟩ : ByteArray).data.toList = [66, 111, 108, 100] from rfl, show (⟨#[]⟩ : ByteArray).data.toList = [] from rfl, zMD] at this;exact this)
 with_reducible refine HC1.out.mono ?_
 intro e w1 hsaid;obtain ⟨v1, he1, hv1, hst1⟩ := hsaid;obtain ⟨x1, y1, hve1⟩ := hv1.slice;rw [show (exB.lines).length = 1 from rfl] at hve1;subst hve1;have he1 : e = .returned (.tuple #[.agg #[.slice x1 1 y1, .int .i64 0, .int .i64 0, .int .i64 0, .int .i64 2, .int .i64 0, .int .i64 0], .int .i64 0]) := he1;subst he1;have HB10 : Hid (Below w.heap.size w w1) := zA (zX HB0.out hst1);have HK10 := zA (zY hst1 HK0.out);have HD10 := zA (HD0.out.below (qB _) hst1);have HS10 := zA (zD HS0.out hst1.size);have HR1_10 := zA hv1;clear hv1 hst1 q1 g1 r1 u1 e1;go_upto_region 4 with fail
 obtain ⟨m1, hm1⟩ : ∃ m1, w1.alloc (.cells #[.slice x1 1 y1, .int .i64 0, .int .i64 0, .int .i64 0, .int .i64 2, .int .i64 0, .int .i64 0] 26) = m1 := ⟨_, rfl⟩;rw [hm1];have hbm1 : Below w1.heap.size w1 m1 := hm1 ▸ yP (zE _ _) _;have HB1 := zA (zX HB10.out hbm1);have HK1 := zA (zY hbm1 HK10.out);have HD1 := zA (HD10.out.below (qB _) hbm1);have HS1 := zA (zD HS10.out hbm1.size);have HR1_1 := zA (HR1_10.out.below hbm1);have HN1_1 : Hid (m1.heap[w1.heap.size]? = some (.cells #[.slice x1 1 y1, .int .i64 0, .int .i64 0, .int .i64 0, .int .i64 2, .int .i64 0, .int .i64 0] 26)) := zA (hm1 ▸ jF _ _ rfl);clear hbm1 hm1;obtain ⟨q2, g2⟩ := blk HK1.out;have r2 := on1 HK1.out;have u2 := on1f HK1.out;have e2 : ¬ m1.heap.size = w.heap.size + 1 + 1 := by have := HS1.out; omega
 go_wp2_with fail
 have HC2 : Hid (Calls zV 13 #[.agg #[.slice (some ⟨w.heap.size + 1, 0, none⟩) 1 1, .int .i64 0, .int .i64 0, .int .i64 0, .int .i64 2, .int .i64 0, .int .i64 0], .string ⟨#[120]⟩, .string ⟨#[]⟩] m1 (StSaid (noS, 2) m1)) := zA (by
  have := zBa (.slice (some ⟨w.heap.size + 1, 0, none⟩) 1 1) exA ⟨#[120]⟩ ⟨#[]⟩ m1 _ HD1.out (HE.out _ HB1.out) (vW _ _ qW qW).1 (vW _ _ qW qW).2 qW qW;rw [show (⟨#[120]⟩ : ByteArray).data.toList = [120] from rfl, show (⟨#[]⟩ : ByteArray).data.toList = [] from rfl, zNO] at this;exact this)
 with_reducible refine HC2.out.mono ?_
 intro e w2 hsaid;obtain ⟨v2, he2, hv2, hst2⟩ := hsaid;obtain ⟨x2, y2, hve2⟩ := hv2.slice;rw [show (noS.lines).length = 0 from rfl] at hve2;subst hve2;have he2 : e = .returned (.tuple #[.agg #[.slice x2 0 y2, .int .i64 0, .int .i64 0, .int .i64 0, .int .i64 0, .int .i64 0, .int .i64 0], .int .i64 2]) := he2;subst he2;have HB20 : Hid (Below w.heap.size w w2) := zA (zX HB1.out hst2);have HK20 := zA (zY hst2 HK1.out);have HD20 := zA (HD1.out.below (qB _) hst2);have HS20 := zA (zD HS1.out hst2.size);have HR1_20 := zA (HR1_1.out.below hst2);have HN1_20 := zA (zY hst2 HN1_1.out);clear hv2 hst2 q2 g2 r2 u2 e2;go_upto_region 5 with fail
 obtain ⟨m2, hm2⟩ : ∃ m2, w2.alloc (.cells #[.slice x2 0 y2, .int .i64 0, .int .i64 0, .int .i64 0, .int .i64 0, .int .i64 0, .int .i64 0] 26) = m2 := ⟨_, rfl⟩;rw [hm2];have hbm2 : Below w2.heap.size w2 m2 := hm2 ▸ yP (zE _ _) _;have HB2 := zA (zX HB20.out hbm2);have HK2 := zA (zY hbm2 HK20.out);have HD2 := zA (HD20.out.below (qB _) hbm2);have HS2 := zA (zD HS20.out hbm2.size);have HR1_2 := zA (HR1_20.out.below hbm2);have HN1_2 := zA (zY hbm2 HN1_20.out);clear hbm2 hm2;obtain ⟨q3, g3⟩ := blk HK2.out;have r3 := on1 HK2.out;have u3 := on1f HK2.out;have e3 : ¬ m2.heap.size = w.heap.size + 1 + 1 := by have := HS2.out; omega
 go_wp2_with fail
 have HC3 : Hid (Calls zV 13 #[.agg #[.slice (some ⟨w.heap.size + 1, 0, none⟩) 1 1, .int .i64 0, .int .i64 0, .int .i64 0, .int .i64 2, .int .i64 0, .int .i64 0], .string ⟨#[102, 111, 114, 109, 97, 116, 66, 108, 111, 99, 107]⟩, .string ⟨#[60, 72, 50, 62]⟩] m2 (StSaid (exH, 0) m2)) := zA (by
  have := zBa (.slice (some ⟨w.heap.size + 1, 0, none⟩) 1 1) exA ⟨#[102, 111, 114, 109, 97, 116, 66, 108, 111, 99, 107]⟩ ⟨#[60, 72, 50, 62]⟩ m2 _ HD2.out (HE.out _ HB2.out) (vW _ _ qW qW).1 (vW _ _ qW qW).2 qW qW;rw [show (⟨#[102, 111, 114, 109, 97, 116, 66, 108, 111, 99, 107]⟩ : ByteArray).data.toList = [102, 111, 114, 109, 97, 116, 66, 108, 111, 99, 107] from rfl, show (⟨#[60, 72, 50, 62]⟩ : ByteArray).data.toList = [60, 72, 50, 62] from rfl, zNe] at this;exact this)
 with_reducible refine HC3.out.mono ?_
 intro e w3 hsaid;obtain ⟨v3, he3, hv3, hst3⟩ := hsaid;obtain ⟨x3, y3, hve3⟩ := hv3.slice;rw [show (exH.lines).length = 1 from rfl] at hve3;subst hve3;have he3 : e = .returned (.tuple #[.agg #[.slice x3 1 y3, .int .i64 0, .int .i64 0, .int .i64 0, .int .i64 2, .int .i64 0, .int .i64 0], .int .i64 0]) := he3;subst he3;have HB30 : Hid (Below w.heap.size w w3) := zA (zX HB2.out hst3);have HK30 := zA (zY hst3 HK2.out);have HD30 := zA (HD2.out.below (qB _) hst3);have HS30 := zA (zD HS2.out hst3.size);have HR1_30 := zA (HR1_2.out.below hst3);have HN1_30 := zA (zY hst3 HN1_2.out);have HR3_30 := zA hv3;clear hv3 hst3 q3 g3 r3 u3 e3;go_upto_region 6 with fail
 obtain ⟨m3, hm3⟩ : ∃ m3, w3.alloc (.cells #[.slice x3 1 y3, .int .i64 0, .int .i64 0, .int .i64 0, .int .i64 2, .int .i64 0, .int .i64 0] 26) = m3 := ⟨_, rfl⟩;rw [hm3];have hbm3 : Below w3.heap.size w3 m3 := hm3 ▸ yP (zE _ _) _;have HB3 := zA (zX HB30.out hbm3);have HK3 := zA (zY hbm3 HK30.out);have HD3 := zA (HD30.out.below (qB _) hbm3);have HS3 := zA (zD HS30.out hbm3.size);have HR1_3 := zA (HR1_30.out.below hbm3);have HN1_3 := zA (zY hbm3 HN1_30.out);have HR3_3 := zA (HR3_30.out.below hbm3);have HN3_3 : Hid (m3.heap[w3.heap.size]? = some (.cells #[.slice x3 1 y3, .int .i64 0, .int .i64 0, .int .i64 0, .int .i64 2, .int .i64 0, .int .i64 0] 26)) := zA (hm3 ▸ jF _ _ rfl);clear hbm3 hm3;obtain ⟨q4, g4⟩ := blk HK3.out;have r4 := on1 HK3.out;have u4 := on1f HK3.out;have e4 : ¬ m3.heap.size = w.heap.size + 1 + 1 := by have := HS3.out; omega
 go_wp2_with fail
 have HC4 : Hid (Calls zV 13 #[.agg #[.slice (some ⟨w.heap.size + 1, 0, none⟩) 1 1, .int .i64 0, .int .i64 0, .int .i64 0, .int .i64 2, .int .i64 0, .int .i64 0], .string ⟨#[102, 111, 114, 109, 97, 116, 66, 108, 111, 99, 107]⟩, .string ⟨#[108, 105]⟩] m3 (StSaid (noS, 1) m3)) := zA (by
  have := zBa (.slice (some ⟨w.heap.size + 1, 0, none⟩) 1 1) exA ⟨#[102, 111, 114, 109, 97, 116, 66, 108, 111, 99, 107]⟩ ⟨#[108, 105]⟩ m3 _ HD3.out (HE.out _ HB3.out) (vW _ _ qW qW).1 (vW _ _ qW qW).2 qW qW;rw [show (⟨#[102, 111, 114, 109, 97, 116, 66, 108, 111, 99, 107]⟩ : ByteArray).data.toList = [102, 111, 114, 109, 97, 116, 66, 108, 111, 99, 107] from rfl, show (⟨#[108, 105]⟩ : ByteArray).data.toList = [108, 105] from rfl, zNC] at this;exact this)
 with_reducible refine HC4.out.mono ?_
 intro e w4 hsaid;obtain ⟨v4, he4, hv4, hst4⟩ := hsaid;obtain ⟨x4, y4, hve4⟩ := hv4.slice;rw [show (noS.lines).length = 0 from rfl] at hve4;subst hve4;have he4 : e = .returned (.tuple #[.agg #[.slice x4 0 y4, .int .i64 0, .int .i64 0, .int .i64 0, .int .i64 0, .int .i64 0, .int .i64 0], .int .i64 1]) := he4;subst he4;have HB40 : Hid (Below w.heap.size w w4) := zA (zX HB3.out hst4);have HK40 := zA (zY hst4 HK3.out);have HD40 := zA (HD3.out.below (qB _) hst4);have HS40 := zA (zD HS3.out hst4.size);have HR1_40 := zA (HR1_3.out.below hst4);have HN1_40 := zA (zY hst4 HN1_3.out);have HR3_40 := zA (HR3_3.out.below hst4);have HN3_40 := zA (zY hst4 HN3_3.out);clear hv4 hst4 q4 g4 r4 u4 e4;go_upto_region 7 with fail
 obtain ⟨m4, hm4⟩ : ∃ m4, w4.alloc (.cells #[.slice x4 0 y4, .int .i64 0, .int .i64 0, .int .i64 0, .int .i64 0, .int .i64 0, .int .i64 0] 26) = m4 := ⟨_, rfl⟩;rw [hm4];have hbm4 : Below w4.heap.size w4 m4 := hm4 ▸ yP (zE _ _) _;have HB4 := zA (zX HB40.out hbm4);have HK4 := zA (zY hbm4 HK40.out);have HD4 := zA (HD40.out.below (qB _) hbm4);have HS4 := zA (zD HS40.out hbm4.size);have HR1_4 := zA (HR1_40.out.below hbm4);have HN1_4 := zA (zY hbm4 HN1_40.out);have HR3_4 := zA (HR3_40.out.below hbm4);have HN3_4 := zA (zY hbm4 HN3_40.out);clear hbm4 hm4
 have HDt : Hid (Calls zV 28 #[.string ⟨#[105, 110, 115, 101, 114, 116, 84, 101, 120, 116]⟩, .string ⟨#[120]⟩] m4 fun e w' => e = .returned (.tuple #[.string ⟨#[120]⟩, .bool true]) ∧ Below m4.heap.size m4 w') := zA (by
  have := zJo ⟨#[105, 110, 115, 101, 114, 116, 84, 101, 120, 116]⟩ ⟨#[120]⟩ m4 (HE.out _ HB4.out) qW;rw [show (⟨#[105, 110, 115, 101, 114, 116, 84, 101, 120, 116]⟩ : ByteArray).data.toList = [105, 110, 115, 101, 114, 116, 84, 101, 120, 116] from rfl, show (⟨#[120]⟩ : ByteArray).data.toList = [120] from rfl, zMC] at this;exact this)
 have HIn : Hid (∀ W, Below m4.heap.size m4 W → Calls zV 19 #[.agg #[.slice (some ⟨w.heap.size + 1, 0, none⟩) 1 1, .int .i64 0, .int .i64 0, .int .i64 0, .int .i64 2, .int .i64 0, .int .i64 0], .string ⟨#[98, 111, 108, 100]⟩] W fun e w' => e = .returned (.bool true) ∧ Below W.heap.size W w') := zA fun W hW => by
  have := zEY (.slice (some ⟨w.heap.size + 1, 0, none⟩) 1 1) exA ⟨#[98, 111, 108, 100]⟩ W _ (HD4.out.below (qB _) hW) (HE.out _ (zX HB4.out hW)) (vW _ _ qW qW).1 (vW _ _ qW qW).2 qW;rw [show (⟨#[98, 111, 108, 100]⟩ : ByteArray).data.toList = [98, 111, 108, 100] from rfl, zLC] at this;exact this
 have HVa : Hid (∀ W, Below m4.heap.size m4 W → Calls zV 21 #[.agg #[.slice (some ⟨w.heap.size + 1, 0, none⟩) 1 1, .int .i64 0, .int .i64 0, .int .i64 0, .int .i64 2, .int .i64 0, .int .i64 0], .string ⟨#[102, 111, 114, 109, 97, 116, 66, 108, 111, 99, 107]⟩] W fun e w' => e = .returned (.string ⟨#[112]⟩) ∧ Below W.heap.size W w') := zA fun W hW => by
  have := zIt (.slice (some ⟨w.heap.size + 1, 0, none⟩) 1 1) exA ⟨#[102, 111, 114, 109, 97, 116, 66, 108, 111, 99, 107]⟩ W _ (HD4.out.below (qB _) hW) (HE.out _ (zX HB4.out hW)) (vW _ _ qW qW).1 (vW _ _ qW qW).2 qW;rw [show (⟨#[102, 111, 114, 109, 97, 116, 66, 108, 111, 99, 107]⟩ : ByteArray).data.toList = [102, 111, 114, 109, 97, 116, 66, 108, 111, 99, 107] from rfl, zLB] at this;exact this
 go_wp2_with fail
 with_reducible refine HDt.out.mono ?_
 rintro e w5 ⟨rfl, hb5⟩;obtain ⟨q5, g5⟩ := blk (zY hb5 HK4.out);obtain ⟨q1, g1⟩ := blk (zY hb5 HN1_4.out);obtain ⟨q3, g3⟩ := blk (zY hb5 HN3_4.out);have HX1 := zA (zND (HR1_4.out.below hb5));have HX3 := zA (zAq (HR3_4.out.below hb5) (i := 0) (l := ⟨0, [], 2, [⟨97, 0, []⟩, ⟨98, 1, []⟩]⟩) rfl);obtain ⟨pa, oa, na, la, lc, pb, ob, nb, he1, _, _, _, a2, b2, _, hn2, hn3, hn4, hn5⟩ := HX1.out;cases he1;obtain ⟨pc, oc, nc, lac, lcc, cac, ccc, he3, hc3, hm3, hA3, _⟩ := HX3.out;cases he3;rw [Nat.zero_mul, Nat.add_zero] at hA3;obtain ⟨_, _, _, c2, _, _, _⟩ := hA3;unfold maxLen at hn2 hn3 hm3;clear HX1 HX3;go_wp2_with fail
 with_reducible refine (HIn.out _ hb5).mono ?_
 rintro e w6 ⟨rfl, hst6⟩;have hb6 := zX hb5 hst6;obtain ⟨q6, g6⟩ := blk (zY hb6 HK4.out);go_wp2_with fail
 with_reducible refine (HVa.out _ hb6).mono ?_
 rintro e w7 ⟨rfl, hst7⟩;have hb7 := zX hb6 hst7;go_wp2_with fail;go_ret;exact ⟨rfl, zX HB4.out hb7⟩
end Go.Proofs.YtcliojeoindceaaGreatDoor
