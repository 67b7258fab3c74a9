/- The walk of the law TypingText. -/
import Derived.Test.YtpndnbjpnajaaaaGreatDoorKeys2U
import Derived.Test.YtpndnbjpnajaaaaGreatDoorRefTextU
import Derived.Test.YtpndnbjpnajaaaaGreatDoorRefBitsU
import Derived.Test.YtpndnbjpnajaaaaGreatDoorTypLawBaseU
import Derived.Test.YtpndnbjpnajaaaaGreatDoorStIsU
set_option linter.unusedVariables false
set_option linter.unusedSimpArgs false
namespace Go.Proofs.YtpndnbjpnajaaaaGreatDoor
open Go.RowKit
open Go.Proofs.Qw
attribute [local go_sem] Oper.semAt_some
set_option maxRecDepth 100000 in
set_option maxHeartbeats 4000000 in
theorem lawTyText_any (v : Value) (s : St) (t : ByteArray) (w : World) (S : Nat → Prop) (h : LinsR w S v s.lines) (sn : Sane s.lines) (ho : -9223372036854775808 ≤ s.on ∧ s.on ≤ 9223372036854775807) (hof : -9223372036854775808 ≤ s.off ∧ s.off ≤ 9223372036854775807) (he : EnvT w) :
  Calls Tryz.prog 9 #[stV v s, .string t] w fun e w' => e = .returned (.bool true) ∧ Below w.heap.size w w' := by
 obtain ⟨W1, hW1, hB, hz, k0⟩ := one_st w v s
 have HB : Hid (∀ W, Below W1.heap.size W1 W → W.heap[w.heap.size]? = some (.cells #[v, .int .i64 s.anc.line, .int .i64 s.anc.col, .int .i64 s.foc.line, .int .i64 s.foc.col, .int .i64 s.on, .int .i64 s.off] 26)) := Lib.hid fun W hW => heap_below hW k0
 have hs1 := hB.size
 have H1 := Lib.hid hB
 have hw0 : Below W1.heap.size W1 W1 := Below.refl _ _
 have HV : Hid (∀ W, Below W1.heap.size W1 W → LinsR W S v s.lines) := Lib.hid fun W hW => h.below (rdLin_stable _) (hB.trans (hW.mono hs1))
 have HE : Hid (∀ W, Below W1.heap.size W1 W → EnvT W) := Lib.hid fun W hW => (he.below hB).below hW
 have HLo := Lib.hid (long23_any v s W1 S (HV.out _ hw0) sn)
 have HA : Hid (∀ W, Below W1.heap.size W1 W → Calls Tryz.prog 44 #[] W fun e w' => e = .returned (.bool true) ∧ Below W.heap.size W w') := Lib.hid fun W hW => awake23_any W (HE.out W hW)
 have HI := Lib.hid (And.intro ho hof)
 obtain ⟨p0, f0⟩ := blk k0
 obtain ⟨va, vc, hve⟩ := h.slice
 subst hve
 clear h sn ho hof he k0 hB
 by_cases hlen : 20000 < t.size
 ·have hl1 : (20000 : Int) < (t.size : Int) := by omega
  clear hlen
  go_enter Tryz.func9, Tryz.ntmps9
  go_wp2_with fail
  refine HLo.out.mono ?_
  rintro e w1 ⟨r, rfl, _, hb1⟩
  cases r
  all_goals
   go_wp2_with fail
   refine (HA.out _ hb1).mono ?_
   rintro e w2 ⟨rfl, hst2⟩
   go_wp2_with fail
   go_ret
   exact ⟨rfl, H1.out.trans ((below_from hb1 hst2).mono hs1)⟩
 have hl1 : (t.size : Int) ≤ 20000 := by omega
 have hh : t.size ≤ 1000000 := by omega
 have HH := Lib.hid hh
 clear hlen hh
 go_enter Tryz.func9, Tryz.ntmps9
 go_wp2_with fail
 refine HLo.out.mono ?_
 rintro e w1 ⟨r, rfl, hr1, hb1⟩
 have HRS := Lib.hid hr1
 clear hr1
 cases r
 rotate_left 1
 ·go_wp2_with fail
  refine (HA.out _ hb1).mono ?_
  rintro e w2 ⟨rfl, hst2⟩
  go_wp2_with fail
  go_ret
  exact ⟨rfl, H1.out.trans ((below_from hb1 hst2).mono hs1)⟩
 have HSF : Hid (Small s.lines ∧ Fits s.lines) := Lib.hid ⟨(HRS.out rfl).small, (HRS.out rfl).fits⟩
 clear p0 f0
 obtain ⟨p0, f0⟩ := blk (HB.out _ hb1)
 go_wp2_with fail
 refine (refStOwn_any _ s w1 S (HV.out _ hb1) HSF.out.2).mono ?_
 rintro e w2 ⟨v2, rfl, hv2, hst2⟩
 obtain ⟨x2, y2, hve2⟩ := hv2.slice
 subst hve2
 have hb2 := below_from hb1 hst2
 have HV2 := Lib.hid hv2
 have HST2 := Lib.hid hst2
 clear hv2 hst2
 obtain ⟨q0, g0⟩ := blk (HB.out _ hb2)
 have r0 := on1 (HB.out _ hb2)
 have hz2 := hb2.size
 have e02 : ¬ w2.heap.size = w.heap.size := by omega
 have e20 : ¬ w.heap.size = w2.heap.size := by omega
 go_wp2_with fail
 obtain ⟨M, hM⟩ : ∃ M, w2.alloc (.cells #[.slice x2 s.lines.length y2, .int .i64 s.anc.line, .int .i64 s.anc.col, .int .i64 s.foc.line, .int .i64 s.foc.col, .int .i64 s.on, .int .i64 s.off] 26) = M := ⟨_, rfl⟩
 rw [hM]
 have hb2M : Below w2.heap.size w2 M := hM ▸ below1 (Below.refl _ _) _
 have hbM := below_from hb2 hb2M
 have zM : M.heap.size = w2.heap.size + 1 := by rw [← hM]; simp
 have nM : M.heap[w2.heap.size]? = some (.cells #[.slice x2 s.lines.length y2, .int .i64 s.anc.line, .int .i64 s.anc.col, .int .i64 s.foc.line, .int .i64 s.foc.col, .int .i64 s.on, .int .i64 s.off] 26) := hM ▸ heap_new _ _ rfl
 have HBM : Hid (∀ W, Below M.heap.size M W → Below W1.heap.size W1 W) := Lib.hid fun W hW => below_from hbM hW
 have HK : Hid (∀ W, Below M.heap.size M W → W.heap[w.heap.size]? = some (.cells #[.slice va s.lines.length vc, .int .i64 s.anc.line, .int .i64 s.anc.col, .int .i64 s.foc.line, .int .i64 s.foc.col, .int .i64 s.on, .int .i64 s.off] 26) ∧ W.heap[w2.heap.size]? = some (.cells #[.slice x2 s.lines.length y2, .int .i64 s.anc.line, .int .i64 s.anc.col, .int .i64 s.foc.line, .int .i64 s.foc.col, .int .i64 s.on, .int .i64 s.off] 26)) := Lib.hid fun W hW => ⟨HB.out W (HBM.out W hW), heap_below hW nM⟩
 have HV0 : Hid (∀ W, Below M.heap.size M W → LinsR W S (.slice va s.lines.length vc) s.lines) := Lib.hid fun W hW => HV.out W (HBM.out W hW)
 have HVO : Hid (∀ W, Below M.heap.size M W → LinsR W (fun b => w1.heap.size ≤ b) (.slice x2 s.lines.length y2) s.lines) := Lib.hid fun W hW => (((DocR.read HV2.out).below (rdLin_stable _) hb2M)).below (rdLin_stable _) hW
 have HE0 : Hid (∀ W, Below M.heap.size M W → EnvT W) := Lib.hid fun W hW => HE.out W (HBM.out W hW)
 have hm0 : Below M.heap.size M M := Below.refl _ _
 have HP1 : Hid (∀ W, Below M.heap.size M W → Calls Tryz.prog 54 #[stV (.slice va s.lines.length vc) s, .string t] W (StSaid (keyS s (textK s t)) W)) := Lib.hid fun W hW => typText_any _ s t W S (HV0.out W hW) (HE0.out W hW) HSF.out.1 HSF.out.2 HH.out
 have HQ1 : Hid (∀ W, Below M.heap.size M W → Calls Tryz.prog 55 #[stV (.slice x2 s.lines.length y2) s, .string t] W (StSaid (keyS s (textK s t)) W)) := Lib.hid fun W hW => refText_any _ s t W _ (HVO.out W hW) HSF.out.1 HSF.out.2 HI.out.1 HI.out.2 HH.out
 obtain ⟨X1, hX1⟩ : ∃ X, keyS s (textK s t) = X := ⟨_, rfl⟩
 rw [hX1] at HP1 HQ1
 clear hX1
 have HIs : Hid (∀ (a b : Value) (X : St × Int) W (T : Nat → Prop), Below M.heap.size M W → DocR true W (fun b => M.heap.size ≤ b) a X.1.lines → LinsR W T b X.1.lines → Calls Tryz.prog 47 #[stV a X.1, .int .i64 X.2, stV b X.1, .int .i64 X.2] W fun r w' => r = .returned (.bool true) ∧ Below M.heap.size W w' ∧ KeepSt W w') := Lib.hid fun a b X W T hW ha hb => by
  have := lawIs23_any a b X.1 X.1 X.2 X.2 M.heap.size W T hW.size ha hb
  rw [decide_eq_true rfl, decide_eq_true rfl] at this
  exact this
 have HSa : Hid (∀ W, Below M.heap.size M W → Calls Tryz.prog 40 #[stV (.slice va s.lines.length vc) s, stV (.slice x2 s.lines.length y2) s] W fun e w' => e = .returned (.bool true) ∧ Below W.heap.size W w') := Lib.hid fun W hW => by
  have := refStSame_any (.slice va s.lines.length vc) (.slice x2 s.lines.length y2) s s W S _ (HV0.out W hW) (HVO.out W hW)
  rw [decide_eq_true rfl] at this
  exact this
 clear hM nM q0 g0 r0 p0 f0 hbM hb2M HV2 HST2
 go_wp2_with fail
 with_reducible refine (HP1.out _ hm0).mono ?_
 intro e w3 hsaid
 obtain ⟨v3, rfl, hv3, hst3⟩ := hsaid
 obtain ⟨x3, y3, hve3⟩ := hv3.slice
 subst hve3
 have hb3 := below_from hm0 hst3
 have HV3 := Lib.hid hv3
 clear hv3
 obtain ⟨q3, g3⟩ := blk (HK.out _ hb3).2
 have r3 := on1 (HK.out _ hb3).2
 have hz3 := hb3.size
 have e32 : ¬ w3.heap.size = w2.heap.size := by omega
 go_wp2_with fail
 obtain ⟨m3, hm3⟩ : ∃ m3, w3.alloc (.cells #[.slice x3 X1.1.lines.length y3, .int .i64 X1.1.anc.line, .int .i64 X1.1.anc.col, .int .i64 X1.1.foc.line, .int .i64 X1.1.foc.col, .int .i64 X1.1.on, .int .i64 X1.1.off] 26) = m3 := ⟨_, rfl⟩
 rw [hm3]
 have hbm3 : Below w3.heap.size w3 m3 := hm3 ▸ below1 (Below.refl _ _) _
 have zm3 : m3.heap.size = w3.heap.size + 1 := by rw [← hm3]; simp
 have n3 : m3.heap[w3.heap.size]? = some (.cells #[.slice x3 X1.1.lines.length y3, .int .i64 X1.1.anc.line, .int .i64 X1.1.anc.col, .int .i64 X1.1.foc.line, .int .i64 X1.1.foc.col, .int .i64 X1.1.on, .int .i64 X1.1.off] 26) := hm3 ▸ heap_new _ _ rfl
 have hc3 := below_from hb3 hbm3
 have HD3 := Lib.hid (HV3.out.below hbm3)
 clear hm3 q3 g3 r3 hbm3
 with_reducible refine (HQ1.out _ hc3).mono ?_
 intro e w4 hsaid
 obtain ⟨v4, rfl, hv4, hst4⟩ := hsaid
 obtain ⟨x4, y4, hve4⟩ := hv4.slice
 subst hve4
 have hb4 := below_from hc3 hst4
 have HV4 := Lib.hid hv4
 clear hv4
 have n4 := heap_below hst4 n3
 obtain ⟨q4, g4⟩ := blk n4
 have r4 := on1 n4
 have hz4 := hst4.size
 have e43 : ¬ w4.heap.size = w3.heap.size := by omega
 go_wp2_with fail
 obtain ⟨m4, hm4⟩ : ∃ m4, w4.alloc (.cells #[.slice x4 X1.1.lines.length y4, .int .i64 X1.1.anc.line, .int .i64 X1.1.anc.col, .int .i64 X1.1.foc.line, .int .i64 X1.1.foc.col, .int .i64 X1.1.on, .int .i64 X1.1.off] 26) = m4 := ⟨_, rfl⟩
 rw [hm4]
 have hbm4 : Below w4.heap.size w4 m4 := hm4 ▸ below1 (Below.refl _ _) _
 have zm4 : m4.heap.size = w4.heap.size + 1 := by rw [← hm4]; simp
 have K10_0 : m4.heap[w4.heap.size]? = some (.cells #[.slice x4 X1.1.lines.length y4, .int .i64 X1.1.anc.line, .int .i64 X1.1.anc.col, .int .i64 X1.1.foc.line, .int .i64 X1.1.foc.col, .int .i64 X1.1.on, .int .i64 X1.1.off] 26) := hm4 ▸ heap_new _ _ rfl
 have K8_0 := heap_below hbm4 n4
 have hc4 := below_from hb4 hbm4
 have HI1 := Lib.hid (HIs.out (.slice x3 X1.1.lines.length y3) (.slice x4 X1.1.lines.length y4) X1 m4 _ hc4 ((HD3.out.below hst4).below hbm4) ((DocR.read HV4.out).below (rdLin_stable _) hbm4))
 clear hm4 q4 g4 r4
 with_reducible refine HI1.out.mono ?_
 rintro e w5 ⟨rfl, hst5, hks5⟩
 have hb5 : Below M.heap.size M w5 := hc4.trans hst5
 have K8 := Lib.hid (hks5 _ _ K8_0)
 have K10 := Lib.hid (hks5 _ _ K10_0)
 have hz5 := hst5.size
 clear K8_0 K10_0 n3 n4 hks5 HD3 HV3 HV4 hst3 hst4 hst5 hbm4
 have e34 : ¬ w3.heap.size = w4.heap.size := by omega
 have e23 : ¬ w2.heap.size = w3.heap.size := by omega
 have e24 : ¬ w2.heap.size = w4.heap.size := by omega
 have e42 : ¬ w4.heap.size = w2.heap.size := by omega
 have e03 : ¬ w.heap.size = w3.heap.size := by omega
 have e30 : ¬ w3.heap.size = w.heap.size := by omega
 have l3 : M.heap.size ≤ w3.heap.size := by omega
 have l4 : M.heap.size ≤ w4.heap.size := by omega
 have z5 : w3.heap.size < w5.heap.size ∧ w4.heap.size < w5.heap.size := by omega
 obtain ⟨q0, g0⟩ := blk (HK.out _ hb5).1
 obtain ⟨q1, g1⟩ := blk (HK.out _ hb5).2
 go_wp2_with fail
 with_reducible refine (HSa.out _ hb5).mono ?_
 rintro e z1 ⟨rfl, hs1z⟩
 have hbz := below_from hb5 hs1z
 go_wp2_with fail
 with_reducible refine (HA.out _ (HBM.out _ hbz)).mono ?_
 rintro e z2 ⟨rfl, hs2z⟩
 go_wp2_with fail
 go_ret
 exact ⟨rfl, H1.out.trans ((below_from (HBM.out _ hbz) hs2z).mono hs1)⟩
end Go.Proofs.YtpndnbjpnajaaaaGreatDoor
