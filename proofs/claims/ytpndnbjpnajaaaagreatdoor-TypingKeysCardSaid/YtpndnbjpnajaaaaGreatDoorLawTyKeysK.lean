/- The walk of the law TypingKeys. -/
import Derived.Test.YtpndnbjpnajaaaaGreatDoorKeyLawsK
import Derived.Test.YtpndnbjpnajaaaaGreatDoorKeys3K
import Derived.Test.YtpndnbjpnajaaaaGreatDoorTypTextK
import Derived.Test.YtpndnbjpnajaaaaGreatDoorRefKeysK
import Derived.Test.YtpndnbjpnajaaaaGreatDoorTypLawBaseK
set_option linter.unusedVariables false
set_option linter.unusedSimpArgs false
namespace Go.Proofs.YtpndnbjpnajaaaaGreatDoor
open Go.RowKit
open Go.Proofs.Qw
attribute [local go_sem] Oper.semAt_some
set_option maxRecDepth 100000 in
set_option maxHeartbeats 4000000 in
theorem lawTyKeys_any (v : Value) (s : St) (w : World) (S : Nat → Prop) (h : LinsR w S v s.lines) (sn : Sane s.lines) (ho : -9223372036854775808 ≤ s.on ∧ s.on ≤ 9223372036854775807) (hof : -9223372036854775808 ≤ s.off ∧ s.off ≤ 9223372036854775807) (he : EnvT w) :
  Calls Tryz.prog 8 #[stV v s] w fun e w' => e = .returned (.bool true) ∧ Below w.heap.size w w' := by
 obtain ⟨W1, hW1, hB, hz, k0⟩ := one_st w v s
 have HB : Hid (∀ W, Below W1.heap.size W1 W → W.heap[w.heap.size]? = some (.cells #[v, .int .i64 s.anc.line, .int .i64 s.anc.col, .int .i64 s.foc.line, .int .i64 s.foc.col, .int .i64 s.on, .int .i64 s.off] 26)) := Lib.hid fun W hW => heap_below hW k0
 have hs1 := hB.size
 have H1 := Lib.hid hB
 have hw0 : Below W1.heap.size W1 W1 := Below.refl _ _
 have HV : Hid (∀ W, Below W1.heap.size W1 W → LinsR W S v s.lines) := Lib.hid fun W hW => h.below (rdLin_stable _) (hB.trans (hW.mono hs1))
 have HE : Hid (∀ W, Below W1.heap.size W1 W → EnvT W) := Lib.hid fun W hW => (he.below hB).below hW
 have HLo := Lib.hid (long23_any v s W1 S (HV.out _ hw0) sn)
 have HA : Hid (∀ W, Below W1.heap.size W1 W → Calls Tryz.prog 44 #[] W fun e w' => e = .returned (.bool true) ∧ Below W.heap.size W w') := Lib.hid fun W hW => awake23_any W (HE.out W hW)
 have HI := Lib.hid (And.intro ho hof)
 obtain ⟨p0, f0⟩ := blk k0
 obtain ⟨va, vc, hve⟩ := h.slice
 subst hve
 clear h sn ho hof he k0 hB
 go_enter Tryz.func8, Tryz.ntmps8
 go_wp2_with fail
 refine HLo.out.mono ?_
 rintro e w1 ⟨r, rfl, hr1, hb1⟩
 have HRS := Lib.hid hr1
 clear hr1
 cases r
 rotate_left 1
 ·go_wp2_with fail
  refine (HA.out _ hb1).mono ?_
  rintro e w2 ⟨rfl, hst2⟩
  go_wp2_with fail
  go_ret
  exact ⟨rfl, H1.out.trans ((below_from hb1 hst2).mono hs1)⟩
 have HSF : Hid (Small s.lines ∧ Fits s.lines) := Lib.hid ⟨(HRS.out rfl).small, (HRS.out rfl).fits⟩
 clear p0 f0
 obtain ⟨p0, f0⟩ := blk (HB.out _ hb1)
 go_wp2_with fail
 refine (refStOwn_any _ s w1 S (HV.out _ hb1) HSF.out.2).mono ?_
 rintro e w2 ⟨v2, rfl, hv2, hst2⟩
 obtain ⟨x2, y2, hve2⟩ := hv2.slice
 subst hve2
 have hb2 := below_from hb1 hst2
 have HV2 := Lib.hid hv2
 have HST2 := Lib.hid hst2
 clear hv2 hst2
 obtain ⟨q0, g0⟩ := blk (HB.out _ hb2)
 have r0 := on1 (HB.out _ hb2)
 have hz2 := hb2.size
 have e02 : ¬ w2.heap.size = w.heap.size := by omega
 have e20 : ¬ w.heap.size = w2.heap.size := by omega
 go_wp2_with fail
 obtain ⟨M, hM⟩ : ∃ M, w2.alloc (.cells #[.slice x2 s.lines.length y2, .int .i64 s.anc.line, .int .i64 s.anc.col, .int .i64 s.foc.line, .int .i64 s.foc.col, .int .i64 s.on, .int .i64 s.off] 26) = M := ⟨_, rfl⟩
 rw [hM]
 have hb2M : Below w2.heap.size w2 M := hM ▸ below1 (Below.refl _ _) _
 have hbM := below_from hb2 hb2M
 have zM : M.heap.size = w2.heap.size + 1 := by rw [← hM]; simp
 have nM : M.heap[w2.heap.size]? = some (.cells #[.slice x2 s.lines.length y2, .int .i64 s.anc.line, .int .i64 s.anc.col, .int .i64 s.foc.line, .int .i64 s.foc.col, .int .i64 s.on, .int .i64 s.off] 26) := hM ▸ heap_new _ _ rfl
 have HBM : Hid (∀ W, Below M.heap.size M W → Below W1.heap.size W1 W) := Lib.hid fun W hW => below_from hbM hW
 have HK : Hid (∀ W, Below M.heap.size M W → W.heap[w.heap.size]? = some (.cells #[.slice va s.lines.length vc, .int .i64 s.anc.line, .int .i64 s.anc.col, .int .i64 s.foc.line, .int .i64 s.foc.col, .int .i64 s.on, .int .i64 s.off] 26) ∧ W.heap[w2.heap.size]? = some (.cells #[.slice x2 s.lines.length y2, .int .i64 s.anc.line, .int .i64 s.anc.col, .int .i64 s.foc.line, .int .i64 s.foc.col, .int .i64 s.on, .int .i64 s.off] 26)) := Lib.hid fun W hW => ⟨HB.out W (HBM.out W hW), heap_below hW nM⟩
 have HV0 : Hid (∀ W, Below M.heap.size M W → LinsR W S (.slice va s.lines.length vc) s.lines) := Lib.hid fun W hW => HV.out W (HBM.out W hW)
 have HVO : Hid (∀ W, Below M.heap.size M W → LinsR W (fun b => w1.heap.size ≤ b) (.slice x2 s.lines.length y2) s.lines) := Lib.hid fun W hW => (((DocR.read HV2.out).below (rdLin_stable _) hb2M)).below (rdLin_stable _) hW
 have HE0 : Hid (∀ W, Below M.heap.size M W → EnvT W) := Lib.hid fun W hW => HE.out W (HBM.out W hW)
 have hm0 : Below M.heap.size M M := Below.refl _ _
 have HP1 : Hid (∀ W, Below M.heap.size M W → Calls Tryz.prog 45 #[stV (.slice va s.lines.length vc) s] W (StSaid (keyS s (eraseK s)) W)) := Lib.hid fun W hW => typErase_any _ s W S (HV0.out W hW) (HE0.out W hW) HSF.out.1 HSF.out.2
 have HQ1 : Hid (∀ W, Below M.heap.size M W → Calls Tryz.prog 46 #[stV (.slice x2 s.lines.length y2) s] W (StSaid (keyS s (eraseK s)) W)) := Lib.hid fun W hW => refErase_any _ s W _ (HVO.out W hW) HSF.out.1 HSF.out.2 HI.out.1 HI.out.2
 have HP2 : Hid (∀ W, Below M.heap.size M W → Calls Tryz.prog 48 #[stV (.slice va s.lines.length vc) s] W (StSaid (keyS s (paraK s)) W)) := Lib.hid fun W hW => typParagraph_any _ s W S (HV0.out W hW) (HE0.out W hW) HSF.out.1 HSF.out.2
 have HQ2 : Hid (∀ W, Below M.heap.size M W → Calls Tryz.prog 49 #[stV (.slice x2 s.lines.length y2) s] W (StSaid (keyS s (paraK s)) W)) := Lib.hid fun W hW => refParagraph_any _ s W _ (HVO.out W hW) HSF.out.1 HSF.out.2 HI.out.1 HI.out.2
 have HP3 : Hid (∀ W, Below M.heap.size M W → Calls Tryz.prog 50 #[stV (.slice va s.lines.length vc) s] W (StSaid (keyS s (backK s)) W)) := Lib.hid fun W hW => typBack_any _ s W S (HV0.out W hW) (HE0.out W hW) HSF.out.1 HSF.out.2
 have HQ3 : Hid (∀ W, Below M.heap.size M W → Calls Tryz.prog 51 #[stV (.slice x2 s.lines.length y2) s] W (StSaid (keyS s (backK s)) W)) := Lib.hid fun W hW => refBack_any _ s W _ (HVO.out W hW) HSF.out.1 HSF.out.2 HI.out.1 HI.out.2
 have HP4 : Hid (∀ W, Below M.heap.size M W → Calls Tryz.prog 52 #[stV (.slice va s.lines.length vc) s] W (StSaid (keyS s (forthK s)) W)) := Lib.hid fun W hW => typForth_any _ s W S (HV0.out W hW) (HE0.out W hW) HSF.out.1 HSF.out.2
 have HQ4 : Hid (∀ W, Below M.heap.size M W → Calls Tryz.prog 53 #[stV (.slice x2 s.lines.length y2) s] W (StSaid (keyS s (forthK s)) W)) := Lib.hid fun W hW => refForth_any _ s W _ (HVO.out W hW) HSF.out.1 HSF.out.2 HI.out.1 HI.out.2
 obtain ⟨X1, hX1⟩ : ∃ X, keyS s (eraseK s) = X := ⟨_, rfl⟩
 rw [hX1] at HP1 HQ1
 clear hX1
 obtain ⟨X2, hX2⟩ : ∃ X, keyS s (paraK s) = X := ⟨_, rfl⟩
 rw [hX2] at HP2 HQ2
 clear hX2
 obtain ⟨X3, hX3⟩ : ∃ X, keyS s (backK s) = X := ⟨_, rfl⟩
 rw [hX3] at HP3 HQ3
 clear hX3
 obtain ⟨X4, hX4⟩ : ∃ X, keyS s (forthK s) = X := ⟨_, rfl⟩
 rw [hX4] at HP4 HQ4
 clear hX4
 have HIs : Hid (∀ (a b : Value) (X : St × Int) W (T : Nat → Prop), Below M.heap.size M W → DocR true W (fun b => M.heap.size ≤ b) a X.1.lines → LinsR W T b X.1.lines → Calls Tryz.prog 47 #[stV a X.1, .int .i64 X.2, stV b X.1, .int .i64 X.2] W fun r w' => r = .returned (.bool true) ∧ Below M.heap.size W w' ∧ KeepSt W w') := Lib.hid fun a b X W T hW ha hb => by
  have := lawIs23_any a b X.1 X.1 X.2 X.2 M.heap.size W T hW.size ha hb
  rw [decide_eq_true rfl, decide_eq_true rfl] at this
  exact this
 have HSa : Hid (∀ W, Below M.heap.size M W → Calls Tryz.prog 40 #[stV (.slice va s.lines.length vc) s, stV (.slice x2 s.lines.length y2) s] W fun e w' => e = .returned (.bool true) ∧ Below W.heap.size W w') := Lib.hid fun W hW => by
  have := refStSame_any (.slice va s.lines.length vc) (.slice x2 s.lines.length y2) s s W S _ (HV0.out W hW) (HVO.out W hW)
  rw [decide_eq_true rfl] at this
  exact this
 clear hM nM q0 g0 r0 p0 f0 hbM hb2M HV2 HST2
 go_wp2_with fail
 with_reducible refine (HP1.out _ hm0).mono ?_
 intro e w3 hsaid
 obtain ⟨v3, rfl, hv3, hst3⟩ := hsaid
 obtain ⟨x3, y3, hve3⟩ := hv3.slice
 subst hve3
 have hb3 := below_from hm0 hst3
 have HV3 := Lib.hid hv3
 clear hv3
 obtain ⟨q3, g3⟩ := blk (HK.out _ hb3).2
 have r3 := on1 (HK.out _ hb3).2
 have hz3 := hb3.size
 have e32 : ¬ w3.heap.size = w2.heap.size := by omega
 go_wp2_with fail
 obtain ⟨m3, hm3⟩ : ∃ m3, w3.alloc (.cells #[.slice x3 X1.1.lines.length y3, .int .i64 X1.1.anc.line, .int .i64 X1.1.anc.col, .int .i64 X1.1.foc.line, .int .i64 X1.1.foc.col, .int .i64 X1.1.on, .int .i64 X1.1.off] 26) = m3 := ⟨_, rfl⟩
 rw [hm3]
 have hbm3 : Below w3.heap.size w3 m3 := hm3 ▸ below1 (Below.refl _ _) _
 have zm3 : m3.heap.size = w3.heap.size + 1 := by rw [← hm3]; simp
 have n3 : m3.heap[w3.heap.size]? = some (.cells #[.slice x3 X1.1.lines.length y3, .int .i64 X1.1.anc.line, .int .i64 X1.1.anc.col, .int .i64 X1.1.foc.line, .int .i64 X1.1.foc.col, .int .i64 X1.1.on, .int .i64 X1.1.off] 26) := hm3 ▸ heap_new _ _ rfl
 have hc3 := below_from hb3 hbm3
 have HD3 := Lib.hid (HV3.out.below hbm3)
 clear hm3 q3 g3 r3 hbm3
 with_reducible refine (HQ1.out _ hc3).mono ?_
 intro e w4 hsaid
 obtain ⟨v4, rfl, hv4, hst4⟩ := hsaid
 obtain ⟨x4, y4, hve4⟩ := hv4.slice
 subst hve4
 have hb4 := below_from hc3 hst4
 have HV4 := Lib.hid hv4
 clear hv4
 have n4 := heap_below hst4 n3
 obtain ⟨q4, g4⟩ := blk n4
 have r4 := on1 n4
 have hz4 := hst4.size
 have e43 : ¬ w4.heap.size = w3.heap.size := by omega
 go_wp2_with fail
 obtain ⟨m4, hm4⟩ : ∃ m4, w4.alloc (.cells #[.slice x4 X1.1.lines.length y4, .int .i64 X1.1.anc.line, .int .i64 X1.1.anc.col, .int .i64 X1.1.foc.line, .int .i64 X1.1.foc.col, .int .i64 X1.1.on, .int .i64 X1.1.off] 26) = m4 := ⟨_, rfl⟩
 rw [hm4]
 have hbm4 : Below w4.heap.size w4 m4 := hm4 ▸ below1 (Below.refl _ _) _
 have zm4 : m4.heap.size = w4.heap.size + 1 := by rw [← hm4]; simp
 have K10_0 : m4.heap[w4.heap.size]? = some (.cells #[.slice x4 X1.1.lines.length y4, .int .i64 X1.1.anc.line, .int .i64 X1.1.anc.col, .int .i64 X1.1.foc.line, .int .i64 X1.1.foc.col, .int .i64 X1.1.on, .int .i64 X1.1.off] 26) := hm4 ▸ heap_new _ _ rfl
 have K8_0 := heap_below hbm4 n4
 have hc4 := below_from hb4 hbm4
 have HI1 := Lib.hid (HIs.out (.slice x3 X1.1.lines.length y3) (.slice x4 X1.1.lines.length y4) X1 m4 _ hc4 ((HD3.out.below hst4).below hbm4) ((DocR.read HV4.out).below (rdLin_stable _) hbm4))
 clear hm4 q4 g4 r4
 with_reducible refine HI1.out.mono ?_
 rintro e w5 ⟨rfl, hst5, hks5⟩
 have hb5 : Below M.heap.size M w5 := hc4.trans hst5
 have K8 := Lib.hid (hks5 _ _ K8_0)
 have K10 := Lib.hid (hks5 _ _ K10_0)
 have hz5 := hst5.size
 clear K8_0 K10_0 n3 n4 hks5 HD3 HV3 HV4 hst3 hst4 hst5 hbm4
 have e34 : ¬ w3.heap.size = w4.heap.size := by omega
 have e23 : ¬ w2.heap.size = w3.heap.size := by omega
 have e24 : ¬ w2.heap.size = w4.heap.size := by omega
 have e42 : ¬ w4.heap.size = w2.heap.size := by omega
 have e03 : ¬ w.heap.size = w3.heap.size := by omega
 have e30 : ¬ w3.heap.size = w.heap.size := by omega
 have l3 : M.heap.size ≤ w3.heap.size := by omega
 have l4 : M.heap.size ≤ w4.heap.size := by omega
 have z5 : w3.heap.size < w5.heap.size ∧ w4.heap.size < w5.heap.size := by omega
 obtain ⟨q0, g0⟩ := blk (HK.out _ hb5).1
 go_wp2_with fail
 with_reducible refine (HP2.out _ hb5).mono ?_
 intro e w6 hsaid
 obtain ⟨v6, rfl, hv6, hst6⟩ := hsaid
 obtain ⟨x6, y6, hve6⟩ := hv6.slice
 subst hve6
 have hb6 := below_from hb5 hst6
 have HV6 := Lib.hid hv6
 have K8a := heap_below hst6 K8.out
 have K10a := heap_below hst6 K10.out
 clear q0 g0
 obtain ⟨q8, g8⟩ := blk K8a
 obtain ⟨q7, g7⟩ := blk (HK.out _ hb6).2
 have hz6 := hst6.size
 clear hv6
 go_wp2_with fail
 obtain ⟨m6, hm6, n6, b6, o6, s6⟩ := set_st w6 w3.heap.size K8a (.slice x6 X2.1.lines.length y6) (.int .i64 X2.1.anc.line) (.int .i64 X2.1.anc.col) (.int .i64 X2.1.foc.line) (.int .i64 X2.1.foc.col) (.int .i64 X2.1.on) (.int .i64 X2.1.off)
 rw [hm6]
 have hc6 : Below M.heap.size M m6 := hb6.trans (b6 _ l3)
 have HD6 : Hid (DocR true m6 (fun b => w5.heap.size ≤ b) (.slice x6 X2.1.lines.length y6) X2.1.lines) := Lib.hid (SliceR.stable (rdLin_stable true) HV6.out ⟨Nat.le_of_eq s6.symm, fun b hb _ => o6 b (fun e => by have hb : w5.heap.size ≤ b := hb; omega)⟩ (fun _ h _ => h))
 have K10b := (o6 w4.heap.size e43).trans K10a
 clear hm6 b6 o6 q8 g8 q7 g7 K8a K10a HV6
 with_reducible refine (HQ2.out _ hc6).mono ?_
 intro e w7 hsaid
 obtain ⟨v7, rfl, hv7, hst7⟩ := hsaid
 obtain ⟨x7, y7, hve7⟩ := hv7.slice
 subst hve7
 have hb7 := below_from hc6 hst7
 have HV7 := Lib.hid hv7
 have K8c := heap_below hst7 n6
 have K10c := heap_below hst7 K10b
 obtain ⟨q8, g8⟩ := blk K8c
 obtain ⟨q10, g10⟩ := blk K10c
 have hz7 := hst7.size
 clear hv7 n6 K10b
 go_wp2_with fail
 obtain ⟨m7, hm7, n7, b7, o7, s7⟩ := set_st w7 w4.heap.size K10c (.slice x7 X2.1.lines.length y7) (.int .i64 X2.1.anc.line) (.int .i64 X2.1.anc.col) (.int .i64 X2.1.foc.line) (.int .i64 X2.1.foc.col) (.int .i64 X2.1.on) (.int .i64 X2.1.off)
 rw [hm7]
 have hc7 : Below M.heap.size M m7 := hb7.trans (b7 _ l4)
 have HD7 : Hid (DocR true m7 (fun b => m6.heap.size ≤ b) (.slice x7 X2.1.lines.length y7) X2.1.lines) := Lib.hid (SliceR.stable (rdLin_stable true) HV7.out ⟨Nat.le_of_eq s7.symm, fun b hb _ => o7 b (fun e => by have hb : m6.heap.size ≤ b := hb; omega)⟩ (fun _ h _ => h))
 have HF6 : Hid (DocR true m7 (fun b => M.heap.size ≤ b) (.slice x6 X2.1.lines.length y6) X2.1.lines) := Lib.hid (SliceR.stable (rdLin_stable true) (HD6.out.below hst7) ⟨Nat.le_of_eq s7.symm, fun b hb _ => o7 b (fun e => by have hb : w5.heap.size ≤ b := hb; omega)⟩ (fun b h _ => by have h : w5.heap.size ≤ b := h; show M.heap.size ≤ b; omega))
 have K8d := (o7 w3.heap.size e34).trans K8c
 have HI2 := Lib.hid (HIs.out (.slice x6 X2.1.lines.length y6) (.slice x7 X2.1.lines.length y7) X2 m7 _ hc7 HF6.out (DocR.read HD7.out))
 clear hm7 b7 o7 q8 g8 q10 g10 K8c K10c HV7
 with_reducible refine HI2.out.mono ?_
 rintro e w8 ⟨rfl, hst8, hks8⟩
 have hb8 : Below M.heap.size M w8 := hc7.trans hst8
 have K8 := Lib.hid (hks8 _ _ K8d)
 have K10 := Lib.hid (hks8 _ _ n7)
 have hz8 := hst8.size
 clear hks8 K8d n7 hst6 hst7 hst8 HD6 HD7 HF6 HI2
 obtain ⟨q0, g0⟩ := blk (HK.out _ hb8).1
 go_wp2_with fail
 with_reducible refine (HP3.out _ hb8).mono ?_
 intro e w9 hsaid
 obtain ⟨v9, rfl, hv9, hst9⟩ := hsaid
 obtain ⟨x9, y9, hve9⟩ := hv9.slice
 subst hve9
 have hb9 := below_from hb8 hst9
 have HV9 := Lib.hid hv9
 have K8a := heap_below hst9 K8.out
 have K10a := heap_below hst9 K10.out
 clear q0 g0
 obtain ⟨q8, g8⟩ := blk K8a
 obtain ⟨q7, g7⟩ := blk (HK.out _ hb9).2
 have hz9 := hst9.size
 clear hv9
 go_wp2_with fail
 obtain ⟨m9, hm9, n9, b9, o9, s9⟩ := set_st w9 w3.heap.size K8a (.slice x9 X3.1.lines.length y9) (.int .i64 X3.1.anc.line) (.int .i64 X3.1.anc.col) (.int .i64 X3.1.foc.line) (.int .i64 X3.1.foc.col) (.int .i64 X3.1.on) (.int .i64 X3.1.off)
 rw [hm9]
 have hc9 : Below M.heap.size M m9 := hb9.trans (b9 _ l3)
 have HD9 : Hid (DocR true m9 (fun b => w8.heap.size ≤ b) (.slice x9 X3.1.lines.length y9) X3.1.lines) := Lib.hid (SliceR.stable (rdLin_stable true) HV9.out ⟨Nat.le_of_eq s9.symm, fun b hb _ => o9 b (fun e => by have hb : w8.heap.size ≤ b := hb; omega)⟩ (fun _ h _ => h))
 have K10b := (o9 w4.heap.size e43).trans K10a
 clear hm9 b9 o9 q8 g8 q7 g7 K8a K10a HV9
 with_reducible refine (HQ3.out _ hc9).mono ?_
 intro e w10 hsaid
 obtain ⟨v10, rfl, hv10, hst10⟩ := hsaid
 obtain ⟨x10, y10, hve10⟩ := hv10.slice
 subst hve10
 have hb10 := below_from hc9 hst10
 have HV10 := Lib.hid hv10
 have K8c := heap_below hst10 n9
 have K10c := heap_below hst10 K10b
 obtain ⟨q8, g8⟩ := blk K8c
 obtain ⟨q10, g10⟩ := blk K10c
 have hz10 := hst10.size
 clear hv10 n9 K10b
 go_wp2_with fail
 obtain ⟨m10, hm10, n10, b10, o10, s10⟩ := set_st w10 w4.heap.size K10c (.slice x10 X3.1.lines.length y10) (.int .i64 X3.1.anc.line) (.int .i64 X3.1.anc.col) (.int .i64 X3.1.foc.line) (.int .i64 X3.1.foc.col) (.int .i64 X3.1.on) (.int .i64 X3.1.off)
 rw [hm10]
 have hc10 : Below M.heap.size M m10 := hb10.trans (b10 _ l4)
 have HD10 : Hid (DocR true m10 (fun b => m9.heap.size ≤ b) (.slice x10 X3.1.lines.length y10) X3.1.lines) := Lib.hid (SliceR.stable (rdLin_stable true) HV10.out ⟨Nat.le_of_eq s10.symm, fun b hb _ => o10 b (fun e => by have hb : m9.heap.size ≤ b := hb; omega)⟩ (fun _ h _ => h))
 have HF9 : Hid (DocR true m10 (fun b => M.heap.size ≤ b) (.slice x9 X3.1.lines.length y9) X3.1.lines) := Lib.hid (SliceR.stable (rdLin_stable true) (HD9.out.below hst10) ⟨Nat.le_of_eq s10.symm, fun b hb _ => o10 b (fun e => by have hb : w8.heap.size ≤ b := hb; omega)⟩ (fun b h _ => by have h : w8.heap.size ≤ b := h; show M.heap.size ≤ b; omega))
 have K8d := (o10 w3.heap.size e34).trans K8c
 have HI3 := Lib.hid (HIs.out (.slice x9 X3.1.lines.length y9) (.slice x10 X3.1.lines.length y10) X3 m10 _ hc10 HF9.out (DocR.read HD10.out))
 clear hm10 b10 o10 q8 g8 q10 g10 K8c K10c HV10
 with_reducible refine HI3.out.mono ?_
 rintro e w11 ⟨rfl, hst11, hks11⟩
 have hb11 : Below M.heap.size M w11 := hc10.trans hst11
 have K8 := Lib.hid (hks11 _ _ K8d)
 have K10 := Lib.hid (hks11 _ _ n10)
 have hz11 := hst11.size
 clear hks11 K8d n10 hst9 hst10 hst11 HD9 HD10 HF9 HI3
 obtain ⟨q0, g0⟩ := blk (HK.out _ hb11).1
 go_wp2_with fail
 with_reducible refine (HP4.out _ hb11).mono ?_
 intro e w12 hsaid
 obtain ⟨v12, rfl, hv12, hst12⟩ := hsaid
 obtain ⟨x12, y12, hve12⟩ := hv12.slice
 subst hve12
 have hb12 := below_from hb11 hst12
 have HV12 := Lib.hid hv12
 have K8a := heap_below hst12 K8.out
 have K10a := heap_below hst12 K10.out
 clear q0 g0
 obtain ⟨q8, g8⟩ := blk K8a
 obtain ⟨q7, g7⟩ := blk (HK.out _ hb12).2
 have hz12 := hst12.size
 clear hv12
 go_wp2_with fail
 obtain ⟨m12, hm12, n12, b12, o12, s12⟩ := set_st w12 w3.heap.size K8a (.slice x12 X4.1.lines.length y12) (.int .i64 X4.1.anc.line) (.int .i64 X4.1.anc.col) (.int .i64 X4.1.foc.line) (.int .i64 X4.1.foc.col) (.int .i64 X4.1.on) (.int .i64 X4.1.off)
 rw [hm12]
 have hc12 : Below M.heap.size M m12 := hb12.trans (b12 _ l3)
 have HD12 : Hid (DocR true m12 (fun b => w11.heap.size ≤ b) (.slice x12 X4.1.lines.length y12) X4.1.lines) := Lib.hid (SliceR.stable (rdLin_stable true) HV12.out ⟨Nat.le_of_eq s12.symm, fun b hb _ => o12 b (fun e => by have hb : w11.heap.size ≤ b := hb; omega)⟩ (fun _ h _ => h))
 have K10b := (o12 w4.heap.size e43).trans K10a
 clear hm12 b12 o12 q8 g8 q7 g7 K8a K10a HV12
 with_reducible refine (HQ4.out _ hc12).mono ?_
 intro e w13 hsaid
 obtain ⟨v13, rfl, hv13, hst13⟩ := hsaid
 obtain ⟨x13, y13, hve13⟩ := hv13.slice
 subst hve13
 have hb13 := below_from hc12 hst13
 have HV13 := Lib.hid hv13
 have K8c := heap_below hst13 n12
 have K10c := heap_below hst13 K10b
 obtain ⟨q8, g8⟩ := blk K8c
 obtain ⟨q10, g10⟩ := blk K10c
 have hz13 := hst13.size
 clear hv13 n12 K10b
 go_wp2_with fail
 obtain ⟨m13, hm13, n13, b13, o13, s13⟩ := set_st w13 w4.heap.size K10c (.slice x13 X4.1.lines.length y13) (.int .i64 X4.1.anc.line) (.int .i64 X4.1.anc.col) (.int .i64 X4.1.foc.line) (.int .i64 X4.1.foc.col) (.int .i64 X4.1.on) (.int .i64 X4.1.off)
 rw [hm13]
 have hc13 : Below M.heap.size M m13 := hb13.trans (b13 _ l4)
 have HD13 : Hid (DocR true m13 (fun b => m12.heap.size ≤ b) (.slice x13 X4.1.lines.length y13) X4.1.lines) := Lib.hid (SliceR.stable (rdLin_stable true) HV13.out ⟨Nat.le_of_eq s13.symm, fun b hb _ => o13 b (fun e => by have hb : m12.heap.size ≤ b := hb; omega)⟩ (fun _ h _ => h))
 have HF12 : Hid (DocR true m13 (fun b => M.heap.size ≤ b) (.slice x12 X4.1.lines.length y12) X4.1.lines) := Lib.hid (SliceR.stable (rdLin_stable true) (HD12.out.below hst13) ⟨Nat.le_of_eq s13.symm, fun b hb _ => o13 b (fun e => by have hb : w11.heap.size ≤ b := hb; omega)⟩ (fun b h _ => by have h : w11.heap.size ≤ b := h; show M.heap.size ≤ b; omega))
 have K8d := (o13 w3.heap.size e34).trans K8c
 have HI4 := Lib.hid (HIs.out (.slice x12 X4.1.lines.length y12) (.slice x13 X4.1.lines.length y13) X4 m13 _ hc13 HF12.out (DocR.read HD13.out))
 clear hm13 b13 o13 q8 g8 q10 g10 K8c K10c HV13
 with_reducible refine HI4.out.mono ?_
 rintro e w14 ⟨rfl, hst14, hks14⟩
 have hb14 : Below M.heap.size M w14 := hc13.trans hst14
 have K8 := Lib.hid (hks14 _ _ K8d)
 have K10 := Lib.hid (hks14 _ _ n13)
 have hz14 := hst14.size
 clear hks14 K8d n13 hst12 hst13 hst14 HD12 HD13 HF12 HI4
 obtain ⟨q0, g0⟩ := blk (HK.out _ hb14).1
 obtain ⟨q1, g1⟩ := blk (HK.out _ hb14).2
 go_wp2_with fail
 with_reducible refine (HSa.out _ hb14).mono ?_
 rintro e z1 ⟨rfl, hs1z⟩
 have hbz := below_from hb14 hs1z
 go_wp2_with fail
 with_reducible refine (HA.out _ (HBM.out _ hbz)).mono ?_
 rintro e z2 ⟨rfl, hs2z⟩
 go_wp2_with fail
 go_ret
 exact ⟨rfl, H1.out.trans ((below_from (HBM.out _ hbz) hs2z).mono hs1)⟩
end Go.Proofs.YtpndnbjpnajaaaaGreatDoor
