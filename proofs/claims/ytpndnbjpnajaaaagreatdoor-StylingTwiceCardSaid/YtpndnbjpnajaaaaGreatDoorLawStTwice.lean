/- The walk of the law StylingTwice. -/
import Derived.Test.YtpndnbjpnajaaaaGreatDoorOpenInts
import Derived.Test.YtpndnbjpnajaaaaGreatDoorKeys3
set_option linter.unusedVariables false
set_option linter.unusedSimpArgs false
namespace Go.Proofs.YtpndnbjpnajaaaaGreatDoor
open Go.RowKit
open Go.Proofs.Qw
attribute [local go_sem] Oper.semAt_some
theorem mask4 (n : Int) : bits .and .i64 n 3 = 0 ∨ bits .and .i64 n 3 = 1 ∨ bits .and .i64 n 3 = 2 ∨ bits .and .i64 n 3 = 3 := by
  have h := and_bound n 3 (by decide)
  have e : bits .and .i64 n ((3 : Nat) : Int) = bits .and .i64 n 3 := rfl
  rw [e] at h
  omega
theorem run_shl4 (n : Int) (h : n = 0 ∨ n = 1 ∨ n = 2 ∨ n = 3) : ∃ b, four b = true ∧ ∀ w, (Op.shift .shl .i64 1 .i64 n).run Tryz.prog w = .ok (.int .i64 b) w := by
  rcases h with rfl | rfl | rfl | rfl
  · exact ⟨1, by decide, fun _ => by kernel_rfl⟩
  · exact ⟨2, by decide, fun _ => by kernel_rfl⟩
  · exact ⟨4, by decide, fun _ => by kernel_rfl⟩
  · exact ⟨8, by decide, fun _ => by kernel_rfl⟩
set_option maxRecDepth 100000 in
set_option maxHeartbeats 8000000 in
theorem lawStTwice_any (v : Value) (s : St) (t : Int) (txt : ByteArray) (w : World) (S : Nat → Prop) (h : LinsR w S v s.lines) (sn : Sane s.lines) (ho : -9223372036854775808 ≤ s.on ∧ s.on ≤ 9223372036854775807) (hof : -9223372036854775808 ≤ s.off ∧ s.off ≤ 9223372036854775807) (he : EnvT w) :
    Calls Tryz.prog 16 #[stV v s, .int .i64 t, .string txt] w fun e w' => e = .returned (.bool true) ∧ Below w.heap.size w w' := by
  obtain ⟨W1, hW1, hB, hz, k0⟩ := one_st w v s
  have HB : Hid (∀ W, Below W1.heap.size W1 W → W.heap[w.heap.size]? = some (.cells #[v, .int .i64 s.anc.line, .int .i64 s.anc.col, .int .i64 s.foc.line, .int .i64 s.foc.col, .int .i64 s.on, .int .i64 s.off] 26)) := Lib.hid fun W hW => heap_below hW k0
  have hs1 := hB.size
  have H1 := Lib.hid hB
  have hw0 : Below W1.heap.size W1 W1 := Below.refl _ _
  have HV : Hid (∀ W, Below W1.heap.size W1 W → LinsR W S v s.lines) := Lib.hid fun W hW => h.below (rdLin_stable _) (hB.trans (hW.mono hs1))
  have HE : Hid (∀ W, Below W1.heap.size W1 W → EnvT W) := Lib.hid fun W hW => (he.below hB).below hW
  have HLo := Lib.hid (long24_any v s W1 S (HV.out _ hw0) sn)
  have HA : Hid (∀ W, Below W1.heap.size W1 W → Calls Tryz.prog 18 #[] W fun e w' => e = .returned (.bool true) ∧ Below W.heap.size W w') := Lib.hid fun W hW => awake24_any W (HE.out W hW)
  have HM : Hid (Small s.lines → ∀ W, Below W1.heap.size W1 W → Calls Tryz.prog 27 #[stV v s] W fun e w' => e = .returned (.bool (mayS s)) ∧ Below W.heap.size W w') := Lib.hid fun hs W hW => stMay_any v s W S (HV.out W hW) (HE.out W hW) hs
  have HRG : Hid (mayS s = true → RngS s) := Lib.hid fun hm => rng_may hm ho hof
  obtain ⟨p0, f0⟩ := blk k0
  obtain ⟨va, vc, hve⟩ := h.slice
  subst hve
  clear h sn he k0 hB ho hof
  by_cases hlen : 500 < txt.size
  · have hl1 : (500 : Int) < (txt.size : Int) := by omega
    clear hlen
    go_enter Tryz.func16, Tryz.ntmps16
    go_wp2_with fail
    refine HLo.out.mono ?_
    rintro e w1 ⟨r, rfl, _, hb1⟩
    cases r
    all_goals
      go_wp2_with fail
      refine (HA.out _ hb1).mono ?_
      rintro e wz ⟨rfl, hstz⟩
      go_wp2_with fail
      go_ret
      exact ⟨rfl, H1.out.trans ((below_from hb1 hstz).mono hs1)⟩
  have hl1 : ¬ (500 : Int) < (txt.size : Int) := by omega
  have hg := guardPos
  obtain ⟨b, hb4, hsh⟩ := run_shl4 (bits .and .i64 t 3) (mask4 t)
  have HTX : Hid (txt.size ≤ 1000000) := Lib.hid (by omega)
  have HF4 := Lib.hid hb4
  clear hlen hb4
  go_enter Tryz.func16, Tryz.ntmps16
  go_wp2_with fail
  refine HLo.out.mono ?_
  rintro e w1 ⟨r, rfl, hr1, hb1⟩
  have HRS := Lib.hid hr1
  clear hr1
  cases r
  rotate_left 1
  · go_wp2_with fail
    refine (HA.out _ hb1).mono ?_
    rintro e wz ⟨rfl, hstz⟩
    go_wp2_with fail
    go_ret
    exact ⟨rfl, H1.out.trans ((below_from hb1 hstz).mono hs1)⟩
  have HSF : Hid (Small s.lines ∧ Fits s.lines) := Lib.hid ⟨(HRS.out rfl).small, (HRS.out rfl).fits⟩
  clear p0 f0
  obtain ⟨p0, f0⟩ := blk (HB.out _ hb1)
  go_wp2_with fail
  refine (HM.out HSF.out.1 _ hb1).mono ?_
  rintro e w2 ⟨rfl, hst2⟩
  have hb2 := below_from hb1 hst2
  cases hm : mayS s
  · go_wp2_with fail
    refine (HA.out _ hb2).mono ?_
    rintro e wz ⟨rfl, hstz⟩
    go_wp2_with fail
    go_ret
    exact ⟨rfl, H1.out.trans ((below_from hb2 hstz).mono hs1)⟩
  have HMy := Lib.hid hm
  have HRn := Lib.hid (HRG.out hm)
  clear hm p0 f0 hst2 HRG
  have HTs : Hid (∀ W, Below W1.heap.size W1 W → Calls Tryz.prog 29 #[stV (.slice va s.lines.length vc) s, .int .i64 b] W (StSaid (toggleS s b) W)) := Lib.hid fun W hW => styToggle_any _ s b W S (HV.out W hW) (HE.out W hW) HSF.out.1 HSF.out.2
  have GT : Hid (∀ (u : Value) (a : St) W (T : Nat → Prop), mayS a = true → Below W1.heap.size W1 W → LinsR W T u a.lines → Calls Tryz.prog 29 #[stV u a, .int .i64 b] W (StSaid (toggleS a b) W)) := Lib.hid fun u a W T hm hW hd => styToggle_any u a b W _ hd (HE.out W hW) (may_small (mayS_at hm).1).1 (may_small (mayS_at hm).1).2
  have GH : Hid (∀ (u : Value) (a : St) W (T : Nat → Prop), mayS a = true → Below W1.heap.size W1 W → LinsR W T u a.lines → Calls Tryz.prog 21 #[stV u a, .int .i64 b] W fun e w' => e = .returned (.bool (hasS a b)) ∧ Below W.heap.size W w') := Lib.hid fun u a W T hm hW hd => styHas_any u a b W _ hd (HE.out W hW) (may_small (mayS_at hm).1).1 (may_small (mayS_at hm).1).2
  have GM : Hid (∀ (u : Value) (a : St) W (T : Nat → Prop), mayS a = true → Below W1.heap.size W1 W → LinsR W T u a.lines → Calls Tryz.prog 23 #[stV u a, .int .i64 b] W fun e w' => e = .returned (.bool (mixedS a b)) ∧ Below W.heap.size W w') := Lib.hid fun u a W T hm hW hd => styMixed_any u a b W _ hd (HE.out W hW) (may_small (mayS_at hm).1).1 (may_small (mayS_at hm).1).2
  have GB : Hid (∀ (u : Value) (a : St) W (T : Nat → Prop), mayS a = true → Below W1.heap.size W1 W → LinsR W T u a.lines → Calls Tryz.prog 19 #[stV u a] W fun e w' => e = .returned (.int .i64 (bitsS a)) ∧ Below W.heap.size W w') := Lib.hid fun u a W T hm hW hd => styBits_any u a W _ hd (HE.out W hW) (may_small (mayS_at hm).1).1 (may_small (mayS_at hm).1).2
  obtain ⟨a, er, hX⟩ : ∃ a er, toggleS s b = (a, er) := ⟨_, _, rfl⟩
  have HX := Lib.hid hX
  have HC3 := Lib.hid (HTs.out _ hb2)
  rw [hX] at HC3
  clear hX HTs
  obtain ⟨p0, f0⟩ := blk (HB.out _ hb2)
  by_cases h0 : er = 0
  rotate_left 1
  · obtain ⟨rfl, hop, hce, ha⟩ := toggle_err HMy.out HF4.out HX.out h0
    clear h0
    have hq := fun (w : World) => run_neq_pos s.anc s.foc w
    rw [decide_eq_false hop] at hq
    clear hop
    have HSp : Hid (∀ W, Below W1.heap.size W1 W → Calls Tryz.prog 28 #[stV (.slice va s.lines.length vc) s] W fun e w' => e = .returned (.tuple #[.agg #[.int .i64 (spanS s).1.line, .int .i64 (spanS s).1.col], .agg #[.int .i64 (spanS s).2.line, .int .i64 (spanS s).2.col]]) ∧ Below W.heap.size W w') := Lib.hid fun W _ => stSpan_any _ s W
    have HCo : Hid (∀ W, Below W1.heap.size W1 W → Calls Tryz.prog 73 #[.slice va s.lines.length vc, .agg #[.int .i64 (spanS s).1.line, .int .i64 (spanS s).1.col], .agg #[.int .i64 (spanS s).2.line, .int .i64 (spanS s).2.col]] W fun e w' => e = .returned (.int .i64 0) ∧ Below W.heap.size W w') := Lib.hid fun W hW => by
      have := docCount_any (.slice va s.lines.length vc) s.lines (spanS s).1 (spanS s).2 W S (HV.out W hW) (HE.out W hW) HSF.out.1
      rw [hce] at this
      exact this
    obtain ⟨A, B, hAB⟩ : ∃ A B, spanS s = (A, B) := ⟨_, _, rfl⟩
    rw [hAB] at HSp HCo
    simp only at HSp HCo
    clear hce hAB ha
    go_upto_if 41 with ((go_at_call 29; (with_reducible refine HC3.out.mono ?_); intro e w3 hsaid; obtain ⟨v3, rfl, hv3, hst3⟩ := hsaid; obtain ⟨x3, y3, hve3⟩ := hv3.slice; subst hve3; have hb3 := below_from hb2 hst3; have HD3 := Lib.hid hv3; clear hv3))
    obtain ⟨m3, hm3⟩ : ∃ m3, w3.alloc (.cells #[.slice x3 a.lines.length y3, .int .i64 a.anc.line, .int .i64 a.anc.col, .int .i64 a.foc.line, .int .i64 a.foc.col, .int .i64 a.on, .int .i64 a.off] 26) = m3 := ⟨_, rfl⟩
    rw [hm3]
    have hbm3 : Below w3.heap.size w3 m3 := hm3 ▸ below1 (Below.refl _ _) _
    have n3 : m3.heap[w3.heap.size]? = some (.cells #[.slice x3 a.lines.length y3, .int .i64 a.anc.line, .int .i64 a.anc.col, .int .i64 a.foc.line, .int .i64 a.foc.col, .int .i64 a.on, .int .i64 a.off] 26) := hm3 ▸ heap_new _ _ rfl
    have hc3 := below_from hb3 hbm3
    have HE3 := Lib.hid (HD3.out.below hbm3)
    clear hm3
    clear p0 f0
    obtain ⟨p0, f0⟩ := blk (HB.out _ hc3)
    go_wp2_with (first
      | (go_at_call 28; refine (HSp.out _ hc3).mono ?_; rintro e w4 ⟨rfl, hst4⟩; have hb4 := below_from hc3 hst4; have hz4 := hb4.size; have e4 : ¬ w4.heap.size = w.heap.size := (by omega); have r4 := on2 (HB.out _ hb4); have HX4 : Hid (∀ X Y, Below W1.heap.size W1 ((w4.alloc X).alloc Y)) := Lib.hid fun X Y => hb4.trans (below2 (Below.refl _ _) X Y |>.mono hz4))
      | (go_at_call 73; refine (HCo.out _ (HX4.out _ _)).mono ?_; rintro e w5 ⟨rfl, hst5⟩; have hb5 := below_from (HX4.out _ _) hst5)
      | (go_at_call 18; refine (HA.out _ hb5).mono ?_; rintro e w6 ⟨rfl, hst6⟩; have hb6 := below_from hb5 hst6))
    go_ret
    exact ⟨rfl, H1.out.trans (hb6.mono hs1)⟩
  subst h0
  have hT : ∃ B C, Twice s a b B C ∧ (s.anc = s.foc → bits .xor .i64 (bitsS a) (bitsS s) = b ∧ bitsS B = bitsS s ∧ RngS a) := by
    by_cases hc : s.anc = s.foc
    · obtain ⟨B, C, h1, h2, h3, h4, _⟩ := twice_closed HMy.out HRn.out HF4.out hc HX.out
      exact ⟨B, C, h1, fun _ => ⟨h2, h3, h4⟩⟩
    · obtain ⟨B, C, h1⟩ := twice_open HMy.out HF4.out hc HX.out
      exact ⟨B, C, h1, fun e => absurd e hc⟩
  obtain ⟨B, C, hT, hcl⟩ := hT
  have HT := Lib.hid hT
  have HCL := Lib.hid hcl
  clear hT hcl
  go_upto_if 41 with ((go_at_call 29; (with_reducible refine HC3.out.mono ?_); intro e w3 hsaid; obtain ⟨v3, rfl, hv3, hst3⟩ := hsaid; obtain ⟨x3, y3, hve3⟩ := hv3.slice; subst hve3; have hb3 := below_from hb2 hst3; have HD3 := Lib.hid hv3; clear hv3))
  obtain ⟨m3, hm3⟩ : ∃ m3, w3.alloc (.cells #[.slice x3 a.lines.length y3, .int .i64 a.anc.line, .int .i64 a.anc.col, .int .i64 a.foc.line, .int .i64 a.foc.col, .int .i64 a.on, .int .i64 a.off] 26) = m3 := ⟨_, rfl⟩
  rw [hm3]
  have hbm3 : Below w3.heap.size w3 m3 := hm3 ▸ below1 (Below.refl _ _) _
  have n3 : m3.heap[w3.heap.size]? = some (.cells #[.slice x3 a.lines.length y3, .int .i64 a.anc.line, .int .i64 a.anc.col, .int .i64 a.foc.line, .int .i64 a.foc.col, .int .i64 a.on, .int .i64 a.off] 26) := hm3 ▸ heap_new _ _ rfl
  have hc3 := below_from hb3 hbm3
  have HE3 := Lib.hid (HD3.out.below hbm3)
  clear hm3
  have HC4 := Lib.hid (GT.out _ a m3 _ HT.out.mayA hc3 HE3.out.read)
  rw [HT.out.okB] at HC4
  obtain ⟨q3, g3⟩ := blk n3
  go_upto_region 9 with ((go_at_call 29; (with_reducible refine HC4.out.mono ?_); intro e w4 hsaid; obtain ⟨v4, rfl, hv4, hst4⟩ := hsaid; obtain ⟨x4, y4, hve4⟩ := hv4.slice; subst hve4; have hb4 := below_from hc3 hst4; have HD4 := Lib.hid hv4; clear hv4))
  obtain ⟨m4, hm4⟩ : ∃ m4, w4.alloc (.cells #[.slice x4 B.lines.length y4, .int .i64 B.anc.line, .int .i64 B.anc.col, .int .i64 B.foc.line, .int .i64 B.foc.col, .int .i64 B.on, .int .i64 B.off] 26) = m4 := ⟨_, rfl⟩
  rw [hm4]
  have hbm4 : Below w4.heap.size w4 m4 := hm4 ▸ below1 (Below.refl _ _) _
  have n4 : m4.heap[w4.heap.size]? = some (.cells #[.slice x4 B.lines.length y4, .int .i64 B.anc.line, .int .i64 B.anc.col, .int .i64 B.foc.line, .int .i64 B.foc.col, .int .i64 B.on, .int .i64 B.off] 26) := hm4 ▸ heap_new _ _ rfl
  have hc4 := below_from hb4 hbm4
  have HE4 := Lib.hid (HD4.out.below hbm4)
  clear hm4
  have HC5 := Lib.hid (GT.out _ B m4 _ HT.out.mayB hc4 HE4.out.read)
  rw [HT.out.okC] at HC5
  obtain ⟨q4, g4⟩ := blk n4
  go_upto_region 10 with ((go_at_call 29; (with_reducible refine HC5.out.mono ?_); intro e w5 hsaid; obtain ⟨v5, rfl, hv5, hst5⟩ := hsaid; obtain ⟨x5, y5, hve5⟩ := hv5.slice; subst hve5; have hb5 := below_from hc4 hst5; have HD5 := Lib.hid hv5; clear hv5))
  obtain ⟨m5, hm5⟩ : ∃ m5, w5.alloc (.cells #[.slice x5 C.lines.length y5, .int .i64 C.anc.line, .int .i64 C.anc.col, .int .i64 C.foc.line, .int .i64 C.foc.col, .int .i64 C.on, .int .i64 C.off] 26) = m5 := ⟨_, rfl⟩
  rw [hm5]
  have hbm5 : Below w5.heap.size w5 m5 := hm5 ▸ below1 (Below.refl _ _) _
  have n5 : m5.heap[w5.heap.size]? = some (.cells #[.slice x5 C.lines.length y5, .int .i64 C.anc.line, .int .i64 C.anc.col, .int .i64 C.foc.line, .int .i64 C.foc.col, .int .i64 C.on, .int .i64 C.off] 26) := hm5 ▸ heap_new _ _ rfl
  have hc5 := below_from hb5 hbm5
  have HE5 := Lib.hid (HD5.out.below hbm5)
  clear hm5
  have hb35 : Below m3.heap.size m3 m5 := below_from (below_from hst4 hbm4) (below_from hst5 hbm5)
  have hb45 : Below m4.heap.size m4 m5 := below_from hst5 hbm5
  have N3 := Lib.hid (heap_below hb35 n3)
  have N4 := Lib.hid (heap_below hb45 n4)
  have N5 := Lib.hid n5
  have L3 : Hid (LinsR m5 (fun _ => True) (.slice x3 a.lines.length y3) a.lines) := Lib.hid (SliceR.stable (rdLin_stable false) ((HE3.out.below hb35).read) (Keeps.refl _ _) (fun _ _ _ => trivial))
  have L4 : Hid (LinsR m5 (fun _ => True) (.slice x4 B.lines.length y4) B.lines) := Lib.hid (SliceR.stable (rdLin_stable false) ((HE4.out.below hb45).read) (Keeps.refl _ _) (fun _ _ _ => trivial))
  have L5 : Hid (LinsR m5 (fun _ => True) (.slice x5 C.lines.length y5) C.lines) := Lib.hid (SliceR.stable (rdLin_stable false) (HE5.out.read) (Keeps.refl _ _) (fun _ _ _ => trivial))
  clear q3 g3 q4 g4 n3 n4 n5 hb35 hb45 p0 f0 HC3 HC4 HC5 GT
  have HSa : Hid (∀ W, Below m5.heap.size m5 W → Calls Tryz.prog 67 #[stV (.slice x3 a.lines.length y3) a, stV (.slice x5 C.lines.length y5) C] W fun e w' => e = .returned (.bool true) ∧ Below W.heap.size W w') := Lib.hid fun W hW => by
    have := stSame_any _ _ a C W _ _ (L3.out.below (rdLin_stable _) hW) (L5.out.below (rdLin_stable _) hW)
    rw [HT.out.same, decide_eq_true rfl] at this
    rw [HT.out.same]
    exact this
  have HHs : Hid (∀ W, Below m5.heap.size m5 W → Calls Tryz.prog 21 #[stV (.slice va s.lines.length vc) s, .int .i64 b] W fun e w' => e = .returned (.bool (hasS s b)) ∧ Below W.heap.size W w') := Lib.hid fun W hW => GH.out _ s W S HMy.out (below_from hc5 hW) (HV.out W (below_from hc5 hW))
  have HHa : Hid (∀ W, Below m5.heap.size m5 W → Calls Tryz.prog 21 #[stV (.slice x3 a.lines.length y3) a, .int .i64 b] W fun e w' => e = .returned (.bool (!hasS s b)) ∧ Below W.heap.size W w') := Lib.hid fun W hW => by
    have := GH.out _ a W _ HT.out.mayA (below_from hc5 hW) (L3.out.below (rdLin_stable _) hW)
    rw [HT.out.hasA] at this
    exact this
  have HHB : Hid (∀ W, Below m5.heap.size m5 W → Calls Tryz.prog 21 #[stV (.slice x4 B.lines.length y4) B, .int .i64 b] W fun e w' => e = .returned (.bool (hasS s b)) ∧ Below W.heap.size W w') := Lib.hid fun W hW => by
    have := GH.out _ B W _ HT.out.mayB (below_from hc5 hW) (L4.out.below (rdLin_stable _) hW)
    rw [HT.out.hasB, HT.out.hasA, Bool.not_not] at this
    exact this
  have HMa : Hid (∀ W, Below m5.heap.size m5 W → Calls Tryz.prog 23 #[stV (.slice x3 a.lines.length y3) a, .int .i64 b] W fun e w' => e = .returned (.bool false) ∧ Below W.heap.size W w') := Lib.hid fun W hW => by
    have := GM.out _ a W _ HT.out.mayA (below_from hc5 hW) (L3.out.below (rdLin_stable _) hW)
    rw [HT.out.mixA] at this
    exact this
  have HMB : Hid (∀ W, Below m5.heap.size m5 W → Calls Tryz.prog 23 #[stV (.slice x4 B.lines.length y4) B, .int .i64 b] W fun e w' => e = .returned (.bool false) ∧ Below W.heap.size W w') := Lib.hid fun W hW => by
    have := GM.out _ B W _ HT.out.mayB (below_from hc5 hW) (L4.out.below (rdLin_stable _) hW)
    rw [HT.out.mixB] at this
    exact this
  have HBa : Hid (∀ W, Below m5.heap.size m5 W → Calls Tryz.prog 19 #[stV (.slice x3 a.lines.length y3) a] W fun e w' => e = .returned (.int .i64 (bitsS a)) ∧ Below W.heap.size W w') := Lib.hid fun W hW => GB.out _ a W _ HT.out.mayA (below_from hc5 hW) (L3.out.below (rdLin_stable _) hW)
  have HBs : Hid (∀ W, Below m5.heap.size m5 W → Calls Tryz.prog 19 #[stV (.slice va s.lines.length vc) s] W fun e w' => e = .returned (.int .i64 (bitsS s)) ∧ Below W.heap.size W w') := Lib.hid fun W hW => GB.out _ s W S HMy.out (below_from hc5 hW) (HV.out W (below_from hc5 hW))
  have HBB : Hid (s.anc = s.foc → ∀ W, Below m5.heap.size m5 W → Calls Tryz.prog 19 #[stV (.slice x4 B.lines.length y4) B] W fun e w' => e = .returned (.int .i64 (bitsS s)) ∧ Below W.heap.size W w') := Lib.hid fun hc W hW => by
    have := GB.out _ B W _ HT.out.mayB (below_from hc5 hW) (L4.out.below (rdLin_stable _) hW)
    rw [(HCL.out hc).2.1] at this
    exact this
  have HIn : Hid (∀ W, Below m5.heap.size m5 W → Calls Tryz.prog 54 #[stV (.slice x3 a.lines.length y3) a, .string txt] W (StSaid (keyS a (textK a txt)) W)) := Lib.hid fun W hW => typText_any _ a txt W _ (L3.out.below (rdLin_stable _) hW) (HE.out W (below_from hc5 hW)) (may_small (mayS_at HT.out.mayA).1).1 (may_small (mayS_at HT.out.mayA).1).2 HTX.out
  generalize hasS s b = hh at *
  clear GH GM GB L3 L4 L5 HSF HE3 HE4 HE5
  cases hh
  · skip
    refine wp_region_grew m5.heap.size (by kernel_rfl) (by kernel_rfl) ?_
    refine BigFrame.wpQuiet_want (by kernel_rfl) (fun K hK => ?_)
    refine quiet_val ?_ (fun W hW => ?_) (hK _ ?_)
    rotate_left 1
    · skip
      go_simp
      try rfl
    clear hK
    clear K
    try simp only [Act.put, List.setIfInBounds_toArray, List.set_cons_zero, List.set_cons_succ]
    refine BigFrame.wpQuiet_want (by kernel_rfl) (fun K hK => ?_)
    refine quiet_val ?_ (fun W hW => ?_) (hK _ ?_)
    rotate_left 1
    · skip
      go_simp
      try rfl
    clear hK
    clear K
    try simp only [Act.put, List.setIfInBounds_toArray, List.set_cons_zero, List.set_cons_succ]
    refine BigFrame.wpQuiet_want (by kernel_rfl) (fun K hK => ?_)
    refine quiet_val ?_ (fun W hW => ?_) (hK _ ?_)
    rotate_left 1
    · skip
      go_simp
      try rfl
    clear hK
    clear K
    try simp only [Act.put, List.setIfInBounds_toArray, List.set_cons_zero, List.set_cons_succ]
    refine BigFrame.wpQuiet_want (by kernel_rfl) (fun K hK => ?_)
    refine quiet_val ?_ (fun W hW => ?_) (hK _ ?_)
    rotate_left 1
    · skip
      go_simp
      try rfl
    clear hK
    clear K
    try simp only [Act.put, List.setIfInBounds_toArray, List.set_cons_zero, List.set_cons_succ]
    refine BigFrame.wpQuiet_want (by kernel_rfl) (fun K hK => ?_)
    refine quiet_val ?_ (fun W hW => ?_) (hK _ ?_)
    rotate_left 1
    · skip
      go_simp
      try rfl
    clear hK
    clear K
    try simp only [Act.put, List.setIfInBounds_toArray, List.set_cons_zero, List.set_cons_succ]
    refine BigFrame.wpQuiet_want (by kernel_rfl) (fun K hK => ?_)
    refine quiet_val ?_ (fun W hW => ?_) (hK _ ?_)
    rotate_left 1
    · skip
      go_simp
      try rfl
    clear hK
    clear K
    try simp only [Act.put, List.setIfInBounds_toArray, List.set_cons_zero, List.set_cons_succ]
    refine BigFrame.wpQuiet_want (by kernel_rfl) (fun K hK => ?_)
    refine quiet_val ?_ (fun W hW => ?_) (hK _ ?_)
    rotate_left 1
    · skip
      go_simp
      try rfl
    clear hK
    clear K
    try simp only [Act.put, List.setIfInBounds_toArray, List.set_cons_zero, List.set_cons_succ]
    refine BigFrame.wpQuiet_want (by kernel_rfl) (fun K hK => ?_)
    refine quiet_val ?_ (fun W hW => ?_) (hK _ ?_)
    rotate_left 1
    · skip
      obtain ⟨p0, f0⟩ := blk (HB.out _ (below_from hc5 hW))
      obtain ⟨p3, f3⟩ := blk (heap_below hW N3.out)
      obtain ⟨p4, f4⟩ := blk (heap_below hW N4.out)
      obtain ⟨p5, f5⟩ := blk (heap_below hW N5.out)
      go_simp
      try rfl
    clear hK
    clear K
    try simp only [Act.put, List.setIfInBounds_toArray, List.set_cons_zero, List.set_cons_succ]
    refine BigFrame.wpQuiet_want (by kernel_rfl) (fun K hK => ?_)
    refine quiet_val ?_ (fun W hW => ?_) (hK _ ?_)
    rotate_left 1
    · skip
      obtain ⟨p0, f0⟩ := blk (HB.out _ (below_from hc5 hW))
      obtain ⟨p3, f3⟩ := blk (heap_below hW N3.out)
      obtain ⟨p4, f4⟩ := blk (heap_below hW N4.out)
      obtain ⟨p5, f5⟩ := blk (heap_below hW N5.out)
      go_simp
      try rfl
    clear hK
    clear K
    try simp only [Act.put, List.setIfInBounds_toArray, List.set_cons_zero, List.set_cons_succ]
    refine BigFrame.wpQuiet_want (by kernel_rfl) (fun K hK => ?_)
    refine quiet_calls (f := ?_) (args := ?_) ?_ (fun W hW => ?_) (fun W hW => ?_) (hK _ ?_)
    rotate_left 3
    · go_simp
      constructor <;> rfl
    · refine (HSa.out _ hW).mono ?_
      rintro e W2 ⟨rfl, hbW⟩
      refine ⟨?_, below_from hW hbW⟩
      rfl
    clear hK
    clear K
    try simp only [Act.put, List.setIfInBounds_toArray, List.set_cons_zero, List.set_cons_succ]
    refine BigFrame.wpQuiet_want (by kernel_rfl) (fun K hK => ?_)
    refine quiet_val ?_ (fun W hW => ?_) (hK _ ?_)
    rotate_left 1
    · skip
      go_simp
      try rfl
    clear hK
    clear K
    try simp only [Act.put, List.setIfInBounds_toArray, List.set_cons_zero, List.set_cons_succ]
    refine BigFrame.wpQuiet_want (by kernel_rfl) (fun K hK => ?_)
    refine quiet_val ?_ (fun W hW => ?_) (hK _ ?_)
    rotate_left 1
    · skip
      go_simp
      try rfl
    clear hK
    clear K
    try simp only [Act.put, List.setIfInBounds_toArray, List.set_cons_zero, List.set_cons_succ]
    refine BigFrame.wpQuiet_want (by kernel_rfl) (fun K hK => ?_)
    refine quiet_val ?_ (fun W hW => ?_) (hK _ ?_)
    rotate_left 1
    · skip
      go_simp
      try rfl
    clear hK
    clear K
    try simp only [Act.put, List.setIfInBounds_toArray, List.set_cons_zero, List.set_cons_succ]
    refine BigFrame.wpQuiet_want (by kernel_rfl) (fun K hK => ?_)
    refine quiet_val ?_ (fun W hW => ?_) (hK _ ?_)
    rotate_left 1
    · skip
      obtain ⟨p0, f0⟩ := blk (HB.out _ (below_from hc5 hW))
      obtain ⟨p3, f3⟩ := blk (heap_below hW N3.out)
      obtain ⟨p4, f4⟩ := blk (heap_below hW N4.out)
      obtain ⟨p5, f5⟩ := blk (heap_below hW N5.out)
      go_simp
      try rfl
    clear hK
    clear K
    try simp only [Act.put, List.setIfInBounds_toArray, List.set_cons_zero, List.set_cons_succ]
    refine BigFrame.wpQuiet_want (by kernel_rfl) (fun K hK => ?_)
    refine quiet_val ?_ (fun W hW => ?_) (hK _ ?_)
    rotate_left 1
    · skip
      go_simp
      try rfl
    clear hK
    clear K
    try simp only [Act.put, List.setIfInBounds_toArray, List.set_cons_zero, List.set_cons_succ]
    refine BigFrame.wpQuiet_want (by kernel_rfl) (fun K hK => ?_)
    refine quiet_calls (f := ?_) (args := ?_) ?_ (fun W hW => ?_) (fun W hW => ?_) (hK _ ?_)
    rotate_left 3
    · go_simp
      constructor <;> rfl
    · refine (HHa.out _ hW).mono ?_
      rintro e W2 ⟨rfl, hbW⟩
      refine ⟨?_, below_from hW hbW⟩
      rfl
    clear hK
    clear K
    try simp only [Act.put, List.setIfInBounds_toArray, List.set_cons_zero, List.set_cons_succ]
    refine BigFrame.wpQuiet_want (by kernel_rfl) (fun K hK => ?_)
    refine quiet_val ?_ (fun W hW => ?_) (hK _ ?_)
    rotate_left 1
    · skip
      obtain ⟨p0, f0⟩ := blk (HB.out _ (below_from hc5 hW))
      obtain ⟨p3, f3⟩ := blk (heap_below hW N3.out)
      obtain ⟨p4, f4⟩ := blk (heap_below hW N4.out)
      obtain ⟨p5, f5⟩ := blk (heap_below hW N5.out)
      go_simp
      try rfl
    clear hK
    clear K
    try simp only [Act.put, List.setIfInBounds_toArray, List.set_cons_zero, List.set_cons_succ]
    refine BigFrame.wpQuiet_want (by kernel_rfl) (fun K hK => ?_)
    refine quiet_val ?_ (fun W hW => ?_) (hK _ ?_)
    rotate_left 1
    · skip
      go_simp
      try rfl
    clear hK
    clear K
    try simp only [Act.put, List.setIfInBounds_toArray, List.set_cons_zero, List.set_cons_succ]
    refine BigFrame.wpQuiet_want (by kernel_rfl) (fun K hK => ?_)
    refine quiet_calls (f := ?_) (args := ?_) ?_ (fun W hW => ?_) (fun W hW => ?_) (hK _ ?_)
    rotate_left 3
    · go_simp
      constructor <;> rfl
    · refine (HHs.out _ hW).mono ?_
      rintro e W2 ⟨rfl, hbW⟩
      refine ⟨?_, below_from hW hbW⟩
      rfl
    clear hK
    clear K
    try simp only [Act.put, List.setIfInBounds_toArray, List.set_cons_zero, List.set_cons_succ]
    refine BigFrame.wpQuiet_want (by kernel_rfl) (fun K hK => ?_)
    refine quiet_val ?_ (fun W hW => ?_) (hK _ ?_)
    rotate_left 1
    · skip
      go_simp
      try rfl
    clear hK
    clear K
    try simp only [Act.put, List.setIfInBounds_toArray, List.set_cons_zero, List.set_cons_succ]
    refine BigFrame.wpQuiet_want (by kernel_rfl) (fun K hK => ?_)
    refine quiet_val ?_ (fun W hW => ?_) (hK _ ?_)
    rotate_left 1
    · skip
      go_simp
      try rfl
    clear hK
    clear K
    try simp only [Act.put, List.setIfInBounds_toArray, List.set_cons_zero, List.set_cons_succ]
    refine BigFrame.wpQuiet_want (by kernel_rfl) (fun K hK => ?_)
    refine quiet_val ?_ (fun W hW => ?_) (hK _ ?_)
    rotate_left 1
    · skip
      go_simp
      try rfl
    clear hK
    clear K
    try simp only [Act.put, List.setIfInBounds_toArray, List.set_cons_zero, List.set_cons_succ]
    refine BigFrame.wpQuiet_want (by kernel_rfl) (fun K hK => ?_)
    refine quiet_val ?_ (fun W hW => ?_) (hK _ ?_)
    rotate_left 1
    · skip
      obtain ⟨p0, f0⟩ := blk (HB.out _ (below_from hc5 hW))
      obtain ⟨p3, f3⟩ := blk (heap_below hW N3.out)
      obtain ⟨p4, f4⟩ := blk (heap_below hW N4.out)
      obtain ⟨p5, f5⟩ := blk (heap_below hW N5.out)
      go_simp
      try rfl
    clear hK
    clear K
    try simp only [Act.put, List.setIfInBounds_toArray, List.set_cons_zero, List.set_cons_succ]
    refine BigFrame.wpQuiet_want (by kernel_rfl) (fun K hK => ?_)
    refine quiet_val ?_ (fun W hW => ?_) (hK _ ?_)
    rotate_left 1
    · skip
      go_simp
      try rfl
    clear hK
    clear K
    try simp only [Act.put, List.setIfInBounds_toArray, List.set_cons_zero, List.set_cons_succ]
    refine BigFrame.wpQuiet_want (by kernel_rfl) (fun K hK => ?_)
    refine quiet_calls (f := ?_) (args := ?_) ?_ (fun W hW => ?_) (fun W hW => ?_) (hK _ ?_)
    rotate_left 3
    · go_simp
      constructor <;> rfl
    · refine (HHB.out _ hW).mono ?_
      rintro e W2 ⟨rfl, hbW⟩
      refine ⟨?_, below_from hW hbW⟩
      rfl
    clear hK
    clear K
    try simp only [Act.put, List.setIfInBounds_toArray, List.set_cons_zero, List.set_cons_succ]
    refine BigFrame.wpQuiet_want (by kernel_rfl) (fun K hK => ?_)
    refine quiet_val ?_ (fun W hW => ?_) (hK _ ?_)
    rotate_left 1
    · skip
      obtain ⟨p0, f0⟩ := blk (HB.out _ (below_from hc5 hW))
      obtain ⟨p3, f3⟩ := blk (heap_below hW N3.out)
      obtain ⟨p4, f4⟩ := blk (heap_below hW N4.out)
      obtain ⟨p5, f5⟩ := blk (heap_below hW N5.out)
      go_simp
      try rfl
    clear hK
    clear K
    try simp only [Act.put, List.setIfInBounds_toArray, List.set_cons_zero, List.set_cons_succ]
    refine BigFrame.wpQuiet_want (by kernel_rfl) (fun K hK => ?_)
    refine quiet_val ?_ (fun W hW => ?_) (hK _ ?_)
    rotate_left 1
    · skip
      go_simp
      try rfl
    clear hK
    clear K
    try simp only [Act.put, List.setIfInBounds_toArray, List.set_cons_zero, List.set_cons_succ]
    refine BigFrame.wpQuiet_want (by kernel_rfl) (fun K hK => ?_)
    refine quiet_calls (f := ?_) (args := ?_) ?_ (fun W hW => ?_) (fun W hW => ?_) (hK _ ?_)
    rotate_left 3
    · go_simp
      constructor <;> rfl
    · refine (HHa.out _ hW).mono ?_
      rintro e W2 ⟨rfl, hbW⟩
      refine ⟨?_, below_from hW hbW⟩
      rfl
    clear hK
    clear K
    try simp only [Act.put, List.setIfInBounds_toArray, List.set_cons_zero, List.set_cons_succ]
    refine BigFrame.wpQuiet_want (by kernel_rfl) (fun K hK => ?_)
    refine quiet_val ?_ (fun W hW => ?_) (hK _ ?_)
    rotate_left 1
    · skip
      go_simp
      try rfl
    clear hK
    clear K
    try simp only [Act.put, List.setIfInBounds_toArray, List.set_cons_zero, List.set_cons_succ]
    refine BigFrame.wpQuiet_want (by kernel_rfl) (fun K hK => ?_)
    refine quiet_val ?_ (fun W hW => ?_) (hK _ ?_)
    rotate_left 1
    · skip
      go_simp
      try rfl
    clear hK
    clear K
    try simp only [Act.put, List.setIfInBounds_toArray, List.set_cons_zero, List.set_cons_succ]
    refine BigFrame.wpQuiet_want (by kernel_rfl) (fun K hK => ?_)
    refine quiet_val ?_ (fun W hW => ?_) (hK _ ?_)
    rotate_left 1
    · skip
      go_simp
      try rfl
    clear hK
    clear K
    try simp only [Act.put, List.setIfInBounds_toArray, List.set_cons_zero, List.set_cons_succ]
    refine BigFrame.wpQuiet_want (by kernel_rfl) (fun K hK => ?_)
    refine quiet_val ?_ (fun W hW => ?_) (hK _ ?_)
    rotate_left 1
    · skip
      obtain ⟨p0, f0⟩ := blk (HB.out _ (below_from hc5 hW))
      obtain ⟨p3, f3⟩ := blk (heap_below hW N3.out)
      obtain ⟨p4, f4⟩ := blk (heap_below hW N4.out)
      obtain ⟨p5, f5⟩ := blk (heap_below hW N5.out)
      go_simp
      try rfl
    clear hK
    clear K
    try simp only [Act.put, List.setIfInBounds_toArray, List.set_cons_zero, List.set_cons_succ]
    refine BigFrame.wpQuiet_want (by kernel_rfl) (fun K hK => ?_)
    refine quiet_val ?_ (fun W hW => ?_) (hK _ ?_)
    rotate_left 1
    · skip
      go_simp
      try rfl
    clear hK
    clear K
    try simp only [Act.put, List.setIfInBounds_toArray, List.set_cons_zero, List.set_cons_succ]
    refine BigFrame.wpQuiet_want (by kernel_rfl) (fun K hK => ?_)
    refine quiet_calls (f := ?_) (args := ?_) ?_ (fun W hW => ?_) (fun W hW => ?_) (hK _ ?_)
    rotate_left 3
    · go_simp
      constructor <;> rfl
    · refine (HMa.out _ hW).mono ?_
      rintro e W2 ⟨rfl, hbW⟩
      refine ⟨?_, below_from hW hbW⟩
      rfl
    clear hK
    clear K
    try simp only [Act.put, List.setIfInBounds_toArray, List.set_cons_zero, List.set_cons_succ]
    refine BigFrame.wpQuiet_want (by kernel_rfl) (fun K hK => ?_)
    refine quiet_val ?_ (fun W hW => ?_) (hK _ ?_)
    rotate_left 1
    · skip
      go_simp
      try rfl
    clear hK
    clear K
    try simp only [Act.put, List.setIfInBounds_toArray, List.set_cons_zero, List.set_cons_succ]
    refine BigFrame.wpQuiet_want (by kernel_rfl) (fun K hK => ?_)
    refine quiet_val ?_ (fun W hW => ?_) (hK _ ?_)
    rotate_left 1
    · skip
      go_simp
      try rfl
    clear hK
    clear K
    try simp only [Act.put, List.setIfInBounds_toArray, List.set_cons_zero, List.set_cons_succ]
    refine BigFrame.wpQuiet_want (by kernel_rfl) (fun K hK => ?_)
    refine quiet_val ?_ (fun W hW => ?_) (hK _ ?_)
    rotate_left 1
    · skip
      obtain ⟨p0, f0⟩ := blk (HB.out _ (below_from hc5 hW))
      obtain ⟨p3, f3⟩ := blk (heap_below hW N3.out)
      obtain ⟨p4, f4⟩ := blk (heap_below hW N4.out)
      obtain ⟨p5, f5⟩ := blk (heap_below hW N5.out)
      go_simp
      try rfl
    clear hK
    clear K
    try simp only [Act.put, List.setIfInBounds_toArray, List.set_cons_zero, List.set_cons_succ]
    refine BigFrame.wpQuiet_want (by kernel_rfl) (fun K hK => ?_)
    refine quiet_val ?_ (fun W hW => ?_) (hK _ ?_)
    rotate_left 1
    · skip
      go_simp
      try rfl
    clear hK
    clear K
    try simp only [Act.put, List.setIfInBounds_toArray, List.set_cons_zero, List.set_cons_succ]
    refine BigFrame.wpQuiet_want (by kernel_rfl) (fun K hK => ?_)
    refine quiet_calls (f := ?_) (args := ?_) ?_ (fun W hW => ?_) (fun W hW => ?_) (hK _ ?_)
    rotate_left 3
    · go_simp
      constructor <;> rfl
    · refine (HMB.out _ hW).mono ?_
      rintro e W2 ⟨rfl, hbW⟩
      refine ⟨?_, below_from hW hbW⟩
      rfl
    clear hK
    clear K
    try simp only [Act.put, List.setIfInBounds_toArray, List.set_cons_zero, List.set_cons_succ]
    refine BigFrame.wpQuiet_want (by kernel_rfl) (fun K hK => ?_)
    refine quiet_val ?_ (fun W hW => ?_) (hK _ ?_)
    rotate_left 1
    · skip
      go_simp
      try rfl
    clear hK
    clear K
    try simp only [Act.put, List.setIfInBounds_toArray, List.set_cons_zero, List.set_cons_succ]
    refine wpQuiet_nil (fun X6 hstX6 => ?_)
    have hcX6 := below_from hc5 hstX6
    obtain ⟨p0, f0⟩ := blk (HB.out _ hcX6)
    have hq := fun (w : World) => run_neq_pos s.anc s.foc w
    by_cases hc : s.anc = s.foc
    rotate_left 1
    · rw [decide_eq_false hc] at hq
      clear hc
      go_wp2_with fail
      refine (HA.out _ hcX6).mono ?_
      rintro e wz ⟨rfl, hstz⟩
      go_wp2_with fail
      go_ret
      exact ⟨rfl, H1.out.trans ((below_from hcX6 hstz).mono hs1)⟩
    rw [decide_eq_true hc] at hq
    obtain ⟨hxor, hbB, hra⟩ := HCL.out hc
    have HBB2 := Lib.hid (HBB.out hc)
    have hac : a.anc = a.foc := by rw [HT.out.anc.1, HT.out.anc.2, hc]
    have HTB : Hid (∀ u, keyS a (textK a txt) = (u, 0) → ∃ (i q : Nat) (l : Lin) (c : Cel), s.foc = ⟨i, q⟩ ∧ u.lines[i]? = some l ∧ l.cells[q]? = some c ∧ c.bits = bitsS a) := Lib.hid fun u hu => by
      have := typed_bits HT.out.mayA hac hu
      rw [HT.out.anc.2] at this
      exact this
    obtain ⟨ba, hba⟩ : ∃ x, bitsS a = x := ⟨_, rfl⟩
    obtain ⟨bs, hbs⟩ : ∃ x, bitsS s = x := ⟨_, rfl⟩
    rw [hba] at HBa HTB hxor
    rw [hbs] at HBs HBB2 hxor
    obtain ⟨u, eu, hu⟩ : ∃ u eu, keyS a (textK a txt) = (u, eu) := ⟨_, _, rfl⟩
    rw [hu] at HIn
    have HU := Lib.hid hu
    clear hc hac hbB hra hba hbs hu HBB HCL
    go_upto_region 14 with fail
    refine wp_region_grew X6.heap.size (by kernel_rfl) (by kernel_rfl) ?_
    refine BigFrame.wpQuiet_want (by kernel_rfl) (fun K hK => ?_)
    refine quiet_val ?_ (fun W hW => ?_) (hK _ ?_)
    rotate_left 1
    · skip
      obtain ⟨p0, f0⟩ := blk (HB.out _ (below_from hcX6 hW))
      obtain ⟨p3, f3⟩ := blk (heap_below (below_from hstX6 hW) N3.out)
      obtain ⟨p4, f4⟩ := blk (heap_below (below_from hstX6 hW) N4.out)
      go_simp
      try rfl
    clear hK
    clear K
    try simp only [Act.put, List.setIfInBounds_toArray, List.set_cons_zero, List.set_cons_succ]
    refine BigFrame.wpQuiet_want (by kernel_rfl) (fun K hK => ?_)
    refine quiet_calls (f := ?_) (args := ?_) ?_ (fun W hW => ?_) (fun W hW => ?_) (hK _ ?_)
    rotate_left 3
    · go_simp
      constructor <;> rfl
    · refine (HBa.out _ (below_from hstX6 hW)).mono ?_
      rintro e W2 ⟨rfl, hbW⟩
      refine ⟨?_, below_from hW hbW⟩
      rfl
    clear hK
    clear K
    try simp only [Act.put, List.setIfInBounds_toArray, List.set_cons_zero, List.set_cons_succ]
    refine BigFrame.wpQuiet_want (by kernel_rfl) (fun K hK => ?_)
    refine quiet_val ?_ (fun W hW => ?_) (hK _ ?_)
    rotate_left 1
    · skip
      obtain ⟨p0, f0⟩ := blk (HB.out _ (below_from hcX6 hW))
      obtain ⟨p3, f3⟩ := blk (heap_below (below_from hstX6 hW) N3.out)
      obtain ⟨p4, f4⟩ := blk (heap_below (below_from hstX6 hW) N4.out)
      go_simp
      try rfl
    clear hK
    clear K
    try simp only [Act.put, List.setIfInBounds_toArray, List.set_cons_zero, List.set_cons_succ]
    refine BigFrame.wpQuiet_want (by kernel_rfl) (fun K hK => ?_)
    refine quiet_calls (f := ?_) (args := ?_) ?_ (fun W hW => ?_) (fun W hW => ?_) (hK _ ?_)
    rotate_left 3
    · go_simp
      constructor <;> rfl
    · refine (HBs.out _ (below_from hstX6 hW)).mono ?_
      rintro e W2 ⟨rfl, hbW⟩
      refine ⟨?_, below_from hW hbW⟩
      rfl
    clear hK
    clear K
    try simp only [Act.put, List.setIfInBounds_toArray, List.set_cons_zero, List.set_cons_succ]
    refine BigFrame.wpQuiet_want (by kernel_rfl) (fun K hK => ?_)
    refine quiet_val ?_ (fun W hW => ?_) (hK _ ?_)
    rotate_left 1
    · skip
      go_simp
      try rfl
    clear hK
    clear K
    try simp only [Act.put, List.setIfInBounds_toArray, List.set_cons_zero, List.set_cons_succ]
    refine BigFrame.wpQuiet_want (by kernel_rfl) (fun K hK => ?_)
    refine quiet_val ?_ (fun W hW => ?_) (hK _ ?_)
    rotate_left 1
    · skip
      go_simp
      try rfl
    clear hK
    clear K
    try simp only [Act.put, List.setIfInBounds_toArray, List.set_cons_zero, List.set_cons_succ]
    refine BigFrame.wpQuiet_want (by kernel_rfl) (fun K hK => ?_)
    refine quiet_val ?_ (fun W hW => ?_) (hK _ ?_)
    rotate_left 1
    · skip
      go_simp
      try rfl
    clear hK
    clear K
    try simp only [Act.put, List.setIfInBounds_toArray, List.set_cons_zero, List.set_cons_succ]
    refine BigFrame.wpQuiet_want (by kernel_rfl) (fun K hK => ?_)
    refine quiet_val ?_ (fun W hW => ?_) (hK _ ?_)
    rotate_left 1
    · skip
      go_simp
      try rfl
    clear hK
    clear K
    try simp only [Act.put, List.setIfInBounds_toArray, List.set_cons_zero, List.set_cons_succ]
    refine BigFrame.wpQuiet_want (by kernel_rfl) (fun K hK => ?_)
    refine quiet_val ?_ (fun W hW => ?_) (hK _ ?_)
    rotate_left 1
    · skip
      obtain ⟨p0, f0⟩ := blk (HB.out _ (below_from hcX6 hW))
      obtain ⟨p3, f3⟩ := blk (heap_below (below_from hstX6 hW) N3.out)
      obtain ⟨p4, f4⟩ := blk (heap_below (below_from hstX6 hW) N4.out)
      go_simp
      try rfl
    clear hK
    clear K
    try simp only [Act.put, List.setIfInBounds_toArray, List.set_cons_zero, List.set_cons_succ]
    refine BigFrame.wpQuiet_want (by kernel_rfl) (fun K hK => ?_)
    refine quiet_calls (f := ?_) (args := ?_) ?_ (fun W hW => ?_) (fun W hW => ?_) (hK _ ?_)
    rotate_left 3
    · go_simp
      constructor <;> rfl
    · refine (HBB2.out _ (below_from hstX6 hW)).mono ?_
      rintro e W2 ⟨rfl, hbW⟩
      refine ⟨?_, below_from hW hbW⟩
      rfl
    clear hK
    clear K
    try simp only [Act.put, List.setIfInBounds_toArray, List.set_cons_zero, List.set_cons_succ]
    refine BigFrame.wpQuiet_want (by kernel_rfl) (fun K hK => ?_)
    refine quiet_val ?_ (fun W hW => ?_) (hK _ ?_)
    rotate_left 1
    · skip
      obtain ⟨p0, f0⟩ := blk (HB.out _ (below_from hcX6 hW))
      obtain ⟨p3, f3⟩ := blk (heap_below (below_from hstX6 hW) N3.out)
      obtain ⟨p4, f4⟩ := blk (heap_below (below_from hstX6 hW) N4.out)
      go_simp
      try rfl
    clear hK
    clear K
    try simp only [Act.put, List.setIfInBounds_toArray, List.set_cons_zero, List.set_cons_succ]
    refine BigFrame.wpQuiet_want (by kernel_rfl) (fun K hK => ?_)
    refine quiet_calls (f := ?_) (args := ?_) ?_ (fun W hW => ?_) (fun W hW => ?_) (hK _ ?_)
    rotate_left 3
    · go_simp
      constructor <;> rfl
    · refine (HBs.out _ (below_from hstX6 hW)).mono ?_
      rintro e W2 ⟨rfl, hbW⟩
      refine ⟨?_, below_from hW hbW⟩
      rfl
    clear hK
    clear K
    try simp only [Act.put, List.setIfInBounds_toArray, List.set_cons_zero, List.set_cons_succ]
    refine BigFrame.wpQuiet_want (by kernel_rfl) (fun K hK => ?_)
    refine quiet_val ?_ (fun W hW => ?_) (hK _ ?_)
    rotate_left 1
    · skip
      go_simp
      try rfl
    clear hK
    clear K
    try simp only [Act.put, List.setIfInBounds_toArray, List.set_cons_zero, List.set_cons_succ]
    refine BigFrame.wpQuiet_want (by kernel_rfl) (fun K hK => ?_)
    refine quiet_val ?_ (fun W hW => ?_) (hK _ ?_)
    rotate_left 1
    · skip
      go_simp
      try rfl
    clear hK
    clear K
    try simp only [Act.put, List.setIfInBounds_toArray, List.set_cons_zero, List.set_cons_succ]
    refine wpQuiet_nil (fun X7 hstX7 => ?_)
    have hcX7 := below_from hcX6 hstX7
    have hb57 := below_from hstX6 hstX7
    have HC8 := Lib.hid (HIn.out _ hb57)
    clear p0 f0
    obtain ⟨p3, f3⟩ := blk (heap_below hb57 N3.out)
    by_cases hu0 : eu = 0
    rotate_left 1
    · have hne : (eu != 0) = true := by simpa using hu0
      clear hu0
      go_upto_if 146 with ((go_at_call 54; (with_reducible refine HC8.out.mono ?_); intro e w8 hsaid; obtain ⟨v8, rfl, hv8, hst8⟩ := hsaid; obtain ⟨x8, y8, hve8⟩ := hv8.slice; subst hve8; have hb8 := below_from hcX7 hst8; have HD8 := Lib.hid hv8; clear hv8))
      obtain ⟨m8, hm8⟩ : ∃ m8, w8.alloc (.cells #[.slice x8 u.lines.length y8, .int .i64 u.anc.line, .int .i64 u.anc.col, .int .i64 u.foc.line, .int .i64 u.foc.col, .int .i64 u.on, .int .i64 u.off] 26) = m8 := ⟨_, rfl⟩
      rw [hm8]
      have hbm8 : Below w8.heap.size w8 m8 := hm8 ▸ below1 (Below.refl _ _) _
      have n8 : m8.heap[w8.heap.size]? = some (.cells #[.slice x8 u.lines.length y8, .int .i64 u.anc.line, .int .i64 u.anc.col, .int .i64 u.foc.line, .int .i64 u.foc.col, .int .i64 u.on, .int .i64 u.off] 26) := hm8 ▸ heap_new _ _ rfl
      have hc8 := below_from hb8 hbm8
      have HE8 := Lib.hid (HD8.out.below hbm8)
      clear hm8
      go_wp2_with fail
      refine (HA.out _ hc8).mono ?_
      rintro e wz ⟨rfl, hstz⟩
      go_wp2_with fail
      go_ret
      exact ⟨rfl, H1.out.trans ((below_from hc8 hstz).mono hs1)⟩
    subst hu0
    obtain ⟨i, q, l, c, hfoc, hl, hcq, hcb⟩ := HTB.out u HU.out
    go_upto_if 146 with ((go_at_call 54; (with_reducible refine HC8.out.mono ?_); intro e w8 hsaid; obtain ⟨v8, rfl, hv8, hst8⟩ := hsaid; obtain ⟨x8, y8, hve8⟩ := hv8.slice; subst hve8; have hb8 := below_from hcX7 hst8; have HD8 := Lib.hid hv8; clear hv8))
    obtain ⟨m8, hm8⟩ : ∃ m8, w8.alloc (.cells #[.slice x8 u.lines.length y8, .int .i64 u.anc.line, .int .i64 u.anc.col, .int .i64 u.foc.line, .int .i64 u.foc.col, .int .i64 u.on, .int .i64 u.off] 26) = m8 := ⟨_, rfl⟩
    rw [hm8]
    have hbm8 : Below w8.heap.size w8 m8 := hm8 ▸ below1 (Below.refl _ _) _
    have n8 : m8.heap[w8.heap.size]? = some (.cells #[.slice x8 u.lines.length y8, .int .i64 u.anc.line, .int .i64 u.anc.col, .int .i64 u.foc.line, .int .i64 u.foc.col, .int .i64 u.on, .int .i64 u.off] 26) := hm8 ▸ heap_new _ _ rfl
    have hc8 := below_from hb8 hbm8
    have HE8 := Lib.hid (HD8.out.below hbm8)
    clear hm8
    have HBf : Hid (∀ W, Below W1.heap.size W1 W → W.heap[w.heap.size]? = some (.cells #[.slice va s.lines.length vc, .int .i64 s.anc.line, .int .i64 s.anc.col, .int .i64 i, .int .i64 q, .int .i64 s.on, .int .i64 s.off] 26)) := Lib.hid fun W hW => by
      have := HB.out W hW
      rw [hfoc] at this
      exact this
    have hul := (List.getElem?_eq_some_iff.1 hl).1
    have hql := (List.getElem?_eq_some_iff.1 hcq).1
    obtain ⟨bb, oo, la, lc, ca, cc, hx8, _, _, hAt, _, _⟩ := own_line HE8.out hl
    subst hx8
    obtain ⟨ca', cc', hce, hcl1, hcl2, hcx⟩ := cels_shape hAt.cellsR
    injection hce with he1 he2 he3
    subst he1 he3
    obtain ⟨b2, o2, hb2e, hz2, _, d1, _⟩ := hcx q c hcq
    subst hb2e
    rw [hcb] at d1
    have HAT := Lib.hid hAt
    have HD1 := Lib.hid (And.intro hz2 d1)
    have HDL := (HE8.out).len
    unfold maxLen at HDL hcl2
    have i0 : (0 : Int) ≤ (i : Int) := Int.natCast_nonneg _
    have i1 : (i : Int) < (u.lines.length : Int) := by omega
    have q0 : (0 : Int) ≤ (q : Int) := Int.natCast_nonneg _
    have q1 : (q : Int) < (l.cells.length : Int) := by omega
    have N8 := Lib.hid n8
    have hb58 : Below m5.heap.size m5 m8 := below_from hb57 (below_from hst8 hbm8)
    clear hfoc hl hcq hcb hAt hcx hz2 d1 he2 p3 f3 n8 hq
    go_upto_region 19 with fail
    refine wp_region_grew m8.heap.size (by kernel_rfl) (by kernel_rfl) ?_
    refine BigFrame.wpQuiet_want (by kernel_rfl) (fun K hK => ?_)
    refine quiet_val ?_ (fun W hW => ?_) (hK _ ?_)
    rotate_left 1
    · skip
      go_simp
      try rfl
    clear hK
    clear K
    try simp only [Act.put, List.setIfInBounds_toArray, List.set_cons_zero, List.set_cons_succ]
    refine BigFrame.wpQuiet_want (by kernel_rfl) (fun K hK => ?_)
    refine quiet_val ?_ (fun W hW => ?_) (hK _ ?_)
    rotate_left 1
    · skip
      obtain ⟨p0, f0⟩ := blk (HBf.out _ (below_from hc8 hW))
      obtain ⟨p3, f3⟩ := blk (heap_below (below_from hb58 hW) N3.out)
      obtain ⟨p8, f8⟩ := blk (heap_below hW N8.out)
      obtain ⟨_, _, _, _, c3, _, _⟩ := HAT.out.below hW
      have c4 := (hW.cell HD1.out.1).trans HD1.out.2
      go_simp
      try rfl
    clear hK
    clear K
    try simp only [Act.put, List.setIfInBounds_toArray, List.set_cons_zero, List.set_cons_succ]
    refine BigFrame.wpQuiet_want (by kernel_rfl) (fun K hK => ?_)
    refine quiet_val ?_ (fun W hW => ?_) (hK _ ?_)
    rotate_left 1
    · skip
      go_simp
      try rfl
    clear hK
    clear K
    try simp only [Act.put, List.setIfInBounds_toArray, List.set_cons_zero, List.set_cons_succ]
    refine BigFrame.wpQuiet_want (by kernel_rfl) (fun K hK => ?_)
    refine quiet_val ?_ (fun W hW => ?_) (hK _ ?_)
    rotate_left 1
    · skip
      go_simp
      try rfl
    clear hK
    clear K
    try simp only [Act.put, List.setIfInBounds_toArray, List.set_cons_zero, List.set_cons_succ]
    refine BigFrame.wpQuiet_want (by kernel_rfl) (fun K hK => ?_)
    refine quiet_val ?_ (fun W hW => ?_) (hK _ ?_)
    rotate_left 1
    · skip
      obtain ⟨p0, f0⟩ := blk (HBf.out _ (below_from hc8 hW))
      obtain ⟨p3, f3⟩ := blk (heap_below (below_from hb58 hW) N3.out)
      obtain ⟨p8, f8⟩ := blk (heap_below hW N8.out)
      obtain ⟨_, _, _, _, c3, _, _⟩ := HAT.out.below hW
      have c4 := (hW.cell HD1.out.1).trans HD1.out.2
      go_simp
      try rfl
    clear hK
    clear K
    try simp only [Act.put, List.setIfInBounds_toArray, List.set_cons_zero, List.set_cons_succ]
    refine BigFrame.wpQuiet_want (by kernel_rfl) (fun K hK => ?_)
    refine quiet_val ?_ (fun W hW => ?_) (hK _ ?_)
    rotate_left 1
    · skip
      go_simp
      try rfl
    clear hK
    clear K
    try simp only [Act.put, List.setIfInBounds_toArray, List.set_cons_zero, List.set_cons_succ]
    refine BigFrame.wpQuiet_want (by kernel_rfl) (fun K hK => ?_)
    refine quiet_val ?_ (fun W hW => ?_) (hK _ ?_)
    rotate_left 1
    · skip
      go_simp
      try rfl
    clear hK
    clear K
    try simp only [Act.put, List.setIfInBounds_toArray, List.set_cons_zero, List.set_cons_succ]
    refine BigFrame.wpQuiet_want (by kernel_rfl) (fun K hK => ?_)
    refine quiet_val ?_ (fun W hW => ?_) (hK _ ?_)
    rotate_left 1
    · skip
      obtain ⟨p0, f0⟩ := blk (HBf.out _ (below_from hc8 hW))
      obtain ⟨p3, f3⟩ := blk (heap_below (below_from hb58 hW) N3.out)
      obtain ⟨p8, f8⟩ := blk (heap_below hW N8.out)
      obtain ⟨_, _, _, _, c3, _, _⟩ := HAT.out.below hW
      have c4 := (hW.cell HD1.out.1).trans HD1.out.2
      go_simp
      try rfl
    clear hK
    clear K
    try simp only [Act.put, List.setIfInBounds_toArray, List.set_cons_zero, List.set_cons_succ]
    refine BigFrame.wpQuiet_want (by kernel_rfl) (fun K hK => ?_)
    refine quiet_val ?_ (fun W hW => ?_) (hK _ ?_)
    rotate_left 1
    · skip
      go_simp
      try rfl
    clear hK
    clear K
    try simp only [Act.put, List.setIfInBounds_toArray, List.set_cons_zero, List.set_cons_succ]
    refine BigFrame.wpQuiet_want (by kernel_rfl) (fun K hK => ?_)
    refine quiet_val ?_ (fun W hW => ?_) (hK _ ?_)
    rotate_left 1
    · skip
      go_simp
      try rfl
    clear hK
    clear K
    try simp only [Act.put, List.setIfInBounds_toArray, List.set_cons_zero, List.set_cons_succ]
    refine BigFrame.wpQuiet_want (by kernel_rfl) (fun K hK => ?_)
    refine quiet_val ?_ (fun W hW => ?_) (hK _ ?_)
    rotate_left 1
    · skip
      obtain ⟨p0, f0⟩ := blk (HBf.out _ (below_from hc8 hW))
      obtain ⟨p3, f3⟩ := blk (heap_below (below_from hb58 hW) N3.out)
      obtain ⟨p8, f8⟩ := blk (heap_below hW N8.out)
      obtain ⟨_, _, _, _, c3, _, _⟩ := HAT.out.below hW
      have c4 := (hW.cell HD1.out.1).trans HD1.out.2
      go_simp
      try rfl
    clear hK
    clear K
    try simp only [Act.put, List.setIfInBounds_toArray, List.set_cons_zero, List.set_cons_succ]
    refine BigFrame.wpQuiet_want (by kernel_rfl) (fun K hK => ?_)
    refine quiet_val ?_ (fun W hW => ?_) (hK _ ?_)
    rotate_left 1
    · skip
      go_simp
      try rfl
    clear hK
    clear K
    try simp only [Act.put, List.setIfInBounds_toArray, List.set_cons_zero, List.set_cons_succ]
    refine BigFrame.wpQuiet_want (by kernel_rfl) (fun K hK => ?_)
    refine quiet_val ?_ (fun W hW => ?_) (hK _ ?_)
    rotate_left 1
    · skip
      go_simp
      try rfl
    clear hK
    clear K
    try simp only [Act.put, List.setIfInBounds_toArray, List.set_cons_zero, List.set_cons_succ]
    refine BigFrame.wpQuiet_want (by kernel_rfl) (fun K hK => ?_)
    refine quiet_val ?_ (fun W hW => ?_) (hK _ ?_)
    rotate_left 1
    · skip
      obtain ⟨p0, f0⟩ := blk (HBf.out _ (below_from hc8 hW))
      obtain ⟨p3, f3⟩ := blk (heap_below (below_from hb58 hW) N3.out)
      obtain ⟨p8, f8⟩ := blk (heap_below hW N8.out)
      obtain ⟨_, _, _, _, c3, _, _⟩ := HAT.out.below hW
      have c4 := (hW.cell HD1.out.1).trans HD1.out.2
      go_simp
      try rfl
    clear hK
    clear K
    try simp only [Act.put, List.setIfInBounds_toArray, List.set_cons_zero, List.set_cons_succ]
    refine BigFrame.wpQuiet_want (by kernel_rfl) (fun K hK => ?_)
    refine quiet_val ?_ (fun W hW => ?_) (hK _ ?_)
    rotate_left 1
    · skip
      obtain ⟨p0, f0⟩ := blk (HBf.out _ (below_from hc8 hW))
      obtain ⟨p3, f3⟩ := blk (heap_below (below_from hb58 hW) N3.out)
      obtain ⟨p8, f8⟩ := blk (heap_below hW N8.out)
      obtain ⟨_, _, _, _, c3, _, _⟩ := HAT.out.below hW
      have c4 := (hW.cell HD1.out.1).trans HD1.out.2
      go_simp
      try rfl
    clear hK
    clear K
    try simp only [Act.put, List.setIfInBounds_toArray, List.set_cons_zero, List.set_cons_succ]
    refine BigFrame.wpQuiet_want (by kernel_rfl) (fun K hK => ?_)
    refine quiet_calls (f := ?_) (args := ?_) ?_ (fun W hW => ?_) (fun W hW => ?_) (hK _ ?_)
    rotate_left 3
    · go_simp
      constructor <;> rfl
    · refine (HBa.out _ (below_from hb58 hW)).mono ?_
      rintro e W2 ⟨rfl, hbW⟩
      refine ⟨?_, below_from hW hbW⟩
      rfl
    clear hK
    clear K
    try simp only [Act.put, List.setIfInBounds_toArray, List.set_cons_zero, List.set_cons_succ]
    refine BigFrame.wpQuiet_want (by kernel_rfl) (fun K hK => ?_)
    refine quiet_val ?_ (fun W hW => ?_) (hK _ ?_)
    rotate_left 1
    · skip
      go_simp
      try rfl
    clear hK
    clear K
    try simp only [Act.put, List.setIfInBounds_toArray, List.set_cons_zero, List.set_cons_succ]
    refine BigFrame.wpQuiet_want (by kernel_rfl) (fun K hK => ?_)
    refine quiet_val ?_ (fun W hW => ?_) (hK _ ?_)
    rotate_left 1
    · skip
      go_simp
      try rfl
    clear hK
    clear K
    try simp only [Act.put, List.setIfInBounds_toArray, List.set_cons_zero, List.set_cons_succ]
    refine BigFrame.wpQuiet_want (by kernel_rfl) (fun K hK => ?_)
    refine quiet_calls (f := ?_) (args := ?_) ?_ (fun W hW => ?_) (fun W hW => ?_) (hK _ ?_)
    rotate_left 3
    · go_simp
      constructor <;> rfl
    · refine (HA.out _ (below_from hc8 hW)).mono ?_
      rintro e W2 ⟨rfl, hbW⟩
      refine ⟨?_, below_from hW hbW⟩
      rfl
    clear hK
    clear K
    try simp only [Act.put, List.setIfInBounds_toArray, List.set_cons_zero, List.set_cons_succ]
    refine BigFrame.wpQuiet_want (by kernel_rfl) (fun K hK => ?_)
    refine quiet_val ?_ (fun W hW => ?_) (hK _ ?_)
    rotate_left 1
    · skip
      go_simp
      try rfl
    clear hK
    clear K
    try simp only [Act.put, List.setIfInBounds_toArray, List.set_cons_zero, List.set_cons_succ]
    refine BigFrame.wpQuiet_want (by kernel_rfl) (fun K hK => ?_)
    refine quiet_val ?_ (fun W hW => ?_) (hK _ ?_)
    rotate_left 1
    · skip
      go_simp
      try rfl
    clear hK
    clear K
    try simp only [Act.put, List.setIfInBounds_toArray, List.set_cons_zero, List.set_cons_succ]
    refine wpQuiet_nil (fun X9 hstX9 => ?_)
    have hcX9 := below_from hc8 hstX9
    go_wp2_with fail
    go_ret
    exact ⟨rfl, H1.out.trans (hcX9.mono hs1)⟩
  · skip
    refine wp_region_grew m5.heap.size (by kernel_rfl) (by kernel_rfl) ?_
    refine BigFrame.wpQuiet_want (by kernel_rfl) (fun K hK => ?_)
    refine quiet_val ?_ (fun W hW => ?_) (hK _ ?_)
    rotate_left 1
    · skip
      go_simp
      try rfl
    clear hK
    clear K
    try simp only [Act.put, List.setIfInBounds_toArray, List.set_cons_zero, List.set_cons_succ]
    refine BigFrame.wpQuiet_want (by kernel_rfl) (fun K hK => ?_)
    refine quiet_val ?_ (fun W hW => ?_) (hK _ ?_)
    rotate_left 1
    · skip
      go_simp
      try rfl
    clear hK
    clear K
    try simp only [Act.put, List.setIfInBounds_toArray, List.set_cons_zero, List.set_cons_succ]
    refine BigFrame.wpQuiet_want (by kernel_rfl) (fun K hK => ?_)
    refine quiet_val ?_ (fun W hW => ?_) (hK _ ?_)
    rotate_left 1
    · skip
      go_simp
      try rfl
    clear hK
    clear K
    try simp only [Act.put, List.setIfInBounds_toArray, List.set_cons_zero, List.set_cons_succ]
    refine BigFrame.wpQuiet_want (by kernel_rfl) (fun K hK => ?_)
    refine quiet_val ?_ (fun W hW => ?_) (hK _ ?_)
    rotate_left 1
    · skip
      go_simp
      try rfl
    clear hK
    clear K
    try simp only [Act.put, List.setIfInBounds_toArray, List.set_cons_zero, List.set_cons_succ]
    refine BigFrame.wpQuiet_want (by kernel_rfl) (fun K hK => ?_)
    refine quiet_val ?_ (fun W hW => ?_) (hK _ ?_)
    rotate_left 1
    · skip
      go_simp
      try rfl
    clear hK
    clear K
    try simp only [Act.put, List.setIfInBounds_toArray, List.set_cons_zero, List.set_cons_succ]
    refine BigFrame.wpQuiet_want (by kernel_rfl) (fun K hK => ?_)
    refine quiet_val ?_ (fun W hW => ?_) (hK _ ?_)
    rotate_left 1
    · skip
      go_simp
      try rfl
    clear hK
    clear K
    try simp only [Act.put, List.setIfInBounds_toArray, List.set_cons_zero, List.set_cons_succ]
    refine BigFrame.wpQuiet_want (by kernel_rfl) (fun K hK => ?_)
    refine quiet_val ?_ (fun W hW => ?_) (hK _ ?_)
    rotate_left 1
    · skip
      go_simp
      try rfl
    clear hK
    clear K
    try simp only [Act.put, List.setIfInBounds_toArray, List.set_cons_zero, List.set_cons_succ]
    refine BigFrame.wpQuiet_want (by kernel_rfl) (fun K hK => ?_)
    refine quiet_val ?_ (fun W hW => ?_) (hK _ ?_)
    rotate_left 1
    · skip
      obtain ⟨p0, f0⟩ := blk (HB.out _ (below_from hc5 hW))
      obtain ⟨p3, f3⟩ := blk (heap_below hW N3.out)
      obtain ⟨p4, f4⟩ := blk (heap_below hW N4.out)
      obtain ⟨p5, f5⟩ := blk (heap_below hW N5.out)
      go_simp
      try rfl
    clear hK
    clear K
    try simp only [Act.put, List.setIfInBounds_toArray, List.set_cons_zero, List.set_cons_succ]
    refine BigFrame.wpQuiet_want (by kernel_rfl) (fun K hK => ?_)
    refine quiet_val ?_ (fun W hW => ?_) (hK _ ?_)
    rotate_left 1
    · skip
      obtain ⟨p0, f0⟩ := blk (HB.out _ (below_from hc5 hW))
      obtain ⟨p3, f3⟩ := blk (heap_below hW N3.out)
      obtain ⟨p4, f4⟩ := blk (heap_below hW N4.out)
      obtain ⟨p5, f5⟩ := blk (heap_below hW N5.out)
      go_simp
      try rfl
    clear hK
    clear K
    try simp only [Act.put, List.setIfInBounds_toArray, List.set_cons_zero, List.set_cons_succ]
    refine BigFrame.wpQuiet_want (by kernel_rfl) (fun K hK => ?_)
    refine quiet_calls (f := ?_) (args := ?_) ?_ (fun W hW => ?_) (fun W hW => ?_) (hK _ ?_)
    rotate_left 3
    · go_simp
      constructor <;> rfl
    · refine (HSa.out _ hW).mono ?_
      rintro e W2 ⟨rfl, hbW⟩
      refine ⟨?_, below_from hW hbW⟩
      rfl
    clear hK
    clear K
    try simp only [Act.put, List.setIfInBounds_toArray, List.set_cons_zero, List.set_cons_succ]
    refine BigFrame.wpQuiet_want (by kernel_rfl) (fun K hK => ?_)
    refine quiet_val ?_ (fun W hW => ?_) (hK _ ?_)
    rotate_left 1
    · skip
      go_simp
      try rfl
    clear hK
    clear K
    try simp only [Act.put, List.setIfInBounds_toArray, List.set_cons_zero, List.set_cons_succ]
    refine BigFrame.wpQuiet_want (by kernel_rfl) (fun K hK => ?_)
    refine quiet_val ?_ (fun W hW => ?_) (hK _ ?_)
    rotate_left 1
    · skip
      go_simp
      try rfl
    clear hK
    clear K
    try simp only [Act.put, List.setIfInBounds_toArray, List.set_cons_zero, List.set_cons_succ]
    refine BigFrame.wpQuiet_want (by kernel_rfl) (fun K hK => ?_)
    refine quiet_val ?_ (fun W hW => ?_) (hK _ ?_)
    rotate_left 1
    · skip
      go_simp
      try rfl
    clear hK
    clear K
    try simp only [Act.put, List.setIfInBounds_toArray, List.set_cons_zero, List.set_cons_succ]
    refine BigFrame.wpQuiet_want (by kernel_rfl) (fun K hK => ?_)
    refine quiet_val ?_ (fun W hW => ?_) (hK _ ?_)
    rotate_left 1
    · skip
      obtain ⟨p0, f0⟩ := blk (HB.out _ (below_from hc5 hW))
      obtain ⟨p3, f3⟩ := blk (heap_below hW N3.out)
      obtain ⟨p4, f4⟩ := blk (heap_below hW N4.out)
      obtain ⟨p5, f5⟩ := blk (heap_below hW N5.out)
      go_simp
      try rfl
    clear hK
    clear K
    try simp only [Act.put, List.setIfInBounds_toArray, List.set_cons_zero, List.set_cons_succ]
    refine BigFrame.wpQuiet_want (by kernel_rfl) (fun K hK => ?_)
    refine quiet_val ?_ (fun W hW => ?_) (hK _ ?_)
    rotate_left 1
    · skip
      go_simp
      try rfl
    clear hK
    clear K
    try simp only [Act.put, List.setIfInBounds_toArray, List.set_cons_zero, List.set_cons_succ]
    refine BigFrame.wpQuiet_want (by kernel_rfl) (fun K hK => ?_)
    refine quiet_calls (f := ?_) (args := ?_) ?_ (fun W hW => ?_) (fun W hW => ?_) (hK _ ?_)
    rotate_left 3
    · go_simp
      constructor <;> rfl
    · refine (HHa.out _ hW).mono ?_
      rintro e W2 ⟨rfl, hbW⟩
      refine ⟨?_, below_from hW hbW⟩
      rfl
    clear hK
    clear K
    try simp only [Act.put, List.setIfInBounds_toArray, List.set_cons_zero, List.set_cons_succ]
    refine BigFrame.wpQuiet_want (by kernel_rfl) (fun K hK => ?_)
    refine quiet_val ?_ (fun W hW => ?_) (hK _ ?_)
    rotate_left 1
    · skip
      obtain ⟨p0, f0⟩ := blk (HB.out _ (below_from hc5 hW))
      obtain ⟨p3, f3⟩ := blk (heap_below hW N3.out)
      obtain ⟨p4, f4⟩ := blk (heap_below hW N4.out)
      obtain ⟨p5, f5⟩ := blk (heap_below hW N5.out)
      go_simp
      try rfl
    clear hK
    clear K
    try simp only [Act.put, List.setIfInBounds_toArray, List.set_cons_zero, List.set_cons_succ]
    refine BigFrame.wpQuiet_want (by kernel_rfl) (fun K hK => ?_)
    refine quiet_val ?_ (fun W hW => ?_) (hK _ ?_)
    rotate_left 1
    · skip
      go_simp
      try rfl
    clear hK
    clear K
    try simp only [Act.put, List.setIfInBounds_toArray, List.set_cons_zero, List.set_cons_succ]
    refine BigFrame.wpQuiet_want (by kernel_rfl) (fun K hK => ?_)
    refine quiet_calls (f := ?_) (args := ?_) ?_ (fun W hW => ?_) (fun W hW => ?_) (hK _ ?_)
    rotate_left 3
    · go_simp
      constructor <;> rfl
    · refine (HHs.out _ hW).mono ?_
      rintro e W2 ⟨rfl, hbW⟩
      refine ⟨?_, below_from hW hbW⟩
      rfl
    clear hK
    clear K
    try simp only [Act.put, List.setIfInBounds_toArray, List.set_cons_zero, List.set_cons_succ]
    refine BigFrame.wpQuiet_want (by kernel_rfl) (fun K hK => ?_)
    refine quiet_val ?_ (fun W hW => ?_) (hK _ ?_)
    rotate_left 1
    · skip
      go_simp
      try rfl
    clear hK
    clear K
    try simp only [Act.put, List.setIfInBounds_toArray, List.set_cons_zero, List.set_cons_succ]
    refine BigFrame.wpQuiet_want (by kernel_rfl) (fun K hK => ?_)
    refine quiet_val ?_ (fun W hW => ?_) (hK _ ?_)
    rotate_left 1
    · skip
      go_simp
      try rfl
    clear hK
    clear K
    try simp only [Act.put, List.setIfInBounds_toArray, List.set_cons_zero, List.set_cons_succ]
    refine BigFrame.wpQuiet_want (by kernel_rfl) (fun K hK => ?_)
    refine quiet_val ?_ (fun W hW => ?_) (hK _ ?_)
    rotate_left 1
    · skip
      go_simp
      try rfl
    clear hK
    clear K
    try simp only [Act.put, List.setIfInBounds_toArray, List.set_cons_zero, List.set_cons_succ]
    refine BigFrame.wpQuiet_want (by kernel_rfl) (fun K hK => ?_)
    refine quiet_val ?_ (fun W hW => ?_) (hK _ ?_)
    rotate_left 1
    · skip
      obtain ⟨p0, f0⟩ := blk (HB.out _ (below_from hc5 hW))
      obtain ⟨p3, f3⟩ := blk (heap_below hW N3.out)
      obtain ⟨p4, f4⟩ := blk (heap_below hW N4.out)
      obtain ⟨p5, f5⟩ := blk (heap_below hW N5.out)
      go_simp
      try rfl
    clear hK
    clear K
    try simp only [Act.put, List.setIfInBounds_toArray, List.set_cons_zero, List.set_cons_succ]
    refine BigFrame.wpQuiet_want (by kernel_rfl) (fun K hK => ?_)
    refine quiet_val ?_ (fun W hW => ?_) (hK _ ?_)
    rotate_left 1
    · skip
      go_simp
      try rfl
    clear hK
    clear K
    try simp only [Act.put, List.setIfInBounds_toArray, List.set_cons_zero, List.set_cons_succ]
    refine BigFrame.wpQuiet_want (by kernel_rfl) (fun K hK => ?_)
    refine quiet_calls (f := ?_) (args := ?_) ?_ (fun W hW => ?_) (fun W hW => ?_) (hK _ ?_)
    rotate_left 3
    · go_simp
      constructor <;> rfl
    · refine (HHB.out _ hW).mono ?_
      rintro e W2 ⟨rfl, hbW⟩
      refine ⟨?_, below_from hW hbW⟩
      rfl
    clear hK
    clear K
    try simp only [Act.put, List.setIfInBounds_toArray, List.set_cons_zero, List.set_cons_succ]
    refine BigFrame.wpQuiet_want (by kernel_rfl) (fun K hK => ?_)
    refine quiet_val ?_ (fun W hW => ?_) (hK _ ?_)
    rotate_left 1
    · skip
      obtain ⟨p0, f0⟩ := blk (HB.out _ (below_from hc5 hW))
      obtain ⟨p3, f3⟩ := blk (heap_below hW N3.out)
      obtain ⟨p4, f4⟩ := blk (heap_below hW N4.out)
      obtain ⟨p5, f5⟩ := blk (heap_below hW N5.out)
      go_simp
      try rfl
    clear hK
    clear K
    try simp only [Act.put, List.setIfInBounds_toArray, List.set_cons_zero, List.set_cons_succ]
    refine BigFrame.wpQuiet_want (by kernel_rfl) (fun K hK => ?_)
    refine quiet_val ?_ (fun W hW => ?_) (hK _ ?_)
    rotate_left 1
    · skip
      go_simp
      try rfl
    clear hK
    clear K
    try simp only [Act.put, List.setIfInBounds_toArray, List.set_cons_zero, List.set_cons_succ]
    refine BigFrame.wpQuiet_want (by kernel_rfl) (fun K hK => ?_)
    refine quiet_calls (f := ?_) (args := ?_) ?_ (fun W hW => ?_) (fun W hW => ?_) (hK _ ?_)
    rotate_left 3
    · go_simp
      constructor <;> rfl
    · refine (HHa.out _ hW).mono ?_
      rintro e W2 ⟨rfl, hbW⟩
      refine ⟨?_, below_from hW hbW⟩
      rfl
    clear hK
    clear K
    try simp only [Act.put, List.setIfInBounds_toArray, List.set_cons_zero, List.set_cons_succ]
    refine BigFrame.wpQuiet_want (by kernel_rfl) (fun K hK => ?_)
    refine quiet_val ?_ (fun W hW => ?_) (hK _ ?_)
    rotate_left 1
    · skip
      go_simp
      try rfl
    clear hK
    clear K
    try simp only [Act.put, List.setIfInBounds_toArray, List.set_cons_zero, List.set_cons_succ]
    refine BigFrame.wpQuiet_want (by kernel_rfl) (fun K hK => ?_)
    refine quiet_val ?_ (fun W hW => ?_) (hK _ ?_)
    rotate_left 1
    · skip
      go_simp
      try rfl
    clear hK
    clear K
    try simp only [Act.put, List.setIfInBounds_toArray, List.set_cons_zero, List.set_cons_succ]
    refine BigFrame.wpQuiet_want (by kernel_rfl) (fun K hK => ?_)
    refine quiet_val ?_ (fun W hW => ?_) (hK _ ?_)
    rotate_left 1
    · skip
      go_simp
      try rfl
    clear hK
    clear K
    try simp only [Act.put, List.setIfInBounds_toArray, List.set_cons_zero, List.set_cons_succ]
    refine BigFrame.wpQuiet_want (by kernel_rfl) (fun K hK => ?_)
    refine quiet_val ?_ (fun W hW => ?_) (hK _ ?_)
    rotate_left 1
    · skip
      obtain ⟨p0, f0⟩ := blk (HB.out _ (below_from hc5 hW))
      obtain ⟨p3, f3⟩ := blk (heap_below hW N3.out)
      obtain ⟨p4, f4⟩ := blk (heap_below hW N4.out)
      obtain ⟨p5, f5⟩ := blk (heap_below hW N5.out)
      go_simp
      try rfl
    clear hK
    clear K
    try simp only [Act.put, List.setIfInBounds_toArray, List.set_cons_zero, List.set_cons_succ]
    refine BigFrame.wpQuiet_want (by kernel_rfl) (fun K hK => ?_)
    refine quiet_val ?_ (fun W hW => ?_) (hK _ ?_)
    rotate_left 1
    · skip
      go_simp
      try rfl
    clear hK
    clear K
    try simp only [Act.put, List.setIfInBounds_toArray, List.set_cons_zero, List.set_cons_succ]
    refine BigFrame.wpQuiet_want (by kernel_rfl) (fun K hK => ?_)
    refine quiet_calls (f := ?_) (args := ?_) ?_ (fun W hW => ?_) (fun W hW => ?_) (hK _ ?_)
    rotate_left 3
    · go_simp
      constructor <;> rfl
    · refine (HMa.out _ hW).mono ?_
      rintro e W2 ⟨rfl, hbW⟩
      refine ⟨?_, below_from hW hbW⟩
      rfl
    clear hK
    clear K
    try simp only [Act.put, List.setIfInBounds_toArray, List.set_cons_zero, List.set_cons_succ]
    refine BigFrame.wpQuiet_want (by kernel_rfl) (fun K hK => ?_)
    refine quiet_val ?_ (fun W hW => ?_) (hK _ ?_)
    rotate_left 1
    · skip
      go_simp
      try rfl
    clear hK
    clear K
    try simp only [Act.put, List.setIfInBounds_toArray, List.set_cons_zero, List.set_cons_succ]
    refine BigFrame.wpQuiet_want (by kernel_rfl) (fun K hK => ?_)
    refine quiet_val ?_ (fun W hW => ?_) (hK _ ?_)
    rotate_left 1
    · skip
      go_simp
      try rfl
    clear hK
    clear K
    try simp only [Act.put, List.setIfInBounds_toArray, List.set_cons_zero, List.set_cons_succ]
    refine BigFrame.wpQuiet_want (by kernel_rfl) (fun K hK => ?_)
    refine quiet_val ?_ (fun W hW => ?_) (hK _ ?_)
    rotate_left 1
    · skip
      obtain ⟨p0, f0⟩ := blk (HB.out _ (below_from hc5 hW))
      obtain ⟨p3, f3⟩ := blk (heap_below hW N3.out)
      obtain ⟨p4, f4⟩ := blk (heap_below hW N4.out)
      obtain ⟨p5, f5⟩ := blk (heap_below hW N5.out)
      go_simp
      try rfl
    clear hK
    clear K
    try simp only [Act.put, List.setIfInBounds_toArray, List.set_cons_zero, List.set_cons_succ]
    refine BigFrame.wpQuiet_want (by kernel_rfl) (fun K hK => ?_)
    refine quiet_val ?_ (fun W hW => ?_) (hK _ ?_)
    rotate_left 1
    · skip
      go_simp
      try rfl
    clear hK
    clear K
    try simp only [Act.put, List.setIfInBounds_toArray, List.set_cons_zero, List.set_cons_succ]
    refine BigFrame.wpQuiet_want (by kernel_rfl) (fun K hK => ?_)
    refine quiet_calls (f := ?_) (args := ?_) ?_ (fun W hW => ?_) (fun W hW => ?_) (hK _ ?_)
    rotate_left 3
    · go_simp
      constructor <;> rfl
    · refine (HMB.out _ hW).mono ?_
      rintro e W2 ⟨rfl, hbW⟩
      refine ⟨?_, below_from hW hbW⟩
      rfl
    clear hK
    clear K
    try simp only [Act.put, List.setIfInBounds_toArray, List.set_cons_zero, List.set_cons_succ]
    refine BigFrame.wpQuiet_want (by kernel_rfl) (fun K hK => ?_)
    refine quiet_val ?_ (fun W hW => ?_) (hK _ ?_)
    rotate_left 1
    · skip
      go_simp
      try rfl
    clear hK
    clear K
    try simp only [Act.put, List.setIfInBounds_toArray, List.set_cons_zero, List.set_cons_succ]
    refine wpQuiet_nil (fun X6 hstX6 => ?_)
    have hcX6 := below_from hc5 hstX6
    obtain ⟨p0, f0⟩ := blk (HB.out _ hcX6)
    have hq := fun (w : World) => run_neq_pos s.anc s.foc w
    by_cases hc : s.anc = s.foc
    rotate_left 1
    · rw [decide_eq_false hc] at hq
      clear hc
      go_wp2_with fail
      refine (HA.out _ hcX6).mono ?_
      rintro e wz ⟨rfl, hstz⟩
      go_wp2_with fail
      go_ret
      exact ⟨rfl, H1.out.trans ((below_from hcX6 hstz).mono hs1)⟩
    rw [decide_eq_true hc] at hq
    obtain ⟨hxor, hbB, hra⟩ := HCL.out hc
    have HBB2 := Lib.hid (HBB.out hc)
    have hac : a.anc = a.foc := by rw [HT.out.anc.1, HT.out.anc.2, hc]
    have HTB : Hid (∀ u, keyS a (textK a txt) = (u, 0) → ∃ (i q : Nat) (l : Lin) (c : Cel), s.foc = ⟨i, q⟩ ∧ u.lines[i]? = some l ∧ l.cells[q]? = some c ∧ c.bits = bitsS a) := Lib.hid fun u hu => by
      have := typed_bits HT.out.mayA hac hu
      rw [HT.out.anc.2] at this
      exact this
    obtain ⟨ba, hba⟩ : ∃ x, bitsS a = x := ⟨_, rfl⟩
    obtain ⟨bs, hbs⟩ : ∃ x, bitsS s = x := ⟨_, rfl⟩
    rw [hba] at HBa HTB hxor
    rw [hbs] at HBs HBB2 hxor
    obtain ⟨u, eu, hu⟩ : ∃ u eu, keyS a (textK a txt) = (u, eu) := ⟨_, _, rfl⟩
    rw [hu] at HIn
    have HU := Lib.hid hu
    clear hc hac hbB hra hba hbs hu HBB HCL
    go_upto_region 14 with fail
    refine wp_region_grew X6.heap.size (by kernel_rfl) (by kernel_rfl) ?_
    refine BigFrame.wpQuiet_want (by kernel_rfl) (fun K hK => ?_)
    refine quiet_val ?_ (fun W hW => ?_) (hK _ ?_)
    rotate_left 1
    · skip
      obtain ⟨p0, f0⟩ := blk (HB.out _ (below_from hcX6 hW))
      obtain ⟨p3, f3⟩ := blk (heap_below (below_from hstX6 hW) N3.out)
      obtain ⟨p4, f4⟩ := blk (heap_below (below_from hstX6 hW) N4.out)
      go_simp
      try rfl
    clear hK
    clear K
    try simp only [Act.put, List.setIfInBounds_toArray, List.set_cons_zero, List.set_cons_succ]
    refine BigFrame.wpQuiet_want (by kernel_rfl) (fun K hK => ?_)
    refine quiet_calls (f := ?_) (args := ?_) ?_ (fun W hW => ?_) (fun W hW => ?_) (hK _ ?_)
    rotate_left 3
    · go_simp
      constructor <;> rfl
    · refine (HBa.out _ (below_from hstX6 hW)).mono ?_
      rintro e W2 ⟨rfl, hbW⟩
      refine ⟨?_, below_from hW hbW⟩
      rfl
    clear hK
    clear K
    try simp only [Act.put, List.setIfInBounds_toArray, List.set_cons_zero, List.set_cons_succ]
    refine BigFrame.wpQuiet_want (by kernel_rfl) (fun K hK => ?_)
    refine quiet_val ?_ (fun W hW => ?_) (hK _ ?_)
    rotate_left 1
    · skip
      obtain ⟨p0, f0⟩ := blk (HB.out _ (below_from hcX6 hW))
      obtain ⟨p3, f3⟩ := blk (heap_below (below_from hstX6 hW) N3.out)
      obtain ⟨p4, f4⟩ := blk (heap_below (below_from hstX6 hW) N4.out)
      go_simp
      try rfl
    clear hK
    clear K
    try simp only [Act.put, List.setIfInBounds_toArray, List.set_cons_zero, List.set_cons_succ]
    refine BigFrame.wpQuiet_want (by kernel_rfl) (fun K hK => ?_)
    refine quiet_calls (f := ?_) (args := ?_) ?_ (fun W hW => ?_) (fun W hW => ?_) (hK _ ?_)
    rotate_left 3
    · go_simp
      constructor <;> rfl
    · refine (HBs.out _ (below_from hstX6 hW)).mono ?_
      rintro e W2 ⟨rfl, hbW⟩
      refine ⟨?_, below_from hW hbW⟩
      rfl
    clear hK
    clear K
    try simp only [Act.put, List.setIfInBounds_toArray, List.set_cons_zero, List.set_cons_succ]
    refine BigFrame.wpQuiet_want (by kernel_rfl) (fun K hK => ?_)
    refine quiet_val ?_ (fun W hW => ?_) (hK _ ?_)
    rotate_left 1
    · skip
      go_simp
      try rfl
    clear hK
    clear K
    try simp only [Act.put, List.setIfInBounds_toArray, List.set_cons_zero, List.set_cons_succ]
    refine BigFrame.wpQuiet_want (by kernel_rfl) (fun K hK => ?_)
    refine quiet_val ?_ (fun W hW => ?_) (hK _ ?_)
    rotate_left 1
    · skip
      go_simp
      try rfl
    clear hK
    clear K
    try simp only [Act.put, List.setIfInBounds_toArray, List.set_cons_zero, List.set_cons_succ]
    refine BigFrame.wpQuiet_want (by kernel_rfl) (fun K hK => ?_)
    refine quiet_val ?_ (fun W hW => ?_) (hK _ ?_)
    rotate_left 1
    · skip
      go_simp
      try rfl
    clear hK
    clear K
    try simp only [Act.put, List.setIfInBounds_toArray, List.set_cons_zero, List.set_cons_succ]
    refine BigFrame.wpQuiet_want (by kernel_rfl) (fun K hK => ?_)
    refine quiet_val ?_ (fun W hW => ?_) (hK _ ?_)
    rotate_left 1
    · skip
      go_simp
      try rfl
    clear hK
    clear K
    try simp only [Act.put, List.setIfInBounds_toArray, List.set_cons_zero, List.set_cons_succ]
    refine BigFrame.wpQuiet_want (by kernel_rfl) (fun K hK => ?_)
    refine quiet_val ?_ (fun W hW => ?_) (hK _ ?_)
    rotate_left 1
    · skip
      obtain ⟨p0, f0⟩ := blk (HB.out _ (below_from hcX6 hW))
      obtain ⟨p3, f3⟩ := blk (heap_below (below_from hstX6 hW) N3.out)
      obtain ⟨p4, f4⟩ := blk (heap_below (below_from hstX6 hW) N4.out)
      go_simp
      try rfl
    clear hK
    clear K
    try simp only [Act.put, List.setIfInBounds_toArray, List.set_cons_zero, List.set_cons_succ]
    refine BigFrame.wpQuiet_want (by kernel_rfl) (fun K hK => ?_)
    refine quiet_calls (f := ?_) (args := ?_) ?_ (fun W hW => ?_) (fun W hW => ?_) (hK _ ?_)
    rotate_left 3
    · go_simp
      constructor <;> rfl
    · refine (HBB2.out _ (below_from hstX6 hW)).mono ?_
      rintro e W2 ⟨rfl, hbW⟩
      refine ⟨?_, below_from hW hbW⟩
      rfl
    clear hK
    clear K
    try simp only [Act.put, List.setIfInBounds_toArray, List.set_cons_zero, List.set_cons_succ]
    refine BigFrame.wpQuiet_want (by kernel_rfl) (fun K hK => ?_)
    refine quiet_val ?_ (fun W hW => ?_) (hK _ ?_)
    rotate_left 1
    · skip
      obtain ⟨p0, f0⟩ := blk (HB.out _ (below_from hcX6 hW))
      obtain ⟨p3, f3⟩ := blk (heap_below (below_from hstX6 hW) N3.out)
      obtain ⟨p4, f4⟩ := blk (heap_below (below_from hstX6 hW) N4.out)
      go_simp
      try rfl
    clear hK
    clear K
    try simp only [Act.put, List.setIfInBounds_toArray, List.set_cons_zero, List.set_cons_succ]
    refine BigFrame.wpQuiet_want (by kernel_rfl) (fun K hK => ?_)
    refine quiet_calls (f := ?_) (args := ?_) ?_ (fun W hW => ?_) (fun W hW => ?_) (hK _ ?_)
    rotate_left 3
    · go_simp
      constructor <;> rfl
    · refine (HBs.out _ (below_from hstX6 hW)).mono ?_
      rintro e W2 ⟨rfl, hbW⟩
      refine ⟨?_, below_from hW hbW⟩
      rfl
    clear hK
    clear K
    try simp only [Act.put, List.setIfInBounds_toArray, List.set_cons_zero, List.set_cons_succ]
    refine BigFrame.wpQuiet_want (by kernel_rfl) (fun K hK => ?_)
    refine quiet_val ?_ (fun W hW => ?_) (hK _ ?_)
    rotate_left 1
    · skip
      go_simp
      try rfl
    clear hK
    clear K
    try simp only [Act.put, List.setIfInBounds_toArray, List.set_cons_zero, List.set_cons_succ]
    refine BigFrame.wpQuiet_want (by kernel_rfl) (fun K hK => ?_)
    refine quiet_val ?_ (fun W hW => ?_) (hK _ ?_)
    rotate_left 1
    · skip
      go_simp
      try rfl
    clear hK
    clear K
    try simp only [Act.put, List.setIfInBounds_toArray, List.set_cons_zero, List.set_cons_succ]
    refine wpQuiet_nil (fun X7 hstX7 => ?_)
    have hcX7 := below_from hcX6 hstX7
    have hb57 := below_from hstX6 hstX7
    have HC8 := Lib.hid (HIn.out _ hb57)
    clear p0 f0
    obtain ⟨p3, f3⟩ := blk (heap_below hb57 N3.out)
    by_cases hu0 : eu = 0
    rotate_left 1
    · have hne : (eu != 0) = true := by simpa using hu0
      clear hu0
      go_upto_if 146 with ((go_at_call 54; (with_reducible refine HC8.out.mono ?_); intro e w8 hsaid; obtain ⟨v8, rfl, hv8, hst8⟩ := hsaid; obtain ⟨x8, y8, hve8⟩ := hv8.slice; subst hve8; have hb8 := below_from hcX7 hst8; have HD8 := Lib.hid hv8; clear hv8))
      obtain ⟨m8, hm8⟩ : ∃ m8, w8.alloc (.cells #[.slice x8 u.lines.length y8, .int .i64 u.anc.line, .int .i64 u.anc.col, .int .i64 u.foc.line, .int .i64 u.foc.col, .int .i64 u.on, .int .i64 u.off] 26) = m8 := ⟨_, rfl⟩
      rw [hm8]
      have hbm8 : Below w8.heap.size w8 m8 := hm8 ▸ below1 (Below.refl _ _) _
      have n8 : m8.heap[w8.heap.size]? = some (.cells #[.slice x8 u.lines.length y8, .int .i64 u.anc.line, .int .i64 u.anc.col, .int .i64 u.foc.line, .int .i64 u.foc.col, .int .i64 u.on, .int .i64 u.off] 26) := hm8 ▸ heap_new _ _ rfl
      have hc8 := below_from hb8 hbm8
      have HE8 := Lib.hid (HD8.out.below hbm8)
      clear hm8
      go_wp2_with fail
      refine (HA.out _ hc8).mono ?_
      rintro e wz ⟨rfl, hstz⟩
      go_wp2_with fail
      go_ret
      exact ⟨rfl, H1.out.trans ((below_from hc8 hstz).mono hs1)⟩
    subst hu0
    obtain ⟨i, q, l, c, hfoc, hl, hcq, hcb⟩ := HTB.out u HU.out
    go_upto_if 146 with ((go_at_call 54; (with_reducible refine HC8.out.mono ?_); intro e w8 hsaid; obtain ⟨v8, rfl, hv8, hst8⟩ := hsaid; obtain ⟨x8, y8, hve8⟩ := hv8.slice; subst hve8; have hb8 := below_from hcX7 hst8; have HD8 := Lib.hid hv8; clear hv8))
    obtain ⟨m8, hm8⟩ : ∃ m8, w8.alloc (.cells #[.slice x8 u.lines.length y8, .int .i64 u.anc.line, .int .i64 u.anc.col, .int .i64 u.foc.line, .int .i64 u.foc.col, .int .i64 u.on, .int .i64 u.off] 26) = m8 := ⟨_, rfl⟩
    rw [hm8]
    have hbm8 : Below w8.heap.size w8 m8 := hm8 ▸ below1 (Below.refl _ _) _
    have n8 : m8.heap[w8.heap.size]? = some (.cells #[.slice x8 u.lines.length y8, .int .i64 u.anc.line, .int .i64 u.anc.col, .int .i64 u.foc.line, .int .i64 u.foc.col, .int .i64 u.on, .int .i64 u.off] 26) := hm8 ▸ heap_new _ _ rfl
    have hc8 := below_from hb8 hbm8
    have HE8 := Lib.hid (HD8.out.below hbm8)
    clear hm8
    have HBf : Hid (∀ W, Below W1.heap.size W1 W → W.heap[w.heap.size]? = some (.cells #[.slice va s.lines.length vc, .int .i64 s.anc.line, .int .i64 s.anc.col, .int .i64 i, .int .i64 q, .int .i64 s.on, .int .i64 s.off] 26)) := Lib.hid fun W hW => by
      have := HB.out W hW
      rw [hfoc] at this
      exact this
    have hul := (List.getElem?_eq_some_iff.1 hl).1
    have hql := (List.getElem?_eq_some_iff.1 hcq).1
    obtain ⟨bb, oo, la, lc, ca, cc, hx8, _, _, hAt, _, _⟩ := own_line HE8.out hl
    subst hx8
    obtain ⟨ca', cc', hce, hcl1, hcl2, hcx⟩ := cels_shape hAt.cellsR
    injection hce with he1 he2 he3
    subst he1 he3
    obtain ⟨b2, o2, hb2e, hz2, _, d1, _⟩ := hcx q c hcq
    subst hb2e
    rw [hcb] at d1
    have HAT := Lib.hid hAt
    have HD1 := Lib.hid (And.intro hz2 d1)
    have HDL := (HE8.out).len
    unfold maxLen at HDL hcl2
    have i0 : (0 : Int) ≤ (i : Int) := Int.natCast_nonneg _
    have i1 : (i : Int) < (u.lines.length : Int) := by omega
    have q0 : (0 : Int) ≤ (q : Int) := Int.natCast_nonneg _
    have q1 : (q : Int) < (l.cells.length : Int) := by omega
    have N8 := Lib.hid n8
    have hb58 : Below m5.heap.size m5 m8 := below_from hb57 (below_from hst8 hbm8)
    clear hfoc hl hcq hcb hAt hcx hz2 d1 he2 p3 f3 n8 hq
    go_upto_region 19 with fail
    refine wp_region_grew m8.heap.size (by kernel_rfl) (by kernel_rfl) ?_
    refine BigFrame.wpQuiet_want (by kernel_rfl) (fun K hK => ?_)
    refine quiet_val ?_ (fun W hW => ?_) (hK _ ?_)
    rotate_left 1
    · skip
      go_simp
      try rfl
    clear hK
    clear K
    try simp only [Act.put, List.setIfInBounds_toArray, List.set_cons_zero, List.set_cons_succ]
    refine BigFrame.wpQuiet_want (by kernel_rfl) (fun K hK => ?_)
    refine quiet_val ?_ (fun W hW => ?_) (hK _ ?_)
    rotate_left 1
    · skip
      obtain ⟨p0, f0⟩ := blk (HBf.out _ (below_from hc8 hW))
      obtain ⟨p3, f3⟩ := blk (heap_below (below_from hb58 hW) N3.out)
      obtain ⟨p8, f8⟩ := blk (heap_below hW N8.out)
      obtain ⟨_, _, _, _, c3, _, _⟩ := HAT.out.below hW
      have c4 := (hW.cell HD1.out.1).trans HD1.out.2
      go_simp
      try rfl
    clear hK
    clear K
    try simp only [Act.put, List.setIfInBounds_toArray, List.set_cons_zero, List.set_cons_succ]
    refine BigFrame.wpQuiet_want (by kernel_rfl) (fun K hK => ?_)
    refine quiet_val ?_ (fun W hW => ?_) (hK _ ?_)
    rotate_left 1
    · skip
      go_simp
      try rfl
    clear hK
    clear K
    try simp only [Act.put, List.setIfInBounds_toArray, List.set_cons_zero, List.set_cons_succ]
    refine BigFrame.wpQuiet_want (by kernel_rfl) (fun K hK => ?_)
    refine quiet_val ?_ (fun W hW => ?_) (hK _ ?_)
    rotate_left 1
    · skip
      go_simp
      try rfl
    clear hK
    clear K
    try simp only [Act.put, List.setIfInBounds_toArray, List.set_cons_zero, List.set_cons_succ]
    refine BigFrame.wpQuiet_want (by kernel_rfl) (fun K hK => ?_)
    refine quiet_val ?_ (fun W hW => ?_) (hK _ ?_)
    rotate_left 1
    · skip
      obtain ⟨p0, f0⟩ := blk (HBf.out _ (below_from hc8 hW))
      obtain ⟨p3, f3⟩ := blk (heap_below (below_from hb58 hW) N3.out)
      obtain ⟨p8, f8⟩ := blk (heap_below hW N8.out)
      obtain ⟨_, _, _, _, c3, _, _⟩ := HAT.out.below hW
      have c4 := (hW.cell HD1.out.1).trans HD1.out.2
      go_simp
      try rfl
    clear hK
    clear K
    try simp only [Act.put, List.setIfInBounds_toArray, List.set_cons_zero, List.set_cons_succ]
    refine BigFrame.wpQuiet_want (by kernel_rfl) (fun K hK => ?_)
    refine quiet_val ?_ (fun W hW => ?_) (hK _ ?_)
    rotate_left 1
    · skip
      go_simp
      try rfl
    clear hK
    clear K
    try simp only [Act.put, List.setIfInBounds_toArray, List.set_cons_zero, List.set_cons_succ]
    refine BigFrame.wpQuiet_want (by kernel_rfl) (fun K hK => ?_)
    refine quiet_val ?_ (fun W hW => ?_) (hK _ ?_)
    rotate_left 1
    · skip
      go_simp
      try rfl
    clear hK
    clear K
    try simp only [Act.put, List.setIfInBounds_toArray, List.set_cons_zero, List.set_cons_succ]
    refine BigFrame.wpQuiet_want (by kernel_rfl) (fun K hK => ?_)
    refine quiet_val ?_ (fun W hW => ?_) (hK _ ?_)
    rotate_left 1
    · skip
      obtain ⟨p0, f0⟩ := blk (HBf.out _ (below_from hc8 hW))
      obtain ⟨p3, f3⟩ := blk (heap_below (below_from hb58 hW) N3.out)
      obtain ⟨p8, f8⟩ := blk (heap_below hW N8.out)
      obtain ⟨_, _, _, _, c3, _, _⟩ := HAT.out.below hW
      have c4 := (hW.cell HD1.out.1).trans HD1.out.2
      go_simp
      try rfl
    clear hK
    clear K
    try simp only [Act.put, List.setIfInBounds_toArray, List.set_cons_zero, List.set_cons_succ]
    refine BigFrame.wpQuiet_want (by kernel_rfl) (fun K hK => ?_)
    refine quiet_val ?_ (fun W hW => ?_) (hK _ ?_)
    rotate_left 1
    · skip
      go_simp
      try rfl
    clear hK
    clear K
    try simp only [Act.put, List.setIfInBounds_toArray, List.set_cons_zero, List.set_cons_succ]
    refine BigFrame.wpQuiet_want (by kernel_rfl) (fun K hK => ?_)
    refine quiet_val ?_ (fun W hW => ?_) (hK _ ?_)
    rotate_left 1
    · skip
      go_simp
      try rfl
    clear hK
    clear K
    try simp only [Act.put, List.setIfInBounds_toArray, List.set_cons_zero, List.set_cons_succ]
    refine BigFrame.wpQuiet_want (by kernel_rfl) (fun K hK => ?_)
    refine quiet_val ?_ (fun W hW => ?_) (hK _ ?_)
    rotate_left 1
    · skip
      obtain ⟨p0, f0⟩ := blk (HBf.out _ (below_from hc8 hW))
      obtain ⟨p3, f3⟩ := blk (heap_below (below_from hb58 hW) N3.out)
      obtain ⟨p8, f8⟩ := blk (heap_below hW N8.out)
      obtain ⟨_, _, _, _, c3, _, _⟩ := HAT.out.below hW
      have c4 := (hW.cell HD1.out.1).trans HD1.out.2
      go_simp
      try rfl
    clear hK
    clear K
    try simp only [Act.put, List.setIfInBounds_toArray, List.set_cons_zero, List.set_cons_succ]
    refine BigFrame.wpQuiet_want (by kernel_rfl) (fun K hK => ?_)
    refine quiet_val ?_ (fun W hW => ?_) (hK _ ?_)
    rotate_left 1
    · skip
      go_simp
      try rfl
    clear hK
    clear K
    try simp only [Act.put, List.setIfInBounds_toArray, List.set_cons_zero, List.set_cons_succ]
    refine BigFrame.wpQuiet_want (by kernel_rfl) (fun K hK => ?_)
    refine quiet_val ?_ (fun W hW => ?_) (hK _ ?_)
    rotate_left 1
    · skip
      go_simp
      try rfl
    clear hK
    clear K
    try simp only [Act.put, List.setIfInBounds_toArray, List.set_cons_zero, List.set_cons_succ]
    refine BigFrame.wpQuiet_want (by kernel_rfl) (fun K hK => ?_)
    refine quiet_val ?_ (fun W hW => ?_) (hK _ ?_)
    rotate_left 1
    · skip
      obtain ⟨p0, f0⟩ := blk (HBf.out _ (below_from hc8 hW))
      obtain ⟨p3, f3⟩ := blk (heap_below (below_from hb58 hW) N3.out)
      obtain ⟨p8, f8⟩ := blk (heap_below hW N8.out)
      obtain ⟨_, _, _, _, c3, _, _⟩ := HAT.out.below hW
      have c4 := (hW.cell HD1.out.1).trans HD1.out.2
      go_simp
      try rfl
    clear hK
    clear K
    try simp only [Act.put, List.setIfInBounds_toArray, List.set_cons_zero, List.set_cons_succ]
    refine BigFrame.wpQuiet_want (by kernel_rfl) (fun K hK => ?_)
    refine quiet_val ?_ (fun W hW => ?_) (hK _ ?_)
    rotate_left 1
    · skip
      obtain ⟨p0, f0⟩ := blk (HBf.out _ (below_from hc8 hW))
      obtain ⟨p3, f3⟩ := blk (heap_below (below_from hb58 hW) N3.out)
      obtain ⟨p8, f8⟩ := blk (heap_below hW N8.out)
      obtain ⟨_, _, _, _, c3, _, _⟩ := HAT.out.below hW
      have c4 := (hW.cell HD1.out.1).trans HD1.out.2
      go_simp
      try rfl
    clear hK
    clear K
    try simp only [Act.put, List.setIfInBounds_toArray, List.set_cons_zero, List.set_cons_succ]
    refine BigFrame.wpQuiet_want (by kernel_rfl) (fun K hK => ?_)
    refine quiet_calls (f := ?_) (args := ?_) ?_ (fun W hW => ?_) (fun W hW => ?_) (hK _ ?_)
    rotate_left 3
    · go_simp
      constructor <;> rfl
    · refine (HBa.out _ (below_from hb58 hW)).mono ?_
      rintro e W2 ⟨rfl, hbW⟩
      refine ⟨?_, below_from hW hbW⟩
      rfl
    clear hK
    clear K
    try simp only [Act.put, List.setIfInBounds_toArray, List.set_cons_zero, List.set_cons_succ]
    refine BigFrame.wpQuiet_want (by kernel_rfl) (fun K hK => ?_)
    refine quiet_val ?_ (fun W hW => ?_) (hK _ ?_)
    rotate_left 1
    · skip
      go_simp
      try rfl
    clear hK
    clear K
    try simp only [Act.put, List.setIfInBounds_toArray, List.set_cons_zero, List.set_cons_succ]
    refine BigFrame.wpQuiet_want (by kernel_rfl) (fun K hK => ?_)
    refine quiet_val ?_ (fun W hW => ?_) (hK _ ?_)
    rotate_left 1
    · skip
      go_simp
      try rfl
    clear hK
    clear K
    try simp only [Act.put, List.setIfInBounds_toArray, List.set_cons_zero, List.set_cons_succ]
    refine BigFrame.wpQuiet_want (by kernel_rfl) (fun K hK => ?_)
    refine quiet_calls (f := ?_) (args := ?_) ?_ (fun W hW => ?_) (fun W hW => ?_) (hK _ ?_)
    rotate_left 3
    · go_simp
      constructor <;> rfl
    · refine (HA.out _ (below_from hc8 hW)).mono ?_
      rintro e W2 ⟨rfl, hbW⟩
      refine ⟨?_, below_from hW hbW⟩
      rfl
    clear hK
    clear K
    try simp only [Act.put, List.setIfInBounds_toArray, List.set_cons_zero, List.set_cons_succ]
    refine BigFrame.wpQuiet_want (by kernel_rfl) (fun K hK => ?_)
    refine quiet_val ?_ (fun W hW => ?_) (hK _ ?_)
    rotate_left 1
    · skip
      go_simp
      try rfl
    clear hK
    clear K
    try simp only [Act.put, List.setIfInBounds_toArray, List.set_cons_zero, List.set_cons_succ]
    refine BigFrame.wpQuiet_want (by kernel_rfl) (fun K hK => ?_)
    refine quiet_val ?_ (fun W hW => ?_) (hK _ ?_)
    rotate_left 1
    · skip
      go_simp
      try rfl
    clear hK
    clear K
    try simp only [Act.put, List.setIfInBounds_toArray, List.set_cons_zero, List.set_cons_succ]
    refine wpQuiet_nil (fun X9 hstX9 => ?_)
    have hcX9 := below_from hc8 hstX9
    go_wp2_with fail
    go_ret
    exact ⟨rfl, H1.out.trans (hcX9.mono hs1)⟩
end Go.Proofs.YtpndnbjpnajaaaaGreatDoor
