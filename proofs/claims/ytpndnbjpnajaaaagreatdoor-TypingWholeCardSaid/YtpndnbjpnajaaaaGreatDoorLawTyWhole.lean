/- The walk of the law TypingWhole. -/
import Derived.Test.YtpndnbjpnajaaaaGreatDoorRefWide
import Derived.Test.YtpndnbjpnajaaaaGreatDoorKeys3
import Derived.Test.YtpndnbjpnajaaaaGreatDoorOpenInts
import Derived.Test.YtpndnbjpnajaaaaGreatDoorStyTells
import Derived.Test.YtpndnbjpnajaaaaGreatDoorReplace
import Derived.Test.YtpndnbjpnajaaaaGreatDoorStyToggle
set_option linter.unusedVariables false
set_option linter.unusedSimpArgs false
namespace Go.Proofs.Qw
open Go.RowKit Go.Proofs.YtpndnbjpnajaaaaGreatDoor
theorem whole_facts {s : St} (hm : mayS s = true) : ∃ Pa Pb : Doc, partD s.lines ⟨0, 0⟩ (spanS s).1 = (Pa, 0) ∧ partD s.lines (spanS s).2 (endD s.lines) = (Pb, 0) ∧ sizeD Pa ≤ 4000 ∧ sizeD Pb ≤ 4000 ∧
    (∀ t u, keyS s (textK s t) = (u, 0) → textB (flat u.lines) = textB (flat Pa) ++ runesBytes (cleanB t) ++ textB (flat Pb)) ∧ (∀ u, keyS s (paraK s) = (u, 0) → textB (flat u.lines) = textB (flat Pa) ++ textB (flat Pb)) := by
  obtain ⟨h1, h2, h3, _⟩ := flat_out hm
  obtain ⟨hMo, _⟩ := out_facts hm
  have h4 := (mayD_iff.1 hMo).2.2.1
  have hl : (flat (outS s)).length ≤ 4000 := h4
  rw [h1, List.length_append] at hl
  refine ⟨(partD s.lines ⟨0, 0⟩ (spanS s).1).1, (partD s.lines (spanS s).2 (endD s.lines)).1, Prod.ext rfl h2, Prod.ext rfl h3, ?_, ?_, fun t u hu => ?_, fun u hu => ?_⟩
  · rw [← flatc_len]; omega
  · rw [← flatc_len]; omega
  · obtain ⟨b, hr, e⟩ := text_flat hm hu
    rw [e, textB_append, textB_append, textB_of]
  · rw [para_flat hm hu, textB_append]
theorem key_size {x : St × Int} {u : St} (h : KeyOk x) (e : x = (u, 0)) : sizeD u.lines ≤ 100000 := by
  have h5 := keyok_of h e
  have := (may_small (mayS_at h5).1).1.1
  exact this
end Go.Proofs.Qw
namespace Go.Proofs.YtpndnbjpnajaaaaGreatDoor
open Go.RowKit
open Go.Proofs.Qw
attribute [local go_sem] Oper.semAt_some
theorem pos_two (w : World) (a b c d : Value) : ∃ W1, (w.alloc (.cells #[a, b] 24)).alloc (.cells #[c, d] 24) = W1 ∧ Below w.heap.size w W1 ∧ W1.heap[w.heap.size]? = some (.cells #[a, b] 24) ∧ W1.heap[w.heap.size + 1]? = some (.cells #[c, d] 24) :=
  ⟨_, rfl, below2 (Below.refl _ _) _ _, heap_old _ _ (heap_new _ _ rfl), heap_new _ _ (by simp)⟩
set_option maxRecDepth 100000 in
set_option maxHeartbeats 8000000 in
theorem lawTyWhole_any (v : Value) (s : St) (txt : ByteArray) (w : World) (S : Nat → Prop) (h : LinsR w S v s.lines) (sn : Sane s.lines) (he : EnvT w) (ho : -9223372036854775808 ≤ s.on ∧ s.on ≤ 9223372036854775807) (hof : -9223372036854775808 ≤ s.off ∧ s.off ≤ 9223372036854775807) :
    Calls Tryz.prog 10 #[stV v s, .string txt] w fun e w' => e = .returned (.bool true) ∧ Below w.heap.size w w' := by
  obtain ⟨W1, hW1, hB, hz, k0⟩ := one_st w v s
  have HB : Hid (∀ W, Below W1.heap.size W1 W → W.heap[w.heap.size]? = some (.cells #[v, .int .i64 s.anc.line, .int .i64 s.anc.col, .int .i64 s.foc.line, .int .i64 s.foc.col, .int .i64 s.on, .int .i64 s.off] 26)) := Lib.hid fun W hW => heap_below hW k0
  have hs1 := hB.size
  have H1 := Lib.hid hB
  have hw0 : Below W1.heap.size W1 W1 := Below.refl _ _
  have HV : Hid (∀ W, Below W1.heap.size W1 W → LinsR W S v s.lines) := Lib.hid fun W hW => h.below (rdLin_stable _) (hB.trans (hW.mono hs1))
  have HE : Hid (∀ W, Below W1.heap.size W1 W → EnvT W) := Lib.hid fun W hW => (he.below hB).below hW
  have HLo := Lib.hid (long23_any v s W1 S (HV.out _ hw0) sn)
  have HRG : Hid (mayS s = true → RngS s) := Lib.hid fun hm => rng_may hm ho hof
  have HA : Hid (∀ W, Below W1.heap.size W1 W → Calls Tryz.prog 44 #[] W fun e w' => e = .returned (.bool true) ∧ Below W.heap.size W w') := Lib.hid fun W hW => awake23_any W (HE.out W hW)
  obtain ⟨p0, f0⟩ := blk k0
  obtain ⟨va, vc, hve⟩ := h.slice
  subst hve
  clear h sn he k0 hB ho hof
  by_cases hlen : 2000 < txt.size
  · have hl1 : (2000 : Int) < (txt.size : Int) := by omega
    clear hlen
    go_enter Tryz.func10, Tryz.ntmps10
    go_wp2_with fail
    refine HLo.out.mono ?_
    rintro e w1 ⟨r, rfl, _, hb1⟩
    cases r
    all_goals
      go_wp2_with fail
      refine (HA.out _ hb1).mono ?_
      rintro e wz ⟨rfl, hstz⟩
      go_wp2_with fail
      go_ret
      exact ⟨rfl, H1.out.trans ((below_from hb1 hstz).mono hs1)⟩
  have hl1 : ¬ (2000 : Int) < (txt.size : Int) := by omega
  have HTX : Hid (txt.size ≤ 2000) := Lib.hid (by omega)
  clear hlen
  go_enter Tryz.func10, Tryz.ntmps10
  go_wp2_with fail
  refine HLo.out.mono ?_
  rintro e w1 ⟨r, rfl, hr1, hb1⟩
  have HRS := Lib.hid hr1
  clear hr1
  cases r
  rotate_left 1
  · go_wp2_with fail
    refine (HA.out _ hb1).mono ?_
    rintro e wz ⟨rfl, hstz⟩
    go_wp2_with fail
    go_ret
    exact ⟨rfl, H1.out.trans ((below_from hb1 hstz).mono hs1)⟩
  have HSF : Hid (Small s.lines ∧ Fits s.lines) := Lib.hid ⟨(HRS.out rfl).small, (HRS.out rfl).fits⟩
  clear p0 f0
  obtain ⟨p0, f0⟩ := blk (HB.out _ hb1)
  have HSz := Lib.hid (refSize_any (.slice va s.lines.length vc) s.lines w1 S (HV.out _ hb1) HSF.out.1.1)
  by_cases hsz : 2000 < sizeD s.lines
  · have hs2 : (2000 : Int) < (sizeD s.lines : Int) := by omega
    clear hsz
    go_wp2_with (go_at_call 56; refine HSz.out.mono ?_; rintro e w2 ⟨rfl, hst2⟩; have hb2 := below_from hb1 hst2)
    refine (HA.out _ hb2).mono ?_
    rintro e wz ⟨rfl, hstz⟩
    go_wp2_with fail
    go_ret
    exact ⟨rfl, H1.out.trans ((below_from hb2 hstz).mono hs1)⟩
  have hs2 : ¬ (2000 : Int) < (sizeD s.lines : Int) := by omega
  clear hsz
  cases hm : mayS s
  · have HMy := Lib.hid (fun W hW => stMay_any (.slice va s.lines.length vc) s W S (HV.out W hW) (HE.out W hW) HSF.out.1)
    rw [hm] at HMy
    go_wp2_with (go_at_call 56; refine HSz.out.mono ?_; rintro e w2 ⟨rfl, hst2⟩; have hb2 := below_from hb1 hst2; obtain ⟨q0, g0⟩ := blk (HB.out _ hb2))
    refine (HMy.out _ hb2).mono ?_
    rintro e w3 ⟨rfl, hst3⟩
    have hb3 := below_from hb2 hst3
    go_wp2_with fail
    refine (HA.out _ hb3).mono ?_
    rintro e wz ⟨rfl, hstz⟩
    go_wp2_with fail
    go_ret
    exact ⟨rfl, H1.out.trans ((below_from hb3 hstz).mono hs1)⟩
  obtain ⟨Pa, Pb, hPa, hPb, hza, hzb, htx, hpr⟩ := whole_facts hm
  have hk1 := text_ok hm (HRG.out hm) txt
  have hk2 := para_ok hm
  have HZ := Lib.hid (And.intro hza hzb)
  have HMy := Lib.hid (fun W hW => stMay_any (.slice va s.lines.length vc) s W S (HV.out W hW) (HE.out W hW) HSF.out.1)
  rw [hm] at HMy
  obtain ⟨A, B, hAB⟩ : ∃ A B, spanS s = (A, B) := ⟨_, _, rfl⟩
  have hA : (spanS s).1 = A := by rw [hAB]
  have hBB : (spanS s).2 = B := by rw [hAB]
  rw [hA] at hPa
  rw [hBB] at hPb
  obtain ⟨E, hE⟩ : ∃ E, endD s.lines = E := ⟨_, rfl⟩
  have hPb' : partD s.lines B E = (Pb, 0) := by rw [← hE]; exact hPb
  have HP : Hid (∀ p : Ps, posV p = .agg #[.int .i64 p.line, .int .i64 p.col]) := Lib.hid fun _ => rfl
  have HSp : Hid (∀ W, Below W1.heap.size W1 W → Calls Tryz.prog 28 #[stV (.slice va s.lines.length vc) s] W fun e w' => e = .returned (.tuple #[.agg #[.int .i64 A.line, .int .i64 A.col], .agg #[.int .i64 B.line, .int .i64 B.col]]) ∧ Below W.heap.size W w') := Lib.hid fun W _ => by have := stSpan_any (.slice va s.lines.length vc) s W; rw [hA, hBB] at this; exact this
  have HPa : Hid (∀ W, Below W1.heap.size W1 W → Calls Tryz.prog 57 #[.slice va s.lines.length vc, .agg #[.int .i64 0, .int .i64 0], .agg #[.int .i64 A.line, .int .i64 A.col]] W fun e w' => ∃ u, e = .returned (.tuple #[u, .int .i64 0]) ∧ DocR true w' (fun b => W.heap.size ≤ b) u Pa ∧ Below W.heap.size W w') := Lib.hid fun W hW => by
    have := docPart_any (.slice va s.lines.length vc) s.lines ⟨0, 0⟩ A W S (HV.out W hW) (HE.out W hW) HSF.out.1 HSF.out.2
    rw [hPa, HP.out, HP.out] at this
    exact this
  have HEn : Hid (∀ W, Below W1.heap.size W1 W → Calls Tryz.prog 58 #[.slice va s.lines.length vc] W fun e w' => e = .returned (.agg #[.int .i64 E.line, .int .i64 E.col]) ∧ Below W.heap.size W w') := Lib.hid fun W hW => by
    have := end_any (.slice va s.lines.length vc) s.lines W W S (HV.out W hW) (Below.refl _ _)
    rw [hE, HP.out] at this
    exact this
  have HPb : Hid (∀ W, Below W1.heap.size W1 W → Calls Tryz.prog 57 #[.slice va s.lines.length vc, .agg #[.int .i64 B.line, .int .i64 B.col], .agg #[.int .i64 E.line, .int .i64 E.col]] W fun e w' => ∃ u, e = .returned (.tuple #[u, .int .i64 0]) ∧ DocR true w' (fun b => W.heap.size ≤ b) u Pb ∧ Below W.heap.size W w') := Lib.hid fun W hW => by
    have := docPart_any (.slice va s.lines.length vc) s.lines B E W S (HV.out W hW) (HE.out W hW) HSF.out.1 HSF.out.2
    rw [HP.out, HP.out] at this
    rw [hPb'] at this
    exact this
  obtain ⟨T, et, hT⟩ : ∃ T et, keyS s (textK s txt) = (T, et) := ⟨_, _, rfl⟩
  obtain ⟨R, er, hR⟩ : ∃ R er, keyS s (paraK s) = (R, er) := ⟨_, _, rfl⟩
  have HTx : Hid (∀ W, Below W1.heap.size W1 W → Calls Tryz.prog 54 #[stV (.slice va s.lines.length vc) s, .string txt] W (StSaid (T, et) W)) := Lib.hid fun W hW => by
    have := typText_any (.slice va s.lines.length vc) s txt W S (HV.out W hW) (HE.out W hW) HSF.out.1 HSF.out.2 (by have := HTX.out; omega)
    rw [hT] at this
    exact this
  have HPr : Hid (∀ W, Below W1.heap.size W1 W → Calls Tryz.prog 48 #[stV (.slice va s.lines.length vc) s] W (StSaid (R, er) W)) := Lib.hid fun W hW => by
    have := typParagraph_any (.slice va s.lines.length vc) s W S (HV.out W hW) (HE.out W hW) HSF.out.1 HSF.out.2
    rw [hR] at this
    exact this
  have HT0 : Hid (et = 0 → textB (flat T.lines) = textB (flat Pa) ++ runesBytes (cleanB txt) ++ textB (flat Pb) ∧ sizeD T.lines ≤ 100000) := Lib.hid fun e => ⟨htx txt T (by rw [hT, e]), key_size hk1 (by rw [hT, e])⟩
  have HR0 : Hid (er = 0 → textB (flat R.lines) = textB (flat Pa) ++ textB (flat Pb) ∧ sizeD R.lines ≤ 100000) := Lib.hid fun e => ⟨hpr R (by rw [hR, e]), key_size hk2 (by rw [hR, e])⟩
  have HCl : Hid (∀ W, Calls Tryz.prog 61 #[.string txt] W fun e w' => ∃ v, e = .returned v ∧ RunesR true w' (fun b => W.heap.size ≤ b) v (cleanB txt) ∧ Below W.heap.size W w') := Lib.hid fun W => clean_any txt W (by have := HTX.out; omega)
  have za : (textB (flat Pa)).size ≤ 16000 := by have := textB_size (flat Pa); rw [flatc_len] at this; omega
  have zb : (textB (flat Pb)).size ≤ 16000 := by have := textB_size (flat Pb); rw [flatc_len] at this; omega
  have zc : (runesBytes (cleanB txt)).size ≤ 8000 := by
    have h1 := runesBytes_size_le (cleanB txt)
    have h2 : (cleanB txt).length ≤ txt.size := Nat.le_trans (List.length_filterMap_le _ _) (runesB_length txt)
    have := HTX.out
    omega
  have HZZ := Lib.hid (And.intro za (And.intro zb zc))
  clear hPa hPb hPb' hza hzb htx hpr hk1 hk2 hAB hA hBB hE hT hR hm HRG HRS za zb zc HLo
  go_upto_region 4 with (first
    | (go_at_call 56; (with_reducible refine HSz.out.mono ?_); rintro e w2 ⟨rfl, hst2⟩; have hb2 := below_from hb1 hst2; obtain ⟨q0, g0⟩ := blk (HB.out _ hb2))
    | (go_at_call 27; (with_reducible refine (HMy.out _ hb2).mono ?_); rintro e w3 ⟨rfl, hst3⟩; have hb3 := below_from hb2 hst3; obtain ⟨q1, g1⟩ := blk (HB.out _ hb3))
    | (go_at_call 28; (with_reducible refine (HSp.out _ hb3).mono ?_); rintro e w4 ⟨rfl, hst4⟩; have hb4 := below_from hb3 hst4))
  obtain ⟨M, hM, h4M, n4, n5⟩ := pos_two w4 (.int .i64 A.line) (.int .i64 A.col) (.int .i64 B.line) (.int .i64 B.col)
  rw [hM]
  have hbM := below_from hb4 h4M
  have HK : Hid (∀ W, Below M.heap.size M W → W.heap[w.heap.size]? = some (.cells #[.slice va s.lines.length vc, .int .i64 s.anc.line, .int .i64 s.anc.col, .int .i64 s.foc.line, .int .i64 s.foc.col, .int .i64 s.on, .int .i64 s.off] 26) ∧ W.heap[w4.heap.size]? = some (.cells #[.int .i64 A.line, .int .i64 A.col] 24) ∧ W.heap[w4.heap.size + 1]? = some (.cells #[.int .i64 B.line, .int .i64 B.col] 24)) := Lib.hid fun W hW => ⟨HB.out W (below_from hbM hW), heap_below hW n4, heap_below hW n5⟩
  have HBM : Hid (∀ W, Below M.heap.size M W → Below W1.heap.size W1 W) := Lib.hid fun W hW => below_from hbM hW
  have hm0 : Below M.heap.size M M := Below.refl _ _
  clear hM n4 n5 p0 f0 q0 g0 q1 g1 h4M HSz HMy HSp hst2 hst3 hst4
  obtain ⟨p0, f0⟩ := blk (HK.out _ hm0).1
  obtain ⟨p1, f1⟩ := blk (HK.out _ hm0).2.1
  go_upto_region 5 with (go_at_call 57; (with_reducible refine (HPa.out _ hbM).mono ?_); rintro e w5 ⟨v5, rfl, hv5, hst5⟩; obtain ⟨a5, c5, hve5⟩ := hv5.slice; subst hve5; have h5 := below_from hm0 hst5; have HV5 := Lib.hid hv5; clear hv5; obtain ⟨q0, g0⟩ := blk (HK.out _ h5).1; obtain ⟨q1, g1⟩ := blk (HK.out _ h5).2.2)
  have h5d := h5.drew
  go_region_held3 (fun w' => w'.cell? ⟨w.heap.size, 0, none⟩ = some (.slice va s.lines.length vc) ∧ w'.cell? ⟨w4.heap.size + 1, 0, none⟩ = some (.int .i64 B.line) ∧ w'.cell? ⟨w4.heap.size + 1, 1, none⟩ = some (.int .i64 B.col)) (go_keep)
    ((first
      | (go_at_call 58; (with_reducible refine (HEn.out _ (HBM.out _ h5d)).mono ?_); rintro e w6 ⟨rfl, hst6⟩; have h6 := below_from h5d hst6; obtain ⟨r0, s0⟩ := blk (HK.out _ h6).1; obtain ⟨r1, s1⟩ := blk (HK.out _ h6).2.2)
      | (go_at_call 57; (with_reducible refine (HPb.out _ (HBM.out _ h6)).mono ?_); rintro e w7 ⟨v7, rfl, hv7, hst7⟩; obtain ⟨a7, c7, hve7⟩ := hv7.slice; subst hve7; have h7 := below_from h6 hst7; have HV7 := Lib.hid hv7; clear hv7; obtain ⟨r2, s2⟩ := blk (HK.out _ h7).1; obtain ⟨r3, s3⟩ := blk (HK.out _ h7).2.2)))
  have HTa : Hid (∀ W, Below w7.heap.size w7 W → Calls Tryz.prog 59 #[.slice a5 Pa.length c5] W fun e w' => e = .returned (.string (textB (flat Pa))) ∧ Below W.heap.size W w') := Lib.hid fun W hW => text_any _ Pa W (fun b => M.heap.size ≤ b) ((((DocR.read HV5.out).below (rdLin_stable _) (below_from (Below.refl _ _).drew (below_from hst6 hst7))).below (rdLin_stable _) hW)) (by have := HZ.out.1; omega)
  have HTb : Hid (∀ W, Below w7.heap.size w7 W → Calls Tryz.prog 59 #[.slice a7 Pb.length c7] W fun e w' => e = .returned (.string (textB (flat Pb))) ∧ Below W.heap.size W w') := Lib.hid fun W hW => text_any _ Pb W (fun b => w6.heap.size ≤ b) (((DocR.read HV7.out).below (rdLin_stable _) hW)) (by have := HZ.out.2; omega)
  have hw7 : Below w7.heap.size w7 w7 := Below.refl _ _
  clear q0 g0 q1 g1 r0 s0 r1 s1 r2 s2 r3 s3 p0 f0 p1 f1
  obtain ⟨p0, f0⟩ := blk (HK.out _ h7).1
  go_upto_region 9 with (go_at_call 54; (with_reducible refine (HTx.out _ (HBM.out _ h7)).mono ?_); intro e w8 hsaid; obtain ⟨v8, rfl, hv8, hst8⟩ := hsaid; obtain ⟨a8, c8, hve8⟩ := hv8.slice; subst hve8; have h8 := below_from h7 hst8; have HV8 := Lib.hid hv8; clear hv8)
  obtain ⟨M8, hM8⟩ : ∃ M8, w8.alloc (.cells #[.slice a8 T.lines.length c8, .int .i64 T.anc.line, .int .i64 T.anc.col, .int .i64 T.foc.line, .int .i64 T.foc.col, .int .i64 T.on, .int .i64 T.off] 26) = M8 := ⟨_, rfl⟩
  rw [hM8]
  have h88 : Below w8.heap.size w8 M8 := hM8 ▸ below1 (Below.refl _ _) _
  have n8 : M8.heap[w8.heap.size]? = some (.cells #[.slice a8 T.lines.length c8, .int .i64 T.anc.line, .int .i64 T.anc.col, .int .i64 T.foc.line, .int .i64 T.foc.col, .int .i64 T.on, .int .i64 T.off] 26) := hM8 ▸ heap_new _ _ rfl
  have hM8b := below_from h8 h88
  have h78 := below_from hst8 h88
  have HN8 := Lib.hid n8
  have HTt : Hid (et = 0 → ∀ W, Below M8.heap.size M8 W → Calls Tryz.prog 59 #[.slice a8 T.lines.length c8] W fun e w' => e = .returned (.string (textB (flat Pa) ++ runesBytes (cleanB txt) ++ textB (flat Pb))) ∧ Below W.heap.size W w') := Lib.hid fun h0 W hW => by
    have := text_any (.slice a8 T.lines.length c8) T.lines W (fun b => w7.heap.size ≤ b) (((DocR.read HV8.out).below (rdLin_stable _) h88).below (rdLin_stable _) hW) (HT0.out h0).2
    rw [(HT0.out h0).1] at this
    exact this
  clear hM8 p0 f0 n8
  obtain ⟨p8, f8⟩ := blk HN8.out
  have hM80 : Below M8.heap.size M8 M8 := Below.refl _ _
  obtain ⟨xa, hxa⟩ : ∃ xa, textB (flat Pa) = xa := ⟨_, rfl⟩
  obtain ⟨xb, hxb⟩ : ∃ xb, textB (flat Pb) = xb := ⟨_, rfl⟩
  obtain ⟨xc, hxc⟩ : ∃ xc, runesBytes (cleanB txt) = xc := ⟨_, rfl⟩
  have HXC := Lib.hid hxc
  rw [hxa, hxb, hxc] at HTt HZZ
  rw [hxa] at HTa
  rw [hxb] at HTb
  rw [hxa, hxb, hxc] at HT0
  rw [hxa, hxb] at HR0
  clear hxa hxb hxc
  have HK8 : Hid (∀ W, Below M8.heap.size M8 W → Below M.heap.size M W) := Lib.hid fun W hW => below_from hM8b hW
  go_cut [85] from 69 to 85 (fun c wx => c = .bool false ∧ Below M8.heap.size M8 wx)
  case first =>
    by_cases he0 : et = 0
    · have he1 : (et == (0 : Int)) = true := by rw [he0]; rfl
      have HTt := Lib.hid (HTt.out he0)
      have y1 : ¬ (9223372036854775807 < xa.size + xc.size) := by have := HZZ.out; omega
      have y2 : ¬ (9223372036854775807 < (xa ++ xc).size + xb.size) := by have := HZZ.out; rw [ByteArray.size_append]; omega
      clear he0
      go_wp2_with (first
        | (go_at_call 59; (with_reducible refine (HTt.out _ hM80).mono ?_); rintro e u1 ⟨rfl, hu1⟩)
        | (go_at_call 59; (with_reducible refine (HTa.out _ (below_from h78 hu1)).mono ?_); rintro e u2 ⟨rfl, hs2⟩; have hu2 := below_from hu1 hs2)
        | (go_at_call 61; (with_reducible refine (HCl.out _).mono ?_); rintro e u3 ⟨vr, rfl, hvr, hs3⟩; have hu3 := below_from hu2 hs3; have HVR := Lib.hid (SliceR.read (fun _ _ h => h) hvr); clear hvr)
        | (go_at_call 60; have HTT := charsText_any _ _ _ _ HVR.out; rw [HXC.out] at HTT; (with_reducible refine HTT.mono ?_); rintro e u4 ⟨rfl, hs4⟩; have hu4 := below_from hu3 hs4)
        | (go_at_call 59; (with_reducible refine (HTb.out _ (below_from h78 hu4)).mono ?_); rintro e u5 ⟨rfl, hs5⟩; have hu5 := below_from hu4 hs5))
      go_meet
      case rel => exact ⟨rfl, hu5⟩
    · have he1 : (et == (0 : Int)) = false := beq_false_of_ne he0
      clear he0
      go_wp2_with fail
      go_meet
      case rel => exact ⟨rfl, hM80⟩
  case rest =>
  obtain ⟨rfl, hx9⟩ := hcut
  have h9 := HK8.out _ hx9
  have h79 := below_from h78 hx9
  clear p8 f8
  obtain ⟨p0, f0⟩ := blk (HK.out _ h9).1
  have HX9 := Lib.hid (And.intro h9 h79)
  go_upto_region 12 with (go_at_call 48; (with_reducible refine (HPr.out _ (HBM.out _ h9)).mono ?_); intro e w10 hsaid; obtain ⟨v10, rfl, hv10, hst10⟩ := hsaid; obtain ⟨a10, c10, hve10⟩ := hv10.slice; subst hve10; have h10 := below_from h9 hst10; have hx10 := below_from h79 hst10; have HV10 := Lib.hid hv10; clear hv10)
  obtain ⟨M10, hM10⟩ : ∃ M10, w10.alloc (.cells #[.slice a10 R.lines.length c10, .int .i64 R.anc.line, .int .i64 R.anc.col, .int .i64 R.foc.line, .int .i64 R.foc.col, .int .i64 R.on, .int .i64 R.off] 26) = M10 := ⟨_, rfl⟩
  rw [hM10]
  have h100 : Below w10.heap.size w10 M10 := hM10 ▸ below1 (Below.refl _ _) _
  have n10 : M10.heap[w10.heap.size]? = some (.cells #[.slice a10 R.lines.length c10, .int .i64 R.anc.line, .int .i64 R.anc.col, .int .i64 R.foc.line, .int .i64 R.foc.col, .int .i64 R.on, .int .i64 R.off] 26) := hM10 ▸ heap_new _ _ rfl
  have hMb := below_from h10 h100
  have h710 := below_from hx10 h100
  have HTr : Hid (er = 0 → ∀ W, Below M10.heap.size M10 W → Calls Tryz.prog 59 #[.slice a10 R.lines.length c10] W fun e w' => e = .returned (.string (xa ++ xb)) ∧ Below W.heap.size W w') := Lib.hid fun h0 W hW => by
    have := text_any (.slice a10 R.lines.length c10) R.lines W _ (((DocR.read HV10.out).below (rdLin_stable _) h100).below (rdLin_stable _) hW) (HR0.out h0).2
    rw [(HR0.out h0).1] at this
    exact this
  clear hM10 p0 f0
  obtain ⟨p10, f10⟩ := blk n10
  have hM100 : Below M10.heap.size M10 M10 := Below.refl _ _
  clear n10
  have HK10 : Hid (∀ W, Below M10.heap.size M10 W → Below M.heap.size M W) := Lib.hid fun W hW => below_from hMb hW
  go_cut [103] from 91 to 103 (fun c wx => c = .bool false ∧ Below M10.heap.size M10 wx)
  case first =>
    by_cases he0 : er = 0
    · have he1 : (er == (0 : Int)) = true := by rw [he0]; rfl
      have HTr := Lib.hid (HTr.out he0)
      have y1 : ¬ (9223372036854775807 < xa.size + xb.size) := by have := HZZ.out; omega
      clear he0
      go_wp2_with (first
        | (go_at_call 59; (with_reducible refine (HTr.out _ hM100).mono ?_); rintro e u1 ⟨rfl, hu1⟩)
        | (go_at_call 59; (with_reducible refine (HTa.out _ (below_from h710 hu1)).mono ?_); rintro e u2 ⟨rfl, hs2⟩; have hu2 := below_from hu1 hs2)
        | (go_at_call 59; (with_reducible refine (HTb.out _ (below_from h710 hu2)).mono ?_); rintro e u5 ⟨rfl, hs5⟩; have hu5 := below_from hu2 hs5))
      go_meet
      case rel => exact ⟨rfl, hu5⟩
    · have he1 : (er == (0 : Int)) = false := beq_false_of_ne he0
      clear he0
      go_wp2_with fail
      go_meet
      case rel => exact ⟨rfl, hM100⟩
  case rest =>
  obtain ⟨rfl, hx11⟩ := hcut
  have h11 := HK10.out _ hx11
  go_wp2_with fail
  refine (HA.out _ (HBM.out _ h11)).mono ?_
  rintro e wz ⟨rfl, hstz⟩
  go_wp2_with fail
  go_ret
  exact ⟨rfl, H1.out.trans ((below_from (HBM.out _ h11) hstz).mono hs1)⟩
end Go.Proofs.YtpndnbjpnajaaaaGreatDoor
