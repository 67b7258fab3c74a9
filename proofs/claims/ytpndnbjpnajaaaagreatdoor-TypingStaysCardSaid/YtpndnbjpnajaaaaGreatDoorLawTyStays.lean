/- The walk of the law TypingStays. -/
import Derived.Test.YtpndnbjpnajaaaaGreatDoorRefWide
set_option linter.unusedVariables false
set_option linter.unusedSimpArgs false
namespace Go.Proofs.YtpndnbjpnajaaaaGreatDoor
open Go.RowKit
open Go.Proofs.Qw
attribute [local go_sem] Oper.semAt_some
set_option maxRecDepth 100000 in
set_option maxHeartbeats 8000000 in
theorem lawTyStays_any (v dv : Value) (s : St) (ds : List Int) (txt : ByteArray) (w : World) (S S2 : Nat → Prop) (h : LinsR w S v s.lines) (sn : Sane s.lines) (hdo : IntsR false w S2 dv ds) (ho : -9223372036854775808 ≤ s.on ∧ s.on ≤ 9223372036854775807) (hof : -9223372036854775808 ≤ s.off ∧ s.off ≤ 9223372036854775807) (he : EnvT w) :
    Calls Tryz.prog 12 #[stV v s, dv, .string txt] w fun e w' => e = .returned (.bool true) ∧ Below w.heap.size w w' := by
  obtain ⟨W1, hW1, hB, hz, k0⟩ := one_st w v s
  have HB : Hid (∀ W, Below W1.heap.size W1 W → W.heap[w.heap.size]? = some (.cells #[v, .int .i64 s.anc.line, .int .i64 s.anc.col, .int .i64 s.foc.line, .int .i64 s.foc.col, .int .i64 s.on, .int .i64 s.off] 26)) := Lib.hid fun W hW => heap_below hW k0
  have hs1 := hB.size
  have H1 := Lib.hid hB
  have hw0 : Below W1.heap.size W1 W1 := Below.refl _ _
  have HV : Hid (∀ W, Below W1.heap.size W1 W → LinsR W S v s.lines) := Lib.hid fun W hW => h.below (rdLin_stable _) (hB.trans (hW.mono hs1))
  have HE : Hid (∀ W, Below W1.heap.size W1 W → EnvT W) := Lib.hid fun W hW => (he.below hB).below hW
  have HLo := Lib.hid (long23_any v s W1 S (HV.out _ hw0) sn)
  have HEw : Hid (∀ W, Below w.heap.size w W → EnvT W) := Lib.hid fun W hW => he.below hW
  have HA : Hid (∀ W, Below w.heap.size w W → Calls Tryz.prog 44 #[] W fun e w' => e = .returned (.bool true) ∧ Below W.heap.size W w') := Lib.hid fun W hW => awake23_any W (he.below hW)
  have HM : Hid (Small s.lines → ∀ W, Below W1.heap.size W1 W → Calls Tryz.prog 27 #[stV v s] W fun e w' => e = .returned (.bool (mayS s)) ∧ Below W.heap.size W w') := Lib.hid fun hs W hW => stMay_any v s W S (HV.out W hW) (HE.out W hW) hs
  have HRG : Hid (mayS s = true → RngS s) := Lib.hid fun hm => rng_may hm ho hof
  have HDo : Hid (∀ W, Below w.heap.size w W → IntsR false W S2 dv ds) := Lib.hid fun W hW => SliceR.below (rdOf_stable _) hdo hW
  obtain ⟨p0, f0⟩ := blk k0
  obtain ⟨va, vc, hve⟩ := h.slice
  subst hve
  obtain ⟨da, dc, hde, hdc, hdm, hdx⟩ := ints_shape hdo
  subst hde
  have HDX := Lib.hid hdx
  unfold maxLen at hdm
  clear h sn he k0 hB ho hof hdo hdx
  by_cases hlen : 50 < ds.length
  · have hl1 : (50 : Int) < (ds.length : Int) := by omega
    clear hlen
    go_enter Tryz.func12, Tryz.ntmps12
    go_wp2_with fail
    refine HLo.out.mono ?_
    rintro e w1 ⟨r, rfl, _, hb1⟩
    cases r
    all_goals
      go_wp2_with fail
      refine (HA.out _ (H1.out.trans (hb1.mono hs1))).mono ?_
      rintro e wz ⟨rfl, hstz⟩
      go_wp2_with fail
      go_ret
      exact ⟨rfl, below_from (H1.out.trans (hb1.mono hs1)) hstz⟩
  have hl1 : ¬ (50 : Int) < (ds.length : Int) := by omega
  have hl1N : Hid (¬ 50 < ds.length) := Lib.hid hlen
  clear hlen
  by_cases hlen : 20000 < txt.size
  · have hl2 : (20000 : Int) < (txt.size : Int) := by omega
    clear hlen
    go_enter Tryz.func12, Tryz.ntmps12
    go_wp2_with fail
    refine HLo.out.mono ?_
    rintro e w1 ⟨r, rfl, _, hb1⟩
    cases r
    all_goals
      go_wp2_with fail
      refine (HA.out _ (H1.out.trans (hb1.mono hs1))).mono ?_
      rintro e wz ⟨rfl, hstz⟩
      go_wp2_with fail
      go_ret
      exact ⟨rfl, below_from (H1.out.trans (hb1.mono hs1)) hstz⟩
  have hl2 : ¬ (20000 : Int) < (txt.size : Int) := by omega
  have hl2N : Hid (¬ 20000 < txt.size) := Lib.hid hlen
  clear hlen
  have HTX : Hid (txt.size ≤ 1000000) := Lib.hid (by have := hl2N.out; omega)
  have hg := guardPos
  go_enter Tryz.func12, Tryz.ntmps12
  go_wp2_with fail
  refine HLo.out.mono ?_
  rintro e w1 ⟨r, rfl, hr1, hb1⟩
  have HRS := Lib.hid hr1
  clear hr1
  cases r
  rotate_left 1
  · go_wp2_with fail
    refine (HA.out _ (H1.out.trans (hb1.mono hs1))).mono ?_
    rintro e wz ⟨rfl, hstz⟩
    go_wp2_with fail
    go_ret
    exact ⟨rfl, below_from (H1.out.trans (hb1.mono hs1)) hstz⟩
  have HSF : Hid (Small s.lines ∧ Fits s.lines) := Lib.hid ⟨(HRS.out rfl).small, (HRS.out rfl).fits⟩
  clear p0 f0
  obtain ⟨p0, f0⟩ := blk (HB.out _ hb1)
  go_wp2_with fail
  refine (HM.out HSF.out.1 _ hb1).mono ?_
  rintro e w2 ⟨rfl, hst2⟩
  have hb2 := below_from hb1 hst2
  cases hm : mayS s
  · go_wp2_with fail
    refine (HA.out _ (H1.out.trans (hb2.mono hs1))).mono ?_
    rintro e wz ⟨rfl, hstz⟩
    go_wp2_with fail
    go_ret
    exact ⟨rfl, below_from (H1.out.trans (hb2.mono hs1)) hstz⟩
  have HMy := Lib.hid hm
  have HRn := Lib.hid (HRG.out hm)
  have HOw := Lib.hid (stOwn_any (.slice va s.lines.length vc) s w2 S (HV.out _ hb2) HSF.out.2)
  clear hm p0 f0 hst2 HRG
  obtain ⟨p0, f0⟩ := blk (HB.out _ hb2)
  go_upto_region 4 with ((go_at_call 41; (with_reducible refine HOw.out.mono ?_); rintro e w3 ⟨v3, rfl, hv3, hst3⟩; obtain ⟨x3, y3, hve3⟩ := hv3.slice; subst hve3; have hb3 := below_from hb2 hst3; have HD3 := Lib.hid hv3; clear hv3))
  obtain ⟨m3, hm3⟩ : ∃ m3, w3.alloc (.cells #[.slice x3 s.lines.length y3, .int .i64 s.anc.line, .int .i64 s.anc.col, .int .i64 s.foc.line, .int .i64 s.foc.col, .int .i64 s.on, .int .i64 s.off] 26) = m3 := ⟨_, rfl⟩
  rw [hm3]
  have hbm3 : Below w3.heap.size w3 m3 := hm3 ▸ below1 (Below.refl _ _) _
  have HN3 : Hid (m3.heap[w3.heap.size]? = some (.cells #[.slice x3 s.lines.length y3, .int .i64 s.anc.line, .int .i64 s.anc.col, .int .i64 s.foc.line, .int .i64 s.foc.col, .int .i64 s.on, .int .i64 s.off] 26)) := Lib.hid (hm3 ▸ heap_new _ _ rfl)
  have hc3 := below_from hb3 hbm3
  have hw3 : Below w.heap.size w m3 := H1.out.trans (hc3.mono hs1)
  have hlt0 : w.heap.size ≤ w3.heap.size := Nat.le_trans hs1 hb3.size
  have HLR3 : Hid (LinsR m3 (fun b => ¬ b = w3.heap.size) (.slice x3 s.lines.length y3) s.lines) := Lib.hid (SliceR.stable (rdLin_stable false) (DocR.read ((SliceR.bounded (rdLin_stable true) HD3.out).below (rdLin_stable _) hbm3)) (Keeps.refl _ _) (fun b hb _ => by have := hb.2; omega))
  have HW3 := Lib.hid hw3
  clear hm3 hbm3 HD3 p0 f0 hst3 HOw HSF HLo HM HB HV HE hc3 hb3 hb2 hb1 HRS
  go_wp2_with fail
  go_loopw [8] (fun z wr => ∃ (k : Nat) (X : St) (x : Option Addr) (y : Nat), z = .int .i64 k ∧ k ≤ ds.length ∧ Hid (wr.heap[w3.heap.size]? = some (.cells #[.slice x X.lines.length y, .int .i64 X.anc.line, .int .i64 X.anc.col, .int .i64 X.foc.line, .int .i64 X.foc.col, .int .i64 X.on, .int .i64 X.off] 26)) ∧ Hid (mayS X = true ∧ RngS X) ∧ Hid (LinsR wr (fun b => ¬ b = w3.heap.size) (.slice x X.lines.length y) X.lines) ∧ Hid (Below w3.heap.size m3 wr)) (fun z _ => ds.length - (intOf z).toNat)
  case atStart => exact ⟨0, s, x3, y3, rfl, by omega, HN3, Lib.hid ⟨HMy.out, HRn.out⟩, HLR3, Lib.hid (Below.refl _ _)⟩
  case round =>
    obtain ⟨k, X, x, y, rfl, hk, HBt, HMX, HLR, HBw⟩ := hrel
    have k0 : (0 : Int) ≤ (k : Int) := Int.natCast_nonneg _
    have hbw : Below w.heap.size w wr := HW3.out.trans (HBw.out.mono hlt0)
    have hBz := (Array.getElem?_eq_some_iff.1 HBt.out).1
    obtain ⟨pt, ft⟩ := blk HBt.out
    by_cases hkN : k < ds.length
    · have hkN' : (k : Int) < (ds.length : Int) := by omega
      obtain ⟨dk, hdk, _⟩ := getOf ds k hkN
      obtain ⟨db, dofs, rfl, hdbz, hdcell⟩ := HDX.out k dk hdk
      have hsm := may_small (mayS_at HMX.out.1).1
      have HOw := Lib.hid (stOwn_any (.slice x X.lines.length y) X wr _ HLR.out hsm.2)
      obtain ⟨Y, ey, hY⟩ : ∃ Y ey, keyS X (keyK X (bits .and .i64 dk 7) txt) = (Y, ey) := ⟨_, _, rfl⟩
      have hok := keyK_ok HMX.out.1 HMX.out.2 (bits .and .i64 dk 7) txt
      rw [hY] at hok
      have HOK := Lib.hid hok
      have HYY := Lib.hid hY
      have HSm := Lib.hid hsm
      clear hok hY hsm hdk
      go_upto_region 8 with ((go_at_call 41; (with_reducible refine HOw.out.mono ?_); rintro e w4 ⟨v4, rfl, hv4, hst4⟩; obtain ⟨x4, y4, hve4⟩ := hv4.slice; subst hve4; have HD4 := Lib.hid hv4; clear hv4))
      obtain ⟨m4, hm4⟩ : ∃ m4, w4.alloc (.cells #[.slice x4 X.lines.length y4, .int .i64 X.anc.line, .int .i64 X.anc.col, .int .i64 X.foc.line, .int .i64 X.foc.col, .int .i64 X.on, .int .i64 X.off] 26) = m4 := ⟨_, rfl⟩
      rw [hm4]
      have hbm4 : Below w4.heap.size w4 m4 := hm4 ▸ below1 (Below.refl _ _) _
      have n4 : m4.heap[w4.heap.size]? = some (.cells #[.slice x4 X.lines.length y4, .int .i64 X.anc.line, .int .i64 X.anc.col, .int .i64 X.foc.line, .int .i64 X.foc.col, .int .i64 X.on, .int .i64 X.off] 26) := hm4 ▸ heap_new _ _ rfl
      have h44 := below_from hst4 hbm4
      have t4 := heap_below h44 HBt.out
      have hw4 := below_from hbw h44
      have hdc4 : m4.cell? ⟨db, dofs + k, none⟩ = some (.int .i64 dk) := ((hbw.trans (h44.mono hbw.size)).cell hdbz).trans hdcell
      have HDC : Hid (∀ W, Below m4.heap.size m4 W → W.cell? ⟨db, dofs + k, none⟩ = some (.int .i64 dk)) := Lib.hid fun W hW => ((below_from hw4 hW).cell hdbz).trans hdcell
      have HKy : Hid (∀ W, Below m4.heap.size m4 W → Calls Tryz.prog 66 #[stV (.slice x X.lines.length y) X, .int .i64 dk, .string txt] W (StSaid (Y, ey) W)) := Lib.hid fun W hW => by
        have := key_any (.slice x X.lines.length y) X dk txt W _ ((HLR.out.below (rdLin_stable _) h44).below (rdLin_stable _) hW) (HEw.out _ (below_from hw4 hW)) HSm.out.1 HSm.out.2 HTX.out
        rw [HYY.out] at this
        exact this
      have HT4 := Lib.hid (And.intro t4 n4)
      have HL4 := Lib.hid (And.intro (HLR.out.below (rdLin_stable _) h44) (HD4.out.below hbm4))
      clear hm4 pt ft hbm4 HOw HD4
      obtain ⟨pt, ft⟩ := blk t4
      have hd4 : Below m4.heap.size m4 m4.drew := (Below.refl _ _).drew
      have hz4 : w3.heap.size < w4.heap.size := Nat.lt_of_lt_of_le hBz hst4.size
      clear t4 n4 hst4
      have HB4 : Hid (∀ W, Below m4.heap.size m4 W → W.heap[w3.heap.size]? = some (.cells #[.slice x X.lines.length y, .int .i64 X.anc.line, .int .i64 X.anc.col, .int .i64 X.foc.line, .int .i64 X.foc.col, .int .i64 X.on, .int .i64 X.off] 26)) := Lib.hid fun W hW => heap_below hW HT4.out.1
      have hmz : w3.heap.size < m4.heap.size := by have := (Array.getElem?_eq_some_iff.1 HT4.out.2).1; omega
      have hdbm : db < m4.heap.size := Nat.lt_of_lt_of_le hdbz (Nat.le_trans hbw.size (Nat.le_trans (Nat.le_refl _) h44.size))
      have v1 : ¬ m4.heap.size = w3.heap.size := by omega
      have v2 : ¬ w3.heap.size = m4.heap.size := by omega
      have v3 : ¬ m4.heap.size = db := by omega
      have v4 : ¬ db = m4.heap.size := by omega
      go_cut [10, 11] from 40 to 49 (fun p e wx => e = .int .i64 ey ∧ ∃ (Bu : Nat) (xu : Option Addr) (yu : Nat), p = .pointer (some ⟨Bu, 0, none⟩) ∧ Hid (wx.heap[Bu]? = some (.cells #[.slice xu Y.lines.length yu, .int .i64 Y.anc.line, .int .i64 Y.anc.col, .int .i64 Y.foc.line, .int .i64 Y.foc.col, .int .i64 Y.on, .int .i64 Y.off] 26)) ∧ m4.heap.size ≤ Bu ∧ Hid (Below m4.heap.size m4 wx) ∧ Hid (LinsR wx (fun b => ¬ b = w3.heap.size) (.slice xu Y.lines.length yu) Y.lines))
      case first =>
        go_region_held3 (fun w' => w'.cell? ⟨db, dofs + k, none⟩ = some (.int .i64 dk) ∧ w'.cell? ⟨w3.heap.size, 0, none⟩ = some (.slice x X.lines.length y) ∧ w'.cell? ⟨w3.heap.size, 1, none⟩ = some (.int .i64 X.anc.line) ∧ w'.cell? ⟨w3.heap.size, 2, none⟩ = some (.int .i64 X.anc.col) ∧ w'.cell? ⟨w3.heap.size, 3, none⟩ = some (.int .i64 X.foc.line) ∧ w'.cell? ⟨w3.heap.size, 4, none⟩ = some (.int .i64 X.foc.col) ∧ w'.cell? ⟨w3.heap.size, 5, none⟩ = some (.int .i64 X.on) ∧ w'.cell? ⟨w3.heap.size, 6, none⟩ = some (.int .i64 X.off)) (go_keep)
          ((go_at_call 66; (first
            | ((with_reducible refine (HKy.out _ hd4).mono ?_); intro e w5 hsaid; obtain ⟨v5, rfl, hv5, hst5⟩ := hsaid; obtain ⟨x5, y5, hve5⟩ := hv5.slice; subst hve5; have h45 := below_from hd4 hst5; have HD5 := Lib.hid hv5; clear hv5; have hdc5 := HDC.out _ h45; obtain ⟨s0, u0⟩ := blk (HB4.out _ h45); have hz5 := h45.size; have v5 : ¬ w5.heap.size = w3.heap.size := (by omega); have v6 : ¬ w3.heap.size = w5.heap.size := (by omega); have v7 : ¬ w5.heap.size = db := (by omega); have v8 : ¬ db = w5.heap.size := (by omega))
            | ((with_reducible refine (HKy.out _ ((below1 (Below.refl _ m4) _).drew)).mono ?_); intro e w5 hsaid; obtain ⟨v5, rfl, hv5, hst5⟩ := hsaid; obtain ⟨x5, y5, hve5⟩ := hv5.slice; subst hve5; have h45 := below_from ((below1 (Below.refl _ m4) _).drew) hst5; have HD5 := Lib.hid hv5; clear hv5; have hdc5 := HDC.out _ h45; obtain ⟨s0, u0⟩ := blk (HB4.out _ h45); have n5 := heap_below hst5 (show ((m4.alloc _).drew).heap[m4.heap.size]? = _ from heap_new m4 _ rfl); obtain ⟨s1, u1⟩ := blk n5))))
        · go_wp2_with fail
          go_meet
          case rel =>
            refine ⟨rfl, w5.heap.size, x5, y5, rfl, Lib.hid (heap_new _ _ rfl), h45.size, Lib.hid (h45.alloc h45.size _), Lib.hid ?_⟩
            exact (lins_but HD5.out (B := w3.heap.size) (by first | exact hmz | (simp; omega))).below (rdLin_stable _) ((Below.refl _ _).alloc (Nat.le_refl _) _)
        · obtain ⟨W, hW, nW, cW, kW, zW⟩ := set_st w5 m4.heap.size n5 (.slice x5 Y.lines.length y5) (.int .i64 Y.anc.line) (.int .i64 Y.anc.col) (.int .i64 Y.foc.line) (.int .i64 Y.foc.col) (.int .i64 Y.on) (.int .i64 Y.off)
          rw [hW]
          go_wp2_with fail
          go_meet
          case rel =>
            refine ⟨rfl, m4.heap.size, x5, y5, rfl, Lib.hid nW, Nat.le_refl _, Lib.hid (h45.trans (cW _ (Nat.le_refl _))), Lib.hid ?_⟩
            have h1 : LinsR w5 (fun b => ¬ b = w3.heap.size ∧ ¬ b = m4.heap.size) (.slice x5 Y.lines.length y5) Y.lines := SliceR.stable (rdLin_stable false) (DocR.read HD5.out) (Keeps.refl _ _) (fun b hb _ => by have hb' : ((m4.alloc _).drew).heap.size ≤ b := hb; simp at hb'; exact ⟨by omega, by omega⟩)
            exact SliceR.stable (rdLin_stable false) h1 ⟨Nat.le_of_eq zW.symm, fun b hb _ => kW b hb.2⟩ (fun b h _ => h.1)
      case rest =>
      obtain ⟨rfl, Bu, xu, yu, rfl, HBu, hBu, HBx, HLu⟩ := hcut
      have hbx := below_from hw4 HBx.out
      have ht6 := HB4.out _ HBx.out
      have HSa := stSame_any (.slice x X.lines.length y) (.slice x4 X.lines.length y4) X X _ _ _ (HL4.out.1.below (rdLin_stable _) HBx.out) ((DocR.read HL4.out.2).below (rdLin_stable _) HBx.out)
      rw [decide_eq_true rfl] at HSa
      have HSa := Lib.hid HSa
      clear pt ft
      obtain ⟨pt, ft⟩ := blk ht6
      obtain ⟨pw, fw⟩ := blk (heap_below HBx.out HT4.out.2)
      clear ht6
      go_upto_if 53 with ((go_at_call 67; (with_reducible refine HSa.out.mono ?_); rintro e w6 ⟨rfl, hst6⟩))
      have h46 := below_from HBx.out hst6
      have hb6 := below_from hbx hst6
      have hu6 := heap_below hst6 HBu.out
      have HT6 := Lib.hid (HB4.out _ h46)
      have HL6 := Lib.hid (HLu.out.below (rdLin_stable _) hst6)
      have HLX6 := Lib.hid (HL4.out.1.below (rdLin_stable _) h46)
      have hBw6 : Below w3.heap.size m3 w6 := (HBw.out.trans (h44.mono (Nat.le_of_lt hBz))).trans (h46.mono (Nat.le_of_lt hmz))
      have HW6 := Lib.hid hBw6
      clear pt ft pw fw HSa
      obtain ⟨pu, fu⟩ := blk hu6
      rcases HOK.out with ⟨h0, D, p, hYc, hD, hp⟩ | ⟨hYn, he7⟩
      · replace h0 : ey = 0 := h0
        subst h0
        replace hYc : Y = closedS D p := hYc
        have hYm : mayS Y = true := by rw [hYc]; exact closed_may hD hp
        have hYr : RngS Y := by rw [hYc]; exact closed_rng _ _
        have hq := fun (w : World) => run_neq_pos Y.anc Y.foc w
        rw [decide_eq_true (show Y.anc = Y.foc by rw [hYc]; rfl)] at hq
        have hon : (Y.on != 0) = false := by rw [hYc]; rfl
        have hoff : (Y.off != 0) = false := by rw [hYc]; rfl
        have HMay := Lib.hid (stMay_any (.slice xu Y.lines.length yu) Y w6 _ HL6.out (HEw.out _ hb6) (may_small (mayS_at hYm).1).1)
        rw [hYm] at HMay
        have HYM := Lib.hid (And.intro hYm hYr)
        clear hYc hYm hYr hD hp hu6
        go_upto_region 14 with ((go_at_call 27; (with_reducible refine HMay.out.mono ?_); rintro e w7 ⟨rfl, hst7⟩; obtain ⟨pv, fv⟩ := blk (heap_below hst7 (heap_below hst6 HBu.out))))
        have t7 := heap_below hst7 HT6.out
        obtain ⟨pt, ft⟩ := blk t7
        have hne1 : ¬ Bu = w3.heap.size := by omega
        go_wp2_with fail
        obtain ⟨W, hW, nW, cW, kW, zW⟩ := set_st w7 w3.heap.size t7 (.slice xu Y.lines.length yu) (.int .i64 Y.anc.line) (.int .i64 Y.anc.col) (.int .i64 Y.foc.line) (.int .i64 Y.foc.col) (.int .i64 Y.on) (.int .i64 Y.off)
        rw [hW]
        have HR := Lib.hid (And.intro nW (And.intro (lins_set (HL6.out.below (rdLin_stable _) hst7) kW zW) ((HW6.out.trans (hst7.mono (by have := h46.size; omega))).trans (cW _ (Nat.le_refl _)))))
        clear nW cW kW zW hW t7 pt ft pu fu pv fv
        go_roundw
        case rel => exact ⟨k + 1, Y, xu, yu, by go_num, by omega, Lib.hid HR.out.1, HYM, Lib.hid HR.out.2.1, Lib.hid HR.out.2.2⟩
        case measure => simp [intOf]; omega
      · replace hYn : Y = noS := hYn
        replace he7 : ey = 7 ∨ ey = 10 := he7
        have hln : ¬ (0 : Int) < (Y.lines.length : Int) := by rw [hYn]; simp [noS]
        have hln2 : ¬ 0 < Y.lines.length := by rw [hYn]; simp [noS]
        obtain ⟨L, hL⟩ : ∃ L, Y.lines.length = L := ⟨_, rfl⟩
        rw [hL] at pu hln hln2
        clear hYn hu6 hL
        rcases he7 with rfl | rfl
        all_goals
          go_wp2_with fail
          go_roundw
          case rel => exact ⟨k + 1, X, x, y, by go_num, by omega, HT6, HMX, HLX6, HW6⟩
          case measure => simp [intOf]; omega
    · have hkN' : ¬ (k : Int) < (ds.length : Int) := by omega
      go_wp2_with fail
      refine (HA.out _ hbw).mono ?_
      rintro e wz ⟨rfl, hstz⟩
      go_wp2_with fail
      go_ret
      exact ⟨rfl, below_from hbw hstz⟩
end Go.Proofs.YtpndnbjpnajaaaaGreatDoor
