/- The walk of the law StylingStays. -/
import Derived.Test.YtpndnbjpnajaaaaGreatDoorStIsU
import Derived.Test.YtpndnbjpnajaaaaGreatDoorAlikeU
import Derived.Test.YtpndnbjpnajaaaaGreatDoorStyStaysU
import Derived.Test.YtpndnbjpnajaaaaGreatDoorCellsInsertU
import Derived.Test.YtpndnbjpnajaaaaGreatDoorStyBitsU
set_option linter.unusedVariables false
set_option linter.unusedSimpArgs false
namespace Go.Proofs.Qw
open Go.RowKit Go.Proofs.YtpndnbjpnajaaaaGreatDoor
def actK (s : St) (n b : Int) (h : List UInt8) : St × Int := if n = 4 then changedS s (linkL s h) else if n = 5 then changedS s (unlinkL s) else if n = 6 then changedS s (plainL s) else toggleS s b
theorem actK_on {s : St} (hm : mayS s = true) (hr : RngS s) (n : Int) {b : Int} (hb : four b = true) (h : List UInt8) : ActsOn s (actK s n b h) := by
 unfold actK
 split
 ·exact acts_link hm h
 ·split
  ·exact acts_unlink hm
  ·split
   ·exact acts_plain hm
   ·exact acts_toggle hm hr hb
end Go.Proofs.Qw
namespace Go.Proofs.YtpndnbjpnajaaaaGreatDoor
open Go.RowKit
open Go.Proofs.Qw
attribute [local go_sem] Oper.semAt_some
theorem lins_put {w W : World} {B : Nat} {v : Value} {d : Doc} (h : LinsR w (fun b => ¬ b = B) v d) (hk : ∀ k, k ≠ B → W.heap[k]? = w.heap[k]?) (hz : W.heap.size = w.heap.size) : LinsR W (fun b => ¬ b = B) v d :=
 SliceR.stable (rdLin_stable false) h ⟨Nat.le_of_eq hz.symm, fun b hb _ => hk b hb⟩ (fun _ h _ => h)
theorem mask3 (n : Int) : bits .and .i64 n 3 = 0 ∨ bits .and .i64 n 3 = 1 ∨ bits .and .i64 n 3 = 2 ∨ bits .and .i64 n 3 = 3 := by
 have h := and_bound n 3 (by decide)
 have e : bits .and .i64 n ((3 : Nat) : Int) = bits .and .i64 n 3 := rfl
 rw [e] at h
 omega
theorem run_shl3 (n : Int) (h : n = 0 ∨ n = 1 ∨ n = 2 ∨ n = 3) : ∃ b, four b = true ∧ ∀ w, (Op.shift .shl .i64 1 .i64 n).run Tryz.prog w = .ok (.int .i64 b) w := by
 rcases h with rfl | rfl | rfl | rfl
 ·exact ⟨1, by decide, fun _ => by kernel_rfl⟩
 ·exact ⟨2, by decide, fun _ => by kernel_rfl⟩
 ·exact ⟨4, by decide, fun _ => by kernel_rfl⟩
 ·exact ⟨8, by decide, fun _ => by kernel_rfl⟩
set_option maxRecDepth 100000 in
set_option maxHeartbeats 8000000 in
theorem lawStStays_any (v dv : Value) (s : St) (ds : List Int) (hr : List UInt8) (w : World) (S S2 : Nat → Prop) (h : LinsR w S v s.lines) (sn : Sane s.lines) (hdo : IntsR false w S2 dv ds) (ho : -9223372036854775808 ≤ s.on ∧ s.on ≤ 9223372036854775807) (hof : -9223372036854775808 ≤ s.off ∧ s.off ≤ 9223372036854775807) (he : EnvT w) :
  Calls Tryz.prog 6 #[stV v s, dv, .string ⟨hr.toArray⟩] w fun e w' => e = .returned (.bool true) ∧ Below w.heap.size w w' := by
 obtain ⟨W1, hW1, hB, hz, k0⟩ := one_st w v s
 have HB : Hid (∀ W, Below W1.heap.size W1 W → W.heap[w.heap.size]? = some (.cells #[v, .int .i64 s.anc.line, .int .i64 s.anc.col, .int .i64 s.foc.line, .int .i64 s.foc.col, .int .i64 s.on, .int .i64 s.off] 26)) := Lib.hid fun W hW => heap_below hW k0
 have hs1 := hB.size
 have H1 := Lib.hid hB
 have hw0 : Below W1.heap.size W1 W1 := Below.refl _ _
 have HV : Hid (∀ W, Below W1.heap.size W1 W → LinsR W S v s.lines) := Lib.hid fun W hW => h.below (rdLin_stable _) (hB.trans (hW.mono hs1))
 have HE : Hid (∀ W, Below W1.heap.size W1 W → EnvT W) := Lib.hid fun W hW => (he.below hB).below hW
 have HLo := Lib.hid (long24_any v s W1 S (HV.out _ hw0) sn)
 have HEw : Hid (∀ W, Below w.heap.size w W → EnvT W) := Lib.hid fun W hW => he.below hW
 have HVw : Hid (∀ W, Below w.heap.size w W → LinsR W S v s.lines) := Lib.hid fun W hW => h.below (rdLin_stable _) hW
 have HA : Hid (∀ W, Below w.heap.size w W → Calls Tryz.prog 18 #[] W fun e w' => e = .returned (.bool true) ∧ Below W.heap.size W w') := Lib.hid fun W hW => awake24_any W (he.below hW)
 have HM : Hid (Small s.lines → ∀ W, Below W1.heap.size W1 W → Calls Tryz.prog 27 #[stV v s] W fun e w' => e = .returned (.bool (mayS s)) ∧ Below W.heap.size W w') := Lib.hid fun hs W hW => stMay_any v s W S (HV.out W hW) (HE.out W hW) hs
 have HRG : Hid (mayS s = true → RngS s) := Lib.hid fun hm => rng_may hm ho hof
 obtain ⟨p0, f0⟩ := blk k0
 obtain ⟨va, vc, hve⟩ := h.slice
 subst hve
 obtain ⟨da, dc, hde, hdc, hdm, hdx⟩ := ints_shape hdo
 subst hde
 have HDX := Lib.hid hdx
 unfold maxLen at hdm
 clear h sn he k0 hB ho hof hdo hdx
 by_cases hlen : 50 < ds.length
 ·have hl1 : (50 : Int) < (ds.length : Int) := by omega
  clear hlen
  go_enter Tryz.func6, Tryz.ntmps6
  go_wp2_with fail
  refine HLo.out.mono ?_
  rintro e w1 ⟨r, rfl, _, hb1⟩
  cases r
  all_goals
   go_wp2_with fail
   refine (HA.out _ (H1.out.trans (hb1.mono hs1))).mono ?_
   rintro e wz ⟨rfl, hstz⟩
   go_wp2_with fail
   go_ret
   exact ⟨rfl, below_from (H1.out.trans (hb1.mono hs1)) hstz⟩
 have hl1 : ¬ (50 : Int) < (ds.length : Int) := by omega
 have hl1N : Hid (¬ 50 < ds.length) := Lib.hid hlen
 clear hlen
 by_cases hlen : 1000 < hr.length
 ·have hl2 : (1000 : Int) < (hr.length : Int) := by omega
  clear hlen
  go_enter Tryz.func6, Tryz.ntmps6
  go_wp2_with fail
  refine HLo.out.mono ?_
  rintro e w1 ⟨r, rfl, _, hb1⟩
  cases r
  all_goals
   go_wp2_with fail
   refine (HA.out _ (H1.out.trans (hb1.mono hs1))).mono ?_
   rintro e wz ⟨rfl, hstz⟩
   go_wp2_with fail
   go_ret
   exact ⟨rfl, below_from (H1.out.trans (hb1.mono hs1)) hstz⟩
 have hl2 : ¬ (1000 : Int) < (hr.length : Int) := by omega
 have hl2N : Hid (¬ 1000 < hr.length) := Lib.hid hlen
 clear hlen
 have HH : Hid (hr.length ≤ 1000000) := Lib.hid (by have := hl2N.out; omega)
 have hg := guardPos
 go_enter Tryz.func6, Tryz.ntmps6
 go_wp2_with fail
 refine HLo.out.mono ?_
 rintro e w1 ⟨r, rfl, hr1, hb1⟩
 have HRS := Lib.hid hr1
 clear hr1
 cases r
 rotate_left 1
 ·go_wp2_with fail
  refine (HA.out _ (H1.out.trans (hb1.mono hs1))).mono ?_
  rintro e wz ⟨rfl, hstz⟩
  go_wp2_with fail
  go_ret
  exact ⟨rfl, below_from (H1.out.trans (hb1.mono hs1)) hstz⟩
 have HSF : Hid (Small s.lines ∧ Fits s.lines) := Lib.hid ⟨(HRS.out rfl).small, (HRS.out rfl).fits⟩
 clear p0 f0
 obtain ⟨p0, f0⟩ := blk (HB.out _ hb1)
 go_wp2_with fail
 refine (HM.out HSF.out.1 _ hb1).mono ?_
 rintro e w2 ⟨rfl, hst2⟩
 have hb2 := below_from hb1 hst2
 cases hm : mayS s
 ·go_wp2_with fail
  refine (HA.out _ (H1.out.trans (hb2.mono hs1))).mono ?_
  rintro e wz ⟨rfl, hstz⟩
  go_wp2_with fail
  go_ret
  exact ⟨rfl, below_from (H1.out.trans (hb2.mono hs1)) hstz⟩
 have HMy := Lib.hid hm
 have HRn := Lib.hid (HRG.out hm)
 have HOw := Lib.hid (stOwn_any (.slice va s.lines.length vc) s w2 S (HV.out _ hb2) HSF.out.2)
 clear hm p0 f0 hst2 HRG
 obtain ⟨p0, f0⟩ := blk (HB.out _ hb2)
 go_upto_region 4 with ((go_at_call 41; (with_reducible refine HOw.out.mono ?_); rintro e w3 ⟨v3, rfl, hv3, hst3⟩; obtain ⟨x3, y3, hve3⟩ := hv3.slice; subst hve3; have hb3 := below_from hb2 hst3; have HD3 := Lib.hid hv3; clear hv3))
 obtain ⟨m3, hm3⟩ : ∃ m3, w3.alloc (.cells #[.slice x3 s.lines.length y3, .int .i64 s.anc.line, .int .i64 s.anc.col, .int .i64 s.foc.line, .int .i64 s.foc.col, .int .i64 s.on, .int .i64 s.off] 26) = m3 := ⟨_, rfl⟩
 rw [hm3]
 have hbm3 : Below w3.heap.size w3 m3 := hm3 ▸ below1 (Below.refl _ _) _
 have HN3 : Hid (m3.heap[w3.heap.size]? = some (.cells #[.slice x3 s.lines.length y3, .int .i64 s.anc.line, .int .i64 s.anc.col, .int .i64 s.foc.line, .int .i64 s.foc.col, .int .i64 s.on, .int .i64 s.off] 26)) := Lib.hid (hm3 ▸ heap_new _ _ rfl)
 have hc3 := below_from hb3 hbm3
 have hw3 : Below w.heap.size w m3 := H1.out.trans (hc3.mono hs1)
 have hlt0 : w.heap.size ≤ w3.heap.size := Nat.le_trans hs1 hb3.size
 have hlt1 : w.heap.size < w3.heap.size := by have := hb3.size; omega
 have HLR3 : Hid (LinsR m3 (fun b => ¬ b = w3.heap.size) (.slice x3 s.lines.length y3) s.lines) := Lib.hid (SliceR.stable (rdLin_stable false) (DocR.read ((SliceR.bounded (rdLin_stable true) HD3.out).below (rdLin_stable _) hbm3)) (Keeps.refl _ _) (fun b hb _ => by have := hb.2; omega))
 have HW3 := Lib.hid hw3
 have HP3 : Hid (∀ W, Below w3.heap.size m3 W → W.heap[w.heap.size]? = some (.cells #[.slice va s.lines.length vc, .int .i64 s.anc.line, .int .i64 s.anc.col, .int .i64 s.foc.line, .int .i64 s.foc.col, .int .i64 s.on, .int .i64 s.off] 26)) := Lib.hid fun W hW => (hW.block _ hlt1).trans (HB.out _ hc3)
 clear hm3 hbm3 HD3 p0 f0 hst3 HOw HLo HM HB HV HE hc3 hb3 hb2 hb1 HRS
 go_wp2_with fail
 go_loopw [8] (fun z wr => ∃ (k : Nat) (X : St) (x : Option Addr) (y : Nat), z = .int .i64 k ∧ k ≤ ds.length ∧ Hid (wr.heap[w3.heap.size]? = some (.cells #[.slice x X.lines.length y, .int .i64 X.anc.line, .int .i64 X.anc.col, .int .i64 X.foc.line, .int .i64 X.foc.col, .int .i64 X.on, .int .i64 X.off] 26)) ∧ Hid (Stays s X ∧ RngS X) ∧ Hid (LinsR wr (fun b => ¬ b = w3.heap.size) (.slice x X.lines.length y) X.lines) ∧ Hid (Below w3.heap.size m3 wr)) (fun z _ => ds.length - (intOf z).toNat)
 case atStart => exact ⟨0, s, x3, y3, rfl, by omega, HN3, Lib.hid ⟨Stays.refl HMy.out, HRn.out⟩, HLR3, Lib.hid (Below.refl _ _)⟩
 case round =>
  obtain ⟨k, X, x, y, rfl, hk, HBt, HMX, HLR, HBw⟩ := hrel
  have k0 : (0 : Int) ≤ (k : Int) := Int.natCast_nonneg _
  have hbw : Below w.heap.size w wr := HW3.out.trans (HBw.out.mono hlt0)
  have hBz := (Array.getElem?_eq_some_iff.1 HBt.out).1
  by_cases hkN : k < ds.length
  ·have hkN' : (k : Int) < (ds.length : Int) := by omega
   obtain ⟨dk, hdk, _⟩ := getOf ds k hkN
   obtain ⟨db, dofs, rfl, hdbz, hdcell⟩ := HDX.out k dk hdk
   have hsm := may_small (mayS_at HMX.out.1.may).1
   obtain ⟨bt, hb4, hsh⟩ := run_shl3 (bits .and .i64 dk 3) (mask3 dk)
   have hact := actK_on HMX.out.1.may HMX.out.2 (bits .and .i64 dk 7) hb4 hr
   obtain ⟨Y, ey, hY⟩ : ∃ Y ey, actK X (bits .and .i64 dk 7) bt hr = (Y, ey) := ⟨_, _, rfl⟩
   rw [hY] at hact
   have HOK := Lib.hid hact
   have HYY := Lib.hid hY
   have HSm := Lib.hid hsm
   clear hact hY hsm hdk hb4
   obtain ⟨pt, ft⟩ := blk HBt.out
   go_upto_region 9 with fail
   obtain ⟨m4, hm4⟩ : ∃ m4, wr.alloc (.cells #[.slice none 0 0, .int .i64 0, .int .i64 0, .int .i64 0, .int .i64 0, .int .i64 0, .int .i64 0] 26) = m4 := ⟨_, rfl⟩
   rw [hm4]
   have h44 : Below wr.heap.size wr m4 := hm4 ▸ below1 (Below.refl _ _) _
   have n4 : m4.heap[wr.heap.size]? = some (.cells #[.slice none 0 0, .int .i64 0, .int .i64 0, .int .i64 0, .int .i64 0, .int .i64 0, .int .i64 0] 26) := hm4 ▸ heap_new _ _ rfl
   have zm4 : m4.heap.size = wr.heap.size + 1 := by rw [← hm4]; simp
   have t4 := heap_below h44 HBt.out
   have hw4 := below_from hbw h44
   have hdc4 : m4.cell? ⟨db, dofs + k, none⟩ = some (.int .i64 dk) := ((hbw.trans (h44.mono hbw.size)).cell hdbz).trans hdcell
   have HDC : Hid (∀ W, Below m4.heap.size m4 W → W.cell? ⟨db, dofs + k, none⟩ = some (.int .i64 dk)) := Lib.hid fun W hW => ((below_from hw4 hW).cell hdbz).trans hdcell
   have HN4 := Lib.hid n4
   have HT4 : Hid (∀ W, Below m4.heap.size m4 W → W.heap[w3.heap.size]? = some (.cells #[.slice x X.lines.length y, .int .i64 X.anc.line, .int .i64 X.anc.col, .int .i64 X.foc.line, .int .i64 X.foc.col, .int .i64 X.on, .int .i64 X.off] 26) ∧ W.heap[wr.heap.size]? = some (.cells #[.slice none 0 0, .int .i64 0, .int .i64 0, .int .i64 0, .int .i64 0, .int .i64 0, .int .i64 0] 26)) := Lib.hid fun W hW => ⟨heap_below hW t4, heap_below hW n4⟩
   have HL4 : Hid (∀ W, Below m4.heap.size m4 W → LinsR W (fun b => ¬ b = w3.heap.size) (.slice x X.lines.length y) X.lines) := Lib.hid fun W hW => (HLR.out.below (rdLin_stable _) h44).below (rdLin_stable _) hW
   have HE4 : Hid (∀ W, Below m4.heap.size m4 W → EnvT W) := Lib.hid fun W hW => HEw.out _ (below_from hw4 hW)
   have hm0 : Below m4.heap.size m4 m4 := Below.refl _ _
   have hd4 : Below m4.heap.size m4 m4.drew := hm0.drew
   have v1 : ¬ wr.heap.size = w3.heap.size := by omega
   have v2 : ¬ w3.heap.size = wr.heap.size := by omega
   have v3 : ¬ wr.heap.size = db := by have := hbw.size; omega
   have v4 : ¬ db = wr.heap.size := by have := hbw.size; omega
   clear hm4 pt ft t4 n4
   obtain ⟨pt, ft⟩ := blk (HT4.out _ hm0).1
   obtain ⟨pu, fu⟩ := blk (HT4.out _ hm0).2
   go_cut [41] from 37 to 41 (fun t wx => t = .int .i64 (bits .and .i64 dk 7) ∧ wx = m4)
   case first =>
    go_wp2_with fail
    go_meet
    case rel => exact ⟨rfl, rfl⟩
   case rest =>
   obtain ⟨rfl, hwc⟩ := hcut
   replace hwc := hwc.symm
   subst hwc
   refine ‹∀ (a : Act) (w : World), Code.wp _ _ _ a w → _› _ _ ?_
   go_cut [10] from 42 to 74 (fun e wx => e = .int .i64 ey ∧ ∃ (xu : Option Addr) (yu : Nat), Hid (wx.heap[wr.heap.size]? = some (.cells #[.slice xu Y.lines.length yu, .int .i64 Y.anc.line, .int .i64 Y.anc.col, .int .i64 Y.foc.line, .int .i64 Y.foc.col, .int .i64 Y.on, .int .i64 Y.off] 26)) ∧ Hid (wx.heap[w3.heap.size]? = some (.cells #[.slice x X.lines.length y, .int .i64 X.anc.line, .int .i64 X.anc.col, .int .i64 X.foc.line, .int .i64 X.foc.col, .int .i64 X.on, .int .i64 X.off] 26)) ∧ Hid (Below wr.heap.size m4 wx) ∧ Hid (LinsR wx (fun b => ¬ b = wr.heap.size ∧ ¬ b = w3.heap.size) (.slice xu Y.lines.length yu) Y.lines))
   case first =>
    by_cases c4 : bits .and .i64 dk 7 = 4
    ·have z4 : (bits .and .i64 dk 7 == 4) = true := by rw [c4]; rfl
     have hAY : actK X (bits .and .i64 dk 7) bt hr = changedS X (linkL X hr) := by unfold actK; rw [if_pos c4]
     have HAc : Hid (∀ W, Below m4.heap.size m4 W → Calls Tryz.prog 30 #[stV (.slice x X.lines.length y) X, .string ⟨hr.toArray⟩] W (StSaid (Y, ey) W)) := Lib.hid fun W hW => by
      have := styLink_any _ X hr W _ (HL4.out W hW) (HE4.out W hW) HSm.out.1 HSm.out.2 HH.out
      rw [← hAY, HYY.out] at this
      exact this
     clear c4 hAY
     go_wp2_with (go_at_call 30; (with_reducible refine (HAc.out _ hm0).mono ?_); intro e w5 hsaid; obtain ⟨v5, rfl, hv5, hst5⟩ := hsaid; obtain ⟨x5, y5, hve5⟩ := hv5.slice; subst hve5; have h45 := below_from hm0 hst5; have HD5 := Lib.hid hv5; clear hv5; obtain ⟨s1, u1⟩ := blk (HT4.out _ h45).2)
     obtain ⟨W, hW, nW, cW, kW, zW⟩ := set_st w5 wr.heap.size (HT4.out _ h45).2 (.slice x5 Y.lines.length y5) (.int .i64 Y.anc.line) (.int .i64 Y.anc.col) (.int .i64 Y.foc.line) (.int .i64 Y.foc.col) (.int .i64 Y.on) (.int .i64 Y.off)
     rw [hW]
     go_wp2_with fail
     go_meet
     case rel =>
      refine ⟨rfl, x5, y5, Lib.hid nW, Lib.hid ((kW _ v2).trans (HT4.out _ h45).1), Lib.hid ((h45.mono (by omega)).trans (cW _ (Nat.le_refl _))), Lib.hid ?_⟩
      exact SliceR.stable (rdLin_stable false) (SliceR.stable (S' := fun b => ¬ b = wr.heap.size ∧ ¬ b = w3.heap.size) (rdLin_stable false) (DocR.read HD5.out) (Keeps.refl _ _) (fun b hb _ => by have hb : m4.heap.size ≤ b := hb; exact ⟨by omega, by omega⟩)) ⟨Nat.le_of_eq zW.symm, fun b hb _ => kW b hb.1⟩ (fun _ h _ => h)
    have z4 : (bits .and .i64 dk 7 == 4) = false := beq_false_of_ne c4
    by_cases c5 : bits .and .i64 dk 7 = 5
    ·have z5 : (bits .and .i64 dk 7 == 5) = true := by rw [c5]; rfl
     have hAY : actK X (bits .and .i64 dk 7) bt hr = changedS X (unlinkL X) := by unfold actK; rw [if_neg c4, if_pos c5]
     have HAc : Hid (∀ W, Below m4.heap.size m4 W → Calls Tryz.prog 37 #[stV (.slice x X.lines.length y) X] W (StSaid (Y, ey) W)) := Lib.hid fun W hW => by
      have := styUnlink_any _ X W _ (HL4.out W hW) (HE4.out W hW) HSm.out.1 HSm.out.2
      rw [← hAY, HYY.out] at this
      exact this
     clear c5 hAY
     go_wp2_with (go_at_call 37; (with_reducible refine (HAc.out _ hm0).mono ?_); intro e w5 hsaid; obtain ⟨v5, rfl, hv5, hst5⟩ := hsaid; obtain ⟨x5, y5, hve5⟩ := hv5.slice; subst hve5; have h45 := below_from hm0 hst5; have HD5 := Lib.hid hv5; clear hv5; obtain ⟨s1, u1⟩ := blk (HT4.out _ h45).2)
     obtain ⟨W, hW, nW, cW, kW, zW⟩ := set_st w5 wr.heap.size (HT4.out _ h45).2 (.slice x5 Y.lines.length y5) (.int .i64 Y.anc.line) (.int .i64 Y.anc.col) (.int .i64 Y.foc.line) (.int .i64 Y.foc.col) (.int .i64 Y.on) (.int .i64 Y.off)
     rw [hW]
     go_wp2_with fail
     go_meet
     case rel =>
      refine ⟨rfl, x5, y5, Lib.hid nW, Lib.hid ((kW _ v2).trans (HT4.out _ h45).1), Lib.hid ((h45.mono (by omega)).trans (cW _ (Nat.le_refl _))), Lib.hid ?_⟩
      exact SliceR.stable (rdLin_stable false) (SliceR.stable (S' := fun b => ¬ b = wr.heap.size ∧ ¬ b = w3.heap.size) (rdLin_stable false) (DocR.read HD5.out) (Keeps.refl _ _) (fun b hb _ => by have hb : m4.heap.size ≤ b := hb; exact ⟨by omega, by omega⟩)) ⟨Nat.le_of_eq zW.symm, fun b hb _ => kW b hb.1⟩ (fun _ h _ => h)
    have z5 : (bits .and .i64 dk 7 == 5) = false := beq_false_of_ne c5
    by_cases c6 : bits .and .i64 dk 7 = 6
    ·have z6 : (bits .and .i64 dk 7 == 6) = true := by rw [c6]; rfl
     have hAY : actK X (bits .and .i64 dk 7) bt hr = changedS X (plainL X) := by unfold actK; rw [if_neg c4, if_neg c5, if_pos c6]
     have HAc : Hid (∀ W, Below m4.heap.size m4 W → Calls Tryz.prog 31 #[stV (.slice x X.lines.length y) X] W (StSaid (Y, ey) W)) := Lib.hid fun W hW => by
      have := styPlain_any _ X W _ (HL4.out W hW) (HE4.out W hW) HSm.out.1 HSm.out.2
      rw [← hAY, HYY.out] at this
      exact this
     clear c6 hAY
     go_wp2_with (go_at_call 31; (with_reducible refine (HAc.out _ hm0).mono ?_); intro e w5 hsaid; obtain ⟨v5, rfl, hv5, hst5⟩ := hsaid; obtain ⟨x5, y5, hve5⟩ := hv5.slice; subst hve5; have h45 := below_from hm0 hst5; have HD5 := Lib.hid hv5; clear hv5; obtain ⟨s1, u1⟩ := blk (HT4.out _ h45).2)
     obtain ⟨W, hW, nW, cW, kW, zW⟩ := set_st w5 wr.heap.size (HT4.out _ h45).2 (.slice x5 Y.lines.length y5) (.int .i64 Y.anc.line) (.int .i64 Y.anc.col) (.int .i64 Y.foc.line) (.int .i64 Y.foc.col) (.int .i64 Y.on) (.int .i64 Y.off)
     rw [hW]
     go_wp2_with fail
     go_meet
     case rel =>
      refine ⟨rfl, x5, y5, Lib.hid nW, Lib.hid ((kW _ v2).trans (HT4.out _ h45).1), Lib.hid ((h45.mono (by omega)).trans (cW _ (Nat.le_refl _))), Lib.hid ?_⟩
      exact SliceR.stable (rdLin_stable false) (SliceR.stable (S' := fun b => ¬ b = wr.heap.size ∧ ¬ b = w3.heap.size) (rdLin_stable false) (DocR.read HD5.out) (Keeps.refl _ _) (fun b hb _ => by have hb : m4.heap.size ≤ b := hb; exact ⟨by omega, by omega⟩)) ⟨Nat.le_of_eq zW.symm, fun b hb _ => kW b hb.1⟩ (fun _ h _ => h)
    have z6 : (bits .and .i64 dk 7 == 6) = false := beq_false_of_ne c6
    have HAc : Hid (∀ W, Below m4.heap.size m4 W → Calls Tryz.prog 29 #[stV (.slice x X.lines.length y) X, .int .i64 bt] W (StSaid (Y, ey) W)) := Lib.hid fun W hW => by
     have := styToggle_any (.slice x X.lines.length y) X bt W _ (HL4.out W hW) (HE4.out W hW) HSm.out.1 HSm.out.2
     have hAY : actK X (bits .and .i64 dk 7) bt hr = toggleS X bt := by unfold actK; rw [if_neg c4, if_neg c5, if_neg c6]
     rw [← hAY, HYY.out] at this
     exact this
    clear c4 c5 c6
    go_wp2_with fail
    go_region_held3 (fun w' => w'.cell? ⟨db, dofs + k, none⟩ = some (.int .i64 dk) ∧ w'.cell? ⟨w3.heap.size, 0, none⟩ = some (.slice x X.lines.length y) ∧ w'.cell? ⟨w3.heap.size, 1, none⟩ = some (.int .i64 X.anc.line) ∧ w'.cell? ⟨w3.heap.size, 2, none⟩ = some (.int .i64 X.anc.col) ∧ w'.cell? ⟨w3.heap.size, 3, none⟩ = some (.int .i64 X.foc.line) ∧ w'.cell? ⟨w3.heap.size, 4, none⟩ = some (.int .i64 X.foc.col) ∧ w'.cell? ⟨w3.heap.size, 5, none⟩ = some (.int .i64 X.on) ∧ w'.cell? ⟨w3.heap.size, 6, none⟩ = some (.int .i64 X.off)) (go_keep)
     ((go_at_call 29; (with_reducible refine (HAc.out _ hd4).mono ?_); intro e w5 hsaid; obtain ⟨v5, rfl, hv5, hst5⟩ := hsaid; obtain ⟨x5, y5, hve5⟩ := hv5.slice; subst hve5; have h45 := below_from hd4 hst5; have HD5 := Lib.hid hv5; clear hv5; obtain ⟨s1, u1⟩ := blk (HT4.out _ h45).2; have hdc5 := HDC.out _ h45; obtain ⟨s0, u0⟩ := blk (HT4.out _ h45).1))
    obtain ⟨W, hW, nW, cW, kW, zW⟩ := set_st w5 wr.heap.size (HT4.out _ h45).2 (.slice x5 Y.lines.length y5) (.int .i64 Y.anc.line) (.int .i64 Y.anc.col) (.int .i64 Y.foc.line) (.int .i64 Y.foc.col) (.int .i64 Y.on) (.int .i64 Y.off)
    rw [hW]
    go_wp2_with fail
    go_meet
    case rel =>
     refine ⟨rfl, x5, y5, Lib.hid nW, Lib.hid ((kW _ v2).trans (HT4.out _ h45).1), Lib.hid ((h45.mono (by omega)).trans (cW _ (Nat.le_refl _))), Lib.hid ?_⟩
     exact SliceR.stable (rdLin_stable false) (SliceR.stable (S' := fun b => ¬ b = wr.heap.size ∧ ¬ b = w3.heap.size) (rdLin_stable false) (DocR.read HD5.out) (Keeps.refl _ _) (fun b hb _ => by have hb : m4.heap.size ≤ b := hb; exact ⟨by omega, by omega⟩)) ⟨Nat.le_of_eq zW.symm, fun b hb _ => kW b hb.1⟩ (fun _ h _ => h)
   case rest =>
   obtain ⟨rfl, xu, yu, HBu, HTx, HBx, HLu⟩ := hcut
   have hbx : Below w.heap.size w wc := hw4.trans (HBx.out.mono (by have := hbw.size; omega))
   have hBx3 : Below w3.heap.size m3 wc := (HBw.out.trans (h44.mono (Nat.le_of_lt hBz))).trans (HBx.out.mono (Nat.le_of_lt hBz))
   have HX3 := Lib.hid hBx3
   have hs0 := HP3.out _ hBx3
   obtain ⟨p0, f0⟩ := blk hs0
   clear pt ft pu fu
   obtain ⟨pt, ft⟩ := blk HTx.out
   obtain ⟨pu, fu⟩ := blk HBu.out
   clear hs0 hsh hdc4
   rcases HOK.out with ⟨h0, hst, hrg⟩ | ⟨hYn, he7⟩
   ·replace h0 : ey = 0 := h0
    subst h0
    have hst' : Stays X Y := hst
    have hsY : Stays s Y := HMX.out.1.trans hst'
    have hq1 := fun (w : World) => run_neq_pos Y.anc s.anc w
    rw [decide_eq_true hsY.anc] at hq1
    have hq2 := fun (w : World) => run_neq_pos Y.foc s.foc w
    rw [decide_eq_true hsY.foc] at hq2
    have hmY := hsY.may
    have hyy := may_small (mayS_at hmY).1
    have HMay := Lib.hid (stMay_any (.slice xu Y.lines.length yu) Y wc _ HLu.out (HEw.out _ hbx) hyy.1)
    rw [hmY] at HMay
    have HYM : Hid (Stays s Y ∧ RngS Y) := Lib.hid ⟨hsY, hrg⟩
    have HAl : Hid (∀ W, Below wc.heap.size wc W → Calls Tryz.prog 42 #[.slice xu Y.lines.length yu, .slice va s.lines.length vc] W fun e w' => e = .returned (.bool true) ∧ Below W.heap.size W w') := Lib.hid fun W hW => by
     have := alike_any (.slice xu Y.lines.length yu) (.slice va s.lines.length vc) Y.lines s.lines W _ S (HLu.out.below (rdLin_stable _) hW) (HVw.out _ (below_from hbx hW)) hyy.2 HSF.out.2
     rw [decide_eq_true hsY.strip] at this
     exact this
    clear hst hst' hsY hmY hyy hrg
    go_upto_region 22 with (first
     | (go_at_call 27; (with_reducible refine HMay.out.mono ?_); rintro e w7 ⟨rfl, hst7⟩; obtain ⟨pv, fv⟩ := blk (heap_below hst7 HBu.out); obtain ⟨pw, fw⟩ := blk (heap_below hst7 (HP3.out _ HX3.out)))
     | (go_at_call 42; (with_reducible refine (HAl.out _ hst7).mono ?_); rintro e w8 ⟨rfl, hst8⟩; have h78 := below_from hst7 hst8; obtain ⟨px, fx⟩ := blk (heap_below h78 HBu.out); have t8 := heap_below h78 HTx.out; obtain ⟨py, fy⟩ := blk t8))
    go_wp2_with fail
    obtain ⟨W, hW, nW, cW, kW, zW⟩ := set_st w8 w3.heap.size t8 (.slice xu Y.lines.length yu) (.int .i64 Y.anc.line) (.int .i64 Y.anc.col) (.int .i64 Y.foc.line) (.int .i64 Y.foc.col) (.int .i64 Y.on) (.int .i64 Y.off)
    rw [hW]
    have hxz : w3.heap.size < wc.heap.size := (Array.getElem?_eq_some_iff.1 HTx.out).1
    have HR := Lib.hid (And.intro nW (And.intro (lins_put ((SliceR.stable (S' := fun b => ¬ b = w3.heap.size) (rdLin_stable false) HLu.out (Keeps.refl _ _) (fun b h _ => h.2)).below (rdLin_stable _) h78) kW zW) ((HX3.out.trans (h78.mono (Nat.le_of_lt hxz))).trans (cW _ (Nat.le_refl _)))))
    clear nW cW kW zW hW t8 pt ft pu fu pv fv pw fw px fx py fy p0 f0
    go_roundw
    case rel => exact ⟨k + 1, Y, xu, yu, by go_num, by omega, Lib.hid HR.out.1, HYM, Lib.hid HR.out.2.1, Lib.hid HR.out.2.2⟩
    case measure => simp [intOf]; omega
   ·replace hYn : Y = noS := hYn
    replace he7 : ey = 7 ∨ ey = 1 := he7
    have hln : ¬ (0 : Int) < (Y.lines.length : Int) := by rw [hYn]; simp [noS]
    have hln2 : ¬ 0 < Y.lines.length := by rw [hYn]; simp [noS]
    obtain ⟨L, hL⟩ : ∃ L, Y.lines.length = L := ⟨_, rfl⟩
    rw [hL] at pu hln hln2
    have HLX : Hid (LinsR wc (fun b => ¬ b = w3.heap.size) (.slice x X.lines.length y) X.lines) := Lib.hid (SliceR.stable (rdLin_stable false) (SliceR.bounded (rdLin_stable false) HLR.out) ⟨by have := HBx.out.size; have := h44.size; omega, fun b hb hz => (HBx.out.block b hb.2).trans (h44.block b hb.2)⟩ (fun b h _ => h.1))
    clear hYn hL
    rcases he7 with rfl | rfl
    all_goals
     go_wp2_with fail
     go_roundw
     case rel => exact ⟨k + 1, X, x, y, by go_num, by omega, HTx, HMX, HLX, HX3⟩
     case measure => simp [intOf]; omega
  ·have hkN' : ¬ (k : Int) < (ds.length : Int) := by omega
   go_wp2_with fail
   refine (HA.out _ hbw).mono ?_
   rintro e wz ⟨rfl, hstz⟩
   go_wp2_with fail
   go_ret
   exact ⟨rfl, below_from hbw hstz⟩
theorem lawStStays_str (v dv : Value) (s : St) (ds : List Int) (hr : ByteArray) (w : World) (S S2 : Nat → Prop) (h : LinsR w S v s.lines) (sn : Sane s.lines) (hdo : IntsR false w S2 dv ds) (ho : -9223372036854775808 ≤ s.on ∧ s.on ≤ 9223372036854775807) (hof : -9223372036854775808 ≤ s.off ∧ s.off ≤ 9223372036854775807) (he : EnvT w) :
  Calls Tryz.prog 6 #[stV v s, dv, .string hr] w fun e w' => e = .returned (.bool true) ∧ Below w.heap.size w w' := by
 have := lawStStays_any v dv s ds hr.data.toList w S S2 h sn hdo ho hof he
 rw [show (⟨hr.data.toList.toArray⟩ : ByteArray) = hr by simp] at this
 exact this
end Go.Proofs.YtpndnbjpnajaaaaGreatDoor
