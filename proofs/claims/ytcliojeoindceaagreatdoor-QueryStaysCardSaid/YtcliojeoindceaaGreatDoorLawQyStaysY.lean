/- Parts of the proof. -/
import Derived.Test.YtcliojeoindceaaGreatDoorPartBaseY
import Derived.Test.YtcliojeoindceaaGreatDoorBlkEachY
import Derived.Test.YtcliojeoindceaaGreatDoorTypLawBaseY
import Derived.Test.YtcliojeoindceaaGreatDoorQryAllY
import Derived.Test.YtcliojeoindceaaGreatDoorLawQryAwakeY
import Derived.Test.YtcliojeoindceaaGreatDoorQryFmtY
set_option linter.unusedVariables false
set_option linter.unusedSimpArgs false
set_option maxHeartbeats 8000000
namespace Go.Proofs.YtcliojeoindceaaGreatDoor
open Go.RowKit
open Go.Proofs.Qw
attribute [local go_sem] Oper.semAt_some
open _root_.Go.Lib renaming hid → zA
open _root_.And renaming intro → zB
open _root_.Go.RowKit.Below renaming refl → zE
open _root_.Array renaming getElem?_eq_some_iff → zL
open _root_.Int renaming natCast_nonneg → zR
open _root_.Go.Proofs.Tryz renaming prog → zV
open _root_.Go.Proofs.YtcliojeoindceaaGreatDoor renaming jG → zX
open _root_.Go.Proofs.Qw renaming jW → qB
theorem zMH (n : Nat) : ∃ (r : Nat) (c : Cmd), n % 17 = r ∧ r < 17 ∧ cmds[r]? = some c ∧ c.name.length ≤ 30 := by
 have h : n % 17 < 17 := Nat.mod_lt _ qW;have hc := List.getElem?_eq_getElem (l := cmds) (i := n % 17) h;exact ⟨n % 17, _, rfl, h, hc, zLD hc⟩
set_option maxRecDepth 100000 in
theorem zHN (v dv : Value) (s : St) (ds : List Int) (txt : ByteArray) (w : World) (S S2 : Nat → Prop) (h : jD w S v s.lines) (sn : Sane s.lines) (hdo : jJ false w S2 dv ds) (ho : -9223372036854775808 ≤ s.on ∧ s.on ≤ 9223372036854775807) (hof : -9223372036854775808 ≤ s.off ∧ s.off ≤ 9223372036854775807) (he : EnvT w) :
  Calls zV 8 #[stV v s, dv, .string txt] w fun e w' => e = .returned (.bool true) ∧ Below w.heap.size w w' := by
 obtain ⟨W1, hW1, hB, hz, k0⟩ := vJ w v s;have HB : Hid (∀ W, Below W1.heap.size W1 W → W.heap[w.heap.size]? = some (.cells #[v, .int .i64 s.anc.line, .int .i64 s.anc.col, .int .i64 s.foc.line, .int .i64 s.foc.col, .int .i64 s.on, .int .i64 s.off] 26)) := zA fun W hW => jI hW k0;have hs1 := hB.size;have H1 := zA hB;have hw0 : Below W1.heap.size W1 W1 := zE _ _;have HV : Hid (∀ W, Below W1.heap.size W1 W → jD W S v s.lines) := zA fun W hW => h.below (qB _) (hB.trans (hW.mono hs1));have HEw : Hid (∀ W, Below w.heap.size w W → EnvT W) := zA fun W hW => he.below hW;have HA : Hid (∀ W, Below w.heap.size w W → Calls zV 11 #[] W fun e w' => e = .returned (.bool true) ∧ Below W.heap.size W w') := zA fun W hW => zJL W (he.below hW)
 have HLo : Hid (∀ W B, Below W1.heap.size W1 W → W.heap[B]? = some (.cells #[.string txt] 9) → Calls zV 10 #[stV v s, .slice (some ⟨B, 0, none⟩) 1 1] W (zGd s.lines [txt] W)) := zA fun W B hW hc => zKn v s (some ⟨B, 0, none⟩) [txt] W S (HV.out W hW) sn qF (fun i t hi => ⟨B, 0, rfl, (zL.1 hc).1, by
  rw [jT hc]
  match i, hi with
  | 0, hi => cases hi; rfl⟩)
 have HM : Hid (Small s.lines → ∀ W, Below W1.heap.size W1 W → Calls zV 23 #[stV v s] W fun e w' => e = .returned (.bool (mayS s)) ∧ Below W.heap.size W w') := zA fun hs W hW => vV v s W S (HV.out W hW) (HEw.out W (hB.trans (hW.mono hs1))) hs;have HRG : Hid (mayS s = true → RngS s) := zA fun hm => zMW hm ho hof;have HDo : Hid (∀ W, Below w.heap.size w W → jJ false W S2 dv ds) := zA fun W hW => SliceR.below (jZ _) hdo hW;obtain ⟨p0, f0⟩ := blk k0;obtain ⟨va, vc, hve⟩ := h.slice;subst hve;obtain ⟨da, dc, hde, hdc, hdm, hdx⟩ := zAH hdo;subst hde;have HDX := zA hdx;unfold maxLen at hdm;clear h sn he k0 hB ho hof hdo hdx;go_enter Tryz.func8, Tryz.ntmps8;go_wp2_with fail;refine (HLo.out _ _ (yP hw0 _) (jF _ _ rfl)).mono ?_;rintro e w1 ⟨r, rfl, hr1, hst1⟩;have hb1 : Below W1.heap.size W1 w1 := (yP hw0 _).trans (hst1.mono qF);have HRS := zA hr1;have hB1 : Below w.heap.size w w1 := H1.out.trans (hb1.mono hs1);clear hr1 hst1 HLo p0 f0;cases r;rotate_left 1
 ·go_wp2_with fail
  refine (HA.out _ hB1).mono ?_;rintro e wz ⟨rfl, hstz⟩;go_wp2_with fail;go_ret;exact ⟨rfl, zX hB1 hstz⟩
 have HSF : Hid (Small s.lines ∧ Fits s.lines) := zA ⟨(HRS.out rfl).1.small, (HRS.out rfl).1.fits⟩;have HTX : Hid (txt.size ≤ 1000000) := zA (by have := (HRS.out rfl).2 txt qF; omega)
 by_cases hlen : 30 < ds.length
 ·have hl1 : (30 : Int) < (ds.length : Int) := by omega
  clear hlen;go_wp2_with fail;refine (HA.out _ hB1).mono ?_;rintro e wz ⟨rfl, hstz⟩;go_wp2_with fail;go_ret;exact ⟨rfl, zX hB1 hstz⟩
 have hl1 : ¬ (30 : Int) < (ds.length : Int) := by omega
 have hl1N : Hid (¬ 30 < ds.length) := zA hlen;clear hlen;obtain ⟨p0, f0⟩ := blk (HB.out _ hb1);go_wp2_with fail;refine (HM.out HSF.out.1 _ hb1).mono ?_;rintro e w2 ⟨rfl, hst2⟩;have hb2 := zX hb1 hst2;have hB2 : Below w.heap.size w w2 := H1.out.trans (hb2.mono hs1);cases hm : mayS s
 ·go_wp2_with fail
  refine (HA.out _ hB2).mono ?_;rintro e wz ⟨rfl, hstz⟩;go_wp2_with fail;go_ret;exact ⟨rfl, zX hB2 hstz⟩
 have HMy := zA hm;have HRn := zA (HRG.out hm);clear hm p0 f0 hst2 HRG;go_upto_region 6 with (go_at_call 24; refine (zKe _).mono ?_; rintro e wq ⟨vq, rfl, hvq, hstq⟩; have hbq := zX hb2 hstq; obtain ⟨la, cp, rfl, hcp, hcl⟩ := zLE hvq; have hl17 : cmds.length = 17 := rfl; rw [hl17] at hcp ⊢; have HCL := zA hcl; clear hvq hl17 hcl)
 have HOw := zA (zDP (.slice va s.lines.length vc) s wq S (HV.out _ hbq) HSF.out.2);obtain ⟨p0, f0⟩ := blk (HB.out _ hbq);go_upto_region 7 with ((go_at_call 31; (with_reducible refine HOw.out.mono ?_); rintro e w3 ⟨v3, rfl, hv3, hst3⟩; obtain ⟨x3, y3, hve3⟩ := hv3.slice; subst hve3; have hb3 := zX hbq hst3; have HD3 := zA hv3; clear hv3))
 obtain ⟨m3, hm3⟩ : ∃ m3, w3.alloc (.cells #[.slice x3 s.lines.length y3, .int .i64 s.anc.line, .int .i64 s.anc.col, .int .i64 s.foc.line, .int .i64 s.foc.col, .int .i64 s.on, .int .i64 s.off] 26) = m3 := ⟨_, rfl⟩;rw [hm3];have hbm3 : Below w3.heap.size w3 m3 := hm3 ▸ yP (zE _ _) _;have HN3 : Hid (m3.heap[w3.heap.size]? = some (.cells #[.slice x3 s.lines.length y3, .int .i64 s.anc.line, .int .i64 s.anc.col, .int .i64 s.foc.line, .int .i64 s.foc.col, .int .i64 s.on, .int .i64 s.off] 26)) := zA (hm3 ▸ jF _ _ rfl);have hc3 := zX hb3 hbm3;have hw3 : Below w.heap.size w m3 := H1.out.trans (hc3.mono hs1);have hlt0 : w.heap.size ≤ w3.heap.size := Nat.le_trans hs1 hb3.size;have hq3 : wq.heap.size ≤ w3.heap.size := hst3.size;have HQ3 := zA (zX hst3 hbm3);have HLR3 : Hid (jD m3 (fun b => ¬ b = w3.heap.size) (.slice x3 s.lines.length y3) s.lines) := zA (SliceR.stable (qB false) (DocR.read ((SliceR.bounded (qB true) HD3.out).below (qB _) hbm3)) (Keeps.refl _ _) (fun b hb _ => by have := hb.2; omega));have HW3 := zA hw3;clear hm3 hbm3 HD3 p0 f0 hst3 HOw HSF HM HB HV hc3 hb3 hb2 hb1 HRS hstq hbq;go_wp2_with fail;go_loopw [9] (fun z wr => ∃ (k : Nat) (X : St) (x : Option Addr) (y : Nat), z = .int .i64 k ∧ k ≤ ds.length ∧ Hid (wr.heap[w3.heap.size]? = some (.cells #[.slice x X.lines.length y, .int .i64 X.anc.line, .int .i64 X.anc.col, .int .i64 X.foc.line, .int .i64 X.foc.col, .int .i64 X.on, .int .i64 X.off] 26)) ∧ Hid (mayS X = true ∧ RngS X) ∧ Hid (jD wr (fun b => ¬ b = w3.heap.size) (.slice x X.lines.length y) X.lines) ∧ Hid (Below w3.heap.size m3 wr)) (fun z _ => ds.length - (intOf z).toNat)
 case atStart => exact ⟨0, s, x3, y3, rfl, by omega, HN3, zA ⟨HMy.out, HRn.out⟩, HLR3, zA (zE _ _)⟩
 case round =>
  obtain ⟨k, X, x, y, rfl, hk, HBt, HMX, HLR, HBw⟩ := hrel;have k0 : (0 : Int) ≤ (k : Int) := zR _;have hbw : Below w.heap.size w wr := HW3.out.trans (HBw.out.mono hlt0);have hBz := (zL.1 HBt.out).1;obtain ⟨pt, ft⟩ := blk HBt.out
  by_cases hkN : k < ds.length
  ·have hkN' : (k : Int) < (ds.length : Int) := by omega
   obtain ⟨dk, hdk, _⟩ := jP ds k hkN;obtain ⟨db, dofs, rfl, hdbz, hdcell⟩ := HDX.out k dk hdk;have hdc := (hbw.cell (p := ⟨db, dofs + k, none⟩) hdbz).trans hdcell;obtain ⟨n, hn, hN⟩ := zNj dk;obtain ⟨r, c, hr, hr17, hc, hcl⟩ := zMH n;have hmod : (n : Int) % 17 = (r : Int) := by omega
   have htm : (n : Int).tmod 17 = (r : Int) := by rw [Int.tmod_eq_emod_of_nonneg qD]; exact hmod
   have i1 : (r : Int) < 17 := by omega
   have i0 : (0 : Int) ≤ (r : Int) := zR _;obtain ⟨bb, oo, rfl, hbs, cc0, _, _⟩ := HCL.out r c hc;have HQr : Below wq.heap.size wq wr := HQ3.out.trans (HBw.out.mono hq3);have hcc := (HQr.cell (p := ⟨bb, oo + r * 3, none⟩) hbs).trans cc0;have hsm := uK (yK HMX.out.1).1;have HEn := zA (zHJ (.slice x X.lines.length y) X ⟨c.name.toArray⟩ txt wr _ HLR.out (HEw.out _ hbw) hsm.1 hsm.2 zDa HTX.out);have HDD : Hid (∀ W, Below wr.heap.size wr W → Calls zV 13 #[stV (.slice x X.lines.length y) X, .string ⟨c.name.toArray⟩, .string txt] W (StSaid (runQ X c.name txt.data.toList) W)) := zA fun W hW => zBa (.slice x X.lines.length y) X ⟨c.name.toArray⟩ txt W _ (HLR.out.below (qB _) hW) (HEw.out _ (zX hbw hW)) hsm.1 hsm.2 zDa HTX.out;have HST : Hid (∀ W, Below wr.heap.size wr W → Calls zV 17 #[stV (.slice x X.lines.length y) X, .string ⟨c.name.toArray⟩] W fun e w' => e = .returned (.bool (zAJ X c.name)) ∧ Below W.heap.size W w') := zA fun W hW => zIu (.slice x X.lines.length y) X ⟨c.name.toArray⟩ W _ (HLR.out.below (qB _) hW) (HEw.out _ (zX hbw hW)) hsm.1 hsm.2 zDa;have HIX : Hid (∀ W, Below wr.heap.size wr W → Calls zV 19 #[stV (.slice x X.lines.length y) X, .string ⟨c.name.toArray⟩] W fun e w' => e = .returned (.bool (uF X c.name)) ∧ Below W.heap.size W w') := zA fun W hW => zEY (.slice x X.lines.length y) X ⟨c.name.toArray⟩ W _ (HLR.out.below (qB _) hW) (HEw.out _ (zX hbw hW)) hsm.1 hsm.2 zDa;have hsi := zJc HMX.out.1 c.name;obtain ⟨Y, ey, hY⟩ : ∃ Y ey, runQ X c.name txt.data.toList = (Y, ey) := ⟨_, _, rfl⟩;have hok := zNs HMX.out.1 HMX.out.2 hc txt.data.toList;have e9 : (⟨c.name.toArray⟩ : ByteArray).data.toList = c.name := rfl;rw [e9, hY] at HEn;rw [hY] at HDD hok;have HOK := zA hok;obtain ⟨st, hst⟩ : ∃ st, zAJ X c.name = st := ⟨_, rfl⟩;obtain ⟨im, him⟩ : ∃ im, uF X c.name = im := ⟨_, rfl⟩;rw [hst] at HST hsi;rw [him] at HIX hsi;have HSI : Hid (st = false ∨ (st = true ∧ im = false)) := zA (by cases st <;> cases im <;> simp_all);clear hok hY hsm hdk hst him hsi hr hc hcl hn hmod e9 cc0 hbs hdcell hr17;have HBB : Hid (∀ W, Below wr.heap.size wr W → W.heap[w3.heap.size]? = some (.cells #[.slice x X.lines.length y, .int .i64 X.anc.line, .int .i64 X.anc.col, .int .i64 X.foc.line, .int .i64 X.foc.col, .int .i64 X.on, .int .i64 X.off] 26)) := zA fun W hW => jI hW HBt.out;have hwr : Below wr.heap.size wr wr := zE _ _
   go_upto_region 13 with (first
    | (go_at_call 16; (with_reducible refine HEn.out.mono ?_); rintro e w4 ⟨rfl, hst4⟩; obtain ⟨q1, g1⟩ := blk (HBB.out _ hst4))
    | (go_at_call 13; (with_reducible refine (HDD.out _ hst4).mono ?_); intro e w5 hsaid; obtain ⟨v5, rfl, hv5, hst5⟩ := hsaid; obtain ⟨x5, y5, hve5⟩ := hv5.slice; subst hve5; have hr5 := zX hst4 hst5; have HV5 := zA hv5; clear hv5))
   obtain ⟨m5, hm5⟩ : ∃ m5, w5.alloc (.cells #[.slice x5 Y.lines.length y5, .int .i64 Y.anc.line, .int .i64 Y.anc.col, .int .i64 Y.foc.line, .int .i64 Y.foc.col, .int .i64 Y.on, .int .i64 Y.off] 26) = m5 := ⟨_, rfl⟩;rw [hm5];have hbm5 : Below w5.heap.size w5 m5 := hm5 ▸ yP (zE _ _) _;have n5 : m5.heap[w5.heap.size]? = some (.cells #[.slice x5 Y.lines.length y5, .int .i64 Y.anc.line, .int .i64 Y.anc.col, .int .i64 Y.foc.line, .int .i64 Y.foc.col, .int .i64 Y.on, .int .i64 Y.off] 26) := hm5 ▸ jF _ _ rfl;have hrm5 := zX hr5 hbm5;have HL5 := zA ((zMr HV5.out (B := w3.heap.size) (Nat.lt_of_lt_of_le hBz hst4.size)).below (qB _) hbm5);have HU : Hid (∀ W, Below m5.heap.size m5 W → W.heap[w5.heap.size]? = some (.cells #[.slice x5 Y.lines.length y5, .int .i64 Y.anc.line, .int .i64 Y.anc.col, .int .i64 Y.foc.line, .int .i64 Y.foc.col, .int .i64 Y.on, .int .i64 Y.off] 26)) := zA fun W hW => jI hW n5;have hz5 : w3.heap.size < w5.heap.size := Nat.lt_of_lt_of_le hBz hr5.size;have v1 : ¬ w5.heap.size = w3.heap.size := by omega
   have v2 : ¬ w3.heap.size = w5.heap.size := by omega
   have i5 : ((ey == 0) != (ey == 0)) = false := by simp
   clear hm5 pt ft q1 g1 hdc hcc HV5 HEn HDD n5 htm hN HQr hst5;obtain ⟨pt, ft⟩ := blk (HBB.out _ hrm5);have hB5 := HBB.out _ hrm5;rcases HOK.out with ⟨h0, hYm, hYr⟩ | ⟨hYn, he7⟩
   ·replace h0 : ey = 0 := h0
    subst h0
    replace hYm : mayS Y = true := hYm
    replace hYr : RngS Y := hYr
    have HYM := zA (zB hYm hYr)
    have HMY : Hid (∀ W, Below m5.heap.size m5 W → Calls zV 23 #[stV (.slice x5 Y.lines.length y5) Y] W fun e w' => e = .returned (.bool true) ∧ Below W.heap.size W w') := zA fun W hW => by
     have := vV (.slice x5 Y.lines.length y5) Y W _ (HL5.out.below (qB _) hW) (HEw.out _ (zX hbw (zX hrm5 hW))) (uK (yK HYM.out.1).1).1;rw [HYM.out.1] at this;exact this
    clear hYm hYr;rcases HSI.out with rfl | ⟨rfl, rfl⟩
    ·go_upto_region 20 with (first
     | (go_at_call 17; (with_reducible refine (HST.out _ hrm5).mono ?_); rintro e w6 ⟨rfl, hst6⟩; have hr6 := zX hrm5 hst6; obtain ⟨q1, g1⟩ := blk (HBB.out _ hr6); obtain ⟨q5, g5⟩ := blk (HU.out _ hst6))
     | (go_at_call 19; (with_reducible refine (HIX.out _ hr6).mono ?_); rintro e w7 ⟨rfl, hst7⟩; have h57 := zX hst6 hst7; clear q5 g5; obtain ⟨q5, g5⟩ := blk (HU.out _ h57))
     | (go_at_call 23; (with_reducible refine (HMY.out _ hst6).mono ?_); rintro e w8 ⟨rfl, hst8⟩; have h58 := zX hst6 hst8; clear q1 g1 q5 g5; obtain ⟨pu, fu⟩ := blk (HU.out _ h58)))
     have h8 := zX hrm5 h58;have t8 := HBB.out _ h8;obtain ⟨pt, ft⟩ := blk t8;go_wp2_with fail;obtain ⟨W, hW, nW, cW, kW, zW⟩ := zEm w8 w3.heap.size t8 (.slice x5 Y.lines.length y5) (.int .i64 Y.anc.line) (.int .i64 Y.anc.col) (.int .i64 Y.foc.line) (.int .i64 Y.foc.col) (.int .i64 Y.on) (.int .i64 Y.off);rw [hW];have HR := zA (zB nW (zB (zGI (HL5.out.below (qB _) h58) kW zW) ((HBw.out.trans (h8.mono (Nat.le_of_lt hBz))).trans (cW _ (Nat.le_refl _)))));clear nW cW kW zW hW t8 pt ft pu fu;go_roundw
     case rel => exact ⟨k + 1, Y, x5, y5, by go_num, by omega, zA HR.out.1, HYM, zA HR.out.2.1, zA HR.out.2.2⟩
     case measure => simp [intOf]; omega
    ·go_upto_region 20 with (first
     | (go_at_call 17; (with_reducible refine (HST.out _ hrm5).mono ?_); rintro e w6 ⟨rfl, hst6⟩; have hr6 := zX hrm5 hst6; obtain ⟨q1, g1⟩ := blk (HBB.out _ hr6); obtain ⟨q5, g5⟩ := blk (HU.out _ hst6))
     | (go_at_call 19; (with_reducible refine (HIX.out _ hr6).mono ?_); rintro e w7 ⟨rfl, hst7⟩; have h57 := zX hst6 hst7; clear q5 g5; obtain ⟨q5, g5⟩ := blk (HU.out _ h57))
     | (go_at_call 23; (with_reducible refine (HMY.out _ h57).mono ?_); rintro e w8 ⟨rfl, hst8⟩; have h58 := zX h57 hst8; clear q1 g1 q5 g5; obtain ⟨pu, fu⟩ := blk (HU.out _ h58)))
     have h8 := zX hrm5 h58;have t8 := HBB.out _ h8;obtain ⟨pt, ft⟩ := blk t8;go_wp2_with fail;obtain ⟨W, hW, nW, cW, kW, zW⟩ := zEm w8 w3.heap.size t8 (.slice x5 Y.lines.length y5) (.int .i64 Y.anc.line) (.int .i64 Y.anc.col) (.int .i64 Y.foc.line) (.int .i64 Y.foc.col) (.int .i64 Y.on) (.int .i64 Y.off);rw [hW];have HR := zA (zB nW (zB (zGI (HL5.out.below (qB _) h58) kW zW) ((HBw.out.trans (h8.mono (Nat.le_of_lt hBz))).trans (cW _ (Nat.le_refl _)))));clear nW cW kW zW hW t8 pt ft pu fu;go_roundw
     case rel => exact ⟨k + 1, Y, x5, y5, by go_num, by omega, zA HR.out.1, HYM, zA HR.out.2.1, zA HR.out.2.2⟩
     case measure => simp [intOf]; omega
   ·replace hYn : Y = noS := hYn
    have hln : ¬ (0 : Int) < (Y.lines.length : Int) := by rw [hYn]; simp [noS]
    have hln2 : ¬ 0 < Y.lines.length := by rw [hYn]; simp [noS]
    obtain ⟨L, hL⟩ : ∃ L, Y.lines.length = L := ⟨_, rfl⟩;rw [hL] at HU hln hln2;clear hYn hL
    replace he7 : ey = 1 ∨ ey = 7 ∨ ey = 10 := he7
    rcases HSI.out with rfl | ⟨rfl, rfl⟩
    ·rcases he7 with rfl | rfl | rfl
     all_goals
      go_wp2_with (first
      | (go_at_call 17; (with_reducible refine (HST.out _ hrm5).mono ?_); rintro e w6 ⟨rfl, hst6⟩; have hr6 := zX hrm5 hst6; obtain ⟨q1, g1⟩ := blk (HBB.out _ hr6); obtain ⟨q5, g5⟩ := blk (HU.out _ hst6))
      | (go_at_call 19; (with_reducible refine (HIX.out _ hr6).mono ?_); rintro e w7 ⟨rfl, hst7⟩; have h57 := zX hst6 hst7; clear q5 g5; obtain ⟨q5, g5⟩ := blk (HU.out _ h57)))
      have hrl : Below wr.heap.size wr w6 := hr6;have HRL := zA (zB (HBB.out _ hrl) (zB (HLR.out.below (qB _) hrl) (HBw.out.trans (hrl.mono (Nat.le_of_lt hBz)))));go_roundw
      case rel => exact ⟨k + 1, X, x, y, by go_num, by omega, zA HRL.out.1, HMX, zA HRL.out.2.1, zA HRL.out.2.2⟩
      case measure => simp [intOf]; omega
    ·rcases he7 with rfl | rfl | rfl
     all_goals
      go_wp2_with (first
      | (go_at_call 17; (with_reducible refine (HST.out _ hrm5).mono ?_); rintro e w6 ⟨rfl, hst6⟩; have hr6 := zX hrm5 hst6; obtain ⟨q1, g1⟩ := blk (HBB.out _ hr6); obtain ⟨q5, g5⟩ := blk (HU.out _ hst6))
      | (go_at_call 19; (with_reducible refine (HIX.out _ hr6).mono ?_); rintro e w7 ⟨rfl, hst7⟩; have h57 := zX hst6 hst7; clear q5 g5; obtain ⟨q5, g5⟩ := blk (HU.out _ h57)))
      have hrl : Below wr.heap.size wr w7 := zX hr6 hst7;have HRL := zA (zB (HBB.out _ hrl) (zB (HLR.out.below (qB _) hrl) (HBw.out.trans (hrl.mono (Nat.le_of_lt hBz)))));go_roundw
      case rel => exact ⟨k + 1, X, x, y, by go_num, by omega, zA HRL.out.1, HMX, zA HRL.out.2.1, zA HRL.out.2.2⟩
      case measure => simp [intOf]; omega
  ·have hkN' : ¬ (k : Int) < (ds.length : Int) := by omega
   go_wp2_with fail;refine (HA.out _ hbw).mono ?_;rintro e wz ⟨rfl, hstz⟩;go_wp2_with fail;go_ret;exact ⟨rfl, zX hbw hstz⟩
end Go.Proofs.YtcliojeoindceaaGreatDoor
