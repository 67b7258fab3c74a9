/- Parts of the proof. -/
import Derived.Test.YtjgeadoncanheaaGreatDoorPartBaseN
import Derived.Test.YtjgeadoncanheaaGreatDoorBlkLinesN
import Derived.Test.YtjgeadoncanheaaGreatDoorRefQry3N
import Derived.Test.YtjgeadoncanheaaGreatDoorQryDataN
set_option linter.unusedVariables false
set_option linter.unusedSimpArgs false
set_option maxHeartbeats 8000000
namespace Go.Proofs.YtjgeadoncanheaaGreatDoor
open Go.RowKit
open Go.Proofs.Qw
attribute [local go_sem] Oper.semAt_some
open _root_.Go.Lib renaming hid → zA
open _root_.Go.Act renaming put → zU
open _root_.Go.Proofs.Tryz renaming prog → zV
open _root_.Go.Proofs.YtjgeadoncanheaaGreatDoor renaming jF → zW
open _root_.Go.Proofs.Qw renaming kR → qK
set_option maxRecDepth 100000 in
theorem zGp (a b : ByteArray) (w : World) (he : EnvT w) :
  Calls zV 4 #[.string a, .string b] w fun e w' => e = .returned (.bool true) ∧ Below w.heap.size w w' := by
 have hw0 : Below w.heap.size w w := Below.refl _ _;have HE : Hid (∀ W, Below w.heap.size w W → EnvT W) := zA fun W hW => he.below hW;have HA : Hid (∀ W, Below w.heap.size w W → Calls zV 6 #[] W fun e w' => e = .returned (.bool true) ∧ Below W.heap.size W w') := zA fun W hW => zId W (HE.out W hW)
 have HLo : Hid (∀ W B, Below w.heap.size w W → W.heap[B]? = some (.cells #[.string a, .string b] 9) → Calls zV 5 #[stV (.slice none 0 0) noS, .slice (some ⟨B, 0, none⟩) 2 2] W (zER noS.lines [a, b] W)) := zA fun W B hW hc => zIB (.slice none 0 0) noS (some ⟨B, 0, none⟩) [a, b] W (fun _ => True) (SliceR.nil _ _ _ _ _ _) (fun l hl => absurd hl (by simp [noS])) qE (fun i t hi => ⟨B, 0, rfl, (Array.getElem?_eq_some_iff.1 hc).1, by
  rw [jR hc]
  match i, hi with
  | 0, hi => cases hi; rfl
  | 1, hi => cases hi; rfl⟩)
 clear he;go_enter Tryz.func4, Tryz.ntmps4;go_wp2_with fail;refine (HLo.out _ _ (yG hw0 _) (jD _ _ rfl)).mono ?_;rintro e w1 ⟨r, rfl, hr1, hst1⟩;have hb1 : Below w.heap.size w w1 := (yG hw0 _).trans (hst1.mono qE);have HRS := zA hr1;clear hr1 hst1 HLo;cases r;rotate_left 1
 ·go_wp2_with fail
  refine (HA.out _ hb1).mono ?_;rintro e w2 ⟨rfl, hst2⟩;go_wp2_with fail;go_ret;exact ⟨rfl, hb1.trans (hst2.mono hb1.size)⟩
 have HSz : Hid (a.size ≤ 1000000 ∧ b.size ≤ 1000000) := zA ⟨by have := (HRS.out rfl).2 a qE; omega, by have := (HRS.out rfl).2 b qE; omega⟩;have HFP : Hid (∀ W, Below w.heap.size w W → Calls zV 15 #[.string a] W fun e w' => e = .returned (.tuple #[.int .i64 (kH a.data.toList), .bool (jT a.data.toList).isSome]) ∧ Below W.heap.size W w') := zA fun W hW => uQ a W (HE.out W hW) HSz.out.1;have HFR : Hid (∀ W, Below w.heap.size w W → Calls zV 16 #[.string a] W fun e w' => e = .returned (.tuple #[.int .i64 (kH a.data.toList), .bool (jT a.data.toList).isSome]) ∧ Below W.heap.size W w') := zA fun W hW => zDK a W (by have := HSz.out.1; omega);have HDP : Hid (∀ W, Below w.heap.size w W → Calls zV 17 #[.string a, .string b] W fun e w' => e = .returned (.tuple #[.string ⟨(kW a.data.toList b.data.toList).1.toArray⟩, .bool (kW a.data.toList b.data.toList).2]) ∧ Below W.heap.size W w') := zA fun W hW => zEf a b W (HE.out W hW) HSz.out.1;have HDR : Hid (∀ W, Below w.heap.size w W → Calls zV 18 #[.string a, .string b] W fun e w' => e = .returned (.tuple #[.string ⟨(kW a.data.toList b.data.toList).1.toArray⟩, .bool (kW a.data.toList b.data.toList).2]) ∧ Below W.heap.size W w') := zA fun W hW => zGx a b W HSz.out.1;obtain ⟨fn, hfn⟩ : ∃ x, kH a.data.toList = x := ⟨_, rfl⟩;obtain ⟨fb, hfb⟩ : ∃ x, (jT a.data.toList).isSome = x := ⟨_, rfl⟩;obtain ⟨ds, hds⟩ : ∃ x, (⟨(kW a.data.toList b.data.toList).1.toArray⟩ : ByteArray) = x := ⟨_, rfl⟩;obtain ⟨db, hdb⟩ : ∃ x, (kW a.data.toList b.data.toList).2 = x := ⟨_, rfl⟩;rw [hfn, hfb] at HFP HFR;rw [hds, hdb] at HDP HDR;clear hfn hfb hds hdb HRS HSz;have i0 : (fn == fn) = true := by simp
 have i1 : (fb == fb) = true := by simp
 have i2 : (ds == ds) = true := (MapKept.bytes_beq _ _).2 rfl;have i3 : (db == db) = true := by simp
 go_wp2_with (first
  | (go_at_call 13; refine (zIr _).mono ?_; rintro e w2 ⟨v, rfl, hv, hst2⟩; have HB2 := zA (zW hb1 hst2); have HV2 := zA hv; obtain ⟨la, cp, rfl, hcp, hcl⟩ := zBi hv; have hl17 : cmds.length = 17 := rfl; rw [hl17] at hcp ⊢; obtain ⟨bb, oo, rfl, _, _, _, _⟩ := hcl 0 _ rfl; clear hv hl17 hcl hst2)
  | (go_at_call 14; refine (zDT _).mono ?_; rintro e w3 ⟨v, rfl, hv, hst3⟩; have HB3 := zA (zW HB2.out hst3); have HK3 := zA hst3; have HV3 := zA hv; obtain ⟨la, cp3, rfl, hcp3, hcl⟩ := zBi hv; have hl17 : cmds.length = 17 := rfl; rw [hl17] at hcp3 ⊢; obtain ⟨bb3, oo3, rfl, _, _, _, _⟩ := hcl 0 _ rfl; clear hv hl17 hcl hst3))
 go_loopw [7] (fun i wr => ∃ j : Nat, j ≤ 17 ∧ i = .int .i64 j ∧ Hid (Below w3.heap.size w3 wr)) (fun i _ => 17 - (intOf i).toNat)
 case atStart => exact ⟨0, by omega, rfl, zA (Below.refl _ _)⟩
 case round =>
  obtain ⟨j, hj, rfl, HBR⟩ := hrel
  by_cases hlt : j < 17
  ·obtain ⟨d, hd⟩ : ∃ d, cmds[j]? = some d := ⟨_, List.getElem?_eq_getElem (by exact hlt)⟩
   have HCE : Hid (∀ W, Below wr.heap.size wr W → (W.cell? ⟨bb, oo + j * 3, none⟩ = some (.string ⟨d.name.toArray⟩) ∧ W.cell? ⟨bb, oo + j * 3 + 1, none⟩ = some (.string ⟨d.input.toArray⟩) ∧ W.cell? ⟨bb, oo + j * 3 + 2, none⟩ = some (.int .i64 d.data)) ∧ (W.cell? ⟨bb3, oo3 + j * 3, none⟩ = some (.string ⟨d.name.toArray⟩) ∧ W.cell? ⟨bb3, oo3 + j * 3 + 1, none⟩ = some (.string ⟨d.input.toArray⟩) ∧ W.cell? ⟨bb3, oo3 + j * 3 + 2, none⟩ = some (.int .i64 d.data))) := zA fun W hW => by
    have hWr := HBR.out.trans (hW.mono HBR.out.size);have HVa : zAt true W (fun b => w1.heap.size ≤ b) (.slice (some ⟨bb, oo, none⟩) cmds.length cp) cmds := SliceR.below (jV _) HV2.out (HK3.out.trans (hWr.mono HK3.out.size));have HVb : zAt true W (fun b => w2.heap.size ≤ b) (.slice (some ⟨bb3, oo3, none⟩) cmds.length cp3) cmds := SliceR.below (jV _) HV3.out hWr;obtain ⟨_, _, e, _, hca⟩ := zBi HVa;obtain ⟨_, _, f, _, hcb⟩ := zBi HVb;obtain ⟨_, _, e1, _, k0, k1, k2⟩ := hca j d hd;obtain ⟨_, _, e2, _, j0, j1, j2⟩ := hcb j d hd;cases e;cases e1;cases f;cases e2;exact ⟨⟨k0, k1, k2⟩, j0, j1, j2⟩
   have i4 : (j : Int) < 17 := by omega
   have n0 : ((⟨d.name.toArray⟩ : ByteArray) == ⟨d.name.toArray⟩) = true := (MapKept.bytes_beq _ _).2 rfl;have n1 : ((⟨d.input.toArray⟩ : ByteArray) == ⟨d.input.toArray⟩) = true := (MapKept.bytes_beq _ _).2 rfl;have n2 : (d.data == d.data) = true := by simp
   have HLT := zA hlt;clear hd;go_wp2_with fail;refine kX wr.heap.size zT zT (QWk.out ?_);refine QWk.want zT (fun K hK => ?_); refine qK ?_ (fun W hW => ?_) (hK _ ?_); rotate_left 1; (focus (skip; go_simp; try rfl)); clear hK K; (try simp only [zU, qI, qX, qY]);refine QWk.want zT (fun K hK => ?_); refine qK ?_ (fun W hW => ?_) (hK _ ?_); rotate_left 1; (focus (skip; go_simp; try rfl)); clear hK K; (try simp only [zU, qI, qX, qY]);refine QWk.want zT (fun K hK => ?_); refine qK ?_ (fun W hW => ?_) (hK _ ?_); rotate_left 1; (focus (skip; go_simp; try rfl)); clear hK K; (try simp only [zU, qI, qX, qY]);refine QWk.want zT (fun K hK => ?_); refine qK ?_ (fun W hW => ?_) (hK _ ?_); rotate_left 1; (focus (obtain ⟨⟨k0, k1, k2⟩, j0, j1, j2⟩ := HCE.out _ hW; go_simp; try rfl)); clear hK K; (try simp only [zU, qI, qX, qY]);refine QWk.want zT (fun K hK => ?_); refine qK ?_ (fun W hW => ?_) (hK _ ?_); rotate_left 1; (focus (skip; go_simp; try rfl)); clear hK K; (try simp only [zU, qI, qX, qY]);refine QWk.want zT (fun K hK => ?_); refine qK ?_ (fun W hW => ?_) (hK _ ?_); rotate_left 1; (focus (skip; go_simp; try rfl)); clear hK K; (try simp only [zU, qI, qX, qY]);refine QWk.want zT (fun K hK => ?_); refine qK ?_ (fun W hW => ?_) (hK _ ?_); rotate_left 1; (focus (skip; go_simp; try rfl)); clear hK K; (try simp only [zU, qI, qX, qY]);refine QWk.want zT (fun K hK => ?_); refine qK ?_ (fun W hW => ?_) (hK _ ?_); rotate_left 1; (focus (obtain ⟨⟨k0, k1, k2⟩, j0, j1, j2⟩ := HCE.out _ hW; go_simp; try rfl)); clear hK K; (try simp only [zU, qI, qX, qY]);refine QWk.want zT (fun K hK => ?_); refine qK ?_ (fun W hW => ?_) (hK _ ?_); rotate_left 1; (focus (skip; go_simp; try rfl)); clear hK K; (try simp only [zU, qI, qX, qY]);refine QWk.mk (wpQuiet_nil (fun X6 hstX6 => ?_));go_wp2_with fail;go_roundw
   case rel => exact ⟨j + 1, HLT.out, by go_num, zA (HBR.out.trans (hstX6.mono HBR.out.size))⟩
   case measure => have := HLT.out; simp [intOf]; omega
  ·have hj2 : j = 17 := by omega
   subst hj2;have HB4 := zA (zW HB3.out HBR.out)
   go_wp2_with (first
    | (go_at_call 15; refine (HFP.out _ HB4.out).mono ?_; rintro e w5 ⟨rfl, hst5⟩; have HB5 := zA (zW HB4.out hst5); clear hst5)
    | (go_at_call 16; refine (HFR.out _ HB5.out).mono ?_; rintro e w6 ⟨rfl, hst6⟩; have HB6 := zA (zW HB5.out hst6); clear hst6)
    | (go_at_call 17; refine (HDP.out _ HB6.out).mono ?_; rintro e w7 ⟨rfl, hst7⟩; have HB7 := zA (zW HB6.out hst7); clear hst7)
    | (go_at_call 18; refine (HDR.out _ HB7.out).mono ?_; rintro e w8 ⟨rfl, hst8⟩; have HB8 := zA (zW HB7.out hst8); clear hst8)
    | (go_at_call 6; refine (HA.out _ HB8.out).mono ?_; rintro e w9 ⟨rfl, hst9⟩; have HB9 := zA (zW HB8.out hst9); clear hst9))
   go_ret;exact ⟨by first | rfl | simp, HB9.out⟩
end Go.Proofs.YtjgeadoncanheaaGreatDoor
