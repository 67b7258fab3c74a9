/- The walk of the law QueryArgs. -/
import Derived.Test.YtcliojeoindceaaGreatDoorQuietWalkS
import Derived.Test.YtcliojeoindceaaGreatDoorQryPickS
import Derived.Test.YtcliojeoindceaaGreatDoorLawQryAwakeS
import Derived.Test.YtcliojeoindceaaGreatDoorQryAllS
import Derived.Test.YtcliojeoindceaaGreatDoorStSameS
set_option linter.unusedVariables false
set_option linter.unusedSimpArgs false
set_option maxHeartbeats 8000000
namespace Go.Proofs.YtcliojeoindceaaGreatDoor
open Go.RowKit
open Go.Proofs.Qw
attribute [local go_sem] Oper.semAt_some
open _root_.Go.Lib renaming hid → zA
open _root_.Go.RowKit.Below renaming refl → zE
open _root_.Array renaming getElem?_eq_some_iff → zL
open _root_.Go.Act renaming put → zU
open _root_.Go.Proofs.Tryz renaming prog → zV
open _root_.Go.Proofs.YtcliojeoindceaaGreatDoor renaming below_from → zX
open _root_.Go.Proofs.Qw renaming quiet_val → qL
set_option maxRecDepth 100000 in
theorem lawQyArgs_any (v : Value) (s : St) (x0 : Int) (a b : ByteArray) (w : World) (S : Nat → Prop) (h : LinsR w S v s.lines) (sn : Sane s.lines) (he : EnvT w) :
  Calls zV 9 #[stV v s, .int .i64 x0, .string a, .string b] w fun e w' => e = .returned (.bool true) ∧ Below w.heap.size w w' := by
 obtain ⟨n, hn, hN⟩ := and_nat x0
 have hk0 : n % 17 < 17 := Nat.mod_lt _ (by decide)
 obtain ⟨k, hkn⟩ : ∃ k, n % 17 = k := ⟨_, rfl⟩
 have hmod : (n : Int) % 17 = (k : Int) := by omega
 have htm : (n : Int).tmod 17 = (k : Int) := by rw [Int.tmod_eq_emod_of_nonneg (by omega)]; exact hmod
 rw [hkn] at hk0
 obtain ⟨c, hc⟩ : ∃ c, cmds[k]? = some c := ⟨_, List.getElem?_eq_getElem (by exact hk0)⟩
 have HC := zA hc
 have HSm := zA (cmd_small hc)
 obtain ⟨W1, hW1, hB, hz, k0⟩ := one_st w v s
 have HB : Hid (∀ W, Below W1.heap.size W1 W → W.heap[w.heap.size]? = some (.cells #[v, .int .i64 s.anc.line, .int .i64 s.anc.col, .int .i64 s.foc.line, .int .i64 s.foc.col, .int .i64 s.on, .int .i64 s.off] 26)) := zA fun W hW => heap_below hW k0
 have hs1 := hB.size
 have H1 := zA hB
 have hw0 : Below W1.heap.size W1 W1 := zE _ _
 have HV : Hid (∀ W, Below W1.heap.size W1 W → LinsR W S v s.lines) := zA fun W hW => h.below (rdLin_stable _) (hB.trans (hW.mono hs1))
 have HE : Hid (∀ W, Below W1.heap.size W1 W → EnvT W) := zA fun W hW => (he.below hB).below hW
 have HA : Hid (∀ W, Below W1.heap.size W1 W → Calls zV 11 #[] W fun e w' => e = .returned (.bool true) ∧ Below W.heap.size W w') := zA fun W hW => awake26_any W (HE.out W hW)
 have HLo : Hid (∀ W B, Below W1.heap.size W1 W → W.heap[B]? = some (.cells #[.string a, .string b] 9) → Calls zV 10 #[stV v s, .slice (some ⟨B, 0, none⟩) 2 2] W (Long26Said s.lines [a, b] W)) := zA fun W B hW hc => long26_any v s (some ⟨B, 0, none⟩) [a, b] W S (HV.out W hW) sn (by simp) (fun i t hi => ⟨B, 0, rfl, (zL.1 hc).1, by
  rw [cell_of_heap hc]
  match i, hi with
  | 0, hi => cases hi; rfl
  | 1, hi => cases hi; rfl⟩)
 obtain ⟨p0, f0⟩ := blk k0
 obtain ⟨va, vc, rfl⟩ := h.slice
 clear h sn he k0 hB hkn hc hn
 go_enter Tryz.func9, Tryz.ntmps9
 go_wp2_with fail
 refine (HLo.out _ _ (below1 hw0 _) (heap_new _ _ rfl)).mono ?_
 rintro e w1 ⟨r, rfl, hr1, hst1⟩
 have hb1 : Below W1.heap.size W1 w1 := (below1 hw0 _).trans (hst1.mono (by simp))
 have HRS := zA hr1
 clear hr1 hst1 HLo p0 f0
 cases r
 rotate_left 1
 ·go_wp2_with fail
  refine (HA.out _ hb1).mono ?_
  rintro e w2 ⟨rfl, hst2⟩
  go_wp2_with fail
  go_ret
  exact ⟨rfl, H1.out.trans ((zX hb1 hst2).mono hs1)⟩
 have HSz : Hid (Small s.lines ∧ Fits s.lines ∧ a.size ≤ 1000000 ∧ b.size ≤ 1000000) := zA ⟨(HRS.out rfl).1.small, (HRS.out rfl).1.fits, by have := (HRS.out rfl).2 a (by simp); omega, by have := (HRS.out rfl).2 b (by simp); omega⟩
 have HDa : Hid (∀ W, Below W1.heap.size W1 W → Calls zV 13 #[stV (.slice va s.lines.length vc) s, .string ⟨c.name.toArray⟩, .string a] W (StSaid (runQ s c.name a.data.toList) W)) := zA fun W hW => qryDo_any _ s ⟨c.name.toArray⟩ a W S (HV.out W hW) (HE.out W hW) HSz.out.1 HSz.out.2.1 (by have := HSm.out; simp [ByteArray.size]; omega) HSz.out.2.2.1
 have HDb : Hid (∀ W, Below W1.heap.size W1 W → Calls zV 13 #[stV (.slice va s.lines.length vc) s, .string ⟨c.name.toArray⟩, .string b] W (StSaid (runQ s c.name b.data.toList) W)) := zA fun W hW => qryDo_any _ s ⟨c.name.toArray⟩ b W S (HV.out W hW) (HE.out W hW) HSz.out.1 HSz.out.2.1 (by have := HSm.out; simp [ByteArray.size]; omega) HSz.out.2.2.2
 have HEa : Hid (∀ W, Below W1.heap.size W1 W → Calls zV 16 #[stV (.slice va s.lines.length vc) s, .string ⟨c.name.toArray⟩, .string a] W fun e w' => e = .returned (.bool ((runQ s c.name a.data.toList).2 == 0)) ∧ Below W.heap.size W w') := zA fun W hW => qryEnabled_any _ s ⟨c.name.toArray⟩ a W S (HV.out W hW) (HE.out W hW) HSz.out.1 HSz.out.2.1 (by have := HSm.out; simp [ByteArray.size]; omega) HSz.out.2.2.1
 have HEb : Hid (∀ W, Below W1.heap.size W1 W → Calls zV 16 #[stV (.slice va s.lines.length vc) s, .string ⟨c.name.toArray⟩, .string b] W fun e w' => e = .returned (.bool ((runQ s c.name b.data.toList).2 == 0)) ∧ Below W.heap.size W w') := zA fun W hW => qryEnabled_any _ s ⟨c.name.toArray⟩ b W S (HV.out W hW) (HE.out W hW) HSz.out.1 HSz.out.2.1 (by have := HSm.out; simp [ByteArray.size]; omega) HSz.out.2.2.2
 obtain ⟨p0, f0⟩ := blk (HB.out _ hb1)
 by_cases hd1 : c.data = 1
 ·have hd2 : (c.data == 1) = true := by simp [hd1]
  go_wp2_with (first
   | (go_at_call 24; refine (qryAll_any _).mono ?_; rintro e w2 ⟨v, rfl, hv, hst2⟩; have hb2 := zX hb1 hst2; obtain ⟨la, cp, rfl, hcp, hcl⟩ := cmd_cells hv; have hl17 : cmds.length = 17 := rfl; rw [hl17] at hcp ⊢; obtain ⟨bb, oo, rfl, hbs, cc0, cc1, cc2⟩ := hcl k c HC.out; clear hv hl17 hcl)
   | (go_at_call 11; refine (HA.out _ (below1 hb2 _)).mono ?_; rintro e w3 ⟨rfl, hst3⟩; have hb3 := zX (below1 hb2 _) hst3))
  go_ret
  exact ⟨rfl, H1.out.trans (hb3.mono hs1)⟩
 have hd2 : (c.data == 1) = false := by simp [hd1]
 have HRA := zA (run_args s HC.out hd1 a.data.toList b.data.toList)
 clear hd1
 go_upto_region 7 with (go_at_call 24; refine (qryAll_any _).mono ?_; rintro e w2 ⟨v, rfl, hv, hst2⟩; have hb2 := zX hb1 hst2; obtain ⟨la, cp, rfl, hcp, hcl⟩ := cmd_cells hv; have hl17 : cmds.length = 17 := rfl; rw [hl17] at hcp ⊢; obtain ⟨bb, oo, rfl, hbs, cc0, cc1, cc2⟩ := hcl k c HC.out; clear hv hl17 hcl)
 obtain ⟨M, hM⟩ : ∃ M, w2.alloc (.cells #[.string ⟨c.name.toArray⟩, .string ⟨c.input.toArray⟩, .int .i64 c.data] 43) = M := ⟨_, rfl⟩
 rw [hM]
 have hbm : Below W1.heap.size W1 M := hM ▸ below1 hb2 _
 have nM : M.heap[w2.heap.size]? = some (.cells #[.string ⟨c.name.toArray⟩, .string ⟨c.input.toArray⟩, .int .i64 c.data] 43) := hM ▸ heap_new _ _ rfl
 have HK : Hid (∀ W, Below M.heap.size M W → W.heap[w.heap.size]? = some (.cells #[.slice va s.lines.length vc, .int .i64 s.anc.line, .int .i64 s.anc.col, .int .i64 s.foc.line, .int .i64 s.foc.col, .int .i64 s.on, .int .i64 s.off] 26) ∧ W.heap[w2.heap.size]? = some (.cells #[.string ⟨c.name.toArray⟩, .string ⟨c.input.toArray⟩, .int .i64 c.data] 43)) := zA fun W hW => ⟨HB.out W (zX hbm hW), heap_below hW nM⟩
 have HBM : Hid (∀ W, Below M.heap.size M W → Below W1.heap.size W1 W) := zA fun W hW => zX hbm hW
 rw [HRA.out] at HDa HEa
 obtain ⟨X, hX⟩ : ∃ X, runQ s c.name b.data.toList = X := ⟨_, rfl⟩
 rw [hX] at HDa HDb HEa HEb
 have hz2 := hb2.size
 have e0 : ¬ w2.heap.size = w.heap.size := by omega
 have e1 : ¬ w.heap.size = w2.heap.size := by omega
 clear hM hX p0 f0 cc0 cc1 cc2 hbs HRA
 have hm0 : Below M.heap.size M M := zE _ _
 obtain ⟨p0, f0⟩ := blk (HK.out _ hm0).1
 obtain ⟨p1, f1⟩ := blk (HK.out _ hm0).2
 go_upto_region 10 with (go_at_call 13; (with_reducible refine (HDa.out _ (HBM.out _ hm0)).mono ?_); intro e w3 hsaid; obtain ⟨v3, rfl, hv3, hst3⟩ := hsaid; obtain ⟨x3, y3, hve3⟩ := hv3.slice; subst hve3; have hb3 := zX hm0 hst3; have HV3 := zA hv3; clear hv3)
 obtain ⟨m3, hm3⟩ : ∃ m3, w3.alloc (.cells #[.slice x3 X.1.lines.length y3, .int .i64 X.1.anc.line, .int .i64 X.1.anc.col, .int .i64 X.1.foc.line, .int .i64 X.1.foc.col, .int .i64 X.1.on, .int .i64 X.1.off] 26) = m3 := ⟨_, rfl⟩
 rw [hm3]
 have hbm3 : Below w3.heap.size w3 m3 := hm3 ▸ below1 (zE _ _) _
 have n3 : m3.heap[w3.heap.size]? = some (.cells #[.slice x3 X.1.lines.length y3, .int .i64 X.1.anc.line, .int .i64 X.1.anc.col, .int .i64 X.1.foc.line, .int .i64 X.1.foc.col, .int .i64 X.1.on, .int .i64 X.1.off] 26) := hm3 ▸ heap_new _ _ rfl
 have hc3 := zX hb3 hbm3
 have HD3 := zA (HV3.out.below hbm3)
 have hz3 := hst3.size
 have hz3m : w2.heap.size < M.heap.size := (zL.1 nM).1
 have e3 : ¬ w3.heap.size = w.heap.size := by omega
 have e4 : ¬ w3.heap.size = w2.heap.size := by omega
 clear hm3 hbm3 p0 f0 p1 f1
 obtain ⟨p0, f0⟩ := blk (HK.out _ hc3).1
 obtain ⟨p1, f1⟩ := blk (HK.out _ hc3).2
 go_upto_region 11 with (go_at_call 13; (with_reducible refine (HDb.out _ (HBM.out _ hc3)).mono ?_); intro e w4 hsaid; obtain ⟨v4, rfl, hv4, hst4⟩ := hsaid; obtain ⟨x4, y4, hve4⟩ := hv4.slice; subst hve4; have hb4 := zX hc3 hst4; have HV4 := zA hv4; clear hv4)
 obtain ⟨m4, hm4⟩ : ∃ m4, w4.alloc (.cells #[.slice x4 X.1.lines.length y4, .int .i64 X.1.anc.line, .int .i64 X.1.anc.col, .int .i64 X.1.foc.line, .int .i64 X.1.foc.col, .int .i64 X.1.on, .int .i64 X.1.off] 26) = m4 := ⟨_, rfl⟩
 rw [hm4]
 have hbm4 : Below w4.heap.size w4 m4 := hm4 ▸ below1 (zE _ _) _
 have hc4 := zX hb4 hbm4
 have h34 := zX hst4 hbm4
 have n4 : m4.heap[w4.heap.size]? = some (.cells #[.slice x4 X.1.lines.length y4, .int .i64 X.1.anc.line, .int .i64 X.1.anc.col, .int .i64 X.1.foc.line, .int .i64 X.1.foc.col, .int .i64 X.1.on, .int .i64 X.1.off] 26) := hm4 ▸ heap_new _ _ rfl
 have HL : Hid (∀ W, Below m4.heap.size m4 W → W.heap[w3.heap.size]? = some (.cells #[.slice x3 X.1.lines.length y3, .int .i64 X.1.anc.line, .int .i64 X.1.anc.col, .int .i64 X.1.foc.line, .int .i64 X.1.foc.col, .int .i64 X.1.on, .int .i64 X.1.off] 26) ∧ W.heap[w4.heap.size]? = some (.cells #[.slice x4 X.1.lines.length y4, .int .i64 X.1.anc.line, .int .i64 X.1.anc.col, .int .i64 X.1.foc.line, .int .i64 X.1.foc.col, .int .i64 X.1.on, .int .i64 X.1.off] 26)) := zA fun W hW => ⟨heap_below hW (heap_below h34 n3), heap_below hW n4⟩
 have HS : Hid (∀ W, Below m4.heap.size m4 W → Calls zV 32 #[stV (.slice x3 X.1.lines.length y3) X.1, stV (.slice x4 X.1.lines.length y4) X.1] W fun e w' => e = .returned (.bool true) ∧ Below W.heap.size W w') := zA fun W hW => by
  have := stSame_any (.slice x3 X.1.lines.length y3) (.slice x4 X.1.lines.length y4) X.1 X.1 W _ _ ((DocR.read HD3.out).below (rdLin_stable _) (zX h34 hW)) ((DocR.read HV4.out).below (rdLin_stable _) (zX hbm4 hW))
  rw [decide_eq_true rfl] at this
  exact this
 have HEA : Hid (∀ W, Below m4.heap.size m4 W → Calls zV 16 #[stV (.slice va s.lines.length vc) s, .string ⟨c.name.toArray⟩, .string a] W fun e w' => e = .returned (.bool (X.2 == 0)) ∧ Below W.heap.size W w') := zA fun W hW => HEa.out W (HBM.out _ (zX hc4 hW))
 have HEB : Hid (∀ W, Below m4.heap.size m4 W → Calls zV 16 #[stV (.slice va s.lines.length vc) s, .string ⟨c.name.toArray⟩, .string b] W fun e w' => e = .returned (.bool (X.2 == 0)) ∧ Below W.heap.size W w') := zA fun W hW => HEb.out W (HBM.out _ (zX hc4 hW))
 have HAA : Hid (∀ W, Below m4.heap.size m4 W → Calls zV 11 #[] W fun e w' => e = .returned (.bool true) ∧ Below W.heap.size W w') := zA fun W hW => HA.out W (HBM.out _ (zX hc4 hW))
 obtain ⟨ok, hok⟩ : ∃ ok, (X.2 == 0) = ok := ⟨_, rfl⟩
 rw [hok] at HEA HEB
 have hrfl : Below m4.heap.size m4 m4 := zE _ _
 have i1 : (X.2 == X.2) = true := by simp
 clear hm4 hbm4 p0 f0 p1 f1 hok HEa HEb HDa HDb
 refine wp_region_grew m4.heap.size (by kernel_rfl) (by kernel_rfl) (QWk.out ?_)
 refine QWk.want (by kernel_rfl) (fun K hK => ?_); refine qL ?_ (fun W hW => ?_) (hK _ ?_); rotate_left 1; (focus (skip; go_simp; try rfl)); clear hK K; (try simp only [zU, qI, qX, qY])
 refine QWk.want (by kernel_rfl) (fun K hK => ?_); refine qL ?_ (fun W hW => ?_) (hK _ ?_); rotate_left 1; (focus (skip; go_simp; try rfl)); clear hK K; (try simp only [zU, qI, qX, qY])
 refine QWk.want (by kernel_rfl) (fun K hK => ?_); refine qL ?_ (fun W hW => ?_) (hK _ ?_); rotate_left 1; (focus (skip; go_simp; try rfl)); clear hK K; (try simp only [zU, qI, qX, qY])
 refine QWk.want (by kernel_rfl) (fun K hK => ?_); refine qL ?_ (fun W hW => ?_) (hK _ ?_); rotate_left 1; (focus (skip; go_simp; try rfl)); clear hK K; (try simp only [zU, qI, qX, qY])
 refine QWk.want (by kernel_rfl) (fun K hK => ?_); refine qL ?_ (fun W hW => ?_) (hK _ ?_); rotate_left 1; (focus (obtain ⟨q0, g0⟩ := blk (HL.out _ (zX hrfl hW)).1; go_simp; try rfl)); clear hK K; (try simp only [zU, qI, qX, qY])
 refine QWk.want (by kernel_rfl) (fun K hK => ?_); refine qL ?_ (fun W hW => ?_) (hK _ ?_); rotate_left 1; (focus (obtain ⟨q0, g0⟩ := blk (HL.out _ (zX hrfl hW)).2; go_simp; try rfl)); clear hK K; (try simp only [zU, qI, qX, qY])
 refine QWk.want (by kernel_rfl) (fun K hK => ?_); refine quiet_calls (f := ?_) (args := ?_) ?_ (fun W hW => ?_) (fun W hW => ?_) (hK _ ?_); rotate_left 3; (focus (go_simp; constructor <;> rfl)); (focus (refine (HS.out _ (zX hrfl hW)).mono ?_; rintro e W2 ⟨rfl, hbW⟩; refine ⟨?_, zX hW hbW⟩; rfl)); clear hK K; (try simp only [zU, qI, qX, qY])
 refine QWk.want (by kernel_rfl) (fun K hK => ?_); refine qL ?_ (fun W hW => ?_) (hK _ ?_); rotate_left 1; (focus (skip; go_simp; try rfl)); clear hK K; (try simp only [zU, qI, qX, qY])
 refine QWk.want (by kernel_rfl) (fun K hK => ?_); refine qL ?_ (fun W hW => ?_) (hK _ ?_); rotate_left 1; (focus (skip; go_simp; try rfl)); clear hK K; (try simp only [zU, qI, qX, qY])
 refine QWk.want (by kernel_rfl) (fun K hK => ?_); refine qL ?_ (fun W hW => ?_) (hK _ ?_); rotate_left 1; (focus (obtain ⟨q0, g0⟩ := blk (HK.out _ (zX hc4 (zX hrfl hW))).1; go_simp; try rfl)); clear hK K; (try simp only [zU, qI, qX, qY])
 refine QWk.want (by kernel_rfl) (fun K hK => ?_); refine qL ?_ (fun W hW => ?_) (hK _ ?_); rotate_left 1; (focus (skip; go_simp; try rfl)); clear hK K; (try simp only [zU, qI, qX, qY])
 refine QWk.want (by kernel_rfl) (fun K hK => ?_); refine qL ?_ (fun W hW => ?_) (hK _ ?_); rotate_left 1; (focus (obtain ⟨q0, g0⟩ := blk (HK.out _ (zX hc4 (zX hrfl hW))).2; go_simp; try rfl)); clear hK K; (try simp only [zU, qI, qX, qY])
 refine QWk.want (by kernel_rfl) (fun K hK => ?_); refine qL ?_ (fun W hW => ?_) (hK _ ?_); rotate_left 1; (focus (skip; go_simp; try rfl)); clear hK K; (try simp only [zU, qI, qX, qY])
 refine QWk.want (by kernel_rfl) (fun K hK => ?_); refine quiet_calls (f := ?_) (args := ?_) ?_ (fun W hW => ?_) (fun W hW => ?_) (hK _ ?_); rotate_left 3; (focus (go_simp; constructor <;> rfl)); (focus (refine (HEA.out _ (zX hrfl hW)).mono ?_; rintro e W2 ⟨rfl, hbW⟩; refine ⟨?_, zX hW hbW⟩; rfl)); clear hK K; (try simp only [zU, qI, qX, qY])
 refine QWk.want (by kernel_rfl) (fun K hK => ?_); refine qL ?_ (fun W hW => ?_) (hK _ ?_); rotate_left 1; (focus (obtain ⟨q0, g0⟩ := blk (HK.out _ (zX hc4 (zX hrfl hW))).1; go_simp; try rfl)); clear hK K; (try simp only [zU, qI, qX, qY])
 refine QWk.want (by kernel_rfl) (fun K hK => ?_); refine qL ?_ (fun W hW => ?_) (hK _ ?_); rotate_left 1; (focus (skip; go_simp; try rfl)); clear hK K; (try simp only [zU, qI, qX, qY])
 refine QWk.want (by kernel_rfl) (fun K hK => ?_); refine qL ?_ (fun W hW => ?_) (hK _ ?_); rotate_left 1; (focus (obtain ⟨q0, g0⟩ := blk (HK.out _ (zX hc4 (zX hrfl hW))).2; go_simp; try rfl)); clear hK K; (try simp only [zU, qI, qX, qY])
 refine QWk.want (by kernel_rfl) (fun K hK => ?_); refine qL ?_ (fun W hW => ?_) (hK _ ?_); rotate_left 1; (focus (skip; go_simp; try rfl)); clear hK K; (try simp only [zU, qI, qX, qY])
 refine QWk.want (by kernel_rfl) (fun K hK => ?_); refine quiet_calls (f := ?_) (args := ?_) ?_ (fun W hW => ?_) (fun W hW => ?_) (hK _ ?_); rotate_left 3; (focus (go_simp; constructor <;> rfl)); (focus (refine (HEB.out _ (zX hrfl hW)).mono ?_; rintro e W2 ⟨rfl, hbW⟩; refine ⟨?_, zX hW hbW⟩; rfl)); clear hK K; (try simp only [zU, qI, qX, qY])
 refine QWk.want (by kernel_rfl) (fun K hK => ?_); refine qL ?_ (fun W hW => ?_) (hK _ ?_); rotate_left 1; (focus (skip; go_simp; try rfl)); clear hK K; (try simp only [zU, qI, qX, qY])
 refine QWk.want (by kernel_rfl) (fun K hK => ?_); refine qL ?_ (fun W hW => ?_) (hK _ ?_); rotate_left 1; (focus (skip; go_simp; try rfl)); clear hK K; (try simp only [zU, qI, qX, qY])
 refine QWk.want (by kernel_rfl) (fun K hK => ?_); refine qL ?_ (fun W hW => ?_) (hK _ ?_); rotate_left 1; (focus (skip; go_simp; try rfl)); clear hK K; (try simp only [zU, qI, qX, qY])
 refine QWk.want (by kernel_rfl) (fun K hK => ?_); refine quiet_calls (f := ?_) (args := ?_) ?_ (fun W hW => ?_) (fun W hW => ?_) (hK _ ?_); rotate_left 3; (focus (go_simp; constructor <;> rfl)); (focus (refine (HAA.out _ (zX hrfl hW)).mono ?_; rintro e W2 ⟨rfl, hbW⟩; refine ⟨?_, zX hW hbW⟩; rfl)); clear hK K; (try simp only [zU, qI, qX, qY])
 refine QWk.want (by kernel_rfl) (fun K hK => ?_); refine qL ?_ (fun W hW => ?_) (hK _ ?_); rotate_left 1; (focus (skip; go_simp; try rfl)); clear hK K; (try simp only [zU, qI, qX, qY])
 refine QWk.want (by kernel_rfl) (fun K hK => ?_); refine qL ?_ (fun W hW => ?_) (hK _ ?_); rotate_left 1; (focus (skip; go_simp; try rfl)); clear hK K; (try simp only [zU, qI, qX, qY])
 refine QWk.mk (wpQuiet_nil (fun X6 hstX6 => ?_))
 go_wp2_with fail
 go_ret
 exact ⟨by simp, H1.out.trans ((HBM.out _ (zX hc4 hstX6)).mono hs1)⟩
end Go.Proofs.YtcliojeoindceaaGreatDoor
