/- The walk of the law QueryFinds. -/
import Derived.Test.YtcliojeoindceaaGreatDoorLawQryGreatS
import Derived.Test.YtcliojeoindceaaGreatDoorQryPickS
set_option linter.unusedVariables false
set_option linter.unusedSimpArgs false
set_option maxHeartbeats 8000000
namespace Go.Proofs.YtcliojeoindceaaGreatDoor
open Go.RowKit
open Go.Proofs.Qw
attribute [local go_sem] Oper.semAt_some
open _root_.Go.Lib renaming hid → zA
open _root_.Go.Act renaming put → zU
open _root_.Go.Proofs.Qw renaming quiet_val → qL
set_option maxRecDepth 100000 in
theorem lawQryFinds_any (x0 x1 : Int) (w : World) (h1 : (Lit.int .u32 x1).wf = true) (he : EnvT w) : Calls Tryz.prog 7 #[.int .i64 x0, .int .u32 x1] w fun e w' => e = .returned (.bool true) ∧ Below w.heap.size w w' := by
 obtain ⟨n, hn, hN⟩ := and_nat x0
 have HE : Hid (∀ W, Below w.heap.size w W → EnvT W) := zA fun W hW => he.below hW
 have hk0 : n % 17 < 17 := Nat.mod_lt _ (by decide)
 obtain ⟨k, hkn⟩ : ∃ k, n % 17 = k := ⟨_, rfl⟩
 have hmod : (n : Int) % 17 = (k : Int) := by omega
 have htm : (n : Int).tmod 17 = (k : Int) := by rw [Int.tmod_eq_emod_of_nonneg (by omega)]; exact hmod
 rw [hkn] at hk0
 obtain ⟨c, hc⟩ : ∃ c, cmds[k]? = some c := ⟨_, List.getElem?_eq_getElem (by exact hk0)⟩
 have HC := zA hc
 clear he hkn hc
 go_enter Tryz.func7, Tryz.ntmps7
 have HS := zA (cmd_small HC.out)
 go_wp2_with (first
  | (go_at_call 24; refine (qryAll_any _).mono ?_; rintro e w2 ⟨v, rfl, hv, hb2⟩; have HB2 := zA hb2; have HV2 := zA hv; obtain ⟨a, cp, rfl, hcp, hcl⟩ := cmd_cells hv; have hl17 : cmds.length = 17 := rfl; rw [hl17] at hcp ⊢; obtain ⟨bb, oo, rfl, hbs, _, _, _⟩ := hcl k c HC.out; clear hv hb2 hl17 hcl)
  | (go_at_call 30; refine (great_any _ _ _ (by have := HS.out; simp [ByteArray.size]; omega)).mono ?_; rintro e w3 ⟨g, rfl, hg1, hg2, hb3⟩; have HG1 := zA hg1; have HG2 := zA hg2; have HB3 := zA (below_from HB2.out hb3); have HBR3 := zA hb3; clear hg1 hg2 hb3)
  | (go_at_call 26; refine (qryFind_any ⟨g.toArray⟩ _ (HE.out _ HB3.out) (by have := HS.out; have := HG2.out; simp [ByteArray.size] at *; omega)).mono ?_; rintro e w4 ⟨rfl, hb4⟩; have HFQ : findQ (⟨g.toArray⟩ : ByteArray).data.toList = some k := (find_like HG1.out).trans (find_name HC.out); have HFN : findN (⟨g.toArray⟩ : ByteArray).data.toList = k := (by unfold findN; rw [HFQ]; rfl); rw [HFN, HFQ]; have HB4 := zA (below_from HB3.out hb4); have HBR4 := zA (HBR3.out.trans (hb4.mono HBR3.out.size)); clear hb4 HFN HFQ))
 go_loopw [9] (fun i wr => ∃ j : Nat, j ≤ 17 ∧ i = .int .i64 j ∧ Hid (Below w2.heap.size w2 wr)) (fun i _ => 17 - (intOf i).toNat)
 case atStart => exact ⟨0, by omega, rfl, HBR4⟩
 case round =>
  obtain ⟨j, hj, rfl, HBR⟩ := hrel
  by_cases hlt : j < 17
  ·obtain ⟨d, hd⟩ : ∃ d, cmds[j]? = some d := ⟨_, List.getElem?_eq_getElem (by exact hlt)⟩
   have HCE : Hid (∀ W, Below wr.heap.size wr W → W.cell? ⟨bb, oo + k * 3, none⟩ = some (.string ⟨c.name.toArray⟩) ∧ W.cell? ⟨bb, oo + k * 3 + 1, none⟩ = some (.string ⟨c.input.toArray⟩) ∧ W.cell? ⟨bb, oo + j * 3, none⟩ = some (.string ⟨d.name.toArray⟩) ∧ W.cell? ⟨bb, oo + j * 3 + 1, none⟩ = some (.string ⟨d.input.toArray⟩)) := zA fun W hW => by
    have HVr : CmdsR true W (fun b => w.heap.size ≤ b) (.slice (some ⟨bb, oo, none⟩) cmds.length cp) cmds := SliceR.below (rdOf_stable _) HV2.out (HBR.out.trans (hW.mono HBR.out.size))
    obtain ⟨a, cp', e, _, hcl⟩ := cmd_cells HVr
    obtain ⟨_, _, e1, _, k0, k1, _⟩ := hcl k c HC.out
    obtain ⟨_, _, e2, _, j0, j1, _⟩ := hcl j d hd
    cases e
    cases e1
    cases e2
    exact ⟨k0, k1, j0, j1⟩
   have i1 : (j : Int) < 17 := by omega
   have i0 : (k : Int) < 17 := by omega
   have HLT := zA hlt
   by_cases hjk : j = k
   ·subst hjk
    clear HCE hd
    have i2 : ((j : Int) == (j : Int)) = true := by simp
    go_wp2_with fail
    refine wp_region_grew wr.heap.size (by kernel_rfl) (by kernel_rfl) (QW.out ?_)
    refine QW.want (by kernel_rfl) (fun K hK => ?_)
    refine qL ?_ (fun W hW => ?_) (hK _ ?_)
    rotate_left 1
    ·skip
     go_simp
     try rfl
    clear hK
    clear K
    try simp only [zU, qI, qX, qY]
    refine QW.want (by kernel_rfl) (fun K hK => ?_)
    refine qL ?_ (fun W hW => ?_) (hK _ ?_)
    rotate_left 1
    ·skip
     go_simp
     try rfl
    clear hK
    clear K
    try simp only [zU, qI, qX, qY]
    refine QW.want (by kernel_rfl) (fun K hK => ?_)
    refine qL ?_ (fun W hW => ?_) (hK _ ?_)
    rotate_left 1
    ·skip
     go_simp
     try rfl
    clear hK
    clear K
    try simp only [zU, qI, qX, qY]
    refine QW.want (by kernel_rfl) (fun K hK => ?_)
    refine qL ?_ (fun W hW => ?_) (hK _ ?_)
    rotate_left 1
    ·skip
     go_simp
     try rfl
    clear hK
    clear K
    try simp only [zU, qI, qX, qY]
    refine QW.skip (by kernel_rfl) ?_
    try simp only [zU, qI, qX, qY]
    refine QW.skip (by kernel_rfl) ?_
    try simp only [zU, qI, qX, qY]
    refine QW.skip (by kernel_rfl) ?_
    try simp only [zU, qI, qX, qY]
    refine QW.skip (by kernel_rfl) ?_
    try simp only [zU, qI, qX, qY]
    refine QW.skip (by kernel_rfl) ?_
    try simp only [zU, qI, qX, qY]
    refine QW.skip (by kernel_rfl) ?_
    try simp only [zU, qI, qX, qY]
    refine QW.skip (by kernel_rfl) ?_
    try simp only [zU, qI, qX, qY]
    refine QW.skip (by kernel_rfl) ?_
    try simp only [zU, qI, qX, qY]
    refine QW.skip (by kernel_rfl) ?_
    try simp only [zU, qI, qX, qY]
    refine QW.skip (by kernel_rfl) ?_
    try simp only [zU, qI, qX, qY]
    refine QW.skip (by kernel_rfl) ?_
    try simp only [zU, qI, qX, qY]
    refine QW.skip (by kernel_rfl) ?_
    try simp only [zU, qI, qX, qY]
    refine QW.skip (by kernel_rfl) ?_
    try simp only [zU, qI, qX, qY]
    refine QW.skip (by kernel_rfl) ?_
    try simp only [zU, qI, qX, qY]
    refine QW.skip (by kernel_rfl) ?_
    try simp only [zU, qI, qX, qY]
    refine QW.skip (by kernel_rfl) ?_
    try simp only [zU, qI, qX, qY]
    refine QW.skip (by kernel_rfl) ?_
    try simp only [zU, qI, qX, qY]
    refine QW.skip (by kernel_rfl) ?_
    try simp only [zU, qI, qX, qY]
    refine QW.skip (by kernel_rfl) ?_
    try simp only [zU, qI, qX, qY]
    refine QW.skip (by kernel_rfl) ?_
    try simp only [zU, qI, qX, qY]
    refine QW.skip (by kernel_rfl) ?_
    try simp only [zU, qI, qX, qY]
    refine QW.skip (by kernel_rfl) ?_
    try simp only [zU, qI, qX, qY]
    refine QW.skip (by kernel_rfl) ?_
    try simp only [zU, qI, qX, qY]
    refine QW.skip (by kernel_rfl) ?_
    try simp only [zU, qI, qX, qY]
    refine QW.want (by kernel_rfl) (fun K hK => ?_)
    refine qL ?_ (fun W hW => ?_) (hK _ ?_)
    rotate_left 1
    ·skip
     go_simp
     try rfl
    clear hK
    clear K
    try simp only [zU, qI, qX, qY]
    refine QW.mk (wpQuiet_nil (fun X6 hstX6 => ?_))
    go_wp2_with fail
    go_roundw
    case rel => exact ⟨j + 1, HLT.out, by go_num, zA (HBR.out.trans (hstX6.mono HBR.out.size))⟩
    case measure => have := HLT.out; simp [intOf]; omega
   ·have i2 : ((j : Int) == (k : Int)) = false := by simp; omega
    have hne := names_differ hd HC.out hjk
    have n0 : ((⟨d.name.toArray⟩ : ByteArray) == ⟨c.name.toArray⟩) = false := ne_bytes hne.1
    have n1 : ((⟨d.input.toArray⟩ : ByteArray) == ⟨c.input.toArray⟩) = false := ne_bytes hne.2
    have n2 : (d.name == c.name) = false := by simpa using hne.1
    have n3 : (d.input == c.input) = false := by simpa using hne.2
    have i3 : ((j : Int) != (k : Int)) = true := by simp; omega
    have HJK := zA hjk
    clear hd hne hjk
    go_wp2_with fail
    refine wp_region_grew wr.heap.size (by kernel_rfl) (by kernel_rfl) (QW.out ?_)
    refine QW.want (by kernel_rfl) (fun K hK => ?_)
    refine qL ?_ (fun W hW => ?_) (hK _ ?_)
    rotate_left 1
    ·skip
     go_simp
     try rfl
    clear hK
    clear K
    try simp only [zU, qI, qX, qY]
    refine QW.want (by kernel_rfl) (fun K hK => ?_)
    refine qL ?_ (fun W hW => ?_) (hK _ ?_)
    rotate_left 1
    ·skip
     go_simp
     try rfl
    clear hK
    clear K
    try simp only [zU, qI, qX, qY]
    refine QW.want (by kernel_rfl) (fun K hK => ?_)
    refine qL ?_ (fun W hW => ?_) (hK _ ?_)
    rotate_left 1
    ·skip
     go_simp
     try rfl
    clear hK
    clear K
    try simp only [zU, qI, qX, qY]
    refine QW.want (by kernel_rfl) (fun K hK => ?_)
    refine qL ?_ (fun W hW => ?_) (hK _ ?_)
    rotate_left 1
    ·skip
     go_simp
     try rfl
    clear hK
    clear K
    try simp only [zU, qI, qX, qY]
    refine QW.want (by kernel_rfl) (fun K hK => ?_)
    refine qL ?_ (fun W hW => ?_) (hK _ ?_)
    rotate_left 1
    ·skip
     go_simp
     try rfl
    clear hK
    clear K
    try simp only [zU, qI, qX, qY]
    refine QW.want (by kernel_rfl) (fun K hK => ?_)
    refine qL ?_ (fun W hW => ?_) (hK _ ?_)
    rotate_left 1
    ·skip
     go_simp
     try rfl
    clear hK
    clear K
    try simp only [zU, qI, qX, qY]
    refine QW.want (by kernel_rfl) (fun K hK => ?_)
    refine qL ?_ (fun W hW => ?_) (hK _ ?_)
    rotate_left 1
    ·skip
     go_simp
     try rfl
    clear hK
    clear K
    try simp only [zU, qI, qX, qY]
    refine QW.want (by kernel_rfl) (fun K hK => ?_)
    refine qL ?_ (fun W hW => ?_) (hK _ ?_)
    rotate_left 1
    ·skip
     go_simp
     try rfl
    clear hK
    clear K
    try simp only [zU, qI, qX, qY]
    refine QW.want (by kernel_rfl) (fun K hK => ?_)
    refine qL ?_ (fun W hW => ?_) (hK _ ?_)
    rotate_left 1
    ·obtain ⟨k0, k1, j0, j1⟩ := HCE.out _ hW
     go_simp
     try rfl
    clear hK
    clear K
    try simp only [zU, qI, qX, qY]
    refine QW.want (by kernel_rfl) (fun K hK => ?_)
    refine qL ?_ (fun W hW => ?_) (hK _ ?_)
    rotate_left 1
    ·skip
     go_simp
     try rfl
    clear hK
    clear K
    try simp only [zU, qI, qX, qY]
    refine QW.want (by kernel_rfl) (fun K hK => ?_)
    refine qL ?_ (fun W hW => ?_) (hK _ ?_)
    rotate_left 1
    ·skip
     go_simp
     try rfl
    clear hK
    clear K
    try simp only [zU, qI, qX, qY]
    refine QW.want (by kernel_rfl) (fun K hK => ?_)
    refine qL ?_ (fun W hW => ?_) (hK _ ?_)
    rotate_left 1
    ·skip
     go_simp
     try rfl
    clear hK
    clear K
    try simp only [zU, qI, qX, qY]
    refine QW.want (by kernel_rfl) (fun K hK => ?_)
    refine qL ?_ (fun W hW => ?_) (hK _ ?_)
    rotate_left 1
    ·skip
     go_simp
     try rfl
    clear hK
    clear K
    try simp only [zU, qI, qX, qY]
    refine QW.want (by kernel_rfl) (fun K hK => ?_)
    refine qL ?_ (fun W hW => ?_) (hK _ ?_)
    rotate_left 1
    ·obtain ⟨k0, k1, j0, j1⟩ := HCE.out _ hW
     go_simp
     try rfl
    clear hK
    clear K
    try simp only [zU, qI, qX, qY]
    refine QW.want (by kernel_rfl) (fun K hK => ?_)
    refine qL ?_ (fun W hW => ?_) (hK _ ?_)
    rotate_left 1
    ·skip
     go_simp
     try rfl
    clear hK
    clear K
    try simp only [zU, qI, qX, qY]
    refine QW.want (by kernel_rfl) (fun K hK => ?_)
    refine qL ?_ (fun W hW => ?_) (hK _ ?_)
    rotate_left 1
    ·skip
     go_simp
     try rfl
    clear hK
    clear K
    try simp only [zU, qI, qX, qY]
    refine QW.want (by kernel_rfl) (fun K hK => ?_)
    refine qL ?_ (fun W hW => ?_) (hK _ ?_)
    rotate_left 1
    ·skip
     go_simp
     try rfl
    clear hK
    clear K
    try simp only [zU, qI, qX, qY]
    refine QW.want (by kernel_rfl) (fun K hK => ?_)
    refine qL ?_ (fun W hW => ?_) (hK _ ?_)
    rotate_left 1
    ·skip
     go_simp
     try rfl
    clear hK
    clear K
    try simp only [zU, qI, qX, qY]
    refine QW.want (by kernel_rfl) (fun K hK => ?_)
    refine qL ?_ (fun W hW => ?_) (hK _ ?_)
    rotate_left 1
    ·skip
     go_simp
     try rfl
    clear hK
    clear K
    try simp only [zU, qI, qX, qY]
    refine QW.want (by kernel_rfl) (fun K hK => ?_)
    refine qL ?_ (fun W hW => ?_) (hK _ ?_)
    rotate_left 1
    ·skip
     go_simp
     try rfl
    clear hK
    clear K
    try simp only [zU, qI, qX, qY]
    refine QW.want (by kernel_rfl) (fun K hK => ?_)
    refine qL ?_ (fun W hW => ?_) (hK _ ?_)
    rotate_left 1
    ·obtain ⟨k0, k1, j0, j1⟩ := HCE.out _ hW
     go_simp
     try rfl
    clear hK
    clear K
    try simp only [zU, qI, qX, qY]
    refine QW.want (by kernel_rfl) (fun K hK => ?_)
    refine qL ?_ (fun W hW => ?_) (hK _ ?_)
    rotate_left 1
    ·skip
     go_simp
     try rfl
    clear hK
    clear K
    try simp only [zU, qI, qX, qY]
    refine QW.want (by kernel_rfl) (fun K hK => ?_)
    refine qL ?_ (fun W hW => ?_) (hK _ ?_)
    rotate_left 1
    ·skip
     go_simp
     try rfl
    clear hK
    clear K
    try simp only [zU, qI, qX, qY]
    refine QW.want (by kernel_rfl) (fun K hK => ?_)
    refine qL ?_ (fun W hW => ?_) (hK _ ?_)
    rotate_left 1
    ·skip
     go_simp
     try rfl
    clear hK
    clear K
    try simp only [zU, qI, qX, qY]
    refine QW.want (by kernel_rfl) (fun K hK => ?_)
    refine qL ?_ (fun W hW => ?_) (hK _ ?_)
    rotate_left 1
    ·skip
     go_simp
     try rfl
    clear hK
    clear K
    try simp only [zU, qI, qX, qY]
    refine QW.want (by kernel_rfl) (fun K hK => ?_)
    refine qL ?_ (fun W hW => ?_) (hK _ ?_)
    rotate_left 1
    ·obtain ⟨k0, k1, j0, j1⟩ := HCE.out _ hW
     go_simp
     try rfl
    clear hK
    clear K
    try simp only [zU, qI, qX, qY]
    refine QW.want (by kernel_rfl) (fun K hK => ?_)
    refine qL ?_ (fun W hW => ?_) (hK _ ?_)
    rotate_left 1
    ·skip
     go_simp
     try rfl
    clear hK
    clear K
    try simp only [zU, qI, qX, qY]
    refine QW.want (by kernel_rfl) (fun K hK => ?_)
    refine qL ?_ (fun W hW => ?_) (hK _ ?_)
    rotate_left 1
    ·skip
     go_simp
     try rfl
    clear hK
    clear K
    try simp only [zU, qI, qX, qY]
    refine QW.want (by kernel_rfl) (fun K hK => ?_)
    refine qL ?_ (fun W hW => ?_) (hK _ ?_)
    rotate_left 1
    ·skip
     go_simp
     try rfl
    clear hK
    clear K
    try simp only [zU, qI, qX, qY]
    refine QW.mk (wpQuiet_nil (fun X6 hstX6 => ?_))
    go_wp2_with fail
    go_roundw
    case rel => exact ⟨j + 1, HLT.out, by go_num, zA (HBR.out.trans (hstX6.mono HBR.out.size))⟩
    case measure => have := HLT.out; simp [intOf]; omega
  ·obtain rfl : j = 17 := by omega
   go_wp2_with (go_at_call 11; refine (awake26_any _ (HE.out _ (HB2.out.trans (HBR.out.mono HB2.out.size)))).mono ?_; rintro e w5 ⟨rfl, hb5⟩; have HB5 := zA (below_from (HB2.out.trans (HBR.out.mono HB2.out.size)) hb5); clear hb5)
   go_ret
   exact ⟨rfl, HB5.out⟩
end Go.Proofs.YtcliojeoindceaaGreatDoor
