/- The walk of the law DocSets. -/
import Derived.Test.YtfoiaoopbkcpoaaGreatDoorDocSet
import Derived.Test.YtfoiaoopbkcpoaaGreatDoorRefSet
import Derived.Test.YtfoiaoopbkcpoaaGreatDoorIs
import Derived.Test.YtfoiaoopbkcpoaaGreatDoorAwake
namespace Go.Proofs.YtfoiaoopbkcpoaaGreatDoor
open Go.RowKit
open Go.Proofs.Qw
theorem all_count (f : Cel → Bool) (l : List Cel) : (decide (0 < l.length) && decide (l.countP f = l.length)) = (decide (0 < l.length) && l.all f) := by
  rw [Bool.eq_iff_iff]
  simp only [Bool.and_eq_true, decide_eq_true_eq, List.all_eq_true, List.countP_eq_length]
theorem any_count (f : Cel → Bool) (l : List Cel) : decide (0 < l.countP f) = l.any f := by
  rw [Bool.eq_iff_iff]
  simp only [decide_eq_true_eq, List.any_eq_true, List.countP_pos_iff]

set_option maxRecDepth 100000 in
set_option maxHeartbeats 8000000 in
theorem lawSets_any (v : Value) (d : Doc) (a b : Ps) (s c : Int) (hr : List UInt8) (w : World) (S : Nat → Prop) (h : LinsR w S v d) (sn : Sane d) (he : EnvT w) :
    Calls Tryz.prog 4 #[v, posV a, posV b, .int .i64 s, .int .i64 c, .string ⟨hr.toArray⟩] w fun e w' => e = .returned (.bool true) ∧ Below w.heap.size w w' := by
  obtain ⟨W1, hW1, hB, hz, k0, k1⟩ := two_pos w (.int .i64 a.line) (.int .i64 a.col) (.int .i64 b.line) (.int .i64 b.col)
  have hv := h.below (rdLin_stable _) hB
  have he1 := he.below hB
  have HL := Lib.hid (long_any v d W1 S hv sn)
  have HA : Hid (∀ W, Below W1.heap.size W1 W → Calls Tryz.prog 11 #[] W fun e w' => e = .returned (.bool true) ∧ Below W.heap.size W w') := Lib.hid fun W hW => awake_any W (he1.below hW)
  have HB : Hid (∀ W, Below W1.heap.size W1 W → W.heap[w.heap.size]? = some (.cells #[.int .i64 a.line, .int .i64 a.col] 24) ∧ W.heap[w.heap.size + 1]? = some (.cells #[.int .i64 b.line, .int .i64 b.col] 24)) := Lib.hid fun W hW => ⟨heap_below hW k0, heap_below hW k1⟩
  have HV := Lib.hid hv
  have HE := Lib.hid he1
  have HP : Hid (∀ p : Ps, posV p = .agg #[.int .i64 p.line, .int .i64 p.col]) := Lib.hid fun _ => rfl
  have H1 := Lib.hid hB
  have hs1 := hB.size
  obtain ⟨va, vc, rfl⟩ := h.slice
  have hw0 : Below W1.heap.size W1 W1 := Below.refl _ _
  obtain ⟨p0, f0⟩ := blk k0
  obtain ⟨p1, f1⟩ := blk k1
  clear h he hv he1 k0 k1 hB sn
  rw [HP.out a, HP.out b]
  by_cases hlen : 1000 < hr.length
  · have hl1 : (1000 : Int) < (hr.length : Int) := by omega
    go_enter Tryz.func4, Tryz.ntmps4
    go_wp2_with fail
    refine HL.out.mono ?_
    rintro e w2 ⟨r, rfl, _, hb2⟩
    cases r
    all_goals
      go_wp2_with fail
      refine (HA.out _ hb2).mono ?_
      rintro e w3 ⟨rfl, hb3⟩
      go_wp2_with fail
      go_ret
      exact ⟨rfl, H1.out.trans ((below_from hb2 hb3).mono hs1)⟩
  have hl1 : (hr.length : Int) ≤ 1000 := by omega
  have hh : hr.length ≤ 1000000 := by omega
  clear hlen
  go_enter Tryz.func4, Tryz.ntmps4
  go_wp2_with fail
  refine HL.out.mono ?_
  rintro e w2 ⟨r, rfl, hr2, hb2⟩
  cases r
  case' true =>
    go_wp2_with fail
    refine (HA.out _ hb2).mono ?_
    rintro e w3 ⟨rfl, hb3⟩
    go_wp2_with fail
    go_ret
    exact ⟨rfl, H1.out.trans ((below_from hb2 hb3).mono hs1)⟩
  have HS := Lib.hid (hr2 rfl)
  clear hr2
  have HO := Lib.hid (refOwnD_any _ d w2 S (HV.out.below (rdLin_stable _) hb2) HS.out.fits)
  go_wp2_with fail
  refine HO.out.mono ?_
  rintro e w3 ⟨v3, rfl, hv3, hb3⟩
  have hx3 := below_from hb2 hb3
  obtain ⟨va3, vc3, rfl⟩ := hv3.slice
  obtain ⟨S3, hS3⟩ : ∃ S : Nat → Prop, (fun b => w2.heap.size ≤ b) = S := ⟨_, rfl⟩
  rw [hS3] at hv3
  have hV3 : ∀ W, Below w3.heap.size w3 W → LinsR W S3 (.slice va3 d.length vc3) d := fun W hW => (DocR.read hv3).below (rdLin_stable _) hW
  have HV3 := Lib.hid hV3
  have hs3 := hx3.size
  have hsw3 : w.heap.size + 2 ≤ w3.heap.size := by omega
  have HBB : Hid (∀ W, Below w3.heap.size w3 W → W.heap[w.heap.size]? = some (.cells #[.int .i64 a.line, .int .i64 a.col] 24) ∧ W.heap[w.heap.size + 1]? = some (.cells #[.int .i64 b.line, .int .i64 b.col] 24)) := Lib.hid fun W hW => HB.out W (below_from hx3 hW)
  have HVV : Hid (∀ W, Below w3.heap.size w3 W → LinsR W S (.slice va d.length vc) d) := Lib.hid fun W hW => HV.out.below (rdLin_stable _) (below_from hx3 hW)
  have HEE : Hid (∀ W, Below w3.heap.size w3 W → EnvT W) := Lib.hid fun W hW => HE.out.below (below_from hx3 hW)
  have HSM := Lib.hid HS.out.small
  have HFI := Lib.hid HS.out.fits
  obtain ⟨E1, hE1⟩ : ∃ x, setD s c d a b = x := ⟨_, rfl⟩
  obtain ⟨E2, hE2⟩ : ∃ x, linkD hr d a b = x := ⟨_, rfl⟩
  obtain ⟨L, hL⟩ : ∃ x, cellsD d a b = x := ⟨_, rfl⟩
  obtain ⟨rA, hrA⟩ : ∃ x, (decide (0 < L.length) && L.all fun x => bits .and .i64 x.bits s == s) = x := ⟨_, rfl⟩
  obtain ⟨rS, hrS⟩ : ∃ x, (L.any fun x => bits .and .i64 x.bits s != 0) = x := ⟨_, rfl⟩
  have HSet : Hid (∀ W, Below w3.heap.size w3 W → Calls Tryz.prog 34 #[.slice va d.length vc, .agg #[.int .i64 a.line, .int .i64 a.col], .agg #[.int .i64 b.line, .int .i64 b.col], .int .i64 s, .int .i64 c] W (DocSaid E1 W)) := Lib.hid fun W hW => by
    have := docSet_any _ d a b s c W S (HVV.out W hW) (HEE.out W hW) HSM.out HFI.out
    rw [hE1] at this
    exact this
  have RSet : Hid (∀ W, Below w3.heap.size w3 W → Calls Tryz.prog 35 #[.slice va3 d.length vc3, .agg #[.int .i64 a.line, .int .i64 a.col], .agg #[.int .i64 b.line, .int .i64 b.col], .int .i64 s, .int .i64 c] W (DocSaid E1 W)) := Lib.hid fun W hW => by
    have := refDSet_any _ d a b s c W S3 (HV3.out W hW) HSM.out HFI.out
    rw [hE1] at this
    exact this
  have HLink : Hid (∀ W, Below w3.heap.size w3 W → Calls Tryz.prog 36 #[.slice va d.length vc, .agg #[.int .i64 a.line, .int .i64 a.col], .agg #[.int .i64 b.line, .int .i64 b.col], .string ⟨hr.toArray⟩] W (DocSaid E2 W)) := Lib.hid fun W hW => by
    have := docLink_any _ d a b hr W S (HVV.out W hW) (HEE.out W hW) HSM.out HFI.out hh
    rw [hE2] at this
    exact this
  have RLink : Hid (∀ W, Below w3.heap.size w3 W → Calls Tryz.prog 37 #[.slice va3 d.length vc3, .agg #[.int .i64 a.line, .int .i64 a.col], .agg #[.int .i64 b.line, .int .i64 b.col], .string ⟨hr.toArray⟩] W (DocSaid E2 W)) := Lib.hid fun W hW => by
    have := refDLink_any _ d a b hr W S3 (HV3.out W hW) HSM.out HFI.out hh
    rw [hE2] at this
    exact this
  have RCells : Hid (∀ W, Below w3.heap.size w3 W → Calls Tryz.prog 38 #[.slice va3 d.length vc3, .agg #[.int .i64 a.line, .int .i64 a.col], .agg #[.int .i64 b.line, .int .i64 b.col]] W fun e w' => ∃ v', e = .returned v' ∧ CelsR true w' (fun b => W.heap.size ≤ b) v' L ∧ Below W.heap.size W w') := Lib.hid fun W hW => by
    have := refCells_any _ d a b W S3 (HV3.out W hW) HSM.out HFI.out
    rw [hL] at this
    exact this
  have HAll : Hid (∀ W, Below w3.heap.size w3 W → Calls Tryz.prog 39 #[.slice va d.length vc, .agg #[.int .i64 a.line, .int .i64 a.col], .agg #[.int .i64 b.line, .int .i64 b.col], .int .i64 s] W fun e w' => e = .returned (.bool rA) ∧ Below W.heap.size W w') := Lib.hid fun W hW => by
    have := docAll_any _ d a b s W S _ rfl (HVV.out W hW) (HEE.out W hW) HSM.out
    rw [hL, all_count, hrA] at this
    exact this
  have HSome : Hid (∀ W, Below w3.heap.size w3 W → Calls Tryz.prog 41 #[.slice va d.length vc, .agg #[.int .i64 a.line, .int .i64 a.col], .agg #[.int .i64 b.line, .int .i64 b.col], .int .i64 s] W fun e w' => e = .returned (.bool rS) ∧ Below W.heap.size W w') := Lib.hid fun W hW => by
    have := docSome_any _ d a b s W S _ rfl (HVV.out W hW) (HEE.out W hW) HSM.out
    rw [hL, any_count, hrS] at this
    exact this
  have HCount : Hid (∀ W, Below w3.heap.size w3 W → Calls Tryz.prog 43 #[.slice va d.length vc, .agg #[.int .i64 a.line, .int .i64 a.col], .agg #[.int .i64 b.line, .int .i64 b.col]] W fun e w' => e = .returned (.int .i64 L.length) ∧ Below W.heap.size W w') := Lib.hid fun W hW => by
    have := docCount_any _ d a b W S (HVV.out W hW) (HEE.out W hW) HSM.out
    rw [hL] at this
    exact this
  have HSame : Hid (∀ W, Below w3.heap.size w3 W → Calls Tryz.prog 33 #[.slice va d.length vc, .slice va3 d.length vc3] W fun e w' => e = .returned (.bool true) ∧ Below W.heap.size W w') := Lib.hid fun W hW => by
    have := refSame_any _ _ d d W S S3 (HVV.out W hW) (HV3.out W hW)
    rwa [decide_eq_true rfl] at this
  have hA1 : (rA != rA) = false := bne_self_eq_false rA
  have hS1 : (rS != rS) = false := bne_self_eq_false rS
  have hC1 : ((L.length : Int) != (L.length : Int)) = false := bne_self_eq_false _
  have HRA := Lib.hid hrA
  have HRS := Lib.hid hrS
  have hLb : L.length ≤ 100000 := by rw [← hL]; exact Nat.le_trans (cellsD_size d a b) HSM.out.1
  clear hE1 hE2 hL hrA hrS hv3 hV3 hS3 HO HL p0 f0 p1 f1 hW1 HB HV HE
  have hb3z : Below w3.heap.size w3 w3 := Below.refl _ _
  obtain ⟨p0, f0⟩ := blk (HBB.out _ hb3z).1
  obtain ⟨p1, f1⟩ := blk (HBB.out _ hb3z).2
  go_wp2_with fail
  refine (HSet.out _ hb3z).mono ?_
  intro e x1 hsaid
  obtain ⟨vx1, rfl, hvx1, hstx1⟩ := hsaid
  have hbx1 := below_from hb3z hstx1
  have HVx1 := Lib.hid hvx1
  obtain ⟨ax1, cx1, rfl⟩ := hvx1.slice
  clear hvx1 p0 f0 p1 f1
  obtain ⟨p0, f0⟩ := blk (HBB.out _ hbx1).1
  obtain ⟨p1, f1⟩ := blk (HBB.out _ hbx1).2
  go_wp2_with fail
  refine (RSet.out _ hbx1).mono ?_
  intro e x2 hsaid
  obtain ⟨vx2, rfl, hvx2, hstx2⟩ := hsaid
  have hbx2 := below_from hbx1 hstx2
  have hI := lawIs_any _ _ E1.1 E1.1 E1.2 E1.2 _ x2 _ (Nat.le_trans hstx1.size hstx2.size) (HVx1.out.below hstx2) hvx2.read
  obtain ⟨ax2, cx2, rfl⟩ := hvx2.slice
  rw [decide_eq_true (rfl : E1.2 = E1.2), decide_eq_true (rfl : E1.1 = E1.1)] at hI
  have HI := Lib.hid hI
  clear hI hvx2 p0 f0 p1 f1 HVx1
  go_wp2_with fail
  refine HI.out.mono ?_
  rintro e x3 ⟨rfl, hstx3⟩
  have hbx3 : Below w3.heap.size w3 x3 := ((below_from hstx1 hstx2).trans hstx3)
  clear HI hstx1 hstx2 hstx3
  obtain ⟨p0, f0⟩ := blk (HBB.out _ hbx3).1
  obtain ⟨p1, f1⟩ := blk (HBB.out _ hbx3).2
  go_wp2_with fail
  refine (HLink.out _ hbx3).mono ?_
  intro e x4 hsaid
  obtain ⟨vx4, rfl, hvx4, hstx4⟩ := hsaid
  have hbx4 := below_from hbx3 hstx4
  have HVx4 := Lib.hid hvx4
  obtain ⟨ax4, cx4, rfl⟩ := hvx4.slice
  clear hvx4 p0 f0 p1 f1
  obtain ⟨p0, f0⟩ := blk (HBB.out _ hbx4).1
  obtain ⟨p1, f1⟩ := blk (HBB.out _ hbx4).2
  go_wp2_with fail
  refine (RLink.out _ hbx4).mono ?_
  intro e x5 hsaid
  obtain ⟨vx5, rfl, hvx5, hstx5⟩ := hsaid
  have hbx5 := below_from hbx4 hstx5
  have hI := lawIs_any _ _ E2.1 E2.1 E2.2 E2.2 _ x5 _ (Nat.le_trans hstx4.size hstx5.size) (HVx4.out.below hstx5) hvx5.read
  obtain ⟨ax5, cx5, rfl⟩ := hvx5.slice
  rw [decide_eq_true (rfl : E2.2 = E2.2), decide_eq_true (rfl : E2.1 = E2.1)] at hI
  have HI := Lib.hid hI
  clear hI hvx5 p0 f0 p1 f1 HVx4
  go_wp2_with fail
  refine HI.out.mono ?_
  rintro e x6 ⟨rfl, hstx6⟩
  have hbx6 : Below w3.heap.size w3 x6 := below_from hbx3 ((below_from hstx4 hstx5).trans hstx6)
  clear HI hstx4 hstx5 hstx6
  obtain ⟨p0, f0⟩ := blk (HBB.out _ hbx6).1
  obtain ⟨p1, f1⟩ := blk (HBB.out _ hbx6).2
  go_wp2_with fail
  refine (RCells.out _ hbx6).mono ?_
  rintro e X0 ⟨v7, rfl, hv7, hst7⟩
  have hb0 := below_from hbx6 hst7
  obtain ⟨a7, c7, rfl⟩ := hv7.slice
  have HL7 : Hid (∀ W, Below X0.heap.size X0 W → CelsR false W (fun b => x6.heap.size ≤ b) (.slice a7 L.length c7) L) := Lib.hid fun W hW => SliceR.below (rdOf_stable _) (SliceR.read (fun _ _ h => h) hv7) hW
  have RAll : Hid (∀ W, Below X0.heap.size X0 W → Calls Tryz.prog 40 #[.slice a7 L.length c7, .int .i64 0, .int .i64 L.length, .int .i64 s] W fun e w' => e = .returned (.bool rA) ∧ Below W.heap.size W w') := Lib.hid fun W hW => by
    refine (refCAll_any _ L s W _ (HL7.out W hW)).mono ?_
    rintro e w' ⟨rfl, rfl⟩
    rw [HRA.out]
    exact ⟨rfl, Below.refl _ _⟩
  have RSome : Hid (∀ W, Below X0.heap.size X0 W → Calls Tryz.prog 42 #[.slice a7 L.length c7, .int .i64 0, .int .i64 L.length, .int .i64 s] W fun e w' => e = .returned (.bool rS) ∧ Below W.heap.size W w') := Lib.hid fun W hW => by
    refine (refCSome_any _ L s W _ (HL7.out W hW)).mono ?_
    rintro e w' ⟨rfl, rfl⟩
    rw [HRS.out]
    exact ⟨rfl, Below.refl _ _⟩
  clear hv7 HL7 HRA HRS p0 f0 p1 f1 hst7
  obtain ⟨p0, f0⟩ := blk (HBB.out _ hb0).1
  obtain ⟨p1, f1⟩ := blk (HBB.out _ hb0).2
  go_wp2_with fail
  refine (HAll.out _ hb0).mono ?_
  rintro e X1 ⟨rfl, hst⟩
  have hb1 := below_from hb0 hst
  have hc1 : Below X0.heap.size X0 X1 := hst
  clear hst p0 f0 p1 f1
  obtain ⟨p0, f0⟩ := blk (HBB.out _ hb1).1
  obtain ⟨p1, f1⟩ := blk (HBB.out _ hb1).2
  go_wp2_with fail
  refine (RAll.out _ hc1).mono ?_
  rintro e X2 ⟨rfl, hst⟩
  have hb2 := below_from hb1 hst
  have hc2 := below_from hc1 hst
  clear hst p0 f0 p1 f1
  obtain ⟨p0, f0⟩ := blk (HBB.out _ hb2).1
  obtain ⟨p1, f1⟩ := blk (HBB.out _ hb2).2
  go_wp2_with fail
  refine (HSome.out _ hb2).mono ?_
  rintro e X3 ⟨rfl, hst⟩
  have hb3 := below_from hb2 hst
  have hc3 := below_from hc2 hst
  clear hst p0 f0 p1 f1
  obtain ⟨p0, f0⟩ := blk (HBB.out _ hb3).1
  obtain ⟨p1, f1⟩ := blk (HBB.out _ hb3).2
  go_wp2_with fail
  refine (RSome.out _ hc3).mono ?_
  rintro e X4 ⟨rfl, hst⟩
  have hb4 := below_from hb3 hst
  have hc4 := below_from hc3 hst
  clear hst p0 f0 p1 f1
  obtain ⟨p0, f0⟩ := blk (HBB.out _ hb4).1
  obtain ⟨p1, f1⟩ := blk (HBB.out _ hb4).2
  go_wp2_with fail
  refine (HCount.out _ hb4).mono ?_
  rintro e X5 ⟨rfl, hst⟩
  have hb5 := below_from hb4 hst
  have hc5 := below_from hc4 hst
  clear hst p0 f0 p1 f1
  obtain ⟨p0, f0⟩ := blk (HBB.out _ hb5).1
  obtain ⟨p1, f1⟩ := blk (HBB.out _ hb5).2
  go_wp2_with fail
  refine (HSame.out _ hb5).mono ?_
  rintro e X21 ⟨rfl, hst21⟩
  have hb21 := below_from hb5 hst21
  go_wp2_with fail
  refine (HA.out _ (below_from hx3 hb21)).mono ?_
  rintro e X22 ⟨rfl, hst22⟩
  have hb22 := below_from hb21 hst22
  go_wp2_with fail
  go_ret
  exact ⟨rfl, H1.out.trans ((below_from hx3 hb22).mono hs1)⟩
theorem lawSets_str (v : Value) (d : Doc) (a b : Ps) (s c : Int) (hr : ByteArray) (w : World) (S : Nat → Prop) (h : LinsR w S v d) (sn : Sane d) (he : EnvT w) :
    Calls Tryz.prog 4 #[v, posV a, posV b, .int .i64 s, .int .i64 c, .string hr] w fun e w' => e = .returned (.bool true) ∧ Below w.heap.size w w' := by
  have := lawSets_any v d a b s c hr.data.toList w S h sn he
  rw [show (⟨hr.data.toList.toArray⟩ : ByteArray) = hr by simp] at this
  exact this
end Go.Proofs.YtfoiaoopbkcpoaaGreatDoor
