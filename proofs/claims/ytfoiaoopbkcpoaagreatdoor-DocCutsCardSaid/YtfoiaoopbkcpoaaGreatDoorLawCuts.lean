/- The walk of the law DocCuts. -/
import Derived.Test.YtfoiaoopbkcpoaaGreatDoorDocInsert
import Derived.Test.YtfoiaoopbkcpoaaGreatDoorRefDSplit
import Derived.Test.YtfoiaoopbkcpoaaGreatDoorLawPlaces
import Derived.Test.YtfoiaoopbkcpoaaGreatDoorIsShape
import Derived.Test.YtfoiaoopbkcpoaaGreatDoorLawNew
namespace Go.Proofs.YtfoiaoopbkcpoaaGreatDoor
open Go.RowKit
open Go.Proofs.Qw
set_option maxRecDepth 100000 in
set_option maxHeartbeats 8000000 in
theorem lawCuts_any (v lv : Value) (d : Doc) (a b : Ps) (l : List Cel) (w : World) (S S4 : Nat → Prop) (h : LinsR w S v d) (hl : CelsR false w S4 lv l) (sn : Sane d) (sc : l.length ≤ 70368744177664 ∧ ∀ c ∈ l, c.href.length ≤ 281474976710656) (he : EnvT w) :
    Calls Tryz.prog 8 #[v, posV a, posV b, lv] w fun e w' => e = .returned (.bool true) ∧ Below w.heap.size w w' := by
  obtain ⟨W1, hW1, hB, hz, k0, k1⟩ := two_pos w (.int .i64 a.line) (.int .i64 a.col) (.int .i64 b.line) (.int .i64 b.col)
  have hv := h.below (rdLin_stable _) hB
  have hlc := SliceR.below (rdOf_stable _) hl hB
  have he1 := he.below hB
  have HL := Lib.hid (long_any v d W1 S hv sn)
  have HA : Hid (∀ W, Below W1.heap.size W1 W → Calls Tryz.prog 11 #[] W fun e w' => e = .returned (.bool true) ∧ Below W.heap.size W w') := Lib.hid fun W hW => awake_any W (he1.below hW)
  have HB : Hid (∀ W, Below W1.heap.size W1 W → W.heap[w.heap.size]? = some (.cells #[.int .i64 a.line, .int .i64 a.col] 24) ∧ W.heap[w.heap.size + 1]? = some (.cells #[.int .i64 b.line, .int .i64 b.col] 24)) := Lib.hid fun W hW => ⟨heap_below hW k0, heap_below hW k1⟩
  have HV := Lib.hid hv
  have HLC := Lib.hid hlc
  have HE := Lib.hid he1
  have HP : Hid (∀ p : Ps, posV p = .agg #[.int .i64 p.line, .int .i64 p.col]) := Lib.hid fun _ => rfl
  have H1 := Lib.hid hB
  have hs1 := hB.size
  obtain ⟨va, vc, rfl⟩ := h.slice
  obtain ⟨lb, lc, rfl⟩ := hl.slice
  have HL2 : Hid (∀ W, Below W1.heap.size W1 W → Calls Tryz.prog 10 #[.slice (some ⟨W.heap.size, 0, none⟩) 1 1] (W.alloc (.cells #[.int .i64 0, .slice none 0 0, .int .i64 0, .slice lb l.length lc] 55)) (LongSaid [⟨0, [], 0, l⟩] (W.alloc (.cells #[.int .i64 0, .slice none 0 0, .int .i64 0, .slice lb l.length lc] 55)))) := Lib.hid fun W hW =>
    long_any _ _ _ _ (lins_new (SliceR.below (rdOf_stable _) hlc hW)) (fun x hx => by
      obtain rfl : x = ⟨0, [], 0, l⟩ := by simpa using hx
      exact ⟨by simp, sc.1, sc.2⟩)
  have hw0 : Below W1.heap.size W1 W1 := Below.refl _ _
  obtain ⟨p0, f0⟩ := blk k0
  obtain ⟨p1, f1⟩ := blk k1
  clear h hl he hv hlc he1 k0 k1 hB sn sc
  rw [HP.out a, HP.out b]
  go_enter Tryz.func8, Tryz.ntmps8
  go_wp2_with fail
  refine HL.out.mono ?_
  rintro e w2 ⟨r, rfl, hr2, hb2⟩
  cases r
  case' true =>
    go_wp2_with fail
    refine (HA.out _ hb2).mono ?_
    rintro e w3 ⟨rfl, hb3⟩
    go_wp2_with fail
    go_ret
    exact ⟨rfl, H1.out.trans ((below_from hb2 hb3).mono hs1)⟩
  go_wp2_with fail
  refine (HL2.out _ hb2).mono ?_
  rintro e w3 ⟨r, rfl, hr3, hb3⟩
  have hx3a := below_from (hb2.alloc hb2.size _) hb3
  cases r
  case' true =>
    go_wp2_with fail
    refine (HA.out _ hx3a).mono ?_
    rintro e w4 ⟨rfl, hb4⟩
    go_wp2_with fail
    go_ret
    exact ⟨rfl, H1.out.trans ((below_from hx3a hb4).mono hs1)⟩
  have HS := Lib.hid (hr2 (by first | rfl | trivial))
  have HSL := Lib.hid (hr3 (by first | rfl | trivial))
  clear hr2 hr3
  have hln : l.length ≤ 20000 := by have := HSL.out.size; simpa [sizeD] using this
  have hlh : ∀ c ∈ l, c.href.length ≤ 1000000 := fun c hc => by have := (HSL.out.lin ⟨0, [], 0, l⟩ (by simp)).2 c hc; omega
  have HO := Lib.hid (refOwnD_any _ d w3 S (HV.out.below (rdLin_stable _) hx3a) HS.out.fits)
  go_wp2_with fail
  refine HO.out.mono ?_
  rintro e w4 ⟨v4, rfl, hv4, hb4⟩
  have hx4 := below_from hx3a hb4
  obtain ⟨va4, vc4, rfl⟩ := hv4.slice
  have HOL := Lib.hid (refOwnC_any _ l false w4 S4 (SliceR.below (rdOf_stable _) HLC.out hx4) (by omega))
  go_wp2_with fail
  refine HOL.out.mono ?_
  rintro e w5 ⟨v5, rfl, hv5, hb5⟩
  have hx5 := below_from hx4 hb5
  obtain ⟨lb5, lc5, rfl⟩ := hv5.slice
  obtain ⟨S3, hS3⟩ : ∃ S : Nat → Prop, (fun b => w3.heap.size ≤ b) = S := ⟨_, rfl⟩
  obtain ⟨S5, hS5⟩ : ∃ S : Nat → Prop, (fun b => w4.heap.size ≤ b) = S := ⟨_, rfl⟩
  rw [hS3] at hv4
  rw [hS5] at hv5
  have HV3 : Hid (∀ W, Below w5.heap.size w5 W → LinsR W S3 (.slice va4 d.length vc4) d) := Lib.hid fun W hW => (DocR.read hv4).below (rdLin_stable _) (below_from hb5 hW)
  have HLV : Hid (∀ W, Below w5.heap.size w5 W → CelsR false W S5 (.slice lb5 l.length lc5) l) := Lib.hid fun W hW => SliceR.below (rdOf_stable _) (SliceR.read (fun _ _ h => h) hv5) hW
  have hs5 := hx5.size
  have hsw5 : w.heap.size + 2 ≤ w5.heap.size := by omega
  have HBB : Hid (∀ W, Below w5.heap.size w5 W → W.heap[w.heap.size]? = some (.cells #[.int .i64 a.line, .int .i64 a.col] 24) ∧ W.heap[w.heap.size + 1]? = some (.cells #[.int .i64 b.line, .int .i64 b.col] 24)) := Lib.hid fun W hW => HB.out W (below_from hx5 hW)
  have HVV : Hid (∀ W, Below w5.heap.size w5 W → LinsR W S (.slice va d.length vc) d) := Lib.hid fun W hW => HV.out.below (rdLin_stable _) (below_from hx5 hW)
  have HLL : Hid (∀ W, Below w5.heap.size w5 W → CelsR false W S4 (.slice lb l.length lc) l) := Lib.hid fun W hW => SliceR.below (rdOf_stable _) HLC.out (below_from hx5 hW)
  have HEE : Hid (∀ W, Below w5.heap.size w5 W → EnvT W) := Lib.hid fun W hW => HE.out.below (below_from hx5 hW)
  have HSM := Lib.hid HS.out.small
  have HFI := Lib.hid HS.out.fits
  obtain ⟨E1, hE1⟩ : ∃ x, partD d a b = x := ⟨_, rfl⟩
  obtain ⟨E2, hE2⟩ : ∃ x, deleteD d a b = x := ⟨_, rfl⟩
  obtain ⟨E3, hE3⟩ : ∃ x, insertD l d a = x := ⟨_, rfl⟩
  obtain ⟨E4, hE4⟩ : ∃ x, splitD d b = x := ⟨_, rfl⟩
  have hlm : l.length ≤ 1000000 := by omega
  have HPart : Hid (∀ W, Below w5.heap.size w5 W → Calls Tryz.prog 51 #[.slice va d.length vc, .agg #[.int .i64 a.line, .int .i64 a.col], .agg #[.int .i64 b.line, .int .i64 b.col]] W (DocSaid E1 W)) := Lib.hid fun W hW => by
    have := docPart_any _ d a b W S (HVV.out W hW) (HEE.out W hW) HSM.out HFI.out
    rw [hE1] at this
    exact this
  have RPart : Hid (∀ W, Below w5.heap.size w5 W → Calls Tryz.prog 52 #[.slice va4 d.length vc4, .agg #[.int .i64 a.line, .int .i64 a.col], .agg #[.int .i64 b.line, .int .i64 b.col]] W (DocSaid E1 W)) := Lib.hid fun W hW => by
    have := refPart_any _ d a b W S3 (HV3.out W hW) HSM.out HFI.out
    rw [hE1] at this
    exact this
  have HDel : Hid (∀ W, Below w5.heap.size w5 W → Calls Tryz.prog 49 #[.slice va d.length vc, .agg #[.int .i64 a.line, .int .i64 a.col], .agg #[.int .i64 b.line, .int .i64 b.col]] W (DocSaid E2 W)) := Lib.hid fun W hW => by
    have := docDelete_any _ d a b W S (HVV.out W hW) (HEE.out W hW) HSM.out HFI.out
    rw [hE2] at this
    exact this
  have RDel : Hid (∀ W, Below w5.heap.size w5 W → Calls Tryz.prog 53 #[.slice va4 d.length vc4, .agg #[.int .i64 a.line, .int .i64 a.col], .agg #[.int .i64 b.line, .int .i64 b.col]] W (DocSaid E2 W)) := Lib.hid fun W hW => by
    have := refDDelete_any _ d a b W S3 (HV3.out W hW) HSM.out HFI.out
    rw [hE2] at this
    exact this
  have HIns : Hid (∀ W, Below w5.heap.size w5 W → Calls Tryz.prog 54 #[.slice va d.length vc, .agg #[.int .i64 a.line, .int .i64 a.col], .slice lb l.length lc] W (DocPSaid E3 W)) := Lib.hid fun W hW => by
    have := docInsert_any _ _ d l a W S S4 (HVV.out W hW) (HLL.out W hW) (HEE.out W hW) HSM.out HFI.out hlm hlh
    rw [hE3] at this
    exact this
  have RIns : Hid (∀ W, Below w5.heap.size w5 W → Calls Tryz.prog 55 #[.slice va4 d.length vc4, .agg #[.int .i64 a.line, .int .i64 a.col], .slice lb5 l.length lc5] W (DocPSaid E3 W)) := Lib.hid fun W hW => by
    have := refDInsert_any _ _ d l a W S3 S5 (HV3.out W hW) (HLV.out W hW) HSM.out HFI.out hlm hlh
    rw [hE3] at this
    exact this
  have HSpl : Hid (∀ W, Below w5.heap.size w5 W → Calls Tryz.prog 56 #[.slice va d.length vc, .agg #[.int .i64 b.line, .int .i64 b.col]] W (DocPSaid E4 W)) := Lib.hid fun W hW => by
    have := docSplit_any _ d b W S (HVV.out W hW) (HEE.out W hW) HSM.out HFI.out
    rw [hE4] at this
    exact this
  have RSpl : Hid (∀ W, Below w5.heap.size w5 W → Calls Tryz.prog 57 #[.slice va4 d.length vc4, .agg #[.int .i64 b.line, .int .i64 b.col]] W (DocPSaid E4 W)) := Lib.hid fun W hW => by
    have := refDSplit_any _ d b W S3 (HV3.out W hW) HSM.out HFI.out
    rw [hE4] at this
    exact this
  have HSame : Hid (∀ W, Below w5.heap.size w5 W → Calls Tryz.prog 33 #[.slice va d.length vc, .slice va4 d.length vc4] W fun e w' => e = .returned (.bool true) ∧ Below W.heap.size W w') := Lib.hid fun W hW => by
    have := refSame_any _ _ d d W S S3 (HVV.out W hW) (HV3.out W hW)
    rwa [decide_eq_true rfl] at this
  have HSameC : Hid (∀ W, Below w5.heap.size w5 W → Calls Tryz.prog 48 #[.slice lb l.length lc, .slice lb5 l.length lc5] W fun e w' => e = .returned (.bool true) ∧ Below W.heap.size W w') := Lib.hid fun W hW => by
    have := refSameC_any _ _ l l W S4 S5 (HLL.out W hW) (HLV.out W hW)
    rwa [decide_eq_true rfl] at this
  obtain ⟨P3, hP3⟩ : ∃ P, E3.2.1 = P := ⟨_, rfl⟩
  obtain ⟨P4, hP4⟩ : ∃ P, E4.2.1 = P := ⟨_, rfl⟩
  have hq3 : ∀ w, (binOp .neq 24 (.agg #[.int .i64 P3.line, .int .i64 P3.col]) (.agg #[.int .i64 P3.line, .int .i64 P3.col])).run Tryz.prog w = .ok (.bool false) w := fun w => by rw [run_neq_pos, decide_eq_true rfl]; rfl
  have hq4 : ∀ w, (binOp .eql 24 (.agg #[.int .i64 P4.line, .int .i64 P4.col]) (.agg #[.int .i64 P4.line, .int .i64 P4.col])).run Tryz.prog w = .ok (.bool true) w := fun w => by rw [run_eql_pos, decide_eq_true rfl]
  have HP3 := Lib.hid hP3
  have HP4 := Lib.hid hP4
  clear hE1 hE2 hE3 hE4 hP3 hP4 hv4 hv5 hS3 hS5 HO HOL HL HL2 p0 f0 p1 f1 hW1 HB HV HE HLC hlh hln hlm
  have hb5z : Below w5.heap.size w5 w5 := Below.refl _ _
  obtain ⟨p0, f0⟩ := blk (HBB.out _ hb5z).1
  obtain ⟨p1, f1⟩ := blk (HBB.out _ hb5z).2
  go_wp2_with fail
  refine (HPart.out _ hb5z).mono ?_
  intro e x1 hsaid
  obtain ⟨vx1, rfl, hvx1, hstx1⟩ := hsaid
  have hbx1 := below_from hb5z hstx1
  have HVx1 := Lib.hid hvx1
  obtain ⟨ax1, cx1, rfl⟩ := hvx1.slice
  clear hvx1 p0 f0 p1 f1
  obtain ⟨p0, f0⟩ := blk (HBB.out _ hbx1).1
  obtain ⟨p1, f1⟩ := blk (HBB.out _ hbx1).2
  go_wp2_with fail
  refine (RPart.out _ hbx1).mono ?_
  intro e x2 hsaid
  obtain ⟨vx2, rfl, hvx2, hstx2⟩ := hsaid
  have hbx2 := below_from hbx1 hstx2
  have hI := lawIs_any _ _ E1.1 E1.1 E1.2 E1.2 _ x2 _ (Nat.le_trans hstx1.size hstx2.size) (HVx1.out.below hstx2) hvx2.read
  obtain ⟨ax2, cx2, rfl⟩ := hvx2.slice
  rw [decide_eq_true (rfl : E1.2 = E1.2), decide_eq_true (rfl : E1.1 = E1.1)] at hI
  have HI := Lib.hid hI
  clear hI hvx2 p0 f0 p1 f1 HVx1
  go_wp2_with fail
  refine HI.out.mono ?_
  rintro e x3 ⟨rfl, hstx3⟩
  have hbx3 : Below w5.heap.size w5 x3 := below_from hb5z ((below_from hstx1 hstx2).trans hstx3)
  clear HI hstx1 hstx2 hstx3
  obtain ⟨p0, f0⟩ := blk (HBB.out _ hbx3).1
  obtain ⟨p1, f1⟩ := blk (HBB.out _ hbx3).2
  go_wp2_with fail
  refine (HDel.out _ hbx3).mono ?_
  intro e x4 hsaid
  obtain ⟨vx4, rfl, hvx4, hstx4⟩ := hsaid
  have hbx4 := below_from hbx3 hstx4
  have HVx4 := Lib.hid hvx4
  obtain ⟨ax4, cx4, rfl⟩ := hvx4.slice
  clear hvx4 p0 f0 p1 f1
  obtain ⟨p0, f0⟩ := blk (HBB.out _ hbx4).1
  obtain ⟨p1, f1⟩ := blk (HBB.out _ hbx4).2
  go_wp2_with fail
  refine (RDel.out _ hbx4).mono ?_
  intro e x5 hsaid
  obtain ⟨vx5, rfl, hvx5, hstx5⟩ := hsaid
  have hbx5 := below_from hbx4 hstx5
  have hI := lawIs_any _ _ E2.1 E2.1 E2.2 E2.2 _ x5 _ (Nat.le_trans hstx4.size hstx5.size) (HVx4.out.below hstx5) hvx5.read
  obtain ⟨ax5, cx5, rfl⟩ := hvx5.slice
  rw [decide_eq_true (rfl : E2.2 = E2.2), decide_eq_true (rfl : E2.1 = E2.1)] at hI
  have HI := Lib.hid hI
  clear hI hvx5 p0 f0 p1 f1 HVx4
  go_wp2_with fail
  refine HI.out.mono ?_
  rintro e x6 ⟨rfl, hstx6⟩
  have hbx6 : Below w5.heap.size w5 x6 := below_from hbx3 ((below_from hstx4 hstx5).trans hstx6)
  clear HI hstx4 hstx5 hstx6
  obtain ⟨p0, f0⟩ := blk (HBB.out _ hbx6).1
  obtain ⟨p1, f1⟩ := blk (HBB.out _ hbx6).2
  go_wp2_with fail
  refine (HIns.out _ hbx6).mono ?_
  intro e x7 hsaid
  obtain ⟨vx7, rfl, hvx7, hstx7⟩ := hsaid
  have hbx7 := below_from hbx6 hstx7
  have HVx7 := Lib.hid hvx7
  obtain ⟨ax7, cx7, rfl⟩ := hvx7.slice
  rw [HP3.out, HP.out P3]
  clear hvx7 p0 f0 p1 f1
  obtain ⟨p0, f0⟩ := blk (HBB.out _ hbx7).1
  obtain ⟨p1, f1⟩ := blk (HBB.out _ hbx7).2
  have hz7 := hbx7.size
  have na : ¬ w.heap.size = x7.heap.size := by omega
  have nb : ¬ w.heap.size + 1 = x7.heap.size := by omega
  have nc : ¬ x7.heap.size = w.heap.size := by omega
  have nd : ¬ x7.heap.size = w.heap.size + 1 := by omega
  have r0 : ∀ ob k, (x7.alloc ob).cell? ⟨w.heap.size, k, none⟩ = _ := fun ob k => (World.cell?_of_block (heap_alloc_old _ _ (by show w.heap.size < _; omega))).trans (p0 k)
  have r1 : ∀ ob k, (x7.alloc ob).cell? ⟨w.heap.size + 1, k, none⟩ = _ := fun ob k => (World.cell?_of_block (heap_alloc_old _ _ (by show w.heap.size + 1 < _; omega))).trans (p1 k)
  go_wp2_with fail
  obtain ⟨y7, hy7⟩ : ∃ y, x7.alloc (.cells #[.int .i64 P3.line, .int .i64 P3.col] 24) = y := ⟨_, rfl⟩
  rw [hy7]
  have hsy7 : Below x7.heap.size x7 y7 := hy7 ▸ (Below.refl _ _).alloc (Nat.le_refl _) _
  have g15 : y7.heap[x7.heap.size]? = some (.cells #[.int .i64 P3.line, .int .i64 P3.col] 24) := hy7 ▸ heap_new _ _ rfl
  have hby7 := below_from hbx7 hsy7
  have hzy7 : x7.heap.size < y7.heap.size := (Array.getElem?_eq_some_iff.1 g15).1
  clear p0 f0 p1 f1 r0 r1 na nb nc nd hy7
  refine (RIns.out _ hby7).mono ?_
  intro e x8 hsaid
  obtain ⟨vx8, rfl, hvx8, hstx8⟩ := hsaid
  have hbx8 := below_from hby7 hstx8
  have HVx8 := Lib.hid hvx8
  obtain ⟨ax8, cx8, rfl⟩ := hvx8.slice
  rw [HP3.out, HP.out P3]
  have g15 := heap_below hstx8 g15
  have hz8 := hbx8.size
  have hz78 := hstx8.size
  have hh16 : (x8.alloc (.cells #[.int .i64 P3.line, .int .i64 P3.col] 24)).heap[x8.heap.size]? = some (.cells #[.int .i64 P3.line, .int .i64 P3.col] 24) := heap_new _ _ rfl
  have hh15 : (x8.alloc (.cells #[.int .i64 P3.line, .int .i64 P3.col] 24)).heap[x7.heap.size]? = some (.cells #[.int .i64 P3.line, .int .i64 P3.col] 24) := heap_old _ _ g15
  have hsy8 : Below x8.heap.size x8 (x8.alloc (.cells #[.int .i64 P3.line, .int .i64 P3.col] 24)) := (Below.refl _ _).alloc (Nat.le_refl _) _
  have HI := lawIsS_any _ _ E3.1 E3.1 E3.2.2 E3.2.2 _ (x8.alloc (.cells #[.int .i64 P3.line, .int .i64 P3.col] 24)) _ (Nat.le_trans hstx7.size (Nat.le_trans hsy7.size (Nat.le_trans hstx8.size hsy8.size))) (HVx7.out.below (below_from (below_from hsy7 hstx8) hsy8)) (hvx8.read.below (rdLin_stable _) hsy8)
  rw [decide_eq_true (rfl : E3.2.2 = E3.2.2), decide_eq_true (rfl : E3.1 = E3.1)] at HI
  have HI := Lib.hid HI
  clear hvx8 HVx7 HVx8
  obtain ⟨q15, e15⟩ := blk hh15
  obtain ⟨q16, e16⟩ := blk hh16
  go_wp2_with fail
  refine HI.out.mono ?_
  rintro e x9 ⟨rfl, hst9, hkin⟩
  have hbx9 : Below w5.heap.size w5 x9 := (below_from hbx8 hsy8).trans (hst9.mono hbx6.size)
  obtain ⟨c15, j15, k15⟩ := hkin _ _ _ hh15
  obtain ⟨c16, j16, k16⟩ := hkin _ _ _ hh16
  obtain ⟨u0, u1, g15b⟩ : ∃ u0 u1, x9.heap[x7.heap.size]? = some (.cells #[u0, u1] 24) := by
    obtain ⟨l⟩ := c15
    match l, k15 with
    | [a, b], _ => exact ⟨a, b, j15⟩
  obtain ⟨z0, z1, g16b⟩ : ∃ u0 u1, x9.heap[x8.heap.size]? = some (.cells #[u0, u1] 24) := by
    obtain ⟨l⟩ := c16
    match l, k16 with
    | [a, b], _ => exact ⟨a, b, j16⟩
  have hz9 : x8.heap.size < x9.heap.size := (Array.getElem?_eq_some_iff.1 g16b).1
  clear HI hst9 hkin j15 k15 j16 k16 c15 c16 hh15 hh16 q15 e15 q16 e16 g15
  obtain ⟨p0, f0⟩ := blk (HBB.out _ hbx9).1
  obtain ⟨p1, f1⟩ := blk (HBB.out _ hbx9).2
  go_wp2_with fail
  refine (HSpl.out _ hbx9).mono ?_
  intro e x10 hsaid
  obtain ⟨vx10, rfl, hvx10, hstx10⟩ := hsaid
  have hbx10 := below_from hbx9 hstx10
  obtain ⟨ax10, cx10, rfl⟩ := hvx10.slice
  rw [HP4.out, HP.out P4]
  have g15c := heap_below hstx10 g15b
  have g16c := heap_below hstx10 g16b
  obtain ⟨y10, hy10⟩ : ∃ y, (x10.setCell ⟨x7.heap.size, 0, none⟩ (.int .i64 P4.line)).setCell ⟨x7.heap.size, 1, none⟩ (.int .i64 P4.col) = y := ⟨_, rfl⟩
  have ne78 : ¬ x7.heap.size = x8.heap.size := by omega
  have hby10 : Below w5.heap.size w5 y10 := hy10 ▸ (hbx10.setCell (by show w5.heap.size ≤ x7.heap.size; omega) _).setCell (by show w5.heap.size ≤ x7.heap.size; omega) _
  have i15 : y10.heap[x7.heap.size]? = some (.cells #[.int .i64 P4.line, .int .i64 P4.col] 24) := by rw [← hy10]; simp [heap_set, putIn, g15c]
  have i16 : y10.heap[x8.heap.size]? = some (.cells #[z0, z1] 24) := by rw [← hy10]; simp [heap_set, ne78, g16c]
  have hv10 : DocR true y10 (fun b => x9.heap.size ≤ b) (.slice ax10 E4.1.length cx10) E4.1 := hy10 ▸ SliceR.stable (rdLin_stable true) hvx10 (((Keeps.refl _ _).set (fun hh => by have hh : x9.heap.size ≤ x7.heap.size := hh; omega) _).set (fun hh => by have hh : x9.heap.size ≤ x7.heap.size := hh; omega) _) (fun _ h _ => h)
  have HV10 := Lib.hid hv10
  have hz10 : x9.heap.size ≤ y10.heap.size := by rw [← hy10]; simpa using hstx10.size
  have hs910 : Below x9.heap.size x10 x10 := Below.refl _ _
  clear p0 f0 p1 f1 hvx10 hv10
  obtain ⟨p0, f0⟩ := blk (HBB.out _ hby10).1
  obtain ⟨p1, f1⟩ := blk (HBB.out _ hby10).2
  obtain ⟨q15, e15⟩ := blk g15c
  have na : ¬ w.heap.size + 1 = x7.heap.size := by omega
  have nb : ¬ x7.heap.size = w.heap.size + 1 := by omega
  go_wp2_with fail
  clear p0 f0 p1 f1 q15 e15 hy10
  refine (RSpl.out _ hby10).mono ?_
  intro e x11 hsaid
  obtain ⟨vx11, rfl, hvx11, hstx11⟩ := hsaid
  have hbx11 := below_from hby10 hstx11
  obtain ⟨ax11, cx11, rfl⟩ := hvx11.slice
  rw [HP4.out, HP.out P4]
  have g15d := heap_below hstx11 i15
  have g16d := heap_below hstx11 i16
  obtain ⟨y11, hy11⟩ : ∃ y, (x11.setCell ⟨x8.heap.size, 0, none⟩ (.int .i64 P4.line)).setCell ⟨x8.heap.size, 1, none⟩ (.int .i64 P4.col) = y := ⟨_, rfl⟩
  have hby11 : Below w5.heap.size w5 y11 := hy11 ▸ (hbx11.setCell (by show w5.heap.size ≤ x8.heap.size; omega) _).setCell (by show w5.heap.size ≤ x8.heap.size; omega) _
  have ne87 : ¬ x8.heap.size = x7.heap.size := by omega
  have k16 : y11.heap[x8.heap.size]? = some (.cells #[.int .i64 P4.line, .int .i64 P4.col] 24) := by rw [← hy11]; simp [heap_set, putIn, g16d]
  have k15 : y11.heap[x7.heap.size]? = some (.cells #[.int .i64 P4.line, .int .i64 P4.col] 24) := by rw [← hy11]; simp [heap_set, ne87, g15d]
  have hv11 := hy11 ▸ SliceR.stable (rdLin_stable false) hvx11.read (((Keeps.refl _ _).set (fun hh => by have hh : y10.heap.size ≤ x8.heap.size := hh; omega) (.int .i64 P4.line)).set (fun hh => by have hh : y10.heap.size ≤ x8.heap.size := hh; omega) (.int .i64 P4.col)) (fun _ h _ => h)
  have hz11 : x9.heap.size ≤ y11.heap.size := by rw [← hy11]; simp; exact Nat.le_trans hz10 hstx11.size
  have hs11 : Keeps (fun b => x9.heap.size ≤ b) y10 y11 := hy11 ▸ ((Keeps.all hstx11).set (fun hh => by have hh : x9.heap.size ≤ x8.heap.size := hh; omega) _).set (fun hh => by have hh : x9.heap.size ≤ x8.heap.size := hh; omega) _
  have HI := lawIs_any _ _ E4.1 E4.1 E4.2.2 E4.2.2 _ y11 _ hz11 (SliceR.stable (rdLin_stable true) HV10.out hs11 (fun _ h _ => h)) hv11
  rw [decide_eq_true (rfl : E4.2.2 = E4.2.2), decide_eq_true (rfl : E4.1 = E4.1)] at HI
  have HI := Lib.hid HI
  clear hvx11 hv11 HV10 hs11
  obtain ⟨q16, e16⟩ := blk g16d
  obtain ⟨m16, n16⟩ := blk k16
  obtain ⟨m15, n15⟩ := blk k15
  go_wp2_with fail
  refine HI.out.mono ?_
  rintro e x12 ⟨rfl, hst12⟩
  have hb12 : Below w5.heap.size w5 x12 := hby11.trans (hst12.mono hbx9.size)
  go_wp2_with fail
  refine (HSame.out _ hb12).mono ?_
  rintro e x13 ⟨rfl, hst13⟩
  have hb13 := below_from hb12 hst13
  go_wp2_with fail
  refine (HSameC.out _ hb13).mono ?_
  rintro e x14 ⟨rfl, hst14⟩
  have hb14 := below_from hx5 (below_from hb13 hst14)
  go_wp2_with fail
  refine (HA.out _ hb14).mono ?_
  rintro e x15 ⟨rfl, hst15⟩
  go_wp2_with fail
  go_ret
  exact ⟨rfl, H1.out.trans ((below_from hb14 hst15).mono hs1)⟩
end Go.Proofs.YtfoiaoopbkcpoaaGreatDoor
