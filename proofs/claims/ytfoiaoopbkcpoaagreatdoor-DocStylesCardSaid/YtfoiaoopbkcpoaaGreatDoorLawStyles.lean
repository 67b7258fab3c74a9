/- The walk of the law DocStyles. -/
import Derived.Test.YtfoiaoopbkcpoaaGreatDoorStylePlain
import Derived.Test.YtfoiaoopbkcpoaaGreatDoorLawParts
import Derived.Test.YtfoiaoopbkcpoaaGreatDoorLawSets
import Derived.Deep.Cut
import Derived.Deep.CutRange
namespace Go.Proofs.YtfoiaoopbkcpoaaGreatDoor
open Go.RowKit
open Go.Proofs.Qw
theorem may_href {c : Cel} (h : mayC c = true) : c.href.length ≤ 1000000 := by
  unfold mayC linkF at h
  simp only [Bool.and_eq_true, Bool.or_eq_true, decide_eq_true_eq] at h
  rcases h.2 with e | e
  · rw [e]; simp
  · unfold targetF valueF valueB at e
    simp only [Bool.and_eq_true, decide_eq_true_eq] at e
    have h5 := e.1.2.1
    have : (⟨c.href.toArray⟩ : ByteArray).size = c.href.length := by show c.href.toArray.size = _; simp
    omega
set_option maxRecDepth 100000 in
set_option maxHeartbeats 8000000 in
theorem lawStyles_any (v : Value) (d : Doc) (a b : Ps) (s c : Int) (w : World) (S : Nat → Prop) (h : LinsR w S v d) (sn : Sane d) (he : EnvT w) :
    Calls Tryz.prog 5 #[v, posV a, posV b, .int .i64 s, .int .i64 c] w fun e w' => e = .returned (.bool true) ∧ Below w.heap.size w w' := by
  obtain ⟨W1, hW1, hB, hz, k0, k1⟩ := two_pos w (.int .i64 a.line) (.int .i64 a.col) (.int .i64 b.line) (.int .i64 b.col)
  have hv := h.below (rdLin_stable _) hB
  have he1 := he.below hB
  have HL := Lib.hid (long_any v d W1 S hv sn)
  have HA : Hid (∀ W, Below W1.heap.size W1 W → Calls Tryz.prog 11 #[] W fun e w' => e = .returned (.bool true) ∧ Below W.heap.size W w') := Lib.hid fun W hW => awake_any W (he1.below hW)
  have HB : Hid (∀ W, Below W1.heap.size W1 W → W.heap[w.heap.size]? = some (.cells #[.int .i64 a.line, .int .i64 a.col] 24) ∧ W.heap[w.heap.size + 1]? = some (.cells #[.int .i64 b.line, .int .i64 b.col] 24)) := Lib.hid fun W hW => ⟨heap_below hW k0, heap_below hW k1⟩
  have HV := Lib.hid hv
  have HE := Lib.hid he1
  have HP : Hid (∀ p : Ps, posV p = .agg #[.int .i64 p.line, .int .i64 p.col]) := Lib.hid fun _ => rfl
  have H1 := Lib.hid hB
  have hs1 := hB.size
  obtain ⟨va, vc, rfl⟩ := h.slice
  obtain ⟨s1, hs1'⟩ : ∃ x, bits .and .i64 s 15 = x := ⟨_, rfl⟩
  obtain ⟨c1, hc1'⟩ : ∃ x, bits .and .i64 c 15 = x := ⟨_, rfl⟩
  have HSB : Hid ((0 ≤ s1 ∧ s1 ≤ 15) ∧ (0 ≤ c1 ∧ c1 ≤ 15)) := Lib.hid ⟨hs1' ▸ Go.Proofs.Qw.bits_mask s, hc1' ▸ Go.Proofs.Qw.bits_mask c⟩
  obtain ⟨p0, f0⟩ := blk k0
  obtain ⟨p1, f1⟩ := blk k1
  clear h he hv he1 k0 k1 hB sn
  rw [HP.out a, HP.out b]
  go_enter Tryz.func5, Tryz.ntmps5
  go_wp2_with fail
  refine HL.out.mono ?_
  rintro e w2 ⟨r, rfl, hr2, hb2⟩
  cases r
  case' true =>
    go_wp2_with fail
    refine (HA.out _ hb2).mono ?_
    rintro e wx ⟨rfl, hbx⟩
    go_wp2_with fail
    go_ret
    exact ⟨rfl, H1.out.trans ((below_from hb2 hbx).mono hs1)⟩
  have HS := Lib.hid (hr2 (by first | rfl | trivial))
  clear hr2 hW1
  have HSM := Lib.hid HS.out.small
  have HFI := Lib.hid HS.out.fits
  obtain ⟨E1, hE1⟩ : ∃ x, setD s1 c1 d a b = x := ⟨_, rfl⟩
  have HSet : Hid (∀ W, Below W1.heap.size W1 W → Calls Tryz.prog 34 #[.slice va d.length vc, .agg #[.int .i64 a.line, .int .i64 a.col], .agg #[.int .i64 b.line, .int .i64 b.col], .int .i64 s1, .int .i64 c1] W (DocSaid E1 W)) := Lib.hid fun W hW => by
    have := docSet_any _ d a b s1 c1 W S (HV.out.below (rdLin_stable _) hW) (HE.out.below hW) HSM.out HFI.out
    rw [hE1] at this
    exact this
  have HCt : Hid (∀ W, Below W1.heap.size W1 W → Calls Tryz.prog 43 #[.slice va d.length vc, .agg #[.int .i64 a.line, .int .i64 a.col], .agg #[.int .i64 b.line, .int .i64 b.col]] W fun e w' => e = .returned (.int .i64 (cellsD d a b).length) ∧ Below W.heap.size W w') := Lib.hid fun W hW => by
    have := docCount_any _ d a b W S (HV.out.below (rdLin_stable _) hW) (HE.out.below hW) HSM.out
    exact this
  clear p0 f0 p1 f1
  obtain ⟨p0, f0⟩ := blk (HB.out _ hb2).1
  obtain ⟨p1, f1⟩ := blk (HB.out _ hb2).2
  go_wp2_with fail
  refine (HSet.out _ hb2).mono ?_
  intro e w3 hsaid
  obtain ⟨v3, rfl, hv3, hstw3⟩ := hsaid
  have hcw3 := below_from hb2 hstw3
  have HVv3 := Lib.hid hv3
  obtain ⟨a3, c3, rfl⟩ := hv3.slice
  clear hv3
  clear p0 f0 p1 f1
  obtain ⟨p0, f0⟩ := blk (HB.out _ hcw3).1
  obtain ⟨p1, f1⟩ := blk (HB.out _ hcw3).2
  cases hsp : spanD d a b
  case' false =>
    obtain rfl : ([], 1) = E1 := by rw [← hE1]; unfold setD eachD; rw [hsp]; rfl
    clear hsp hE1
    go_wp2_with fail
    refine (HA.out _ hcw3).mono ?_
    rintro e wx ⟨rfl, hbx⟩
    go_wp2_with fail
    go_ret
    exact ⟨rfl, H1.out.trans ((below_from hcw3 hbx).mono hs1)⟩
  by_cases hne : cellsD d a b = []
  · obtain rfl : ([], 7) = E1 := by rw [← hE1]; unfold setD eachD; rw [hsp, if_pos rfl, if_pos hne]
    have HC0 := Lib.hid (HCt.out _ hcw3)
    rw [hne] at HC0
    clear hsp hE1 hne HCt
    go_wp2_with fail
    refine HC0.out.mono ?_
    rintro e w4 ⟨rfl, hb4⟩
    have hx4 := below_from hcw3 hb4
    go_wp2_with fail
    refine (HA.out _ hx4).mono ?_
    rintro e wx ⟨rfl, hbx⟩
    go_wp2_with fail
    go_ret
    exact ⟨rfl, H1.out.trans ((below_from hx4 hbx).mono hs1)⟩
  obtain ⟨X, Y, hX, hY, hmX, hmY, hlX, hlY, hsX, hall, hany, hmc, hk⟩ := style_facts HSB.out.1 HSB.out.2 (show linkF [120] = true by kernel_rfl) hsp hne
  obtain rfl : (X, 0) = E1 := hX.symm.trans hE1
  have HLn : Hid (∀ W, Below W1.heap.size W1 W → Calls Tryz.prog 36 #[.slice va d.length vc, .agg #[.int .i64 a.line, .int .i64 a.col], .agg #[.int .i64 b.line, .int .i64 b.col], .string ⟨#[120]⟩] W (DocSaid (Y, 0) W)) := Lib.hid fun W hW => by
    have := docLink_any _ d a b [120] W S (HV.out.below (rdLin_stable _) hW) (HE.out.below hW) HSM.out HFI.out (by decide)
    rw [hY] at this
    exact this
  have HSX := Lib.hid (may_small hmX)
  have HSY := Lib.hid (may_small hmY)
  have HMM := Lib.hid (And.intro hmX (And.intro hmY hsX))
  have HAL := Lib.hid (And.intro hall (And.intro hany hmc))
  have HK := Lib.hid hk
  have hlXi : ((X.length : Int) != (d.length : Int)) = false := by simp; omega
  have hlYi : ((Y.length : Int) != (d.length : Int)) = false := by simp; omega
  have hdl := HSM.out.2.1
  have HLXY := Lib.hid (And.intro hlX hlY)
  clear hlX hlY hX hY hE1 hsp hne hmX hmY hsX hall hany hmc hk HSet HCt
  go_wp2_with fail
  refine (HLn.out _ hcw3).mono ?_
  intro e w4 hsaid
  obtain ⟨v4, rfl, hv4, hstw4⟩ := hsaid
  have hcw4 := below_from hcw3 hstw4
  have HVv4 := Lib.hid hv4
  obtain ⟨a4, c4, rfl⟩ := hv4.slice
  clear hv4
  have HDX := Lib.hid ((DocR.read HVv3.out).below (rdLin_stable _) hstw4)
  have HDY := Lib.hid (DocR.read HVv4.out)
  have HMX : Hid (∀ W, Below w4.heap.size w4 W → Calls Tryz.prog 13 #[.slice a3 X.length c3] W fun e w' => e = .returned (.bool true) ∧ Below W.heap.size W w') := Lib.hid fun W hW => by
    have := docMay_any _ X W W _ (HDX.out.below (rdLin_stable _) hW) (HE.out.below (below_from hcw4 hW)) (Below.refl _ _) HSX.out.1
    rw [HMM.out.1] at this
    exact this
  have HMY : Hid (∀ W, Below w4.heap.size w4 W → Calls Tryz.prog 13 #[.slice a4 Y.length c4] W fun e w' => e = .returned (.bool true) ∧ Below W.heap.size W w') := Lib.hid fun W hW => by
    have := docMay_any _ Y W W _ (HDY.out.below (rdLin_stable _) hW) (HE.out.below (below_from hcw4 hW)) (Below.refl _ _) HSY.out.1
    rw [HMM.out.2.1] at this
    exact this
  have HAX : Hid (∀ W, Below w4.heap.size w4 W → Calls Tryz.prog 39 #[.slice a3 X.length c3, .agg #[.int .i64 a.line, .int .i64 a.col], .agg #[.int .i64 b.line, .int .i64 b.col], .int .i64 s1] W fun e w' => e = .returned (.bool true) ∧ Below W.heap.size W w') := Lib.hid fun W hW => by
    have := docAll_any _ X a b s1 W _ _ rfl (HDX.out.below (rdLin_stable _) hW) (HE.out.below (below_from hcw4 hW)) HSX.out.1
    rw [all_count, HAL.out.1.2, decide_eq_true HAL.out.1.1, Bool.true_and] at this
    exact this
  have HSX2 : Hid (∀ W, Below w4.heap.size w4 W → Calls Tryz.prog 41 #[.slice a3 X.length c3, .agg #[.int .i64 a.line, .int .i64 a.col], .agg #[.int .i64 b.line, .int .i64 b.col], .int .i64 (bits .andNot .i64 c1 s1)] W fun e w' => e = .returned (.bool false) ∧ Below W.heap.size W w') := Lib.hid fun W hW => by
    have := docSome_any _ X a b (bits .andNot .i64 c1 s1) W _ _ rfl (HDX.out.below (rdLin_stable _) hW) (HE.out.below (below_from hcw4 hW)) HSX.out.1
    rw [any_count, HAL.out.2.1] at this
    exact this
  clear p0 f0 p1 f1
  obtain ⟨p0, f0⟩ := blk (HB.out _ hcw4).1
  obtain ⟨p1, f1⟩ := blk (HB.out _ hcw4).2
  have hz4 : Below w4.heap.size w4 w4 := Below.refl _ _
  go_wp2_with fail
  refine (HMX.out _ hz4).mono ?_
  rintro e w5 ⟨rfl, hstw5⟩
  have hcw5 := below_from hz4 hstw5
  go_wp2_with fail
  refine (HMY.out _ hcw5).mono ?_
  rintro e w6 ⟨rfl, hstw6⟩
  have hcw6 := below_from hcw5 hstw6
  clear p0 f0 p1 f1
  obtain ⟨p0, f0⟩ := blk (HB.out _ (below_from hcw4 hcw6)).1
  obtain ⟨p1, f1⟩ := blk (HB.out _ (below_from hcw4 hcw6)).2
  go_wp2_with fail
  refine (HAX.out _ hcw6).mono ?_
  rintro e w7 ⟨rfl, hstw7⟩
  have hcw7 := below_from hcw6 hstw7
  clear p0 f0 p1 f1
  obtain ⟨p0, f0⟩ := blk (HB.out _ (below_from hcw4 hcw7)).1
  obtain ⟨p1, f1⟩ := blk (HB.out _ (below_from hcw4 hcw7)).2
  go_wp2_with fail
  refine (HSX2.out _ hcw7).mono ?_
  rintro e w8 ⟨rfl, hstw8⟩
  have hcw8 := below_from hcw7 hstw8
  clear HMX HMY HAX HSX2 hstw5 hstw6 hstw7 hstw8 hcw5 hcw6 hcw7
  clear p0 f0 p1 f1
  go_wp2_with fail
  obtain ⟨_, _, ex, hxc, hxm, hx⟩ := lins_shape HDX.out
  cases ex
  obtain ⟨_, _, ey, hyc, hym, hy⟩ := lins_shape HDY.out
  cases ey
  obtain ⟨_, _, ed, hdc, hdm, hd⟩ := lins_shape HV.out
  cases ed
  have hb8 := below_from hcw4 hcw8
  have HXX : Hid (∀ i l, X[i]? = some l → ∃ b o la lc ca cc, a3 = some ⟨b, o, none⟩ ∧ LinAt w8 (fun b => w2.heap.size ≤ b) b (o + i * 4) l la lc ca cc) := Lib.hid fun i l hl => by
    obtain ⟨b, o, la, lc, ca, cc, e, hA⟩ := hx i l hl
    exact ⟨b, o, la, lc, ca, cc, e, hA.below hcw8⟩
  have HYY : Hid (∀ i l, Y[i]? = some l → ∃ b o la lc ca cc, a4 = some ⟨b, o, none⟩ ∧ LinAt w8 (fun b => w3.heap.size ≤ b) b (o + i * 4) l la lc ca cc) := Lib.hid fun i l hl => by
    obtain ⟨b, o, la, lc, ca, cc, e, hA⟩ := hy i l hl
    exact ⟨b, o, la, lc, ca, cc, e, hA.below hcw8⟩
  have HDD : Hid (∀ i l, d[i]? = some l → ∃ b o la lc ca cc, va = some ⟨b, o, none⟩ ∧ LinAt w8 S b (o + i * 4) l la lc ca cc) := Lib.hid fun i l hl => by
    obtain ⟨b, o, la, lc, ca, cc, e, hA⟩ := hd i l hl
    exact ⟨b, o, la, lc, ca, cc, e, hA.below hb8⟩
  have HB8 := Lib.hid hb8
  have HX8 := Lib.hid (HDX.out.below (rdLin_stable _) hcw8)
  clear hx hy hd hb8 hcw3 hcw4 hstw3 hstw4 hz4
  go_loopw [15, 16, 17, 18, 19, 20, 21] (fun i _ _ _ _ _ _ wr => ∃ q : Nat, q ≤ d.length ∧ i = .int .i64 q ∧ Below w8.heap.size w8 wr) (fun i _ _ _ _ _ _ _ => d.length - (intOf i).toNat)
  case atStart => exact ⟨0, Nat.zero_le _, rfl, Below.refl _ _⟩
  case round =>
    obtain ⟨q, hq, rfl, hb⟩ := hrel
    by_cases hlt : q < d.length
    · obtain ⟨l, hl, _⟩ := getOf d q hlt
      obtain ⟨x, y, hx, hy, hfr, hxl, hyl, hz⟩ := HK.out q l hl
      have hX1 := (List.getElem?_eq_some_iff.1 hx).1
      have hY1 := (List.getElem?_eq_some_iff.1 hy).1
      obtain ⟨bx, ox, lax, lcx, cax, ccx, rfl, hAx⟩ := HXX.out q x hx
      obtain ⟨by', oy, lay, lcy, cay, ccy, rfl, hAy⟩ := HYY.out q y hy
      obtain ⟨bd, od, lad, lcd, cad, ccd, rfl, hAd⟩ := HDD.out q l hl
      have hfx := HSX.out.2.2 x (mem_of_at hx)
      have hfl := HFI.out.2 l (mem_of_at hl)
      have hlb : l.cells.length ≤ 1000000 := hfl.2
      have hq0 : (0 : Int) ≤ (q : Int) := Int.natCast_nonneg _
      have hq1 : (q : Int) < (d.length : Int) := by omega
      have hq2 : (q : Int) < (X.length : Int) := by omega
      have hq3 : (q : Int) < (Y.length : Int) := by omega
      have HFX : Hid (∀ W, Below w8.heap.size w8 W → Calls Tryz.prog 45 #[linV x (.slice lax x.lists.length lcx) (.slice cax x.cells.length ccx)] W fun e w' => ∃ a', e = .returned (linV x a' (.slice none 0 0)) ∧ IntsR true w' (fun b => W.heap.size ≤ b) a' x.lists ∧ Below W.heap.size W w') := Lib.hid fun W hW => refFrame_any x _ _ false false W _ (hAx.below hW).listsR (hAx.below hW).cellsR hfx.1
      have HFL : Hid (∀ W, Below w8.heap.size w8 W → Calls Tryz.prog 45 #[linV l (.slice lad l.lists.length lcd) (.slice cad l.cells.length ccd)] W fun e w' => ∃ a', e = .returned (linV l a' (.slice none 0 0)) ∧ IntsR true w' (fun b => W.heap.size ≤ b) a' l.lists ∧ Below W.heap.size W w') := Lib.hid fun W hW => refFrame_any l _ _ false false W _ (hAd.below hW).listsR (hAd.below hW).cellsR hfl.1
      have HFS : Hid (∀ a1 a2 W, IntsR false W (fun _ => True) a1 x.lists → IntsR false W (fun _ => True) a2 l.lists → Calls Tryz.prog 44 #[linV x a1 (.slice none 0 0), linV l a2 (.slice none 0 0)] W fun e w' => e = .returned (.bool true) ∧ Below W.heap.size W w') := Lib.hid fun a1 a2 W h1 h2 => by
        have := refSameL_any ⟨x.quote, x.lists, x.kind, []⟩ ⟨l.quote, l.lists, l.kind, []⟩ a1 (.slice none 0 0) a2 (.slice none 0 0) W _ _ h1 (SliceR.nil _ _ _ _ _ _) h2 (SliceR.nil _ _ _ _ _ _)
        rw [decide_eq_true (show (⟨x.quote, x.lists, x.kind, []⟩ : Lin) = ⟨l.quote, l.lists, l.kind, []⟩ by rw [hfr.1, hfr.2.1, hfr.2.2])] at this
        exact this
      unfold linV at HFX HFL HFS
      have HZ := Lib.hid hz
      have HAA := Lib.hid (And.intro hAx (And.intro hAy hAd))
      have hlx : ((x.cells.length : Int) != (l.cells.length : Int)) = false := by simp; omega
      have hly : ((y.cells.length : Int) != (l.cells.length : Int)) = false := by simp; omega
      have HLL := Lib.hid (And.intro hxl hyl)
      clear hz hfr hfx hfl hxl hyl hx hy hl hAx hAy hAd
      go_wp2_with fail
      have HS13 : Hid (∀ T, Below w8.heap.size w8 T → (fun w' => w'.cell? ⟨bx, ox + q * 4, none⟩ = some (.int .i64 x.quote) ∧ w'.cell? ⟨bx, ox + q * 4 + 1, none⟩ = some (.slice lax x.lists.length lcx) ∧ w'.cell? ⟨bx, ox + q * 4 + 2, none⟩ = some (.int .i64 x.kind) ∧ w'.cell? ⟨bx, ox + q * 4 + 3, none⟩ = some (.slice cax x.cells.length ccx) ∧ w'.cell? ⟨bd, od + q * 4, none⟩ = some (.int .i64 l.quote) ∧ w'.cell? ⟨bd, od + q * 4 + 1, none⟩ = some (.slice lad l.lists.length lcd) ∧ w'.cell? ⟨bd, od + q * 4 + 2, none⟩ = some (.int .i64 l.kind) ∧ w'.cell? ⟨bd, od + q * 4 + 3, none⟩ = some (.slice cad l.cells.length ccd) ∧ w'.cell? ⟨by', oy + q * 4 + 3, none⟩ = some (.slice cay y.cells.length ccy)) T) := Lib.hid fun T hT => by
        have h1 := HAA.out.1.below hT
        have h2 := HAA.out.2.1.below hT
        have h3 := HAA.out.2.2.below hT
        exact ⟨h1.quote, h1.lists, h1.kind, h1.cells, h3.quote, h3.lists, h3.kind, h3.cells, h2.cells⟩
      refine wp_region_noPanic ?_
      refine wp_region_held_drew (S := (fun w' => w'.cell? ⟨bx, ox + q * 4, none⟩ = some (.int .i64 x.quote) ∧ w'.cell? ⟨bx, ox + q * 4 + 1, none⟩ = some (.slice lax x.lists.length lcx) ∧ w'.cell? ⟨bx, ox + q * 4 + 2, none⟩ = some (.int .i64 x.kind) ∧ w'.cell? ⟨bx, ox + q * 4 + 3, none⟩ = some (.slice cax x.cells.length ccx) ∧ w'.cell? ⟨bd, od + q * 4, none⟩ = some (.int .i64 l.quote) ∧ w'.cell? ⟨bd, od + q * 4 + 1, none⟩ = some (.slice lad l.lists.length lcd) ∧ w'.cell? ⟨bd, od + q * 4 + 2, none⟩ = some (.int .i64 l.kind) ∧ w'.cell? ⟨bd, od + q * 4 + 3, none⟩ = some (.slice cad l.cells.length ccd) ∧ w'.cell? ⟨by', oy + q * 4 + 3, none⟩ = some (.slice cay y.cells.length ccy))) (by kernel_rfl) (HS13.out _ hb.drew) (fun hHeld => ?_)
      obtain ⟨T0, hT0⟩ : ∃ T, wr.drew = T := ⟨_, rfl⟩
      have hc0 := hT0 ▸ hb.drew
      rw [hT0] at hHeld ⊢
      clear hT0
      refine wpAnyH_take (i := 0) (v := ?_) (by simp only [List.getElem?_toArray, List.getElem?_cons_zero]; rfl) (by kernel_rfl) (by kernel_rfl) (by kernel_rfl) (fun _ _ _ h => h) (Or.inl ⟨by rfl, ?_⟩) (by assumption) ?_
      rotate_left 1
      · intro w hSw; (try dsimp only at hSw); go_simp; (first | done | with_reducible rfl)
      try simp only [Act.put, List.setIfInBounds_toArray, List.set_cons_zero, List.set_cons_succ]
      refine wpAnyH_take (i := 1) (v := ?_) (by simp only [List.getElem?_toArray, List.getElem?_cons_succ, List.getElem?_cons_zero]; rfl) (by kernel_rfl) (by kernel_rfl) (by kernel_rfl) (fun _ _ _ h => h) (Or.inl ⟨by rfl, ?_⟩) (by assumption) ?_
      rotate_left 1
      · intro w hSw; (try dsimp only at hSw); go_simp; (first | done | with_reducible rfl)
      try simp only [Act.put, List.setIfInBounds_toArray, List.set_cons_zero, List.set_cons_succ]
      refine wpAnyH_take (i := 2) (v := ?_) (by simp only [List.getElem?_toArray, List.getElem?_cons_succ, List.getElem?_cons_zero]; rfl) (by kernel_rfl) (by kernel_rfl) (by kernel_rfl) (fun _ _ _ h => h) (Or.inl ⟨by rfl, ?_⟩) (by assumption) ?_
      rotate_left 1
      · intro w hSw; (try dsimp only at hSw); go_simp; (first | done | with_reducible rfl)
      try simp only [Act.put, List.setIfInBounds_toArray, List.set_cons_zero, List.set_cons_succ]
      refine wpAnyH_take (i := 3) (v := ?_) (by simp only [List.getElem?_toArray, List.getElem?_cons_succ, List.getElem?_cons_zero]; rfl) (by kernel_rfl) (by kernel_rfl) (by kernel_rfl) (fun _ _ _ h => h) (Or.inl ⟨by rfl, ?_⟩) (by assumption) ?_
      rotate_left 1
      · intro w hSw; (try dsimp only at hSw); go_simp; (first | done | with_reducible rfl)
      try simp only [Act.put, List.setIfInBounds_toArray, List.set_cons_zero, List.set_cons_succ]
      refine wpAnyH_take (i := 5) (v := ?_) (by simp only [List.getElem?_toArray, List.getElem?_cons_succ, List.getElem?_cons_zero]; rfl) (by kernel_rfl) (by kernel_rfl) (by kernel_rfl) (fun _ _ _ h => h) (Or.inl ⟨by rfl, ?_⟩) (by assumption) ?_
      rotate_left 1
      · intro w hSw; (try dsimp only at hSw); go_simp; (first | done | with_reducible rfl)
      try simp only [Act.put, List.setIfInBounds_toArray, List.set_cons_zero, List.set_cons_succ]
      refine wpAnyH_take (i := 6) (v := ?_) (by simp only [List.getElem?_toArray, List.getElem?_cons_succ, List.getElem?_cons_zero]; rfl) (by kernel_rfl) (by kernel_rfl) (by kernel_rfl) (fun _ _ _ h => h) (Or.inl ⟨by rfl, ?_⟩) (by assumption) ?_
      rotate_left 1
      · intro w hSw; (try dsimp only at hSw); go_simp; (first | done | with_reducible rfl)
      try simp only [Act.put, List.setIfInBounds_toArray, List.set_cons_zero, List.set_cons_succ]
      refine wpAnyH_take (i := 7) (v := ?_) (by simp only [List.getElem?_toArray, List.getElem?_cons_succ, List.getElem?_cons_zero]; rfl) (by kernel_rfl) (by kernel_rfl) (by kernel_rfl) (fun _ _ _ h => h) (Or.inl ⟨by rfl, ?_⟩) (by assumption) ?_
      rotate_left 1
      · intro w hSw; (try dsimp only at hSw); go_simp; (first | done | with_reducible rfl)
      try simp only [Act.put, List.setIfInBounds_toArray, List.set_cons_zero, List.set_cons_succ]
      refine wpAnyH_take (i := 8) (v := ?_) (by simp only [List.getElem?_toArray, List.getElem?_cons_succ, List.getElem?_cons_zero]; rfl) (by kernel_rfl) (by kernel_rfl) (by kernel_rfl) (fun _ _ _ h => h) (Or.inl ⟨by rfl, ?_⟩) (by assumption) ?_
      rotate_left 1
      · intro w hSw; (try dsimp only at hSw); go_simp; (first | done | with_reducible rfl)
      try simp only [Act.put, List.setIfInBounds_toArray, List.set_cons_zero, List.set_cons_succ]
      refine wpAnyH_ready (rs := [4]) (by kernel_rfl) (by simp) ?_
      refine AllReadyH.cons (by simp only [List.getElem?_toArray, List.getElem?_cons_succ, List.getElem?_cons_zero]; rfl) (fun K hK => ?_) AllReadyH.nil
      go_simp
      refine (HFX.out _ hc0).mono ?_
      rintro e T1 ⟨v1, rfl, hv1, hstT1⟩
      obtain ⟨af, cf, rfl⟩ := hv1.slice
      have hcT1 := below_from hc0 hstT1
      have r1 := SliceR.stable (rdOf_stable _) (SliceR.read (fun _ _ h => h) hv1) (Keeps.refl _ _) (S' := fun _ => True) (fun _ _ _ => trivial)
      clear hv1
      refine hK.out _ _ (HS13.out _ hcT1) (fun hHeld => ?_)
      clear hK K
      try simp only [Act.put, List.setIfInBounds_toArray, List.set_cons_zero, List.set_cons_succ]
      refine wpAnyH_ready (rs := [9]) (by kernel_rfl) (by simp) ?_
      refine AllReadyH.cons (by simp only [List.getElem?_toArray, List.getElem?_cons_succ, List.getElem?_cons_zero]; rfl) (fun K hK => ?_) AllReadyH.nil
      go_simp
      refine (HFL.out _ hcT1).mono ?_
      rintro e T2 ⟨v2, rfl, hv2, hstT2⟩
      obtain ⟨ag, cg, rfl⟩ := hv2.slice
      have hcT2 := below_from hcT1 hstT2
      have r2 := SliceR.stable (rdOf_stable _) (SliceR.read (fun _ _ h => h) hv2) (Keeps.refl _ _) (S' := fun _ => True) (fun _ _ _ => trivial)
      clear hv2
      have r1 := SliceR.below (rdOf_stable _) r1 hstT2
      refine hK.out _ _ (HS13.out _ hcT2) (fun hHeld => ?_)
      clear hK K
      try simp only [Act.put, List.setIfInBounds_toArray, List.set_cons_zero, List.set_cons_succ]
      clear hstT1 hstT2 hcT1 hc0
      refine wpAnyH_ready (rs := [10]) (by kernel_rfl) (by simp) ?_
      refine AllReadyH.cons (by simp only [List.getElem?_toArray, List.getElem?_cons_succ, List.getElem?_cons_zero]; rfl) (fun K hK => ?_) AllReadyH.nil
      go_simp
      refine (HFS.out _ _ _ r1 r2).mono ?_
      rintro e T3 ⟨rfl, hst3⟩
      have hcT3 := below_from hcT2 hst3
      refine hK.out _ _ (HS13.out _ hcT3) (fun hHeld => ?_)
      clear hK K
      try simp only [Act.put, List.setIfInBounds_toArray, List.set_cons_zero, List.set_cons_succ]
      clear r1 r2 hcT2 hst3
      refine wpAnyH_take (i := 11) (v := ?_) (by simp only [List.getElem?_toArray, List.getElem?_cons_succ, List.getElem?_cons_zero]; rfl) (by kernel_rfl) (by kernel_rfl) (by kernel_rfl) (fun _ _ _ h => h) (Or.inl ⟨by rfl, ?_⟩) (by assumption) ?_
      rotate_left 1
      · intro w hSw; (try dsimp only at hSw); go_simp; (first | done | with_reducible rfl)
      try simp only [Act.put, List.setIfInBounds_toArray, List.set_cons_zero, List.set_cons_succ]
      refine wpAnyH_take (i := 12) (v := ?_) (by simp only [List.getElem?_toArray, List.getElem?_cons_succ, List.getElem?_cons_zero]; rfl) (by kernel_rfl) (by kernel_rfl) (by kernel_rfl) (fun _ _ _ h => h) (Or.inl ⟨by rfl, ?_⟩) (by assumption) ?_
      rotate_left 1
      · intro w hSw; (try dsimp only at hSw); go_simp; (first | done | with_reducible rfl)
      try simp only [Act.put, List.setIfInBounds_toArray, List.set_cons_zero, List.set_cons_succ]
      refine wpAnyH_take (i := 13) (v := ?_) (by simp only [List.getElem?_toArray, List.getElem?_cons_succ, List.getElem?_cons_zero]; rfl) (by kernel_rfl) (by kernel_rfl) (by kernel_rfl) (fun _ _ _ h => h) (Or.inl ⟨by rfl, ?_⟩) (by assumption) ?_
      rotate_left 1
      · intro w hSw; (try dsimp only at hSw); go_simp; (first | done | with_reducible rfl)
      try simp only [Act.put, List.setIfInBounds_toArray, List.set_cons_zero, List.set_cons_succ]
      refine wpAnyH_take (i := 14) (v := ?_) (by simp only [List.getElem?_toArray, List.getElem?_cons_succ, List.getElem?_cons_zero]; rfl) (by kernel_rfl) (by kernel_rfl) (by kernel_rfl) (fun _ _ _ h => h) (Or.inl ⟨by rfl, ?_⟩) (by assumption) ?_
      rotate_left 1
      · intro w hSw; (try dsimp only at hSw); go_simp; (first | done | with_reducible rfl)
      try simp only [Act.put, List.setIfInBounds_toArray, List.set_cons_zero, List.set_cons_succ]
      refine wpAnyH_take (i := 15) (v := ?_) (by simp only [List.getElem?_toArray, List.getElem?_cons_succ, List.getElem?_cons_zero]; rfl) (by kernel_rfl) (by kernel_rfl) (by kernel_rfl) (fun _ _ _ h => h) (Or.inl ⟨by rfl, ?_⟩) (by assumption) ?_
      rotate_left 1
      · intro w hSw; (try dsimp only at hSw); go_simp; (first | done | with_reducible rfl)
      try simp only [Act.put, List.setIfInBounds_toArray, List.set_cons_zero, List.set_cons_succ]
      refine wpAnyH_take (i := 16) (v := ?_) (by simp only [List.getElem?_toArray, List.getElem?_cons_succ, List.getElem?_cons_zero]; rfl) (by kernel_rfl) (by kernel_rfl) (by kernel_rfl) (fun _ _ _ h => h) (Or.inl ⟨by rfl, ?_⟩) (by assumption) ?_
      rotate_left 1
      · intro w hSw; (try dsimp only at hSw); go_simp; (first | done | with_reducible rfl)
      try simp only [Act.put, List.setIfInBounds_toArray, List.set_cons_zero, List.set_cons_succ]
      refine wpAnyH_take (i := 17) (v := ?_) (by simp only [List.getElem?_toArray, List.getElem?_cons_succ, List.getElem?_cons_zero]; rfl) (by kernel_rfl) (by kernel_rfl) (by kernel_rfl) (fun _ _ _ h => h) (Or.inl ⟨by rfl, ?_⟩) (by assumption) ?_
      rotate_left 1
      · intro w hSw; (try dsimp only at hSw); go_simp; (first | done | with_reducible rfl)
      try simp only [Act.put, List.setIfInBounds_toArray, List.set_cons_zero, List.set_cons_succ]
      refine wpAnyH_take (i := 18) (v := ?_) (by simp only [List.getElem?_toArray, List.getElem?_cons_succ, List.getElem?_cons_zero]; rfl) (by kernel_rfl) (by kernel_rfl) (by kernel_rfl) (fun _ _ _ h => h) (Or.inl ⟨by rfl, ?_⟩) (by assumption) ?_
      rotate_left 1
      · intro w hSw; (try dsimp only at hSw); go_simp; (first | done | with_reducible rfl)
      try simp only [Act.put, List.setIfInBounds_toArray, List.set_cons_zero, List.set_cons_succ]
      refine wpAnyH_take (i := 19) (v := ?_) (by simp only [List.getElem?_toArray, List.getElem?_cons_succ, List.getElem?_cons_zero]; rfl) (by kernel_rfl) (by kernel_rfl) (by kernel_rfl) (fun _ _ _ h => h) (Or.inl ⟨by rfl, ?_⟩) (by assumption) ?_
      rotate_left 1
      · intro w hSw; (try dsimp only at hSw); go_simp; (first | done | with_reducible rfl)
      try simp only [Act.put, List.setIfInBounds_toArray, List.set_cons_zero, List.set_cons_succ]
      refine wpAnyH_take (i := 20) (v := ?_) (by simp only [List.getElem?_toArray, List.getElem?_cons_succ, List.getElem?_cons_zero]; rfl) (by kernel_rfl) (by kernel_rfl) (by kernel_rfl) (fun _ _ _ h => h) (Or.inl ⟨by rfl, ?_⟩) (by assumption) ?_
      rotate_left 1
      · intro w hSw; (try dsimp only at hSw); go_simp; (first | done | with_reducible rfl)
      try simp only [Act.put, List.setIfInBounds_toArray, List.set_cons_zero, List.set_cons_succ]
      refine wpAnyH_take (i := 21) (v := ?_) (by simp only [List.getElem?_toArray, List.getElem?_cons_succ, List.getElem?_cons_zero]; rfl) (by kernel_rfl) (by kernel_rfl) (by kernel_rfl) (fun _ _ _ h => h) (Or.inl ⟨by rfl, ?_⟩) (by assumption) ?_
      rotate_left 1
      · intro w hSw; (try dsimp only at hSw); go_simp; (first | done | with_reducible rfl)
      try simp only [Act.put, List.setIfInBounds_toArray, List.set_cons_zero, List.set_cons_succ]
      refine wpAnyH_take (i := 22) (v := ?_) (by simp only [List.getElem?_toArray, List.getElem?_cons_succ, List.getElem?_cons_zero]; rfl) (by kernel_rfl) (by kernel_rfl) (by kernel_rfl) (fun _ _ _ h => h) (Or.inl ⟨by rfl, ?_⟩) (by assumption) ?_
      rotate_left 1
      · intro w hSw; (try dsimp only at hSw); go_simp; (first | done | with_reducible rfl)
      try simp only [Act.put, List.setIfInBounds_toArray, List.set_cons_zero, List.set_cons_succ]
      refine wpAnyH_take (i := 23) (v := ?_) (by simp only [List.getElem?_toArray, List.getElem?_cons_succ, List.getElem?_cons_zero]; rfl) (by kernel_rfl) (by kernel_rfl) (by kernel_rfl) (fun _ _ _ h => h) (Or.inl ⟨by rfl, ?_⟩) (by assumption) ?_
      rotate_left 1
      · intro w hSw; (try dsimp only at hSw); go_simp; (first | done | with_reducible rfl)
      try simp only [Act.put, List.setIfInBounds_toArray, List.set_cons_zero, List.set_cons_succ]
      refine wpAnyH_take (i := 24) (v := ?_) (by simp only [List.getElem?_toArray, List.getElem?_cons_succ, List.getElem?_cons_zero]; rfl) (by kernel_rfl) (by kernel_rfl) (by kernel_rfl) (fun _ _ _ h => h) (Or.inl ⟨by rfl, ?_⟩) (by assumption) ?_
      rotate_left 1
      · intro w hSw; (try dsimp only at hSw); go_simp; (first | done | with_reducible rfl)
      try simp only [Act.put, List.setIfInBounds_toArray, List.set_cons_zero, List.set_cons_succ]
      refine wpAnyH_take (i := 25) (v := ?_) (by simp only [List.getElem?_toArray, List.getElem?_cons_succ, List.getElem?_cons_zero]; rfl) (by kernel_rfl) (by kernel_rfl) (by kernel_rfl) (fun _ _ _ h => h) (Or.inl ⟨by rfl, ?_⟩) (by assumption) ?_
      rotate_left 1
      · intro w hSw; (try dsimp only at hSw); go_simp; (first | done | with_reducible rfl)
      try simp only [Act.put, List.setIfInBounds_toArray, List.set_cons_zero, List.set_cons_succ]
      refine wpAnyH_take (i := 26) (v := ?_) (by simp only [List.getElem?_toArray, List.getElem?_cons_succ, List.getElem?_cons_zero]; rfl) (by kernel_rfl) (by kernel_rfl) (by kernel_rfl) (fun _ _ _ h => h) (Or.inl ⟨by rfl, ?_⟩) (by assumption) ?_
      rotate_left 1
      · intro w hSw; (try dsimp only at hSw); go_simp; (first | done | with_reducible rfl)
      try simp only [Act.put, List.setIfInBounds_toArray, List.set_cons_zero, List.set_cons_succ]
      refine wpAnyH_take (i := 27) (v := ?_) (by simp only [List.getElem?_toArray, List.getElem?_cons_succ, List.getElem?_cons_zero]; rfl) (by kernel_rfl) (by kernel_rfl) (by kernel_rfl) (fun _ _ _ h => h) (Or.inl ⟨by rfl, ?_⟩) (by assumption) ?_
      rotate_left 1
      · intro w hSw; (try dsimp only at hSw); go_simp; (first | done | with_reducible rfl)
      try simp only [Act.put, List.setIfInBounds_toArray, List.set_cons_zero, List.set_cons_succ]
      refine wpAnyH_take (i := 28) (v := ?_) (by simp only [List.getElem?_toArray, List.getElem?_cons_succ, List.getElem?_cons_zero]; rfl) (by kernel_rfl) (by kernel_rfl) (by kernel_rfl) (fun _ _ _ h => h) (Or.inl ⟨by rfl, ?_⟩) (by assumption) ?_
      rotate_left 1
      · intro w hSw; (try dsimp only at hSw); go_simp; (first | done | with_reducible rfl)
      try simp only [Act.put, List.setIfInBounds_toArray, List.set_cons_zero, List.set_cons_succ]
      refine wpAnyH_take (i := 29) (v := ?_) (by simp only [List.getElem?_toArray, List.getElem?_cons_succ, List.getElem?_cons_zero]; rfl) (by kernel_rfl) (by kernel_rfl) (by kernel_rfl) (fun _ _ _ h => h) (Or.inl ⟨by rfl, ?_⟩) (by assumption) ?_
      rotate_left 1
      · intro w hSw; (try dsimp only at hSw); go_simp; (first | done | with_reducible rfl)
      try simp only [Act.put, List.setIfInBounds_toArray, List.set_cons_zero, List.set_cons_succ]
      refine wpAnyH_take (i := 30) (v := ?_) (by simp only [List.getElem?_toArray, List.getElem?_cons_succ, List.getElem?_cons_zero]; rfl) (by kernel_rfl) (by kernel_rfl) (by kernel_rfl) (fun _ _ _ h => h) (Or.inl ⟨by rfl, ?_⟩) (by assumption) ?_
      rotate_left 1
      · intro w hSw; (try dsimp only at hSw); go_simp; (first | done | with_reducible rfl)
      try simp only [Act.put, List.setIfInBounds_toArray, List.set_cons_zero, List.set_cons_succ]
      refine wpAnyH_take (i := 31) (v := ?_) (by simp only [List.getElem?_toArray, List.getElem?_cons_succ, List.getElem?_cons_zero]; rfl) (by kernel_rfl) (by kernel_rfl) (by kernel_rfl) (fun _ _ _ h => h) (Or.inl ⟨by rfl, ?_⟩) (by assumption) ?_
      rotate_left 1
      · intro w hSw; (try dsimp only at hSw); go_simp; (first | done | with_reducible rfl)
      try simp only [Act.put, List.setIfInBounds_toArray, List.set_cons_zero, List.set_cons_succ]
      refine wpAnyH_take (i := 32) (v := ?_) (by simp only [List.getElem?_toArray, List.getElem?_cons_succ, List.getElem?_cons_zero]; rfl) (by kernel_rfl) (by kernel_rfl) (by kernel_rfl) (fun _ _ _ h => h) (Or.inl ⟨by rfl, ?_⟩) (by assumption) ?_
      rotate_left 1
      · intro w hSw; (try dsimp only at hSw); go_simp; (first | done | with_reducible rfl)
      try simp only [Act.put, List.setIfInBounds_toArray, List.set_cons_zero, List.set_cons_succ]
      refine wpAnyH_take (i := 33) (v := ?_) (by simp only [List.getElem?_toArray, List.getElem?_cons_succ, List.getElem?_cons_zero]; rfl) (by kernel_rfl) (by kernel_rfl) (by kernel_rfl) (fun _ _ _ h => h) (Or.inl ⟨by rfl, ?_⟩) (by assumption) ?_
      rotate_left 1
      · intro w hSw; (try dsimp only at hSw); go_simp; (first | done | with_reducible rfl)
      try simp only [Act.put, List.setIfInBounds_toArray, List.set_cons_zero, List.set_cons_succ]
      refine wpAnyH_take (i := 34) (v := ?_) (by simp only [List.getElem?_toArray, List.getElem?_cons_succ, List.getElem?_cons_zero]; rfl) (by kernel_rfl) (by kernel_rfl) (by kernel_rfl) (fun _ _ _ h => h) (Or.inl ⟨by rfl, ?_⟩) (by assumption) ?_
      rotate_left 1
      · intro w hSw; (try dsimp only at hSw); go_simp; (first | done | with_reducible rfl)
      try simp only [Act.put, List.setIfInBounds_toArray, List.set_cons_zero, List.set_cons_succ]
      refine wpAnyH_take (i := 35) (v := ?_) (by simp only [List.getElem?_toArray, List.getElem?_cons_succ, List.getElem?_cons_zero]; rfl) (by kernel_rfl) (by kernel_rfl) (by kernel_rfl) (fun _ _ _ h => h) (Or.inl ⟨by rfl, ?_⟩) (by assumption) ?_
      rotate_left 1
      · intro w hSw; (try dsimp only at hSw); go_simp; (first | done | with_reducible rfl)
      try simp only [Act.put, List.setIfInBounds_toArray, List.set_cons_zero, List.set_cons_succ]
      refine wpAnyH_take (i := 36) (v := ?_) (by simp only [List.getElem?_toArray, List.getElem?_cons_succ, List.getElem?_cons_zero]; rfl) (by kernel_rfl) (by kernel_rfl) (by kernel_rfl) (fun _ _ _ h => h) (Or.inl ⟨by rfl, ?_⟩) (by assumption) ?_
      rotate_left 1
      · intro w hSw; (try dsimp only at hSw); go_simp; (first | done | with_reducible rfl)
      try simp only [Act.put, List.setIfInBounds_toArray, List.set_cons_zero, List.set_cons_succ]
      refine wpAnyH_take (i := 37) (v := ?_) (by simp only [List.getElem?_toArray, List.getElem?_cons_succ, List.getElem?_cons_zero]; rfl) (by kernel_rfl) (by kernel_rfl) (by kernel_rfl) (fun _ _ _ h => h) (Or.inl ⟨by rfl, ?_⟩) (by assumption) ?_
      rotate_left 1
      · intro w hSw; (try dsimp only at hSw); go_simp; (first | done | with_reducible rfl)
      try simp only [Act.put, List.setIfInBounds_toArray, List.set_cons_zero, List.set_cons_succ]
      refine wpAnyH_take (i := 38) (v := ?_) (by simp only [List.getElem?_toArray, List.getElem?_cons_succ, List.getElem?_cons_zero]; rfl) (by kernel_rfl) (by kernel_rfl) (by kernel_rfl) (fun _ _ _ h => h) (Or.inl ⟨by rfl, ?_⟩) (by assumption) ?_
      rotate_left 1
      · intro w hSw; (try dsimp only at hSw); go_simp; (first | done | with_reducible rfl)
      try simp only [Act.put, List.setIfInBounds_toArray, List.set_cons_zero, List.set_cons_succ]
      refine wpAnyH_take (i := 39) (v := ?_) (by simp only [List.getElem?_toArray, List.getElem?_cons_succ, List.getElem?_cons_zero]; rfl) (by kernel_rfl) (by kernel_rfl) (by kernel_rfl) (fun _ _ _ h => h) (Or.inl ⟨by rfl, ?_⟩) (by assumption) ?_
      rotate_left 1
      · intro w hSw; (try dsimp only at hSw); go_simp; (first | done | with_reducible rfl)
      try simp only [Act.put, List.setIfInBounds_toArray, List.set_cons_zero, List.set_cons_succ]
      refine wpAnyH_take (i := 40) (v := ?_) (by simp only [List.getElem?_toArray, List.getElem?_cons_succ, List.getElem?_cons_zero]; rfl) (by kernel_rfl) (by kernel_rfl) (by kernel_rfl) (fun _ _ _ h => h) (Or.inl ⟨by rfl, ?_⟩) (by assumption) ?_
      rotate_left 1
      · intro w hSw; (try dsimp only at hSw); go_simp; (first | done | with_reducible rfl)
      try simp only [Act.put, List.setIfInBounds_toArray, List.set_cons_zero, List.set_cons_succ]
      refine wpAnyH_take (i := 41) (v := ?_) (by simp only [List.getElem?_toArray, List.getElem?_cons_succ, List.getElem?_cons_zero]; rfl) (by kernel_rfl) (by kernel_rfl) (by kernel_rfl) (fun _ _ _ h => h) (Or.inl ⟨by rfl, ?_⟩) (by assumption) ?_
      rotate_left 1
      · intro w hSw; (try dsimp only at hSw); go_simp; (first | done | with_reducible rfl)
      try simp only [Act.put, List.setIfInBounds_toArray, List.set_cons_zero, List.set_cons_succ]
      refine wpAnyH_done (by kernel_rfl) ?_ _
      refine NoPanic.normal ?_
      clear hHeld
      go_wp2_with fail
      go_loopw [16, 17, 18, 19, 20, 21] (fun i _ _ _ _ _ wi => ∃ n : Nat, n ≤ l.cells.length ∧ i = .int .i64 n ∧ Below w8.heap.size w8 wi) (fun i _ _ _ _ _ _ => l.cells.length - (intOf i).toNat)
      case atStart => exact ⟨0, Nat.zero_le _, rfl, hcT3⟩
      case round =>
        clear hcT3 hb
        obtain ⟨n, hn, rfl, hb⟩ := hrel
        by_cases hlt2 : n < l.cells.length
        · obtain ⟨z, hz, _⟩ := getOf l.cells n hlt2
          obtain ⟨u, vv, hu, hvv, g1, g2, g3, g4, g5, g6⟩ := HZ.out n z hz
          obtain ⟨_, _, ex, _, _, hcx⟩ := cels_shape HAA.out.1.cellsR
          cases ex
          obtain ⟨_, _, ey, _, _, hcy⟩ := cels_shape HAA.out.2.1.cellsR
          cases ey
          obtain ⟨_, _, ed, _, _, hcd⟩ := cels_shape HAA.out.2.2.cellsR
          cases ed
          obtain ⟨ux, ox', rfl, hux, x0, x1, x2⟩ := hcx n u hu
          obtain ⟨uy, oy', rfl, huy, y0, y1, y2⟩ := hcy n vv hvv
          obtain ⟨ud, od', rfl, hud, z0, z1, z2⟩ := hcd n z hz
          have HCL : Hid (∀ W, Below w8.heap.size w8 W → (W.cell? ⟨ud, od' + n * 3, none⟩ = some (.int .i32 z.r) ∧ W.cell? ⟨ud, od' + n * 3 + 1, none⟩ = some (.int .i64 z.bits) ∧ W.cell? ⟨ud, od' + n * 3 + 2, none⟩ = some (.string ⟨z.href.toArray⟩)) ∧
              (W.cell? ⟨ux, ox' + n * 3, none⟩ = some (.int .i32 u.r) ∧ W.cell? ⟨ux, ox' + n * 3 + 1, none⟩ = some (.int .i64 u.bits) ∧ W.cell? ⟨ux, ox' + n * 3 + 2, none⟩ = some (.string ⟨u.href.toArray⟩)) ∧
              (W.cell? ⟨uy, oy' + n * 3, none⟩ = some (.int .i32 vv.r) ∧ W.cell? ⟨uy, oy' + n * 3 + 1, none⟩ = some (.int .i64 vv.bits) ∧ W.cell? ⟨uy, oy' + n * 3 + 2, none⟩ = some (.string ⟨vv.href.toArray⟩)) ∧
              W.cell? ⟨bd, od + q * 4 + 3, none⟩ = some (.slice (some ⟨ud, od', none⟩) l.cells.length ccd) ∧ W.cell? ⟨bx, ox + q * 4 + 3, none⟩ = some (.slice (some ⟨ux, ox', none⟩) x.cells.length ccx) ∧ W.cell? ⟨by', oy + q * 4 + 3, none⟩ = some (.slice (some ⟨uy, oy', none⟩) y.cells.length ccy)) := Lib.hid fun W hW =>
            ⟨⟨(hW.cell hud).trans z0, (hW.cell hud).trans z1, (hW.cell hud).trans z2⟩, ⟨(hW.cell hux).trans x0, (hW.cell hux).trans x1, (hW.cell hux).trans x2⟩, ⟨(hW.cell huy).trans y0, (hW.cell huy).trans y1, (hW.cell huy).trans y2⟩, (HAA.out.2.2.below hW).cells, (HAA.out.1.below hW).cells, (HAA.out.2.1.below hW).cells⟩
          have HG := Lib.hid (And.intro g1 (And.intro g2 (And.intro g3 (And.intro g4 (And.intro g5 g6)))))
          have hn0 : (0 : Int) ≤ (n : Int) := Int.natCast_nonneg _
          have hn1 : (n : Int) < (l.cells.length : Int) := by omega
          have hn2 : (n : Int) < (x.cells.length : Int) := by rw [HLL.out.1]; omega
          have hn3 : (n : Int) < (y.cells.length : Int) := by rw [HLL.out.2]; omega
          have HCa : Hid (∀ W, Calls Tryz.prog 24 #[.agg #[.int .i64 a.line, .int .i64 a.col], .agg #[.int .i64 q, .int .i64 n]] W fun e w' => e = .returned (.int .i64 (cmpP a ⟨q, n⟩)) ∧ Below W.heap.size W w') := Lib.hid fun W => refCmp_any a ⟨q, n⟩ W
          have HCb : Hid (∀ W, Calls Tryz.prog 24 #[.agg #[.int .i64 q, .int .i64 n], .agg #[.int .i64 b.line, .int .i64 b.col]] W fun e w' => e = .returned (.int .i64 (cmpP ⟨q, n⟩ b)) ∧ Below W.heap.size W w') := Lib.hid fun W => refCmp_any ⟨q, n⟩ b W
          obtain ⟨m1, hm1⟩ : ∃ m, cmpP a ⟨q, n⟩ = m := ⟨_, rfl⟩
          obtain ⟨m2, hm2⟩ : ∃ m, cmpP ⟨q, n⟩ b = m := ⟨_, rfl⟩
          rw [hm1] at HCa HG
          rw [hm2] at HCb HG
          have hc8 := HCL.out _ hb
          obtain ⟨_, _, _, l0, _, _⟩ := hc8
          clear hcx hcy hcd x0 x1 x2 y0 y1 y2 z0 z1 z2 hux huy hud g1 g2 g3 g4 g5 g6 hz hu hvv hm1 hm2
          obtain ⟨p0, f0⟩ := blk (HB.out _ (below_from HB8.out hb)).1
          have q0 : ∀ ob k, (wr.alloc ob).cell? ⟨w.heap.size, k, none⟩ = _ := fun ob k => (World.cell?_of_block (heap_alloc_old _ _ (Array.getElem?_eq_some_iff.1 (HB.out _ (below_from HB8.out hb)).1).1)).trans (p0 k)
          have ne0 : ¬ w.heap.size = wr.heap.size := by have := (Array.getElem?_eq_some_iff.1 (HB.out _ (below_from HB8.out hb)).1).1; omega
          go_upto_region 19 with fail
          obtain ⟨P1, hP1⟩ : ∃ V, wr.alloc (.cells #[.int .i64 q, .int .i64 n] 24) = V := ⟨_, rfl⟩
          rw [hP1]
          have hs1P : Below wr.heap.size wr P1 := hP1 ▸ (Below.refl _ _).alloc (Nat.le_refl _) _
          have hp17 : P1.heap[wr.heap.size]? = some (.cells #[.int .i64 q, .int .i64 n] 24) := hP1 ▸ heap_new _ _ rfl
          have hbP := below_from hb hs1P
          clear hP1 p0 f0 q0 ne0 l0
          go_cut [18] from 162 to 260 (fun r wx => r = .bool (decide (m1 ≤ 0) && decide (m2 < 0)) ∧ Below w8.heap.size w8 wx)
          case first =>
           as_aux_lemma =>
            obtain ⟨p0, f0⟩ := blk (HB.out _ (below_from HB8.out hbP)).1
            obtain ⟨p17, f17⟩ := blk hp17
            go_wp2_with fail
            refine (HCa.out _).mono ?_
            rintro e P2 ⟨rfl, hstP2⟩
            have hbP2 := below_from hbP hstP2
            have hp17 := heap_below hstP2 hp17
            clear p17 f17 p0 f0
            obtain ⟨p17, f17⟩ := blk hp17
            obtain ⟨p1, f1⟩ := blk (HB.out _ (below_from HB8.out hbP2)).2
            by_cases c1 : m1 ≤ 0
            · go_wp2_with fail
              refine (HCb.out _).mono ?_
              rintro e P3 ⟨rfl, hstP3⟩
              have hbP3 := below_from hbP2 hstP3
              go_wp2_with fail
              go_meet
              exact ⟨by rw [decide_eq_true c1, Bool.true_and], hbP3⟩
            · go_wp2_with fail
              go_meet
              exact ⟨by rw [decide_eq_false (show ¬ m1 ≤ 0 by omega), Bool.false_and], hbP2⟩
          case rest =>
            obtain ⟨rfl, hb19⟩ := hcut
            clear hbP hp17 hs1P
            obtain ⟨P9, hP9⟩ : ∃ x, wc = x := ⟨_, rfl⟩
            rw [hP9] at hb19 ⊢
            clear hP9
            obtain ⟨t, ht⟩ : ∃ t, (decide (m1 ≤ 0) && decide (m2 < 0)) = t := ⟨_, rfl⟩
            rw [ht]
            have HT := Lib.hid ht
            clear ht
            go_upto_region 20 with fail
            go_cut [19, 20, 21] from 162 to 260 (fun r s u0 wx => Below w8.heap.size w8 wx ∧ ∃ b1 b2 b3, r = .pointer (some ⟨b1, 0, none⟩) ∧ s = .pointer (some ⟨b2, 0, none⟩) ∧ u0 = .pointer (some ⟨b3, 0, none⟩) ∧ wx.heap[b1]? = some (.cells #[.int .i32 z.r, .int .i64 z.bits, .string ⟨z.href.toArray⟩] 58) ∧ wx.heap[b2]? = some (.cells #[.int .i32 u.r, .int .i64 u.bits, .string ⟨u.href.toArray⟩] 58) ∧ wx.heap[b3]? = some (.cells #[.int .i32 vv.r, .int .i64 vv.bits, .string ⟨vv.href.toArray⟩] 58))
            case first =>
             as_aux_lemma =>
              refine wp_region_noPanic ?_
              refine wp_region_held_drew (S := (fun w' => (w'.cell? ⟨ud, od' + n * 3, none⟩ = some (.int .i32 z.r) ∧ w'.cell? ⟨ud, od' + n * 3 + 1, none⟩ = some (.int .i64 z.bits) ∧ w'.cell? ⟨ud, od' + n * 3 + 2, none⟩ = some (.string ⟨z.href.toArray⟩)) ∧ (w'.cell? ⟨ux, ox' + n * 3, none⟩ = some (.int .i32 u.r) ∧ w'.cell? ⟨ux, ox' + n * 3 + 1, none⟩ = some (.int .i64 u.bits) ∧ w'.cell? ⟨ux, ox' + n * 3 + 2, none⟩ = some (.string ⟨u.href.toArray⟩)) ∧ (w'.cell? ⟨uy, oy' + n * 3, none⟩ = some (.int .i32 vv.r) ∧ w'.cell? ⟨uy, oy' + n * 3 + 1, none⟩ = some (.int .i64 vv.bits) ∧ w'.cell? ⟨uy, oy' + n * 3 + 2, none⟩ = some (.string ⟨vv.href.toArray⟩)) ∧ w'.cell? ⟨bd, od + q * 4 + 3, none⟩ = some (.slice (some ⟨ud, od', none⟩) l.cells.length ccd) ∧ w'.cell? ⟨bx, ox + q * 4 + 3, none⟩ = some (.slice (some ⟨ux, ox', none⟩) x.cells.length ccx) ∧ w'.cell? ⟨by', oy + q * 4 + 3, none⟩ = some (.slice (some ⟨uy, oy', none⟩) y.cells.length ccy))) (by kernel_rfl) (HCL.out _ hb19.drew) (fun hHeld => ?_)
              obtain ⟨X0, hX0⟩ : ∃ T, P9.drew = T := ⟨_, rfl⟩
              have hc0 := hX0 ▸ hb19.drew
              rw [hX0] at hHeld ⊢
              clear hX0
              refine wpAnyH_take (i := 0) (v := ?_) (by simp only [List.getElem?_toArray, List.getElem?_cons_zero]; rfl) (by kernel_rfl) (by kernel_rfl) (by kernel_rfl) (fun _ _ _ h => h) (Or.inl ⟨by rfl, ?_⟩) (by assumption) ?_
              rotate_left 1
              · intro w hSw; (try dsimp only at hSw); go_simp; (first | done | with_reducible rfl)
              try simp only [Act.put, List.setIfInBounds_toArray, List.set_cons_zero, List.set_cons_succ]
              refine wpAnyH_take (i := 1) (v := ?_) (by simp only [List.getElem?_toArray, List.getElem?_cons_succ, List.getElem?_cons_zero]; rfl) (by kernel_rfl) (by kernel_rfl) (by kernel_rfl) (fun _ _ _ h => h) (Or.inl ⟨by rfl, ?_⟩) (by assumption) ?_
              rotate_left 1
              · intro w hSw; (try dsimp only at hSw); go_simp; (first | done | with_reducible rfl)
              try simp only [Act.put, List.setIfInBounds_toArray, List.set_cons_zero, List.set_cons_succ]
              refine wpAnyH_take (i := 2) (v := ?_) (by simp only [List.getElem?_toArray, List.getElem?_cons_succ, List.getElem?_cons_zero]; rfl) (by kernel_rfl) (by kernel_rfl) (by kernel_rfl) (fun _ _ _ h => h) (Or.inl ⟨by rfl, ?_⟩) (by assumption) ?_
              rotate_left 1
              · intro w hSw; (try dsimp only at hSw); go_simp; (first | done | with_reducible rfl)
              try simp only [Act.put, List.setIfInBounds_toArray, List.set_cons_zero, List.set_cons_succ]
              refine wpAnyH_take (i := 3) (v := ?_) (by simp only [List.getElem?_toArray, List.getElem?_cons_succ, List.getElem?_cons_zero]; rfl) (by kernel_rfl) (by kernel_rfl) (by kernel_rfl) (fun _ _ _ h => h) (Or.inl ⟨by rfl, ?_⟩) (by assumption) ?_
              rotate_left 1
              · intro w hSw; (try dsimp only at hSw); go_simp; (first | done | with_reducible rfl)
              try simp only [Act.put, List.setIfInBounds_toArray, List.set_cons_zero, List.set_cons_succ]
              refine wpAnyH_take (i := 4) (v := ?_) (by simp only [List.getElem?_toArray, List.getElem?_cons_succ, List.getElem?_cons_zero]; rfl) (by kernel_rfl) (by kernel_rfl) (by kernel_rfl) (fun _ _ _ h => h) (Or.inl ⟨by rfl, ?_⟩) (by assumption) ?_
              rotate_left 1
              · intro w hSw; (try dsimp only at hSw); go_simp; (first | done | with_reducible rfl)
              try simp only [Act.put, List.setIfInBounds_toArray, List.set_cons_zero, List.set_cons_succ]
              refine wpAnyH_take (i := 5) (v := ?_) (by simp only [List.getElem?_toArray, List.getElem?_cons_succ, List.getElem?_cons_zero]; rfl) (by kernel_rfl) (by kernel_rfl) (by kernel_rfl) (fun _ _ _ h => h) (Or.inl ⟨by rfl, ?_⟩) (by assumption) ?_
              rotate_left 1
              · intro w hSw; (try dsimp only at hSw); go_simp; (first | done | with_reducible rfl)
              try simp only [Act.put, List.setIfInBounds_toArray, List.set_cons_zero, List.set_cons_succ]
              refine wpAnyH_take (i := 6) (v := ?_) (by simp only [List.getElem?_toArray, List.getElem?_cons_succ, List.getElem?_cons_zero]; rfl) (by kernel_rfl) (by kernel_rfl) (by kernel_rfl) (fun _ _ _ h => h) (Or.inl ⟨by rfl, ?_⟩) (by assumption) ?_
              rotate_left 1
              · intro w hSw; (try dsimp only at hSw); go_simp; (first | done | with_reducible rfl)
              try simp only [Act.put, List.setIfInBounds_toArray, List.set_cons_zero, List.set_cons_succ]
              refine wpAnyH_take (i := 7) (v := ?_) (by simp only [List.getElem?_toArray, List.getElem?_cons_succ, List.getElem?_cons_zero]; rfl) (by kernel_rfl) (by kernel_rfl) (by kernel_rfl) (fun _ _ _ h => h) (Or.inl ⟨by rfl, ?_⟩) (by assumption) ?_
              rotate_left 1
              · intro w hSw; (try dsimp only at hSw); go_simp; (first | done | with_reducible rfl)
              try simp only [Act.put, List.setIfInBounds_toArray, List.set_cons_zero, List.set_cons_succ]
              refine wpAnyH_take (i := 8) (v := ?_) (by simp only [List.getElem?_toArray, List.getElem?_cons_succ, List.getElem?_cons_zero]; rfl) (by kernel_rfl) (by kernel_rfl) (by kernel_rfl) (fun _ _ _ h => h) (Or.inl ⟨by rfl, ?_⟩) (by assumption) ?_
              rotate_left 1
              · intro w hSw; (try dsimp only at hSw); go_simp; (first | done | with_reducible rfl)
              try simp only [Act.put, List.setIfInBounds_toArray, List.set_cons_zero, List.set_cons_succ]
              refine wpAnyH_take (i := 9) (v := ?_) (by simp only [List.getElem?_toArray, List.getElem?_cons_succ, List.getElem?_cons_zero]; rfl) (by kernel_rfl) (by kernel_rfl) (by kernel_rfl) (fun _ _ _ h => h) (Or.inl ⟨by rfl, ?_⟩) (by assumption) ?_
              rotate_left 1
              · intro w hSw; (try dsimp only at hSw); go_simp; (first | done | with_reducible rfl)
              try simp only [Act.put, List.setIfInBounds_toArray, List.set_cons_zero, List.set_cons_succ]
              refine wpAnyH_take (i := 10) (v := ?_) (by simp only [List.getElem?_toArray, List.getElem?_cons_succ, List.getElem?_cons_zero]; rfl) (by kernel_rfl) (by kernel_rfl) (by kernel_rfl) (fun _ _ _ h => h) (Or.inl ⟨by rfl, ?_⟩) (by assumption) ?_
              rotate_left 1
              · intro w hSw; (try dsimp only at hSw); go_simp; (first | done | with_reducible rfl)
              try simp only [Act.put, List.setIfInBounds_toArray, List.set_cons_zero, List.set_cons_succ]
              refine wpAnyH_take (i := 11) (v := ?_) (by simp only [List.getElem?_toArray, List.getElem?_cons_succ, List.getElem?_cons_zero]; rfl) (by kernel_rfl) (by kernel_rfl) (by kernel_rfl) (fun _ _ _ h => h) (Or.inl ⟨by rfl, ?_⟩) (by assumption) ?_
              rotate_left 1
              · intro w hSw; (try dsimp only at hSw); go_simp; (first | done | with_reducible rfl)
              try simp only [Act.put, List.setIfInBounds_toArray, List.set_cons_zero, List.set_cons_succ]
              refine wpAnyH_take (i := 12) (v := ?_) (by simp only [List.getElem?_toArray, List.getElem?_cons_succ, List.getElem?_cons_zero]; rfl) (by kernel_rfl) (by kernel_rfl) (by kernel_rfl) (fun _ _ _ h => h) (Or.inl ⟨by rfl, ?_⟩) (by assumption) ?_
              rotate_left 1
              · intro w hSw; (try dsimp only at hSw); go_simp; (first | done | with_reducible rfl)
              try simp only [Act.put, List.setIfInBounds_toArray, List.set_cons_zero, List.set_cons_succ]
              refine wpAnyH_take (i := 13) (v := ?_) (by simp only [List.getElem?_toArray, List.getElem?_cons_succ, List.getElem?_cons_zero]; rfl) (by kernel_rfl) (by kernel_rfl) (by kernel_rfl) (fun _ _ _ h => h) (Or.inl ⟨by rfl, ?_⟩) (by assumption) ?_
              rotate_left 1
              · intro w hSw; (try dsimp only at hSw); go_simp; (first | done | with_reducible rfl)
              try simp only [Act.put, List.setIfInBounds_toArray, List.set_cons_zero, List.set_cons_succ]
              refine wpAnyH_take (i := 14) (v := ?_) (by simp only [List.getElem?_toArray, List.getElem?_cons_succ, List.getElem?_cons_zero]; rfl) (by kernel_rfl) (by kernel_rfl) (by kernel_rfl) (fun _ _ _ h => h) (Or.inl ⟨by rfl, ?_⟩) (by assumption) ?_
              rotate_left 1
              · intro w hSw; (try dsimp only at hSw); go_simp; (first | done | with_reducible rfl)
              try simp only [Act.put, List.setIfInBounds_toArray, List.set_cons_zero, List.set_cons_succ]
              refine wpAnyH_take (i := 15) (v := ?_) (by simp only [List.getElem?_toArray, List.getElem?_cons_succ, List.getElem?_cons_zero]; rfl) (by kernel_rfl) (by kernel_rfl) (by kernel_rfl) (fun _ _ _ h => h) (Or.inl ⟨by rfl, ?_⟩) (by assumption) ?_
              rotate_left 1
              · intro w hSw; (try dsimp only at hSw); go_simp; (first | done | with_reducible rfl)
              try simp only [Act.put, List.setIfInBounds_toArray, List.set_cons_zero, List.set_cons_succ]
              refine wpAnyH_take (i := 16) (v := ?_) (by simp only [List.getElem?_toArray, List.getElem?_cons_succ, List.getElem?_cons_zero]; rfl) (by kernel_rfl) (by kernel_rfl) (by kernel_rfl) (fun _ _ _ h => h) (Or.inl ⟨by rfl, ?_⟩) (by assumption) ?_
              rotate_left 1
              · intro w hSw; (try dsimp only at hSw); go_simp; (first | done | with_reducible rfl)
              try simp only [Act.put, List.setIfInBounds_toArray, List.set_cons_zero, List.set_cons_succ]
              refine wpAnyH_take (i := 17) (v := ?_) (by simp only [List.getElem?_toArray, List.getElem?_cons_succ, List.getElem?_cons_zero]; rfl) (by kernel_rfl) (by kernel_rfl) (by kernel_rfl) (fun _ _ _ h => h) (Or.inl ⟨by rfl, ?_⟩) (by assumption) ?_
              rotate_left 1
              · intro w hSw; (try dsimp only at hSw); go_simp; (first | done | with_reducible rfl)
              try simp only [Act.put, List.setIfInBounds_toArray, List.set_cons_zero, List.set_cons_succ]
              refine wpAnyH_take (i := 18) (v := ?_) (by simp only [List.getElem?_toArray, List.getElem?_cons_succ, List.getElem?_cons_zero]; rfl) (by kernel_rfl) (by kernel_rfl) (by kernel_rfl) (fun _ _ _ h => h) (Or.inl ⟨by rfl, ?_⟩) (by assumption) ?_
              rotate_left 1
              · intro w hSw; (try dsimp only at hSw); go_simp; (first | done | with_reducible rfl)
              try simp only [Act.put, List.setIfInBounds_toArray, List.set_cons_zero, List.set_cons_succ]
              refine wpAnyH_take (i := 19) (v := ?_) (by simp only [List.getElem?_toArray, List.getElem?_cons_succ, List.getElem?_cons_zero]; rfl) (by kernel_rfl) (by kernel_rfl) (by kernel_rfl) (fun _ _ _ h => h) (Or.inl ⟨by rfl, ?_⟩) (by assumption) ?_
              rotate_left 1
              · intro w hSw; (try dsimp only at hSw); go_simp; (first | done | with_reducible rfl)
              try simp only [Act.put, List.setIfInBounds_toArray, List.set_cons_zero, List.set_cons_succ]
              refine wpAnyH_take (i := 20) (v := ?_) (by simp only [List.getElem?_toArray, List.getElem?_cons_succ, List.getElem?_cons_zero]; rfl) (by kernel_rfl) (by kernel_rfl) (by kernel_rfl) (fun _ _ _ h => h) (Or.inl ⟨by rfl, ?_⟩) (by assumption) ?_
              rotate_left 1
              · intro w hSw; (try dsimp only at hSw); go_simp; (first | done | with_reducible rfl)
              try simp only [Act.put, List.setIfInBounds_toArray, List.set_cons_zero, List.set_cons_succ]
              refine wpAnyH_take (i := 21) (v := ?_) (by simp only [List.getElem?_toArray, List.getElem?_cons_succ, List.getElem?_cons_zero]; rfl) (by kernel_rfl) (by kernel_rfl) (by kernel_rfl) (fun _ _ _ h => h) (Or.inl ⟨by rfl, ?_⟩) (by assumption) ?_
              rotate_left 1
              · intro w hSw; (try dsimp only at hSw); go_simp; (first | done | with_reducible rfl)
              try simp only [Act.put, List.setIfInBounds_toArray, List.set_cons_zero, List.set_cons_succ]
              refine wpAnyH_take (i := 22) (v := ?_) (by simp only [List.getElem?_toArray, List.getElem?_cons_succ, List.getElem?_cons_zero]; rfl) (by kernel_rfl) (by kernel_rfl) (by kernel_rfl) (fun _ _ _ h => h) (Or.inl ⟨by rfl, ?_⟩) (by assumption) ?_
              rotate_left 1
              · intro w hSw; (try dsimp only at hSw); go_simp; (first | done | with_reducible rfl)
              try simp only [Act.put, List.setIfInBounds_toArray, List.set_cons_zero, List.set_cons_succ]
              refine wpAnyH_take (i := 23) (v := ?_) (by simp only [List.getElem?_toArray, List.getElem?_cons_succ, List.getElem?_cons_zero]; rfl) (by kernel_rfl) (by kernel_rfl) (by kernel_rfl) (fun _ _ _ h => h) (Or.inl ⟨by rfl, ?_⟩) (by assumption) ?_
              rotate_left 1
              · intro w hSw; (try dsimp only at hSw); go_simp; (first | done | with_reducible rfl)
              try simp only [Act.put, List.setIfInBounds_toArray, List.set_cons_zero, List.set_cons_succ]
              refine wpAnyH_ready (rs := [24, 25, 26]) (by kernel_rfl) (by simp) ?_
              refine AllReadyH.cons (by simp only [List.getElem?_toArray, List.getElem?_cons_succ, List.getElem?_cons_zero]; rfl) (fun K hK => ?_) ?_
              · go_simp
                obtain ⟨X1, hX1⟩ : ∃ T, X0.alloc (.cells #[.int .i32 0, .int .i64 0, .string ⟨#[]⟩] 58) = T := ⟨_, rfl⟩
                rw [hX1]
                have hst1 : Below X0.heap.size X0 X1 := hX1 ▸ (Below.refl _ _).alloc (Nat.le_refl _) _
                have k24_1 : X1.heap[X0.heap.size]? = some (.cells #[.int .i32 0, .int .i64 0, .string ⟨#[]⟩] 58) := hX1 ▸ heap_new _ _ rfl
                have hc1 := below_from hc0 hst1
                have hg1 : w8.heap.size ≤ X0.heap.size := hc0.size
                clear hX1 hst1
                refine hK.out _ _ (HCL.out _ hc1) (fun hHeld1 => ?_)
                clear hK K
                try simp only [Act.put, List.setIfInBounds_toArray, List.set_cons_zero, List.set_cons_succ]
                refine wpAnyH_ready (rs := [25, 26]) (by kernel_rfl) (by simp) ?_
                refine AllReadyH.cons (by simp only [List.getElem?_toArray, List.getElem?_cons_succ, List.getElem?_cons_zero]; rfl) (fun K hK => ?_) ?_
                · go_simp
                  obtain ⟨X2, hX2⟩ : ∃ T, X1.alloc (.cells #[.int .i32 0, .int .i64 0, .string ⟨#[]⟩] 58) = T := ⟨_, rfl⟩
                  rw [hX2]
                  have hst2 : Below X1.heap.size X1 X2 := hX2 ▸ (Below.refl _ _).alloc (Nat.le_refl _) _
                  have k25_2 : X2.heap[X1.heap.size]? = some (.cells #[.int .i32 0, .int .i64 0, .string ⟨#[]⟩] 58) := hX2 ▸ heap_new _ _ rfl
                  have hc2 := below_from hc1 hst2
                  have hg2 : w8.heap.size ≤ X1.heap.size := hc1.size
                  have k24_2 := heap_below hst2 k24_1
                  have n2425_2 : ¬ X1.heap.size = X0.heap.size := by have := (Array.getElem?_eq_some_iff.1 k24_1).1; omega
                  clear hX2 hst2
                  refine hK.out _ _ (HCL.out _ hc2) (fun hHeld2 => ?_)
                  clear hK K
                  try simp only [Act.put, List.setIfInBounds_toArray, List.set_cons_zero, List.set_cons_succ]
                  refine wpAnyH_ready (rs := [26]) (by kernel_rfl) (by simp) ?_
                  refine AllReadyH.cons (by simp only [List.getElem?_toArray, List.getElem?_cons_succ, List.getElem?_cons_zero]; rfl) (fun K hK => ?_) ?_
                  · go_simp
                    obtain ⟨X3, hX3⟩ : ∃ T, X2.alloc (.cells #[.int .i32 0, .int .i64 0, .string ⟨#[]⟩] 58) = T := ⟨_, rfl⟩
                    rw [hX3]
                    have hst3 : Below X2.heap.size X2 X3 := hX3 ▸ (Below.refl _ _).alloc (Nat.le_refl _) _
                    have k26_3 : X3.heap[X2.heap.size]? = some (.cells #[.int .i32 0, .int .i64 0, .string ⟨#[]⟩] 58) := hX3 ▸ heap_new _ _ rfl
                    have hc3 := below_from hc2 hst3
                    have hg3 : w8.heap.size ≤ X2.heap.size := hc2.size
                    have k24_3 := heap_below hst3 k24_2
                    have k25_3 := heap_below hst3 k25_2
                    have n2426_3 : ¬ X2.heap.size = X0.heap.size := by have := (Array.getElem?_eq_some_iff.1 k24_2).1; omega
                    have n2526_3 : ¬ X2.heap.size = X1.heap.size := by have := (Array.getElem?_eq_some_iff.1 k25_2).1; omega
                    clear hX3 hst3
                    refine hK.out _ _ (HCL.out _ hc3) (fun hHeld3 => ?_)
                    clear hK K
                    try simp only [Act.put, List.setIfInBounds_toArray, List.set_cons_zero, List.set_cons_succ]
                    refine wpAnyH_ready (rs := [27]) (by kernel_rfl) (by simp) ?_
                    refine AllReadyH.cons (by simp only [List.getElem?_toArray, List.getElem?_cons_succ, List.getElem?_cons_zero]; rfl) (fun K hK => ?_) ?_
                    · obtain ⟨qq, ee⟩ := blk k24_3
                      go_simp
                      obtain ⟨X4, hX4⟩ : ∃ T, ((X3.setCell ⟨X0.heap.size, 0, none⟩ (.int .i32 z.r)).setCell ⟨X0.heap.size, 1, none⟩ (.int .i64 z.bits)).setCell ⟨X0.heap.size, 2, none⟩ (.string ⟨z.href.toArray⟩) = T := ⟨_, rfl⟩
                      rw [hX4]
                      have hc4 : Below w8.heap.size w8 X4 := hX4 ▸ ((hc3.setCell hg1 _).setCell hg1 _).setCell hg1 _
                      have k24_4 : X4.heap[X0.heap.size]? = some (.cells #[.int .i32 z.r, .int .i64 z.bits, .string ⟨z.href.toArray⟩] 58) := by rw [← hX4]; simp [heap_set, putIn, k24_3]
                      have k25_4 : X4.heap[X1.heap.size]? = X3.heap[X1.heap.size]? := by rw [← hX4]; simp only [heap_set]; rw [if_neg (by omega), if_neg (by omega), if_neg (by omega)]
                      rw [k25_3] at k25_4
                      have k26_4 : X4.heap[X2.heap.size]? = X3.heap[X2.heap.size]? := by rw [← hX4]; simp only [heap_set]; rw [if_neg (by omega), if_neg (by omega), if_neg (by omega)]
                      rw [k26_3] at k26_4
                      clear hX4 qq ee
                      refine hK.out _ _ (HCL.out _ hc4) (fun hHeld4 => ?_)
                      clear hK K
                      refine wpAnyH_ready (rs := [28]) (by kernel_rfl) (by simp) ?_
                      refine AllReadyH.cons (by simp only [List.getElem?_toArray, List.getElem?_cons_succ, List.getElem?_cons_zero]; rfl) (fun K hK => ?_) ?_
                      · obtain ⟨qq, ee⟩ := blk k25_4
                        go_simp
                        obtain ⟨X5, hX5⟩ : ∃ T, ((X4.setCell ⟨X1.heap.size, 0, none⟩ (.int .i32 u.r)).setCell ⟨X1.heap.size, 1, none⟩ (.int .i64 u.bits)).setCell ⟨X1.heap.size, 2, none⟩ (.string ⟨u.href.toArray⟩) = T := ⟨_, rfl⟩
                        rw [hX5]
                        have hc5 : Below w8.heap.size w8 X5 := hX5 ▸ ((hc4.setCell hg2 _).setCell hg2 _).setCell hg2 _
                        have k25_5 : X5.heap[X1.heap.size]? = some (.cells #[.int .i32 u.r, .int .i64 u.bits, .string ⟨u.href.toArray⟩] 58) := by rw [← hX5]; simp [heap_set, putIn, k25_4]
                        have k24_5 : X5.heap[X0.heap.size]? = X4.heap[X0.heap.size]? := by rw [← hX5]; simp only [heap_set]; rw [if_neg (by omega), if_neg (by omega), if_neg (by omega)]
                        rw [k24_4] at k24_5
                        have k26_5 : X5.heap[X2.heap.size]? = X4.heap[X2.heap.size]? := by rw [← hX5]; simp only [heap_set]; rw [if_neg (by omega), if_neg (by omega), if_neg (by omega)]
                        rw [k26_4] at k26_5
                        clear hX5 qq ee
                        refine hK.out _ _ (HCL.out _ hc5) (fun hHeld5 => ?_)
                        clear hK K
                        refine wpAnyH_ready (rs := [29]) (by kernel_rfl) (by simp) ?_
                        refine AllReadyH.cons (by simp only [List.getElem?_toArray, List.getElem?_cons_succ, List.getElem?_cons_zero]; rfl) (fun K hK => ?_) ?_
                        · obtain ⟨qq, ee⟩ := blk k26_5
                          go_simp
                          obtain ⟨X6, hX6⟩ : ∃ T, ((X5.setCell ⟨X2.heap.size, 0, none⟩ (.int .i32 vv.r)).setCell ⟨X2.heap.size, 1, none⟩ (.int .i64 vv.bits)).setCell ⟨X2.heap.size, 2, none⟩ (.string ⟨vv.href.toArray⟩) = T := ⟨_, rfl⟩
                          rw [hX6]
                          have hc6 : Below w8.heap.size w8 X6 := hX6 ▸ ((hc5.setCell hg3 _).setCell hg3 _).setCell hg3 _
                          have k26_6 : X6.heap[X2.heap.size]? = some (.cells #[.int .i32 vv.r, .int .i64 vv.bits, .string ⟨vv.href.toArray⟩] 58) := by rw [← hX6]; simp [heap_set, putIn, k26_5]
                          have k24_6 : X6.heap[X0.heap.size]? = X5.heap[X0.heap.size]? := by rw [← hX6]; simp only [heap_set]; rw [if_neg (by omega), if_neg (by omega), if_neg (by omega)]
                          rw [k24_5] at k24_6
                          have k25_6 : X6.heap[X1.heap.size]? = X5.heap[X1.heap.size]? := by rw [← hX6]; simp only [heap_set]; rw [if_neg (by omega), if_neg (by omega), if_neg (by omega)]
                          rw [k25_5] at k25_6
                          clear hX6 qq ee
                          refine hK.out _ _ (HCL.out _ hc6) (fun hHeld6 => ?_)
                          clear hK K
                          refine wpAnyH_done (by kernel_rfl) ?_ _
                          refine NoPanic.normal ?_
                          go_wp2_with fail
                          go_meet
                          exact ⟨hc6, _, _, _, rfl, rfl, rfl, k24_6, k25_6, k26_6⟩
                        exact AllReadyH.nil
                      exact AllReadyH.nil
                    exact AllReadyH.nil
                  exact AllReadyH.nil
                refine AllReadyH.cons (by simp only [List.getElem?_toArray, List.getElem?_cons_succ, List.getElem?_cons_zero]; rfl) (fun K hK => ?_) ?_
                · go_simp
                  obtain ⟨X2, hX2⟩ : ∃ T, X1.alloc (.cells #[.int .i32 0, .int .i64 0, .string ⟨#[]⟩] 58) = T := ⟨_, rfl⟩
                  rw [hX2]
                  have hst2 : Below X1.heap.size X1 X2 := hX2 ▸ (Below.refl _ _).alloc (Nat.le_refl _) _
                  have k26_2 : X2.heap[X1.heap.size]? = some (.cells #[.int .i32 0, .int .i64 0, .string ⟨#[]⟩] 58) := hX2 ▸ heap_new _ _ rfl
                  have hc2 := below_from hc1 hst2
                  have hg2 : w8.heap.size ≤ X1.heap.size := hc1.size
                  have k24_2 := heap_below hst2 k24_1
                  have n2426_2 : ¬ X1.heap.size = X0.heap.size := by have := (Array.getElem?_eq_some_iff.1 k24_1).1; omega
                  clear hX2 hst2
                  refine hK.out _ _ (HCL.out _ hc2) (fun hHeld2 => ?_)
                  clear hK K
                  try simp only [Act.put, List.setIfInBounds_toArray, List.set_cons_zero, List.set_cons_succ]
                  refine wpAnyH_ready (rs := [25]) (by kernel_rfl) (by simp) ?_
                  refine AllReadyH.cons (by simp only [List.getElem?_toArray, List.getElem?_cons_succ, List.getElem?_cons_zero]; rfl) (fun K hK => ?_) ?_
                  · go_simp
                    obtain ⟨X3, hX3⟩ : ∃ T, X2.alloc (.cells #[.int .i32 0, .int .i64 0, .string ⟨#[]⟩] 58) = T := ⟨_, rfl⟩
                    rw [hX3]
                    have hst3 : Below X2.heap.size X2 X3 := hX3 ▸ (Below.refl _ _).alloc (Nat.le_refl _) _
                    have k25_3 : X3.heap[X2.heap.size]? = some (.cells #[.int .i32 0, .int .i64 0, .string ⟨#[]⟩] 58) := hX3 ▸ heap_new _ _ rfl
                    have hc3 := below_from hc2 hst3
                    have hg3 : w8.heap.size ≤ X2.heap.size := hc2.size
                    have k24_3 := heap_below hst3 k24_2
                    have k26_3 := heap_below hst3 k26_2
                    have n2425_3 : ¬ X2.heap.size = X0.heap.size := by have := (Array.getElem?_eq_some_iff.1 k24_2).1; omega
                    have n2526_3 : ¬ X2.heap.size = X1.heap.size := by have := (Array.getElem?_eq_some_iff.1 k26_2).1; omega
                    clear hX3 hst3
                    refine hK.out _ _ (HCL.out _ hc3) (fun hHeld3 => ?_)
                    clear hK K
                    try simp only [Act.put, List.setIfInBounds_toArray, List.set_cons_zero, List.set_cons_succ]
                    refine wpAnyH_ready (rs := [27]) (by kernel_rfl) (by simp) ?_
                    refine AllReadyH.cons (by simp only [List.getElem?_toArray, List.getElem?_cons_succ, List.getElem?_cons_zero]; rfl) (fun K hK => ?_) ?_
                    · obtain ⟨qq, ee⟩ := blk k24_3
                      go_simp
                      obtain ⟨X4, hX4⟩ : ∃ T, ((X3.setCell ⟨X0.heap.size, 0, none⟩ (.int .i32 z.r)).setCell ⟨X0.heap.size, 1, none⟩ (.int .i64 z.bits)).setCell ⟨X0.heap.size, 2, none⟩ (.string ⟨z.href.toArray⟩) = T := ⟨_, rfl⟩
                      rw [hX4]
                      have hc4 : Below w8.heap.size w8 X4 := hX4 ▸ ((hc3.setCell hg1 _).setCell hg1 _).setCell hg1 _
                      have k24_4 : X4.heap[X0.heap.size]? = some (.cells #[.int .i32 z.r, .int .i64 z.bits, .string ⟨z.href.toArray⟩] 58) := by rw [← hX4]; simp [heap_set, putIn, k24_3]
                      have k26_4 : X4.heap[X1.heap.size]? = X3.heap[X1.heap.size]? := by rw [← hX4]; simp only [heap_set]; rw [if_neg (by omega), if_neg (by omega), if_neg (by omega)]
                      rw [k26_3] at k26_4
                      have k25_4 : X4.heap[X2.heap.size]? = X3.heap[X2.heap.size]? := by rw [← hX4]; simp only [heap_set]; rw [if_neg (by omega), if_neg (by omega), if_neg (by omega)]
                      rw [k25_3] at k25_4
                      clear hX4 qq ee
                      refine hK.out _ _ (HCL.out _ hc4) (fun hHeld4 => ?_)
                      clear hK K
                      refine wpAnyH_ready (rs := [28]) (by kernel_rfl) (by simp) ?_
                      refine AllReadyH.cons (by simp only [List.getElem?_toArray, List.getElem?_cons_succ, List.getElem?_cons_zero]; rfl) (fun K hK => ?_) ?_
                      · obtain ⟨qq, ee⟩ := blk k25_4
                        go_simp
                        obtain ⟨X5, hX5⟩ : ∃ T, ((X4.setCell ⟨X2.heap.size, 0, none⟩ (.int .i32 u.r)).setCell ⟨X2.heap.size, 1, none⟩ (.int .i64 u.bits)).setCell ⟨X2.heap.size, 2, none⟩ (.string ⟨u.href.toArray⟩) = T := ⟨_, rfl⟩
                        rw [hX5]
                        have hc5 : Below w8.heap.size w8 X5 := hX5 ▸ ((hc4.setCell hg3 _).setCell hg3 _).setCell hg3 _
                        have k25_5 : X5.heap[X2.heap.size]? = some (.cells #[.int .i32 u.r, .int .i64 u.bits, .string ⟨u.href.toArray⟩] 58) := by rw [← hX5]; simp [heap_set, putIn, k25_4]
                        have k24_5 : X5.heap[X0.heap.size]? = X4.heap[X0.heap.size]? := by rw [← hX5]; simp only [heap_set]; rw [if_neg (by omega), if_neg (by omega), if_neg (by omega)]
                        rw [k24_4] at k24_5
                        have k26_5 : X5.heap[X1.heap.size]? = X4.heap[X1.heap.size]? := by rw [← hX5]; simp only [heap_set]; rw [if_neg (by omega), if_neg (by omega), if_neg (by omega)]
                        rw [k26_4] at k26_5
                        clear hX5 qq ee
                        refine hK.out _ _ (HCL.out _ hc5) (fun hHeld5 => ?_)
                        clear hK K
                        refine wpAnyH_ready (rs := [29]) (by kernel_rfl) (by simp) ?_
                        refine AllReadyH.cons (by simp only [List.getElem?_toArray, List.getElem?_cons_succ, List.getElem?_cons_zero]; rfl) (fun K hK => ?_) ?_
                        · obtain ⟨qq, ee⟩ := blk k26_5
                          go_simp
                          obtain ⟨X6, hX6⟩ : ∃ T, ((X5.setCell ⟨X1.heap.size, 0, none⟩ (.int .i32 vv.r)).setCell ⟨X1.heap.size, 1, none⟩ (.int .i64 vv.bits)).setCell ⟨X1.heap.size, 2, none⟩ (.string ⟨vv.href.toArray⟩) = T := ⟨_, rfl⟩
                          rw [hX6]
                          have hc6 : Below w8.heap.size w8 X6 := hX6 ▸ ((hc5.setCell hg2 _).setCell hg2 _).setCell hg2 _
                          have k26_6 : X6.heap[X1.heap.size]? = some (.cells #[.int .i32 vv.r, .int .i64 vv.bits, .string ⟨vv.href.toArray⟩] 58) := by rw [← hX6]; simp [heap_set, putIn, k26_5]
                          have k24_6 : X6.heap[X0.heap.size]? = X5.heap[X0.heap.size]? := by rw [← hX6]; simp only [heap_set]; rw [if_neg (by omega), if_neg (by omega), if_neg (by omega)]
                          rw [k24_5] at k24_6
                          have k25_6 : X6.heap[X2.heap.size]? = X5.heap[X2.heap.size]? := by rw [← hX6]; simp only [heap_set]; rw [if_neg (by omega), if_neg (by omega), if_neg (by omega)]
                          rw [k25_5] at k25_6
                          clear hX6 qq ee
                          refine hK.out _ _ (HCL.out _ hc6) (fun hHeld6 => ?_)
                          clear hK K
                          refine wpAnyH_done (by kernel_rfl) ?_ _
                          refine NoPanic.normal ?_
                          go_wp2_with fail
                          go_meet
                          exact ⟨hc6, _, _, _, rfl, rfl, rfl, k24_6, k25_6, k26_6⟩
                        exact AllReadyH.nil
                      exact AllReadyH.nil
                    exact AllReadyH.nil
                  exact AllReadyH.nil
                exact AllReadyH.nil
              refine AllReadyH.cons (by simp only [List.getElem?_toArray, List.getElem?_cons_succ, List.getElem?_cons_zero]; rfl) (fun K hK => ?_) ?_
              · go_simp
                obtain ⟨X1, hX1⟩ : ∃ T, X0.alloc (.cells #[.int .i32 0, .int .i64 0, .string ⟨#[]⟩] 58) = T := ⟨_, rfl⟩
                rw [hX1]
                have hst1 : Below X0.heap.size X0 X1 := hX1 ▸ (Below.refl _ _).alloc (Nat.le_refl _) _
                have k25_1 : X1.heap[X0.heap.size]? = some (.cells #[.int .i32 0, .int .i64 0, .string ⟨#[]⟩] 58) := hX1 ▸ heap_new _ _ rfl
                have hc1 := below_from hc0 hst1
                have hg1 : w8.heap.size ≤ X0.heap.size := hc0.size
                clear hX1 hst1
                refine hK.out _ _ (HCL.out _ hc1) (fun hHeld1 => ?_)
                clear hK K
                try simp only [Act.put, List.setIfInBounds_toArray, List.set_cons_zero, List.set_cons_succ]
                refine wpAnyH_ready (rs := [24, 26]) (by kernel_rfl) (by simp) ?_
                refine AllReadyH.cons (by simp only [List.getElem?_toArray, List.getElem?_cons_succ, List.getElem?_cons_zero]; rfl) (fun K hK => ?_) ?_
                · go_simp
                  obtain ⟨X2, hX2⟩ : ∃ T, X1.alloc (.cells #[.int .i32 0, .int .i64 0, .string ⟨#[]⟩] 58) = T := ⟨_, rfl⟩
                  rw [hX2]
                  have hst2 : Below X1.heap.size X1 X2 := hX2 ▸ (Below.refl _ _).alloc (Nat.le_refl _) _
                  have k24_2 : X2.heap[X1.heap.size]? = some (.cells #[.int .i32 0, .int .i64 0, .string ⟨#[]⟩] 58) := hX2 ▸ heap_new _ _ rfl
                  have hc2 := below_from hc1 hst2
                  have hg2 : w8.heap.size ≤ X1.heap.size := hc1.size
                  have k25_2 := heap_below hst2 k25_1
                  have n2425_2 : ¬ X1.heap.size = X0.heap.size := by have := (Array.getElem?_eq_some_iff.1 k25_1).1; omega
                  clear hX2 hst2
                  refine hK.out _ _ (HCL.out _ hc2) (fun hHeld2 => ?_)
                  clear hK K
                  try simp only [Act.put, List.setIfInBounds_toArray, List.set_cons_zero, List.set_cons_succ]
                  refine wpAnyH_ready (rs := [26]) (by kernel_rfl) (by simp) ?_
                  refine AllReadyH.cons (by simp only [List.getElem?_toArray, List.getElem?_cons_succ, List.getElem?_cons_zero]; rfl) (fun K hK => ?_) ?_
                  · go_simp
                    obtain ⟨X3, hX3⟩ : ∃ T, X2.alloc (.cells #[.int .i32 0, .int .i64 0, .string ⟨#[]⟩] 58) = T := ⟨_, rfl⟩
                    rw [hX3]
                    have hst3 : Below X2.heap.size X2 X3 := hX3 ▸ (Below.refl _ _).alloc (Nat.le_refl _) _
                    have k26_3 : X3.heap[X2.heap.size]? = some (.cells #[.int .i32 0, .int .i64 0, .string ⟨#[]⟩] 58) := hX3 ▸ heap_new _ _ rfl
                    have hc3 := below_from hc2 hst3
                    have hg3 : w8.heap.size ≤ X2.heap.size := hc2.size
                    have k25_3 := heap_below hst3 k25_2
                    have k24_3 := heap_below hst3 k24_2
                    have n2526_3 : ¬ X2.heap.size = X0.heap.size := by have := (Array.getElem?_eq_some_iff.1 k25_2).1; omega
                    have n2426_3 : ¬ X2.heap.size = X1.heap.size := by have := (Array.getElem?_eq_some_iff.1 k24_2).1; omega
                    clear hX3 hst3
                    refine hK.out _ _ (HCL.out _ hc3) (fun hHeld3 => ?_)
                    clear hK K
                    try simp only [Act.put, List.setIfInBounds_toArray, List.set_cons_zero, List.set_cons_succ]
                    refine wpAnyH_ready (rs := [27]) (by kernel_rfl) (by simp) ?_
                    refine AllReadyH.cons (by simp only [List.getElem?_toArray, List.getElem?_cons_succ, List.getElem?_cons_zero]; rfl) (fun K hK => ?_) ?_
                    · obtain ⟨qq, ee⟩ := blk k24_3
                      go_simp
                      obtain ⟨X4, hX4⟩ : ∃ T, ((X3.setCell ⟨X1.heap.size, 0, none⟩ (.int .i32 z.r)).setCell ⟨X1.heap.size, 1, none⟩ (.int .i64 z.bits)).setCell ⟨X1.heap.size, 2, none⟩ (.string ⟨z.href.toArray⟩) = T := ⟨_, rfl⟩
                      rw [hX4]
                      have hc4 : Below w8.heap.size w8 X4 := hX4 ▸ ((hc3.setCell hg2 _).setCell hg2 _).setCell hg2 _
                      have k24_4 : X4.heap[X1.heap.size]? = some (.cells #[.int .i32 z.r, .int .i64 z.bits, .string ⟨z.href.toArray⟩] 58) := by rw [← hX4]; simp [heap_set, putIn, k24_3]
                      have k25_4 : X4.heap[X0.heap.size]? = X3.heap[X0.heap.size]? := by rw [← hX4]; simp only [heap_set]; rw [if_neg (by omega), if_neg (by omega), if_neg (by omega)]
                      rw [k25_3] at k25_4
                      have k26_4 : X4.heap[X2.heap.size]? = X3.heap[X2.heap.size]? := by rw [← hX4]; simp only [heap_set]; rw [if_neg (by omega), if_neg (by omega), if_neg (by omega)]
                      rw [k26_3] at k26_4
                      clear hX4 qq ee
                      refine hK.out _ _ (HCL.out _ hc4) (fun hHeld4 => ?_)
                      clear hK K
                      refine wpAnyH_ready (rs := [28]) (by kernel_rfl) (by simp) ?_
                      refine AllReadyH.cons (by simp only [List.getElem?_toArray, List.getElem?_cons_succ, List.getElem?_cons_zero]; rfl) (fun K hK => ?_) ?_
                      · obtain ⟨qq, ee⟩ := blk k25_4
                        go_simp
                        obtain ⟨X5, hX5⟩ : ∃ T, ((X4.setCell ⟨X0.heap.size, 0, none⟩ (.int .i32 u.r)).setCell ⟨X0.heap.size, 1, none⟩ (.int .i64 u.bits)).setCell ⟨X0.heap.size, 2, none⟩ (.string ⟨u.href.toArray⟩) = T := ⟨_, rfl⟩
                        rw [hX5]
                        have hc5 : Below w8.heap.size w8 X5 := hX5 ▸ ((hc4.setCell hg1 _).setCell hg1 _).setCell hg1 _
                        have k25_5 : X5.heap[X0.heap.size]? = some (.cells #[.int .i32 u.r, .int .i64 u.bits, .string ⟨u.href.toArray⟩] 58) := by rw [← hX5]; simp [heap_set, putIn, k25_4]
                        have k24_5 : X5.heap[X1.heap.size]? = X4.heap[X1.heap.size]? := by rw [← hX5]; simp only [heap_set]; rw [if_neg (by omega), if_neg (by omega), if_neg (by omega)]
                        rw [k24_4] at k24_5
                        have k26_5 : X5.heap[X2.heap.size]? = X4.heap[X2.heap.size]? := by rw [← hX5]; simp only [heap_set]; rw [if_neg (by omega), if_neg (by omega), if_neg (by omega)]
                        rw [k26_4] at k26_5
                        clear hX5 qq ee
                        refine hK.out _ _ (HCL.out _ hc5) (fun hHeld5 => ?_)
                        clear hK K
                        refine wpAnyH_ready (rs := [29]) (by kernel_rfl) (by simp) ?_
                        refine AllReadyH.cons (by simp only [List.getElem?_toArray, List.getElem?_cons_succ, List.getElem?_cons_zero]; rfl) (fun K hK => ?_) ?_
                        · obtain ⟨qq, ee⟩ := blk k26_5
                          go_simp
                          obtain ⟨X6, hX6⟩ : ∃ T, ((X5.setCell ⟨X2.heap.size, 0, none⟩ (.int .i32 vv.r)).setCell ⟨X2.heap.size, 1, none⟩ (.int .i64 vv.bits)).setCell ⟨X2.heap.size, 2, none⟩ (.string ⟨vv.href.toArray⟩) = T := ⟨_, rfl⟩
                          rw [hX6]
                          have hc6 : Below w8.heap.size w8 X6 := hX6 ▸ ((hc5.setCell hg3 _).setCell hg3 _).setCell hg3 _
                          have k26_6 : X6.heap[X2.heap.size]? = some (.cells #[.int .i32 vv.r, .int .i64 vv.bits, .string ⟨vv.href.toArray⟩] 58) := by rw [← hX6]; simp [heap_set, putIn, k26_5]
                          have k25_6 : X6.heap[X0.heap.size]? = X5.heap[X0.heap.size]? := by rw [← hX6]; simp only [heap_set]; rw [if_neg (by omega), if_neg (by omega), if_neg (by omega)]
                          rw [k25_5] at k25_6
                          have k24_6 : X6.heap[X1.heap.size]? = X5.heap[X1.heap.size]? := by rw [← hX6]; simp only [heap_set]; rw [if_neg (by omega), if_neg (by omega), if_neg (by omega)]
                          rw [k24_5] at k24_6
                          clear hX6 qq ee
                          refine hK.out _ _ (HCL.out _ hc6) (fun hHeld6 => ?_)
                          clear hK K
                          refine wpAnyH_done (by kernel_rfl) ?_ _
                          refine NoPanic.normal ?_
                          go_wp2_with fail
                          go_meet
                          exact ⟨hc6, _, _, _, rfl, rfl, rfl, k24_6, k25_6, k26_6⟩
                        exact AllReadyH.nil
                      exact AllReadyH.nil
                    exact AllReadyH.nil
                  exact AllReadyH.nil
                refine AllReadyH.cons (by simp only [List.getElem?_toArray, List.getElem?_cons_succ, List.getElem?_cons_zero]; rfl) (fun K hK => ?_) ?_
                · go_simp
                  obtain ⟨X2, hX2⟩ : ∃ T, X1.alloc (.cells #[.int .i32 0, .int .i64 0, .string ⟨#[]⟩] 58) = T := ⟨_, rfl⟩
                  rw [hX2]
                  have hst2 : Below X1.heap.size X1 X2 := hX2 ▸ (Below.refl _ _).alloc (Nat.le_refl _) _
                  have k26_2 : X2.heap[X1.heap.size]? = some (.cells #[.int .i32 0, .int .i64 0, .string ⟨#[]⟩] 58) := hX2 ▸ heap_new _ _ rfl
                  have hc2 := below_from hc1 hst2
                  have hg2 : w8.heap.size ≤ X1.heap.size := hc1.size
                  have k25_2 := heap_below hst2 k25_1
                  have n2526_2 : ¬ X1.heap.size = X0.heap.size := by have := (Array.getElem?_eq_some_iff.1 k25_1).1; omega
                  clear hX2 hst2
                  refine hK.out _ _ (HCL.out _ hc2) (fun hHeld2 => ?_)
                  clear hK K
                  try simp only [Act.put, List.setIfInBounds_toArray, List.set_cons_zero, List.set_cons_succ]
                  refine wpAnyH_ready (rs := [24]) (by kernel_rfl) (by simp) ?_
                  refine AllReadyH.cons (by simp only [List.getElem?_toArray, List.getElem?_cons_succ, List.getElem?_cons_zero]; rfl) (fun K hK => ?_) ?_
                  · go_simp
                    obtain ⟨X3, hX3⟩ : ∃ T, X2.alloc (.cells #[.int .i32 0, .int .i64 0, .string ⟨#[]⟩] 58) = T := ⟨_, rfl⟩
                    rw [hX3]
                    have hst3 : Below X2.heap.size X2 X3 := hX3 ▸ (Below.refl _ _).alloc (Nat.le_refl _) _
                    have k24_3 : X3.heap[X2.heap.size]? = some (.cells #[.int .i32 0, .int .i64 0, .string ⟨#[]⟩] 58) := hX3 ▸ heap_new _ _ rfl
                    have hc3 := below_from hc2 hst3
                    have hg3 : w8.heap.size ≤ X2.heap.size := hc2.size
                    have k25_3 := heap_below hst3 k25_2
                    have k26_3 := heap_below hst3 k26_2
                    have n2425_3 : ¬ X2.heap.size = X0.heap.size := by have := (Array.getElem?_eq_some_iff.1 k25_2).1; omega
                    have n2426_3 : ¬ X2.heap.size = X1.heap.size := by have := (Array.getElem?_eq_some_iff.1 k26_2).1; omega
                    clear hX3 hst3
                    refine hK.out _ _ (HCL.out _ hc3) (fun hHeld3 => ?_)
                    clear hK K
                    try simp only [Act.put, List.setIfInBounds_toArray, List.set_cons_zero, List.set_cons_succ]
                    refine wpAnyH_ready (rs := [27]) (by kernel_rfl) (by simp) ?_
                    refine AllReadyH.cons (by simp only [List.getElem?_toArray, List.getElem?_cons_succ, List.getElem?_cons_zero]; rfl) (fun K hK => ?_) ?_
                    · obtain ⟨qq, ee⟩ := blk k24_3
                      go_simp
                      obtain ⟨X4, hX4⟩ : ∃ T, ((X3.setCell ⟨X2.heap.size, 0, none⟩ (.int .i32 z.r)).setCell ⟨X2.heap.size, 1, none⟩ (.int .i64 z.bits)).setCell ⟨X2.heap.size, 2, none⟩ (.string ⟨z.href.toArray⟩) = T := ⟨_, rfl⟩
                      rw [hX4]
                      have hc4 : Below w8.heap.size w8 X4 := hX4 ▸ ((hc3.setCell hg3 _).setCell hg3 _).setCell hg3 _
                      have k24_4 : X4.heap[X2.heap.size]? = some (.cells #[.int .i32 z.r, .int .i64 z.bits, .string ⟨z.href.toArray⟩] 58) := by rw [← hX4]; simp [heap_set, putIn, k24_3]
                      have k25_4 : X4.heap[X0.heap.size]? = X3.heap[X0.heap.size]? := by rw [← hX4]; simp only [heap_set]; rw [if_neg (by omega), if_neg (by omega), if_neg (by omega)]
                      rw [k25_3] at k25_4
                      have k26_4 : X4.heap[X1.heap.size]? = X3.heap[X1.heap.size]? := by rw [← hX4]; simp only [heap_set]; rw [if_neg (by omega), if_neg (by omega), if_neg (by omega)]
                      rw [k26_3] at k26_4
                      clear hX4 qq ee
                      refine hK.out _ _ (HCL.out _ hc4) (fun hHeld4 => ?_)
                      clear hK K
                      refine wpAnyH_ready (rs := [28]) (by kernel_rfl) (by simp) ?_
                      refine AllReadyH.cons (by simp only [List.getElem?_toArray, List.getElem?_cons_succ, List.getElem?_cons_zero]; rfl) (fun K hK => ?_) ?_
                      · obtain ⟨qq, ee⟩ := blk k25_4
                        go_simp
                        obtain ⟨X5, hX5⟩ : ∃ T, ((X4.setCell ⟨X0.heap.size, 0, none⟩ (.int .i32 u.r)).setCell ⟨X0.heap.size, 1, none⟩ (.int .i64 u.bits)).setCell ⟨X0.heap.size, 2, none⟩ (.string ⟨u.href.toArray⟩) = T := ⟨_, rfl⟩
                        rw [hX5]
                        have hc5 : Below w8.heap.size w8 X5 := hX5 ▸ ((hc4.setCell hg1 _).setCell hg1 _).setCell hg1 _
                        have k25_5 : X5.heap[X0.heap.size]? = some (.cells #[.int .i32 u.r, .int .i64 u.bits, .string ⟨u.href.toArray⟩] 58) := by rw [← hX5]; simp [heap_set, putIn, k25_4]
                        have k26_5 : X5.heap[X1.heap.size]? = X4.heap[X1.heap.size]? := by rw [← hX5]; simp only [heap_set]; rw [if_neg (by omega), if_neg (by omega), if_neg (by omega)]
                        rw [k26_4] at k26_5
                        have k24_5 : X5.heap[X2.heap.size]? = X4.heap[X2.heap.size]? := by rw [← hX5]; simp only [heap_set]; rw [if_neg (by omega), if_neg (by omega), if_neg (by omega)]
                        rw [k24_4] at k24_5
                        clear hX5 qq ee
                        refine hK.out _ _ (HCL.out _ hc5) (fun hHeld5 => ?_)
                        clear hK K
                        refine wpAnyH_ready (rs := [29]) (by kernel_rfl) (by simp) ?_
                        refine AllReadyH.cons (by simp only [List.getElem?_toArray, List.getElem?_cons_succ, List.getElem?_cons_zero]; rfl) (fun K hK => ?_) ?_
                        · obtain ⟨qq, ee⟩ := blk k26_5
                          go_simp
                          obtain ⟨X6, hX6⟩ : ∃ T, ((X5.setCell ⟨X1.heap.size, 0, none⟩ (.int .i32 vv.r)).setCell ⟨X1.heap.size, 1, none⟩ (.int .i64 vv.bits)).setCell ⟨X1.heap.size, 2, none⟩ (.string ⟨vv.href.toArray⟩) = T := ⟨_, rfl⟩
                          rw [hX6]
                          have hc6 : Below w8.heap.size w8 X6 := hX6 ▸ ((hc5.setCell hg2 _).setCell hg2 _).setCell hg2 _
                          have k26_6 : X6.heap[X1.heap.size]? = some (.cells #[.int .i32 vv.r, .int .i64 vv.bits, .string ⟨vv.href.toArray⟩] 58) := by rw [← hX6]; simp [heap_set, putIn, k26_5]
                          have k25_6 : X6.heap[X0.heap.size]? = X5.heap[X0.heap.size]? := by rw [← hX6]; simp only [heap_set]; rw [if_neg (by omega), if_neg (by omega), if_neg (by omega)]
                          rw [k25_5] at k25_6
                          have k24_6 : X6.heap[X2.heap.size]? = X5.heap[X2.heap.size]? := by rw [← hX6]; simp only [heap_set]; rw [if_neg (by omega), if_neg (by omega), if_neg (by omega)]
                          rw [k24_5] at k24_6
                          clear hX6 qq ee
                          refine hK.out _ _ (HCL.out _ hc6) (fun hHeld6 => ?_)
                          clear hK K
                          refine wpAnyH_done (by kernel_rfl) ?_ _
                          refine NoPanic.normal ?_
                          go_wp2_with fail
                          go_meet
                          exact ⟨hc6, _, _, _, rfl, rfl, rfl, k24_6, k25_6, k26_6⟩
                        exact AllReadyH.nil
                      exact AllReadyH.nil
                    exact AllReadyH.nil
                  exact AllReadyH.nil
                exact AllReadyH.nil
              refine AllReadyH.cons (by simp only [List.getElem?_toArray, List.getElem?_cons_succ, List.getElem?_cons_zero]; rfl) (fun K hK => ?_) ?_
              · go_simp
                obtain ⟨X1, hX1⟩ : ∃ T, X0.alloc (.cells #[.int .i32 0, .int .i64 0, .string ⟨#[]⟩] 58) = T := ⟨_, rfl⟩
                rw [hX1]
                have hst1 : Below X0.heap.size X0 X1 := hX1 ▸ (Below.refl _ _).alloc (Nat.le_refl _) _
                have k26_1 : X1.heap[X0.heap.size]? = some (.cells #[.int .i32 0, .int .i64 0, .string ⟨#[]⟩] 58) := hX1 ▸ heap_new _ _ rfl
                have hc1 := below_from hc0 hst1
                have hg1 : w8.heap.size ≤ X0.heap.size := hc0.size
                clear hX1 hst1
                refine hK.out _ _ (HCL.out _ hc1) (fun hHeld1 => ?_)
                clear hK K
                try simp only [Act.put, List.setIfInBounds_toArray, List.set_cons_zero, List.set_cons_succ]
                refine wpAnyH_ready (rs := [24, 25]) (by kernel_rfl) (by simp) ?_
                refine AllReadyH.cons (by simp only [List.getElem?_toArray, List.getElem?_cons_succ, List.getElem?_cons_zero]; rfl) (fun K hK => ?_) ?_
                · go_simp
                  obtain ⟨X2, hX2⟩ : ∃ T, X1.alloc (.cells #[.int .i32 0, .int .i64 0, .string ⟨#[]⟩] 58) = T := ⟨_, rfl⟩
                  rw [hX2]
                  have hst2 : Below X1.heap.size X1 X2 := hX2 ▸ (Below.refl _ _).alloc (Nat.le_refl _) _
                  have k24_2 : X2.heap[X1.heap.size]? = some (.cells #[.int .i32 0, .int .i64 0, .string ⟨#[]⟩] 58) := hX2 ▸ heap_new _ _ rfl
                  have hc2 := below_from hc1 hst2
                  have hg2 : w8.heap.size ≤ X1.heap.size := hc1.size
                  have k26_2 := heap_below hst2 k26_1
                  have n2426_2 : ¬ X1.heap.size = X0.heap.size := by have := (Array.getElem?_eq_some_iff.1 k26_1).1; omega
                  clear hX2 hst2
                  refine hK.out _ _ (HCL.out _ hc2) (fun hHeld2 => ?_)
                  clear hK K
                  try simp only [Act.put, List.setIfInBounds_toArray, List.set_cons_zero, List.set_cons_succ]
                  refine wpAnyH_ready (rs := [25]) (by kernel_rfl) (by simp) ?_
                  refine AllReadyH.cons (by simp only [List.getElem?_toArray, List.getElem?_cons_succ, List.getElem?_cons_zero]; rfl) (fun K hK => ?_) ?_
                  · go_simp
                    obtain ⟨X3, hX3⟩ : ∃ T, X2.alloc (.cells #[.int .i32 0, .int .i64 0, .string ⟨#[]⟩] 58) = T := ⟨_, rfl⟩
                    rw [hX3]
                    have hst3 : Below X2.heap.size X2 X3 := hX3 ▸ (Below.refl _ _).alloc (Nat.le_refl _) _
                    have k25_3 : X3.heap[X2.heap.size]? = some (.cells #[.int .i32 0, .int .i64 0, .string ⟨#[]⟩] 58) := hX3 ▸ heap_new _ _ rfl
                    have hc3 := below_from hc2 hst3
                    have hg3 : w8.heap.size ≤ X2.heap.size := hc2.size
                    have k26_3 := heap_below hst3 k26_2
                    have k24_3 := heap_below hst3 k24_2
                    have n2526_3 : ¬ X2.heap.size = X0.heap.size := by have := (Array.getElem?_eq_some_iff.1 k26_2).1; omega
                    have n2425_3 : ¬ X2.heap.size = X1.heap.size := by have := (Array.getElem?_eq_some_iff.1 k24_2).1; omega
                    clear hX3 hst3
                    refine hK.out _ _ (HCL.out _ hc3) (fun hHeld3 => ?_)
                    clear hK K
                    try simp only [Act.put, List.setIfInBounds_toArray, List.set_cons_zero, List.set_cons_succ]
                    refine wpAnyH_ready (rs := [27]) (by kernel_rfl) (by simp) ?_
                    refine AllReadyH.cons (by simp only [List.getElem?_toArray, List.getElem?_cons_succ, List.getElem?_cons_zero]; rfl) (fun K hK => ?_) ?_
                    · obtain ⟨qq, ee⟩ := blk k24_3
                      go_simp
                      obtain ⟨X4, hX4⟩ : ∃ T, ((X3.setCell ⟨X1.heap.size, 0, none⟩ (.int .i32 z.r)).setCell ⟨X1.heap.size, 1, none⟩ (.int .i64 z.bits)).setCell ⟨X1.heap.size, 2, none⟩ (.string ⟨z.href.toArray⟩) = T := ⟨_, rfl⟩
                      rw [hX4]
                      have hc4 : Below w8.heap.size w8 X4 := hX4 ▸ ((hc3.setCell hg2 _).setCell hg2 _).setCell hg2 _
                      have k24_4 : X4.heap[X1.heap.size]? = some (.cells #[.int .i32 z.r, .int .i64 z.bits, .string ⟨z.href.toArray⟩] 58) := by rw [← hX4]; simp [heap_set, putIn, k24_3]
                      have k26_4 : X4.heap[X0.heap.size]? = X3.heap[X0.heap.size]? := by rw [← hX4]; simp only [heap_set]; rw [if_neg (by omega), if_neg (by omega), if_neg (by omega)]
                      rw [k26_3] at k26_4
                      have k25_4 : X4.heap[X2.heap.size]? = X3.heap[X2.heap.size]? := by rw [← hX4]; simp only [heap_set]; rw [if_neg (by omega), if_neg (by omega), if_neg (by omega)]
                      rw [k25_3] at k25_4
                      clear hX4 qq ee
                      refine hK.out _ _ (HCL.out _ hc4) (fun hHeld4 => ?_)
                      clear hK K
                      refine wpAnyH_ready (rs := [28]) (by kernel_rfl) (by simp) ?_
                      refine AllReadyH.cons (by simp only [List.getElem?_toArray, List.getElem?_cons_succ, List.getElem?_cons_zero]; rfl) (fun K hK => ?_) ?_
                      · obtain ⟨qq, ee⟩ := blk k25_4
                        go_simp
                        obtain ⟨X5, hX5⟩ : ∃ T, ((X4.setCell ⟨X2.heap.size, 0, none⟩ (.int .i32 u.r)).setCell ⟨X2.heap.size, 1, none⟩ (.int .i64 u.bits)).setCell ⟨X2.heap.size, 2, none⟩ (.string ⟨u.href.toArray⟩) = T := ⟨_, rfl⟩
                        rw [hX5]
                        have hc5 : Below w8.heap.size w8 X5 := hX5 ▸ ((hc4.setCell hg3 _).setCell hg3 _).setCell hg3 _
                        have k25_5 : X5.heap[X2.heap.size]? = some (.cells #[.int .i32 u.r, .int .i64 u.bits, .string ⟨u.href.toArray⟩] 58) := by rw [← hX5]; simp [heap_set, putIn, k25_4]
                        have k26_5 : X5.heap[X0.heap.size]? = X4.heap[X0.heap.size]? := by rw [← hX5]; simp only [heap_set]; rw [if_neg (by omega), if_neg (by omega), if_neg (by omega)]
                        rw [k26_4] at k26_5
                        have k24_5 : X5.heap[X1.heap.size]? = X4.heap[X1.heap.size]? := by rw [← hX5]; simp only [heap_set]; rw [if_neg (by omega), if_neg (by omega), if_neg (by omega)]
                        rw [k24_4] at k24_5
                        clear hX5 qq ee
                        refine hK.out _ _ (HCL.out _ hc5) (fun hHeld5 => ?_)
                        clear hK K
                        refine wpAnyH_ready (rs := [29]) (by kernel_rfl) (by simp) ?_
                        refine AllReadyH.cons (by simp only [List.getElem?_toArray, List.getElem?_cons_succ, List.getElem?_cons_zero]; rfl) (fun K hK => ?_) ?_
                        · obtain ⟨qq, ee⟩ := blk k26_5
                          go_simp
                          obtain ⟨X6, hX6⟩ : ∃ T, ((X5.setCell ⟨X0.heap.size, 0, none⟩ (.int .i32 vv.r)).setCell ⟨X0.heap.size, 1, none⟩ (.int .i64 vv.bits)).setCell ⟨X0.heap.size, 2, none⟩ (.string ⟨vv.href.toArray⟩) = T := ⟨_, rfl⟩
                          rw [hX6]
                          have hc6 : Below w8.heap.size w8 X6 := hX6 ▸ ((hc5.setCell hg1 _).setCell hg1 _).setCell hg1 _
                          have k26_6 : X6.heap[X0.heap.size]? = some (.cells #[.int .i32 vv.r, .int .i64 vv.bits, .string ⟨vv.href.toArray⟩] 58) := by rw [← hX6]; simp [heap_set, putIn, k26_5]
                          have k24_6 : X6.heap[X1.heap.size]? = X5.heap[X1.heap.size]? := by rw [← hX6]; simp only [heap_set]; rw [if_neg (by omega), if_neg (by omega), if_neg (by omega)]
                          rw [k24_5] at k24_6
                          have k25_6 : X6.heap[X2.heap.size]? = X5.heap[X2.heap.size]? := by rw [← hX6]; simp only [heap_set]; rw [if_neg (by omega), if_neg (by omega), if_neg (by omega)]
                          rw [k25_5] at k25_6
                          clear hX6 qq ee
                          refine hK.out _ _ (HCL.out _ hc6) (fun hHeld6 => ?_)
                          clear hK K
                          refine wpAnyH_done (by kernel_rfl) ?_ _
                          refine NoPanic.normal ?_
                          go_wp2_with fail
                          go_meet
                          exact ⟨hc6, _, _, _, rfl, rfl, rfl, k24_6, k25_6, k26_6⟩
                        exact AllReadyH.nil
                      exact AllReadyH.nil
                    exact AllReadyH.nil
                  exact AllReadyH.nil
                refine AllReadyH.cons (by simp only [List.getElem?_toArray, List.getElem?_cons_succ, List.getElem?_cons_zero]; rfl) (fun K hK => ?_) ?_
                · go_simp
                  obtain ⟨X2, hX2⟩ : ∃ T, X1.alloc (.cells #[.int .i32 0, .int .i64 0, .string ⟨#[]⟩] 58) = T := ⟨_, rfl⟩
                  rw [hX2]
                  have hst2 : Below X1.heap.size X1 X2 := hX2 ▸ (Below.refl _ _).alloc (Nat.le_refl _) _
                  have k25_2 : X2.heap[X1.heap.size]? = some (.cells #[.int .i32 0, .int .i64 0, .string ⟨#[]⟩] 58) := hX2 ▸ heap_new _ _ rfl
                  have hc2 := below_from hc1 hst2
                  have hg2 : w8.heap.size ≤ X1.heap.size := hc1.size
                  have k26_2 := heap_below hst2 k26_1
                  have n2526_2 : ¬ X1.heap.size = X0.heap.size := by have := (Array.getElem?_eq_some_iff.1 k26_1).1; omega
                  clear hX2 hst2
                  refine hK.out _ _ (HCL.out _ hc2) (fun hHeld2 => ?_)
                  clear hK K
                  try simp only [Act.put, List.setIfInBounds_toArray, List.set_cons_zero, List.set_cons_succ]
                  refine wpAnyH_ready (rs := [24]) (by kernel_rfl) (by simp) ?_
                  refine AllReadyH.cons (by simp only [List.getElem?_toArray, List.getElem?_cons_succ, List.getElem?_cons_zero]; rfl) (fun K hK => ?_) ?_
                  · go_simp
                    obtain ⟨X3, hX3⟩ : ∃ T, X2.alloc (.cells #[.int .i32 0, .int .i64 0, .string ⟨#[]⟩] 58) = T := ⟨_, rfl⟩
                    rw [hX3]
                    have hst3 : Below X2.heap.size X2 X3 := hX3 ▸ (Below.refl _ _).alloc (Nat.le_refl _) _
                    have k24_3 : X3.heap[X2.heap.size]? = some (.cells #[.int .i32 0, .int .i64 0, .string ⟨#[]⟩] 58) := hX3 ▸ heap_new _ _ rfl
                    have hc3 := below_from hc2 hst3
                    have hg3 : w8.heap.size ≤ X2.heap.size := hc2.size
                    have k26_3 := heap_below hst3 k26_2
                    have k25_3 := heap_below hst3 k25_2
                    have n2426_3 : ¬ X2.heap.size = X0.heap.size := by have := (Array.getElem?_eq_some_iff.1 k26_2).1; omega
                    have n2425_3 : ¬ X2.heap.size = X1.heap.size := by have := (Array.getElem?_eq_some_iff.1 k25_2).1; omega
                    clear hX3 hst3
                    refine hK.out _ _ (HCL.out _ hc3) (fun hHeld3 => ?_)
                    clear hK K
                    try simp only [Act.put, List.setIfInBounds_toArray, List.set_cons_zero, List.set_cons_succ]
                    refine wpAnyH_ready (rs := [27]) (by kernel_rfl) (by simp) ?_
                    refine AllReadyH.cons (by simp only [List.getElem?_toArray, List.getElem?_cons_succ, List.getElem?_cons_zero]; rfl) (fun K hK => ?_) ?_
                    · obtain ⟨qq, ee⟩ := blk k24_3
                      go_simp
                      obtain ⟨X4, hX4⟩ : ∃ T, ((X3.setCell ⟨X2.heap.size, 0, none⟩ (.int .i32 z.r)).setCell ⟨X2.heap.size, 1, none⟩ (.int .i64 z.bits)).setCell ⟨X2.heap.size, 2, none⟩ (.string ⟨z.href.toArray⟩) = T := ⟨_, rfl⟩
                      rw [hX4]
                      have hc4 : Below w8.heap.size w8 X4 := hX4 ▸ ((hc3.setCell hg3 _).setCell hg3 _).setCell hg3 _
                      have k24_4 : X4.heap[X2.heap.size]? = some (.cells #[.int .i32 z.r, .int .i64 z.bits, .string ⟨z.href.toArray⟩] 58) := by rw [← hX4]; simp [heap_set, putIn, k24_3]
                      have k26_4 : X4.heap[X0.heap.size]? = X3.heap[X0.heap.size]? := by rw [← hX4]; simp only [heap_set]; rw [if_neg (by omega), if_neg (by omega), if_neg (by omega)]
                      rw [k26_3] at k26_4
                      have k25_4 : X4.heap[X1.heap.size]? = X3.heap[X1.heap.size]? := by rw [← hX4]; simp only [heap_set]; rw [if_neg (by omega), if_neg (by omega), if_neg (by omega)]
                      rw [k25_3] at k25_4
                      clear hX4 qq ee
                      refine hK.out _ _ (HCL.out _ hc4) (fun hHeld4 => ?_)
                      clear hK K
                      refine wpAnyH_ready (rs := [28]) (by kernel_rfl) (by simp) ?_
                      refine AllReadyH.cons (by simp only [List.getElem?_toArray, List.getElem?_cons_succ, List.getElem?_cons_zero]; rfl) (fun K hK => ?_) ?_
                      · obtain ⟨qq, ee⟩ := blk k25_4
                        go_simp
                        obtain ⟨X5, hX5⟩ : ∃ T, ((X4.setCell ⟨X1.heap.size, 0, none⟩ (.int .i32 u.r)).setCell ⟨X1.heap.size, 1, none⟩ (.int .i64 u.bits)).setCell ⟨X1.heap.size, 2, none⟩ (.string ⟨u.href.toArray⟩) = T := ⟨_, rfl⟩
                        rw [hX5]
                        have hc5 : Below w8.heap.size w8 X5 := hX5 ▸ ((hc4.setCell hg2 _).setCell hg2 _).setCell hg2 _
                        have k25_5 : X5.heap[X1.heap.size]? = some (.cells #[.int .i32 u.r, .int .i64 u.bits, .string ⟨u.href.toArray⟩] 58) := by rw [← hX5]; simp [heap_set, putIn, k25_4]
                        have k26_5 : X5.heap[X0.heap.size]? = X4.heap[X0.heap.size]? := by rw [← hX5]; simp only [heap_set]; rw [if_neg (by omega), if_neg (by omega), if_neg (by omega)]
                        rw [k26_4] at k26_5
                        have k24_5 : X5.heap[X2.heap.size]? = X4.heap[X2.heap.size]? := by rw [← hX5]; simp only [heap_set]; rw [if_neg (by omega), if_neg (by omega), if_neg (by omega)]
                        rw [k24_4] at k24_5
                        clear hX5 qq ee
                        refine hK.out _ _ (HCL.out _ hc5) (fun hHeld5 => ?_)
                        clear hK K
                        refine wpAnyH_ready (rs := [29]) (by kernel_rfl) (by simp) ?_
                        refine AllReadyH.cons (by simp only [List.getElem?_toArray, List.getElem?_cons_succ, List.getElem?_cons_zero]; rfl) (fun K hK => ?_) ?_
                        · obtain ⟨qq, ee⟩ := blk k26_5
                          go_simp
                          obtain ⟨X6, hX6⟩ : ∃ T, ((X5.setCell ⟨X0.heap.size, 0, none⟩ (.int .i32 vv.r)).setCell ⟨X0.heap.size, 1, none⟩ (.int .i64 vv.bits)).setCell ⟨X0.heap.size, 2, none⟩ (.string ⟨vv.href.toArray⟩) = T := ⟨_, rfl⟩
                          rw [hX6]
                          have hc6 : Below w8.heap.size w8 X6 := hX6 ▸ ((hc5.setCell hg1 _).setCell hg1 _).setCell hg1 _
                          have k26_6 : X6.heap[X0.heap.size]? = some (.cells #[.int .i32 vv.r, .int .i64 vv.bits, .string ⟨vv.href.toArray⟩] 58) := by rw [← hX6]; simp [heap_set, putIn, k26_5]
                          have k25_6 : X6.heap[X1.heap.size]? = X5.heap[X1.heap.size]? := by rw [← hX6]; simp only [heap_set]; rw [if_neg (by omega), if_neg (by omega), if_neg (by omega)]
                          rw [k25_5] at k25_6
                          have k24_6 : X6.heap[X2.heap.size]? = X5.heap[X2.heap.size]? := by rw [← hX6]; simp only [heap_set]; rw [if_neg (by omega), if_neg (by omega), if_neg (by omega)]
                          rw [k24_5] at k24_6
                          clear hX6 qq ee
                          refine hK.out _ _ (HCL.out _ hc6) (fun hHeld6 => ?_)
                          clear hK K
                          refine wpAnyH_done (by kernel_rfl) ?_ _
                          refine NoPanic.normal ?_
                          go_wp2_with fail
                          go_meet
                          exact ⟨hc6, _, _, _, rfl, rfl, rfl, k24_6, k25_6, k26_6⟩
                        exact AllReadyH.nil
                      exact AllReadyH.nil
                    exact AllReadyH.nil
                  exact AllReadyH.nil
                exact AllReadyH.nil
              exact AllReadyH.nil
            case rest =>
              obtain ⟨hb20, b1, b2, b3, rfl, rfl, rfl, kz, ku, kv⟩ := hcut
              obtain ⟨hg1, hg2, hg3, hg4, hg5, hg6⟩ := HG.out
              rw [hg1, hg2] at ku
              rw [hg3, hg4] at kv
              cases t
              case' false =>
                have hin : ¬ (m1 ≤ 0 ∧ m2 < 0) := fun hh => by have := HT.out; simp [hh.1, hh.2] at this
                obtain ⟨h6, h7⟩ := hg6 hin
                rw [h6] at ku
                rw [h7] at kv
                clear h6 h7 hin
              case' true =>
                have hin : m1 ≤ 0 ∧ m2 < 0 := by have := HT.out; simpa using this
                have h5 := hg5 hin
                rw [h5] at kv
                clear h5 hin
              all_goals
                clear hg1 hg2 hg3 hg4 hg5 hg6 HG HT
                obtain ⟨r1, e1⟩ := blk kz
                obtain ⟨r2, e2⟩ := blk ku
                obtain ⟨r3, e3⟩ := blk kv
                go_wp2_with fail
                go_roundw
                case rel => exact ⟨n + 1, by omega, by go_num, hb20⟩
                case measure => simp [intOf]; omega
        · obtain rfl : n = l.cells.length := by omega
          obtain ⟨_, _, _, l0, _, _⟩ := HAA.out.2.2.below hb
          go_wp2_with fail
          go_roundw
          case rel => exact ⟨q + 1, by omega, by go_num, hb⟩
          case measure => simp [intOf]; omega
    · obtain rfl : q = d.length := by omega
      have hcl : Hid (∀ W, Below w8.heap.size w8 W → Calls Tryz.prog 38 #[.slice a3 X.length c3, .agg #[.int .i64 a.line, .int .i64 a.col], .agg #[.int .i64 b.line, .int .i64 b.col]] W fun e w' => ∃ v', e = .returned v' ∧ CelsR true w' (fun b => W.heap.size ≤ b) v' (cellsD X a b) ∧ Below W.heap.size W w') := Lib.hid fun W hW => refCells_any _ X a b W _ (HX8.out.below (rdLin_stable _) hW) HSX.out.1 HSX.out.2
      obtain ⟨p0, f0⟩ := blk (HB.out _ (below_from HB8.out hb)).1
      obtain ⟨p1, f1⟩ := blk (HB.out _ (below_from HB8.out hb)).2
      go_wp2_with fail
      refine (hcl.out _ hb).mono ?_
      rintro e U1 ⟨v9, rfl, hv9, hst9⟩
      have hbU := below_from hb hst9
      have hmy := Lib.hid (refCellsMay_any v9 (cellsD X a b) U1 _ (SliceR.read (fun _ _ h => h) hv9) (fun c hc => by
        have hm := List.all_eq_true.1 HAL.out.2.2 c hc
        exact may_href hm))
      rw [HAL.out.2.2] at hmy
      obtain ⟨a9, c9, rfl⟩ := hv9.slice
      clear hv9
      go_wp2_with fail
      refine hmy.out.mono ?_
      rintro e U2 ⟨rfl, hst2⟩
      have hbV := below_from HB8.out (below_from hbU hst2)
      go_wp2_with fail
      refine (HA.out _ hbV).mono ?_
      rintro e U3 ⟨rfl, hst3⟩
      go_wp2_with fail
      go_ret
      exact ⟨rfl, H1.out.trans ((below_from hbV hst3).mono hs1)⟩
end Go.Proofs.YtfoiaoopbkcpoaaGreatDoor
