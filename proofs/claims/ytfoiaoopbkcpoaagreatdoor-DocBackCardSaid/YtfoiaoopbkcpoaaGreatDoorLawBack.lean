/- The walk of the law DocBack. -/
import Derived.Test.YtfoiaoopbkcpoaaGreatDoorLawParts
import Derived.Test.YtfoiaoopbkcpoaaGreatDoorLawNew
import Derived.Test.YtfoiaoopbkcpoaaGreatDoorTyped
import Derived.Deep.Cut
import Derived.Deep.CutRange
namespace Go.Proofs.YtfoiaoopbkcpoaaGreatDoor
open Go.RowKit
open Go.Proofs.Qw
/-- What Delete leaves, told for the walk. -/
theorem back_facts {d : Doc} {a b : Ps} (h : spanD d a b = true) : ∃ (X Y Z : Doc) (E : Ps) (C : Nat), deleteD d a b = (X, 0) ∧ partD d ⟨0, 0⟩ a = (Y, 0) ∧ partD d b E = (Z, 0) ∧ endD d = E ∧ (cellsD d a b).length = C ∧ mayD X = true ∧
    ((sizeD d : Int) - (C : Int) = (sizeD X : Int) ∧ (Y.length : Int) + (Z.length : Int) - 1 = (X.length : Int) ∧ Y.length ≤ 300 ∧ Z.length ≤ 300 ∧ X.length ≤ 300 ∧ 0 < Y.length ∧ 0 < Z.length ∧ sizeD X ≤ 100000 ∧ sizeD d ≤ 100000 ∧ C ≤ 100000) ∧
    ∀ k x, X[k]? = some x → (k + 1 < Y.length → Y[k]? = some x) ∧ (k + 1 = Y.length → ∃ u v, Y[k]? = some u ∧ Z[0]? = some v ∧ x = { u with cells := u.cells ++ v.cells }) ∧ (Y.length ≤ k → Z[k + 1 - Y.length]? = some x) := by
  obtain ⟨hs0a, hsbe, hmX, hsX, hcS, hYn, hZn, hXYZ, hk⟩ := delete_parts h
  have hnX := mayD_iff.1 hmX
  have hnd := mayD_iff.1 (span_at h).1
  rw [flatc_len] at hnX hnd
  have hy1 := List.length_pos_iff.2 hYn
  have hz1 := List.length_pos_iff.2 hZn
  refine ⟨deleteL d a b, (partD d ⟨0, 0⟩ a).1, (partD d b (endD d)).1, endD d, _, by unfold deleteD; rw [if_pos h], by unfold partD; rw [if_pos hs0a], by unfold partD; rw [if_pos hsbe], rfl, rfl, hmX, ⟨by omega, by omega, by omega, by omega, by omega, hy1, hz1, by omega, by omega, by omega⟩, hk⟩
set_option maxRecDepth 100000 in
set_option maxHeartbeats 8000000 in
theorem lawBack_any (v lv : Value) (d : Doc) (a b : Ps) (l : List Cel) (w : World) (S S4 : Nat → Prop) (h : LinsR w S v d) (hl : CelsR false w S4 lv l) (sn : Sane d) (sc : l.length ≤ 70368744177664 ∧ ∀ c ∈ l, c.href.length ≤ 281474976710656) (he : EnvT w) :
    Calls Tryz.prog 9 #[v, posV a, posV b, lv] w fun e w' => e = .returned (.bool true) ∧ Below w.heap.size w w' := by
  obtain ⟨W1, hW1, hB, hz, k0, k1⟩ := two_pos w (.int .i64 a.line) (.int .i64 a.col) (.int .i64 b.line) (.int .i64 b.col)
  have hv := h.below (rdLin_stable _) hB
  have hlc := SliceR.below (rdOf_stable _) hl hB
  have he1 := he.below hB
  have HL := Lib.hid (long_any v d W1 S hv sn)
  have HA : Hid (∀ W, Below W1.heap.size W1 W → Calls Tryz.prog 11 #[] W fun e w' => e = .returned (.bool true) ∧ Below W.heap.size W w') := Lib.hid fun W hW => awake_any W (he1.below hW)
  have HB : Hid (∀ W, Below W1.heap.size W1 W → W.heap[w.heap.size]? = some (.cells #[.int .i64 a.line, .int .i64 a.col] 24) ∧ W.heap[w.heap.size + 1]? = some (.cells #[.int .i64 b.line, .int .i64 b.col] 24)) := Lib.hid fun W hW => ⟨heap_below hW k0, heap_below hW k1⟩
  have HV := Lib.hid hv
  have HLC := Lib.hid hlc
  have HE := Lib.hid he1
  have HP : Hid (∀ p : Ps, posV p = .agg #[.int .i64 p.line, .int .i64 p.col]) := Lib.hid fun _ => rfl
  have H1 := Lib.hid hB
  have hs1 := hB.size
  obtain ⟨va, vc, rfl⟩ := h.slice
  obtain ⟨lb, lc, rfl⟩ := hl.slice
  have HL2 : Hid (∀ W, Below W1.heap.size W1 W → Calls Tryz.prog 10 #[.slice (some ⟨W.heap.size, 0, none⟩) 1 1] (W.alloc (.cells #[.int .i64 0, .slice none 0 0, .int .i64 0, .slice lb l.length lc] 55)) (LongSaid [⟨0, [], 0, l⟩] (W.alloc (.cells #[.int .i64 0, .slice none 0 0, .int .i64 0, .slice lb l.length lc] 55)))) := Lib.hid fun W hW =>
    long_any _ _ _ _ (lins_new (SliceR.below (rdOf_stable _) hlc hW)) (fun x hx => by
      obtain rfl : x = ⟨0, [], 0, l⟩ := by simpa using hx
      exact ⟨by simp, sc.1, sc.2⟩)
  have hw0 : Below W1.heap.size W1 W1 := Below.refl _ _
  have HIs : Hid (∀ p W, Below W1.heap.size W1 W → Calls Tryz.prog 19 #[.slice va d.length vc, .agg #[.int .i64 p.line, .int .i64 p.col]] W fun e w' => e = .returned (.bool (isD d p)) ∧ Below W.heap.size W w') := Lib.hid fun p W hW => is_any _ d p W W1 S hv hW
  have HCm : Hid (∀ W, Below W1.heap.size W1 W → Calls Tryz.prog 23 #[.agg #[.int .i64 a.line, .int .i64 a.col], .agg #[.int .i64 b.line, .int .i64 b.col]] W fun e w' => e = .returned (.int .i64 (cmpP a b)) ∧ Below W.heap.size W w') := Lib.hid fun W _ => cmp_any a b W
  obtain ⟨p0, f0⟩ := blk k0
  obtain ⟨p1, f1⟩ := blk k1
  clear h hl he hv hlc he1 k0 k1 hB sn sc
  rw [HP.out a, HP.out b]
  obtain ⟨m, hm⟩ : ∃ m, mayD d = m := ⟨_, rfl⟩
  obtain ⟨ia, hia⟩ : ∃ m, isD d a = m := ⟨_, rfl⟩
  obtain ⟨ib, hib⟩ : ∃ m, isD d b = m := ⟨_, rfl⟩
  obtain ⟨u, hu⟩ : ∃ m, cmpP a b = m := ⟨_, rfl⟩
  have HIa := HIs.out a
  have HIb := HIs.out b
  have HC1 := HCm.out
  rw [hia] at HIa
  rw [hib] at HIb
  rw [hu] at HC1
  have HJa := Lib.hid HIa
  have HJb := Lib.hid HIb
  have HJc := Lib.hid HC1
  have HQ := Lib.hid (And.intro hm (And.intro hia (And.intro hib hu)))
  clear hm hia hib hu HIa HIb HC1 HIs HCm
  go_enter Tryz.func9, Tryz.ntmps9
  go_wp2_with fail
  refine HL.out.mono ?_
  rintro e w2 ⟨r, rfl, hr2, hb2⟩
  cases r
  case' true =>
    go_wp2_with fail
    refine (HA.out _ hb2).mono ?_
    rintro e wx ⟨rfl, hbx⟩
    go_wp2_with fail
    go_ret
    exact ⟨rfl, H1.out.trans ((below_from hb2 hbx).mono hs1)⟩
  go_wp2_with fail
  refine (HL2.out _ hb2).mono ?_
  rintro e w3 ⟨r, rfl, hr3, hb3⟩
  have hx3 := below_from (hb2.alloc hb2.size _) hb3
  cases r
  case' true =>
    go_wp2_with fail
    refine (HA.out _ hx3).mono ?_
    rintro e wx ⟨rfl, hbx⟩
    go_wp2_with fail
    go_ret
    exact ⟨rfl, H1.out.trans ((below_from hx3 hbx).mono hs1)⟩
  have HS := Lib.hid (hr2 (by first | rfl | trivial))
  have HSL := Lib.hid (hr3 (by first | rfl | trivial))
  clear hr2 hr3
  have HM : Hid (∀ W, Below W1.heap.size W1 W → Calls Tryz.prog 13 #[.slice va d.length vc] W fun e w' => e = .returned (.bool m) ∧ Below W.heap.size W w') := Lib.hid fun W hW => by
    have := docMay_any _ d W W1 S HV.out (HE.out.below hW) hW HS.out.small
    rw [HQ.out.1] at this
    exact this
  clear p0 f0 p1 f1
  obtain ⟨p0, f0⟩ := blk (HB.out _ hx3).1
  obtain ⟨p1, f1⟩ := blk (HB.out _ hx3).2
  go_wp2_with fail
  refine (HM.out _ hx3).mono ?_
  rintro e w4 ⟨rfl, hb4⟩
  have hx4 := below_from hx3 hb4
  cases m
  case' false =>
    go_wp2_with fail
    refine (HA.out _ hx4).mono ?_
    rintro e wx ⟨rfl, hbx⟩
    go_wp2_with fail
    go_ret
    exact ⟨rfl, H1.out.trans ((below_from hx4 hbx).mono hs1)⟩
  clear p0 f0 p1 f1
  obtain ⟨p0, f0⟩ := blk (HB.out _ hx4).1
  obtain ⟨p1, f1⟩ := blk (HB.out _ hx4).2
  go_wp2_with fail
  refine (HJa.out _ hx4).mono ?_
  rintro e w5 ⟨rfl, hb5⟩
  have hx5 := below_from hx4 hb5
  cases ia
  case' false =>
    go_wp2_with fail
    refine (HA.out _ hx5).mono ?_
    rintro e wx ⟨rfl, hbx⟩
    go_wp2_with fail
    go_ret
    exact ⟨rfl, H1.out.trans ((below_from hx5 hbx).mono hs1)⟩
  clear p0 f0 p1 f1
  obtain ⟨p0, f0⟩ := blk (HB.out _ hx5).1
  obtain ⟨p1, f1⟩ := blk (HB.out _ hx5).2
  go_wp2_with fail
  refine (HJb.out _ hx5).mono ?_
  rintro e w6 ⟨rfl, hb6⟩
  have hx6 := below_from hx5 hb6
  cases ib
  case' false =>
    go_wp2_with fail
    refine (HA.out _ hx6).mono ?_
    rintro e wx ⟨rfl, hbx⟩
    go_wp2_with fail
    go_ret
    exact ⟨rfl, H1.out.trans ((below_from hx6 hbx).mono hs1)⟩
  clear p0 f0 p1 f1
  obtain ⟨p0, f0⟩ := blk (HB.out _ hx6).1
  obtain ⟨p1, f1⟩ := blk (HB.out _ hx6).2
  go_wp2_with fail
  refine (HJc.out _ hx6).mono ?_
  rintro e w7 ⟨rfl, hb7⟩
  have hx7 := below_from hx6 hb7
  by_cases hgu : 0 < u
  · skip
    go_wp2_with fail
    refine (HA.out _ hx7).mono ?_
    rintro e wx ⟨rfl, hbx⟩
    go_wp2_with fail
    go_ret
    exact ⟨rfl, H1.out.trans ((below_from hx7 hbx).mono hs1)⟩
  have hsp : spanD d a b = true ∧ spanD d a a = true ∧ mayD d = true := by
    obtain ⟨q1, q2, q3, q4⟩ := HQ.out
    have hc : cmpP a a = 0 := by simp [cmpP, cmpI]
    unfold spanD
    rw [q1, q2, q3, q4, hc]
    simp
    omega
  have hln : l.length ≤ 20000 := by have := HSL.out.size; simpa [sizeD] using this
  have hlh : ∀ c ∈ l, c.href.length ≤ 1000000 := fun c hc => by have := (HSL.out.lin ⟨0, [], 0, l⟩ (by simp)).2 c hc; omega
  have HSP := Lib.hid hsp
  have HSM := Lib.hid HS.out.small
  have HFI := Lib.hid HS.out.fits
  obtain ⟨E3, hE3⟩ : ∃ x, insertD l d a = x := ⟨_, rfl⟩
  obtain ⟨E4, hE4⟩ : ∃ x, splitD d a = x := ⟨_, rfl⟩
  obtain ⟨P3, hP3⟩ : ∃ P, E3.2.1 = P := ⟨_, rfl⟩
  obtain ⟨P4, hP4⟩ : ∃ P, E4.2.1 = P := ⟨_, rfl⟩
  have HP3 := Lib.hid hP3
  have HP4 := Lib.hid hP4
  have HE3 := Lib.hid hE3
  have HE4 := Lib.hid hE4
  have hlm : l.length ≤ 1000000 := by omega
  have HIns : Hid (∀ W, Below W1.heap.size W1 W → Calls Tryz.prog 54 #[.slice va d.length vc, .agg #[.int .i64 a.line, .int .i64 a.col], .slice lb l.length lc] W (DocPSaid E3 W)) := Lib.hid fun W hW => by
    have := docInsert_any _ _ d l a W S S4 (HV.out.below (rdLin_stable _) hW) (SliceR.below (rdOf_stable _) HLC.out hW) (HE.out.below hW) HSM.out HFI.out hlm hlh
    rw [hE3] at this
    exact this
  have HSpl : Hid (∀ W, Below W1.heap.size W1 W → Calls Tryz.prog 56 #[.slice va d.length vc, .agg #[.int .i64 a.line, .int .i64 a.col]] W (DocPSaid E4 W)) := Lib.hid fun W hW => by
    have := docSplit_any _ d a W S (HV.out.below (rdLin_stable _) hW) (HE.out.below hW) HSM.out HFI.out
    rw [hE4] at this
    exact this
  have HSz : Hid (∀ W, Below W1.heap.size W1 W → Calls Tryz.prog 15 #[.slice va d.length vc] W fun e w' => e = .returned (.int .i64 (sizeD d)) ∧ Below W.heap.size W w') := Lib.hid fun W hW => by
    have := size_any _ d W W S (HV.out.below (rdLin_stable _) hW) (Below.refl _ _) HSM.out.1
    exact this
  obtain ⟨X, Y, Z, E, C, hDX, hPY, hPZ, hEE, hCC, hMX, hnum, hk⟩ := back_facts HSP.out.1
  have HK := Lib.hid hk
  have HNUM := Lib.hid hnum
  have HSX := Lib.hid (may_small hMX)
  have HMX := Lib.hid hMX
  clear hk hnum hMX
  have HDel : Hid (∀ W, Below W1.heap.size W1 W → Calls Tryz.prog 49 #[.slice va d.length vc, .agg #[.int .i64 a.line, .int .i64 a.col], .agg #[.int .i64 b.line, .int .i64 b.col]] W (DocSaid (X, 0) W)) := Lib.hid fun W hW => by
    have := docDelete_any _ d a b W S (HV.out.below (rdLin_stable _) hW) (HE.out.below hW) HSM.out HFI.out
    rw [hDX] at this
    exact this
  have HPa : Hid (∀ W, Below W1.heap.size W1 W → Calls Tryz.prog 51 #[.slice va d.length vc, .agg #[.int .i64 0, .int .i64 0], .agg #[.int .i64 a.line, .int .i64 a.col]] W (DocSaid (Y, 0) W)) := Lib.hid fun W hW => by
    have := docPart_any _ d ⟨0, 0⟩ a W S (HV.out.below (rdLin_stable _) hW) (HE.out.below hW) HSM.out HFI.out
    rw [hPY] at this
    exact this
  have HPz : Hid (∀ W, Below W1.heap.size W1 W → Calls Tryz.prog 51 #[.slice va d.length vc, .agg #[.int .i64 b.line, .int .i64 b.col], .agg #[.int .i64 E.line, .int .i64 E.col]] W (DocSaid (Z, 0) W)) := Lib.hid fun W hW => by
    have := docPart_any _ d b E W S (HV.out.below (rdLin_stable _) hW) (HE.out.below hW) HSM.out HFI.out
    rw [hPZ] at this
    exact this
  have HEn : Hid (∀ W, Below W1.heap.size W1 W → Calls Tryz.prog 17 #[.slice va d.length vc] W fun e w' => e = .returned (.agg #[.int .i64 E.line, .int .i64 E.col]) ∧ Below W.heap.size W w') := Lib.hid fun W hW => by
    have := end_any _ d W W S (HV.out.below (rdLin_stable _) hW) (Below.refl _ _)
    rw [hEE, HP.out E] at this
    exact this
  have HCt : Hid (∀ W, Below W1.heap.size W1 W → Calls Tryz.prog 43 #[.slice va d.length vc, .agg #[.int .i64 a.line, .int .i64 a.col], .agg #[.int .i64 b.line, .int .i64 b.col]] W fun e w' => e = .returned (.int .i64 C) ∧ Below W.heap.size W w') := Lib.hid fun W hW => by
    have := docCount_any _ d a b W S (HV.out.below (rdLin_stable _) hW) (HE.out.below hW) HSM.out
    rw [hCC] at this
    exact this
  clear hDX hPY hPZ hEE hCC
  have hszd : sizeD d ≤ 100000 := HSM.out.1
  have hld : d.length ≤ 200 := (mayD_iff.1 HSP.out.2.2).2.1
  have hal : 0 ≤ a.line ∧ a.line < 200 := by
    have hia := HQ.out.2.1
    unfold isD at hia
    simp only [Bool.and_eq_true, decide_eq_true_eq] at hia
    omega
  obtain ⟨hal1, hal2⟩ := hal
  clear hW1 hsp hE3 hE4 hP3 hP4 hlh hlm HJa HJb HJc HM HL HL2
  clear p0 f0 p1 f1
  obtain ⟨p0, f0⟩ := blk (HB.out _ hx7).1
  obtain ⟨p1, f1⟩ := blk (HB.out _ hx7).2
  go_wp2_with fail
  refine (HIns.out _ hx7).mono ?_
  intro e x3 hsaid
  obtain ⟨vx3, rfl, hvx3, hstx3⟩ := hsaid
  have hbx3 := below_from hx7 hstx3
  obtain ⟨a3, c3, rfl⟩ := hvx3.slice
  rw [HP3.out, HP.out P3]
  obtain ⟨y3, hy3⟩ : ∃ y, x3.alloc (.cells #[.int .i64 P3.line, .int .i64 P3.col] 24) = y := ⟨_, rfl⟩
  have hsy3 : Below x3.heap.size x3 y3 := hy3 ▸ (Below.refl _ _).alloc (Nat.le_refl _) _
  have g3 : y3.heap[x3.heap.size]? = some (.cells #[.int .i64 P3.line, .int .i64 P3.col] 24) := hy3 ▸ heap_new _ _ rfl
  have hby3 := below_from hbx3 hsy3
  have HVy3 := Lib.hid (hvx3.below hsy3)
  clear hvx3
  clear p0 f0 p1 f1
  obtain ⟨p0, f0⟩ := blk (HB.out _ hby3).1
  obtain ⟨p1, f1⟩ := blk (HB.out _ hby3).2
  obtain ⟨q3, e3⟩ := blk g3
  go_upto_if 68 with fail
  go_cut [9, 10, 11, 12, 13] from 27 (fun _ _ _ _ _ wx => Below W1.heap.size W1 wx)
  case first =>
   as_aux_lemma =>
    by_cases h30 : E3.2.2 = 0
    · skip
      have hbk : mayD E3.1 = true ∧ sizeD E3.1 = sizeD d + l.length ∧ deleteD E3.1 a P3 = (d, 0) := insert_back (HE3.out.trans (by rw [← HP3.out, ← h30]))
      have hsx := may_small hbk.1
      have HDx := Lib.hid (docDelete_any _ E3.1 a P3 y3 _ (DocR.read HVy3.out) (HE.out.below hby3) hsx.1 hsx.2)
      rw [hbk.2.2, HP.out a, HP.out P3] at HDx
      have HMx : Hid (∀ W, Below y3.heap.size y3 W → Calls Tryz.prog 13 #[.slice a3 E3.1.length c3] W fun e w' => e = .returned (.bool true) ∧ Below W.heap.size W w') := Lib.hid fun W hW => by
        have := docMay_any _ E3.1 W y3 _ (DocR.read HVy3.out) (HE.out.below (below_from hby3 hW)) hW hsx.1
        rw [hbk.1] at this
        exact this
      have HSx : Hid (∀ W, Below y3.heap.size y3 W → Calls Tryz.prog 15 #[.slice a3 E3.1.length c3] W fun e w' => e = .returned (.int .i64 ((sizeD d : Int) + (l.length : Int))) ∧ Below W.heap.size W w') := Lib.hid fun W hW => by
        have := size_any _ E3.1 W y3 _ (DocR.read HVy3.out) hW hsx.1.1
        rw [hbk.2.1, show ((sizeD d + l.length : Nat) : Int) = (sizeD d : Int) + (l.length : Int) by omega] at this
        exact this
      clear hbk hsx
      go_wp2_with fail
      refine HDx.out.mono ?_
      intro e y5 hsaid
      obtain ⟨v5, rfl, hv5, hst5⟩ := hsaid
      have hc5 := below_from hby3 hst5
      have HSm : Hid (∀ W, Below y5.heap.size y5 W → Calls Tryz.prog 47 #[v5, .slice va d.length vc] W fun e w' => e = .returned (.bool true) ∧ Below W.heap.size W w') := Lib.hid fun W hW => by
        have := docSame_any _ _ d d W _ S ((DocR.read hv5).below (rdLin_stable _) hW) (HV.out.below (rdLin_stable _) (below_from hc5 hW))
        rwa [decide_eq_true rfl] at this
      obtain ⟨a5, c5, rfl⟩ := hv5.slice
      clear hv5 HDx
      clear p0 f0 p1 f1 q3 e3
      go_wp2_with fail
      refine (HMx.out _ hst5).mono ?_
      rintro e y6 ⟨rfl, hst6⟩
      go_wp2_with fail
      refine (HSm.out _ hst6).mono ?_
      rintro e y7 ⟨rfl, hst7⟩
      have hst67 := below_from hst6 hst7
      have hst57 := below_from hst5 hst67
      go_wp2_with fail
      refine (HSx.out _ hst57).mono ?_
      rintro e y8 ⟨rfl, hst8⟩
      have hst58 := below_from hst57 hst8
      have hc8 := below_from hby3 hst58
      go_wp2_with fail
      refine (HSz.out _ hc8).mono ?_
      rintro e y9 ⟨rfl, hst9⟩
      have hA := below_from hc8 hst9
      obtain ⟨p0, f0⟩ := blk (HB.out _ hA).1
      go_wp2_with fail
      go_meet
      exact hA
    · go_wp2_with fail
      go_meet
      exact hby3
  case rest =>
    clear hby3 hsy3 HVy3 hbx3 hstx3 g3 hy3 HP3 HE3 HIns p0 f0 p1 f1 q3 e3
    have hA := hcut
    clear hcut
    obtain ⟨p0, f0⟩ := blk (HB.out _ hA).1
    obtain ⟨p1, f1⟩ := blk (HB.out _ hA).2
    go_wp2_with fail
    refine (HSpl.out _ hA).mono ?_
    intro e x8 hsaid
    obtain ⟨vx8, rfl, hvx8, hstx8⟩ := hsaid
    have hbx8 := below_from hA hstx8
    obtain ⟨a8, c8, rfl⟩ := hvx8.slice
    rw [HP4.out, HP.out P4]
    obtain ⟨y8, hy8⟩ : ∃ y, x8.alloc (.cells #[.int .i64 P4.line, .int .i64 P4.col] 24) = y := ⟨_, rfl⟩
    have hsy8 : Below x8.heap.size x8 y8 := hy8 ▸ (Below.refl _ _).alloc (Nat.le_refl _) _
    have g8 : y8.heap[x8.heap.size]? = some (.cells #[.int .i64 P4.line, .int .i64 P4.col] 24) := hy8 ▸ heap_new _ _ rfl
    have hby8 := below_from hbx8 hsy8
    have HVy8 := Lib.hid (hvx8.below hsy8)
    clear hvx8
    clear p0 f0 p1 f1
    obtain ⟨p0, f0⟩ := blk (HB.out _ hby8).1
    obtain ⟨p1, f1⟩ := blk (HB.out _ hby8).2
    obtain ⟨q8, e8⟩ := blk g8
    go_upto_if 107 with fail
    go_cut [14, 15, 16, 17, 18] from 27 (fun _ _ _ _ _ wx => Below W1.heap.size W1 wx)
    case first =>
     as_aux_lemma =>
      by_cases h40 : E4.2.2 = 0
      · skip
        have hbk : mayD E4.1 = true ∧ P4 = ⟨a.line + 1, 0⟩ ∧ deleteD E4.1 a P4 = (d, 0) := split_back (HE4.out.trans (by rw [← HP4.out, ← h40]))
        have hsx := may_small hbk.1
        have HDx := Lib.hid (docDelete_any _ E4.1 a P4 y8 _ (DocR.read HVy8.out) (HE.out.below hby8) hsx.1 hsx.2)
        rw [hbk.2.2, HP.out a, HP.out P4] at HDx
        have HMx : Hid (∀ W, Below y8.heap.size y8 W → Calls Tryz.prog 13 #[.slice a8 E4.1.length c8] W fun e w' => e = .returned (.bool true) ∧ Below W.heap.size W w') := Lib.hid fun W hW => by
          have := docMay_any _ E4.1 W y8 _ (DocR.read HVy8.out) (HE.out.below (below_from hby8 hW)) hW hsx.1
          rw [hbk.1] at this
          exact this
        have HPE := Lib.hid hbk.2.1
        clear hbk hsx
        go_wp2_with fail
        refine HDx.out.mono ?_
        intro e y10 hsaid
        obtain ⟨v10, rfl, hv10, hst10⟩ := hsaid
        have hc10 := below_from hby8 hst10
        have HSm : Hid (∀ W, Below y10.heap.size y10 W → Calls Tryz.prog 47 #[v10, .slice va d.length vc] W fun e w' => e = .returned (.bool true) ∧ Below W.heap.size W w') := Lib.hid fun W hW => by
          have := docSame_any _ _ d d W _ S ((DocR.read hv10).below (rdLin_stable _) hW) (HV.out.below (rdLin_stable _) (below_from hc10 hW))
          rwa [decide_eq_true rfl] at this
        obtain ⟨a10, c10, rfl⟩ := hv10.slice
        clear hv10 HDx
        clear p0 f0 p1 f1 q8 e8
        go_wp2_with fail
        refine (HMx.out _ hst10).mono ?_
        rintro e y11 ⟨rfl, hst11⟩
        go_wp2_with fail
        refine (HSm.out _ hst11).mono ?_
        rintro e y12 ⟨rfl, hst12⟩
        have hst112 := below_from hst11 hst12
        have hst102 := below_from hst10 hst112
        have hB := below_from hby8 hst102
        have hneq : ∀ w, (binOp .neq 24 (.agg #[.int .i64 P4.line, .int .i64 P4.col]) (.agg #[.int .i64 (a.line + 1), .int .i64 0])).run Tryz.prog w = .ok (.bool false) w := fun w => by
          have := run_neq_pos P4 ⟨a.line + 1, 0⟩ w
          rw [decide_eq_true HPE.out] at this
          exact this
        obtain ⟨q8, e8⟩ := blk (heap_below hst102 g8)
        obtain ⟨p0, f0⟩ := blk (HB.out _ hB).1
        obtain ⟨p1, f1⟩ := blk (HB.out _ hB).2
        go_wp2_with fail
        go_meet
        exact hB
      · go_wp2_with fail
        go_meet
        exact hby8
    case rest =>
      clear hby8 hsy8 HVy8 hbx8 hstx8 g8 hy8 HP4 HE4 HSpl p0 f0 p1 f1 q8 e8
      have hB := hcut
      clear hcut
      obtain ⟨p0, f0⟩ := blk (HB.out _ hB).1
      obtain ⟨p1, f1⟩ := blk (HB.out _ hB).2
      go_wp2_with fail
      refine (HDel.out _ hB).mono ?_
      intro e z1 hsaid
      obtain ⟨vz1, rfl, hvz1, hstz1⟩ := hsaid
      have hcz1 := below_from hB hstz1
      have HVvz1 := Lib.hid hvz1
      obtain ⟨az1, cz1, rfl⟩ := hvz1.slice
      clear hvz1
      obtain ⟨p0, f0⟩ := blk (HB.out _ hcz1).1
      obtain ⟨p1, f1⟩ := blk (HB.out _ hcz1).2
      go_wp2_with fail
      refine (HPa.out _ hcz1).mono ?_
      intro e z2 hsaid
      obtain ⟨vz2, rfl, hvz2, hstz2⟩ := hsaid
      have hcz2 := below_from hcz1 hstz2
      have HVvz2 := Lib.hid hvz2
      obtain ⟨az2, cz2, rfl⟩ := hvz2.slice
      clear hvz2
      clear p0 f0 p1 f1
      obtain ⟨p0, f0⟩ := blk (HB.out _ hcz2).1
      obtain ⟨p1, f1⟩ := blk (HB.out _ hcz2).2
      go_wp2_with fail
      have HS15 : Hid (∀ T, Below W1.heap.size W1 T → (fun w' => w'.cell? ⟨w.heap.size + 1, 0, none⟩ = some (.int .i64 b.line) ∧ w'.cell? ⟨w.heap.size + 1, 1, none⟩ = some (.int .i64 b.col)) T) := Lib.hid fun T hT => ⟨(blk (HB.out T hT).2).1 0, (blk (HB.out T hT).2).1 1⟩
      refine wp_region_noPanic ?_
      refine wp_region_held_drew (S := (fun w' => w'.cell? ⟨w.heap.size + 1, 0, none⟩ = some (.int .i64 b.line) ∧ w'.cell? ⟨w.heap.size + 1, 1, none⟩ = some (.int .i64 b.col))) (by kernel_rfl) (HS15.out _ hcz2.drew) (fun hHeld => ?_)
      obtain ⟨T0, hT0⟩ : ∃ T, z2.drew = T := ⟨_, rfl⟩
      have hd0 := hT0 ▸ hcz2.drew
      have hst0 : Below z2.heap.size z2 T0 := hT0 ▸ (Below.refl _ _).drew
      rw [hT0] at hHeld ⊢
      clear hT0
      clear p0 f0 p1 f1
      refine wpAnyH_take (i := 0) (v := ?_) (by simp only [List.getElem?_toArray, List.getElem?_cons_zero]; rfl) (by kernel_rfl) (by kernel_rfl) (by kernel_rfl) (fun _ _ _ h => h) (Or.inl ⟨by rfl, ?_⟩) (by assumption) ?_
      rotate_left 1
      · intro w hSw; (try dsimp only at hSw); go_simp; (first | done | with_reducible rfl)
      try simp only [Act.put, List.setIfInBounds_toArray, List.set_cons_zero, List.set_cons_succ]
      refine wpAnyH_take (i := 1) (v := ?_) (by simp only [List.getElem?_toArray, List.getElem?_cons_succ, List.getElem?_cons_zero]; rfl) (by kernel_rfl) (by kernel_rfl) (by kernel_rfl) (fun _ _ _ h => h) (Or.inl ⟨by rfl, ?_⟩) (by assumption) ?_
      rotate_left 1
      · intro w hSw; (try dsimp only at hSw); go_simp; (first | done | with_reducible rfl)
      try simp only [Act.put, List.setIfInBounds_toArray, List.set_cons_zero, List.set_cons_succ]
      refine wpAnyH_take (i := 2) (v := ?_) (by simp only [List.getElem?_toArray, List.getElem?_cons_succ, List.getElem?_cons_zero]; rfl) (by kernel_rfl) (by kernel_rfl) (by kernel_rfl) (fun _ _ _ h => h) (Or.inl ⟨by rfl, ?_⟩) (by assumption) ?_
      rotate_left 1
      · intro w hSw; (try dsimp only at hSw); go_simp; (first | done | with_reducible rfl)
      try simp only [Act.put, List.setIfInBounds_toArray, List.set_cons_zero, List.set_cons_succ]
      refine wpAnyH_ready (rs := [3]) (by kernel_rfl) (by simp) ?_
      refine AllReadyH.cons (by simp only [List.getElem?_toArray, List.getElem?_cons_succ, List.getElem?_cons_zero]; rfl) (fun K hK => ?_) AllReadyH.nil
      go_simp
      refine (HEn.out _ hd0).mono ?_
      rintro e T1 ⟨rfl, hstT1⟩
      have hcT1 := below_from hd0 hstT1
      refine hK.out _ _ (HS15.out _ hcT1) (fun hHeld => ?_)
      clear hK K
      try simp only [Act.put, List.setIfInBounds_toArray, List.set_cons_zero, List.set_cons_succ]
      refine wpAnyH_ready (rs := [4]) (by kernel_rfl) (by simp) ?_
      refine AllReadyH.cons (by simp only [List.getElem?_toArray, List.getElem?_cons_succ, List.getElem?_cons_zero]; rfl) (fun K hK => ?_) AllReadyH.nil
      go_simp
      refine (HPz.out _ hcT1).mono ?_
      intro e z3 hsaid
      obtain ⟨vz3, rfl, hvz3, hstz3⟩ := hsaid
      have hcz3 := below_from hcT1 hstz3
      have HVvz3 := Lib.hid hvz3
      obtain ⟨az3, cz3, rfl⟩ := hvz3.slice
      clear hvz3
      refine hK.out _ _ (HS15.out _ hcz3) (fun hHeld => ?_)
      clear hK K
      refine wpAnyH_take (i := 5) (v := ?_) (by simp only [List.getElem?_toArray, List.getElem?_cons_succ, List.getElem?_cons_zero]; rfl) (by kernel_rfl) (by kernel_rfl) (by kernel_rfl) (fun _ _ _ h => h) (Or.inl ⟨by rfl, ?_⟩) (by assumption) ?_
      rotate_left 1
      · intro w hSw; (try dsimp only at hSw); go_simp; (first | done | with_reducible rfl)
      try simp only [Act.put, List.setIfInBounds_toArray, List.set_cons_zero, List.set_cons_succ]
      refine wpAnyH_take (i := 6) (v := ?_) (by simp only [List.getElem?_toArray, List.getElem?_cons_succ, List.getElem?_cons_zero]; rfl) (by kernel_rfl) (by kernel_rfl) (by kernel_rfl) (fun _ _ _ h => h) (Or.inl ⟨by rfl, ?_⟩) (by assumption) ?_
      rotate_left 1
      · intro w hSw; (try dsimp only at hSw); go_simp; (first | done | with_reducible rfl)
      try simp only [Act.put, List.setIfInBounds_toArray, List.set_cons_zero, List.set_cons_succ]
      refine wpAnyH_take (i := 7) (v := ?_) (by simp only [List.getElem?_toArray, List.getElem?_cons_succ, List.getElem?_cons_zero]; rfl) (by kernel_rfl) (by kernel_rfl) (by kernel_rfl) (fun _ _ _ h => h) (Or.inl ⟨by rfl, ?_⟩) (by assumption) ?_
      rotate_left 1
      · intro w hSw; (try dsimp only at hSw); go_simp; (first | done | with_reducible rfl)
      try simp only [Act.put, List.setIfInBounds_toArray, List.set_cons_zero, List.set_cons_succ]
      refine wpAnyH_take (i := 8) (v := ?_) (by simp only [List.getElem?_toArray, List.getElem?_cons_succ, List.getElem?_cons_zero]; rfl) (by kernel_rfl) (by kernel_rfl) (by kernel_rfl) (fun _ _ _ h => h) (Or.inl ⟨by rfl, ?_⟩) (by assumption) ?_
      rotate_left 1
      · intro w hSw; (try dsimp only at hSw); go_simp; (first | done | with_reducible rfl)
      try simp only [Act.put, List.setIfInBounds_toArray, List.set_cons_zero, List.set_cons_succ]
      refine wpAnyH_take (i := 9) (v := ?_) (by simp only [List.getElem?_toArray, List.getElem?_cons_succ, List.getElem?_cons_zero]; rfl) (by kernel_rfl) (by kernel_rfl) (by kernel_rfl) (fun _ _ _ h => h) (Or.inl ⟨by rfl, ?_⟩) (by assumption) ?_
      rotate_left 1
      · intro w hSw; (try dsimp only at hSw); go_simp; (first | done | with_reducible rfl)
      try simp only [Act.put, List.setIfInBounds_toArray, List.set_cons_zero, List.set_cons_succ]
      refine wpAnyH_done (by kernel_rfl) ?_ _
      refine NoPanic.normal ?_
      have hst23 := below_from (below_from hst0 hstT1) hstz3
      have hst13 := below_from hstz2 hst23
      clear hHeld hd0 hcT1 hst0 hstT1
      obtain ⟨p0, f0⟩ := blk (HB.out _ hcz3).1
      obtain ⟨p1, f1⟩ := blk (HB.out _ hcz3).2
      go_wp2_with fail
      have HMX1 : Hid (∀ W, Below z3.heap.size z3 W → Calls Tryz.prog 13 #[.slice az1 X.length cz1] W fun e w' => e = .returned (.bool true) ∧ Below W.heap.size W w') := Lib.hid fun W hW => by
        have := docMay_any _ X W z1 _ (DocR.read HVvz1.out) (HE.out.below (below_from hcz3 hW)) (below_from hst13 hW) HSX.out.1
        rw [HMX.out] at this
        exact this
      have HSX1 : Hid (∀ W, Below z3.heap.size z3 W → Calls Tryz.prog 15 #[.slice az1 X.length cz1] W fun e w' => e = .returned (.int .i64 (sizeD X)) ∧ Below W.heap.size W w') := Lib.hid fun W hW =>
        size_any _ X W z1 _ (DocR.read HVvz1.out) (below_from hst13 hW) HSX.out.1.1
      obtain ⟨hq1, hq2, hq3, hq4, hq5, hq6, hq7, hq8, hq9, hq10⟩ := HNUM.out
      have hw1 : IntKind.i64.wrap (sizeD X : Int) = (sizeD X : Int) := IntWalk.i64_in _ (by omega)
      have hw2 : IntKind.i64.wrap ((Y.length : Int) + (Z.length : Int)) = (Y.length : Int) + (Z.length : Int) := IntWalk.i64_in _ (by omega)
      have hw3 : IntKind.i64.wrap (X.length : Int) = (X.length : Int) := IntWalk.i64_in _ (by omega)
      clear p0 f0 p1 f1
      refine wp_region_grew z3.heap.size (by kernel_rfl) (by kernel_rfl) ?_
      refine BigFrame.wpQuiet_want (by kernel_rfl) (fun K hK => ?_)
      refine quiet_val ?_ (fun W hW => ?_) (hK _ ?_)
      rotate_left 1
      · skip
        go_simp
        try rfl
      clear hK
      clear K
      try simp only [Act.put, List.setIfInBounds_toArray, List.set_cons_zero, List.set_cons_succ]
      refine BigFrame.wpQuiet_want (by kernel_rfl) (fun K hK => ?_)
      refine quiet_val ?_ (fun W hW => ?_) (hK _ ?_)
      rotate_left 1
      · skip
        go_simp
        try rfl
      clear hK
      clear K
      try simp only [Act.put, List.setIfInBounds_toArray, List.set_cons_zero, List.set_cons_succ]
      refine BigFrame.wpQuiet_want (by kernel_rfl) (fun K hK => ?_)
      refine quiet_val ?_ (fun W hW => ?_) (hK _ ?_)
      rotate_left 1
      · skip
        go_simp
        try rfl
      clear hK
      clear K
      try simp only [Act.put, List.setIfInBounds_toArray, List.set_cons_zero, List.set_cons_succ]
      refine BigFrame.wpQuiet_want (by kernel_rfl) (fun K hK => ?_)
      refine quiet_val ?_ (fun W hW => ?_) (hK _ ?_)
      rotate_left 1
      · skip
        go_simp
        try rfl
      clear hK
      clear K
      try simp only [Act.put, List.setIfInBounds_toArray, List.set_cons_zero, List.set_cons_succ]
      refine BigFrame.wpQuiet_want (by kernel_rfl) (fun K hK => ?_)
      refine quiet_val ?_ (fun W hW => ?_) (hK _ ?_)
      rotate_left 1
      · skip
        go_simp
        try rfl
      clear hK
      clear K
      try simp only [Act.put, List.setIfInBounds_toArray, List.set_cons_zero, List.set_cons_succ]
      refine BigFrame.wpQuiet_want (by kernel_rfl) (fun K hK => ?_)
      refine quiet_val ?_ (fun W hW => ?_) (hK _ ?_)
      rotate_left 1
      · skip
        go_simp
        try rfl
      clear hK
      clear K
      try simp only [Act.put, List.setIfInBounds_toArray, List.set_cons_zero, List.set_cons_succ]
      refine BigFrame.wpQuiet_want (by kernel_rfl) (fun K hK => ?_)
      refine quiet_val ?_ (fun W hW => ?_) (hK _ ?_)
      rotate_left 1
      · skip
        go_simp
        try rfl
      clear hK
      clear K
      try simp only [Act.put, List.setIfInBounds_toArray, List.set_cons_zero, List.set_cons_succ]
      refine BigFrame.wpQuiet_want (by kernel_rfl) (fun K hK => ?_)
      refine quiet_val ?_ (fun W hW => ?_) (hK _ ?_)
      rotate_left 1
      · skip
        go_simp
        try rfl
      clear hK
      clear K
      try simp only [Act.put, List.setIfInBounds_toArray, List.set_cons_zero, List.set_cons_succ]
      refine BigFrame.wpQuiet_want (by kernel_rfl) (fun K hK => ?_)
      refine quiet_val ?_ (fun W hW => ?_) (hK _ ?_)
      rotate_left 1
      · skip
        go_simp
        try rfl
      clear hK
      clear K
      try simp only [Act.put, List.setIfInBounds_toArray, List.set_cons_zero, List.set_cons_succ]
      refine BigFrame.wpQuiet_want (by kernel_rfl) (fun K hK => ?_)
      refine quiet_val ?_ (fun W hW => ?_) (hK _ ?_)
      rotate_left 1
      · skip
        go_simp
        try rfl
      clear hK
      clear K
      try simp only [Act.put, List.setIfInBounds_toArray, List.set_cons_zero, List.set_cons_succ]
      refine BigFrame.wpQuiet_want (by kernel_rfl) (fun K hK => ?_)
      refine quiet_val ?_ (fun W hW => ?_) (hK _ ?_)
      rotate_left 1
      · skip
        go_simp
        try rfl
      clear hK
      clear K
      try simp only [Act.put, List.setIfInBounds_toArray, List.set_cons_zero, List.set_cons_succ]
      refine BigFrame.wpQuiet_want (by kernel_rfl) (fun K hK => ?_)
      refine quiet_val ?_ (fun W hW => ?_) (hK _ ?_)
      rotate_left 1
      · skip
        go_simp
        try rfl
      clear hK
      clear K
      try simp only [Act.put, List.setIfInBounds_toArray, List.set_cons_zero, List.set_cons_succ]
      refine BigFrame.wpQuiet_want (by kernel_rfl) (fun K hK => ?_)
      refine quiet_calls (f := ?_) (args := ?_) ?_ (fun W hW => ?_) (fun W hW => ?_) (hK _ ?_)
      rotate_left 3
      · go_simp
        constructor <;> rfl
      · refine (HMX1.out _ hW).mono ?_
        rintro e W2 ⟨rfl, hbW⟩
        refine ⟨?_, below_from hW hbW⟩
        rfl
      clear hK
      clear K
      try simp only [Act.put, List.setIfInBounds_toArray, List.set_cons_zero, List.set_cons_succ]
      refine BigFrame.wpQuiet_want (by kernel_rfl) (fun K hK => ?_)
      refine quiet_val ?_ (fun W hW => ?_) (hK _ ?_)
      rotate_left 1
      · skip
        go_simp
        try rfl
      clear hK
      clear K
      try simp only [Act.put, List.setIfInBounds_toArray, List.set_cons_zero, List.set_cons_succ]
      refine BigFrame.wpQuiet_want (by kernel_rfl) (fun K hK => ?_)
      refine quiet_val ?_ (fun W hW => ?_) (hK _ ?_)
      rotate_left 1
      · skip
        go_simp
        try rfl
      clear hK
      clear K
      try simp only [Act.put, List.setIfInBounds_toArray, List.set_cons_zero, List.set_cons_succ]
      refine BigFrame.wpQuiet_want (by kernel_rfl) (fun K hK => ?_)
      refine quiet_val ?_ (fun W hW => ?_) (hK _ ?_)
      rotate_left 1
      · skip
        go_simp
        try rfl
      clear hK
      clear K
      try simp only [Act.put, List.setIfInBounds_toArray, List.set_cons_zero, List.set_cons_succ]
      refine BigFrame.wpQuiet_want (by kernel_rfl) (fun K hK => ?_)
      refine quiet_val ?_ (fun W hW => ?_) (hK _ ?_)
      rotate_left 1
      · skip
        go_simp
        try rfl
      clear hK
      clear K
      try simp only [Act.put, List.setIfInBounds_toArray, List.set_cons_zero, List.set_cons_succ]
      refine BigFrame.wpQuiet_want (by kernel_rfl) (fun K hK => ?_)
      refine quiet_calls (f := ?_) (args := ?_) ?_ (fun W hW => ?_) (fun W hW => ?_) (hK _ ?_)
      rotate_left 3
      · go_simp
        constructor <;> rfl
      · refine (HSX1.out _ hW).mono ?_
        rintro e W2 ⟨rfl, hbW⟩
        refine ⟨?_, below_from hW hbW⟩
        rfl
      clear hK
      clear K
      try simp only [Act.put, List.setIfInBounds_toArray, List.set_cons_zero, List.set_cons_succ]
      refine BigFrame.wpQuiet_want (by kernel_rfl) (fun K hK => ?_)
      refine quiet_val ?_ (fun W hW => ?_) (hK _ ?_)
      rotate_left 1
      · skip
        go_simp
        try rfl
      clear hK
      clear K
      try simp only [Act.put, List.setIfInBounds_toArray, List.set_cons_zero, List.set_cons_succ]
      refine BigFrame.wpQuiet_want (by kernel_rfl) (fun K hK => ?_)
      refine quiet_calls (f := ?_) (args := ?_) ?_ (fun W hW => ?_) (fun W hW => ?_) (hK _ ?_)
      rotate_left 3
      · go_simp
        constructor <;> rfl
      · refine (HSz.out _ (below_from hcz3 hW)).mono ?_
        rintro e W2 ⟨rfl, hbW⟩
        refine ⟨?_, below_from hW hbW⟩
        rfl
      clear hK
      clear K
      try simp only [Act.put, List.setIfInBounds_toArray, List.set_cons_zero, List.set_cons_succ]
      refine BigFrame.wpQuiet_want (by kernel_rfl) (fun K hK => ?_)
      refine quiet_val ?_ (fun W hW => ?_) (hK _ ?_)
      rotate_left 1
      · skip
        go_simp
        try rfl
      clear hK
      clear K
      try simp only [Act.put, List.setIfInBounds_toArray, List.set_cons_zero, List.set_cons_succ]
      refine BigFrame.wpQuiet_want (by kernel_rfl) (fun K hK => ?_)
      refine quiet_val ?_ (fun W hW => ?_) (hK _ ?_)
      rotate_left 1
      · skip
        obtain ⟨p0, f0⟩ := blk (HB.out _ (below_from hcz3 hW)).1
        obtain ⟨p1, f1⟩ := blk (HB.out _ (below_from hcz3 hW)).2
        go_simp
        try rfl
      clear hK
      clear K
      try simp only [Act.put, List.setIfInBounds_toArray, List.set_cons_zero, List.set_cons_succ]
      refine BigFrame.wpQuiet_want (by kernel_rfl) (fun K hK => ?_)
      refine quiet_val ?_ (fun W hW => ?_) (hK _ ?_)
      rotate_left 1
      · skip
        obtain ⟨p0, f0⟩ := blk (HB.out _ (below_from hcz3 hW)).1
        obtain ⟨p1, f1⟩ := blk (HB.out _ (below_from hcz3 hW)).2
        go_simp
        try rfl
      clear hK
      clear K
      try simp only [Act.put, List.setIfInBounds_toArray, List.set_cons_zero, List.set_cons_succ]
      refine BigFrame.wpQuiet_want (by kernel_rfl) (fun K hK => ?_)
      refine quiet_calls (f := ?_) (args := ?_) ?_ (fun W hW => ?_) (fun W hW => ?_) (hK _ ?_)
      rotate_left 3
      · go_simp
        constructor <;> rfl
      · refine (HCt.out _ (below_from hcz3 hW)).mono ?_
        rintro e W2 ⟨rfl, hbW⟩
        refine ⟨?_, below_from hW hbW⟩
        rfl
      clear hK
      clear K
      try simp only [Act.put, List.setIfInBounds_toArray, List.set_cons_zero, List.set_cons_succ]
      refine BigFrame.wpQuiet_want (by kernel_rfl) (fun K hK => ?_)
      refine quiet_val ?_ (fun W hW => ?_) (hK _ ?_)
      rotate_left 1
      · skip
        go_simp
        try rfl
      clear hK
      clear K
      try simp only [Act.put, List.setIfInBounds_toArray, List.set_cons_zero, List.set_cons_succ]
      refine BigFrame.wpQuiet_want (by kernel_rfl) (fun K hK => ?_)
      refine quiet_val ?_ (fun W hW => ?_) (hK _ ?_)
      rotate_left 1
      · skip
        go_simp
        try rfl
      clear hK
      clear K
      try simp only [Act.put, List.setIfInBounds_toArray, List.set_cons_zero, List.set_cons_succ]
      refine BigFrame.wpQuiet_want (by kernel_rfl) (fun K hK => ?_)
      refine quiet_val ?_ (fun W hW => ?_) (hK _ ?_)
      rotate_left 1
      · skip
        go_simp
        try rfl
      clear hK
      clear K
      try simp only [Act.put, List.setIfInBounds_toArray, List.set_cons_zero, List.set_cons_succ]
      refine BigFrame.wpQuiet_want (by kernel_rfl) (fun K hK => ?_)
      refine quiet_val ?_ (fun W hW => ?_) (hK _ ?_)
      rotate_left 1
      · skip
        go_simp
        try rfl
      clear hK
      clear K
      try simp only [Act.put, List.setIfInBounds_toArray, List.set_cons_zero, List.set_cons_succ]
      refine BigFrame.wpQuiet_want (by kernel_rfl) (fun K hK => ?_)
      refine quiet_val ?_ (fun W hW => ?_) (hK _ ?_)
      rotate_left 1
      · skip
        go_simp
        try rfl
      clear hK
      clear K
      try simp only [Act.put, List.setIfInBounds_toArray, List.set_cons_zero, List.set_cons_succ]
      refine BigFrame.wpQuiet_want (by kernel_rfl) (fun K hK => ?_)
      refine quiet_val ?_ (fun W hW => ?_) (hK _ ?_)
      rotate_left 1
      · skip
        go_simp
        try rfl
      clear hK
      clear K
      try simp only [Act.put, List.setIfInBounds_toArray, List.set_cons_zero, List.set_cons_succ]
      refine BigFrame.wpQuiet_want (by kernel_rfl) (fun K hK => ?_)
      refine quiet_val ?_ (fun W hW => ?_) (hK _ ?_)
      rotate_left 1
      · skip
        go_simp
        try rfl
      clear hK
      clear K
      try simp only [Act.put, List.setIfInBounds_toArray, List.set_cons_zero, List.set_cons_succ]
      refine BigFrame.wpQuiet_want (by kernel_rfl) (fun K hK => ?_)
      refine quiet_val ?_ (fun W hW => ?_) (hK _ ?_)
      rotate_left 1
      · skip
        go_simp
        try rfl
      clear hK
      clear K
      try simp only [Act.put, List.setIfInBounds_toArray, List.set_cons_zero, List.set_cons_succ]
      refine BigFrame.wpQuiet_want (by kernel_rfl) (fun K hK => ?_)
      refine quiet_val ?_ (fun W hW => ?_) (hK _ ?_)
      rotate_left 1
      · skip
        go_simp
        try rfl
      clear hK
      clear K
      try simp only [Act.put, List.setIfInBounds_toArray, List.set_cons_zero, List.set_cons_succ]
      refine BigFrame.wpQuiet_want (by kernel_rfl) (fun K hK => ?_)
      refine quiet_val ?_ (fun W hW => ?_) (hK _ ?_)
      rotate_left 1
      · skip
        go_simp
        try rfl
      clear hK
      clear K
      try simp only [Act.put, List.setIfInBounds_toArray, List.set_cons_zero, List.set_cons_succ]
      refine BigFrame.wpQuiet_want (by kernel_rfl) (fun K hK => ?_)
      refine quiet_val ?_ (fun W hW => ?_) (hK _ ?_)
      rotate_left 1
      · skip
        go_simp
        try rfl
      clear hK
      clear K
      try simp only [Act.put, List.setIfInBounds_toArray, List.set_cons_zero, List.set_cons_succ]
      refine BigFrame.wpQuiet_want (by kernel_rfl) (fun K hK => ?_)
      refine quiet_val ?_ (fun W hW => ?_) (hK _ ?_)
      rotate_left 1
      · skip
        go_simp
        try rfl
      clear hK
      clear K
      try simp only [Act.put, List.setIfInBounds_toArray, List.set_cons_zero, List.set_cons_succ]
      refine BigFrame.wpQuiet_want (by kernel_rfl) (fun K hK => ?_)
      refine quiet_val ?_ (fun W hW => ?_) (hK _ ?_)
      rotate_left 1
      · skip
        go_simp
        try rfl
      clear hK
      clear K
      try simp only [Act.put, List.setIfInBounds_toArray, List.set_cons_zero, List.set_cons_succ]
      refine BigFrame.wpQuiet_want (by kernel_rfl) (fun K hK => ?_)
      refine quiet_val ?_ (fun W hW => ?_) (hK _ ?_)
      rotate_left 1
      · skip
        go_simp
        try rfl
      clear hK
      clear K
      try simp only [Act.put, List.setIfInBounds_toArray, List.set_cons_zero, List.set_cons_succ]
      refine wpQuiet_nil (fun z4 hstz4 => ?_)
      have hcz4 := below_from hcz3 hstz4
      clear hq1 hq8 hq9 hq10 HMX1 HSX1 hw1 hw2 hw3
      go_wp2_with fail
      have hst14 := below_from hst13 hstz4
      have hst24 := below_from hst23 hstz4
      obtain ⟨_, _, ex, hxc, hxm, hx⟩ := lins_shape (DocR.read HVvz1.out)
      cases ex
      obtain ⟨_, _, ey, hyc, hym, hy⟩ := lins_shape (DocR.read HVvz2.out)
      cases ey
      obtain ⟨_, _, ez, hzc, hzm, hzz⟩ := lins_shape (DocR.read HVvz3.out)
      cases ez
      have HXX : Hid (∀ i l, X[i]? = some l → ∃ b o la lc ca cc, az1 = some ⟨b, o, none⟩ ∧ LinAt z4 (fun b => wc.heap.size ≤ b) b (o + i * 4) l la lc ca cc) := Lib.hid fun i l hl => by
        obtain ⟨b, o, la, lc, ca, cc, e, hA⟩ := hx i l hl
        exact ⟨b, o, la, lc, ca, cc, e, hA.below hst14⟩
      have HYY : Hid (∀ i l, Y[i]? = some l → ∃ b o la lc ca cc, az2 = some ⟨b, o, none⟩ ∧ LinAt z4 (fun b => z1.heap.size ≤ b) b (o + i * 4) l la lc ca cc) := Lib.hid fun i l hl => by
        obtain ⟨b, o, la, lc, ca, cc, e, hA⟩ := hy i l hl
        exact ⟨b, o, la, lc, ca, cc, e, hA.below hst24⟩
      have HZZ : Hid (∀ i l, Z[i]? = some l → ∃ b o la lc ca cc, az3 = some ⟨b, o, none⟩ ∧ LinAt z4 (fun b => T1.heap.size ≤ b) b (o + i * 4) l la lc ca cc) := Lib.hid fun i l hl => by
        obtain ⟨b, o, la, lc, ca, cc, e, hA⟩ := hzz i l hl
        exact ⟨b, o, la, lc, ca, cc, e, hA.below hstz4⟩
      have HC4 := Lib.hid hcz4
      have hw4 : IntKind.i64.wrap ((Y.length : Int) - 1) = (Y.length : Int) - 1 := IntWalk.i64_in _ (by omega)
      clear hx hy hzz hst14 hst24 hst13 hst23 hstz1 hstz2 hstz3 hstz4 hcz1 hcz2 hcz3 hcz4
      go_loopw [25, 26] (fun i _ wr => ∃ q : Nat, q ≤ X.length ∧ i = .int .i64 q ∧ Below z4.heap.size z4 wr) (fun i _ _ => X.length - (intOf i).toNat)
      case atStart => exact ⟨0, Nat.zero_le _, rfl, Below.refl _ _⟩
      case round =>
        obtain ⟨q, hq, rfl, hb⟩ := hrel
        by_cases hlt : q < X.length
        · obtain ⟨x, hx, _⟩ := getOf X q hlt
          obtain ⟨bx, ox, la, lc, ca, cc, rfl, hAx⟩ := HXX.out q x hx
          have HAX := Lib.hid hAx
          obtain ⟨_, c0, c1, c2, c3, _, _⟩ := hAx.below hb
          have d0 := cell_on c0
          have d1 := cell_on c1
          have d2 := cell_on c2
          have d3 := cell_on c3
          have hq0 : (0 : Int) ≤ (q : Int) := Int.natCast_nonneg _
          have hq1 : (q : Int) < (X.length : Int) := by omega
          by_cases h1 : q + 1 < Y.length
          · have h1' : (q : Int) < (Y.length : Int) - 1 := by omega
            have hqy : (q : Int) < (Y.length : Int) := by omega
            have hyq := (HK.out q x hx).1 h1
            obtain ⟨by', oy, la2, lc2, ca2, cc2, rfl, hAy⟩ := HYY.out q x hyq
            obtain ⟨_, e0, e1, e2, e3, _, _⟩ := hAy.below hb
            have d4 := cell_on e0
            have d5 := cell_on e1
            have d6 := cell_on e2
            have d7 := cell_on e3
            have HIC := Lib.hid (And.intro hAy.listsR hAy.cellsR)
            go_wp2_with fail
            obtain ⟨V0, hV0⟩ : ∃ V, wr.alloc (.cells #[.int .i64 x.quote, .slice la2 x.lists.length lc2, .int .i64 x.kind, .slice ca2 x.cells.length cc2] 55) = V := ⟨_, rfl⟩
            rw [hV0]
            have hsV : Below wr.heap.size wr V0 := hV0 ▸ (Below.refl _ _).alloc (Nat.le_refl _) _
            have hw26 : V0.heap[wr.heap.size]? = some (.cells #[.int .i64 x.quote, .slice la2 x.lists.length lc2, .int .i64 x.kind, .slice ca2 x.cells.length cc2] 55) := hV0 ▸ heap_new _ _ rfl
            have hbV := below_from hb hsV
            have hI0 := SliceR.below (rdOf_stable _) HIC.out.1 hbV
            have hC0 := SliceR.below (rdOf_stable _) HIC.out.2 hbV
            clear hV0 d4 d5 d6 d7 e0 e1 e2 e3
            have HSm : Hid (∀ W, Below V0.heap.size V0 W → Calls Tryz.prog 44 #[linV x (.slice la x.lists.length lc) (.slice ca x.cells.length cc), linV x (.slice la2 x.lists.length lc2) (.slice ca2 x.cells.length cc2)] W fun e w' => e = .returned (.bool true) ∧ Below W.heap.size W w') := Lib.hid fun W hW => by
              have hx4 := HAX.out.below (below_from hbV hW)
              have := refSameL_any x x _ _ _ _ W _ _ hx4.listsR hx4.cellsR (SliceR.below (rdOf_stable _) hI0 hW) (SliceR.below (rdOf_stable _) hC0 hW)
              rwa [decide_eq_true rfl] at this
            unfold linV at HSm
            have HXV := Lib.hid (And.intro hbV hw26)
            try clear c0 c1 c2 c3 d0 d1 d2 d3
            refine wp_region_grew V0.heap.size (by kernel_rfl) (by kernel_rfl) ?_
            refine BigFrame.wpQuiet_want (by kernel_rfl) (fun K hK => ?_)
            refine quiet_val ?_ (fun W hW => ?_) (hK _ ?_)
            rotate_left 1
            · skip
              go_simp
              try rfl
            clear hK
            clear K
            try simp only [Act.put, List.setIfInBounds_toArray, List.set_cons_zero, List.set_cons_succ]
            refine BigFrame.wpQuiet_want (by kernel_rfl) (fun K hK => ?_)
            refine quiet_val ?_ (fun W hW => ?_) (hK _ ?_)
            rotate_left 1
            · skip
              go_simp
              try rfl
            clear hK
            clear K
            try simp only [Act.put, List.setIfInBounds_toArray, List.set_cons_zero, List.set_cons_succ]
            refine BigFrame.wpQuiet_want (by kernel_rfl) (fun K hK => ?_)
            refine quiet_val ?_ (fun W hW => ?_) (hK _ ?_)
            rotate_left 1
            · skip
              go_simp
              try rfl
            clear hK
            clear K
            try simp only [Act.put, List.setIfInBounds_toArray, List.set_cons_zero, List.set_cons_succ]
            refine BigFrame.wpQuiet_want (by kernel_rfl) (fun K hK => ?_)
            refine quiet_val ?_ (fun W hW => ?_) (hK _ ?_)
            rotate_left 1
            · skip
              obtain ⟨_, c0, c1, c2, c3, _, _⟩ := HAX.out.below (below_from HXV.out.1 hW)
              obtain ⟨p26, f26⟩ := blk (heap_below hW HXV.out.2)
              go_simp
              try rfl
            clear hK
            clear K
            try simp only [Act.put, List.setIfInBounds_toArray, List.set_cons_zero, List.set_cons_succ]
            refine BigFrame.wpQuiet_want (by kernel_rfl) (fun K hK => ?_)
            refine quiet_val ?_ (fun W hW => ?_) (hK _ ?_)
            rotate_left 1
            · skip
              obtain ⟨_, c0, c1, c2, c3, _, _⟩ := HAX.out.below (below_from HXV.out.1 hW)
              obtain ⟨p26, f26⟩ := blk (heap_below hW HXV.out.2)
              go_simp
              try rfl
            clear hK
            clear K
            try simp only [Act.put, List.setIfInBounds_toArray, List.set_cons_zero, List.set_cons_succ]
            refine BigFrame.wpQuiet_want (by kernel_rfl) (fun K hK => ?_)
            refine quiet_calls (f := ?_) (args := ?_) ?_ (fun W hW => ?_) (fun W hW => ?_) (hK _ ?_)
            rotate_left 3
            · go_simp
              constructor <;> rfl
            · refine (HSm.out _ hW).mono ?_
              rintro e W2 ⟨rfl, hbW⟩
              refine ⟨?_, below_from hW hbW⟩
              rfl
            clear hK
            clear K
            try simp only [Act.put, List.setIfInBounds_toArray, List.set_cons_zero, List.set_cons_succ]
            refine BigFrame.wpQuiet_want (by kernel_rfl) (fun K hK => ?_)
            refine quiet_val ?_ (fun W hW => ?_) (hK _ ?_)
            rotate_left 1
            · skip
              go_simp
              try rfl
            clear hK
            clear K
            try simp only [Act.put, List.setIfInBounds_toArray, List.set_cons_zero, List.set_cons_succ]
            refine wpQuiet_nil (fun V9 hstV9 => ?_)
            have hcV9 := below_from HXV.out.1 hstV9
            go_wp2_with fail
            go_roundw
            case rel => exact ⟨q + 1, by omega, by go_num, hcV9⟩
            case measure => simp [intOf]; omega
          · have h1' : (Y.length : Int) - 1 ≤ (q : Int) := by omega
            by_cases h2 : q + 1 = Y.length
            · skip
              have h2' : ((q : Int) == (Y.length : Int) - 1) = true := by simp; omega
              have hqy : (q : Int) < (Y.length : Int) := by omega
              obtain ⟨u, vv, hyu, hzv, hxe⟩ := (HK.out q x hx).2.1 h2
              obtain ⟨hx1, hx2, hx3, hx4⟩ : u.quote = x.quote ∧ u.lists = x.lists ∧ u.kind = x.kind ∧ u.cells ++ vv.cells = x.cells := by rw [hxe]; exact ⟨rfl, rfl, rfl, rfl⟩
              have hfx := HSX.out.2.2 x (mem_of_at hx)
              have hlx : u.cells.length + vv.cells.length ≤ 1000000 := by have := congrArg List.length hx4; rw [List.length_append] at this; omega
              have hlu : u.lists.length ≤ 1000000 ∧ u.cells.length ≤ 1000000 := ⟨by rw [hx2]; exact hfx.1, by omega⟩
              obtain ⟨by', oy, la2, lc2, ca2, cc2, rfl, hAy⟩ := HYY.out q u hyu
              obtain ⟨bz, oz, la3, lc3, ca3, cc3, rfl, hAz⟩ := HZZ.out 0 vv hzv
              rw [Nat.zero_mul, Nat.add_zero] at hAz
              have HAZ := Lib.hid hAz
              have HOw : Hid (∀ W, Below z4.heap.size z4 W → Calls Tryz.prog 58 #[linV u (.slice la2 u.lists.length lc2) (.slice ca2 u.cells.length cc2)] W fun e w' => ∃ a' b', e = .returned (linV u a' b') ∧ IntsR true w' (fun b => W.heap.size ≤ b) a' u.lists ∧ CelsR true w' (fun b => W.heap.size ≤ b) b' u.cells ∧ Below W.heap.size W w') := Lib.hid fun W hW =>
                refOwnL_any u _ _ false false W _ ((hAy.below hW).listsR) ((hAy.below hW).cellsR) hlu
              obtain ⟨_, e0, e1, e2, e3, _, _⟩ := hAy.below hb
              have d4 := cell_on e0
              have d5 := cell_on e1
              have d6 := cell_on e2
              have d7 := cell_on e3
              have hzlen : (0 : Int) < (Z.length : Int) := by omega
              have HXE := Lib.hid (And.intro hx1 (And.intro hx2 (And.intro hx3 hx4)))
              have HUL := Lib.hid hlu
              clear hlu hfx hxe hx1 hx2 hx3 hx4
              go_wp2_with fail
              obtain ⟨V0, hV0⟩ : ∃ V, wr.alloc (.cells #[.int .i64 0, .slice none 0 0, .int .i64 0, .slice none 0 0] 55) = V := ⟨_, rfl⟩
              rw [hV0]
              have hsV : Below wr.heap.size wr V0 := hV0 ▸ (Below.refl _ _).alloc (Nat.le_refl _) _
              have hw26 : V0.heap[wr.heap.size]? = some (.cells #[.int .i64 0, .slice none 0 0, .int .i64 0, .slice none 0 0] 55) := hV0 ▸ heap_new _ _ rfl
              have hbV := below_from hb hsV
              have hlV : wr.heap.size < V0.heap.size := (Array.getElem?_eq_some_iff.1 hw26).1
              clear hV0 d4 d5 d6 d7 e0 e1 e2 e3 c0 c1 c2 c3 d0 d1 d2 d3
              unfold linV at HOw
              refine (HOw.out _ hbV).mono ?_
              rintro e w5 ⟨a', b', rfl, ha', hb', hst5⟩
              obtain ⟨a1, c1, rfl⟩ := ha'.slice
              obtain ⟨a2, c2, rfl⟩ := hb'.slice
              have hb5 := below_from hbV hst5
              have hw27 := heap_below hst5 hw26
              have HRD := Lib.hid (And.intro ha' hb')
              clear ha' hb' HOw hw26
              obtain ⟨V1, hV1⟩ : ∃ V, (((w5.setCell ⟨wr.heap.size, 0, none⟩ (.int .i64 u.quote)).setCell ⟨wr.heap.size, 1, none⟩ (.slice a1 u.lists.length c1)).setCell ⟨wr.heap.size, 2, none⟩ (.int .i64 u.kind)).setCell ⟨wr.heap.size, 3, none⟩ (.slice a2 u.cells.length c2) = V := ⟨_, rfl⟩
              have hw28 : V1.heap[wr.heap.size]? = some (.cells #[.int .i64 u.quote, .slice a1 u.lists.length c1, .int .i64 u.kind, .slice a2 u.cells.length c2] 55) := by rw [← hV1]; simp [heap_set, putIn, hw27]
              have hzb := hb.size
              have hb1 : Below z4.heap.size z4 V1 := hV1 ▸ (((hb5.setCell hzb _).setCell hzb _).setCell hzb _).setCell hzb _
              have hk1 : Keeps (fun b => V0.heap.size ≤ b) w5 V1 := hV1 ▸ ((((Keeps.refl _ _).set (fun hh => by have hh : V0.heap.size ≤ wr.heap.size := hh; omega) _).set (fun hh => by have hh : V0.heap.size ≤ wr.heap.size := hh; omega) _).set (fun hh => by have hh : V0.heap.size ≤ wr.heap.size := hh; omega) _).set (fun hh => by have hh : V0.heap.size ≤ wr.heap.size := hh; omega) _
              have hz15 : w5.heap.size = V1.heap.size := by rw [← hV1]; simp
              have hRI := SliceR.stable (rdOf_stable _) HRD.out.1 hk1 (fun _ h _ => h)
              have hRC := SliceR.stable (rdOf_stable _) HRD.out.2 hk1 (fun _ h _ => h)
              have HRR := Lib.hid (And.intro hRI hRC)
              clear hRI hRC hk1 HRD
              obtain ⟨q26, e26⟩ := blk hw27
              go_wp2_with fail
              clear q26 e26 hV1
              have hzV1 : V0.heap.size ≤ V1.heap.size := by have := hst5.size; omega
              have HS27 : Hid (∀ T, Below V1.heap.size V1 T → (fun w' => w'.cell? ⟨bz, oz + 3, none⟩ = some (.slice ca3 vv.cells.length cc3)) T) := Lib.hid fun T hT => (HAZ.out.below (below_from hb1 hT)).cells
              refine wp_region_noPanic ?_
              refine wp_region_held_drew (S := (fun w' => w'.cell? ⟨bz, oz + 3, none⟩ = some (.slice ca3 vv.cells.length cc3))) (by kernel_rfl) (HS27.out _ (Below.refl _ _).drew) (fun hHeld => ?_)
              obtain ⟨R0, hR0⟩ : ∃ T, V1.drew = T := ⟨_, rfl⟩
              have hd0 : Below V1.heap.size V1 R0 := hR0 ▸ (Below.refl _ _).drew
              rw [hR0] at hHeld ⊢
              clear hR0
              refine wpAnyH_take (i := 0) (v := ?_) (by simp only [List.getElem?_toArray, List.getElem?_cons_zero]; rfl) (by kernel_rfl) (by kernel_rfl) (by kernel_rfl) (fun _ _ _ h => h) (Or.inl ⟨by rfl, ?_⟩) (by assumption) ?_
              rotate_left 1
              · intro w hSw; (try dsimp only at hSw); go_simp; (first | done | with_reducible rfl)
              try simp only [Act.put, List.setIfInBounds_toArray, List.set_cons_zero, List.set_cons_succ]
              refine wpAnyH_take (i := 2) (v := ?_) (by simp only [List.getElem?_toArray, List.getElem?_cons_succ, List.getElem?_cons_zero]; rfl) (by kernel_rfl) (by kernel_rfl) (by kernel_rfl) (fun _ _ _ h => h) (Or.inl ⟨by rfl, ?_⟩) (by assumption) ?_
              rotate_left 1
              · intro w hSw; (try dsimp only at hSw); go_simp; (first | done | with_reducible rfl)
              try simp only [Act.put, List.setIfInBounds_toArray, List.set_cons_zero, List.set_cons_succ]
              refine wpAnyH_take (i := 3) (v := ?_) (by simp only [List.getElem?_toArray, List.getElem?_cons_succ, List.getElem?_cons_zero]; rfl) (by kernel_rfl) (by kernel_rfl) (by kernel_rfl) (fun _ _ _ h => h) (Or.inl ⟨by rfl, ?_⟩) (by assumption) ?_
              rotate_left 1
              · intro w hSw; (try dsimp only at hSw); go_simp; (first | done | with_reducible rfl)
              try simp only [Act.put, List.setIfInBounds_toArray, List.set_cons_zero, List.set_cons_succ]
              refine wpAnyH_take (i := 4) (v := ?_) (by simp only [List.getElem?_toArray, List.getElem?_cons_succ, List.getElem?_cons_zero]; rfl) (by kernel_rfl) (by kernel_rfl) (by kernel_rfl) (fun _ _ _ h => h) (Or.inl ⟨by rfl, ?_⟩) (by assumption) ?_
              rotate_left 1
              · intro w hSw; (try dsimp only at hSw); go_simp; (first | done | with_reducible rfl)
              try simp only [Act.put, List.setIfInBounds_toArray, List.set_cons_zero, List.set_cons_succ]
              refine wpAnyH_take (i := 5) (v := ?_) (by simp only [List.getElem?_toArray, List.getElem?_cons_succ, List.getElem?_cons_zero]; rfl) (by kernel_rfl) (by kernel_rfl) (by kernel_rfl) (fun _ _ _ h => h) (Or.inl ⟨by rfl, ?_⟩) (by assumption) ?_
              rotate_left 1
              · intro w hSw; (try dsimp only at hSw); go_simp; (first | done | with_reducible rfl)
              try simp only [Act.put, List.setIfInBounds_toArray, List.set_cons_zero, List.set_cons_succ]
              refine wpAnyH_ready (rs := [1]) (by kernel_rfl) (by simp) ?_
              refine AllReadyH.cons (by simp only [List.getElem?_toArray, List.getElem?_cons_succ, List.getElem?_cons_zero]; rfl) (fun K hK => ?_) AllReadyH.nil
              obtain ⟨q28, e28⟩ := blk (heap_below hd0 hw28)
              go_simp
              refine hK.out _ _ (HS27.out _ hd0) (fun hHeld => ?_)
              clear hK K q28 e28
              try simp only [Act.put, List.setIfInBounds_toArray, List.set_cons_zero, List.set_cons_succ]
              refine wpAnyH_ready (rs := [6]) (by kernel_rfl) (by simp) ?_
              refine AllReadyH.cons (by simp only [List.getElem?_toArray, List.getElem?_cons_succ, List.getElem?_cons_zero]; rfl) (fun K hK => ?_) AllReadyH.nil
              have hown := SliceR.below (rdOf_stable _) HRR.out.2 hd0
              have hsrc := SliceR.src_flat rowCell eltCell (HAZ.out.below (below_from hb1 hd0)).cellsR
              have hzR := hd0.size
              refine step_append_T (by rfl) _ _ 46 46 (by rfl) rowCell eltCell V0.heap.size _ _ (xs := u.cells) (ys := vv.cells) (news := vv.cells.flatMap encCel) (by rfl) (by rfl) hown (by omega) hsrc (flatCell _ _ _) (by omega) ?_
              intro v6 R6 hv6 hb6 hty6
              have hw29 : R6.heap[wr.heap.size]? = _ := (hb6.block _ hlV).trans (heap_below hd0 hw28)
              have hz4V : z4.heap.size ≤ V0.heap.size := hbV.size
              have hb16 := (below_from hb1 hd0).trans (hb6.mono hz4V)
              have hS6 : (fun w' => w'.cell? ⟨bz, oz + 3, none⟩ = some (.slice ca3 vv.cells.length cc3)) R6 := (HAZ.out.below hb16).cells
              have hRI0 := SliceR.below (rdOf_stable _) HRR.out.1 hd0
              have hRI6 := SliceR.tagged (tagged_of _ _) (by decide) hRI0 hb6.size (fun b _ hz hno => hty6 b hz hno) (fun _ h _ => h)
              clear hty6 hRI0
              obtain ⟨a6, c6, rfl⟩ := hv6.slice
              refine hK.out _ _ hS6 (fun hHeld => ?_)
              clear hK K
              try simp only [Act.put, List.setIfInBounds_toArray, List.set_cons_zero, List.set_cons_succ]
              refine wpAnyH_take (i := 7) (v := ?_) (by simp only [List.getElem?_toArray, List.getElem?_cons_succ, List.getElem?_cons_zero]; rfl) (by kernel_rfl) (by kernel_rfl) (by kernel_rfl) (fun _ _ _ h => h) (Or.inl ⟨by rfl, ?_⟩) (by assumption) ?_
              rotate_left 1
              · intro w hSw; (try dsimp only at hSw); go_simp; (first | done | with_reducible rfl)
              try simp only [Act.put, List.setIfInBounds_toArray, List.set_cons_zero, List.set_cons_succ]
              refine wpAnyH_ready (rs := [8]) (by kernel_rfl) (by simp) ?_
              refine AllReadyH.cons (by simp only [List.getElem?_toArray, List.getElem?_cons_succ, List.getElem?_cons_zero]; rfl) (fun K hK => ?_) AllReadyH.nil
              obtain ⟨q29, e29⟩ := blk hw29
              obtain ⟨V2, hV2⟩ : ∃ V, R6.setCell ⟨wr.heap.size, 3, none⟩ (.slice a6 (u.cells ++ vv.cells).length c6) = V := ⟨_, rfl⟩
              have hk2 : Keeps (fun b => V0.heap.size ≤ b) R6 V2 := hV2 ▸ (Keeps.refl _ _).set (fun hh => by have hh : V0.heap.size ≤ wr.heap.size := hh; omega) _
              have hbV2 : Below z4.heap.size z4 V2 := hV2 ▸ hb16.setCell hzb _
              have hw30 : V2.heap[wr.heap.size]? = some (.cells #[.int .i64 u.quote, .slice a1 u.lists.length c1, .int .i64 u.kind, .slice a6 (u.cells ++ vv.cells).length c6] 55) := by rw [← hV2]; simp [heap_set, putIn, hw29]
              have hI2 := SliceR.read (fun _ _ h => h) (SliceR.stable (rdOf_stable _) hRI6 hk2 (fun _ h _ => h))
              have hC2 := SliceR.read (fun _ _ h => h) (SliceR.stable (rdOf_stable _) hv6 hk2 (fun _ h _ => h))
              have hSV : ∀ o, V2.cell? ⟨bz, o, none⟩ = R6.cell? ⟨bz, o, none⟩ := fun o => by rw [← hV2]; exact setCell_block (by have := hAz.lt; omega)
              go_simp
              rw [← List.length_append, hV2]
              refine hK.out _ _ ((hSV _).trans hS6) (fun hHeld => ?_)
              refine wpAnyH_done (by kernel_rfl) ?_ _
              refine NoPanic.normal ?_
              clear hK K hHeld q29 e29 hV2 hSV hS6 hk2 hRI6 hv6 hw29 hw28 hw27
              rw [HXE.out.1, HXE.out.2.1, HXE.out.2.2.1, HXE.out.2.2.2] at hw30
              rw [HXE.out.2.1] at hI2
              rw [HXE.out.2.2.2] at hC2
              clear HXE
              go_wp2_with fail
              have HSm : Hid (∀ W, Below V2.heap.size V2 W → Calls Tryz.prog 44 #[linV x (.slice la x.lists.length lc) (.slice ca x.cells.length cc), linV x (.slice a1 x.lists.length c1) (.slice a6 x.cells.length c6)] W fun e w' => e = .returned (.bool true) ∧ Below W.heap.size W w') := Lib.hid fun W hW => by
                have hx4 := HAX.out.below (below_from hbV2 hW)
                have := refSameL_any x x _ _ _ _ W _ _ hx4.listsR hx4.cellsR (SliceR.below (rdOf_stable _) hI2 hW) (SliceR.below (rdOf_stable _) hC2 hW)
                rwa [decide_eq_true rfl] at this
              unfold linV at HSm
              have HXV := Lib.hid (And.intro hbV2 hw30)
              try clear c0 c1 c2 c3 d0 d1 d2 d3
              refine wp_region_grew V2.heap.size (by kernel_rfl) (by kernel_rfl) ?_
              refine BigFrame.wpQuiet_want (by kernel_rfl) (fun K hK => ?_)
              refine quiet_val ?_ (fun W hW => ?_) (hK _ ?_)
              rotate_left 1
              · skip
                go_simp
                try rfl
              clear hK
              clear K
              try simp only [Act.put, List.setIfInBounds_toArray, List.set_cons_zero, List.set_cons_succ]
              refine BigFrame.wpQuiet_want (by kernel_rfl) (fun K hK => ?_)
              refine quiet_val ?_ (fun W hW => ?_) (hK _ ?_)
              rotate_left 1
              · skip
                go_simp
                try rfl
              clear hK
              clear K
              try simp only [Act.put, List.setIfInBounds_toArray, List.set_cons_zero, List.set_cons_succ]
              refine BigFrame.wpQuiet_want (by kernel_rfl) (fun K hK => ?_)
              refine quiet_val ?_ (fun W hW => ?_) (hK _ ?_)
              rotate_left 1
              · skip
                go_simp
                try rfl
              clear hK
              clear K
              try simp only [Act.put, List.setIfInBounds_toArray, List.set_cons_zero, List.set_cons_succ]
              refine BigFrame.wpQuiet_want (by kernel_rfl) (fun K hK => ?_)
              refine quiet_val ?_ (fun W hW => ?_) (hK _ ?_)
              rotate_left 1
              · skip
                obtain ⟨_, c0, c1, c2, c3, _, _⟩ := HAX.out.below (below_from HXV.out.1 hW)
                obtain ⟨p26, f26⟩ := blk (heap_below hW HXV.out.2)
                go_simp
                try rfl
              clear hK
              clear K
              try simp only [Act.put, List.setIfInBounds_toArray, List.set_cons_zero, List.set_cons_succ]
              refine BigFrame.wpQuiet_want (by kernel_rfl) (fun K hK => ?_)
              refine quiet_val ?_ (fun W hW => ?_) (hK _ ?_)
              rotate_left 1
              · skip
                obtain ⟨_, c0, c1, c2, c3, _, _⟩ := HAX.out.below (below_from HXV.out.1 hW)
                obtain ⟨p26, f26⟩ := blk (heap_below hW HXV.out.2)
                go_simp
                try rfl
              clear hK
              clear K
              try simp only [Act.put, List.setIfInBounds_toArray, List.set_cons_zero, List.set_cons_succ]
              refine BigFrame.wpQuiet_want (by kernel_rfl) (fun K hK => ?_)
              refine quiet_calls (f := ?_) (args := ?_) ?_ (fun W hW => ?_) (fun W hW => ?_) (hK _ ?_)
              rotate_left 3
              · go_simp
                constructor <;> rfl
              · refine (HSm.out _ hW).mono ?_
                rintro e W2 ⟨rfl, hbW⟩
                refine ⟨?_, below_from hW hbW⟩
                rfl
              clear hK
              clear K
              try simp only [Act.put, List.setIfInBounds_toArray, List.set_cons_zero, List.set_cons_succ]
              refine BigFrame.wpQuiet_want (by kernel_rfl) (fun K hK => ?_)
              refine quiet_val ?_ (fun W hW => ?_) (hK _ ?_)
              rotate_left 1
              · skip
                go_simp
                try rfl
              clear hK
              clear K
              try simp only [Act.put, List.setIfInBounds_toArray, List.set_cons_zero, List.set_cons_succ]
              refine wpQuiet_nil (fun V9 hstV9 => ?_)
              have hcV9 := below_from HXV.out.1 hstV9
              go_wp2_with fail
              go_roundw
              case rel => exact ⟨q + 1, by omega, by go_num, hcV9⟩
              case measure => simp [intOf]; omega
            · have h2' : ((q : Int) == (Y.length : Int) - 1) = false := by simp; omega
              have hzq := (HK.out q x hx).2.2 (by omega)
              have hzlt := (List.getElem?_eq_some_iff.1 hzq).1
              have hz0 : (0 : Int) ≤ (q : Int) - (Y.length : Int) + 1 := by omega
              have hz2 : (q : Int) - (Y.length : Int) + 1 < (Z.length : Int) := by omega
              have hw5 : IntKind.i64.wrap ((q : Int) - (Y.length : Int)) = (q : Int) - (Y.length : Int) := IntWalk.i64_in _ (by omega)
              have hw6 : IntKind.i64.wrap ((q : Int) - (Y.length : Int) + 1) = (q : Int) - (Y.length : Int) + 1 := IntWalk.i64_in _ (by omega)
              have hw7 : ((q : Int) - (Y.length : Int) + 1).toNat = q + 1 - Y.length := by omega
              obtain ⟨by', oy, la2, lc2, ca2, cc2, rfl, hAy⟩ := HZZ.out _ x hzq
              obtain ⟨_, e0, e1, e2, e3, _, _⟩ := hAy.below hb
              have d4 := cell_on e0
              have d5 := cell_on e1
              have d6 := cell_on e2
              have d7 := cell_on e3
              have HIC := Lib.hid (And.intro hAy.listsR hAy.cellsR)
              go_wp2_with fail
              obtain ⟨V0, hV0⟩ : ∃ V, wr.alloc (.cells #[.int .i64 x.quote, .slice la2 x.lists.length lc2, .int .i64 x.kind, .slice ca2 x.cells.length cc2] 55) = V := ⟨_, rfl⟩
              rw [hV0]
              have hsV : Below wr.heap.size wr V0 := hV0 ▸ (Below.refl _ _).alloc (Nat.le_refl _) _
              have hw26 : V0.heap[wr.heap.size]? = some (.cells #[.int .i64 x.quote, .slice la2 x.lists.length lc2, .int .i64 x.kind, .slice ca2 x.cells.length cc2] 55) := hV0 ▸ heap_new _ _ rfl
              have hbV := below_from hb hsV
              have hI0 := SliceR.below (rdOf_stable _) HIC.out.1 hbV
              have hC0 := SliceR.below (rdOf_stable _) HIC.out.2 hbV
              clear hV0 d4 d5 d6 d7 e0 e1 e2 e3
              have HSm : Hid (∀ W, Below V0.heap.size V0 W → Calls Tryz.prog 44 #[linV x (.slice la x.lists.length lc) (.slice ca x.cells.length cc), linV x (.slice la2 x.lists.length lc2) (.slice ca2 x.cells.length cc2)] W fun e w' => e = .returned (.bool true) ∧ Below W.heap.size W w') := Lib.hid fun W hW => by
                have hx4 := HAX.out.below (below_from hbV hW)
                have := refSameL_any x x _ _ _ _ W _ _ hx4.listsR hx4.cellsR (SliceR.below (rdOf_stable _) hI0 hW) (SliceR.below (rdOf_stable _) hC0 hW)
                rwa [decide_eq_true rfl] at this
              unfold linV at HSm
              have HXV := Lib.hid (And.intro hbV hw26)
              try clear c0 c1 c2 c3 d0 d1 d2 d3
              refine wp_region_grew V0.heap.size (by kernel_rfl) (by kernel_rfl) ?_
              refine BigFrame.wpQuiet_want (by kernel_rfl) (fun K hK => ?_)
              refine quiet_val ?_ (fun W hW => ?_) (hK _ ?_)
              rotate_left 1
              · skip
                go_simp
                try rfl
              clear hK
              clear K
              try simp only [Act.put, List.setIfInBounds_toArray, List.set_cons_zero, List.set_cons_succ]
              refine BigFrame.wpQuiet_want (by kernel_rfl) (fun K hK => ?_)
              refine quiet_val ?_ (fun W hW => ?_) (hK _ ?_)
              rotate_left 1
              · skip
                go_simp
                try rfl
              clear hK
              clear K
              try simp only [Act.put, List.setIfInBounds_toArray, List.set_cons_zero, List.set_cons_succ]
              refine BigFrame.wpQuiet_want (by kernel_rfl) (fun K hK => ?_)
              refine quiet_val ?_ (fun W hW => ?_) (hK _ ?_)
              rotate_left 1
              · skip
                go_simp
                try rfl
              clear hK
              clear K
              try simp only [Act.put, List.setIfInBounds_toArray, List.set_cons_zero, List.set_cons_succ]
              refine BigFrame.wpQuiet_want (by kernel_rfl) (fun K hK => ?_)
              refine quiet_val ?_ (fun W hW => ?_) (hK _ ?_)
              rotate_left 1
              · skip
                obtain ⟨_, c0, c1, c2, c3, _, _⟩ := HAX.out.below (below_from HXV.out.1 hW)
                obtain ⟨p26, f26⟩ := blk (heap_below hW HXV.out.2)
                go_simp
                try rfl
              clear hK
              clear K
              try simp only [Act.put, List.setIfInBounds_toArray, List.set_cons_zero, List.set_cons_succ]
              refine BigFrame.wpQuiet_want (by kernel_rfl) (fun K hK => ?_)
              refine quiet_val ?_ (fun W hW => ?_) (hK _ ?_)
              rotate_left 1
              · skip
                obtain ⟨_, c0, c1, c2, c3, _, _⟩ := HAX.out.below (below_from HXV.out.1 hW)
                obtain ⟨p26, f26⟩ := blk (heap_below hW HXV.out.2)
                go_simp
                try rfl
              clear hK
              clear K
              try simp only [Act.put, List.setIfInBounds_toArray, List.set_cons_zero, List.set_cons_succ]
              refine BigFrame.wpQuiet_want (by kernel_rfl) (fun K hK => ?_)
              refine quiet_calls (f := ?_) (args := ?_) ?_ (fun W hW => ?_) (fun W hW => ?_) (hK _ ?_)
              rotate_left 3
              · go_simp
                constructor <;> rfl
              · refine (HSm.out _ hW).mono ?_
                rintro e W2 ⟨rfl, hbW⟩
                refine ⟨?_, below_from hW hbW⟩
                rfl
              clear hK
              clear K
              try simp only [Act.put, List.setIfInBounds_toArray, List.set_cons_zero, List.set_cons_succ]
              refine BigFrame.wpQuiet_want (by kernel_rfl) (fun K hK => ?_)
              refine quiet_val ?_ (fun W hW => ?_) (hK _ ?_)
              rotate_left 1
              · skip
                go_simp
                try rfl
              clear hK
              clear K
              try simp only [Act.put, List.setIfInBounds_toArray, List.set_cons_zero, List.set_cons_succ]
              refine wpQuiet_nil (fun V9 hstV9 => ?_)
              have hcV9 := below_from HXV.out.1 hstV9
              go_wp2_with fail
              go_roundw
              case rel => exact ⟨q + 1, by omega, by go_num, hcV9⟩
              case measure => simp [intOf]; omega
        · obtain rfl : q = X.length := by omega
          go_wp2_with fail
          refine (HA.out _ (below_from HC4.out hb)).mono ?_
          rintro e wx ⟨rfl, hbx⟩
          go_wp2_with fail
          go_ret
          exact ⟨rfl, H1.out.trans ((below_from (below_from HC4.out hb) hbx).mono hs1)⟩
end Go.Proofs.YtfoiaoopbkcpoaaGreatDoor
