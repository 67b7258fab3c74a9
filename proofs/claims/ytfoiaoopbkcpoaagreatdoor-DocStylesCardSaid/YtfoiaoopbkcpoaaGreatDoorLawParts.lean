/- The walk of the law DocParts. -/
import Derived.Test.YtfoiaoopbkcpoaaGreatDoorDocLaws
import Derived.Test.YtfoiaoopbkcpoaaGreatDoorLawPlaces
import Derived.Test.YtfoiaoopbkcpoaaGreatDoorGrow
namespace Go.Proofs.YtfoiaoopbkcpoaaGreatDoor
open Go.RowKit
open Go.Proofs.Qw
/-- Three places in three new blocks. -/
theorem three_pos (w : World) (a b c d e f : Value) : ∃ W1, ((w.alloc (.cells #[a, b] 24)).alloc (.cells #[c, d] 24)).alloc (.cells #[e, f] 24) = W1 ∧ Below w.heap.size w W1 ∧ w.heap.size + 3 = W1.heap.size ∧
    W1.heap[w.heap.size]? = some (.cells #[a, b] 24) ∧ W1.heap[w.heap.size + 1]? = some (.cells #[c, d] 24) ∧ W1.heap[w.heap.size + 2]? = some (.cells #[e, f] 24) :=
  ⟨_, rfl, (((Below.refl _ _).alloc (Nat.le_refl _) _).alloc (by simp) _).alloc (by simp; omega) _, by simp, heap_old _ _ (heap_old _ _ (heap_new _ _ rfl)), heap_old _ _ (heap_new _ _ (by simp)), heap_new _ _ (by simp)⟩
/-- What may be is small. -/
theorem may_small {d : Doc} (h : mayD d = true) : Small d ∧ Fits d := by
  obtain ⟨h1, h2, h3, h4⟩ := mayD_iff.1 h
  rw [flatc_len] at h3
  refine ⟨⟨by omega, by omega, fun l hl c hc => ?_⟩, by omega, fun l hl => ?_⟩
  · have := h4 l hl
    unfold mayL at this
    simp only [Bool.and_eq_true] at this
    have hcs := this.2
    unfold mayCs at hcs
    have hm := List.all_eq_true.1 hcs c hc
    unfold mayC linkF at hm
    simp only [Bool.and_eq_true, Bool.or_eq_true, decide_eq_true_eq] at hm
    rcases hm.2 with e | e
    · rw [e]; simp
    · unfold targetF valueF valueB at e
      simp only [Bool.and_eq_true, decide_eq_true_eq] at e
      have h5 := e.1.2.1
      have : (⟨c.href.toArray⟩ : ByteArray).size = c.href.length := by show c.href.toArray.size = _; simp
      omega
  · have hm := h4 l hl
    unfold mayL at hm
    simp only [Bool.and_eq_true, decide_eq_true_eq] at hm
    obtain ⟨i, hi⟩ := List.getElem?_of_mem hl
    have := cells_le hi
    omega
set_option maxRecDepth 100000 in
set_option maxHeartbeats 8000000 in
theorem lawParts_any (v : Value) (d : Doc) (a b c : Ps) (w : World) (S : Nat → Prop) (h : LinsR w S v d) (sn : Sane d) (he : EnvT w) :
    Calls Tryz.prog 7 #[v, posV a, posV b, posV c] w fun e w' => e = .returned (.bool true) ∧ Below w.heap.size w w' := by
  obtain ⟨W1, hW1, hB, hz, k0, k1, k2⟩ := three_pos w (.int .i64 a.line) (.int .i64 a.col) (.int .i64 b.line) (.int .i64 b.col) (.int .i64 c.line) (.int .i64 c.col)
  have hv := h.below (rdLin_stable _) hB
  have he1 := he.below hB
  have HL := Lib.hid (long_any v d W1 S hv sn)
  have HA : Hid (∀ W, Below W1.heap.size W1 W → Calls Tryz.prog 11 #[] W fun e w' => e = .returned (.bool true) ∧ Below W.heap.size W w') := Lib.hid fun W hW => awake_any W (he1.below hW)
  have HB : Hid (∀ W, Below W1.heap.size W1 W → W.heap[w.heap.size]? = some (.cells #[.int .i64 a.line, .int .i64 a.col] 24) ∧ W.heap[w.heap.size + 1]? = some (.cells #[.int .i64 b.line, .int .i64 b.col] 24) ∧ W.heap[w.heap.size + 2]? = some (.cells #[.int .i64 c.line, .int .i64 c.col] 24)) := Lib.hid fun W hW => ⟨heap_below hW k0, heap_below hW k1, heap_below hW k2⟩
  have HV := Lib.hid hv
  have HE := Lib.hid he1
  have HP : Hid (∀ p : Ps, posV p = .agg #[.int .i64 p.line, .int .i64 p.col]) := Lib.hid fun _ => rfl
  have H1 := Lib.hid hB
  have hs1 := hB.size
  obtain ⟨va, vc, rfl⟩ := h.slice
  have hw0 : Below W1.heap.size W1 W1 := Below.refl _ _
  have HCmp : Hid (∀ p q W, Below W1.heap.size W1 W → Calls Tryz.prog 23 #[.agg #[.int .i64 p.line, .int .i64 p.col], .agg #[.int .i64 q.line, .int .i64 q.col]] W fun e w' => e = .returned (.int .i64 (cmpP p q)) ∧ Below W.heap.size W w') := Lib.hid fun p q W _ => cmp_any p q W
  have HIs : Hid (∀ p W, Below W1.heap.size W1 W → Calls Tryz.prog 19 #[.slice va d.length vc, .agg #[.int .i64 p.line, .int .i64 p.col]] W fun e w' => e = .returned (.bool (isD d p)) ∧ Below W.heap.size W w') := Lib.hid fun p W hW => is_any _ d p W W1 S hv hW
  obtain ⟨p0, f0⟩ := blk k0
  obtain ⟨p1, f1⟩ := blk k1
  obtain ⟨p2, f2⟩ := blk k2
  clear h he hv he1 k0 k1 k2 hB sn
  rw [HP.out a, HP.out b, HP.out c]
  obtain ⟨m, hm⟩ : ∃ m, mayD d = m := ⟨_, rfl⟩
  obtain ⟨ia, hia⟩ : ∃ m, isD d a = m := ⟨_, rfl⟩
  obtain ⟨ib, hib⟩ : ∃ m, isD d b = m := ⟨_, rfl⟩
  obtain ⟨ic, hic⟩ : ∃ m, isD d c = m := ⟨_, rfl⟩
  obtain ⟨u1, hu1⟩ : ∃ m, cmpP a b = m := ⟨_, rfl⟩
  obtain ⟨u2, hu2⟩ : ∃ m, cmpP b c = m := ⟨_, rfl⟩
  have HIa := HIs.out a
  have HIb := HIs.out b
  have HIc := HIs.out c
  have HC1 := HCmp.out a b
  have HC2 := HCmp.out b c
  rw [hia] at HIa
  rw [hib] at HIb
  rw [hic] at HIc
  rw [hu1] at HC1
  rw [hu2] at HC2
  have HIa := Lib.hid HIa
  have HIb := Lib.hid HIb
  have HIc := Lib.hid HIc
  have HC1 := Lib.hid HC1
  have HC2 := Lib.hid HC2
  have HQ := Lib.hid (And.intro hm (And.intro hia (And.intro hib (And.intro hic (And.intro hu1 hu2)))))
  clear hm hia hib hic hu1 hu2
  go_enter Tryz.func7, Tryz.ntmps7
  go_wp2_with fail
  refine HL.out.mono ?_
  rintro e w2 ⟨r, rfl, hr2, hb2⟩
  cases r
  case' true =>
    go_wp2_with fail
    refine (HA.out _ hb2).mono ?_
    rintro e wx ⟨rfl, hbx⟩
    go_wp2_with fail
    go_ret
    exact ⟨rfl, H1.out.trans ((below_from hb2 hbx).mono hs1)⟩
  have HS := Lib.hid (hr2 rfl)
  clear hr2
  have HM : Hid (∀ W, Below W1.heap.size W1 W → Calls Tryz.prog 13 #[.slice va d.length vc] W fun e w' => e = .returned (.bool m) ∧ Below W.heap.size W w') := Lib.hid fun W hW => by
    have := docMay_any _ d W W1 S HV.out (HE.out.below hW) hW HS.out.small
    rw [HQ.out.1] at this
    exact this
  clear p0 f0 p1 f1 p2 f2
  obtain ⟨p0, f0⟩ := blk (HB.out _ hb2).1
  obtain ⟨p1, f1⟩ := blk (HB.out _ hb2).2.1
  obtain ⟨p2, f2⟩ := blk (HB.out _ hb2).2.2
  go_wp2_with fail
  refine (HM.out _ hb2).mono ?_
  rintro e w3 ⟨rfl, hb3⟩
  have hx3 := below_from hb2 hb3
  cases m
  case' false =>
    go_wp2_with fail
    refine (HA.out _ hx3).mono ?_
    rintro e wx ⟨rfl, hbx⟩
    go_wp2_with fail
    go_ret
    exact ⟨rfl, H1.out.trans ((below_from hx3 hbx).mono hs1)⟩
  clear p0 f0 p1 f1 p2 f2
  obtain ⟨p0, f0⟩ := blk (HB.out _ hx3).1
  obtain ⟨p1, f1⟩ := blk (HB.out _ hx3).2.1
  obtain ⟨p2, f2⟩ := blk (HB.out _ hx3).2.2
  go_wp2_with fail
  refine (HIa.out _ hx3).mono ?_
  rintro e w4 ⟨rfl, hb4⟩
  have hx4 := below_from hx3 hb4
  cases ia
  case' false =>
    go_wp2_with fail
    refine (HA.out _ hx4).mono ?_
    rintro e wx ⟨rfl, hbx⟩
    go_wp2_with fail
    go_ret
    exact ⟨rfl, H1.out.trans ((below_from hx4 hbx).mono hs1)⟩
  clear p0 f0 p1 f1 p2 f2
  obtain ⟨p0, f0⟩ := blk (HB.out _ hx4).1
  obtain ⟨p1, f1⟩ := blk (HB.out _ hx4).2.1
  obtain ⟨p2, f2⟩ := blk (HB.out _ hx4).2.2
  go_wp2_with fail
  refine (HIb.out _ hx4).mono ?_
  rintro e w5 ⟨rfl, hb5⟩
  have hx5 := below_from hx4 hb5
  cases ib
  case' false =>
    go_wp2_with fail
    refine (HA.out _ hx5).mono ?_
    rintro e wx ⟨rfl, hbx⟩
    go_wp2_with fail
    go_ret
    exact ⟨rfl, H1.out.trans ((below_from hx5 hbx).mono hs1)⟩
  clear p0 f0 p1 f1 p2 f2
  obtain ⟨p0, f0⟩ := blk (HB.out _ hx5).1
  obtain ⟨p1, f1⟩ := blk (HB.out _ hx5).2.1
  obtain ⟨p2, f2⟩ := blk (HB.out _ hx5).2.2
  go_wp2_with fail
  refine (HIc.out _ hx5).mono ?_
  rintro e w6 ⟨rfl, hb6⟩
  have hx6 := below_from hx5 hb6
  cases ic
  case' false =>
    go_wp2_with fail
    refine (HA.out _ hx6).mono ?_
    rintro e wx ⟨rfl, hbx⟩
    go_wp2_with fail
    go_ret
    exact ⟨rfl, H1.out.trans ((below_from hx6 hbx).mono hs1)⟩
  clear p0 f0 p1 f1 p2 f2
  obtain ⟨p0, f0⟩ := blk (HB.out _ hx6).1
  obtain ⟨p1, f1⟩ := blk (HB.out _ hx6).2.1
  obtain ⟨p2, f2⟩ := blk (HB.out _ hx6).2.2
  go_wp2_with fail
  refine (HC1.out _ hx6).mono ?_
  rintro e w7 ⟨rfl, hb7⟩
  have hx7 := below_from hx6 hb7
  by_cases hgu1 : 0 < u1
  · skip
    go_wp2_with fail
    refine (HA.out _ hx7).mono ?_
    rintro e wx ⟨rfl, hbx⟩
    go_wp2_with fail
    go_ret
    exact ⟨rfl, H1.out.trans ((below_from hx7 hbx).mono hs1)⟩
  clear p0 f0 p1 f1 p2 f2
  obtain ⟨p0, f0⟩ := blk (HB.out _ hx7).1
  obtain ⟨p1, f1⟩ := blk (HB.out _ hx7).2.1
  obtain ⟨p2, f2⟩ := blk (HB.out _ hx7).2.2
  go_wp2_with fail
  refine (HC2.out _ hx7).mono ?_
  rintro e w8 ⟨rfl, hb8⟩
  have hx8 := below_from hx7 hb8
  by_cases hgu2 : 0 < u2
  · skip
    go_wp2_with fail
    refine (HA.out _ hx8).mono ?_
    rintro e wx ⟨rfl, hbx⟩
    go_wp2_with fail
    go_ret
    exact ⟨rfl, H1.out.trans ((below_from hx8 hbx).mono hs1)⟩
  have hsp : spanD d a b = true ∧ spanD d b c = true := by
    obtain ⟨q1, q2, q3, q4, q5, q6⟩ := HQ.out
    unfold spanD
    rw [q1, q2, q3, q4, q5, q6]
    simp
    omega
  have h3 := cells_three hsp.1 hsp.2
  have h4 := delete_two hsp.1 hsp.2
  have hmy : mayD (deleteL d b c) = true := (span_at h4.1).1
  have HSY := Lib.hid (may_small hmy)
  have HSM := Lib.hid HS.out.small
  have HFI := Lib.hid HS.out.fits
  have HN : Hid (deleteD d a c = (deleteL d a c, 0) ∧ deleteD d b c = (deleteL d b c, 0) ∧ deleteD (deleteL d b c) a b = (deleteL d a c, 0)) := Lib.hid (by
    unfold deleteD
    rw [if_pos h3.2, if_pos hsp.2, if_pos h4.1, h4.2]
    exact ⟨rfl, rfl, rfl⟩)
  obtain ⟨L1, hL1⟩ : ∃ x, cellsD d a b = x := ⟨_, rfl⟩
  obtain ⟨L2, hL2⟩ : ∃ x, cellsD d b c = x := ⟨_, rfl⟩
  obtain ⟨X, hX⟩ : ∃ x, deleteL d a c = x := ⟨_, rfl⟩
  obtain ⟨Y, hY⟩ : ∃ x, deleteL d b c = x := ⟨_, rfl⟩
  have hL := h3.1
  rw [hL1, hL2] at hL
  have HLL := Lib.hid (And.intro hL1 (And.intro hL2 hL))
  rw [hX, hY] at HN
  rw [hY] at HSY
  have hl1 : L1.length ≤ 100000 := by rw [← hL1]; exact Nat.le_trans (cellsD_size d a b) HSM.out.1
  have hl2 : L2.length ≤ 100000 := by rw [← hL2]; exact Nat.le_trans (cellsD_size d b c) HSM.out.1
  obtain ⟨n1, hn1⟩ : ∃ n, L1.length = n := ⟨_, rfl⟩
  obtain ⟨n2, hn2⟩ : ∃ n, L2.length = n := ⟨_, rfl⟩
  obtain ⟨n3, hn3⟩ : ∃ n, (L1 ++ L2).length = n := ⟨_, rfl⟩
  have hn : n3 = n1 + n2 := by rw [← hn1, ← hn2, ← hn3, List.length_append]
  have hq : IntKind.i64.wrap ((n1 : Int) + (n2 : Int)) = (n3 : Int) := by rw [IntWalk.i64_in _ (by omega)]; omega
  have HNN := Lib.hid (And.intro hn1 (And.intro hn2 hn3))
  have HQ2 := Lib.hid hq
  clear hsp h3 h4 hmy hX hY hL1 hL2 hL hn1 hn2 hn3 hn hq
  obtain ⟨w9, hw9⟩ : ∃ x, w8 = x := ⟨_, rfl⟩
  subst hw9
  have RCac : Hid (∀ W, Below W1.heap.size W1 W → Calls Tryz.prog 38 #[.slice va d.length vc, .agg #[.int .i64 a.line, .int .i64 a.col], .agg #[.int .i64 c.line, .int .i64 c.col]] W fun e w' => ∃ v', e = .returned v' ∧ CelsR true w' (fun b => W.heap.size ≤ b) v' (L1 ++ L2) ∧ Below W.heap.size W w') := Lib.hid fun W hW => by
    have := refCells_any _ d a c W S (HV.out.below (rdLin_stable _) hW) HSM.out HFI.out
    rw [HLL.out.2.2] at this
    exact this
  have HNac : Hid (∀ W, Below W1.heap.size W1 W → Calls Tryz.prog 43 #[.slice va d.length vc, .agg #[.int .i64 a.line, .int .i64 a.col], .agg #[.int .i64 c.line, .int .i64 c.col]] W fun e w' => e = .returned (.int .i64 n3) ∧ Below W.heap.size W w') := Lib.hid fun W hW => by
    have := docCount_any _ d a c W S (HV.out.below (rdLin_stable _) hW) (HE.out.below hW) HSM.out
    rw [HLL.out.2.2, HNN.out.2.2] at this
    exact this
  have RCab : Hid (∀ W, Below W1.heap.size W1 W → Calls Tryz.prog 38 #[.slice va d.length vc, .agg #[.int .i64 a.line, .int .i64 a.col], .agg #[.int .i64 b.line, .int .i64 b.col]] W fun e w' => ∃ v', e = .returned v' ∧ CelsR true w' (fun b => W.heap.size ≤ b) v' L1 ∧ Below W.heap.size W w') := Lib.hid fun W hW => by
    have := refCells_any _ d a b W S (HV.out.below (rdLin_stable _) hW) HSM.out HFI.out
    rw [HLL.out.1] at this
    exact this
  have HNab : Hid (∀ W, Below W1.heap.size W1 W → Calls Tryz.prog 43 #[.slice va d.length vc, .agg #[.int .i64 a.line, .int .i64 a.col], .agg #[.int .i64 b.line, .int .i64 b.col]] W fun e w' => e = .returned (.int .i64 n1) ∧ Below W.heap.size W w') := Lib.hid fun W hW => by
    have := docCount_any _ d a b W S (HV.out.below (rdLin_stable _) hW) (HE.out.below hW) HSM.out
    rw [HLL.out.1, HNN.out.1] at this
    exact this
  have RCbc : Hid (∀ W, Below W1.heap.size W1 W → Calls Tryz.prog 38 #[.slice va d.length vc, .agg #[.int .i64 b.line, .int .i64 b.col], .agg #[.int .i64 c.line, .int .i64 c.col]] W fun e w' => ∃ v', e = .returned v' ∧ CelsR true w' (fun b => W.heap.size ≤ b) v' L2 ∧ Below W.heap.size W w') := Lib.hid fun W hW => by
    have := refCells_any _ d b c W S (HV.out.below (rdLin_stable _) hW) HSM.out HFI.out
    rw [HLL.out.2.1] at this
    exact this
  have HNbc : Hid (∀ W, Below W1.heap.size W1 W → Calls Tryz.prog 43 #[.slice va d.length vc, .agg #[.int .i64 b.line, .int .i64 b.col], .agg #[.int .i64 c.line, .int .i64 c.col]] W fun e w' => e = .returned (.int .i64 n2) ∧ Below W.heap.size W w') := Lib.hid fun W hW => by
    have := docCount_any _ d b c W S (HV.out.below (rdLin_stable _) hW) (HE.out.below hW) HSM.out
    rw [HLL.out.2.1, HNN.out.2.1] at this
    exact this
  have HDac : Hid (∀ W, Below W1.heap.size W1 W → Calls Tryz.prog 49 #[.slice va d.length vc, .agg #[.int .i64 a.line, .int .i64 a.col], .agg #[.int .i64 c.line, .int .i64 c.col]] W (DocSaid (X, 0) W)) := Lib.hid fun W hW => by
    have := docDelete_any _ d a c W S (HV.out.below (rdLin_stable _) hW) (HE.out.below hW) HSM.out HFI.out
    rw [HN.out.1] at this
    exact this
  have HDbc : Hid (∀ W, Below W1.heap.size W1 W → Calls Tryz.prog 49 #[.slice va d.length vc, .agg #[.int .i64 b.line, .int .i64 b.col], .agg #[.int .i64 c.line, .int .i64 c.col]] W (DocSaid (Y, 0) W)) := Lib.hid fun W hW => by
    have := docDelete_any _ d b c W S (HV.out.below (rdLin_stable _) hW) (HE.out.below hW) HSM.out HFI.out
    rw [HN.out.2.1] at this
    exact this
  clear p0 f0 p1 f1 p2 f2
  obtain ⟨p0, f0⟩ := blk (HB.out _ hx8).1
  obtain ⟨p1, f1⟩ := blk (HB.out _ hx8).2.1
  obtain ⟨p2, f2⟩ := blk (HB.out _ hx8).2.2
  clear HCmp HIs HIa HIb HIc HC1 HC2 HM HL
  go_wp2_with fail
  refine (RCac.out _ hx8).mono ?_
  rintro e y1 ⟨v9, rfl, hv9, hst1⟩
  have hy1 := below_from hx8 hst1
  have HV9 := Lib.hid hv9
  obtain ⟨a9, c9, e9⟩ := hv9.slice
  rw [HNN.out.2.2] at e9
  subst e9
  clear hv9
  clear p0 f0 p1 f1 p2 f2
  obtain ⟨p0, f0⟩ := blk (HB.out _ hy1).1
  obtain ⟨p1, f1⟩ := blk (HB.out _ hy1).2.1
  obtain ⟨p2, f2⟩ := blk (HB.out _ hy1).2.2
  go_wp2_with fail
  have HS4 : Hid (∀ Z, Below W1.heap.size W1 Z → (fun w' => w'.cell? ⟨w.heap.size, 0, none⟩ = some (.int .i64 a.line) ∧ w'.cell? ⟨w.heap.size, 1, none⟩ = some (.int .i64 a.col) ∧ w'.cell? ⟨w.heap.size + 1, 0, none⟩ = some (.int .i64 b.line) ∧ w'.cell? ⟨w.heap.size + 1, 1, none⟩ = some (.int .i64 b.col) ∧ w'.cell? ⟨w.heap.size + 2, 0, none⟩ = some (.int .i64 c.line) ∧ w'.cell? ⟨w.heap.size + 2, 1, none⟩ = some (.int .i64 c.col)) Z) := Lib.hid fun Z hZ => ⟨(blk (HB.out Z hZ).1).1 0, (blk (HB.out Z hZ).1).1 1, (blk (HB.out Z hZ).2.1).1 0, (blk (HB.out Z hZ).2.1).1 1, (blk (HB.out Z hZ).2.2).1 0, (blk (HB.out Z hZ).2.2).1 1⟩
  refine wp_region_noPanic ?_
  refine wp_region_held_drew (S := (fun w' => w'.cell? ⟨w.heap.size, 0, none⟩ = some (.int .i64 a.line) ∧ w'.cell? ⟨w.heap.size, 1, none⟩ = some (.int .i64 a.col) ∧ w'.cell? ⟨w.heap.size + 1, 0, none⟩ = some (.int .i64 b.line) ∧ w'.cell? ⟨w.heap.size + 1, 1, none⟩ = some (.int .i64 b.col) ∧ w'.cell? ⟨w.heap.size + 2, 0, none⟩ = some (.int .i64 c.line) ∧ w'.cell? ⟨w.heap.size + 2, 1, none⟩ = some (.int .i64 c.col))) (by kernel_rfl) (HS4.out _ hy1.drew) (fun hHeld => ?_)
  obtain ⟨X0, hX0⟩ : ∃ X, y1.drew = X := ⟨_, rfl⟩
  have hc0 := hX0 ▸ hy1.drew
  have hd0 : Below y1.heap.size y1 X0 := hX0 ▸ (Below.refl _ _).drew
  rw [hX0] at hHeld ⊢
  clear hX0
  clear p0 f0 p1 f1 p2 f2
  refine wpAnyH_take (i := 1) (v := ?_) (by simp only [List.getElem?_toArray, List.getElem?_cons_succ, List.getElem?_cons_zero]; rfl) (by kernel_rfl) (by kernel_rfl) (by kernel_rfl) (fun _ _ _ h => h) (Or.inl ⟨by rfl, ?_⟩) (by assumption) ?_
  rotate_left 1
  · intro w hSw; (try dsimp only at hSw); go_simp; (first | done | with_reducible rfl)
  try simp only [Act.put, List.setIfInBounds_toArray, List.set_cons_zero, List.set_cons_succ]
  refine wpAnyH_take (i := 2) (v := ?_) (by simp only [List.getElem?_toArray, List.getElem?_cons_succ, List.getElem?_cons_zero]; rfl) (by kernel_rfl) (by kernel_rfl) (by kernel_rfl) (fun _ _ _ h => h) (Or.inl ⟨by rfl, ?_⟩) (by assumption) ?_
  rotate_left 1
  · intro w hSw; (try dsimp only at hSw); go_simp; (first | done | with_reducible rfl)
  try simp only [Act.put, List.setIfInBounds_toArray, List.set_cons_zero, List.set_cons_succ]
  refine wpAnyH_take (i := 3) (v := ?_) (by simp only [List.getElem?_toArray, List.getElem?_cons_succ, List.getElem?_cons_zero]; rfl) (by kernel_rfl) (by kernel_rfl) (by kernel_rfl) (fun _ _ _ h => h) (Or.inl ⟨by rfl, ?_⟩) (by assumption) ?_
  rotate_left 1
  · intro w hSw; (try dsimp only at hSw); go_simp; (first | done | with_reducible rfl)
  try simp only [Act.put, List.setIfInBounds_toArray, List.set_cons_zero, List.set_cons_succ]
  refine wpAnyH_take (i := 6) (v := ?_) (by simp only [List.getElem?_toArray, List.getElem?_cons_succ, List.getElem?_cons_zero]; rfl) (by kernel_rfl) (by kernel_rfl) (by kernel_rfl) (fun _ _ _ h => h) (Or.inl ⟨by rfl, ?_⟩) (by assumption) ?_
  rotate_left 1
  · intro w hSw; (try dsimp only at hSw); go_simp; (first | done | with_reducible rfl)
  try simp only [Act.put, List.setIfInBounds_toArray, List.set_cons_zero, List.set_cons_succ]
  refine wpAnyH_take (i := 7) (v := ?_) (by simp only [List.getElem?_toArray, List.getElem?_cons_succ, List.getElem?_cons_zero]; rfl) (by kernel_rfl) (by kernel_rfl) (by kernel_rfl) (fun _ _ _ h => h) (Or.inl ⟨by rfl, ?_⟩) (by assumption) ?_
  rotate_left 1
  · intro w hSw; (try dsimp only at hSw); go_simp; (first | done | with_reducible rfl)
  try simp only [Act.put, List.setIfInBounds_toArray, List.set_cons_zero, List.set_cons_succ]
  refine wpAnyH_take (i := 8) (v := ?_) (by simp only [List.getElem?_toArray, List.getElem?_cons_succ, List.getElem?_cons_zero]; rfl) (by kernel_rfl) (by kernel_rfl) (by kernel_rfl) (fun _ _ _ h => h) (Or.inl ⟨by rfl, ?_⟩) (by assumption) ?_
  rotate_left 1
  · intro w hSw; (try dsimp only at hSw); go_simp; (first | done | with_reducible rfl)
  try simp only [Act.put, List.setIfInBounds_toArray, List.set_cons_zero, List.set_cons_succ]
  refine wpAnyH_ready (rs := [0, 4]) (by kernel_rfl) (by simp) ?_
  refine AllReadyH.cons (by simp only [List.getElem?_toArray, List.getElem?_cons_zero]; rfl) (fun K hK => ?_) ?_
  go_simp
  obtain ⟨X1, hX1⟩ : ∃ X, X0.alloc (.cells #[] 58) = X := ⟨_, rfl⟩
  rw [hX1]
  have hst1 : Below X0.heap.size X0 X1 := hX1 ▸ (Below.refl _ _).alloc (Nat.le_refl _) _
  have hc1 := below_from hc0 hst1
  have hd1 := below_from hd0 hst1
  clear hX1
  refine hK.out _ _ (HS4.out _ hc1) (fun hHeld => ?_)
  clear hK K
  try simp only [Act.put, List.setIfInBounds_toArray, List.set_cons_zero, List.set_cons_succ]
  refine wpAnyH_ready (rs := [4]) (by kernel_rfl) (by simp) ?_
  refine AllReadyH.cons (by simp only [List.getElem?_toArray, List.getElem?_cons_succ, List.getElem?_cons_zero]; rfl) (fun K hK => ?_) AllReadyH.nil
  go_simp
  refine (RCab.out _ hc1).mono ?_
  rintro e X2 ⟨v63, rfl, hv63, hst2⟩
  have hz2 := hd1.size
  have hv63 := SliceR.stable (rdOf_stable _) hv63 (Keeps.refl _ _) (S' := fun b => y1.heap.size ≤ b) (fun b h _ => Nat.le_trans hz2 h)
  have hc2 := below_from hc1 hst2
  have hd2 := below_from hd1 hst2
  refine hK.out _ _ (HS4.out _ hc2) (fun hHeld => ?_)
  clear hK K
  try simp only [Act.put, List.setIfInBounds_toArray, List.set_cons_zero, List.set_cons_succ]
  have hzz := hd2.size
  have hvA : CelsR true X2 (fun b => y1.heap.size ≤ b) (.slice (some ⟨X0.heap.size, 0, none⟩) 0 0) [] := SliceR.empty _ _ _ _ _ _ _
  refine wpAnyH_ready (rs := [5]) (by kernel_rfl) (by simp) ?_
  refine AllReadyH.cons (by simp only [List.getElem?_toArray, List.getElem?_cons_succ, List.getElem?_cons_zero]; rfl) (fun K hK => ?_) AllReadyH.nil
  refine step_append_R (by rfl) _ _ 46 46 (by rfl) rowCell eltCell y1.heap.size _ v63 (xs := []) (ys := L1) (news := L1.flatMap encCel) (by rfl) (by rfl) hvA hzz (SliceR.src_flat rowCell eltCell hv63) (flatCell _ _ _) (by simp; omega) ?_
  intro v64 X3 hv64 hb3 _ _
  have hc3 := hc2.trans (hb3.mono hy1.size)
  have hd3 := hd2.trans hb3
  clear hv63 hvA
  refine hK.out _ _ (HS4.out _ hc3) (fun hHeld => ?_)
  clear hK K
  try simp only [Act.put, List.setIfInBounds_toArray, List.set_cons_zero, List.set_cons_succ]
  refine wpAnyH_ready (rs := [9]) (by kernel_rfl) (by simp) ?_
  refine AllReadyH.cons (by simp only [List.getElem?_toArray, List.getElem?_cons_succ, List.getElem?_cons_zero]; rfl) (fun K hK => ?_) AllReadyH.nil
  go_simp
  refine (RCbc.out _ hc3).mono ?_
  rintro e X4 ⟨v68, rfl, hv68, hst4⟩
  have hz4 := hd3.size
  have hv68 := SliceR.stable (rdOf_stable _) hv68 (Keeps.refl _ _) (S' := fun b => y1.heap.size ≤ b) (fun b h _ => Nat.le_trans hz4 h)
  have hc4 := below_from hc3 hst4
  have hd4 := below_from hd3 hst4
  have hv64 := SliceR.below (rdOf_stable _) hv64 hst4
  refine hK.out _ _ (HS4.out _ hc4) (fun hHeld => ?_)
  clear hK K
  try simp only [Act.put, List.setIfInBounds_toArray, List.set_cons_zero, List.set_cons_succ]
  refine wpAnyH_ready (rs := [10]) (by kernel_rfl) (by simp) ?_
  refine AllReadyH.cons (by simp only [List.getElem?_toArray, List.getElem?_cons_succ, List.getElem?_cons_zero]; rfl) (fun K hK => ?_) AllReadyH.nil
  have hzz := hd4.size
  refine step_append_R (by rfl) _ _ 46 46 (by rfl) rowCell eltCell y1.heap.size v64 v68 (xs := [] ++ L1) (ys := L2) (news := L2.flatMap encCel) (by rfl) (by rfl) hv64 hzz (SliceR.src_flat rowCell eltCell hv68) (flatCell _ _ _) (by simp; omega) ?_
  intro v69 X5 hv69 hb5 _ _
  rw [List.nil_append] at hv69
  have hc5 := hc4.trans (hb5.mono hy1.size)
  have hd5 := hd4.trans hb5
  clear hv64 hv68
  refine hK.out _ _ (HS4.out _ hc5) (fun hHeld => ?_)
  clear hK K
  try simp only [Act.put, List.setIfInBounds_toArray, List.set_cons_zero, List.set_cons_succ]
  rotate_left 1
  refine AllReadyH.cons (by simp only [List.getElem?_toArray, List.getElem?_cons_succ, List.getElem?_cons_zero]; rfl) (fun K hK => ?_) AllReadyH.nil
  go_simp
  refine (RCab.out _ hc0).mono ?_
  rintro e X1 ⟨v63, rfl, hv63, hst1⟩
  have hz1 := hd0.size
  have hv63 := SliceR.stable (rdOf_stable _) hv63 (Keeps.refl _ _) (S' := fun b => y1.heap.size ≤ b) (fun b h _ => Nat.le_trans hz1 h)
  have hc1 := below_from hc0 hst1
  have hd1 := below_from hd0 hst1
  refine hK.out _ _ (HS4.out _ hc1) (fun hHeld => ?_)
  clear hK K
  try simp only [Act.put, List.setIfInBounds_toArray, List.set_cons_zero, List.set_cons_succ]
  refine wpAnyH_ready (rs := [0]) (by kernel_rfl) (by simp) ?_
  refine AllReadyH.cons (by simp only [List.getElem?_toArray, List.getElem?_cons_zero]; rfl) (fun K hK => ?_) AllReadyH.nil
  go_simp
  obtain ⟨X2, hX2⟩ : ∃ X, X1.alloc (.cells #[] 58) = X := ⟨_, rfl⟩
  rw [hX2]
  have hst2 : Below X1.heap.size X1 X2 := hX2 ▸ (Below.refl _ _).alloc (Nat.le_refl _) _
  have hc2 := below_from hc1 hst2
  have hd2 := below_from hd1 hst2
  clear hX2
  have hv63 := SliceR.below (rdOf_stable _) hv63 hst2
  refine hK.out _ _ (HS4.out _ hc2) (fun hHeld => ?_)
  clear hK K
  try simp only [Act.put, List.setIfInBounds_toArray, List.set_cons_zero, List.set_cons_succ]
  have hzz := hd2.size
  have hvA : CelsR true X2 (fun b => y1.heap.size ≤ b) (.slice (some ⟨X1.heap.size, 0, none⟩) 0 0) [] := SliceR.empty _ _ _ _ _ _ _
  refine wpAnyH_ready (rs := [5]) (by kernel_rfl) (by simp) ?_
  refine AllReadyH.cons (by simp only [List.getElem?_toArray, List.getElem?_cons_succ, List.getElem?_cons_zero]; rfl) (fun K hK => ?_) AllReadyH.nil
  refine step_append_R (by rfl) _ _ 46 46 (by rfl) rowCell eltCell y1.heap.size _ v63 (xs := []) (ys := L1) (news := L1.flatMap encCel) (by rfl) (by rfl) hvA hzz (SliceR.src_flat rowCell eltCell hv63) (flatCell _ _ _) (by simp; omega) ?_
  intro v64 X3 hv64 hb3 _ _
  have hc3 := hc2.trans (hb3.mono hy1.size)
  have hd3 := hd2.trans hb3
  clear hv63 hvA
  refine hK.out _ _ (HS4.out _ hc3) (fun hHeld => ?_)
  clear hK K
  try simp only [Act.put, List.setIfInBounds_toArray, List.set_cons_zero, List.set_cons_succ]
  refine wpAnyH_ready (rs := [9]) (by kernel_rfl) (by simp) ?_
  refine AllReadyH.cons (by simp only [List.getElem?_toArray, List.getElem?_cons_succ, List.getElem?_cons_zero]; rfl) (fun K hK => ?_) AllReadyH.nil
  go_simp
  refine (RCbc.out _ hc3).mono ?_
  rintro e X4 ⟨v68, rfl, hv68, hst4⟩
  have hz4 := hd3.size
  have hv68 := SliceR.stable (rdOf_stable _) hv68 (Keeps.refl _ _) (S' := fun b => y1.heap.size ≤ b) (fun b h _ => Nat.le_trans hz4 h)
  have hc4 := below_from hc3 hst4
  have hd4 := below_from hd3 hst4
  have hv64 := SliceR.below (rdOf_stable _) hv64 hst4
  refine hK.out _ _ (HS4.out _ hc4) (fun hHeld => ?_)
  clear hK K
  try simp only [Act.put, List.setIfInBounds_toArray, List.set_cons_zero, List.set_cons_succ]
  refine wpAnyH_ready (rs := [10]) (by kernel_rfl) (by simp) ?_
  refine AllReadyH.cons (by simp only [List.getElem?_toArray, List.getElem?_cons_succ, List.getElem?_cons_zero]; rfl) (fun K hK => ?_) AllReadyH.nil
  have hzz := hd4.size
  refine step_append_R (by rfl) _ _ 46 46 (by rfl) rowCell eltCell y1.heap.size v64 v68 (xs := [] ++ L1) (ys := L2) (news := L2.flatMap encCel) (by rfl) (by rfl) hv64 hzz (SliceR.src_flat rowCell eltCell hv68) (flatCell _ _ _) (by simp; omega) ?_
  intro v69 X5 hv69 hb5 _ _
  rw [List.nil_append] at hv69
  have hc5 := hc4.trans (hb5.mono hy1.size)
  have hd5 := hd4.trans hb5
  clear hv64 hv68
  refine hK.out _ _ (HS4.out _ hc5) (fun hHeld => ?_)
  clear hK K
  try simp only [Act.put, List.setIfInBounds_toArray, List.set_cons_zero, List.set_cons_succ]
  all_goals
    clear hst1 hst2 hst4 hc1 hc2 hc3 hc4 hd1 hd2 hd3 hd4 hz4 hb3 hb5 RCab RCbc hzz
    refine wpAnyH_take (i := 11) (v := ?_) (by simp only [List.getElem?_toArray, List.getElem?_cons_succ, List.getElem?_cons_zero]; rfl) (by kernel_rfl) (by kernel_rfl) (by kernel_rfl) (fun _ _ _ h => h) (Or.inl ⟨by rfl, ?_⟩) (by assumption) ?_
    rotate_left 1
    · intro w hSw; (try dsimp only at hSw); go_simp; (first | done | with_reducible rfl)
    try simp only [Act.put, List.setIfInBounds_toArray, List.set_cons_zero, List.set_cons_succ]
    refine wpAnyH_done (by kernel_rfl) ?_ _
    refine NoPanic.normal ?_
    have hv9 := SliceR.below (rdOf_stable _) HV9.out hd5
    have HSame := Lib.hid (fun W (hW : Below X5.heap.size X5 W) => refSameC_any _ _ _ _ W _ _ (SliceR.below (rdOf_stable _) (SliceR.read (fun _ _ h => h) hv9) hW) (SliceR.below (rdOf_stable _) (SliceR.read (fun _ _ h => h) hv69) hW))
    obtain ⟨a10, c10, e10⟩ := hv69.slice
    rw [HNN.out.2.2] at e10
    subst e10
    rw [decide_eq_true (rfl : L1 ++ L2 = L1 ++ L2)] at HSame
    clear hv9 hv69 HV9 hHeld hd5 hd0 hc0
    obtain ⟨p0, f0⟩ := blk (HB.out _ hc5).1
    obtain ⟨p1, f1⟩ := blk (HB.out _ hc5).2.1
    obtain ⟨p2, f2⟩ := blk (HB.out _ hc5).2.2
    go_wp2_with fail
    clear p0 f0 p1 f1 p2 f2
    have hq := HQ2.out
    refine wp_region_grew X5.heap.size (by kernel_rfl) (by kernel_rfl) ?_
    refine BigFrame.wpQuiet_want (by kernel_rfl) (fun K hK => ?_)
    refine BigFrame.quiet_move _ rfl (hK _ ?_)
    clear hK
    clear K
    try simp only [Act.put, List.setIfInBounds_toArray, List.set_cons_zero, List.set_cons_succ]
    refine BigFrame.wpQuiet_want (by kernel_rfl) (fun K hK => ?_)
    refine BigFrame.quiet_move _ rfl (hK _ ?_)
    clear hK
    clear K
    try simp only [Act.put, List.setIfInBounds_toArray, List.set_cons_zero, List.set_cons_succ]
    refine BigFrame.wpQuiet_want (by kernel_rfl) (fun K hK => ?_)
    refine quiet_calls (f := ?_) (args := ?_) ?_ (fun W hW => ?_) (fun W hW => ?_) (hK _ ?_)
    rotate_left 3
    · go_simp
      constructor <;> rfl
    · refine (HSame.out _ hW).mono ?_
      rintro e W2 ⟨rfl, hbW⟩
      refine ⟨?_, below_from hW hbW⟩
      rfl
    clear hK
    clear K
    try simp only [Act.put, List.setIfInBounds_toArray, List.set_cons_zero, List.set_cons_succ]
    refine BigFrame.wpQuiet_want (by kernel_rfl) (fun K hK => ?_)
    refine quiet_val ?_ (fun W hW => ?_) (hK _ ?_)
    rotate_left 1
    · skip
      go_simp
      try rfl
    clear hK
    clear K
    try simp only [Act.put, List.setIfInBounds_toArray, List.set_cons_zero, List.set_cons_succ]
    refine BigFrame.wpQuiet_want (by kernel_rfl) (fun K hK => ?_)
    refine BigFrame.quiet_move _ rfl (hK _ ?_)
    clear hK
    clear K
    try simp only [Act.put, List.setIfInBounds_toArray, List.set_cons_zero, List.set_cons_succ]
    refine BigFrame.wpQuiet_want (by kernel_rfl) (fun K hK => ?_)
    refine BigFrame.quiet_move _ rfl (hK _ ?_)
    clear hK
    clear K
    try simp only [Act.put, List.setIfInBounds_toArray, List.set_cons_zero, List.set_cons_succ]
    refine BigFrame.wpQuiet_want (by kernel_rfl) (fun K hK => ?_)
    refine quiet_val ?_ (fun W hW => ?_) (hK _ ?_)
    rotate_left 1
    · skip
      obtain ⟨p0, f0⟩ := blk (HB.out _ (below_from hc5 hW)).1
      obtain ⟨p1, f1⟩ := blk (HB.out _ (below_from hc5 hW)).2.1
      obtain ⟨p2, f2⟩ := blk (HB.out _ (below_from hc5 hW)).2.2
      go_simp
      try rfl
    clear hK
    clear K
    try simp only [Act.put, List.setIfInBounds_toArray, List.set_cons_zero, List.set_cons_succ]
    refine BigFrame.wpQuiet_want (by kernel_rfl) (fun K hK => ?_)
    refine quiet_val ?_ (fun W hW => ?_) (hK _ ?_)
    rotate_left 1
    · skip
      obtain ⟨p0, f0⟩ := blk (HB.out _ (below_from hc5 hW)).1
      obtain ⟨p1, f1⟩ := blk (HB.out _ (below_from hc5 hW)).2.1
      obtain ⟨p2, f2⟩ := blk (HB.out _ (below_from hc5 hW)).2.2
      go_simp
      try rfl
    clear hK
    clear K
    try simp only [Act.put, List.setIfInBounds_toArray, List.set_cons_zero, List.set_cons_succ]
    refine BigFrame.wpQuiet_want (by kernel_rfl) (fun K hK => ?_)
    refine quiet_calls (f := ?_) (args := ?_) ?_ (fun W hW => ?_) (fun W hW => ?_) (hK _ ?_)
    rotate_left 3
    · go_simp
      constructor <;> rfl
    · refine (HNac.out _ (below_from hc5 hW)).mono ?_
      rintro e W2 ⟨rfl, hbW⟩
      refine ⟨?_, below_from hW hbW⟩
      rfl
    clear hK
    clear K
    try simp only [Act.put, List.setIfInBounds_toArray, List.set_cons_zero, List.set_cons_succ]
    refine BigFrame.wpQuiet_want (by kernel_rfl) (fun K hK => ?_)
    refine BigFrame.quiet_move _ rfl (hK _ ?_)
    clear hK
    clear K
    try simp only [Act.put, List.setIfInBounds_toArray, List.set_cons_zero, List.set_cons_succ]
    refine BigFrame.wpQuiet_want (by kernel_rfl) (fun K hK => ?_)
    refine quiet_val ?_ (fun W hW => ?_) (hK _ ?_)
    rotate_left 1
    · skip
      obtain ⟨p0, f0⟩ := blk (HB.out _ (below_from hc5 hW)).1
      obtain ⟨p1, f1⟩ := blk (HB.out _ (below_from hc5 hW)).2.1
      obtain ⟨p2, f2⟩ := blk (HB.out _ (below_from hc5 hW)).2.2
      go_simp
      try rfl
    clear hK
    clear K
    try simp only [Act.put, List.setIfInBounds_toArray, List.set_cons_zero, List.set_cons_succ]
    refine BigFrame.wpQuiet_want (by kernel_rfl) (fun K hK => ?_)
    refine quiet_val ?_ (fun W hW => ?_) (hK _ ?_)
    rotate_left 1
    · skip
      obtain ⟨p0, f0⟩ := blk (HB.out _ (below_from hc5 hW)).1
      obtain ⟨p1, f1⟩ := blk (HB.out _ (below_from hc5 hW)).2.1
      obtain ⟨p2, f2⟩ := blk (HB.out _ (below_from hc5 hW)).2.2
      go_simp
      try rfl
    clear hK
    clear K
    try simp only [Act.put, List.setIfInBounds_toArray, List.set_cons_zero, List.set_cons_succ]
    refine BigFrame.wpQuiet_want (by kernel_rfl) (fun K hK => ?_)
    refine quiet_calls (f := ?_) (args := ?_) ?_ (fun W hW => ?_) (fun W hW => ?_) (hK _ ?_)
    rotate_left 3
    · go_simp
      constructor <;> rfl
    · refine (HNab.out _ (below_from hc5 hW)).mono ?_
      rintro e W2 ⟨rfl, hbW⟩
      refine ⟨?_, below_from hW hbW⟩
      rfl
    clear hK
    clear K
    try simp only [Act.put, List.setIfInBounds_toArray, List.set_cons_zero, List.set_cons_succ]
    refine BigFrame.wpQuiet_want (by kernel_rfl) (fun K hK => ?_)
    refine BigFrame.quiet_move _ rfl (hK _ ?_)
    clear hK
    clear K
    try simp only [Act.put, List.setIfInBounds_toArray, List.set_cons_zero, List.set_cons_succ]
    refine BigFrame.wpQuiet_want (by kernel_rfl) (fun K hK => ?_)
    refine quiet_val ?_ (fun W hW => ?_) (hK _ ?_)
    rotate_left 1
    · skip
      obtain ⟨p0, f0⟩ := blk (HB.out _ (below_from hc5 hW)).1
      obtain ⟨p1, f1⟩ := blk (HB.out _ (below_from hc5 hW)).2.1
      obtain ⟨p2, f2⟩ := blk (HB.out _ (below_from hc5 hW)).2.2
      go_simp
      try rfl
    clear hK
    clear K
    try simp only [Act.put, List.setIfInBounds_toArray, List.set_cons_zero, List.set_cons_succ]
    refine BigFrame.wpQuiet_want (by kernel_rfl) (fun K hK => ?_)
    refine quiet_val ?_ (fun W hW => ?_) (hK _ ?_)
    rotate_left 1
    · skip
      obtain ⟨p0, f0⟩ := blk (HB.out _ (below_from hc5 hW)).1
      obtain ⟨p1, f1⟩ := blk (HB.out _ (below_from hc5 hW)).2.1
      obtain ⟨p2, f2⟩ := blk (HB.out _ (below_from hc5 hW)).2.2
      go_simp
      try rfl
    clear hK
    clear K
    try simp only [Act.put, List.setIfInBounds_toArray, List.set_cons_zero, List.set_cons_succ]
    refine BigFrame.wpQuiet_want (by kernel_rfl) (fun K hK => ?_)
    refine quiet_calls (f := ?_) (args := ?_) ?_ (fun W hW => ?_) (fun W hW => ?_) (hK _ ?_)
    rotate_left 3
    · go_simp
      constructor <;> rfl
    · refine (HNbc.out _ (below_from hc5 hW)).mono ?_
      rintro e W2 ⟨rfl, hbW⟩
      refine ⟨?_, below_from hW hbW⟩
      rfl
    clear hK
    clear K
    try simp only [Act.put, List.setIfInBounds_toArray, List.set_cons_zero, List.set_cons_succ]
    refine BigFrame.wpQuiet_want (by kernel_rfl) (fun K hK => ?_)
    refine quiet_val ?_ (fun W hW => ?_) (hK _ ?_)
    rotate_left 1
    · skip
      go_simp
      try rfl
    clear hK
    clear K
    try simp only [Act.put, List.setIfInBounds_toArray, List.set_cons_zero, List.set_cons_succ]
    refine BigFrame.wpQuiet_want (by kernel_rfl) (fun K hK => ?_)
    refine quiet_val ?_ (fun W hW => ?_) (hK _ ?_)
    rotate_left 1
    · skip
      go_simp
      try rfl
    clear hK
    clear K
    try simp only [Act.put, List.setIfInBounds_toArray, List.set_cons_zero, List.set_cons_succ]
    refine BigFrame.wpQuiet_want (by kernel_rfl) (fun K hK => ?_)
    refine quiet_val ?_ (fun W hW => ?_) (hK _ ?_)
    rotate_left 1
    · skip
      go_simp
      try rfl
    clear hK
    clear K
    try simp only [Act.put, List.setIfInBounds_toArray, List.set_cons_zero, List.set_cons_succ]
    refine BigFrame.wpQuiet_want (by kernel_rfl) (fun K hK => ?_)
    refine BigFrame.quiet_move _ rfl (hK _ ?_)
    clear hK
    clear K
    try simp only [Act.put, List.setIfInBounds_toArray, List.set_cons_zero, List.set_cons_succ]
    refine BigFrame.wpQuiet_want (by kernel_rfl) (fun K hK => ?_)
    refine BigFrame.quiet_move _ rfl (hK _ ?_)
    clear hK
    clear K
    try simp only [Act.put, List.setIfInBounds_toArray, List.set_cons_zero, List.set_cons_succ]
    refine BigFrame.wpQuiet_want (by kernel_rfl) (fun K hK => ?_)
    refine quiet_val ?_ (fun W hW => ?_) (hK _ ?_)
    rotate_left 1
    · skip
      obtain ⟨p0, f0⟩ := blk (HB.out _ (below_from hc5 hW)).1
      obtain ⟨p1, f1⟩ := blk (HB.out _ (below_from hc5 hW)).2.1
      obtain ⟨p2, f2⟩ := blk (HB.out _ (below_from hc5 hW)).2.2
      go_simp
      try rfl
    clear hK
    clear K
    try simp only [Act.put, List.setIfInBounds_toArray, List.set_cons_zero, List.set_cons_succ]
    refine BigFrame.wpQuiet_want (by kernel_rfl) (fun K hK => ?_)
    refine quiet_val ?_ (fun W hW => ?_) (hK _ ?_)
    rotate_left 1
    · skip
      obtain ⟨p0, f0⟩ := blk (HB.out _ (below_from hc5 hW)).1
      obtain ⟨p1, f1⟩ := blk (HB.out _ (below_from hc5 hW)).2.1
      obtain ⟨p2, f2⟩ := blk (HB.out _ (below_from hc5 hW)).2.2
      go_simp
      try rfl
    clear hK
    clear K
    try simp only [Act.put, List.setIfInBounds_toArray, List.set_cons_zero, List.set_cons_succ]
    refine BigFrame.wpQuiet_want (by kernel_rfl) (fun K hK => ?_)
    refine quiet_calls (f := ?_) (args := ?_) ?_ (fun W hW => ?_) (fun W hW => ?_) (hK _ ?_)
    rotate_left 3
    · go_simp
      constructor <;> rfl
    · refine (HNac.out _ (below_from hc5 hW)).mono ?_
      rintro e W2 ⟨rfl, hbW⟩
      refine ⟨?_, below_from hW hbW⟩
      rfl
    clear hK
    clear K
    try simp only [Act.put, List.setIfInBounds_toArray, List.set_cons_zero, List.set_cons_succ]
    refine BigFrame.wpQuiet_want (by kernel_rfl) (fun K hK => ?_)
    refine BigFrame.quiet_move _ rfl (hK _ ?_)
    clear hK
    clear K
    try simp only [Act.put, List.setIfInBounds_toArray, List.set_cons_zero, List.set_cons_succ]
    refine BigFrame.wpQuiet_want (by kernel_rfl) (fun K hK => ?_)
    refine quiet_val ?_ (fun W hW => ?_) (hK _ ?_)
    rotate_left 1
    · skip
      go_simp
      try rfl
    clear hK
    clear K
    try simp only [Act.put, List.setIfInBounds_toArray, List.set_cons_zero, List.set_cons_succ]
    refine BigFrame.wpQuiet_want (by kernel_rfl) (fun K hK => ?_)
    refine quiet_val ?_ (fun W hW => ?_) (hK _ ?_)
    rotate_left 1
    · skip
      go_simp
      try rfl
    clear hK
    clear K
    try simp only [Act.put, List.setIfInBounds_toArray, List.set_cons_zero, List.set_cons_succ]
    refine BigFrame.wpQuiet_want (by kernel_rfl) (fun K hK => ?_)
    refine quiet_val ?_ (fun W hW => ?_) (hK _ ?_)
    rotate_left 1
    · skip
      go_simp
      try rfl
    clear hK
    clear K
    try simp only [Act.put, List.setIfInBounds_toArray, List.set_cons_zero, List.set_cons_succ]
    refine wpQuiet_nil (fun X6 hst6 => ?_)
    have hc6 := below_from hc5 hst6
    obtain ⟨p0, f0⟩ := blk (HB.out _ hc6).1
    obtain ⟨p1, f1⟩ := blk (HB.out _ hc6).2.1
    obtain ⟨p2, f2⟩ := blk (HB.out _ hc6).2.2
    go_wp2_with fail
    refine (HDac.out _ hc6).mono ?_
    intro e X7 hsaid
    obtain ⟨va7, rfl, hva7, hstX7⟩ := hsaid
    have hcX7 := below_from hc6 hstX7
    have HVva7 := Lib.hid hva7
    obtain ⟨a7, c7, rfl⟩ := hva7.slice
    clear hva7
    clear p0 f0 p1 f1 p2 f2
    obtain ⟨p0, f0⟩ := blk (HB.out _ hcX7).1
    obtain ⟨p1, f1⟩ := blk (HB.out _ hcX7).2.1
    obtain ⟨p2, f2⟩ := blk (HB.out _ hcX7).2.2
    go_wp2_with fail
    refine (HDbc.out _ hcX7).mono ?_
    intro e X8 hsaid
    obtain ⟨va8, rfl, hva8, hstX8⟩ := hsaid
    have hcX8 := below_from hcX7 hstX8
    have HVva8 := Lib.hid hva8
    obtain ⟨a8, c8, rfl⟩ := hva8.slice
    clear hva8
    clear p0 f0 p1 f1 p2 f2
    obtain ⟨p0, f0⟩ := blk (HB.out _ hcX8).1
    obtain ⟨p1, f1⟩ := blk (HB.out _ hcX8).2.1
    obtain ⟨p2, f2⟩ := blk (HB.out _ hcX8).2.2
    have HDy : Hid (∀ W, Below X8.heap.size X8 W → Calls Tryz.prog 49 #[.slice a8 Y.length c8, .agg #[.int .i64 a.line, .int .i64 a.col], .agg #[.int .i64 b.line, .int .i64 b.col]] W (DocSaid (X, 0) W)) := Lib.hid fun W hW => by
      have := docDelete_any _ Y a b W _ ((DocR.read HVva8.out).below (rdLin_stable _) hW) (HE.out.below (below_from hcX8 hW)) HSY.out.1 HSY.out.2
      rw [HN.out.2.2] at this
      exact this
    have h8z : Below X8.heap.size X8 X8 := Below.refl _ _
    go_wp2_with fail
    refine (HDy.out _ h8z).mono ?_
    intro e X9 hsaid
    obtain ⟨va9, rfl, hva9, hstX9⟩ := hsaid
    have hcX9 := below_from h8z hstX9
    have HVva9 := Lib.hid hva9
    obtain ⟨a11, c11, rfl⟩ := hva9.slice
    clear hva9
    have hcX9 := below_from hcX8 hcX9
    have HSm := Lib.hid (docSame_any _ _ X X X9 _ _ ((DocR.read HVva7.out).below (rdLin_stable _) (below_from hstX8 hstX9)) (DocR.read HVva9.out))
    rw [decide_eq_true (rfl : X = X)] at HSm
    clear p0 f0 p1 f1 p2 f2
    obtain ⟨p0, f0⟩ := blk (HB.out _ hcX9).1
    obtain ⟨p1, f1⟩ := blk (HB.out _ hcX9).2.1
    obtain ⟨p2, f2⟩ := blk (HB.out _ hcX9).2.2
    go_wp2_with fail
    refine HSm.out.mono ?_
    rintro e X10 ⟨rfl, hst10⟩
    have hc10 := below_from hcX9 hst10
    go_wp2_with fail
    refine (HA.out _ hc10).mono ?_
    rintro e X11 ⟨rfl, hst11⟩
    go_wp2_with fail
    go_ret
    exact ⟨rfl, H1.out.trans ((below_from hc10 hst11).mono hs1)⟩
end Go.Proofs.YtfoiaoopbkcpoaaGreatDoor
