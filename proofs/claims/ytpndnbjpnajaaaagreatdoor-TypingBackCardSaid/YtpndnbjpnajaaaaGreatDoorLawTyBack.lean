/- The walk of the law TypingBack. -/
import Derived.Test.YtpndnbjpnajaaaaGreatDoorOpenInts
set_option linter.unusedVariables false
set_option linter.unusedSimpArgs false
namespace Go.Proofs.Qw
open Go.RowKit Go.Proofs.YtpndnbjpnajaaaaGreatDoor
def insX (d : Doc) (i q : Nat) (l : Lin) (cs : List Cel) (k : Nat) : St := insK d i q l (cs.take (cs.length - k))
theorem insX_step {d : Doc} {i q k : Nat} {l : Lin} {cs : List Cel} (hl : d[i]? = some l) (hq : q ≤ l.cells.length) (hk : k < cs.length) (hM : mayS (insX d i q l cs k) = true) :
    keyS (insX d i q l cs k) (backK (insX d i q l cs k)) = (insX d i q l cs (k + 1), 0) := by
  unfold insX at hM ⊢
  rw [show cs.length - k = (cs.length - (k + 1)) + 1 by omega] at hM ⊢
  exact ins_back hl hq (by omega) hM
end Go.Proofs.Qw
namespace Go.Proofs.YtpndnbjpnajaaaaGreatDoor
open Go.RowKit
open Go.Proofs.Qw
attribute [local go_sem] Oper.semAt_some
set_option maxRecDepth 100000 in
set_option maxHeartbeats 8000000 in
theorem lawTyBack_any (v : Value) (s : St) (txt : ByteArray) (w : World) (S : Nat → Prop) (h : LinsR w S v s.lines) (sn : Sane s.lines) (he : EnvT w) :
    Calls Tryz.prog 13 #[stV v s, .string txt] w fun e w' => e = .returned (.bool true) ∧ Below w.heap.size w w' := by
  obtain ⟨W1, hW1, hB, hz, k0⟩ := one_st w v s
  have HB : Hid (∀ W, Below W1.heap.size W1 W → W.heap[w.heap.size]? = some (.cells #[v, .int .i64 s.anc.line, .int .i64 s.anc.col, .int .i64 s.foc.line, .int .i64 s.foc.col, .int .i64 s.on, .int .i64 s.off] 26)) := Lib.hid fun W hW => heap_below hW k0
  have hs1 := hB.size
  have H1 := Lib.hid hB
  have hw0 : Below W1.heap.size W1 W1 := Below.refl _ _
  have HV : Hid (∀ W, Below W1.heap.size W1 W → LinsR W S v s.lines) := Lib.hid fun W hW => h.below (rdLin_stable _) (hB.trans (hW.mono hs1))
  have HE : Hid (∀ W, Below W1.heap.size W1 W → EnvT W) := Lib.hid fun W hW => (he.below hB).below hW
  have HLo := Lib.hid (long23_any v s W1 S (HV.out _ hw0) sn)
  have HEw : Hid (∀ W, Below w.heap.size w W → EnvT W) := Lib.hid fun W hW => he.below hW
  have HA : Hid (∀ W, Below w.heap.size w W → Calls Tryz.prog 44 #[] W fun e w' => e = .returned (.bool true) ∧ Below W.heap.size W w') := Lib.hid fun W hW => awake23_any W (he.below hW)
  have HM : Hid (Small s.lines → ∀ W, Below W1.heap.size W1 W → Calls Tryz.prog 27 #[stV v s] W fun e w' => e = .returned (.bool (mayS s)) ∧ Below W.heap.size W w') := Lib.hid fun hs W hW => stMay_any v s W S (HV.out W hW) (HE.out W hW) hs
  obtain ⟨p0, f0⟩ := blk k0
  obtain ⟨va, vc, hve⟩ := h.slice
  subst hve
  clear h sn he k0 hB
  by_cases hlen : 500 < txt.size
  · have hl1 : (500 : Int) < (txt.size : Int) := by omega
    clear hlen
    go_enter Tryz.func13, Tryz.ntmps13
    go_wp2_with fail
    refine HLo.out.mono ?_
    rintro e w1 ⟨r, rfl, _, hb1⟩
    cases r
    all_goals
      go_wp2_with fail
      refine (HA.out _ (H1.out.trans (hb1.mono hs1))).mono ?_
      rintro e wz ⟨rfl, hstz⟩
      go_wp2_with fail
      go_ret
      exact ⟨rfl, below_from (H1.out.trans (hb1.mono hs1)) hstz⟩
  have hl1 : ¬ (500 : Int) < (txt.size : Int) := by omega
  have HTX : Hid (txt.size ≤ 500) := Lib.hid (by omega)
  clear hlen
  go_enter Tryz.func13, Tryz.ntmps13
  go_wp2_with fail
  refine HLo.out.mono ?_
  rintro e w1 ⟨r, rfl, hr1, hb1⟩
  have HRS := Lib.hid hr1
  clear hr1
  cases r
  rotate_left 1
  · go_wp2_with fail
    refine (HA.out _ (H1.out.trans (hb1.mono hs1))).mono ?_
    rintro e wz ⟨rfl, hstz⟩
    go_wp2_with fail
    go_ret
    exact ⟨rfl, below_from (H1.out.trans (hb1.mono hs1)) hstz⟩
  have HSF : Hid (Small s.lines ∧ Fits s.lines) := Lib.hid ⟨(HRS.out rfl).small, (HRS.out rfl).fits⟩
  clear p0 f0
  obtain ⟨p0, f0⟩ := blk (HB.out _ hb1)
  go_wp2_with fail
  refine (HM.out HSF.out.1 _ hb1).mono ?_
  rintro e w2 ⟨rfl, hst2⟩
  have hb2 := below_from hb1 hst2
  cases hm : mayS s
  · go_wp2_with fail
    refine (HA.out _ (H1.out.trans (hb2.mono hs1))).mono ?_
    rintro e wz ⟨rfl, hstz⟩
    go_wp2_with fail
    go_ret
    exact ⟨rfl, below_from (H1.out.trans (hb2.mono hs1)) hstz⟩
  have hmy := mayS_at hm
  have hsel : selectS s s.foc s.foc = (closedS s.lines s.foc, 0) := by
    unfold selectS
    rw [hm, hmy.2.2.1]
    rfl
  have HSe : Hid (∀ W, Below W1.heap.size W1 W → Calls Tryz.prog 68 #[stV (.slice va s.lines.length vc) s, .agg #[.int .i64 s.foc.line, .int .i64 s.foc.col], .agg #[.int .i64 s.foc.line, .int .i64 s.foc.col]] W (StSaid (⟨s.lines, s.foc, s.foc, 0, 0⟩, 0) W)) := Lib.hid fun W hW => by
    have := typSelect_any (.slice va s.lines.length vc) s s.foc s.foc W S (HV.out W hW) (HE.out W hW) HSF.out.1 HSF.out.2
    rw [hsel] at this
    exact this
  have hM := hmy.1
  obtain ⟨i, q, l, hfoc, hl, hq, hml, _⟩ := may_at hM hmy.2.2.1
  have HM2 := Lib.hid (closed_may hM hmy.2.2.1)
  have HFO := Lib.hid hfoc
  obtain ⟨d, hd⟩ : ∃ d, s.lines = d := ⟨_, rfl⟩
  rw [hfoc, hd] at HM2
  have HSM := Lib.hid (may_small hM)
  rw [hd] at hl HSM
  have HL := Lib.hid (And.intro hl (And.intro hq hml))
  have HDD := Lib.hid hd
  clear hm hmy hsel hM p0 f0 hst2 hl hq hml hfoc hd
  obtain ⟨p0, f0⟩ := blk (HB.out _ hb2)
  go_upto_region 4 with ((go_at_call 68; (with_reducible refine (HSe.out _ hb2).mono ?_); intro e w3 hsaid; obtain ⟨v3, rfl, hv3, hst3⟩ := hsaid; obtain ⟨x3, y3, hve3⟩ := hv3.slice; subst hve3; have hb3 := below_from hb2 hst3; have HD3 := Lib.hid hv3; clear hv3; obtain ⟨o3, u3⟩ := blk (HB.out _ hb3)))
  obtain ⟨m3, hm3, n3, c3, k3, z3⟩ := set_st w3 w.heap.size (HB.out _ hb3) (.slice x3 s.lines.length y3) (.int .i64 s.foc.line) (.int .i64 s.foc.col) (.int .i64 s.foc.line) (.int .i64 s.foc.col) (.int .i64 0) (.int .i64 0)
  rw [hm3]
  have hw3 : Below w.heap.size w m3 := (H1.out.trans (hb3.mono hs1)).trans (c3 _ (Nat.le_refl _))
  have hd3 : LinsR m3 (fun b => ¬ b = w.heap.size) (.slice x3 d.length y3) d := by
    have hz2 := hb2.size
    have := lins_set (lins_but HD3.out (B := w.heap.size) (by omega)) k3 z3
    rw [HDD.out] at this
    exact this
  have n3' : m3.heap[w.heap.size]? = some (.cells #[.slice x3 d.length y3, .int .i64 (closedS d ⟨i, q⟩).anc.line, .int .i64 (closedS d ⟨i, q⟩).anc.col, .int .i64 (closedS d ⟨i, q⟩).foc.line, .int .i64 (closedS d ⟨i, q⟩).foc.col, .int .i64 (closedS d ⟨i, q⟩).on, .int .i64 (closedS d ⟨i, q⟩).off] 26) := by
    rw [HDD.out, HFO.out] at n3
    exact n3
  rw [show s.lines.length = d.length by rw [HDD.out]]
  have hDB : Hid (∀ W, Below m3.heap.size m3 W → W.heap[w.heap.size]? = some (.cells #[.slice x3 d.length y3, .int .i64 i, .int .i64 q, .int .i64 i, .int .i64 q, .int .i64 0, .int .i64 0] 26) ∧ LinsR W (fun b => ¬ b = w.heap.size) (.slice x3 d.length y3) d ∧ Below w.heap.size w W) := Lib.hid fun W hW => ⟨heap_below hW n3', hd3.below (rdLin_stable _) hW, below_from hw3 hW⟩
  have hw0m : w.heap.size < m3.heap.size := (Array.getElem?_eq_some_iff.1 n3').1
  have HC4a := Lib.hid (typText_any (.slice x3 d.length y3) (closedS d ⟨i, q⟩) txt m3 _ hd3 (HEw.out _ hw3) HSM.out.1 HSM.out.2 (by have := HTX.out; omega))
  obtain ⟨u, eu, hu⟩ : ∃ u eu, keyS (closedS d ⟨i, q⟩) (textK (closedS d ⟨i, q⟩) txt) = (u, eu) := ⟨_, _, rfl⟩
  rw [hu] at HC4a
  have HU := Lib.hid hu
  have HC4 : Hid (Calls Tryz.prog 54 #[.agg #[.slice x3 d.length y3, .int .i64 i, .int .i64 q, .int .i64 i, .int .i64 q, .int .i64 0, .int .i64 0], .string txt] m3 (StSaid (u, eu) m3)) := Lib.hid HC4a.out
  clear hm3 n3 n3' c3 k3 z3 hd3 hw3 o3 u3 p0 f0 HD3 HSe HB HV HE HM HRS HSF hst3 hu HC4a HLo
  obtain ⟨p0, f0⟩ := blk (hDB.out _ (Below.refl _ _)).1
  by_cases h0 : eu = 0
  rotate_left 1
  · have hne : (eu != 0) = true := by simpa using h0
    clear h0
    go_upto_if 43 with ((go_at_call 54; (with_reducible refine HC4.out.mono ?_); intro e w4 hsaid; obtain ⟨v4, rfl, hv4, hst4⟩ := hsaid; obtain ⟨x4, y4, hve4⟩ := hv4.slice; subst hve4; have HD4 := Lib.hid hv4; clear hv4))
    obtain ⟨m4, hm4⟩ : ∃ m4, w4.alloc (.cells #[.slice x4 u.lines.length y4, .int .i64 u.anc.line, .int .i64 u.anc.col, .int .i64 u.foc.line, .int .i64 u.foc.col, .int .i64 u.on, .int .i64 u.off] 26) = m4 := ⟨_, rfl⟩
    rw [hm4]
    have hbm4 : Below w4.heap.size w4 m4 := hm4 ▸ below1 (Below.refl _ _) _
    have hx4 := (hDB.out _ (below_from hst4 hbm4)).2.2
    clear hm4
    go_wp2_with fail
    refine (HA.out _ hx4).mono ?_
    rintro e wz ⟨rfl, hstz⟩
    go_wp2_with fail
    go_ret
    exact ⟨rfl, below_from hx4 hstz⟩
  subst h0
  obtain ⟨i', q', l', hf', hl', hq', hcne, huX, humay⟩ := text_ins HM2.out rfl HU.out
  have hf2 : (⟨i, q⟩ : Ps) = ⟨(i' : Int), (q' : Int)⟩ := hf'
  obtain rfl : i = i' := by injection hf2 with a b; omega
  obtain rfl : q = q' := by injection hf2 with a b; omega
  have hl2 : d[i]? = some l' := hl'
  rw [HL.out.1] at hl2
  cases hl2
  obtain ⟨bb, hbb⟩ : ∃ bb, typB (closedS d ⟨i, q⟩) = bb := ⟨_, rfl⟩
  obtain ⟨hh, hhh⟩ : ∃ hh, (aroundF l.cells q).2 = hh := ⟨_, rfl⟩
  rw [hbb, hhh] at huX
  replace huX : u = insK d i q l (cellsOf (cleanB txt) bb hh) := huX
  obtain ⟨cl, hclE⟩ : ∃ cl, cleanB txt = cl := ⟨_, rfl⟩
  rw [hclE] at huX
  have HCln := Lib.hid (fun (W : World) => (show Calls Tryz.prog 61 #[.string txt] W (fun e w' => ∃ v, e = .returned v ∧ RunesR true w' (fun b => W.heap.size ≤ b) v cl ∧ Below W.heap.size W w') from hclE ▸ clean_any txt W (by have := HTX.out; omega)))
  have hcslen : (cellsOf cl bb hh).length = cl.length := by unfold cellsOf; rw [List.length_map]
  have hclen : cl.length ≤ 500 := by rw [← hclE]; exact Nat.le_trans (Nat.le_trans (List.length_filterMap_le _ _) (runesB_length txt)) HTX.out
  have hget : ∀ k, k < cl.length → ∃ r, (cellsOf cl bb hh)[k]? = some ⟨r, bb, hh⟩ := fun k hk => by
    unfold cellsOf
    rw [List.getElem?_map, List.getElem?_eq_getElem hk]
    exact ⟨_, rfl⟩
  obtain ⟨cs, hcs⟩ : ∃ cs, cellsOf cl bb hh = cs := ⟨_, rfl⟩
  rw [hcs] at huX hcslen hget
  have humS : mayS u = true := keyok_of (text_ok HM2.out (closed_rng' d ⟨i, q⟩) txt) HU.out
  have hpart : partD u.lines ⟨i, q⟩ ⟨i, ((q + cs.length : Nat) : Int)⟩ = ([{ l with cells := cs }], 0) := by
    rw [huX]
    exact ins_part HL.out.1 HL.out.2.1 (by rw [← huX]; exact humay)
  have hanc : u.foc = ⟨i, ((q + cs.length : Nat) : Int)⟩ := by rw [huX]; rfl
  have HUX := Lib.hid (And.intro huX (And.intro humS (And.intro hpart hanc)))
  have HGET := Lib.hid hget
  have HCL := Lib.hid hcslen
  clear hf' hf2 hl' hq' hcne huX humay hbb hhh hclE hcs humS hpart hanc hget hcslen
  go_upto_if 43 with ((go_at_call 54; (with_reducible refine HC4.out.mono ?_); intro e w4 hsaid; obtain ⟨v4, rfl, hv4, hst4⟩ := hsaid; obtain ⟨x4, y4, hve4⟩ := hv4.slice; subst hve4; have HD4 := Lib.hid hv4; clear hv4))
  obtain ⟨m4, hm4⟩ : ∃ m4, w4.alloc (.cells #[.slice x4 u.lines.length y4, .int .i64 u.anc.line, .int .i64 u.anc.col, .int .i64 u.foc.line, .int .i64 u.foc.col, .int .i64 u.on, .int .i64 u.off] 26) = m4 := ⟨_, rfl⟩
  rw [hm4]
  have hbm4 : Below w4.heap.size w4 m4 := hm4 ▸ below1 (Below.refl _ _) _
  have n4 : m4.heap[w4.heap.size]? = some (.cells #[.slice x4 u.lines.length y4, .int .i64 u.anc.line, .int .i64 u.anc.col, .int .i64 u.foc.line, .int .i64 u.foc.col, .int .i64 u.on, .int .i64 u.off] 26) := hm4 ▸ heap_new _ _ rfl
  have hb34 := below_from hst4 hbm4
  have hx4 := (hDB.out _ hb34).2.2
  have hlt4 : w.heap.size < w4.heap.size := Nat.lt_of_lt_of_le hw0m hst4.size
  have HN4 := Lib.hid n4
  have HLR4 : Hid (LinsR m4 (fun b => ¬ b = w4.heap.size) (.slice x4 u.lines.length y4) u.lines) := Lib.hid (SliceR.stable (rdLin_stable false) (DocR.read ((SliceR.bounded (rdLin_stable true) HD4.out).below (rdLin_stable _) hbm4)) (Keeps.refl _ _) (fun b hb _ => by have := hb.2; omega))
  have HD44 : Hid (∀ W, Below m4.heap.size m4 W → LinsR W (fun b => ¬ b = w4.heap.size) (.slice x4 u.lines.length y4) u.lines) := Lib.hid fun W hW => HLR4.out.below (rdLin_stable _) hW
  have HLow : Hid (LinsR m4 (fun b => b < w4.heap.size) (.slice x3 d.length y3) d ∧ m4.heap[w.heap.size]? = some (.cells #[.slice x3 d.length y3, .int .i64 i, .int .i64 q, .int .i64 i, .int .i64 q, .int .i64 0, .int .i64 0] 26)) := Lib.hid ⟨SliceR.stable (rdLin_stable false) (SliceR.bounded (rdLin_stable false) (hDB.out _ (Below.refl _ _)).2.1) (Keeps.all hb34) (fun b hb _ => Nat.lt_of_lt_of_le hb.2 hst4.size), (hDB.out _ hb34).1⟩
  have HX4 := Lib.hid hx4
  have HPt : Hid (∀ W, Below m4.heap.size m4 W → Calls Tryz.prog 57 #[.slice x4 u.lines.length y4, .agg #[.int .i64 i, .int .i64 q], .agg #[.int .i64 u.foc.line, .int .i64 u.foc.col]] W (DocSaid ([{ l with cells := cs }], 0) W)) := Lib.hid fun W hW => by
    have := docPart_any (.slice x4 u.lines.length y4) u.lines ⟨i, q⟩ u.foc W _ (HD44.out W hW) (HEw.out _ (below_from HX4.out hW)) (may_small (mayS_at HUX.out.2.1).1).1 (may_small (mayS_at HUX.out.2.1).1).2
    rw [HUX.out.2.2.2, HUX.out.2.2.1] at this
    rw [HUX.out.2.2.2]
    exact this
  have HB4 : Hid (∀ W, Below m4.heap.size m4 W → W.heap[w.heap.size]? = some (.cells #[.slice x3 d.length y3, .int .i64 i, .int .i64 q, .int .i64 i, .int .i64 q, .int .i64 0, .int .i64 0] 26) ∧ W.heap[w4.heap.size]? = some (.cells #[.slice x4 u.lines.length y4, .int .i64 u.anc.line, .int .i64 u.anc.col, .int .i64 u.foc.line, .int .i64 u.foc.col, .int .i64 u.on, .int .i64 u.off] 26)) := Lib.hid fun W hW => ⟨heap_below hW HLow.out.2, heap_below hW HN4.out⟩
  clear hm4 hbm4 n4 hb34 hx4 HD4 HC4 hDB p0 f0 hst4
  obtain ⟨n, hn⟩ : ∃ n, cl.length = n := ⟨_, rfl⟩
  rw [hn] at HCL HGET hclen
  have HNN := Lib.hid hn
  clear hn
  go_upto_region 8 with ((go_at_call 61; (with_reducible refine (HCln.out _).mono ?_); rintro e w5 ⟨v5, rfl, hv5, hst5⟩; obtain ⟨x5, y5, hve5⟩ := hv5.slice; subst hve5; clear hv5))
  rw [show ((cl.length : Nat) : Int) = (n : Int) by rw [HNN.out]]
  obtain ⟨p0, f0⟩ := blk (HB4.out _ hst5).1
  obtain ⟨p4, f4⟩ := blk (HB4.out _ hst5).2
  go_upto_region 9 with ((go_at_call 57; (with_reducible refine (HPt.out _ hst5).mono ?_); intro e w6 hsaid; obtain ⟨v6, rfl, hv6, hst6⟩ := hsaid; have HD6 := Lib.hid hv6; obtain ⟨x6, y6, hve6⟩ := hv6.slice; subst hve6; clear hv6))
  have hb46 := below_from hst5 hst6
  obtain ⟨xa, xc, hxe, hxc, hxm, hx6⟩ := lins_shape HD6.out.read
  have hxe : Value.slice x6 1 y6 = .slice xa 1 xc := hxe
  injection hxe with he1 he2 he3
  subst he1 he3
  obtain ⟨b6, o6, la, lc, ca, cc, hb6e, hA6⟩ := hx6 0 _ rfl
  subst hb6e
  rw [Nat.zero_mul, Nat.add_zero] at hA6
  have hcR := hA6.cellsR
  have hcC := hA6.cells
  have hlt6 := hA6.lt
  simp only at hcR hcC
  rw [HCL.out] at hcR hcC
  obtain ⟨ca', cc', hce, hcl1, hcl2, hcx⟩ := cels_shape hcR
  rw [HCL.out] at hce hcl1
  injection hce with he1 he2' he3
  subst he1 he3
  have hxc : 1 ≤ y6 := hxc
  unfold maxLen at hxm hcl2
  have HC6 : Hid (∀ W, Below w6.heap.size w6 W → W.cell? ⟨b6, o6 + 3, none⟩ = some (.slice ca n cc)) := Lib.hid fun W hW => (hW.cell hlt6).trans hcC
  have HCX : Hid (∀ k, k < n → ∃ b o, ca = some ⟨b, o, none⟩ ∧ ∀ W, Below w6.heap.size w6 W → W.cell? ⟨b, o + k * 3 + 1, none⟩ = some (.int .i64 bb) ∧ W.cell? ⟨b, o + k * 3 + 2, none⟩ = some (.string ⟨hh.toArray⟩)) := Lib.hid fun k hk => by
    obtain ⟨r, hr⟩ := HGET.out k hk
    obtain ⟨b, o, e, hz, _, d1, d2⟩ := hcx k _ hr
    exact ⟨b, o, e, fun W hW => ⟨(hW.cell hz).trans d1, (hW.cell hz).trans d2⟩⟩
  have d3 := HC6.out _ (Below.refl _ _)
  have nn1 : (((n : Nat) : Int) != (n : Int)) = false := by simp
  clear hx6 hA6 hcR hcC hlt6 hcx he2 he2' HD6 p0 f0 p4 f4
  go_wp2_with fail
  go_loopw [10] (fun z wr => ∃ k : Nat, z = .int .i64 k ∧ 1 ≤ k ∧ Hid (Below w6.heap.size w6 wr)) (fun z _ => n - (intOf z).toNat)
  case atStart => exact ⟨1, rfl, Nat.le_refl _, Lib.hid (Below.refl _ _)⟩
  case round =>
    obtain ⟨k, rfl, hk1, HBw⟩ := hrel
    have k0 : (0 : Int) ≤ (k : Int) := Int.natCast_nonneg _
    have c3 := HC6.out _ HBw.out
    by_cases hkn : k < n
    · have hkn' : (k : Int) < (n : Int) := by omega
      obtain ⟨b2, o2, rfl, hfk⟩ := HCX.out k hkn
      obtain ⟨b2', o2', e2, hf0⟩ := HCX.out 0 (by omega)
      cases e2
      obtain ⟨g1, g2⟩ := hfk _ HBw.out
      obtain ⟨g3, g4⟩ := hf0 _ HBw.out
      rw [Nat.zero_mul, Nat.add_zero] at g3 g4
      have hn0 : (0 : Int) < (n : Int) := by omega
      have nb : (bb != bb) = false := by simp
      clear hfk hf0
      go_wp2_with fail
      go_quiet (fail)
      go_wp2_with fail
      go_roundw
      case rel => exact ⟨k + 1, by go_num, by omega, Lib.hid (drewN_below HBw.out)⟩
      case measure => simp [intOf]; omega
    · have hkn' : ¬ (k : Int) < (n : Int) := by omega
      clear c3 d3
      go_wp2_with fail
      have hbr : Below m4.heap.size m4 wr := below_from hb46 HBw.out
      have hz4 : w4.heap.size ≤ m4.heap.size := Nat.le_of_lt (Array.getElem?_eq_some_iff.1 HN4.out).1
      have hX0 : insX d i q l cs 0 = u := by rw [HUX.out.1]; unfold insX; rw [Nat.sub_zero, List.take_length]
      have HXX := Lib.hid hX0
      have HBR := Lib.hid hbr
      clear hX0 hbr hk1 k0 hkn hkn'
      go_loopw [11] (fun z wr => ∃ (k : Nat) (X : St) (x : Option Addr) (y : Nat), z = .int .i64 k ∧ k ≤ n ∧ Hid (wr.heap[w4.heap.size]? = some (.cells #[.slice x X.lines.length y, .int .i64 X.anc.line, .int .i64 X.anc.col, .int .i64 X.foc.line, .int .i64 X.foc.col, .int .i64 X.on, .int .i64 X.off] 26)) ∧ Hid (X = insX d i q l cs k) ∧ Hid (mayS X = true) ∧ Hid (LinsR wr (fun b => ¬ b = w4.heap.size) (.slice x X.lines.length y) X.lines) ∧ Hid (Below w4.heap.size m4 wr)) (fun z _ => n - (intOf z).toNat)
      case atStart => exact ⟨0, u, x4, y4, rfl, Nat.zero_le _, Lib.hid (HB4.out _ HBR.out).2, Lib.hid HXX.out.symm, Lib.hid HUX.out.2.1, Lib.hid (HD44.out _ HBR.out), Lib.hid (HBR.out.mono hz4)⟩
      case round =>
        obtain ⟨k, X, x, y, rfl, hk, HBt, HX, HMy, HLR, HBv⟩ := hrel
        rename_i wv
        have k0 : (0 : Int) ≤ (k : Int) := Int.natCast_nonneg _
        have hbw := HX4.out.trans (HBv.out.mono (Nat.le_of_lt hlt4))
        have hBz := (Array.getElem?_eq_some_iff.1 HBt.out).1
        obtain ⟨pt, ft⟩ := blk HBt.out
        by_cases hkN : k < n
        · have hkN' : (k : Int) < (n : Int) := by omega
          have hstep := insX_step HL.out.1 HL.out.2.1 (cs := cs) (k := k) (by rw [HCL.out]; exact hkN) (by rw [← HX.out]; exact HMy.out)
          rw [← HX.out] at hstep
          obtain ⟨Y, hY⟩ : ∃ Y, insX d i q l cs (k + 1) = Y := ⟨_, rfl⟩
          rw [hY] at hstep
          have hmy := keyok_of (back_ok HMy.out) hstep
          have HBk := Lib.hid (typBack_any (.slice x X.lines.length y) X _ _ HLR.out (HEw.out _ hbw) (may_small (mayS_at HMy.out).1).1 (may_small (mayS_at HMy.out).1).2)
          rw [hstep] at HBk
          have HYY := Lib.hid hY
          have HYM := Lib.hid hmy
          clear hstep hY hmy hk
          go_upto_region 22 with ((go_at_call 50; (with_reducible refine HBk.out.mono ?_); intro e w7 hsaid; obtain ⟨v7, rfl, hv7, hst7⟩ := hsaid; obtain ⟨x7, y7, hve7⟩ := hv7.slice; subst hve7; have HD7 := Lib.hid hv7; clear hv7))
          obtain ⟨m7, hm7⟩ : ∃ m7, w7.alloc (.cells #[.slice x7 Y.lines.length y7, .int .i64 Y.anc.line, .int .i64 Y.anc.col, .int .i64 Y.foc.line, .int .i64 Y.foc.col, .int .i64 Y.on, .int .i64 Y.off] 26) = m7 := ⟨_, rfl⟩
          rw [hm7]
          have hbm7 : Below w7.heap.size w7 m7 := hm7 ▸ below1 (Below.refl _ _) _
          have n7 : m7.heap[w7.heap.size]? = some (.cells #[.slice x7 Y.lines.length y7, .int .i64 Y.anc.line, .int .i64 Y.anc.col, .int .i64 Y.foc.line, .int .i64 Y.foc.col, .int .i64 Y.on, .int .i64 Y.off] 26) := hm7 ▸ heap_new _ _ rfl
          have h77 := below_from hst7 hbm7
          have t7 := heap_below h77 HBt.out
          have hD7 : LinsR m7 (fun b => ¬ b = w4.heap.size) (.slice x7 Y.lines.length y7) Y.lines := (lins_but HD7.out hBz).below (rdLin_stable _) hbm7
          clear pt ft
          obtain ⟨pt, ft⟩ := blk t7
          obtain ⟨pn, fn⟩ := blk n7
          have hne : ¬ w7.heap.size = w4.heap.size := by have := hst7.size; omega
          clear hm7
          go_wp2_with fail
          obtain ⟨W, hW, nW, cW, kW, zW⟩ := set_st m7 w4.heap.size t7 (.slice x7 Y.lines.length y7) (.int .i64 Y.anc.line) (.int .i64 Y.anc.col) (.int .i64 Y.foc.line) (.int .i64 Y.foc.col) (.int .i64 Y.on) (.int .i64 Y.off)
          rw [hW]
          have HR := Lib.hid (And.intro nW (And.intro (lins_set hD7 kW zW) ((HBv.out.trans (h77.mono (Nat.le_of_lt hBz))).trans (cW _ (Nat.le_refl _)))))
          clear nW cW kW zW hW hD7 t7 n7 pt ft pn fn h77 hbm7 hst7
          go_roundw
          case rel => exact ⟨k + 1, Y, x7, y7, by go_num, by omega, Lib.hid HR.out.1, Lib.hid HYY.out.symm, HYM, Lib.hid HR.out.2.1, Lib.hid HR.out.2.2⟩
          case measure => simp [intOf]; omega
        · have hkN' : ¬ (k : Int) < (n : Int) := by omega
          obtain rfl : k = n := by omega
          have hXe : X = closedS d ⟨i, q⟩ := by rw [HX.out]; unfold insX; rw [HCL.out, Nat.sub_self, List.take_zero]; exact insK_nil HL.out.1
          have hSm := stSame_any (.slice x X.lines.length y) (.slice x3 d.length y3) X (closedS d ⟨i, q⟩) _ _ _ HLR.out (SliceR.stable (S' := fun _ => True) (rdLin_stable false) (SliceR.bounded (rdLin_stable false) HLow.out.1) ⟨HBv.out.size, fun b hb _ => HBv.out.block b hb.1⟩ (fun _ _ _ => trivial))
          rw [decide_eq_true hXe] at hSm
          have hs0 := (HBv.out.block w.heap.size hlt4).trans HLow.out.2
          obtain ⟨p0, f0⟩ := blk hs0
          have HSm : Hid (Calls Tryz.prog 67 #[stV (.slice x X.lines.length y) X, .agg #[.slice x3 d.length y3, .int .i64 i, .int .i64 q, .int .i64 i, .int .i64 q, .int .i64 0, .int .i64 0]] _ fun e w' => e = .returned (.bool true) ∧ Below _ _ w') := Lib.hid hSm
          clear hSm hXe hs0
          go_wp2_with (first
            | (go_at_call 67; refine HSm.out.mono ?_; rintro e w8 ⟨rfl, hst8⟩; have hx8 := below_from hbw hst8)
            | (go_at_call 44; refine (HA.out _ hx8).mono ?_; rintro e wz ⟨rfl, hstz⟩; have hxz := below_from hx8 hstz))
          go_ret
          exact ⟨rfl, hxz⟩
end Go.Proofs.YtpndnbjpnajaaaaGreatDoor
