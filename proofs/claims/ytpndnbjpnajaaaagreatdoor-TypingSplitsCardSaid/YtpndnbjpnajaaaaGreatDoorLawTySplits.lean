/- The walk of the law TypingSplits. -/
import Derived.Test.YtpndnbjpnajaaaaGreatDoorStyAwake
namespace Go.Proofs.YtpndnbjpnajaaaaGreatDoor
open Go.RowKit
open Go.Proofs.Qw
attribute [local go_sem] Oper.semAt_some
set_option maxRecDepth 100000 in
set_option maxHeartbeats 8000000 in
theorem lawTySplits_any (v : Value) (s : St) (w : World) (S : Nat → Prop) (h : LinsR w S v s.lines) (sn : Sane s.lines) (he : EnvT w) :
    Calls Tryz.prog 14 #[stV v s] w fun e w' => e = .returned (.bool true) ∧ Below w.heap.size w w' := by
  obtain ⟨W1, hW1, hB, hz, k0⟩ := one_st w v s
  have HB : Hid (∀ W, Below W1.heap.size W1 W → W.heap[w.heap.size]? = some (.cells #[v, .int .i64 s.anc.line, .int .i64 s.anc.col, .int .i64 s.foc.line, .int .i64 s.foc.col, .int .i64 s.on, .int .i64 s.off] 26)) := Lib.hid fun W hW => heap_below hW k0
  have hs1 := hB.size
  have H1 := Lib.hid hB
  have hw0 : Below W1.heap.size W1 W1 := Below.refl _ _
  have HV : Hid (∀ W, Below W1.heap.size W1 W → LinsR W S v s.lines) := Lib.hid fun W hW => h.below (rdLin_stable _) (hB.trans (hW.mono hs1))
  have HE : Hid (∀ W, Below W1.heap.size W1 W → EnvT W) := Lib.hid fun W hW => (he.below hB).below hW
  have HLo := Lib.hid (long23_any v s W1 S (HV.out _ hw0) sn)
  have HEw : Hid (∀ W, Below w.heap.size w W → EnvT W) := Lib.hid fun W hW => he.below hW
  have HA : Hid (∀ W, Below w.heap.size w W → Calls Tryz.prog 44 #[] W fun e w' => e = .returned (.bool true) ∧ Below W.heap.size W w') := Lib.hid fun W hW => awake23_any W (he.below hW)
  have HM : Hid (Small s.lines → ∀ W, Below W1.heap.size W1 W → Calls Tryz.prog 27 #[stV v s] W fun e w' => e = .returned (.bool (mayS s)) ∧ Below W.heap.size W w') := Lib.hid fun hs W hW => stMay_any v s W S (HV.out W hW) (HE.out W hW) hs
  obtain ⟨p0, f0⟩ := blk k0
  obtain ⟨va, vc, hve⟩ := h.slice
  subst hve
  clear h sn he k0 hB
  go_enter Tryz.func14, Tryz.ntmps14
  go_wp2_with fail
  refine HLo.out.mono ?_
  rintro e w1 ⟨r, rfl, hr1, hb1⟩
  have HRS := Lib.hid hr1
  clear hr1
  cases r
  rotate_left 1
  · go_wp2_with fail
    refine (HA.out _ (H1.out.trans (hb1.mono hs1))).mono ?_
    rintro e wz ⟨rfl, hstz⟩
    go_wp2_with fail
    go_ret
    exact ⟨rfl, below_from (H1.out.trans (hb1.mono hs1)) hstz⟩
  have HSF : Hid (Small s.lines ∧ Fits s.lines) := Lib.hid ⟨(HRS.out rfl).small, (HRS.out rfl).fits⟩
  clear p0 f0
  obtain ⟨p0, f0⟩ := blk (HB.out _ hb1)
  go_wp2_with fail
  refine (HM.out HSF.out.1 _ hb1).mono ?_
  rintro e w2 ⟨rfl, hst2⟩
  have hb2 := below_from hb1 hst2
  cases hm : mayS s
  · go_wp2_with fail
    refine (HA.out _ (H1.out.trans (hb2.mono hs1))).mono ?_
    rintro e wz ⟨rfl, hstz⟩
    go_wp2_with fail
    go_ret
    exact ⟨rfl, below_from (H1.out.trans (hb2.mono hs1)) hstz⟩
  have hmy := mayS_at hm
  have hsel : selectS s s.foc s.foc = (closedS s.lines s.foc, 0) := by
    unfold selectS
    rw [hm, hmy.2.2.1]
    rfl
  have HSe : Hid (∀ W, Below W1.heap.size W1 W → Calls Tryz.prog 68 #[stV (.slice va s.lines.length vc) s, .agg #[.int .i64 s.foc.line, .int .i64 s.foc.col], .agg #[.int .i64 s.foc.line, .int .i64 s.foc.col]] W (StSaid (⟨s.lines, s.foc, s.foc, 0, 0⟩, 0) W)) := Lib.hid fun W hW => by
    have := typSelect_any (.slice va s.lines.length vc) s s.foc s.foc W S (HV.out W hW) (HE.out W hW) HSF.out.1 HSF.out.2
    rw [hsel] at this
    exact this
  have hM := hmy.1
  obtain ⟨i, q, l, hfoc, hl, hq, hml, _⟩ := may_at hM hmy.2.2.1
  have HM2 := Lib.hid (closed_may hM hmy.2.2.1)
  have HFO := Lib.hid hfoc
  obtain ⟨d, hd⟩ : ∃ d, s.lines = d := ⟨_, rfl⟩
  rw [hfoc, hd] at HM2
  have HSM := Lib.hid (may_small hM)
  rw [hd] at hl HSM
  have HL := Lib.hid (And.intro hl (And.intro hq hml))
  have HDD := Lib.hid hd
  clear hm hmy hsel hM p0 f0 hst2 hl hq hml hfoc hd
  obtain ⟨p0, f0⟩ := blk (HB.out _ hb2)
  go_upto_region 4 with ((go_at_call 68; (with_reducible refine (HSe.out _ hb2).mono ?_); intro e w3 hsaid; obtain ⟨v3, rfl, hv3, hst3⟩ := hsaid; obtain ⟨x3, y3, hve3⟩ := hv3.slice; subst hve3; have hb3 := below_from hb2 hst3; have HD3 := Lib.hid hv3; clear hv3; obtain ⟨o3, u3⟩ := blk (HB.out _ hb3)))
  obtain ⟨m3, hm3, n3, c3, k3, z3⟩ := set_st w3 w.heap.size (HB.out _ hb3) (.slice x3 s.lines.length y3) (.int .i64 s.foc.line) (.int .i64 s.foc.col) (.int .i64 s.foc.line) (.int .i64 s.foc.col) (.int .i64 0) (.int .i64 0)
  rw [hm3]
  have hw3 : Below w.heap.size w m3 := (H1.out.trans (hb3.mono hs1)).trans (c3 _ (Nat.le_refl _))
  have hd3 : LinsR m3 (fun b => ¬ b = w.heap.size) (.slice x3 d.length y3) d := by
    have hz2 := hb2.size
    have := lins_set (lins_but HD3.out (B := w.heap.size) (by omega)) k3 z3
    rw [HDD.out] at this
    exact this
  have n3' : m3.heap[w.heap.size]? = some (.cells #[.slice x3 d.length y3, .int .i64 (closedS d ⟨i, q⟩).anc.line, .int .i64 (closedS d ⟨i, q⟩).anc.col, .int .i64 (closedS d ⟨i, q⟩).foc.line, .int .i64 (closedS d ⟨i, q⟩).foc.col, .int .i64 (closedS d ⟨i, q⟩).on, .int .i64 (closedS d ⟨i, q⟩).off] 26) := by
    rw [HDD.out, HFO.out] at n3
    exact n3
  rw [show s.lines.length = d.length by rw [HDD.out]]
  have hDB : Hid (∀ W, Below m3.heap.size m3 W → W.heap[w.heap.size]? = some (.cells #[.slice x3 d.length y3, .int .i64 i, .int .i64 q, .int .i64 i, .int .i64 q, .int .i64 0, .int .i64 0] 26) ∧ LinsR W (fun b => ¬ b = w.heap.size) (.slice x3 d.length y3) d ∧ Below w.heap.size w W) := Lib.hid fun W hW => ⟨heap_below hW n3', hd3.below (rdLin_stable _) hW, below_from hw3 hW⟩
  have hx := hd3
  obtain ⟨xa, xc, hxe, hvc, hvm, hx⟩ := lins_shape hx
  injection hxe with he1 he2 he3
  subst he1 he3
  obtain ⟨b, o, la, lc, ca, cc, rfl, hAt⟩ := hx i l HL.out.1
  have hil := (List.getElem?_eq_some_iff.1 HL.out.1).1
  unfold maxLen at hvm
  have i0 : (0 : Int) ≤ (i : Int) := Int.natCast_nonneg _
  have i1 : (i : Int) < (d.length : Int) := by omega
  clear hm3 n3 n3' c3 k3 z3 hd3 hw3 he2 o3 u3 p0 f0 HD3 hx HSe HB HV HE HM HRS HSF hst3
  obtain ⟨p0, f0⟩ := blk (hDB.out _ (Below.refl _ _)).1
  have HAT := Lib.hid hAt
  obtain ⟨_, c0, c1, c2, c3, _, _⟩ := hAt
  go_upto_region 5 with fail
  obtain ⟨m5, hm5⟩ : ∃ m5, m3.alloc (.cells #[.int .i64 l.quote, .slice la l.lists.length lc, .int .i64 l.kind, .slice ca l.cells.length cc] 42) = m5 := ⟨_, rfl⟩
  rw [hm5]
  have hb35 : Below m3.heap.size m3 m5 := hm5 ▸ (Below.refl _ _).alloc (Nat.le_refl _) _
  have n5 : m5.heap[m3.heap.size]? = some (.cells #[.int .i64 l.quote, .slice la l.lists.length lc, .int .i64 l.kind, .slice ca l.cells.length cc] 42) := hm5 ▸ heap_new _ _ rfl
  have hle := mayL_parts HL.out.2.2
  obtain ⟨N, hN⟩ : ∃ N : Nat, l.lists.length + l.quote.toNat = N := ⟨_, rfl⟩
  have hNi : ((l.lists.length : Nat) : Int) + l.quote = (N : Int) := by omega
  have e1 : IntKind.i64.wrap (((l.lists.length : Nat) : Int) + l.quote) = (N : Int) := by rw [hNi]; exact IntWalk.i64_in _ (by omega)
  have HN := Lib.hid (And.intro hNi (And.intro hle.1 hle.2.2.2.1))
  have hN20 : N ≤ 20 := by omega
  clear hm5 hN hNi hle c0 c1 c2 c3 p0 f0 hil hvc
  obtain ⟨p0, f0⟩ := blk (hDB.out _ hb35).1
  obtain ⟨p5, f5⟩ := blk n5
  go_upto_region 6 with fail
  obtain ⟨cb, hcb⟩ : ∃ cb : Bool, ((((l.cells.length : Nat) : Int) == 0) && decide (0 < N) || (decide (0 < l.kind) && decide (q < l.cells.length))) = cb := ⟨_, rfl⟩
  have HCB := Lib.hid hcb
  clear hcb e1
  go_cut [61] from 40 to 61 (fun r wx => r = .bool cb ∧ wx = m5)
  case first => as_aux_lemma =>
    have hcb := HCB.out
    obtain ⟨z1, hz1⟩ : ∃ z1, (((l.cells.length : Nat) : Int) == 0) = z1 := ⟨_, rfl⟩
    rw [hz1] at hcb
    by_cases h2 : 0 < N
    · have h2' : (0 : Int) < (N : Int) := by omega
      rw [decide_eq_true h2] at hcb
      by_cases h3 : 0 < l.kind
      · rw [decide_eq_true h3] at hcb
        by_cases h4 : q < l.cells.length
        · have h4' : (q : Int) < (l.cells.length : Int) := by omega
          rw [decide_eq_true h4] at hcb
          cases z1
          all_goals
            have HZ := Lib.hid hcb
            clear hcb
            go_wp2_with fail
            go_meet
            case rel => exact ⟨by rw [← HZ.out]; rfl, rfl⟩
        · have h4' : ¬ (q : Int) < (l.cells.length : Int) := by omega
          rw [decide_eq_false h4] at hcb
          cases z1
          all_goals
            have HZ := Lib.hid hcb
            clear hcb
            go_wp2_with fail
            go_meet
            case rel => exact ⟨by rw [← HZ.out]; rfl, rfl⟩
      · rw [decide_eq_false h3, Bool.false_and] at hcb
        cases z1
        all_goals
          have HZ := Lib.hid hcb
          clear hcb
          go_wp2_with fail
          go_meet
          case rel => exact ⟨by rw [← HZ.out]; rfl, rfl⟩
    · have h2' : ¬ (0 : Int) < (N : Int) := by omega
      rw [decide_eq_false h2, Bool.and_false] at hcb
      by_cases h3 : 0 < l.kind
      · rw [decide_eq_true h3] at hcb
        by_cases h4 : q < l.cells.length
        · have h4' : (q : Int) < (l.cells.length : Int) := by omega
          rw [decide_eq_true h4] at hcb
          cases z1
          all_goals
            have HZ := Lib.hid hcb
            clear hcb
            go_wp2_with fail
            go_meet
            case rel => exact ⟨by rw [← HZ.out]; rfl, rfl⟩
        · have h4' : ¬ (q : Int) < (l.cells.length : Int) := by omega
          rw [decide_eq_false h4] at hcb
          cases z1
          all_goals
            have HZ := Lib.hid hcb
            clear hcb
            go_wp2_with fail
            go_meet
            case rel => exact ⟨by rw [← HZ.out]; rfl, rfl⟩
      · rw [decide_eq_false h3, Bool.false_and] at hcb
        cases z1
        all_goals
          have HZ := Lib.hid hcb
          clear hcb
          go_wp2_with fail
          go_meet
          case rel => exact ⟨by rw [← HZ.out]; rfl, rfl⟩
  case rest =>
  obtain ⟨rfl, hwc⟩ := hcut
  rw [hwc]
  clear hwc
  have hc5 : Below w.heap.size w m5 := (hDB.out _ hb35).2.2
  cases cb
  rotate_left 1
  · go_wp2_with fail
    refine (HA.out _ hc5).mono ?_
    rintro e wz ⟨rfl, hstz⟩
    go_wp2_with fail
    go_ret
    exact ⟨rfl, below_from hc5 hstz⟩
  have hno1 : ¬ (l.cells = [] ∧ 0 < (l.lists.length : Int) + l.quote) := by
    rintro ⟨h1, h2⟩
    have := HCB.out
    rw [h1, HN.out.1] at *
    have h3 : 0 < N := by omega
    rw [decide_eq_true h3] at this
    exact absurd this (by simp)
  have hno2 : ¬ (0 < l.kind ∧ q < l.cells.length) := by
    rintro ⟨h1, h2⟩
    have := HCB.out
    rw [decide_eq_true h1, decide_eq_true h2] at this
    simp at this
  have HK := Lib.hid (split_kind hno2 HN.out.2.2)
  have hps := para_split HM2.out rfl rfl HL.out.1 hno1
  have hps : keyS (closedS d ⟨i, q⟩) (paraK (closedS d ⟨i, q⟩)) = if d.length = 200 then (noS, 10) else (splK d i q l 0, 0) := hps
  have HPa := Lib.hid (typParagraph_any (.slice (some ⟨b, o, none⟩) d.length y3) (closedS d ⟨i, q⟩) m5 _ (hDB.out _ hb35).2.1 (HEw.out _ hc5) HSM.out.1 HSM.out.2)
  rw [hps] at HPa
  have hpsS := hps
  clear hps hno1 hno2 p5 f5 HCB
  have hdl : d.length ≤ 200 := (mayD_iff.1 (mayS_at HM2.out).1).2.1
  by_cases h200 : d.length = 200
  · rw [if_pos h200] at HPa
    have HPa : Hid (Calls Tryz.prog 48 #[.agg #[.slice (some ⟨b, o, none⟩) d.length y3, .int .i64 i, .int .i64 q, .int .i64 i, .int .i64 q, .int .i64 0, .int .i64 0]] m5 (StSaid (⟨[], ⟨0, 0⟩, ⟨0, 0⟩, 0, 0⟩, 10) m5)) := Lib.hid HPa.out
    have h200' : (((d.length : Nat) : Int) == 200) = true := by rw [h200]; rfl
    clear h200
    go_wp2_with (first
      | (go_at_call 48; (with_reducible refine HPa.out.mono ?_); intro e w6 hsaid; obtain ⟨v6, rfl, hv6, hst6⟩ := hsaid; obtain ⟨x6, y6, hve6⟩ := hv6.slice; subst hve6; have hb6 := below_from hb35 hst6; obtain ⟨o6, u6⟩ := blk1 (hDB.out _ hb6).1; have hx6 := (hDB.out _ hb6).2.2)
      | (go_at_call 44; refine (HA.out _ (below1 hx6 _)).mono ?_; rintro e wz ⟨rfl, hstz⟩; have hxz := below_from (below1 hx6 _) hstz))
    go_ret
    exact ⟨rfl, hxz⟩
  rw [if_neg h200] at HPa
  have hmsp : mayS (splK d i q l 0) = true := keyok_of (para_ok HM2.out) (hpsS.trans (if_neg h200))
  clear h200 hpsS
  obtain ⟨X0, hX0⟩ : ∃ X, splK d i q l 0 = X := ⟨_, rfl⟩
  rw [hX0] at HPa
  have HPa : Hid (Calls Tryz.prog 48 #[.agg #[.slice (some ⟨b, o, none⟩) d.length y3, .int .i64 i, .int .i64 q, .int .i64 i, .int .i64 q, .int .i64 0, .int .i64 0]] m5 (StSaid (X0, 0) m5)) := Lib.hid HPa.out
  have HX0 := Lib.hid hX0
  have hX00 : splX d i q l N 0 = X0 := by unfold splX; rw [if_pos (Nat.zero_le _)]; exact hX0
  have HXX := Lib.hid hX00
  have hmx : mayS X0 = true := by rw [← hX0]; exact hmsp
  have HMX := Lib.hid hmx
  clear hX0 hX00 hmx hmsp
  go_upto_if 69 with ((go_at_call 48; (with_reducible refine HPa.out.mono ?_); intro e w6 hsaid; obtain ⟨v6, rfl, hv6, hst6⟩ := hsaid; obtain ⟨x6, y6, hve6⟩ := hv6.slice; subst hve6; have hb6 := below_from hb35 hst6; have HD6 := Lib.hid hv6; clear hv6))
  obtain ⟨m6, hm6⟩ : ∃ m6, w6.alloc (.cells #[.slice x6 X0.lines.length y6, .int .i64 X0.anc.line, .int .i64 X0.anc.col, .int .i64 X0.foc.line, .int .i64 X0.foc.col, .int .i64 X0.on, .int .i64 X0.off] 26) = m6 := ⟨_, rfl⟩
  rw [hm6]
  have hbm6 : Below w6.heap.size w6 m6 := hm6 ▸ below1 (Below.refl _ _) _
  have n6 : m6.heap[w6.heap.size]? = some (.cells #[.slice x6 X0.lines.length y6, .int .i64 X0.anc.line, .int .i64 X0.anc.col, .int .i64 X0.foc.line, .int .i64 X0.foc.col, .int .i64 X0.on, .int .i64 X0.off] 26) := hm6 ▸ heap_new _ _ rfl
  have hc6 := below_from hb6 hbm6
  have hz6 := hst6.size
  have hz7 := hb35.size
  have hlt0 : w.heap.size < w6.heap.size := by have := hc5.size; have h9 := (Array.getElem?_eq_some_iff.1 (hDB.out _ hb35).1).1; omega
  have HB6 : Hid (m6.heap[w.heap.size]? = some (.cells #[.slice (some ⟨b, o, none⟩) d.length y3, .int .i64 i, .int .i64 q, .int .i64 i, .int .i64 q, .int .i64 0, .int .i64 0] 26) ∧ LinsR m6 (fun b => ¬ b = w.heap.size) (.slice (some ⟨b, o, none⟩) d.length y3) d ∧ Below w.heap.size w m6) := Lib.hid (hDB.out _ hc6)
  have HD66 : Hid (DocR true m6 (fun b => m5.heap.size ≤ b ∧ b < w6.heap.size) (.slice x6 X0.lines.length y6) X0.lines) := Lib.hid ((SliceR.bounded (rdLin_stable true) HD6.out).below (rdLin_stable _) hbm6)
  have hD6 : LinsR m6 (fun b => ¬ b = w6.heap.size) (.slice x6 X0.lines.length y6) X0.lines := SliceR.stable (rdLin_stable false) (DocR.read HD66.out) (Keeps.refl _ _) (fun b hb _ => by have := hb.2; omega)
  have HD7 := Lib.hid hD6
  have HN6 := Lib.hid n6
  have HLow : Hid (LinsR m6 (fun b => b < w6.heap.size) (.slice (some ⟨b, o, none⟩) d.length y3) d) := Lib.hid (SliceR.stable (rdLin_stable false) (SliceR.bounded (rdLin_stable false) (hDB.out _ hb35).2.1) (Keeps.all (below_from hst6 hbm6)) (fun b hb _ => by have := hb.2; omega))
  clear hm6 hbm6 n6 hD6 HD6 HD66 HPa HLo hDB HAT p0 f0 hst6
  go_wp2_with fail
  go_loopw [7] (fun z wr => ∃ (k : Nat) (X : St) (x : Option Addr) (y : Nat), z = .int .i64 k ∧ k ≤ N + 1 ∧ Hid (wr.heap[w6.heap.size]? = some (.cells #[.slice x X.lines.length y, .int .i64 X.anc.line, .int .i64 X.anc.col, .int .i64 X.foc.line, .int .i64 X.foc.col, .int .i64 X.on, .int .i64 X.off] 26)) ∧ Hid (X = splX d i q l N k) ∧ Hid (mayS X = true) ∧ Hid (LinsR wr (fun b => ¬ b = w6.heap.size) (.slice x X.lines.length y) X.lines) ∧ Hid (Below w6.heap.size m6 wr)) (fun z _ => N + 1 - (intOf z).toNat)
  case atStart => exact ⟨0, X0, x6, y6, rfl, by omega, HN6, Lib.hid HXX.out.symm, HMX, HD7, Lib.hid (Below.refl _ _)⟩
  case round =>
    obtain ⟨k, X, x, y, rfl, hk, HBt, HX, HMy, HLR, HBw⟩ := hrel
    have k0 : (0 : Int) ≤ (k : Int) := Int.natCast_nonneg _
    have hbw : Below w.heap.size w wr := HB6.out.2.2.trans (HBw.out.mono (by omega))
    have hBz := (Array.getElem?_eq_some_iff.1 HBt.out).1
    obtain ⟨pt, ft⟩ := blk HBt.out
    by_cases hkN : k ≤ N
    · have hkN' : (k : Int) ≤ (N : Int) := by omega
      have hstep := splX_step HL.out.1 HL.out.2.1 HK.out HN.out.2.1 HN.out.1 hkN (by rw [← HX.out]; exact HMy.out)
      rw [← HX.out] at hstep
      obtain ⟨Y, hY⟩ : ∃ Y, splX d i q l N (k + 1) = Y := ⟨_, rfl⟩
      rw [hY] at hstep
      have hmy := keyok_of (back_ok HMy.out) hstep
      have HBk := Lib.hid (typBack_any (.slice x X.lines.length y) X wr _ HLR.out (HEw.out _ hbw) (may_small (mayS_at HMy.out).1).1 (may_small (mayS_at HMy.out).1).2)
      rw [hstep] at HBk
      have HYY := Lib.hid hY
      have HYM := Lib.hid hmy
      clear hstep hY hmy hk
      go_upto_region 17 with ((go_at_call 50; (with_reducible refine HBk.out.mono ?_); intro e w7 hsaid; obtain ⟨v7, rfl, hv7, hst7⟩ := hsaid; obtain ⟨x7, y7, hve7⟩ := hv7.slice; subst hve7; have HD7 := Lib.hid hv7; clear hv7))
      obtain ⟨m7, hm7⟩ : ∃ m7, w7.alloc (.cells #[.slice x7 Y.lines.length y7, .int .i64 Y.anc.line, .int .i64 Y.anc.col, .int .i64 Y.foc.line, .int .i64 Y.foc.col, .int .i64 Y.on, .int .i64 Y.off] 26) = m7 := ⟨_, rfl⟩
      rw [hm7]
      have hbm7 : Below w7.heap.size w7 m7 := hm7 ▸ below1 (Below.refl _ _) _
      have n7 : m7.heap[w7.heap.size]? = some (.cells #[.slice x7 Y.lines.length y7, .int .i64 Y.anc.line, .int .i64 Y.anc.col, .int .i64 Y.foc.line, .int .i64 Y.foc.col, .int .i64 Y.on, .int .i64 Y.off] 26) := hm7 ▸ heap_new _ _ rfl
      have h77 := below_from hst7 hbm7
      have t7 := heap_below h77 HBt.out
      have hD7 : LinsR m7 (fun b => ¬ b = w6.heap.size) (.slice x7 Y.lines.length y7) Y.lines := (lins_but HD7.out hBz).below (rdLin_stable _) hbm7
      clear pt ft
      obtain ⟨pt, ft⟩ := blk t7
      obtain ⟨pn, fn⟩ := blk n7
      have hne : ¬ w7.heap.size = w6.heap.size := by have := hst7.size; omega
      clear hm7
      go_wp2_with fail
      obtain ⟨W, hW, nW, cW, kW, zW⟩ := set_st m7 w6.heap.size t7 (.slice x7 Y.lines.length y7) (.int .i64 Y.anc.line) (.int .i64 Y.anc.col) (.int .i64 Y.foc.line) (.int .i64 Y.foc.col) (.int .i64 Y.on) (.int .i64 Y.off)
      rw [hW]
      have HR := Lib.hid (And.intro nW (And.intro (lins_set hD7 kW zW) ((HBw.out.trans (h77.mono (Nat.le_of_lt hBz))).trans (cW _ (Nat.le_refl _)))))
      clear nW cW kW zW hW hD7 t7 n7 pt ft pn fn h77 hbm7 hst7
      go_roundw
      case rel => exact ⟨k + 1, Y, x7, y7, by go_num, by omega, Lib.hid HR.out.1, Lib.hid HYY.out.symm, HYM, Lib.hid HR.out.2.1, Lib.hid HR.out.2.2⟩
      case measure => simp [intOf]; omega
    · have hkN' : ¬ (k : Int) ≤ (N : Int) := by omega
      have hXe : X = closedS d ⟨i, q⟩ := by rw [HX.out]; unfold splX; rw [if_neg hkN]
      have hSm := stSame_any (.slice x X.lines.length y) (.slice (some ⟨b, o, none⟩) d.length y3) X (closedS d ⟨i, q⟩) wr _ _ HLR.out (SliceR.stable (S' := fun _ => True) (rdLin_stable false) (SliceR.bounded (rdLin_stable false) (SliceR.stable (S' := fun b => b < w6.heap.size) (rdLin_stable false) HLow.out (Keeps.refl _ _) (fun b h _ => h))) ⟨HBw.out.size, fun b hb _ => HBw.out.block b hb.1⟩ (fun _ _ _ => trivial))
      rw [decide_eq_true hXe] at hSm
      have hs0 := (HBw.out.block w.heap.size hlt0).trans HB6.out.1
      obtain ⟨p0, f0⟩ := blk hs0
      have HSm := Lib.hid hSm
      have HSm : Hid (Calls Tryz.prog 67 #[stV (.slice x X.lines.length y) X, .agg #[.slice (some ⟨b, o, none⟩) d.length y3, .int .i64 i, .int .i64 q, .int .i64 i, .int .i64 q, .int .i64 0, .int .i64 0]] wr fun e w' => e = .returned (.bool true) ∧ Below wr.heap.size wr w') := Lib.hid HSm.out
      clear hSm hXe hs0
      go_wp2_with (first
        | (go_at_call 67; refine HSm.out.mono ?_; rintro e w8 ⟨rfl, hst8⟩; have hx8 := below_from hbw hst8)
        | (go_at_call 44; refine (HA.out _ hx8).mono ?_; rintro e wz ⟨rfl, hstz⟩; have hxz := below_from hx8 hstz))
      go_ret
      exact ⟨rfl, hxz⟩
end Go.Proofs.YtpndnbjpnajaaaaGreatDoor
