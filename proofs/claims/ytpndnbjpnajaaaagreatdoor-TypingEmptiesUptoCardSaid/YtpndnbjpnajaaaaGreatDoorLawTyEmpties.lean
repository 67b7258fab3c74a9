/- The walk of the law TypingEmpties. -/
import Derived.Test.YtpndnbjpnajaaaaGreatDoorRefWide
import Derived.Test.YtpndnbjpnajaaaaGreatDoorStyToggle
import Derived.Test.YtpndnbjpnajaaaaGreatDoorCellsInsert
import Derived.Test.YtpndnbjpnajaaaaGreatDoorOpenInts
import Derived.Test.YtpndnbjpnajaaaaGreatDoorRefTarget
import Derived.Test.YtpndnbjpnajaaaaGreatDoorReplace
set_option linter.unusedVariables false
set_option linter.unusedSimpArgs false
namespace Go.Proofs.YtpndnbjpnajaaaaGreatDoor
open Go.RowKit
open Go.Proofs.Qw
attribute [local go_sem] Oper.semAt_some
theorem lins_one {w : World} {B : Nat} {S : Nat → Prop} (q k : Int) (lv : Value) (ls : List Int) (hL : IntsR false w S lv ls) (hB : w.heap[B]? = some (.cells #[.int .i64 q, lv, .int .i64 k, .slice none 0 0] 42)) (hS : S B) : LinsR w S (.slice (some ⟨B, 0, none⟩) 1 1) [⟨q, ls, k, []⟩] := by
  refine ⟨_, 1, rfl, Nat.le_refl _, by decide, .inr ⟨B, 0, rfl, hS, (Array.getElem?_eq_some_iff.1 hB).1, fun h => (by cases h), fun i x hx => ?_⟩⟩
  match i, hx with
  | 0, hx =>
    cases hx
    exact ⟨[.int .i64 q, lv, .int .i64 k, .slice none 0 0], rfl, ⟨lv, .slice none 0 0, rfl, hL, SliceR.nil _ _ _ _ _ _⟩, fun j u hu => by
      rw [cell_of_heap hB, Nat.zero_mul, Nat.zero_add]
      match j, hu with
      | 0, hu => exact hu
      | 1, hu => exact hu
      | 2, hu => exact hu
      | 3, hu => exact hu⟩
set_option maxRecDepth 100000 in
set_option maxHeartbeats 8000000 in
theorem lawTyEmpties_any (v : Value) (d : Doc) (w : World) (S : Nat → Prop) (h : LinsR w S v d) (hz : sizeD d ≤ 10000000) (hh : ∀ l ∈ d, ∀ c ∈ l.cells, c.href.length ≤ 2000000) (he : EnvT w) :
    Calls Tryz.prog 11 #[v] w fun e w' => e = .returned (.bool true) ∧ Below w.heap.size w w' := by
  have hw0 : Below w.heap.size w w := Below.refl _ _
  have HA : Hid (∀ W, Below w.heap.size w W → Calls Tryz.prog 44 #[] W fun e w' => e = .returned (.bool true) ∧ Below W.heap.size W w') := Lib.hid fun W hW => awake23_any W (he.below hW)
  have HSz := Lib.hid (refSize_wide v d w S h hz)
  have HV : Hid (∀ W, Below w.heap.size w W → LinsR W S v d) := Lib.hid fun W hW => h.below (rdLin_stable _) hW
  have HE : Hid (∀ W, Below w.heap.size w W → EnvT W) := Lib.hid fun W hW => he.below hW
  obtain ⟨va, vc, hve, hvc, hvm, hx⟩ := lins_shape h
  subst hve
  unfold maxLen at hvm
  by_cases hlen : 200 < d.length
  · have hl1 : (200 : Int) < (d.length : Int) := by omega
    clear hlen h hx
    go_enter Tryz.func11, Tryz.ntmps11
    go_wp2_with fail
    refine (HA.out _ hw0).mono ?_
    rintro e wz ⟨rfl, hstz⟩
    go_wp2_with fail
    go_ret
    exact ⟨rfl, below_from hw0 hstz⟩
  have hl1 : ¬ (200 : Int) < (d.length : Int) := by omega
  have e1 : IntKind.i64.wrap ((sizeD d : Int) + (d.length : Int)) = (sizeD d : Int) + (d.length : Int) := IntWalk.i64_in _ (by omega)
  by_cases hsz : 200 < sizeD d + d.length
  · have hl2 : (200 : Int) < (sizeD d : Int) + (d.length : Int) := by omega
    clear hlen h hx hsz
    go_enter Tryz.func11, Tryz.ntmps11
    go_wp2_with (go_at_call 56; (with_reducible refine HSz.out.mono ?_); rintro e w1 ⟨rfl, hb1⟩)
    refine (HA.out _ hb1).mono ?_
    rintro e wz ⟨rfl, hstz⟩
    go_wp2_with fail
    go_ret
    exact ⟨rfl, below_from hb1 hstz⟩
  have hl2 : ¬ (200 : Int) < (sizeD d : Int) + (d.length : Int) := by omega
  have HMy : Hid (∀ W, Below w.heap.size w W → Calls Tryz.prog 62 #[.slice va d.length vc] W fun e w' => e = .returned (.bool (mayD d)) ∧ Below W.heap.size W w') := Lib.hid fun W hW => refMay_wide _ d W S (HV.out W hW) ⟨by omega, by omega, hh⟩
  cases hm : mayD d
  · rw [hm] at HMy
    clear hlen h hx hsz hm
    go_enter Tryz.func11, Tryz.ntmps11
    go_wp2_with (first
      | (go_at_call 56; (with_reducible refine HSz.out.mono ?_); rintro e w1 ⟨rfl, hb1⟩)
      | (go_at_call 62; (with_reducible refine (HMy.out _ hb1).mono ?_); rintro e w2 ⟨rfl, hst2⟩; have hb2 := below_from hb1 hst2))
    refine (HA.out _ hb2).mono ?_
    rintro e wz ⟨rfl, hstz⟩
    go_wp2_with fail
    go_ret
    exact ⟨rfl, below_from hb2 hstz⟩
  rw [hm] at HMy
  have hsm := may_small hm
  have HSm := Lib.hid hsm
  obtain ⟨l0, hl0⟩ : ∃ l0, d[0]? = some l0 := by
    have h1 := (mayD_iff.1 hm).1
    exact ⟨d[0]'(by omega), List.getElem?_eq_getElem (by omega)⟩
  have hne : d ≠ [] := fun e => by rw [e] at hl0; cases hl0
  have hhd : headE d = ⟨l0.quote, l0.lists, l0.kind, []⟩ := by
    cases d with
    | nil => cases hl0
    | cons a r => cases hl0; rfl
  have h0S : mayS (closedS d ⟨0, 0⟩) = true := by
    refine closed_may hm ?_
    exact is_mk (d := d) (i := 0) (p := 0) hl0 (Nat.zero_le _)
  have HNw : Hid (∀ W, Below w.heap.size w W → Calls Tryz.prog 63 #[.slice va d.length vc] W (StSaid (⟨d, ⟨0, 0⟩, ⟨0, 0⟩, 0, 0⟩, 0) W)) := Lib.hid fun W hW => by
    have := typNew_any (.slice va d.length vc) d W S (HV.out W hW) (HE.out W hW) HSm.out.1 HSm.out.2
    rw [show newS d = (⟨d, ⟨0, 0⟩, ⟨0, 0⟩, 0, 0⟩, 0) by unfold newS closedS; rw [if_pos hm]] at this
    exact this
  obtain ⟨E, hE⟩ : ∃ E, endD d = E := ⟨_, rfl⟩
  have HP : Hid (∀ p : Ps, posV p = .agg #[.int .i64 p.line, .int .i64 p.col]) := Lib.hid fun _ => rfl
  have HEn : Hid (∀ W, Below w.heap.size w W → Calls Tryz.prog 58 #[.slice va d.length vc] W fun e w' => e = .returned (.agg #[.int .i64 E.line, .int .i64 E.col]) ∧ Below W.heap.size W w') := Lib.hid fun W hW => by
    have := end_any (.slice va d.length vc) d W W S (HV.out W hW) (Below.refl _ _)
    rw [hE, HP.out] at this
    exact this
  have HOf : Hid (∀ W, Below w.heap.size w W → Calls Tryz.prog 64 #[.slice va d.length vc, .agg #[.int .i64 E.line, .int .i64 E.col]] W fun e w' => e = .returned (.tuple #[.int .i64 (leftE d), .int .i64 0]) ∧ Below W.heap.size W w') := Lib.hid fun W hW => by
    have := offset_any (.slice va d.length vc) d E W W S (HV.out W hW) (Below.refl _ _) HSm.out.1.1 HSm.out.1.2.1
    rw [← hE, off_end hne, hE, HP.out] at this
    exact this
  have HL0 := Lib.hid hl0
  have HHd := Lib.hid hhd
  have H0S := Lib.hid h0S
  obtain ⟨b0, o0, la0, lc0, ca0, cc0, hva, hAt0⟩ := hx 0 l0 hl0
  have HAT : Hid (∀ W, Below w.heap.size w W → LinAt W S b0 (o0 + 0 * 4) l0 la0 lc0 ca0 cc0) := Lib.hid fun W hW => hAt0.below hW
  rw [Nat.zero_mul, Nat.add_zero] at HAT
  subst hva
  have hlN : leftE d ≤ 200 := by unfold leftE; omega
  have i1 : (0 : Int) < (d.length : Int) := by have := List.length_pos_iff.2 hne; omega
  clear hlen h hx hsz hm hsm hl0 hne hhd h0S hE hAt0
  go_enter Tryz.func11, Tryz.ntmps11
  go_upto_region 4 with (first
    | (go_at_call 56; (with_reducible refine HSz.out.mono ?_); rintro e w1 ⟨rfl, hb1⟩)
    | (go_at_call 62; (with_reducible refine (HMy.out _ hb1).mono ?_); rintro e w2 ⟨rfl, hst2⟩; have hb2 := below_from hb1 hst2)
    | (go_at_call 63; (with_reducible refine (HNw.out _ hb2).mono ?_); intro e w3 hsaid; obtain ⟨v3, rfl, hv3, hst3⟩ := hsaid; obtain ⟨x3, y3, hve3⟩ := hv3.slice; subst hve3; have hb3 := below_from hb2 hst3; have HD3 := Lib.hid hv3; clear hv3))
  obtain ⟨m3, hm3⟩ : ∃ m3, w3.alloc (.cells #[.slice x3 d.length y3, .int .i64 0, .int .i64 0, .int .i64 0, .int .i64 0, .int .i64 0, .int .i64 0] 26) = m3 := ⟨_, rfl⟩
  rw [hm3]
  have hbm3 : Below w3.heap.size w3 m3 := hm3 ▸ below1 (Below.refl _ _) _
  have HN3 : Hid (m3.heap[w3.heap.size]? = some (.cells #[.slice x3 d.length y3, .int .i64 0, .int .i64 0, .int .i64 0, .int .i64 0, .int .i64 0, .int .i64 0] 26)) := Lib.hid (hm3 ▸ heap_new _ _ rfl)
  have hw3 : Below w.heap.size w m3 := below_from hb3 hbm3
  have hlt0 : w.heap.size ≤ w3.heap.size := hb3.size
  have HLR3 : Hid (LinsR m3 (fun b => ¬ b = w3.heap.size) (.slice x3 d.length y3) d) := Lib.hid (SliceR.stable (rdLin_stable false) (DocR.read ((SliceR.bounded (rdLin_stable true) HD3.out).below (rdLin_stable _) hbm3)) (Keeps.refl _ _) (fun b hb _ => by have := hb.2; omega))
  have HW3 := Lib.hid hw3
  clear hm3 hbm3 HD3 hst3 hst2 HSz HMy HNw
  obtain ⟨N, hN⟩ : ∃ N, leftE d = N := ⟨_, rfl⟩
  have HN := Lib.hid hN
  rw [hN] at HOf hlN
  clear hN
  go_upto_region 8 with (first
    | (go_at_call 58; (with_reducible refine (HEn.out _ HW3.out).mono ?_); rintro e w4 ⟨rfl, hst4⟩; have hb4 := below_from HW3.out hst4)
    | (go_at_call 64; (with_reducible refine (HOf.out _ hb4).mono ?_); rintro e w5 ⟨rfl, hst5⟩; have hb5 := below_from hb4 hst5))
  have h35 := below_from hst4 hst5
  have HN5 := Lib.hid (heap_below h35 HN3.out)
  have HLR5 := Lib.hid (HLR3.out.below (rdLin_stable _) h35)
  have HW5 := Lib.hid hb5
  have hB3 : w3.heap.size < w5.heap.size := (Array.getElem?_eq_some_iff.1 HN5.out).1
  clear HEn HOf h35 hst4 hst5 hb5 hb4 HN3 HLR3
  go_loopw [7] (fun z wr => ∃ (k : Nat) (X : Doc) (x : Option Addr) (y : Nat), z = .int .i64 k ∧ k ≤ N ∧ Hid (leftE X + k = N ∧ headE X = headE d ∧ mayS (closedS X ⟨0, 0⟩) = true) ∧ Hid (wr.heap[w3.heap.size]? = some (.cells #[.slice x X.length y, .int .i64 0, .int .i64 0, .int .i64 0, .int .i64 0, .int .i64 0, .int .i64 0] 26)) ∧ Hid (LinsR wr (fun b => ¬ b = w3.heap.size) (.slice x X.length y) X) ∧ Hid (Below w3.heap.size w5 wr)) (fun z _ => N - (intOf z).toNat)
  case atStart => exact ⟨0, d, x3, y3, rfl, Nat.zero_le _, Lib.hid ⟨HN.out, rfl, H0S.out⟩, HN5, HLR5, Lib.hid (Below.refl _ _)⟩
  case round =>
    obtain ⟨k, X, x, y, rfl, hk, HX, HBt, HLR, HBw⟩ := hrel
    have k0 : (0 : Int) ≤ (k : Int) := Int.natCast_nonneg _
    have hbw : Below w.heap.size w wr := HW5.out.trans (HBw.out.mono hlt0)
    have hBz := (Array.getElem?_eq_some_iff.1 HBt.out).1
    have hsm := may_small (mayS_at HX.out.2.2).1
    have HFo : ∀ Y ey, keyS (closedS X ⟨0, 0⟩) (forthK (closedS X ⟨0, 0⟩)) = (Y, ey) → Calls Tryz.prog 52 #[.agg #[.slice x X.length y, .int .i64 0, .int .i64 0, .int .i64 0, .int .i64 0, .int .i64 0, .int .i64 0]] wr (StSaid (Y, ey) wr) := fun Y ey e => by
      have := typForth_any (.slice x X.length y) (closedS X ⟨0, 0⟩) wr _ HLR.out (HE.out _ hbw) hsm.1 hsm.2
      rw [e] at this
      exact this
    obtain ⟨pt, ft⟩ := blk HBt.out
    by_cases hkN : k < N
    · have hkN' : (k : Int) < (N : Int) := by omega
      have hlf : 0 < leftE X := by have := HX.out.1; omega
      obtain ⟨Y, hY⟩ : ∃ Y, nextE X = Y := ⟨_, rfl⟩
      have HF := Lib.hid (HFo ⟨Y, ⟨0, 0⟩, ⟨0, 0⟩, 0, 0⟩ 0 (hY ▸ forth_next HX.out.2.2 hlf))
      have HX2 : Hid (leftE (nextE X) + (k + 1) = N ∧ headE (nextE X) = headE d ∧ mayS (closedS (nextE X) ⟨0, 0⟩) = true) := Lib.hid ⟨by have h1 := (next_left hlf).1; have h2 := HX.out.1; omega, (next_left hlf).2.1.trans HX.out.2.1, next_may HX.out.2.2 hlf⟩
      rw [hY] at HX2
      clear HFo hlf hsm hY
      go_upto_region 11 with (go_at_call 52; (with_reducible refine HF.out.mono ?_); intro e w6 hsaid; obtain ⟨v6, rfl, hv6, hst6⟩ := hsaid; obtain ⟨x6, y6, hve6⟩ := hv6.slice; subst hve6; have HD6 := Lib.hid hv6; clear hv6)
      obtain ⟨m6, hm6⟩ : ∃ m6, w6.alloc (.cells #[.slice x6 Y.length y6, .int .i64 0, .int .i64 0, .int .i64 0, .int .i64 0, .int .i64 0, .int .i64 0] 26) = m6 := ⟨_, rfl⟩
      rw [hm6]
      have h66 : Below w6.heap.size w6 m6 := hm6 ▸ below1 (Below.refl _ _) _
      have n6 : m6.heap[w6.heap.size]? = some (.cells #[.slice x6 Y.length y6, .int .i64 0, .int .i64 0, .int .i64 0, .int .i64 0, .int .i64 0, .int .i64 0] 26) := hm6 ▸ heap_new _ _ rfl
      have hwm := below_from hst6 h66
      have t6 := heap_below hwm HBt.out
      have HLY : Hid (LinsR m6 (fun b => ¬ b = w3.heap.size) (.slice x6 Y.length y6) Y) := Lib.hid (SliceR.stable (rdLin_stable false) (DocR.read (HD6.out.below h66)) (Keeps.refl _ _) (fun b hb _ e => by have hb : wr.heap.size ≤ b := hb; omega))
      have v1 : ¬ w6.heap.size = w3.heap.size := by have := hst6.size; omega
      clear hm6 pt ft
      obtain ⟨pt, ft⟩ := blk t6
      obtain ⟨pu, fu⟩ := blk n6
      go_wp2_with fail
      obtain ⟨W, hW, nW, cW, kW, zW⟩ := set_st m6 w3.heap.size t6 (.slice x6 Y.length y6) (.int .i64 0) (.int .i64 0) (.int .i64 0) (.int .i64 0) (.int .i64 0) (.int .i64 0)
      rw [hW]
      have HR := Lib.hid (And.intro nW (And.intro (lins_set HLY.out kW zW) ((HBw.out.trans (hwm.mono (Nat.le_of_lt hBz))).trans (cW _ (Nat.le_refl _)))))
      clear nW cW kW zW hW t6 n6 pt ft pu fu
      go_roundw
      case rel => exact ⟨k + 1, Y, x6, y6, by go_num, by omega, HX2, Lib.hid HR.out.1, Lib.hid HR.out.2.1, Lib.hid HR.out.2.2⟩
      case measure => simp [intOf]; omega
    · have hkN' : ¬ (k : Int) < (N : Int) := by omega
      obtain ⟨hf, hXe⟩ := forth_end HX.out.2.2 (by have := HX.out.1; omega)
      have HF := Lib.hid (HFo ⟨[], ⟨0, 0⟩, ⟨0, 0⟩, 0, 0⟩ 7 hf)
      have HXe : Hid (X = [headE d]) := Lib.hid (hXe.trans (by rw [HX.out.2.1]))
      clear HFo hf hXe hsm
      go_upto_region 15 with (go_at_call 52; (with_reducible refine HF.out.mono ?_); intro e w6 hsaid; obtain ⟨v6, rfl, hv6, hst6⟩ := hsaid; obtain ⟨x6, y6, hve6⟩ := hv6.slice; subst hve6; clear hv6)
      obtain ⟨m6, hm6⟩ : ∃ m6, w6.alloc (.cells #[.slice x6 0 y6, .int .i64 0, .int .i64 0, .int .i64 0, .int .i64 0, .int .i64 0, .int .i64 0] 26) = m6 := ⟨_, rfl⟩
      rw [hm6]
      have h66 : Below w6.heap.size w6 m6 := hm6 ▸ below1 (Below.refl _ _) _
      have hwm := below_from hst6 h66
      have hb6 := below_from hbw hwm
      have t6 := heap_below hwm HBt.out
      have HL6 := Lib.hid (HLR.out.below (rdLin_stable _) hwm)
      clear hm6 pt ft
      obtain ⟨pt, ft⟩ := blk t6
      have HT6 := Lib.hid t6
      obtain ⟨_, c0, c1, c2, _, _, _⟩ := HAT.out _ hb6
      have HAT6 := Lib.hid (HAT.out _ hb6)
      clear t6
      go_upto_region 15 with fail
      go_region
      go_upto_region 16 with fail
      obtain ⟨m7, hm7⟩ : ∃ m7, (m6.alloc (.cells #[.int .i64 l0.quote, .slice la0 l0.lists.length lc0, .int .i64 l0.kind, .slice none 0 0] 42)).drew = m7 := ⟨_, rfl⟩
      rw [hm7]
      have h67 : Below m6.heap.size m6 m7 := hm7 ▸ (below1 (Below.refl _ _) _).drew
      have n7 : m7.heap[m6.heap.size]? = some (.cells #[.int .i64 l0.quote, .slice la0 l0.lists.length lc0, .int .i64 l0.kind, .slice none 0 0] 42) := by rw [← hm7, drew_heap]; exact heap_new _ _ rfl
      have hb7 := below_from hb6 h67
      clear hm7 pt ft c0 c1 c2
      obtain ⟨pt, ft⟩ := blk (heap_below h67 HT6.out)
      obtain ⟨pu, fu⟩ := blk n7
      have HS : Hid (∀ m8, m7.alloc (.cells #[.int .i64 l0.quote, .slice la0 l0.lists.length lc0, .int .i64 l0.kind, .slice none 0 0] 42) = m8 → Calls Tryz.prog 65 #[.slice x X.length y, .slice (some ⟨m7.heap.size, 0, none⟩) 1 1] m8 fun e w' => e = .returned (.bool true) ∧ Below m8.heap.size m8 w') := Lib.hid fun m8 hm8 => by
        have h78 : Below m7.heap.size m7 m8 := hm8 ▸ below1 (Below.refl _ _) _
        have h68 := below_from h67 h78
        have hA8 := HAT.out m8 (below_from hb7 h78)
        have hone := lins_one (w := m8) (B := m7.heap.size) (S := fun _ => True) l0.quote l0.kind (.slice la0 l0.lists.length lc0) l0.lists (SliceR.stable (rdOf_stable _) hA8.listsR (Keeps.refl _ _) (fun _ _ _ => trivial)) (hm8 ▸ heap_new _ _ rfl) trivial
        have := refSame_any (.slice x X.length y) (.slice (some ⟨m7.heap.size, 0, none⟩) 1 1) X [⟨l0.quote, l0.lists, l0.kind, []⟩] m8 _ _ (HL6.out.below (rdLin_stable _) h68) hone
        rw [decide_eq_true (HXe.out.trans (by rw [HHd.out]))] at this
        exact this
      go_wp2_with (first
        | (go_at_call 65; (with_reducible refine (HS.out _ rfl).mono ?_); rintro e w9 ⟨rfl, hst9⟩; have hb9 : Below w.heap.size w w9 := below_from (below1 hb7 _) hst9)
        | (go_at_call 44; (with_reducible refine (HA.out _ hb9).mono ?_); rintro e wz ⟨rfl, hstz⟩))
      go_ret
      exact ⟨rfl, below_from hb9 hstz⟩
end Go.Proofs.YtpndnbjpnajaaaaGreatDoor
