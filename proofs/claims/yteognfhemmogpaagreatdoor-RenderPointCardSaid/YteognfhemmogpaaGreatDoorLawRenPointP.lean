/- The walk of the law RenderPoint. -/
import Derived.Test.YteognfhemmogpaaGreatDoorRenLongP
import Derived.Test.YteognfhemmogpaaGreatDoorTellsP
import Derived.BigQuiet
set_option linter.unusedVariables false
set_option linter.unusedSimpArgs false
namespace Go.Proofs.YteognfhemmogpaaGreatDoor
open Go.RowKit
open Go.Proofs.Qw
attribute [local go_sem ↓] Go.wp_at_zero Go.wp_at_succ
theorem sml_fitsP {d : Doc} (h : Sml d) : Fits d := ⟨by have := h.len; omega, fun l hl => ⟨by have := (h.lin l hl).1; omega, by
 obtain ⟨k, hk⟩ := List.getElem?_of_mem hl
 have h1 := cells_le hk
 have h2 := h.size
 omega⟩⟩
set_option maxRecDepth 100000 in
set_option maxHeartbeats 8000000 in
theorem lawRenPoint_any (v : Value) (d : Doc) (q : Ps) (w : World) (S : Nat → Prop) (h : LinsR w S v d) (hs : Sane d) (he : EnvT w) :
  Calls Tryz.prog 4 #[v, .agg #[.int .i64 q.line, .int .i64 q.col]] w fun e w' => e = .returned (.bool true) ∧ Below w.heap.size w w' := by
 obtain ⟨W1, hW1⟩ : ∃ W1, w.alloc (.cells #[.int .i64 q.line, .int .i64 q.col] 43) = W1 := ⟨_, rfl⟩
 have hb0 : Below w.heap.size w W1 := hW1 ▸ (Below.refl _ _).alloc (Nat.le_refl _) _
 have HP1 : Hid (W1.heap[w.heap.size]? = some (.cells #[.int .i64 q.line, .int .i64 q.col] 43)) := Lib.hid (hW1 ▸ heap_new _ _ rfl)
 have HB0 := Lib.hid hb0
 have HA : Hid (∀ W, Below w.heap.size w W → Calls Tryz.prog 8 #[] W fun e w' => e = .returned (.bool true) ∧ Below W.heap.size W w') := Lib.hid fun W hW => awake19_any W (he.below hW)
 have HL : Hid (Calls Tryz.prog 6 #[v] W1 (LongSaid d W1)) := Lib.hid (long19_any v d W1 S (h.below (rdLin_stable _) hb0) hs)
 have HE := Lib.hid he
 obtain ⟨a, c, rfl, hc, hm, hx⟩ := lins_shape h
 have HH := Lib.hid h
 unfold maxLen at hm
 clear h hs he hx hb0
 go_enter Tryz.func4, Tryz.ntmps4
 go_wp2_with fail
 refine HL.out.mono ?_
 rintro e w1 ⟨r, rfl, hr, hb1⟩
 have hx1 : Below w.heap.size w w1 := below_from HB0.out hb1
 cases r
 ·have hsm := hr rfl
  have HSm := Lib.hid hsm
  have hsz := hsm.size
  have HSz : Hid (∀ W, Below w.heap.size w W → Calls Tryz.prog 7 #[.slice a d.length c] W fun e w' => e = .returned (.int .i64 (sizeD d)) ∧ Below W.heap.size W w') := Lib.hid fun W hW => refSize_any _ d W S (HH.out.below (rdLin_stable _) hW) (by omega)
  obtain ⟨sz, hsz2⟩ : ∃ sz, sizeD d = sz := ⟨_, rfl⟩
  rw [hsz2] at HSz hsz
  clear hr hsm hsz2 HL
  by_cases h6 : 600 < sz
  ·have hd : decide ((600 : Int) < (sz : Int)) = true := decide_eq_true (by omega)
   have hd2 : decide (600 < sz) = true := decide_eq_true h6
   go_wp2_with (first
    | (go_at_call 7; (with_reducible refine (HSz.out _ hx1).mono ?_); rintro e w2 ⟨rfl, hb2⟩; have hx2 := below_from hx1 hb2)
    | (go_at_call 8; refine (HA.out _ hx2).mono ?_; rintro e w4 ⟨rfl, hb4⟩))
   go_ret
   exact ⟨rfl, below_from hx2 hb4⟩
  ·have hd : decide ((600 : Int) < (sz : Int)) = false := decide_eq_false (by omega)
   have hd2 : decide (600 < sz) = false := decide_eq_false h6
   have HOw : Hid (∀ W, Below w.heap.size w W → Calls Tryz.prog 9 #[.slice a d.length c] W fun e w' => ∃ oa oc, e = .returned (.slice oa d.length oc) ∧ LinsR w' (fun b => W.heap.size ≤ b) (.slice oa d.length oc) d ∧ Below W.heap.size W w') := Lib.hid fun W hW => (refOwnD_any _ d W S (HH.out.below (rdLin_stable _) hW) (sml_fitsP HSm.out)).mono fun _ _ ⟨v', h1, h2, h3⟩ => by
    have h2 := DocR.read h2
    obtain ⟨oa, oc, rfl⟩ := h2.slice
    exact ⟨oa, oc, h1, h2, h3⟩
   -- both Points answer alike
   have HPts : ∃ (R : List Int × Int) (er : Int), Hid (∀ X, Below w.heap.size w X → Calls Tryz.prog 17 #[.slice a d.length c, .agg #[.int .i64 q.line, .int .i64 q.col]] X fun e X' => ∃ qa qc, e = .returned (.tuple #[.agg #[.slice qa R.1.length qc, .int .i64 R.2], .int .i64 er]) ∧ IntsR false X' (fun _ => True) (.slice qa R.1.length qc) R.1 ∧ Below X.heap.size X X') ∧
     Hid (∀ X oa oc (T : Nat → Prop), LinsR X T (.slice oa d.length oc) d → Calls Tryz.prog 18 #[.slice oa d.length oc, .agg #[.int .i64 q.line, .int .i64 q.col]] X fun e X' => ∃ qa qc, e = .returned (.tuple #[.agg #[.slice qa R.1.length qc, .int .i64 R.2], .int .i64 er]) ∧ IntsR false X' (fun _ => True) (.slice qa R.1.length qc) R.1 ∧ Below X.heap.size X X') := by
    by_cases hmd : mayD d = true ∧ isD d q = true
    ·have e := point_is (ok_of_may hmd.1).2 hmd.2
     refine ⟨refPoint d q, 0, Lib.hid fun X hX => ?_, Lib.hid fun X oa oc T hT => refPoint_yes _ d q X T hT hmd.1 hmd.2⟩
     refine (point_yes _ d q X w S HH.out (HE.out.below hX) hX hmd.1 hmd.2).mono fun _ _ ⟨qa, qc, h1, h2, h3⟩ => ?_
     rw [e] at h1 h2
     exact ⟨qa, qc, h1, h2.stable (rdOf_stable _) (Keeps.refl _ _) (fun _ _ _ => trivial), h3⟩
    ·have hno : mayD d = false ∨ isD d q = false := by
      cases hm1 : mayD d
      ·exact .inl rfl
      ·cases hi1 : isD d q
       ·exact .inr rfl
       ·exact absurd ⟨hm1, hi1⟩ hmd
     refine ⟨([], 0), 1, Lib.hid fun X hX => ?_, Lib.hid fun X oa oc T hT => ?_⟩
     ·exact (point_no _ d q X w S HH.out (HE.out.below hX) hX HSm.out.small hno).mono fun _ _ ⟨h1, h3⟩ => ⟨none, 0, h1, SliceR.nil _ _ _ _ _ _, h3⟩
     ·exact (refPoint_no _ d q X T hT HSm.out.small hno).mono fun _ _ ⟨h1, h3⟩ => ⟨none, 0, h1, SliceR.nil _ _ _ _ _ _, h3⟩
   obtain ⟨⟨R1, R2⟩, er, HPt, HRt⟩ := HPts
   clear HE HSm
   go_upto_region 9 with (first
    | (go_at_call 7; (with_reducible refine (HSz.out _ hx1).mono ?_); rintro e w2 ⟨rfl, hb2⟩; have hx2 := below_from hx1 hb2; have hv2 := below_from hb1 hb2)
    | (go_at_call 9; (with_reducible refine (HOw.out _ hx2).mono ?_); rintro e w3 ⟨oa, oc, rfl, ho3, hb3⟩; have HV3 := Lib.hid ho3; have hx3 := below_from hx2 hb3; have hv3 := below_from hv2 hb3; obtain ⟨q1, g1⟩ := blk (heap_below hv3 HP1.out); clear ho3)
    | (go_at_call 17; (with_reducible refine (HPt.out _ hx3).mono ?_); rintro e w4 ⟨pa, pc, rfl, hp4, hb4⟩; have HI4 := Lib.hid hp4; have hx4 := below_from hx3 hb4; have hv4 := below_from hv3 hb4; have h34 := Lib.hid hb4; obtain ⟨q2, g2⟩ := blk (heap_below hv4 HP1.out); have z4 : w.heap.size < w4.heap.size := (Array.getElem?_eq_some_iff.1 (heap_below hv4 HP1.out)).1; clear hp4)
    | (go_at_call 18; (with_reducible refine (HRt.out _ _ _ _ ((HV3.out.below (rdLin_stable _) h34.out).below (rdLin_stable _) ((Below.refl _ _).alloc (Nat.le_refl _) _))).mono ?_); rintro e w5 ⟨ta, tc, rfl, hp5, hb5⟩; have HI5 := Lib.hid hp5; have h45 := Lib.hid (below_from ((Below.refl w4.heap.size w4).alloc (Nat.le_refl _) _) hb5); have hN5 := Lib.hid (heap_below hb5 (heap_new _ _ rfl)); obtain ⟨q3, g3⟩ := blk hN5.out; have z45 : w4.heap.size < w5.heap.size := alloc_le hb5.size; clear hp5 hb5))
   obtain ⟨W6, hW6⟩ : ∃ W6, w5.alloc (.cells #[.slice ta R1.length tc, .int .i64 R2] 45) = W6 := ⟨_, rfl⟩
   rw [hW6]
   have h56 : Below w5.heap.size w5 W6 := hW6 ▸ (Below.refl _ _).alloc (Nat.le_refl _) _
   have h46 : Below w4.heap.size w4 W6 := below_from h45.out h56
   have h36 : Below w3.heap.size w3 W6 := below_from h34.out h46
   have HX3 := Lib.hid hx3
   have HB4 : Hid (∀ X, Below W6.heap.size W6 X → X.heap[w4.heap.size]? = some (.cells #[.slice pa R1.length pc, .int .i64 R2] 45)) := Lib.hid fun X hX => heap_below (below_from h56 hX) hN5.out
   have HB5 : Hid (∀ X, Below W6.heap.size W6 X → X.heap[w5.heap.size]? = some (.cells #[.slice ta R1.length tc, .int .i64 R2] 45)) := Lib.hid fun X hX => heap_below hX (hW6 ▸ heap_new _ _ rfl)
   have HP4 : Hid (∀ X, Below W6.heap.size W6 X → IntsR false X (fun _ => True) (.slice pa R1.length pc) R1) := Lib.hid fun X hX => HI4.out.below (rdOf_stable _) (below_from h46 hX)
   have HP5 : Hid (∀ X, Below W6.heap.size W6 X → IntsR false X (fun _ => True) (.slice ta R1.length tc) R1) := Lib.hid fun X hX => HI5.out.below (rdOf_stable _) (below_from h56 hX)
   have H36 := Lib.hid h36
   clear HPt HRt HSz HOw HB0 hx1 hx2 hx3 hv2 hv3 hx4 hv4 hb1 hb2 hb3 hb4 q1 g1 q2 g2 q3 g3 z4 h56 h46 h36 HI4 HI5 hN5 hW6
   go_loopw [10] (fun i wr => ∃ k : Nat, k ≤ R1.length ∧ i = .int .i64 k ∧ Hid (Below W6.heap.size W6 wr)) (fun i _ => R1.length - (intOf i).toNat)
   case atStart => exact ⟨0, Nat.zero_le _, rfl, Lib.hid (Below.refl _ _)⟩
   case round =>
    obtain ⟨k, hk, rfl, HBr⟩ := hrel
    obtain ⟨u4, t4⟩ := blk (HB4.out _ HBr.out)
    obtain ⟨u5, t5⟩ := blk (HB5.out _ HBr.out)
    by_cases hlt : k < R1.length
    ·obtain ⟨t, ht, _⟩ := getOf R1 k hlt
     obtain ⟨pa', pc', e1', _, hpm, hpx⟩ := ints_shape (HP4.out _ HBr.out)
     cases e1'
     obtain ⟨qa', qc', e2', _, hqm, hqx⟩ := ints_shape (HP5.out _ HBr.out)
     cases e2'
     obtain ⟨b5, o5, rfl, hz5, v5⟩ := hpx k t ht
     obtain ⟨b6, o6, rfl, hz6, v6⟩ := hqx k t ht
     have j0 : (0 : Int) ≤ (k : Int) := Int.natCast_nonneg _
     have j1 : (k : Int) < (R1.length : Int) := by omega
     unfold maxLen at hpm
     clear ht hpx hqx hqm
     go_wp2_with fail
     go_quiet (fail)
     all_goals go_wp2_with fail
     go_roundw
     case rel => exact ⟨k + 1, hlt, by go_num, Lib.hid (drewN_below HBr.out)⟩
     case measure => simp [intOf]; omega
    ·obtain rfl : k = R1.length := by omega
     have h3r : Below w3.heap.size w3 wr := below_from H36.out HBr.out
     have HSa : Hid (Calls Tryz.prog 16 #[.slice a d.length c, .slice oa d.length oc] wr fun e X' => e = .returned (.bool true) ∧ Below wr.heap.size wr X') := Lib.hid <| by
      have := refSame_any _ _ d d wr _ _ (HH.out.below (rdLin_stable _) (below_from HX3.out h3r)) (HV3.out.below (rdLin_stable _) h3r)
      rw [decide_eq_true rfl] at this
      exact this
     have hxr := below_from HX3.out h3r
     go_wp2_with (first
      | (go_at_call 16; (with_reducible refine HSa.out.mono ?_); rintro e w8 ⟨rfl, hb8⟩; have hx8 := below_from hxr hb8)
      | (go_at_call 8; refine (HA.out _ hx8).mono ?_; rintro e w9 ⟨rfl, hb9⟩))
     go_ret
     exact ⟨rfl, below_from hx8 hb9⟩
 ·clear hr
  go_wp2_with (go_at_call 8; refine (HA.out _ hx1).mono ?_; rintro e w4 ⟨rfl, hb4⟩)
  go_ret
  exact ⟨rfl, below_from hx1 hb4⟩
end Go.Proofs.YteognfhemmogpaaGreatDoor
