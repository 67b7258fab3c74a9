/- The walk of the law RenderHost. -/
import Derived.Test.YteognfhemmogpaaGreatDoorRenLongH
import Derived.Test.YteognfhemmogpaaGreatDoorRfPutH
import Derived.Test.YteognfhemmogpaaGreatDoorPartBaseH
import Derived.BigQuiet
set_option linter.unusedVariables false
set_option linter.unusedSimpArgs false
namespace Go.Proofs.YteognfhemmogpaaGreatDoor
open Go.RowKit
open Go.Proofs.Qw
attribute [local go_sem ↓] Go.wp_at_zero Go.wp_at_succ
theorem sml_fits {d : Doc} (h : Sml d) : Fits d := ⟨by have := h.len; omega, fun l hl => ⟨by have := (h.lin l hl).1; omega, by
 obtain ⟨k, hk⟩ := List.getElem?_of_mem hl
 have h1 := cells_le hk
 have h2 := h.size
 omega⟩⟩
set_option maxRecDepth 100000 in
set_option maxHeartbeats 8000000 in
theorem lawRenHost_any (v : Value) (d : Doc) (w : World) (S : Nat → Prop) (h : LinsR w S v d) (hs : Sane d) (he : EnvT w) :
  Calls Tryz.prog 3 #[v] w fun e w' => e = .returned (.bool true) ∧ Below w.heap.size w w' := by
 have HA : Hid (∀ W, Below w.heap.size w W → Calls Tryz.prog 8 #[] W fun e w' => e = .returned (.bool true) ∧ Below W.heap.size W w') := Lib.hid fun W hW => awake19_any W (he.below hW)
 have HL : Hid (Calls Tryz.prog 6 #[v] w (LongSaid d w)) := Lib.hid (long19_any v d w S h hs)
 have HE := Lib.hid he
 obtain ⟨a, c, rfl, hc, hm, hx⟩ := lins_shape h
 have HX := Lib.hid hx
 have HH := Lib.hid h
 unfold maxLen at hm
 clear h hs he hx
 go_enter Tryz.func3, Tryz.ntmps3
 go_wp2_with fail
 refine HL.out.mono ?_
 rintro e w1 ⟨r, rfl, hr, hb1⟩
 cases r
 ·have hsm := hr rfl
  have HSm := Lib.hid hsm
  have hsz := hsm.size
  have HSz : Hid (∀ W, Below w.heap.size w W → Calls Tryz.prog 7 #[.slice a d.length c] W fun e w' => e = .returned (.int .i64 (sizeD d)) ∧ Below W.heap.size W w') := Lib.hid fun W hW => refSize_any _ d W S (HH.out.below (rdLin_stable _) hW) (by omega)
  obtain ⟨sz, hsz2⟩ : ∃ sz, sizeD d = sz := ⟨_, rfl⟩
  rw [hsz2] at HSz hsz
  clear hr hsm hsz2 HL
  by_cases h6 : 600 < sz
  ·have hd : decide ((600 : Int) < (sz : Int)) = true := decide_eq_true (by omega)
   have hd2 : decide (600 < sz) = true := decide_eq_true h6
   go_wp2_with (first
    | (go_at_call 7; (with_reducible refine (HSz.out _ hb1).mono ?_); rintro e w2 ⟨rfl, hb2⟩; have hx2 := below_from hb1 hb2)
    | (go_at_call 8; refine (HA.out _ hx2).mono ?_; rintro e w4 ⟨rfl, hb4⟩))
   go_ret
   exact ⟨rfl, below_from hx2 hb4⟩
  ·have hd : decide ((600 : Int) < (sz : Int)) = false := decide_eq_false (by omega)
   have hd2 : decide (600 < sz) = false := decide_eq_false h6
   have HOw : Hid (∀ W, Below w.heap.size w W → Calls Tryz.prog 9 #[.slice a d.length c] W fun e w' => ∃ oa oc, e = .returned (.slice oa d.length oc) ∧ LinsR w' (fun b => W.heap.size ≤ b) (.slice oa d.length oc) d ∧ Below W.heap.size W w') := Lib.hid fun W hW => (refOwnD_any _ d W S (HH.out.below (rdLin_stable _) hW) (sml_fits HSm.out)).mono fun _ _ ⟨v', h1, h2, h3⟩ => by
    have h2 := DocR.read h2
    obtain ⟨oa, oc, rfl⟩ := h2.slice
    exact ⟨oa, oc, h1, h2, h3⟩
   go_upto_region 5 with (first
    | (go_at_call 7; (with_reducible refine (HSz.out _ hb1).mono ?_); rintro e w2 ⟨rfl, hb2⟩; have hx2 := below_from hb1 hb2)
    | (go_at_call 9; (with_reducible refine (HOw.out _ hx2).mono ?_); rintro e w3 ⟨oa, oc, rfl, hv3, hb3⟩; have HV3 := Lib.hid hv3; have hx3 := below_from hx2 hb3; clear hv3))
   obtain ⟨oa', oc', e', hoc, hom, hox⟩ := lins_shape HV3.out
   cases e'
   have HOX := Lib.hid hox
   have HX3 := Lib.hid hx3
   unfold maxLen at hom
   clear hox hx3 hb1 hb2 hx2 hb3 HSz HOw
   go_loopw [4] (fun i wr => ∃ k : Nat, k ≤ d.length ∧ i = .int .i64 k ∧ Hid (Below w3.heap.size w3 wr)) (fun i _ => d.length - (intOf i).toNat)
   case atStart => exact ⟨0, Nat.zero_le _, rfl, Lib.hid (Below.refl _ _)⟩
   case round =>
    obtain ⟨k, hk, rfl, HBr⟩ := hrel
    by_cases hlt : k < d.length
    ·obtain ⟨x, hx, _⟩ := getOf d k hlt
     obtain ⟨b, o, la, lc, ca, cc, rfl, hA1⟩ := HX.out k x hx
     obtain ⟨b2, o2, ma, mc, na, nc, rfl, hA2⟩ := HOX.out k x hx
     have hll : x.lists.length ≤ 1000000 := by
      have := (HSm.out.lin x (List.mem_of_getElem? hx)).1
      omega
     have HCL : Hid (∀ X, Below w3.heap.size w3 X → X.cell? ⟨b, o + k * 4, none⟩ = some (.int .i64 x.quote) ∧ X.cell? ⟨b, o + k * 4 + 1, none⟩ = some (.slice la x.lists.length lc) ∧ X.cell? ⟨b, o + k * 4 + 2, none⟩ = some (.int .i64 x.kind) ∧ X.cell? ⟨b, o + k * 4 + 3, none⟩ = some (.slice ca x.cells.length cc) ∧ X.cell? ⟨b2, o2 + k * 4, none⟩ = some (.int .i64 x.quote) ∧ X.cell? ⟨b2, o2 + k * 4 + 1, none⟩ = some (.slice ma x.lists.length mc) ∧ X.cell? ⟨b2, o2 + k * 4 + 2, none⟩ = some (.int .i64 x.kind) ∧ X.cell? ⟨b2, o2 + k * 4 + 3, none⟩ = some (.slice na x.cells.length nc)) := Lib.hid fun X hX => by
      obtain ⟨_, e0, e1, e2, e3, _, _⟩ := hA1.below (below_from HX3.out hX)
      obtain ⟨_, m0, m1, m2, m3, _, _⟩ := hA2.below hX
      exact ⟨e0, e1, e2, e3, m0, m1, m2, m3⟩
     obtain ⟨W, hW⟩ : ∃ W, wayL x = W := ⟨_, rfl⟩
     have hWl : W.length ≤ 1000006 := by
      have := way_most x
      rw [hW] at this
      omega
     have HWa : Hid (∀ X, Below w3.heap.size w3 X → Calls Tryz.prog 10 #[.agg #[.int .i64 x.quote, .slice la x.lists.length lc, .int .i64 x.kind, .slice ca x.cells.length cc]] X fun e X' => ∃ va vc, e = .returned (.slice va W.length vc) ∧ IntsR false X' (fun _ => True) (.slice va W.length vc) W ∧ Below X.heap.size X X') := Lib.hid fun X hX => (way_any x (.slice la x.lists.length lc) ca x.cells.length cc X X S ((hA1.below (below_from HX3.out hX)).listsR) (Below.refl _ _) hll).mono fun _ _ ⟨v', h1, h2, h3⟩ => by
      rw [hW] at h2
      obtain ⟨va, vc, rfl⟩ := h2.slice
      exact ⟨va, vc, h1, (h2.read fun _ _ h => h).stable (rdOf_stable _) (Keeps.refl _ _) (fun _ _ _ => trivial), h3⟩
     have HWb : Hid (∀ X, Below w3.heap.size w3 X → Calls Tryz.prog 11 #[.agg #[.int .i64 x.quote, .slice ma x.lists.length mc, .int .i64 x.kind, .slice na x.cells.length nc]] X fun e X' => ∃ va vc, e = .returned (.slice va W.length vc) ∧ IntsR false X' (fun _ => True) (.slice va W.length vc) W ∧ Below X.heap.size X X') := Lib.hid fun X hX => (refWay_any x (.slice ma x.lists.length mc) na x.cells.length nc X X _ ((hA2.below hX).listsR) (Below.refl _ _) hll).mono fun _ _ ⟨v', h1, h2, h3⟩ => by
      rw [hW] at h2
      obtain ⟨va, vc, rfl⟩ := h2.slice
      exact ⟨va, vc, h1, (h2.read fun _ _ h => h).stable (rdOf_stable _) (Keeps.refl _ _) (fun _ _ _ => trivial), h3⟩
     have hx0 : Below w3.heap.size w3 wr := HBr.out
     have hx0d : Below w3.heap.size w3 wr.drew := hx0.drew
     obtain ⟨e0, e1, e2, e3, m0, m1, m2, m3⟩ := HCL.out _ hx0
     have i0 : (0 : Int) ≤ (k : Int) := Int.natCast_nonneg _
     have i1 : (k : Int) < (d.length : Int) := by omega
     clear hx hA1 hA2 hW
     go_wp2_with fail
     go_region_held3 (fun X => X.cell? ⟨b, o + k * 4, none⟩ = some (.int .i64 x.quote) ∧ X.cell? ⟨b, o + k * 4 + 1, none⟩ = some (.slice la x.lists.length lc) ∧ X.cell? ⟨b, o + k * 4 + 2, none⟩ = some (.int .i64 x.kind) ∧ X.cell? ⟨b, o + k * 4 + 3, none⟩ = some (.slice ca x.cells.length cc) ∧ X.cell? ⟨b2, o2 + k * 4, none⟩ = some (.int .i64 x.quote) ∧ X.cell? ⟨b2, o2 + k * 4 + 1, none⟩ = some (.slice ma x.lists.length mc) ∧ X.cell? ⟨b2, o2 + k * 4 + 2, none⟩ = some (.int .i64 x.kind) ∧ X.cell? ⟨b2, o2 + k * 4 + 3, none⟩ = some (.slice na x.cells.length nc)) ((first | go_keep | skip))
      (first
       | (go_at_call 10; (with_reducible refine (HWa.out _ (by assumption)).mono ?_); rintro e w5 ⟨pa, pc, rfl, hi, hb⟩; have HWA : Hid (∀ X, Below w5.heap.size w5 X → IntsR false X (fun _ => True) (.slice pa W.length pc) W) := Lib.hid fun X hX => hi.below (rdOf_stable _) hX; have hxw5 : Below w3.heap.size w3 w5 := below_from (by assumption) hb; have hsw5 : Below w5.heap.size w5 w5 := Below.refl _ _; (try have hyw5 : Below w5.heap.size w5 w5 := below_from (by assumption) hb); (try have hzw5 : Below w6.heap.size w6 w5 := below_from (by assumption) hb); obtain ⟨e0, e1, e2, e3, m0, m1, m2, m3⟩ := HCL.out _ hxw5; clear hi hb)
       | (go_at_call 11; (with_reducible refine (HWb.out _ (by assumption)).mono ?_); rintro e w6 ⟨qa, qc, rfl, hi, hb⟩; have HWB : Hid (∀ X, Below w6.heap.size w6 X → IntsR false X (fun _ => True) (.slice qa W.length qc) W) := Lib.hid fun X hX => hi.below (rdOf_stable _) hX; have hxw6 : Below w3.heap.size w3 w6 := below_from (by assumption) hb; have hsw6 : Below w6.heap.size w6 w6 := Below.refl _ _; (try have hyw6 : Below w5.heap.size w5 w6 := below_from (by assumption) hb); (try have hzw6 : Below w6.heap.size w6 w6 := below_from (by assumption) hb); obtain ⟨e0, e1, e2, e3, m0, m1, m2, m3⟩ := HCL.out _ hxw6; clear hi hb))
     all_goals
      go_wp2_with fail
      go_loopw [7] (fun j wi => ∃ q : Nat, q ≤ W.length ∧ j = .int .i64 q ∧ Hid (Below w5.heap.size w5 wi) ∧ Hid (Below w6.heap.size w6 wi) ∧ Hid (Below w3.heap.size w3 wi)) (fun j _ => W.length - (intOf j).toNat)
      case atStart => exact ⟨0, Nat.zero_le _, rfl, Lib.hid (by first | exact hsw5 | exact hyw6), Lib.hid (by first | exact hsw6 | exact hzw5), Lib.hid (by first | exact hxw6 | exact hxw5)⟩
      case round =>
       obtain ⟨q, hq, rfl, HB5, HB6, HBi⟩ := hrel
       by_cases hlt2 : q < W.length
       ·obtain ⟨t, ht, _⟩ := getOf W q hlt2
        obtain ⟨pa', pc', e1', _, hpm, hpx⟩ := ints_shape (HWA.out _ HB5.out)
        cases e1'
        obtain ⟨qa', qc', e2', _, hqm, hqx⟩ := ints_shape (HWB.out _ HB6.out)
        cases e2'
        obtain ⟨b5, o5, rfl, hz5, u5⟩ := hpx q t ht
        obtain ⟨b6, o6, rfl, hz6, u6⟩ := hqx q t ht
        have j0 : (0 : Int) ≤ (q : Int) := Int.natCast_nonneg _
        have j1 : (q : Int) < (W.length : Int) := by omega
        clear ht hpx hqx
        go_wp2_with fail
        go_quiet (fail)
        all_goals go_wp2_with fail
        go_roundw
        case rel => exact ⟨q + 1, hlt2, by go_num, Lib.hid (drewN_below HB5.out), Lib.hid (drewN_below HB6.out), Lib.hid (drewN_below HBi.out)⟩
        case measure => simp [intOf]; omega
       ·obtain rfl : q = W.length := by omega
        go_wp2_with fail
        go_roundw
        case rel => exact ⟨k + 1, hlt, by go_num, HBi⟩
        case measure => simp [intOf]; omega
    ·obtain rfl : k = d.length := by omega
     have hxr : Below w.heap.size w wr := below_from HX3.out HBr.out
     have HSa : Hid (∀ X, Below w3.heap.size w3 X → Calls Tryz.prog 16 #[.slice a d.length c, .slice oa d.length oc] X fun e X' => e = .returned (.bool true) ∧ Below X.heap.size X X') := Lib.hid fun X hX => by
      have := refSame_any _ _ d d X _ _ (HH.out.below (rdLin_stable _) (below_from HX3.out hX)) (HV3.out.below (rdLin_stable _) hX)
      rw [decide_eq_true rfl] at this
      exact this
     have hr0 : Below w3.heap.size w3 wr := HBr.out
     have h3r := HBr.out.size
     obtain ⟨G, hG⟩ : ∃ G, (hostN d).kids = G := ⟨_, rfl⟩
     have hGh : hostN d = .mk 1 [] [] G := by rw [← hG]; rfl
     by_cases hmd : mayD d = true
     ·have HHy : Hid (∀ X, Below w.heap.size w X → Calls Tryz.prog 12 #[.slice a d.length c] X fun e X' => ∃ ka kc, e = .returned (.tuple #[.agg #[.int .i64 1, .slice none 0 0, .string ⟨#[]⟩, .slice ka G.length kc], .int .i64 0]) ∧ NodsR true 40 X' (fun b => X.heap.size ≤ b) (.slice ka G.length kc) G ∧ Below X.heap.size X X') := Lib.hid fun X hX => (host_yes _ d X w S HH.out (HE.out.below hX) hX hmd).mono fun _ _ ⟨k', h1, h2, h3⟩ => by
       rw [hG] at h2
       rw [hGh] at h1
       obtain ⟨ka, kc, rfl⟩ := h2.slice
       exact ⟨ka, kc, h1, h2, h3⟩
      have HRy : Hid (∀ X, Below w3.heap.size w3 X → Calls Tryz.prog 13 #[.slice oa d.length oc] X fun e X' => ∃ ka kc, e = .returned (.tuple #[.agg #[.int .i64 1, .slice none 0 0, .string ⟨#[]⟩, .slice ka G.length kc], .int .i64 0]) ∧ NodsR true 21 X' (fun b => X.heap.size ≤ b) (.slice ka G.length kc) G ∧ Below X.heap.size X X') := Lib.hid fun X hX => (refHost_yes _ d X _ (HV3.out.below (rdLin_stable _) hX) hmd).mono fun _ _ ⟨na, nc, h1, h2, h3⟩ => by
       rw [hG] at h1 h2
       exact ⟨na, nc, h1, h2, h3⟩
      have HSn : Hid (∀ X ka kc na nc (S1 S2 : Nat → Prop), NodsR true 40 X S1 (.slice ka G.length kc) G → NodsR true 21 X S2 (.slice na G.length nc) G → Calls Tryz.prog 14 #[.agg #[.int .i64 1, .slice none 0 0, .string ⟨#[]⟩, .slice ka G.length kc], .agg #[.int .i64 1, .slice none 0 0, .string ⟨#[]⟩, .slice na G.length nc]] X fun e X' => e = .returned (.bool true) ∧ Below X.heap.size X X') := Lib.hid fun X ka kc na nc S1 S2 h1 h2 => by
       have := rsame_all 40 (.mk 1 [] [] G) (.mk 1 [] [] G) (.slice none 0 0) (.slice ka G.length kc) (.slice none 0 0) (.slice na G.length nc) X S1 S2 (SliceR.nil _ _ _ _ _ _) (h1.read fun _ _ g => rdNod_read g) (SliceR.nil _ _ _ _ _ _) (nods_mono' (by omega) (h2.read fun _ _ g => rdNod_read g))
       rw [decide_eq_true rfl] at this
       exact this
      clear hmd hG hGh HE HX HOX
      go_wp2_with (first
       | (go_at_call 12; (with_reducible refine (HHy.out _ hxr).mono ?_); rintro e w4 ⟨ka, kc, rfl, hk4, hb4⟩; have HK4 := Lib.hid hk4; have hx4 : Below w3.heap.size w3 w4 := below_from hr0 hb4; have hq4 : Below wr.heap.size wr w4 := hb4; clear hk4 hb4)
       | (go_at_call 13; (with_reducible refine (HRy.out _ (hx4.alloc hx4.size _)).mono ?_); rintro e w5 ⟨na, nc, rfl, hn5, hb5⟩; have HN5 := Lib.hid hn5; have hx5 : Below w3.heap.size w3 w5 := below_from (hx4.alloc hx4.size _) hb5; have hq5 : Below wr.heap.size wr w5 := below_from (hq4.alloc hq4.size _) hb5; have HK5 := Lib.hid (HK4.out.below (rdNod_stable _ _) (below_from ((Below.refl _ _).alloc (Nat.le_refl _) _) hb5)); have hB5 := Lib.hid (heap_below hb5 (heap_new _ _ rfl)); obtain ⟨u1, t1⟩ := blk hB5.out; have zn : w4.heap.size < w5.heap.size := alloc_le hb5.size; clear hn5 hb5)
       | (go_at_call 14; (with_reducible refine (HSn.out _ _ _ _ _ _ _ (HK5.out.below (rdNod_stable _ _) ((Below.refl _ _).alloc (Nat.le_refl _) _)) (HN5.out.below (rdNod_stable _ _) ((Below.refl _ _).alloc (Nat.le_refl _) _))).mono ?_); rintro e w6 ⟨rfl, hb6⟩; have hx6 : Below w3.heap.size w3 w6 := below_from (hx5.alloc hx5.size _) hb6; have hq6 : Below wr.heap.size wr w6 := below_from (hq5.alloc hq5.size _) hb6; have h56 := Lib.hid (below_from ((Below.refl w5.heap.size w5).alloc (Nat.le_refl _) _) hb6); have hB6 := Lib.hid (heap_below h56.out hB5.out); obtain ⟨u2, t2⟩ := blk hB6.out; clear hb6)
       | (go_at_call 15; (with_reducible refine (spoil19_any 40 _ G wr.heap.size _ (HK5.out.below (rdNod_stable _ _) h56.out)).mono ?_); rintro e w7 ⟨⟨u, rfl⟩, hb7⟩; have hx7 : Below w3.heap.size w3 w7 := hx6.trans (hb7.mono h3r); clear hb7)
       | (go_at_call 16; (with_reducible refine (HSa.out _ hx7).mono ?_); rintro e w8 ⟨rfl, hb8⟩; have hx8 : Below w3.heap.size w3 w8 := below_from hx7 hb8)
       | (go_at_call 8; refine (HA.out _ (below_from HX3.out hx8)).mono ?_; rintro e w9 ⟨rfl, hb9⟩))
      go_ret
      exact ⟨rfl, below_from (below_from HX3.out hx8) hb9⟩
     ·have hmf : mayD d = false := by simpa using hmd
      have HHn : Hid (∀ X, Below w.heap.size w X → Calls Tryz.prog 12 #[.slice a d.length c] X fun e X' => e = .returned (.tuple #[.agg #[.int .i64 0, .slice none 0 0, .string ⟨#[]⟩, .slice none 0 0], .int .i64 1]) ∧ Below X.heap.size X X') := Lib.hid fun X hX => host_no _ d X w S HH.out (HE.out.below hX) hX HSm.out.small hmf
      have HRn : Hid (∀ X, Below w3.heap.size w3 X → Calls Tryz.prog 13 #[.slice oa d.length oc] X fun e X' => e = .returned (.tuple #[.agg #[.int .i64 0, .slice none 0 0, .string ⟨#[]⟩, .slice none 0 0], .int .i64 1]) ∧ Below X.heap.size X X') := Lib.hid fun X hX => refHost_no _ d X _ (HV3.out.below (rdLin_stable _) hX) HSm.out.small hmf
      have HSn : Hid (∀ X, Calls Tryz.prog 14 #[.agg #[.int .i64 0, .slice none 0 0, .string ⟨#[]⟩, .slice none 0 0], .agg #[.int .i64 0, .slice none 0 0, .string ⟨#[]⟩, .slice none 0 0]] X fun e X' => e = .returned (.bool true) ∧ Below X.heap.size X X') := Lib.hid fun X => by
       have := rsame_all 0 (.mk 0 [] [] []) (.mk 0 [] [] []) (.slice none 0 0) (.slice none 0 0) (.slice none 0 0) (.slice none 0 0) X (fun _ => True) (fun _ => True) (SliceR.nil _ _ _ _ _ _) (SliceR.nil _ _ _ _ _ _) (SliceR.nil _ _ _ _ _ _) (SliceR.nil _ _ _ _ _ _)
       rw [decide_eq_true rfl] at this
       exact this
      clear hmd hmf hG hGh HE HX HOX
      go_wp2_with (first
       | (go_at_call 12; (with_reducible refine (HHn.out _ hxr).mono ?_); rintro e w4 ⟨rfl, hb4⟩; have hx4 : Below w3.heap.size w3 w4 := below_from hr0 hb4; clear hb4)
       | (go_at_call 13; (with_reducible refine (HRn.out _ (hx4.alloc hx4.size _)).mono ?_); rintro e w5 ⟨rfl, hb5⟩; have hx5 : Below w3.heap.size w3 w5 := below_from (hx4.alloc hx4.size _) hb5; have hB5 := Lib.hid (heap_below hb5 (heap_new _ _ rfl)); obtain ⟨u1, t1⟩ := blk hB5.out; have zn : w4.heap.size < w5.heap.size := alloc_le hb5.size; clear hb5)
       | (go_at_call 14; (with_reducible refine (HSn.out _).mono ?_); rintro e w6 ⟨rfl, hb6⟩; have hx6 : Below w3.heap.size w3 w6 := below_from (hx5.alloc hx5.size _) hb6; have h56 := Lib.hid (below_from ((Below.refl w5.heap.size w5).alloc (Nat.le_refl _) _) hb6); have hB6 := Lib.hid (heap_below h56.out hB5.out); obtain ⟨u2, t2⟩ := blk hB6.out; clear hb6)
       | (go_at_call 15; (with_reducible refine (spoil19_any 0 _ [] w3.heap.size _ (SliceR.nil _ _ _ _ _ _)).mono ?_); rintro e w7 ⟨⟨u, rfl⟩, hb7⟩; have hx7 : Below w3.heap.size w3 w7 := hx6.trans hb7; clear hb7)
       | (go_at_call 16; (with_reducible refine (HSa.out _ hx7).mono ?_); rintro e w8 ⟨rfl, hb8⟩; have hx8 : Below w3.heap.size w3 w8 := below_from hx7 hb8)
       | (go_at_call 8; refine (HA.out _ (below_from HX3.out hx8)).mono ?_; rintro e w9 ⟨rfl, hb9⟩))
      go_ret
      exact ⟨rfl, below_from (below_from HX3.out hx8) hb9⟩
 ·clear hr
  go_wp2_with (go_at_call 8; refine (HA.out _ hb1).mono ?_; rintro e w4 ⟨rfl, hb4⟩)
  go_ret
  exact ⟨rfl, below_from hb1 hb4⟩
end Go.Proofs.YteognfhemmogpaaGreatDoor
