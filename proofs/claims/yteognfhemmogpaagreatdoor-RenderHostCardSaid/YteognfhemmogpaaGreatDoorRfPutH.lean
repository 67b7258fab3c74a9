/- The walks of render.Way, step. -/
import Derived.Test.YteognfhemmogpaaGreatDoorRenRepH
import Derived.Test.YteognfhemmogpaaGreatDoorHeldTH
import Derived.Test.YteognfhemmogpaaGreatDoorPartBaseH
set_option linter.unusedVariables false
set_option linter.unusedSimpArgs false
namespace Go.Proofs.YteognfhemmogpaaGreatDoor
open Go.RowKit
open Go.Proofs.Qw
attribute [local go_sem ↓] Go.wp_at_zero Go.wp_at_succ
def tagW1 (k : Int) : Int := if k = 0 then 7 else 8
theorem oneV_tag (k : Int) : ∀ u ∈ [Value.int .i64 k], u.oneCell' = true := fun u hu => by simp at hu; subst hu; rfl
theorem src_tag (w : World) (r : Int) (c : Nat) {B : Nat} (hB : B = w.heap.size) : Src Tryz.prog 1 27 (.slice (some ⟨B, 0, none⟩) 1 c) 1 [.int .i64 r] (w.alloc (.cells #[.int .i64 r] 3)) := hB ▸ src_one rowInt w [.int .i64 r] rfl (oneV_tag r) c
theorem slice_any' {α : Type} {t : TypeId} {k : Nat} {R : Rd α} {own : Bool} {w : World} {S : Nat → Prop} {v : Value} {xs : List α} (h : SliceR t k R own w S v xs) : ∃ a n c, v = .slice a n c := by
 obtain ⟨a, c, e⟩ := h.slice
 exact ⟨a, _, c, e⟩
theorem way_eq (l : Lin) : wayL l = List.replicate (min l.quote.toNat 6) 6 ++ l.lists.map tagW1 := rfl
theorem way_most (l : Lin) : (wayL l).length ≤ 6 + l.lists.length := by rw [way_eq]; simp; omega
set_option maxRecDepth 100000 in
set_option maxHeartbeats 4000000 in
theorem way_any (l : Lin) (a : Value) (ca : Option Addr) (cn cc : Nat) (w w0 : World) (S : Nat → Prop) (ha : IntsR false w0 S a l.lists) (h0 : Below w0.heap.size w0 w) (hn : l.lists.length ≤ 1000000) :
  Calls Tryz.prog 10 #[linV l a (.slice ca cn cc)] w fun e w' => ∃ v', e = .returned v' ∧ IntsR true w' (fun b => w.heap.size ≤ b) v' (wayL l) ∧ Below w.heap.size w w' := by
 obtain ⟨la, lc, rfl, hlc, hlm, hlx⟩ := ints_shape ha
 have HX := Lib.hid hlx
 have HW0 := Lib.hid h0
 have HQ : Hid (min (max l.quote 0) 6 = ((min l.quote.toNat 6 : Nat) : Int)) := Lib.hid (by omega)
 have hq6 : min l.quote.toNat 6 ≤ 6 := Nat.min_le_right _ _
 obtain ⟨q, hqq⟩ : ∃ q, min l.quote.toNat 6 = q := ⟨_, rfl⟩
 have HWE := Lib.hid (way_eq l)
 rw [hqq] at HQ hq6 HWE
 obtain ⟨W1, hW1⟩ : ∃ W1, w.alloc (.cells #[.int .i64 l.quote, .slice la l.lists.length lc, .int .i64 l.kind, .slice ca cn cc] 31) = W1 := ⟨_, rfl⟩
 have hb1 : Below w.heap.size w W1 := hW1 ▸ (Below.refl _ _).alloc (Nat.le_refl _) _
 have hz1 : W1.heap.size = w.heap.size + 1 := by rw [← hW1]; simp
 have HB1 : Hid (W1.heap[w.heap.size]? = some (.cells #[.int .i64 l.quote, .slice la l.lists.length lc, .int .i64 l.kind, .slice ca cn cc] 31)) := Lib.hid (hW1 ▸ heap_new _ _ rfl)
 have HBL := Lib.hid hb1
 have HZ1 := Lib.hid hz1
 have HWW := Lib.hid hW1
 unfold maxLen at hlm
 clear ha h0 hlx hqq hb1 hz1 hW1
 unfold linV
 go_enter Tryz.func10, Tryz.ntmps10
 go_wp2_with (go_at_call 22; rw [HWW.out, HQ.out]; refine (rep_any q hq6 _ _ (heap_new _ _ HZ1.out.symm)).mono ?_; rintro e w3 ⟨v3, rfl, hv3, hb3⟩; obtain ⟨ra, rc, hre⟩ := hv3.slice; subst hre; have HV3 := Lib.hid hv3; have hb13 : Below W1.heap.size W1 w3 := below_from ((Below.refl _ _).alloc (Nat.le_refl _) _) hb3; have HB3 := Lib.hid hb13; obtain ⟨q3, g3⟩ := blk (heap_below hb13 HB1.out); clear hv3 hb3 hb13)
 go_loopw [3, 5, 6, 16] (fun o _ _ i wr => ∃ (k : Nat) (oa : Option Addr) (on oc : Nat), k ≤ l.lists.length ∧ i = .int .i64 k ∧ o = .slice oa on oc ∧ on = q + k ∧ Hid (IntsR true wr (fun b => W1.heap.size ≤ b) (.slice oa on oc) (List.replicate q 6 ++ (l.lists.take k).map tagW1)) ∧ Hid (Below W1.heap.size W1 wr)) (fun _ _ _ i _ => l.lists.length - (intOf i).toNat)
 case atStart =>
  refine ⟨0, ra, _, rc, Nat.zero_le _, rfl, rfl, by simp, Lib.hid ?_, HB3⟩
  have h := HV3.out
  rw [List.length_replicate] at h
  refine SliceR.stable (xs := List.replicate q 6 ++ (l.lists.take 0).map tagW1) (rdOf_stable _) ?_ (Keeps.refl _ _) (fun b h _ => h)
  rw [List.take_zero, List.map_nil, List.append_nil]
  refine h.stable (rdOf_stable _) (Keeps.refl _ _) (fun b h _ => ?_)
  have h : (W1.alloc (.cells #[.int .i64 6] 3)).heap.size ≤ b := h
  simp at h
  omega
 case round =>
  clear q3 g3
  obtain ⟨k, oa, on, oc, hk, rfl, rfl, hon, HO, HBr⟩ := hrel
  by_cases hlt : k < l.lists.length
  ·obtain ⟨x, hx, _⟩ := getOf l.lists k hlt
   obtain ⟨b, o, rfl, hz, c0⟩ := HX.out k x hx
   have hbz : b < W1.heap.size := Nat.lt_of_lt_of_le hz (Nat.le_trans HW0.out.size HBL.out.size)
   have c0 := (HBr.out.cell (p := ⟨b, o + k, none⟩) hbz).trans ((below_from HW0.out HBL.out |>.cell (p := ⟨b, o + k, none⟩) hz).trans c0)
   have HT := Lib.hid (by rw [take_some hx, List.map_append, ← List.append_assoc]; rfl : List.replicate q 6 ++ (l.lists.take (k + 1)).map tagW1 = (List.replicate q 6 ++ (l.lists.take k).map tagW1) ++ [tagW1 x])
   have hrl : (List.replicate q 6 ++ (l.lists.take k).map tagW1).length + 1 ≤ 100000000 := by simp; omega
   have HSX : Hid (∀ X, Below wr.heap.size wr X → IntsR true X (fun b => W1.heap.size ≤ b) (.slice oa on oc) (List.replicate q 6 ++ (l.lists.take k).map tagW1)) := Lib.hid fun X hX => HO.out.stable (rdOf_stable _) (.all hX) (fun _ h _ => h)
   have hrs := HBr.out.size
   have i0 : (0 : Int) ≤ (k : Int) := Int.natCast_nonneg _
   have i1 : (k : Int) < (l.lists.length : Int) := by omega
   generalize hrr : List.replicate q 6 ++ (l.lists.take k).map tagW1 = rr at *
   clear hx hrr
   by_cases hx0 : x = 0
   ·have hq0 : (x == 0) = true := by simp [hx0]
    have htg : tagW1 x = 7 := by unfold tagW1; rw [if_pos hx0]
    rw [htg] at HT
    clear htg hx0
    go_wp2_with (at_builtin; go_must (refine wpList_append_R _ rfl _ _ 27 27 rfl rowInt eltInt W1.heap.size (.slice oa on oc) _ (xs := rr) (ys := [7]) (news := [.int .i64 7]) rfl rfl (HSX.out _ (by go_grown)) (by simp; omega) (src_tag _ _ 1 (by simp)) (NewsR.one rfl rfl) hrl ?_); intro v' w8 hR8 hB8 _ _; rw [← HT.out] at hR8; obtain ⟨na, nn, nc, hne⟩ := slice_any' hR8; subst hne; have HR8 := Lib.hid hR8; have HB8 := Lib.hid hB8; clear hR8 hB8)
    go_roundw
    case rel =>
     refine ⟨k + 1, na, nn, nc, hlt, by go_num, rfl, ?_, HR8, Lib.hid (Below.trans (below_from HBr.out ?_) HB8.out)⟩
     ·have := HR8.out.slice
      obtain ⟨a', c', e⟩ := this
      cases e
      simp
      omega
     ·go_grown
    case measure => simp [intOf]; omega
   ·have hq0 : (x == 0) = false := by simp [hx0]
    have htg : tagW1 x = 8 := by unfold tagW1; rw [if_neg hx0]
    rw [htg] at HT
    clear htg hx0
    go_wp2_with (at_builtin; go_must (refine wpList_append_R _ rfl _ _ 27 27 rfl rowInt eltInt W1.heap.size (.slice oa on oc) _ (xs := rr) (ys := [8]) (news := [.int .i64 8]) rfl rfl (HSX.out _ (by go_grown)) (by simp; omega) (src_tag _ _ 1 (by simp)) (NewsR.one rfl rfl) hrl ?_); intro v' w8 hR8 hB8 _ _; rw [← HT.out] at hR8; obtain ⟨na, nn, nc, hne⟩ := slice_any' hR8; subst hne; have HR8 := Lib.hid hR8; have HB8 := Lib.hid hB8; clear hR8 hB8)
    go_roundw
    case rel =>
     refine ⟨k + 1, na, nn, nc, hlt, by go_num, rfl, ?_, HR8, Lib.hid (Below.trans (below_from HBr.out ?_) HB8.out)⟩
     ·have := HR8.out.slice
      obtain ⟨a', c', e⟩ := this
      cases e
      simp
      omega
     ·go_grown
    case measure => simp [intOf]; omega
  ·obtain rfl : k = l.lists.length := by omega
   rw [List.take_length, ← HWE.out] at HO
   go_wp2_with fail
   go_ret
   exact ⟨_, rfl, HO.out.stable (rdOf_stable _) (Keeps.refl _ _) (fun b h _ => Nat.le_trans HBL.out.size h), HBL.out.trans (HBr.out.mono HBL.out.size)⟩
end Go.Proofs.YteognfhemmogpaaGreatDoor
namespace Go.Proofs.Qw
open Go.RowKit
def wrN (w : Wr) : Nod := .mk w.1 w.2 [] []
theorem rep_snoc (k : Nat) (x : Int) : List.replicate (k + 1) x = List.replicate k x ++ [x] := List.replicate_succ'
end Go.Proofs.Qw
namespace Go.Proofs.YteognfhemmogpaaGreatDoor
open Go.RowKit
open Go.Proofs.Qw
attribute [local go_sem ↓] Go.wp_at_zero Go.wp_at_succ
set_option maxRecDepth 100000 in
set_option maxHeartbeats 4000000 in
theorem refWay_any (l : Lin) (a : Value) (ca : Option Addr) (cn cc : Nat) (w w0 : World) (S : Nat → Prop) (ha : IntsR false w0 S a l.lists) (h0 : Below w0.heap.size w0 w) (hn : l.lists.length ≤ 1000000) :
  Calls Tryz.prog 11 #[linV l a (.slice ca cn cc)] w fun e w' => ∃ v', e = .returned v' ∧ IntsR true w' (fun b => w.heap.size ≤ b) v' (wayL l) ∧ Below w.heap.size w w' := by
 obtain ⟨la, lc, rfl, hlc, hlm, hlx⟩ := ints_shape ha
 have HX := Lib.hid hlx
 have HW0 := Lib.hid h0
 obtain ⟨q, hqq⟩ : ∃ q, min l.quote.toNat 6 = q := ⟨_, rfl⟩
 have hq6 : q ≤ 6 := by omega
 have HQ : Hid (min l.quote.toNat 6 = q) := Lib.hid hqq
 have HWE := Lib.hid (way_eq l)
 rw [hqq] at HWE
 obtain ⟨W1, hW1⟩ : ∃ W1, w.alloc (.cells #[.int .i64 l.quote, .slice la l.lists.length lc, .int .i64 l.kind, .slice ca cn cc] 31) = W1 := ⟨_, rfl⟩
 have hb1 : Below w.heap.size w W1 := hW1 ▸ (Below.refl _ _).alloc (Nat.le_refl _) _
 have hz1 : w.heap.size < W1.heap.size := by rw [← hW1]; simp
 have HB1 : Hid (W1.heap[w.heap.size]? = some (.cells #[.int .i64 l.quote, .slice la l.lists.length lc, .int .i64 l.kind, .slice ca cn cc] 31)) := Lib.hid (hW1 ▸ heap_new _ _ rfl)
 have HBL := Lib.hid hb1
 have HZ1 := Lib.hid hz1
 unfold maxLen at hlm
 clear ha h0 hlx hqq hb1 hz1
 unfold linV
 go_enter Tryz.func11, Tryz.ntmps11
 go_wp2_with fail
 go_loopw [3, 4] (fun o i wr => ∃ (k : Nat) (oa : Option Addr) (on oc : Nat), k ≤ q ∧ i = .int .i64 k ∧ o = .slice oa on oc ∧ on = k ∧ Hid (IntsR true wr (fun b => W1.heap.size ≤ b) (.slice oa on oc) (List.replicate k 6)) ∧ Hid (Below W1.heap.size W1 wr)) (fun _ i _ => q - (intOf i).toNat)
 case atStart => exact ⟨0, none, 0, 0, Nat.zero_le _, rfl, rfl, rfl, Lib.hid (SliceR.nil _ _ _ _ _ _), Lib.hid (Below.refl _ _)⟩
 case round =>
  obtain ⟨k, oa, on, oc, hk, rfl, rfl, hon, HO, HBr⟩ := hrel
  obtain ⟨q3, g3⟩ := blk (heap_below HBr.out HB1.out)
  have hrs := HBr.out.size
  by_cases hlt : k < q
  ·have hd1 : decide ((k : Int) < l.quote) = true := decide_eq_true (by have := HQ.out; omega)
   have hd2 : decide ((k : Int) < 6) = true := decide_eq_true (by omega)
   have hd3 : decide (k < 6) = true := decide_eq_true (by omega)
   have HT := Lib.hid (rep_snoc k 6)
   have HSX : Hid (∀ X, Below wr.heap.size wr X → IntsR true X (fun b => W1.heap.size ≤ b) (.slice oa on oc) (List.replicate k 6)) := Lib.hid fun X hX => HO.out.stable (rdOf_stable _) (.all hX) (fun _ h _ => h)
   have hrl : (List.replicate k (6 : Int)).length + 1 ≤ 100000000 := by simp; omega
   generalize hrr : List.replicate k (6 : Int) = rr at *
   clear hrr
   go_wp2_with (at_builtin; go_must (refine wpList_append_R _ rfl _ _ 27 27 rfl rowInt eltInt W1.heap.size (.slice oa on oc) _ (xs := rr) (ys := [6]) (news := [.int .i64 6]) rfl rfl (HSX.out _ (by go_grown)) (by simp; omega) (src_tag _ _ 1 (by simp)) (NewsR.one rfl rfl) hrl ?_); intro v' w8 hR8 hB8 _ _; rw [← HT.out] at hR8; obtain ⟨na, nn, nc, hne⟩ := slice_any' hR8; subst hne; have HR8 := Lib.hid hR8; have HB8 := Lib.hid hB8; clear hR8 hB8)
   go_roundw
   case rel =>
    refine ⟨k + 1, na, nn, nc, hlt, by go_num, rfl, ?_, HR8, Lib.hid (Below.trans (below_from HBr.out ?_) HB8.out)⟩
    ·obtain ⟨a', c', e⟩ := HR8.out.slice
     cases e
     simp
    ·go_grown
   case measure => simp [intOf]; omega
  ·obtain rfl : k = q := by omega
   have hcs : decide ((k : Int) < l.quote) = false ∨ (decide ((k : Int) < l.quote) = true ∧ decide ((k : Int) < 6) = false) := by
    have := HQ.out
    by_cases h : (k : Int) < l.quote
    ·exact .inr ⟨decide_eq_true h, decide_eq_false (by omega)⟩
    ·exact .inl (decide_eq_false h)
   rcases hcs with hd1 | ⟨hd1, hd2⟩
   all_goals
    go_wp2_with fail
    go_loopw [3, 5] (fun o i wr => ∃ (j : Nat) (oa : Option Addr) (on oc : Nat), j ≤ l.lists.length ∧ i = .int .i64 j ∧ o = .slice oa on oc ∧ Hid (IntsR true wr (fun b => W1.heap.size ≤ b) (.slice oa on oc) (List.replicate k 6 ++ (l.lists.take j).map tagW1)) ∧ Hid (Below W1.heap.size W1 wr)) (fun _ i _ => l.lists.length - (intOf i).toNat)
    case atStart => exact ⟨0, oa, on, oc, Nat.zero_le _, rfl, rfl, Lib.hid (by rw [List.take_zero, List.map_nil, List.append_nil]; exact HO.out), HBr⟩
    case round =>
     clear q3 g3 HO HBr hrs
     obtain ⟨j, oa, on, oc, hj, rfl, rfl, HO, HBr⟩ := hrel
     obtain ⟨q3, g3⟩ := blk (heap_below HBr.out HB1.out)
     have hrs := HBr.out.size
     by_cases hlt : j < l.lists.length
     ·obtain ⟨x, hx, _⟩ := getOf l.lists j hlt
      obtain ⟨b, o, rfl, hz, c0⟩ := HX.out j x hx
      have hbz : b < W1.heap.size := Nat.lt_of_lt_of_le hz (Nat.le_trans HW0.out.size HBL.out.size)
      have c0 := (HBr.out.cell (p := ⟨b, o + j, none⟩) hbz).trans ((below_from HW0.out HBL.out |>.cell (p := ⟨b, o + j, none⟩) hz).trans c0)
      have HT := Lib.hid (by rw [take_some hx, List.map_append, ← List.append_assoc]; rfl : List.replicate k 6 ++ (l.lists.take (j + 1)).map tagW1 = (List.replicate k 6 ++ (l.lists.take j).map tagW1) ++ [tagW1 x])
      have hrl : (List.replicate k 6 ++ (l.lists.take j).map tagW1).length + 1 ≤ 100000000 := by simp; omega
      have HSX : Hid (∀ X, Below wr.heap.size wr X → IntsR true X (fun b => W1.heap.size ≤ b) (.slice oa on oc) (List.replicate k 6 ++ (l.lists.take j).map tagW1)) := Lib.hid fun X hX => HO.out.stable (rdOf_stable _) (.all hX) (fun _ h _ => h)
      have i0 : (0 : Int) ≤ (j : Int) := Int.natCast_nonneg _
      have i1 : (j : Int) < (l.lists.length : Int) := by omega
      generalize hrr : List.replicate k 6 ++ (l.lists.take j).map tagW1 = rr at *
      clear hx hrr
      by_cases hx0 : x = 0
      ·have hq0 : (x == 0) = true := by simp [hx0]
       have htg : tagW1 x = 7 := by unfold tagW1; rw [if_pos hx0]
       rw [htg] at HT
       clear htg hx0
       go_wp2_with (at_builtin; go_must (refine wpList_append_R _ rfl _ _ 27 27 rfl rowInt eltInt W1.heap.size (.slice oa on oc) _ (xs := rr) (ys := [7]) (news := [.int .i64 7]) rfl rfl (HSX.out _ (by go_grown)) (by simp; omega) (src_tag _ _ 1 (by simp)) (NewsR.one rfl rfl) hrl ?_); intro v' w8 hR8 hB8 _ _; rw [← HT.out] at hR8; obtain ⟨na, nn, nc, hne⟩ := slice_any' hR8; subst hne; have HR8 := Lib.hid hR8; have HB8 := Lib.hid hB8; clear hR8 hB8)
       go_roundw
       case rel => exact ⟨j + 1, na, nn, nc, hlt, by go_num, rfl, HR8, Lib.hid (Below.trans (below_from HBr.out (by go_grown)) HB8.out)⟩
       case measure => simp [intOf]; omega
      ·have hq0 : (x == 0) = false := by simp [hx0]
       have htg : tagW1 x = 8 := by unfold tagW1; rw [if_neg hx0]
       rw [htg] at HT
       clear htg hx0
       go_wp2_with (at_builtin; go_must (refine wpList_append_R _ rfl _ _ 27 27 rfl rowInt eltInt W1.heap.size (.slice oa on oc) _ (xs := rr) (ys := [8]) (news := [.int .i64 8]) rfl rfl (HSX.out _ (by go_grown)) (by simp; omega) (src_tag _ _ 1 (by simp)) (NewsR.one rfl rfl) hrl ?_); intro v' w8 hR8 hB8 _ _; rw [← HT.out] at hR8; obtain ⟨na, nn, nc, hne⟩ := slice_any' hR8; subst hne; have HR8 := Lib.hid hR8; have HB8 := Lib.hid hB8; clear hR8 hB8)
       go_roundw
       case rel => exact ⟨j + 1, na, nn, nc, hlt, by go_num, rfl, HR8, Lib.hid (Below.trans (below_from HBr.out (by go_grown)) HB8.out)⟩
       case measure => simp [intOf]; omega
     ·obtain rfl : j = l.lists.length := by omega
      rw [List.take_length, ← HWE.out] at HO
      go_wp2_with fail
      go_ret
      exact ⟨_, rfl, HO.out.stable (rdOf_stable _) (Keeps.refl _ _) (fun b h _ => Nat.le_trans HBL.out.size h), HBL.out.trans (HBr.out.mono HBL.out.size)⟩
end Go.Proofs.YteognfhemmogpaaGreatDoor
namespace Go.Proofs.Qw
open Go.RowKit Go.Proofs.YteognfhemmogpaaGreatDoor
theorem tbR (n i : Nat) : n &&& 2 ^ i = if (n / 2 ^ i) % 2 = 0 then 0 else 2 ^ i := by
 apply Nat.eq_of_testBit_eq
 intro k
 rw [Nat.testBit_and, Nat.testBit_two_pow]
 by_cases hk : i = k
 ·subst hk
  rw [Nat.testBit_eq_decide_div_mod_eq]
  by_cases h : n / 2 ^ i % 2 = 0
  ·rw [if_pos h]; simp [h]
  ·have : n / 2 ^ i % 2 = 1 := by omega
   rw [if_neg h]; simp [this]
 ·by_cases h : n / 2 ^ i % 2 = 0
  ·rw [if_pos h]; simp [hk]
  ·rw [if_neg h, Nat.testBit_two_pow]; simp [hk]
theorem and_bitR : ∀ (i : Nat), i ≤ 3 → ∀ (y : Int), bits .and .i64 y (2 ^ i) = if (y / 2 ^ i) % 2 = 0 then 0 else 2 ^ i := by
 intro i hi y
 have h : (BitVec.ofInt 64 y &&& BitVec.ofInt 64 (2 ^ i)).toNat = if (y / 2 ^ i) % 2 = 0 then 0 else 2 ^ i := by
  have e : (BitVec.ofInt 64 ((2 : Int) ^ i)).toNat = 2 ^ i := by
   match i, hi with
   | 0, _ => rfl
   | 1, _ => rfl
   | 2, _ => rfl
   | 3, _ => rfl
  rw [BitVec.toNat_and, e, BitVec.toNat_ofInt, tbR]
  have : ((y % 2 ^ 64).toNat / 2 ^ i) % 2 = 0 ↔ (y / 2 ^ i) % 2 = 0 := by
   match i, hi with
   | 0, _ => simp; omega
   | 1, _ => simp; omega
   | 2, _ => simp; omega
   | 3, _ => simp; omega
  by_cases hc : (y / 2 ^ i) % 2 = 0
  ·rw [if_pos hc]; exact if_pos (this.2 hc)
  ·rw [if_neg hc]; exact if_neg (fun e => hc (this.1 e))
 unfold bits
 simp only
 show IntKind.i64.wrap ((BitVec.ofInt 64 y &&& BitVec.ofInt 64 (2 ^ i)).toNat : Int) = _
 rw [h]
 match i, hi with
 | 0, _ => split <;> decide +kernel
 | 1, _ => split <;> decide +kernel
 | 2, _ => split <;> decide +kernel
 | 3, _ => split <;> decide +kernel
theorem shr_bit (j : Nat) (hj : j ≤ 3) (x : Int) : bits .and .i64 (x.fdiv (2 ^ j)) 1 = if bits .and .i64 x (2 ^ j) = 0 then 0 else 1 := by
 have h0 := and_bitR 0 (by omega) (x.fdiv (2 ^ j))
 have h1 := and_bitR j hj x
 have e : x.fdiv (2 ^ j) = x / 2 ^ j := by rw [Int.fdiv_eq_ediv_of_nonneg]; exact Int.pow_nonneg (by decide)
 have hp : ((2 : Int) ^ j) ≠ 0 := by
  match j, hj with
  | 0, _ => decide
  | 1, _ => decide
  | 2, _ => decide
  | 3, _ => decide
 rw [e] at h0 ⊢
 have h0 : bits .and .i64 (x / 2 ^ j) 1 = if (x / 2 ^ j / 1) % 2 = 0 then 0 else 1 := h0
 rw [h0, h1, Int.ediv_one]
 by_cases h : (x / 2 ^ j) % 2 = 0
 ·rw [if_pos h, if_pos h, if_pos rfl]
 ·rw [if_neg h, if_neg h, if_neg hp]
theorem filterMap_snoc {α β : Type} (f : α → Option β) (l : List α) (x : α) : (l ++ [x]).filterMap f = l.filterMap f ++ (f x).toList := by
 rw [List.filterMap_append, List.filterMap_cons, List.filterMap_nil]
 cases f x <;> rfl
def wrapsUp (j : Nat) (c : Cel) : List Wr := wrapsOf (rowK.take (j + 1)) c
theorem rowK_at : ∀ j, j < 4 → rowK[j + 1]? = some (lvBit j)
 | 0, _ => rfl
 | 1, _ => rfl
 | 2, _ => rfl
 | 3, _ => rfl
theorem wraps_up (j : Nat) (hj : j < 4) (c : Cel) : wrapsUp (j + 1) c = wrapsUp j c ++ (lvBit j c).toList := by
 unfold wrapsUp wrapsOf
 rw [take_some (rowK_at j hj), filterMap_snoc]
theorem wraps_none {j : Nat} (hj : j < 4) {c : Cel} (h : bits .and .i64 c.bits (2 ^ j) = 0) : wrapsUp (j + 1) c = wrapsUp j c := by
 rw [wraps_up j hj]
 unfold lvBit
 rw [if_pos h]
 exact List.append_nil _
theorem wraps_some {j : Nat} (hj : j < 4) {c : Cel} (h : bits .and .i64 c.bits (2 ^ j) ≠ 0) : wrapsUp (j + 1) c = wrapsUp j c ++ [(11 + (j : Int), [])] := by
 rw [wraps_up j hj]
 unfold lvBit
 rw [if_neg h]
 rfl
theorem wraps_all (c : Cel) : wrapsUp 4 c = wrapsOf rowK c := rfl
theorem wraps_href (c : Cel) : wrapsUp 0 c = if c.href = [] then [] else [(10, hrefA c.href)] := by
 unfold wrapsUp wrapsOf
 have e : rowK.take (0 + 1) = [] ++ [lvHref] := rfl
 rw [e, filterMap_snoc]
 unfold lvHref
 by_cases h : c.href = []
 ·rw [if_pos h, if_pos h]; rfl
 ·rw [if_neg h, if_neg h]; rfl
theorem wraps_len (j : Nat) (c : Cel) : (wrapsUp j c).length ≤ 5 := by
 unfold wrapsUp wrapsOf
 have h1 := List.length_filterMap_le (fun k : Cel → Option Wr => k c) (rowK.take (j + 1))
 have h2 : (rowK.take (j + 1)).length ≤ 5 := by rw [List.length_take]; exact Nat.min_le_right _ _
 omega
end Go.Proofs.Qw
namespace Go.Proofs.YteognfhemmogpaaGreatDoor
open Go.RowKit
open Go.Proofs.Qw
attribute [local go_sem ↓] Go.wp_at_zero Go.wp_at_succ
theorem oneV_el (t : Int) (a : Option Addr) (n c : Nat) : ∀ u ∈ [Value.int .i64 t, .slice a n c, .string ⟨#[]⟩, .slice none 0 0], u.oneCell' = true := fun u hu => by
 simp at hu
 rcases hu with rfl | rfl | rfl | rfl <;> rfl
theorem el_news {w : World} {S : Nat → Prop} (t : Int) : NewsR 4 (rdNod true 1) w S [.int .i64 t, .slice none 0 0, .string ⟨#[]⟩, .slice none 0 0] [wrN (t, [])] :=
 NewsR.one rfl ⟨_, _, rfl, SliceR.nil _ _ _ _ _ _, SliceR.nil _ _ _ _ _ _⟩
theorem slice_anyX {α : Type} {t : TypeId} {k : Nat} {R : Rd α} {w : World} {n : Nat} {v : Value} {xs : List α} (h : RwX t k R w n v xs) : ∃ a m c, v = .slice a m c := by
 obtain ⟨a, c, e⟩ := h.slice
 exact ⟨a, _, c, e⟩
theorem RwX.base {α : Type} {t : TypeId} {k : Nat} {R : Rd α} (hR : Stable R) {w : World} {n m : Nat} {v : Value} {xs : List α} (h : RwX t k R w n v xs) (hm : m ≤ n) : RwX t k R w m v xs := by
 obtain ⟨a, c, h1, h2, h3, h | ⟨b, o, rfl, hb, hz, hf, he⟩⟩ := h
 ·exact ⟨a, c, h1, h2, h3, .inl h⟩
 ·refine ⟨_, c, h1, h2, h3, .inr ⟨b, o, rfl, Nat.le_trans hm hb, hz, hf, fun i x hx => ?_⟩⟩
  obtain ⟨vs, g1, g2, g3⟩ := he i x hx
  exact ⟨vs, g1, hR.go _ _ _ _ _ _ g2 (Keeps.refl _ _) (fun _ h _ => ⟨Nat.le_trans hm h.1, h.2⟩), g3⟩
set_option maxRecDepth 100000 in
set_option maxHeartbeats 4000000 in
theorem boxes_any (l : Lin) (a : Value) (ca : Option Addr) (cn cc : Nat) (w w0 : World) (S : Nat → Prop) (ha : IntsR false w0 S a l.lists) (h0 : Below w0.heap.size w0 w) (hn : l.lists.length ≤ 1000000) :
  Calls Tryz.prog 50 #[linV l a (.slice ca cn cc)] w fun e w' => ∃ v', e = .returned v' ∧ RwX 35 4 (rdNod true 1) w' w.heap.size v' ((tagW (wayL l)).map wrN) ∧ Below w.heap.size w w' := by
 have HWy : Hid (∀ W, Below w.heap.size w W → Calls Tryz.prog 11 #[linV l a (.slice ca cn cc)] W fun e w' => ∃ va vc, e = .returned (.slice va (wayL l).length vc) ∧ IntsR false w' (fun _ => True) (.slice va (wayL l).length vc) (wayL l) ∧ Below W.heap.size W w') := Lib.hid fun W hW => (refWay_any l a ca cn cc W w0 S ha (below_from h0 hW) hn).mono fun _ _ ⟨v', h1, h2, h3⟩ => by
  obtain ⟨va, vc, rfl⟩ := h2.slice
  exact ⟨va, vc, h1, (h2.read fun _ _ h => h).stable (rdOf_stable _) (Keeps.refl _ _) (fun _ _ _ => trivial), h3⟩
 have hwl := way_most l
 obtain ⟨wy, hwy⟩ : ∃ wy, wayL l = wy := ⟨_, rfl⟩
 rw [hwy] at HWy hwl ⊢
 have hwl2 : wy.length ≤ 1000006 := by omega
 obtain ⟨la, lc, rfl⟩ := ha.slice
 obtain ⟨W1, hW1⟩ : ∃ W1, w.alloc (.cells #[.int .i64 l.quote, .slice la l.lists.length lc, .int .i64 l.kind, .slice ca cn cc] 31) = W1 := ⟨_, rfl⟩
 have hb1 : Below w.heap.size w W1 := hW1 ▸ (Below.refl _ _).alloc (Nat.le_refl _) _
 have hB1 : W1.heap[w.heap.size]? = some (.cells #[.int .i64 l.quote, .slice la l.lists.length lc, .int .i64 l.kind, .slice ca cn cc] 31) := hW1 ▸ heap_new _ _ rfl
 obtain ⟨p1, f1⟩ := blk hB1
 have HBL := Lib.hid hb1
 clear ha h0 hb1 hB1 hwl hwy
 unfold linV at *
 go_enter Tryz.func50, Tryz.ntmps50
 go_wp2_with (go_at_call 11; refine (HWy.out _ HBL.out).mono ?_; rintro e w2 ⟨va, vc, rfl, hv2, hb2⟩; obtain ⟨va', vc', hve, _, hvm, hvx⟩ := ints_shape hv2; cases hve; have HX := Lib.hid hvx; have HB2 := Lib.hid hb2; clear hv2 hb2 hvx)
 unfold maxLen at hvm
 go_loopw [4, 5] (fun o i wr => ∃ (k : Nat) (oa : Option Addr) (on oc : Nat), k ≤ wy.length ∧ i = .int .i64 k ∧ o = .slice oa on oc ∧ Hid (RwX 35 4 (rdNod true 1) wr w2.heap.size (.slice oa on oc) ((tagW (wy.take k)).map wrN)) ∧ Hid (Below w2.heap.size w2 wr)) (fun _ i _ => wy.length - (intOf i).toNat)
 case atStart => exact ⟨0, none, 0, 0, Nat.zero_le _, rfl, rfl, Lib.hid (RwX.nil _ _ _ _ _), Lib.hid (Below.refl _ _)⟩
 case round =>
  obtain ⟨k, oa, on, oc, hk, rfl, rfl, HO, HBt⟩ := hrel
  have hrs := HBt.out.size
  by_cases hlt : k < wy.length
  ·obtain ⟨x, hx, _⟩ := getOf wy k hlt
   obtain ⟨b, o, rfl, hz, c0⟩ := HX.out k x hx
   have c0 := (HBt.out.cell (p := ⟨b, o + k, none⟩) hz).trans c0
   have HT := Lib.hid (by unfold tagW; rw [take_some hx, List.map_append, List.map_append]; rfl : (tagW (wy.take (k + 1))).map wrN = (tagW (wy.take k)).map wrN ++ [wrN (x, [])])
   have hrl : ((tagW (wy.take k)).map wrN).length + 1 ≤ 100000000 := by unfold tagW; simp; omega
   have HSX : Hid (∀ X, Below wr.heap.size wr X → RwX 35 4 (rdNod true 1) X w2.heap.size (.slice oa on oc) ((tagW (wy.take k)).map wrN)) := Lib.hid fun X hX => HO.out.below (rdNod_stable _ _) (.all hX)
   have i0 : (0 : Int) ≤ (k : Int) := Int.natCast_nonneg _
   have i1 : (k : Int) < (wy.length : Int) := by omega
   generalize hrr : (tagW (wy.take k)).map wrN = rr at *
   clear hx hrr
   go_wp2_with (at_builtin; go_must (refine wpList_append_X _ rfl _ _ 33 33 rfl rowNod (eltNod 1) w2.heap.size (.slice oa on oc) _ (xs := rr) (ys := [wrN (x, [])]) (news := [.int .i64 x, .slice none 0 0, .string ⟨#[]⟩, .slice none 0 0]) rfl rfl (HSX.out _ (by go_grown)) (by simp; omega) (src_node (heap_new _ _ (by simp)) (oneV_el _ _ _ _) 1) (el_news _) hrl ?_); intro v' w8 hR8 hB8 _ _; rw [← HT.out] at hR8; obtain ⟨na, nn, nc, hne⟩ := slice_anyX hR8; subst hne; have HR8 := Lib.hid hR8; have HB8 := Lib.hid hB8; clear hR8 hB8)
   go_roundw
   case rel => exact ⟨k + 1, na, nn, nc, hlt, by go_num, rfl, HR8, Lib.hid (Below.trans (below_from HBt.out (by go_grown)) HB8.out)⟩
   case measure => simp [intOf]; omega
  ·obtain rfl : k = wy.length := by omega
   rw [List.take_length] at HO
   go_wp2_with fail
   go_ret
   exact ⟨_, rfl, RwX.base (rdNod_stable _ _) HO.out (Nat.le_trans HBL.out.size HB2.out.size), HBL.out.trans ((below_from HB2.out HBt.out).mono HBL.out.size)⟩
theorem a_news {w w' : World} {S : Nat → Prop} (hr : List UInt8) (hS : S w.heap.size) (hb : Below (w.alloc (.cells #[.string ⟨#[104, 114, 101, 102]⟩, .string ⟨hr.toArray⟩] 90)).heap.size (w.alloc (.cells #[.string ⟨#[104, 114, 101, 102]⟩, .string ⟨hr.toArray⟩] 90)) w') : NewsR 4 (rdNod true 1) w' S [.int .i64 10, .slice (some ⟨w.heap.size, 0, none⟩) 1 1, .string ⟨#[]⟩, .slice none 0 0] [wrN (10, hrefA hr)] := by
 have h : AttsR true (w.alloc (.cells #[.string ⟨#[104, 114, 101, 102]⟩, .string ⟨hr.toArray⟩] 90)) S (.slice (some ⟨w.heap.size, 0, none⟩) 1 1) (hrefA hr) := SliceR.one_new w [.string ⟨#[104, 114, 101, 102]⟩, .string ⟨hr.toArray⟩] rfl rfl hS
 exact NewsR.one rfl ⟨_, _, rfl, h.below (rdOf_stable _) hb, SliceR.nil _ _ _ _ _ _⟩
set_option maxRecDepth 100000 in
set_option maxHeartbeats 4000000 in
theorem wraps_any (c : Cel) (w : World) :
  Calls Tryz.prog 57 #[.agg #[.int .i32 c.r, .int .i64 c.bits, .string ⟨c.href.toArray⟩]] w fun e w' => ∃ v', e = .returned v' ∧ RwX 35 4 (rdNod true 1) w' w.heap.size v' ((wrapsOf rowK c).map wrN) ∧ Below w.heap.size w w' := by
 obtain ⟨W1, hW1⟩ : ∃ W1, w.alloc (.cells #[.int .i32 c.r, .int .i64 c.bits, .string ⟨c.href.toArray⟩] 51) = W1 := ⟨_, rfl⟩
 have hb1 : Below w.heap.size w W1 := hW1 ▸ (Below.refl _ _).alloc (Nat.le_refl _) _
 have HB1 : Hid (W1.heap[w.heap.size]? = some (.cells #[.int .i32 c.r, .int .i64 c.bits, .string ⟨c.href.toArray⟩] 51)) := Lib.hid (hW1 ▸ heap_new _ _ rfl)
 obtain ⟨p1, f1⟩ := blk HB1.out
 have HBL := Lib.hid hb1
 clear hb1
 have hwh := wraps_href c
 by_cases hr : c.href = []
 ·have hq1 : (c.href == []) = true := by simp [hr]
  have hq2 : c.href.isEmpty = true := by simp [hr]
  rw [if_pos hr] at hwh
  have H0 : Hid (RwX 35 4 (rdNod true 1) W1 W1.heap.size (.slice none 0 0) ((wrapsUp 0 c).map wrN)) := Lib.hid (by rw [hwh]; exact RwX.nil _ _ _ _ _)
  have HBA : Hid (Below W1.heap.size W1 W1) := Lib.hid (Below.refl _ _)
  clear hwh hr
  go_enter Tryz.func57, Tryz.ntmps57
  go_wp2_with fail
  go_loopw [3, 4] (fun o i wr => ∃ (k : Nat) (oa : Option Addr) (on oc : Nat), k ≤ 4 ∧ i = .int .i64 k ∧ o = .slice oa on oc ∧ Hid (RwX 35 4 (rdNod true 1) wr W1.heap.size (.slice oa on oc) ((wrapsUp k c).map wrN)) ∧ Hid (Below W1.heap.size W1 wr)) (fun _ i _ => 4 - (intOf i).toNat)
  case atStart => exact ⟨0, _, _, _, Nat.zero_le _, rfl, rfl, H0, HBA⟩
  case round =>
   clear HBA H0
   obtain ⟨k, oa, on, oc, hk, rfl, rfl, HO, HBr⟩ := hrel
   have hrs := HBr.out.size
   obtain ⟨p2, f2⟩ := blk (heap_below HBr.out HB1.out)
   by_cases hlt : k < 4
   ·have hd1 : decide ((k : Int) < 4) = true := decide_eq_true (by omega)
    have hd2 : decide (k < 4) = true := decide_eq_true hlt
    have hbt := shr_bit k (by omega) c.bits
    rw [show c.bits.fdiv (2 ^ k) = c.bits / 2 ^ k from Int.fdiv_eq_ediv_of_nonneg _ (Int.pow_nonneg (by decide))] at hbt
    have hwk : IntKind.i64.wrap (11 + (k : Int)) = 11 + (k : Int) := by rw [IntKind.wrap_i64]; omega
    have hwl := wraps_len k c
    have hrl : ((wrapsUp k c).map wrN).length + 1 ≤ 100000000 := by rw [List.length_map]; omega
    have HSX : Hid (∀ X, Below wr.heap.size wr X → RwX 35 4 (rdNod true 1) X W1.heap.size (.slice oa on oc) ((wrapsUp k c).map wrN)) := Lib.hid fun X hX => HO.out.below (rdNod_stable _ _) (.all hX)
    by_cases h0 : bits .and .i64 c.bits (2 ^ k) = 0
    ·have HT := Lib.hid (wraps_none hlt h0)
     rw [if_pos h0] at hbt
     have hq : (bits .and .i64 (c.bits / 2 ^ k) 1 == 1) = false := by rw [hbt]; rfl
     clear hbt h0 hwl HSX
     go_wp2_with fail
     go_roundw
     case rel => exact ⟨k + 1, oa, on, oc, hlt, by go_num, rfl, Lib.hid (by rw [HT.out]; exact HO.out), HBr⟩
     case measure => simp [intOf]; omega
    ·have HT : Hid ((wrapsUp (k + 1) c).map wrN = (wrapsUp k c).map wrN ++ [wrN (11 + (k : Int), [])]) := Lib.hid (by rw [wraps_some hlt h0, List.map_append]; rfl)
     rw [if_neg h0] at hbt
     have hq : (bits .and .i64 (c.bits / 2 ^ k) 1 == 1) = true := by rw [hbt]; rfl
     clear hbt h0 hwl
     generalize hrr : (wrapsUp k c).map wrN = rr at *
     clear hrr
     go_wp2_with (at_builtin; go_must (refine wpList_append_X _ rfl _ _ 33 33 rfl rowNod (eltNod 1) W1.heap.size (.slice oa on oc) _ (xs := rr) (ys := [wrN (11 + (k : Int), [])]) (news := [.int .i64 (11 + (k : Int)), .slice none 0 0, .string ⟨#[]⟩, .slice none 0 0]) rfl rfl (HSX.out _ (by go_grown)) (by simp; omega) (src_node (heap_new _ _ (by simp)) (oneV_el _ _ _ _) 1) (el_news _) hrl ?_); intro v' w8 hR8 hB8 _ _; rw [← HT.out] at hR8; obtain ⟨na, nn, nc, hne⟩ := slice_anyX hR8; subst hne; have HR8 := Lib.hid hR8; have HB8 := Lib.hid hB8; clear hR8 hB8)
     go_roundw
     case rel => exact ⟨k + 1, na, nn, nc, hlt, by go_num, rfl, HR8, Lib.hid (Below.trans (below_from HBr.out (by go_grown)) HB8.out)⟩
     case measure => simp [intOf]; omega
   ·obtain rfl : k = 4 := by omega
    rw [wraps_all] at HO
    go_wp2_with fail
    go_ret
    exact ⟨_, rfl, RwX.base (rdNod_stable _ _) HO.out HBL.out.size, HBL.out.trans (HBr.out.mono HBL.out.size)⟩
 ·have hq1 : (c.href == []) = false := by simp [hr]
  have hq2 : c.href.isEmpty = false := by cases hc : c.href; exact absurd hc hr; rfl
  rw [if_neg hr] at hwh
  clear hr
  go_enter Tryz.func57, Tryz.ntmps57
  go_wp2_with (at_builtin; go_must (refine wpList_append_X _ rfl _ _ 33 33 rfl rowNod (eltNod 1) W1.heap.size (.slice none 0 0) _ (xs := []) (ys := [wrN (10, hrefA c.href)]) (news := [.int .i64 10, .slice (some ⟨W1.heap.size, 0, none⟩) 1 1, .string ⟨#[]⟩, .slice none 0 0]) rfl rfl (RwX.nil _ _ _ _ _) (by simp; omega) (src_node (heap_new _ _ (by simp)) (oneV_el _ _ _ _) 1) (a_news c.href ⟨Nat.le_refl _, by simp [rowBlk]⟩ ((Below.refl _ _).alloc (Nat.le_refl _) _)) (by simp) ?_); intro v' w8 hR8 hB8 _ _; obtain ⟨na, nn, nc, hne⟩ := slice_anyX hR8; subst hne; have HR8 := Lib.hid hR8; have HB8 := Lib.hid hB8; clear hR8 hB8)
  have H0 : Hid (RwX 35 4 (rdNod true 1) w8 W1.heap.size (.slice na nn nc) ((wrapsUp 0 c).map wrN)) := Lib.hid (by rw [hwh]; exact HR8.out)
  have HBA : Hid (Below W1.heap.size W1 w8) := Lib.hid ((((Below.refl _ _).alloc (Nat.le_refl _) _).alloc (by simp) _).trans HB8.out)
  clear hwh HR8 HB8
  go_loopw [3, 4] (fun o i wr => ∃ (k : Nat) (oa : Option Addr) (on oc : Nat), k ≤ 4 ∧ i = .int .i64 k ∧ o = .slice oa on oc ∧ Hid (RwX 35 4 (rdNod true 1) wr W1.heap.size (.slice oa on oc) ((wrapsUp k c).map wrN)) ∧ Hid (Below W1.heap.size W1 wr)) (fun _ i _ => 4 - (intOf i).toNat)
  case atStart => exact ⟨0, _, _, _, Nat.zero_le _, rfl, rfl, H0, HBA⟩
  case round =>
   clear HBA H0
   obtain ⟨k, oa, on, oc, hk, rfl, rfl, HO, HBr⟩ := hrel
   have hrs := HBr.out.size
   obtain ⟨p2, f2⟩ := blk (heap_below HBr.out HB1.out)
   by_cases hlt : k < 4
   ·have hd1 : decide ((k : Int) < 4) = true := decide_eq_true (by omega)
    have hd2 : decide (k < 4) = true := decide_eq_true hlt
    have hbt := shr_bit k (by omega) c.bits
    rw [show c.bits.fdiv (2 ^ k) = c.bits / 2 ^ k from Int.fdiv_eq_ediv_of_nonneg _ (Int.pow_nonneg (by decide))] at hbt
    have hwk : IntKind.i64.wrap (11 + (k : Int)) = 11 + (k : Int) := by rw [IntKind.wrap_i64]; omega
    have hwl := wraps_len k c
    have hrl : ((wrapsUp k c).map wrN).length + 1 ≤ 100000000 := by rw [List.length_map]; omega
    have HSX : Hid (∀ X, Below wr.heap.size wr X → RwX 35 4 (rdNod true 1) X W1.heap.size (.slice oa on oc) ((wrapsUp k c).map wrN)) := Lib.hid fun X hX => HO.out.below (rdNod_stable _ _) (.all hX)
    by_cases h0 : bits .and .i64 c.bits (2 ^ k) = 0
    ·have HT := Lib.hid (wraps_none hlt h0)
     rw [if_pos h0] at hbt
     have hq : (bits .and .i64 (c.bits / 2 ^ k) 1 == 1) = false := by rw [hbt]; rfl
     clear hbt h0 hwl HSX
     go_wp2_with fail
     go_roundw
     case rel => exact ⟨k + 1, oa, on, oc, hlt, by go_num, rfl, Lib.hid (by rw [HT.out]; exact HO.out), HBr⟩
     case measure => simp [intOf]; omega
    ·have HT : Hid ((wrapsUp (k + 1) c).map wrN = (wrapsUp k c).map wrN ++ [wrN (11 + (k : Int), [])]) := Lib.hid (by rw [wraps_some hlt h0, List.map_append]; rfl)
     rw [if_neg h0] at hbt
     have hq : (bits .and .i64 (c.bits / 2 ^ k) 1 == 1) = true := by rw [hbt]; rfl
     clear hbt h0 hwl
     generalize hrr : (wrapsUp k c).map wrN = rr at *
     clear hrr
     go_wp2_with (at_builtin; go_must (refine wpList_append_X _ rfl _ _ 33 33 rfl rowNod (eltNod 1) W1.heap.size (.slice oa on oc) _ (xs := rr) (ys := [wrN (11 + (k : Int), [])]) (news := [.int .i64 (11 + (k : Int)), .slice none 0 0, .string ⟨#[]⟩, .slice none 0 0]) rfl rfl (HSX.out _ (by go_grown)) (by simp; omega) (src_node (heap_new _ _ (by simp)) (oneV_el _ _ _ _) 1) (el_news _) hrl ?_); intro v' w8 hR8 hB8 _ _; rw [← HT.out] at hR8; obtain ⟨na, nn, nc, hne⟩ := slice_anyX hR8; subst hne; have HR8 := Lib.hid hR8; have HB8 := Lib.hid hB8; clear hR8 hB8)
     go_roundw
     case rel => exact ⟨k + 1, na, nn, nc, hlt, by go_num, rfl, HR8, Lib.hid (Below.trans (below_from HBr.out (by go_grown)) HB8.out)⟩
     case measure => simp [intOf]; omega
   ·obtain rfl : k = 4 := by omega
    rw [wraps_all] at HO
    go_wp2_with fail
    go_ret
    exact ⟨_, rfl, RwX.base (rdNod_stable _ _) HO.out HBL.out.size, HBL.out.trans (HBr.out.mono HBL.out.size)⟩
end Go.Proofs.YteognfhemmogpaaGreatDoor
namespace Go.Proofs.YteognfhemmogpaaGreatDoor
open Go.RowKit
open Go.Proofs.Qw
theorem guardAtt : Tryz.prog.eqGuardType Tryz.prog.depth 90 = false := by kernel_rfl
theorem att_cases (x y : Att) : ((x.name == y.name) = true ∧ (x.value == y.value) = true ∧ x = y) ∨ ((x.name == y.name) = false ∧ x ≠ y) ∨ ((x.name == y.name) = true ∧ (x.value == y.value) = false ∧ x ≠ y) := by
 by_cases e1 : x.name = y.name
 ·by_cases e2 : x.value = y.value
  ·exact .inl ⟨by simp [e1], by simp [e2], by obtain ⟨a, b⟩ := x; obtain ⟨c, d⟩ := y; simp_all⟩
  ·exact .inr (.inr ⟨by simp [e1], by simp [e2], by rintro rfl; exact e2 rfl⟩)
 ·exact .inr (.inl ⟨by simp [e1], by rintro rfl; exact e1 rfl⟩)
set_option maxRecDepth 100000 in
set_option maxHeartbeats 4000000 in
theorem refSameA_any (v1 v2 : Value) (d1 d2 : List Att) (w : World) (S1 S2 : Nat → Prop) (h1 : AttsR false w S1 v1 d1) (h2 : AttsR false w S2 v2 d2) :
  Calls Tryz.prog 27 #[v1, v2] w fun e w' => e = .returned (.bool (decide (d1 = d2))) ∧ Below w.heap.size w w' := by
 obtain ⟨a, c, rfl, hc, hm, hx⟩ := atts_shape h1
 obtain ⟨a2, c2, rfl, hc2, hm2, hx2⟩ := atts_shape h2
 have HX := Lib.hid hx
 have HX2 := Lib.hid hx2
 clear hx hx2 h1 h2
 unfold maxLen at hm hm2
 go_enter Tryz.func27, Tryz.ntmps27
 by_cases hl : d1.length = d2.length
 ·have HL := Lib.hid hl
  have hlb : ((d1.length : Int) != d2.length) = false := by simp [hl]
  clear hl
  go_wp2_with fail
  go_loopw [5] (fun i wr => ∃ k : Nat, k ≤ d1.length ∧ i = .int .i64 k ∧ Hid (d1.take k = d2.take k) ∧ Below w.heap.size w wr) (fun i _ => d1.length - (intOf i).toNat)
  case atStart => exact ⟨0, Nat.zero_le _, rfl, Lib.hid rfl, Below.refl _ _⟩
  case round =>
   obtain ⟨k, hk, rfl, HE, hb⟩ := hrel
   by_cases hlt : k < d1.length
   ·obtain ⟨x, hx, _⟩ := getOf d1 k hlt
    obtain ⟨y, hy, _⟩ := getOf d2 k (by have := HL.out; omega)
    obtain ⟨b, o, rfl, hz, c0, c1⟩ := HX.out k x hx; obtain ⟨b2, o2, rfl, hz2, k0, k1⟩ := HX2.out k y hy; have c0 := (hb.cell (p := ⟨b, o + k * 2, none⟩) hz).trans c0; have c1 := (hb.cell (p := ⟨b, o + k * 2 + 1, none⟩) hz).trans c1; have k0 := (hb.cell (p := ⟨b2, o2 + k * 2, none⟩) hz2).trans k0; have k1 := (hb.cell (p := ⟨b2, o2 + k * 2 + 1, none⟩) hz2).trans k1
    have i0 : (0 : Int) ≤ (k : Int) := Int.natCast_nonneg _
    have i1 : (k : Int) < (d1.length : Int) := by omega
    have i2 : (k : Int) < (d2.length : Int) := by have := HL.out; omega
    have HXY := Lib.hid (And.intro hx hy)
    clear hx hy
    have hg := guardAtt
    have hcs := att_cases x y
    rcases hcs with ⟨hq, hq2, hxy⟩ | ⟨hq, hxy⟩ | ⟨hq, hq2, hxy⟩
    ·have HE2 := Lib.hid (take_both HXY.out.1 HXY.out.2 HE.out hxy)
     clear hxy
     go_wp2_with fail
     go_quiet (fail)
     all_goals go_wp2_with fail
     go_roundw
     case rel => exact ⟨k + 1, hlt, by go_num, HE2, drewN_below hb⟩
     case measure => simp [intOf]; omega
    all_goals
     have HN := Lib.hid (ne_at HXY.out.1 HXY.out.2 hxy)
     clear hxy
     go_wp2_with fail
     go_quiet (fail)
     all_goals go_wp2_with fail
     go_ret
     exact ⟨by rw [decide_eq_false HN.out]; rfl, drewN_below hb⟩
   ·obtain rfl : k = d1.length := by omega
    have HD : Hid (d1 = d2) := Lib.hid (by have h1 := HE.out; have h2 := HL.out; rw [List.take_length, h2, List.take_length] at h1; exact h1)
    have HB := Lib.hid hb
    clear hb
    go_wp2_with fail
    go_ret
    exact ⟨by rw [decide_eq_true HD.out]; rfl, HB.out⟩
 ·have hlb : ((d1.length : Int) != d2.length) = true := by simp; omega
  have HL : Hid (d1 ≠ d2) := Lib.hid fun e => hl (e ▸ rfl)
  clear hl
  go_wp2_with fail
  go_ret
  exact ⟨by rw [decide_eq_false HL.out]; rfl, Below.refl _ _⟩
end Go.Proofs.YteognfhemmogpaaGreatDoor
namespace Go.Proofs.YteognfhemmogpaaGreatDoor
open Go.RowKit
open Go.Proofs.Qw
attribute [local go_sem ↓] Go.wp_at_zero Go.wp_at_succ
def RSameAt (h : Nat) : Prop := ∀ (n1 n2 : Nod) (a1 k1 a2 k2 : Value) (w : World) (S1 S2 : Nat → Prop), AttsR false w S1 a1 n1.attrs → NodsR false h w S1 k1 n1.kids → AttsR false w S2 a2 n2.attrs → NodsR false h w S2 k2 n2.kids →
  Calls Tryz.prog 14 #[nodV n1 a1 k1, nodV n2 a2 k2] w fun e w' => e = .returned (.bool (decide (n1 = n2))) ∧ Below w.heap.size w w'
theorem ne_tag {a b : Nod} (h : a.tag ≠ b.tag) : a ≠ b := fun e => h (by rw [e])
theorem ne_text {a b : Nod} (h : a.text ≠ b.text) : a ≠ b := fun e => h (by rw [e])
theorem ne_attrs {a b : Nod} (h : a.attrs ≠ b.attrs) : a ≠ b := fun e => h (by rw [e])
theorem ne_kids {a b : Nod} (h : a.kids ≠ b.kids) : a ≠ b := fun e => h (by rw [e])
theorem nod_eq {a b : Nod} (h1 : a.tag = b.tag) (h2 : a.attrs = b.attrs) (h3 : a.text = b.text) (h4 : a.kids = b.kids) : a = b := by
 rw [← Nod.eta a, ← Nod.eta b, h1, h2, h3, h4]
set_option maxRecDepth 100000 in
set_option maxHeartbeats 4000000 in
theorem rsame_step (h : Nat) (ih : ∀ h', h = h' + 1 → RSameAt h') : RSameAt h := by
 intro n1 n2 a1 k1 a2 k2 w S1 S2 hA1 hK1 hA2 hK2
 have HC1 : Hid (∀ W, Below w.heap.size w W → Calls Tryz.prog 27 #[a1, a2] W fun e w' => e = .returned (.bool (decide (n1.attrs = n2.attrs))) ∧ Below W.heap.size W w') := Lib.hid fun W h => refSameA_any _ _ _ _ W S1 S2 (hA1.below (rdOf_stable _) h) (hA2.below (rdOf_stable _) h)
 obtain ⟨la, lc, rfl⟩ := hA1.slice
 obtain ⟨la2, lc2, rfl⟩ := hA2.slice
 obtain ⟨ca, cc, rfl, hc, hm, hx⟩ := nods_shape hK1
 obtain ⟨ca2, cc2, rfl, hc2, hm2, hx2⟩ := nods_shape hK2
 have HX := Lib.hid hx
 have HX2 := Lib.hid hx2
 have HI := Lib.hid ih
 clear hA1 hK1 hA2 hK2 hx hx2 ih
 unfold maxLen at hm hm2
 obtain ⟨W1, hW1, hB, hz, hB1, hB2⟩ := two_nodes w (.int .i64 n1.tag) (.slice la n1.attrs.length lc) (.string ⟨n1.text.toArray⟩) (.slice ca n1.kids.length cc) (.int .i64 n2.tag) (.slice la2 n2.attrs.length lc2) (.string ⟨n2.text.toArray⟩) (.slice ca2 n2.kids.length cc2)
 have HZ := Lib.hid hz
 have HB1 := Lib.hid hB1
 have HB2 := Lib.hid hB2
 clear hz
 obtain ⟨p1, f1⟩ := blk hB1
 obtain ⟨p2, f2⟩ := blk hB2
 clear hB1 hB2
 have hBs := hB.size
 go_enter Tryz.func14, Tryz.ntmps14
 by_cases et : n1.tag = n2.tag
 ·have bt : (n1.tag != n2.tag) = false := by simp [et]
  have ET := Lib.hid et
  clear et
  by_cases ex : n1.text = n2.text
  ·have bx : (n1.text == n2.text) = true := by simp [ex]
   have EX := Lib.hid ex
   clear ex
   by_cases ea : n1.attrs = n2.attrs
   ·rw [decide_eq_true ea] at HC1
    have EA := Lib.hid ea
    clear ea
    by_cases el : n1.kids.length = n2.kids.length
    ·have bl : ((n1.kids.length : Int) != n2.kids.length) = false := by simp [el]
     have EL := Lib.hid el
     clear el
     go_wp2_with (go_at_call 27; refine (HC1.out _ hB).mono ?_; rintro e w2 ⟨rfl, hb2⟩; have hbb := below_from hB hb2; obtain ⟨p3, f3⟩ := blk (heap_below hb2 HB1.out); obtain ⟨p4, f4⟩ := blk (heap_below hb2 HB2.out))
     go_loopw [5] (fun i wr => ∃ k : Nat, k ≤ n1.kids.length ∧ i = .int .i64 k ∧ Hid (n1.kids.take k = n2.kids.take k) ∧ Below W1.heap.size W1 wr) (fun i _ => n1.kids.length - (intOf i).toNat)
     case atStart => exact ⟨0, Nat.zero_le _, rfl, Lib.hid rfl, hb2⟩
     case round =>
      clear p3 f3 p4 f4 hbb hb2
      obtain ⟨k, hk, rfl, HE, hb⟩ := hrel
      have hwz := hb.size
      have z0 := HZ.out
      obtain ⟨p3, f3⟩ := blk (heap_below hb HB1.out)
      obtain ⟨p4, f4⟩ := blk (heap_below hb HB2.out)
      by_cases hlt : k < n1.kids.length
      ·obtain ⟨x, hx, _⟩ := getOf n1.kids k hlt
       obtain ⟨y, hy, _⟩ := getOf n2.kids k (by have := EL.out; omega)
       obtain ⟨b, o, la', lc', ka', kc', h', rfl, rfl, hA⟩ := HX.out k x hx
       obtain ⟨b2, o2, la2', lc2', ka2', kc2', h'', e'', rfl, hA2⟩ := HX2.out k y hy
       obtain rfl : h' = h'' := by omega
       clear e''
       have hbw : Below w.heap.size w wr := hB.trans (hb.mono hBs)
       have HW : Hid (∀ W, Below wr.heap.size wr W → Calls Tryz.prog 14 #[nodV x (.slice la' x.attrs.length lc') (.slice ka' x.kids.length kc'), nodV y (.slice la2' y.attrs.length lc2') (.slice ka2' y.kids.length kc2')] W fun e w' => e = .returned (.bool (decide (x = y))) ∧ Below W.heap.size W w') := Lib.hid fun W hW => by
        have h3 := hA.below (below_from hbw hW)
        have h4 := hA2.below (below_from hbw hW)
        exact HI.out h' rfl x y _ _ _ _ W S1 S2 h3.attrsR h3.kidsR h4.attrsR h4.kidsR
       obtain ⟨hz, c0, c1, c2, c3, _, _⟩ := hA.below hbw
       obtain ⟨hz2, d0, d1, d2, d3, _, _⟩ := hA2.below hbw
       have i0 : (0 : Int) ≤ (k : Int) := Int.natCast_nonneg _
       have i1 : (k : Int) < (n1.kids.length : Int) := by omega
       have i2 : (k : Int) < (n2.kids.length : Int) := by have := EL.out; omega
       have HXY := Lib.hid (And.intro hx hy)
       have hbs := hb.size
       have hzA : w.heap.size < wr.heap.size := by omega
       have hzB : w.heap.size + 1 < wr.heap.size := by omega
       clear hx hy hA hA2
       have hwr : Below wr.heap.size wr wr := Below.refl _ _
       rcases Classical.em (x = y) with hxy | hxy
       ·have HE2 := Lib.hid (take_both HXY.out.1 HXY.out.2 HE.out hxy)
        have hd : decide (x = y) = true := decide_eq_true hxy
        rw [hd] at HW
        clear hxy hd
        go_wp2_with fail
        (go_region_held3 (fun w' => w'.cell? ⟨w.heap.size, 3, none⟩ = some (.slice (some ⟨b, o, none⟩) n1.kids.length cc) ∧ w'.cell? ⟨w.heap.size + 1, 3, none⟩ = some (.slice (some ⟨b2, o2, none⟩) n2.kids.length cc2) ∧ w'.cell? ⟨b, o + k * 4, none⟩ = some (.int .i64 x.tag) ∧ w'.cell? ⟨b, o + k * 4 + 1, none⟩ = some (.slice la' x.attrs.length lc') ∧ w'.cell? ⟨b, o + k * 4 + 2, none⟩ = some (.string ⟨x.text.toArray⟩) ∧ w'.cell? ⟨b, o + k * 4 + 3, none⟩ = some (.slice ka' x.kids.length kc') ∧ w'.cell? ⟨b2, o2 + k * 4, none⟩ = some (.int .i64 y.tag) ∧ w'.cell? ⟨b2, o2 + k * 4 + 1, none⟩ = some (.slice la2' y.attrs.length lc2') ∧ w'.cell? ⟨b2, o2 + k * 4 + 2, none⟩ = some (.string ⟨y.text.toArray⟩) ∧ w'.cell? ⟨b2, o2 + k * 4 + 3, none⟩ = some (.slice ka2' y.kids.length kc2')) ((first | go_keep | skip)) ((go_at_call 14; refine (HW.out _ hwr.drew).mono ?_; rintro e w1 ⟨rfl, hb1⟩; obtain ⟨q1, q2⟩ := bcell hb1; have hk1 := q1 b (o + k * 4) hz; have hk2 := q1 b (o + k * 4 + 1) hz; have hk3 := q1 b (o + k * 4 + 2) hz; have hk4 := q1 b (o + k * 4 + 3) hz; have hk5 := q1 b2 (o2 + k * 4) hz2; have hk6 := q1 b2 (o2 + k * 4 + 1) hz2; have hk7 := q1 b2 (o2 + k * 4 + 2) hz2; have hk8 := q1 b2 (o2 + k * 4 + 3) hz2; have hk9 := q1 w.heap.size 3 hzA; have hkA := q1 (w.heap.size + 1) 3 hzB))); go_wp2_with fail
        go_roundw
        case rel => exact ⟨k + 1, hlt, by go_num, HE2, (hb.drew.trans (hb1.mono hbs))⟩
        case measure => simp [intOf]; omega
       ·have HN := Lib.hid (ne_kids (a := n1) (b := n2) (ne_at HXY.out.1 HXY.out.2 hxy))
        have hd : decide (x = y) = false := decide_eq_false hxy
        rw [hd] at HW
        clear hxy hd
        go_wp2_with fail
        (go_region_held3 (fun w' => w'.cell? ⟨w.heap.size, 3, none⟩ = some (.slice (some ⟨b, o, none⟩) n1.kids.length cc) ∧ w'.cell? ⟨w.heap.size + 1, 3, none⟩ = some (.slice (some ⟨b2, o2, none⟩) n2.kids.length cc2) ∧ w'.cell? ⟨b, o + k * 4, none⟩ = some (.int .i64 x.tag) ∧ w'.cell? ⟨b, o + k * 4 + 1, none⟩ = some (.slice la' x.attrs.length lc') ∧ w'.cell? ⟨b, o + k * 4 + 2, none⟩ = some (.string ⟨x.text.toArray⟩) ∧ w'.cell? ⟨b, o + k * 4 + 3, none⟩ = some (.slice ka' x.kids.length kc') ∧ w'.cell? ⟨b2, o2 + k * 4, none⟩ = some (.int .i64 y.tag) ∧ w'.cell? ⟨b2, o2 + k * 4 + 1, none⟩ = some (.slice la2' y.attrs.length lc2') ∧ w'.cell? ⟨b2, o2 + k * 4 + 2, none⟩ = some (.string ⟨y.text.toArray⟩) ∧ w'.cell? ⟨b2, o2 + k * 4 + 3, none⟩ = some (.slice ka2' y.kids.length kc2')) ((first | go_keep | skip)) ((go_at_call 14; refine (HW.out _ hwr.drew).mono ?_; rintro e w1 ⟨rfl, hb1⟩; obtain ⟨q1, q2⟩ := bcell hb1; have hk1 := q1 b (o + k * 4) hz; have hk2 := q1 b (o + k * 4 + 1) hz; have hk3 := q1 b (o + k * 4 + 2) hz; have hk4 := q1 b (o + k * 4 + 3) hz; have hk5 := q1 b2 (o2 + k * 4) hz2; have hk6 := q1 b2 (o2 + k * 4 + 1) hz2; have hk7 := q1 b2 (o2 + k * 4 + 2) hz2; have hk8 := q1 b2 (o2 + k * 4 + 3) hz2; have hk9 := q1 w.heap.size 3 hzA; have hkA := q1 (w.heap.size + 1) 3 hzB))); go_wp2_with fail
        go_ret
        exact ⟨by rw [decide_eq_false HN.out]; rfl, hB.trans ((hb.drew.trans (hb1.mono hbs)).mono hBs)⟩
      ·obtain rfl : k = n1.kids.length := by omega
       have HD : Hid (n1 = n2) := Lib.hid (nod_eq ET.out EA.out EX.out (by have h1 := HE.out; have h2 := EL.out; rw [List.take_length, h2, List.take_length] at h1; exact h1))
       have HB := Lib.hid (hB.trans (hb.mono hBs))
       clear hb
       go_wp2_with fail
       go_ret
       exact ⟨by rw [decide_eq_true HD.out]; rfl, HB.out⟩
    ·have bl : ((n1.kids.length : Int) != n2.kids.length) = true := by simp; omega
     have HN := Lib.hid (ne_kids (a := n1) (b := n2) (fun e => el (by rw [e])))
     clear el
     go_wp2_with (go_at_call 27; refine (HC1.out _ hB).mono ?_; rintro e w2 ⟨rfl, hb2⟩; have hbb := below_from hB hb2; obtain ⟨p3, f3⟩ := blk (heap_below hb2 HB1.out); obtain ⟨p4, f4⟩ := blk (heap_below hb2 HB2.out))
     go_ret
     exact ⟨by rw [decide_eq_false HN.out]; rfl, hbb⟩
   ·rw [decide_eq_false ea] at HC1
    have HN := Lib.hid (ne_attrs ea)
    clear ea
    go_wp2_with (go_at_call 27; refine (HC1.out _ hB).mono ?_; rintro e w2 ⟨rfl, hb2⟩; have hbb := below_from hB hb2; obtain ⟨p3, f3⟩ := blk (heap_below hb2 HB1.out); obtain ⟨p4, f4⟩ := blk (heap_below hb2 HB2.out))
    go_ret
    exact ⟨by rw [decide_eq_false HN.out]; rfl, hbb⟩
  ·have bx : (n1.text == n2.text) = false := by simp [ex]
   have HN := Lib.hid (ne_text ex)
   clear ex
   go_wp2_with fail
   go_ret
   exact ⟨by rw [decide_eq_false HN.out]; rfl, hB⟩
 ·have bt : (n1.tag != n2.tag) = true := by simp [et]
  have HN := Lib.hid (ne_tag et)
  clear et
  go_wp2_with fail
  go_ret
  exact ⟨by rw [decide_eq_false HN.out]; rfl, hB⟩
theorem rsame_all : ∀ h, RSameAt h
 | 0 => rsame_step 0 (fun _ e => by cases e)
 | h + 1 => rsame_step (h + 1) (fun h' e => by cases e; exact rsame_all h)
end Go.Proofs.YteognfhemmogpaaGreatDoor
namespace Go.Proofs.Qw
open Go.RowKit
def sharedN : List Nod → List Nod → Nat
 | a :: xs, b :: ys => if a = b then sharedN xs ys + 1 else 0
 | _, _ => 0
theorem wrN_inj {a b : Wr} (h : wrN a = wrN b) : a = b := by
 unfold wrN at h
 injection h with h1 h2
 exact Prod.ext h1 h2
theorem sharedN_map : ∀ (a b : List Wr), sharedN (a.map wrN) (b.map wrN) = sharedW a b
 | [], b => by cases b <;> rfl
 | x :: a, [] => rfl
 | x :: a, y :: b => by
  rw [List.map_cons, List.map_cons, sharedN, sharedW, sharedN_map a b]
  by_cases h : x = y
  ·rw [if_pos h, if_pos (by rw [h])]
  ·rw [if_neg h, if_neg (fun e => h (wrN_inj e))]
theorem sharedN_end {a b : List Nod} {k : Nat} (h : a.length ≤ k ∨ b.length ≤ k) : sharedN (a.drop k) (b.drop k) = 0 := by
 rcases h with h | h
 ·rw [List.drop_eq_nil_of_le h]; cases b.drop k <;> rfl
 ·rw [List.drop_eq_nil_of_le h]; cases a.drop k <;> rfl
theorem sharedN_at {a b : List Nod} {k : Nat} {x y : Nod} (hx : a[k]? = some x) (hy : b[k]? = some y) : sharedN (a.drop k) (b.drop k) = if x = y then sharedN (a.drop (k + 1)) (b.drop (k + 1)) + 1 else 0 := by
 obtain ⟨h1, rfl⟩ := List.getElem?_eq_some_iff.1 hx
 obtain ⟨h2, rfl⟩ := List.getElem?_eq_some_iff.1 hy
 rw [List.drop_eq_getElem_cons h1, List.drop_eq_getElem_cons h2, sharedN]
end Go.Proofs.Qw
namespace Go.Proofs.YteognfhemmogpaaGreatDoor
open Go.RowKit
open Go.Proofs.Qw
attribute [local go_sem ↓] Go.wp_at_zero Go.wp_at_succ
set_option maxRecDepth 100000 in
set_option maxHeartbeats 4000000 in
theorem shared_any (h : Nat) (v1 v2 : Value) (A B : List Nod) (w : World) (S1 S2 : Nat → Prop) (h1 : NodsR false h w S1 v1 A) (h2 : NodsR false h w S2 v2 B) (hl : A.length ≤ 1000000) :
  Calls Tryz.prog 51 #[v1, v2] w fun e w' => e = .returned (.int .i64 (sharedN A B)) ∧ Below w.heap.size w w' := by
 obtain ⟨a1, c1, rfl, hc1, hm1, hx1⟩ := nods_shape h1
 obtain ⟨a2, c2, rfl, hc2, hm2, hx2⟩ := nods_shape h2
 have HX1 := Lib.hid hx1
 have HX2 := Lib.hid hx2
 clear h1 h2 hx1 hx2
 unfold maxLen at hm1 hm2
 go_enter Tryz.func51, Tryz.ntmps51
 go_wp2_with fail
 go_loopw [5] (fun i wr => ∃ k : Nat, k ≤ A.length ∧ i = .int .i64 k ∧ Hid (sharedN A B = k + sharedN (A.drop k) (B.drop k)) ∧ Hid (Below w.heap.size w wr)) (fun i _ => A.length - (intOf i).toNat)
 case atStart => exact ⟨0, Nat.zero_le _, rfl, Lib.hid (by rw [List.drop_zero, List.drop_zero, Nat.zero_add]), Lib.hid (Below.refl _ _)⟩
 case round =>
  obtain ⟨k, hk, rfl, HE, HBr⟩ := hrel
  by_cases hlt1 : k < A.length
  ·have hd1 : decide ((k : Int) < (A.length : Int)) = true := decide_eq_true (by omega)
   have hn1 : decide (k < A.length) = true := decide_eq_true (by omega)
   by_cases hlt2 : k < B.length
   ·have hd2 : decide ((k : Int) < (B.length : Int)) = true := decide_eq_true (by omega)
    have hn2 : decide (k < B.length) = true := decide_eq_true (by omega)
    obtain ⟨x, hx, _⟩ := getOf A k hlt1
    obtain ⟨y, hy, _⟩ := getOf B k hlt2
    obtain ⟨b, o, la', lc', ka', kc', h', rfl, rfl, hA⟩ := HX1.out k x hx
    obtain ⟨b2, o2, la2', lc2', ka2', kc2', h'', e'', rfl, hA2⟩ := HX2.out k y hy
    obtain rfl : h' = h'' := by omega
    clear e''
    have HW : Hid (∀ W, Below wr.heap.size wr W → Calls Tryz.prog 14 #[nodV x (.slice la' x.attrs.length lc') (.slice ka' x.kids.length kc'), nodV y (.slice la2' y.attrs.length lc2') (.slice ka2' y.kids.length kc2')] W fun e w' => e = .returned (.bool (decide (x = y))) ∧ Below W.heap.size W w') := Lib.hid fun W hW => by
     have h3 := hA.below (below_from HBr.out hW)
     have h4 := hA2.below (below_from HBr.out hW)
     exact rsame_all h' x y _ _ _ _ W S1 S2 h3.attrsR h3.kidsR h4.attrsR h4.kidsR
    have HAt := Lib.hid (sharedN_at hx hy)
    obtain ⟨hz, c0, c1', c2', c3, _, _⟩ := hA.below HBr.out
    obtain ⟨hz2, d0, d1, d2, d3, _, _⟩ := hA2.below HBr.out
    have i0 : (0 : Int) ≤ (k : Int) := Int.natCast_nonneg _
    have i1 : (k : Int) < (A.length : Int) := by omega
    have i2 : (k : Int) < (B.length : Int) := by omega
    clear hx hy hA hA2
    have hwr : Below wr.heap.size wr wr := Below.refl _ _
    obtain ⟨z, hz0⟩ : ∃ z, decide (x = y) = z := ⟨_, rfl⟩
    rw [hz0] at HW
    cases z
    ·have HT : Hid (sharedN A B = k) := Lib.hid (by rw [HE.out, HAt.out, if_neg (of_decide_eq_false hz0)]; rfl)
     clear hz0 HAt HE
     go_wp2_with fail
     go_region_held3 (fun w' => w'.cell? ⟨b, o + k * 4, none⟩ = some (.int .i64 x.tag) ∧ w'.cell? ⟨b, o + k * 4 + 1, none⟩ = some (.slice la' x.attrs.length lc') ∧ w'.cell? ⟨b, o + k * 4 + 2, none⟩ = some (.string ⟨x.text.toArray⟩) ∧ w'.cell? ⟨b, o + k * 4 + 3, none⟩ = some (.slice ka' x.kids.length kc') ∧ w'.cell? ⟨b2, o2 + k * 4, none⟩ = some (.int .i64 y.tag) ∧ w'.cell? ⟨b2, o2 + k * 4 + 1, none⟩ = some (.slice la2' y.attrs.length lc2') ∧ w'.cell? ⟨b2, o2 + k * 4 + 2, none⟩ = some (.string ⟨y.text.toArray⟩) ∧ w'.cell? ⟨b2, o2 + k * 4 + 3, none⟩ = some (.slice ka2' y.kids.length kc2')) ((first | go_keep | skip)) ((go_at_call 14; refine (HW.out _ hwr.drew).mono ?_; rintro e w1 ⟨rfl, hb1⟩; obtain ⟨q1, q2⟩ := bcell hb1; have hk1 := q1 b (o + k * 4) hz; have hk2 := q1 b (o + k * 4 + 1) hz; have hk3 := q1 b (o + k * 4 + 2) hz; have hk4 := q1 b (o + k * 4 + 3) hz; have hk5 := q1 b2 (o2 + k * 4) hz2; have hk6 := q1 b2 (o2 + k * 4 + 1) hz2; have hk7 := q1 b2 (o2 + k * 4 + 2) hz2; have hk8 := q1 b2 (o2 + k * 4 + 3) hz2))
     go_wp2_with fail
     all_goals
      go_ret
      exact ⟨by rw [HT.out]; rfl, (by first | exact below_from HBr.out hb1 | exact below_from HBr.out (hb1.drew) | exact below_from HBr.out ((Below.refl _ _).drew.trans (hb1.mono (Nat.le_refl _))))⟩
    ·have HT : Hid (sharedN A B = (k + 1 : Nat) + sharedN (A.drop (k + 1)) (B.drop (k + 1))) := Lib.hid (by rw [HE.out, HAt.out, if_pos (of_decide_eq_true hz0)]; omega)
     clear hz0 HAt HE
     go_wp2_with fail
     go_region_held3 (fun w' => w'.cell? ⟨b, o + k * 4, none⟩ = some (.int .i64 x.tag) ∧ w'.cell? ⟨b, o + k * 4 + 1, none⟩ = some (.slice la' x.attrs.length lc') ∧ w'.cell? ⟨b, o + k * 4 + 2, none⟩ = some (.string ⟨x.text.toArray⟩) ∧ w'.cell? ⟨b, o + k * 4 + 3, none⟩ = some (.slice ka' x.kids.length kc') ∧ w'.cell? ⟨b2, o2 + k * 4, none⟩ = some (.int .i64 y.tag) ∧ w'.cell? ⟨b2, o2 + k * 4 + 1, none⟩ = some (.slice la2' y.attrs.length lc2') ∧ w'.cell? ⟨b2, o2 + k * 4 + 2, none⟩ = some (.string ⟨y.text.toArray⟩) ∧ w'.cell? ⟨b2, o2 + k * 4 + 3, none⟩ = some (.slice ka2' y.kids.length kc2')) ((first | go_keep | skip)) ((go_at_call 14; refine (HW.out _ hwr.drew).mono ?_; rintro e w1 ⟨rfl, hb1⟩; obtain ⟨q1, q2⟩ := bcell hb1; have hk1 := q1 b (o + k * 4) hz; have hk2 := q1 b (o + k * 4 + 1) hz; have hk3 := q1 b (o + k * 4 + 2) hz; have hk4 := q1 b (o + k * 4 + 3) hz; have hk5 := q1 b2 (o2 + k * 4) hz2; have hk6 := q1 b2 (o2 + k * 4 + 1) hz2; have hk7 := q1 b2 (o2 + k * 4 + 2) hz2; have hk8 := q1 b2 (o2 + k * 4 + 3) hz2))
     go_wp2_with fail
     go_roundw
     case rel => exact ⟨k + 1, hlt1, by go_num, HT, Lib.hid (by first | exact below_from HBr.out hb1 | exact below_from HBr.out (hb1.drew) | exact below_from HBr.out ((Below.refl _ _).drew.trans (hb1.mono (Nat.le_refl _))))⟩
     case measure => simp [intOf]; omega
   ·have hd2 : decide ((k : Int) < (B.length : Int)) = false := decide_eq_false (by omega)
    have hn2 : decide (k < B.length) = false := decide_eq_false (by omega)
    have HT : Hid (sharedN A B = k) := Lib.hid (by rw [HE.out, sharedN_end (.inr (by omega))]; rfl)
    clear HE
    go_wp2_with fail
    go_region
    go_wp2_with fail
    go_ret
    exact ⟨by rw [HT.out]; rfl, HBr.out.drew⟩
  ·have hd1 : decide ((k : Int) < (A.length : Int)) = false := decide_eq_false (by omega)
   have hn1 : decide (k < A.length) = false := decide_eq_false (by omega)
   have HT : Hid (sharedN A B = k) := Lib.hid (by rw [HE.out, sharedN_end (.inl (by omega))]; rfl)
   clear HE
   go_wp2_with fail
   go_region
   go_wp2_with fail
   go_ret
   exact ⟨by rw [HT.out]; rfl, HBr.out.drew⟩
end Go.Proofs.YteognfhemmogpaaGreatDoor
namespace Go.Proofs.Qw
open Go.RowKit Go.Proofs.YteognfhemmogpaaGreatDoor
def rdIn (S0 : Nat → Prop) (h : Nat) : Rd Nod := fun w S vs x => rdNod true h w (fun b => S b ∧ S0 b) vs x
theorem rdIn_stable (S0 : Nat → Prop) (h : Nat) : Stable (rdIn S0 h) := ⟨fun _ _ _ _ _ _ hx hk hS => (rdNod_stable true h).go _ _ _ _ _ _ hx ⟨hk.size, fun b hb hz => hk.block b hb.1 hz⟩ (fun b hb hz => ⟨hS b hb.1 hz, hb.2⟩)⟩
theorem eltIn (S0 : Nat → Prop) (h : Nat) : EltX 4 (rdIn S0 h) :=
 ⟨by decide, fun _ _ _ _ hx => (eltNod h).len _ _ _ _ hx, fun _ _ _ _ hx => (eltNod h).ones _ _ _ _ hx, rdIn_stable S0 h⟩
def Fresh (m : Nat) (v : Value) : Prop := ∀ b, v.ownBlock = some b → m ≤ b
theorem Fresh.app {m : Nat} {v v' : Value} {w : World} (h : Fresh m v) (hm : m ≤ w.heap.size) (ho : v'.ownBlock = v.ownBlock ∨ v'.ownBlock = some w.heap.size) : Fresh m v' := fun b hb => by
 rcases ho with e | e
 ·exact h b (e ▸ hb)
 ·rw [e] at hb
  cases hb
  exact hm
theorem Fresh.below {m : Nat} {v : Value} {w w' : World} (h : Fresh m v) (hm : m ≤ w.heap.size) (hg : w.grownBy w' v.ownBlock) : Below m w w' :=
 ⟨hg.os, hg.tape, hg.output, hg.size, fun k hk => hg.block k (by omega) (fun e => by have := h k e.symm; omega)⟩
theorem rowBlk_own {v : Value} {b : Nat} (h : rowBlk v = some b) : v.ownBlock = some b := by
 unfold rowBlk at h
 split at h
 ·exact h
 ·cases h
theorem RwX.imp {α : Type} {t : TypeId} {k : Nat} {R R' : Rd α} {w : World} {n : Nat} {v : Value} {xs : List α} (hR : ∀ S vs x, R w S vs x → R' w S vs x) (h : RwX t k R w n v xs) : RwX t k R' w n v xs := by
 obtain ⟨a, c, h1, h2, h3, h | ⟨b, o, rfl, hb, hz, hf, he⟩⟩ := h
 ·exact ⟨a, c, h1, h2, h3, .inl h⟩
 ·refine ⟨_, c, h1, h2, h3, .inr ⟨b, o, rfl, hb, hz, hf, fun i x hx => ?_⟩⟩
  obtain ⟨vs, g1, g2, g3⟩ := he i x hx
  exact ⟨vs, g1, hR _ _ _ g2, g3⟩
theorem rdIn_weak {S0 S1 : Nat → Prop} {h : Nat} (hS : ∀ b, S0 b → S1 b) {w : World} {S : Nat → Prop} {vs : List Value} {x : Nod} (hx : rdIn S0 h w S vs x) : rdIn S1 h w S vs x := (rdNod_stable true h).go _ _ _ _ _ _ hx (Keeps.refl _ _) (fun b hb _ => ⟨hb.1, hS b hb.2⟩)
theorem fresh_row {S0 : Nat → Prop} {h m : Nat} {w : World} {v : Value} {xs : List Nod} (hr : RwX 35 4 (rdIn S0 h) w 0 v xs) (hf : Fresh m v) : NodsR true h w (fun b => S0 b ∨ m ≤ b) v xs := by
 obtain ⟨a, c, h1, h2, h3, ⟨h, h0⟩ | ⟨b, o, rfl, hb, hz, hff, he⟩⟩ := hr
 ·exact ⟨a, c, h1, h2, h3, .inl ⟨h, fun _ => h0⟩⟩
 ·subst h1
  exact ⟨_, c, rfl, h2, h3, .inr ⟨b, o, rfl, .inr (hf b rfl), hz, fun _ => hff, fun i x hx => by
   obtain ⟨vs, g1, g2, g3⟩ := he i x hx
   exact ⟨vs, g1, (rdNod_stable true _).go _ _ _ _ _ _ g2 (Keeps.refl _ _) (fun _ h _ => .inl h.2), g3⟩⟩⟩
theorem fresh_news {S0 : Nat → Prop} {h m : Nat} {w : World} {v : Value} {news : List Value} {ys : List Nod} (hf : Fresh m v) (hS : ∀ b, S0 b → b < m) (hn : NewsR 4 (rdNod true h) w S0 news ys) : NewsX 4 (rdIn S0 h) w 0 v news ys := fun i y hy => by
 obtain ⟨vs, h1, h2, h3⟩ := hn i y hy
 exact ⟨vs, h1, (rdNod_stable true h).go _ _ _ _ _ _ h2 (Keeps.refl _ _) (fun b hb _ => ⟨⟨Nat.zero_le _, fun e => by have h1 := hf b (rowBlk_own e); have h2 := hS b hb; omega⟩, hb⟩), h3⟩
theorem fresh_empty (m b o : Nat) (h : m ≤ b) : Fresh m (.slice (some ⟨b, o, none⟩) 0 0) := fun d hd => by cases hd; exact h
theorem RwX.empty {α : Type} (t : TypeId) (k : Nat) (R : Rd α) (w : World) (n : Nat) (a : Option Addr) : RwX t k R w n (.slice a 0 0) [] := ⟨a, 0, rfl, Nat.le_refl _, by decide, .inl ⟨rfl, rfl⟩⟩
theorem wpList_app_nods (w : World) {ops : Array Oper} {rest : List Oper} {o : Oper} {a : Act} {Q : Exit → Act → World → Prop} (hgd : o.guard = none) (s x : Operand)
  (ho : o.op = .call { callee := .builtin .append, args := #[s, x], argTypes := #[33, 33] }) (S0 : Nat → Prop) (h m : Nat) (v y : Value) {xs ys : List Nod} (hs : a.eval s = v) (hx : a.eval x = y)
  (h1 : RwX 35 4 (rdIn S0 h) w 0 v xs) (hf : Fresh m v) (hm : m ≤ w.heap.size) (hS : ∀ b, S0 b → b < m) (hy : NodsR true h w S0 y ys) (hlen : xs.length + ys.length ≤ 100000000)
  (H : ∀ v' w', RwX 35 4 (rdIn S0 h) w' 0 v' (xs ++ ys) → Fresh m v' → Below m w w' → wpList Tryz.prog ops Q rest (a.put o.dst v') w') :
  wpList Tryz.prog ops Q (o :: rest) a w := by
 obtain ⟨news, n1, n2⟩ := SliceR.src (P := Tryz.prog) (st := 33) rowNod (eltNod h).pos (eltNod h).ones hy
 exact wpList_append_X w hgd s x _ _ ho rowNod (eltIn S0 h) 0 v y hs hx h1 (Nat.zero_le _) n1 (fresh_news hf hS n2) hlen fun v' w' r1 _ r3 r4 => H v' w' r1 (hf.app hm r4) (hf.below hm r3)
theorem step_app_nods {w : World} {ops : Array Oper} {o : Oper} {a : Act} {K : Act → World → Prop} {Q : Exit → Act → World → Prop} {E : Prop} (hgd : o.guard = none) (s x : Operand)
  (ho : o.op = .call { callee := .builtin .append, args := #[s, x], argTypes := #[33, 33] }) (S0 : Nat → Prop) (h m : Nat) (v y : Value) {xs ys : List Nod} (hs : a.eval s = v) (hx : a.eval x = y)
  (h1 : RwX 35 4 (rdIn S0 h) w 0 v xs) (hf : Fresh m v) (hm : m ≤ w.heap.size) (hS : ∀ b, S0 b → b < m) (hy : NodsR true h w S0 y ys) (hlen : xs.length + ys.length ≤ 100000000)
  (H : ∀ v' w', RwX 35 4 (rdIn S0 h) w' 0 v' (xs ++ ys) → Fresh m v' → Below m w w' → w.grownBy w' v.ownBlock → K (a.put o.dst v') w') :
  if Region.wanted o (yielded ops a.tmps) = true then Oper.wp Tryz.prog o a w K Q else E := by
 obtain ⟨news, n1, n2⟩ := SliceR.src (P := Tryz.prog) (st := 33) rowNod (eltNod h).pos (eltNod h).ones hy
 exact step_append_X hgd s x _ _ ho rowNod (eltIn S0 h) 0 v y hs hx h1 (Nat.zero_le _) n1 (fresh_news hf hS n2) hlen fun v' w' r1 _ r3 r4 => H v' w' r1 (hf.app hm r4) (hf.below hm r3) r3
theorem step_app_node {w : World} {ops : Array Oper} {o : Oper} {a : Act} {K : Act → World → Prop} {Q : Exit → Act → World → Prop} {E : Prop} (hgd : o.guard = none) (s x : Operand)
  (ho : o.op = .call { callee := .builtin .append, args := #[s, x], argTypes := #[33, 33] }) (S0 : Nat → Prop) (h m : Nat) (v : Value) {xs : List Nod} {z : Nod} {B c : Nat} {va vk : Value} (hs : a.eval s = v) (hx : a.eval x = .slice (some ⟨B, 0, none⟩) 1 c)
  (h1 : RwX 35 4 (rdIn S0 (h + 1)) w 0 v xs) (hf : Fresh m v) (hm : m ≤ w.heap.size) (hS : ∀ b, S0 b → b < m) (hB : w.heap[B]? = some (.cells #[.int .i64 z.tag, va, .string ⟨z.text.toArray⟩, vk] 35)) (ha : AttsR true w S0 va z.attrs) (hk : NodsR true h w S0 vk z.kids) (hlen : xs.length + 1 ≤ 100000000)
  (H : ∀ v' w', RwX 35 4 (rdIn S0 (h + 1)) w' 0 v' (xs ++ [z]) → Fresh m v' → Below m w w' → K (a.put o.dst v') w') :
  if Region.wanted o (yielded ops a.tmps) = true then Oper.wp Tryz.prog o a w K Q else E := by
 have hn : NewsR 4 (rdNod true (h + 1)) w S0 [.int .i64 z.tag, va, .string ⟨z.text.toArray⟩, vk] [z] := NewsR.one rfl ⟨_, _, rfl, ha, hk⟩
 obtain ⟨_, _, rfl⟩ := ha.slice
 obtain ⟨_, _, rfl⟩ := hk.slice
 exact step_append_X (ys := [z]) hgd s x _ _ ho rowNod (eltIn S0 (h + 1)) 0 v _ hs hx h1 (Nat.zero_le _) (src_node hB (oneV_node z _ _ _ _ _ _) c) (fresh_news hf hS hn) hlen fun v' w' r1 _ r3 r4 => H v' w' r1 (hf.app hm r4) (hf.below hm r3)
theorem fresh_last {S0 : Nat → Prop} {h m : Nat} {w : World} {v : Value} {xs : List Nod} {z : Nod} (hr : RwX 35 4 (rdIn S0 h) w 0 v (xs ++ [z])) (hf : Fresh m v) :
  ∃ b o c aa ac ka kc h', h = h' + 1 ∧ v = .slice (some ⟨b, o, none⟩) (xs.length + 1) c ∧ m ≤ b ∧ b < w.heap.size ∧ (∀ k, w.frozen? ⟨b, k, none⟩ = false) ∧
   w.cell? ⟨b, o + xs.length * 4, none⟩ = some (.int .i64 z.tag) ∧ w.cell? ⟨b, o + xs.length * 4 + 1, none⟩ = some (.slice aa z.attrs.length ac) ∧ w.cell? ⟨b, o + xs.length * 4 + 2, none⟩ = some (.string ⟨z.text.toArray⟩) ∧ w.cell? ⟨b, o + xs.length * 4 + 3, none⟩ = some (.slice ka z.kids.length kc) ∧
   AttsR true w S0 (.slice aa z.attrs.length ac) z.attrs ∧ NodsR true h' w S0 (.slice ka z.kids.length kc) z.kids ∧ c ≤ maxLen := by
 obtain ⟨a, c, e, h2, h3, ⟨h0, _⟩ | ⟨b, o, rfl, hb, hz, ⟨cs, f1, f2⟩, he⟩⟩ := hr
 ·exact absurd h0 (by simp)
 obtain ⟨vs, g1, g2, g3⟩ := he xs.length z (by simp)
 subst e
 have g2 : rdNod true h w (fun b' => ((0 ≤ b' ∧ b' ≠ b) ∧ S0 b')) vs z := g2
 match h, g2 with
 | h' + 1, ⟨x, y, ev, r1, r2⟩ =>
  subst ev
  have r1 := r1.stable (rdOf_stable _) (Keeps.refl _ _) (S' := S0) (fun _ h _ => h.2)
  have r2 := r2.stable (rdNod_stable _ _) (Keeps.refl _ _) (S' := S0) (fun _ h _ => h.2)
  obtain ⟨aa, ac, rfl⟩ := r1.slice
  obtain ⟨ka, kc, rfl⟩ := r2.slice
  exact ⟨b, o, c, aa, ac, ka, kc, h', rfl, by simp, hf b rfl, hz, fun k => frozen_of_heap f1, g3 0 _ rfl, g3 1 _ rfl, g3 2 _ rfl, g3 3 _ rfl, r1, r2, h3⟩
theorem fresh_put {S0 S1 : Nat → Prop} {h : Nat} {w : World} {b o c : Nat} {xs : List Nod} {z x : Nod} {va vk : Value} (hr : RwX 35 4 (rdIn S0 (h + 1)) w 0 (.slice (some ⟨b, o, none⟩) (xs.length + 1) c) (xs ++ [z])) (hS : ∀ d, S0 d → S1 d) (hb : ¬ S1 b) (ha : AttsR true w S1 va x.attrs) (hk : NodsR true h w S1 vk x.kids) :
  RwX 35 4 (rdIn S1 (h + 1)) ((((w.setCell ⟨b, o + xs.length * 4, none⟩ (.int .i64 x.tag)).setCell ⟨b, o + xs.length * 4 + 1, none⟩ va).setCell ⟨b, o + xs.length * 4 + 2, none⟩ (.string ⟨x.text.toArray⟩)).setCell ⟨b, o + xs.length * 4 + 3, none⟩ vk) 0 (.slice (some ⟨b, o, none⟩) (xs.length + 1) c) (xs ++ [x]) := by
 have hx : rdIn S1 (h + 1) w (fun b' => 0 ≤ b' ∧ b' ≠ b) [.int .i64 x.tag, va, .string ⟨x.text.toArray⟩, vk] x := ⟨va, vk, rfl, ha.stable (rdOf_stable _) (Keeps.refl _ _) (fun d hd _ => ⟨⟨Nat.zero_le _, fun e => hb (e ▸ hd)⟩, hd⟩), hk.stable (rdNod_stable _ _) (Keeps.refl _ _) (fun d hd _ => ⟨⟨Nat.zero_le _, fun e => hb (e ▸ hd)⟩, hd⟩)⟩
 exact (RwX.putLast (eltIn S1 (h + 1)) (hr.imp fun _ _ _ g => rdIn_weak hS g) hx).1
end Go.Proofs.Qw
namespace Go.Proofs.Qw
open Go.RowKit Go.Proofs.YteognfhemmogpaaGreatDoor
def Spine : Nat → List Nod → Prop
 | 0, _ => True
 | n + 1, l => ∃ xs z, l = xs ++ [z] ∧ Spine n z.kids
theorem counts_kids_le {xs : List Nod} {z : Nod} {B : Nat} (h : Nod.counts (xs ++ [z]) ≤ B) : Nod.counts z.kids ≤ B ∧ xs.length + 1 ≤ B := by
 have e : z.count = 1 + Nod.counts z.kids := by cases z; rw [Nod.count]; rfl
 have h1 : Nod.counts [z] = z.count := by rw [Nod.counts, Nod.counts]; rfl
 have h2 : ∀ l : List Nod, l.length ≤ Nod.counts l := by
  intro l
  induction l with
  | nil => simp
  | cons a l ih => rw [List.length_cons, Nod.counts]; have : 1 ≤ a.count := by cases a; rw [Nod.count]; omega
                   omega
 rw [Nod.counts_append, h1] at h
 have := h2 xs
 omega
theorem put_last (xs : List Nod) (z : Nod) (W : List Wr) (leaf : Nod) (s : Nat) : putW (xs ++ [z]) W leaf (s + 1) = xs ++ [.mk z.tag z.attrs z.text (putW z.kids W.tail leaf s)] := by
 rw [putW, lastN_append _ _ (by simp), lastN_one]
end Go.Proofs.Qw
namespace Go.Proofs.YteognfhemmogpaaGreatDoor
open Go.RowKit
open Go.Proofs.Qw
attribute [local go_sem ↓] Go.wp_at_zero Go.wp_at_succ
def PutAt (s : Nat) : Prop := ∀ (H hl : Nat) (nv av la lk : Value) (l : List Nod) (W : List Wr) (leaf : Nod) (w : World) (S : Nat → Prop), NodsR true H w S nv l → NodsR true 1 w S av (W.map wrN) → AttsR true w S la leaf.attrs → NodsR true hl w S lk leaf.kids → (∀ b, S b → b < w.heap.size) →
  hl + W.length + 1 ≤ H → s ≤ W.length → Spine s l → Nod.counts l ≤ 1000000 → W.length ≤ 1000 →
  Calls Tryz.prog 52 #[nv, av, nodV leaf la lk, .int .i64 s] w fun e w' => ∃ v', e = .returned v' ∧ NodsR true H w' (fun b => S b ∨ w.heap.size ≤ b) v' (putW l W leaf s) ∧ Below w.heap.size w w'
set_option maxRecDepth 100000 in
set_option maxHeartbeats 4000000 in
theorem put_deep (s : Nat) (ih : PutAt s) : PutAt (s + 1) := by
 intro H hl nv av la lk l W leaf w S hN hA hLa hLk hS hH hsW hsp hcn hWl
 obtain ⟨xs, z, rfl, hsp⟩ := hsp
 obtain ⟨hcz, hxl⟩ := counts_kids_le hcn
 obtain ⟨y, Wt, hWc⟩ : ∃ y Wt, W = y :: Wt := by
  cases W with
  | nil => simp at hsW
  | cons y Wt => exact ⟨y, Wt, rfl⟩
 subst hWc
 rw [put_last, List.tail_cons]
 obtain ⟨G, hG⟩ : ∃ G, putW z.kids Wt leaf s = G := ⟨_, rfl⟩
 rw [hG]
 have HGl := Lib.hid hG
 clear hG
 obtain ⟨na, nc, rfl⟩ := hN.slice
 obtain ⟨aa, ac, rfl, hac, ham, hax⟩ := SliceR.shape hA
 obtain ⟨ab, ao, rfl⟩ : ∃ ab ao, aa = some ⟨ab, ao, none⟩ := by
  obtain ⟨ab, ao, _, e, _⟩ := hax 0 (wrN y) rfl
  exact ⟨ab, ao, e⟩
 clear hax
 obtain ⟨lla, llc, rfl⟩ := hLa.slice
 obtain ⟨lka, lkc, rfl⟩ := hLk.slice
 simp only [List.length_map, List.length_cons] at hA hac hsW hWl hH
 have HIH := Lib.hid ih
 have HSP := Lib.hid hsp
 have HN := Lib.hid hN
 have HPT : Hid (NodsR true 1 w S (.slice (if ac = 1 then some ⟨ab, ao, none⟩ else some ⟨ab, ao + 4, none⟩) Wt.length (ac - 1)) (Wt.map wrN)) := Lib.hid (by
  have h := SliceR.part hA (i := 1) (j := Wt.length + 1) (m := ac) (by omega) (by simp) hac (Nat.le_refl _)
  have e : (((y :: Wt).map wrN).drop 1).take (Wt.length + 1 - 1) = Wt.map wrN := by rw [List.map_cons, List.drop_succ_cons, List.drop_zero]; exact List.take_of_length_le (by simp)
  rw [e] at h
  have e2 : sliced (some ⟨ab, ao, none⟩) 1 (Wt.length + 1) ac 4 = .slice (if ac = 1 then some ⟨ab, ao, none⟩ else some ⟨ab, ao + 4, none⟩) Wt.length (ac - 1) := by
   unfold sliced
   split <;> simp [Addr.add]
  rw [e2] at h
  exact h)
 obtain ⟨sa, hsa⟩ : ∃ sa : Option Addr, (if ac = 1 then some ⟨ab, ao, none⟩ else some ⟨ab, ao + 4, none⟩) = sa := ⟨_, rfl⟩
 rw [hsa] at HPT
 have HSA := Lib.hid hsa
 clear hsa
 have HLa := Lib.hid hLa
 have HLk := Lib.hid hLk
 have HSb := Lib.hid hS
 obtain ⟨W1, hW1⟩ : ∃ W1, w.alloc (.cells #[.int .i64 leaf.tag, .slice lla leaf.attrs.length llc, .string ⟨leaf.text.toArray⟩, .slice lka leaf.kids.length lkc] 35) = W1 := ⟨_, rfl⟩
 have hb1 : Below w.heap.size w W1 := hW1 ▸ (Below.refl _ _).alloc (Nat.le_refl _) _
 have HB1 : Hid (W1.heap[w.heap.size]? = some (.cells #[.int .i64 leaf.tag, .slice lla leaf.attrs.length llc, .string ⟨leaf.text.toArray⟩, .slice lka leaf.kids.length lkc] 35)) := Lib.hid (hW1 ▸ heap_new _ _ rfl)
 have hz1 : w.heap.size < W1.heap.size := by rw [← hW1]; simp
 have HBL := Lib.hid hb1
 have hd0 : decide ((0 : Int) < ((s + 1 : Nat) : Int)) = true := decide_eq_true (by omega)
 have hd1 : decide ((0 : Int) < (s : Int) + 1) = true := decide_eq_true (by omega)
 have hws : IntKind.i64.wrap ((s : Int) + 1 - 1) = (s : Int) := by rw [IntKind.wrap_i64]; omega
 have hwl : IntKind.i64.wrap ((xs.length : Int) + 1 - 1) = (xs.length : Int) := by rw [IntKind.wrap_i64]; omega
 have i0 : (0 : Int) ≤ (xs.length : Int) := Int.natCast_nonneg _
 have i1 : (xs.length : Int) < (xs.length : Int) + 1 := by omega
 have hws2 : IntKind.i64.wrap (s : Int) = (s : Int) := by rw [IntKind.wrap_i64]; omega
 have i2 : (1 : Int) ≤ (Wt.length : Int) + 1 := by omega
 unfold maxLen at ham
 clear ih hN hA hLa hLk hS hb1 hsp hcn
 unfold nodV
 go_enter Tryz.func52, Tryz.ntmps52
 go_upto_region 4 with (at_builtin; go_must (refine wpList_app_nods _ rfl _ _ rfl S H W1.heap.size (.slice (some ⟨W1.heap.size, 0, none⟩) 0 0) (.slice na (xs ++ [z]).length nc) (xs := []) (ys := xs ++ [z]) rfl rfl (RwX.empty _ _ _ _ _ _) (fresh_empty _ _ _ (Nat.le_refl _)) (by simp) (fun b hb => Nat.lt_trans (HSb.out b hb) hz1) (HN.out.below (rdNod_stable _ _) (HBL.out.alloc HBL.out.size _)) (by simp; omega) ?_); intro v8 w8 hR8 hF8 hB8; rw [List.nil_append] at hR8; obtain ⟨b, o, c, za, zac, zk, zkc, h', hHe, hve, hmb, hbz, hfr, d0, d1, d2, d3, hza, hzk, hcm⟩ := fresh_last hR8 hF8; subst hve; subst hHe; have HR8 := Lib.hid hR8; have HF8 := Lib.hid hF8; have HZA := Lib.hid hza; have HZK := Lib.hid hzk; have hx8 := Lib.hid (((Below.refl W1.heap.size W1).alloc (Nat.le_refl _) _).trans hB8); have hbb8 := Lib.hid (below_from HBL.out hx8.out); have hP8 := Lib.hid (heap_below hx8.out HB1.out); clear hR8 hF8 hza hzk hB8)
 obtain ⟨W9, hW9⟩ : ∃ W9, w8.alloc (.cells #[.int .i64 z.tag, .slice za z.attrs.length zac, .string ⟨z.text.toArray⟩, .slice zk z.kids.length zkc] 35) = W9 := ⟨_, rfl⟩
 rw [hW9]
 have hb89 : Below w8.heap.size w8 W9 := hW9 ▸ (Below.refl _ _).alloc (Nat.le_refl _) _
 have hL9 : W9.heap[w8.heap.size]? = some (.cells #[.int .i64 z.tag, .slice za z.attrs.length zac, .string ⟨z.text.toArray⟩, .slice zk z.kids.length zkc] 35) := hW9 ▸ heap_new _ _ rfl
 have hz89 : w8.heap.size < W9.heap.size := by rw [← hW9]; simp
 have HB89 := Lib.hid hb89
 have HL9 := Lib.hid hL9
 have hz08 : w.heap.size < w8.heap.size := Nat.lt_of_lt_of_le hz1 hx8.out.size
 have hP9 : W9.heap[w.heap.size]? = some (.cells #[.int .i64 leaf.tag, .slice lla leaf.attrs.length llc, .string ⟨leaf.text.toArray⟩, .slice lka leaf.kids.length lkc] 35) := (hb89.block _ hz08).trans hP8.out
 have HA9 : Hid (∀ X, Below W9.heap.size W9 X → X.cell? ⟨w.heap.size, 0, none⟩ = some (.int .i64 leaf.tag) ∧ X.cell? ⟨w.heap.size, 1, none⟩ = some (.slice lla leaf.attrs.length llc) ∧ X.cell? ⟨w.heap.size, 2, none⟩ = some (.string ⟨leaf.text.toArray⟩) ∧ X.cell? ⟨w.heap.size, 3, none⟩ = some (.slice lka leaf.kids.length lkc)) := Lib.hid fun X hX => ⟨by rw [(blk (heap_below hX hP9)).1 0]; rfl, by rw [(blk (heap_below hX hP9)).1 1]; rfl, by rw [(blk (heap_below hX hP9)).1 2]; rfl, by rw [(blk (heap_below hX hP9)).1 3]; rfl⟩
 have HB9 : Hid (∀ X, Below W9.heap.size W9 X → X.cell? ⟨w8.heap.size, 3, none⟩ = some (.slice zk z.kids.length zkc)) := Lib.hid fun X hX => by rw [(blk (heap_below hX hL9)).1 3]; rfl
 have HC : Hid (∀ X, Below W9.heap.size W9 X → Calls Tryz.prog 52 #[.slice zk z.kids.length zkc, .slice sa Wt.length (ac - 1), .agg #[.int .i64 leaf.tag, .slice lla leaf.attrs.length llc, .string ⟨leaf.text.toArray⟩, .slice lka leaf.kids.length lkc], .int .i64 s] X fun e X' => ∃ ra rc, e = .returned (.slice ra G.length rc) ∧ NodsR true h' X' (fun b => S b ∨ X.heap.size ≤ b) (.slice ra G.length rc) G ∧ Below X.heap.size X X') := Lib.hid fun X hX => by
  have hwX : Below w.heap.size w X := below_from hbb8.out (below_from HB89.out hX)
  have h8X : Below w8.heap.size w8 X := below_from HB89.out hX
  refine (HIH.out h' hl _ _ (.slice lla leaf.attrs.length llc) (.slice lka leaf.kids.length lkc) z.kids Wt leaf X S (HZK.out.below (rdNod_stable _ _) h8X) (HPT.out.below (rdNod_stable _ _) hwX) (HLa.out.below (rdOf_stable _) hwX) (HLk.out.below (rdNod_stable _ _) hwX) (fun b hb => Nat.lt_of_lt_of_le (HSb.out b hb) hwX.size) (by omega) (by omega) HSP.out hcz (by omega)).mono ?_
  rintro e X' ⟨v', h1, h2, h3⟩
  rw [HGl.out] at h2
  obtain ⟨ra, rc, rfl⟩ := h2.slice
  exact ⟨ra, rc, h1, h2, h3⟩
 have hd9 : Below W9.heap.size W9 W9.drew := (Below.refl _ _).drew
 have HP9 := Lib.hid hP9
 clear hW9 hL9 hP9 hb89
 refine wp_region_T (fun X => X.cell? ⟨w.heap.size, 0, none⟩ = some (.int .i64 leaf.tag) ∧ X.cell? ⟨w.heap.size, 1, none⟩ = some (.slice lla leaf.attrs.length llc) ∧ X.cell? ⟨w.heap.size, 2, none⟩ = some (.string ⟨leaf.text.toArray⟩) ∧ X.cell? ⟨w.heap.size, 3, none⟩ = some (.slice lka leaf.kids.length lkc)) (fun X => X.cell? ⟨w8.heap.size, 3, none⟩ = some (.slice zk z.kids.length zkc)) 9 (by kernel_rfl) ?_
 refine anyT_take (i := 0) (v := ?_) (by simp only [qA, qS, qZ]; rfl) (by kernel_rfl) (by kernel_rfl) (by kernel_rfl) (by kernel_rfl) (fun _ _ _ h => h) (Or.inl ⟨by rfl, ?_⟩) ⟨HA9.out _ hd9, HB9.out _ hd9⟩ ?_
 rotate_left 1
 ·intro w hSw; (try dsimp only at hSw); go_simp; (first | done | with_reducible rfl)
 try simp only [Act.put, qI, qX, qY]
 refine anyT_take (i := 1) (v := ?_) (by simp only [qA, qS, qZ]; rfl) (by kernel_rfl) (by kernel_rfl) (by kernel_rfl) (by kernel_rfl) (fun _ _ _ h => h) (Or.inl ⟨by rfl, ?_⟩) ⟨HA9.out _ hd9, HB9.out _ hd9⟩ ?_
 rotate_left 1
 ·intro w hSw; (try dsimp only at hSw); go_simp; (first | done | with_reducible rfl)
 try simp only [Act.put, qI, qX, qY]
 refine anyT_take (i := 2) (v := ?_) (by simp only [qA, qS, qZ]; rfl) (by kernel_rfl) (by kernel_rfl) (by kernel_rfl) (by kernel_rfl) (fun _ _ _ h => h) (Or.inl ⟨by rfl, ?_⟩) ⟨HA9.out _ hd9, HB9.out _ hd9⟩ ?_
 rotate_left 1
 ·intro w hSw; (try dsimp only at hSw); go_simp; (first | done | with_reducible rfl)
 try simp only [Act.put, qI, qX, qY]
 refine anyT_take (i := 4) (v := ?_) (by simp only [qA, qS, qZ]; rfl) (by kernel_rfl) (by kernel_rfl) (by kernel_rfl) (by kernel_rfl) (fun _ _ _ h => h) (Or.inl ⟨by rfl, ?_⟩) ⟨HA9.out _ hd9, HB9.out _ hd9⟩ ?_
 rotate_left 1
 ·intro w hSw; (try dsimp only at hSw); go_simp; (first | done | with_reducible rfl)
 try simp only [Act.put, qI, qX, qY]
 refine anyT_take (i := 5) (v := ?_) (by simp only [qA, qS, qZ]; rfl) (by kernel_rfl) (by kernel_rfl) (by kernel_rfl) (by kernel_rfl) (fun _ _ _ h => h) (Or.inl ⟨by rfl, ?_⟩) ⟨HA9.out _ hd9, HB9.out _ hd9⟩ ?_
 rotate_left 1
 ·intro w hSw; (try dsimp only at hSw); go_simp; (first | done | with_reducible rfl)
 try simp only [Act.put, qI, qX, qY]
 refine anyT_take (i := 6) (v := ?_) (by simp only [qA, qS, qZ]; rfl) (by kernel_rfl) (by kernel_rfl) (by kernel_rfl) (by kernel_rfl) (fun _ _ _ h => h) (Or.inl ⟨by rfl, ?_⟩) ⟨HA9.out _ hd9, HB9.out _ hd9⟩ ?_
 rotate_left 1
 ·intro w hSw; (try dsimp only at hSw); go_simp; (first | done | with_reducible rfl)
 try simp only [Act.put, qI, qX, qY]
 refine anyT_ready (rs := [3]) (by kernel_rfl) (by simp) ?_
 refine AllReadyT.cons (by simp only [qA, qS, qZ]; rfl) (fun K hK => ?_) AllReadyT.nil
 go_simp
 rw [HSA.out]
 refine hK.out _ _ (HA9.out _ hd9) (Or.inr (HB9.out _ hd9)) ?_
 clear hK K
 try simp only [Act.put, qI, qX, qY]
 refine anyT_ready (rs := [7]) (by kernel_rfl) (by simp) ?_
 refine AllReadyT.cons (by simp only [qA, qS, qZ]; rfl) (fun K hK => ?_) AllReadyT.nil
 go_simp
 refine (HC.out _ hd9).mono ?_
 rintro e w10 ⟨ra, rc, rfl, hr10, hb10⟩
 have HR10 := Lib.hid hr10
 have hx10 : Below W9.heap.size W9 w10 := below_from hd9 hb10
 have HX10 := Lib.hid hx10
 clear hr10 hb10
 refine hK.out _ _ (HA9.out _ hx10) (Or.inr (HB9.out _ hx10)) ?_
 clear hK K
 try simp only [Act.put, qI, qX, qY]
 refine anyT_takeA (i := 8) (v := ?_) (by simp only [qA, qS, qZ]; rfl) (by kernel_rfl) (by kernel_rfl) (by kernel_rfl) (by kernel_rfl) (fun _ _ _ h => h) (Or.inl ⟨by rfl, ?_⟩) (HA9.out _ hx10) (Or.inr (HB9.out _ hx10)) ?_
 rotate_left 1
 ·intro w hSw; (try dsimp only at hSw); go_simp; (first | done | with_reducible rfl)
 try simp only [Act.put, qI, qX, qY]
 have hL10 := Lib.hid (heap_below hx10 HL9.out)
 obtain ⟨q1, g1⟩ := blk hL10.out
 refine anyT_ready (rs := [9]) (by kernel_rfl) (by simp) ?_
 refine AllReadyT.cons (by simp only [qA, qS, qZ]; rfl) (fun K hK => ?_) AllReadyT.nil
 go_simp
 have hP11 : (w10.setCell ⟨w8.heap.size, 3, none⟩ (.slice ra G.length rc)).heap[w.heap.size]? = some (.cells #[.int .i64 leaf.tag, .slice lla leaf.attrs.length llc, .string ⟨leaf.text.toArray⟩, .slice lka leaf.kids.length lkc] 35) := by
  rw [heap_set, if_neg (by omega)]
  exact heap_below hx10 HP9.out
 refine hK.out _ _ ⟨by rw [(blk hP11).1 0]; rfl, by rw [(blk hP11).1 1]; rfl, by rw [(blk hP11).1 2]; rfl, by rw [(blk hP11).1 3]; rfl⟩ (Or.inl (by rfl)) ?_
 clear hK K hP11
 refine anyT_done (by kernel_rfl) ?_ _
 refine NoPanic.normal ?_
 obtain ⟨W11, hW11⟩ : ∃ W11, w10.setCell ⟨w8.heap.size, 3, none⟩ (.slice ra G.length rc) = W11 := ⟨_, rfl⟩
 rw [hW11]
 have hL11 : W11.heap[w8.heap.size]? = some (.cells #[.int .i64 z.tag, .slice za z.attrs.length zac, .string ⟨z.text.toArray⟩, .slice ra G.length rc] 35) := by
  rw [← hW11, heap_set, if_pos rfl, hL10.out]
  rfl
 have hx811 : Below w8.heap.size w8 W11 := by
  rw [← hW11]
  exact (below_from HB89.out hx10).setCell (Nat.le_refl _) _
 have hK11 : Keeps (fun d => d ≠ w8.heap.size) w10 W11 := by
  rw [← hW11]
  exact (Keeps.refl _ _).set (by simp) _
 have hz11 : w8.heap.size < W11.heap.size := (Array.getElem?_eq_some_iff.1 hL11).1
 obtain ⟨p5, f5⟩ := blk hL11
 have e0 := (hx811.cell (p := ⟨b, o + xs.length * 4, none⟩) hbz).trans d0
 have e1 := (hx811.cell (p := ⟨b, o + xs.length * 4 + 1, none⟩) hbz).trans d1
 have e2 := (hx811.cell (p := ⟨b, o + xs.length * 4 + 2, none⟩) hbz).trans d2
 have e3 := (hx811.cell (p := ⟨b, o + xs.length * 4 + 3, none⟩) hbz).trans d3
 have hfr2 : ∀ k, W11.frozen? ⟨b, k, none⟩ = false := fun k => (World.frozen?_of_block (hx811.block b hbz)).trans (hfr k)
 have hne : ¬ b = w8.heap.size := Nat.ne_of_lt hbz
 have hne2 : ¬ w8.heap.size = b := fun e => hne e.symm
 have HX11 := Lib.hid hx811
 have HK11 := Lib.hid hK11
 clear q1 g1 d0 d1 d2 d3 hfr hW11 hL11 hx811 hK11 hd9
 go_wp2_with fail
 go_ret
 have hsx : ∀ d, S d → d < w8.heap.size := fun d hd => Nat.lt_trans (HSb.out d hd) hz08
 have hrow := fresh_put (S1 := fun d => S d ∨ W9.heap.size ≤ d) (x := .mk z.tag z.attrs z.text G) (HR8.out.below (rdIn_stable _ _) (Keeps.all HX11.out)) (fun d hd => .inl hd) (fun hd => by
   have := HB89.out.size
   rcases hd with hd | hd
   ·have := HSb.out _ hd
    omega
   ·omega) ((HZA.out.below (rdOf_stable _) HX11.out).stable (rdOf_stable _) (Keeps.refl _ _) (fun d hd _ => .inl hd)) (HR10.out.stable (rdNod_stable _ _) (S' := fun d => S d ∨ W9.heap.size ≤ d) ⟨HK11.out.size, fun d hd hz => HK11.out.block d (fun e => by
   have := HB89.out.size
   subst e
   rcases hd with hd | hd
   ·have := hsx _ hd
    omega
   ·have hd : W9.heap.size ≤ w8.heap.size := hd
    omega) hz⟩ (fun d hd _ => hd))
 have hfin := (fresh_row hrow HF8.out).stable (rdNod_stable _ _) (Keeps.refl _ _) (S' := fun d => S d ∨ w.heap.size ≤ d) (fun d hd _ => by
  rcases hd with (hd | hd) | hd
  ·exact .inl hd
  ·exact .inr (by omega)
  ·exact .inr (by omega))
 refine ⟨_, rfl, ?_, ?_⟩
 ·exact hfin
 ·exact ((((hbb8.out.trans (HX11.out.mono hbb8.out.size)).setCell (by show w.heap.size ≤ b; omega) _).setCell (by show w.heap.size ≤ b; omega) _).setCell (by show w.heap.size ≤ b; omega) _).setCell (by show w.heap.size ≤ b; omega) _
theorem nest_at {W : List Wr} {j : Nat} {y : Wr} (h : W[j]? = some y) (leaf : Nod) : nestW (W.drop j) leaf = .mk y.1 y.2 [] [nestW (W.drop (j + 1)) leaf] := by
 obtain ⟨h1, rfl⟩ := List.getElem?_eq_some_iff.1 h
 rw [List.drop_eq_getElem_cons h1]
 rfl
def LeafBox (Z h : Nat) (S : Nat → Prop) (n : Nod) (w : World) : Prop := ∃ aa ac ka kc, w.heap[Z]? = some (.cells #[.int .i64 n.tag, .slice aa n.attrs.length ac, .string ⟨n.text.toArray⟩, .slice ka n.kids.length kc] 35) ∧ AttsR true w S (.slice aa n.attrs.length ac) n.attrs ∧ NodsR true h w S (.slice ka n.kids.length kc) n.kids
set_option maxRecDepth 100000 in
set_option maxHeartbeats 4000000 in
theorem put_base : PutAt 0 := by
 intro H hl nv av la lk l W leaf w S hN hA hLa hLk hS hH hsW hsp hcn hWl
 have hll : l.length ≤ 1000000 := by
  have h2 : ∀ l : List Nod, l.length ≤ Nod.counts l := by
   intro l
   induction l with
   | nil => simp
   | cons a l ih => rw [List.length_cons, Nod.counts]; have : 1 ≤ a.count := by cases a; rw [Nod.count]; omega
                    omega
  have := h2 l
  omega
 obtain ⟨na, nc, rfl⟩ := hN.slice
 obtain ⟨aa, ac, rfl, hac, ham, hax⟩ := SliceR.shape hA
 obtain ⟨lla, llc, rfl⟩ := hLa.slice
 obtain ⟨lka, lkc, rfl⟩ := hLk.slice
 have HAX : Hid (∀ i y, W[i]? = some y → ∃ b o ya yc yk ykc, aa = some ⟨b, o, none⟩ ∧ b < w.heap.size ∧ w.cell? ⟨b, o + i * 4, none⟩ = some (.int .i64 y.1) ∧ w.cell? ⟨b, o + i * 4 + 1, none⟩ = some (.slice ya y.2.length yc) ∧ w.cell? ⟨b, o + i * 4 + 2, none⟩ = some (.string ⟨#[]⟩) ∧ w.cell? ⟨b, o + i * 4 + 3, none⟩ = some (.slice yk 0 ykc) ∧ AttsR true w S (.slice ya y.2.length yc) y.2) := Lib.hid fun i y hy => by
  obtain ⟨b, o, vs, e, hz, _, _, hR, hc⟩ := hax i (wrN y) (by rw [List.getElem?_map, hy]; rfl)
  obtain ⟨a, k, rfl, r1, r2⟩ := hR
  obtain ⟨ya, yc, rfl⟩ := r1.slice
  obtain ⟨yk, ykc, rfl⟩ := r2.slice
  exact ⟨b, o, ya, yc, yk, ykc, e, hz, hc 0 _ rfl, hc 1 _ rfl, hc 2 _ rfl, hc 3 _ rfl, r1⟩
 simp only [List.length_map] at hac
 have HN := Lib.hid hN
 have HSb := Lib.hid hS
 obtain ⟨W1, hW1⟩ : ∃ W1, w.alloc (.cells #[.int .i64 leaf.tag, .slice lla leaf.attrs.length llc, .string ⟨leaf.text.toArray⟩, .slice lka leaf.kids.length lkc] 35) = W1 := ⟨_, rfl⟩
 have hb1 : Below w.heap.size w W1 := hW1 ▸ (Below.refl _ _).alloc (Nat.le_refl _) _
 have hz1 : w.heap.size < W1.heap.size := by rw [← hW1]; simp
 have HLB : Hid (LeafBox w.heap.size (hl + (W.length - W.length)) (fun d => S d ∨ W1.heap.size ≤ d) (nestW (W.drop W.length) leaf) W1) := Lib.hid (by
  rw [List.drop_length, Nat.sub_self]
  exact ⟨lla, llc, lka, lkc, hW1 ▸ heap_new _ _ rfl, (hLa.below (rdOf_stable _) hb1).stable (rdOf_stable _) (Keeps.refl _ _) (fun d hd _ => .inl hd), (hLk.below (rdNod_stable _ _) hb1).stable (rdNod_stable _ _) (Keeps.refl _ _) (fun d hd _ => .inl hd)⟩)
 have HBL := Lib.hid hb1
 have hd0 : decide ((0 : Int) < ((0 : Nat) : Int)) = false := rfl
 have hwl : IntKind.i64.wrap ((W.length : Int) - 1) = (W.length : Int) - 1 := by rw [IntKind.wrap_i64]; omega
 unfold maxLen at ham
 clear hN hA hLa hLk hS hax hb1 hsp hcn hsW
 rw [show putW l W leaf 0 = l ++ [nestW W leaf] by rw [putW]]
 obtain ⟨N, hNW⟩ : ∃ N, nestW W leaf = N := ⟨_, rfl⟩
 rw [hNW]
 have HNW := Lib.hid hNW
 clear hNW
 unfold nodV
 go_enter Tryz.func52, Tryz.ntmps52
 go_wp2_with fail
 go_loopw [11] (fun i wr => ∃ k : Nat, k ≤ W.length ∧ i = .int .i64 ((k : Int) - 1) ∧ Hid (LeafBox w.heap.size (hl + (W.length - k)) (fun d => S d ∨ W1.heap.size ≤ d) (nestW (W.drop k) leaf) wr) ∧ Hid (Below w.heap.size w wr) ∧ W1.heap.size ≤ wr.heap.size) (fun i _ => (intOf i + 1).toNat)
 case atStart => exact ⟨W.length, Nat.le_refl _, rfl, HLB, HBL, Nat.le_refl _⟩
 case round =>
  clear HLB
  obtain ⟨k, hk, rfl, HL, HBr, hzr⟩ := hrel
  obtain ⟨ya, yc, yk, ykc, hZ, hLa, hLk⟩ := HL.out
  obtain ⟨p2, f2⟩ := blk hZ
  cases k with
  | zero =>
   obtain ⟨H', rfl⟩ : ∃ H', H = H' + 1 := ⟨H - 1, by omega⟩
   rw [List.drop_zero, Nat.sub_zero, HNW.out] at HL
   rw [show (((0 : Nat) : Int) - 1) = -1 from rfl]
   clear hZ hLa hLk p2 f2
   obtain ⟨ya, yc, yk, ykc, hZ, hLa, hLk⟩ := HL.out
   obtain ⟨p2, f2⟩ := blk hZ
   have HZ := Lib.hid hZ
   have zz : w.heap.size < wr.heap.size := Nat.lt_of_lt_of_le hz1 hzr
   have HLA : Hid (∀ X, Below wr.heap.size wr X → AttsR true X (fun d => (S d ∨ W1.heap.size ≤ d) ∧ d < wr.heap.size) (.slice ya N.attrs.length yc) N.attrs) := Lib.hid fun X hX => hLa.stable (rdOf_stable _) (Keeps.all hX) (fun d hd hz => ⟨hd, hz⟩)
   have HLK : Hid (∀ X, Below wr.heap.size wr X → NodsR true H' X (fun d => (S d ∨ W1.heap.size ≤ d) ∧ d < wr.heap.size) (.slice yk N.kids.length ykc) N.kids) := Lib.hid fun X hX => nods_mono' (by omega) (hLk.stable (rdNod_stable _ _) (Keeps.all hX) (fun d hd hz => ⟨hd, hz⟩))
   have HNn : Hid (∀ X, Below wr.heap.size wr X → NodsR true (H' + 1) X (fun d => (S d ∨ W1.heap.size ≤ d) ∧ d < wr.heap.size) (.slice na l.length nc) l) := Lib.hid fun X hX => HN.out.stable (rdNod_stable _ _) ((Keeps.all HBr.out).trans (Keeps.all hX)) (fun d hd hz => ⟨.inl hd, Nat.lt_of_lt_of_le hz HBr.out.size⟩)
   have hSl : ∀ d, ((S d ∨ W1.heap.size ≤ d) ∧ d < wr.heap.size) → d < wr.heap.size := fun d hd => hd.2
   clear hZ hLa hLk
   go_upto_region 13 with fail
   go_region_held3 (fun X => X.cell? ⟨w.heap.size, 0, none⟩ = some (.int .i64 N.tag) ∧ X.cell? ⟨w.heap.size, 1, none⟩ = some (.slice ya N.attrs.length yc) ∧ X.cell? ⟨w.heap.size, 2, none⟩ = some (.string ⟨N.text.toArray⟩) ∧ X.cell? ⟨w.heap.size, 3, none⟩ = some (.slice yk N.kids.length ykc)) ((first | go_keep | skip))
    (first
     | (refine step_app_nods (by rfl) _ _ (by rfl) (fun d => (S d ∨ W1.heap.size ≤ d) ∧ d < wr.heap.size) (H' + 1) wr.heap.size (.slice (some ⟨wr.heap.size, 0, none⟩) 0 0) (.slice na l.length nc) (xs := []) (by rfl) (by rfl) (RwX.empty _ _ _ _ _ _) (fresh_empty _ _ _ (by omega)) (by simp <;> omega) hSl (HNn.out _ (by go_grown)) (by simp <;> omega) ?_; intro v8 w8 hR8 hF8 hB8 hG8; rw [List.nil_append] at hR8; obtain ⟨oa, on, oc, hve⟩ := slice_anyX hR8; subst hve; have HR8 := Lib.hid hR8; have HF8 := Lib.hid hF8; have HG8 := Lib.hid hG8; have hx8 : Below wr.heap.size wr w8 := Below.trans (by go_grown) hB8; have HX8 := Lib.hid hx8; obtain ⟨q1, g1⟩ := blk (heap_below hx8 HZ.out); clear hR8 hF8 hG8 hB8)
     | (refine step_app_nods (by rfl) _ _ (by rfl) (fun d => (S d ∨ W1.heap.size ≤ d) ∧ d < wr.heap.size) (H' + 1) wr.heap.size (.slice (some ⟨wr.heap.size + 1, 0, none⟩) 0 0) (.slice na l.length nc) (xs := []) (by rfl) (by rfl) (RwX.empty _ _ _ _ _ _) (fresh_empty _ _ _ (by omega)) (by simp <;> omega) hSl (HNn.out _ (by go_grown)) (by simp <;> omega) ?_; intro v8 w8 hR8 hF8 hB8 hG8; rw [List.nil_append] at hR8; obtain ⟨oa, on, oc, hve⟩ := slice_anyX hR8; subst hve; have HR8 := Lib.hid hR8; have HF8 := Lib.hid hF8; have HG8 := Lib.hid hG8; have hx8 : Below wr.heap.size wr w8 := Below.trans (by go_grown) hB8; have HX8 := Lib.hid hx8; obtain ⟨q1, g1⟩ := blk (heap_below hx8 HZ.out); clear hR8 hF8 hG8 hB8)
     | (refine step_app_node (by rfl) _ _ (by rfl) (fun d => (S d ∨ W1.heap.size ≤ d) ∧ d < wr.heap.size) H' wr.heap.size (.slice oa on oc) (xs := l) (z := N) (B := w8.heap.size) (c := 1) (va := .slice ya N.attrs.length yc) (vk := .slice yk N.kids.length ykc) (by rfl) (by rfl) (HR8.out.below (rdIn_stable _ _) (Keeps.all ((Below.refl _ _).alloc (Nat.le_refl _) _))) HF8.out (HX8.out.alloc HX8.out.size _).size hSl (heap_new _ _ rfl) (HLA.out _ (HX8.out.alloc HX8.out.size _)) (HLK.out _ (HX8.out.alloc HX8.out.size _)) (by omega) ?_; intro v9 w9 hR9 hF9 hB9; obtain ⟨pa, pn, pc, hve⟩ := slice_anyX hR9; subst hve; have HR9 := Lib.hid hR9; have HF9 := Lib.hid hF9; have hx9 : Below wr.heap.size wr w9 := Below.trans (HX8.out.alloc HX8.out.size _) hB9; have HX9 := Lib.hid hx9; obtain ⟨q2, g2⟩ := blk (heap_below hx9 HZ.out); clear hR9 hF9 hB9)
     | (refine step_app_node (by rfl) _ _ (by rfl) (fun d => (S d ∨ W1.heap.size ≤ d) ∧ d < wr.heap.size) H' wr.heap.size (.slice oa on oc) (xs := l) (z := N) (B := wr.heap.size + 1) (c := 1) (va := .slice ya N.attrs.length yc) (vk := .slice yk N.kids.length ykc) (by rfl) (by rfl) HR8.out HF8.out HX8.out.size hSl ((HG8.out.block _ (by simp) (by show some _ ≠ some _; simp)).trans (heap_new _ _ (by simp))) (HLA.out _ (HX8.out)) (HLK.out _ (HX8.out)) (by omega) ?_; intro v9 w9 hR9 hF9 hB9; obtain ⟨pa, pn, pc, hve⟩ := slice_anyX hR9; subst hve; have HR9 := Lib.hid hR9; have HF9 := Lib.hid hF9; have hx9 : Below wr.heap.size wr w9 := Below.trans (HX8.out) hB9; have HX9 := Lib.hid hx9; obtain ⟨q2, g2⟩ := blk (heap_below hx9 HZ.out); clear hR9 hF9 hB9)
     | (refine step_app_node (by rfl) _ _ (by rfl) (fun d => (S d ∨ W1.heap.size ≤ d) ∧ d < wr.heap.size) H' wr.heap.size (.slice oa on oc) (xs := l) (z := N) (B := wr.heap.size) (c := 1) (va := .slice ya N.attrs.length yc) (vk := .slice yk N.kids.length ykc) (by rfl) (by rfl) HR8.out HF8.out HX8.out.size hSl ((HG8.out.block _ (by simp <;> omega) (by show some _ ≠ some _; simp)).trans (heap_old _ _ (heap_new _ _ rfl))) (HLA.out _ (HX8.out)) (HLK.out _ (HX8.out)) (by omega) ?_; intro v9 w9 hR9 hF9 hB9; obtain ⟨pa, pn, pc, hve⟩ := slice_anyX hR9; subst hve; have HR9 := Lib.hid hR9; have HF9 := Lib.hid hF9; have hx9 : Below wr.heap.size wr w9 := Below.trans (HX8.out) hB9; have HX9 := Lib.hid hx9; obtain ⟨q2, g2⟩ := blk (heap_below hx9 HZ.out); clear hR9 hF9 hB9))
   all_goals
    go_wp2_with fail
    go_ret
    exact ⟨_, rfl, (fresh_row HR9.out HF9.out).stable (rdNod_stable _ _) (Keeps.refl _ _) (fun d hd _ => by
     rcases hd with ⟨hd | hd, _⟩ | hd
     ·exact .inl hd
     ·exact .inr (by omega)
     ·exact .inr (by omega)), below_from HBr.out HX9.out⟩
  | succ j =>
   obtain ⟨y, hy, _⟩ := getOf W j hk
   obtain ⟨b, o, ga, gc, gk, gkc, rfl, hz, c0, c1, c2, c3, hga⟩ := HAX.out j y hy
   have hji : (((j + 1 : Nat) : Int) - 1) = (j : Int) := by omega
   have HNE := Lib.hid (nest_at hy leaf)
   rw [hji]
   have hq : decide ((0 : Int) ≤ (j : Int)) = true := decide_eq_true (Int.natCast_nonneg _)
   have i0 : (0 : Int) ≤ (j : Int) := Int.natCast_nonneg _
   have i1 : (j : Int) < (W.length : Int) := by omega
   have hwj : IntKind.i64.wrap ((j : Int) - 1) = (j : Int) - 1 := by rw [IntKind.wrap_i64]; omega
   have c0 := (HBr.out.cell (p := ⟨b, o + j * 4, none⟩) hz).trans c0
   have c1 := (HBr.out.cell (p := ⟨b, o + j * 4 + 1, none⟩) hz).trans c1
   have c2 := (HBr.out.cell (p := ⟨b, o + j * 4 + 2, none⟩) hz).trans c2
   have c3 := (HBr.out.cell (p := ⟨b, o + j * 4 + 3, none⟩) hz).trans c3
   have zz : w.heap.size < wr.heap.size := Nat.lt_of_lt_of_le hz1 hzr
   have zz1 : ¬ w.heap.size = wr.heap.size := Nat.ne_of_lt zz
   have zz2 : ¬ w.heap.size = wr.heap.size + 1 := by omega
   have HGA := Lib.hid hga
   have HLA := Lib.hid hLa
   have HLK := Lib.hid hLk
   have HZ := Lib.hid hZ
   clear hy hga hLa hLk hji hZ
   clear HNW
   generalize nestW (W.drop (j + 1)) leaf = M at *
   go_wp2_with fail
   have hSZ : ¬ (S w.heap.size ∨ W1.heap.size ≤ w.heap.size) := fun hd => by
    rcases hd with hd | hd
    ·have := HSb.out _ hd
     omega
    ·omega
   obtain ⟨X, hX⟩ : ∃ X, ((((wr.setCell ⟨w.heap.size, 0, none⟩ (.int .i64 y.1)).setCell ⟨w.heap.size, 1, none⟩ (.slice ga y.2.length gc)).setCell ⟨w.heap.size, 2, none⟩ (.string ⟨#[]⟩)).setCell ⟨w.heap.size, 3, none⟩ (.slice (some ⟨wr.heap.size + 1, 0, none⟩) 1 1)).alloc (.cells #[.int .i64 y.1, .slice ga y.2.length gc, .string ⟨#[]⟩, .slice (some ⟨wr.heap.size + 1, 0, none⟩) 1 1] 35) = X := ⟨_, rfl⟩
   have hXs : X.heap.size = wr.heap.size + 1 := by rw [← hX]; simp
   have hXZ : X.heap[w.heap.size]? = some (.cells #[.int .i64 y.1, .slice ga y.2.length gc, .string ⟨#[]⟩, .slice (some ⟨wr.heap.size + 1, 0, none⟩) 1 1] 35) := by
    rw [← hX]
    exact heap_old _ _ (by simp [heap_set, putIn, HZ.out])
   have hKX : ∀ T : Nat → Prop, ¬ T w.heap.size → Keeps T wr X := fun T hT => by
    rw [← hX]
    exact (((((Keeps.refl _ _).set hT _).set hT _).set hT _).set hT _).alloc _
   have hBX : Below w.heap.size w X := by
    rw [← hX]
    exact ((((HBr.out.setCell (Nat.le_refl _) _).setCell (Nat.le_refl _) _).setCell (Nat.le_refl _) _).setCell (Nat.le_refl _) _).alloc (by have := HBr.out.size; simpa using this) _
   go_roundw
   case rel =>
    rw [hX]
    refine ⟨j, by omega, rfl, Lib.hid ?_, Lib.hid (hBX.alloc hBX.size _), by simp; omega⟩
    rw [HNE.out]
    have hrow : NodsR true (hl + (W.length - (j + 1)) + 1) (X.alloc (.cells #[.int .i64 M.tag, .slice ya M.attrs.length yc, .string ⟨M.text.toArray⟩, .slice yk M.kids.length ykc] 35)) (fun d => S d ∨ W1.heap.size ≤ d) (.slice (some ⟨wr.heap.size + 1, 0, none⟩) 1 1) [M] := by
     rw [← hXs]
     exact SliceR.one_new X [.int .i64 M.tag, .slice ya M.attrs.length yc, .string ⟨M.text.toArray⟩, .slice yk M.kids.length ykc] rfl ⟨_, _, rfl, HLA.out.stable (rdOf_stable _) ((hKX _ hSZ).alloc _) (fun _ h _ => h), HLK.out.stable (rdNod_stable _ _) ((hKX _ hSZ).alloc _) (fun _ h _ => h)⟩ (.inr (by omega))
    rw [show hl + (W.length - j) = hl + (W.length - (j + 1)) + 1 by omega]
    refine ⟨ga, gc, some ⟨wr.heap.size + 1, 0, none⟩, 1, heap_old _ _ hXZ, ?_, hrow⟩
    exact HGA.out.stable (rdOf_stable _) (((Keeps.all HBr.out).trans (hKX S (fun hs => hSZ (.inl hs)))).alloc _) (fun d hd _ => .inl hd)
   case measure => simp [intOf]
theorem put_all : ∀ s, PutAt s
 | 0 => put_base
 | s + 1 => put_deep s (put_all s)
end Go.Proofs.YteognfhemmogpaaGreatDoor
