/- The walks of render.Way, step. -/
import Derived.Test.YtjpgffihafknlaaGreatDoorRenRepB
import Derived.Test.YtjpgffihafknlaaGreatDoorRenAlikeB
import Derived.Test.YtjpgffihafknlaaGreatDoorRenRowWB
import Derived.Test.YtjpgffihafknlaaGreatDoorCharsTextB
import Derived.Deep.RegionHeld3
set_option linter.unusedVariables false
set_option linter.unusedSimpArgs false
namespace Go.Proofs.YtjpgffihafknlaaGreatDoor
open Go.RowKit
open Go.Proofs.Qw
attribute [local go_sem ↓] Go.wp_at_zero Go.wp_at_succ
def tagW1 (k : Int) : Int := if k = 0 then 7 else 8
theorem oneV_tag (k : Int) : ∀ u ∈ [Value.int .i64 k], u.oneCell' = true := fun u hu => by simp at hu; subst hu; rfl
theorem src_tag (w : World) (r : Int) (c : Nat) {B : Nat} (hB : B = w.heap.size) : Src Tryz.prog 1 34 (.slice (some ⟨B, 0, none⟩) 1 c) 1 [.int .i64 r] (w.alloc (.cells #[.int .i64 r] 3)) := hB ▸ src_one rowInt w [.int .i64 r] rfl (oneV_tag r) c
theorem slice_any' {α : Type} {t : TypeId} {k : Nat} {R : Rd α} {own : Bool} {w : World} {S : Nat → Prop} {v : Value} {xs : List α} (h : SliceR t k R own w S v xs) : ∃ a n c, v = .slice a n c := by
 obtain ⟨a, c, e⟩ := h.slice
 exact ⟨a, _, c, e⟩
theorem way_eq (l : Lin) : wayL l = List.replicate (min l.quote.toNat 6) 6 ++ l.lists.map tagW1 := rfl
theorem way_most (l : Lin) : (wayL l).length ≤ 6 + l.lists.length := by rw [way_eq]; simp; omega
set_option maxRecDepth 100000 in
set_option maxHeartbeats 4000000 in
theorem way_any (l : Lin) (a : Value) (ca : Option Addr) (cn cc : Nat) (w w0 : World) (S : Nat → Prop) (ha : IntsR false w0 S a l.lists) (h0 : Below w0.heap.size w0 w) (hn : l.lists.length ≤ 1000000) :
  Calls Tryz.prog 117 #[linV l a (.slice ca cn cc)] w fun e w' => ∃ v', e = .returned v' ∧ IntsR true w' (fun b => w.heap.size ≤ b) v' (wayL l) ∧ Below w.heap.size w w' := by
 obtain ⟨la, lc, rfl, hlc, hlm, hlx⟩ := ints_shape ha
 have HX := Lib.hid hlx
 have HW0 := Lib.hid h0
 have HQ : Hid (min (max l.quote 0) 6 = ((min l.quote.toNat 6 : Nat) : Int)) := Lib.hid (by omega)
 have hq6 : min l.quote.toNat 6 ≤ 6 := Nat.min_le_right _ _
 obtain ⟨q, hqq⟩ : ∃ q, min l.quote.toNat 6 = q := ⟨_, rfl⟩
 have HWE := Lib.hid (way_eq l)
 rw [hqq] at HQ hq6 HWE
 obtain ⟨W1, hW1⟩ : ∃ W1, w.alloc (.cells #[.int .i64 l.quote, .slice la l.lists.length lc, .int .i64 l.kind, .slice ca cn cc] 37) = W1 := ⟨_, rfl⟩
 have hb1 : Below w.heap.size w W1 := hW1 ▸ (Below.refl _ _).alloc (Nat.le_refl _) _
 have hz1 : W1.heap.size = w.heap.size + 1 := by rw [← hW1]; simp
 have HB1 : Hid (W1.heap[w.heap.size]? = some (.cells #[.int .i64 l.quote, .slice la l.lists.length lc, .int .i64 l.kind, .slice ca cn cc] 37)) := Lib.hid (hW1 ▸ heap_new _ _ rfl)
 have HBL := Lib.hid hb1
 have HZ1 := Lib.hid hz1
 have HWW := Lib.hid hW1
 unfold maxLen at hlm
 clear ha h0 hlx hqq hb1 hz1 hW1
 unfold linV
 go_enter Tryz.func117, Tryz.ntmps117
 go_wp2_with (go_at_call 132; rw [HWW.out, HQ.out]; refine (rep_any q hq6 _ _ (heap_new _ _ HZ1.out.symm)).mono ?_; rintro e w3 ⟨v3, rfl, hv3, hb3⟩; obtain ⟨ra, rc, hre⟩ := hv3.slice; subst hre; have HV3 := Lib.hid hv3; have hb13 : Below W1.heap.size W1 w3 := below_from ((Below.refl _ _).alloc (Nat.le_refl _) _) hb3; have HB3 := Lib.hid hb13; obtain ⟨q3, g3⟩ := blk (heap_below hb13 HB1.out); clear hv3 hb3 hb13)
 go_loopw [3, 5, 6, 16] (fun o _ _ i wr => ∃ (k : Nat) (oa : Option Addr) (on oc : Nat), k ≤ l.lists.length ∧ i = .int .i64 k ∧ o = .slice oa on oc ∧ on = q + k ∧ Hid (IntsR true wr (fun b => W1.heap.size ≤ b) (.slice oa on oc) (List.replicate q 6 ++ (l.lists.take k).map tagW1)) ∧ Hid (Below W1.heap.size W1 wr)) (fun _ _ _ i _ => l.lists.length - (intOf i).toNat)
 case atStart =>
  refine ⟨0, ra, _, rc, Nat.zero_le _, rfl, rfl, by simp, Lib.hid ?_, HB3⟩
  have h := HV3.out
  rw [List.length_replicate] at h
  refine SliceR.stable (xs := List.replicate q 6 ++ (l.lists.take 0).map tagW1) (rdOf_stable _) ?_ (Keeps.refl _ _) (fun b h _ => h)
  rw [List.take_zero, List.map_nil, List.append_nil]
  refine h.stable (rdOf_stable _) (Keeps.refl _ _) (fun b h _ => ?_)
  have h : (W1.alloc (.cells #[.int .i64 6] 3)).heap.size ≤ b := h
  simp at h
  omega
 case round =>
  clear q3 g3
  obtain ⟨k, oa, on, oc, hk, rfl, rfl, hon, HO, HBr⟩ := hrel
  by_cases hlt : k < l.lists.length
  ·obtain ⟨x, hx, _⟩ := getOf l.lists k hlt
   obtain ⟨b, o, rfl, hz, c0⟩ := HX.out k x hx
   have hbz : b < W1.heap.size := Nat.lt_of_lt_of_le hz (Nat.le_trans HW0.out.size HBL.out.size)
   have c0 := (HBr.out.cell (p := ⟨b, o + k, none⟩) hbz).trans ((below_from HW0.out HBL.out |>.cell (p := ⟨b, o + k, none⟩) hz).trans c0)
   have HT := Lib.hid (by rw [take_some hx, List.map_append, ← List.append_assoc]; rfl : List.replicate q 6 ++ (l.lists.take (k + 1)).map tagW1 = (List.replicate q 6 ++ (l.lists.take k).map tagW1) ++ [tagW1 x])
   have hrl : (List.replicate q 6 ++ (l.lists.take k).map tagW1).length + 1 ≤ 100000000 := by simp; omega
   have HSX : Hid (∀ X, Below wr.heap.size wr X → IntsR true X (fun b => W1.heap.size ≤ b) (.slice oa on oc) (List.replicate q 6 ++ (l.lists.take k).map tagW1)) := Lib.hid fun X hX => HO.out.stable (rdOf_stable _) (.all hX) (fun _ h _ => h)
   have hrs := HBr.out.size
   have i0 : (0 : Int) ≤ (k : Int) := Int.natCast_nonneg _
   have i1 : (k : Int) < (l.lists.length : Int) := by omega
   generalize hrr : List.replicate q 6 ++ (l.lists.take k).map tagW1 = rr at *
   clear hx hrr
   by_cases hx0 : x = 0
   ·have hq0 : (x == 0) = true := by simp [hx0]
    have htg : tagW1 x = 7 := by unfold tagW1; rw [if_pos hx0]
    rw [htg] at HT
    clear htg hx0
    go_wp2_with (at_builtin; go_must (refine wpList_append_R _ rfl _ _ 34 34 rfl rowInt eltInt W1.heap.size (.slice oa on oc) _ (xs := rr) (ys := [7]) (news := [.int .i64 7]) rfl rfl (HSX.out _ (by go_grown)) (by simp; omega) (src_tag _ _ 1 (by simp)) (NewsR.one rfl rfl) hrl ?_); intro v' w8 hR8 hB8 _ _; rw [← HT.out] at hR8; obtain ⟨na, nn, nc, hne⟩ := slice_any' hR8; subst hne; have HR8 := Lib.hid hR8; have HB8 := Lib.hid hB8; clear hR8 hB8)
    go_roundw
    case rel =>
     refine ⟨k + 1, na, nn, nc, hlt, by go_num, rfl, ?_, HR8, Lib.hid (Below.trans (below_from HBr.out ?_) HB8.out)⟩
     ·have := HR8.out.slice
      obtain ⟨a', c', e⟩ := this
      cases e
      simp
      omega
     ·go_grown
    case measure => simp [intOf]; omega
   ·have hq0 : (x == 0) = false := by simp [hx0]
    have htg : tagW1 x = 8 := by unfold tagW1; rw [if_neg hx0]
    rw [htg] at HT
    clear htg hx0
    go_wp2_with (at_builtin; go_must (refine wpList_append_R _ rfl _ _ 34 34 rfl rowInt eltInt W1.heap.size (.slice oa on oc) _ (xs := rr) (ys := [8]) (news := [.int .i64 8]) rfl rfl (HSX.out _ (by go_grown)) (by simp; omega) (src_tag _ _ 1 (by simp)) (NewsR.one rfl rfl) hrl ?_); intro v' w8 hR8 hB8 _ _; rw [← HT.out] at hR8; obtain ⟨na, nn, nc, hne⟩ := slice_any' hR8; subst hne; have HR8 := Lib.hid hR8; have HB8 := Lib.hid hB8; clear hR8 hB8)
    go_roundw
    case rel =>
     refine ⟨k + 1, na, nn, nc, hlt, by go_num, rfl, ?_, HR8, Lib.hid (Below.trans (below_from HBr.out ?_) HB8.out)⟩
     ·have := HR8.out.slice
      obtain ⟨a', c', e⟩ := this
      cases e
      simp
      omega
     ·go_grown
    case measure => simp [intOf]; omega
  ·obtain rfl : k = l.lists.length := by omega
   rw [List.take_length, ← HWE.out] at HO
   go_wp2_with fail
   go_ret
   exact ⟨_, rfl, HO.out.stable (rdOf_stable _) (Keeps.refl _ _) (fun b h _ => Nat.le_trans HBL.out.size h), HBL.out.trans (HBr.out.mono HBL.out.size)⟩
end Go.Proofs.YtjpgffihafknlaaGreatDoor
namespace Go.Proofs.Qw
open Go.RowKit
mutual
theorem findN_le : ∀ (n : Nod) (p : List Int) (i j : Nat), findN n p i = .inr j → j ≤ i
 | .mk _ _ _ ks, p, i, j, h => findK_le ks 0 p i j (by rw [findN] at h; exact h)
theorem findK_le : ∀ (ks : List Nod) (t : Nat) (p : List Int) (i j : Nat), findK ks t p i = .inr j → j ≤ i
 | [], t, p, i, j, h => by rw [findK_nil] at h; cases h; exact Nat.le_refl _
 | k :: ks, t, p, i, j, h => by
  rw [findK_cons] at h
  split at h
  ·cases i with
   | zero => cases h
   | succ i => have := findK_le ks _ _ i j h; omega
  ·cases hr : findN k (p ++ [(t : Int)]) i with
   | inl r => rw [hr] at h; cases h
   | inr i2 =>
    rw [hr] at h
    have h1 := findN_le k _ _ _ hr
    have h2 := findK_le ks _ _ _ _ h
    omega
end
end Go.Proofs.Qw
namespace Go.Proofs.YtjpgffihafknlaaGreatDoor
open Go.RowKit
open Go.Proofs.Qw
attribute [local go_sem] Oper.semAt_some
theorem nods_shapeS {h : Nat} {w : World} {S : Nat → Prop} {v : Value} {d : List Nod} (hd : NodsR false h w S v d) :
  ∃ a c, v = .slice a d.length c ∧ d.length ≤ c ∧ c ≤ maxLen ∧ ∀ i l, d[i]? = some l → ∃ b o aa ac ka kc h', h = h' + 1 ∧ a = some ⟨b, o, none⟩ ∧ S b ∧ NodAt h' w S b (o + i * 4) l aa ac ka kc := by
 obtain ⟨a, c, rfl, hc, hm, hx⟩ := SliceR.shape hd
 refine ⟨a, c, rfl, hc, hm, fun i l hl => ?_⟩
 obtain ⟨b, o, vs, rfl, hz, hS, _, hR, he⟩ := hx i l hl
 match h, hR with
 | h' + 1, ⟨x, y, e, h1, h2⟩ =>
  subst e
  obtain ⟨aa, ac, rfl⟩ := h1.slice
  obtain ⟨ka, kc, rfl⟩ := h2.slice
  exact ⟨b, o, aa, ac, ka, kc, h', rfl, rfl, hS, hz, he 0 _ rfl, he 1 _ rfl, he 2 _ rfl, he 3 _ rfl, h1, h2⟩
theorem alloc_le {w : World} {o : Obj} {n : Nat} (h : (w.alloc o).heap.size ≤ n) : w.heap.size + 1 ≤ n := by
 simp only [World.alloc, Array.size_push] at h
 exact h
theorem drew_heapF (w : World) : w.drew.heap = w.heap := rfl
theorem But.setN {B : Nat} {a w : World} (h : But B a w) {b : Nat} (hb : a.heap.size ≤ b) (o : Nat) (v : Value) : But B a (w.setCell ⟨b, o, none⟩ v) :=
 ⟨h.os, h.tape, h.output, ⟨by have := h.size; simpa using this, fun d hd hz => by
  rw [heap_set, if_neg (by omega)]
  exact h.keeps.block d hd hz⟩⟩
theorem But.drew {B : Nat} {a w : World} (h : But B a w) : But B a w.drew := ⟨h.os, h.tape, h.output, h.keeps.drew⟩
theorem keeps4 {S : Nat → Prop} {w : World} {Z : Nat} (hS : ¬ S Z) (x y z v : Value) : Keeps S w ((((w.setCell ⟨Z, 0, none⟩ x).setCell ⟨Z, 1, none⟩ y).setCell ⟨Z, 2, none⟩ z).setCell ⟨Z, 3, none⟩ v).drew :=
 (((((Keeps.refl S w).set hS x).set hS y).set hS z).set hS v).drew
theorem keeps4a {S : Nat → Prop} {w : World} {Z : Nat} (hS : ¬ S Z) (x y z v : Value) (o : Obj) : Keeps S w (((((w.setCell ⟨Z, 0, none⟩ x).setCell ⟨Z, 1, none⟩ y).setCell ⟨Z, 2, none⟩ z).setCell ⟨Z, 3, none⟩ v).alloc o).drew :=
 ((((((Keeps.refl S w).set hS x).set hS y).set hS z).set hS v).alloc o).drew
theorem But.set4 {B : Nat} {a w : World} (h : But B a w) {Z : Nat} (hZ : a.heap.size ≤ Z) (x y z v : Value) : But B a ((((w.setCell ⟨Z, 0, none⟩ x).setCell ⟨Z, 1, none⟩ y).setCell ⟨Z, 2, none⟩ z).setCell ⟨Z, 3, none⟩ v).drew :=
 ((((h.setN hZ 0 x).setN hZ 1 y).setN hZ 2 z).setN hZ 3 v).drew
theorem blk1F {w : World} {B : Nat} {cs : Array Value} {t : TypeId} (h : w.heap[B]? = some (.cells cs t)) : (∀ X k, (w.alloc X).cell? ⟨B, k, none⟩ = cs[k]?) ∧ (∀ X k, (w.alloc X).frozen? ⟨B, k, none⟩ = false) :=
 ⟨fun X _ => cell_of_heap (heap_old _ X h), fun X _ => frozen_of_heap (heap_old _ X h)⟩
theorem results_tnt {fn : Func} {p s u : Tmp} (h : fn.results = #[.tmp s, .cell p 25, .tmp u]) (tmps : Array Value) (w : World) (B : Nat) (x y z v : Value) (hp : tmps.getD p undef = .pointer (some ⟨B, 0, none⟩)) (hB : w.heap[B]? = some (.cells #[x, y, z, v] 25)) :
  (results fn tmps).run Tryz.prog w = .ok (.tuple #[tmps.getD s undef, .agg #[x, y, z, v], tmps.getD u undef]) w := by
 have hp' : tmps[p]?.getD undef = .pointer (some ⟨B, 0, none⟩) := by simpa using hp
 have h1 := run_loadVar_row (P := Tryz.prog) w B 25 25 _ _ _ hB Tryz.underlying25 rfl (by kernel_rfl)
 simp [results, h, hp', asAddr, h1]
theorem two_nodF (w : World) (x1 x2 x3 x4 y1 y2 y3 y4 : Value) : ∃ W1, (w.alloc (.cells #[x1, x2, x3, x4] 25)).alloc (.cells #[y1, y2, y3, y4] 25) = W1 ∧ Below w.heap.size w W1 ∧ w.heap.size + 1 < W1.heap.size ∧ W1.heap[w.heap.size]? = some (.cells #[x1, x2, x3, x4] 25) ∧ W1.heap[w.heap.size + 1]? = some (.cells #[y1, y2, y3, y4] 25) :=
 ⟨_, rfl, ((Below.refl _ _).alloc (Nat.le_refl _) _).alloc (by simp) _, by simp, heap_old _ _ (heap_new _ _ rfl), heap_new _ _ (by simp)⟩
def LineOut (B h : Nat) (o : Int) (S : Nat → Prop) (n : Nat) (r : (List Int × Nod) ⊕ Nat) (e : Ending) (w' : World) : Prop := match r with
 | .inl (q, m) => ∃ qa qc ma mc ka kc, e = .returned (.tuple #[.slice qa q.length qc, .agg #[.int .i64 m.tag, .slice ma m.attrs.length mc, .string ⟨m.text.toArray⟩, .slice ka m.kids.length kc], .bool true]) ∧
   IntsR false w' (fun b => n ≤ b) (.slice qa q.length qc) q ∧ AttsR false w' S (.slice ma m.attrs.length mc) m.attrs ∧ NodsR false h w' S (.slice ka m.kids.length kc) m.kids ∧ ∃ j : Int, FinAt B j o w'
 | .inr j => e = .returned (.tuple #[.slice none 0 0, .agg #[.int .i64 0, .slice none 0 0, .string ⟨#[]⟩, .slice none 0 0], .bool false]) ∧ FinAt B j o w'
def LineAt (h : Nat) : Prop := ∀ (n : Nod) (a k pv : Value) (p : List Int) (i B : Nat) (o : Int) (w : World) (S : Nat → Prop), AttsR false w S a n.attrs → NodsR false h w S k n.kids → (∀ b, S b → b < w.heap.size ∧ b ≠ B) →
  IntsR false w (fun b => b ≠ B) pv p → p.length + h ≤ 1000 → i ≤ 1000000 → FinAt B i o w →
  Calls Tryz.prog 60 #[.pointer (some ⟨B, 0, none⟩), nodV n a k, pv] w fun e w' => But B w w' ∧ LineOut B h o S w.heap.size (findN n p i) e w'
set_option maxRecDepth 100000 in
set_option maxHeartbeats 4000000 in
theorem line_step (h : Nat) (ih : ∀ h', h = h' + 1 → LineAt h') : LineAt h := by
 intro n a kv pv p i B o w S hA hK hS hP hpl hi hF
 obtain ⟨la, lc, rfl⟩ := hA.slice
 obtain ⟨ka, kc, rfl, hkc, hkm, _⟩ := nods_shapeS hK
 obtain ⟨pa, pc, rfl⟩ := hP.slice
 have hBz : B < w.heap.size := (Array.getElem?_eq_some_iff.1 hF).1
 have HK := Lib.hid hK
 have HI := Lib.hid ih
 have HS := Lib.hid hS
 have HP := Lib.hid hP
 have HE := Lib.hid (findN_kids n p i)
 have hpl2 : p.length ≤ 1000 := by omega
 obtain ⟨W1, hW1, hB, hz, hB1, hB2⟩ := two_nodF w (.int .i64 n.tag) (.slice la n.attrs.length lc) (.string ⟨n.text.toArray⟩) (.slice ka n.kids.length kc) (.int .i64 0) (.slice none 0 0) (.string ⟨#[]⟩) (.slice none 0 0)
 have HZ := Lib.hid hz
 have HR := Lib.hid hB2
 have HB := Lib.hid hB
 have HF1 : Hid (FinAt B i o W1) := Lib.hid (hF.below hB)
 have HBz := Lib.hid hBz
 clear hA hK hS hP hF hz hB hkc ih hBz
 unfold maxLen at hkm
 obtain ⟨p1, f1⟩ := blk hB1
 clear hB1 hB2
 unfold nodV
 go_enter Tryz.func60, Tryz.ntmps60
 go_wp2_with fail
 go_loopw [18] (fun j wr => ∃ k c : Nat, k ≤ n.kids.length ∧ j = .int .i64 k ∧ c ≤ 1000000 ∧ Hid (findN n p i = findK (n.kids.drop k) k p c) ∧ Hid (But B W1 wr) ∧ Hid (FinAt B c o wr)) (fun j _ => n.kids.length - (intOf j).toNat)
 case atStart => exact ⟨0, i, Nat.zero_le _, rfl, hi, HE, Lib.hid (But.refl _ _), HF1⟩
 case round =>
  obtain ⟨k, c, hk, rfl, hc, HFk, HBt, HFr⟩ := hrel
  clear p1 f1
  by_cases hlt : k < n.kids.length
  ·obtain ⟨x, hl, _⟩ := getOf n.kids k hlt
   have hBw : But B w wr := (But.of HB.out).trans HBt.out
   obtain ⟨ka', kc', e', _, _, hx⟩ := nods_shapeS (nods_but HK.out (fun b h => (HS.out b h).2) hBw)
   cases e'
   obtain ⟨b, bo, xa, xc, ya, yc, h', rfl, rfl, hSb, hA⟩ := hx k x hl
   obtain ⟨hbz, c0, c1, c2, c3, hAx, hKx⟩ := hA
   have HAX := Lib.hid hAx
   have HKX := Lib.hid hKx
   have HBw := Lib.hid hBw
   have HCl : Hid (∀ W, Below wr.heap.size wr W → Calls Tryz.prog 62 #[.slice pa p.length pc] W fun e w' => ∃ va vc, e = .returned (.slice va p.length vc) ∧ IntsR true w' (fun b => W.heap.size ≤ b) (.slice va p.length vc) p ∧ Below W.heap.size W w') := Lib.hid fun W hW => by
    refine (cloneInt_any _ p false W wr _ (HP.out.stable (rdOf_stable _) (hBw.to fun _ h => h) (fun _ h _ => h)) hW (by omega)).mono ?_
    rintro e w' ⟨v', h1, h2, h3⟩
    obtain ⟨va, vc, rfl⟩ := h2.slice
    exact ⟨va, vc, h1, h2, h3⟩
   have HC : Hid (∀ W, Calls Tryz.prog 17 #[.int .i64 x.tag] W fun e w' => e = .returned (.int .i64 (tagC x.tag)) ∧ Below W.heap.size W w') := Lib.hid fun W => tagsClass_any x.tag W
   obtain ⟨pk, hpk⟩ : ∃ pk, p ++ [(k : Int)] = pk := ⟨_, rfl⟩
   have HPK := Lib.hid hpk
   have HPL : Hid (pk.length = p.length + 1) := Lib.hid (by rw [← hpk]; simp)
   have HW : Hid (∀ W qa qc, Below wr.heap.size wr W → IntsR false W (fun b => b ≠ B) (.slice qa pk.length qc) pk → Calls Tryz.prog 60 #[.pointer (some ⟨B, 0, none⟩), .agg #[.int .i64 x.tag, .slice xa x.attrs.length xc, .string ⟨x.text.toArray⟩, .slice ya x.kids.length yc], .slice qa pk.length qc] W fun e w' => But B W w' ∧ LineOut B h' o S W.heap.size (findN x pk c) e w') :=
    Lib.hid fun W qa qc hW hq => HI.out h' rfl x _ _ _ pk c B o W S (HAX.out.below (rdOf_stable _) hW) (HKX.out.below (rdNod_stable _ _) hW) (fun b hb => ⟨Nat.lt_of_lt_of_le (HS.out b hb).1 (Nat.le_trans HBw.out.size hW.size), (HS.out b hb).2⟩) hq (by have := HPL.out; omega) hc (HFr.out.below hW)
   have HX : Hid (n.kids[k]? = some x) := Lib.hid hl
   have hwz : w.heap.size + 1 < wr.heap.size := Nat.lt_of_lt_of_le HZ.out HBt.out.size
   have hBz : B < w.heap.size := HBz.out
   have HRr : Hid (wr.heap[w.heap.size + 1]? = some (.cells #[.int .i64 0, .slice none 0 0, .string ⟨#[]⟩, .slice none 0 0] 25)) := Lib.hid (HBt.out.heap (by omega) HR.out)
   have hrl : p.length + [(k : Int)].length ≤ 100000000 := by simp; omega
   have i0 : (0 : Int) ≤ (k : Int) := Int.natCast_nonneg _
   have i1 : (k : Int) < (n.kids.length : Int) := by omega
   clear hpk hx hl hBw hAx hKx
   by_cases h3 : tagC x.tag = 3
   ·have h3b : (tagC x.tag == 3) = true := by simp [h3]
    have H3 := Lib.hid h3
    clear h3
    cases c with
    | zero =>
     have HO := Lib.hid (HFk.out.trans (line_hit HX.out p H3.out))
     have HFr : Hid (FinAt B 0 o wr) := Lib.hid HFr.out
     rw [HPK.out] at HO
     clear HFk HW hc
     go_wp2_with (first
      | (go_at_call 62; refine (HCl.out _ (by go_grown)).mono ?_; rintro e w2 ⟨va, vc, rfl, hv2, hb2⟩; have HV2 : Hid (IntsR true w2 (fun b => wr.heap.size + 1 ≤ b) (.slice va p.length vc) p) := Lib.hid (hv2.stable (rdOf_stable _) (Keeps.refl _ _) (fun b h _ => alloc_le h)); have hk2 := Lib.hid (heap_below hb2 (heap_new _ _ rfl)); have hz2 : wr.heap.size + 1 ≤ w2.heap.size := alloc_le hb2.size; have hx2 := Lib.hid (below_from ((Below.refl wr.heap.size wr).alloc (Nat.le_refl _) _) hb2); clear hv2 hb2)
      | (at_builtin; go_must (refine wpList_append_R _ rfl _ _ 34 34 rfl rowInt eltInt (wr.heap.size + 1) (.slice va p.length vc) _ (xs := p) (ys := [(k : Int)]) (news := [.int .i64 k]) rfl rfl (HV2.out.stable (rdOf_stable _) (.all ((Below.refl _ _).alloc (Nat.le_refl _) _)) (fun _ h _ => h)) (by simp; omega) (src_tag _ _ 1 (by simp)) (NewsR.one rfl rfl) hrl ?_); intro v8 w8 hR8 hB8 _ _; rw [HPK.out] at hR8; obtain ⟨na, nc, hne⟩ := hR8.slice; subst hne; have HR8 := Lib.hid hR8; have hx28 := Lib.hid (((Below.refl (wr.heap.size + 1) w2).alloc hz2 _).trans hB8); have hx8 := Lib.hid (hx2.out.trans (hx28.out.mono (by omega))); have hk8 := Lib.hid ((hx28.out.block _ (Nat.lt_succ_self _)).trans hk2.out); obtain ⟨q8, g8⟩ := blk hk8.out; clear hR8 hB8)
      | (go_at_call 17; refine (HC.out _).mono ?_; rintro e w9 ⟨rfl, hb9⟩; have hx9 := Lib.hid (below_from hx8.out hb9); have hk9 := Lib.hid (heap_below hb9 hk8.out); obtain ⟨q9, g9⟩ := blk hk9.out; have hf9 := Lib.hid (heap_below hx9.out HFr.out); obtain ⟨q3, g3⟩ := blk hf9.out; have hr9 := Lib.hid (heap_below hx9.out HRr.out); obtain ⟨q4, g4⟩ := blk hr9.out; have HR9 := Lib.hid (HR8.out.below (rdOf_stable _) hb9); have hz9 : wr.heap.size + 1 < w9.heap.size + 1 := Nat.succ_lt_succ (Nat.lt_of_lt_of_le (Nat.lt_of_succ_le hz2) (Nat.le_trans hx28.out.size hb9.size)); clear hb9))
     go_region
     go_wp2_with fail
     refine bodyPost_ret (results_tnt rfl _ _ (w.heap.size + 1) (.int .i64 x.tag) (.slice xa x.attrs.length xc) (.string ⟨x.text.toArray⟩) (.slice ya x.kids.length yc) rfl (by simp [heap_set, putIn, drew_heapF, hr9.out])) rfl ?_
     refine ⟨(HBw.out.trans (But.of hx9.out)).set4 (Nat.le_succ _) _ _ _ _, ?_⟩
     rw [HO.out]
     have hSz : ¬ S (w.heap.size + 1) := fun hs => by have := (HS.out _ hs).1; omega
     have hf := hf9.out
     have hfe : FinAt B 0 o ((((w9.setCell ⟨w.heap.size + 1, 0, none⟩ (.int .i64 x.tag)).setCell ⟨w.heap.size + 1, 1, none⟩ (.slice xa x.attrs.length xc)).setCell ⟨w.heap.size + 1, 2, none⟩ (.string ⟨x.text.toArray⟩)).setCell ⟨w.heap.size + 1, 3, none⟩ (.slice ya x.kids.length yc)).drew := by
      unfold FinAt
      rw [drew_heapF]
      simp [heap_set, hf, show ¬ (w.heap.size + 1 = B) by omega]
     exact ⟨na, nc, xa, xc, ya, yc, rfl, (HR9.out.read fun _ _ h => h).stable (rdOf_stable _) (keeps4 (by omega) _ _ _ _) (fun b h _ => by omega),
      HAX.out.stable (rdOf_stable _) ((Keeps.all hx9.out).trans (keeps4 hSz _ _ _ _)) (fun _ h _ => h), nods_mono' (Nat.le_succ _) (HKX.out.stable (rdNod_stable _ _) ((Keeps.all hx9.out).trans (keeps4 hSz _ _ _ _)) (fun _ h _ => h)), 0, hfe⟩
    | succ c =>
     have HO := Lib.hid (HFk.out.trans (line_skip HX.out p c H3.out))
     obtain ⟨d, hd⟩ : ∃ d : Int, d = ((c + 1 : Nat) : Int) := ⟨_, rfl⟩
     have HFr : Hid (FinAt B d o wr) := Lib.hid (hd ▸ HFr.out)
     have hd0 : (d == 0) = false := by simp; omega
     have hdw : IntKind.i64.wrap (d - 1) = (c : Int) := by rw [IntKind.wrap_i64]; omega
     clear HFk HW hd
     go_wp2_with (first
      | (go_at_call 62; refine (HCl.out _ (by go_grown)).mono ?_; rintro e w2 ⟨va, vc, rfl, hv2, hb2⟩; have HV2 : Hid (IntsR true w2 (fun b => wr.heap.size + 1 ≤ b) (.slice va p.length vc) p) := Lib.hid (hv2.stable (rdOf_stable _) (Keeps.refl _ _) (fun b h _ => alloc_le h)); have hk2 := Lib.hid (heap_below hb2 (heap_new _ _ rfl)); have hz2 : wr.heap.size + 1 ≤ w2.heap.size := alloc_le hb2.size; have hx2 := Lib.hid (below_from ((Below.refl wr.heap.size wr).alloc (Nat.le_refl _) _) hb2); clear hv2 hb2)
      | (at_builtin; go_must (refine wpList_append_R _ rfl _ _ 34 34 rfl rowInt eltInt (wr.heap.size + 1) (.slice va p.length vc) _ (xs := p) (ys := [(k : Int)]) (news := [.int .i64 k]) rfl rfl (HV2.out.stable (rdOf_stable _) (.all ((Below.refl _ _).alloc (Nat.le_refl _) _)) (fun _ h _ => h)) (by simp; omega) (src_tag _ _ 1 (by simp)) (NewsR.one rfl rfl) hrl ?_); intro v8 w8 hR8 hB8 _ _; rw [HPK.out] at hR8; obtain ⟨na, nc, hne⟩ := hR8.slice; subst hne; have HR8 := Lib.hid hR8; have hx28 := Lib.hid (((Below.refl (wr.heap.size + 1) w2).alloc hz2 _).trans hB8); have hx8 := Lib.hid (hx2.out.trans (hx28.out.mono (by omega))); have hk8 := Lib.hid ((hx28.out.block _ (Nat.lt_succ_self _)).trans hk2.out); obtain ⟨q8, g8⟩ := blk hk8.out; clear hR8 hB8)
      | (go_at_call 17; refine (HC.out _).mono ?_; rintro e w9 ⟨rfl, hb9⟩; have hx9 := Lib.hid (below_from hx8.out hb9); have hk9 := Lib.hid (heap_below hb9 hk8.out); obtain ⟨q9, g9⟩ := blk hk9.out; have hf9 := Lib.hid (heap_below hx9.out HFr.out); obtain ⟨q3, g3⟩ := blk hf9.out; have hr9 := Lib.hid (heap_below hx9.out HRr.out); obtain ⟨q4, g4⟩ := blk hr9.out; have HR9 := Lib.hid (HR8.out.below (rdOf_stable _) hb9); have hz9 : wr.heap.size + 1 < w9.heap.size + 1 := Nat.succ_lt_succ (Nat.lt_of_lt_of_le (Nat.lt_of_succ_le hz2) (Nat.le_trans hx28.out.size hb9.size)); clear hb9))
     go_roundw
     case rel => exact ⟨k + 1, c, hlt, by go_num, by omega, HO, Lib.hid ((HBt.out.trans (But.of (hx9.out))).set _ _), Lib.hid (by unfold FinAt; simp [heap_set, putIn, hf9.out])⟩
     case measure => simp [intOf]; omega
   ·have h3b : (tagC x.tag == 3) = false := by simp [h3]
    have H3 := Lib.hid h3
    clear h3
    cases hr : findN x pk c with
    | inl r =>
     obtain ⟨q, m⟩ := r
     have HO := Lib.hid (HFk.out.trans (line_in HX.out p c H3.out (HPK.out ▸ hr)))
     rw [hr] at HW
     clear HFk hr hc
     go_wp2_with (first
      | (go_at_call 62; refine (HCl.out _ (by go_grown)).mono ?_; rintro e w2 ⟨va, vc, rfl, hv2, hb2⟩; have HV2 : Hid (IntsR true w2 (fun b => wr.heap.size + 1 ≤ b) (.slice va p.length vc) p) := Lib.hid (hv2.stable (rdOf_stable _) (Keeps.refl _ _) (fun b h _ => alloc_le h)); have hk2 := Lib.hid (heap_below hb2 (heap_new _ _ rfl)); have hz2 : wr.heap.size + 1 ≤ w2.heap.size := alloc_le hb2.size; have hx2 := Lib.hid (below_from ((Below.refl wr.heap.size wr).alloc (Nat.le_refl _) _) hb2); clear hv2 hb2)
      | (at_builtin; go_must (refine wpList_append_R _ rfl _ _ 34 34 rfl rowInt eltInt (wr.heap.size + 1) (.slice va p.length vc) _ (xs := p) (ys := [(k : Int)]) (news := [.int .i64 k]) rfl rfl (HV2.out.stable (rdOf_stable _) (.all ((Below.refl _ _).alloc (Nat.le_refl _) _)) (fun _ h _ => h)) (by simp; omega) (src_tag _ _ 1 (by simp)) (NewsR.one rfl rfl) hrl ?_); intro v8 w8 hR8 hB8 _ _; rw [HPK.out] at hR8; obtain ⟨na, nc, hne⟩ := hR8.slice; subst hne; have HR8 := Lib.hid hR8; have hx28 := Lib.hid (((Below.refl (wr.heap.size + 1) w2).alloc hz2 _).trans hB8); have hx8 := Lib.hid (hx2.out.trans (hx28.out.mono (by omega))); have hk8 := Lib.hid ((hx28.out.block _ (Nat.lt_succ_self _)).trans hk2.out); obtain ⟨q8, g8⟩ := blk hk8.out; clear hR8 hB8)
      | (go_at_call 17; refine (HC.out _).mono ?_; rintro e w9 ⟨rfl, hb9⟩; have hx9 := Lib.hid (below_from hx8.out hb9); have hk9 := Lib.hid (heap_below hb9 hk8.out); obtain ⟨q9, g9⟩ := blk hk9.out; have hf9 := Lib.hid (heap_below hx9.out HFr.out); obtain ⟨q3, g3⟩ := blk hf9.out; have hr9 := Lib.hid (heap_below hx9.out HRr.out); obtain ⟨q4, g4⟩ := blk hr9.out; have HR9 := Lib.hid (HR8.out.below (rdOf_stable _) hb9); have hz9 : wr.heap.size + 1 < w9.heap.size + 1 := Nat.succ_lt_succ (Nat.lt_of_lt_of_le (Nat.lt_of_succ_le hz2) (Nat.le_trans hx28.out.size hb9.size)); clear hb9)
      | (go_at_call 60; (refine (HW.out _ _ _ hx9.out ((HR9.out.read fun _ _ h => h).stable (rdOf_stable _) (Keeps.refl _ _) (fun b h _ => by omega))).mono ?_; rintro e w10 ⟨hbt, qa, qc, ma, mc, mka, mkc, rfl, hq, hma, hmk, fj, hfj⟩; have HFJ := Lib.hid hfj; have HBT := Lib.hid hbt; have HQ := Lib.hid hq; have HMA := Lib.hid hma; have HMK := Lib.hid hmk; have hz10 : w.heap.size + 1 < w10.heap.size := Nat.lt_of_lt_of_le (Nat.lt_trans hwz (Nat.lt_of_succ_lt_succ hz9)) hbt.size; have hr10 := Lib.hid (hbt.heap (by omega) hr9.out); obtain ⟨q5, g5⟩ := blk hr10.out; have hne10 : ¬ (w.heap.size + 1 = w10.heap.size) := Nat.ne_of_lt hz10; clear hbt hq hma hmk hfj)))
     go_region
     go_wp2_with fail
     refine bodyPost_ret (results_tnt rfl _ _ (w.heap.size + 1) (.int .i64 m.tag) (.slice ma m.attrs.length mc) (.string ⟨m.text.toArray⟩) (.slice mka m.kids.length mkc) rfl (by rw [drew_heapF]; exact heap_old _ _ (by simp [heap_set, putIn, hr10.out]))) rfl ?_
     refine ⟨((((((((HBw.out.trans (But.of hx9.out)).trans HBT.out).setN (Nat.le_succ _) 0 _).setN (Nat.le_succ _) 1 _).setN (Nat.le_succ _) 2 _).setN (Nat.le_succ _) 3 _).alloc _).drew), ?_⟩
     rw [HO.out]
     have hSz : ¬ S (w.heap.size + 1) := fun hs => by have := (HS.out _ hs).1; omega
     have hf := HFJ.out
     unfold FinAt at hf
     have hfe : FinAt B fj o (((((w10.setCell ⟨w.heap.size + 1, 0, none⟩ (.int .i64 m.tag)).setCell ⟨w.heap.size + 1, 1, none⟩ (.slice ma m.attrs.length mc)).setCell ⟨w.heap.size + 1, 2, none⟩ (.string ⟨m.text.toArray⟩)).setCell ⟨w.heap.size + 1, 3, none⟩ (.slice mka m.kids.length mkc)).alloc (.cells #[.int .i64 m.tag, .slice ma m.attrs.length mc, .string ⟨m.text.toArray⟩, .slice mka m.kids.length mkc] 25)).drew := by
      unfold FinAt
      rw [drew_heapF]
      exact heap_old _ _ (by simp [heap_set, hf, show ¬ (w.heap.size + 1 = B) by omega])
     exact ⟨qa, qc, ma, mc, mka, mkc, rfl, HQ.out.stable (rdOf_stable _) (keeps4a (by omega) _ _ _ _ _) (fun b h _ => by omega),
      HMA.out.stable (rdOf_stable _) (keeps4a hSz _ _ _ _ _) (fun _ h _ => h), nods_mono' (Nat.le_succ _) (HMK.out.stable (rdNod_stable _ _) (keeps4a hSz _ _ _ _ _) (fun _ h _ => h)), fj, hfe⟩
    | inr c2 =>
     have hc2 := findN_le x pk c c2 hr
     have HO := Lib.hid (HFk.out.trans (line_past HX.out p c c2 H3.out (HPK.out ▸ hr)))
     rw [hr] at HW
     clear HFk hr
     go_wp2_with (first
      | (go_at_call 62; refine (HCl.out _ (by go_grown)).mono ?_; rintro e w2 ⟨va, vc, rfl, hv2, hb2⟩; have HV2 : Hid (IntsR true w2 (fun b => wr.heap.size + 1 ≤ b) (.slice va p.length vc) p) := Lib.hid (hv2.stable (rdOf_stable _) (Keeps.refl _ _) (fun b h _ => alloc_le h)); have hk2 := Lib.hid (heap_below hb2 (heap_new _ _ rfl)); have hz2 : wr.heap.size + 1 ≤ w2.heap.size := alloc_le hb2.size; have hx2 := Lib.hid (below_from ((Below.refl wr.heap.size wr).alloc (Nat.le_refl _) _) hb2); clear hv2 hb2)
      | (at_builtin; go_must (refine wpList_append_R _ rfl _ _ 34 34 rfl rowInt eltInt (wr.heap.size + 1) (.slice va p.length vc) _ (xs := p) (ys := [(k : Int)]) (news := [.int .i64 k]) rfl rfl (HV2.out.stable (rdOf_stable _) (.all ((Below.refl _ _).alloc (Nat.le_refl _) _)) (fun _ h _ => h)) (by simp; omega) (src_tag _ _ 1 (by simp)) (NewsR.one rfl rfl) hrl ?_); intro v8 w8 hR8 hB8 _ _; rw [HPK.out] at hR8; obtain ⟨na, nc, hne⟩ := hR8.slice; subst hne; have HR8 := Lib.hid hR8; have hx28 := Lib.hid (((Below.refl (wr.heap.size + 1) w2).alloc hz2 _).trans hB8); have hx8 := Lib.hid (hx2.out.trans (hx28.out.mono (by omega))); have hk8 := Lib.hid ((hx28.out.block _ (Nat.lt_succ_self _)).trans hk2.out); obtain ⟨q8, g8⟩ := blk hk8.out; clear hR8 hB8)
      | (go_at_call 17; refine (HC.out _).mono ?_; rintro e w9 ⟨rfl, hb9⟩; have hx9 := Lib.hid (below_from hx8.out hb9); have hk9 := Lib.hid (heap_below hb9 hk8.out); obtain ⟨q9, g9⟩ := blk hk9.out; have hf9 := Lib.hid (heap_below hx9.out HFr.out); obtain ⟨q3, g3⟩ := blk hf9.out; have hr9 := Lib.hid (heap_below hx9.out HRr.out); obtain ⟨q4, g4⟩ := blk hr9.out; have HR9 := Lib.hid (HR8.out.below (rdOf_stable _) hb9); have hz9 : wr.heap.size + 1 < w9.heap.size + 1 := Nat.succ_lt_succ (Nat.lt_of_lt_of_le (Nat.lt_of_succ_le hz2) (Nat.le_trans hx28.out.size hb9.size)); clear hb9)
      | (go_at_call 60; (refine (HW.out _ _ _ hx9.out ((HR9.out.read fun _ _ h => h).stable (rdOf_stable _) (Keeps.refl _ _) (fun b h _ => by omega))).mono ?_; rintro e w10 ⟨hbt, rfl, hfo⟩; have HBT := Lib.hid hbt; have HFO := Lib.hid hfo; clear hbt hfo)))
     go_roundw
     case rel => exact ⟨k + 1, c2, hlt, by go_num, by omega, HO, Lib.hid (((HBt.out.trans (But.of hx9.out)).trans HBT.out).alloc _), Lib.hid (heap_old _ _ HFO.out)⟩
     case measure => simp [intOf]; omega
  ·obtain rfl : k = n.kids.length := by omega
   have HO := Lib.hid (HFk.out.trans (line_end n.kids p c))
   have hwz : w.heap.size + 1 < wr.heap.size := Nat.lt_of_lt_of_le HZ.out HBt.out.size
   have hBz : B < w.heap.size := HBz.out
   have hRr : Hid (wr.heap[w.heap.size + 1]? = some (.cells #[.int .i64 0, .slice none 0 0, .string ⟨#[]⟩, .slice none 0 0] 25)) := Lib.hid (HBt.out.heap (by omega) HR.out)
   obtain ⟨q4, g4⟩ := blk hRr.out
   go_wp2_with fail
   refine bodyPost_ret (results_tnt rfl _ _ (w.heap.size + 1) (.int .i64 0) (.slice none 0 0) (.string ⟨#[]⟩) (.slice none 0 0) rfl (by simp [heap_set, putIn, hRr.out])) rfl ?_
   refine ⟨((((((But.of HB.out).trans HBt.out).setN (Nat.le_succ _) 0 _).setN (Nat.le_succ _) 1 _).setN (Nat.le_succ _) 2 _).setN (Nat.le_succ _) 3 _), ?_⟩
   rw [HO.out]
   have hf := HFr.out
   unfold FinAt at hf
   exact ⟨rfl, by unfold FinAt; simp [heap_set, putIn, hf, show ¬ (w.heap.size + 1 = B) by omega]⟩
theorem line_all : ∀ h, LineAt h
 | 0 => line_step 0 (fun _ e => by cases e)
 | h + 1 => line_step (h + 1) (fun h' e => by cases e; exact line_all h)
end Go.Proofs.YtjpgffihafknlaaGreatDoor
namespace Go.Proofs.Qw
open Go.RowKit
mutual
def txtSz : Nod → Nat
 | .mk _ _ x ks => x.length + txtSzs ks
def txtSzs : List Nod → Nat
 | [] => 0
 | k :: ks => txtSz k + txtSzs ks
end
theorem txt_mem : ∀ {l : List Nod} {n : Nod}, n ∈ l → txtSz n ≤ txtSzs l
 | k :: ks, n, h => by
  rw [txtSzs]
  rcases List.mem_cons.1 h with rfl | h
  ·omega
  ·have := txt_mem h; omega
theorem txt_kids (n : Nod) : txtSz n = n.text.length + txtSzs n.kids := by cases n; rw [txtSz]; rfl
theorem txt_app (a b : List Nod) : txtSzs (a ++ b) = txtSzs a + txtSzs b := by
 induction a with
 | nil => simp [txtSzs]
 | cons x a ih => rw [List.cons_append, txtSzs, txtSzs, ih]; omega
theorem txt_flat {α : Type} (f : α → List Nod) (g : α → Nat) : ∀ l : List α, (∀ x ∈ l, txtSzs (f x) ≤ 4 * g x) → txtSzs (l.flatMap f) ≤ 4 * (l.map g).sum
 | [], _ => by simp [txtSzs]
 | x :: l, h => by
  rw [List.flatMap_cons, txt_app, List.map_cons, List.sum_cons]
  have h1 := h x (by simp)
  have h2 := txt_flat f g l (fun y hy => h y (by simp [hy]))
  omega
theorem enc_len (c : Int) : (Lib.encodeRune c).length ≤ 4 := by
 unfold Lib.encodeRune Lib.encodeRuneZ
 repeat' split
 all_goals simp
theorem txtL_len (l : List Int) : (txtL l).length ≤ 4 * l.length := by
 induction l with
 | nil => simp [txtL]
 | cons c l ih =>
  unfold txtL at *
  rw [List.flatMap_cons, List.length_append, List.length_cons]
  have := enc_len c
  omega
theorem gr_txt : ∀ (ks : List (Cel → Option Wr)) (l : List Cel), txtSzs (gr ks l) ≤ 4 * l.length
 | [], l => by
  unfold gr leavesN
  have h := parts_sum textR l
  have h1 := txt_flat (fun p : List Cel => [leafP p]) List.length (partsBy textR l) (fun p hp => by
   have hpos := List.length_pos_iff.2 (parts_ne _ l.length l (Nat.le_refl _) p hp)
   rw [txtSzs, txtSzs]
   unfold leafP
   split
   ·simp [brN, txtSz, txtSzs]
   ·unfold txtN
    rw [txtSz, txtSzs]
    have := txtL_len (p.map (·.r))
    rw [List.length_map] at this
    omega)
  have e : ∀ ps : List (List Cel), ps.flatMap (fun p => [leafP p]) = ps.map leafP := fun ps => by induction ps with | nil => rfl | cons a ps ih => rw [List.flatMap_cons, ih]; rfl
  rw [e, h] at h1
  exact h1
 | k :: ks, l => by
  unfold gr
  have h := parts_sum (fun a b => decide (k a = k b)) l
  have h1 := txt_flat (fun p : List Cel => wrapO (k (p.headD default)) (gr ks p)) List.length (partsBy (fun a b => decide (k a = k b)) l) (fun p hp => by
   have hg := gr_txt ks p
   cases k (p.headD default) with
   | none => exact hg
   | some w => simp only [wrapO]; rw [txtSzs, txtSz, txtSzs]; simp only [List.length_nil]; omega)
  rw [h] at h1
  exact h1
mutual
theorem leafF_le : ∀ (n : Nod) (p : List Int) (c d : Int), leafF n p c = .inr d → 1 ≤ c → 1 ≤ d ∧ d ≤ c
 | .mk _ _ _ ks, p, c, d, h, hc => leafK_le ks 0 p c d (by rw [leafF] at h; exact h) hc
theorem leafK_le : ∀ (ks : List Nod) (t : Nat) (p : List Int) (c d : Int), leafK ks t p c = .inr d → 1 ≤ c → 1 ≤ d ∧ d ≤ c
 | [], t, p, c, d, h, hc => by rw [leafK_nil] at h; cases h; omega
 | k :: ks, t, p, c, d, h, hc => by
  rw [leafK_cons] at h
  split at h
  ·split at h
   ·cases h
   ·have := leafK_le ks _ _ _ _ h (by omega)
    omega
  ·split at h
   ·cases hr : leafF k (p ++ [(t : Int)]) c with
    | inl r => rw [hr] at h; cases h
    | inr c2 =>
     rw [hr] at h
     have h1 := leafF_le k _ _ _ hr hc
     have h2 := leafK_le ks _ _ _ _ h h1.1
     omega
   ·split at h
    ·cases h
    ·have := leafK_le ks _ _ _ _ h (by omega)
     omega
end
end Go.Proofs.Qw
namespace Go.Proofs.YtjpgffihafknlaaGreatDoor
open Go.RowKit
open Go.Proofs.Qw
attribute [local go_sem] Oper.semAt_some
theorem results_pt {fn : Func} {p u : Tmp} (h : fn.results = #[.cell p 44, .tmp u]) (tmps : Array Value) (w : World) (B : Nat) (x y : Value) (hp : tmps.getD p undef = .pointer (some ⟨B, 0, none⟩)) (hB : w.heap[B]? = some (.cells #[x, y] 44)) :
  (results fn tmps).run Tryz.prog w = .ok (.tuple #[.agg #[x, y], tmps.getD u undef]) w := by
 have hp' : tmps[p]?.getD undef = .pointer (some ⟨B, 0, none⟩) := by simpa using hp
 have h1 := run_loadVar_row (P := Tryz.prog) w B 44 44 _ _ _ hB Tryz.underlying44 rfl (by kernel_rfl)
 simp [results, h, hp', asAddr, h1]
theorem node_point (w : World) (x1 x2 x3 x4 y1 y2 : Value) : ∃ W1, (w.alloc (.cells #[x1, x2, x3, x4] 25)).alloc (.cells #[y1, y2] 44) = W1 ∧ Below w.heap.size w W1 ∧ w.heap.size + 1 < W1.heap.size ∧ W1.heap[w.heap.size]? = some (.cells #[x1, x2, x3, x4] 25) ∧ W1.heap[w.heap.size + 1]? = some (.cells #[y1, y2] 44) :=
 ⟨_, rfl, ((Below.refl _ _).alloc (Nat.le_refl _) _).alloc (by simp) _, by simp, heap_old _ _ (heap_new _ _ rfl), heap_new _ _ (by simp)⟩
theorem keeps2 {S : Nat → Prop} {w : World} {Z : Nat} (hS : ¬ S Z) (x y : Value) : Keeps S w ((w.setCell ⟨Z, 0, none⟩ x).setCell ⟨Z, 1, none⟩ y) :=
 ((Keeps.refl S w).set hS x).set hS y
def LeafOut (B : Nat) (i : Int) (S : Nat → Prop) (r : (List Int × Int) ⊕ Int) (e : Ending) (w' : World) : Prop := match r with
 | .inl (q, t) => ∃ qa qc, e = .returned (.tuple #[.agg #[.slice qa q.length qc, .int .i64 t], .bool true]) ∧ IntsR false w' S (.slice qa q.length qc) q
 | .inr j => e = .returned (.tuple #[.agg #[.slice none 0 0, .int .i64 0], .bool false]) ∧ FinAt B i j w'
def LeafAt (h : Nat) : Prop := ∀ (n : Nod) (a k pv : Value) (p : List Int) (c : Int) (B : Nat) (i : Int) (w : World) (S P : Nat → Prop), AttsR false w S a n.attrs → NodsR false h w S k n.kids → (∀ b, S b → b < w.heap.size ∧ b ≠ B) →
  IntsR false w P pv p → (∀ b, P b → b < w.heap.size ∧ b ≠ B) → p.length + h ≤ 1000 → 1 ≤ c → c ≤ 1000000 → txtSz n ≤ 1000000 → FinAt B i c w →
  Calls Tryz.prog 61 #[.pointer (some ⟨B, 0, none⟩), nodV n a k, pv] w fun e w' => But B w w' ∧ LeafOut B i (fun b => P b ∨ w.heap.size ≤ b) (leafF n p c) e w'
set_option maxRecDepth 100000 in
set_option maxHeartbeats 4000000 in
theorem leaf_step (h : Nat) (ih : ∀ h', h = h' + 1 → LeafAt h') : LeafAt h := by
 intro n a kv pv p c0 B i w S P hA hK hS hP hPb hpl hc1 hc2 htx hF
 obtain ⟨la, lc, rfl⟩ := hA.slice
 obtain ⟨ka, kc, rfl, hkc, hkm, _⟩ := nods_shapeS hK
 obtain ⟨pa, pc, rfl⟩ := hP.slice
 have hBz : B < w.heap.size := (Array.getElem?_eq_some_iff.1 hF).1
 have HK := Lib.hid hK
 have HI := Lib.hid ih
 have HS := Lib.hid hS
 have HP := Lib.hid hP
 have HPb := Lib.hid hPb
 have HE := Lib.hid (leafF_kids n p c0)
 have HTx := Lib.hid htx
 have hpl2 : p.length ≤ 1000 := by omega
 obtain ⟨W1, hW1, hB, hz, hB1, hB2⟩ := node_point w (.int .i64 n.tag) (.slice la n.attrs.length lc) (.string ⟨n.text.toArray⟩) (.slice ka n.kids.length kc) (.slice none 0 0) (.int .i64 0)
 have HZ := Lib.hid hz
 have HR := Lib.hid hB2
 have HB := Lib.hid hB
 have HF1 : Hid (FinAt B i c0 W1) := Lib.hid (hF.below hB)
 have HBz := Lib.hid hBz
 clear hA hK hS hP hF hz hB hkc ih hBz hPb htx
 unfold maxLen at hkm
 obtain ⟨p1, f1⟩ := blk hB1
 clear hB1 hB2
 unfold nodV
 go_enter Tryz.func61, Tryz.ntmps61
 go_wp2_with fail
 go_loopw [17] (fun j wr => ∃ (k : Nat) (c : Int), k ≤ n.kids.length ∧ j = .int .i64 k ∧ 1 ≤ c ∧ c ≤ 1000000 ∧ Hid (leafF n p c0 = leafK (n.kids.drop k) k p c) ∧ Hid (But B W1 wr) ∧ Hid (FinAt B i c wr)) (fun j _ => n.kids.length - (intOf j).toNat)
 case atStart => exact ⟨0, c0, Nat.zero_le _, rfl, hc1, hc2, HE, Lib.hid (But.refl _ _), HF1⟩
 case round =>
  obtain ⟨k, c, hk, rfl, hc1, hc2, HFk, HBt, HFr⟩ := hrel
  clear p1 f1
  by_cases hlt : k < n.kids.length
  ·obtain ⟨x, hl, _⟩ := getOf n.kids k hlt
   have hBw : But B w wr := (But.of HB.out).trans HBt.out
   obtain ⟨ka', kc', e', _, _, hx⟩ := nods_shapeS (nods_but HK.out (fun b h => (HS.out b h).2) hBw)
   cases e'
   obtain ⟨b, bo, xa, xc, ya, yc, h', rfl, rfl, hSb, hA⟩ := hx k x hl
   obtain ⟨hbz, c0, c1, c2, c3, hAx, hKx⟩ := hA
   have HAX := Lib.hid hAx
   have HKX := Lib.hid hKx
   have HBw := Lib.hid hBw
   have hxt : txtSz x ≤ 1000000 := by
    have h1 := txt_mem (List.mem_of_getElem? hl)
    have h2 := HTx.out
    rw [txt_kids] at h2
    omega
   have hxs : x.text.length ≤ 1000000 := by rw [txt_kids] at hxt; omega
   have HCl : Hid (∀ W, Below wr.heap.size wr W → Calls Tryz.prog 62 #[.slice pa p.length pc] W fun e w' => ∃ va vc, e = .returned (.slice va p.length vc) ∧ IntsR true w' (fun b => W.heap.size ≤ b) (.slice va p.length vc) p ∧ Below W.heap.size W w') := Lib.hid fun W hW => by
    refine (cloneInt_any _ p false W wr _ (HP.out.stable (rdOf_stable _) (hBw.to fun b h => (HPb.out b h).2) (fun _ h _ => h)) hW (by omega)).mono ?_
    rintro e w' ⟨v', h1, h2, h3⟩
    obtain ⟨va, vc, rfl⟩ := h2.slice
    exact ⟨va, vc, h1, h2, h3⟩
   obtain ⟨sz, hsz⟩ : ∃ sz : Nat, (runesB ⟨x.text.toArray⟩).length = sz := ⟨_, rfl⟩
   have HC : Hid (∀ W, Calls Tryz.prog 53 #[.string ⟨x.text.toArray⟩] W fun e w' => e = .returned (.int .i64 sz) ∧ Below W.heap.size W w') := Lib.hid fun W => hsz ▸ charsCount_any ⟨x.text.toArray⟩ W (by show x.text.toArray.size ≤ _; simp; omega)
   have HSZ := Lib.hid hsz
   obtain ⟨pk, hpk⟩ : ∃ pk, p ++ [(k : Int)] = pk := ⟨_, rfl⟩
   have HPK := Lib.hid hpk
   have HPL : Hid (pk.length = p.length + 1) := Lib.hid (by rw [← hpk]; simp)
   have HW : Hid (∀ W qa qc (P' : Nat → Prop), Below wr.heap.size wr W → IntsR false W P' (.slice qa pk.length qc) pk → (∀ b, P' b → b < W.heap.size ∧ b ≠ B) → Calls Tryz.prog 61 #[.pointer (some ⟨B, 0, none⟩), .agg #[.int .i64 x.tag, .slice xa x.attrs.length xc, .string ⟨x.text.toArray⟩, .slice ya x.kids.length yc], .slice qa pk.length qc] W fun e w' => But B W w' ∧ LeafOut B i (fun b => P' b ∨ W.heap.size ≤ b) (leafF x pk c) e w') :=
    Lib.hid fun W qa qc P' hW hq hqb => HI.out h' rfl x _ _ _ pk c B i W S P' (HAX.out.below (rdOf_stable _) hW) (HKX.out.below (rdNod_stable _ _) hW) (fun b hb => ⟨Nat.lt_of_lt_of_le (HS.out b hb).1 (Nat.le_trans HBw.out.size hW.size), (HS.out b hb).2⟩) hq hqb (by have := HPL.out; omega) hc1 hc2 hxt (HFr.out.below hW)
   have HX : Hid (n.kids[k]? = some x) := Lib.hid hl
   have hwz : w.heap.size + 1 < wr.heap.size := Nat.lt_of_lt_of_le HZ.out HBt.out.size
   have hBz : B < w.heap.size := HBz.out
   have HRr : Hid (wr.heap[w.heap.size + 1]? = some (.cells #[.slice none 0 0, .int .i64 0] 44)) := Lib.hid (HBt.out.heap (by omega) HR.out)
   have hrl : p.length + [(k : Int)].length ≤ 100000000 := by simp; omega
   have i0 : (0 : Int) ≤ (k : Int) := Int.natCast_nonneg _
   have i1 : (k : Int) < (n.kids.length : Int) := by omega
   have hPz : ¬ P (w.heap.size + 1) := fun hs => by have := (HPb.out _ hs).1; omega
   have HPz := Lib.hid hPz
   clear hpk hx hl hBw hAx hKx hxt hxs hsz hPz
   by_cases h16 : x.tag = 16
   ·have hb16 : (x.tag == 16) = true := by simp [h16]
    have H16 := Lib.hid h16
    clear h16
    by_cases hc : c = 1
    ·subst hc
     have HO := Lib.hid (HFk.out.trans (leaf_brk HX.out p H16.out))
     have hkw : IntKind.i64.wrap ((k : Int) + 1) = (k : Int) + 1 := by rw [IntKind.wrap_i64]; omega
     clear HFk HW hc1 hc2
     go_wp2_with (first
      | (go_at_call 62; refine (HCl.out _ (by go_grown)).mono ?_; rintro e w2 ⟨va, vc, rfl, hv2, hb2⟩; have HV2 : Hid (IntsR true w2 (fun b => wr.heap.size + 1 ≤ b) (.slice va p.length vc) p) := Lib.hid (hv2.stable (rdOf_stable _) (Keeps.refl _ _) (fun b h _ => alloc_le h)); have hk2 := Lib.hid (heap_below hb2 (heap_new _ _ rfl)); have hz2 : wr.heap.size + 1 ≤ w2.heap.size := alloc_le hb2.size; have hx2 := Lib.hid (below_from ((Below.refl wr.heap.size wr).alloc (Nat.le_refl _) _) hb2); clear hv2 hb2)
      | (at_builtin; go_must (refine wpList_append_R _ rfl _ _ 34 34 rfl rowInt eltInt (wr.heap.size + 1) (.slice va p.length vc) _ (xs := p) (ys := [(k : Int)]) (news := [.int .i64 k]) rfl rfl (HV2.out.stable (rdOf_stable _) (.all ((Below.refl _ _).alloc (Nat.le_refl _) _)) (fun _ h _ => h)) (by simp; omega) (src_tag _ _ 1 (by simp)) (NewsR.one rfl rfl) hrl ?_); intro v8 w8 hR8 hB8 _ _; rw [HPK.out] at hR8; obtain ⟨na, nc, hne⟩ := hR8.slice; subst hne; have HR8 := Lib.hid hR8; have hx28 := Lib.hid (((Below.refl (wr.heap.size + 1) w2).alloc hz2 _).trans hB8); have hx8 := Lib.hid (hx2.out.trans (hx28.out.mono (by omega))); have hk8 := Lib.hid ((hx28.out.block _ (Nat.lt_succ_self _)).trans hk2.out); obtain ⟨q8, g8⟩ := blk hk8.out; clear hR8 hB8)
      | (go_at_call 53; refine (HC.out _).mono ?_; rintro e w9 ⟨rfl, hb9⟩; have hx9 := Lib.hid (below_from hx8.out hb9); have hk9 := Lib.hid (heap_below hb9 hk8.out); obtain ⟨q9, g9⟩ := blk hk9.out; have hf9 := Lib.hid (heap_below hx9.out HFr.out); obtain ⟨q3, g3⟩ := blk hf9.out; have hr9 := Lib.hid (heap_below hx9.out HRr.out); obtain ⟨q4, g4⟩ := blk hr9.out; have HR9 := Lib.hid (HR8.out.below (rdOf_stable _) hb9); have hz9 : wr.heap.size + 1 < w9.heap.size + 1 := Nat.succ_lt_succ (Nat.lt_of_lt_of_le (Nat.lt_of_succ_le hz2) (Nat.le_trans hx28.out.size hb9.size)); clear hb9))
     refine bodyPost_ret (results_pt rfl _ _ (w.heap.size + 1) (.slice pa p.length pc) (.int .i64 ((k : Int) + 1)) rfl (by simp [heap_set, putIn, hr9.out])) rfl ?_
     refine ⟨((HBw.out.trans (But.of hx9.out)).setN (Nat.le_succ _) 0 _).setN (Nat.le_succ _) 1 _, ?_⟩
     rw [HO.out]
     refine ⟨pa, pc, rfl, HP.out.stable (rdOf_stable _) (((HBw.out.trans (But.of hx9.out)).to fun b h => (HPb.out b h).2).trans (keeps2 HPz.out _ _)) (fun _ h _ => .inl h)⟩
    ·have HO := Lib.hid (HFk.out.trans (leaf_brk2 HX.out p c H16.out hc))
     have hc0 : (c == 1) = false := by simp [hc]
     have hcw : IntKind.i64.wrap (c - 1) = c - 1 := by rw [IntKind.wrap_i64]; omega
     have hcc : 1 ≤ c - 1 ∧ c - 1 ≤ 1000000 := by omega
     have HCC := Lib.hid hcc
     clear HFk HW hc hcc
     go_wp2_with (first
      | (go_at_call 62; refine (HCl.out _ (by go_grown)).mono ?_; rintro e w2 ⟨va, vc, rfl, hv2, hb2⟩; have HV2 : Hid (IntsR true w2 (fun b => wr.heap.size + 1 ≤ b) (.slice va p.length vc) p) := Lib.hid (hv2.stable (rdOf_stable _) (Keeps.refl _ _) (fun b h _ => alloc_le h)); have hk2 := Lib.hid (heap_below hb2 (heap_new _ _ rfl)); have hz2 : wr.heap.size + 1 ≤ w2.heap.size := alloc_le hb2.size; have hx2 := Lib.hid (below_from ((Below.refl wr.heap.size wr).alloc (Nat.le_refl _) _) hb2); clear hv2 hb2)
      | (at_builtin; go_must (refine wpList_append_R _ rfl _ _ 34 34 rfl rowInt eltInt (wr.heap.size + 1) (.slice va p.length vc) _ (xs := p) (ys := [(k : Int)]) (news := [.int .i64 k]) rfl rfl (HV2.out.stable (rdOf_stable _) (.all ((Below.refl _ _).alloc (Nat.le_refl _) _)) (fun _ h _ => h)) (by simp; omega) (src_tag _ _ 1 (by simp)) (NewsR.one rfl rfl) hrl ?_); intro v8 w8 hR8 hB8 _ _; rw [HPK.out] at hR8; obtain ⟨na, nc, hne⟩ := hR8.slice; subst hne; have HR8 := Lib.hid hR8; have hx28 := Lib.hid (((Below.refl (wr.heap.size + 1) w2).alloc hz2 _).trans hB8); have hx8 := Lib.hid (hx2.out.trans (hx28.out.mono (by omega))); have hk8 := Lib.hid ((hx28.out.block _ (Nat.lt_succ_self _)).trans hk2.out); obtain ⟨q8, g8⟩ := blk hk8.out; clear hR8 hB8)
      | (go_at_call 53; refine (HC.out _).mono ?_; rintro e w9 ⟨rfl, hb9⟩; have hx9 := Lib.hid (below_from hx8.out hb9); have hk9 := Lib.hid (heap_below hb9 hk8.out); obtain ⟨q9, g9⟩ := blk hk9.out; have hf9 := Lib.hid (heap_below hx9.out HFr.out); obtain ⟨q3, g3⟩ := blk hf9.out; have hr9 := Lib.hid (heap_below hx9.out HRr.out); obtain ⟨q4, g4⟩ := blk hr9.out; have HR9 := Lib.hid (HR8.out.below (rdOf_stable _) hb9); have hz9 : wr.heap.size + 1 < w9.heap.size + 1 := Nat.succ_lt_succ (Nat.lt_of_lt_of_le (Nat.lt_of_succ_le hz2) (Nat.le_trans hx28.out.size hb9.size)); clear hb9))
     go_roundw
     case rel => exact ⟨k + 1, _, hlt, by go_num, HCC.out.1, HCC.out.2, HO, Lib.hid ((HBt.out.trans (But.of hx9.out)).set _ _), Lib.hid (by unfold FinAt; simp [heap_set, putIn, hf9.out])⟩
     case measure => simp [intOf]; omega
   ·have hb16 : (x.tag == 16) = false := by simp [h16]
    have H16 := Lib.hid h16
    clear h16
    by_cases h0 : x.tag = 0
    ·have hb0 : (x.tag == 0) = true := by simp [h0]
     have hb02 : (x.tag != 0) = false := by simp [h0]
     have H0 := Lib.hid h0
     clear h0 HW
     by_cases hcs : c ≤ (sz : Int)
     ·have HO := Lib.hid (HFk.out.trans (leaf_text HX.out p c H0.out (by rw [HSZ.out]; exact hcs)))
      rw [HPK.out] at HO
      have hd : decide (c ≤ (sz : Int)) = true := decide_eq_true hcs
      clear HFk hcs
      go_wp2_with (first
       | (go_at_call 62; refine (HCl.out _ (by go_grown)).mono ?_; rintro e w2 ⟨va, vc, rfl, hv2, hb2⟩; have HV2 : Hid (IntsR true w2 (fun b => wr.heap.size + 1 ≤ b) (.slice va p.length vc) p) := Lib.hid (hv2.stable (rdOf_stable _) (Keeps.refl _ _) (fun b h _ => alloc_le h)); have hk2 := Lib.hid (heap_below hb2 (heap_new _ _ rfl)); have hz2 : wr.heap.size + 1 ≤ w2.heap.size := alloc_le hb2.size; have hx2 := Lib.hid (below_from ((Below.refl wr.heap.size wr).alloc (Nat.le_refl _) _) hb2); clear hv2 hb2)
       | (at_builtin; go_must (refine wpList_append_R _ rfl _ _ 34 34 rfl rowInt eltInt (wr.heap.size + 1) (.slice va p.length vc) _ (xs := p) (ys := [(k : Int)]) (news := [.int .i64 k]) rfl rfl (HV2.out.stable (rdOf_stable _) (.all ((Below.refl _ _).alloc (Nat.le_refl _) _)) (fun _ h _ => h)) (by simp; omega) (src_tag _ _ 1 (by simp)) (NewsR.one rfl rfl) hrl ?_); intro v8 w8 hR8 hB8 _ _; rw [HPK.out] at hR8; obtain ⟨na, nc, hne⟩ := hR8.slice; subst hne; have HR8 := Lib.hid hR8; have hx28 := Lib.hid (((Below.refl (wr.heap.size + 1) w2).alloc hz2 _).trans hB8); have hx8 := Lib.hid (hx2.out.trans (hx28.out.mono (by omega))); have hk8 := Lib.hid ((hx28.out.block _ (Nat.lt_succ_self _)).trans hk2.out); obtain ⟨q8, g8⟩ := blk hk8.out; clear hR8 hB8)
       | (go_at_call 53; refine (HC.out _).mono ?_; rintro e w9 ⟨rfl, hb9⟩; have hx9 := Lib.hid (below_from hx8.out hb9); have hk9 := Lib.hid (heap_below hb9 hk8.out); obtain ⟨q9, g9⟩ := blk hk9.out; have hf9 := Lib.hid (heap_below hx9.out HFr.out); obtain ⟨q3, g3⟩ := blk hf9.out; have hr9 := Lib.hid (heap_below hx9.out HRr.out); obtain ⟨q4, g4⟩ := blk hr9.out; have HR9 := Lib.hid (HR8.out.below (rdOf_stable _) hb9); have hz9 : wr.heap.size + 1 < w9.heap.size + 1 := Nat.succ_lt_succ (Nat.lt_of_lt_of_le (Nat.lt_of_succ_le hz2) (Nat.le_trans hx28.out.size hb9.size)); clear hb9))
      refine bodyPost_ret (results_pt rfl _ _ (w.heap.size + 1) (.slice na pk.length nc) (.int .i64 c) rfl (by simp [heap_set, putIn, hr9.out])) rfl ?_
      refine ⟨((HBw.out.trans (But.of hx9.out)).setN (Nat.le_succ _) 0 _).setN (Nat.le_succ _) 1 _, ?_⟩
      rw [HO.out]
      exact ⟨na, nc, rfl, (HR9.out.read fun _ _ h => h).stable (rdOf_stable _) (keeps2 (by omega) _ _) (fun b h _ => .inr (by omega))⟩
     ·have HO := Lib.hid (HFk.out.trans (leaf_text2 HX.out p c H0.out (by rw [HSZ.out]; exact hcs)))
      rw [HSZ.out] at HO
      have hd : decide (c ≤ (sz : Int)) = false := decide_eq_false hcs
      have hcw : IntKind.i64.wrap (c - (sz : Int)) = c - (sz : Int) := by rw [IntKind.wrap_i64]; omega
      have hcc : 1 ≤ c - (sz : Int) ∧ c - (sz : Int) ≤ 1000000 := by omega
      have HCC := Lib.hid hcc
      clear HFk hcs hcc
      go_wp2_with (first
       | (go_at_call 62; refine (HCl.out _ (by go_grown)).mono ?_; rintro e w2 ⟨va, vc, rfl, hv2, hb2⟩; have HV2 : Hid (IntsR true w2 (fun b => wr.heap.size + 1 ≤ b) (.slice va p.length vc) p) := Lib.hid (hv2.stable (rdOf_stable _) (Keeps.refl _ _) (fun b h _ => alloc_le h)); have hk2 := Lib.hid (heap_below hb2 (heap_new _ _ rfl)); have hz2 : wr.heap.size + 1 ≤ w2.heap.size := alloc_le hb2.size; have hx2 := Lib.hid (below_from ((Below.refl wr.heap.size wr).alloc (Nat.le_refl _) _) hb2); clear hv2 hb2)
       | (at_builtin; go_must (refine wpList_append_R _ rfl _ _ 34 34 rfl rowInt eltInt (wr.heap.size + 1) (.slice va p.length vc) _ (xs := p) (ys := [(k : Int)]) (news := [.int .i64 k]) rfl rfl (HV2.out.stable (rdOf_stable _) (.all ((Below.refl _ _).alloc (Nat.le_refl _) _)) (fun _ h _ => h)) (by simp; omega) (src_tag _ _ 1 (by simp)) (NewsR.one rfl rfl) hrl ?_); intro v8 w8 hR8 hB8 _ _; rw [HPK.out] at hR8; obtain ⟨na, nc, hne⟩ := hR8.slice; subst hne; have HR8 := Lib.hid hR8; have hx28 := Lib.hid (((Below.refl (wr.heap.size + 1) w2).alloc hz2 _).trans hB8); have hx8 := Lib.hid (hx2.out.trans (hx28.out.mono (by omega))); have hk8 := Lib.hid ((hx28.out.block _ (Nat.lt_succ_self _)).trans hk2.out); obtain ⟨q8, g8⟩ := blk hk8.out; clear hR8 hB8)
       | (go_at_call 53; refine (HC.out _).mono ?_; rintro e w9 ⟨rfl, hb9⟩; have hx9 := Lib.hid (below_from hx8.out hb9); have hk9 := Lib.hid (heap_below hb9 hk8.out); obtain ⟨q9, g9⟩ := blk hk9.out; have hf9 := Lib.hid (heap_below hx9.out HFr.out); obtain ⟨q3, g3⟩ := blk hf9.out; have hr9 := Lib.hid (heap_below hx9.out HRr.out); obtain ⟨q4, g4⟩ := blk hr9.out; have HR9 := Lib.hid (HR8.out.below (rdOf_stable _) hb9); have hz9 : wr.heap.size + 1 < w9.heap.size + 1 := Nat.succ_lt_succ (Nat.lt_of_lt_of_le (Nat.lt_of_succ_le hz2) (Nat.le_trans hx28.out.size hb9.size)); clear hb9))
      go_roundw
      case rel => exact ⟨k + 1, _, hlt, by go_num, HCC.out.1, HCC.out.2, HO, Lib.hid ((HBt.out.trans (But.of hx9.out)).set _ _), Lib.hid (by unfold FinAt; simp [heap_set, putIn, hf9.out])⟩
      case measure => simp [intOf]; omega
    ·have hb0 : (x.tag == 0) = false := by simp [h0]
     have hb02 : (x.tag != 0) = true := by simp [h0]
     have H0 := Lib.hid h0
     clear h0
     cases hr : leafF x pk c with
     | inl r =>
      obtain ⟨q, t⟩ := r
      have HO := Lib.hid (HFk.out.trans (leaf_in HX.out p c H16.out H0.out (HPK.out ▸ hr)))
      rw [hr] at HW
      clear HFk hr
      go_wp2_with (first
       | (go_at_call 62; refine (HCl.out _ (by go_grown)).mono ?_; rintro e w2 ⟨va, vc, rfl, hv2, hb2⟩; have HV2 : Hid (IntsR true w2 (fun b => wr.heap.size + 1 ≤ b) (.slice va p.length vc) p) := Lib.hid (hv2.stable (rdOf_stable _) (Keeps.refl _ _) (fun b h _ => alloc_le h)); have hk2 := Lib.hid (heap_below hb2 (heap_new _ _ rfl)); have hz2 : wr.heap.size + 1 ≤ w2.heap.size := alloc_le hb2.size; have hx2 := Lib.hid (below_from ((Below.refl wr.heap.size wr).alloc (Nat.le_refl _) _) hb2); clear hv2 hb2)
       | (at_builtin; go_must (refine wpList_append_R _ rfl _ _ 34 34 rfl rowInt eltInt (wr.heap.size + 1) (.slice va p.length vc) _ (xs := p) (ys := [(k : Int)]) (news := [.int .i64 k]) rfl rfl (HV2.out.stable (rdOf_stable _) (.all ((Below.refl _ _).alloc (Nat.le_refl _) _)) (fun _ h _ => h)) (by simp; omega) (src_tag _ _ 1 (by simp)) (NewsR.one rfl rfl) hrl ?_); intro v8 w8 hR8 hB8 _ _; rw [HPK.out] at hR8; obtain ⟨na, nc, hne⟩ := hR8.slice; subst hne; have HR8 := Lib.hid hR8; have hx28 := Lib.hid (((Below.refl (wr.heap.size + 1) w2).alloc hz2 _).trans hB8); have hx8 := Lib.hid (hx2.out.trans (hx28.out.mono (by omega))); have hk8 := Lib.hid ((hx28.out.block _ (Nat.lt_succ_self _)).trans hk2.out); obtain ⟨q8, g8⟩ := blk hk8.out; clear hR8 hB8)
       | (go_at_call 53; refine (HC.out _).mono ?_; rintro e w9 ⟨rfl, hb9⟩; have hx9 := Lib.hid (below_from hx8.out hb9); have hk9 := Lib.hid (heap_below hb9 hk8.out); obtain ⟨q9, g9⟩ := blk hk9.out; have hf9 := Lib.hid (heap_below hx9.out HFr.out); obtain ⟨q3, g3⟩ := blk hf9.out; have hr9 := Lib.hid (heap_below hx9.out HRr.out); obtain ⟨q4, g4⟩ := blk hr9.out; have HR9 := Lib.hid (HR8.out.below (rdOf_stable _) hb9); have hz9 : wr.heap.size + 1 < w9.heap.size + 1 := Nat.succ_lt_succ (Nat.lt_of_lt_of_le (Nat.lt_of_succ_le hz2) (Nat.le_trans hx28.out.size hb9.size)); clear hb9)
       | (go_at_call 61; refine (HW.out _ _ _ (fun b => wr.heap.size + 1 ≤ b ∧ b < w9.heap.size) hx9.out ((HR9.out.read fun _ _ h => h).stable (rdOf_stable _) (Keeps.refl _ _) (fun b h hz => ⟨h, hz⟩)) (fun b h => ⟨h.2, by omega⟩)).mono ?_; rintro e w10 ⟨hbt, qa, qc, rfl, hq⟩; have HBT := Lib.hid hbt; have HQ := Lib.hid hq; have hz10 : w.heap.size + 1 < w10.heap.size := Nat.lt_of_lt_of_le (Nat.lt_trans hwz (Nat.lt_of_succ_lt_succ hz9)) hbt.size; have hr10 := Lib.hid (hbt.heap (by omega) hr9.out); obtain ⟨q5, g5⟩ := blk hr10.out; have hne10 : ¬ (w.heap.size + 1 = w10.heap.size) := Nat.ne_of_lt hz10; clear hbt hq))
      have HQ1 : Hid (IntsR false w10 (fun b => wr.heap.size + 1 ≤ b) (.slice qa q.length qc) q) := Lib.hid (HQ.out.stable (rdOf_stable _) (Keeps.refl _ _) (fun b h _ => by rcases h with h | h; exact h.1; omega))
      refine bodyPost_ret (results_pt rfl _ _ (w.heap.size + 1) (.slice qa q.length qc) (.int .i64 t) rfl (heap_old _ _ (by simp [heap_set, putIn, hr10.out]))) rfl ?_
      refine ⟨((((HBw.out.trans (But.of hx9.out)).trans HBT.out).setN (Nat.le_succ _) 0 _).setN (Nat.le_succ _) 1 _).alloc _, ?_⟩
      rw [HO.out]
      exact ⟨qa, qc, rfl, HQ1.out.stable (rdOf_stable _) ((keeps2 (by omega) _ _).alloc _) (fun b h _ => .inr (by omega))⟩
     | inr c2 =>
      have hc2 := leafF_le x pk c c2 hr hc1
      have HO := Lib.hid (HFk.out.trans (leaf_past HX.out p c c2 H16.out H0.out (HPK.out ▸ hr)))
      have hcc : 1 ≤ c2 ∧ c2 ≤ 1000000 := by omega
      have HCC := Lib.hid hcc
      rw [hr] at HW
      clear HFk hr hc2 hcc
      go_wp2_with (first
       | (go_at_call 62; refine (HCl.out _ (by go_grown)).mono ?_; rintro e w2 ⟨va, vc, rfl, hv2, hb2⟩; have HV2 : Hid (IntsR true w2 (fun b => wr.heap.size + 1 ≤ b) (.slice va p.length vc) p) := Lib.hid (hv2.stable (rdOf_stable _) (Keeps.refl _ _) (fun b h _ => alloc_le h)); have hk2 := Lib.hid (heap_below hb2 (heap_new _ _ rfl)); have hz2 : wr.heap.size + 1 ≤ w2.heap.size := alloc_le hb2.size; have hx2 := Lib.hid (below_from ((Below.refl wr.heap.size wr).alloc (Nat.le_refl _) _) hb2); clear hv2 hb2)
       | (at_builtin; go_must (refine wpList_append_R _ rfl _ _ 34 34 rfl rowInt eltInt (wr.heap.size + 1) (.slice va p.length vc) _ (xs := p) (ys := [(k : Int)]) (news := [.int .i64 k]) rfl rfl (HV2.out.stable (rdOf_stable _) (.all ((Below.refl _ _).alloc (Nat.le_refl _) _)) (fun _ h _ => h)) (by simp; omega) (src_tag _ _ 1 (by simp)) (NewsR.one rfl rfl) hrl ?_); intro v8 w8 hR8 hB8 _ _; rw [HPK.out] at hR8; obtain ⟨na, nc, hne⟩ := hR8.slice; subst hne; have HR8 := Lib.hid hR8; have hx28 := Lib.hid (((Below.refl (wr.heap.size + 1) w2).alloc hz2 _).trans hB8); have hx8 := Lib.hid (hx2.out.trans (hx28.out.mono (by omega))); have hk8 := Lib.hid ((hx28.out.block _ (Nat.lt_succ_self _)).trans hk2.out); obtain ⟨q8, g8⟩ := blk hk8.out; clear hR8 hB8)
       | (go_at_call 53; refine (HC.out _).mono ?_; rintro e w9 ⟨rfl, hb9⟩; have hx9 := Lib.hid (below_from hx8.out hb9); have hk9 := Lib.hid (heap_below hb9 hk8.out); obtain ⟨q9, g9⟩ := blk hk9.out; have hf9 := Lib.hid (heap_below hx9.out HFr.out); obtain ⟨q3, g3⟩ := blk hf9.out; have hr9 := Lib.hid (heap_below hx9.out HRr.out); obtain ⟨q4, g4⟩ := blk hr9.out; have HR9 := Lib.hid (HR8.out.below (rdOf_stable _) hb9); have hz9 : wr.heap.size + 1 < w9.heap.size + 1 := Nat.succ_lt_succ (Nat.lt_of_lt_of_le (Nat.lt_of_succ_le hz2) (Nat.le_trans hx28.out.size hb9.size)); clear hb9)
       | (go_at_call 61; refine (HW.out _ _ _ (fun b => wr.heap.size + 1 ≤ b ∧ b < w9.heap.size) hx9.out ((HR9.out.read fun _ _ h => h).stable (rdOf_stable _) (Keeps.refl _ _) (fun b h hz => ⟨h, hz⟩)) (fun b h => ⟨h.2, by omega⟩)).mono ?_; rintro e w10 ⟨hbt, rfl, hfo⟩; have HBT := Lib.hid hbt; have HFO := Lib.hid hfo; clear hbt hfo))
      go_roundw
      case rel => exact ⟨k + 1, c2, hlt, by go_num, HCC.out.1, HCC.out.2, HO, Lib.hid (((HBt.out.trans (But.of hx9.out)).trans HBT.out).alloc _), Lib.hid (heap_old _ _ HFO.out)⟩
      case measure => simp [intOf]; omega
  ·obtain rfl : k = n.kids.length := by omega
   have HO := Lib.hid (HFk.out.trans (leaf_end n.kids p c))
   have hwz : w.heap.size + 1 < wr.heap.size := Nat.lt_of_lt_of_le HZ.out HBt.out.size
   have hBz : B < w.heap.size := HBz.out
   have hRr : Hid (wr.heap[w.heap.size + 1]? = some (.cells #[.slice none 0 0, .int .i64 0] 44)) := Lib.hid (HBt.out.heap (by omega) HR.out)
   obtain ⟨q4, g4⟩ := blk hRr.out
   go_wp2_with fail
   refine bodyPost_ret (results_pt rfl _ _ (w.heap.size + 1) (.slice none 0 0) (.int .i64 0) rfl (by simp [heap_set, putIn, hRr.out])) rfl ?_
   refine ⟨((((But.of HB.out).trans HBt.out).setN (Nat.le_succ _) 0 _).setN (Nat.le_succ _) 1 _), ?_⟩
   rw [HO.out]
   have hf := HFr.out
   unfold FinAt at hf
   exact ⟨rfl, by unfold FinAt; simp [heap_set, putIn, hf, show ¬ (w.heap.size + 1 = B) by omega]⟩
theorem leaf_all : ∀ h, LeafAt h
 | 0 => leaf_step 0 (fun _ e => by cases e)
 | h + 1 => leaf_step (h + 1) (fun h' e => by cases e; exact leaf_all h)
end Go.Proofs.YtjpgffihafknlaaGreatDoor
namespace Go.Proofs.YtjpgffihafknlaaGreatDoor
open Go.RowKit
open Go.Proofs.Qw
attribute [local go_sem] Oper.semAt_some
def partEncY {α : Type} {r : α → α → Bool} {d : List α} (va : Option Addr) (vc k : Nat) (x : PartY r d) : Array Value := #[partV va vc k x.1]
set_option maxHeartbeats 400000 in
theorem partsL_any (va : Option Addr) (vn vc g : Nat) (b : Array Value) (w : World) : Calls Tryz.prog 90 #[.slice va vn vc, .func (.func g) #[] b] w fun e w' => e = .returned (.func (.func 118) #[] #[.pointer (some ⟨w.heap.size, 0, none⟩), .pointer (some ⟨w.heap.size + 1, 0, none⟩)]) ∧ w' = (w.alloc (.cells #[.slice va vn vc] 29)).alloc (.cells #[.func (.func g) #[] b] 81) := by
 go_enter Tryz.func90, Tryz.ntmps90
 go_wp2
 go_ret
 exact ⟨by simp, rfl⟩
set_option maxRecDepth 200000 in
set_option maxHeartbeats 4000000 in
theorem parts1_lines (n l Bl Ba base top : Nat) (Bb : Nat) (va : Option Addr) (vc : Nat) (d : List Lin) (r : Lin → Lin → Bool) (S : Nat → Prop) (J Jx : List (PartY r d) → World → Prop) (w0 W : World) (hv : LinsR w0 S (.slice va d.length vc) d) (hb0 : Below w0.heap.size w0 W)
  (hal : ∀ X, Below w0.heap.size w0 X → ∀ (x y : Lin) (la : Option Addr) (lc : Nat) (ca : Option Addr) (cc : Nat) (la2 : Option Addr) (lc2 : Nat) (ca2 : Option Addr) (cc2 : Nat), IntsR false X S (.slice la x.lists.length lc) x.lists → IntsR false X S (.slice la2 y.lists.length lc2) y.lists → x ∈ d → y ∈ d → Calls Tryz.prog 88 #[.agg #[.int .i64 x.quote, .slice la x.lists.length lc, .int .i64 x.kind, .slice ca x.cells.length cc], .agg #[.int .i64 y.quote, .slice la2 y.lists.length lc2, .int .i64 y.kind, .slice ca2 y.cells.length cc2], .pointer (some ⟨Bb, 0, none⟩)] X fun e X' => e = .returned (.bool (r x y)) ∧ Below X.heap.size X X')
  (hbase : base ≤ Bl ∧ base ≤ Ba) (htop : Bl < top ∧ Ba < top) (hD : W.heap[Bl]? = some (.cells #[.slice va d.length vc] 29)) (hA : W.heap[Ba]? = some (.cells #[.func (.func 88) #[] #[.pointer (some ⟨Bb, 0, none⟩)]] 81))
  (hlen : d.length ≤ 100000) (hJ : AbidesFrom W.heap.size J)
  (hY : ∀ (pre : List (PartY r d)) (x : PartY r d) W, J pre W → pre.length < d.length → YieldAt Fence.wide (n - 1) Tryz.prog l (partEncY va vc 4 x) W fun e W' =>
   (e = .returned (.bool true) ∧ J (pre ++ [x]) W' ∧ Kb w0.heap.size base top W W') ∨ (e = .returned (.bool false) ∧ Jx (pre ++ [x]) W'))
  (h0 : J [] W) :
  CallsIn Fence.wide n Tryz.prog 118 #[.func (.yield l) #[] #[], .pointer (some ⟨Bl, 0, none⟩), .pointer (some ⟨Ba, 0, none⟩)] W fun e W' => (∃ v, e = .returned v) ∧
   ((∃ ys : List (PartY r d), ys.map (fun y => cutP d y.1) = partsBy r d ∧ J ys W') ∨ (∃ pre, True ∧ Jx pre W')) := by
 refine callsIn_of_wp Tryz.func118 rfl trivial ?_ rfl
 simp only [Tryz.ntmps118, List.size_toArray, List.length_cons, List.length_nil, Nat.reduceAdd, Nat.reduceSub, Array.replicate_succ, Array.replicate_zero, List.push_toArray, List.append_toArray, List.nil_append, List.cons_append]
 have hwf : ∀ f, Fence.wide.fn f := fun _ => trivial
 have hwd : Fence.wide.depth = none := rfl
 obtain ⟨va', vc', hve, hvc, hvm, hx⟩ := lins_shape hv
 cases hve
 have HX := Lib.hid hx
 have HY := Lib.hid hY
 have HAL := Lib.hid hal
 have HJA := Lib.hid hJ
 have HBK := Lib.hid (And.intro hD hA)
 unfold maxLen at hvm
 clear hx hv hY hal hJ hD hA
 refine wpIn_wide.2 ?_
 go_wp2_with fail
 go_loopw [4, 5] (fun f _ wr => ∃ (i : Nat) (pre : List (PartY r d)), i ≤ d.length ∧ pre.length ≤ i ∧ f = .int .i64 i ∧ Hid ((pre.map (·.1)).map (cutP d) ++ partsBy r (d.drop i) = partsBy r d) ∧ J pre wr ∧ Below w0.heap.size w0 wr ∧ Hid (wr.heap[Bl]? = some (.cells #[.slice va d.length vc] 29) ∧ wr.heap[Ba]? = some (.cells #[.func (.func 88) #[] #[.pointer (some ⟨Bb, 0, none⟩)]] 81)) ∧ W.heap.size ≤ wr.heap.size)
  (fun f _ _ => d.length - (intOf f).toNat)
 case atStart => exact ⟨0, [], Nat.zero_le _, Nat.le_refl _, rfl, Lib.hid rfl, h0, hb0, HBK, Nat.le_refl _⟩
 case round =>
  obtain ⟨i, pre, hi, hpl, rfl, HP, hJs, hb1, HBL, hz1⟩ := hrel
  obtain ⟨p1, f1⟩ := blk HBL.out.1
  obtain ⟨p2, f2⟩ := blk HBL.out.2
  by_cases hlt : i < d.length
  ·obtain ⟨a, ha, hda⟩ := getOf d i hlt
   obtain ⟨bb, oo, la, lc, ca, cc, eva, hAt⟩ := HX.out i a ha
   subst eva
   have HAT := Lib.hid hAt
   have HAM := Lib.hid (List.mem_of_getElem? ha)
   have HDA := Lib.hid hda
   have HJS := Lib.hid hJs
   clear ha hda hAt hJs
   go_wp2_with fail
   go_loopw [5] (fun t wq => ∃ j : Nat, i + 1 ≤ j ∧ j ≤ d.length ∧ t = .int .i64 j ∧ Hid (runTo r a d j = runTo r a d (i + 1)) ∧ Hid (Below wr.heap.size wr wq)) (fun t _ => d.length - (intOf t).toNat)
   case atStart => exact ⟨i + 1, Nat.le_refl _, hlt, by go_num, Lib.hid rfl, Lib.hid (Below.refl _ _)⟩
   case round =>
    obtain ⟨j, hj1, hj2, rfl, HE, HB⟩ := hrel
    have HW0 := Lib.hid (below_from hb1 HB.out)
    obtain ⟨q1, g1⟩ := blk (heap_below HB.out HBL.out.1)
    obtain ⟨q2, g2⟩ := blk (heap_below HB.out HBL.out.2)
    obtain ⟨_, c0, c1, c2, c3, _, _⟩ := HAT.out.below HW0.out
    have hwr : Below wr.heap.size wr wr.drew := (Below.refl _ _).drew
    have i0 : (0 : Int) ≤ (i : Int) := Int.natCast_nonneg _
    have i1 : (i : Int) < (d.length : Int) := by omega
    have hne : ¬ vc = i := by omega
    clear p1 f1 p2 f2
    by_cases hlt2 : j < d.length
    ·obtain ⟨y, hy, hdy⟩ := getOf d j hlt2
     obtain ⟨b2, o2, la2, lc2, ca2, cc2, e2, hAt2⟩ := HX.out j y hy
     cases e2
     have HAT2 := Lib.hid hAt2
     have HAM2 := Lib.hid (List.mem_of_getElem? hy)
     obtain ⟨_, k0, k1, k2, k3, _, _⟩ := HAT2.out.below HW0.out
     have j0 : (0 : Int) ≤ (j : Int) := Int.natCast_nonneg _
     have j1 : (j : Int) < (d.length : Int) := by omega
     have hdj : decide ((j : Int) < (d.length : Int)) = true := by simp; omega
     have HCA : Hid (∀ X, Below wr.heap.size wr X → Calls Tryz.prog 88 #[.agg #[.int .i64 a.quote, .slice la a.lists.length lc, .int .i64 a.kind, .slice ca a.cells.length cc], .agg #[.int .i64 y.quote, .slice la2 y.lists.length lc2, .int .i64 y.kind, .slice ca2 y.cells.length cc2], .pointer (some ⟨Bb, 0, none⟩)] X fun e X' => e = .returned (.bool (r a y)) ∧ Below X.heap.size X X') := Lib.hid fun X hX => HAL.out X (below_from HW0.out hX) a y la lc ca cc la2 lc2 ca2 cc2 (HAT.out.below (below_from HW0.out hX)).listsR (HAT2.out.below (below_from HW0.out hX)).listsR HAM.out HAM2.out
     have HDY := Lib.hid hdy
     clear hy hdy hAt2
     cases hr : r a y
     all_goals
      rw [hr] at HCA
      have HRR := Lib.hid hr
      clear hr
      go_wp2_with fail
      (go_region_held3 (fun w' => w'.cell? ⟨Bl, 0, none⟩ = some (.slice (some ⟨bb, oo, none⟩) d.length vc) ∧ w'.cell? ⟨Ba, 0, none⟩ = some (.func (.func 88) #[] #[.pointer (some ⟨Bb, 0, none⟩)]) ∧ w'.cell? ⟨bb, oo + i * 4, none⟩ = some (.int .i64 a.quote) ∧ w'.cell? ⟨bb, oo + i * 4 + 1, none⟩ = some (.slice la a.lists.length lc) ∧ w'.cell? ⟨bb, oo + i * 4 + 2, none⟩ = some (.int .i64 a.kind) ∧ w'.cell? ⟨bb, oo + i * 4 + 3, none⟩ = some (.slice ca a.cells.length cc) ∧ w'.cell? ⟨bb, oo + j * 4, none⟩ = some (.int .i64 y.quote) ∧ w'.cell? ⟨bb, oo + j * 4 + 1, none⟩ = some (.slice la2 y.lists.length lc2) ∧ w'.cell? ⟨bb, oo + j * 4 + 2, none⟩ = some (.int .i64 y.kind) ∧ w'.cell? ⟨bb, oo + j * 4 + 3, none⟩ = some (.slice ca2 y.cells.length cc2)) ((first | go_keep | skip)) ((go_at_call 88; (with_reducible refine (HCA.out _ (by assumption)).mono ?_); rintro e w5 ⟨rfl, hb5⟩; have hx5 : Below wr.heap.size wr w5 := below_from (by assumption) hb5; obtain ⟨r1, s1⟩ := blk (heap_below hx5 (heap_below HB.out HBL.out.1)); obtain ⟨r2, s2⟩ := blk (heap_below hx5 (heap_below HB.out HBL.out.2)); have HW5 := below_from HW0.out hx5; obtain ⟨_, m0, m1, m2, m3, _, _⟩ := HAT.out.below HW5; obtain ⟨_, n0, n1, n2, n3, _, _⟩ := HAT2.out.below HW5)))
     ·have HE2 : Hid (runTo r a d (i + 1) = j) := Lib.hid (HE.out.symm.trans (runTo_no HDY.out HRR.out))
      have HCR := Lib.hid (cut_run HDA.out HE2.out)
      have HBx := below_from HB.out hx5
      have hYY := HY.out pre ⟨(i, j), ⟨⟨by omega, hj2⟩, HCR.out⟩⟩ w5 (abides_below HJA.out HJS.out HBx) (by omega)
      have hrow : partEncY (some ⟨bb, oo, none⟩) vc 4 (⟨(i, j), ⟨⟨by omega, hj2⟩, HCR.out⟩⟩ : PartY r d) = #[.slice (some ⟨bb, oo + i * 4, none⟩) (j - i) (vc - i)] := by
       unfold partEncY partV sliced
       simp only
       rw [if_neg (by omega)]
       simp only [Option.map_some, WideShapes.add_plain]
      rw [hrow] at hYY
      have HNX : Hid (∀ w7, J (pre ++ [⟨(i, j), ⟨⟨by omega, hj2⟩, HCR.out⟩⟩]) w7 → Kb w0.heap.size base top w5 w7 → ∃ (i' : Nat) (pre' : List (PartY r d)), i' ≤ d.length ∧ pre'.length ≤ i' ∧ i' = j ∧ Hid ((pre'.map (·.1)).map (cutP d) ++ partsBy r (d.drop i') = partsBy r d) ∧ J pre' w7 ∧ Below w0.heap.size w0 w7 ∧ Hid (w7.heap[Bl]? = some (.cells #[.slice (some ⟨bb, oo, none⟩) d.length vc] 29) ∧ w7.heap[Ba]? = some (.cells #[.func (.func 88) #[] #[.pointer (some ⟨Bb, 0, none⟩)]] 81)) ∧ W.heap.size ≤ w7.heap.size) := Lib.hid fun w7 hJ7 hk7 => by
       refine ⟨j, _, hj2, by simp; omega, rfl, Lib.hid ?_, hJ7, (below_from hb1 HBx).trans hk7.below, Lib.hid ⟨hk7.cells _ _ hbase.1 htop.1 (heap_below HBx HBL.out.1) rfl, hk7.cells _ _ hbase.2 htop.2 (heap_below HBx HBL.out.2) rfl⟩, Nat.le_trans hz1 (Nat.le_trans HBx.size hk7.below.size)⟩
       have := parts_snoc2 HP.out HDA.out
       rw [HE2.out] at this
       rw [List.map_append]
       exact this
      obtain ⟨fn, tmps, assign, body, hy, hR⟩ := hYY
      go_upto_region 5 with fail
      refine (wpIn_wide (n := n)).1 ?_
      gi_wp2_with fail
      refine hR.mono ?_
      rintro e w7 (⟨rfl, hJ7, hk7⟩ | ⟨rfl, hJx7⟩)
      ·obtain ⟨i', pre', u1, u2, u3, u4, u5, u6, u7, u8⟩ := HNX.out w7 hJ7 hk7
       gi_wp2_with fail
       go_wp2_with fail
       go_roundw
       case rel => exact ⟨i', pre', u1, u2, by rw [u3], u4, u5, u6, u7, u8⟩
       case measure => simp [intOf]; omega
      ·gi_wp2_with fail
       go_wp2_with fail
       refine bodyPost_ret (results_none rfl _ _ _) rfl ?_
       exact ⟨⟨_, rfl⟩, .inr ⟨_, trivial, hJx7⟩⟩
     ·go_wp2_with fail
      go_roundw
      case rel => exact ⟨j + 1, by omega, hlt2, by go_num, Lib.hid ((runTo_yes HDY.out HRR.out).symm.trans HE.out), Lib.hid (below_from HB.out hx5)⟩
      case measure => simp [intOf]; omega
    ·have hjd : j = d.length := by omega
     have HE2 : Hid (runTo r a d (i + 1) = j) := Lib.hid (by rw [← HE.out, hjd]; exact runTo_end)
     have hdj : decide ((j : Int) < (d.length : Int)) = false := by simp; omega
     clear hjd
     go_wp2_with fail
     go_region
     have HCR := Lib.hid (cut_run HDA.out HE2.out)
     have HBx := below_from HB.out hwr
     have hYY := HY.out pre ⟨(i, j), ⟨⟨by omega, hj2⟩, HCR.out⟩⟩ wr.drew (abides_below HJA.out HJS.out HBx) (by omega)
     have hrow : partEncY (some ⟨bb, oo, none⟩) vc 4 (⟨(i, j), ⟨⟨by omega, hj2⟩, HCR.out⟩⟩ : PartY r d) = #[.slice (some ⟨bb, oo + i * 4, none⟩) (j - i) (vc - i)] := by
      unfold partEncY partV sliced
      simp only
      rw [if_neg (by omega)]
      simp only [Option.map_some, WideShapes.add_plain]
     rw [hrow] at hYY
     have HNX : Hid (∀ w7, J (pre ++ [⟨(i, j), ⟨⟨by omega, hj2⟩, HCR.out⟩⟩]) w7 → Kb w0.heap.size base top wr.drew w7 → ∃ (i' : Nat) (pre' : List (PartY r d)), i' ≤ d.length ∧ pre'.length ≤ i' ∧ i' = j ∧ Hid ((pre'.map (·.1)).map (cutP d) ++ partsBy r (d.drop i') = partsBy r d) ∧ J pre' w7 ∧ Below w0.heap.size w0 w7 ∧ Hid (w7.heap[Bl]? = some (.cells #[.slice (some ⟨bb, oo, none⟩) d.length vc] 29) ∧ w7.heap[Ba]? = some (.cells #[.func (.func 88) #[] #[.pointer (some ⟨Bb, 0, none⟩)]] 81)) ∧ W.heap.size ≤ w7.heap.size) := Lib.hid fun w7 hJ7 hk7 => by
      refine ⟨j, _, hj2, by simp; omega, rfl, Lib.hid ?_, hJ7, (below_from hb1 HBx).trans hk7.below, Lib.hid ⟨hk7.cells _ _ hbase.1 htop.1 (heap_below HBx HBL.out.1) rfl, hk7.cells _ _ hbase.2 htop.2 (heap_below HBx HBL.out.2) rfl⟩, Nat.le_trans hz1 (Nat.le_trans HBx.size hk7.below.size)⟩
      have := parts_snoc2 HP.out HDA.out
      rw [HE2.out] at this
      rw [List.map_append]
      exact this
     obtain ⟨fn, tmps, assign, body, hy, hR⟩ := hYY
     go_upto_region 5 with fail
     refine (wpIn_wide (n := n)).1 ?_
     gi_wp2_with fail
     refine hR.mono ?_
     rintro e w7 (⟨rfl, hJ7, hk7⟩ | ⟨rfl, hJx7⟩)
     ·obtain ⟨i', pre', u1, u2, u3, u4, u5, u6, u7, u8⟩ := HNX.out w7 hJ7 hk7
      gi_wp2_with fail
      go_wp2_with fail
      go_roundw
      case rel => exact ⟨i', pre', u1, u2, by rw [u3], u4, u5, u6, u7, u8⟩
      case measure => simp [intOf]; omega
     ·gi_wp2_with fail
      go_wp2_with fail
      refine bodyPost_ret (results_none rfl _ _ _) rfl ?_
      exact ⟨⟨_, rfl⟩, .inr ⟨_, trivial, hJx7⟩⟩
  ·obtain rfl : i = d.length := by omega
   have HAll := Lib.hid (parts_all (r := r) HP.out)
   go_wp2_with fail
   go_end0
   exact ⟨⟨_, rfl⟩, .inl ⟨pre, by have h := HAll.out; rw [List.map_map] at h; exact h, hJs⟩⟩
end Go.Proofs.YtjpgffihafknlaaGreatDoor
namespace Go.Proofs.YtjpgffihafknlaaGreatDoor
open Go.RowKit
open Go.Proofs.Qw
attribute [local go_sem ↓] Go.wp_at_zero Go.wp_at_succ
set_option maxRecDepth 100000 in
set_option maxHeartbeats 2000000 in
theorem renStep_any (l : Lin) (a : Value) (ca : Option Addr) (cn cc lv : Nat) (w w0 : World) (S : Nat → Prop) (ha : IntsR false w0 S a l.lists) (h0 : Below w0.heap.size w0 w) (hn : l.lists.length ≤ 1000000) :
  Calls Tryz.prog 89 #[linV l a (.slice ca cn cc), .int .i64 lv] w fun e w' => e = .returned (.int .i64 (stepL lv l)) ∧ Below w.heap.size w w' := by
 have HC : Hid (∀ X, Below w.heap.size w X → Calls Tryz.prog 117 #[linV l a (.slice ca cn cc)] X fun e w' => ∃ oa oc, e = .returned (.slice oa (wayL l).length oc) ∧ IntsR true w' (fun b => X.heap.size ≤ b) (.slice oa (wayL l).length oc) (wayL l) ∧ Below X.heap.size X w') := Lib.hid fun X hX => (way_any l a ca cn cc X w0 S ha (below_from h0 hX) hn).mono fun _ _ ⟨v', h1, h2, h3⟩ => by
  obtain ⟨oa, oc, rfl⟩ := h2.slice
  exact ⟨oa, oc, h1, h2, h3⟩
 obtain ⟨la, lc, rfl⟩ := ha.slice
 obtain ⟨W1, hW1⟩ : ∃ W1, w.alloc (.cells #[.int .i64 l.quote, .slice la l.lists.length lc, .int .i64 l.kind, .slice ca cn cc] 37) = W1 := ⟨_, rfl⟩
 have hb1 : Below w.heap.size w W1 := hW1 ▸ (Below.refl _ _).alloc (Nat.le_refl _) _
 have hB1 : W1.heap[w.heap.size]? = some (.cells #[.int .i64 l.quote, .slice la l.lists.length lc, .int .i64 l.kind, .slice ca cn cc] 37) := hW1 ▸ heap_new _ _ rfl
 obtain ⟨p1, f1⟩ := blk hB1
 have HB1 := Lib.hid hb1
 have HE : Hid (stepL lv l = (wayL l).getD lv 0) := Lib.hid rfl
 have hwl := way_most l
 generalize stepL lv l = z at *
 generalize wayL l = ws at *
 clear ha h0 hB1 hb1
 unfold linV at *
 by_cases hlt : lv < ws.length
 ·have hd : decide ((lv : Int) < (ws.length : Int)) = true := by simp; omega
  have i0 : (0 : Int) ≤ (lv : Int) := Int.natCast_nonneg _
  have i1 : (lv : Int) < (ws.length : Int) := by omega
  have HLT := Lib.hid hlt
  clear hlt
  go_enter Tryz.func89, Tryz.ntmps89
  go_wp2_with (go_at_call 117; refine (HC.out _ HB1.out).mono ?_; rintro e w2 ⟨oa, oc, rfl, hv2, hb2⟩; obtain ⟨a', c', e', _, _, hx⟩ := ints_shape (hv2.read (fun _ _ g => g)); cases e'; obtain ⟨y, hy, _⟩ := getOf ws lv HLT.out; obtain ⟨b, o, rfl, hz, c0⟩ := hx lv y hy; have HY := Lib.hid hy; clear hy hx hv2)
  go_ret
  exact ⟨by rw [HE.out, List.getD_eq_getElem?_getD, HY.out]; rfl, below_from HB1.out hb2⟩
 ·have hd : decide ((lv : Int) < (ws.length : Int)) = false := by simp; omega
  have HLT := Lib.hid hlt
  clear hlt
  go_enter Tryz.func89, Tryz.ntmps89
  go_wp2_with (go_at_call 117; refine (HC.out _ HB1.out).mono ?_; rintro e w2 ⟨oa, oc, rfl, hv2, hb2⟩; clear hv2)
  go_ret
  exact ⟨by rw [HE.out, List.getD_eq_getElem?_getD, List.getElem?_eq_none (by have := HLT.out; omega)]; rfl, below_from HB1.out hb2⟩
end Go.Proofs.YtjpgffihafknlaaGreatDoor
namespace Go.Proofs.YtjpgffihafknlaaGreatDoor
open Go.RowKit
open Go.Proofs.Qw
attribute [local go_sem ↓] Go.wp_at_zero Go.wp_at_succ
theorem two_rows4 (w : World) (x1 x2 x3 x4 y1 y2 y3 y4 : Value) (t : TypeId) : ∃ W1, (w.alloc (.cells #[x1, x2, x3, x4] t)).alloc (.cells #[y1, y2, y3, y4] t) = W1 ∧ Below w.heap.size w W1 ∧ w.heap.size + 2 = W1.heap.size ∧ W1.heap[w.heap.size]? = some (.cells #[x1, x2, x3, x4] t) ∧ W1.heap[w.heap.size + 1]? = some (.cells #[y1, y2, y3, y4] t) :=
 ⟨_, rfl, ((Below.refl _ _).alloc (Nat.le_refl _) _).alloc (by simp) _, by simp, heap_old _ _ (heap_new _ _ rfl), heap_new _ _ (by simp)⟩
set_option maxRecDepth 100000 in
set_option maxHeartbeats 4000000 in
theorem al_lines (x y : Lin) (la : Option Addr) (lc : Nat) (ca : Option Addr) (cc : Nat) (la2 : Option Addr) (lc2 : Nat) (ca2 : Option Addr) (cc2 : Nat) (Bb lv : Nat) (w : World) (S : Nat → Prop) (h1 : IntsR false w S (.slice la x.lists.length lc) x.lists) (h2 : IntsR false w S (.slice la2 y.lists.length lc2) y.lists) (hb : w.heap[Bb]? = some (.cells #[.int .i64 lv] 3)) (hn1 : x.lists.length ≤ 1000000) (hn2 : y.lists.length ≤ 1000000) :
  Calls Tryz.prog 88 #[.agg #[.int .i64 x.quote, .slice la x.lists.length lc, .int .i64 x.kind, .slice ca x.cells.length cc], .agg #[.int .i64 y.quote, .slice la2 y.lists.length lc2, .int .i64 y.kind, .slice ca2 y.cells.length cc2], .pointer (some ⟨Bb, 0, none⟩)] w fun e w' => e = .returned (.bool (stepR lv x y)) ∧ Below w.heap.size w w' := by
 obtain ⟨W1, hW1, hB, hz, hB0, hB1⟩ := two_rows4 w (.int .i64 x.quote) (.slice la x.lists.length lc) (.int .i64 x.kind) (.slice ca x.cells.length cc) (.int .i64 y.quote) (.slice la2 y.lists.length lc2) (.int .i64 y.kind) (.slice ca2 y.cells.length cc2) 37
 have CX : Hid (∀ W, Below W1.heap.size W1 W → Calls Tryz.prog 89 #[.agg #[.int .i64 x.quote, .slice la x.lists.length lc, .int .i64 x.kind, .slice ca x.cells.length cc], .int .i64 lv] W fun e w' => e = .returned (.int .i64 (stepL lv x)) ∧ Below W.heap.size W w') := Lib.hid fun W hW => renStep_any x _ ca _ cc lv W w S h1 (below_from hB hW) hn1
 have CY : Hid (∀ W, Below W1.heap.size W1 W → Calls Tryz.prog 89 #[.agg #[.int .i64 y.quote, .slice la2 y.lists.length lc2, .int .i64 y.kind, .slice ca2 y.cells.length cc2], .int .i64 lv] W fun e w' => e = .returned (.int .i64 (stepL lv y)) ∧ Below W.heap.size W w') := Lib.hid fun W hW => renStep_any y _ ca2 _ cc2 lv W w S h2 (below_from hB hW) hn2
 have HE : Hid (stepR lv x y = (decide (stepL lv x ≠ 0) && decide (stepL lv x = stepL lv y))) := Lib.hid rfl
 have H0 := Lib.hid hB0
 have H1 := Lib.hid hB1
 have HL := Lib.hid (heap_below hB hb)
 have HB := Lib.hid hB
 have hxd : Below W1.heap.size W1 W1.drew := (Below.refl _ _).drew
 obtain ⟨p0, f0⟩ := blk hB0
 obtain ⟨p1, f1⟩ := blk hB1
 obtain ⟨p2, f2⟩ := blk HL.out
 generalize stepR lv x y = r at *
 generalize stepL lv x = sx at *
 generalize stepL lv y = sy at *
 clear h1 h2 hb hz hB0 hB1 hB
 by_cases hs : sx = 0
 ·have hq : (sx != 0) = false := by simp [hs]
  have HS : Hid (r = false) := Lib.hid (by rw [HE.out]; simp [hs])
  have HA : Hid (∀ X, Below W1.heap.size W1 X → (fun w' : World => w'.cell? ⟨w.heap.size, 0, none⟩ = some (.int .i64 x.quote) ∧ w'.cell? ⟨w.heap.size, 1, none⟩ = some (.slice la x.lists.length lc) ∧ w'.cell? ⟨w.heap.size, 2, none⟩ = some (.int .i64 x.kind) ∧ w'.cell? ⟨w.heap.size, 3, none⟩ = some (.slice ca x.cells.length cc) ∧ w'.cell? ⟨Bb, 0, none⟩ = some (.int .i64 lv)) X) := Lib.hid fun X hX => by
   obtain ⟨q0, _⟩ := blk (heap_below hX H0.out)
   obtain ⟨q2, _⟩ := blk (heap_below hX HL.out)
   exact ⟨by rw [q0 0]; rfl, by rw [q0 1]; rfl, by rw [q0 2]; rfl, by rw [q0 3]; rfl, by rw [q2 0]; rfl⟩
  clear hs
  go_enter Tryz.func88, Tryz.ntmps88
  go_wp2_with fail
  refine wp_region_T (fun w' => w'.cell? ⟨w.heap.size, 0, none⟩ = some (.int .i64 x.quote) ∧ w'.cell? ⟨w.heap.size, 1, none⟩ = some (.slice la x.lists.length lc) ∧ w'.cell? ⟨w.heap.size, 2, none⟩ = some (.int .i64 x.kind) ∧ w'.cell? ⟨w.heap.size, 3, none⟩ = some (.slice ca x.cells.length cc) ∧ w'.cell? ⟨Bb, 0, none⟩ = some (.int .i64 lv)) (fun _ => True) 99 (by kernel_rfl) ?_
  refine anyT_takeA (i := 0) (v := ?_) (by simp only [qA, qZ]; rfl) (by kernel_rfl) (by kernel_rfl) (by kernel_rfl) (by kernel_rfl) (fun _ _ _ h => h) (Or.inl ⟨by rfl, ?_⟩) (HA.out _ hxd) (Or.inr trivial) ?_
  rotate_left 1
  ·intro w hSw; (try dsimp only at hSw); go_simp; (first | done | with_reducible rfl)
  try simp only [Act.put, qI, qX, qY]
  refine anyT_takeA (i := 1) (v := ?_) (by simp only [qA, qS, qZ]; rfl) (by kernel_rfl) (by kernel_rfl) (by kernel_rfl) (by kernel_rfl) (fun _ _ _ h => h) (Or.inl ⟨by rfl, ?_⟩) (HA.out _ hxd) (Or.inr trivial) ?_
  rotate_left 1
  ·intro w hSw; (try dsimp only at hSw); go_simp; (first | done | with_reducible rfl)
  try simp only [Act.put, qI, qX, qY]
  refine anyT_ready (rs := [2]) (by kernel_rfl) (by simp) ?_
  refine AllReadyT.cons (by simp only [qA, qS, qZ]; rfl) (fun K hK => ?_) AllReadyT.nil
  go_simp
  refine (CX.out _ hxd).mono ?_
  rintro e w5 ⟨rfl, hb5⟩
  have hx5 : Below W1.heap.size W1 w5 := below_from hxd hb5
  refine hK.out _ _ (HA.out _ hx5) (Or.inr trivial) ?_
  clear hK K
  try simp only [Act.put, qI, qX, qY]
  refine anyT_takeA (i := 3) (v := ?_) (by simp only [qA, qS, qZ]; rfl) (by kernel_rfl) (by kernel_rfl) (by kernel_rfl) (by kernel_rfl) (fun _ _ _ h => h) (Or.inl ⟨by rfl, ?_⟩) (HA.out _ hx5) (Or.inr trivial) ?_
  rotate_left 1
  ·intro w hSw; (try dsimp only at hSw); go_simp; (first | done | with_reducible rfl)
  try simp only [Act.put, qI, qX, qY]
  refine anyT_takeA (i := 4) (v := ?_) (by simp only [qA, qS, qZ]; rfl) (by kernel_rfl) (by kernel_rfl) (by kernel_rfl) (by kernel_rfl) (fun _ _ _ h => h) (Or.inl ⟨by rfl, ?_⟩) (HA.out _ hx5) (Or.inr trivial) ?_
  rotate_left 1
  ·intro w hSw; (try dsimp only at hSw); go_simp; (first | done | with_reducible rfl)
  try simp only [Act.put, qI, qX, qY]
  refine anyT_takeA (i := 5) (v := undef) (by simp only [qA, qS, qZ]; rfl) (by kernel_rfl) (by kernel_rfl) (by kernel_rfl) (by kernel_rfl) (fun _ _ _ h => h) (Or.inr ⟨by rfl, rfl⟩) (HA.out _ hx5) (Or.inr trivial) ?_
  try simp only [Act.put, qI, qX, qY]
  refine anyT_takeA (i := 6) (v := undef) (by simp only [qA, qS, qZ]; rfl) (by kernel_rfl) (by kernel_rfl) (by kernel_rfl) (by kernel_rfl) (fun _ _ _ h => h) (Or.inr ⟨by rfl, rfl⟩) (HA.out _ hx5) (Or.inr trivial) ?_
  try simp only [Act.put, qI, qX, qY]
  refine anyT_takeA (i := 7) (v := undef) (by simp only [qA, qS, qZ]; rfl) (by kernel_rfl) (by kernel_rfl) (by kernel_rfl) (by kernel_rfl) (fun _ _ _ h => h) (Or.inr ⟨by rfl, rfl⟩) (HA.out _ hx5) (Or.inr trivial) ?_
  try simp only [Act.put, qI, qX, qY]
  refine anyT_takeA (i := 8) (v := undef) (by simp only [qA, qS, qZ]; rfl) (by kernel_rfl) (by kernel_rfl) (by kernel_rfl) (by kernel_rfl) (fun _ _ _ h => h) (Or.inr ⟨by rfl, rfl⟩) (HA.out _ hx5) (Or.inr trivial) ?_
  try simp only [Act.put, qI, qX, qY]
  refine anyT_takeA (i := 9) (v := undef) (by simp only [qA, qS, qZ]; rfl) (by kernel_rfl) (by kernel_rfl) (by kernel_rfl) (by kernel_rfl) (fun _ _ _ h => h) (Or.inr ⟨by rfl, rfl⟩) (HA.out _ hx5) (Or.inr trivial) ?_
  try simp only [Act.put, qI, qX, qY]
  refine anyT_takeA (i := 10) (v := undef) (by simp only [qA, qS, qZ]; rfl) (by kernel_rfl) (by kernel_rfl) (by kernel_rfl) (by kernel_rfl) (fun _ _ _ h => h) (Or.inr ⟨by rfl, rfl⟩) (HA.out _ hx5) (Or.inr trivial) ?_
  try simp only [Act.put, qI, qX, qY]
  refine anyT_takeA (i := 11) (v := undef) (by simp only [qA, qS, qZ]; rfl) (by kernel_rfl) (by kernel_rfl) (by kernel_rfl) (by kernel_rfl) (fun _ _ _ h => h) (Or.inr ⟨by rfl, rfl⟩) (HA.out _ hx5) (Or.inr trivial) ?_
  try simp only [Act.put, qI, qX, qY]
  refine anyT_takeA (i := 12) (v := ?_) (by simp only [qA, qS, qZ]; rfl) (by kernel_rfl) (by kernel_rfl) (by kernel_rfl) (by kernel_rfl) (fun _ _ _ h => h) (Or.inl ⟨by rfl, ?_⟩) (HA.out _ hx5) (Or.inr trivial) ?_
  rotate_left 1
  ·intro w hSw; (try dsimp only at hSw); go_simp; (first | done | with_reducible rfl)
  try simp only [Act.put, qI, qX, qY]
  refine anyT_takeA (i := 13) (v := ?_) (by simp only [qA, qS, qZ]; rfl) (by kernel_rfl) (by kernel_rfl) (by kernel_rfl) (by kernel_rfl) (fun _ _ _ h => h) (Or.inl ⟨by rfl, ?_⟩) (HA.out _ hx5) (Or.inr trivial) ?_
  rotate_left 1
  ·intro w hSw; (try dsimp only at hSw); go_simp; (first | done | with_reducible rfl)
  try simp only [Act.put, qI, qX, qY]
  refine anyT_done (by kernel_rfl) ?_ _
  refine NoPanic.normal ?_
  go_wp2_with fail
  go_ret
  exact ⟨by simp [HS.out], below_from HB.out hx5⟩
 ·have hq : (sx != 0) = true := by simp [hs]
  have HS : Hid (r = (sx == sy)) := Lib.hid (by rw [HE.out, decide_eq_true (p := sx ≠ 0) hs]; by_cases e : sx = sy <;> simp [e])
  rw [show r = (sx == sy) from HS.out]
  clear hs
  go_enter Tryz.func88, Tryz.ntmps88
  go_wp2_with fail
  go_region_held3 (fun w' => w'.cell? ⟨w.heap.size, 0, none⟩ = some (.int .i64 x.quote) ∧ w'.cell? ⟨w.heap.size, 1, none⟩ = some (.slice la x.lists.length lc) ∧ w'.cell? ⟨w.heap.size, 2, none⟩ = some (.int .i64 x.kind) ∧ w'.cell? ⟨w.heap.size, 3, none⟩ = some (.slice ca x.cells.length cc) ∧ w'.cell? ⟨w.heap.size + 1, 0, none⟩ = some (.int .i64 y.quote) ∧ w'.cell? ⟨w.heap.size + 1, 1, none⟩ = some (.slice la2 y.lists.length lc2) ∧ w'.cell? ⟨w.heap.size + 1, 2, none⟩ = some (.int .i64 y.kind) ∧ w'.cell? ⟨w.heap.size + 1, 3, none⟩ = some (.slice ca2 y.cells.length cc2) ∧ w'.cell? ⟨Bb, 0, none⟩ = some (.int .i64 lv)) (go_keep)
   ((go_at_call 89; (first
    | ((with_reducible refine (CX.out _ (by assumption)).mono ?_); rintro e w5 ⟨rfl, hb5⟩; have hx5 : Below W1.heap.size W1 w5 := below_from (by assumption) hb5; obtain ⟨r0, s0⟩ := blk (heap_below hx5 H0.out); obtain ⟨r1, s1⟩ := blk (heap_below hx5 H1.out); obtain ⟨r2, s2⟩ := blk (heap_below hx5 HL.out))
    | ((with_reducible refine (CY.out _ (by assumption)).mono ?_); rintro e w7 ⟨rfl, hb7⟩; have hx7 : Below W1.heap.size W1 w7 := below_from (by assumption) hb7; obtain ⟨r0, s0⟩ := blk (heap_below hx7 H0.out); obtain ⟨r1, s1⟩ := blk (heap_below hx7 H1.out); obtain ⟨r2, s2⟩ := blk (heap_below hx7 HL.out)))))
  all_goals
   go_wp2_with fail
   go_ret
   exact ⟨by simp, below_from HB.out hx7⟩
end Go.Proofs.YtjpgffihafknlaaGreatDoor
