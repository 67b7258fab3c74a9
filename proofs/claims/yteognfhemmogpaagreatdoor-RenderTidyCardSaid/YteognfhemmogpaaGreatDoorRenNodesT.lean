/- The walks of render.parts over lines. -/
import Derived.Test.YteognfhemmogpaaGreatDoorCharsTextT
import Derived.Test.YteognfhemmogpaaGreatDoorRenLeafT
import Derived.Deep.RegionHeld3
import Derived.Test.YteognfhemmogpaaGreatDoorTagTabT
set_option linter.unusedVariables false
set_option linter.unusedSimpArgs false
namespace Go.Proofs.YteognfhemmogpaaGreatDoor
open Go.RowKit
open Go.Proofs.Qw
attribute [local go_sem] Oper.semAt_some
def partEncY {α : Type} {r : α → α → Bool} {d : List α} (va : Option Addr) (vc k : Nat) (x : PartY r d) : Array Value := #[partV va vc k x.1]
set_option maxHeartbeats 400000 in
theorem partsL_any (va : Option Addr) (vn vc g : Nat) (b : Array Value) (w : World) : Calls Tryz.prog 48 #[.slice va vn vc, .func (.func g) #[] b] w fun e w' => e = .returned (.func (.func 70) #[] #[.pointer (some ⟨w.heap.size, 0, none⟩), .pointer (some ⟨w.heap.size + 1, 0, none⟩)]) ∧ w' = (w.alloc (.cells #[.slice va vn vc] 22)).alloc (.cells #[.func (.func g) #[] b] 60) := by
 go_enter Tryz.func48, Tryz.ntmps48
 go_wp2
 go_ret
 exact ⟨by simp, rfl⟩
set_option maxRecDepth 200000 in
set_option maxHeartbeats 4000000 in
theorem parts1_lines (n l Bl Ba base top : Nat) (Bb : Nat) (va : Option Addr) (vc : Nat) (d : List Lin) (r : Lin → Lin → Bool) (S : Nat → Prop) (J Jx : List (PartY r d) → World → Prop) (w0 W : World) (hv : LinsR w0 S (.slice va d.length vc) d) (hb0 : Below w0.heap.size w0 W)
  (hal : ∀ X, Below w0.heap.size w0 X → ∀ (x y : Lin) (la : Option Addr) (lc : Nat) (ca : Option Addr) (cc : Nat) (la2 : Option Addr) (lc2 : Nat) (ca2 : Option Addr) (cc2 : Nat), IntsR false X S (.slice la x.lists.length lc) x.lists → IntsR false X S (.slice la2 y.lists.length lc2) y.lists → x ∈ d → y ∈ d → Calls Tryz.prog 46 #[.agg #[.int .i64 x.quote, .slice la x.lists.length lc, .int .i64 x.kind, .slice ca x.cells.length cc], .agg #[.int .i64 y.quote, .slice la2 y.lists.length lc2, .int .i64 y.kind, .slice ca2 y.cells.length cc2], .pointer (some ⟨Bb, 0, none⟩)] X fun e X' => e = .returned (.bool (r x y)) ∧ Below X.heap.size X X')
  (hbase : base ≤ Bl ∧ base ≤ Ba) (htop : Bl < top ∧ Ba < top) (hD : W.heap[Bl]? = some (.cells #[.slice va d.length vc] 22)) (hA : W.heap[Ba]? = some (.cells #[.func (.func 46) #[] #[.pointer (some ⟨Bb, 0, none⟩)]] 60))
  (hlen : d.length ≤ 100000) (hJ : AbidesFrom W.heap.size J)
  (hY : ∀ (pre : List (PartY r d)) (x : PartY r d) W, J pre W → pre.length < d.length → YieldAt Fence.wide (n - 1) Tryz.prog l (partEncY va vc 4 x) W fun e W' =>
   (e = .returned (.bool true) ∧ J (pre ++ [x]) W' ∧ Kb w0.heap.size base top W W') ∨ (e = .returned (.bool false) ∧ Jx (pre ++ [x]) W'))
  (h0 : J [] W) :
  CallsIn Fence.wide n Tryz.prog 70 #[.func (.yield l) #[] #[], .pointer (some ⟨Bl, 0, none⟩), .pointer (some ⟨Ba, 0, none⟩)] W fun e W' => (∃ v, e = .returned v) ∧
   ((∃ ys : List (PartY r d), ys.map (fun y => cutP d y.1) = partsBy r d ∧ J ys W') ∨ (∃ pre, True ∧ Jx pre W')) := by
 refine callsIn_of_wp Tryz.func70 rfl trivial ?_ rfl
 simp only [Tryz.ntmps70, List.size_toArray, List.length_cons, List.length_nil, Nat.reduceAdd, Nat.reduceSub, Array.replicate_succ, Array.replicate_zero, List.push_toArray, List.append_toArray, List.nil_append, List.cons_append]
 have hwf : ∀ f, Fence.wide.fn f := fun _ => trivial
 have hwd : Fence.wide.depth = none := rfl
 obtain ⟨va', vc', hve, hvc, hvm, hx⟩ := lins_shape hv
 cases hve
 have HX := Lib.hid hx
 have HY := Lib.hid hY
 have HAL := Lib.hid hal
 have HJA := Lib.hid hJ
 have HBK := Lib.hid (And.intro hD hA)
 unfold maxLen at hvm
 clear hx hv hY hal hJ hD hA
 refine wpIn_wide.2 ?_
 go_wp2_with fail
 go_loopw [4, 5] (fun f _ wr => ∃ (i : Nat) (pre : List (PartY r d)), i ≤ d.length ∧ pre.length ≤ i ∧ f = .int .i64 i ∧ Hid ((pre.map (·.1)).map (cutP d) ++ partsBy r (d.drop i) = partsBy r d) ∧ J pre wr ∧ Below w0.heap.size w0 wr ∧ Hid (wr.heap[Bl]? = some (.cells #[.slice va d.length vc] 22) ∧ wr.heap[Ba]? = some (.cells #[.func (.func 46) #[] #[.pointer (some ⟨Bb, 0, none⟩)]] 60)) ∧ W.heap.size ≤ wr.heap.size)
  (fun f _ _ => d.length - (intOf f).toNat)
 case atStart => exact ⟨0, [], Nat.zero_le _, Nat.le_refl _, rfl, Lib.hid rfl, h0, hb0, HBK, Nat.le_refl _⟩
 case round =>
  obtain ⟨i, pre, hi, hpl, rfl, HP, hJs, hb1, HBL, hz1⟩ := hrel
  obtain ⟨p1, f1⟩ := blk HBL.out.1
  obtain ⟨p2, f2⟩ := blk HBL.out.2
  by_cases hlt : i < d.length
  ·obtain ⟨a, ha, hda⟩ := getOf d i hlt
   obtain ⟨bb, oo, la, lc, ca, cc, eva, hAt⟩ := HX.out i a ha
   subst eva
   have HAT := Lib.hid hAt
   have HAM := Lib.hid (List.mem_of_getElem? ha)
   have HDA := Lib.hid hda
   have HJS := Lib.hid hJs
   clear ha hda hAt hJs
   go_wp2_with fail
   go_loopw [5] (fun t wq => ∃ j : Nat, i + 1 ≤ j ∧ j ≤ d.length ∧ t = .int .i64 j ∧ Hid (runTo r a d j = runTo r a d (i + 1)) ∧ Hid (Below wr.heap.size wr wq)) (fun t _ => d.length - (intOf t).toNat)
   case atStart => exact ⟨i + 1, Nat.le_refl _, hlt, by go_num, Lib.hid rfl, Lib.hid (Below.refl _ _)⟩
   case round =>
    obtain ⟨j, hj1, hj2, rfl, HE, HB⟩ := hrel
    have HW0 := Lib.hid (below_from hb1 HB.out)
    obtain ⟨q1, g1⟩ := blk (heap_below HB.out HBL.out.1)
    obtain ⟨q2, g2⟩ := blk (heap_below HB.out HBL.out.2)
    obtain ⟨_, c0, c1, c2, c3, _, _⟩ := HAT.out.below HW0.out
    have hwr : Below wr.heap.size wr wr.drew := (Below.refl _ _).drew
    have i0 : (0 : Int) ≤ (i : Int) := Int.natCast_nonneg _
    have i1 : (i : Int) < (d.length : Int) := by omega
    have hne : ¬ vc = i := by omega
    clear p1 f1 p2 f2
    by_cases hlt2 : j < d.length
    ·obtain ⟨y, hy, hdy⟩ := getOf d j hlt2
     obtain ⟨b2, o2, la2, lc2, ca2, cc2, e2, hAt2⟩ := HX.out j y hy
     cases e2
     have HAT2 := Lib.hid hAt2
     have HAM2 := Lib.hid (List.mem_of_getElem? hy)
     obtain ⟨_, k0, k1, k2, k3, _, _⟩ := HAT2.out.below HW0.out
     have j0 : (0 : Int) ≤ (j : Int) := Int.natCast_nonneg _
     have j1 : (j : Int) < (d.length : Int) := by omega
     have hdj : decide ((j : Int) < (d.length : Int)) = true := by simp; omega
     have HCA : Hid (∀ X, Below wr.heap.size wr X → Calls Tryz.prog 46 #[.agg #[.int .i64 a.quote, .slice la a.lists.length lc, .int .i64 a.kind, .slice ca a.cells.length cc], .agg #[.int .i64 y.quote, .slice la2 y.lists.length lc2, .int .i64 y.kind, .slice ca2 y.cells.length cc2], .pointer (some ⟨Bb, 0, none⟩)] X fun e X' => e = .returned (.bool (r a y)) ∧ Below X.heap.size X X') := Lib.hid fun X hX => HAL.out X (below_from HW0.out hX) a y la lc ca cc la2 lc2 ca2 cc2 (HAT.out.below (below_from HW0.out hX)).listsR (HAT2.out.below (below_from HW0.out hX)).listsR HAM.out HAM2.out
     have HDY := Lib.hid hdy
     clear hy hdy hAt2
     cases hr : r a y
     all_goals
      rw [hr] at HCA
      have HRR := Lib.hid hr
      clear hr
      go_wp2_with fail
      (go_region_held3 (fun w' => w'.cell? ⟨Bl, 0, none⟩ = some (.slice (some ⟨bb, oo, none⟩) d.length vc) ∧ w'.cell? ⟨Ba, 0, none⟩ = some (.func (.func 46) #[] #[.pointer (some ⟨Bb, 0, none⟩)]) ∧ w'.cell? ⟨bb, oo + i * 4, none⟩ = some (.int .i64 a.quote) ∧ w'.cell? ⟨bb, oo + i * 4 + 1, none⟩ = some (.slice la a.lists.length lc) ∧ w'.cell? ⟨bb, oo + i * 4 + 2, none⟩ = some (.int .i64 a.kind) ∧ w'.cell? ⟨bb, oo + i * 4 + 3, none⟩ = some (.slice ca a.cells.length cc) ∧ w'.cell? ⟨bb, oo + j * 4, none⟩ = some (.int .i64 y.quote) ∧ w'.cell? ⟨bb, oo + j * 4 + 1, none⟩ = some (.slice la2 y.lists.length lc2) ∧ w'.cell? ⟨bb, oo + j * 4 + 2, none⟩ = some (.int .i64 y.kind) ∧ w'.cell? ⟨bb, oo + j * 4 + 3, none⟩ = some (.slice ca2 y.cells.length cc2)) ((first | go_keep | skip)) ((go_at_call 46; (with_reducible refine (HCA.out _ (by assumption)).mono ?_); rintro e w5 ⟨rfl, hb5⟩; have hx5 : Below wr.heap.size wr w5 := below_from (by assumption) hb5; obtain ⟨r1, s1⟩ := blk (heap_below hx5 (heap_below HB.out HBL.out.1)); obtain ⟨r2, s2⟩ := blk (heap_below hx5 (heap_below HB.out HBL.out.2)); have HW5 := below_from HW0.out hx5; obtain ⟨_, m0, m1, m2, m3, _, _⟩ := HAT.out.below HW5; obtain ⟨_, n0, n1, n2, n3, _, _⟩ := HAT2.out.below HW5)))
     ·have HE2 : Hid (runTo r a d (i + 1) = j) := Lib.hid (HE.out.symm.trans (runTo_no HDY.out HRR.out))
      have HCR := Lib.hid (cut_run HDA.out HE2.out)
      have HBx := below_from HB.out hx5
      have hYY := HY.out pre ⟨(i, j), ⟨⟨by omega, hj2⟩, HCR.out⟩⟩ w5 (abides_below HJA.out HJS.out HBx) (by omega)
      have hrow : partEncY (some ⟨bb, oo, none⟩) vc 4 (⟨(i, j), ⟨⟨by omega, hj2⟩, HCR.out⟩⟩ : PartY r d) = #[.slice (some ⟨bb, oo + i * 4, none⟩) (j - i) (vc - i)] := by
       unfold partEncY partV sliced
       simp only
       rw [if_neg (by omega)]
       simp only [Option.map_some, WideShapes.add_plain]
      rw [hrow] at hYY
      have HNX : Hid (∀ w7, J (pre ++ [⟨(i, j), ⟨⟨by omega, hj2⟩, HCR.out⟩⟩]) w7 → Kb w0.heap.size base top w5 w7 → ∃ (i' : Nat) (pre' : List (PartY r d)), i' ≤ d.length ∧ pre'.length ≤ i' ∧ i' = j ∧ Hid ((pre'.map (·.1)).map (cutP d) ++ partsBy r (d.drop i') = partsBy r d) ∧ J pre' w7 ∧ Below w0.heap.size w0 w7 ∧ Hid (w7.heap[Bl]? = some (.cells #[.slice (some ⟨bb, oo, none⟩) d.length vc] 22) ∧ w7.heap[Ba]? = some (.cells #[.func (.func 46) #[] #[.pointer (some ⟨Bb, 0, none⟩)]] 60)) ∧ W.heap.size ≤ w7.heap.size) := Lib.hid fun w7 hJ7 hk7 => by
       refine ⟨j, _, hj2, by simp; omega, rfl, Lib.hid ?_, hJ7, (below_from hb1 HBx).trans hk7.below, Lib.hid ⟨hk7.cells _ _ hbase.1 htop.1 (heap_below HBx HBL.out.1) rfl, hk7.cells _ _ hbase.2 htop.2 (heap_below HBx HBL.out.2) rfl⟩, Nat.le_trans hz1 (Nat.le_trans HBx.size hk7.below.size)⟩
       have := parts_snoc2 HP.out HDA.out
       rw [HE2.out] at this
       rw [List.map_append]
       exact this
      obtain ⟨fn, tmps, assign, body, hy, hR⟩ := hYY
      go_upto_region 5 with fail
      refine (wpIn_wide (n := n)).1 ?_
      gi_wp2_with fail
      refine hR.mono ?_
      rintro e w7 (⟨rfl, hJ7, hk7⟩ | ⟨rfl, hJx7⟩)
      ·obtain ⟨i', pre', u1, u2, u3, u4, u5, u6, u7, u8⟩ := HNX.out w7 hJ7 hk7
       gi_wp2_with fail
       go_wp2_with fail
       go_roundw
       case rel => exact ⟨i', pre', u1, u2, by rw [u3], u4, u5, u6, u7, u8⟩
       case measure => simp [intOf]; omega
      ·gi_wp2_with fail
       go_wp2_with fail
       refine bodyPost_ret (results_none rfl _ _ _) rfl ?_
       exact ⟨⟨_, rfl⟩, .inr ⟨_, trivial, hJx7⟩⟩
     ·go_wp2_with fail
      go_roundw
      case rel => exact ⟨j + 1, by omega, hlt2, by go_num, Lib.hid ((runTo_yes HDY.out HRR.out).symm.trans HE.out), Lib.hid (below_from HB.out hx5)⟩
      case measure => simp [intOf]; omega
    ·have hjd : j = d.length := by omega
     have HE2 : Hid (runTo r a d (i + 1) = j) := Lib.hid (by rw [← HE.out, hjd]; exact runTo_end)
     have hdj : decide ((j : Int) < (d.length : Int)) = false := by simp; omega
     clear hjd
     go_wp2_with fail
     go_region
     have HCR := Lib.hid (cut_run HDA.out HE2.out)
     have HBx := below_from HB.out hwr
     have hYY := HY.out pre ⟨(i, j), ⟨⟨by omega, hj2⟩, HCR.out⟩⟩ wr.drew (abides_below HJA.out HJS.out HBx) (by omega)
     have hrow : partEncY (some ⟨bb, oo, none⟩) vc 4 (⟨(i, j), ⟨⟨by omega, hj2⟩, HCR.out⟩⟩ : PartY r d) = #[.slice (some ⟨bb, oo + i * 4, none⟩) (j - i) (vc - i)] := by
      unfold partEncY partV sliced
      simp only
      rw [if_neg (by omega)]
      simp only [Option.map_some, WideShapes.add_plain]
     rw [hrow] at hYY
     have HNX : Hid (∀ w7, J (pre ++ [⟨(i, j), ⟨⟨by omega, hj2⟩, HCR.out⟩⟩]) w7 → Kb w0.heap.size base top wr.drew w7 → ∃ (i' : Nat) (pre' : List (PartY r d)), i' ≤ d.length ∧ pre'.length ≤ i' ∧ i' = j ∧ Hid ((pre'.map (·.1)).map (cutP d) ++ partsBy r (d.drop i') = partsBy r d) ∧ J pre' w7 ∧ Below w0.heap.size w0 w7 ∧ Hid (w7.heap[Bl]? = some (.cells #[.slice (some ⟨bb, oo, none⟩) d.length vc] 22) ∧ w7.heap[Ba]? = some (.cells #[.func (.func 46) #[] #[.pointer (some ⟨Bb, 0, none⟩)]] 60)) ∧ W.heap.size ≤ w7.heap.size) := Lib.hid fun w7 hJ7 hk7 => by
      refine ⟨j, _, hj2, by simp; omega, rfl, Lib.hid ?_, hJ7, (below_from hb1 HBx).trans hk7.below, Lib.hid ⟨hk7.cells _ _ hbase.1 htop.1 (heap_below HBx HBL.out.1) rfl, hk7.cells _ _ hbase.2 htop.2 (heap_below HBx HBL.out.2) rfl⟩, Nat.le_trans hz1 (Nat.le_trans HBx.size hk7.below.size)⟩
      have := parts_snoc2 HP.out HDA.out
      rw [HE2.out] at this
      rw [List.map_append]
      exact this
     obtain ⟨fn, tmps, assign, body, hy, hR⟩ := hYY
     go_upto_region 5 with fail
     refine (wpIn_wide (n := n)).1 ?_
     gi_wp2_with fail
     refine hR.mono ?_
     rintro e w7 (⟨rfl, hJ7, hk7⟩ | ⟨rfl, hJx7⟩)
     ·obtain ⟨i', pre', u1, u2, u3, u4, u5, u6, u7, u8⟩ := HNX.out w7 hJ7 hk7
      gi_wp2_with fail
      go_wp2_with fail
      go_roundw
      case rel => exact ⟨i', pre', u1, u2, by rw [u3], u4, u5, u6, u7, u8⟩
      case measure => simp [intOf]; omega
     ·gi_wp2_with fail
      go_wp2_with fail
      refine bodyPost_ret (results_none rfl _ _ _) rfl ?_
      exact ⟨⟨_, rfl⟩, .inr ⟨_, trivial, hJx7⟩⟩
  ·obtain rfl : i = d.length := by omega
   have HAll := Lib.hid (parts_all (r := r) HP.out)
   go_wp2_with fail
   go_end0
   exact ⟨⟨_, rfl⟩, .inl ⟨pre, by have h := HAll.out; rw [List.map_map] at h; exact h, hJs⟩⟩
end Go.Proofs.YteognfhemmogpaaGreatDoor
namespace Go.Proofs.YteognfhemmogpaaGreatDoor
open Go.RowKit
open Go.Proofs.Qw
attribute [local go_sem ↓] Go.wp_at_zero Go.wp_at_succ
set_option maxRecDepth 100000 in
set_option maxHeartbeats 2000000 in
theorem renStep_any (l : Lin) (a : Value) (ca : Option Addr) (cn cc lv : Nat) (w w0 : World) (S : Nat → Prop) (ha : IntsR false w0 S a l.lists) (h0 : Below w0.heap.size w0 w) (hn : l.lists.length ≤ 1000000) :
  Calls Tryz.prog 47 #[linV l a (.slice ca cn cc), .int .i64 lv] w fun e w' => e = .returned (.int .i64 (stepL lv l)) ∧ Below w.heap.size w w' := by
 have HC : Hid (∀ X, Below w.heap.size w X → Calls Tryz.prog 10 #[linV l a (.slice ca cn cc)] X fun e w' => ∃ oa oc, e = .returned (.slice oa (wayL l).length oc) ∧ IntsR true w' (fun b => X.heap.size ≤ b) (.slice oa (wayL l).length oc) (wayL l) ∧ Below X.heap.size X w') := Lib.hid fun X hX => (way_any l a ca cn cc X w0 S ha (below_from h0 hX) hn).mono fun _ _ ⟨v', h1, h2, h3⟩ => by
  obtain ⟨oa, oc, rfl⟩ := h2.slice
  exact ⟨oa, oc, h1, h2, h3⟩
 obtain ⟨la, lc, rfl⟩ := ha.slice
 obtain ⟨W1, hW1⟩ : ∃ W1, w.alloc (.cells #[.int .i64 l.quote, .slice la l.lists.length lc, .int .i64 l.kind, .slice ca cn cc] 31) = W1 := ⟨_, rfl⟩
 have hb1 : Below w.heap.size w W1 := hW1 ▸ (Below.refl _ _).alloc (Nat.le_refl _) _
 have hB1 : W1.heap[w.heap.size]? = some (.cells #[.int .i64 l.quote, .slice la l.lists.length lc, .int .i64 l.kind, .slice ca cn cc] 31) := hW1 ▸ heap_new _ _ rfl
 obtain ⟨p1, f1⟩ := blk hB1
 have HB1 := Lib.hid hb1
 have HE : Hid (stepL lv l = (wayL l).getD lv 0) := Lib.hid rfl
 have hwl := way_most l
 generalize stepL lv l = z at *
 generalize wayL l = ws at *
 clear ha h0 hB1 hb1
 unfold linV at *
 by_cases hlt : lv < ws.length
 ·have hd : decide ((lv : Int) < (ws.length : Int)) = true := by simp; omega
  have i0 : (0 : Int) ≤ (lv : Int) := Int.natCast_nonneg _
  have i1 : (lv : Int) < (ws.length : Int) := by omega
  have HLT := Lib.hid hlt
  clear hlt
  go_enter Tryz.func47, Tryz.ntmps47
  go_wp2_with (go_at_call 10; refine (HC.out _ HB1.out).mono ?_; rintro e w2 ⟨oa, oc, rfl, hv2, hb2⟩; obtain ⟨a', c', e', _, _, hx⟩ := ints_shape (hv2.read (fun _ _ g => g)); cases e'; obtain ⟨y, hy, _⟩ := getOf ws lv HLT.out; obtain ⟨b, o, rfl, hz, c0⟩ := hx lv y hy; have HY := Lib.hid hy; clear hy hx hv2)
  go_ret
  exact ⟨by rw [HE.out, List.getD_eq_getElem?_getD, HY.out]; rfl, below_from HB1.out hb2⟩
 ·have hd : decide ((lv : Int) < (ws.length : Int)) = false := by simp; omega
  have HLT := Lib.hid hlt
  clear hlt
  go_enter Tryz.func47, Tryz.ntmps47
  go_wp2_with (go_at_call 10; refine (HC.out _ HB1.out).mono ?_; rintro e w2 ⟨oa, oc, rfl, hv2, hb2⟩; clear hv2)
  go_ret
  exact ⟨by rw [HE.out, List.getD_eq_getElem?_getD, List.getElem?_eq_none (by have := HLT.out; omega)]; rfl, below_from HB1.out hb2⟩
end Go.Proofs.YteognfhemmogpaaGreatDoor
namespace Go.Proofs.YteognfhemmogpaaGreatDoor
open Go.RowKit
open Go.Proofs.Qw
attribute [local go_sem ↓] Go.wp_at_zero Go.wp_at_succ
theorem two_rows4 (w : World) (x1 x2 x3 x4 y1 y2 y3 y4 : Value) (t : TypeId) : ∃ W1, (w.alloc (.cells #[x1, x2, x3, x4] t)).alloc (.cells #[y1, y2, y3, y4] t) = W1 ∧ Below w.heap.size w W1 ∧ w.heap.size + 2 = W1.heap.size ∧ W1.heap[w.heap.size]? = some (.cells #[x1, x2, x3, x4] t) ∧ W1.heap[w.heap.size + 1]? = some (.cells #[y1, y2, y3, y4] t) :=
 ⟨_, rfl, ((Below.refl _ _).alloc (Nat.le_refl _) _).alloc (by simp) _, by simp, heap_old _ _ (heap_new _ _ rfl), heap_new _ _ (by simp)⟩
set_option maxRecDepth 100000 in
set_option maxHeartbeats 4000000 in
theorem al_lines (x y : Lin) (la : Option Addr) (lc : Nat) (ca : Option Addr) (cc : Nat) (la2 : Option Addr) (lc2 : Nat) (ca2 : Option Addr) (cc2 : Nat) (Bb lv : Nat) (w : World) (S : Nat → Prop) (h1 : IntsR false w S (.slice la x.lists.length lc) x.lists) (h2 : IntsR false w S (.slice la2 y.lists.length lc2) y.lists) (hb : w.heap[Bb]? = some (.cells #[.int .i64 lv] 3)) (hn1 : x.lists.length ≤ 1000000) (hn2 : y.lists.length ≤ 1000000) :
  Calls Tryz.prog 46 #[.agg #[.int .i64 x.quote, .slice la x.lists.length lc, .int .i64 x.kind, .slice ca x.cells.length cc], .agg #[.int .i64 y.quote, .slice la2 y.lists.length lc2, .int .i64 y.kind, .slice ca2 y.cells.length cc2], .pointer (some ⟨Bb, 0, none⟩)] w fun e w' => e = .returned (.bool (stepR lv x y)) ∧ Below w.heap.size w w' := by
 obtain ⟨W1, hW1, hB, hz, hB0, hB1⟩ := two_rows4 w (.int .i64 x.quote) (.slice la x.lists.length lc) (.int .i64 x.kind) (.slice ca x.cells.length cc) (.int .i64 y.quote) (.slice la2 y.lists.length lc2) (.int .i64 y.kind) (.slice ca2 y.cells.length cc2) 31
 have CX : Hid (∀ W, Below W1.heap.size W1 W → Calls Tryz.prog 47 #[.agg #[.int .i64 x.quote, .slice la x.lists.length lc, .int .i64 x.kind, .slice ca x.cells.length cc], .int .i64 lv] W fun e w' => e = .returned (.int .i64 (stepL lv x)) ∧ Below W.heap.size W w') := Lib.hid fun W hW => renStep_any x _ ca _ cc lv W w S h1 (below_from hB hW) hn1
 have CY : Hid (∀ W, Below W1.heap.size W1 W → Calls Tryz.prog 47 #[.agg #[.int .i64 y.quote, .slice la2 y.lists.length lc2, .int .i64 y.kind, .slice ca2 y.cells.length cc2], .int .i64 lv] W fun e w' => e = .returned (.int .i64 (stepL lv y)) ∧ Below W.heap.size W w') := Lib.hid fun W hW => renStep_any y _ ca2 _ cc2 lv W w S h2 (below_from hB hW) hn2
 have HE : Hid (stepR lv x y = (decide (stepL lv x ≠ 0) && decide (stepL lv x = stepL lv y))) := Lib.hid rfl
 have H0 := Lib.hid hB0
 have H1 := Lib.hid hB1
 have HL := Lib.hid (heap_below hB hb)
 have HB := Lib.hid hB
 have hxd : Below W1.heap.size W1 W1.drew := (Below.refl _ _).drew
 obtain ⟨p0, f0⟩ := blk hB0
 obtain ⟨p1, f1⟩ := blk hB1
 obtain ⟨p2, f2⟩ := blk HL.out
 generalize stepR lv x y = r at *
 generalize stepL lv x = sx at *
 generalize stepL lv y = sy at *
 clear h1 h2 hb hz hB0 hB1 hB
 by_cases hs : sx = 0
 ·have hq : (sx != 0) = false := by simp [hs]
  have HS : Hid (r = false) := Lib.hid (by rw [HE.out]; simp [hs])
  have HA : Hid (∀ X, Below W1.heap.size W1 X → (fun w' : World => w'.cell? ⟨w.heap.size, 0, none⟩ = some (.int .i64 x.quote) ∧ w'.cell? ⟨w.heap.size, 1, none⟩ = some (.slice la x.lists.length lc) ∧ w'.cell? ⟨w.heap.size, 2, none⟩ = some (.int .i64 x.kind) ∧ w'.cell? ⟨w.heap.size, 3, none⟩ = some (.slice ca x.cells.length cc) ∧ w'.cell? ⟨Bb, 0, none⟩ = some (.int .i64 lv)) X) := Lib.hid fun X hX => by
   obtain ⟨q0, _⟩ := blk (heap_below hX H0.out)
   obtain ⟨q2, _⟩ := blk (heap_below hX HL.out)
   exact ⟨by rw [q0 0]; rfl, by rw [q0 1]; rfl, by rw [q0 2]; rfl, by rw [q0 3]; rfl, by rw [q2 0]; rfl⟩
  clear hs
  go_enter Tryz.func46, Tryz.ntmps46
  go_wp2_with fail
  refine wp_region_T (fun w' => w'.cell? ⟨w.heap.size, 0, none⟩ = some (.int .i64 x.quote) ∧ w'.cell? ⟨w.heap.size, 1, none⟩ = some (.slice la x.lists.length lc) ∧ w'.cell? ⟨w.heap.size, 2, none⟩ = some (.int .i64 x.kind) ∧ w'.cell? ⟨w.heap.size, 3, none⟩ = some (.slice ca x.cells.length cc) ∧ w'.cell? ⟨Bb, 0, none⟩ = some (.int .i64 lv)) (fun _ => True) 99 (by kernel_rfl) ?_
  refine anyT_takeA (i := 0) (v := ?_) (by simp only [qA, qZ]; rfl) (by kernel_rfl) (by kernel_rfl) (by kernel_rfl) (by kernel_rfl) (fun _ _ _ h => h) (Or.inl ⟨by rfl, ?_⟩) (HA.out _ hxd) (Or.inr trivial) ?_
  rotate_left 1
  ·intro w hSw; (try dsimp only at hSw); go_simp; (first | done | with_reducible rfl)
  try simp only [Act.put, qI, qX, qY]
  refine anyT_takeA (i := 1) (v := ?_) (by simp only [qA, qS, qZ]; rfl) (by kernel_rfl) (by kernel_rfl) (by kernel_rfl) (by kernel_rfl) (fun _ _ _ h => h) (Or.inl ⟨by rfl, ?_⟩) (HA.out _ hxd) (Or.inr trivial) ?_
  rotate_left 1
  ·intro w hSw; (try dsimp only at hSw); go_simp; (first | done | with_reducible rfl)
  try simp only [Act.put, qI, qX, qY]
  refine anyT_ready (rs := [2]) (by kernel_rfl) (by simp) ?_
  refine AllReadyT.cons (by simp only [qA, qS, qZ]; rfl) (fun K hK => ?_) AllReadyT.nil
  go_simp
  refine (CX.out _ hxd).mono ?_
  rintro e w5 ⟨rfl, hb5⟩
  have hx5 : Below W1.heap.size W1 w5 := below_from hxd hb5
  refine hK.out _ _ (HA.out _ hx5) (Or.inr trivial) ?_
  clear hK K
  try simp only [Act.put, qI, qX, qY]
  refine anyT_takeA (i := 3) (v := ?_) (by simp only [qA, qS, qZ]; rfl) (by kernel_rfl) (by kernel_rfl) (by kernel_rfl) (by kernel_rfl) (fun _ _ _ h => h) (Or.inl ⟨by rfl, ?_⟩) (HA.out _ hx5) (Or.inr trivial) ?_
  rotate_left 1
  ·intro w hSw; (try dsimp only at hSw); go_simp; (first | done | with_reducible rfl)
  try simp only [Act.put, qI, qX, qY]
  refine anyT_takeA (i := 4) (v := ?_) (by simp only [qA, qS, qZ]; rfl) (by kernel_rfl) (by kernel_rfl) (by kernel_rfl) (by kernel_rfl) (fun _ _ _ h => h) (Or.inl ⟨by rfl, ?_⟩) (HA.out _ hx5) (Or.inr trivial) ?_
  rotate_left 1
  ·intro w hSw; (try dsimp only at hSw); go_simp; (first | done | with_reducible rfl)
  try simp only [Act.put, qI, qX, qY]
  refine anyT_takeA (i := 5) (v := undef) (by simp only [qA, qS, qZ]; rfl) (by kernel_rfl) (by kernel_rfl) (by kernel_rfl) (by kernel_rfl) (fun _ _ _ h => h) (Or.inr ⟨by rfl, rfl⟩) (HA.out _ hx5) (Or.inr trivial) ?_
  try simp only [Act.put, qI, qX, qY]
  refine anyT_takeA (i := 6) (v := undef) (by simp only [qA, qS, qZ]; rfl) (by kernel_rfl) (by kernel_rfl) (by kernel_rfl) (by kernel_rfl) (fun _ _ _ h => h) (Or.inr ⟨by rfl, rfl⟩) (HA.out _ hx5) (Or.inr trivial) ?_
  try simp only [Act.put, qI, qX, qY]
  refine anyT_takeA (i := 7) (v := undef) (by simp only [qA, qS, qZ]; rfl) (by kernel_rfl) (by kernel_rfl) (by kernel_rfl) (by kernel_rfl) (fun _ _ _ h => h) (Or.inr ⟨by rfl, rfl⟩) (HA.out _ hx5) (Or.inr trivial) ?_
  try simp only [Act.put, qI, qX, qY]
  refine anyT_takeA (i := 8) (v := undef) (by simp only [qA, qS, qZ]; rfl) (by kernel_rfl) (by kernel_rfl) (by kernel_rfl) (by kernel_rfl) (fun _ _ _ h => h) (Or.inr ⟨by rfl, rfl⟩) (HA.out _ hx5) (Or.inr trivial) ?_
  try simp only [Act.put, qI, qX, qY]
  refine anyT_takeA (i := 9) (v := undef) (by simp only [qA, qS, qZ]; rfl) (by kernel_rfl) (by kernel_rfl) (by kernel_rfl) (by kernel_rfl) (fun _ _ _ h => h) (Or.inr ⟨by rfl, rfl⟩) (HA.out _ hx5) (Or.inr trivial) ?_
  try simp only [Act.put, qI, qX, qY]
  refine anyT_takeA (i := 10) (v := undef) (by simp only [qA, qS, qZ]; rfl) (by kernel_rfl) (by kernel_rfl) (by kernel_rfl) (by kernel_rfl) (fun _ _ _ h => h) (Or.inr ⟨by rfl, rfl⟩) (HA.out _ hx5) (Or.inr trivial) ?_
  try simp only [Act.put, qI, qX, qY]
  refine anyT_takeA (i := 11) (v := undef) (by simp only [qA, qS, qZ]; rfl) (by kernel_rfl) (by kernel_rfl) (by kernel_rfl) (by kernel_rfl) (fun _ _ _ h => h) (Or.inr ⟨by rfl, rfl⟩) (HA.out _ hx5) (Or.inr trivial) ?_
  try simp only [Act.put, qI, qX, qY]
  refine anyT_takeA (i := 12) (v := ?_) (by simp only [qA, qS, qZ]; rfl) (by kernel_rfl) (by kernel_rfl) (by kernel_rfl) (by kernel_rfl) (fun _ _ _ h => h) (Or.inl ⟨by rfl, ?_⟩) (HA.out _ hx5) (Or.inr trivial) ?_
  rotate_left 1
  ·intro w hSw; (try dsimp only at hSw); go_simp; (first | done | with_reducible rfl)
  try simp only [Act.put, qI, qX, qY]
  refine anyT_takeA (i := 13) (v := ?_) (by simp only [qA, qS, qZ]; rfl) (by kernel_rfl) (by kernel_rfl) (by kernel_rfl) (by kernel_rfl) (fun _ _ _ h => h) (Or.inl ⟨by rfl, ?_⟩) (HA.out _ hx5) (Or.inr trivial) ?_
  rotate_left 1
  ·intro w hSw; (try dsimp only at hSw); go_simp; (first | done | with_reducible rfl)
  try simp only [Act.put, qI, qX, qY]
  refine anyT_done (by kernel_rfl) ?_ _
  refine NoPanic.normal ?_
  go_wp2_with fail
  go_ret
  exact ⟨by simp [HS.out], below_from HB.out hx5⟩
 ·have hq : (sx != 0) = true := by simp [hs]
  have HS : Hid (r = (sx == sy)) := Lib.hid (by rw [HE.out, decide_eq_true (p := sx ≠ 0) hs]; by_cases e : sx = sy <;> simp [e])
  rw [show r = (sx == sy) from HS.out]
  clear hs
  go_enter Tryz.func46, Tryz.ntmps46
  go_wp2_with fail
  go_region_held3 (fun w' => w'.cell? ⟨w.heap.size, 0, none⟩ = some (.int .i64 x.quote) ∧ w'.cell? ⟨w.heap.size, 1, none⟩ = some (.slice la x.lists.length lc) ∧ w'.cell? ⟨w.heap.size, 2, none⟩ = some (.int .i64 x.kind) ∧ w'.cell? ⟨w.heap.size, 3, none⟩ = some (.slice ca x.cells.length cc) ∧ w'.cell? ⟨w.heap.size + 1, 0, none⟩ = some (.int .i64 y.quote) ∧ w'.cell? ⟨w.heap.size + 1, 1, none⟩ = some (.slice la2 y.lists.length lc2) ∧ w'.cell? ⟨w.heap.size + 1, 2, none⟩ = some (.int .i64 y.kind) ∧ w'.cell? ⟨w.heap.size + 1, 3, none⟩ = some (.slice ca2 y.cells.length cc2) ∧ w'.cell? ⟨Bb, 0, none⟩ = some (.int .i64 lv)) (go_keep)
   ((go_at_call 47; (first
    | ((with_reducible refine (CX.out _ (by assumption)).mono ?_); rintro e w5 ⟨rfl, hb5⟩; have hx5 : Below W1.heap.size W1 w5 := below_from (by assumption) hb5; obtain ⟨r0, s0⟩ := blk (heap_below hx5 H0.out); obtain ⟨r1, s1⟩ := blk (heap_below hx5 H1.out); obtain ⟨r2, s2⟩ := blk (heap_below hx5 HL.out))
    | ((with_reducible refine (CY.out _ (by assumption)).mono ?_); rintro e w7 ⟨rfl, hb7⟩; have hx7 : Below W1.heap.size W1 w7 := below_from (by assumption) hb7; obtain ⟨r0, s0⟩ := blk (heap_below hx7 H0.out); obtain ⟨r1, s1⟩ := blk (heap_below hx7 H1.out); obtain ⟨r2, s2⟩ := blk (heap_below hx7 HL.out)))))
  all_goals
   go_wp2_with fail
   go_ret
   exact ⟨by simp, below_from HB.out hx7⟩
end Go.Proofs.YteognfhemmogpaaGreatDoor
namespace Go.Proofs.YteognfhemmogpaaGreatDoor
open Go.RowKit
open Go.Proofs.Qw
attribute [local go_sem] Oper.semAt_some
def toX {α : Type} {r : α → α → Bool} {d : List α} (x : PartY r d) : PartX d := ⟨x.1, x.2.1⟩
theorem map_snoc {α β : Type} (f : α → β) (l : List α) (x : α) : (l ++ [x]).map f = l.map f ++ [f x] := by simp
def LinFor (lv n : Nat) (l : Lin) : Prop := 0 ≤ l.kind ∧ l.kind ≤ 3 ∧ l.cells.length ≤ 6000 ∧ l.lists.length ≤ 1000 ∧ (wayL l).length < lv + n ∧ lv ≤ (wayL l).length
def FN (lv n : Nat) (p : List Lin) : List Nod := if stepL lv (p.headD default) ≠ 0 then [Nod.mk (stepL lv (p.headD default)) [] [] (hostL (lineN (gr rowK)) n (lv + 1) p)] else [lineN (gr rowK) (p.headD default)]
def NodesAt (n : Nat) : Prop := ∀ (lv : Nat) (v : Value) (d : List Lin) (w w0 : World) (S : Nat → Prop), LinsR w0 S v d → Below w0.heap.size w0 w → d ≠ [] → d.length ≤ 1000 → (∀ l ∈ d, LinFor lv n l) → lv ≤ 1010 →
  Calls Tryz.prog 25 #[v, .int .i64 lv] w fun e w' => ∃ v', e = .returned v' ∧ NodsR true (27 + n) w' (fun b => w.heap.size ≤ b) v' (hostL (lineN (gr rowK)) n lv d) ∧ Below w.heap.size w w'
theorem part_lins {w : World} {S : Nat → Prop} {va : Option Addr} {vc : Nat} {d : List Lin} (hv : LinsR w S (.slice va d.length vc) d) (x : PartX d) : LinsR w S (partV va vc 4 x.1) (cutP d x.1) := by
 obtain ⟨⟨i, j⟩, h1, h2⟩ := x
 obtain ⟨_, h3, _⟩ := hv.len
 exact hv.part (i := i) (j := j) (m := vc) (Nat.le_of_lt h1) h2 (Nat.le_trans h2 h3) (Nat.le_refl _)
set_option maxRecDepth 200000 in
set_option maxHeartbeats 16000000 in
theorem nodes_step (n : Nat) (ih : NodesAt n) : NodesAt (n + 1) := by
 intro lv v d w w0 S hv h0 hdne hdl hok hlv
 have hw := SliceR.below (rdLin_stable _) hv h0
 obtain ⟨va, vc, rfl⟩ := hv.slice
 have HV := Lib.hid hw
 have HI := Lib.hid ih
 have HOK := Lib.hid hok
 clear hv hw ih hok hdne
 refine (callsIn_wide (n := 6)).1 ?_
 refine callsIn_of_wp_marks Tryz.func25 rfl trivial ?_ rfl
 simp only [Tryz.ntmps25, List.size_toArray, List.length_cons, List.length_nil, Nat.reduceAdd, Nat.reduceSub, Array.replicate_succ, Array.replicate_zero, List.push_toArray, List.append_toArray, List.nil_append, List.cons_append]
 have hwf : ∀ f, Fence.wide.fn f := fun _ => trivial
 have hwd : Fence.wide.depth = none := rfl
 gi_wp2_with (gi_at_call 48; refine (callsIn_wide.2 (partsL_any _ _ _ _ _ _)).mono ?_; rintro e w5 ⟨rfl, rfl⟩)
 obtain ⟨w1, hw1⟩ : ∃ w1, w.alloc (.cells #[.int .i64 lv] 3) = w1 := ⟨_, rfl⟩
 rw [hw1]
 obtain ⟨w6, hw6⟩ : ∃ w6, ((w1.alloc (.cells #[.slice none 0 0] 33)).alloc (.cells #[.slice va d.length vc] 22)).alloc (.cells #[.func (.func 46) #[] #[.pointer (some ⟨w.heap.size, 0, none⟩)]] 60) = w6 := ⟨_, rfl⟩
 rw [hw6]
 have hz1 : w1.heap.size = w.heap.size + 1 := by rw [← hw1]; simp
 have HBW : Hid (Below w.heap.size w w1) := Lib.hid (hw1 ▸ (Below.refl _ _).alloc (Nat.le_refl _) _)
 have HBB : Hid (w1.heap[w.heap.size]? = some (.cells #[.int .i64 lv] 3)) := Lib.hid (hw1 ▸ heap_new _ _ rfl)
 have hb6 : Below w1.heap.size w1 w6 := hw6 ▸ (((Below.refl _ _).alloc (Nat.le_refl _) _).alloc (by simp) _).alloc (by simp; omega) _
 have hz6 : w6.heap.size = w1.heap.size + 3 := by rw [← hw6]; simp
 have m0 : w6.heap[w.heap.size + 1]? = some (.cells #[.slice none 0 0] 33) := hw6 ▸ heap_old _ _ (heap_old _ _ (heap_new _ _ (by omega)))
 have n0 : w6.heap[w.heap.size + 1 + 1]? = some (.cells #[.slice va d.length vc] 22) := hw6 ▸ heap_old _ _ (heap_new _ _ (by simp; omega))
 have n1 : w6.heap[w.heap.size + 1 + 1 + 1]? = some (.cells #[.func (.func 46) #[] #[.pointer (some ⟨w.heap.size, 0, none⟩)]] 60) := hw6 ▸ heap_new _ _ (by simp; omega)
 have hPL : PL (d := d) (27 + (n + 1)) (FN lv n) w1 (w.heap.size + 1) w6.heap.size (([] : List (PartY (stepR lv) d)).map toX) w6 := ⟨_, m0, RwX.nil _ _ _ _ _, .inl rfl, hb6, Nat.le_refl _⟩
 have N0 := Lib.hid (And.intro n0 n1)
 have hZB : w.heap.size + 1 < w6.heap.size := by omega
 have HZ6 := Lib.hid (And.intro hz6 hz1)
 have hB1 : w1.heap.size ≤ w.heap.size + 1 := by omega
 have hB2 : w.heap.size + 1 < w.heap.size + 1 + 1 := Nat.lt_succ_self _
 have hB3 := hZB
 have hwZ := hb6.size
 have hww := HBW.out.size
 clear hw6 m0 n0 n1 hz6 hw1 hz1
 refine rangeFunc_slotB rfl (by omega) (gf := 70) (lb := #[.pointer (some ⟨w.heap.size + 1 + 1, 0, none⟩), .pointer (some ⟨w.heap.size + 1 + 1 + 1, 0, none⟩)]) rfl trivial (enters_of Tryz.func70 (by kernel_rfl) rfl)
  (encs := partEncY (r := stepR lv) (d := d) va vc 4) (n₀ := w1.heap.size) (base := w.heap.size + 1 + 1) (top := w6.heap.size) (S := fun ys => ys.map (fun y => cutP d y.1) = partsBy (stepR lv) d) (Sp := fun _ => True) (N := d.length) (w0 := w6) ?seq hb6.size (Below.refl _ _) (fun _ => rfl)
  (fun pre W => PL (27 + (n + 1)) (FN lv n) w1 (w.heap.size + 1) w6.heap.size (pre.map toX) W) (fun s X Y row hs hg hr => pl_own hb6.size (s.map toX) X Y row hs hg hr) hPL ?act ?assign ?body ?done
 case seq =>
  intro l' J Jx W hW hJ _ hY h0
  exact parts1_lines 5 l' (w.heap.size + 1 + 1) (w.heap.size + 1 + 1 + 1) (w.heap.size + 1 + 1) w6.heap.size w.heap.size va vc d (stepR lv) S J Jx w1 W (HV.out.below (rdLin_stable _) HBW.out) (hb6.trans (hW.mono hb6.size)) (fun X hX x y la lc ca cc la2 lc2 ca2 cc2 h1 h2 hx hy => al_lines x y la lc ca cc la2 lc2 ca2 cc2 w.heap.size lv X S h1 h2 (heap_below hX HBB.out) (by have := (HOK.out x hx).2.2.2.1; omega) (by have := (HOK.out y hy).2.2.2.1; omega)) ⟨by omega, by omega⟩ (by have := HZ6.out; omega) (heap_below hW N0.out.1) (heap_below hW N0.out.2) (by omega) hJ hY h0
 case assign =>
  intro l' pre x W K hI hK
  rw [show partEncY va vc 4 x = #[partV va vc 4 x.1] from rfl]
  gi_wp2
  exact hK
 case body =>
  intro l' pre x W hI hlt
  obtain ⟨v0, hD, hRW, hne, hb, hzW⟩ := hI
  have hpr := part_lins HV.out (toX x)
  have hpn := cut_ne (toX x)
  have hpz := cut_len (toX x)
  have hcr := x.2.2
  have hsub : ∀ l ∈ cutP d x.1, l ∈ d := fun l hl => List.mem_of_mem_drop (List.mem_of_mem_take hl)
  obtain ⟨P, hP⟩ : ∃ P, cutP d x.1 = P := ⟨_, rfl⟩
  have hP2 : cutP d (toX x).1 = P := hP
  have HT : Hid ((pre.map toX ++ [toX x]).flatMap (fun y => (FN lv n) (cutP d y.1)) = (pre.map toX).flatMap (fun y => (FN lv n) (cutP d y.1)) ++ (FN lv n) P) := Lib.hid (by rw [List.flatMap_append, ← hP]; simp [toX])
  rw [hP2] at hpr hpn hpz
  rw [hP] at hcr hsub
  obtain ⟨pa, pc, hpe, hpl, hpm, hpx⟩ := lins_shape hpr
  have hpe : partV va vc 4 x.1 = .slice pa P.length pc := hpe
  rw [hpe]
  have hpr : LinsR w S (.slice pa P.length pc) P := by have h := hpr; rw [show partV va vc 4 (toX x).1 = .slice pa P.length pc from hpe] at h; exact h
  obtain ⟨c, P', rfl⟩ : ∃ c P', P = c :: P' := by cases P with | nil => exact absurd rfl hpn | cons c P' => exact ⟨c, P', rfl⟩
  obtain ⟨bb, oo, la, lc, ca, cc, e, hAt⟩ := hpx 0 c rfl
  subst e
  simp only [Nat.zero_mul, Nat.add_zero] at hAt
  have hcr := hcr c P' rfl
  have hokc := HOK.out c (hsub c (by simp))
  have HAT := Lib.hid hAt
  have hbz := hAt.lt
  obtain ⟨xs, hxs⟩ : ∃ xs, (pre.map toX).flatMap (fun y : PartX d => (FN lv n) (cutP d y.1)) = xs := ⟨_, rfl⟩
  have hxl0 : xs.length ≤ (pre.map (toX (r := stepR lv) (d := d))).length * 1 := by
   rw [← hxs]
   exact flat_le_all _ 1 _ (fun y => by unfold FN; split <;> simp)
  rw [List.length_map] at hxl0
  have hxl : xs.length + 1 ≤ 100000000 := by omega
  rw [hxs] at hRW hne HT
  have HRB := Lib.hid (rowx_block hRW hne)
  obtain ⟨sv, sc, hv0⟩ := hRW.slice
  subst hv0
  have HRW : Hid (∀ X, Below W.heap.size W X → RwX 35 4 (rdNod true (27 + (n + 1))) X w6.heap.size (.slice sv xs.length sc) xs) := Lib.hid fun X hX => RwX.below (rdNod_stable _ _) hRW (.all (by exact ⟨hX.os, hX.tape, hX.output, hX.size, fun b hz => hX.block b hz⟩))
  have HBO : Hid (∀ X, Below W.heap.size W X → X.heap[w.heap.size + 1]? = some (.cells #[.slice sv xs.length sc] 33)) := Lib.hid fun X hX => heap_below hX hD
  have HNE := Lib.hid hne
  have HIN := Lib.hid (And.intro hb hzW)
  have HPR := Lib.hid hpr
  obtain ⟨q0, g0⟩ := blk hD
  have i0 : (0 : Int) < (((c :: P').length : Nat) : Int) := by simp only [List.length_cons]; omega
  have hb0 : Below W.heap.size W W.drew := (Below.refl _ _).drew
  have HBX : Hid (∀ X, Below W.heap.size W X → Below w.heap.size w X) := Lib.hid fun X hX => HBW.out.trans ((hb.trans (hX.mono hb.size)).mono hww)
  have HAX : Hid (∀ X, Below W.heap.size W X → X.cell? ⟨bb, oo, none⟩ = some (.int .i64 c.quote) ∧ X.cell? ⟨bb, oo + 1, none⟩ = some (.slice la c.lists.length lc) ∧ X.cell? ⟨bb, oo + 2, none⟩ = some (.int .i64 c.kind) ∧ X.cell? ⟨bb, oo + 3, none⟩ = some (.slice ca c.cells.length cc) ∧ X.cell? ⟨w.heap.size, 0, none⟩ = some (.int .i64 lv)) := Lib.hid fun X hX => by
   obtain ⟨_, c0, c1, c2, c3, _, _⟩ := HAT.out.below (HBX.out X hX)
   exact ⟨c0, c1, c2, c3, by rw [(blk (heap_below (hb.trans (hX.mono hb.size)) HBB.out)).1 0]; rfl⟩
  have HAY : Hid (∀ X, Below W.heap.size W X → ∀ Y, (X.cell? ⟨bb, oo, none⟩ = some (.int .i64 c.quote) ∧ X.cell? ⟨bb, oo + 1, none⟩ = some (.slice la c.lists.length lc) ∧ X.cell? ⟨bb, oo + 2, none⟩ = some (.int .i64 c.kind) ∧ X.cell? ⟨bb, oo + 3, none⟩ = some (.slice ca c.cells.length cc) ∧ X.cell? ⟨w.heap.size, 0, none⟩ = some (.int .i64 lv)) → Below w6.heap.size X Y → (Y.cell? ⟨bb, oo, none⟩ = some (.int .i64 c.quote) ∧ Y.cell? ⟨bb, oo + 1, none⟩ = some (.slice la c.lists.length lc) ∧ Y.cell? ⟨bb, oo + 2, none⟩ = some (.int .i64 c.kind) ∧ Y.cell? ⟨bb, oo + 3, none⟩ = some (.slice ca c.cells.length cc) ∧ Y.cell? ⟨w.heap.size, 0, none⟩ = some (.int .i64 lv))) := Lib.hid fun X hX Y h hY =>
   have l1 : bb < w6.heap.size := by omega
   ⟨(hY.cell (p := ⟨bb, oo, none⟩) l1).trans h.1, (hY.cell (p := ⟨bb, oo + 1, none⟩) l1).trans h.2.1, (hY.cell (p := ⟨bb, oo + 2, none⟩) l1).trans h.2.2.1, (hY.cell (p := ⟨bb, oo + 3, none⟩) l1).trans h.2.2.2.1, (hY.cell (p := ⟨w.heap.size, 0, none⟩) (by show w.heap.size < w6.heap.size; omega)).trans h.2.2.2.2⟩
  have HAS : Hid (∀ (X : World) (B o : Nat) (v : Value), (B ≠ bb ∧ B ≠ w.heap.size) → (X.cell? ⟨bb, oo, none⟩ = some (.int .i64 c.quote) ∧ X.cell? ⟨bb, oo + 1, none⟩ = some (.slice la c.lists.length lc) ∧ X.cell? ⟨bb, oo + 2, none⟩ = some (.int .i64 c.kind) ∧ X.cell? ⟨bb, oo + 3, none⟩ = some (.slice ca c.cells.length cc) ∧ X.cell? ⟨w.heap.size, 0, none⟩ = some (.int .i64 lv)) → ((X.setCell ⟨B, o, none⟩ v).cell? ⟨bb, oo, none⟩ = some (.int .i64 c.quote) ∧ (X.setCell ⟨B, o, none⟩ v).cell? ⟨bb, oo + 1, none⟩ = some (.slice la c.lists.length lc) ∧ (X.setCell ⟨B, o, none⟩ v).cell? ⟨bb, oo + 2, none⟩ = some (.int .i64 c.kind) ∧ (X.setCell ⟨B, o, none⟩ v).cell? ⟨bb, oo + 3, none⟩ = some (.slice ca c.cells.length cc) ∧ (X.setCell ⟨B, o, none⟩ v).cell? ⟨w.heap.size, 0, none⟩ = some (.int .i64 lv))) := Lib.hid fun X B o v hB h => ⟨(setCell_block hB.1).trans h.1, (setCell_block hB.1).trans h.2.1, (setCell_block hB.1).trans h.2.2.1, (setCell_block hB.1).trans h.2.2.2.1, (setCell_block hB.2).trans h.2.2.2.2⟩
  have hno : w.heap.size + 1 ≠ bb ∧ w.heap.size + 1 ≠ w.heap.size := ⟨by omega, by omega⟩
  have hbbZ : bb < w6.heap.size := by omega
  have hwwZ : w.heap.size < w6.heap.size := by omega
  have HSt : Hid (∀ X, Below W.heap.size W X → Calls Tryz.prog 47 #[.agg #[.int .i64 c.quote, .slice la c.lists.length lc, .int .i64 c.kind, .slice ca c.cells.length cc], .int .i64 lv] X fun e X' => e = .returned (.int .i64 (stepL lv c)) ∧ Below X.heap.size X X') := Lib.hid fun X hX => renStep_any c _ ca _ cc lv X w S HAT.out.listsR (HBX.out X hX) (by have := hokc.2.2.2.1; omega)
  obtain ⟨z, hz⟩ : ∃ z, stepL lv c = z := ⟨_, rfl⟩
  rw [hz] at HSt
  by_cases hs : stepL lv c = 0
  ·have hs0 : z = 0 := hz.symm.trans hs
   have hq : (z != 0) = false := by simp [hs0]
   replace HT : Hid ((pre.map toX ++ [toX x]).flatMap (fun y => (FN lv n) (cutP d y.1)) = xs ++ [lineN (gr rowK) c]) := Lib.hid (by rw [HT.out]; congr 1; unfold FN; exact if_neg (fun h => h hs))
   have HNd : Hid (∀ X, Below W.heap.size W X → Calls Tryz.prog 49 #[.agg #[.int .i64 c.quote, .slice la c.lists.length lc, .int .i64 c.kind, .slice ca c.cells.length cc]] X fun e X' => ∃ ka kc, e = .returned (.agg #[.int .i64 (lineN (gr rowK) c).tag, .slice none 0 0, .string ⟨#[]⟩, .slice ka (gr rowK c.cells).length kc]) ∧ NodsR true 26 X' (fun b => X.heap.size ≤ b) (.slice ka (gr rowK c.cells).length kc) (gr rowK c.cells) ∧ Below X.heap.size X X') := Lib.hid fun X hX => (node_any c la lc ca cc X w S HAT.out.cellsR (HBX.out X hX) hokc.1 hokc.2.1 hokc.2.2.1).mono fun _ _ ⟨k', h1, h2, h3⟩ => by
    obtain ⟨ka, kc, rfl⟩ := h2.slice
    exact ⟨ka, kc, h1, h2, h3⟩
   clear hs hs0 hz hpr hcr hsub hokc hpx hRW hne hxs hxl0 hAt hP hP2 hpe hb HV HI HOK
   gi_wp2_with fail
   refine wpIn_region_T (fun w' => w'.cell? ⟨bb, oo, none⟩ = some (.int .i64 c.quote) ∧ w'.cell? ⟨bb, oo + 1, none⟩ = some (.slice la c.lists.length lc) ∧ w'.cell? ⟨bb, oo + 2, none⟩ = some (.int .i64 c.kind) ∧ w'.cell? ⟨bb, oo + 3, none⟩ = some (.slice ca c.cells.length cc) ∧ w'.cell? ⟨w.heap.size, 0, none⟩ = some (.int .i64 lv)) (fun w' => w'.cell? ⟨w.heap.size + 1, 0, none⟩ = some (.slice sv xs.length sc)) 99 (by kernel_rfl) (by kernel_rfl) (fun R hR => ?_)
   refine anyT_takeA (i := 0) (v := ?_) (by simp only [qA, qZ]; rfl) (by kernel_rfl) (by kernel_rfl) (by kernel_rfl) (by kernel_rfl) (fun _ _ _ h => h) (Or.inl ⟨by rfl, ?_⟩) (HAX.out _ hb0) (Or.inr (by rw [(blk (HBO.out _ hb0)).1 0]; rfl)) ?_
   rotate_left 1
   ·intro w hSw; (try dsimp only at hSw); go_simp; (first | done | with_reducible rfl)
   try simp only [Act.put, qI, qX, qY]
   refine anyT_takeA (i := 1) (v := ?_) (by simp only [qA, qS, qZ]; rfl) (by kernel_rfl) (by kernel_rfl) (by kernel_rfl) (by kernel_rfl) (fun _ _ _ h => h) (Or.inl ⟨by rfl, ?_⟩) (HAX.out _ hb0) (Or.inr (by rw [(blk (HBO.out _ hb0)).1 0]; rfl)) ?_
   rotate_left 1
   ·intro w hSw; (try dsimp only at hSw); go_simp; (first | done | with_reducible rfl)
   try simp only [Act.put, qI, qX, qY]
   refine anyT_takeA (i := 2) (v := ?_) (by simp only [qA, qS, qZ]; rfl) (by kernel_rfl) (by kernel_rfl) (by kernel_rfl) (by kernel_rfl) (fun _ _ _ h => h) (Or.inl ⟨by rfl, ?_⟩) (HAX.out _ hb0) (Or.inr (by rw [(blk (HBO.out _ hb0)).1 0]; rfl)) ?_
   rotate_left 1
   ·intro w hSw; (try dsimp only at hSw); go_simp; (first | done | with_reducible rfl)
   try simp only [Act.put, qI, qX, qY]
   refine anyT_takeA (i := 3) (v := ?_) (by simp only [qA, qS, qZ]; rfl) (by kernel_rfl) (by kernel_rfl) (by kernel_rfl) (by kernel_rfl) (fun _ _ _ h => h) (Or.inl ⟨by rfl, ?_⟩) (HAX.out _ hb0) (Or.inr (by rw [(blk (HBO.out _ hb0)).1 0]; rfl)) ?_
   rotate_left 1
   ·intro w hSw; (try dsimp only at hSw); go_simp; (first | done | with_reducible rfl)
   try simp only [Act.put, qI, qX, qY]
   refine anyT_ready (rs := [4]) (by kernel_rfl) (by simp) ?_
   refine AllReadyT.cons (by simp only [qA, qS, qZ]; rfl) (fun K hK => ?_) AllReadyT.nil
   go_simp
   refine (HSt.out _ hb0).mono ?_
   rintro e W2 ⟨rfl, hst2⟩
   have hbW2 : Below W.heap.size W W2 := below_from hb0 hst2
   refine hK.out _ _ (HAX.out _ hbW2) (Or.inr (by rw [(blk (HBO.out _ hbW2)).1 0]; rfl)) ?_
   clear hK K
   try simp only [Act.put, qI, qX, qY]
   refine anyT_takeA (i := 5) (v := ?_) (by simp only [qA, qS, qZ]; rfl) (by kernel_rfl) (by kernel_rfl) (by kernel_rfl) (by kernel_rfl) (fun _ _ _ h => h) (Or.inl ⟨by rfl, ?_⟩) (HAX.out _ hbW2) (Or.inr (by rw [(blk (HBO.out _ hbW2)).1 0]; rfl)) ?_
   rotate_left 1
   ·intro w hSw; (try dsimp only at hSw); go_simp; (first | done | with_reducible rfl)
   try simp only [Act.put, qI, qX, qY]
   refine anyT_done (by kernel_rfl) ?_ _
   refine hR.out _ _ ?_
   have hb0 : Below W.heap.size W W2.drew := hbW2.drew
   have hr0 : Below W2.heap.size W2 W2.drew := (Below.refl _ _).drew
   gi_wp2_with fail
   refine wpIn_region_T (fun w' => w'.cell? ⟨bb, oo, none⟩ = some (.int .i64 c.quote) ∧ w'.cell? ⟨bb, oo + 1, none⟩ = some (.slice la c.lists.length lc) ∧ w'.cell? ⟨bb, oo + 2, none⟩ = some (.int .i64 c.kind) ∧ w'.cell? ⟨bb, oo + 3, none⟩ = some (.slice ca c.cells.length cc) ∧ w'.cell? ⟨w.heap.size, 0, none⟩ = some (.int .i64 lv)) (fun w' => w'.cell? ⟨w.heap.size + 1, 0, none⟩ = some (.slice sv xs.length sc)) 10 (by kernel_rfl) (by kernel_rfl) (fun R hR => ?_)
   refine anyT_takeA (i := 1) (v := ?_) (by simp only [qA, qS, qZ]; rfl) (by kernel_rfl) (by kernel_rfl) (by kernel_rfl) (by kernel_rfl) (fun _ _ _ h => h) (Or.inl ⟨by rfl, ?_⟩) (HAX.out _ hb0) (Or.inr (by rw [(blk (HBO.out _ hb0)).1 0]; rfl)) ?_
   rotate_left 1
   ·intro w hSw; (try dsimp only at hSw); go_simp; (first | done | with_reducible rfl)
   try simp only [Act.put, qI, qX, qY]
   refine anyT_takeA (i := 2) (v := ?_) (by simp only [qA, qS, qZ]; rfl) (by kernel_rfl) (by kernel_rfl) (by kernel_rfl) (by kernel_rfl) (fun _ _ _ h => h) (Or.inl ⟨by rfl, ?_⟩) (HAX.out _ hb0) (Or.inr (by rw [(blk (HBO.out _ hb0)).1 0]; rfl)) ?_
   rotate_left 1
   ·intro w hSw; (try dsimp only at hSw); go_simp; (first | done | with_reducible rfl)
   try simp only [Act.put, qI, qX, qY]
   refine anyT_takeA (i := 3) (v := ?_) (by simp only [qA, qS, qZ]; rfl) (by kernel_rfl) (by kernel_rfl) (by kernel_rfl) (by kernel_rfl) (fun _ _ _ h => h) (Or.inl ⟨by rfl, ?_⟩) (HAX.out _ hb0) (Or.inr (by rw [(blk (HBO.out _ hb0)).1 0]; rfl)) ?_
   rotate_left 1
   ·intro w hSw; (try dsimp only at hSw); go_simp; (first | done | with_reducible rfl)
   try simp only [Act.put, qI, qX, qY]
   refine anyT_take (i := 0) (v := ?_) (by simp only [qA, qZ]; rfl) (by kernel_rfl) (by kernel_rfl) (by kernel_rfl) (by kernel_rfl) (fun _ _ _ h => h) (Or.inl ⟨by rfl, ?_⟩) ⟨HAX.out _ hb0, by rw [(blk (HBO.out _ hb0)).1 0]; rfl⟩ ?_
   rotate_left 1
   ·intro w hSw; (try dsimp only at hSw); go_simp; (first | done | with_reducible rfl)
   try simp only [Act.put, qI, qX, qY]
   refine anyT_take (i := 5) (v := ?_) (by simp only [qA, qS, qZ]; rfl) (by kernel_rfl) (by kernel_rfl) (by kernel_rfl) (by kernel_rfl) (fun _ _ _ h => h) (Or.inl ⟨by rfl, ?_⟩) ⟨HAX.out _ hb0, by rw [(blk (HBO.out _ hb0)).1 0]; rfl⟩ ?_
   rotate_left 1
   ·intro w hSw; (try dsimp only at hSw); go_simp; (first | done | with_reducible rfl)
   try simp only [Act.put, qI, qX, qY]
   refine anyT_ready (rs := [4, 6]) (by kernel_rfl) (by simp) ?_
   refine AllReadyT.cons (by simp only [qA, qS, qZ]; rfl) (fun K hK => ?_) ?_
   ·go_simp
    refine (HNd.out _ hb0).mono ?_
    rintro e x1 ⟨sa1, sc1, rfl, hk1, hst1⟩
    have HK1 := Lib.hid hk1
    clear hk1
    have hb1 : Below W.heap.size W x1 := below_from hb0 hst1
    have hr1 : Below W2.heap.size W2 x1 := below_from hr0 hst1
    refine hK.out _ _ (HAX.out _ hb1) (Or.inr (by rw [(blk (HBO.out _ hb1)).1 0]; rfl)) ?_
    clear hK K
    try simp only [Act.put, qI, qX, qY]
    refine anyT_ready (rs := [6]) (by kernel_rfl) (by simp) ?_
    refine AllReadyT.cons (by simp only [qA, qS, qZ]; rfl) (fun K hK => ?_) AllReadyT.nil
    go_simp
    obtain ⟨x2, hx2⟩ : ∃ X, (x1.alloc (.cells #[.int .i64 0, .slice none 0 0, .string ⟨#[]⟩, .slice none 0 0] 35)) = X := ⟨_, rfl⟩
    have hst2 : Below x1.heap.size x1 x2 := hx2 ▸ (Below.refl _ _).alloc (Nat.le_refl _) _
    have hz2 : x2.heap[x1.heap.size]? = some (.cells #[.int .i64 0, .slice none 0 0, .string ⟨#[]⟩, .slice none 0 0] 35) := hx2 ▸ heap_new _ _ rfl
    rw [hx2]
    clear hx2
    have hb2 : Below W.heap.size W x2 := below_from hb1 hst2
    have hr2 : Below W2.heap.size W2 x2 := below_from hr1 hst2
    refine hK.out _ _ (HAX.out _ hb2) (Or.inr (by rw [(blk (HBO.out _ hb2)).1 0]; rfl)) ?_
    clear hK K
    try simp only [Act.put, qI, qX, qY]
    refine anyT_ready (rs := [7]) (by kernel_rfl) (by simp) ?_
    refine AllReadyT.cons (by simp only [qA, qS, qZ]; rfl) (fun K hK => ?_) AllReadyT.nil
    have hbs3 := hb2.size
    have HRX3 := HRW.out _ hb2
    (refine step_append_X (by rfl) _ _ 33 33 (by rfl) rowNod (eltNod (27 + (n + 1))) w6.heap.size (.slice sv xs.length sc) _ (xs := xs) (ys := [zeroN]) (news := [.int .i64 0, .slice none 0 0, .string ⟨#[]⟩, .slice none 0 0]) (by rfl) (by rfl) HRX3 (Nat.le_trans HIN.out.2 hb2.size) (src_node hz2 (oneV_node zeroN _ _ _ _ _ _) 1) (news_apart (rdNod_stable _ _) HRX3 (Nat.le_trans HIN.out.2 hb2.size) zero_news) hxl ?_)
    intro va3 y3 hra3 hba3 hga3 hor3
    obtain ⟨b3, o3, c3, la3, lc3, ka3, kc3, rfl, hbn3, hbl3, hbh3, hbf3, d0, d1, d2, d3, hcm3⟩ := rowx_last hra3
    have hap3 := app_apart hga3 hor3 HRB.out
    have HAP3 := Lib.hid (And.intro hap3 (And.intro hga3 hba3))
    clear hap3 hor3 hga3
    have HRA3 := Lib.hid hra3
    clear hra3
    have hob3 : y3.heap[(w.heap.size + 1)]? = some (.cells #[.slice sv xs.length sc] 33) := (hba3.block _ (by have := hZB; have := hbs3; omega)).trans (HBO.out _ hb2)
    obtain ⟨qo3, fo3⟩ := blk hob3
    have ne3 : ¬ b3 = (w.heap.size + 1) := by have := hZB; omega
    have hnb3 : b3 ≠ bb ∧ b3 ≠ w.heap.size := ⟨by omega, by omega⟩
    have nf3 : ¬ (w.heap.size + 1) = b3 := by have := hZB; omega
    have i33 : (0 : Int) ≤ ((xs.length : Nat) : Int) := Int.natCast_nonneg _
    have i43 : ((xs.length : Nat) : Int) < ((xs.length : Nat) : Int) + 1 := by omega
    refine hK.out _ _ (HAY.out _ hb2 y3 (HAX.out _ hb2) hba3) (Or.inr (by rw [qo3 0]; rfl)) ?_
    clear hK K
    try simp only [Act.put, qI, qX, qY]
    refine anyT_takeA (i := 8) (v := ?_) (by simp only [qA, qS, qZ]; rfl) (by kernel_rfl) (by kernel_rfl) (by kernel_rfl) (by kernel_rfl) (fun _ _ _ h => h) (Or.inl ⟨by rfl, ?_⟩) (HAY.out _ hb2 y3 (HAX.out _ hb2) hba3) (Or.inr (by rw [qo3 0]; rfl)) ?_
    rotate_left 1
    ·intro w hSw; (try dsimp only at hSw); go_simp; (first | done | with_reducible rfl)
    try simp only [Act.put, qI, qX, qY]
    refine anyT_ready (rs := [9, 10]) (by kernel_rfl) (by simp) ?_
    refine AllReadyT.cons (by simp only [qA, qS, qZ]; rfl) (fun K hK => ?_) ?_
    ·go_simp
     refine hK.out _ _ (HAS.out _ _ _ _ hnb3 (HAS.out _ _ _ _ hnb3 (HAS.out _ _ _ _ hnb3 (HAS.out _ _ _ _ hnb3 (HAY.out _ hb2 y3 (HAX.out _ hb2) hba3))))) (Or.inr ((setCell_block ne3).trans ((setCell_block ne3).trans ((setCell_block ne3).trans ((setCell_block ne3).trans (by rw [qo3 0]; rfl)))))) ?_
     clear hK K
     try simp only [Act.put, qI, qX, qY]
     refine anyT_ready (rs := [10]) (by kernel_rfl) (by simp) ?_
     refine AllReadyT.cons (by simp only [qA, qS, qZ]; rfl) (fun K hK => ?_) AllReadyT.nil
     go_simp
     refine hK.out _ _ (HAS.out _ _ _ _ hno (HAS.out _ _ _ _ hnb3 (HAS.out _ _ _ _ hnb3 (HAS.out _ _ _ _ hnb3 (HAS.out _ _ _ _ hnb3 (HAY.out _ hb2 y3 (HAX.out _ hb2) hba3)))))) (Or.inl (by kernel_rfl)) ?_
     clear hK K
     try simp only [Act.put, qI, qX, qY]
     refine anyT_done (by kernel_rfl) ?_ _
     refine hR.out _ _ ?_
     have hnode := node_ready (h := 27 + n) (n := (lineN (gr rowK) c)) (SliceR.nil _ _ _ _ _ _) ((nods_mono' (by omega) HK1.out).stable (rdNod_stable _ _) (Keeps.refl _ _) (fun d h _ => Nat.le_trans hb0.size h)) (below_from (Below.refl _ _) hst2) HAP3.out.1.1 HAP3.out.1.2 HIN.out.2
     have hfin := put_done (F := (FN lv n)) HIN.out.1 HIN.out.2 hB1 hB2 hB3 hwZ hb2 HRA3.out HAP3.out.2.2 HAP3.out.2.1 HRX3 HNE.out hbn3 hnode hob3 HT.out
     rw [← map_snoc] at hfin
     gi_wp2_with fail
     exact ⟨hfin.1 _, hfin.2⟩
    refine AllReadyT.cons (by simp only [qA, qS, qZ]; rfl) (fun K hK => ?_) ?_
    ·go_simp
     refine hK.out _ _ (HAS.out _ _ _ _ hno (HAY.out _ hb2 y3 (HAX.out _ hb2) hba3)) (Or.inl (by kernel_rfl)) ?_
     clear hK K
     try simp only [Act.put, qI, qX, qY]
     refine anyT_ready (rs := [9]) (by kernel_rfl) (by simp) ?_
     refine AllReadyT.cons (by simp only [qA, qS, qZ]; rfl) (fun K hK => ?_) AllReadyT.nil
     go_simp
     refine hK.out _ _ (HAS.out _ _ _ _ hnb3 (HAS.out _ _ _ _ hnb3 (HAS.out _ _ _ _ hnb3 (HAS.out _ _ _ _ hnb3 (HAS.out _ _ _ _ hno (HAY.out _ hb2 y3 (HAX.out _ hb2) hba3)))))) (Or.inl (by kernel_rfl)) ?_
     clear hK K
     try simp only [Act.put, qI, qX, qY]
     refine anyT_done (by kernel_rfl) ?_ _
     refine hR.out _ _ ?_
     have hnode := node_ready (h := 27 + n) (n := (lineN (gr rowK) c)) (SliceR.nil _ _ _ _ _ _) ((nods_mono' (by omega) HK1.out).stable (rdNod_stable _ _) (Keeps.refl _ _) (fun d h _ => Nat.le_trans hb0.size h)) (below_from (Below.refl _ _) hst2) HAP3.out.1.1 HAP3.out.1.2 HIN.out.2
     have hfin := put_done2 (F := (FN lv n)) HIN.out.1 HIN.out.2 hB1 hB2 hB3 hwZ hb2 HRA3.out HAP3.out.2.2 HAP3.out.2.1 HRX3 HNE.out hbn3 hnode hob3 HT.out
     rw [← map_snoc] at hfin
     gi_wp2_with fail
     exact ⟨hfin.1 _, hfin.2⟩
    exact AllReadyT.nil
   refine AllReadyT.cons (by simp only [qA, qS, qZ]; rfl) (fun K hK => ?_) ?_
   ·go_simp
    obtain ⟨x8, hx8⟩ : ∃ X, (W2.alloc (.cells #[.int .i64 0, .slice none 0 0, .string ⟨#[]⟩, .slice none 0 0] 35)).drew = X := ⟨_, rfl⟩
    have hst8 : Below W2.heap.size W2 x8 := hx8 ▸ ((Below.refl _ _).alloc (Nat.le_refl _) _).drew
    have hz8 : x8.heap[W2.heap.size]? = some (.cells #[.int .i64 0, .slice none 0 0, .string ⟨#[]⟩, .slice none 0 0] 35) := hx8 ▸ (show ((W2.alloc (.cells #[.int .i64 0, .slice none 0 0, .string ⟨#[]⟩, .slice none 0 0] 35)).drew).heap[W2.heap.size]? = _ from heap_new _ _ rfl)
    rw [hx8]
    clear hx8
    have hb8 : Below W.heap.size W x8 := below_from hbW2 hst8
    have hr8 : Below W2.heap.size W2 x8 := hst8
    refine hK.out _ _ (HAX.out _ hb8) (Or.inr (by rw [(blk (HBO.out _ hb8)).1 0]; rfl)) ?_
    clear hK K
    try simp only [Act.put, qI, qX, qY]
    refine anyT_ready (rs := [4]) (by kernel_rfl) (by simp) ?_
    refine AllReadyT.cons (by simp only [qA, qS, qZ]; rfl) (fun K hK => ?_) AllReadyT.nil
    go_simp
    refine (HNd.out _ hb8).mono ?_
    rintro e x9 ⟨sa9, sc9, rfl, hk9, hst9⟩
    have HK9 := Lib.hid hk9
    clear hk9
    have hb9 : Below W.heap.size W x9 := below_from hb8 hst9
    have hr9 : Below W2.heap.size W2 x9 := below_from hr8 hst9
    have hz9 := heap_below hst9 hz8
    refine hK.out _ _ (HAX.out _ hb9) (Or.inr (by rw [(blk (HBO.out _ hb9)).1 0]; rfl)) ?_
    clear hK K
    try simp only [Act.put, qI, qX, qY]
    refine anyT_ready (rs := [7]) (by kernel_rfl) (by simp) ?_
    refine AllReadyT.cons (by simp only [qA, qS, qZ]; rfl) (fun K hK => ?_) AllReadyT.nil
    have hbs10 := hb9.size
    have HRX10 := HRW.out _ hb9
    (refine step_append_X (by rfl) _ _ 33 33 (by rfl) rowNod (eltNod (27 + (n + 1))) w6.heap.size (.slice sv xs.length sc) _ (xs := xs) (ys := [zeroN]) (news := [.int .i64 0, .slice none 0 0, .string ⟨#[]⟩, .slice none 0 0]) (by rfl) (by rfl) HRX10 (Nat.le_trans HIN.out.2 hb9.size) (src_node hz9 (oneV_node zeroN _ _ _ _ _ _) 1) (news_apart (rdNod_stable _ _) HRX10 (Nat.le_trans HIN.out.2 hb9.size) zero_news) hxl ?_)
    intro va10 y10 hra10 hba10 hga10 hor10
    obtain ⟨b10, o10, c10, la10, lc10, ka10, kc10, rfl, hbn10, hbl10, hbh10, hbf10, d0, d1, d2, d3, hcm10⟩ := rowx_last hra10
    have hap10 := app_apart hga10 hor10 HRB.out
    have HAP10 := Lib.hid (And.intro hap10 (And.intro hga10 hba10))
    clear hap10 hor10 hga10
    have HRA10 := Lib.hid hra10
    clear hra10
    have hob10 : y10.heap[(w.heap.size + 1)]? = some (.cells #[.slice sv xs.length sc] 33) := (hba10.block _ (by have := hZB; have := hbs10; omega)).trans (HBO.out _ hb9)
    obtain ⟨qo10, fo10⟩ := blk hob10
    have ne10 : ¬ b10 = (w.heap.size + 1) := by have := hZB; omega
    have hnb10 : b10 ≠ bb ∧ b10 ≠ w.heap.size := ⟨by omega, by omega⟩
    have nf10 : ¬ (w.heap.size + 1) = b10 := by have := hZB; omega
    have i310 : (0 : Int) ≤ ((xs.length : Nat) : Int) := Int.natCast_nonneg _
    have i410 : ((xs.length : Nat) : Int) < ((xs.length : Nat) : Int) + 1 := by omega
    refine hK.out _ _ (HAY.out _ hb9 y10 (HAX.out _ hb9) hba10) (Or.inr (by rw [qo10 0]; rfl)) ?_
    clear hK K
    try simp only [Act.put, qI, qX, qY]
    refine anyT_takeA (i := 8) (v := ?_) (by simp only [qA, qS, qZ]; rfl) (by kernel_rfl) (by kernel_rfl) (by kernel_rfl) (by kernel_rfl) (fun _ _ _ h => h) (Or.inl ⟨by rfl, ?_⟩) (HAY.out _ hb9 y10 (HAX.out _ hb9) hba10) (Or.inr (by rw [qo10 0]; rfl)) ?_
    rotate_left 1
    ·intro w hSw; (try dsimp only at hSw); go_simp; (first | done | with_reducible rfl)
    try simp only [Act.put, qI, qX, qY]
    refine anyT_ready (rs := [9, 10]) (by kernel_rfl) (by simp) ?_
    refine AllReadyT.cons (by simp only [qA, qS, qZ]; rfl) (fun K hK => ?_) ?_
    ·go_simp
     refine hK.out _ _ (HAS.out _ _ _ _ hnb10 (HAS.out _ _ _ _ hnb10 (HAS.out _ _ _ _ hnb10 (HAS.out _ _ _ _ hnb10 (HAY.out _ hb9 y10 (HAX.out _ hb9) hba10))))) (Or.inr ((setCell_block ne10).trans ((setCell_block ne10).trans ((setCell_block ne10).trans ((setCell_block ne10).trans (by rw [qo10 0]; rfl)))))) ?_
     clear hK K
     try simp only [Act.put, qI, qX, qY]
     refine anyT_ready (rs := [10]) (by kernel_rfl) (by simp) ?_
     refine AllReadyT.cons (by simp only [qA, qS, qZ]; rfl) (fun K hK => ?_) AllReadyT.nil
     go_simp
     refine hK.out _ _ (HAS.out _ _ _ _ hno (HAS.out _ _ _ _ hnb10 (HAS.out _ _ _ _ hnb10 (HAS.out _ _ _ _ hnb10 (HAS.out _ _ _ _ hnb10 (HAY.out _ hb9 y10 (HAX.out _ hb9) hba10)))))) (Or.inl (by kernel_rfl)) ?_
     clear hK K
     try simp only [Act.put, qI, qX, qY]
     refine anyT_done (by kernel_rfl) ?_ _
     refine hR.out _ _ ?_
     have hnode := node_ready (h := 27 + n) (n := (lineN (gr rowK) c)) (SliceR.nil _ _ _ _ _ _) ((nods_mono' (by omega) HK9.out).stable (rdNod_stable _ _) (Keeps.refl _ _) (fun d h _ => Nat.le_trans hb8.size h)) (Below.refl _ _) HAP10.out.1.1 HAP10.out.1.2 HIN.out.2
     have hfin := put_done (F := (FN lv n)) HIN.out.1 HIN.out.2 hB1 hB2 hB3 hwZ hb9 HRA10.out HAP10.out.2.2 HAP10.out.2.1 HRX10 HNE.out hbn10 hnode hob10 HT.out
     rw [← map_snoc] at hfin
     gi_wp2_with fail
     exact ⟨hfin.1 _, hfin.2⟩
    refine AllReadyT.cons (by simp only [qA, qS, qZ]; rfl) (fun K hK => ?_) ?_
    ·go_simp
     refine hK.out _ _ (HAS.out _ _ _ _ hno (HAY.out _ hb9 y10 (HAX.out _ hb9) hba10)) (Or.inl (by kernel_rfl)) ?_
     clear hK K
     try simp only [Act.put, qI, qX, qY]
     refine anyT_ready (rs := [9]) (by kernel_rfl) (by simp) ?_
     refine AllReadyT.cons (by simp only [qA, qS, qZ]; rfl) (fun K hK => ?_) AllReadyT.nil
     go_simp
     refine hK.out _ _ (HAS.out _ _ _ _ hnb10 (HAS.out _ _ _ _ hnb10 (HAS.out _ _ _ _ hnb10 (HAS.out _ _ _ _ hnb10 (HAS.out _ _ _ _ hno (HAY.out _ hb9 y10 (HAX.out _ hb9) hba10)))))) (Or.inl (by kernel_rfl)) ?_
     clear hK K
     try simp only [Act.put, qI, qX, qY]
     refine anyT_done (by kernel_rfl) ?_ _
     refine hR.out _ _ ?_
     have hnode := node_ready (h := 27 + n) (n := (lineN (gr rowK) c)) (SliceR.nil _ _ _ _ _ _) ((nods_mono' (by omega) HK9.out).stable (rdNod_stable _ _) (Keeps.refl _ _) (fun d h _ => Nat.le_trans hb8.size h)) (Below.refl _ _) HAP10.out.1.1 HAP10.out.1.2 HIN.out.2
     have hfin := put_done2 (F := (FN lv n)) HIN.out.1 HIN.out.2 hB1 hB2 hB3 hwZ hb9 HRA10.out HAP10.out.2.2 HAP10.out.2.1 HRX10 HNE.out hbn10 hnode hob10 HT.out
     rw [← map_snoc] at hfin
     gi_wp2_with fail
     exact ⟨hfin.1 _, hfin.2⟩
    exact AllReadyT.nil
   exact AllReadyT.nil
  ·have hq : (z != 0) = true := by rw [← hz]; simp [hs]
   have hall : ∀ y ∈ c :: P', stepL lv y ≠ 0 := fun y hy => by
    rcases List.mem_cons.1 hy with rfl | hy
    ·exact hs
    ·have := hcr y hy
     unfold stepR at this
     simp only [Bool.and_eq_true, decide_eq_true_eq] at this
     rw [← this.2]
     exact hs
   have hfor : ∀ y ∈ c :: P', LinFor (lv + 1) n y := fun y hy => by
    obtain ⟨g1, g2, g3, g4, g5, g6⟩ := HOK.out y (hsub y hy)
    have := (stepL_some (hall y hy)).1
    exact ⟨g1, g2, g3, g4, by omega, by omega⟩
   replace HT : Hid ((pre.map toX ++ [toX x]).flatMap (fun y => (FN lv n) (cutP d y.1)) = xs ++ [.mk z [] [] (hostL (lineN (gr rowK)) n (lv + 1) (c :: P'))]) := Lib.hid (by rw [HT.out, ← hz]; congr 1; unfold FN; exact if_pos hs)
   have hhl := host_len (lineN (gr rowK)) n (lv + 1) (c :: P')
   have hhf := host_fit n (lv + 1) (c :: P') (by omega) (fun y hy => by have := (hfor y hy).2.2.1; omega)
   have hlv1 : lv + 1 ≤ 1010 := by
    have h1 := (stepL_some hs).1
    have h2 := way_most c
    have h3 := hokc.2.2.2.1
    omega
   have hlw : IntKind.i64.wrap ((lv : Int) + 1) = (lv : Int) + 1 := by rw [IntKind.wrap_i64]; omega
   have HNo : Hid (∀ X, Below W.heap.size W X → Calls Tryz.prog 25 #[.slice (some ⟨bb, oo, none⟩) (P'.length + 1) pc, .int .i64 ((lv : Int) + 1)] X fun e X' => ∃ ka kc, e = .returned (.slice ka (hostL (lineN (gr rowK)) n (lv + 1) (c :: P')).length kc) ∧ NodsR true (27 + n) X' (fun b => X.heap.size ≤ b) (.slice ka (hostL (lineN (gr rowK)) n (lv + 1) (c :: P')).length kc) (hostL (lineN (gr rowK)) n (lv + 1) (c :: P')) ∧ Below X.heap.size X X') := Lib.hid fun X hX => (HI.out (lv + 1) _ (c :: P') X w S HPR.out (HBX.out X hX) (by simp) (by omega) hfor hlv1).mono fun _ _ ⟨k', h1, h2, h3⟩ => by
    obtain ⟨ka, kc, rfl⟩ := h2.slice
    exact ⟨ka, kc, h1, h2, h3⟩
   have HE : Hid (∀ X Y X0 ka kc, Below Y.heap.size Y X → NodsR true (27 + n) Y (fun b => X0 ≤ b) (.slice ka (hostL (lineN (gr rowK)) n (lv + 1) (c :: P')).length kc) (hostL (lineN (gr rowK)) n (lv + 1) (c :: P')) → Calls Tryz.prog 24 #[.int .i64 z, .slice ka (hostL (lineN (gr rowK)) n (lv + 1) (c :: P')).length kc] X fun e X' => ∃ ka kc, e = .returned (.agg #[.int .i64 z, .slice none 0 0, .string ⟨#[]⟩, .slice ka (hostL (lineN (gr rowK)) n (lv + 1) (c :: P')).length kc]) ∧ NodsR true (27 + n) X' (fun b => X.heap.size ≤ b) (.slice ka (hostL (lineN (gr rowK)) n (lv + 1) (c :: P')).length kc) (hostL (lineN (gr rowK)) n (lv + 1) (c :: P')) ∧ Below X.heap.size X X') := Lib.hid fun X Y X0 ka kc hyx hk => (elem_any (27 + n) z _ _ true X Y _ hk hyx (by omega) hhf).mono fun _ _ ⟨k', h1, h2, h3⟩ => by
    obtain ⟨ka, kc, rfl⟩ := h2.slice
    exact ⟨ka, kc, h1, h2, h3⟩
   clear hs hz hpr hcr hsub hokc hpx hRW hne hxs hxl0 hAt hP hP2 hpe hb HV hall hfor hlv1 HI HOK
   generalize hostL (lineN (gr rowK)) n (lv + 1) (c :: P') = G at *
   gi_wp2_with fail
   refine wpIn_region_T (fun w' => w'.cell? ⟨bb, oo, none⟩ = some (.int .i64 c.quote) ∧ w'.cell? ⟨bb, oo + 1, none⟩ = some (.slice la c.lists.length lc) ∧ w'.cell? ⟨bb, oo + 2, none⟩ = some (.int .i64 c.kind) ∧ w'.cell? ⟨bb, oo + 3, none⟩ = some (.slice ca c.cells.length cc) ∧ w'.cell? ⟨w.heap.size, 0, none⟩ = some (.int .i64 lv)) (fun w' => w'.cell? ⟨w.heap.size + 1, 0, none⟩ = some (.slice sv xs.length sc)) 99 (by kernel_rfl) (by kernel_rfl) (fun R hR => ?_)
   refine anyT_takeA (i := 0) (v := ?_) (by simp only [qA, qZ]; rfl) (by kernel_rfl) (by kernel_rfl) (by kernel_rfl) (by kernel_rfl) (fun _ _ _ h => h) (Or.inl ⟨by rfl, ?_⟩) (HAX.out _ hb0) (Or.inr (by rw [(blk (HBO.out _ hb0)).1 0]; rfl)) ?_
   rotate_left 1
   ·intro w hSw; (try dsimp only at hSw); go_simp; (first | done | with_reducible rfl)
   try simp only [Act.put, qI, qX, qY]
   refine anyT_takeA (i := 1) (v := ?_) (by simp only [qA, qS, qZ]; rfl) (by kernel_rfl) (by kernel_rfl) (by kernel_rfl) (by kernel_rfl) (fun _ _ _ h => h) (Or.inl ⟨by rfl, ?_⟩) (HAX.out _ hb0) (Or.inr (by rw [(blk (HBO.out _ hb0)).1 0]; rfl)) ?_
   rotate_left 1
   ·intro w hSw; (try dsimp only at hSw); go_simp; (first | done | with_reducible rfl)
   try simp only [Act.put, qI, qX, qY]
   refine anyT_takeA (i := 2) (v := ?_) (by simp only [qA, qS, qZ]; rfl) (by kernel_rfl) (by kernel_rfl) (by kernel_rfl) (by kernel_rfl) (fun _ _ _ h => h) (Or.inl ⟨by rfl, ?_⟩) (HAX.out _ hb0) (Or.inr (by rw [(blk (HBO.out _ hb0)).1 0]; rfl)) ?_
   rotate_left 1
   ·intro w hSw; (try dsimp only at hSw); go_simp; (first | done | with_reducible rfl)
   try simp only [Act.put, qI, qX, qY]
   refine anyT_takeA (i := 3) (v := ?_) (by simp only [qA, qS, qZ]; rfl) (by kernel_rfl) (by kernel_rfl) (by kernel_rfl) (by kernel_rfl) (fun _ _ _ h => h) (Or.inl ⟨by rfl, ?_⟩) (HAX.out _ hb0) (Or.inr (by rw [(blk (HBO.out _ hb0)).1 0]; rfl)) ?_
   rotate_left 1
   ·intro w hSw; (try dsimp only at hSw); go_simp; (first | done | with_reducible rfl)
   try simp only [Act.put, qI, qX, qY]
   refine anyT_ready (rs := [4]) (by kernel_rfl) (by simp) ?_
   refine AllReadyT.cons (by simp only [qA, qS, qZ]; rfl) (fun K hK => ?_) AllReadyT.nil
   go_simp
   refine (HSt.out _ hb0).mono ?_
   rintro e W2 ⟨rfl, hst2⟩
   have hbW2 : Below W.heap.size W W2 := below_from hb0 hst2
   refine hK.out _ _ (HAX.out _ hbW2) (Or.inr (by rw [(blk (HBO.out _ hbW2)).1 0]; rfl)) ?_
   clear hK K
   try simp only [Act.put, qI, qX, qY]
   refine anyT_takeA (i := 5) (v := ?_) (by simp only [qA, qS, qZ]; rfl) (by kernel_rfl) (by kernel_rfl) (by kernel_rfl) (by kernel_rfl) (fun _ _ _ h => h) (Or.inl ⟨by rfl, ?_⟩) (HAX.out _ hbW2) (Or.inr (by rw [(blk (HBO.out _ hbW2)).1 0]; rfl)) ?_
   rotate_left 1
   ·intro w hSw; (try dsimp only at hSw); go_simp; (first | done | with_reducible rfl)
   try simp only [Act.put, qI, qX, qY]
   refine anyT_done (by kernel_rfl) ?_ _
   refine hR.out _ _ ?_
   have hb0 : Below W.heap.size W W2.drew := hbW2.drew
   have hr0 : Below W2.heap.size W2 W2.drew := (Below.refl _ _).drew
   gi_wp2_with fail
   refine wpIn_region_T (fun w' => w'.cell? ⟨bb, oo, none⟩ = some (.int .i64 c.quote) ∧ w'.cell? ⟨bb, oo + 1, none⟩ = some (.slice la c.lists.length lc) ∧ w'.cell? ⟨bb, oo + 2, none⟩ = some (.int .i64 c.kind) ∧ w'.cell? ⟨bb, oo + 3, none⟩ = some (.slice ca c.cells.length cc) ∧ w'.cell? ⟨w.heap.size, 0, none⟩ = some (.int .i64 lv)) (fun w' => w'.cell? ⟨w.heap.size + 1, 0, none⟩ = some (.slice sv xs.length sc)) 12 (by kernel_rfl) (by kernel_rfl) (fun R hR => ?_)
   refine anyT_takeA (i := 1) (v := ?_) (by simp only [qA, qS, qZ]; rfl) (by kernel_rfl) (by kernel_rfl) (by kernel_rfl) (by kernel_rfl) (fun _ _ _ h => h) (Or.inl ⟨by rfl, ?_⟩) (HAX.out _ hb0) (Or.inr (by rw [(blk (HBO.out _ hb0)).1 0]; rfl)) ?_
   rotate_left 1
   ·intro w hSw; (try dsimp only at hSw); go_simp; (first | done | with_reducible rfl)
   try simp only [Act.put, qI, qX, qY]
   refine anyT_takeA (i := 2) (v := ?_) (by simp only [qA, qS, qZ]; rfl) (by kernel_rfl) (by kernel_rfl) (by kernel_rfl) (by kernel_rfl) (fun _ _ _ h => h) (Or.inl ⟨by rfl, ?_⟩) (HAX.out _ hb0) (Or.inr (by rw [(blk (HBO.out _ hb0)).1 0]; rfl)) ?_
   rotate_left 1
   ·intro w hSw; (try dsimp only at hSw); go_simp; (first | done | with_reducible rfl)
   try simp only [Act.put, qI, qX, qY]
   refine anyT_takeA (i := 3) (v := ?_) (by simp only [qA, qS, qZ]; rfl) (by kernel_rfl) (by kernel_rfl) (by kernel_rfl) (by kernel_rfl) (fun _ _ _ h => h) (Or.inl ⟨by rfl, ?_⟩) (HAX.out _ hb0) (Or.inr (by rw [(blk (HBO.out _ hb0)).1 0]; rfl)) ?_
   rotate_left 1
   ·intro w hSw; (try dsimp only at hSw); go_simp; (first | done | with_reducible rfl)
   try simp only [Act.put, qI, qX, qY]
   refine anyT_takeA (i := 4) (v := ?_) (by simp only [qA, qS, qZ]; rfl) (by kernel_rfl) (by kernel_rfl) (by kernel_rfl) (by kernel_rfl) (fun _ _ _ h => h) (Or.inl ⟨by rfl, ?_⟩) (HAX.out _ hb0) (Or.inr (by rw [(blk (HBO.out _ hb0)).1 0]; rfl)) ?_
   rotate_left 1
   ·intro w hSw; (try dsimp only at hSw); go_simp; (first | done | with_reducible rfl)
   try simp only [Act.put, qI, qX, qY]
   refine anyT_take (i := 0) (v := ?_) (by simp only [qA, qZ]; rfl) (by kernel_rfl) (by kernel_rfl) (by kernel_rfl) (by kernel_rfl) (fun _ _ _ h => h) (Or.inl ⟨by rfl, ?_⟩) ⟨HAX.out _ hb0, by rw [(blk (HBO.out _ hb0)).1 0]; rfl⟩ ?_
   rotate_left 1
   ·intro w hSw; (try dsimp only at hSw); go_simp; (first | done | with_reducible rfl)
   try simp only [Act.put, qI, qX, qY]
   refine anyT_take (i := 7) (v := ?_) (by simp only [qA, qS, qZ]; rfl) (by kernel_rfl) (by kernel_rfl) (by kernel_rfl) (by kernel_rfl) (fun _ _ _ h => h) (Or.inl ⟨by rfl, ?_⟩) ⟨HAX.out _ hb0, by rw [(blk (HBO.out _ hb0)).1 0]; rfl⟩ ?_
   rotate_left 1
   ·intro w hSw; (try dsimp only at hSw); go_simp; (first | done | with_reducible rfl)
   try simp only [Act.put, qI, qX, qY]
   refine anyT_ready (rs := [5, 8]) (by kernel_rfl) (by simp) ?_
   refine AllReadyT.cons (by simp only [qA, qS, qZ]; rfl) (fun K hK => ?_) ?_
   ·go_simp
    refine (HNo.out _ hb0).mono ?_
    rintro e x1 ⟨sa1, sc1, rfl, hk1, hst1⟩
    have HK1 := Lib.hid hk1
    clear hk1
    have hb1 : Below W.heap.size W x1 := below_from hb0 hst1
    have hr1 : Below W2.heap.size W2 x1 := below_from hr0 hst1
    refine hK.out _ _ (HAX.out _ hb1) (Or.inr (by rw [(blk (HBO.out _ hb1)).1 0]; rfl)) ?_
    clear hK K
    try simp only [Act.put, qI, qX, qY]
    refine anyT_ready (rs := [6, 8]) (by kernel_rfl) (by simp) ?_
    refine AllReadyT.cons (by simp only [qA, qS, qZ]; rfl) (fun K hK => ?_) ?_
    ·go_simp
     refine (HE.out _ _ _ _ _ (by first | exact Below.refl _ _ | assumption) HK1.out).mono ?_
     rintro e x2 ⟨sa2, sc2, rfl, hk2, hst2⟩
     have HK2 := Lib.hid hk2
     clear hk2
     have hb2 : Below W.heap.size W x2 := below_from hb1 hst2
     have hr2 : Below W2.heap.size W2 x2 := below_from hr1 hst2
     refine hK.out _ _ (HAX.out _ hb2) (Or.inr (by rw [(blk (HBO.out _ hb2)).1 0]; rfl)) ?_
     clear hK K
     try simp only [Act.put, qI, qX, qY]
     refine anyT_ready (rs := [8]) (by kernel_rfl) (by simp) ?_
     refine AllReadyT.cons (by simp only [qA, qS, qZ]; rfl) (fun K hK => ?_) AllReadyT.nil
     go_simp
     obtain ⟨x3, hx3⟩ : ∃ X, (x2.alloc (.cells #[.int .i64 0, .slice none 0 0, .string ⟨#[]⟩, .slice none 0 0] 35)) = X := ⟨_, rfl⟩
     have hst3 : Below x2.heap.size x2 x3 := hx3 ▸ (Below.refl _ _).alloc (Nat.le_refl _) _
     have hz3 : x3.heap[x2.heap.size]? = some (.cells #[.int .i64 0, .slice none 0 0, .string ⟨#[]⟩, .slice none 0 0] 35) := hx3 ▸ heap_new _ _ rfl
     rw [hx3]
     clear hx3
     have hb3 : Below W.heap.size W x3 := below_from hb2 hst3
     have hr3 : Below W2.heap.size W2 x3 := below_from hr2 hst3
     refine hK.out _ _ (HAX.out _ hb3) (Or.inr (by rw [(blk (HBO.out _ hb3)).1 0]; rfl)) ?_
     clear hK K
     try simp only [Act.put, qI, qX, qY]
     refine anyT_ready (rs := [9]) (by kernel_rfl) (by simp) ?_
     refine AllReadyT.cons (by simp only [qA, qS, qZ]; rfl) (fun K hK => ?_) AllReadyT.nil
     have hbs4 := hb3.size
     have HRX4 := HRW.out _ hb3
     (refine step_append_X (by rfl) _ _ 33 33 (by rfl) rowNod (eltNod (27 + (n + 1))) w6.heap.size (.slice sv xs.length sc) _ (xs := xs) (ys := [zeroN]) (news := [.int .i64 0, .slice none 0 0, .string ⟨#[]⟩, .slice none 0 0]) (by rfl) (by rfl) HRX4 (Nat.le_trans HIN.out.2 hb3.size) (src_node hz3 (oneV_node zeroN _ _ _ _ _ _) 1) (news_apart (rdNod_stable _ _) HRX4 (Nat.le_trans HIN.out.2 hb3.size) zero_news) hxl ?_)
     intro va4 y4 hra4 hba4 hga4 hor4
     obtain ⟨b4, o4, c4, la4, lc4, ka4, kc4, rfl, hbn4, hbl4, hbh4, hbf4, d0, d1, d2, d3, hcm4⟩ := rowx_last hra4
     have hap4 := app_apart hga4 hor4 HRB.out
     have HAP4 := Lib.hid (And.intro hap4 (And.intro hga4 hba4))
     clear hap4 hor4 hga4
     have HRA4 := Lib.hid hra4
     clear hra4
     have hob4 : y4.heap[(w.heap.size + 1)]? = some (.cells #[.slice sv xs.length sc] 33) := (hba4.block _ (by have := hZB; have := hbs4; omega)).trans (HBO.out _ hb3)
     obtain ⟨qo4, fo4⟩ := blk hob4
     have ne4 : ¬ b4 = (w.heap.size + 1) := by have := hZB; omega
     have hnb4 : b4 ≠ bb ∧ b4 ≠ w.heap.size := ⟨by omega, by omega⟩
     have nf4 : ¬ (w.heap.size + 1) = b4 := by have := hZB; omega
     have i34 : (0 : Int) ≤ ((xs.length : Nat) : Int) := Int.natCast_nonneg _
     have i44 : ((xs.length : Nat) : Int) < ((xs.length : Nat) : Int) + 1 := by omega
     refine hK.out _ _ (HAY.out _ hb3 y4 (HAX.out _ hb3) hba4) (Or.inr (by rw [qo4 0]; rfl)) ?_
     clear hK K
     try simp only [Act.put, qI, qX, qY]
     refine anyT_takeA (i := 10) (v := ?_) (by simp only [qA, qS, qZ]; rfl) (by kernel_rfl) (by kernel_rfl) (by kernel_rfl) (by kernel_rfl) (fun _ _ _ h => h) (Or.inl ⟨by rfl, ?_⟩) (HAY.out _ hb3 y4 (HAX.out _ hb3) hba4) (Or.inr (by rw [qo4 0]; rfl)) ?_
     rotate_left 1
     ·intro w hSw; (try dsimp only at hSw); go_simp; (first | done | with_reducible rfl)
     try simp only [Act.put, qI, qX, qY]
     refine anyT_ready (rs := [11, 12]) (by kernel_rfl) (by simp) ?_
     refine AllReadyT.cons (by simp only [qA, qS, qZ]; rfl) (fun K hK => ?_) ?_
     ·go_simp
      refine hK.out _ _ (HAS.out _ _ _ _ hnb4 (HAS.out _ _ _ _ hnb4 (HAS.out _ _ _ _ hnb4 (HAS.out _ _ _ _ hnb4 (HAY.out _ hb3 y4 (HAX.out _ hb3) hba4))))) (Or.inr ((setCell_block ne4).trans ((setCell_block ne4).trans ((setCell_block ne4).trans ((setCell_block ne4).trans (by rw [qo4 0]; rfl)))))) ?_
      clear hK K
      try simp only [Act.put, qI, qX, qY]
      refine anyT_ready (rs := [12]) (by kernel_rfl) (by simp) ?_
      refine AllReadyT.cons (by simp only [qA, qS, qZ]; rfl) (fun K hK => ?_) AllReadyT.nil
      go_simp
      refine hK.out _ _ (HAS.out _ _ _ _ hno (HAS.out _ _ _ _ hnb4 (HAS.out _ _ _ _ hnb4 (HAS.out _ _ _ _ hnb4 (HAS.out _ _ _ _ hnb4 (HAY.out _ hb3 y4 (HAX.out _ hb3) hba4)))))) (Or.inl (by kernel_rfl)) ?_
      clear hK K
      try simp only [Act.put, qI, qX, qY]
      refine anyT_done (by kernel_rfl) ?_ _
      refine hR.out _ _ ?_
      have hnode := node_ready (h := 27 + n) (n := (.mk z [] [] G)) (SliceR.nil _ _ _ _ _ _) (HK2.out.stable (rdNod_stable _ _) (Keeps.refl _ _) (fun d h _ => Nat.le_trans hb1.size h)) (below_from (Below.refl _ _) hst3) HAP4.out.1.1 HAP4.out.1.2 HIN.out.2
      have hfin := put_done (F := (FN lv n)) HIN.out.1 HIN.out.2 hB1 hB2 hB3 hwZ hb3 HRA4.out HAP4.out.2.2 HAP4.out.2.1 HRX4 HNE.out hbn4 hnode hob4 HT.out
      rw [← map_snoc] at hfin
      gi_wp2_with fail
      exact ⟨hfin.1 _, hfin.2⟩
     refine AllReadyT.cons (by simp only [qA, qS, qZ]; rfl) (fun K hK => ?_) ?_
     ·go_simp
      refine hK.out _ _ (HAS.out _ _ _ _ hno (HAY.out _ hb3 y4 (HAX.out _ hb3) hba4)) (Or.inl (by kernel_rfl)) ?_
      clear hK K
      try simp only [Act.put, qI, qX, qY]
      refine anyT_ready (rs := [11]) (by kernel_rfl) (by simp) ?_
      refine AllReadyT.cons (by simp only [qA, qS, qZ]; rfl) (fun K hK => ?_) AllReadyT.nil
      go_simp
      refine hK.out _ _ (HAS.out _ _ _ _ hnb4 (HAS.out _ _ _ _ hnb4 (HAS.out _ _ _ _ hnb4 (HAS.out _ _ _ _ hnb4 (HAS.out _ _ _ _ hno (HAY.out _ hb3 y4 (HAX.out _ hb3) hba4)))))) (Or.inl (by kernel_rfl)) ?_
      clear hK K
      try simp only [Act.put, qI, qX, qY]
      refine anyT_done (by kernel_rfl) ?_ _
      refine hR.out _ _ ?_
      have hnode := node_ready (h := 27 + n) (n := (.mk z [] [] G)) (SliceR.nil _ _ _ _ _ _) (HK2.out.stable (rdNod_stable _ _) (Keeps.refl _ _) (fun d h _ => Nat.le_trans hb1.size h)) (below_from (Below.refl _ _) hst3) HAP4.out.1.1 HAP4.out.1.2 HIN.out.2
      have hfin := put_done2 (F := (FN lv n)) HIN.out.1 HIN.out.2 hB1 hB2 hB3 hwZ hb3 HRA4.out HAP4.out.2.2 HAP4.out.2.1 HRX4 HNE.out hbn4 hnode hob4 HT.out
      rw [← map_snoc] at hfin
      gi_wp2_with fail
      exact ⟨hfin.1 _, hfin.2⟩
     exact AllReadyT.nil
    refine AllReadyT.cons (by simp only [qA, qS, qZ]; rfl) (fun K hK => ?_) ?_
    ·go_simp
     obtain ⟨x9, hx9⟩ : ∃ X, (x1.alloc (.cells #[.int .i64 0, .slice none 0 0, .string ⟨#[]⟩, .slice none 0 0] 35)) = X := ⟨_, rfl⟩
     have hst9 : Below x1.heap.size x1 x9 := hx9 ▸ (Below.refl _ _).alloc (Nat.le_refl _) _
     have hz9 : x9.heap[x1.heap.size]? = some (.cells #[.int .i64 0, .slice none 0 0, .string ⟨#[]⟩, .slice none 0 0] 35) := hx9 ▸ heap_new _ _ rfl
     rw [hx9]
     clear hx9
     have hb9 : Below W.heap.size W x9 := below_from hb1 hst9
     have hr9 : Below W2.heap.size W2 x9 := below_from hr1 hst9
     refine hK.out _ _ (HAX.out _ hb9) (Or.inr (by rw [(blk (HBO.out _ hb9)).1 0]; rfl)) ?_
     clear hK K
     try simp only [Act.put, qI, qX, qY]
     refine anyT_ready (rs := [6]) (by kernel_rfl) (by simp) ?_
     refine AllReadyT.cons (by simp only [qA, qS, qZ]; rfl) (fun K hK => ?_) AllReadyT.nil
     go_simp
     refine (HE.out _ _ _ _ _ (by first | exact Below.refl _ _ | assumption) HK1.out).mono ?_
     rintro e x10 ⟨sa10, sc10, rfl, hk10, hst10⟩
     have HK10 := Lib.hid hk10
     clear hk10
     have hb10 : Below W.heap.size W x10 := below_from hb9 hst10
     have hr10 : Below W2.heap.size W2 x10 := below_from hr9 hst10
     have hz10 := heap_below hst10 hz9
     refine hK.out _ _ (HAX.out _ hb10) (Or.inr (by rw [(blk (HBO.out _ hb10)).1 0]; rfl)) ?_
     clear hK K
     try simp only [Act.put, qI, qX, qY]
     refine anyT_ready (rs := [9]) (by kernel_rfl) (by simp) ?_
     refine AllReadyT.cons (by simp only [qA, qS, qZ]; rfl) (fun K hK => ?_) AllReadyT.nil
     have hbs11 := hb10.size
     have HRX11 := HRW.out _ hb10
     (refine step_append_X (by rfl) _ _ 33 33 (by rfl) rowNod (eltNod (27 + (n + 1))) w6.heap.size (.slice sv xs.length sc) _ (xs := xs) (ys := [zeroN]) (news := [.int .i64 0, .slice none 0 0, .string ⟨#[]⟩, .slice none 0 0]) (by rfl) (by rfl) HRX11 (Nat.le_trans HIN.out.2 hb10.size) (src_node hz10 (oneV_node zeroN _ _ _ _ _ _) 1) (news_apart (rdNod_stable _ _) HRX11 (Nat.le_trans HIN.out.2 hb10.size) zero_news) hxl ?_)
     intro va11 y11 hra11 hba11 hga11 hor11
     obtain ⟨b11, o11, c11, la11, lc11, ka11, kc11, rfl, hbn11, hbl11, hbh11, hbf11, d0, d1, d2, d3, hcm11⟩ := rowx_last hra11
     have hap11 := app_apart hga11 hor11 HRB.out
     have HAP11 := Lib.hid (And.intro hap11 (And.intro hga11 hba11))
     clear hap11 hor11 hga11
     have HRA11 := Lib.hid hra11
     clear hra11
     have hob11 : y11.heap[(w.heap.size + 1)]? = some (.cells #[.slice sv xs.length sc] 33) := (hba11.block _ (by have := hZB; have := hbs11; omega)).trans (HBO.out _ hb10)
     obtain ⟨qo11, fo11⟩ := blk hob11
     have ne11 : ¬ b11 = (w.heap.size + 1) := by have := hZB; omega
     have hnb11 : b11 ≠ bb ∧ b11 ≠ w.heap.size := ⟨by omega, by omega⟩
     have nf11 : ¬ (w.heap.size + 1) = b11 := by have := hZB; omega
     have i311 : (0 : Int) ≤ ((xs.length : Nat) : Int) := Int.natCast_nonneg _
     have i411 : ((xs.length : Nat) : Int) < ((xs.length : Nat) : Int) + 1 := by omega
     refine hK.out _ _ (HAY.out _ hb10 y11 (HAX.out _ hb10) hba11) (Or.inr (by rw [qo11 0]; rfl)) ?_
     clear hK K
     try simp only [Act.put, qI, qX, qY]
     refine anyT_takeA (i := 10) (v := ?_) (by simp only [qA, qS, qZ]; rfl) (by kernel_rfl) (by kernel_rfl) (by kernel_rfl) (by kernel_rfl) (fun _ _ _ h => h) (Or.inl ⟨by rfl, ?_⟩) (HAY.out _ hb10 y11 (HAX.out _ hb10) hba11) (Or.inr (by rw [qo11 0]; rfl)) ?_
     rotate_left 1
     ·intro w hSw; (try dsimp only at hSw); go_simp; (first | done | with_reducible rfl)
     try simp only [Act.put, qI, qX, qY]
     refine anyT_ready (rs := [11, 12]) (by kernel_rfl) (by simp) ?_
     refine AllReadyT.cons (by simp only [qA, qS, qZ]; rfl) (fun K hK => ?_) ?_
     ·go_simp
      refine hK.out _ _ (HAS.out _ _ _ _ hnb11 (HAS.out _ _ _ _ hnb11 (HAS.out _ _ _ _ hnb11 (HAS.out _ _ _ _ hnb11 (HAY.out _ hb10 y11 (HAX.out _ hb10) hba11))))) (Or.inr ((setCell_block ne11).trans ((setCell_block ne11).trans ((setCell_block ne11).trans ((setCell_block ne11).trans (by rw [qo11 0]; rfl)))))) ?_
      clear hK K
      try simp only [Act.put, qI, qX, qY]
      refine anyT_ready (rs := [12]) (by kernel_rfl) (by simp) ?_
      refine AllReadyT.cons (by simp only [qA, qS, qZ]; rfl) (fun K hK => ?_) AllReadyT.nil
      go_simp
      refine hK.out _ _ (HAS.out _ _ _ _ hno (HAS.out _ _ _ _ hnb11 (HAS.out _ _ _ _ hnb11 (HAS.out _ _ _ _ hnb11 (HAS.out _ _ _ _ hnb11 (HAY.out _ hb10 y11 (HAX.out _ hb10) hba11)))))) (Or.inl (by kernel_rfl)) ?_
      clear hK K
      try simp only [Act.put, qI, qX, qY]
      refine anyT_done (by kernel_rfl) ?_ _
      refine hR.out _ _ ?_
      have hnode := node_ready (h := 27 + n) (n := (.mk z [] [] G)) (SliceR.nil _ _ _ _ _ _) (HK10.out.stable (rdNod_stable _ _) (Keeps.refl _ _) (fun d h _ => Nat.le_trans hb9.size h)) (Below.refl _ _) HAP11.out.1.1 HAP11.out.1.2 HIN.out.2
      have hfin := put_done (F := (FN lv n)) HIN.out.1 HIN.out.2 hB1 hB2 hB3 hwZ hb10 HRA11.out HAP11.out.2.2 HAP11.out.2.1 HRX11 HNE.out hbn11 hnode hob11 HT.out
      rw [← map_snoc] at hfin
      gi_wp2_with fail
      exact ⟨hfin.1 _, hfin.2⟩
     refine AllReadyT.cons (by simp only [qA, qS, qZ]; rfl) (fun K hK => ?_) ?_
     ·go_simp
      refine hK.out _ _ (HAS.out _ _ _ _ hno (HAY.out _ hb10 y11 (HAX.out _ hb10) hba11)) (Or.inl (by kernel_rfl)) ?_
      clear hK K
      try simp only [Act.put, qI, qX, qY]
      refine anyT_ready (rs := [11]) (by kernel_rfl) (by simp) ?_
      refine AllReadyT.cons (by simp only [qA, qS, qZ]; rfl) (fun K hK => ?_) AllReadyT.nil
      go_simp
      refine hK.out _ _ (HAS.out _ _ _ _ hnb11 (HAS.out _ _ _ _ hnb11 (HAS.out _ _ _ _ hnb11 (HAS.out _ _ _ _ hnb11 (HAS.out _ _ _ _ hno (HAY.out _ hb10 y11 (HAX.out _ hb10) hba11)))))) (Or.inl (by kernel_rfl)) ?_
      clear hK K
      try simp only [Act.put, qI, qX, qY]
      refine anyT_done (by kernel_rfl) ?_ _
      refine hR.out _ _ ?_
      have hnode := node_ready (h := 27 + n) (n := (.mk z [] [] G)) (SliceR.nil _ _ _ _ _ _) (HK10.out.stable (rdNod_stable _ _) (Keeps.refl _ _) (fun d h _ => Nat.le_trans hb9.size h)) (Below.refl _ _) HAP11.out.1.1 HAP11.out.1.2 HIN.out.2
      have hfin := put_done2 (F := (FN lv n)) HIN.out.1 HIN.out.2 hB1 hB2 hB3 hwZ hb10 HRA11.out HAP11.out.2.2 HAP11.out.2.1 HRX11 HNE.out hbn11 hnode hob11 HT.out
      rw [← map_snoc] at hfin
      gi_wp2_with fail
      exact ⟨hfin.1 _, hfin.2⟩
     exact AllReadyT.nil
    exact AllReadyT.nil
   refine AllReadyT.cons (by simp only [qA, qS, qZ]; rfl) (fun K hK => ?_) ?_
   ·go_simp
    obtain ⟨x16, hx16⟩ : ∃ X, (W2.alloc (.cells #[.int .i64 0, .slice none 0 0, .string ⟨#[]⟩, .slice none 0 0] 35)).drew = X := ⟨_, rfl⟩
    have hst16 : Below W2.heap.size W2 x16 := hx16 ▸ ((Below.refl _ _).alloc (Nat.le_refl _) _).drew
    have hz16 : x16.heap[W2.heap.size]? = some (.cells #[.int .i64 0, .slice none 0 0, .string ⟨#[]⟩, .slice none 0 0] 35) := hx16 ▸ (show ((W2.alloc (.cells #[.int .i64 0, .slice none 0 0, .string ⟨#[]⟩, .slice none 0 0] 35)).drew).heap[W2.heap.size]? = _ from heap_new _ _ rfl)
    rw [hx16]
    clear hx16
    have hb16 : Below W.heap.size W x16 := below_from hbW2 hst16
    have hr16 : Below W2.heap.size W2 x16 := hst16
    refine hK.out _ _ (HAX.out _ hb16) (Or.inr (by rw [(blk (HBO.out _ hb16)).1 0]; rfl)) ?_
    clear hK K
    try simp only [Act.put, qI, qX, qY]
    refine anyT_ready (rs := [5]) (by kernel_rfl) (by simp) ?_
    refine AllReadyT.cons (by simp only [qA, qS, qZ]; rfl) (fun K hK => ?_) AllReadyT.nil
    go_simp
    refine (HNo.out _ hb16).mono ?_
    rintro e x17 ⟨sa17, sc17, rfl, hk17, hst17⟩
    have HK17 := Lib.hid hk17
    clear hk17
    have hb17 : Below W.heap.size W x17 := below_from hb16 hst17
    have hr17 : Below W2.heap.size W2 x17 := below_from hr16 hst17
    have hz17 := heap_below hst17 hz16
    refine hK.out _ _ (HAX.out _ hb17) (Or.inr (by rw [(blk (HBO.out _ hb17)).1 0]; rfl)) ?_
    clear hK K
    try simp only [Act.put, qI, qX, qY]
    refine anyT_ready (rs := [6]) (by kernel_rfl) (by simp) ?_
    refine AllReadyT.cons (by simp only [qA, qS, qZ]; rfl) (fun K hK => ?_) AllReadyT.nil
    go_simp
    refine (HE.out _ _ _ _ _ (by first | exact Below.refl _ _ | assumption) HK17.out).mono ?_
    rintro e x18 ⟨sa18, sc18, rfl, hk18, hst18⟩
    have HK18 := Lib.hid hk18
    clear hk18
    have hb18 : Below W.heap.size W x18 := below_from hb17 hst18
    have hr18 : Below W2.heap.size W2 x18 := below_from hr17 hst18
    have hz18 := heap_below hst18 hz17
    refine hK.out _ _ (HAX.out _ hb18) (Or.inr (by rw [(blk (HBO.out _ hb18)).1 0]; rfl)) ?_
    clear hK K
    try simp only [Act.put, qI, qX, qY]
    refine anyT_ready (rs := [9]) (by kernel_rfl) (by simp) ?_
    refine AllReadyT.cons (by simp only [qA, qS, qZ]; rfl) (fun K hK => ?_) AllReadyT.nil
    have hbs19 := hb18.size
    have HRX19 := HRW.out _ hb18
    (refine step_append_X (by rfl) _ _ 33 33 (by rfl) rowNod (eltNod (27 + (n + 1))) w6.heap.size (.slice sv xs.length sc) _ (xs := xs) (ys := [zeroN]) (news := [.int .i64 0, .slice none 0 0, .string ⟨#[]⟩, .slice none 0 0]) (by rfl) (by rfl) HRX19 (Nat.le_trans HIN.out.2 hb18.size) (src_node hz18 (oneV_node zeroN _ _ _ _ _ _) 1) (news_apart (rdNod_stable _ _) HRX19 (Nat.le_trans HIN.out.2 hb18.size) zero_news) hxl ?_)
    intro va19 y19 hra19 hba19 hga19 hor19
    obtain ⟨b19, o19, c19, la19, lc19, ka19, kc19, rfl, hbn19, hbl19, hbh19, hbf19, d0, d1, d2, d3, hcm19⟩ := rowx_last hra19
    have hap19 := app_apart hga19 hor19 HRB.out
    have HAP19 := Lib.hid (And.intro hap19 (And.intro hga19 hba19))
    clear hap19 hor19 hga19
    have HRA19 := Lib.hid hra19
    clear hra19
    have hob19 : y19.heap[(w.heap.size + 1)]? = some (.cells #[.slice sv xs.length sc] 33) := (hba19.block _ (by have := hZB; have := hbs19; omega)).trans (HBO.out _ hb18)
    obtain ⟨qo19, fo19⟩ := blk hob19
    have ne19 : ¬ b19 = (w.heap.size + 1) := by have := hZB; omega
    have hnb19 : b19 ≠ bb ∧ b19 ≠ w.heap.size := ⟨by omega, by omega⟩
    have nf19 : ¬ (w.heap.size + 1) = b19 := by have := hZB; omega
    have i319 : (0 : Int) ≤ ((xs.length : Nat) : Int) := Int.natCast_nonneg _
    have i419 : ((xs.length : Nat) : Int) < ((xs.length : Nat) : Int) + 1 := by omega
    refine hK.out _ _ (HAY.out _ hb18 y19 (HAX.out _ hb18) hba19) (Or.inr (by rw [qo19 0]; rfl)) ?_
    clear hK K
    try simp only [Act.put, qI, qX, qY]
    refine anyT_takeA (i := 10) (v := ?_) (by simp only [qA, qS, qZ]; rfl) (by kernel_rfl) (by kernel_rfl) (by kernel_rfl) (by kernel_rfl) (fun _ _ _ h => h) (Or.inl ⟨by rfl, ?_⟩) (HAY.out _ hb18 y19 (HAX.out _ hb18) hba19) (Or.inr (by rw [qo19 0]; rfl)) ?_
    rotate_left 1
    ·intro w hSw; (try dsimp only at hSw); go_simp; (first | done | with_reducible rfl)
    try simp only [Act.put, qI, qX, qY]
    refine anyT_ready (rs := [11, 12]) (by kernel_rfl) (by simp) ?_
    refine AllReadyT.cons (by simp only [qA, qS, qZ]; rfl) (fun K hK => ?_) ?_
    ·go_simp
     refine hK.out _ _ (HAS.out _ _ _ _ hnb19 (HAS.out _ _ _ _ hnb19 (HAS.out _ _ _ _ hnb19 (HAS.out _ _ _ _ hnb19 (HAY.out _ hb18 y19 (HAX.out _ hb18) hba19))))) (Or.inr ((setCell_block ne19).trans ((setCell_block ne19).trans ((setCell_block ne19).trans ((setCell_block ne19).trans (by rw [qo19 0]; rfl)))))) ?_
     clear hK K
     try simp only [Act.put, qI, qX, qY]
     refine anyT_ready (rs := [12]) (by kernel_rfl) (by simp) ?_
     refine AllReadyT.cons (by simp only [qA, qS, qZ]; rfl) (fun K hK => ?_) AllReadyT.nil
     go_simp
     refine hK.out _ _ (HAS.out _ _ _ _ hno (HAS.out _ _ _ _ hnb19 (HAS.out _ _ _ _ hnb19 (HAS.out _ _ _ _ hnb19 (HAS.out _ _ _ _ hnb19 (HAY.out _ hb18 y19 (HAX.out _ hb18) hba19)))))) (Or.inl (by kernel_rfl)) ?_
     clear hK K
     try simp only [Act.put, qI, qX, qY]
     refine anyT_done (by kernel_rfl) ?_ _
     refine hR.out _ _ ?_
     have hnode := node_ready (h := 27 + n) (n := (.mk z [] [] G)) (SliceR.nil _ _ _ _ _ _) (HK18.out.stable (rdNod_stable _ _) (Keeps.refl _ _) (fun d h _ => Nat.le_trans hb17.size h)) (Below.refl _ _) HAP19.out.1.1 HAP19.out.1.2 HIN.out.2
     have hfin := put_done (F := (FN lv n)) HIN.out.1 HIN.out.2 hB1 hB2 hB3 hwZ hb18 HRA19.out HAP19.out.2.2 HAP19.out.2.1 HRX19 HNE.out hbn19 hnode hob19 HT.out
     rw [← map_snoc] at hfin
     gi_wp2_with fail
     exact ⟨hfin.1 _, hfin.2⟩
    refine AllReadyT.cons (by simp only [qA, qS, qZ]; rfl) (fun K hK => ?_) ?_
    ·go_simp
     refine hK.out _ _ (HAS.out _ _ _ _ hno (HAY.out _ hb18 y19 (HAX.out _ hb18) hba19)) (Or.inl (by kernel_rfl)) ?_
     clear hK K
     try simp only [Act.put, qI, qX, qY]
     refine anyT_ready (rs := [11]) (by kernel_rfl) (by simp) ?_
     refine AllReadyT.cons (by simp only [qA, qS, qZ]; rfl) (fun K hK => ?_) AllReadyT.nil
     go_simp
     refine hK.out _ _ (HAS.out _ _ _ _ hnb19 (HAS.out _ _ _ _ hnb19 (HAS.out _ _ _ _ hnb19 (HAS.out _ _ _ _ hnb19 (HAS.out _ _ _ _ hno (HAY.out _ hb18 y19 (HAX.out _ hb18) hba19)))))) (Or.inl (by kernel_rfl)) ?_
     clear hK K
     try simp only [Act.put, qI, qX, qY]
     refine anyT_done (by kernel_rfl) ?_ _
     refine hR.out _ _ ?_
     have hnode := node_ready (h := 27 + n) (n := (.mk z [] [] G)) (SliceR.nil _ _ _ _ _ _) (HK18.out.stable (rdNod_stable _ _) (Keeps.refl _ _) (fun d h _ => Nat.le_trans hb17.size h)) (Below.refl _ _) HAP19.out.1.1 HAP19.out.1.2 HIN.out.2
     have hfin := put_done2 (F := (FN lv n)) HIN.out.1 HIN.out.2 hB1 hB2 hB3 hwZ hb18 HRA19.out HAP19.out.2.2 HAP19.out.2.1 HRX19 HNE.out hbn19 hnode hob19 HT.out
     rw [← map_snoc] at hfin
     gi_wp2_with fail
     exact ⟨hfin.1 _, hfin.2⟩
    exact AllReadyT.nil
   exact AllReadyT.nil
 case done =>
  rintro D ys W hD hys ⟨v9, t0, hR, hne, hb, hz⟩ hK
  have e : ((ys.map toX).flatMap fun y : PartX d => (FN lv n) (cutP d y.1)) = hostL (lineN (gr rowK)) (n + 1) lv d := by
   unfold hostL
   rw [← hys, List.flatMap_map, List.flatMap_map]
   rfl
  rw [e] at hR
  have hrow := RwX.row (rdNod_stable _ _) ((rowx_own D w6.heap.size (27 + (n + 1)) v9 (fun _ : Unit => hostL (lineN (gr rowK)) (n + 1) lv d)).putObj (s := ()) (.deferred none) hR (Nat.le_refl _) hK rfl)
  obtain ⟨s0, s0f⟩ := blk t0
  obtain ⟨va9, c9, rfl⟩ := hR.slice
  have HROW := Lib.hid hrow
  have HB9 := Lib.hid hb
  have HK9 := Lib.hid hK
  clear hR hb hK hne hrow e
  generalize (hostL (lineN (gr rowK)) (n + 1) lv d).length = n9 at *
  gi_wp2_with fail
  refine ⟨by simp, .inl ⟨_, _, rfl, run_takeDeferred HK9.out, ?_⟩⟩
  refine ⟨.slice va9 n9 c9, by simp [results, Tryz.results25, go_sem], ?_⟩
  refine ⟨_, rfl, SliceR.stable (rdNod_stable _ _) HROW.out (Keeps.refl _ _) (fun b h _ => Nat.le_trans (Nat.le_trans hww hwZ) h), ?_⟩
  exact HBW.out.trans ((HB9.out.trans (belowK_b (w := w1) (Nat.le_refl _) W D _ _ (by omega) HK9.out rfl rfl)).mono hww)
theorem nodes_all : ∀ n, NodesAt n
 | 0 => fun lv v d w w0 S _ _ hne _ hok _ => by
  cases d with
  | nil => exact absurd rfl hne
  | cons l d =>
   obtain ⟨_, _, _, _, h1, h2⟩ := hok l (by simp)
   omega
 | n + 1 => nodes_step n (nodes_all n)
end Go.Proofs.YteognfhemmogpaaGreatDoor
