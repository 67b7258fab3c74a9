/- The walks of cells.Set, cells.Link. -/
import Derived.Test.YtfoiaoopbkcpoaaGreatDoorBase
import Derived.Test.YtfoiaoopbkcpoaaGreatDoorOwn
import Derived.Deep.RegionHeld3
import Derived.StillTailTactics
import Derived.Deep.DrawnRows
import Derived.Test.YtfoiaoopbkcpoaaGreatDoorMay
namespace Go.Proofs.YtfoiaoopbkcpoaaGreatDoor
open Go.RowKit
open Go.Proofs.Qw
attribute [local go_sem ↓] Go.wp_at_zero Go.wp_at_succ

set_option maxHeartbeats 400000 in
theorem over_any (a b c : Int) (w : World) :
    Calls Tryz.prog 109 #[.int .i64 a, .int .i64 b, .int .i64 c] w fun e w' => e = .returned (.int .i64 (bits .or .i64 (bits .andNot .i64 a c) b)) ∧ w = w' := by
  go_enter Tryz.func109, Tryz.ntmps109
  go_wp2
  go_ret
  exact ⟨rfl, rfl⟩
/-- The bits of a cell, some of them set, some cleared. -/
def setBits (s c : Int) (x : Cel) : Cel := { x with bits := bits .or .i64 (bits .andNot .i64 x.bits (bits .and .i64 c 15)) (bits .and .i64 s 15) }
def setHref (h : List UInt8) (x : Cel) : Cel := { x with href := h }

theorem cell_heap {w w' : World} {a : Addr} (h : w'.heap = w.heap) : w'.cell? a = w.cell? a := World.cell?_of_block (w := w) (by rw [h])
set_option maxRecDepth 100000 in
set_option maxHeartbeats 2000000 in
theorem cellSet1_any (B o b1 b2 : Nat) (s c : Int) (x : Cel) (w : World) (_h0 : w.cell? ⟨B, o, none⟩ = some (.int .i32 x.r)) (h1 : w.cell? ⟨B, o + 1, none⟩ = some (.int .i64 x.bits)) (hf : w.frozen? ⟨B, o + 1, none⟩ = false)
    (hs : w.cell? ⟨b1, 0, none⟩ = some (.int .i64 s)) (hc : w.cell? ⟨b2, 0, none⟩ = some (.int .i64 c)) :
    Calls Tryz.prog 108 #[.pointer (some ⟨B, o, none⟩), .pointer (some ⟨b1, 0, none⟩), .pointer (some ⟨b2, 0, none⟩)] w fun e w' => (∃ u, e = .returned u) ∧ ∃ n, w' = (w.setCell ⟨B, o + 1, none⟩ (.int .i64 (setBits s c x).bits)).drewN n := by
  go_enter Tryz.func108, Tryz.ntmps108
  go_wp2_with fail
  go_still_tail 12, (by kernel_rfl)
  still_call ((over_any _ _ _ _).mono fun _ _ h => ⟨h.1, h.2.symm⟩)
  repeat still_step
  try refine wpStill_nil ?_
  change wpList _ _ _ _ _ w.drew
  go_wp2_with fail
  go_returns
  exact ⟨⟨_, rfl⟩, 1, rfl⟩

set_option maxRecDepth 100000 in
set_option maxHeartbeats 2000000 in
theorem cellLink1_any (B o b1 : Nat) (h : List UInt8) (x : Cel) (w : World) (h2 : w.cell? ⟨B, o + 2, none⟩ = some (.string ⟨x.href.toArray⟩)) (hf : w.frozen? ⟨B, o + 2, none⟩ = false) (hs : w.cell? ⟨b1, 0, none⟩ = some (.string ⟨h.toArray⟩)) :
    Calls Tryz.prog 115 #[.pointer (some ⟨B, o, none⟩), .pointer (some ⟨b1, 0, none⟩)] w fun e w' => (∃ u, e = .returned u) ∧ ∃ n, w' = (w.setCell ⟨B, o + 2, none⟩ (.string ⟨(setHref h x).href.toArray⟩)).drewN n := by
  go_enter Tryz.func115, Tryz.ntmps115
  go_wp2_with fail
  go_returns
  first | exact ⟨⟨_, rfl⟩, 0, rfl⟩ | exact ⟨⟨_, rfl⟩, 1, rfl⟩
/-- May from and to be? -/
def spanC (n : Nat) (i j : Int) : Bool := decide (0 ≤ i) && (decide (i ≤ j) && decide (j ≤ n))
set_option maxHeartbeats 1000000 in
theorem cellsSpan_any (v : Value) (d : List Cel) (i j : Int) (w : World) (S : Nat → Prop) (own : Bool) (h : CelsR own w S v d) :
    Calls Tryz.prog 126 #[v, .int .i64 i, .int .i64 j] w fun e w' => e = .returned (.bool (spanC d.length i j)) ∧ w' = w := by
  obtain ⟨a, c, rfl⟩ := h.slice
  clear h
  have HS : Hid (spanC d.length i j = (decide (0 ≤ i) && (decide (i ≤ j) && decide (j ≤ (d.length : Int))))) := Lib.hid rfl
  go_enter Tryz.func126, Tryz.ntmps126
  go_wp2_with fail
  all_goals
    go_ret
    refine ⟨?_, rfl⟩
    rw [HS.out]
    refine congrArg Ending.returned (congrArg Value.bool ?_)
    clear HS
    simp (config := { failIfUnchanged := false }) [*]
  all_goals try omega
end Go.Proofs.YtfoiaoopbkcpoaaGreatDoor
namespace Go.Proofs.Qw
/-- The elements from i on, ahead of k, are changed. -/
def mapIn {α : Type} (F : α → α) (i k : Nat) (d : List α) : List α := d.mapIdx fun q x => if i ≤ q ∧ q < k then F x else x
theorem mapIn_get {α : Type} (F : α → α) (i k : Nat) (d : List α) (q : Nat) : (mapIn F i k d)[q]? = (d[q]?).map fun x => if i ≤ q ∧ q < k then F x else x := by
  unfold mapIn; rw [List.getElem?_mapIdx]
theorem mapIn_length {α : Type} (F : α → α) (i k : Nat) (d : List α) : (mapIn F i k d).length = d.length := by unfold mapIn; simp
theorem mapIn_none {α : Type} (F : α → α) (i : Nat) (d : List α) : mapIn F i i d = d := by
  apply List.ext_getElem?
  intro q
  rw [mapIn_get]
  cases d[q]? with
  | none => rfl
  | some x => simp only [Option.map_some]; rw [if_neg (by omega)]
theorem mapIn_step {α : Type} (F : α → α) {i k : Nat} {d : List α} {x : α} (hik : i ≤ k) (hx : d[k]? = some x) : (mapIn F i k d).set k (F x) = mapIn F i (k + 1) d := by
  apply List.ext_getElem?
  intro q
  have hk := (List.getElem?_eq_some_iff.1 hx).1
  by_cases e : k = q
  · subst e
    rw [List.getElem?_set_self (by rw [mapIn_length]; exact hk), mapIn_get, hx]
    simp [hik]
  · rw [List.getElem?_set_ne e, mapIn_get, mapIn_get]
    cases d[q]? with
    | none => rfl
    | some y =>
      simp only [Option.map_some]
      by_cases h : i ≤ q ∧ q < k
      · rw [if_pos h, if_pos ⟨h.1, by omega⟩]
      · rw [if_neg h, if_neg (by omega)]
theorem mapIn_at {α : Type} (F : α → α) {i k : Nat} {d : List α} {x : α} (hx : d[k]? = some x) : (mapIn F i k d)[k]? = some x := by
  rw [mapIn_get, hx]; simp
end Go.Proofs.Qw
namespace Go.Proofs.YtfoiaoopbkcpoaaGreatDoor
open Go.RowKit
open Go.Proofs.Qw

/-- What a row's each answers. -/
def CellsSaid (d : List Cel) (err : Int) (w : World) (e : Ending) (w' : World) : Prop := ∃ v', e = .returned (.tuple #[v', .int .i64 err]) ∧ CelsR true w' (fun b => w.heap.size ≤ b) v' d ∧ Below w.heap.size w w'
def eachC (F : Cel → Cel) (d : List Cel) (i j : Int) : List Cel × Int := if spanC d.length i j = true then (mapIn F i.toNat j.toNat d, 0) else ([], 1)

set_option maxRecDepth 100000 in
set_option maxHeartbeats 4000000 in
theorem cellsEach_any (v : Value) (d : List Cel) (i j : Int) (g : Nat) (lb : Array Value) (F : Cel → Cel) (f : Nat) (val : Cel → Value) (w : World) (S : Nat → Prop) (own : Bool) (h : CelsR own w S v d) (hs : d.length ≤ 1000000)
    (eg : ∀ args w, (callFunc g args).run Tryz.prog w = .ok (.enter g args) w) (hf : f < 3) (hF : ∀ x, encCel (F x) = (encCel x).set f (val x))
    (hg : ∀ W B o x, Below w.heap.size w W → w.heap.size ≤ B → (∀ p u, (encCel x)[p]? = some u → W.cell? ⟨B, o + p, none⟩ = some u ∧ W.frozen? ⟨B, o + p, none⟩ = false) → Calls Tryz.prog g (#[.pointer (some ⟨B, o, none⟩)] ++ lb) W fun e w' => (∃ u, e = .returned u) ∧ ∃ n, w' = (W.setCell ⟨B, o + f, none⟩ (val x)).drewN n) :
    Calls Tryz.prog 107 #[v, .int .i64 i, .int .i64 j, .func (.func g) #[] lb] w (CellsSaid (eachC F d i j).1 (eachC F d i j).2 w) := by
  have HC1 := Lib.hid (cellsSpan_any v d i j w S own h)
  have HC2 := Lib.hid (cloneCell_any v d own w w S h (Below.refl _ _) hs)
  have HG := Lib.hid hg
  obtain ⟨a, c, rfl⟩ := h.slice
  clear h hg
  cases hsp : spanC d.length i j
  · have HR : Hid (eachC F d i j = ([], 1)) := Lib.hid (by unfold eachC; rw [hsp]; rfl)
    rw [hsp] at HC1
    clear hsp
    go_enter Tryz.func107, Tryz.ntmps107
    go_wp2_with (go_at_call 126; refine HC1.out.mono ?_; rintro e w2 ⟨rfl, rfl⟩)
    go_ret2
    unfold CellsSaid
    rw [HR.out]
    exact ⟨_, rfl, SliceR.nil _ _ _ _ _ _, Below.refl _ _⟩
  · have hsp2 := hsp
    unfold spanC at hsp2
    simp only [Bool.and_eq_true, decide_eq_true_eq] at hsp2
    obtain ⟨i, rfl⟩ := Int.eq_ofNat_of_zero_le hsp2.1
    obtain ⟨j, rfl⟩ := Int.eq_ofNat_of_zero_le (show 0 ≤ j by omega)
    have hij : i ≤ j := by omega
    have hjd : j ≤ d.length := by omega
    have HR : Hid (eachC F d i j = (mapIn F i j d, 0)) := Lib.hid (by unfold eachC; rw [hsp]; rfl)
    rw [hsp] at HC1
    clear hsp hsp2
    go_enter Tryz.func107, Tryz.ntmps107
    go_wp2_with (first | (go_at_call 126; refine HC1.out.mono ?_; rintro e w2 ⟨rfl, rfl⟩) | (go_at_call 106; refine HC2.out.mono ?_; rintro e w3 ⟨v3, rfl, hv3, hb3⟩; obtain ⟨a3, c3, rfl⟩ := hv3.slice))
    have HV := Lib.hid hv3
    have HB := Lib.hid hb3
    have hcm := hv3.len.2
    unfold maxLen at hcm
    clear hv3 hb3
    go_loopw [11] (fun q wr => ∃ k : Nat, i ≤ k ∧ k ≤ j ∧ q = .int .i64 k ∧ CelsR true wr (fun b => w2.heap.size ≤ b) (.slice a3 d.length c3) (mapIn F i k d) ∧ Below w2.heap.size w2 wr) (fun q _ => j - (intOf q).toNat)
    case atStart => exact ⟨i, Nat.le_refl _, hij, rfl, by rw [mapIn_none]; exact HV.out, HB.out⟩
    case round =>
      obtain ⟨k, hk1, hk2, rfl, hO, hb⟩ := hrel
      by_cases hlt : k < j
      · obtain ⟨x, hx, _⟩ := getOf d k (by omega)
        have hxk := mapIn_at F (i := i) hx
        obtain ⟨b, o, cs, rfl, hbb, hgg, hsz⟩ := hO.cellAt (i := k) (by rw [mapIn_length]; omega)
        have hbb : w2.heap.size ≤ b := hbb
        have hcells : ∀ p u, (encCel x)[p]? = some u → wr.cell? ⟨b, o + k * 3 + p, none⟩ = some u ∧ wr.frozen? ⟨b, o + k * 3 + p, none⟩ = false := by
          obtain ⟨a', c', he, _, _, hxx⟩ := hO.shape
          injection he with he1 _ _
          subst he1
          obtain ⟨b', o', vs, he2, _, _, _, hvs, hcc⟩ := hxx k x hxk
          cases he2
          cases hvs
          exact fun p u hu => ⟨hcc p u hu, frozen_of_heap hgg⟩
        have HC := Lib.hid (HG.out wr b (o + k * 3) x hb hbb hcells)
        have HS := Lib.hid (SliceR.set1 eltCell.tag hO hxk hf (val x) (x' := F x) (fun vs _ h => by rw [show vs = encCel x from h]; exact (hF x).symm))
        have HM := Lib.hid (mapIn_step F hk1 hx)
        have i0 : (0 : Int) ≤ (k : Int) := Int.natCast_nonneg _
        have i1 : (k : Int) < (d.length : Int) := by omega
        clear hO hx hxk hgg hcells
        go_wp2_with (go_at_fn g; refine HC.out.mono ?_; rintro e w4 ⟨⟨u, rfl⟩, nn, rfl⟩)
        go_roundw
        case rel => exact ⟨k + 1, by omega, hlt, by go_num, SliceR.below (rdOf_stable _) (by rw [← HM.out]; exact HS.out) (drewN_below (Below.refl _ _)), drewN_below (hb.setCell hbb _)⟩
        case measure => simp [intOf]; omega
      · obtain rfl : k = j := by omega
        have HO := Lib.hid hO
        have HBB := Lib.hid hb
        clear hO hb
        go_wp2_with fail
        go_ret2
        unfold CellsSaid
        rw [HR.out]
        exact ⟨_, rfl, HO.out, HBB.out⟩

theorem CellsSaid.from {d : List Cel} {err : Int} {w W : World} {e : Ending} {w' : World} (h : CellsSaid d err W e w') (hb : Below w.heap.size w W) : CellsSaid d err w e w' := by
  obtain ⟨v', h1, h2, h3⟩ := h
  exact ⟨v', h1, SliceR.stable (rdOf_stable _) h2 (Keeps.refl _ _) (fun b h _ => Nat.le_trans hb.size h), below_from hb h3⟩
set_option maxRecDepth 100000 in
set_option maxHeartbeats 4000000 in
theorem cellsSet_any (v : Value) (d : List Cel) (i j s c : Int) (w : World) (S : Nat → Prop) (own : Bool) (h : CelsR own w S v d) (hs : d.length ≤ 1000000) :
    Calls Tryz.prog 71 #[v, .int .i64 i, .int .i64 j, .int .i64 s, .int .i64 c] w (CellsSaid (eachC (setBits s c) d i j).1 (eachC (setBits s c) d i j).2 w) := by
  obtain ⟨W1, hW1⟩ : ∃ W1, (w.alloc (.cells #[.int .i64 s] 3)).alloc (.cells #[.int .i64 c] 3) = W1 := ⟨_, rfl⟩
  have hB : Below w.heap.size w W1 := hW1 ▸ ((Below.refl _ _).alloc (Nat.le_refl _) _).alloc (by simp) _
  have hz : w.heap.size + 2 = W1.heap.size := by rw [← hW1]; simp
  have hA1 : W1.heap[w.heap.size]? = some (.cells #[.int .i64 s] 3) := hW1 ▸ heap_old _ _ (heap_new _ _ rfl)
  have hA2 : W1.heap[w.heap.size + 1]? = some (.cells #[.int .i64 c] 3) := hW1 ▸ heap_new _ _ (by simp)
  have HC := Lib.hid (cellsEach_any v d i j 108 #[.pointer (some ⟨w.heap.size, 0, none⟩), .pointer (some ⟨w.heap.size + 1, 0, none⟩)] (setBits s c) 1 (fun x => .int .i64 (setBits s c x).bits) W1 S own (h.below (rdOf_stable _) hB) hs
    (enters_of Tryz.func108 (by kernel_rfl) rfl) (by decide) (fun x => rfl)
    (fun W B o x hW hBB hx => cellSet1_any B o w.heap.size (w.heap.size + 1) s c x W (by have := (hx 0 _ rfl).1; exact this) (hx 1 _ rfl).1 (hx 1 _ rfl).2 (cell_of_heap (heap_below hW hA1)) (cell_of_heap (heap_below hW hA2))))
  have H1 := Lib.hid hB
  obtain ⟨a, cc, rfl⟩ := h.slice
  generalize eachC (setBits s c) d i j = r at *
  clear h hA1 hA2 hB hz
  go_enter Tryz.func71, Tryz.ntmps71
  go_wp2_with (go_at_call 107; refine HC.out.mono ?_; intro e w2 hsaid; have hsaid := CellsSaid.from hsaid H1.out; obtain ⟨v', rfl, hv', hb'⟩ := hsaid)
  go_ret2
  exact ⟨_, rfl, hv', hb'⟩

set_option maxRecDepth 100000 in
set_option maxHeartbeats 4000000 in
theorem cellsEachLink_any (v : Value) (d : List Cel) (i j : Int) (hr : List UInt8) (b1 : Nat) (w : World) (S : Nat → Prop) (own : Bool) (h : CelsR own w S v d) (hs : d.length ≤ 1000000) (hA : w.heap[b1]? = some (.cells #[.string ⟨hr.toArray⟩] 9)) :
    Calls Tryz.prog 107 #[v, .int .i64 i, .int .i64 j, .func (.func 115) #[] #[.pointer (some ⟨b1, 0, none⟩)]] w (CellsSaid (eachC (setHref hr) d i j).1 (eachC (setHref hr) d i j).2 w) :=
  cellsEach_any v d i j 115 #[.pointer (some ⟨b1, 0, none⟩)] (setHref hr) 2 (fun x => .string ⟨(setHref hr x).href.toArray⟩) w S own h hs
    (enters_of Tryz.func115 (by kernel_rfl) rfl) (by decide) (fun x => rfl)
    (fun W B o x hW hBB hx => cellLink1_any B o b1 hr x W (hx 2 _ rfl).1 (hx 2 _ rfl).2 (cell_of_heap (heap_below hW hA)))
end Go.Proofs.YtfoiaoopbkcpoaaGreatDoor
namespace Go.Proofs.YtfoiaoopbkcpoaaGreatDoor
open Go.RowKit
open Go.Proofs.Qw
/-- Cells with a link. -/
def linkC (hr : List UInt8) (d : List Cel) (i j : Int) : List Cel × Int := if linkF hr = true then eachC (setHref hr) d i j else ([], 1)
set_option maxRecDepth 100000 in
set_option maxHeartbeats 2000000 in
theorem cellsLink_any (v : Value) (d : List Cel) (i j : Int) (hr : List UInt8) (w : World) (S : Nat → Prop) (own : Bool) (h : CelsR own w S v d) (hs : d.length ≤ 1000000) (he : EnvT w) (hh : hr.length ≤ 1000000) :
    Calls Tryz.prog 78 #[v, .int .i64 i, .int .i64 j, .string ⟨hr.toArray⟩] w (CellsSaid (linkC hr d i j).1 (linkC hr d i j).2 w) := by
  obtain ⟨W1, hW1⟩ : ∃ W1, w.alloc (.cells #[.string ⟨hr.toArray⟩] 9) = W1 := ⟨_, rfl⟩
  have hB : Below w.heap.size w W1 := hW1 ▸ (Below.refl _ _).alloc (Nat.le_refl _) _
  have hA : W1.heap[w.heap.size]? = some (.cells #[.string ⟨hr.toArray⟩] 9) := hW1 ▸ heap_new _ _ rfl
  have HC1 : Hid (Calls Tryz.prog 114 #[.string ⟨hr.toArray⟩] W1 fun e w' => e = .returned (.bool (linkF hr)) ∧ Below W1.heap.size W1 w') := Lib.hid (link_any ⟨hr.toArray⟩ W1 (he.below hB) (by show hr.toArray.size ≤ _; simpa using hh))
  have HC : Hid (∀ W, Below W1.heap.size W1 W → Calls Tryz.prog 107 #[v, .int .i64 i, .int .i64 j, .func (.func 115) #[] #[.pointer (some ⟨w.heap.size, 0, none⟩)]] W (CellsSaid (eachC (setHref hr) d i j).1 (eachC (setHref hr) d i j).2 W)) :=
    Lib.hid fun W hW => cellsEachLink_any v d i j hr w.heap.size W S own ((h.below (rdOf_stable _) hB).below (rdOf_stable _) hW) hs (heap_below hW hA)
  have HL : Hid (linkC hr d i j = if linkF hr = true then eachC (setHref hr) d i j else ([], 1)) := Lib.hid rfl
  have H1 := Lib.hid hB
  have hs1 := hB.size
  obtain ⟨a, cc, rfl⟩ := h.slice
  obtain ⟨p, f⟩ := blk hA
  generalize eachC (setHref hr) d i j = r at *
  generalize linkF hr = lk at *
  clear h he hs hh hA hB
  cases lk
  · have HR : Hid (linkC hr d i j = ([], 1)) := Lib.hid HL.out
    clear HL
    go_enter Tryz.func78, Tryz.ntmps78
    go_wp2_with (go_at_call 114; refine HC1.out.mono ?_; rintro e w2 ⟨rfl, hb2⟩)
    go_ret2
    unfold CellsSaid
    rw [HR.out]
    exact ⟨_, rfl, SliceR.nil _ _ _ _ _ _, H1.out.trans (hb2.mono hs1)⟩
  · have HR : Hid (linkC hr d i j = r) := Lib.hid HL.out
    clear HL
    go_enter Tryz.func78, Tryz.ntmps78
    go_wp2_with (first | (go_at_call 114; refine HC1.out.mono ?_; rintro e w2 ⟨rfl, hb2⟩) | (go_at_call 107; refine (HC.out _ hb2).mono ?_; intro e w3 hsaid; have hsaid := CellsSaid.from hsaid (H1.out.trans (hb2.mono hs1)); obtain ⟨v', rfl, hv', hb'⟩ := hsaid))
    go_ret2
    rw [HR.out]
    exact ⟨_, rfl, hv', hb'⟩
end Go.Proofs.YtfoiaoopbkcpoaaGreatDoor
