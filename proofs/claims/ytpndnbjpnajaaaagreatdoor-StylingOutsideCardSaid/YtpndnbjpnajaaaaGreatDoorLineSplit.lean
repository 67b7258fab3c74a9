/- The walks of cells.Set, cells.Link. -/
import Derived.Test.YtpndnbjpnajaaaaGreatDoorDocPos
import Derived.Deep.RegionHeld3
import Derived.StillTailTactics
import Derived.Deep.DrawnRows
import Derived.Test.YtpndnbjpnajaaaaGreatDoorTells
import Derived.Lib.AppendZeros
import Derived.Laws.Cover4
import Derived.Lib.MapLaws
import Derived.Lib.TrimAscii
import Derived.Deep.Cut
import Derived.Deep.CutRange
namespace Go.Proofs.YtpndnbjpnajaaaaGreatDoor
open Go.RowKit
open Go.Proofs.Qw
attribute [local go_sem ↓] Go.wp_at_zero Go.wp_at_succ
set_option maxHeartbeats 400000 in
theorem over_any (a b c : Int) (w : World) :
    Calls Tryz.prog 214 #[.int .i64 a, .int .i64 b, .int .i64 c] w fun e w' => e = .returned (.int .i64 (bits .or .i64 (bits .andNot .i64 a c) b)) ∧ w = w' := by
  go_enter Tryz.func214, Tryz.ntmps214
  go_wp2
  go_ret
  exact ⟨rfl, rfl⟩
def setBits (s c : Int) (x : Cel) : Cel := { x with bits := bits .or .i64 (bits .andNot .i64 x.bits (bits .and .i64 c 15)) (bits .and .i64 s 15) }
def setHref (h : List UInt8) (x : Cel) : Cel := { x with href := h }
set_option maxRecDepth 100000 in
set_option maxHeartbeats 2000000 in
theorem cellSet1_any (B o b1 b2 : Nat) (s c : Int) (x : Cel) (w : World) (_h0 : w.cell? ⟨B, o, none⟩ = some (.int .i32 x.r)) (h1 : w.cell? ⟨B, o + 1, none⟩ = some (.int .i64 x.bits)) (hf : w.frozen? ⟨B, o + 1, none⟩ = false)
    (hs : w.cell? ⟨b1, 0, none⟩ = some (.int .i64 s)) (hc : w.cell? ⟨b2, 0, none⟩ = some (.int .i64 c)) :
    Calls Tryz.prog 213 #[.pointer (some ⟨B, o, none⟩), .pointer (some ⟨b1, 0, none⟩), .pointer (some ⟨b2, 0, none⟩)] w fun e w' => (∃ u, e = .returned u) ∧ ∃ n, w' = (w.setCell ⟨B, o + 1, none⟩ (.int .i64 (setBits s c x).bits)).drewN n := by
  go_enter Tryz.func213, Tryz.ntmps213
  go_wp2_with fail
  go_still_tail 12, (by kernel_rfl)
  still_call ((over_any _ _ _ _).mono fun _ _ h => ⟨h.1, h.2.symm⟩)
  repeat still_step
  try refine wpStill_nil ?_
  change wpList _ _ _ _ _ w.drew
  go_wp2_with fail
  go_returns
  exact ⟨⟨_, rfl⟩, 1, rfl⟩
set_option maxRecDepth 100000 in
set_option maxHeartbeats 2000000 in
theorem cellLink1_any (B o b1 : Nat) (h : List UInt8) (x : Cel) (w : World) (h2 : w.cell? ⟨B, o + 2, none⟩ = some (.string ⟨x.href.toArray⟩)) (hf : w.frozen? ⟨B, o + 2, none⟩ = false) (hs : w.cell? ⟨b1, 0, none⟩ = some (.string ⟨h.toArray⟩)) :
    Calls Tryz.prog 227 #[.pointer (some ⟨B, o, none⟩), .pointer (some ⟨b1, 0, none⟩)] w fun e w' => (∃ u, e = .returned u) ∧ ∃ n, w' = (w.setCell ⟨B, o + 2, none⟩ (.string ⟨(setHref h x).href.toArray⟩)).drewN n := by
  go_enter Tryz.func227, Tryz.ntmps227
  go_wp2_with fail
  go_returns
  first | exact ⟨⟨_, rfl⟩, 0, rfl⟩ | exact ⟨⟨_, rfl⟩, 1, rfl⟩
def spanC (n : Nat) (i j : Int) : Bool := decide (0 ≤ i) && (decide (i ≤ j) && decide (j ≤ n))
set_option maxHeartbeats 1000000 in
theorem cellsSpan_any (v : Value) (d : List Cel) (i j : Int) (w : World) (S : Nat → Prop) (own : Bool) (h : CelsR own w S v d) :
    Calls Tryz.prog 200 #[v, .int .i64 i, .int .i64 j] w fun e w' => e = .returned (.bool (spanC d.length i j)) ∧ w' = w := by
  obtain ⟨a, c, rfl⟩ := h.slice
  clear h
  have HS : Hid (spanC d.length i j = (decide (0 ≤ i) && (decide (i ≤ j) && decide (j ≤ (d.length : Int))))) := Lib.hid rfl
  go_enter Tryz.func200, Tryz.ntmps200
  go_wp2_with fail
  all_goals
    go_ret
    refine ⟨?_, rfl⟩
    rw [HS.out]
    refine congrArg Ending.returned (congrArg Value.bool ?_)
    clear HS
    simp (config := { failIfUnchanged := false }) [*]
  all_goals try omega
end Go.Proofs.YtpndnbjpnajaaaaGreatDoor
namespace Go.Proofs.Qw
def mapIn {α : Type} (F : α → α) (i k : Nat) (d : List α) : List α := d.mapIdx fun q x => if i ≤ q ∧ q < k then F x else x
theorem mapIn_get {α : Type} (F : α → α) (i k : Nat) (d : List α) (q : Nat) : (mapIn F i k d)[q]? = (d[q]?).map fun x => if i ≤ q ∧ q < k then F x else x := by
  unfold mapIn; rw [List.getElem?_mapIdx]
theorem mapIn_length {α : Type} (F : α → α) (i k : Nat) (d : List α) : (mapIn F i k d).length = d.length := by unfold mapIn; simp
theorem mapIn_none {α : Type} (F : α → α) (i : Nat) (d : List α) : mapIn F i i d = d := by
  apply List.ext_getElem?
  intro q
  rw [mapIn_get]
  cases d[q]? with
  | none => rfl
  | some x => simp only [Option.map_some]; rw [if_neg (by omega)]
theorem mapIn_step {α : Type} (F : α → α) {i k : Nat} {d : List α} {x : α} (hik : i ≤ k) (hx : d[k]? = some x) : (mapIn F i k d).set k (F x) = mapIn F i (k + 1) d := by
  apply List.ext_getElem?
  intro q
  have hk := (List.getElem?_eq_some_iff.1 hx).1
  by_cases e : k = q
  · subst e
    rw [List.getElem?_set_self (by rw [mapIn_length]; exact hk), mapIn_get, hx]
    simp [hik]
  · rw [List.getElem?_set_ne e, mapIn_get, mapIn_get]
    cases d[q]? with
    | none => rfl
    | some y =>
      simp only [Option.map_some]
      by_cases h : i ≤ q ∧ q < k
      · rw [if_pos h, if_pos ⟨h.1, by omega⟩]
      · rw [if_neg h, if_neg (by omega)]
theorem mapIn_at {α : Type} (F : α → α) {i k : Nat} {d : List α} {x : α} (hx : d[k]? = some x) : (mapIn F i k d)[k]? = some x := by
  rw [mapIn_get, hx]; simp
end Go.Proofs.Qw
namespace Go.Proofs.YtpndnbjpnajaaaaGreatDoor
open Go.RowKit
open Go.Proofs.Qw
def CellsSaid (d : List Cel) (err : Int) (w : World) (e : Ending) (w' : World) : Prop := ∃ v', e = .returned (.tuple #[v', .int .i64 err]) ∧ CelsR true w' (fun b => w.heap.size ≤ b) v' d ∧ Below w.heap.size w w'
def eachC (F : Cel → Cel) (d : List Cel) (i j : Int) : List Cel × Int := if spanC d.length i j = true then (mapIn F i.toNat j.toNat d, 0) else ([], 1)
set_option maxRecDepth 100000 in
set_option maxHeartbeats 4000000 in
theorem cellsEach_any (v : Value) (d : List Cel) (i j : Int) (g : Nat) (lb : Array Value) (F : Cel → Cel) (f : Nat) (val : Cel → Value) (w : World) (S : Nat → Prop) (own : Bool) (h : CelsR own w S v d) (hs : d.length ≤ 1000000)
    (eg : ∀ args w, (callFunc g args).run Tryz.prog w = .ok (.enter g args) w) (hf : f < 3) (hF : ∀ x, encCel (F x) = (encCel x).set f (val x))
    (hg : ∀ W B o x, Below w.heap.size w W → w.heap.size ≤ B → (∀ p u, (encCel x)[p]? = some u → W.cell? ⟨B, o + p, none⟩ = some u ∧ W.frozen? ⟨B, o + p, none⟩ = false) → Calls Tryz.prog g (#[.pointer (some ⟨B, o, none⟩)] ++ lb) W fun e w' => (∃ u, e = .returned u) ∧ ∃ n, w' = (W.setCell ⟨B, o + f, none⟩ (val x)).drewN n) :
    Calls Tryz.prog 212 #[v, .int .i64 i, .int .i64 j, .func (.func g) #[] lb] w (CellsSaid (eachC F d i j).1 (eachC F d i j).2 w) := by
  have HC1 := Lib.hid (cellsSpan_any v d i j w S own h)
  have HC2 := Lib.hid (cloneCell_any v d own w w S h (Below.refl _ _) hs)
  have HG := Lib.hid hg
  obtain ⟨a, c, rfl⟩ := h.slice
  clear h hg
  cases hsp : spanC d.length i j
  · have HR : Hid (eachC F d i j = ([], 1)) := Lib.hid (by unfold eachC; rw [hsp]; rfl)
    rw [hsp] at HC1
    clear hsp
    go_enter Tryz.func212, Tryz.ntmps212
    go_wp2_with (go_at_call 200; refine HC1.out.mono ?_; rintro e w2 ⟨rfl, rfl⟩)
    go_ret2
    unfold CellsSaid
    rw [HR.out]
    exact ⟨_, rfl, SliceR.nil _ _ _ _ _ _, Below.refl _ _⟩
  · have hsp2 := hsp
    unfold spanC at hsp2
    simp only [Bool.and_eq_true, decide_eq_true_eq] at hsp2
    obtain ⟨i, rfl⟩ := Int.eq_ofNat_of_zero_le hsp2.1
    obtain ⟨j, rfl⟩ := Int.eq_ofNat_of_zero_le (show 0 ≤ j by omega)
    have hij : i ≤ j := by omega
    have hjd : j ≤ d.length := by omega
    have HR : Hid (eachC F d i j = (mapIn F i j d, 0)) := Lib.hid (by unfold eachC; rw [hsp]; rfl)
    rw [hsp] at HC1
    clear hsp hsp2
    go_enter Tryz.func212, Tryz.ntmps212
    go_wp2_with (first | (go_at_call 200; refine HC1.out.mono ?_; rintro e w2 ⟨rfl, rfl⟩) | (go_at_call 201; refine HC2.out.mono ?_; rintro e w3 ⟨v3, rfl, hv3, hb3⟩; obtain ⟨a3, c3, rfl⟩ := hv3.slice))
    have HV := Lib.hid hv3
    have HB := Lib.hid hb3
    have hcm := hv3.len.2
    unfold maxLen at hcm
    clear hv3 hb3
    go_loopw [11] (fun q wr => ∃ k : Nat, i ≤ k ∧ k ≤ j ∧ q = .int .i64 k ∧ CelsR true wr (fun b => w2.heap.size ≤ b) (.slice a3 d.length c3) (mapIn F i k d) ∧ Below w2.heap.size w2 wr) (fun q _ => j - (intOf q).toNat)
    case atStart => exact ⟨i, Nat.le_refl _, hij, rfl, by rw [mapIn_none]; exact HV.out, HB.out⟩
    case round =>
      obtain ⟨k, hk1, hk2, rfl, hO, hb⟩ := hrel
      by_cases hlt : k < j
      · obtain ⟨x, hx, _⟩ := getOf d k (by omega)
        have hxk := mapIn_at F (i := i) hx
        obtain ⟨b, o, cs, rfl, hbb, hgg, hsz⟩ := hO.cellAt (i := k) (by rw [mapIn_length]; omega)
        have hbb : w2.heap.size ≤ b := hbb
        have hcells : ∀ p u, (encCel x)[p]? = some u → wr.cell? ⟨b, o + k * 3 + p, none⟩ = some u ∧ wr.frozen? ⟨b, o + k * 3 + p, none⟩ = false := by
          obtain ⟨a', c', he, _, _, hxx⟩ := hO.shape
          injection he with he1 _ _
          subst he1
          obtain ⟨b', o', vs, he2, _, _, _, hvs, hcc⟩ := hxx k x hxk
          cases he2
          cases hvs
          exact fun p u hu => ⟨hcc p u hu, frozen_of_heap hgg⟩
        have HC := Lib.hid (HG.out wr b (o + k * 3) x hb hbb hcells)
        have HS := Lib.hid (SliceR.set1 eltCell.tag hO hxk hf (val x) (x' := F x) (fun vs _ h => by rw [show vs = encCel x from h]; exact (hF x).symm))
        have HM := Lib.hid (mapIn_step F hk1 hx)
        have i0 : (0 : Int) ≤ (k : Int) := Int.natCast_nonneg _
        have i1 : (k : Int) < (d.length : Int) := by omega
        clear hO hx hxk hgg hcells
        go_wp2_with (go_at_fn g; refine HC.out.mono ?_; rintro e w4 ⟨⟨u, rfl⟩, nn, rfl⟩)
        go_roundw
        case rel => exact ⟨k + 1, by omega, hlt, by go_num, SliceR.below (rdOf_stable _) (by rw [← HM.out]; exact HS.out) (drewN_below (Below.refl _ _)), drewN_below (hb.setCell hbb _)⟩
        case measure => simp [intOf]; omega
      · obtain rfl : k = j := by omega
        have HO := Lib.hid hO
        have HBB := Lib.hid hb
        clear hO hb
        go_wp2_with fail
        go_ret2
        unfold CellsSaid
        rw [HR.out]
        exact ⟨_, rfl, HO.out, HBB.out⟩
theorem CellsSaid.from {d : List Cel} {err : Int} {w W : World} {e : Ending} {w' : World} (h : CellsSaid d err W e w') (hb : Below w.heap.size w W) : CellsSaid d err w e w' := by
  obtain ⟨v', h1, h2, h3⟩ := h
  exact ⟨v', h1, SliceR.stable (rdOf_stable _) h2 (Keeps.refl _ _) (fun b h _ => Nat.le_trans hb.size h), below_from hb h3⟩
set_option maxRecDepth 100000 in
set_option maxHeartbeats 4000000 in
theorem cellsSet_any (v : Value) (d : List Cel) (i j s c : Int) (w : World) (S : Nat → Prop) (own : Bool) (h : CelsR own w S v d) (hs : d.length ≤ 1000000) :
    Calls Tryz.prog 166 #[v, .int .i64 i, .int .i64 j, .int .i64 s, .int .i64 c] w (CellsSaid (eachC (setBits s c) d i j).1 (eachC (setBits s c) d i j).2 w) := by
  obtain ⟨W1, hW1⟩ : ∃ W1, (w.alloc (.cells #[.int .i64 s] 3)).alloc (.cells #[.int .i64 c] 3) = W1 := ⟨_, rfl⟩
  have hB : Below w.heap.size w W1 := hW1 ▸ ((Below.refl _ _).alloc (Nat.le_refl _) _).alloc (by simp) _
  have hz : w.heap.size + 2 = W1.heap.size := by rw [← hW1]; simp
  have hA1 : W1.heap[w.heap.size]? = some (.cells #[.int .i64 s] 3) := hW1 ▸ heap_old _ _ (heap_new _ _ rfl)
  have hA2 : W1.heap[w.heap.size + 1]? = some (.cells #[.int .i64 c] 3) := hW1 ▸ heap_new _ _ (by simp)
  have HC := Lib.hid (cellsEach_any v d i j 213 #[.pointer (some ⟨w.heap.size, 0, none⟩), .pointer (some ⟨w.heap.size + 1, 0, none⟩)] (setBits s c) 1 (fun x => .int .i64 (setBits s c x).bits) W1 S own (h.below (rdOf_stable _) hB) hs
    (enters_of Tryz.func213 (by kernel_rfl) rfl) (by decide) (fun x => rfl)
    (fun W B o x hW hBB hx => cellSet1_any B o w.heap.size (w.heap.size + 1) s c x W (by have := (hx 0 _ rfl).1; exact this) (hx 1 _ rfl).1 (hx 1 _ rfl).2 (cell_of_heap (heap_below hW hA1)) (cell_of_heap (heap_below hW hA2))))
  have H1 := Lib.hid hB
  obtain ⟨a, cc, rfl⟩ := h.slice
  generalize eachC (setBits s c) d i j = r at *
  clear h hA1 hA2 hB hz
  go_enter Tryz.func166, Tryz.ntmps166
  go_wp2_with (go_at_call 212; refine HC.out.mono ?_; intro e w2 hsaid; have hsaid := CellsSaid.from hsaid H1.out; obtain ⟨v', rfl, hv', hb'⟩ := hsaid)
  go_ret2
  exact ⟨_, rfl, hv', hb'⟩
set_option maxRecDepth 100000 in
set_option maxHeartbeats 4000000 in
theorem cellsEachLink_any (v : Value) (d : List Cel) (i j : Int) (hr : List UInt8) (b1 : Nat) (w : World) (S : Nat → Prop) (own : Bool) (h : CelsR own w S v d) (hs : d.length ≤ 1000000) (hA : w.heap[b1]? = some (.cells #[.string ⟨hr.toArray⟩] 9)) :
    Calls Tryz.prog 212 #[v, .int .i64 i, .int .i64 j, .func (.func 227) #[] #[.pointer (some ⟨b1, 0, none⟩)]] w (CellsSaid (eachC (setHref hr) d i j).1 (eachC (setHref hr) d i j).2 w) :=
  cellsEach_any v d i j 227 #[.pointer (some ⟨b1, 0, none⟩)] (setHref hr) 2 (fun x => .string ⟨(setHref hr x).href.toArray⟩) w S own h hs
    (enters_of Tryz.func227 (by kernel_rfl) rfl) (by decide) (fun x => rfl)
    (fun W B o x hW hBB hx => cellLink1_any B o b1 hr x W (hx 2 _ rfl).1 (hx 2 _ rfl).2 (cell_of_heap (heap_below hW hA)))
end Go.Proofs.YtpndnbjpnajaaaaGreatDoor
namespace Go.Proofs.YtpndnbjpnajaaaaGreatDoor
open Go.RowKit
open Go.Proofs.Qw
def linkC (hr : List UInt8) (d : List Cel) (i j : Int) : List Cel × Int := if linkF hr = true then eachC (setHref hr) d i j else ([], 1)
set_option maxRecDepth 100000 in
set_option maxHeartbeats 2000000 in
theorem cellsLink_any (v : Value) (d : List Cel) (i j : Int) (hr : List UInt8) (w : World) (S : Nat → Prop) (own : Bool) (h : CelsR own w S v d) (hs : d.length ≤ 1000000) (he : EnvT w) (hh : hr.length ≤ 1000000) :
    Calls Tryz.prog 172 #[v, .int .i64 i, .int .i64 j, .string ⟨hr.toArray⟩] w (CellsSaid (linkC hr d i j).1 (linkC hr d i j).2 w) := by
  obtain ⟨W1, hW1⟩ : ∃ W1, w.alloc (.cells #[.string ⟨hr.toArray⟩] 9) = W1 := ⟨_, rfl⟩
  have hB : Below w.heap.size w W1 := hW1 ▸ (Below.refl _ _).alloc (Nat.le_refl _) _
  have hA : W1.heap[w.heap.size]? = some (.cells #[.string ⟨hr.toArray⟩] 9) := hW1 ▸ heap_new _ _ rfl
  have HC1 : Hid (Calls Tryz.prog 226 #[.string ⟨hr.toArray⟩] W1 fun e w' => e = .returned (.bool (linkF hr)) ∧ Below W1.heap.size W1 w') := Lib.hid (link_any ⟨hr.toArray⟩ W1 (he.below hB) (by show hr.toArray.size ≤ _; simpa using hh))
  have HC : Hid (∀ W, Below W1.heap.size W1 W → Calls Tryz.prog 212 #[v, .int .i64 i, .int .i64 j, .func (.func 227) #[] #[.pointer (some ⟨w.heap.size, 0, none⟩)]] W (CellsSaid (eachC (setHref hr) d i j).1 (eachC (setHref hr) d i j).2 W)) :=
    Lib.hid fun W hW => cellsEachLink_any v d i j hr w.heap.size W S own ((h.below (rdOf_stable _) hB).below (rdOf_stable _) hW) hs (heap_below hW hA)
  have HL : Hid (linkC hr d i j = if linkF hr = true then eachC (setHref hr) d i j else ([], 1)) := Lib.hid rfl
  have H1 := Lib.hid hB
  have hs1 := hB.size
  obtain ⟨a, cc, rfl⟩ := h.slice
  obtain ⟨p, f⟩ := blk hA
  generalize eachC (setHref hr) d i j = r at *
  generalize linkF hr = lk at *
  clear h he hs hh hA hB
  cases lk
  · have HR : Hid (linkC hr d i j = ([], 1)) := Lib.hid HL.out
    clear HL
    go_enter Tryz.func172, Tryz.ntmps172
    go_wp2_with (go_at_call 226; refine HC1.out.mono ?_; rintro e w2 ⟨rfl, hb2⟩)
    go_ret2
    unfold CellsSaid
    rw [HR.out]
    exact ⟨_, rfl, SliceR.nil _ _ _ _ _ _, H1.out.trans (hb2.mono hs1)⟩
  · have HR : Hid (linkC hr d i j = r) := Lib.hid HL.out
    clear HL
    go_enter Tryz.func172, Tryz.ntmps172
    go_wp2_with (first | (go_at_call 226; refine HC1.out.mono ?_; rintro e w2 ⟨rfl, hb2⟩) | (go_at_call 212; refine (HC.out _ hb2).mono ?_; intro e w3 hsaid; have hsaid := CellsSaid.from hsaid (H1.out.trans (hb2.mono hs1)); obtain ⟨v', rfl, hv', hb'⟩ := hsaid))
    go_ret2
    rw [HR.out]
    exact ⟨_, rfl, hv', hb'⟩
end Go.Proofs.YtpndnbjpnajaaaaGreatDoor
namespace Go.Proofs.Qw
open Go.RowKit Go.Proofs.YtpndnbjpnajaaaaGreatDoor
def setRow (C : List Cel → Nat → Nat → List Cel) (D : Doc) (x : Nat × Nat × Nat) : Doc := D.set x.1 { (D.getD x.1 default) with cells := C (D.getD x.1 default).cells x.2.1 x.2.2 }
def setRows (C : List Cel → Nat → Nat → List Cel) (D : Doc) (xs : List (Nat × Nat × Nat)) : Doc := xs.foldl (setRow C) D
theorem setRows_snoc (C : List Cel → Nat → Nat → List Cel) (D : Doc) (xs : List (Nat × Nat × Nat)) (x : Nat × Nat × Nat) : setRows C D (xs ++ [x]) = setRow C (setRows C D xs) x := by simp [setRows]
def Alike (D E : Doc) : Prop := D.length = E.length ∧ ∀ (k : Nat) (l : Lin), D[k]? = some l → ∃ m, E[k]? = some m ∧ m.cells.length = l.cells.length
theorem Alike.refl (D : Doc) : Alike D D := ⟨rfl, fun _ l h => ⟨l, h, rfl⟩⟩
theorem Alike.trans {D E F : Doc} (h : Alike D E) (k : Alike E F) : Alike D F := ⟨h.1.trans k.1, fun i l hl => by
  obtain ⟨m, h1, h2⟩ := h.2 i l hl
  obtain ⟨n, h3, h4⟩ := k.2 i m h1
  exact ⟨n, h3, h4.trans h2⟩⟩
theorem setRow_at {C : List Cel → Nat → Nat → List Cel} {D : Doc} {x : Nat × Nat × Nat} {l : Lin} (h : D[x.1]? = some l) : setRow C D x = D.set x.1 { l with cells := C l.cells x.2.1 x.2.2 } := by
  unfold setRow
  simp [List.getD, h]
theorem setRow_alike {C : List Cel → Nat → Nat → List Cel} (hC : ∀ c i j, (C c i j).length = c.length) (D : Doc) (x : Nat × Nat × Nat) : Alike D (setRow C D x) := by
  refine ⟨by simp [setRow], fun k l hl => ?_⟩
  by_cases e : x.1 = k
  · subst e
    rw [setRow_at hl]
    refine ⟨_, List.getElem?_set_self (List.getElem?_eq_some_iff.1 hl).1, hC _ _ _⟩
  · refine ⟨l, ?_, rfl⟩
    unfold setRow
    rw [List.getElem?_set_ne e]
    exact hl
theorem setRows_alike {C : List Cel → Nat → Nat → List Cel} (hC : ∀ c i j, (C c i j).length = c.length) : ∀ (xs : List (Nat × Nat × Nat)) (D : Doc), Alike D (setRows C D xs)
  | [], D => Alike.refl D
  | x :: xs, D => (setRow_alike hC D x).trans (setRows_alike hC xs (setRow C D x))
theorem SliceR.avoidO {α : Type} {s : TypeId} {k : Nat} {enc : α → List Value} {w : World} {S : Nat → Prop} {v : Value} {xs : List α} (h : SliceR s k (rdOf enc) true w S v xs) {b : Nat} {o : Obj} (hb : w.heap[b]? = some o) (ho : o.isCells = false) : SliceR s k (rdOf enc) true w (fun d => S d ∧ d ≠ b) v xs := by
  obtain ⟨a, c, e, hc, hm, hx⟩ := h
  refine ⟨a, c, e, hc, hm, ?_⟩
  rcases hx with h1 | ⟨d, o', e, hd, hz, hf, he⟩
  · exact .inl h1
  · obtain ⟨cs2, g1, g2⟩ := hf rfl
    exact .inr ⟨d, o', e, ⟨hd, fun e2 => by subst e2; rw [hb] at g1; cases g1; cases ho⟩, hz, hf, he⟩
theorem DocR.avoidO {w : World} {S : Nat → Prop} {v : Value} {xs : List Lin} (h : DocR true w S v xs) {b : Nat} {o : Obj} (hb : w.heap[b]? = some o) (ho : o.isCells = false) : DocR true w (fun d => S d ∧ d ≠ b) v xs := by
  obtain ⟨a, c', e, hc, hm, hx⟩ := h
  refine ⟨a, c', e, hc, hm, ?_⟩
  rcases hx with h1 | ⟨d, o', e2, hd, hz, hf, he⟩
  · exact .inl h1
  · obtain ⟨cs2, g1, g2⟩ := hf rfl
    refine .inr ⟨d, o', e2, ⟨hd, fun e3 => by subst e3; rw [hb] at g1; cases g1; cases ho⟩, hz, hf, fun i x hi => ?_⟩
    obtain ⟨vs, r1, ⟨p, q, r2, r3, r4⟩, r5⟩ := he i x hi
    exact ⟨vs, r1, ⟨p, q, r2, r3.avoidO hb ho, r4.avoidO hb ho⟩, r5⟩
theorem doc_own {β : Type} (B : Nat) (S : Nat → Prop) (v : Value) (f : β → Doc) : OwnFrom B (fun (s : β) (W : World) => DocR true W S v (f s)) := fun s X Y row hs hg hr => by
  cases row with
  | none => exact SliceR.stable (rdLin_stable true) hs ⟨hg.size, fun b _ hz => hg.block b hz (by simp)⟩ (fun _ h _ => h)
  | some k =>
    obtain ⟨_, o, ho, hc⟩ := hr k rfl
    exact SliceR.stable (rdLin_stable true) (hs.avoidO ho hc) ⟨hg.size, fun b hb hz => hg.block b hz (by intro e; cases e; exact hb.2 rfl)⟩ (fun _ h _ => h.1)
end Go.Proofs.Qw
namespace Go.Proofs.YtpndnbjpnajaaaaGreatDoor
open Go.RowKit
open Go.Proofs.Qw
attribute [local go_sem] Oper.semAt_some
def eachD (C : List Cel → Nat → Nat → List Cel) (d : Doc) (a b : Ps) : Doc × Int :=
  if spanD d a b = true then (if cellsD d a b = [] then ([], 7) else (setRows C d (rowsTo d a.line.toNat a.col.toNat b.line.toNat b.col.toNat (b.line.toNat + 1)), 0)) else ([], 1)
def EI (C : List Cel → Nat → Nat → List Cel) (d : Doc) (v fv : Value) (w : World) (Bo n : Nat) (pre : List (RowX d)) (W : World) : Prop :=
  W.heap[Bo]? = some (.cells #[v] 22) ∧ W.heap[w.heap.size + 2]? = some (.cells #[fv] 111) ∧ DocR true W (fun b => w.heap.size ≤ b) v (setRows C d (pre.map (·.1))) ∧ Below w.heap.size w W ∧ n ≤ W.heap.size
theorem ei_own {C : List Cel → Nat → Nat → List Cel} {d : Doc} {v fv : Value} {w : World} {Bo n B : Nat} (hB : w.heap.size ≤ B) : OwnFrom B (EI C d v fv w Bo n) :=
  OwnFrom.and (blk_own _ _ _ _) (OwnFrom.and (blk_own _ _ _ _) (OwnFrom.and (doc_own _ _ _ _) (OwnFrom.and (ownFrom_below (Nat.le_refl _) hB) (ownFrom_size _ _))))
theorem three_blocks (w : World) (a b c d e : Value) (t : TypeId) : ∃ W1, ((w.alloc (.cells #[a, b] 24)).alloc (.cells #[c, d] 24)).alloc (.cells #[e] t) = W1 ∧ Below w.heap.size w W1 ∧ w.heap.size + 3 = W1.heap.size ∧
    W1.heap[w.heap.size]? = some (.cells #[a, b] 24) ∧ W1.heap[w.heap.size + 1]? = some (.cells #[c, d] 24) ∧ W1.heap[w.heap.size + 2]? = some (.cells #[e] t) :=
  ⟨_, rfl, (((Below.refl _ _).alloc (Nat.le_refl _) _).alloc (by simp) _).alloc (by simp; omega) _, by simp, heap_old _ _ (heap_old _ _ (heap_new _ _ rfl)), heap_old _ _ (heap_new _ _ (by simp)), heap_new _ _ (by simp)⟩
theorem cell_on {w : World} {p : Addr} {u : Value} (h : w.cell? p = some u) : ∀ ob, (w.alloc ob).cell? p = some u := fun _ => (World.cell?_alloc_lt _ _ _ (World.block_lt_of_cell? w p h)).trans h
theorem docEach_off (v : Value) (d : Doc) (a b : Ps) (g : Nat) (lb : Array Value) (C : List Cel → Nat → Nat → List Cel) (w : World) (S : Nat → Prop) (h : LinsR w S v d) (he : EnvT w) (hs : Small d) (hc : cellsD d a b = []) :
    Calls Tryz.prog 164 #[v, posV a, posV b, .func (.func g) #[] lb] w (DocSaid (eachD C d a b) w) := by
  obtain ⟨W1, hW1, hB, hz, k0, k1, k2⟩ := three_blocks w (.int .i64 a.line) (.int .i64 a.col) (.int .i64 b.line) (.int .i64 b.col) (.func (.func g) #[] lb) 111
  have HC1 := Lib.hid (docSpan_any v d a b W1 S (h.below (rdLin_stable _) hB) (he.below hB) hs)
  have HC2 : Hid (∀ W, Below W1.heap.size W1 W → Calls Tryz.prog 73 #[v, posV a, posV b] W fun e w' => e = .returned (.int .i64 0) ∧ Below W.heap.size W w') := Lib.hid fun W hW => by
    have := docCount_any v d a b W S ((h.below (rdLin_stable _) hB).below (rdLin_stable _) hW) ((he.below hB).below hW) hs
    rw [hc] at this
    exact this
  have HB : Hid (∀ W, Below W1.heap.size W1 W → W.heap[w.heap.size]? = some (.cells #[.int .i64 a.line, .int .i64 a.col] 24) ∧ W.heap[w.heap.size + 1]? = some (.cells #[.int .i64 b.line, .int .i64 b.col] 24)) := Lib.hid fun W hW => ⟨heap_below hW k0, heap_below hW k1⟩
  have HP : Hid (∀ p : Ps, posV p = .agg #[.int .i64 p.line, .int .i64 p.col]) := Lib.hid fun _ => rfl
  have HR : Hid (eachD C d a b = if spanD d a b = true then ([], 7) else ([], 1)) := Lib.hid (by unfold eachD; rw [if_pos hc])
  have H1 := Lib.hid hB
  have hs1 := hB.size
  obtain ⟨p1, f1⟩ := blk k0
  obtain ⟨p2, f2⟩ := blk k1
  obtain ⟨va, vc, rfl⟩ := h.slice
  generalize spanD d a b = sp at *
  clear h he hs hc k0 k1 k2 hB
  rw [HP.out a, HP.out b] at HC1 HC2 ⊢
  cases sp
  · have HR := Lib.hid HR.out
    go_enter Tryz.func164, Tryz.ntmps164
    go_wp2_with (go_at_call 133; refine HC1.out.mono ?_; rintro e w2 ⟨rfl, hb2⟩)
    go_ret2
    unfold DocSaid
    rw [HR.out]
    exact ⟨_, rfl, SliceR.nil _ _ _ _ _ _, H1.out.trans (hb2.mono hs1)⟩
  · have HR := Lib.hid HR.out
    go_enter Tryz.func164, Tryz.ntmps164
    go_wp2_with (first | (go_at_call 133; refine HC1.out.mono ?_; rintro e w2 ⟨rfl, hb2⟩; obtain ⟨q1, g1⟩ := blk (HB.out _ hb2).1; obtain ⟨q2, g2⟩ := blk (HB.out _ hb2).2) | (go_at_call 73; refine (HC2.out _ hb2).mono ?_; rintro e w3 ⟨rfl, hb3⟩))
    go_ret2
    unfold DocSaid
    rw [HR.out]
    exact ⟨_, rfl, SliceR.nil _ _ _ _ _ _, H1.out.trans ((below_from hb2 hb3).mono hs1)⟩
set_option maxRecDepth 200000 in
set_option maxHeartbeats 4000000 in
theorem docEach_ok (v : Value) (d : Doc) (a b : Ps) (g : Nat) (lb : Array Value) (C : List Cel → Nat → Nat → List Cel) (w : World) (S : Nat → Prop) (h : LinsR w S v d) (he : EnvT w) (hs : Small d) (hf : Fits d) (hC : ∀ c i j, (C c i j).length = c.length) (hc : cellsD d a b ≠ [])
    (eg : ∀ args w, (callFunc g args).run Tryz.prog w = .ok (.enter g args) w)
    (hg : ∀ W v cs (i j : Nat), Below w.heap.size w W → CelsR true W (fun b => w.heap.size ≤ b) v cs → i ≤ j → j ≤ cs.length → cs.length ≤ 1000000 → Calls Tryz.prog g (#[v, .int .i64 i, .int .i64 j] ++ lb) W (CellsSaid (C cs i j) 0 W)) :
    Calls Tryz.prog 164 #[v, posV a, posV b, .func (.func g) #[] lb] w (DocSaid (eachD C d a b) w) := by
  obtain ⟨W1, hW1, hB, hz, k0, k1, k2⟩ := three_blocks w (.int .i64 a.line) (.int .i64 a.col) (.int .i64 b.line) (.int .i64 b.col) (.func (.func g) #[] lb) 111
  have hsp : spanD d a b = true := by
    cases hh : spanD d a b
    · exact absurd (by unfold cellsD; rw [hh]; rfl) hc
    · rfl
  have HC1 := Lib.hid (docSpan_any v d a b W1 S (h.below (rdLin_stable _) hB) (he.below hB) hs)
  rw [hsp] at HC1
  obtain ⟨nn, hnn⟩ : ∃ nn, (cellsD d a b).length = nn := ⟨_, rfl⟩
  have hn0 : (((nn : Nat) : Int) == 0) = false := by
    have : 0 < (cellsD d a b).length := List.length_pos_iff.2 hc
    simp; omega
  have HC2 : Hid (∀ W, Below W1.heap.size W1 W → Calls Tryz.prog 73 #[v, posV a, posV b] W fun e w' => e = .returned (.int .i64 nn) ∧ Below W.heap.size W w') := Lib.hid fun W hW => by
    have := docCount_any v d a b W S ((h.below (rdLin_stable _) hB).below (rdLin_stable _) hW) ((he.below hB).below hW) hs
    rw [hnn] at this
    exact this
  have HO : Hid (∀ W, Below W1.heap.size W1 W → Calls Tryz.prog 108 #[v] W fun e w' => ∃ v', e = .returned v' ∧ DocR true w' (fun b => W.heap.size ≤ b) v' d ∧ Below W.heap.size W w') := Lib.hid fun W hW => docOwn_any v d W W1 S (h.below (rdLin_stable _) hB) hW hf
  have HB : Hid (∀ W, Below W1.heap.size W1 W → W.heap[w.heap.size]? = some (.cells #[.int .i64 a.line, .int .i64 a.col] 24) ∧ W.heap[w.heap.size + 1]? = some (.cells #[.int .i64 b.line, .int .i64 b.col] 24) ∧ W.heap[w.heap.size + 2]? = some (.cells #[.func (.func g) #[] lb] 111)) := Lib.hid fun W hW => ⟨heap_below hW k0, heap_below hW k1, heap_below hW k2⟩
  have HP : Hid (∀ p : Ps, posV p = .agg #[.int .i64 p.line, .int .i64 p.col]) := Lib.hid fun _ => rfl
  have H1 := Lib.hid hB
  have HL := Lib.hid h
  have HG := Lib.hid hg
  have HCL := Lib.hid hC
  have HS := Lib.hid hs
  have HF := Lib.hid hf
  have hs1 := hB.size
  obtain ⟨p1, f1⟩ := blk k0
  obtain ⟨p2, f2⟩ := blk k1
  obtain ⟨va, vc, rfl⟩ := h.slice
  obtain ⟨_, i, j, p, q, l, m, rfl, rfl, hl, hm, hp, hq, hij, hpq⟩ := span_at hsp
  have hjl := (List.getElem?_eq_some_iff.1 hm).1
  have HR : Hid (eachD C d ⟨i, p⟩ ⟨j, q⟩ = (setRows C d (rowsTo d i p j q (j + 1)), 0)) := Lib.hid (by unfold eachD; rw [if_pos hsp, if_neg hc]; rfl)
  have HOK : Hid (∀ k, i ≤ k → k ≤ j → RowOk d (rowB d i p j q k)) := Lib.hid fun k h1 h2 => rowB_ok hl hm hp hq hpq h1 h2
  clear h he hs hg hC hf hc hnn hsp hl hm hp hq hpq k0 k1 k2 hB
  rw [HP.out, HP.out] at HC1 HC2 ⊢
  refine (callsIn_wide (n := 6)).1 ?_
  refine callsIn_of_wp_marks Tryz.func164 rfl trivial ?_ rfl
  simp only [Tryz.ntmps164, List.size_toArray, List.length_cons, List.length_nil, Nat.reduceAdd, Nat.reduceSub, Array.replicate_succ, Array.replicate_zero, List.push_toArray, List.append_toArray, List.nil_append, List.cons_append]
  have hwf : ∀ f, Fence.wide.fn f := fun _ => trivial
  have hwd : Fence.wide.depth = none := rfl
  gi_wp2_with (first
    | (gi_at_call 133; refine (callsIn_wide.2 HC1.out).mono ?_; rintro e w2 ⟨rfl, hb2⟩; obtain ⟨q1, g1⟩ := blk (HB.out _ hb2).1; obtain ⟨q2, g2⟩ := blk (HB.out _ hb2).2.1)
    | (gi_at_call 73; refine (callsIn_wide.2 (HC2.out _ hb2)).mono ?_; rintro e w3 ⟨rfl, hb3⟩; have hx3 := below_from hb2 hb3; obtain ⟨q3, g3⟩ := blk (HB.out _ hx3).1; obtain ⟨q4, g4⟩ := blk (HB.out _ hx3).2.1)
    | (gi_at_call 108; refine (callsIn_wide.2 (HO.out _ hx3)).mono ?_; rintro e w4 ⟨v4, rfl, hv4, hb4⟩; obtain ⟨va4, c4, rfl⟩ := hv4.slice; have hx4 := below_from hx3 hb4; obtain ⟨q5, g5⟩ := blk (HB.out _ hx4).1; obtain ⟨q6, g6⟩ := blk (HB.out _ hx4).2.1; have hs4 := hx4.size; have na4 : ¬ w4.heap.size = w.heap.size := (by omega); have r1 := cell_on (q5 0); have r2 := cell_on (q5 1); have r3 := cell_on (q6 0); have r4 := cell_on (q6 1))
    | (gi_at_call 134; refine (callsIn_wide.2 (between_any _ _ _ _ _ _ _ _)).mono ?_; rintro e w5 ⟨rfl, rfl⟩))
  have hx4z := hx4.size
  have hw4 : Below w.heap.size w w4 := H1.out.trans (hx4.mono hs1)
  have HV4 := Lib.hid hv4
  have hz32 := hx3.size
  obtain ⟨w6, hw6⟩ : ∃ w6, (((w4.alloc (.cells #[.slice va4 d.length c4] 22)).alloc (.cells #[.slice va d.length vc] 22)).alloc (.cells #[.int .i64 i, .int .i64 p] 24)).alloc (.cells #[.int .i64 j, .int .i64 q] 24) = w6 := ⟨_, rfl⟩
  rw [hw6]
  obtain ⟨t0, t1, t2⟩ := HB.out _ hx4
  have hb46 : Below w4.heap.size w4 w6 := hw6 ▸ ((((Below.refl _ _).alloc (Nat.le_refl _) _).alloc (by simp) _).alloc (by simp; omega) _).alloc (by simp; omega) _
  have hz6 : w6.heap.size = w4.heap.size + 4 := by rw [← hw6]; simp
  have m0 : w6.heap[w4.heap.size]? = some (.cells #[.slice va4 d.length c4] 22) := hw6 ▸ heap_old _ _ (heap_old _ _ (heap_old _ _ (heap_new _ _ rfl)))
  have n0 : w6.heap[w4.heap.size + 1]? = some (.cells #[.slice va d.length vc] 22) := hw6 ▸ heap_old _ _ (heap_old _ _ (heap_new _ _ (by simp)))
  have n1 : w6.heap[w4.heap.size + 1 + 1]? = some (.cells #[.int .i64 i, .int .i64 p] 24) := hw6 ▸ heap_old _ _ (heap_new _ _ (by simp))
  have n2 : w6.heap[w4.heap.size + 1 + 2]? = some (.cells #[.int .i64 j, .int .i64 q] 24) := hw6 ▸ heap_new _ _ (by simp)
  have hb6 : Below w.heap.size w w6 := hw4.trans (hb46.mono (by omega))
  have hEI : EI C d (.slice va4 d.length c4) (.func (.func g) #[] lb) w w4.heap.size w6.heap.size [] w6 := ⟨m0, heap_below hb46 t2, SliceR.stable (rdLin_stable true) HV4.out (.all hb46) (fun b hb _ => (by have hb : w3.heap.size ≤ b := hb; omega)), hb6, Nat.le_refl _⟩
  clear hw6 q1 q2 q3 q4 q5 q6 g1 g2 g3 g4 g5 g6 p1 p2 f1 f2 t0 t1 t2 r1 r2 r3 r4 hW1 m0 hv4
  have N0 := Lib.hid (And.intro n0 (And.intro n1 n2))
  clear n0 n1 n2
  refine rangeFunc_box rfl (by omega) (gf := 199) (lb := #[.pointer (some ⟨w4.heap.size + 1 + 1, 0, none⟩), .pointer (some ⟨w4.heap.size + 1 + 2, 0, none⟩), .pointer (some ⟨w4.heap.size + 1, 0, none⟩)]) rfl trivial (enters_of Tryz.func199 (by kernel_rfl) rfl)
    (encs := rowEnc (d := d)) (n₀ := w.heap.size) (base := w4.heap.size + 1) (S := fun ys => ys.map (·.1) = rowsTo d i p j q (j + 1)) (Sp := fun _ => True) (N := 200000) (w0 := w6) ?seq (by omega) (Below.refl _ _) (fun _ => rfl)
    (EI C d (.slice va4 d.length c4) (.func (.func g) #[] lb) w w4.heap.size w6.heap.size) (fun _ _ _ => False) (ei_own (by omega)) (fun _ _ _ _ _ hs _ _ => hs) hEI (fun _ _ h => h.2.2.2.2)
    (fun x => #[.int .i64 x.1.2.1, .int .i64 x.1.2.2]) 108 ?act ?assign ?body ?done ?stop
  case seq =>
    intro l J Jx W hW hJ _ hY h0
    exact between1_in 5 l (w4.heap.size + 1) (w4.heap.size + 1 + 1) (w4.heap.size + 1 + 2) (w4.heap.size + 1) (.slice va d.length vc) d i p j q S J Jx w W HL.out (hb6.trans (hW.mono hb6.size)) ⟨by omega, by omega, by omega⟩ (heap_below hW N0.out.1) (heap_below hW N0.out.2.1) (heap_below hW N0.out.2.2) hij hjl HOK.out HS.out.2.1 hJ hY h0
  case assign =>
    intro l pre x W K Bx hBx hI hK
    gi_wp2
    rw [← hBx]
    exact hK
  case body =>
    intro l pre x Bx W hI hBx hbx hlt
    obtain ⟨t0, t2, hD, hb, hz⟩ := hI
    obtain ⟨ln, hln, hft, htl⟩ := x.2
    obtain ⟨xi, exi⟩ : ∃ z, x.1.1 = z := ⟨_, rfl⟩
    obtain ⟨xf, exf⟩ : ∃ z, x.1.2.1 = z := ⟨_, rfl⟩
    obtain ⟨xt, ext⟩ : ∃ z, x.1.2.2 = z := ⟨_, rfl⟩
    have hal := setRows_alike HCL.out (pre.map (·.1)) d
    obtain ⟨D, hDe⟩ : ∃ D, setRows C d (pre.map (·.1)) = D := ⟨_, rfl⟩
    have HSN : Hid (setRows C d ((pre ++ [x]).map (·.1)) = setRow C D x.1) := Lib.hid (by rw [List.map_append, List.map_singleton, setRows_snoc, hDe])
    rw [hDe] at hD hal
    rw [exi] at hln
    rw [exf, ext] at hft hbx
    rw [ext] at htl
    obtain ⟨m, hm, hml⟩ := hal.2 xi ln hln
    have HRW := Lib.hid (setRow_at (C := C) (D := D) (x := x.1) (by rw [exi]; exact hm))
    rw [exi, exf, ext] at HRW
    rw [exi, exf, ext]
    clear exi exf ext hDe
    have hil := (List.getElem?_eq_some_iff.1 hln).1
    have hmc : m.cells.length ≤ 1000000 := by rw [hml]; exact (HF.out.2 ln (List.mem_of_getElem? hln)).2
    obtain ⟨b4, o4, c4', la, lc, ca, cc, hve, hc4, hm4, hA4, hI4, hC4, hS4⟩ := docOwn_at hD hm
    rw [← hal.1] at hve
    cases hve
    obtain ⟨b4', o4', cs4, hbe, _, hg4, hgz⟩ := SliceR.cellAt hD (i := xi) (by rw [← hal.1]; exact hil)
    cases hbe
    obtain ⟨hz4, _, _, _, k3, _, _⟩ := hA4
    obtain ⟨s0, s0f⟩ := blk t0
    obtain ⟨s2, s2f⟩ := blk t2
    obtain ⟨sx, sxf⟩ := blk hbx
    unfold maxLen at hm4
    have i0 : (0 : Int) ≤ (xi : Int) := Int.natCast_nonneg _
    have i1 : (xi : Int) < (d.length : Int) := by omega
    gi_wp2_with fail
    have hd0 : Below W.heap.size W W.drew := (Below.refl _ _).drew
    have HCC := Lib.hid (HG.out W.drew (.slice ca m.cells.length cc) m.cells xf xt hb.drew (SliceR.below (rdOf_stable _) hC4 hd0) hft (by rw [hml]; exact htl) hmc)
    have e1 : b4 ≠ w4.heap.size := fun e => by subst e; rw [t0] at hg4; cases hg4
    have e2 : b4 ≠ w.heap.size + 1 + 1 := fun e => by subst e; rw [show W.heap[w.heap.size + 1 + 1]? = _ from t2] at hg4; cases hg4
    have e3 : b4 ≠ Bx := fun e => by subst e; rw [hbx] at hg4; cases hg4
    have HT := Lib.hid (And.intro t0 (And.intro t2 (And.intro hbx hg4)))
    have HD := Lib.hid hD
    have HM := Lib.hid (And.intro hm hml)
    have HI4 := Lib.hid hI4
    have HIN := Lib.hid (And.intro hb hz)
    clear hD hm hml hI4 hC4 hmc t0 t2 hbx hg4 hal
    refine wpIn_region_heldR (by kernel_rfl) (by kernel_rfl) (S := fun w' => w'.cell? ⟨w4.heap.size, 0, none⟩ = some (.slice (some ⟨b4, o4, none⟩) d.length c4) ∧ w'.cell? ⟨w.heap.size + 1 + 1, 0, none⟩ = some (.func (.func g) #[] lb) ∧ w'.cell? ⟨Bx, 0, none⟩ = some (.int .i64 xf) ∧ w'.cell? ⟨Bx, 1, none⟩ = some (.int .i64 xt)) ⟨s0 0, s2 0, sx 0, sx 1⟩ (fun R hR hHeld => ?_)
    refine wpAnyH_take (i := 0) (v := ?_) (by simp only [List.getElem?_toArray, List.getElem?_cons_zero]; rfl) (by kernel_rfl) (by kernel_rfl) (by kernel_rfl) (fun _ _ _ h => h) (Or.inl ⟨by rfl, ?_⟩) (by assumption) ?_
    rotate_left 1
    · intro w hSw; (try dsimp only at hSw); go_simp; (first | done | with_reducible rfl)
    try simp only [Act.put, List.setIfInBounds_toArray, List.set_cons_zero, List.set_cons_succ]
    refine wpAnyH_take (i := 1) (v := ?_) (by simp only [List.getElem?_toArray, List.getElem?_cons_succ, List.getElem?_cons_zero]; rfl) (by kernel_rfl) (by kernel_rfl) (by kernel_rfl) (fun _ _ _ h => h) (Or.inl ⟨by rfl, ?_⟩) (by assumption) ?_
    rotate_left 1
    · intro w hSw; (try dsimp only at hSw); go_simp; (first | done | with_reducible rfl)
    try simp only [Act.put, List.setIfInBounds_toArray, List.set_cons_zero, List.set_cons_succ]
    refine wpAnyH_take (i := 2) (v := ?_) (by simp only [List.getElem?_toArray, List.getElem?_cons_succ, List.getElem?_cons_zero]; rfl) (by kernel_rfl) (by kernel_rfl) (by kernel_rfl) (fun _ _ _ h => h) (Or.inl ⟨by rfl, ?_⟩) (by assumption) ?_
    rotate_left 1
    · intro w hSw; (try dsimp only at hSw); go_simp; (first | done | with_reducible rfl)
    try simp only [Act.put, List.setIfInBounds_toArray, List.set_cons_zero, List.set_cons_succ]
    refine wpAnyH_take (i := 3) (v := ?_) (by simp only [List.getElem?_toArray, List.getElem?_cons_succ, List.getElem?_cons_zero]; rfl) (by kernel_rfl) (by kernel_rfl) (by kernel_rfl) (fun _ _ _ h => h) (Or.inl ⟨by rfl, ?_⟩) (by assumption) ?_
    rotate_left 1
    · intro w hSw; (try dsimp only at hSw); go_simp; (first | done | with_reducible rfl)
    try simp only [Act.put, List.setIfInBounds_toArray, List.set_cons_zero, List.set_cons_succ]
    refine wpAnyH_take (i := 4) (v := ?_) (by simp only [List.getElem?_toArray, List.getElem?_cons_succ, List.getElem?_cons_zero]; rfl) (by kernel_rfl) (by kernel_rfl) (by kernel_rfl) (fun _ _ _ h => h) (Or.inl ⟨by rfl, ?_⟩) (by assumption) ?_
    rotate_left 1
    · intro w hSw; (try dsimp only at hSw); go_simp; (first | done | with_reducible rfl)
    try simp only [Act.put, List.setIfInBounds_toArray, List.set_cons_zero, List.set_cons_succ]
    refine wpAnyH_take (i := 5) (v := ?_) (by simp only [List.getElem?_toArray, List.getElem?_cons_succ, List.getElem?_cons_zero]; rfl) (by kernel_rfl) (by kernel_rfl) (by kernel_rfl) (fun _ _ _ h => h) (Or.inl ⟨by rfl, ?_⟩) (by assumption) ?_
    rotate_left 1
    · intro w hSw; (try dsimp only at hSw); go_simp; (first | done | with_reducible rfl)
    try simp only [Act.put, List.setIfInBounds_toArray, List.set_cons_zero, List.set_cons_succ]
    refine wpAnyH_take (i := 6) (v := ?_) (by simp only [List.getElem?_toArray, List.getElem?_cons_succ, List.getElem?_cons_zero]; rfl) (by kernel_rfl) (by kernel_rfl) (by kernel_rfl) (fun _ _ _ h => h) (Or.inl ⟨by rfl, ?_⟩) (by assumption) ?_
    rotate_left 1
    · intro w hSw; (try dsimp only at hSw); go_simp; (first | done | with_reducible rfl)
    try simp only [Act.put, List.setIfInBounds_toArray, List.set_cons_zero, List.set_cons_succ]
    refine wpAnyH_take (i := 8) (v := ?_) (by simp only [List.getElem?_toArray, List.getElem?_cons_succ, List.getElem?_cons_zero]; rfl) (by kernel_rfl) (by kernel_rfl) (by kernel_rfl) (fun _ _ _ h => h) (Or.inl ⟨by rfl, ?_⟩) (by assumption) ?_
    rotate_left 1
    · intro w hSw; (try dsimp only at hSw); go_simp; (first | done | with_reducible rfl)
    try simp only [Act.put, List.setIfInBounds_toArray, List.set_cons_zero, List.set_cons_succ]
    refine wpAnyH_take (i := 9) (v := ?_) (by simp only [List.getElem?_toArray, List.getElem?_cons_succ, List.getElem?_cons_zero]; rfl) (by kernel_rfl) (by kernel_rfl) (by kernel_rfl) (fun _ _ _ h => h) (Or.inl ⟨by rfl, ?_⟩) (by assumption) ?_
    rotate_left 1
    · intro w hSw; (try dsimp only at hSw); go_simp; (first | done | with_reducible rfl)
    try simp only [Act.put, List.setIfInBounds_toArray, List.set_cons_zero, List.set_cons_succ]
    refine wpAnyH_take (i := 10) (v := ?_) (by simp only [List.getElem?_toArray, List.getElem?_cons_succ, List.getElem?_cons_zero]; rfl) (by kernel_rfl) (by kernel_rfl) (by kernel_rfl) (fun _ _ _ h => h) (Or.inl ⟨by rfl, ?_⟩) (by assumption) ?_
    rotate_left 1
    · intro w hSw; (try dsimp only at hSw); go_simp; (first | done | with_reducible rfl)
    try simp only [Act.put, List.setIfInBounds_toArray, List.set_cons_zero, List.set_cons_succ]
    refine wpAnyH_take (i := 11) (v := ?_) (by simp only [List.getElem?_toArray, List.getElem?_cons_succ, List.getElem?_cons_zero]; rfl) (by kernel_rfl) (by kernel_rfl) (by kernel_rfl) (fun _ _ _ h => h) (Or.inl ⟨by rfl, ?_⟩) (by assumption) ?_
    rotate_left 1
    · intro w hSw; (try dsimp only at hSw); go_simp; (first | done | with_reducible rfl)
    try simp only [Act.put, List.setIfInBounds_toArray, List.set_cons_zero, List.set_cons_succ]
    refine wpAnyH_ready (rs := [7]) (by kernel_rfl) (by simp) ?_
    refine AllReadyH.cons (by simp only [List.getElem?_toArray, List.getElem?_cons_succ, List.getElem?_cons_zero]; rfl) (fun K hK => ?_) AllReadyH.nil
    go_simp
    refine hK.out _ _ ⟨s0 0, s2 0, sx 0, sx 1⟩ (fun _ => ?_)
    clear hK K
    try simp only [Act.put, List.setIfInBounds_toArray, List.set_cons_zero, List.set_cons_succ]
    refine wpAnyH_ready (rs := [12]) (by kernel_rfl) (by simp) ?_
    refine AllReadyH.cons (by simp only [List.getElem?_toArray, List.getElem?_cons_succ, List.getElem?_cons_zero]; rfl) (fun K hK => ?_) AllReadyH.nil
    go_simp
    refine HCC.out.mono ?_
    intro e w5 hsaid
    obtain ⟨v5, rfl, hv5, hb5⟩ := hsaid
    have hb5 : Below W.heap.size W w5 := hd0.trans hb5
    obtain ⟨a5, c5, rfl⟩ := hv5.slice
    obtain ⟨y0, y0f⟩ := blk (heap_below hb5 HT.out.1)
    obtain ⟨y2, y2f⟩ := blk (heap_below hb5 HT.out.2.1)
    obtain ⟨yx, yxf⟩ := blk (heap_below hb5 HT.out.2.2.1)
    have hS5 : w5.cell? ⟨w4.heap.size, 0, none⟩ = some (.slice (some ⟨b4, o4, none⟩) d.length c4) ∧ w5.cell? ⟨w.heap.size + 1 + 1, 0, none⟩ = some (.func (.func g) #[] lb) ∧ w5.cell? ⟨Bx, 0, none⟩ = some (.int .i64 xf) ∧ w5.cell? ⟨Bx, 1, none⟩ = some (.int .i64 xt) := ⟨y0 0, y2 0, yx 0, yx 1⟩
    have y4 : w5.cell? ⟨b4, o4 + xi * 4 + 3, none⟩ = some (.slice ca m.cells.length cc) := (hb5.cell (p := ⟨b4, o4 + xi * 4 + 3, none⟩) hz4).trans k3
    have y4f : w5.frozen? ⟨b4, o4 + xi * 4 + 3, none⟩ = false := frozen_of_heap (heap_below hb5 HT.out.2.2.2)
    refine hK.out _ _ hS5 (fun hHeld => ?_)
    clear hK K
    try simp only [Act.put, List.setIfInBounds_toArray, List.set_cons_zero, List.set_cons_succ]
    refine wpAnyH_take (i := 13) (v := ?_) (by simp only [List.getElem?_toArray, List.getElem?_cons_succ, List.getElem?_cons_zero]; rfl) (by kernel_rfl) (by kernel_rfl) (by kernel_rfl) (fun _ _ _ h => h) (Or.inl ⟨by rfl, ?_⟩) (by assumption) ?_
    rotate_left 1
    · intro w hSw; (try dsimp only at hSw); go_simp; (first | done | with_reducible rfl)
    try simp only [Act.put, List.setIfInBounds_toArray, List.set_cons_zero, List.set_cons_succ]
    refine wpAnyH_take (i := 14) (v := ?_) (by simp only [List.getElem?_toArray, List.getElem?_cons_succ, List.getElem?_cons_zero]; rfl) (by kernel_rfl) (by kernel_rfl) (by kernel_rfl) (fun _ _ _ h => h) (Or.inl ⟨by rfl, ?_⟩) (by assumption) ?_
    rotate_left 1
    · intro w hSw; (try dsimp only at hSw); go_simp; (first | done | with_reducible rfl)
    try simp only [Act.put, List.setIfInBounds_toArray, List.set_cons_zero, List.set_cons_succ]
    refine wpAnyH_take (i := 15) (v := ?_) (by simp only [List.getElem?_toArray, List.getElem?_cons_succ, List.getElem?_cons_zero]; rfl) (by kernel_rfl) (by kernel_rfl) (by kernel_rfl) (fun _ _ _ h => h) (Or.inl ⟨by rfl, ?_⟩) (by assumption) ?_
    rotate_left 1
    · intro w hSw; (try dsimp only at hSw); go_simp; (first | done | with_reducible rfl)
    try simp only [Act.put, List.setIfInBounds_toArray, List.set_cons_zero, List.set_cons_succ]
    refine wpAnyH_take (i := 16) (v := ?_) (by simp only [List.getElem?_toArray, List.getElem?_cons_succ, List.getElem?_cons_zero]; rfl) (by kernel_rfl) (by kernel_rfl) (by kernel_rfl) (fun _ _ _ h => h) (Or.inl ⟨by rfl, ?_⟩) (by assumption) ?_
    rotate_left 1
    · intro w hSw; (try dsimp only at hSw); go_simp; (first | done | with_reducible rfl)
    try simp only [Act.put, List.setIfInBounds_toArray, List.set_cons_zero, List.set_cons_succ]
    refine wpAnyH_take (i := 17) (v := ?_) (by simp only [List.getElem?_toArray, List.getElem?_cons_succ, List.getElem?_cons_zero]; rfl) (by kernel_rfl) (by kernel_rfl) (by kernel_rfl) (fun _ _ _ h => h) (Or.inl ⟨by rfl, ?_⟩) (by assumption) ?_
    rotate_left 1
    · intro w hSw; (try dsimp only at hSw); go_simp; (first | done | with_reducible rfl)
    try simp only [Act.put, List.setIfInBounds_toArray, List.set_cons_zero, List.set_cons_succ]
    refine wpAnyH_ready (rs := [18]) (by kernel_rfl) (by simp) ?_
    refine AllReadyH.cons (by simp only [List.getElem?_toArray, List.getElem?_cons_succ, List.getElem?_cons_zero]; rfl) (fun K hK => ?_) AllReadyH.nil
    go_simp
    obtain ⟨b4', o4', cs6, hbe6, _, hg6, _⟩ := SliceR.cellAt HV4.out (i := xi) hil
    cases hbe6
    have hb4w : b4 < w4.heap.size := (Array.getElem?_eq_some_iff.1 hg6).1
    have hS6 : (w5.setCell ⟨b4, o4 + xi * 4 + 3, none⟩ (.slice a5 (C m.cells xf xt).length c5)).cell? ⟨w4.heap.size, 0, none⟩ = some (.slice (some ⟨b4, o4, none⟩) d.length c4) ∧ (w5.setCell ⟨b4, o4 + xi * 4 + 3, none⟩ (.slice a5 (C m.cells xf xt).length c5)).cell? ⟨w.heap.size + 1 + 1, 0, none⟩ = some (.func (.func g) #[] lb) ∧ (w5.setCell ⟨b4, o4 + xi * 4 + 3, none⟩ (.slice a5 (C m.cells xf xt).length c5)).cell? ⟨Bx, 0, none⟩ = some (.int .i64 xf) ∧ (w5.setCell ⟨b4, o4 + xi * 4 + 3, none⟩ (.slice a5 (C m.cells xf xt).length c5)).cell? ⟨Bx, 1, none⟩ = some (.int .i64 xt) :=
      ⟨(setCell_block e1).trans hS5.1, (setCell_block e2).trans hS5.2.1, (setCell_block e3).trans hS5.2.2.1, (setCell_block e3).trans hS5.2.2.2⟩
    refine hK.out _ _ hS6 (fun _ => ?_)
    refine wpAnyH_done (by kernel_rfl) ?_ _
    refine hR.out _ _ ?_
    gi_wp2_with fail
    have h5 := SliceR.below (rdLin_stable true) HD.out hb5
    have hv5' : CelsR true w5 (fun b => w.heap.size ≤ b) (.slice a5 (C m.cells xf xt).length c5) (C m.cells xf xt) := SliceR.stable (rdOf_stable _) hv5 (Keeps.refl _ _) (fun b hb' _ => by
      have hb' : W.heap.size ≤ b := hb'
      have := HIN.out.1.size
      omega)
    have h6 := SliceR.set1 eltLine.tag h5 HM.out.1 (j := 3) (x' := { m with cells := C m.cells xf xt }) (by decide) (.slice a5 (C m.cells xf xt).length c5) (by
      rintro vs _ ⟨p', q', rfl, hp', hq'⟩
      exact ⟨p', _, rfl, hp', hv5'⟩)
    have hbw5 := below_from HIN.out.1 hb5
    refine ⟨((keeps_below hb5).from _).trans ((KeepsOthers.setCell _ _ _).from _), (Kp.of_below HIN.out.1.size hb5).t (Kp.setCell _ hS4 (by omega) _), ?_, ?_, ?_, hbw5.setCell hS4 _, ?_⟩
    · rw [heap_set, if_neg e1]; exact heap_below hb5 HT.out.1
    · rw [heap_set, if_neg e2]; exact heap_below hb5 HT.out.2.1
    · rw [HSN.out, HRW.out]; exact h6
    · have := hb5.size; have := HIN.out.2; simp; omega
  case done =>
    rintro D ys W hD hys ⟨t0, t2, hDoc, hb, hz⟩ hK
    obtain ⟨s0, s0f⟩ := blk t0
    rw [hys] at hDoc
    have HDOC := Lib.hid hDoc
    have HB9 := Lib.hid hb
    have HK9 := Lib.hid hK
    clear hDoc t2 hb hK
    gi_wp2_with fail
    refine ⟨by simp, .inl ⟨_, _, rfl, run_takeDeferred HK9.out, ?_⟩⟩
    refine ⟨.tuple #[.slice va4 d.length c4, .int .i64 0], by simp [results, Tryz.results164, go_sem], ?_⟩
    unfold DocSaid
    rw [HR.out]
    exact ⟨_, rfl, (doc_own (β := Unit) D _ _ (fun _ => setRows C d (rowsTo d i p j q (j + 1)))).putObj (s := ()) _ HDOC.out (Nat.le_refl _) HK9.out rfl, HB9.out.trans (belowK_b (w := w) (Nat.le_refl _) W D _ _ (by omega) HK9.out rfl rfl)⟩
  case stop =>
    rintro D c pre W _ _ h _
    exact h.elim
theorem docEach_any (v : Value) (d : Doc) (a b : Ps) (g : Nat) (lb : Array Value) (C : List Cel → Nat → Nat → List Cel) (w : World) (S : Nat → Prop) (h : LinsR w S v d) (he : EnvT w) (hs : Small d) (hf : Fits d) (hC : ∀ c i j, (C c i j).length = c.length)
    (eg : ∀ args w, (callFunc g args).run Tryz.prog w = .ok (.enter g args) w)
    (hg : ∀ W v cs (i j : Nat), Below w.heap.size w W → CelsR true W (fun b => w.heap.size ≤ b) v cs → i ≤ j → j ≤ cs.length → cs.length ≤ 1000000 → Calls Tryz.prog g (#[v, .int .i64 i, .int .i64 j] ++ lb) W (CellsSaid (C cs i j) 0 W)) :
    Calls Tryz.prog 164 #[v, posV a, posV b, .func (.func g) #[] lb] w (DocSaid (eachD C d a b) w) := by
  by_cases hc : cellsD d a b = []
  · exact docEach_off v d a b g lb C w S h he hs hc
  · exact docEach_ok v d a b g lb C w S h he hs hf hC hc eg hg
end Go.Proofs.YtpndnbjpnajaaaaGreatDoor
namespace Go.Proofs.YtpndnbjpnajaaaaGreatDoor
open Go.RowKit
open Go.Proofs.Qw
theorem DocSaid.from {x : Doc × Int} {w W : World} {e : Ending} {w' : World} (h : DocSaid x W e w') (hb : Below w.heap.size w W) : DocSaid x w e w' := by
  obtain ⟨v', h1, h2, h3⟩ := h
  exact ⟨v', h1, SliceR.stable (rdLin_stable true) h2 (Keeps.refl _ _) (fun b h _ => Nat.le_trans hb.size h), below_from hb h3⟩
theorem eachC_ok {F : Cel → Cel} {cs : List Cel} {i j : Nat} (hij : i ≤ j) (hj : j ≤ cs.length) : eachC F cs i j = (mapIn F i j cs, 0) := by
  unfold eachC spanC
  rw [if_pos (by simp; omega)]
  simp
theorem docSet1_any (v : Value) (cs : List Cel) (i j s c : Int) (b1 b2 : Nat) (w : World) (S : Nat → Prop) (own : Bool) (h : CelsR own w S v cs) (hs : cs.length ≤ 1000000) (h1 : w.heap[b1]? = some (.cells #[.int .i64 s] 3)) (h2 : w.heap[b2]? = some (.cells #[.int .i64 c] 3)) :
    Calls Tryz.prog 165 #[v, .int .i64 i, .int .i64 j, .pointer (some ⟨b1, 0, none⟩), .pointer (some ⟨b2, 0, none⟩)] w (CellsSaid (eachC (setBits s c) cs i j).1 (eachC (setBits s c) cs i j).2 w) := by
  have HC := Lib.hid (cellsSet_any v cs i j s c w S own h hs)
  obtain ⟨a, cc, rfl⟩ := h.slice
  obtain ⟨p1, f1⟩ := blk h1
  obtain ⟨p2, f2⟩ := blk h2
  generalize eachC (setBits s c) cs i j = r at *
  clear h h1 h2
  go_enter Tryz.func165, Tryz.ntmps165
  go_wp2_with (go_at_call 166; refine HC.out.mono ?_; intro e w2 hsaid; obtain ⟨v', rfl, hv', hb'⟩ := hsaid)
  go_ret2
  exact ⟨_, rfl, hv', hb'⟩
theorem docLink1_any (v : Value) (cs : List Cel) (i j : Int) (hr : List UInt8) (b1 : Nat) (w : World) (S : Nat → Prop) (own : Bool) (h : CelsR own w S v cs) (hs : cs.length ≤ 1000000) (he : EnvT w) (hh : hr.length ≤ 1000000) (h1 : w.heap[b1]? = some (.cells #[.string ⟨hr.toArray⟩] 9)) :
    Calls Tryz.prog 171 #[v, .int .i64 i, .int .i64 j, .pointer (some ⟨b1, 0, none⟩)] w (CellsSaid (linkC hr cs i j).1 (linkC hr cs i j).2 w) := by
  have HC := Lib.hid (cellsLink_any v cs i j hr w S own h hs he hh)
  obtain ⟨a, cc, rfl⟩ := h.slice
  obtain ⟨p1, f1⟩ := blk h1
  generalize linkC hr cs i j = r at *
  clear h h1 he hh
  go_enter Tryz.func171, Tryz.ntmps171
  go_wp2_with (go_at_call 172; refine HC.out.mono ?_; intro e w2 hsaid; obtain ⟨v', rfl, hv', hb'⟩ := hsaid)
  go_ret2
  exact ⟨_, rfl, hv', hb'⟩
def setD (s c : Int) (d : Doc) (a b : Ps) : Doc × Int := eachD (fun cs i j => mapIn (setBits s c) i j cs) d a b
set_option maxRecDepth 100000 in
set_option maxHeartbeats 2000000 in
theorem docSet_any (v : Value) (d : Doc) (a b : Ps) (s c : Int) (w : World) (S : Nat → Prop) (h : LinsR w S v d) (he : EnvT w) (hs : Small d) (hf : Fits d) :
    Calls Tryz.prog 97 #[v, posV a, posV b, .int .i64 s, .int .i64 c] w (DocSaid (setD s c d a b) w) := by
  obtain ⟨W1, hW1⟩ : ∃ W1, (((w.alloc (.cells #[.int .i64 a.line, .int .i64 a.col] 24)).alloc (.cells #[.int .i64 b.line, .int .i64 b.col] 24)).alloc (.cells #[.int .i64 s] 3)).alloc (.cells #[.int .i64 c] 3) = W1 := ⟨_, rfl⟩
  have hB : Below w.heap.size w W1 := hW1 ▸ ((((Below.refl _ _).alloc (Nat.le_refl _) _).alloc (by simp) _).alloc (by simp; omega) _).alloc (by simp; omega) _
  have k0 : W1.heap[w.heap.size]? = some (.cells #[.int .i64 a.line, .int .i64 a.col] 24) := hW1 ▸ heap_old _ _ (heap_old _ _ (heap_old _ _ (heap_new _ _ rfl)))
  have k1 : W1.heap[w.heap.size + 1]? = some (.cells #[.int .i64 b.line, .int .i64 b.col] 24) := hW1 ▸ heap_old _ _ (heap_old _ _ (heap_new _ _ (by simp)))
  have k2 : W1.heap[w.heap.size + 2]? = some (.cells #[.int .i64 s] 3) := hW1 ▸ heap_old _ _ (heap_new _ _ (by simp))
  have k3 : W1.heap[w.heap.size + 3]? = some (.cells #[.int .i64 c] 3) := hW1 ▸ heap_new _ _ (by simp)
  have HC := Lib.hid (docEach_any v d a b 165 #[.pointer (some ⟨w.heap.size + 2, 0, none⟩), .pointer (some ⟨w.heap.size + 3, 0, none⟩)] (fun cs i j => mapIn (setBits s c) i j cs) W1 S (h.below (rdLin_stable _) hB) (he.below hB) hs hf (fun c i j => mapIn_length _ _ _ _)
    (enters_of Tryz.func165 (by kernel_rfl) rfl) (fun W v cs i j hW hv hij hj hl => by
      have := docSet1_any v cs i j s c (w.heap.size + 2) (w.heap.size + 3) W _ true hv hl (heap_below hW k2) (heap_below hW k3)
      rw [eachC_ok hij hj] at this
      exact this))
  have HP : Hid (∀ p : Ps, posV p = .agg #[.int .i64 p.line, .int .i64 p.col]) := Lib.hid fun _ => rfl
  have HR : Hid (setD s c d a b = eachD (fun cs i j => mapIn (setBits s c) i j cs) d a b) := Lib.hid rfl
  have H1 := Lib.hid hB
  obtain ⟨p1, f1⟩ := blk k0
  obtain ⟨p2, f2⟩ := blk k1
  obtain ⟨va, vc, rfl⟩ := h.slice
  generalize eachD (fun cs i j => mapIn (setBits s c) i j cs) d a b = r at *
  clear h he hs hf k0 k1 k2 k3 hB
  rw [HP.out a, HP.out b] at HC ⊢
  go_enter Tryz.func97, Tryz.ntmps97
  go_wp2_with (go_at_call 164; refine HC.out.mono ?_; intro e w2 hsaid; have hsaid := DocSaid.from hsaid H1.out; obtain ⟨v', rfl, hv', hb'⟩ := hsaid)
  go_ret2
  rw [HR.out]
  exact ⟨_, rfl, hv', hb'⟩
def linkD (hr : List UInt8) (d : Doc) (a b : Ps) : Doc × Int := if linkF hr = true then eachD (fun cs i j => mapIn (setHref hr) i j cs) d a b else ([], 1)
set_option maxRecDepth 100000 in
set_option maxHeartbeats 2000000 in
theorem docLink_any (v : Value) (d : Doc) (a b : Ps) (hr : List UInt8) (w : World) (S : Nat → Prop) (h : LinsR w S v d) (he : EnvT w) (hs : Small d) (hf : Fits d) (hh : hr.length ≤ 1000000) :
    Calls Tryz.prog 100 #[v, posV a, posV b, .string ⟨hr.toArray⟩] w (DocSaid (linkD hr d a b) w) := by
  obtain ⟨W1, hW1, hB, hz, k0, k1, k2⟩ := three_blocks w (.int .i64 a.line) (.int .i64 a.col) (.int .i64 b.line) (.int .i64 b.col) (.string ⟨hr.toArray⟩) 9
  have HB : Hid (∀ W, Below W1.heap.size W1 W → W.heap[w.heap.size]? = some (.cells #[.int .i64 a.line, .int .i64 a.col] 24) ∧ W.heap[w.heap.size + 1]? = some (.cells #[.int .i64 b.line, .int .i64 b.col] 24)) := Lib.hid fun W hW => ⟨heap_below hW k0, heap_below hW k1⟩
  have HT : Hid (Calls Tryz.prog 99 #[.string ⟨hr.toArray⟩] W1 fun e w' => e = .returned (.bool (targetF hr)) ∧ Below W1.heap.size W1 w') := Lib.hid (target_any ⟨hr.toArray⟩ W1 (he.below hB) (by show hr.toArray.size ≤ _; simpa using hh))
  have HC : Hid (linkF hr = true → ∀ W, Below W1.heap.size W1 W → Calls Tryz.prog 164 #[v, posV a, posV b, .func (.func 171) #[] #[.pointer (some ⟨w.heap.size + 2, 0, none⟩)]] W (DocSaid (eachD (fun cs i j => mapIn (setHref hr) i j cs) d a b) W)) := Lib.hid fun hlk W hW =>
    docEach_any v d a b 171 #[.pointer (some ⟨w.heap.size + 2, 0, none⟩)] (fun cs i j => mapIn (setHref hr) i j cs) W S ((h.below (rdLin_stable _) hB).below (rdLin_stable _) hW) ((he.below hB).below hW) hs hf (fun c i j => mapIn_length _ _ _ _)
      (enters_of Tryz.func171 (by kernel_rfl) rfl) (fun X v cs i j hX hv hij hj hl => by
        have := docLink1_any v cs i j hr (w.heap.size + 2) X _ true hv hl (((he.below hB).below hW).below hX) hh (heap_below hX (heap_below hW k2))
        unfold linkC at this
        rw [if_pos hlk, eachC_ok hij hj] at this
        exact this)
  have HP : Hid (∀ p : Ps, posV p = .agg #[.int .i64 p.line, .int .i64 p.col]) := Lib.hid fun _ => rfl
  have HR : Hid (linkD hr d a b = if linkF hr = true then eachD (fun cs i j => mapIn (setHref hr) i j cs) d a b else ([], 1)) := Lib.hid rfl
  have HL : Hid (linkF hr = (decide (hr = []) || targetF hr)) := Lib.hid rfl
  have H1 := Lib.hid hB
  have hs1 := hB.size
  have hw1 : Below W1.heap.size W1 W1 := Below.refl _ _
  obtain ⟨p1, f1⟩ := blk k0
  obtain ⟨p2, f2⟩ := blk k1
  obtain ⟨p3, f3⟩ := blk k2
  obtain ⟨va, vc, rfl⟩ := h.slice
  generalize eachD (fun cs i j => mapIn (setHref hr) i j cs) d a b = r at *
  clear h he hs hf k0 k1 k2 hB hh
  rw [HP.out a, HP.out b] at HC ⊢
  by_cases hn : hr = []
  · have HC := Lib.hid (HC.out (by rw [HL.out, decide_eq_true hn]; rfl))
    have HR : Hid (linkD hr d a b = r) := Lib.hid (HR.out.trans (if_pos (by rw [HL.out, decide_eq_true hn]; rfl)))
    have hne : hr.isEmpty = true := by simpa using hn
    clear hn
    go_enter Tryz.func100, Tryz.ntmps100
    go_wp2_with (go_at_call 164; refine (HC.out _ hw1).mono ?_; intro e w2 hsaid; have hsaid := DocSaid.from hsaid H1.out; obtain ⟨v', rfl, hv', hb'⟩ := hsaid)
    go_ret2
    rw [HR.out]
    exact ⟨_, rfl, hv', hb'⟩
  · have hne : hr.isEmpty = false := by simpa using hn
    cases htg : targetF hr
    · have HR : Hid (linkD hr d a b = ([], 1)) := Lib.hid (HR.out.trans (if_neg (by rw [HL.out, decide_eq_false hn, htg]; simp)))
      rw [htg] at HT
      clear htg
      go_enter Tryz.func100, Tryz.ntmps100
      go_wp2_with (go_at_call 99; refine HT.out.mono ?_; rintro e w2 ⟨rfl, hb2⟩)
      go_ret2
      unfold DocSaid
      rw [HR.out]
      exact ⟨_, rfl, SliceR.nil _ _ _ _ _ _, H1.out.trans (hb2.mono hs1)⟩
    · have hlk : linkF hr = true := by rw [HL.out, htg]; simp
      have HC := Lib.hid (HC.out hlk)
      have HR : Hid (linkD hr d a b = r) := Lib.hid (HR.out.trans (if_pos hlk))
      rw [htg] at HT
      clear htg hlk
      go_enter Tryz.func100, Tryz.ntmps100
      go_wp2_with (first | (go_at_call 99; refine HT.out.mono ?_; rintro e w2 ⟨rfl, hb2⟩; obtain ⟨q1, g1⟩ := blk (HB.out _ hb2).1; obtain ⟨q2, g2⟩ := blk (HB.out _ hb2).2) | (go_at_call 164; refine (HC.out _ hb2).mono ?_; intro e w3 hsaid; have hsaid := DocSaid.from hsaid (H1.out.trans (hb2.mono hs1)); obtain ⟨v', rfl, hv', hb'⟩ := hsaid))
      go_ret2
      rw [HR.out]
      exact ⟨_, rfl, hv', hb'⟩
end Go.Proofs.YtpndnbjpnajaaaaGreatDoor
namespace Go.Proofs.Qw
open Go.RowKit Go.Proofs.YtpndnbjpnajaaaaGreatDoor
structure St where
  lines : Doc
  anc : Ps
  foc : Ps
  on : Int
  off : Int
  deriving DecidableEq, Inhabited
def noS : St := ⟨[], ⟨0, 0⟩, ⟨0, 0⟩, 0, 0⟩
def mayS (s : St) : Bool := mayD s.lines && (isD s.lines s.anc && (isD s.lines s.foc && (bits .andNot .i64 s.on 15 == 0 && (bits .andNot .i64 s.off 15 == 0 && bits .and .i64 s.on s.off == 0))))
def spanS (s : St) : Ps × Ps := if 0 < cmpP s.anc s.foc then (s.foc, s.anc) else (s.anc, s.foc)
abbrev stV (v : Value) (s : St) : Value := .agg #[v, .int .i64 s.anc.line, .int .i64 s.anc.col, .int .i64 s.foc.line, .int .i64 s.foc.col, .int .i64 s.on, .int .i64 s.off]
theorem one_st (w : World) (v : Value) (s : St) : ∃ W1, w.alloc (.cells #[v, .int .i64 s.anc.line, .int .i64 s.anc.col, .int .i64 s.foc.line, .int .i64 s.foc.col, .int .i64 s.on, .int .i64 s.off] 26) = W1 ∧ Below w.heap.size w W1 ∧ w.heap.size + 1 = W1.heap.size ∧
    W1.heap[w.heap.size]? = some (.cells #[v, .int .i64 s.anc.line, .int .i64 s.anc.col, .int .i64 s.foc.line, .int .i64 s.foc.col, .int .i64 s.on, .int .i64 s.off] 26) :=
  ⟨_, rfl, (Below.refl _ _).alloc (Nat.le_refl _) _, by simp, heap_new _ _ rfl⟩
def StSaid (x : St × Int) (w : World) (e : Ending) (w' : World) : Prop := ∃ v', e = .returned (.tuple #[stV v' x.1, .int .i64 x.2]) ∧ DocR true w' (fun b => w.heap.size ≤ b) v' x.1.lines ∧ Below w.heap.size w w'
theorem StSaid.from {x : St × Int} {w W : World} {e : Ending} {w' : World} (h : StSaid x W e w') (hb : Below w.heap.size w W) : StSaid x w e w' := by
  obtain ⟨v', h1, h2, h3⟩ := h
  exact ⟨v', h1, SliceR.stable (rdLin_stable true) h2 (Keeps.refl _ _) (fun b h _ => Nat.le_trans hb.size h), below_from hb h3⟩
theorem below1 {w W : World} (h : Below w.heap.size w W) (X : Obj) : Below w.heap.size w (W.alloc X) := h.alloc h.size X
theorem below2 {w W : World} (h : Below w.heap.size w W) (X Y : Obj) : Below w.heap.size w ((W.alloc X).alloc Y) := below1 (below1 h X) Y
theorem below3 {w W : World} (h : Below w.heap.size w W) (X Y Z : Obj) : Below w.heap.size w (((W.alloc X).alloc Y).alloc Z) := below1 (below2 h X Y) Z
theorem on1 {w : World} {B : Nat} {cs : Array Value} {t : TypeId} (h : w.heap[B]? = some (.cells cs t)) : ∀ X k, (w.alloc X).cell? ⟨B, k, none⟩ = cs[k]? := fun X _ => cell_of_heap (heap_old _ X h)
theorem on2 {w : World} {B : Nat} {cs : Array Value} {t : TypeId} (h : w.heap[B]? = some (.cells cs t)) : ∀ X Y k, ((w.alloc X).alloc Y).cell? ⟨B, k, none⟩ = cs[k]? := fun X Y _ => cell_of_heap (heap_old _ Y (heap_old _ X h))
theorem cmpP_lt (a b : Ps) : (0 < cmpP a b) = (cmpP b a < 0) := by
  obtain ⟨a, c⟩ := a
  obtain ⟨b, d⟩ := b
  simp only [cmpP, cmpI, eq_iff_iff, ne_eq]
  split <;> split <;> (try split) <;> (try split) <;> (try split) <;> (try split) <;> simp_all <;> omega
end Go.Proofs.Qw
namespace Go.Proofs.YtpndnbjpnajaaaaGreatDoor
open Go.RowKit
open Go.Proofs.Qw
theorem results_two_pos {fn : Func} {p u : Tmp} (h : fn.results = #[.cell p 24, .cell u 24]) (tmps : Array Value) (w : World) (B C : Nat) (a b c d : Value) (hp : tmps.getD p undef = .pointer (some ⟨B, 0, none⟩)) (hu : tmps.getD u undef = .pointer (some ⟨C, 0, none⟩))
    (h1 : w.heap[B]? = some (.cells #[a, b] 24)) (h2 : w.heap[C]? = some (.cells #[c, d] 24)) : (results fn tmps).run Tryz.prog w = .ok (.tuple #[.agg #[a, b], .agg #[c, d]]) w := by
  have hp' : tmps[p]?.getD undef = .pointer (some ⟨B, 0, none⟩) := by simpa using hp
  have hu' : tmps[u]?.getD undef = .pointer (some ⟨C, 0, none⟩) := by simpa using hu
  have e1 := run_loadVar_row (P := Tryz.prog) w B 24 24 _ _ _ h1 Tryz.underlying24 rfl (by kernel_rfl)
  have e2 := run_loadVar_row (P := Tryz.prog) w C 24 24 _ _ _ h2 Tryz.underlying24 rfl (by kernel_rfl)
  simp [results, h, hp', hu', asAddr, e1, e2]
theorem results_st {fn : Func} {p : Tmp} (h : fn.results = #[.cell p 26]) (tmps : Array Value) (w : World) (B : Nat) (a b c d e f g : Value) (hp : tmps.getD p undef = .pointer (some ⟨B, 0, none⟩)) (hg : w.heap[B]? = some (.cells #[a, b, c, d, e, f, g] 26)) :
    (results fn tmps).run Tryz.prog w = .ok (.agg #[a, b, c, d, e, f, g]) w :=
  results_cell_row h tmps w B _ _ _ _ hp hg Tryz.underlying26 rfl (by kernel_rfl)
theorem st_pos2 (w : World) (v : Value) (s : St) : ∃ W1, ((w.alloc (.cells #[v, .int .i64 s.anc.line, .int .i64 s.anc.col, .int .i64 s.foc.line, .int .i64 s.foc.col, .int .i64 s.on, .int .i64 s.off] 26)).alloc (.cells #[.int .i64 0, .int .i64 0] 24)).alloc (.cells #[.int .i64 0, .int .i64 0] 24) = W1 ∧ Below w.heap.size w W1 ∧ w.heap.size + 3 = W1.heap.size ∧
    W1.heap[w.heap.size]? = some (.cells #[v, .int .i64 s.anc.line, .int .i64 s.anc.col, .int .i64 s.foc.line, .int .i64 s.foc.col, .int .i64 s.on, .int .i64 s.off] 26) ∧ W1.heap[w.heap.size + 1]? = some (.cells #[.int .i64 0, .int .i64 0] 24) ∧ W1.heap[w.heap.size + 2]? = some (.cells #[.int .i64 0, .int .i64 0] 24) :=
  ⟨_, rfl, (((Below.refl _ _).alloc (Nat.le_refl _) _).alloc (by simp) _).alloc (by simp; omega) _, by simp, heap_old _ _ (heap_old _ _ (heap_new _ _ rfl)), heap_old _ _ (heap_new _ _ (by simp)), heap_new _ _ (by simp)⟩
theorem st_two (w : World) (v : Value) (s : St) : ∃ W1, (w.alloc (.cells #[v, .int .i64 s.anc.line, .int .i64 s.anc.col, .int .i64 s.foc.line, .int .i64 s.foc.col, .int .i64 s.on, .int .i64 s.off] 26)).alloc (.cells #[.slice none 0 0, .int .i64 0, .int .i64 0, .int .i64 0, .int .i64 0, .int .i64 0, .int .i64 0] 26) = W1 ∧ Below w.heap.size w W1 ∧ w.heap.size + 2 = W1.heap.size ∧
    W1.heap[w.heap.size]? = some (.cells #[v, .int .i64 s.anc.line, .int .i64 s.anc.col, .int .i64 s.foc.line, .int .i64 s.foc.col, .int .i64 s.on, .int .i64 s.off] 26) ∧ W1.heap[w.heap.size + 1]? = some (.cells #[.slice none 0 0, .int .i64 0, .int .i64 0, .int .i64 0, .int .i64 0, .int .i64 0, .int .i64 0] 26) :=
  ⟨_, rfl, ((Below.refl _ _).alloc (Nat.le_refl _) _).alloc (by simp) _, by simp, heap_old _ _ (heap_new _ _ rfl), heap_new _ _ (by simp)⟩
end Go.Proofs.YtpndnbjpnajaaaaGreatDoor
namespace Go.Proofs.YtpndnbjpnajaaaaGreatDoor
open Go.ChangeShapes Go.WideShapes Go.ChangeAt Go.RowKit
open Go.Proofs.Qw Go.Deep
section
variable {H : Type} {enc : TypeId × Value → H} {w : World} {base : Nat} {held : Bool}
def InI (x : Int) : Prop := -9223372036854775808 ≤ x ∧ x ≤ 9223372036854775807
set_option maxRecDepth 100000 in
theorem open_ps {n : Nat} {sp : Nat → Bool} {cs : List Value} {y : DataW H × List MemPlace} (h : DataW.trod enc Tryz.prog w base sp held n 24 cs = some y) : ∃ x : Ps, cs = [.int .i64 x.line, .int .i64 x.col] := by
  obtain ⟨xs, m, _, _, hl, hxs, hf⟩ := DataW.trod_struct Tryz.underlying24 h
  have h0 := hf 0 _ rfl
  have h1 := hf 1 _ rfl
  rw [show Tryz.prog.cellsOf 24 = 2 by kernel_rfl] at hl
  match cs, hl with
  | [a, b], _ =>
    match xs, hxs with
    | [x0, x1], _ =>
      obtain ⟨q, e0, _, _⟩ := DataW.trod_int Tryz.underlying3 h0
      obtain ⟨r, e1, _, _⟩ := DataW.trod_int Tryz.underlying3 h1
      have e0 : [a] = [Value.int .i64 q] := e0
      have e1 : [b] = [Value.int .i64 r] := e1
      cases e0
      cases e1
      exact ⟨⟨q, r⟩, rfl⟩
set_option maxRecDepth 100000 in
theorem open_docL {n : Nat} {cs : List Value} {y : DataW H × List MemPlace} (h : DataW.trod enc Tryz.prog w base (fun _ => true) held n 22 cs = some y) (hw : ∀ n ∈ y.1.weights Tryz.prog 22, n ≤ reachBytes) :
    ∃ (v : Value) (x : Doc), cs = [v] ∧ LinsR w (fun _ => True) v x ∧ Sane x := by
  obtain ⟨v', xs, e, hs, hx⟩ := open_row (t0 := 42) (k := 4) (R := rdLin false) (LinD Tryz.prog 42) Tryz.underlying22 (by kernel_rfl) (by decide) h (fun n cs y h => open_lin h)
  refine ⟨v', xs, e, hs, fun l hl => ?_⟩
  obtain ⟨i, hi⟩ := List.getElem?_of_mem hl
  rcases hx with ⟨_, rfl⟩ | ⟨el, spr, hd, _, hel⟩
  · cases hl
  · obtain ⟨dd, g1, g2⟩ := hel i l hi
    rw [hd] at hw
    exact g2 fun n hn => hw n (by
      rw [DataW.weights, Tryz.underlying22]
      exact List.mem_cons_of_mem _ (List.mem_append_left _ (weightsAll_mem hn (List.mem_of_getElem? g1))))
set_option maxRecDepth 100000 in
theorem open_state {v : Value} {d : DataW H} {ps : List MemPlace} (hv : ∃ cs, v = .agg cs ∧ cs.size = Tryz.prog.cellsOf 26) (h : DataW.Trod enc Tryz.prog w base (fun _ => true) held 26 v d ps) (hw : ∀ n ∈ d.weights Tryz.prog 26, n ≤ reachBytes) :
    ∃ (u : Value) (s : St), v = stV u s ∧ LinsR w (fun _ => True) u s.lines ∧ Sane s.lines ∧ InI s.on ∧ InI s.off := by
  obtain ⟨cs, rfl, hsz⟩ := hv
  obtain ⟨fuel, hf⟩ := h
  obtain ⟨xs, m, _, hd, hl, hxs, hff⟩ := DataW.trod_struct Tryz.underlying26 hf
  have h0 := hff 0 _ rfl
  have h1 := hff 1 _ rfl
  have h2 := hff 2 _ rfl
  have h3 := hff 3 _ rfl
  have h4 := hff 4 _ rfl
  rw [show Tryz.prog.cellsOf 26 = 7 by kernel_rfl] at hsz
  obtain ⟨l⟩ := cs
  match l, hsz with
  | [a, b, c, p, e, f, g], _ =>
    match xs, hxs with
    | [x0, x1, x2, x3, x4], _ =>
      have hd : d = .agg [x0.1, x1.1, x2.1, x3.1, x4.1] := (Prod.ext_iff.1 hd).1
      obtain ⟨u, ls, e0, hls, hsn⟩ := open_docL h0 (fun n hn => hw n (by
        rw [hd]
        simp only [DataW.weights, Tryz.underlying26]
        simp [DataW.weightsEach, hn]))
      obtain ⟨pa, e1⟩ := open_ps h1
      obtain ⟨pf, e2⟩ := open_ps h2
      obtain ⟨q, e3, _, wq⟩ := DataW.trod_int Tryz.underlying3 h3
      obtain ⟨r, e4, _, wr⟩ := DataW.trod_int Tryz.underlying3 h4
      have e0 : [a] = [u] := e0
      have e1 : [b, c] = [Value.int .i64 pa.line, Value.int .i64 pa.col] := e1
      have e2 : [p, e] = [Value.int .i64 pf.line, Value.int .i64 pf.col] := e2
      have e3 : [f] = [Value.int .i64 q] := e3
      have e4 : [g] = [Value.int .i64 r] := e4
      cases e0
      cases e1
      cases e2
      cases e3
      cases e4
      exact ⟨_, ⟨ls, pa, pf, q, r⟩, rfl, hls, hsn, bounds_i64 wq, bounds_i64 wr⟩
end
end Go.Proofs.YtpndnbjpnajaaaaGreatDoor
namespace Go.Proofs.Qw
open Go.RowKit Go.Proofs.YtpndnbjpnajaaaaGreatDoor
def aroundF (l : List Cel) (k : Nat) : Int × List UInt8 :=
  (if 0 < k then (l.getD (k - 1) default).bits else if k < l.length then (l.getD k default).bits else 0,
   if 0 < k ∧ k < l.length ∧ (l.getD (k - 1) default).href = (l.getD k default).href then (l.getD (k - 1) default).href else [])
def handF (l : List Cel) (k : Nat) : List UInt8 := if 0 < k ∧ (l.getD (k - 1) default).href ≠ [] then (l.getD (k - 1) default).href else if k < l.length then (l.getD k default).href else []
def backF (l : List Cel) (h : List UInt8) : Nat → Nat
  | 0 => 0
  | k + 1 => if (l.getD k default).href = h then backF l h k else k + 1
def forthF (l : List Cel) (h : List UInt8) (k : Nat) : Nat := k + ((l.drop k).takeWhile fun c => decide (c.href = h)).length
def withinF (l : List Cel) (k : Nat) : Nat × Nat := if handF l k = [] then (k, k) else (backF l (handF l k) k, forthF l (handF l k) k)
theorem forthF_on {l : List Cel} {h : List UInt8} {k : Nat} {c : Cel} (hc : l[k]? = some c) (e : c.href = h) : forthF l h k = forthF l h (k + 1) := by
  obtain ⟨hk, rfl⟩ := List.getElem?_eq_some_iff.1 hc
  unfold forthF
  rw [List.drop_eq_getElem_cons hk, List.takeWhile_cons_of_pos (by simpa using e), List.length_cons]
  omega
theorem forthF_off {l : List Cel} {h : List UInt8} {k : Nat} {c : Cel} (hc : l[k]? = some c) (e : c.href ≠ h) : forthF l h k = k := by
  obtain ⟨hk, rfl⟩ := List.getElem?_eq_some_iff.1 hc
  unfold forthF
  rw [List.drop_eq_getElem_cons hk, List.takeWhile_cons_of_neg (by simpa using e)]
  rfl
theorem forthF_end {l : List Cel} {h : List UInt8} {k : Nat} (hk : l.length ≤ k) : forthF l h k = k := by
  unfold forthF
  rw [List.drop_eq_nil_of_le hk]
  rfl
def aheadC (l : List Cel) : Nat → Option Cel
  | 0 => none
  | k + 1 => l[k]?
theorem aroundF_eq (l : List Cel) (k : Nat) (hk : k ≤ l.length) : aroundF l k = (match aheadC l k, l[k]? with | some a, _ => a.bits | none, some b => b.bits | none, none => 0, match aheadC l k, l[k]? with | some a, some b => if a.href = b.href then a.href else [] | _, _ => []) := by
  unfold aroundF
  cases k with
  | zero =>
    by_cases h : 0 < l.length
    · obtain ⟨x, hx, _⟩ := getOf l 0 h
      simp [aheadC, hx, h, List.getD]
    · have : l[0]? = none := List.getElem?_eq_none (by omega)
      simp [aheadC, this, h]
  | succ j =>
    obtain ⟨a, ha, _⟩ := getOf l j (by omega)
    by_cases h : j + 1 < l.length
    · obtain ⟨b, hb, _⟩ := getOf l (j + 1) h
      simp [aheadC, ha, hb, h, List.getD]
    · have : l[j + 1]? = none := List.getElem?_eq_none (by omega)
      simp [aheadC, ha, this, h, List.getD]
theorem handF_eq (l : List Cel) (k : Nat) (hk : k ≤ l.length) : handF l k = match aheadC l k, l[k]? with | some a, some b => if a.href = [] then b.href else a.href | some a, none => a.href | none, some b => b.href | none, none => [] := by
  unfold handF
  cases k with
  | zero =>
    by_cases h : 0 < l.length
    · obtain ⟨x, hx, _⟩ := getOf l 0 h
      simp [aheadC, hx, h, List.getD]
    · have : l[0]? = none := List.getElem?_eq_none (by omega)
      simp [aheadC, this, h]
  | succ j =>
    obtain ⟨a, ha, _⟩ := getOf l j (by omega)
    by_cases h : j + 1 < l.length
    · obtain ⟨b, hb, _⟩ := getOf l (j + 1) h
      by_cases he : a.href = [] <;> simp [aheadC, ha, hb, h, he, List.getD]
    · have : l[j + 1]? = none := List.getElem?_eq_none (by omega)
      by_cases he : a.href = [] <;> simp [aheadC, ha, this, h, he, List.getD]
end Go.Proofs.Qw
namespace Go.Proofs.YtpndnbjpnajaaaaGreatDoor
open Go.RowKit
open Go.Proofs.Qw
def PtrOf (w : World) (p : Option Addr) : Option Cel → Prop
  | none => p = none
  | some c => ∃ b o, p = some ⟨b, o, none⟩ ∧ b < w.heap.size ∧ w.cell? ⟨b, o, none⟩ = some (.int .i32 c.r) ∧ w.cell? ⟨b, o + 1, none⟩ = some (.int .i64 c.bits) ∧ w.cell? ⟨b, o + 2, none⟩ = some (.string ⟨c.href.toArray⟩)
set_option maxRecDepth 100000 in
set_option maxHeartbeats 1000000 in
theorem sides_any (v : Value) (l : List Cel) (k : Nat) (w : World) (S : Nat → Prop) (h : CelsR false w S v l) (hk : k ≤ l.length) :
    Calls Tryz.prog 147 #[v, .int .i64 k] w fun e w' => ∃ pa pb, e = .returned (.tuple #[.int .i64 k, .pointer pa, .pointer pb]) ∧ w' = w ∧ PtrOf w pa (aheadC l k) ∧ PtrOf w pb l[k]? := by
  obtain ⟨a, c, rfl, hc, hm, hx⟩ := cels_shape h
  have e1 : max (k : Int) 0 = k := by omega
  have e2 : min (k : Int) (l.length : Int) = k := by omega
  unfold maxLen at hm
  have HX := Lib.hid hx
  clear hx h
  cases k with
  | zero =>
    by_cases hn : 0 < l.length
    · obtain ⟨x, hx0, _⟩ := getOf l 0 hn
      obtain ⟨b, o, rfl, hz, c0, c1, c2⟩ := HX.out 0 x hx0
      have HB : Hid (PtrOf w (some ⟨b, o, none⟩) l[0]?) := Lib.hid (by rw [hx0]; exact ⟨b, o, rfl, hz, by simpa using c0, by simpa using c1, by simpa using c2⟩)
      clear hx0 c0 c1 c2 hz
      go_enter Tryz.func147, Tryz.ntmps147
      go_wp2_with fail
      go_ret3
      exact ⟨none, _, rfl, rfl, rfl, HB.out⟩
    · have hn : l.length = 0 := by omega
      have HB : Hid (PtrOf w none l[0]?) := Lib.hid (by rw [List.getElem?_eq_none (by omega)]; exact rfl)
      go_enter Tryz.func147, Tryz.ntmps147
      go_wp2_with fail
      go_ret3
      exact ⟨none, none, rfl, rfl, rfl, HB.out⟩
  | succ j =>
    obtain ⟨x, hx0, _⟩ := getOf l j (by omega)
    obtain ⟨b, o, rfl, hz, c0, c1, c2⟩ := HX.out j x hx0
    have HA : Hid (PtrOf w (some ⟨b, o + j * 3, none⟩) (aheadC l (j + 1))) := Lib.hid (by show PtrOf _ _ l[j]?; rw [hx0]; exact ⟨b, o + j * 3, rfl, hz, c0, c1, c2⟩)
    have e1' : max ((j : Int) + 1) 0 = (j : Int) + 1 := by omega
    have e2' : min ((j : Int) + 1) (l.length : Int) = (j : Int) + 1 := by omega
    have e4 : ((j : Int) + 1).toNat = j + 1 := by omega
    clear e1 e2
    clear hx0 c0 c1 c2
    by_cases hn : j + 1 < l.length
    · obtain ⟨y, hy0, _⟩ := getOf l (j + 1) hn
      obtain ⟨b', o', hbe, hz', c0, c1, c2⟩ := HX.out (j + 1) y hy0
      cases hbe
      have HB : Hid (PtrOf w (some ⟨b, o + (j + 1) * 3, none⟩) l[j + 1]?) := Lib.hid (by rw [hy0]; exact ⟨b, o + (j + 1) * 3, rfl, hz', c0, c1, c2⟩)
      clear hy0 c0 c1 c2 hz' hz
      go_enter Tryz.func147, Tryz.ntmps147
      go_wp2_with fail
      go_ret3
      exact ⟨_, _, rfl, rfl, HA.out, HB.out⟩
    · have HB : Hid (PtrOf w none l[j + 1]?) := Lib.hid (by rw [List.getElem?_eq_none (by omega)]; exact rfl)
      clear hz
      go_enter Tryz.func147, Tryz.ntmps147
      go_wp2_with fail
      go_ret3
      exact ⟨_, none, rfl, rfl, HA.out, HB.out⟩
set_option maxRecDepth 100000 in
set_option maxHeartbeats 2000000 in
theorem around_any (v : Value) (l : List Cel) (k : Nat) (w : World) (S : Nat → Prop) (h : CelsR false w S v l) (hk : k ≤ l.length) :
    Calls Tryz.prog 76 #[v, .int .i64 k] w fun e w' => e = .returned (.tuple #[.int .i64 (aroundF l k).1, .string ⟨(aroundF l k).2.toArray⟩]) ∧ Below w.heap.size w w' := by
  have HS := Lib.hid (sides_any v l k w S h hk)
  have HR := Lib.hid (aroundF_eq l k hk)
  obtain ⟨r1, r2, hr⟩ : ∃ r1 r2, aroundF l k = (r1, r2) := ⟨_, _, rfl⟩
  rw [hr] at HR ⊢
  clear hr hk
  obtain ⟨a, c, rfl⟩ := h.slice
  clear h
  have hw0 : Below w.heap.size w w := Below.refl _ _
  generalize aheadC l k = X at *
  generalize l[k]? = Y at *
  cases X with
  | none =>
    cases Y with
    | none =>
      go_enter Tryz.func76, Tryz.ntmps76
      go_wp2_with (go_at_call 147; refine HS.out.mono ?_; intro e w1 hs; obtain ⟨pa, pb, rfl, rfl, hpa, hpb⟩ := hs; obtain rfl : pa = none := hpa; obtain rfl : pb = none := hpb)
      go_region
      go_wp2_with fail
      go_ret2
      cases HR.out
      exact ⟨rfl, (by (repeat' (first | (with_reducible exact Below.refl _ _) | (with_reducible assumption) | (with_reducible refine Below.alloc ?_ ?_ _) | (with_reducible refine Below.drew ?_) | (with_reducible refine drewN_below ?_) | (with_reducible refine Below.setCell ?_ ?_ _) | go_size)))⟩
    | some y =>
      go_enter Tryz.func76, Tryz.ntmps76
      go_wp2_with (go_at_call 147; refine HS.out.mono ?_; intro e w1 hs; obtain ⟨pa, pb, rfl, rfl, hpa, hpb⟩ := hs; obtain rfl : pa = none := hpa; obtain ⟨b, o, rfl, hz, c0, c1, c2⟩ := hpb)
      go_region
      go_wp2_with fail
      go_ret2
      cases HR.out
      exact ⟨rfl, (by (repeat' (first | (with_reducible exact Below.refl _ _) | (with_reducible assumption) | (with_reducible refine Below.alloc ?_ ?_ _) | (with_reducible refine Below.drew ?_) | (with_reducible refine drewN_below ?_) | (with_reducible refine Below.setCell ?_ ?_ _) | go_size)))⟩
  | some x =>
    cases Y with
    | none =>
      go_enter Tryz.func76, Tryz.ntmps76
      go_wp2_with (go_at_call 147; refine HS.out.mono ?_; intro e w1 hs; obtain ⟨pa, pb, rfl, rfl, hpa, hpb⟩ := hs; obtain ⟨b, o, rfl, hz, c0, c1, c2⟩ := hpa; obtain rfl : pb = none := hpb)
      go_region
      go_wp2_with fail
      go_ret2
      cases HR.out
      exact ⟨rfl, (by (repeat' (first | (with_reducible exact Below.refl _ _) | (with_reducible assumption) | (with_reducible refine Below.alloc ?_ ?_ _) | (with_reducible refine Below.drew ?_) | (with_reducible refine drewN_below ?_) | (with_reducible refine Below.setCell ?_ ?_ _) | go_size)))⟩
    | some y =>
      by_cases hxy : x.href = y.href
      · have HQ : Hid ((r1, r2) = (x.bits, x.href)) := Lib.hid (HR.out.trans (by simp [hxy]))
        have hq : (x.href == y.href) = true := by simpa using hxy
        clear hxy HR
        go_enter Tryz.func76, Tryz.ntmps76
        go_wp2_with (go_at_call 147; refine HS.out.mono ?_; intro e w1 hs; obtain ⟨pa, pb, rfl, rfl, hpa, hpb⟩ := hs; obtain ⟨b, o, rfl, hz, c0, c1, c2⟩ := hpa; obtain ⟨b', o', rfl, hz', c0', c1', c2'⟩ := hpb)
        go_region
        go_wp2_with fail
        go_ret2
        cases HQ.out
        exact ⟨rfl, (by (repeat' (first | (with_reducible exact Below.refl _ _) | (with_reducible assumption) | (with_reducible refine Below.alloc ?_ ?_ _) | (with_reducible refine Below.drew ?_) | (with_reducible refine drewN_below ?_) | (with_reducible refine Below.setCell ?_ ?_ _) | go_size)))⟩
      · have HQ : Hid ((r1, r2) = (x.bits, [])) := Lib.hid (HR.out.trans (by simp [hxy]))
        have hq : (x.href == y.href) = false := by simpa using hxy
        clear hxy HR
        go_enter Tryz.func76, Tryz.ntmps76
        go_wp2_with (go_at_call 147; refine HS.out.mono ?_; intro e w1 hs; obtain ⟨pa, pb, rfl, rfl, hpa, hpb⟩ := hs; obtain ⟨b, o, rfl, hz, c0, c1, c2⟩ := hpa; obtain ⟨b', o', rfl, hz', c0', c1', c2'⟩ := hpb)
        go_region
        go_wp2_with fail
        go_ret2
        cases HQ.out
        exact ⟨rfl, (by (repeat' (first | (with_reducible exact Below.refl _ _) | (with_reducible assumption) | (with_reducible refine Below.alloc ?_ ?_ _) | (with_reducible refine Below.drew ?_) | (with_reducible refine drewN_below ?_) | (with_reducible refine Below.setCell ?_ ?_ _) | go_size)))⟩
set_option maxRecDepth 100000 in
set_option maxHeartbeats 4000000 in
theorem within_any (v : Value) (l : List Cel) (k : Nat) (w : World) (S : Nat → Prop) (h : CelsR false w S v l) (hk : k ≤ l.length) (hl : l.length ≤ 1000000) :
    Calls Tryz.prog 207 #[v, .int .i64 k] w fun e w' => e = .returned (.tuple #[.int .i64 (withinF l k).1, .int .i64 (withinF l k).2]) ∧ Below w.heap.size w w' := by
  have HS := Lib.hid (sides_any v l k w S h hk)
  have HE := Lib.hid (handF_eq l k hk)
  obtain ⟨H, hH⟩ : ∃ H, handF l k = H := ⟨_, rfl⟩
  have HR : Hid (withinF l k = if H = [] then (k, k) else (backF l H k, forthF l H k)) := Lib.hid (by unfold withinF; rw [hH])
  rw [hH] at HE
  clear hH
  obtain ⟨a, c, rfl, hc, hm, hx⟩ := cels_shape h
  unfold maxLen at hm
  have HX := Lib.hid hx
  clear hx h
  have hw0 : Below w.heap.size w w := Below.refl _ _
  go_enter Tryz.func207, Tryz.ntmps207
  go_upto_if 18 with (go_at_call 147; refine HS.out.mono ?_; intro e w1 hs; obtain ⟨pa, pb, rfl, rfl, hpa, hpb⟩ := hs; have HA := Lib.hid hpa; have HB := Lib.hid hpb; clear hpa hpb)
  clear HS
  generalize aheadC l k = X at *
  obtain ⟨Y, hY⟩ : ∃ Y, l[k]? = Y := ⟨_, rfl⟩
  rw [hY] at HB HE
  clear hY
  obtain ⟨h0, hh0⟩ : ∃ h0 : List UInt8, (Y.map (fun y : Cel => y.href)).getD [] = h0 := ⟨_, rfl⟩
  have hE : H = (X.map (fun x : Cel => if x.href = [] then h0 else x.href)).getD h0 := by rw [HE.out, ← hh0]; cases X <;> cases Y <;> simp
  clear HE
  have HE := Lib.hid hE
  clear hE
  go_cut [9] from 17 (fun r wx => r = .string ⟨h0.toArray⟩ ∧ wx = w1)
  case first =>
    cases Y with
    | none =>
      obtain rfl : pb = none := HB.out
      cases hh0
      go_wp2_with fail
      go_meet
      case rel => exact ⟨rfl, rfl⟩
    | some y =>
      obtain ⟨b, o, rfl, hz, c0, c1, c2⟩ := HB.out
      cases hh0
      go_wp2_with fail
      go_meet
      case rel => exact ⟨rfl, rfl⟩
  case rest =>
  obtain ⟨rfl, rfl⟩ := hcut
  clear hh0 HB
  obtain ⟨B, hB⟩ : ∃ B, (X.map (fun x : Cel => !x.href.isEmpty)).getD false = B := ⟨_, rfl⟩
  go_upto_region 5 with fail
  go_cut [31] from 25 to 31 (fun r wx => r = .bool B ∧ wx = wc)
  case first =>
    cases X with
    | none =>
      obtain rfl : pa = none := HA.out
      cases hB
      go_wp2_with fail
      go_meet
      case rel => exact ⟨rfl, rfl⟩
    | some x =>
      obtain ⟨b, o, rfl, hz, c0, c1, c2⟩ := HA.out
      have hB' : B = !x.href.isEmpty := hB.symm
      clear hB
      cases hq : x.href.isEmpty
      all_goals
        rw [hq] at hB'
        subst hB'
        go_wp2_with fail
        go_meet
        case rel => exact ⟨rfl, rfl⟩
  case rest =>
  obtain ⟨rfl, rfl⟩ := hcut
  have hHB : (B = false ∧ H = h0) ∨ (B = true ∧ ∃ x, X = some x ∧ H = x.href) := by
    rw [← hB, HE.out]
    cases X with
    | none => exact .inl ⟨rfl, rfl⟩
    | some x =>
      cases hx : x.href with
      | nil => exact .inl ⟨by simp [hx], by simp [hx]⟩
      | cons y l => exact .inr ⟨by simp [hx], x, rfl, by simp [hx]⟩
  have HHB := Lib.hid hHB
  clear hHB hB HE
  go_upto_if 31 with fail
  go_cut [9] from 32 (fun r wx => r = .string ⟨H.toArray⟩ ∧ wx = wc)
  case first =>
    rcases HHB.out with ⟨rfl, rfl⟩ | ⟨rfl, x, rfl, rfl⟩
    · go_wp2_with fail
      go_meet
      case rel => exact ⟨rfl, rfl⟩
    · obtain ⟨b, o, rfl, hz, c0, c1, c2⟩ := HA.out
      go_wp2_with fail
      go_meet
      case rel => exact ⟨rfl, rfl⟩
  case rest =>
  obtain ⟨rfl, rfl⟩ := hcut
  clear HA HHB
  by_cases hH : H = []
  · have HQ : Hid (withinF l k = (k, k)) := Lib.hid (HR.out.trans (if_pos hH))
    subst hH
    go_wp2_with fail
    go_ret2
    rw [HQ.out]
    exact ⟨rfl, hw0⟩
  · have HQ : Hid (withinF l k = (backF l H k, forthF l H k)) := Lib.hid (HR.out.trans (if_neg hH))
    have hne : H.isEmpty = false := by simpa using hH
    clear HR hH
    go_wp2_with fail
    go_loopw [4] (fun i wr => ∃ j : Nat, j ≤ k ∧ i = .int .i64 j ∧ Hid (backF l H k = backF l H j) ∧ wc = wr) (fun i _ => (intOf i).toNat)
    case atStart => exact ⟨k, Nat.le_refl _, rfl, Lib.hid rfl, rfl⟩
    case round =>
      obtain ⟨j, hj, rfl, HJ, rfl⟩ := hrel
      have hdone : (j = 0 ∨ ∃ m, j = m + 1 ∧ ∃ x, l[m]? = some x ∧ x.href ≠ H) ∨ ∃ m, j = m + 1 ∧ ∃ x, l[m]? = some x ∧ x.href = H := by
        cases j with
        | zero => exact .inl (.inl rfl)
        | succ m =>
          obtain ⟨x, hx, _⟩ := getOf l m (by omega)
          by_cases e : x.href = H
          · exact .inr ⟨m, rfl, x, hx, e⟩
          · exact .inl (.inr ⟨m, rfl, x, hx, e⟩)
      rcases hdone with (rfl | ⟨m, rfl, x, hx, hxe⟩) | ⟨m, rfl, x, hx, hxe⟩
      · have HB' : Hid (backF l H k = 0) := Lib.hid (HJ.out.trans rfl)
        go_wp2_with fail
        go_loopw [5] (fun i wr => ∃ n : Nat, k ≤ n ∧ n ≤ l.length ∧ i = .int .i64 n ∧ Hid (forthF l H k = forthF l H n) ∧ wc = wr) (fun i _ => l.length - (intOf i).toNat)
        case atStart => exact ⟨k, Nat.le_refl _, hk, rfl, Lib.hid rfl, rfl⟩
        case round =>
          obtain ⟨n, hn, hnl, rfl, HN, rfl⟩ := hrel
          by_cases hlt : n < l.length
          · obtain ⟨y, hy, _⟩ := getOf l n hlt
            obtain ⟨b', o', hbe, hz', d0, d1, d2⟩ := HX.out n y hy
            subst hbe
            have n0 : (0 : Int) ≤ (n : Int) := Int.natCast_nonneg _
            by_cases hye : y.href = H
            · have HF := Lib.hid (HN.out.trans (forthF_on hy hye))
              have hq : (y.href == H) = true := by simpa using hye
              clear hy hye
              go_wp2_with fail
              go_roundw
              case rel => exact ⟨n + 1, by omega, by omega, by go_num, HF, by simp⟩
              case measure => simp [intOf]; omega
            · have HF := Lib.hid (HN.out.trans (forthF_off hy hye))
              have hq : (y.href == H) = false := by simpa using hye
              clear hy hye
              go_wp2_with fail
              go_ret2
              rw [HQ.out, HB'.out, HF.out]
              exact ⟨rfl, hw0⟩
          · obtain rfl : n = l.length := by omega
            have HF := Lib.hid (HN.out.trans (forthF_end (Nat.le_refl _)))
            go_wp2_with fail
            go_ret2
            rw [HQ.out, HB'.out, HF.out]
            exact ⟨rfl, hw0⟩
      · have HB' : Hid (backF l H k = m + 1) := Lib.hid (HJ.out.trans (by unfold backF; rw [if_neg (by simpa [List.getD, hx] using hxe)]))
        obtain ⟨b, o, rfl, hz, c0, c1, c2⟩ := HX.out m x hx
        have hq : (x.href == H) = false := by simpa using hxe
        have e3 : ((m + 1 : Nat) : Int) - 1 = m := by omega
        clear hx hxe
        go_wp2_with fail
        go_loopw [5] (fun i wr => ∃ n : Nat, k ≤ n ∧ n ≤ l.length ∧ i = .int .i64 n ∧ Hid (forthF l H k = forthF l H n) ∧ wc = wr) (fun i _ => l.length - (intOf i).toNat)
        case atStart => exact ⟨k, Nat.le_refl _, hk, rfl, Lib.hid rfl, rfl⟩
        case round =>
          obtain ⟨n, hn, hnl, rfl, HN, rfl⟩ := hrel
          by_cases hlt : n < l.length
          · obtain ⟨y, hy, _⟩ := getOf l n hlt
            obtain ⟨b', o', hbe, hz', d0, d1, d2⟩ := HX.out n y hy
            cases hbe
            have n0 : (0 : Int) ≤ (n : Int) := Int.natCast_nonneg _
            by_cases hye : y.href = H
            · have HF := Lib.hid (HN.out.trans (forthF_on hy hye))
              have hq : (y.href == H) = true := by simpa using hye
              clear hy hye
              go_wp2_with fail
              go_roundw
              case rel => exact ⟨n + 1, by omega, by omega, by go_num, HF, by simp⟩
              case measure => simp [intOf]; omega
            · have HF := Lib.hid (HN.out.trans (forthF_off hy hye))
              have hq : (y.href == H) = false := by simpa using hye
              clear hy hye
              go_wp2_with fail
              go_ret2
              rw [HQ.out, HB'.out, HF.out]
              exact ⟨rfl, hw0⟩
          · obtain rfl : n = l.length := by omega
            have HF := Lib.hid (HN.out.trans (forthF_end (Nat.le_refl _)))
            go_wp2_with fail
            go_ret2
            rw [HQ.out, HB'.out, HF.out]
            exact ⟨rfl, hw0⟩
      · have HB' := Lib.hid (HJ.out.trans (show backF l H (m + 1) = backF l H m by rw [backF, if_pos (by simpa [List.getD, hx] using hxe)]))
        obtain ⟨b, o, rfl, hz, c0, c1, c2⟩ := HX.out m x hx
        have hq : (x.href == H) = true := by simpa using hxe
        have e3 : ((m + 1 : Nat) : Int) - 1 = m := by omega
        clear hx hxe
        go_wp2_with fail
        go_roundw
        case rel => exact ⟨m, by omega, by go_num, HB', by simp⟩
        case measure => simp [intOf]
end Go.Proofs.YtpndnbjpnajaaaaGreatDoor
namespace Go.Proofs.Qw
open Go.RowKit Go.Proofs.YtpndnbjpnajaaaaGreatDoor
def selS (s : St) : List Cel := cellsD s.lines (spanS s).1 (spanS s).2
def cellsAt (s : St) : List Cel := (s.lines.getD s.anc.line.toNat default).cells
def andB (l : List Cel) : Int := l.foldl (fun b c => bits .and .i64 b c.bits) 15
def bitsL (l : List Cel) : Int := if l = [] then 0 else andB l
def bitsS (s : St) : Int := if mayS s = true then (if s.anc = s.foc then bits .or .i64 (bits .andNot .i64 (aroundF (cellsAt s) s.anc.col.toNat).1 s.off) s.on else bitsL (selS s)) else 0
def allL (l : List Cel) (b : Int) : Bool := decide (0 < l.length) && l.all fun c => bits .and .i64 c.bits b == b
def someL (l : List Cel) (b : Int) : Bool := l.any fun c => bits .and .i64 c.bits b != 0
def handS (s : St) : Ps × Ps := if s.anc = s.foc then (⟨s.anc.line, ((withinF (cellsAt s) s.anc.col.toNat).1 : Int)⟩, ⟨s.anc.line, ((withinF (cellsAt s) s.anc.col.toNat).2 : Int)⟩) else spanS s
def hrefL : List Cel → List UInt8
  | [] => []
  | c :: l => if l.all (fun x => decide (x.href = c.href)) = true then c.href else []
def hrefS (s : St) : List UInt8 := if mayS s = true then hrefL (cellsD s.lines (handS s).1 (handS s).2) else []
def staysS (s : St) (x : Doc × Int) : St × Int := if x.2 = 0 then (⟨x.1, s.anc, s.foc, 0, 0⟩, 0) else (noS, x.2)
def changedS (s : St) (x : Doc × Int) : St × Int := if mayS s = true then staysS s x else (noS, 1)
def four (b : Int) : Bool := decide (b = 1) || (decide (b = 2) || (decide (b = 4) || decide (b = 8)))
def togC (s : St) (b : Int) : St :=
  { s with on := bits .or .i64 (bits .andNot .i64 s.on b) (bits .andNot .i64 b (bitsS s)), off := bits .or .i64 (bits .andNot .i64 s.off b) (bits .andNot .i64 b (bits .andNot .i64 b (bitsS s))) }
def togD (s : St) (b : Int) : Doc × Int := if allL (selS s) b = true then setD 0 b s.lines (spanS s).1 (spanS s).2 else setD b 0 s.lines (spanS s).1 (spanS s).2
def toggleS (s : St) (b : Int) : St × Int := if mayS s = true ∧ four b = true then (if s.anc = s.foc then (togC s b, 0) else staysS s (togD s b)) else (noS, 1)
def linkL (s : St) (h : List UInt8) : Doc × Int := if targetF h = true then linkD h s.lines (spanS s).1 (spanS s).2 else ([], 1)
def plainL (s : St) : Doc × Int := if someL (selS s) 15 = true then setD 0 15 s.lines (spanS s).1 (spanS s).2 else ([], 7)
theorem spanS_closed {s : St} (h : s.anc = s.foc) : spanS s = (s.anc, s.anc) := by
  have : cmpP s.foc s.foc = 0 := by simp [cmpP, cmpI]
  unfold spanS
  rw [h, this, if_neg (by omega)]
theorem mayS_at {s : St} (h : mayS s = true) : mayD s.lines = true ∧ isD s.lines s.anc = true ∧ isD s.lines s.foc = true ∧ bits .andNot .i64 s.on 15 = 0 ∧ bits .andNot .i64 s.off 15 = 0 ∧ bits .and .i64 s.on s.off = 0 := by
  simpa [mayS, and_assoc] using h
theorem four_cases {b : Int} (h : four b = true) : b = 1 ∨ b = 2 ∨ b = 4 ∨ b = 8 := by
  simpa [four] using h
end Go.Proofs.Qw
namespace Go.Proofs.YtpndnbjpnajaaaaGreatDoor
open Go.RowKit
open Go.Proofs.Qw
theorem src_at {P : Program} {st t : TypeId} {k : Nat} (hT : RowT P st t k) (w : World) (l : List Value) (hl : l.length = k) (h1 : ∀ u ∈ l, u.oneCell' = true) (c : Nat) {B : Nat} (hB : B = w.heap.size) : Src P k st (.slice (some ⟨B, 0, none⟩) 1 c) 1 l (w.alloc (.cells l.toArray t)) := hB ▸ src_one hT w l hl h1 c
def partOf (d : Doc) (x : Nat × Nat × Nat) : Lin := { (d.getD x.1 default) with cells := cellsB d x }
def partD (d : Doc) (a b : Ps) : Doc × Int := if spanD d a b = true then ((rowsTo d a.line.toNat a.col.toNat b.line.toNat b.col.toNat (b.line.toNat + 1)).map (partOf d), 0) else ([], 1)
theorem partOf_at {d : Doc} {x : Nat × Nat × Nat} {l : Lin} (h : d[x.1]? = some l) : partOf d x = { l with cells := (l.cells.drop x.2.1).take (x.2.2 - x.2.1) } := by
  unfold partOf
  rw [cellsB_at h]
  simp [List.getD, h]
theorem cellsL_size (d : Doc) (i p j q : Nat) : ∀ n : Nat, i + n ≤ d.length → (cellsL d (rowsTo d i p j q (i + n))).length ≤ sizeD (d.take (i + n))
  | 0, _ => by rw [Nat.add_zero, rowsTo_nil]; simp [cellsL]
  | n + 1, h => by
    have ih := cellsL_size d i p j q n (by omega)
    obtain ⟨l, hl, _⟩ := getOf d (i + n) (by omega)
    have hs := sizeD_step hl
    rw [show i + (n + 1) = i + n + 1 by omega, rowsTo_step d (by omega), cellsL_snoc, List.length_append]
    have : (cellsB d (rowB d i p j q (i + n))).length ≤ l.cells.length := by
      rw [cellsB_at (x := rowB d i p j q (i + n)) hl, List.length_take, List.length_drop]
      omega
    omega
theorem cellsD_size (d : Doc) (a b : Ps) : (cellsD d a b).length ≤ sizeD d := by
  unfold cellsD
  split
  · rename_i h
    obtain ⟨_, i, j, p, q, l, m, rfl, rfl, hl, hm, _, _, hij, _⟩ := span_at h
    have hjl := (List.getElem?_eq_some_iff.1 hm).1
    have := cellsL_size d i p j q (j + 1 - i) (by omega)
    rw [show i + (j + 1 - i) = j + 1 by omega] at this
    exact Nat.le_trans this (sizeD_le d _)
  · simp
end Go.Proofs.YtpndnbjpnajaaaaGreatDoor
namespace Go.Proofs.Qw
open Go.RowKit Go.Proofs.YtpndnbjpnajaaaaGreatDoor
theorem setRows_before (C : List Cel → Nat → Nat → List Cel) (d : Doc) (i p j q : Nat) : ∀ (n m : Nat), i + n ≤ m → (setRows C d (rowsTo d i p j q (i + n)))[m]? = d[m]?
  | 0, m, _ => by rw [Nat.add_zero, rowsTo_nil]; rfl
  | n + 1, m, h => by
    have ih := setRows_before C d i p j q n m (by omega)
    rw [show i + (n + 1) = i + n + 1 by omega, rowsTo_step d (by omega), setRows_snoc]
    unfold setRow
    rw [List.getElem?_set_ne (by show ¬ i + n = m; omega)]
    exact ih
theorem setRows_step (C : List Cel → Nat → Nat → List Cel) {d : Doc} {i p j q k : Nat} {l : Lin} (h : i ≤ k) (hl : d[k]? = some l) :
    (setRows C d (rowsTo d i p j q k))[k]? = some l ∧ setRows C d (rowsTo d i p j q (k + 1)) = (setRows C d (rowsTo d i p j q k)).set k { l with cells := C l.cells (rowB d i p j q k).2.1 (rowB d i p j q k).2.2 } := by
  have hb := setRows_before C d i p j q (k - i) k (by omega)
  rw [show i + (k - i) = k by omega, hl] at hb
  refine ⟨hb, ?_⟩
  rw [rowsTo_step d h, setRows_snoc, setRow_at (x := rowB d i p j q k) hb]
  rfl
end Go.Proofs.Qw
namespace Go.Proofs.YtpndnbjpnajaaaaGreatDoor
open Go.RowKit
open Go.Proofs.Qw
theorem wpList_named {P : Program} {ops : Array Oper} {Q : Exit → Act → World → Prop} {l : List Oper} {a : Act} {w : World} (h : ∀ w', w = w' → wpList P ops Q l a w') : wpList P ops Q l a w := h w rfl
set_option maxRecDepth 100000 in
set_option maxHeartbeats 2000000 in
theorem lineFrame_any (l : Lin) (a b : Value) (o1 o2 : Bool) (w w0 : World) (S : Nat → Prop) (hL : IntsR o1 w0 S a l.lists) (hC : CelsR o2 w0 S b l.cells) (h0 : Below w0.heap.size w0 w) (hs : l.lists.length ≤ 1000000 ∧ l.cells.length ≤ 1000000) :
    Calls Tryz.prog 135 #[linV l a b] w fun e w' => ∃ a', e = .returned (linV l a' (.slice none 0 0)) ∧ IntsR true w' (fun b => w.heap.size ≤ b) a' l.lists ∧ Below w.heap.size w w' := by
  have HO : Hid (∀ W, Below w0.heap.size w0 W → Calls Tryz.prog 181 #[linV l a b] W fun e w' => ∃ a' b', e = .returned (linV l a' b') ∧ IntsR true w' (fun b => W.heap.size ≤ b) a' l.lists ∧ CelsR true w' (fun b => W.heap.size ≤ b) b' l.cells ∧ Below W.heap.size W w') := Lib.hid fun W hW => lineOwn_any l a b o1 o2 W w0 S hL hC hW hs
  obtain ⟨la, lc, rfl⟩ := hL.slice
  obtain ⟨ca, cc, rfl⟩ := hC.slice
  obtain ⟨W1, hW1, hB, hz, hA1, hA2⟩ := two_lines w (.int .i64 l.quote) (.slice la l.lists.length lc) (.int .i64 l.kind) (.slice ca l.cells.length cc) (.int .i64 0) (.slice none 0 0) (.int .i64 0) (.slice none 0 0)
  have hs1 := hB.size
  have HB0 : Hid (∀ W, Below W1.heap.size W1 W → W.heap[w.heap.size]? = some (.cells #[.int .i64 l.quote, .slice la l.lists.length lc, .int .i64 l.kind, .slice ca l.cells.length cc] 42)) := Lib.hid fun W hW => heap_below hW hA1
  have HB1 : Hid (∀ W, Below W1.heap.size W1 W → W.heap[w.heap.size + 1]? = some (.cells #[.int .i64 0, .slice none 0 0, .int .i64 0, .slice none 0 0] 42)) := Lib.hid fun W hW => heap_below hW hA2
  have H1 := Lib.hid hB
  have h01 : Below w0.heap.size w0 W1 := below_from h0 hB
  obtain ⟨p1, f1⟩ := blk hA1
  obtain ⟨p2, f2⟩ := blk hA2
  clear hL hC hs hB h0
  unfold linV at HO ⊢
  go_enter Tryz.func135, Tryz.ntmps135
  go_wp2_with (first | (go_at_call 181; refine (HO.out _ h01).mono ?_; rintro e w2 ⟨a', b', rfl, ha', hb', hb2⟩; obtain ⟨a1, c1, rfl⟩ := ha'.slice; obtain ⟨a2, c2, rfl⟩ := hb'.slice; have hA3 := HB0.out _ hb2; have hA4 := HB1.out _ hb2; obtain ⟨p3, f3⟩ := blk hA3; obtain ⟨p4, f4⟩ := blk hA4) | (with_reducible show wpList _ _ _ _ _ _; refine wpList_load_row rfl 42 _ rfl w.heap.size rfl 42 #[.int .i64 l.quote, .slice a1 l.lists.length c1, .int .i64 l.kind, .slice none 0 0] (0, 0) _ (by simp [heap_set, putIn, hA3]) Tryz.underlying42 rfl (by kernel_rfl) ?_; with_reducible refine wpList_named ?_; intro w3 hw3; have hA5 : w3.heap[w.heap.size + 1]? = some (.cells #[.int .i64 0, .slice none 0 0, .int .i64 0, .slice none 0 0] 42) := (by rw [← hw3]; simp [heap_set, hA4]); obtain ⟨p5, f5⟩ := blk hA5; clear p3 f3 p4 f4))
  refine bodyPost_ret (results_line rfl _ _ (w.heap.size + 1) (.int .i64 l.quote) (.slice a1 l.lists.length c1) (.int .i64 l.kind) (.slice none 0 0) rfl (by simp [heap_set, putIn, hA5])) rfl ?_
  have s2 := hb2.size
  have hfin := H1.out.trans (hb2.mono hs1)
  have hf3 : Below w.heap.size w w3 := by rw [← hw3]; (repeat' (first | (with_reducible exact Below.refl _ _) | (with_reducible assumption) | (with_reducible refine Below.alloc ?_ ?_ _) | (with_reducible refine Below.drew ?_) | (with_reducible refine drewN_below ?_) | (with_reducible refine Below.setCell ?_ ?_ _) | go_size))
  have hi3 : IntsR true w3 (fun b => W1.heap.size ≤ b) (.slice a1 l.lists.length c1) l.lists := by rw [← hw3]; exact (SliceR.stable (rdOf_stable _) ha' (by (repeat' (first | (with_reducible exact Keeps.refl _ _) | (with_reducible refine Keeps.set ?_ ?_ _) | (with_reducible refine Keeps.alloc ?_ _) | (with_reducible refine Keeps.drew ?_) | (first | fail) | (simp; omega)))) (fun b h _ => (by have h' := h; (try simp at h'); omega)))
  exact ⟨_, rfl, (SliceR.stable (rdOf_stable _) hi3 (by (repeat' (first | (with_reducible exact Keeps.refl _ _) | (with_reducible refine Keeps.set ?_ ?_ _) | (with_reducible refine Keeps.alloc ?_ _) | (with_reducible refine Keeps.drew ?_) | (first | fail) | (simp; omega)))) (fun b h _ => (by have h' := h; (try simp at h'); omega))), by (repeat' (first | (with_reducible exact Below.refl _ _) | (with_reducible assumption) | (with_reducible refine Below.alloc ?_ ?_ _) | (with_reducible refine Below.drew ?_) | (with_reducible refine drewN_below ?_) | (with_reducible refine Below.setCell ?_ ?_ _) | go_size))⟩
theorem drew_heap (w : World) : w.drew.heap = w.heap := rfl
end Go.Proofs.YtpndnbjpnajaaaaGreatDoor
