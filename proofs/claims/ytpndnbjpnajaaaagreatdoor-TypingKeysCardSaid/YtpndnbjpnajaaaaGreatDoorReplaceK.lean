/- The walks of the reference's Own, Frame. -/
import Derived.Test.YtpndnbjpnajaaaaGreatDoorSameK
import Derived.Deep.RegionHeld3
import Derived.Deep.DrawnRows
import Derived.Test.YtpndnbjpnajaaaaGreatDoorCards
import Derived.Test.YtpndnbjpnajaaaaGreatDoorTie
import Derived.Test.YtpndnbjpnajaaaaGreatDoorOwnK
import Derived.ProofKit
import Derived.OpenShut
import Derived.Deep.DeepHandedRow
import Derived.Lib.LaidTab
import Derived.Lib.SmallJoins
import Derived.Lib.LaidU8T
import Derived.Carry
import Derived.Lib.AppendZeros
set_option linter.unusedVariables false
set_option linter.unusedSimpArgs false
namespace Go.Proofs.YtpndnbjpnajaaaaGreatDoor
open Go.RowKit
open Go.Proofs.Qw
attribute [local go_sem ↓] Go.wp_at_zero Go.wp_at_succ
set_option maxRecDepth 100000 in
set_option maxHeartbeats 1000000 in
theorem refOwnC_any (v : Value) (d : List Cel) (own : Bool) (w : World) (S : Nat → Prop) (h : CelsR own w S v d) (hs : d.length ≤ 1000000) :
  Calls Tryz.prog 183 #[v] w fun e w' => ∃ v', e = .returned v' ∧ CelsR true w' (fun b => w.heap.size ≤ b) v' d ∧ Below w.heap.size w w' := by
 have HS := Lib.hid (SliceR.src_flat rowCell eltCell (SliceR.below (rdOf_stable _) h ((Below.refl w.heap.size w).alloc (Nat.le_refl _) (.cells #[] 44))))
 clear h
 go_enter Tryz.func183, Tryz.ntmps183
 go_wp2_with (at_builtin; go_must (refine wpList_append_R _ rfl _ _ 40 40 rfl rowCell eltCell w.heap.size _ _ (xs := []) (ys := d) (news := d.flatMap encCel) rfl rfl (SliceR.empty _ _ _ _ _ _ _) (by simp) HS.out (flatCell _ _ _) (by simp; omega) ?_); intro v' w1 hR hB _ _; have HR := Lib.hid hR; have HB := Lib.hid hB; clear hR hB)
 go_ret
 exact ⟨_, rfl, HR.out, ((Below.refl _ _).alloc (Nat.le_refl _) _).trans HB.out⟩
set_option maxRecDepth 100000 in
set_option maxHeartbeats 4000000 in
theorem refOwnL_any (l : Lin) (a b : Value) (o1 o2 : Bool) (w : World) (S : Nat → Prop) (hL : IntsR o1 w S a l.lists) (hC : CelsR o2 w S b l.cells) (hs : l.lists.length ≤ 1000000 ∧ l.cells.length ≤ 1000000) :
  Calls Tryz.prog 173 #[linV l a b] w fun e w' => ∃ a' b', e = .returned (linV l a' b') ∧ IntsR true w' (fun b => w.heap.size ≤ b) a' l.lists ∧ CelsR true w' (fun b => w.heap.size ≤ b) b' l.cells ∧ Below w.heap.size w w' := by
 obtain ⟨la, lc, rfl⟩ := hL.slice
 obtain ⟨ca, cc, rfl⟩ := hC.slice
 obtain ⟨W1, hW1, hB, hz, hA1, hA2⟩ := two_lines w (.int .i64 l.quote) (.slice la l.lists.length lc) (.int .i64 l.kind) (.slice ca l.cells.length cc) (.int .i64 0) (.slice none 0 0) (.int .i64 0) (.slice none 0 0)
 have hs1 := hB.size
 have HS : Hid (∀ W, Below W1.heap.size W1 W → Src Tryz.prog 1 39 (.slice la l.lists.length lc) l.lists.length (l.lists.flatMap encInt) W) := Lib.hid fun W hW => SliceR.src_flat rowInt eltInt (hL.below (rdOf_stable _) (hB.trans (hW.mono hs1)))
 have HC : Hid (∀ W, Below W1.heap.size W1 W → Calls Tryz.prog 183 #[.slice ca l.cells.length cc] W fun e w' => ∃ v', e = .returned v' ∧ CelsR true w' (fun b => W.heap.size ≤ b) v' l.cells ∧ Below W.heap.size W w') := Lib.hid fun W hW => refOwnC_any _ _ o2 W S (hC.below (rdOf_stable _) (hB.trans (hW.mono hs1))) hs.2
 have HB0 : Hid (∀ W, Below W1.heap.size W1 W → W.heap[w.heap.size]? = _) := Lib.hid fun W hW => heap_below hW hA1
 have HB1 : Hid (∀ W, Below W1.heap.size W1 W → W.heap[w.heap.size + 1]? = _) := Lib.hid fun W hW => heap_below hW hA2
 have HN1 : Hid (([] : List Int).length + l.lists.length ≤ 100000000) := Lib.hid (by simp; omega)
 obtain ⟨p1, f1⟩ := blk hA1
 obtain ⟨p2, f2⟩ := blk hA2
 have HZ := Lib.hid hz
 clear hL hC hz hA1 hA2 hs
 go_enter Tryz.func173, Tryz.ntmps173
 go_wp2_with fail
 go_region_held3 (fun w' => w'.cell? ⟨w.heap.size, 0, none⟩ = some (.int .i64 l.quote) ∧ w'.cell? ⟨w.heap.size, 1, none⟩ = some (.slice la l.lists.length lc) ∧ w'.cell? ⟨w.heap.size, 2, none⟩ = some (.int .i64 l.kind) ∧ w'.cell? ⟨w.heap.size, 3, none⟩ = some (.slice ca l.cells.length cc)) (go_keep) (first | ((refine step_append_R (by rfl) _ _ 39 39 (by rfl) rowInt eltInt _ _ _ (xs := []) (ys := l.lists) (news := l.lists.flatMap encInt) (by rfl) (by rfl) (SliceR.empty _ _ _ _ _ _ _) (Nat.le_refl _) (HS.out _ (by go_grown)) (flatInt _ _ _) HN1.out ?_; intro v1 w2 hv1 hb1 _ _; have hx1 : Below W1.heap.size W1 w2 := below_from (by go_grown) hb1; obtain ⟨p3, f3⟩ := blk (HB0.out _ hx1); obtain ⟨p4, f4⟩ := blk (HB1.out _ hx1); obtain ⟨a1, c1, hv1e⟩ := hv1.slice; subst hv1e)) | ((go_at_call 183; refine (HC.out _ (by go_grown)).mono ?_; rintro e w3 ⟨v2, rfl, hv2, hb2⟩; have hx2 : Below W1.heap.size W1 w3 := below_from (by go_grown) hb2; obtain ⟨p5, f5⟩ := blk (HB0.out _ hx2); obtain ⟨p6, f6⟩ := blk (HB1.out _ hx2); obtain ⟨a2, c2, hv2e⟩ := hv2.slice; subst hv2e)))
 go_wp2_with fail
 refine bodyPost_ret (results_line rfl _ _ (w.heap.size + 1) (.int .i64 l.quote) (.slice a1 l.lists.length c1) (.int .i64 l.kind) (.slice a2 l.cells.length c2) rfl (by simp [heap_set, putIn, HB1.out _ hx2])) rfl ?_
 have shb1 := Below.size hb1; have shb2 := Below.size hb2; (try simp at shb1); (try simp at shb2)
 have hfin := hB.trans (hx2.mono hs1)
 have := HZ.out
 exact ⟨_, _, rfl, (SliceR.stable (rdOf_stable _) hv1 (by (repeat' (first | (with_reducible exact Keeps.refl _ _) | (with_reducible refine Keeps.set ?_ ?_ _) | (with_reducible refine Keeps.alloc ?_ _) | (with_reducible refine Keeps.drew ?_) | (first | refine Keeps.on ?_ hb2) | (simp; omega)))) (fun b h _ => (by have h' := h; (try simp at h'); omega))), (SliceR.stable (rdOf_stable _) hv2 (by (repeat' (first | (with_reducible exact Keeps.refl _ _) | (with_reducible refine Keeps.set ?_ ?_ _) | (with_reducible refine Keeps.alloc ?_ _) | (with_reducible refine Keeps.drew ?_) | (first | fail) | (simp; omega)))) (fun b h _ => (by have h' := h; (try simp at h'); omega))), by go_grown⟩
set_option maxRecDepth 100000 in
set_option maxHeartbeats 4000000 in
theorem refFrame_any (l : Lin) (a b : Value) (o1 o2 : Bool) (w : World) (S : Nat → Prop) (hL : IntsR o1 w S a l.lists) (hC : CelsR o2 w S b l.cells) (hs : l.lists.length ≤ 1000000) :
  Calls Tryz.prog 182 #[linV l a b] w fun e w' => ∃ a', e = .returned (linV l a' (.slice none 0 0)) ∧ IntsR true w' (fun b => w.heap.size ≤ b) a' l.lists ∧ Below w.heap.size w w' := by
 obtain ⟨la, lc, rfl⟩ := hL.slice
 obtain ⟨ca, cc, rfl⟩ := hC.slice
 obtain ⟨W1, hW1, hB, hz, hA1, hA2⟩ := two_lines w (.int .i64 l.quote) (.slice la l.lists.length lc) (.int .i64 l.kind) (.slice ca l.cells.length cc) (.int .i64 0) (.slice none 0 0) (.int .i64 0) (.slice none 0 0)
 have hs1 := hB.size
 have HS : Hid (∀ W, Below W1.heap.size W1 W → Src Tryz.prog 1 39 (.slice la l.lists.length lc) l.lists.length (l.lists.flatMap encInt) W) := Lib.hid fun W hW => SliceR.src_flat rowInt eltInt (hL.below (rdOf_stable _) (hB.trans (hW.mono hs1)))
 have HB0 : Hid (∀ W, Below W1.heap.size W1 W → W.heap[w.heap.size]? = _) := Lib.hid fun W hW => heap_below hW hA1
 have HB1 : Hid (∀ W, Below W1.heap.size W1 W → W.heap[w.heap.size + 1]? = _) := Lib.hid fun W hW => heap_below hW hA2
 have HN1 : Hid (([] : List Int).length + l.lists.length ≤ 100000000) := Lib.hid (by simp; omega)
 obtain ⟨p1, f1⟩ := blk hA1
 obtain ⟨p2, f2⟩ := blk hA2
 have HZ := Lib.hid hz
 clear hL hC hz hA1 hA2 hs
 go_enter Tryz.func182, Tryz.ntmps182
 go_wp2_with fail
 go_region_held3 (fun w' => w'.cell? ⟨w.heap.size, 0, none⟩ = some (.int .i64 l.quote) ∧ w'.cell? ⟨w.heap.size, 1, none⟩ = some (.slice la l.lists.length lc) ∧ w'.cell? ⟨w.heap.size, 2, none⟩ = some (.int .i64 l.kind)) (go_keep) (((refine step_append_R (by rfl) _ _ 39 39 (by rfl) rowInt eltInt _ _ _ (xs := []) (ys := l.lists) (news := l.lists.flatMap encInt) (by rfl) (by rfl) (SliceR.empty _ _ _ _ _ _ _) (Nat.le_refl _) (HS.out _ (by go_grown)) (flatInt _ _ _) HN1.out ?_; intro v1 w2 hv1 hb1 _ _; have hx1 : Below W1.heap.size W1 w2 := below_from (by go_grown) hb1; obtain ⟨p3, f3⟩ := blk (HB0.out _ hx1); obtain ⟨p4, f4⟩ := blk (HB1.out _ hx1); obtain ⟨a1, c1, hv1e⟩ := hv1.slice; subst hv1e)))
 go_wp2_with fail
 refine bodyPost_ret (results_line rfl _ _ (w.heap.size + 1) (.int .i64 l.quote) (.slice a1 l.lists.length c1) (.int .i64 l.kind) (.slice none 0 0) rfl (by simp [heap_set, putIn, HB1.out _ hx1])) rfl ?_
 have shb1 := Below.size hb1; have shx1 := Below.size hx1; (try simp at shb1); (try simp at shx1)
 have hfin := hB.trans (hx1.mono hs1)
 have := HZ.out
 exact ⟨_, rfl, (SliceR.stable (rdOf_stable _) hv1 (by (repeat' (first | (with_reducible exact Keeps.refl _ _) | (with_reducible refine Keeps.set ?_ ?_ _) | (with_reducible refine Keeps.alloc ?_ _) | (with_reducible refine Keeps.drew ?_) | (first | fail) | (simp; omega)))) (fun b h _ => (by have h' := h; (try simp at h'); omega))), by go_grown⟩
end Go.Proofs.YtpndnbjpnajaaaaGreatDoor
namespace Go.Proofs.YtpndnbjpnajaaaaGreatDoor
open Go.RowKit
open Go.Proofs.Qw
set_option maxRecDepth 100000 in
set_option maxHeartbeats 2000000 in
theorem refOwnD_any (v : Value) (d : List Lin) (w : World) (S : Nat → Prop) (h : LinsR w S v d) (hs : Fits d) :
  Calls Tryz.prog 102 #[v] w fun e w' => ∃ v', e = .returned v' ∧ DocR true w' (fun b => w.heap.size ≤ b) v' d ∧ Below w.heap.size w w' := by
 obtain ⟨a, c, rfl, hc, hm, hx⟩ := lins_shape h
 have HX := Lib.hid hx
 have HF := Lib.hid hs
 have hn : d.length ≤ 1000000 := hs.1
 clear hx h hs
 unfold maxLen at hm
 go_enter Tryz.func102, Tryz.ntmps102
 go_wp2_with fail
 go_loopw [3, 4] (fun out i wr => ∃ k : Nat, k ≤ d.length ∧ i = .int .i64 k ∧ DocR true wr (fun b => w.heap.size ≤ b) out (d.take k) ∧ Below w.heap.size w wr) (fun _ i _ => d.length - (intOf i).toNat)
 case atStart => exact ⟨0, Nat.zero_le _, rfl, SliceR.nil _ _ _ _ _ _, Below.refl _ _⟩
 case round =>
  obtain ⟨k, hk, rfl, hO, hb⟩ := hrel
  by_cases hlt : k < d.length
  ·obtain ⟨l, hl, hd⟩ := getOf d k hlt
   obtain ⟨b, o, la, lc, ca, cc, rfl, hA⟩ := HX.out k l hl
   have hfl := HF.out.2 l (List.mem_of_getElem? hl)
   have HT := Lib.hid (take_some hl)
   have HW : Hid (∀ W, Below w.heap.size w W → Calls Tryz.prog 173 #[linV l (.slice la l.lists.length lc) (.slice ca l.cells.length cc)] W fun e w' => ∃ a' b', e = .returned (linV l a' b') ∧ IntsR true w' (fun b => W.heap.size ≤ b) a' l.lists ∧ CelsR true w' (fun b => W.heap.size ≤ b) b' l.cells ∧ Below W.heap.size W w') :=
    Lib.hid fun W hW => refOwnL_any l _ _ false false W S (hA.below hW).listsR (hA.below hW).cellsR hfl
   obtain ⟨_, c0, c1, c2, c3, _, _⟩ := hA.below hb
   have HO := Lib.hid hO
   have hbs := hb.size
   have htl : (d.take k).length + 1 ≤ 100000000 := by rw [List.length_take]; omega
   clear hA hd hl hO hfl
   go_wp2_with (first
    | (go_at_call 173; refine (HW.out _ hb).mono ?_; rintro e w2 ⟨a', b', rfl, ha', hb', hb2⟩; obtain ⟨a1, c1, rfl⟩ := ha'.slice; obtain ⟨a2, c2, rfl⟩ := hb'.slice; have HA1 := Lib.hid ha'; have HA2 := Lib.hid hb'; have HB2 := Lib.hid hb2; have hw2 := below_from hb hb2; clear ha' hb'; have hz2 := hb2.size; clear hb2; unfold linV)
    | (at_builtin; refine wpList_append_R _ rfl _ _ 22 22 rfl rowLine eltLine w.heap.size _ _ (xs := d.take k) (ys := [l]) (news := [.int .i64 l.quote, .slice a1 l.lists.length c1, .int .i64 l.kind, .slice a2 l.cells.length c2]) rfl rfl (HO.out.stable (rdLin_stable _) (by (repeat' (first | (with_reducible exact Keeps.refl _ _) | (with_reducible refine Keeps.set ?_ ?_ _) | (with_reducible refine Keeps.alloc ?_ _) | (with_reducible refine Keeps.drew ?_) | (first | refine Keeps.on ?_ HB2.out) | (simp; omega)))) (fun _ h _ => h)) (by simp; omega) (src_one rowLine w2 _ rfl (oneV_line _ _ _ _ _ _ _) 1) (NewsR.one rfl ⟨_, _, rfl, HA1.out.stable (rdOf_stable _) ((Keeps.refl _ _).alloc _) (fun b h _ => Nat.le_trans hbs h), HA2.out.stable (rdOf_stable _) ((Keeps.refl _ _).alloc _) (fun b h _ => Nat.le_trans hbs h)⟩) htl ?_; intro v' w3 hR hB _ _; rw [← HT.out] at hR; have HR := Lib.hid hR; have HB3 := Lib.hid hB; clear hR hB))
   go_roundw
   case rel => exact ⟨k + 1, hlt, by go_num, HR.out, (hw2.alloc (by omega) _).trans HB3.out⟩
   case measure => simp [intOf]; omega
  ·obtain rfl : k = d.length := by omega
   have HT := Lib.hid (List.take_length (l := d))
   have HO := Lib.hid hO
   have HB := Lib.hid hb
   clear hb hO
   go_wp2_with fail
   go_ret
   exact ⟨_, rfl, Eq.mp (congrArg (fun x => DocR true wr (fun b => w.heap.size ≤ b) _ x) HT.out) HO.out, HB.out⟩
end Go.Proofs.YtpndnbjpnajaaaaGreatDoor
namespace Go.Proofs.YtpndnbjpnajaaaaGreatDoor
open Go.RowKit
open Go.Proofs.Qw
set_option maxHeartbeats 1000000 in
theorem refSize_any (v : Value) (d : Doc) (w : World) (S : Nat → Prop) (h : LinsR w S v d) (hs : sizeD d ≤ 100000) :
  Calls Tryz.prog 56 #[v] w fun e w' => e = .returned (.int .i64 (sizeD d)) ∧ Below w.heap.size w w' := by
 obtain ⟨a, c, rfl, hc, hm, hx⟩ := lins_shape h
 have HX := Lib.hid hx
 clear hx h
 unfold maxLen at hm
 go_enter Tryz.func56, Tryz.ntmps56
 go_wp2_with fail
 go_loopw [3, 4] (fun n i wr => ∃ k : Nat, k ≤ d.length ∧ i = .int .i64 k ∧ n = .int .i64 (sizeD (d.take k)) ∧ Below w.heap.size w wr) (fun _ i _ => d.length - (intOf i).toNat)
 case atStart => exact ⟨0, Nat.zero_le _, rfl, rfl, Below.refl _ _⟩
 case round =>
  obtain ⟨k, hk, rfl, rfl, hb⟩ := hrel
  by_cases hlt : k < d.length
  ·obtain ⟨l, hl, hd⟩ := getOf d k hlt
   obtain ⟨b, o, la, lc, ca, cc, rfl, hA⟩ := HX.out k l hl
   obtain ⟨_, c0, c1, c2, c3, _, _⟩ := hA.below hb
   have e1 := sizeD_step hl
   have e2 := sizeD_le d (k + 1)
   have HE := Lib.hid e1
   have hle : sizeD (d.take k) + l.cells.length ≤ 100000 := by omega
   clear hA hd hl e1 e2
   go_wp2_with fail
   go_roundw
   case rel =>
    refine ⟨k + 1, hlt, by go_num, ?_, hb⟩
    rw [HE.out]
    go_num
   case measure => simp [intOf]; omega
  ·obtain rfl : k = d.length := by omega
   have HT : Hid (d.take d.length = d) := Lib.hid (List.take_length ..)
   have HB := Lib.hid hb
   clear hb
   go_wp2_with fail
   go_ret
   rw [HT.out]
   exact ⟨rfl, HB.out⟩
set_option maxHeartbeats 1000000 in
theorem refEnd_any (v : Value) (d : Doc) (w : World) (S : Nat → Prop) (h : LinsR w S v d) :
  Calls Tryz.prog 124 #[v] w fun e w' => e = .returned (posV (endD d)) ∧ Below w.heap.size w w' := by
 obtain ⟨a, c, rfl, hc, hm, hx⟩ := lins_shape h
 have HX := Lib.hid hx
 clear hx h
 unfold maxLen at hm
 go_enter Tryz.func124, Tryz.ntmps124
 rcases Nat.eq_zero_or_pos d.length with hz | hz
 ·have hd : d = [] := List.length_eq_zero_iff.1 hz
  subst hd
  go_wp2_with fail
  go_returns
  exact ⟨rfl, by (repeat' (first | (with_reducible exact Below.refl _ _) | (with_reducible assumption) | (with_reducible refine Below.alloc ?_ ?_ _) | (with_reducible refine Below.drew ?_) | (with_reducible refine drewN_below ?_) | (with_reducible refine Below.setCell ?_ ?_ _) | go_size))⟩
 ·obtain ⟨l, hl, hd⟩ := getOf d (d.length - 1) (by omega)
  obtain ⟨b, o, la, lc, ca, cc, rfl, hA⟩ := HX.out _ l hl
  obtain ⟨hlt, c0, c1, c2, c3, _, _⟩ := hA
  have hne : d ≠ [] := by intro e; subst e; cases hz
  have HE : Hid (endD d = ⟨d.length - 1, l.cells.length⟩) := Lib.hid (by
   unfold endD
   rw [if_neg hne, List.getLastD_eq_getLast?, List.getLast?_eq_getElem?, hl]
   rfl)
  have hi : ¬ ((d.length : Int) - 1 < 0) := by omega
  have ht : ((d.length : Int) - 1).toNat = d.length - 1 := by omega
  have hq : ((d.length : Int) == 0) = false := by simp; omega
  clear hd hl hne
  go_wp2_with fail
  go_returns
  rw [HE.out]
  exact ⟨rfl, by (repeat' (first | (with_reducible exact Below.refl _ _) | (with_reducible assumption) | (with_reducible refine Below.alloc ?_ ?_ _) | (with_reducible refine Below.drew ?_) | (with_reducible refine drewN_below ?_) | (with_reducible refine Below.setCell ?_ ?_ _) | go_size))⟩
set_option maxRecDepth 100000 in
set_option maxHeartbeats 1000000 in
theorem refIs_any (v : Value) (d : Doc) (p : Ps) (w : World) (S : Nat → Prop) (h : LinsR w S v d) :
  Calls Tryz.prog 144 #[v, posV p] w fun e w' => e = .returned (.bool (isD d p)) ∧ Below w.heap.size w w' := by
 obtain ⟨a, c, rfl, hc, hm, hx⟩ := lins_shape h
 have HX := Lib.hid hx
 clear hx h
 unfold maxLen at hm
 obtain ⟨i, j⟩ := p
 unfold posV
 go_enter Tryz.func144, Tryz.ntmps144
 by_cases hi : 0 ≤ i ∧ i < d.length
 ·obtain ⟨i, rfl⟩ := Int.eq_ofNat_of_zero_le hi.1
  obtain ⟨l, hl, hd⟩ := getOf d i (by omega)
  obtain ⟨b, o, la, lc, ca, cc, rfl, hA⟩ := HX.out _ l hl
  obtain ⟨hlt, c0, c1, c2, c3, _, _⟩ := hA
  have HI := Lib.hid (isD_at (j := j) hl)
  clear hd hl
  have h1 : ((i : Int) < 0) = False := by simp
  rcases Bool.eq_false_or_eq_true (decide (0 ≤ j)) with hj | hj
  all_goals
   go_wp2_with fail
   go_quiet (fail)
   go_wp2_with fail
   go_ret
   refine ⟨?_, drewN_below (by go_grown)⟩
   rw [HI.out, hj]
   rfl
 ·have hi' : decide (i < 0) = true ∨ (decide (i < 0) = false ∧ decide ((d.length : Int) ≤ i) = true) := by
   by_cases h1 : i < 0
   ·exact .inl (decide_eq_true h1)
   ·exact .inr ⟨decide_eq_false h1, decide_eq_true (by omega)⟩
  have HI := Lib.hid (isD_off (d := d) (j := j) hi)
  clear hi
  rcases hi' with hi | ⟨hi, hi2⟩
  all_goals
   go_wp2_with fail
   go_ret
   refine ⟨?_, by (repeat' (first | (with_reducible exact Below.refl _ _) | (with_reducible assumption) | (with_reducible refine Below.alloc ?_ ?_ _) | (with_reducible refine Below.drew ?_) | (with_reducible refine drewN_below ?_) | (with_reducible refine Below.setCell ?_ ?_ _) | go_size))⟩
   rw [HI.out]
   rfl
theorem run_eql_pos (p q : Ps) (w : World) : (binOp .eql 24 (.agg #[.int .i64 p.line, .int .i64 p.col]) (.agg #[.int .i64 q.line, .int .i64 q.col])).run Tryz.prog w = .ok (.bool (decide (p = q))) w := by
 have h1 : Tryz.prog.stoodInHeld 24 = false := by kernel_rfl
 have h2 : Tryz.prog.underlying 24 = some (.struct (Tryz.prog.fieldsOf 24)) := by kernel_rfl
 rw [run_eql_struct, show (10000:Nat) = 9999 + 1 from rfl, run_equalIn_agg _ _ _ _ _ h2 h1]
 simp [Tryz.underlying24, go_sem]
 obtain ⟨a, b⟩ := p
 obtain ⟨d, e⟩ := q
 simp only [Ps.mk.injEq]
 by_cases e1 : a = d <;> by_cases e2 : b = e <;> simp [e1, e2]
theorem guardPos : Tryz.prog.eqGuardType Tryz.prog.depth 24 = false := by kernel_rfl
set_option maxRecDepth 100000 in
set_option maxHeartbeats 2000000 in
theorem refCmp_any (p q : Ps) (w : World) :
  Calls Tryz.prog 32 #[posV p, posV q] w fun e w' => e = .returned (.int .i64 (cmpP p q)) ∧ Below w.heap.size w w' := by
 have hg := guardPos
 have hcs : (p = q ∧ cmpP p q = 0) ∨ (p ≠ q ∧ p.line < q.line ∧ cmpP p q = -1) ∨ (p ≠ q ∧ ¬ p.line < q.line ∧ (p.line == q.line) = true ∧ p.col < q.col ∧ cmpP p q = -1) ∨ (p ≠ q ∧ ¬ p.line < q.line ∧ (p.line == q.line) = true ∧ ¬ p.col < q.col ∧ cmpP p q = 1) ∨ (p ≠ q ∧ ¬ p.line < q.line ∧ (p.line == q.line) = false ∧ cmpP p q = 1) := by
  obtain ⟨a, b⟩ := p
  obtain ⟨d, e⟩ := q
  simp only [Ps.mk.injEq, cmpP, cmpI, ne_eq]
  by_cases h1 : a < d
  ·simp [h1]; omega
  ·by_cases h2 : d < a
   ·simp [h1, h2]; omega
   ·obtain rfl : a = d := by omega
    by_cases h3 : b < e
    ·simp [h3]; omega
    ·by_cases h4 : e < b
     ·simp [h3, h4]; omega
     ·obtain rfl : b = e := by omega
      simp
 have hq := fun (w : World) => run_eql_pos p q w
 have HP : Hid (posV p = .agg #[.int .i64 p.line, .int .i64 p.col]) := Lib.hid rfl
 have HQ : Hid (posV q = .agg #[.int .i64 q.line, .int .i64 q.col]) := Lib.hid rfl
 rw [HP.out, HQ.out]
 go_enter Tryz.func32, Tryz.ntmps32
 rcases hcs with ⟨h1, hr⟩ | ⟨h1, h2, hr⟩ | ⟨h1, h2, h3, h4, hr⟩ | ⟨h1, h2, h3, h4, hr⟩ | ⟨h1, h2, h3, hr⟩
 ·have HR := Lib.hid hr
  have hd : decide (p = q) = true := decide_eq_true h1
  rw [hd] at hq
  clear h1 hr hd
  go_wp2_with fail
  go_ret
  rw [HR.out]
  exact ⟨rfl, by (repeat' (first | (with_reducible exact Below.refl _ _) | (with_reducible assumption) | (with_reducible refine Below.alloc ?_ ?_ _) | (with_reducible refine Below.drew ?_) | (with_reducible refine drewN_below ?_) | (with_reducible refine Below.setCell ?_ ?_ _) | go_size))⟩
 all_goals
  have HR := Lib.hid hr
  have hd : decide (p = q) = false := decide_eq_false h1
  rw [hd] at hq
  clear h1 hr hd
  go_wp2_with fail
  go_ret
  rw [HR.out]
  exact ⟨rfl, by (repeat' (first | (with_reducible exact Below.refl _ _) | (with_reducible assumption) | (with_reducible refine Below.alloc ?_ ?_ _) | (with_reducible refine Below.drew ?_) | (with_reducible refine drewN_below ?_) | (with_reducible refine Below.setCell ?_ ?_ _) | go_size))⟩
end Go.Proofs.YtpndnbjpnajaaaaGreatDoor
namespace Go.Proofs.YtpndnbjpnajaaaaGreatDoor
open Go.RowKit
open Go.Proofs.Qw
set_option maxHeartbeats 400000 in
theorem refLink_any (s : ByteArray) (w : World) (hs : s.size ≤ 1000000) :
  Calls Tryz.prog 179 #[.string s] w fun e w' => e = .returned (.bool (linkF s.data.toList)) ∧ Below w.heap.size w w' := by
 have HC := Lib.hid (refTarget_any s w hs)
 have HL : Hid (linkF s.data.toList = (s.toList.isEmpty || targetF s.data.toList)) := Lib.hid (by
  unfold linkF
  rw [toList_eq]
  cases s.data.toList <;> rfl)
 generalize targetF s.data.toList = r at *
 go_enter Tryz.func179, Tryz.ntmps179
 go_wp2_with (go_at_call 105; refine HC.out.mono ?_; rintro e w1 ⟨rfl, hb1⟩)
 ·go_ret
  rw [HL.out, show s.toList = [] by assumption]
  exact ⟨rfl, Below.refl _ _⟩
 ·go_ret
  rw [HL.out]
  exact ⟨rfl, hb1⟩
set_option maxRecDepth 100000 in
set_option maxHeartbeats 2000000 in
theorem refCellsMay_any (v : Value) (d : List Cel) (w : World) (S : Nat → Prop) (h : CelsR false w S v d) (hs : ∀ c ∈ d, c.href.length ≤ 1000000) :
  Calls Tryz.prog 197 #[v] w fun e w' => e = .returned (.bool (mayCs d)) ∧ Below w.heap.size w w' := by
 obtain ⟨a, c, rfl, hc, hm, hx⟩ := cels_shape h
 have HX := Lib.hid hx
 have HS := Lib.hid hs
 clear hx h hs
 unfold maxLen at hm
 go_enter Tryz.func197, Tryz.ntmps197
 go_wp2_with fail
 go_loopw [3] (fun i wr => ∃ k : Nat, k ≤ d.length ∧ i = .int .i64 k ∧ Hid ((d.take k).all mayC = true) ∧ Below w.heap.size w wr) (fun i _ => d.length - (intOf i).toNat)
 case atStart => exact ⟨0, Nat.zero_le _, rfl, Lib.hid rfl, Below.refl _ _⟩
 case round =>
  obtain ⟨k, hk, rfl, HA, hb⟩ := hrel
  by_cases hlt : k < d.length
  ·obtain ⟨x, hx, _⟩ := getOf d k hlt
   obtain ⟨b, o, rfl, hz, c0, c1, c2⟩ := HX.out k x hx
   have c0 := (hb.cell (p := ⟨b, o + k * 3, none⟩) hz).trans c0
   have c1 := (hb.cell (p := ⟨b, o + k * 3 + 1, none⟩) hz).trans c1
   have c2 := (hb.cell (p := ⟨b, o + k * 3 + 2, none⟩) hz).trans c2
   have HX2 := Lib.hid hx
   have hbs := hb.size
   obtain ⟨W1, hW1⟩ : ∃ W1, wr.alloc (.cells #[.int .i32 x.r, .int .i64 x.bits, .string ⟨x.href.toArray⟩] 44) = W1 := ⟨_, rfl⟩
   have hB : Below w.heap.size w W1 := hW1 ▸ hb.alloc hbs _
   have hA1 : W1.heap[wr.heap.size]? = some (.cells #[.int .i32 x.r, .int .i64 x.bits, .string ⟨x.href.toArray⟩] 44) := hW1 ▸ heap_new _ _ rfl
   obtain ⟨p1, f1⟩ := blk hA1
   have HM : Hid (∀ W, Calls Tryz.prog 229 #[.int .i32 x.r] W fun e w' => e = .returned (.bool (mayR x.r)) ∧ w' = W) := Lib.hid fun W => refCharMay_any x.r W
   have HC : Hid (∀ W, Calls Tryz.prog 179 #[.string ⟨x.href.toArray⟩] W fun e w' => e = .returned (.bool (linkF x.href)) ∧ Below W.heap.size W w') := Lib.hid fun W => refLink_any ⟨x.href.toArray⟩ W (by show x.href.toArray.size ≤ _; simpa using HS.out x (List.mem_of_getElem? hx))
   have HE := Lib.hid (mayC_eq x)
   have HT : Hid ((!mayC x) = false → (d.take (k + 1)).all mayC = true) := Lib.hid fun h => all_take HX2.out HA.out (by simpa using h)
   have HF : Hid ((!mayC x) = true → mayCs d = false) := Lib.hid fun h => all_no HX2.out (by simpa using h)
   clear hx hA1
   generalize (!mayC x) = r at *
   generalize mayR x.r = m at *
   generalize linkF x.href = lk at *
   go_wp2_with (first | (go_at_call 229; refine (HM.out _).mono ?_; rintro e w1 ⟨rfl, rfl⟩; cases m) | (go_at_call 179; refine (HC.out _).mono ?_; rintro e w1 ⟨rfl, hb1⟩; have hB2 := hB.trans (Below.mono hb1 hB.size); cases lk))
   all_goals first
    | (go_roundw
       case rel =>
         refine ⟨k + 1, hlt, by go_num, Lib.hid (HT.out ?_), by first | exact hB2 | exact hB⟩
         rw [HE.out]
         clear HE HM HC HT HF
         simp (config := { failIfUnchanged := false }) [*]
       case measure => simp [intOf]; omega)
    | (go_ret
       refine ⟨?_, by first | exact hB2 | exact hB⟩
       rw [HF.out (by rw [HE.out]; clear HE HM HC HT HF; simp (config := { failIfUnchanged := false }) [*])]
       rfl)
  ·obtain rfl : k = d.length := by omega
   have HF : Hid (mayCs d = true) := Lib.hid (by have := HA.out; rwa [List.take_length] at this)
   have HB := Lib.hid hb
   clear hb
   go_wp2_with fail
   go_ret
   rw [HF.out]
   exact ⟨rfl, HB.out⟩
theorem mayL_bad {l : Lin} (h : ¬ (0 ≤ l.quote ∧ l.quote ≤ 6 ∧ l.lists.length ≤ 6 ∧ 0 ≤ l.kind ∧ l.kind ≤ 3)) : mayL l = false := by
 cases hm : mayL l
 ·rfl
 ·exfalso
  apply h
  unfold mayL at hm
  simp only [Bool.and_eq_true, decide_eq_true_eq] at hm
  omega
def okK (kind k : Int) : Bool := decide (k = 0 ∨ k = 1) && decide (kind = 0)
theorem mayL_good {l : Lin} (h : 0 ≤ l.quote ∧ l.quote ≤ 6 ∧ l.lists.length ≤ 6 ∧ 0 ≤ l.kind ∧ l.kind ≤ 3) : mayL l = (l.lists.all (okK l.kind) && mayCs l.cells) := by
 unfold mayL
 rw [decide_eq_true h.1, decide_eq_true h.2.1, decide_eq_true h.2.2.1, decide_eq_true h.2.2.2.1, decide_eq_true h.2.2.2.2]
 have e : l.lists.all (okK l.kind) = ((decide (l.lists = []) || decide (l.kind = 0)) && l.lists.all (fun k => decide (k = 0 ∨ k = 1))) := by
  by_cases hk : l.kind = 0
  ·have e0 : okK l.kind = fun k => decide (k = 0 ∨ k = 1) := by funext k; simp [okK, hk]
   rw [e0, hk]; simp
  ·cases hl : l.lists with
   | nil => simp
   | cons x t => simp [okK, hk]
 rw [e]
 simp
set_option maxRecDepth 100000 in
set_option maxHeartbeats 4000000 in
theorem refLineMay_any (l : Lin) (a b : Value) (w : World) (S : Nat → Prop) (hL : IntsR false w S a l.lists) (hC : CelsR false w S b l.cells) (hs : ∀ c ∈ l.cells, c.href.length ≤ 1000000) :
  Calls Tryz.prog 139 #[linV l a b] w fun e w' => e = .returned (.bool (mayL l)) ∧ Below w.heap.size w w' := by
 have HC : Hid (∀ W, Below w.heap.size w W → Calls Tryz.prog 197 #[b] W fun e w' => e = .returned (.bool (mayCs l.cells)) ∧ Below W.heap.size W w') := Lib.hid fun W hW => refCellsMay_any b l.cells W S (hC.below (rdOf_stable _) hW) hs
 obtain ⟨la, lc, rfl, hlc, hlm, hx⟩ := ints_shape hL
 have HX := Lib.hid hx
 obtain ⟨ca, cc, rfl⟩ := hC.slice
 obtain ⟨W1, hW1⟩ : ∃ W1, w.alloc (.cells #[.int .i64 l.quote, .slice la l.lists.length lc, .int .i64 l.kind, .slice ca l.cells.length cc] 42) = W1 := ⟨_, rfl⟩
 have hB : Below w.heap.size w W1 := hW1 ▸ (Below.refl _ _).alloc (Nat.le_refl _) _
 have hA1 : W1.heap[w.heap.size]? = some (.cells #[.int .i64 l.quote, .slice la l.lists.length lc, .int .i64 l.kind, .slice ca l.cells.length cc] 42) := hW1 ▸ heap_new _ _ rfl
 obtain ⟨p1, f1⟩ := blk hA1
 unfold maxLen at hlm
 clear hx hL hC hs hA1
 by_cases hh : 0 ≤ l.quote ∧ l.quote ≤ 6 ∧ l.lists.length ≤ 6 ∧ 0 ≤ l.kind ∧ l.kind ≤ 3
 ·have HG := Lib.hid (mayL_good hh)
  obtain ⟨h1, h2, h3, h4, h5⟩ := hh
  go_enter Tryz.func139, Tryz.ntmps139
  go_wp2_with fail
  go_loopw [3] (fun i wr => ∃ k : Nat, k ≤ l.lists.length ∧ i = .int .i64 k ∧ Hid ((l.lists.take k).all (okK l.kind) = true) ∧ wr = W1) (fun i _ => l.lists.length - (intOf i).toNat)
  case atStart => exact ⟨0, Nat.zero_le _, rfl, Lib.hid rfl, rfl⟩
  case round =>
   obtain ⟨k, hk, rfl, HA, rfl⟩ := hrel
   by_cases hlt : k < l.lists.length
   ·obtain ⟨x, hx, _⟩ := getOf l.lists k hlt
    obtain ⟨b, o, rfl, hz, c0⟩ := HX.out k x hx
    have c0 := (hB.cell (p := ⟨b, o + k, none⟩) hz).trans c0
    have HX2 := Lib.hid hx
    clear hx
    have hcs : ((x != 0) = true ∧ (x != 1) = true ∧ okK l.kind x = false) ∨ ((x != 0) = false ∧ (l.kind != 0) = true ∧ okK l.kind x = false) ∨ ((x != 0) = true ∧ (x != 1) = false ∧ (l.kind != 0) = true ∧ okK l.kind x = false) ∨ ((x != 0) = false ∧ (l.kind != 0) = false ∧ okK l.kind x = true) ∨ ((x != 0) = true ∧ (x != 1) = false ∧ (l.kind != 0) = false ∧ okK l.kind x = true) := by
     unfold okK
     by_cases e0 : x = 0 <;> by_cases e1 : x = 1 <;> by_cases e2 : l.kind = 0 <;> simp [e0, e1, e2] <;> omega
    rcases hcs with ⟨t1, t2, t3⟩ | ⟨t1, t2, t3⟩ | ⟨t1, t2, t4, t3⟩ | ⟨t1, t2, t3⟩ | ⟨t1, t2, t4, t3⟩
    ·have HF : Hid (mayL l = false) := Lib.hid (by rw [HG.out, all_no HX2.out t3]; rfl)
     clear t3
     go_wp2_with fail
     go_ret
     rw [HF.out]
     exact ⟨rfl, hB⟩
    ·have HF : Hid (mayL l = false) := Lib.hid (by rw [HG.out, all_no HX2.out t3]; rfl)
     clear t3
     go_wp2_with fail
     go_ret
     rw [HF.out]
     exact ⟨rfl, hB⟩
    ·have HF : Hid (mayL l = false) := Lib.hid (by rw [HG.out, all_no HX2.out t3]; rfl)
     clear t3
     go_wp2_with fail
     go_ret
     rw [HF.out]
     exact ⟨rfl, hB⟩
    all_goals
     have HT := Lib.hid (all_take HX2.out HA.out t3)
     clear t3
     go_wp2_with fail
     go_roundw
     case rel => exact ⟨k + 1, hlt, by go_num, HT, by first | rfl | trivial⟩
     case measure => simp [intOf]; omega
   ·obtain rfl : k = l.lists.length := by omega
    have HF : Hid (mayL l = mayCs l.cells) := Lib.hid (by have := HA.out; rw [List.take_length] at this; rw [HG.out, this]; rfl)
    go_wp2_with (go_at_call 197; refine (HC.out _ hB).mono ?_; rintro e w2 ⟨rfl, hb2⟩)
    go_ret
    rw [HF.out]
    exact ⟨rfl, hB.trans (hb2.mono hB.size)⟩
 ·have HF := Lib.hid (mayL_bad hh)
  go_enter Tryz.func139, Tryz.ntmps139
  have hcs : (l.quote < 0) ∨ (0 ≤ l.quote ∧ 6 < l.quote) ∨ (0 ≤ l.quote ∧ l.quote ≤ 6 ∧ 6 < (l.lists.length : Int)) ∨ (0 ≤ l.quote ∧ l.quote ≤ 6 ∧ (l.lists.length : Int) ≤ 6 ∧ l.kind < 0) ∨ (0 ≤ l.quote ∧ l.quote ≤ 6 ∧ (l.lists.length : Int) ≤ 6 ∧ 0 ≤ l.kind ∧ 3 < l.kind) := by omega
  clear hh
  rcases hcs with t1 | ⟨t1, t2⟩ | ⟨t1, t2, t3⟩ | ⟨t1, t2, t3, t4⟩ | ⟨t1, t2, t3, t4, t5⟩
  all_goals
   go_wp2_with fail
   go_ret
   rw [HF.out]
   exact ⟨rfl, hB⟩
set_option maxRecDepth 100000 in
set_option maxHeartbeats 4000000 in
theorem refMay_any (v : Value) (d : Doc) (w : World) (S : Nat → Prop) (h : LinsR w S v d) (hs : Small d) :
  Calls Tryz.prog 62 #[v] w fun e w' => e = .returned (.bool (mayD d)) ∧ Below w.heap.size w w' := by
 have HC := Lib.hid (refSize_any v d w S h hs.1)
 have hsz := hs.1
 obtain ⟨a, c, rfl, hc, hm, hx⟩ := lins_shape h
 have HX := Lib.hid hx
 have HS := Lib.hid hs
 unfold maxLen at hm
 clear hx h hs
 by_cases hh : 1 ≤ d.length ∧ d.length ≤ 200 ∧ sizeD d ≤ 4000
 ·have HG : Hid (mayD d = d.all mayL) := Lib.hid (by unfold mayD; rw [decide_eq_true hh.1, decide_eq_true hh.2.1, decide_eq_true hh.2.2]; rfl)
  obtain ⟨h1, h2, h3⟩ := hh
  go_enter Tryz.func62, Tryz.ntmps62
  go_wp2_with (go_at_call 56; refine HC.out.mono ?_; rintro e w1 ⟨rfl, hb1⟩)
  go_loopw [3] (fun i wr => ∃ k : Nat, k ≤ d.length ∧ i = .int .i64 k ∧ Hid ((d.take k).all mayL = true) ∧ Below w.heap.size w wr) (fun i _ => d.length - (intOf i).toNat)
  case atStart => exact ⟨0, Nat.zero_le _, rfl, Lib.hid rfl, hb1⟩
  case round =>
   obtain ⟨k, hk, rfl, HA, hb⟩ := hrel
   by_cases hlt : k < d.length
   ·obtain ⟨l, hl, _⟩ := getOf d k hlt
    obtain ⟨b, o, la, lc, ca, cc, rfl, hA⟩ := HX.out k l hl
    have HW : Hid (∀ W, Below w.heap.size w W → Calls Tryz.prog 139 #[linV l (.slice la l.lists.length lc) (.slice ca l.cells.length cc)] W fun e w' => e = .returned (.bool (mayL l)) ∧ Below W.heap.size W w') := Lib.hid fun W hW => refLineMay_any l _ _ W S (hA.below hW).listsR (hA.below hW).cellsR (HS.out.2.2 l (List.mem_of_getElem? hl))
    obtain ⟨_, c0, c1, c2, c3, _, _⟩ := hA.below hb
    have HX2 := Lib.hid hl
    clear hl hA
    cases hm : mayL l
    ·rw [hm] at HW
     have HF : Hid (mayD d = false) := Lib.hid (by rw [HG.out]; exact all_no HX2.out hm)
     clear hm
     go_wp2_with (go_at_call 139; refine (HW.out _ hb).mono ?_; rintro e w2 ⟨rfl, hb2⟩)
     go_ret
     rw [HF.out]
     exact ⟨rfl, below_from hb hb2⟩
    ·rw [hm] at HW
     have HF := Lib.hid (all_take HX2.out HA.out hm)
     clear hm
     go_wp2_with (go_at_call 139; refine (HW.out _ hb).mono ?_; rintro e w2 ⟨rfl, hb2⟩)
     go_roundw
     case rel => exact ⟨k + 1, hlt, by go_num, HF, below_from hb hb2⟩
     case measure => simp [intOf]; omega
   ·obtain rfl : k = d.length := by omega
    have HF : Hid (mayD d = true) := Lib.hid (by have := HA.out; rw [List.take_length] at this; rw [HG.out, this])
    have HB := Lib.hid hb
    clear hb
    go_wp2_with fail
    go_ret
    rw [HF.out]
    exact ⟨rfl, HB.out⟩
 ·have HF : Hid (mayD d = false) := Lib.hid (by
   cases hm : mayD d
   ·rfl
   ·exfalso
    apply hh
    unfold mayD at hm
    simp only [Bool.and_eq_true, decide_eq_true_eq] at hm
    omega)
  have hcs : ((d.length : Int) < 1) ∨ (1 ≤ (d.length : Int) ∧ 200 < (d.length : Int)) ∨ (1 ≤ (d.length : Int) ∧ (d.length : Int) ≤ 200 ∧ 4000 < (sizeD d : Int)) := by omega
  clear hh
  go_enter Tryz.func62, Tryz.ntmps62
  rcases hcs with t1 | ⟨t1, t2⟩ | ⟨t1, t2, t3⟩
  ·go_wp2_with fail
   go_ret
   rw [HF.out]
   exact ⟨rfl, Below.refl _ _⟩
  ·go_wp2_with fail
   go_ret
   rw [HF.out]
   exact ⟨rfl, Below.refl _ _⟩
  ·go_wp2_with (go_at_call 56; refine HC.out.mono ?_; rintro e w1 ⟨rfl, hb1⟩)
   go_ret
   rw [HF.out]
   exact ⟨rfl, hb1⟩
end Go.Proofs.YtpndnbjpnajaaaaGreatDoor
namespace Go.Proofs.YtpndnbjpnajaaaaGreatDoor
open Go.RowKit
open Go.Proofs.Qw
def Sane (d : Doc) : Prop := ∀ l ∈ d, l.lists.length ≤ 70368744177664 ∧ l.cells.length ≤ 70368744177664 ∧ ∀ c ∈ l.cells, c.href.length ≤ 281474976710656
structure Sml (d : Doc) : Prop where
 len : d.length ≤ 300
 size : sizeD d ≤ 20000
 lin : ∀ l ∈ d, l.lists.length ≤ 20000 ∧ ∀ c ∈ l.cells, c.href.length ≤ 160007
theorem Sml.small {d : Doc} (h : Sml d) : Small d := ⟨by have := h.size; omega, by have := h.len; omega, fun l hl c hc => by have := (h.lin l hl).2 c hc; omega⟩
theorem Sml.fits {d : Doc} (h : Sml d) : Fits d := ⟨by have := h.len; omega, fun l hl => ⟨by have := (h.lin l hl).1; omega, by
 obtain ⟨i, hi⟩ := List.getElem?_of_mem hl
 have := cells_le hi
 have := h.size
 omega⟩⟩
def LongSaid (d : Doc) (w : World) (e : Ending) (w' : World) : Prop := ∃ r, e = .returned (.bool r) ∧ (r = false → Sml d) ∧ Below w.heap.size w w'
set_option maxRecDepth 100000 in
set_option maxHeartbeats 4000000 in
theorem refLong_any (v : Value) (d : Doc) (w : World) (S : Nat → Prop) (h : LinsR w S v d) (hs : Sane d) :
  Calls Tryz.prog 74 #[v] w (LongSaid d w) := by
 obtain ⟨a, c, rfl, hc, hm, hx⟩ := lins_shape h
 have HX := Lib.hid hx
 have HS := Lib.hid hs
 unfold maxLen at hm
 clear hx h hs
 go_enter Tryz.func74, Tryz.ntmps74
 by_cases hl : 300 < d.length
 ·go_wp2_with fail
  go_ret
  exact ⟨true, rfl, (fun h => by cases h), Below.refl _ _⟩
 ·go_wp2_with fail
  go_loopw [3, 4, 5] (fun n i _ wr => ∃ (k m : Nat), k ≤ d.length ∧ i = .int .i64 k ∧ n = .int .i64 m ∧ m ≤ 20000 ∧ Hid (sizeD (d.take k) ≤ m ∧ ∀ l ∈ d.take k, l.lists.length ≤ 20000 ∧ ∀ c ∈ l.cells, c.href.length ≤ 160007) ∧ Below w.heap.size w wr) (fun _ i _ _ => d.length - (intOf i).toNat)
  case atStart => exact ⟨0, 0, Nat.zero_le _, rfl, rfl, Nat.zero_le _, Lib.hid ⟨Nat.le_refl _, fun l h => by cases h⟩, Below.refl _ _⟩
  case round =>
   obtain ⟨k, m, hk, rfl, rfl, hm2, HA, hb⟩ := hrel
   obtain ⟨wo, rfl⟩ : ∃ wo : World, wo = wr := ⟨_, rfl⟩
   by_cases hlt : k < d.length
   ·obtain ⟨l, hl', hd⟩ := getOf d k hlt
    obtain ⟨b, o, la, lc, ca, cc, rfl, hA⟩ := HX.out k l hl'
    have hsn := HS.out l (List.mem_of_getElem? hl')
    have hs1 := hsn.1
    have hs2 := hsn.2.1
    have HS3 := Lib.hid hsn.2.2
    have HA2 := Lib.hid hA
    obtain ⟨_, c0, c1, c2, c3, _, hcr⟩ := hA.below hb
    obtain ⟨ca', cc', hce, hcl, hcm, hcx⟩ := cels_shape hA.cellsR
    cases hce
    have HCX := Lib.hid hcx
    have HT := Lib.hid hl'
    have i0 : (0 : Int) ≤ (k : Int) := Int.natCast_nonneg _
    have i1 : (k : Int) < (d.length : Int) := by omega
    have hw : IntKind.i64.wrap ((l.cells.length : Int) + (l.lists.length : Int)) = (l.cells.length : Int) + (l.lists.length : Int) := IntWalk.i64_in _ (by omega)
    have hw2 : IntKind.i64.wrap ((m : Int) + ((l.cells.length : Int) + (l.lists.length : Int))) = (m : Int) + ((l.cells.length : Int) + (l.lists.length : Int)) := IntWalk.i64_in _ (by omega)
    unfold maxLen at hcm
    clear hA hl' hd hsn hcx hcr
    go_wp2_with fail
    go_quiet (fail)
    clear hw hw2
    go_wp2_with fail
    go_loopw [3, 5] (fun n j wi => ∃ (q m' : Nat), q ≤ l.cells.length ∧ j = .int .i64 q ∧ n = .int .i64 m' ∧ m' ≤ 562949953421312 ∧ Hid (m + (l.cells.length + l.lists.length) ≤ m' ∧ (m' ≤ 20000 → ∀ c ∈ l.cells.take q, c.href.length ≤ 160007)) ∧ Below w.heap.size w wi) (fun _ j _ => l.cells.length - (intOf j).toNat)
    case atStart => exact ⟨0, m + (l.cells.length + l.lists.length), Nat.zero_le _, rfl, by go_num, by omega, Lib.hid ⟨Nat.le_refl _, fun _ c h => by cases h⟩, drewN_below hb⟩
    case round =>
     obtain ⟨q, m', hq, rfl, rfl, hm3, HQ, hb2⟩ := hrel
     obtain ⟨hzb, c0, c1, c2, c3, _, _⟩ := HA2.out.below hb2
     have hcs : (q < l.cells.length ∧ m' ≤ 20000) ∨ 20000 < m' ∨ (q = l.cells.length ∧ m' ≤ 20000) := by omega
     rcases hcs with ⟨h1, h2⟩ | h2 | ⟨h1, h2⟩
     ·obtain ⟨x, hx, _⟩ := getOf l.cells q h1
      obtain ⟨bc, oc, rfl, hz, k0, k1, k2⟩ := HCX.out q x hx
      have k2 := (hb2.cell (p := ⟨bc, oc + q * 3 + 2, none⟩) hz).trans k2
      have hxl := HS3.out x (List.mem_of_getElem? hx)
      have HN : Hid (m + (l.cells.length + l.lists.length) ≤ m' + x.href.length / 8 ∧ (m' + x.href.length / 8 ≤ 20000 → ∀ c ∈ l.cells.take (q + 1), c.href.length ≤ 160007)) := Lib.hid ⟨by have := HQ.out.1; omega, fun h c hc => by
       rw [take_some hx, List.mem_append] at hc
       rcases hc with hc | hc
       ·exact HQ.out.2 (by omega) c hc
       ·rw [List.mem_singleton] at hc; subst hc; omega⟩
      clear hx
      go_wp2_with fail
      go_roundw
      case rel => exact ⟨q + 1, m' + x.href.length / 8, h1, by go_num, by go_num, by omega, HN, hb2⟩
      case measure => simp [intOf]; omega
     ·by_cases h1 : q < l.cells.length
      all_goals
       go_wp2_with fail
       go_ret
       exact ⟨true, rfl, (fun h => by cases h), hb2⟩
     ·subst h1
      have HN : Hid (sizeD (d.take (k + 1)) ≤ m' ∧ ∀ l ∈ d.take (k + 1), l.lists.length ≤ 20000 ∧ ∀ c ∈ l.cells, c.href.length ≤ 160007) := Lib.hid (by
       have h3 := HQ.out.1
       have h4 := sizeD_step HT.out
       have h5 := HA.out.1
       refine ⟨by omega, fun x hx => ?_⟩
       rw [take_some HT.out, List.mem_append] at hx
       rcases hx with hx | hx
       ·exact HA.out.2 x hx
       ·rw [List.mem_singleton] at hx
        subst hx
        exact ⟨by omega, fun c hc => HQ.out.2 h2 c (by rw [List.take_length]; exact hc)⟩)
      go_wp2_with fail
      go_roundw
      case rel => exact ⟨k + 1, m', hlt, by go_num, rfl, h2, HN, hb2⟩
      case measure => simp [intOf]; omega
   ·obtain rfl : k = d.length := by omega
    have HF : Hid (Sml d) := Lib.hid (by
     have h1 := HA.out
     rw [List.take_length] at h1
     exact ⟨by omega, by omega, h1.2⟩)
    have HB := Lib.hid hb
    clear hb
    go_wp2_with fail
    go_ret
    exact ⟨false, rfl, fun _ => HF.out, HB.out⟩
end Go.Proofs.YtpndnbjpnajaaaaGreatDoor
namespace Go.Proofs.YtpndnbjpnajaaaaGreatDoor
open Go.ChangeShapes Go.WideShapes Go.ChangeAt Go.RowKit
theorem own : ownKnob Tryz.prog.godebug = none := by kernel_rfl
def numOf : DataW Unit → List Value
 | .lit (.int k n) => [.int k n]
 | .agg l => l.flatMap fun
  | .lit (.int k n) => [.int k n]
  | .agg m => m.flatMap fun
   | .lit (.int k n) => [.int k n]
   | _ => []
  | _ => []
 | _ => []
def putAt (w : World) (g : Nat) (cs : List Value) : World := { w with heap := w.heap.modify g fun
   | .cells _ t frozen => .cells cs.toArray t frozen
   | o => o }
noncomputable def laidWorld (os : Os) : World :=
 putAt (putAt (World.holding Tryz.prog os ⟨#[], #[], []⟩) 0 (numOf Rows.laid_unicode_utf8_first)) 1 (numOf Rows.laid_unicode_utf8_acceptRanges)
end Go.Proofs.YtpndnbjpnajaaaaGreatDoor
namespace Go.Proofs.Qw
open Go.RowKit Go.Proofs.YtpndnbjpnajaaaaGreatDoor Go.Deep
section
variable {H : Type} {enc : TypeId × Value → H} {P : Program} {w : World} {base : Nat} {held : Bool}
theorem open_row {α : Type} [Inhabited α] {t e t0 : TypeId} {k fuel : Nat} {R : Rd α} {cs : List Value} {x : DataW H × List MemPlace} (Q : DataW H → α → Prop) (ht : P.underlying t = some (.slice e)) (hk : P.cellsOf e = k) (hk0 : 0 < k)
  (h : DataW.trod enc P w base (fun _ => true) held fuel t cs = some x)
  (hR : ∀ n cs y, DataW.trod enc P w base (fun _ => true) held n e cs = some y → ∃ x, R w (fun _ => True) cs x ∧ Q y.1 x) :
  ∃ (v : Value) (xs : List α), cs = [v] ∧ SliceR t0 k R false w (fun _ => True) v xs ∧ ((x.1 = .nil ∧ xs = []) ∨ ∃ (elems spare : List (DataW H)), x.1 = .slice elems spare ∧ elems.length = xs.length ∧ ∀ (i : Nat) (a : α), xs[i]? = some a → ∃ d, elems[i]? = some d ∧ Q d a) := by
 rcases open_slice ht h with ⟨rfl, rfl⟩ | ⟨a, len, cap, m, n, D, Pl, rfl, hb, hl, hm, hmm, rfl, hx⟩
 ·exact ⟨_, [], rfl, SliceR.nil _ _ _ _ _ _, .inl ⟨rfl, rfl⟩⟩
 simp only [if_pos] at hmm
 subst hmm
 have hx2 : ∀ i, i < len → ∃ y : α, ∃ cs', (w.cells? base (a.add (i * P.cellsOf e)) (P.cellsOf e) = some cs' ∧ R w (fun _ => True) cs' y) ∧ Q (D i) y := fun i hi => by
  obtain ⟨cs', h1, h2⟩ := hx i (by omega)
  obtain ⟨y, g1, g2⟩ := hR _ _ _ h2
  exact ⟨y, cs', ⟨h1, g1⟩, g2⟩
 obtain ⟨Y, hY⟩ := choose_lt hx2
 refine ⟨_, (List.range len).map Y, rfl, ?_, .inr ⟨_, _, rfl, by simp, fun i y hi => ?_⟩⟩
 ·by_cases h0 : len = 0
  ·subst h0
   exact ⟨some a, m, rfl, by simp, hm, .inl ⟨rfl, fun h => by cases h⟩⟩
  obtain ⟨c0, ⟨g1, _⟩, _⟩ := hY 0 (by omega)
  have gs := World.cells?_some g1
  obtain ⟨b, off, spot⟩ := a
  have hc0 : c0.length = k := by rw [gs.2.1, hk]
  have g3 := gs.2.2 0 (by omega)
  have hspot : spot = none := by
   rw [List.getElem?_eq_getElem (by omega)] at g3
   simpa [Addr.add] using World.cell?_spot g3
  subst hspot
  have hlt : b < w.heap.size := by
   have := World.cells?_block g1 (by omega)
   simpa [Addr.add] using this
  refine ⟨_, m, by simp, by simp; omega, hm, .inr ⟨b, off, rfl, trivial, hlt, (fun h => by cases h), fun i y hi => ?_⟩⟩
  have hil : i < len := by have := (List.getElem?_eq_some_iff.1 hi).1; simpa using this
  have hy : y = Y i := by simp [hil] at hi; exact hi.symm
  subst hy
  obtain ⟨cs', ⟨q1, q2⟩, _⟩ := hY i hil
  have qs := World.cells?_some q1
  refine ⟨cs', by rw [qs.2.1, hk], q2, fun j u hu => ?_⟩
  have hj := (List.getElem?_eq_some_iff.1 hu).1
  have := qs.2.2 j (by rw [← qs.2.1]; exact hj)
  rw [hu, hk, WideShapes.add_plain, WideShapes.add_plain] at this
  rwa [Nat.add_assoc] at this ⊢
 ·have hil : i < len := by have := (List.getElem?_eq_some_iff.1 hi).1; simpa using this
  have hy : y = Y i := by simp [hil] at hi; exact hi.symm
  subst hy
  obtain ⟨cs', _, q⟩ := hY i hil
  exact ⟨D i, by simp [hil], q⟩
theorem weightsAll_mem {e : TypeId} {d : DataW H} {n : Nat} (hn : n ∈ d.weights P e) : ∀ {l : List (DataW H)}, d ∈ l → n ∈ DataW.weightsAll P e l
 | x :: r, h => by
  rw [DataW.weightsAll, List.mem_append]
  rcases List.mem_cons.1 h with rfl | h
  ·exact .inl hn
  ·exact .inr (weightsAll_mem hn h)
end
section
variable {H : Type} {enc : TypeId × Value → H} {w : World} {base : Nat} {held : Bool} {sp : Nat → Bool}
theorem str_back (s : ByteArray) : (⟨s.data.toList.toArray⟩ : ByteArray) = s := by simp
def CelD (d : DataW H) (c : Cel) : Prop := d = .agg [.lit (.int .i32 c.r), .lit (.int .i64 c.bits), .lit (.string c.href)]
set_option maxRecDepth 100000 in
theorem open_cel {n : Nat} {cs : List Value} {y : DataW H × List MemPlace} (h : DataW.trod enc Tryz.prog w base sp held n 44 cs = some y) : ∃ c : Cel, rdOf encCel w (fun _ => True) cs c ∧ CelD y.1 c := by
 obtain ⟨xs, m, _, rfl, hl, hxs, hf⟩ := DataW.trod_struct Tryz.underlying44 h
 have h0 := hf 0 _ rfl
 have h1 := hf 1 _ rfl
 have h2 := hf 2 _ rfl
 rw [show Tryz.prog.cellsOf 44 = 3 by kernel_rfl] at hl
 match cs, hl with
 | [a, b, c], _ =>
  match xs, hxs with
  | [x0, x1, x2], _ =>
   obtain ⟨r, e0, rfl, _⟩ := DataW.trod_int Tryz.underlying21 h0
   obtain ⟨bt, e1, rfl, _⟩ := DataW.trod_int Tryz.underlying3 h1
   obtain ⟨s, e2, rfl, _⟩ := DataW.trod_string Tryz.underlying9 h2
   have e0 : [a] = [Value.int .i32 r] := e0
   have e1 : [b] = [Value.int .i64 bt] := e1
   have e2 : [c] = [Value.string s] := e2
   cases e0
   cases e1
   cases e2
   exact ⟨⟨r, bt, s.data.toList⟩, by show _ = encCel _; unfold encCel; rw [str_back], rfl⟩
def LinD (P : Program) (t : TypeId) (d : DataW H) (l : Lin) : Prop := (∀ n ∈ d.weights P t, n ≤ reachBytes) → l.lists.length ≤ 70368744177664 ∧ l.cells.length ≤ 70368744177664 ∧ ∀ c ∈ l.cells, c.href.length ≤ 281474976710656
set_option maxRecDepth 100000 in
theorem open_lin {n : Nat} {cs : List Value} {y : DataW H × List MemPlace} (h : DataW.trod enc Tryz.prog w base (fun _ => true) held n 42 cs = some y) : ∃ l : Lin, rdLin false w (fun _ => True) cs l ∧ LinD Tryz.prog 42 y.1 l := by
 obtain ⟨xs, m, _, rfl, hl, hxs, hf⟩ := DataW.trod_struct Tryz.underlying42 h
 have h0 := hf 0 _ rfl
 have h1 := hf 1 _ rfl
 have h2 := hf 2 _ rfl
 have h3 := hf 3 _ rfl
 rw [show Tryz.prog.cellsOf 42 = 4 by kernel_rfl] at hl
 match cs, hl with
 | [a, b, c, d], _ =>
  match xs, hxs with
  | [x0, x1, x2, x3], _ =>
   obtain ⟨q, e0, rfl, _⟩ := DataW.trod_int Tryz.underlying3 h0
   obtain ⟨k, e2, rfl, _⟩ := DataW.trod_int Tryz.underlying3 h2
   obtain ⟨lv, ls, e1, hls, hlw⟩ := open_row (t0 := 3) (k := 1) (R := rdOf encInt) (fun _ _ => True) Tryz.underlying39 (by kernel_rfl) Nat.one_pos h1 (fun n cs y h => by
    obtain ⟨z, rfl, _, _⟩ := DataW.trod_int Tryz.underlying3 h
    exact ⟨z, rfl, trivial⟩)
   obtain ⟨cv, cc, e3, hcs, hcw⟩ := open_row (t0 := 44) (k := 3) (R := rdOf encCel) CelD Tryz.underlying40 (by kernel_rfl) (by decide) h3 (fun n cs y h => open_cel h)
   have e0 : [a] = [Value.int .i64 q] := e0
   have e1 : [b] = [lv] := e1
   have e2 : [c] = [Value.int .i64 k] := e2
   have e3 : [d] = [cv] := e3
   cases e0
   cases e1
   cases e2
   cases e3
   refine ⟨⟨q, ls, k, cc⟩, ⟨_, _, rfl, hls, hcs⟩, fun hw => ?_⟩
   have hw1 : ∀ n ∈ x1.1.weights Tryz.prog 39, n ≤ reachBytes := fun n hn => hw n (by
    simp only [List.map_cons, List.map_nil, DataW.weights, Tryz.underlying42, DataW.weightsEach, List.mem_append]
    simp [hn])
   have hw3 : ∀ n ∈ x3.1.weights Tryz.prog 40, n ≤ reachBytes := fun n hn => hw n (by
    simp only [List.map_cons, List.map_nil, DataW.weights, Tryz.underlying42, DataW.weightsEach, List.mem_append]
    simp [hn])
   clear hw
   refine ⟨?_, ?_, ?_⟩
   ·rcases hlw with ⟨_, rfl⟩ | ⟨el, spr, hd, hl, _⟩
    ·simp
    ·rw [hd] at hw1
     have := hw1 ((el.length + spr.length) * Tryz.prog.bytesOf 3) (by rw [DataW.weights, Tryz.underlying39]; exact List.mem_cons_self)
     rw [show Tryz.prog.bytesOf 3 = 8 by kernel_rfl] at this
     unfold reachBytes at this
     show ls.length ≤ _
     omega
   ·rcases hcw with ⟨_, rfl⟩ | ⟨el, spr, hd, hl, _⟩
    ·simp
    ·rw [hd] at hw3
     have := hw3 ((el.length + spr.length) * Tryz.prog.bytesOf 44) (by rw [DataW.weights, Tryz.underlying40]; exact List.mem_cons_self)
     rw [show Tryz.prog.bytesOf 44 = 32 by kernel_rfl] at this
     unfold reachBytes at this
     show cc.length ≤ _
     omega
   ·intro c hc
    rcases hcw with ⟨_, rfl⟩ | ⟨el, spr, hd, hl, hel⟩
    ·cases hc
    ·rw [hd] at hw3
     obtain ⟨i, hi⟩ := List.getElem?_of_mem hc
     obtain ⟨dd, g1, g2⟩ := hel i c hi
     have := hw3 c.href.length (by
      rw [DataW.weights, Tryz.underlying40]
      refine List.mem_cons_of_mem _ (List.mem_append_left _ (weightsAll_mem (d := dd) ?_ (List.mem_of_getElem? g1)))
      rw [show dd = _ from g2]
      simp [DataW.weights, Tryz.underlying44, DataW.weightsEach])
     unfold reachBytes at this
     omega
end
end Go.Proofs.Qw
namespace Go.Proofs.YtpndnbjpnajaaaaGreatDoor
open Go.ChangeShapes Go.WideShapes Go.ChangeAt Go.RowKit
open Go.Proofs.Qw
def u8Ren : Shelf.Ren := { f := fun x => x, t := fun n => if n = 5 then 5 else if n = 119 then 193 else if n = 138 then 195 else 196, g := fun n => if n = 3 then 0 else 1 }
theorem u8First : (Rows.laid_unicode_utf8_first : DataW Unit) = Go.Lib.firstData := by kernel_rfl
theorem u8Accept : (Rows.laid_unicode_utf8_acceptRanges : DataW Unit) = Go.Lib.acceptData := by kernel_rfl
theorem tabs_of {W : World} (hL : laidMetH Tryz.prog [("unicode/utf8.acceptRanges", Rows.laid_unicode_utf8_acceptRanges), ("unicode/utf8.first", Rows.laid_unicode_utf8_first)] W) : Lib.Utf8Tabs 0 1 W :=
 utf8Tabs_of_readsT (ρ := u8Ren) ⟨by kernel_rfl, by kernel_rfl, by kernel_rfl, by kernel_rfl⟩ ⟨by kernel_rfl, by kernel_rfl, by kernel_rfl, by kernel_rfl, by kernel_rfl, by kernel_rfl, by kernel_rfl⟩
  (u8First ▸ Lib.laidMet.reads hL (.tail _ (.head _))) (u8Accept ▸ Lib.laidMet.reads hL (.head _))
theorem post_old {H : Type} {enc : TypeId × Value → H} {P : Program} {f : Func} {s : ChangeSpec} {apart fresh handsOn : Bool} {W W' : World} {args : Array Value} {v : Value} {ds gs : List (DataW H)} {before pa pv : List MemPlace}
  (hW : DataW.Whole enc P f.params.toList s.vars apart W args.toList ds gs before)
  (hres : ∀ (b : Nat) (sp : Nat → Bool) (hd : Bool), DataW.TrodAll enc P W' b sp hd f.resultTypes.toList (v.resultList f.resultTypes.size) (s.fn H (ds ++ gs)).results [])
  (hargs : DataW.TrodAll enc P W' 0 (fun b => decide (b < W.heap.size)) true f.params.toList args.toList (s.fn H (ds ++ gs)).args pa)
  (hvars : ∀ sp : Nat → Bool, (∀ p ∈ before, sp p.block = true) → DataW.TrodVars enc P W' sp s.vars (s.fn H (ds ++ gs)).vars pv)
  (hb : Below W.heap.size W W') : s.post enc P f apart fresh handsOn false W args v W' :=
 ⟨ds, gs, before, [], pa, pv, hW, hres _ _ _, hargs, hvars _ (fun p hp => by simpa using hW.lt p hp), hb.frame _, fun h => by cases h⟩
theorem laidOut : laidOutB Tryz.prog = true := by kernel_rfl
end Go.Proofs.YtpndnbjpnajaaaaGreatDoor
namespace Go.Proofs.YtpndnbjpnajaaaaGreatDoor
open Go.RowKit
open Go.Proofs.Qw
theorem zeroCell : (Tryz.prog.info? 44).bind (·.zero) = some (.agg #[.int .i32 0, .int .i64 0, .string ⟨#[]⟩]) := by kernel_rfl
set_option maxRecDepth 100000 in
set_option maxHeartbeats 2000000 in
theorem growCell_any (m : Nat) (w : World) (hm : m ≤ 10000000) :
  Calls Tryz.prog 236 #[.slice none 0 0, .int .i64 m] w fun e w' => ∃ v', e = .returned v' ∧ CelsR true w' (fun b => w.heap.size ≤ b) v' [] ∧ Below w.heap.size w w' := by
 go_enter Tryz.func236, Tryz.ntmps236
 rcases Nat.eq_zero_or_pos m with hz | hz
 ·subst hz
  go_wp2_with fail
  go_ret
  exact ⟨_, rfl, SliceR.nil _ _ _ _ _ _, Below.refl _ _⟩
 ·obtain ⟨cap, W2, hr, h2, hB2⟩ := append_zeros_R (ty := 40) (kq := .i64) (w := w) (n := w.heap.size) rowCell Tryz.underlying3 zeroCell eltCell (SliceR.nil _ _ _ _ _ _) (Nat.le_refl _) (fun _ => rfl) (x0 := ⟨0, 0, []⟩) hz (by omega) (by simp; omega)
  have HR := Lib.hid hr
  have h3 := SliceR.take h2 (i := 0) (Nat.zero_le _)
  have H3 := Lib.hid h3
  have HB := Lib.hid hB2
  clear hr h2 hB2 h3
  go_wp2_with (at_builtin; refine Lib.wpList_append_run _ rfl _ _ _ _ rfl _ _ rfl rfl _ _ HR.out ?_)
  go_ret
  exact ⟨_, rfl, H3.out, HB.out⟩
def lens (xss : List (List Cel)) : Nat := (xss.map List.length).sum
theorem lens_step {xss : List (List Cel)} {k : Nat} {xs : List Cel} (h : xss[k]? = some xs) : lens (xss.take (k + 1)) = lens (xss.take k) + xs.length := by
 unfold lens
 rw [take_some h]
 simp
theorem lens_le (xss : List (List Cel)) (k : Nat) : lens (xss.take k) ≤ lens xss := by
 conv => rhs; rw [← List.take_append_drop k xss]
 unfold lens
 rw [List.map_append, List.sum_append]
 omega
theorem lens_flat (xss : List (List Cel)) : xss.flatten.length = lens xss := by unfold lens; rw [List.length_flatten]
theorem flat_step {xss : List (List Cel)} {k : Nat} {xs : List Cel} (h : xss[k]? = some xs) : (xss.take (k + 1)).flatten = (xss.take k).flatten ++ xs := by
 rw [take_some h, List.flatten_append]
 simp
set_option maxRecDepth 100000 in
set_option maxHeartbeats 4000000 in
theorem concatCell_any (g m : Nat) (cs : Array Value) (xss : List (List Cel)) (w : World) (S : Nat → Prop) (hg : w.heap[g]? = some (.cells cs 40)) (hx : ∀ (k : Nat) xs, xss[k]? = some xs → ∃ v, cs[k]? = some v ∧ CelsR false w S v xs)
  (hl : lens xss ≤ 4000000) (hm : xss.length ≤ 1000000) (hmm : m = xss.length) :
  Calls Tryz.prog 193 #[.slice (some ⟨g, 0, none⟩) m m] w fun e w' => ∃ v', e = .returned v' ∧ CelsR true w' (fun b => w.heap.size ≤ b) v' xss.flatten ∧ Below w.heap.size w w' := by
 subst hmm
 have hgz := (Array.getElem?_eq_some_iff.1 hg).1
 have HG := Lib.hid hg
 have HX := Lib.hid hx
 have HC : Hid (∀ W, Below w.heap.size w W → Calls Tryz.prog 236 #[.slice none 0 0, .int .i64 (lens xss : Nat)] W fun e w' => ∃ v', e = .returned v' ∧ CelsR true w' (fun b => W.heap.size ≤ b) v' [] ∧ Below W.heap.size W w') := Lib.hid fun W _ => growCell_any (lens xss) W (by omega)
 clear hg hx
 go_enter Tryz.func193, Tryz.ntmps193
 go_wp2_with fail
 go_loopw [3, 5, 11] (fun n _ i wr => ∃ k : Nat, k ≤ xss.length ∧ i = .int .i64 k ∧ n = .int .i64 (lens (xss.take k)) ∧ wr = w) (fun _ _ i _ => xss.length - (intOf i).toNat)
 case atStart => exact ⟨0, Nat.zero_le _, rfl, rfl, rfl⟩
 case round =>
  obtain ⟨k, hk, rfl, rfl, rfl⟩ := hrel
  obtain ⟨wo, rfl⟩ : ∃ wo : World, wo = wr := ⟨_, rfl⟩
  by_cases hlt : k < xss.length
  ·obtain ⟨xs, hxs, _⟩ := getOf xss k hlt
   obtain ⟨v, hv, hR⟩ := HX.out k xs hxs
   obtain ⟨sa, sc, rfl⟩ := hR.slice
   have c0 : wo.cell? ⟨g, k, none⟩ = some (.slice sa xs.length sc) := by rw [cell_of_heap HG.out]; exact hv
   have e1 := lens_step hxs
   have e2 := lens_le xss (k + 1)
   have HE := Lib.hid e1
   have hle : lens (xss.take k) + xs.length ≤ 4000000 := by omega
   have i0 : (0 : Int) ≤ (k : Int) := Int.natCast_nonneg _
   have i1 : (k : Int) < (xss.length : Int) := by omega
   clear hxs hv hR e1 e2
   go_wp2_with fail
   go_roundw
   case rel => exact ⟨k + 1, hlt, by go_num, by rw [HE.out]; go_num, by first | rfl | trivial⟩
   case measure => simp [intOf]; omega
  ·obtain rfl : k = xss.length := by omega
   have HT : Hid (xss.take xss.length = xss) := Lib.hid (List.take_length ..)
   rw [HT.out]
   go_wp2_with (go_at_call 236; refine (HC.out _ (Below.refl _ _)).mono ?_; rintro e w2 ⟨v2, rfl, hv2, hb2⟩)
   have HV2 := Lib.hid hv2
   clear hv2
   go_loopw [6, 8, 27] (fun out _ i wi => ∃ k : Nat, k ≤ xss.length ∧ i = .int .i64 k ∧ CelsR true wi (fun b => wo.heap.size ≤ b) out (xss.take k).flatten ∧ Below wo.heap.size wo wi) (fun _ _ i _ => xss.length - (intOf i).toNat)
   case atStart => exact ⟨0, Nat.zero_le _, rfl, HV2.out, hb2⟩
   case round =>
    clear hb2 HV2
    obtain ⟨q, hq, rfl, hO, hb⟩ := hrel
    have HO := Lib.hid hO
    clear hO
    by_cases hlt2 : q < xss.length
    ·obtain ⟨xs, hxs, _⟩ := getOf xss q hlt2
     obtain ⟨v, hv, hR⟩ := HX.out q xs hxs
     have HS := Lib.hid (SliceR.src_flat rowCell eltCell (SliceR.below (rdOf_stable _) hR hb))
     obtain ⟨sa, sc, rfl⟩ := hR.slice
     have c0 : wr.cell? ⟨g, q, none⟩ = some (.slice sa xs.length sc) := by rw [hb.cell (p := ⟨g, q, none⟩) hgz, cell_of_heap HG.out]; exact hv
     have HT := Lib.hid (flat_step hxs)
     have hfl : (xss.take q).flatten.length + xs.length ≤ 100000000 := by
      have h1 := lens_step hxs
      have h2 := lens_le xss (q + 1)
      rw [lens_flat]
      omega
     have HF := Lib.hid hfl
     have i0 : (0 : Int) ≤ (q : Int) := Int.natCast_nonneg _
     have i1 : (q : Int) < (xss.length : Int) := by omega
     have hbs := hb.size
     clear hxs hv hR hfl
     go_wp2_with (at_builtin; refine wpList_append_R _ rfl _ _ 40 40 rfl rowCell eltCell wo.heap.size _ _ (xs := (xss.take q).flatten) (ys := xs) (news := xs.flatMap encCel) rfl rfl HO.out hbs HS.out (flatCell _ _ _) HF.out ?_; intro v' w1 hR hB _ _; rw [← HT.out] at hR; have HR := Lib.hid hR; have HB := Lib.hid hB; clear hR hB)
     go_roundw
     case rel => exact ⟨q + 1, hlt2, by go_num, HR.out, hb.trans HB.out⟩
     case measure => simp [intOf]; omega
    ·obtain rfl : q = xss.length := by omega
     have HB := Lib.hid hb
     clear hb
     go_wp2_with fail
     go_ret
     exact ⟨_, rfl, Eq.mp (congrArg (fun x => CelsR true wr (fun b => wo.heap.size ≤ b) _ x.flatten) HT.out) HO.out, HB.out⟩
end Go.Proofs.YtpndnbjpnajaaaaGreatDoor
namespace Go.Proofs.Qw
open Go.RowKit
theorem wpList_copy_run {P : Program} (w : World) {ops : Array Oper} {rest : List Oper} {o : Oper} {a : Act} {Q : Exit → Act → World → Prop} (hgd : o.guard = none) (s x : Operand) (t tn : TypeId)
  (ho : o.op = .call { callee := .builtin .copy, args := #[s, x], argTypes := #[t, tn] }) (vs vx : Value) (hs : a.eval s = vs) (hx : a.eval x = vx)
  (v' : Value) (w' : World) (hr : (Builtin.copy_ #[t, tn] o.type #[vs, vx]).run P w = .ok v' w') (h : wpList P ops Q rest (a.put o.dst v') w') : wpList P ops Q (o :: rest) a w := by
 refine wpList_plain hgd fun K hK => ?_
 unfold Oper.wp execOp
 simp only [ho, resolve, invoke, builtin, Sem.run_bind, Sem.run_pure, Result.andThen_ok, List.map_toArray, List.map_cons, List.map_nil, hs, hx, hr]
 exact hK _ _ h
theorem wpList_clear_run {P : Program} (w : World) {ops : Array Oper} {rest : List Oper} {o : Oper} {a : Act} {Q : Exit → Act → World → Prop} (hgd : o.guard = none) (s : Operand) (t : TypeId)
  (ho : o.op = .call { callee := .builtin .clear, args := #[s], argTypes := #[t] }) (vs : Value) (hs : a.eval s = vs)
  (v' : Value) (w' : World) (hr : (Builtin.clear_ #[t] o.type #[vs]).run P w = .ok v' w') (h : wpList P ops Q rest (a.put o.dst v') w') : wpList P ops Q (o :: rest) a w := by
 refine wpList_plain hgd fun K hK => ?_
 unfold Oper.wp execOp
 simp only [ho, resolve, invoke, builtin, Sem.run_bind, Sem.run_pure, Result.andThen_ok, List.map_toArray, List.map_cons, List.map_nil, hs, hr]
 exact hK _ _ h
theorem step_copy_run {P : Program} {w : World} {ops : Array Oper} {o : Oper} {a : Act} {K : Act → World → Prop} {Q : Exit → Act → World → Prop} {E : Prop} (hgd : o.guard = none) (s x : Operand) (t tn : TypeId)
  (ho : o.op = .call { callee := .builtin .copy, args := #[s, x], argTypes := #[t, tn] }) (vs vx : Value) (hs : a.eval s = vs) (hx : a.eval x = vx)
  (v' : Value) (w' : World) (hr : (Builtin.copy_ #[t, tn] o.type #[vs, vx]).run P w = .ok v' w') (h : K (a.put o.dst v') w') : if Region.wanted o (yielded ops a.tmps) = true then Oper.wp P o a w K Q else E := by
 have hw : Region.wanted o (yielded ops a.tmps) = true := by simp [Region.wanted, hgd]
 rw [if_pos hw]
 unfold Oper.wp execOp
 simp only [ho, resolve, invoke, builtin, Sem.run_bind, Sem.run_pure, Result.andThen_ok, List.map_toArray, List.map_cons, List.map_nil, hs, hx, hr]
 exact h
theorem setAt {α : Type} {xs : List α} {i : Nat} {e : α} (h : i < xs.length) : xs.take i ++ [e] ++ xs.drop (i + 1) = xs.set i e := by
 rw [List.set_eq_take_append_cons_drop, if_pos h, List.append_assoc]; rfl
theorem drop_setAt {α : Type} {xs : List α} {i j : Nat} {e : α} (h : i < xs.length) (hij : i < j) : ((xs.take i ++ [e] ++ xs.drop (i + 1)).drop j).take (xs.length - j) = xs.drop j := by
 rw [setAt h]
 apply List.ext_getElem?
 intro q
 rw [List.getElem?_take, List.getElem?_drop, List.getElem?_drop, List.getElem?_set_ne (by omega)]
 split
 ·rfl
 ·rw [List.getElem?_eq_none (by omega)]
theorem take_three {α : Type} {xs ys zs : List α} {i : Nat} {e : α} (h : i < xs.length) {m : Nat} (hm : m = i + 1 + ys.length) : ((xs.take i ++ [e] ++ xs.drop (i + 1)).take (i + 1) ++ ys ++ zs).take m = xs.take i ++ [e] ++ ys := by
 have e1 : (xs.take i ++ [e] ++ xs.drop (i + 1)).take (i + 1) = xs.take i ++ [e] := by
  rw [List.take_left' (by simp; omega)]
 rw [e1, List.take_left' (by simp; omega)]
end Go.Proofs.Qw
namespace Go.Proofs.YtpndnbjpnajaaaaGreatDoor
open Go.RowKit
open Go.Proofs.Qw
attribute [local go_sem ↓] Go.wp_at_zero Go.wp_at_succ
set_option maxRecDepth 100000 in
set_option maxHeartbeats 4000000 in
theorem replace_mid (b o ln c vb vo vc : Nat) (xs : List Lin) (e : Lin) (i j n : Nat) (w : World) (h : DocR true w (fun b => n ≤ b) (.slice (some ⟨b, o, none⟩) ln c) xs) (hv : DocR true w (fun b => n ≤ b) (.slice (some ⟨vb, vo, none⟩) 1 vc) [e]) (_hne : vb ≠ b)
  (hij : i < j) (hj : j < xs.length) (hlen : xs.length ≤ 1000000) :
  Calls Tryz.prog 188 #[.slice (some ⟨b, o, none⟩) ln c, .int .i64 i, .int .i64 j, .slice (some ⟨vb, vo, none⟩) 1 vc] w fun e' w' => ∃ v', e' = .returned v' ∧ DocR true w' (fun b => n ≤ b) v' (xs.take i ++ [e] ++ xs.drop j) ∧ Below n w w' := by
 obtain ⟨rfl, hc, hm⟩ := SliceR.len h
 have hcc : c ≤ 9223372036854775807 := hm
 have H := Lib.hid (And.intro h hv)
 have q1 : ¬ c = i := by omega
 have q2 : ¬ c = i + 1 := by omega
 have q3 : ¬ c = j := by omega
 have t1 : ((i : Int) == (j : Int)) = false := beq_eq_false_iff_ne.2 (by omega)
 have t2 : ((j : Int) == (xs.length : Int)) = false := beq_eq_false_iff_ne.2 (by omega)
 clear h hv
 go_enter Tryz.func188, Tryz.ntmps188
 go_wp2_with fail
 go_quiet (fail)
 have hk1 : Below w.heap.size w (w.drewN nq) := drewN_below (Below.refl _ _)
 obtain ⟨W1, hW1⟩ : ∃ W1, w.drewN nq = W1 := ⟨_, rfl⟩
 rw [hW1] at hk1 ⊢
 have h1 := SliceR.below (rdLin_stable true) H.out.1 hk1
 have hv1 := SliceR.below (rdLin_stable true) H.out.2 hk1
 obtain ⟨news, hs1, hn1⟩ := SliceR.src rowLine eltLine.pos eltLine.ones hv1
 obtain ⟨W2, hr1, h2, hB2, hz2, ho2⟩ := copy_R (ty := 3) rowLine eltLine.tag (by decide) h1 (p := i) (q := i + 1 + (xs.length - j)) (ys := [e]) (by omega) (by show i + 1 ≤ _; omega) (by show i + 1 ≤ _; omega) (by omega) hs1 hn1
 have hbn : n ≤ b := by
  obtain ⟨b', o', cs, e, hb, _⟩ := SliceR.cellAt H.out.1 (i := 0) (by omega)
  cases e
  exact hb
 have h2d : DocR true W2.drew (fun b => n ≤ b) (.slice (some ⟨b, o, none⟩) xs.length c) (xs.take i ++ [e] ++ xs.drop (i + 1)) := SliceR.below (rdLin_stable true) h2 (Below.refl _ _).drew
 have hl2 : (xs.take i ++ [e] ++ xs.drop (i + 1)).length = xs.length := by simp; omega
 have hp3 := h2d.part (i := j) (j := xs.length) (m := c) (by omega) (by omega) hc (Nat.le_refl _)
 have e3 := drop_setAt (e := e) (show i < xs.length by omega) hij
 rw [e3] at hp3
 simp only [sliced, if_neg q3, Option.map_some, Addr.add_lit] at hp3
 obtain ⟨news2, hs2, hn2⟩ := SliceR.src rowLine eltLine.pos eltLine.ones hp3
 obtain ⟨W3, hr2, h3, hB3, hz3, ho3⟩ := copy_R (ty := 3) rowLine eltLine.tag (by decide) h2d (p := i + 1) (q := i + 1 + (xs.length - j)) (ys := xs.drop j) (by omega) (by simp; omega) (by simp) (by omega) hs2 hn2
 rw [show i + 1 + (xs.length - j) - (i + 1) = xs.length - j by omega] at hr2
 have HR1 := Lib.hid hr1
 have HR2 := Lib.hid hr2
 clear hr1 hr2
 go_wp2_with (refine wpList_copy_run _ rfl _ _ _ _ rfl _ _ rfl rfl _ _ HR1.out ?_)
 have w1 : IntKind.i64.wrap ((i : Int) + 1) = (i : Int) + 1 := IntWalk.i64_in _ (by omega)
 have w2 : (0 : Int) ≤ (i : Int) + 1 := by omega
 have w3 : ((i : Int) + 1).toNat = i + 1 := by omega
 have w4 : (i : Int) + 1 ≤ (i : Int) + 1 + ((xs.length - j : Nat) : Int) := by omega
 have w5 : (0 : Int) ≤ (j : Int) := by omega
 have w6 : (j : Int) ≤ (xs.length : Int) := by omega
 go_region_held3 (fun _ => True) (trivial) ((refine step_copy_run (by rfl) _ _ _ _ (by rfl) _ _ (by rfl) (by rfl) _ _ HR2.out ?_))
 clear w1
 have HW3 : Hid (Below n w W3) := Lib.hid ((((hk1.mono (by have := H.out.1; exact Nat.le_trans hbn (by
  obtain ⟨b', o', cs, e, hb, hg, _⟩ := SliceR.cellAt H.out.1 (i := 0) (by omega)
  cases e
  exact Nat.le_of_lt (Array.getElem?_eq_some_iff.1 hg).1))).trans (hB2 n hbn)).drew).trans (hB3 n hbn))
 have hl3 : i + 1 + (xs.drop j).length = i + 1 + (xs.length - j) := by simp
 rw [hl3] at h3
 have HT3 := Lib.hid (take_three (xs := xs) (ys := xs.drop j) (zs := (xs.take i ++ [e] ++ xs.drop (i + 1)).drop (i + 1 + (xs.length - j))) (e := e) (show i < xs.length by omega) (m := i + 1 + (xs.length - j)) (by simp))
 have HH3 := Lib.hid h3
 clear h1 hv1 h2 h2d hp3 h3 hB2 hB3 hz2 hz3 ho2 ho3 hs1 hn1 hs2 hn2 hl2 e3 hl3
 by_cases hT : i + 1 < j
 ·obtain ⟨W4, hr4, h4, hB4, _, _⟩ := clear_R (ty := 0) rowLine (z := .agg #[.int .i64 0, .slice none 0 0, .int .i64 0, .slice none 0 0]) (by kernel_rfl) (by intro u hu; simp [Value.cells] at hu; rcases hu with rfl | rfl | rfl | rfl <;> rfl) eltLine.tag (by decide) (x0 := ⟨0, [], 0, []⟩) ⟨_, _, rfl, SliceR.nil _ _ _ _ _ _, SliceR.nil _ _ _ _ _ _⟩ HH3.out (p := i + 1 + (xs.length - j)) (by omega)
  have q4 : ¬ c = i + 1 + (xs.length - j) := by omega
  have w7 : (i : Int) + 1 + ((xs.length - j : Nat) : Int) ≤ (xs.length : Int) := by omega
  have HR4 := Lib.hid hr4
  have H4 := Lib.hid (And.intro h4 (hB4 n hbn))
  clear hr4 h4 hB4
  go_wp2_with (refine wpList_clear_run _ rfl _ _ rfl _ rfl _ _ HR4.out ?_)
  go_ret
  refine ⟨_, rfl, ?_, HW3.out.trans H4.out.2⟩
  have h9 := SliceR.take H4.out.1 (i := i + 1 + (xs.length - j)) (by have := (SliceR.len HH3.out).1; rw [List.length_append, List.length_replicate, List.length_take]; omega)
  rw [List.take_left' (by have := (SliceR.len HH3.out).1; rw [List.length_take]; omega), HT3.out] at h9
  exact h9
 ·have hT2 : i + 1 + (xs.length - j) = xs.length := by omega
  have w7 : (i : Int) + 1 + ((xs.length - j : Nat) : Int) ≤ (xs.length : Int) := by omega
  have hn0 : xs.length - (i + 1 + (xs.length - j)) = 0 := by omega
  have h9 := SliceR.take HH3.out (i := i + 1 + (xs.length - j)) (by have := (SliceR.len HH3.out).1; omega)
  rw [HT3.out] at h9
  have H9 := Lib.hid h9
  have HR4 : Hid (∀ a, (Builtin.clear_ #[22] 0 #[.slice (some a) (xs.length - (i + 1 + (xs.length - j))) (c - (i + 1 + (xs.length - j)))]).run Tryz.prog W3 = .ok (.tuple #[]) W3) := Lib.hid fun a => by rw [hn0]; exact run_clear_zero Tryz.underlying22 a _ W3
  clear h9 hn0 hT2
  rcases Decidable.em (c = i + 1 + (xs.length - j)) with rfl | q4
  all_goals
   go_wp2_with (refine wpList_clear_run _ rfl _ _ rfl _ rfl _ _ (HR4.out _) ?_)
   go_ret
   exact ⟨_, rfl, H9.out, HW3.out⟩
end Go.Proofs.YtpndnbjpnajaaaaGreatDoor
namespace Go.Proofs.YtpndnbjpnajaaaaGreatDoor
open Go.RowKit
open Go.Proofs.Qw
attribute [local go_sem ↓] Go.wp_at_zero Go.wp_at_succ
set_option maxRecDepth 100000 in
set_option maxHeartbeats 4000000 in
theorem replace_end (b o ln c vb vo vc : Nat) (xs : List Lin) (e : Lin) (i n : Nat) (w : World) (h : DocR true w (fun b => n ≤ b) (.slice (some ⟨b, o, none⟩) ln c) xs) (hv : DocR true w (fun b => n ≤ b) (.slice (some ⟨vb, vo, none⟩) 1 vc) [e]) (_hne : vb ≠ b)
  (hij : i < xs.length) (hlen : xs.length ≤ 1000000) :
  Calls Tryz.prog 188 #[.slice (some ⟨b, o, none⟩) ln c, .int .i64 i, .int .i64 xs.length, .slice (some ⟨vb, vo, none⟩) 1 vc] w fun e' w' => ∃ v', e' = .returned v' ∧ DocR true w' (fun b => n ≤ b) v' (xs.take i ++ [e]) ∧ Below n w w' := by
 obtain ⟨rfl, hc, hm⟩ := SliceR.len h
 have hcc : c ≤ 9223372036854775807 := hm
 have hbn : n ≤ b := by
  obtain ⟨b', o', cs, e, hb, _⟩ := SliceR.cellAt h (i := 0) (by omega)
  cases e
  exact hb
 obtain ⟨news, hs1, hn1⟩ := SliceR.src rowLine eltLine.pos eltLine.ones hv
 obtain ⟨W2, hr1, h2, hB2, hz2, ho2⟩ := append_in_R (ty := 22) rowLine eltLine.tag (by decide) h (p := i) (ys := [e]) (by show i + 1 ≤ _; omega) (by omega) hs1 hn1
 have HR1 := Lib.hid hr1
 have H2 := Lib.hid (And.intro h2 (hB2 n hbn))
 have t1 : ((i : Int) == (xs.length : Int)) = false := beq_eq_false_iff_ne.2 (by omega)
 have q1 : ¬ c = i := by omega
 have e1 : (xs.take i ++ [e] ++ xs.drop (i + [e].length)).take (i + 1) = xs.take i ++ [e] := List.take_left' (by simp; omega)
 have HE := Lib.hid e1
 clear h hv hs1 hn1 hr1 h2 hB2 hz2 ho2 e1
 go_enter Tryz.func188, Tryz.ntmps188
 by_cases hT : i + 1 < xs.length
 ·obtain ⟨W4, hr4, h4, hB4, _, _⟩ := clear_R (ty := 0) rowLine (z := .agg #[.int .i64 0, .slice none 0 0, .int .i64 0, .slice none 0 0]) (by kernel_rfl) (by intro u hu; simp [Value.cells] at hu; rcases hu with rfl | rfl | rfl | rfl <;> rfl) eltLine.tag (by decide) (x0 := ⟨0, [], 0, []⟩) ⟨_, _, rfl, SliceR.nil _ _ _ _ _ _, SliceR.nil _ _ _ _ _ _⟩ H2.out.1 (p := i + 1) (by omega)
  have q4 : ¬ c = i + 1 := by omega
  have HR4 := Lib.hid hr4
  have H4 := Lib.hid (And.intro h4 (hB4 n hbn))
  clear hr4 h4 hB4
  go_wp2_with (first | (at_builtin; refine Lib.wpList_append_run _ rfl _ _ _ _ rfl _ _ rfl rfl _ _ HR1.out ?_) | (refine wpList_clear_run _ rfl _ _ rfl _ rfl _ _ HR4.out ?_))
  go_ret
  refine ⟨_, rfl, ?_, H2.out.2.trans H4.out.2⟩
  have h9 := SliceR.take H4.out.1 (i := i + 1) (by rw [List.length_append, List.length_replicate, List.length_take]; have := (SliceR.len H2.out.1).1; omega)
  rw [List.take_left' (by rw [List.length_take]; have := (SliceR.len H2.out.1).1; omega), HE.out] at h9
  exact h9
 ·have t3 : ¬ ((i : Int) + 1 < (xs.length : Int)) := by omega
  go_wp2_with (at_builtin; refine Lib.wpList_append_run _ rfl _ _ _ _ rfl _ _ rfl rfl _ _ HR1.out ?_)
  go_ret
  refine ⟨_, rfl, ?_, H2.out.2⟩
  have h9 := SliceR.take H2.out.1 (i := i + 1) (by have := (SliceR.len H2.out.1).1; omega)
  rw [HE.out] at h9
  exact h9
end Go.Proofs.YtpndnbjpnajaaaaGreatDoor
namespace Go.Proofs.YtpndnbjpnajaaaaGreatDoor
open Go.RowKit
open Go.Proofs.Qw
attribute [local go_sem ↓] Go.wp_at_zero Go.wp_at_succ
set_option maxRecDepth 100000 in
set_option maxHeartbeats 4000000 in
theorem replace_two_end (b o ln c vb vo vc : Nat) (xs : List Lin) (e1 e2 : Lin) (i n : Nat) (w : World) (h : DocR true w (fun b => n ≤ b) (.slice (some ⟨b, o, none⟩) ln c) xs) (hv : DocR true w (fun b => n ≤ b) (.slice (some ⟨vb, vo, none⟩) 2 vc) [e1, e2])
  (hn : n ≤ w.heap.size) (hij : i + 1 = xs.length) (hlen : xs.length ≤ 1000000) :
  Calls Tryz.prog 188 #[.slice (some ⟨b, o, none⟩) ln c, .int .i64 i, .int .i64 xs.length, .slice (some ⟨vb, vo, none⟩) 2 vc] w fun e' w' => ∃ v', e' = .returned v' ∧ DocR true w' (fun b => n ≤ b) v' (xs.take i ++ [e1, e2]) ∧ Below n w w' ∧ ∀ k : Nat, k < w.heap.size → k ≠ b → w'.heap[k]? = w.heap[k]? := by
 obtain ⟨rfl, hc, hm⟩ := SliceR.len h
 have hcc : c ≤ 9223372036854775807 := hm
 obtain ⟨news, hs1, hn1⟩ := SliceR.src rowLine eltLine.pos eltLine.ones hv
 have ht := SliceR.take h (i := i) (by omega)
 obtain ⟨v', W2, hr1, h2, hB2, hgr, _⟩ := append_R (ty := 22) rowLine eltLine ht hn hs1 hn1 (by rw [List.length_take]; show _ + 2 ≤ _; omega)
 obtain ⟨a2, n2, c2, rfl, hn2⟩ : ∃ a2 n2 c2, v' = .slice a2 n2 c2 ∧ n2 = i + 2 := by
  obtain ⟨a2, c2, e⟩ := h2.slice
  exact ⟨a2, _, c2, e, by rw [List.length_append, List.length_take]; show _ + 2 = _; omega⟩
 have HR1 := Lib.hid hr1
 have hfr : ∀ k : Nat, k < w.heap.size → k ≠ b → W2.heap[k]? = w.heap[k]? := fun k hk hne => hgr.block k hk (fun e => hne (by cases e; rfl))
 have H2 := Lib.hid (And.intro h2 (And.intro hB2 hfr))
 have t1 : ((i : Int) == (xs.length : Int)) = false := beq_eq_false_iff_ne.2 (by omega)
 have t3 : ¬ ((n2 : Int) < (xs.length : Int)) := by omega
 have q1 : ¬ c = i := by omega
 clear h hv hs1 hn1 hr1 h2 hB2 ht hn2 hgr hfr
 go_enter Tryz.func188, Tryz.ntmps188
 go_wp2_with (at_builtin; refine Lib.wpList_append_run _ rfl _ _ _ _ rfl _ _ rfl rfl _ _ HR1.out ?_)
 go_ret
 exact ⟨_, rfl, H2.out.1, H2.out.2.1, H2.out.2.2⟩
theorem zeroLine : (Tryz.prog.info? 42).bind (·.zero) = some (.agg #[.int .i64 0, .slice none 0 0, .int .i64 0, .slice none 0 0]) := by kernel_rfl
theorem zeroLineR (w : World) (S : Nat → Prop) : rdLin true w S (Value.agg #[.int .i64 0, .slice none 0 0, .int .i64 0, .slice none 0 0]).cells.toList ⟨0, [], 0, []⟩ := ⟨_, _, rfl, SliceR.nil _ _ _ _ _ _, SliceR.nil _ _ _ _ _ _⟩
set_option maxRecDepth 100000 in
set_option maxHeartbeats 4000000 in
theorem replace_two_grow (b o ln c vb vo vc : Nat) (xs : List Lin) (e1 e2 : Lin) (i n : Nat) (w : World) (h : DocR true w (fun b => n ≤ b) (.slice (some ⟨b, o, none⟩) ln c) xs) (hv : DocR true w (fun b => n ≤ b) (.slice (some ⟨vb, vo, none⟩) 2 vc) [e1, e2])
  (hn : n ≤ w.heap.size) (hij : i + 1 < xs.length) (hlen : xs.length ≤ 1000000) (hcap : c < xs.length + 1) :
  Calls Tryz.prog 188 #[.slice (some ⟨b, o, none⟩) ln c, .int .i64 i, .int .i64 ((i + 1 : Nat) : Int), .slice (some ⟨vb, vo, none⟩) 2 vc] w fun e' w' => ∃ v', e' = .returned v' ∧ DocR true w' (fun b => n ≤ b) v' (xs.take i ++ [e1, e2] ++ xs.drop (i + 1)) ∧ Below n w w' ∧ ∀ k : Nat, k < w.heap.size → k ≠ b → w'.heap[k]? = w.heap[k]? := by
 obtain ⟨rfl, hc, hm⟩ := SliceR.len h
 have hcc : c ≤ 9223372036854775807 := hm
 have hcl : c = xs.length := by omega
 subst hcl
 have H := Lib.hid (And.intro h hv)
 have t1 : ((i : Int) == (i : Int) + 1) = false := beq_eq_false_iff_ne.2 (by omega)
 have t2 : ((i : Int) + 1 == (xs.length : Int)) = false := beq_eq_false_iff_ne.2 (by omega)
 have q1 : ¬ xs.length = i := by omega
 have q3 : ¬ xs.length = i + 1 := by omega
 have t5 : (xs.length : Int) < (i : Int) + 2 + ((xs.length - (i + 1) : Nat) : Int) := by omega
 clear h hv
 go_enter Tryz.func188, Tryz.ntmps188
 go_wp2_with fail
 go_quiet (fail)
 have hk1 : Below w.heap.size w (w.drewN nq) := drewN_below (Below.refl _ _)
 obtain ⟨W1, hW1⟩ : ∃ W1, w.drewN nq = W1 := ⟨_, rfl⟩
 rw [hW1] at hk1 ⊢
 have h1 := SliceR.below (rdLin_stable true) H.out.1 hk1
 have ht := SliceR.take h1 (i := i) (by omega)
 obtain ⟨cap, W2, hr1, h2, hB2⟩ := append_zeros_R (ty := 22) (kq := .i64) rowLine Tryz.underlying3 zeroLine eltLine ht (Nat.le_trans hn hk1.size) (fun w => zeroLineR w _) (m := xs.length + 1 - i) (by omega) (by omega) (by rw [List.length_take]; omega)
 have hln2 : i + (xs.length + 1 - i) = xs.length + 1 := by omega
 rw [hln2] at hr1 h2
 have hcap2 : xs.length + 1 ≤ cap := by
  have := h2.len
  omega
 have hbW : W1.heap.size ≠ b := by
  obtain ⟨b', o', cs, e, hb, hg, _⟩ := SliceR.cellAt h1 (i := 0) (by omega)
  cases e
  exact Nat.ne_of_gt (Array.getElem?_eq_some_iff.1 hg).1
 have hbV : W1.heap.size ≠ vb := by
  obtain ⟨b', o', cs, e, hb, hg, _⟩ := SliceR.cellAt (SliceR.below (rdLin_stable true) H.out.2 hk1) (i := 0) (by simp)
  cases e
  exact Nat.ne_of_gt (Array.getElem?_eq_some_iff.1 hg).1
 have hv2 := SliceR.below (rdLin_stable true) (SliceR.below (rdLin_stable true) H.out.2 hk1) hB2
 have hs2 := SliceR.below (rdLin_stable true) (SliceR.bounded (rdLin_stable true) h1) hB2
 have hn2 : n ≤ W1.heap.size := Nat.le_trans hn hk1.size
 obtain ⟨newsV, hsv, hnv⟩ := SliceR.src rowLine eltLine.pos eltLine.ones hv2
 have hl2 : (xs.take i ++ List.replicate (xs.length + 1 - i) (⟨0, [], 0, []⟩ : Lin)).length = xs.length + 1 := by rw [List.length_append, List.length_take, List.length_replicate]; omega
 obtain ⟨W3, hr3, h3, hB3, hz3, ho3⟩ := copy_R (ty := 3) rowLine eltLine.tag (by decide) h2 (p := i) (q := xs.length + 1) (ys := [e1, e2]) (by omega) (by rw [hl2]; show i + 2 ≤ _; omega) (by show i + 2 ≤ _; omega) (by omega) hsv hnv
 have hs3 := SliceR.stable (rdLin_stable true) hs2 (Keeps.only hz3 ho3 (by simp)) (fun d h _ => h.1)
 have hs3d := SliceR.below (rdLin_stable true) hs3 (Below.refl _ _).drew
 have h3d := SliceR.below (rdLin_stable true) h3 (Below.refl _ _).drew
 have hp3 := SliceR.part hs3d (i := i + 1) (j := xs.length) (m := xs.length) (by omega) (Nat.le_refl _) (Nat.le_refl _) (Nat.le_refl _)
 rw [List.take_of_length_le (by rw [List.length_drop]; omega)] at hp3
 simp only [sliced, if_neg q3, Option.map_some, Addr.add_lit] at hp3
 obtain ⟨newsS, hss, hns⟩ := SliceR.src rowLine eltLine.pos eltLine.ones hp3
 have hdl : (xs.drop (i + 1)).length = xs.length - (i + 1) := List.length_drop ..
 obtain ⟨W4, hr4, h4, hB4, hz4, ho4⟩ := copy_R (ty := 3) rowLine eltLine.tag (by decide) h3d (p := i + 2) (q := xs.length + 1) (ys := xs.drop (i + 1)) (by omega) (by have := (SliceR.len h3d).1; omega) (by omega) (by omega) hss hns
 simp only [Nat.zero_add] at hr3 hr4
 rw [show xs.length + 1 - (i + 2) = xs.length - (i + 1) by omega] at hr4
 have HR1 := Lib.hid hr1
 have HR3 := Lib.hid hr3
 have HR4 := Lib.hid hr4
 have hfr : ∀ k : Nat, k < w.heap.size → k ≠ b → W4.heap[k]? = w.heap[k]? := fun k hk _ => by
  have hk' : k < W1.heap.size := Nat.lt_of_lt_of_le hk hk1.size
  exact (ho4 k (Nat.ne_of_lt hk')).trans ((ho3 k (Nat.ne_of_lt hk')).trans ((hB2.block k hk').trans (hk1.block k hk)))
 have H4 := Lib.hid (And.intro h4 (And.intro ((((hk1.mono hn).trans (hB2.mono hn2)).trans (hB3 n hn2)).drew.trans (hB4 n hn2)) hfr))
 have q6 : ¬ cap = i := by omega
 have q7 : ¬ cap = i + 2 := by omega
 clear h1 ht h2 hB2 hv2 hs2 hsv hnv h3 hB3 hz3 ho3 hs3 hs3d h3d hp3 hss hns h4 hB4 hz4 ho4 hr1 hr3 hr4 hbW hbV hln2 hl2 hdl hfr
 go_wp2_with (first | (at_builtin; refine Lib.wpList_append_run _ rfl _ _ _ _ rfl _ _ rfl (int_eq (by omega)) _ _ HR1.out ?_) | (refine wpList_copy_run _ rfl _ _ _ _ rfl _ _ rfl rfl _ _ HR3.out ?_))
 have w1 : IntKind.i64.wrap ((i : Int) + 2) = (i : Int) + 2 := IntWalk.i64_in _ (by omega)
 have w2 : (0 : Int) ≤ (i : Int) + 2 := by omega
 have w3 : ((i : Int) + 2).toNat = i + 2 := by omega
 have w4 : (i : Int) + 2 ≤ (xs.length : Int) + 1 := by omega
 have w5 : (0 : Int) ≤ (i : Int) + 1 := by omega
 have w6 : (i : Int) + 1 ≤ (xs.length : Int) := by omega
 have w7 : ((i : Int) + 1).toNat = i + 1 := by omega
 go_region_held3 (fun _ => True) (trivial) ((refine step_copy_run (by rfl) _ _ _ _ (by rfl) _ _ (by rfl) (by rfl) _ _ HR4.out ?_))
 go_wp2_with fail
 go_ret
 refine ⟨_, rfl, ?_, H4.out.2.1, H4.out.2.2⟩
 have h9 := H4.out.1
 have e9 : ((xs.take i ++ List.replicate (xs.length + 1 - i) (⟨0, [], 0, []⟩ : Lin)).take i ++ [e1, e2] ++ (xs.take i ++ List.replicate (xs.length + 1 - i) (⟨0, [], 0, []⟩ : Lin)).drop (i + [e1, e2].length)).take (i + 2) ++ xs.drop (i + 1) ++ ((xs.take i ++ List.replicate (xs.length + 1 - i) (⟨0, [], 0, []⟩ : Lin)).take i ++ [e1, e2] ++ (xs.take i ++ List.replicate (xs.length + 1 - i) (⟨0, [], 0, []⟩ : Lin)).drop (i + [e1, e2].length)).drop (i + 2 + (xs.drop (i + 1)).length) = xs.take i ++ [e1, e2] ++ xs.drop (i + 1) := by
  have f1 : (xs.take i).length = i := by rw [List.length_take]; omega
  have f2 : (xs.take i ++ List.replicate (xs.length + 1 - i) (⟨0, [], 0, []⟩ : Lin)).take i = xs.take i := List.take_left' f1
  rw [f2]
  obtain ⟨R', hR'⟩ : ∃ R', (xs.take i ++ List.replicate (xs.length + 1 - i) (⟨0, [], 0, []⟩ : Lin)).drop (i + [e1, e2].length) = R' := ⟨_, rfl⟩
  have f3 : R'.length = xs.length + 1 - (i + 2) := by
   rw [← hR', List.length_drop, List.length_append, List.length_replicate, f1]
   simp only [List.length_cons, List.length_nil]
   omega
  rw [hR']
  have f4 : (xs.take i ++ [e1, e2] ++ R').drop (i + 2 + (xs.drop (i + 1)).length) = [] := List.drop_eq_nil_of_le (by
   rw [List.length_append, List.length_append, List.length_drop, f1, f3]
   simp only [List.length_cons, List.length_nil]
   omega)
  rw [f4, List.append_nil, List.take_left' (by rw [List.length_append, f1]; rfl)]
 rw [e9] at h9
 exact h9
end Go.Proofs.YtpndnbjpnajaaaaGreatDoor
namespace Go.Proofs.Qw
open Go.RowKit Go.Proofs.YtpndnbjpnajaaaaGreatDoor
theorem SliceR.avoid {α : Type} {s t : TypeId} {k : Nat} {enc : α → List Value} {w : World} {S : Nat → Prop} {v : Value} {xs : List α} (h : SliceR s k (rdOf enc) true w S v xs) {b : Nat} {cs : Array Value} (hb : w.heap[b]? = some (.cells cs t)) (hst : s ≠ t) : SliceR s k (rdOf enc) true w (fun d => S d ∧ d ≠ b) v xs := by
 obtain ⟨a, c, e, hc, hm, hx⟩ := h
 refine ⟨a, c, e, hc, hm, ?_⟩
 rcases hx with h1 | ⟨d, o, e, hd, hz, hf, he⟩
 ·exact .inl h1
 ·obtain ⟨cs2, g1, g2⟩ := hf rfl
  exact .inr ⟨d, o, e, ⟨hd, fun e2 => by subst e2; rw [hb] at g1; cases g1; exact hst rfl⟩, hz, hf, he⟩
theorem DocR.avoid {w : World} {S : Nat → Prop} {vb vo n c : Nat} {xs : List Lin} (h : DocR true w S (.slice (some ⟨vb, vo, none⟩) n c) xs) {b : Nat} {cs : Array Value} (hb : w.heap[b]? = some (.cells cs 42)) (hne : vb ≠ b) : DocR true w (fun d => S d ∧ d ≠ b) (.slice (some ⟨vb, vo, none⟩) n c) xs := by
 obtain ⟨a, c', e, hc, hm, hx⟩ := h
 refine ⟨a, c', e, hc, hm, ?_⟩
 rcases hx with h1 | ⟨d, o, e2, hd, hz, hf, he⟩
 ·exact .inl h1
 ·subst e2
  cases e
  refine .inr ⟨vb, vo, rfl, ⟨hd, hne⟩, hz, hf, fun i x hi => ?_⟩
  obtain ⟨vs, r1, ⟨p, q, r2, r3, r4⟩, r5⟩ := he i x hi
  exact ⟨vs, r1, ⟨p, q, r2, r3.avoid hb (by decide), r4.avoid hb (by decide)⟩, r5⟩
end Go.Proofs.Qw
namespace Go.Proofs.YtpndnbjpnajaaaaGreatDoor
open Go.RowKit
open Go.Proofs.Qw
attribute [local go_sem ↓] Go.wp_at_zero Go.wp_at_succ
set_option maxRecDepth 100000 in
set_option maxHeartbeats 4000000 in
theorem replace_two_in (b o ln c vb vo vc : Nat) (xs : List Lin) (e1 e2 : Lin) (i n : Nat) (w : World) (h : DocR true w (fun b => n ≤ b) (.slice (some ⟨b, o, none⟩) ln c) xs) (hv : DocR true w (fun b => n ≤ b) (.slice (some ⟨vb, vo, none⟩) 2 vc) [e1, e2]) (hne : vb ≠ b)
  (hn : n ≤ w.heap.size) (hij : i + 1 < xs.length) (hlen : xs.length ≤ 1000000) (hcap : xs.length + 1 ≤ c) :
  Calls Tryz.prog 188 #[.slice (some ⟨b, o, none⟩) ln c, .int .i64 i, .int .i64 ((i + 1 : Nat) : Int), .slice (some ⟨vb, vo, none⟩) 2 vc] w fun e' w' => ∃ v', e' = .returned v' ∧ DocR true w' (fun b => n ≤ b) v' (xs.take i ++ [e1, e2] ++ xs.drop (i + 1)) ∧ Below n w w' ∧ ∀ k : Nat, k < w.heap.size → k ≠ b → w'.heap[k]? = w.heap[k]? := by
 obtain ⟨rfl, hc, hm⟩ := SliceR.len h
 have hcc : c ≤ 9223372036854775807 := hm
 have H := Lib.hid (And.intro h hv)
 have t1 : ((i : Int) == (i : Int) + 1) = false := beq_eq_false_iff_ne.2 (by omega)
 have t2 : ((i : Int) + 1 == (xs.length : Int)) = false := beq_eq_false_iff_ne.2 (by omega)
 have q1 : ¬ c = i := by omega
 have q3 : ¬ c = i + 1 := by omega
 have q4 : ¬ c = i + 2 := by omega
 have hbn : n ≤ b := by
  obtain ⟨b', o', cs, e, hb, _⟩ := SliceR.cellAt h (i := 0) (by omega)
  cases e
  exact hb
 clear h hv
 go_enter Tryz.func188, Tryz.ntmps188
 go_wp2_with fail
 go_quiet (fail)
 have hk1 : Below w.heap.size w (w.drewN nq) := drewN_below (Below.refl _ _)
 obtain ⟨W1, hW1⟩ : ∃ W1, w.drewN nq = W1 := ⟨_, rfl⟩
 rw [hW1] at hk1 ⊢
 have h1 := SliceR.below (rdLin_stable true) H.out.1 hk1
 have hv1 := SliceR.below (rdLin_stable true) H.out.2 hk1
 obtain ⟨b', o', cs, eb, _, hgb, hszb⟩ := SliceR.cellAt h1 (i := 0) (by omega)
 cases eb
 obtain ⟨vb', vo', csv, ev, _, hgv, hszv⟩ := SliceR.cellAt hv1 (i := 0) (by simp)
 cases ev
 have hov : ∀ la ca, (callFunc 233 #[.slice (some ⟨b, o + (i + 2) * 4, none⟩) la ca, .slice (some ⟨vb, vo, none⟩) 2 vc]).run Tryz.prog W1 = .ok (.value (.bool false)) W1 := fun la ca => by
  rw [run_callFunc_extern Tryz.func233 (by kernel_rfl) (by kernel_rfl) (by kernel_rfl) (e := Extern.SlicesOverlaps.overlaps #[22, 22] #[4]) (by kernel_rfl),
   Lib.run_overlaps_apart W1 22 4 42 Tryz.underlying22 4 (fun w => by obtain ⟨i0, z, h1, _, h2, _⟩ := rowLine.info; simp [sizeOf, typeInfo, h1, h2]) ⟨b, o + (i + 2) * 4, none⟩ ⟨vb, vo, none⟩ la ca 2 vc (fun e => hne e.symm) 42 42 cs.size csv.size
    (by simp [World.shape?, hgb]) (by simp [World.shape?, hgv]) (by omega) (frozen_of_heap hgb) (frozen_of_heap hgb)]
  rfl
 have h1d := SliceR.below (rdLin_stable true) h1 (Below.refl _ _).drew
 have hp := SliceR.part h1d (i := i + 1) (j := xs.length) (m := c) (by omega) (Nat.le_refl _) hc (Nat.le_refl _)
 rw [List.take_of_length_le (by rw [List.length_drop]; omega)] at hp
 simp only [sliced, if_neg q3, Option.map_some, Addr.add_lit] at hp
 obtain ⟨newsS, hss, hns⟩ := SliceR.src rowLine eltLine.pos eltLine.ones hp
 have hdl : ((xs.drop (i + 1)).map some).length = xs.length - (i + 1) := by rw [List.length_map, List.length_drop]
 have hx := SliceR.extend (SliceR.opt h1d) (m := xs.length + 1) (by omega) hcap
 rw [show xs.length + 1 - xs.length = 1 by omega] at hx
 have hzl : (xs.map some ++ List.replicate 1 (none : Option Lin)).length = xs.length + 1 := by simp
 obtain ⟨W2, hr2, h2, hB2, hz2, ho2⟩ := copy_R (ty := 3) rowLine (rdOpt_tagged eltLine.tag) (by decide) hx (p := i + 2) (q := xs.length + 1) (ys := (xs.drop (i + 1)).map some) hcap (by rw [hzl, hdl]; omega) (by rw [hdl]; omega) (by omega) (by rw [List.length_map]; exact hss) (NewsR.opt hns)
 have hva := SliceR.stable (rdLin_stable true) (SliceR.below (rdLin_stable true) (DocR.avoid hv1 hgb hne) (Below.refl _ _).drew) (Keeps.only (S := fun d => n ≤ d ∧ d ≠ b) hz2 ho2 (by simp)) (fun d h _ => h.1)
 obtain ⟨newsV, hsv, hnv⟩ := SliceR.src rowLine eltLine.pos eltLine.ones hva
 have hl2 := (SliceR.len h2).1
 obtain ⟨W3, hr3, h3, hB3, hz3, ho3⟩ := copy_R (ty := 3) rowLine (rdOpt_tagged eltLine.tag) (by decide) h2 (p := i) (q := xs.length + 1) (ys := [some e1, some e2]) hcap (by show i + 2 ≤ _; omega) (by show i + 2 ≤ _; omega) (by omega) hsv (NewsR.opt hnv)
 rw [show xs.length + 1 - (i + 2) = xs.length - (i + 1) by omega] at hr2
 rw [show xs.length + 1 - i = i + 2 + (xs.length - (i + 1)) - i by omega] at hr3
 have HR2 := Lib.hid hr2
 have HR3 := Lib.hid hr3
 have hfr : ∀ k : Nat, k < w.heap.size → k ≠ b → W3.heap[k]? = w.heap[k]? := fun k hk hne => (ho3 k hne).trans ((ho2 k hne).trans (hk1.block k hk))
 have H3 := Lib.hid (And.intro h3 (And.intro ((((hk1.mono hn).drew).trans (hB2 n hbn)).trans (hB3 n hbn)) hfr))
 have q9 : (i : Int) + 2 + ((xs.length - (i + 1) : Nat) : Int) ≤ (c : Int) := by omega
 clear h1 hv1 hgb hszb hgv hszv h1d hp hss hns hdl hx hzl hr2 h2 hB2 hz2 ho2 hva hsv hnv hl2 hr3 h3 hB3 hz3 ho3 hfr
 go_wp2_with fail
 have w1 : IntKind.i64.wrap ((i : Int) + 2) = (i : Int) + 2 := IntWalk.i64_in _ (by omega)
 have w2 : (0 : Int) ≤ (i : Int) + 2 := by omega
 have w3 : ((i : Int) + 2).toNat = i + 2 := by omega
 have w4 : (i : Int) + 2 ≤ (xs.length : Int) + 1 := by omega
 have w5 : (0 : Int) ≤ (i : Int) + 1 := by omega
 have w6 : (i : Int) + 1 ≤ (xs.length : Int) := by omega
 have w7 : ((i : Int) + 1).toNat = i + 1 := by omega
 have w8 : (i : Int) + 2 ≤ (i : Int) + 2 + ((xs.length - (i + 1) : Nat) : Int) := by omega
 go_region_held3 (fun _ => True) (trivial) ((refine step_copy_run (by rfl) _ _ _ _ (by rfl) _ _ (by rfl) (by rfl) _ _ HR2.out ?_))
 clear w1
 go_wp2_with (refine wpList_copy_run _ rfl _ _ _ _ rfl _ _ rfl rfl _ _ HR3.out ?_)
 go_ret
 have hT : i + 2 + (xs.length - (i + 1)) = xs.length + 1 := by omega
 have h9 := H3.out.1
 have e9 : ((xs.map some ++ List.replicate 1 (none : Option Lin)).take (i + 2) ++ (xs.drop (i + 1)).map some ++ (xs.map some ++ List.replicate 1 (none : Option Lin)).drop (i + 2 + ((xs.drop (i + 1)).map some).length)).take i ++ [some e1, some e2] ++
   ((xs.map some ++ List.replicate 1 (none : Option Lin)).take (i + 2) ++ (xs.drop (i + 1)).map some ++ (xs.map some ++ List.replicate 1 (none : Option Lin)).drop (i + 2 + ((xs.drop (i + 1)).map some).length)).drop (i + [some e1, some e2].length) = (xs.take i ++ [e1, e2] ++ xs.drop (i + 1)).map some := by
  have f0 : (xs.map some ++ List.replicate 1 (none : Option Lin)).drop (i + 2 + ((xs.drop (i + 1)).map some).length) = [] := List.drop_eq_nil_of_le (by simp; omega)
  have f1 : ((xs.map some ++ List.replicate 1 (none : Option Lin)).take (i + 2)).length = i + 2 := by simp; omega
  have f2 : ((xs.map some ++ List.replicate 1 (none : Option Lin)).take (i + 2)).take i = (xs.take i).map some := by
   rw [List.take_take, Nat.min_eq_left (by omega), List.take_append_of_le_length (by simp; omega), List.map_take]
  rw [f0, List.append_nil, List.take_append_of_le_length (by omega), f2, List.drop_left' (by rw [f1]; rfl)]
  simp
 rw [e9] at h9
 refine ⟨_, rfl, ?_, H3.out.2.1, H3.out.2.2⟩
 show SliceR _ _ _ _ _ _ (.slice (some ⟨b, o, none⟩) (i + 2 + (xs.length - (i + 1))) c) _
 rw [hT]
 exact SliceR.unopt h9
theorem replace_one (b o ln c vb vo vc : Nat) (xs : List Lin) (e : Lin) (i j n : Nat) (w : World) (h : DocR true w (fun b => n ≤ b) (.slice (some ⟨b, o, none⟩) ln c) xs) (hv : DocR true w (fun b => n ≤ b) (.slice (some ⟨vb, vo, none⟩) 1 vc) [e]) (hne : vb ≠ b)
  (hij : i < j) (hj : j ≤ xs.length) (hlen : xs.length ≤ 1000000) :
  Calls Tryz.prog 188 #[.slice (some ⟨b, o, none⟩) ln c, .int .i64 i, .int .i64 j, .slice (some ⟨vb, vo, none⟩) 1 vc] w fun e' w' => ∃ v', e' = .returned v' ∧ DocR true w' (fun b => n ≤ b) v' (xs.take i ++ [e] ++ xs.drop j) ∧ Below n w w' := by
 by_cases hl : j < xs.length
 ·exact replace_mid b o ln c vb vo vc xs e i j n w h hv hne hij hl hlen
 ·obtain rfl : j = xs.length := by omega
  have := replace_end b o ln c vb vo vc xs e i n w h hv hne hij hlen
  rw [List.drop_length, List.append_nil]
  exact this
theorem replace_two (b o ln c vb vo vc : Nat) (xs : List Lin) (e1 e2 : Lin) (i n : Nat) (w : World) (h : DocR true w (fun b => n ≤ b) (.slice (some ⟨b, o, none⟩) ln c) xs) (hv : DocR true w (fun b => n ≤ b) (.slice (some ⟨vb, vo, none⟩) 2 vc) [e1, e2]) (hne : vb ≠ b)
  (hn : n ≤ w.heap.size) (hij : i < xs.length) (hlen : xs.length ≤ 1000000) :
  Calls Tryz.prog 188 #[.slice (some ⟨b, o, none⟩) ln c, .int .i64 i, .int .i64 ((i + 1 : Nat) : Int), .slice (some ⟨vb, vo, none⟩) 2 vc] w fun e' w' => ∃ v', e' = .returned v' ∧ DocR true w' (fun b => n ≤ b) v' (xs.take i ++ [e1, e2] ++ xs.drop (i + 1)) ∧ Below n w w' ∧ ∀ k : Nat, k < w.heap.size → k ≠ b → w'.heap[k]? = w.heap[k]? := by
 by_cases hl : i + 1 < xs.length
 ·by_cases hc : xs.length + 1 ≤ c
  ·exact replace_two_in b o ln c vb vo vc xs e1 e2 i n w h hv hne hn hl hlen hc
  ·exact replace_two_grow b o ln c vb vo vc xs e1 e2 i n w h hv hn hl hlen (by omega)
 ·have he : i + 1 = xs.length := by omega
  have := replace_two_end b o ln c vb vo vc xs e1 e2 i n w h hv hn he hlen
  rw [he, List.drop_length, List.append_nil]
  exact this
end Go.Proofs.YtpndnbjpnajaaaaGreatDoor
