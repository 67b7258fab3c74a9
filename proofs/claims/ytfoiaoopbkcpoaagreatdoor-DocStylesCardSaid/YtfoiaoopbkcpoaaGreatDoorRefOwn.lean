/- The walks of the reference's Own, Frame. -/
import Derived.Test.YtfoiaoopbkcpoaaGreatDoorSame
import Derived.Deep.RegionHeld3
import Derived.Deep.DrawnRows
namespace Go.Proofs.YtfoiaoopbkcpoaaGreatDoor
open Go.RowKit
open Go.Proofs.Qw
attribute [local go_sem ↓] Go.wp_at_zero Go.wp_at_succ

set_option maxRecDepth 100000 in
set_option maxHeartbeats 1000000 in
theorem refOwnC_any (v : Value) (d : List Cel) (own : Bool) (w : World) (S : Nat → Prop) (h : CelsR own w S v d) (hs : d.length ≤ 1000000) :
    Calls Tryz.prog 50 #[v] w fun e w' => ∃ v', e = .returned v' ∧ CelsR true w' (fun b => w.heap.size ≤ b) v' d ∧ Below w.heap.size w w' := by
  have HS := Lib.hid (SliceR.src_flat rowCell eltCell (SliceR.below (rdOf_stable _) h ((Below.refl w.heap.size w).alloc (Nat.le_refl _) (.cells #[] 58))))
  clear h
  go_enter Tryz.func50, Tryz.ntmps50
  go_wp2_with (at_builtin; go_must (refine wpList_append_R _ rfl _ _ 46 46 rfl rowCell eltCell w.heap.size _ _ (xs := []) (ys := d) (news := d.flatMap encCel) rfl rfl (SliceR.empty _ _ _ _ _ _ _) (by simp) HS.out (flatCell _ _ _) (by simp; omega) ?_); intro v' w1 hR hB _ _; have HR := Lib.hid hR; have HB := Lib.hid hB; clear hR hB)
  go_ret
  exact ⟨_, rfl, HR.out, ((Below.refl _ _).alloc (Nat.le_refl _) _).trans HB.out⟩

set_option maxRecDepth 100000 in
set_option maxHeartbeats 4000000 in
theorem refOwnL_any (l : Lin) (a b : Value) (o1 o2 : Bool) (w : World) (S : Nat → Prop) (hL : IntsR o1 w S a l.lists) (hC : CelsR o2 w S b l.cells) (hs : l.lists.length ≤ 1000000 ∧ l.cells.length ≤ 1000000) :
    Calls Tryz.prog 58 #[linV l a b] w fun e w' => ∃ a' b', e = .returned (linV l a' b') ∧ IntsR true w' (fun b => w.heap.size ≤ b) a' l.lists ∧ CelsR true w' (fun b => w.heap.size ≤ b) b' l.cells ∧ Below w.heap.size w w' := by
  obtain ⟨la, lc, rfl⟩ := hL.slice
  obtain ⟨ca, cc, rfl⟩ := hC.slice
  obtain ⟨W1, hW1, hB, hz, hA1, hA2⟩ := two_lines w (.int .i64 l.quote) (.slice la l.lists.length lc) (.int .i64 l.kind) (.slice ca l.cells.length cc) (.int .i64 0) (.slice none 0 0) (.int .i64 0) (.slice none 0 0)
  have hs1 := hB.size
  have HS : Hid (∀ W, Below W1.heap.size W1 W → Src Tryz.prog 1 53 (.slice la l.lists.length lc) l.lists.length (l.lists.flatMap encInt) W) := Lib.hid fun W hW => SliceR.src_flat rowInt eltInt (hL.below (rdOf_stable _) (hB.trans (hW.mono hs1)))
  have HC : Hid (∀ W, Below W1.heap.size W1 W → Calls Tryz.prog 50 #[.slice ca l.cells.length cc] W fun e w' => ∃ v', e = .returned v' ∧ CelsR true w' (fun b => W.heap.size ≤ b) v' l.cells ∧ Below W.heap.size W w') := Lib.hid fun W hW => refOwnC_any _ _ o2 W S (hC.below (rdOf_stable _) (hB.trans (hW.mono hs1))) hs.2
  have HB0 : Hid (∀ W, Below W1.heap.size W1 W → W.heap[w.heap.size]? = _) := Lib.hid fun W hW => heap_below hW hA1
  have HB1 : Hid (∀ W, Below W1.heap.size W1 W → W.heap[w.heap.size + 1]? = _) := Lib.hid fun W hW => heap_below hW hA2
  have HN1 : Hid (([] : List Int).length + l.lists.length ≤ 100000000) := Lib.hid (by simp; omega)
  obtain ⟨p1, f1⟩ := blk hA1
  obtain ⟨p2, f2⟩ := blk hA2
  have HZ := Lib.hid hz
  clear hL hC hz hA1 hA2 hs
  go_enter Tryz.func58, Tryz.ntmps58
  go_wp2_with fail
  go_region_held3 (fun w' => w'.cell? ⟨w.heap.size, 0, none⟩ = some (.int .i64 l.quote) ∧ w'.cell? ⟨w.heap.size, 1, none⟩ = some (.slice la l.lists.length lc) ∧ w'.cell? ⟨w.heap.size, 2, none⟩ = some (.int .i64 l.kind) ∧ w'.cell? ⟨w.heap.size, 3, none⟩ = some (.slice ca l.cells.length cc)) (go_keep) (first | ((refine step_append_R (by rfl) _ _ 53 53 (by rfl) rowInt eltInt _ _ _ (xs := []) (ys := l.lists) (news := l.lists.flatMap encInt) (by rfl) (by rfl) (SliceR.empty _ _ _ _ _ _ _) (Nat.le_refl _) (HS.out _ (by go_grown)) (flatInt _ _ _) HN1.out ?_; intro v1 w2 hv1 hb1 _ _; have hx1 : Below W1.heap.size W1 w2 := below_from (by go_grown) hb1; obtain ⟨p3, f3⟩ := blk (HB0.out _ hx1); obtain ⟨p4, f4⟩ := blk (HB1.out _ hx1); obtain ⟨a1, c1, hv1e⟩ := hv1.slice; subst hv1e)) | ((go_at_call 50; refine (HC.out _ (by go_grown)).mono ?_; rintro e w3 ⟨v2, rfl, hv2, hb2⟩; have hx2 : Below W1.heap.size W1 w3 := below_from (by go_grown) hb2; obtain ⟨p5, f5⟩ := blk (HB0.out _ hx2); obtain ⟨p6, f6⟩ := blk (HB1.out _ hx2); obtain ⟨a2, c2, hv2e⟩ := hv2.slice; subst hv2e)))
  go_wp2_with fail
  refine bodyPost_ret (results_line rfl _ _ (w.heap.size + 1) (.int .i64 l.quote) (.slice a1 l.lists.length c1) (.int .i64 l.kind) (.slice a2 l.cells.length c2) rfl (by simp [heap_set, putIn, HB1.out _ hx2])) rfl ?_
  have shb1 := Below.size hb1; have shb2 := Below.size hb2; (try simp at shb1); (try simp at shb2)
  have hfin := hB.trans (hx2.mono hs1)
  have := HZ.out
  exact ⟨_, _, rfl, (SliceR.stable (rdOf_stable _) hv1 (by (repeat' (first | (with_reducible exact Keeps.refl _ _) | (with_reducible refine Keeps.set ?_ ?_ _) | (with_reducible refine Keeps.alloc ?_ _) | (with_reducible refine Keeps.drew ?_) | (first | refine Keeps.on ?_ hb2) | (simp; omega)))) (fun b h _ => (by have h' := h; (try simp at h'); omega))), (SliceR.stable (rdOf_stable _) hv2 (by (repeat' (first | (with_reducible exact Keeps.refl _ _) | (with_reducible refine Keeps.set ?_ ?_ _) | (with_reducible refine Keeps.alloc ?_ _) | (with_reducible refine Keeps.drew ?_) | (first | fail) | (simp; omega)))) (fun b h _ => (by have h' := h; (try simp at h'); omega))), by go_grown⟩

set_option maxRecDepth 100000 in
set_option maxHeartbeats 4000000 in
theorem refFrame_any (l : Lin) (a b : Value) (o1 o2 : Bool) (w : World) (S : Nat → Prop) (hL : IntsR o1 w S a l.lists) (hC : CelsR o2 w S b l.cells) (hs : l.lists.length ≤ 1000000) :
    Calls Tryz.prog 45 #[linV l a b] w fun e w' => ∃ a', e = .returned (linV l a' (.slice none 0 0)) ∧ IntsR true w' (fun b => w.heap.size ≤ b) a' l.lists ∧ Below w.heap.size w w' := by
  obtain ⟨la, lc, rfl⟩ := hL.slice
  obtain ⟨ca, cc, rfl⟩ := hC.slice
  obtain ⟨W1, hW1, hB, hz, hA1, hA2⟩ := two_lines w (.int .i64 l.quote) (.slice la l.lists.length lc) (.int .i64 l.kind) (.slice ca l.cells.length cc) (.int .i64 0) (.slice none 0 0) (.int .i64 0) (.slice none 0 0)
  have hs1 := hB.size
  have HS : Hid (∀ W, Below W1.heap.size W1 W → Src Tryz.prog 1 53 (.slice la l.lists.length lc) l.lists.length (l.lists.flatMap encInt) W) := Lib.hid fun W hW => SliceR.src_flat rowInt eltInt (hL.below (rdOf_stable _) (hB.trans (hW.mono hs1)))
  have HB0 : Hid (∀ W, Below W1.heap.size W1 W → W.heap[w.heap.size]? = _) := Lib.hid fun W hW => heap_below hW hA1
  have HB1 : Hid (∀ W, Below W1.heap.size W1 W → W.heap[w.heap.size + 1]? = _) := Lib.hid fun W hW => heap_below hW hA2
  have HN1 : Hid (([] : List Int).length + l.lists.length ≤ 100000000) := Lib.hid (by simp; omega)
  obtain ⟨p1, f1⟩ := blk hA1
  obtain ⟨p2, f2⟩ := blk hA2
  have HZ := Lib.hid hz
  clear hL hC hz hA1 hA2 hs
  go_enter Tryz.func45, Tryz.ntmps45
  go_wp2_with fail
  go_region_held3 (fun w' => w'.cell? ⟨w.heap.size, 0, none⟩ = some (.int .i64 l.quote) ∧ w'.cell? ⟨w.heap.size, 1, none⟩ = some (.slice la l.lists.length lc) ∧ w'.cell? ⟨w.heap.size, 2, none⟩ = some (.int .i64 l.kind)) (go_keep) (((refine step_append_R (by rfl) _ _ 53 53 (by rfl) rowInt eltInt _ _ _ (xs := []) (ys := l.lists) (news := l.lists.flatMap encInt) (by rfl) (by rfl) (SliceR.empty _ _ _ _ _ _ _) (Nat.le_refl _) (HS.out _ (by go_grown)) (flatInt _ _ _) HN1.out ?_; intro v1 w2 hv1 hb1 _ _; have hx1 : Below W1.heap.size W1 w2 := below_from (by go_grown) hb1; obtain ⟨p3, f3⟩ := blk (HB0.out _ hx1); obtain ⟨p4, f4⟩ := blk (HB1.out _ hx1); obtain ⟨a1, c1, hv1e⟩ := hv1.slice; subst hv1e)))
  go_wp2_with fail
  refine bodyPost_ret (results_line rfl _ _ (w.heap.size + 1) (.int .i64 l.quote) (.slice a1 l.lists.length c1) (.int .i64 l.kind) (.slice none 0 0) rfl (by simp [heap_set, putIn, HB1.out _ hx1])) rfl ?_
  have shb1 := Below.size hb1; have shx1 := Below.size hx1; (try simp at shb1); (try simp at shx1)
  have hfin := hB.trans (hx1.mono hs1)
  have := HZ.out
  exact ⟨_, rfl, (SliceR.stable (rdOf_stable _) hv1 (by (repeat' (first | (with_reducible exact Keeps.refl _ _) | (with_reducible refine Keeps.set ?_ ?_ _) | (with_reducible refine Keeps.alloc ?_ _) | (with_reducible refine Keeps.drew ?_) | (first | fail) | (simp; omega)))) (fun b h _ => (by have h' := h; (try simp at h'); omega))), by go_grown⟩
end Go.Proofs.YtfoiaoopbkcpoaaGreatDoor
namespace Go.Proofs.YtfoiaoopbkcpoaaGreatDoor
open Go.RowKit
open Go.Proofs.Qw

set_option maxRecDepth 100000 in
set_option maxHeartbeats 2000000 in
theorem refOwnD_any (v : Value) (d : List Lin) (w : World) (S : Nat → Prop) (h : LinsR w S v d) (hs : Fits d) :
    Calls Tryz.prog 12 #[v] w fun e w' => ∃ v', e = .returned v' ∧ DocR true w' (fun b => w.heap.size ≤ b) v' d ∧ Below w.heap.size w w' := by
  obtain ⟨a, c, rfl, hc, hm, hx⟩ := lins_shape h
  have HX := Lib.hid hx
  have HF := Lib.hid hs
  have hn : d.length ≤ 1000000 := hs.1
  clear hx h hs
  unfold maxLen at hm
  go_enter Tryz.func12, Tryz.ntmps12
  go_wp2_with fail
  go_loopw [3, 4] (fun out i wr => ∃ k : Nat, k ≤ d.length ∧ i = .int .i64 k ∧ DocR true wr (fun b => w.heap.size ≤ b) out (d.take k) ∧ Below w.heap.size w wr) (fun _ i _ => d.length - (intOf i).toNat)
  case atStart => exact ⟨0, Nat.zero_le _, rfl, SliceR.nil _ _ _ _ _ _, Below.refl _ _⟩
  case round =>
    obtain ⟨k, hk, rfl, hO, hb⟩ := hrel
    by_cases hlt : k < d.length
    · obtain ⟨l, hl, hd⟩ := getOf d k hlt
      obtain ⟨b, o, la, lc, ca, cc, rfl, hA⟩ := HX.out k l hl
      have hfl := HF.out.2 l (List.mem_of_getElem? hl)
      have HT := Lib.hid (take_some hl)
      have HW : Hid (∀ W, Below w.heap.size w W → Calls Tryz.prog 58 #[linV l (.slice la l.lists.length lc) (.slice ca l.cells.length cc)] W fun e w' => ∃ a' b', e = .returned (linV l a' b') ∧ IntsR true w' (fun b => W.heap.size ≤ b) a' l.lists ∧ CelsR true w' (fun b => W.heap.size ≤ b) b' l.cells ∧ Below W.heap.size W w') :=
        Lib.hid fun W hW => refOwnL_any l _ _ false false W S (hA.below hW).listsR (hA.below hW).cellsR hfl
      obtain ⟨_, c0, c1, c2, c3, _, _⟩ := hA.below hb
      have HO := Lib.hid hO
      have hbs := hb.size
      have htl : (d.take k).length + 1 ≤ 100000000 := by rw [List.length_take]; omega
      clear hA hd hl hO hfl
      go_wp2_with (first
        | (go_at_call 58; refine (HW.out _ hb).mono ?_; rintro e w2 ⟨a', b', rfl, ha', hb', hb2⟩; obtain ⟨a1, c1, rfl⟩ := ha'.slice; obtain ⟨a2, c2, rfl⟩ := hb'.slice; have HA1 := Lib.hid ha'; have HA2 := Lib.hid hb'; have HB2 := Lib.hid hb2; have hw2 := below_from hb hb2; clear ha' hb'; have hz2 := hb2.size; clear hb2; unfold linV)
        | (at_builtin; refine wpList_append_R _ rfl _ _ 22 22 rfl rowLine eltLine w.heap.size _ _ (xs := d.take k) (ys := [l]) (news := [.int .i64 l.quote, .slice a1 l.lists.length c1, .int .i64 l.kind, .slice a2 l.cells.length c2]) rfl rfl (HO.out.stable (rdLin_stable _) (by (repeat' (first | (with_reducible exact Keeps.refl _ _) | (with_reducible refine Keeps.set ?_ ?_ _) | (with_reducible refine Keeps.alloc ?_ _) | (with_reducible refine Keeps.drew ?_) | (first | refine Keeps.on ?_ HB2.out) | (simp; omega)))) (fun _ h _ => h)) (by simp; omega) (src_one rowLine w2 _ rfl (oneV_line _ _ _ _ _ _ _) 1) (NewsR.one rfl ⟨_, _, rfl, HA1.out.stable (rdOf_stable _) ((Keeps.refl _ _).alloc _) (fun b h _ => Nat.le_trans hbs h), HA2.out.stable (rdOf_stable _) ((Keeps.refl _ _).alloc _) (fun b h _ => Nat.le_trans hbs h)⟩) htl ?_; intro v' w3 hR hB _ _; rw [← HT.out] at hR; have HR := Lib.hid hR; have HB3 := Lib.hid hB; clear hR hB))
      go_roundw
      case rel => exact ⟨k + 1, hlt, by go_num, HR.out, (hw2.alloc (by omega) _).trans HB3.out⟩
      case measure => simp [intOf]; omega
    · obtain rfl : k = d.length := by omega
      have HT := Lib.hid (List.take_length (l := d))
      have HO := Lib.hid hO
      have HB := Lib.hid hb
      clear hb hO
      go_wp2_with fail
      go_ret
      exact ⟨_, rfl, Eq.mp (congrArg (fun x => DocR true wr (fun b => w.heap.size ≤ b) _ x) HT.out) HO.out, HB.out⟩
end Go.Proofs.YtfoiaoopbkcpoaaGreatDoor
