/- The walks of the reference's Nodes, Own. -/
import Derived.Test.YtgeaijnelopkbaaDoorNodRef
import Derived.Deep.Cut
import Derived.Deep.CutRange
import Derived.Test.YtgeaijnelopkbaaDoorValSays
import Derived.Deep.RegionHeld3
set_option linter.unusedVariables false
set_option linter.unusedSimpArgs false
namespace Go.Proofs.YtgeaijnelopkbaaDoor
open Go.RowKit
open Go.Proofs.Qw
attribute [local go_sem ↓] Go.wp_at_zero Go.wp_at_succ
theorem refNodes_any (h : Nat) (v1 v2 : Value) (l1 l2 : List Nod) (w : World) (S1 S2 : Nat → Prop) (h1 : NodsR false h w S1 v1 l1) (h2 : NodsR false h w S2 v2 l2) :
    Calls Tryd.prog 31 #[v1, v2] w fun e w' => e = .returned (.bool (decide (l1 = l2))) ∧ Below w.heap.size w w' := by
  have HC : Hid (Calls Tryd.prog 18 #[.agg #[.int .i64 0, .slice none 0 0, .string ⟨#[]⟩, v1], .agg #[.int .i64 0, .slice none 0 0, .string ⟨#[]⟩, v2]] w fun e w' => e = .returned (.bool (decide (l1 = l2))) ∧ Below w.heap.size w w') := Lib.hid (by
    have := rsame_all h (.mk 0 [] [] l1) (.mk 0 [] [] l2) (.slice none 0 0) v1 (.slice none 0 0) v2 w S1 S2 (SliceR.nil _ _ _ _ _ _) h1 (SliceR.nil _ _ _ _ _ _) h2
    have e : decide (Nod.mk 0 [] [] l1 = Nod.mk 0 [] [] l2) = decide (l1 = l2) := decide_eq_decide.2 ⟨fun e => by injection e, fun e => by rw [e]⟩
    rw [e] at this
    exact this)
  obtain ⟨a1, c1, rfl⟩ := h1.slice
  obtain ⟨a2, c2, rfl⟩ := h2.slice
  clear h1 h2
  generalize decide (l1 = l2) = r at *
  go_enter Tryd.func31, Tryd.ntmps31
  go_wp2_with (go_at_call 18; refine HC.out.mono ?_; rintro e w1 ⟨rfl, hb1⟩)
  go_ret
  exact ⟨rfl, hb1⟩
set_option maxRecDepth 100000 in
set_option maxHeartbeats 1000000 in
theorem refOwnA_any (v : Value) (d : List Att) (own : Bool) (w w0 : World) (S : Nat → Prop) (h : AttsR own w0 S v d) (h0 : Below w0.heap.size w0 w) (hs : d.length ≤ 1000000) :
    Calls Tryd.prog 39 #[v] w fun e w' => ∃ v', e = .returned v' ∧ AttsR true w' (fun b => w.heap.size ≤ b) v' d ∧ Below w.heap.size w w' := by
  have HS := Lib.hid (SliceR.src_flat rowAtt eltAtt (SliceR.below (rdOf_stable _) h (below_from h0 ((Below.refl w.heap.size w).alloc (Nat.le_refl _) (.cells #[] 48)))))
  clear h
  go_enter Tryd.func39, Tryd.ntmps39
  go_wp2_with (at_builtin; go_must (refine wpList_append_R _ rfl _ _ 22 22 rfl rowAtt eltAtt w.heap.size _ _ (xs := []) (ys := d) (news := d.flatMap encAtt) rfl rfl (SliceR.empty _ _ _ _ _ _ _) (by simp) HS.out (flatAtt _ _ _) (by simp; omega) ?_); intro v' w1 hR hB _ _; have HR := Lib.hid hR; have HB := Lib.hid hB; clear hR hB)
  go_ret
  exact ⟨_, rfl, HR.out, ((Below.refl _ _).alloc (Nat.le_refl _) _).trans HB.out⟩
theorem set_four_n (X : World) (B : Nat) (t : TypeId) (z1 z2 z3 z4 x1 x2 x3 x4 : Value) (h : X.heap[B]? = some (.cells #[z1, z2, z3, z4] t)) : ∃ Y, (((X.setCell ⟨B, 0, none⟩ x1).setCell ⟨B, 1, none⟩ x2).setCell ⟨B, 2, none⟩ x3).setCell ⟨B, 3, none⟩ x4 = Y ∧ Y.heap[B]? = some (.cells #[x1, x2, x3, x4] t) ∧ Y.heap.size = X.heap.size ∧
    (∀ b, b ≠ B → Y.heap[b]? = X.heap[b]?) ∧ (∀ n, n ≤ B → ∀ w, Below n w X → Below n w Y) := by
  refine ⟨_, rfl, by simp [heap_set, putIn, h], by simp, fun b hb => by simp [heap_set, Ne.symm hb], fun n hn w hw => ?_⟩
  exact (((hw.setCell hn _).setCell hn _).setCell hn _).setCell hn _
def ROwnAt (h : Nat) : Prop := ∀ (n : Nod) (a k : Value) (w w0 : World) (S : Nat → Prop), AttsR false w0 S a n.attrs → NodsR false h w0 S k n.kids → Below w0.heap.size w0 w → FitN n →
    Calls Tryd.prog 16 #[nodV n a k] w fun e w' => ∃ a' k', e = .returned (nodV n a' k') ∧ AttsR true w' (fun b => w.heap.size ≤ b) a' n.attrs ∧ NodsR true h w' (fun b => w.heap.size ≤ b) k' n.kids ∧ Below w.heap.size w w'
set_option maxRecDepth 100000 in
set_option maxHeartbeats 4000000 in
theorem rown_step (h : Nat) (ih : ∀ h', h = h' + 1 → ROwnAt h') : ROwnAt h := by
  intro n a kv w w0 S hA hK h0 hfit
  obtain ⟨fa, fk, fkk⟩ := fit_parts hfit
  have HOA : Hid (∀ W, Below w0.heap.size w0 W → Calls Tryd.prog 39 #[a] W fun e w' => ∃ v', e = .returned v' ∧ AttsR true w' (fun b => W.heap.size ≤ b) v' n.attrs ∧ Below W.heap.size W w') := Lib.hid fun W hW => refOwnA_any a n.attrs false W w0 S hA hW fa
  obtain ⟨la, lc, rfl⟩ := hA.slice
  obtain ⟨ka, kc, rfl, hc, hm, hx⟩ := nods_shape hK
  have HX := Lib.hid hx
  have HI := Lib.hid ih
  have HF := Lib.hid fkk
  clear hA hK hx ih hfit fkk
  unfold maxLen at hm
  obtain ⟨W1, hW1, hB, hz, hB0, hB1⟩ := two_nodes w (.int .i64 n.tag) (.slice la n.attrs.length lc) (.string ⟨n.text.toArray⟩) (.slice ka n.kids.length kc) (.int .i64 0) (.slice none 0 0) (.string ⟨#[]⟩) (.slice none 0 0)
  have hBs := hB.size
  have hbw1 := below_from h0 hB
  have z0 : w.heap.size < W1.heap.size := by omega
  have z1 : w.heap.size + 1 < W1.heap.size := by omega
  have HB0 := Lib.hid hB0
  have HB1 := Lib.hid hB1
  have HZ := Lib.hid hz
  clear hz
  obtain ⟨p0, f0⟩ := blk hB0
  obtain ⟨p1, f1⟩ := blk hB1
  clear hB0 hB1
  have hd1 : Below W1.heap.size W1 W1.drew := (Below.refl _ _).drew
  have v1 : ¬ W1.heap.size = w.heap.size := by omega
  have v2 : ¬ w.heap.size = W1.heap.size := by omega
  unfold nodV
  go_enter Tryd.func16, Tryd.ntmps16
  go_upto_region 1 with fail
  go_cut [3] from 5 to 12 (fun p wx => ∃ (Bu : Nat) (au : Option Addr) (cu : Nat), p = .pointer (some ⟨Bu, 0, none⟩) ∧ Hid (wx.heap[Bu]? = some (.cells #[.int .i64 n.tag, .slice au n.attrs.length cu, .string ⟨n.text.toArray⟩, .slice none 0 0] 25)) ∧ W1.heap.size ≤ Bu ∧ Hid (Below W1.heap.size W1 wx) ∧ Hid (AttsR true wx (fun b => W1.heap.size ≤ b ∧ ¬ b = Bu) (.slice au n.attrs.length cu) n.attrs))
  case first =>
    go_region_held3 (fun w' => w'.cell? ⟨w.heap.size, 0, none⟩ = some (.int .i64 n.tag) ∧ w'.cell? ⟨w.heap.size, 1, none⟩ = some (.slice la n.attrs.length lc) ∧ w'.cell? ⟨w.heap.size, 2, none⟩ = some (.string ⟨n.text.toArray⟩)) (go_keep)
      ((go_at_call 39; (first
        | ((with_reducible refine (HOA.out _ (below_from hbw1 hd1)).mono ?_); intro e w5 hsaid; obtain ⟨v5, rfl, hv5, hst5⟩ := hsaid; obtain ⟨x5, y5, hve5⟩ := hv5.slice; subst hve5; have h45 := below_from hd1 hst5; have HD5 := Lib.hid hv5; clear hv5; obtain ⟨s0, u0⟩ := blk (heap_below h45 HB0.out); have hz5 := h45.size; have v5 : ¬ w5.heap.size = w.heap.size := (by omega); have v6 : ¬ w.heap.size = w5.heap.size := (by omega))
        | ((with_reducible refine (HOA.out _ (below_from hbw1 ((Below.refl _ W1).alloc (Nat.le_refl _) _).drew)).mono ?_); intro e w5 hsaid; obtain ⟨v5, rfl, hv5, hst5⟩ := hsaid; obtain ⟨x5, y5, hve5⟩ := hv5.slice; subst hve5; have h45 := below_from (((Below.refl _ W1).alloc (Nat.le_refl _) _).drew) hst5; have HD5 := Lib.hid hv5; clear hv5; obtain ⟨s0, u0⟩ := blk (heap_below h45 HB0.out); have n5 := heap_below hst5 (show ((W1.alloc _).drew).heap[W1.heap.size]? = _ from heap_new W1 _ rfl); obtain ⟨s1, u1⟩ := blk n5))))
    · go_wp2_with fail
      go_meet
      case rel =>
        refine ⟨w5.heap.size, x5, y5, rfl, Lib.hid (heap_new _ _ rfl), h45.size, Lib.hid (h45.alloc h45.size _), Lib.hid ?_⟩
        exact HD5.out.stable (rdOf_stable _) ((Keeps.refl _ _).alloc _) (fun b hb hz => ⟨hb, by omega⟩)
    · obtain ⟨W, hW, nW, zW, kW, cW⟩ := set_four_n w5 W1.heap.size _ _ _ _ _ (.int .i64 n.tag) (.slice x5 n.attrs.length y5) (.string ⟨n.text.toArray⟩) (.slice none 0 0) n5
      rw [hW]
      go_wp2_with fail
      go_meet
      case rel =>
        refine ⟨W1.heap.size, x5, y5, rfl, Lib.hid nW, Nat.le_refl _, Lib.hid (cW _ (Nat.le_refl _) _ h45), Lib.hid ?_⟩
        have h1 : AttsR true w5 (fun b => W1.heap.size ≤ b ∧ ¬ b = W1.heap.size) (.slice x5 n.attrs.length y5) n.attrs := HD5.out.stable (rdOf_stable _) (Keeps.refl _ _) (fun b hb _ => by have hb' : ((W1.alloc _).drew).heap.size ≤ b := hb; simp at hb'; exact ⟨by omega, by omega⟩)
        exact h1.stable (rdOf_stable _) ⟨Nat.le_of_eq zW.symm, fun b hb _ => kW b hb.2⟩ (fun b h _ => h)
  case rest =>
    obtain ⟨Bu, au, cu, rfl, HBu, hBu, HBx, HAu⟩ := hcut
    have hBuz : Bu < wc.heap.size := (Array.getElem?_eq_some_iff.1 HBu.out).1
    have hwc1 := HBx.out.size
    clear p0 f0 p1 f1 v1 v2 hd1 hW1
    refine ‹∀ (a : Act) (w : World), Code.wp _ _ _ a w → _› _ _ ?_
    go_wp2_with fail
    go_loopw [4] (fun i wr => ∃ (k : Nat) (v : Value), k ≤ n.kids.length ∧ i = .int .i64 k ∧ Hid (wr.heap[Bu]? = some (.cells #[.int .i64 n.tag, .slice au n.attrs.length cu, .string ⟨n.text.toArray⟩, v] 25)) ∧ Hid (RowX 25 4 (rdNod true h) wr wc.heap.size v (n.kids.take k)) ∧ Hid (Keeps (fun b => ¬ b = Bu) wc wr) ∧ Hid (Below W1.heap.size W1 wr)) (fun i _ => n.kids.length - (intOf i).toNat)
    case atStart => exact ⟨0, .slice none 0 0, Nat.zero_le _, rfl, HBu, Lib.hid (RowX.nil _ _ _ _ _), Lib.hid (Keeps.refl _ _), HBx⟩
    case round =>
      obtain ⟨k, v, hk, rfl, HBv, HO, HKb, HBr⟩ := hrel
      have hwz := HKb.out.size
      obtain ⟨q0, g0⟩ := blk (heap_below HBr.out HB0.out)
      obtain ⟨qu, gu⟩ := blk HBv.out
      obtain ⟨ov, oc, hve⟩ := HO.out.slice
      by_cases hlt : k < n.kids.length
      · obtain ⟨x, hl, hd⟩ := getOf n.kids k hlt
        obtain ⟨b, o, xa, xc, ya, yc, h', rfl, rfl, hA⟩ := HX.out k x hl
        have hfl := fit_mem HF.out (List.mem_of_getElem? hl)
        have HT := Lib.hid (take_some hl)
        have hbw : Below w0.heap.size w0 wr := below_from hbw1 HBr.out
        have HW : Hid (∀ W, Below w0.heap.size w0 W → Calls Tryd.prog 16 #[nodV x (.slice xa x.attrs.length xc) (.slice ya x.kids.length yc)] W fun e w' => ∃ a' k', e = .returned (nodV x a' k') ∧ AttsR true w' (fun b => W.heap.size ≤ b) a' x.attrs ∧ NodsR true h' w' (fun b => W.heap.size ≤ b) k' x.kids ∧ Below W.heap.size W w') := Lib.hid fun W hW => HI.out h' rfl x _ _ W W S (hA.below hW).attrsR (hA.below hW).kidsR (Below.refl _ _) hfl
        have hz0 : b < w0.heap.size := hA.lt
        obtain ⟨_, c0, c1, c2, c3, _, _⟩ := hA.below hbw
        have i0 : (0 : Int) ≤ (k : Int) := Int.natCast_nonneg _
        have i1 : (k : Int) < (n.kids.length : Int) := by omega
        have htl : (n.kids.take k).length + 1 ≤ 100000000 := by rw [List.length_take]; omega
        have hz00 := h0.size
        have hzA : w.heap.size < wr.heap.size := by omega
        have hzU : Bu < wr.heap.size := by omega
        have hzb : b < wr.heap.size := by omega
        have hkl : (n.kids.take k).length = k := by rw [List.length_take]; omega
        have HL1 : Hid ((n.kids.take (k + 1)).length = k + 1) := Lib.hid (by rw [List.length_take]; omega)
        rw [hkl] at hve htl
        have hbc : b < wc.heap.size := by omega
        have hwcz : w.heap.size < wc.heap.size := by omega
        have ne1 : ¬ Bu = w.heap.size := by omega
        have ne2 : ¬ w.heap.size = Bu := by omega
        have ne3 : ¬ Bu = b := by omega
        have ne4 : ¬ b = Bu := by omega
        have HKL := Lib.hid hkl
        clear hA hd hl hfl hkl
        subst hve
        go_wp2_with fail
        refine wp_region_noPanic ?_
        refine wp_region_held_drew (S := (fun w' => w'.cell? ⟨w.heap.size, 3, none⟩ = some (.slice (some ⟨b, o, none⟩) n.kids.length kc) ∧ w'.cell? ⟨b, o + k * 4, none⟩ = some (.int .i64 x.tag) ∧ w'.cell? ⟨b, o + k * 4 + 1, none⟩ = some (.slice xa x.attrs.length xc) ∧ w'.cell? ⟨b, o + k * 4 + 2, none⟩ = some (.string ⟨x.text.toArray⟩) ∧ w'.cell? ⟨b, o + k * 4 + 3, none⟩ = some (.slice ya x.kids.length yc))) (by kernel_rfl) (by (try dsimp only) <;> go_keep) (fun hHeld => ?_)
        refine wpAnyH_take (i := 0) (v := ?_) (by simp only [List.getElem?_toArray, List.getElem?_cons_zero]; rfl) (by kernel_rfl) (by kernel_rfl) (by kernel_rfl) (fun _ _ _ h => h) (Or.inl ⟨by rfl, ?_⟩) (by assumption) ?_
        rotate_left 1
        · intro w hSw; (try dsimp only at hSw); go_simp; (first | done | with_reducible rfl)
        try simp only [Act.put, List.setIfInBounds_toArray, List.set_cons_zero, List.set_cons_succ]
        refine wpAnyH_take (i := 2) (v := ?_) (by simp only [List.getElem?_toArray, List.getElem?_cons_succ, List.getElem?_cons_zero]; rfl) (by kernel_rfl) (by kernel_rfl) (by kernel_rfl) (fun _ _ _ h => h) (Or.inl ⟨by rfl, ?_⟩) (by assumption) ?_
        rotate_left 1
        · intro w hSw; (try dsimp only at hSw); go_simp; (first | done | with_reducible rfl)
        try simp only [Act.put, List.setIfInBounds_toArray, List.set_cons_zero, List.set_cons_succ]
        refine wpAnyH_take (i := 3) (v := ?_) (by simp only [List.getElem?_toArray, List.getElem?_cons_succ, List.getElem?_cons_zero]; rfl) (by kernel_rfl) (by kernel_rfl) (by kernel_rfl) (fun _ _ _ h => h) (Or.inl ⟨by rfl, ?_⟩) (by assumption) ?_
        rotate_left 1
        · intro w hSw; (try dsimp only at hSw); go_simp; (first | done | with_reducible rfl)
        try simp only [Act.put, List.setIfInBounds_toArray, List.set_cons_zero, List.set_cons_succ]
        refine wpAnyH_take (i := 4) (v := ?_) (by simp only [List.getElem?_toArray, List.getElem?_cons_succ, List.getElem?_cons_zero]; rfl) (by kernel_rfl) (by kernel_rfl) (by kernel_rfl) (fun _ _ _ h => h) (Or.inl ⟨by rfl, ?_⟩) (by assumption) ?_
        rotate_left 1
        · intro w hSw; (try dsimp only at hSw); go_simp; (first | done | with_reducible rfl)
        try simp only [Act.put, List.setIfInBounds_toArray, List.set_cons_zero, List.set_cons_succ]
        refine wpAnyH_take (i := 5) (v := ?_) (by simp only [List.getElem?_toArray, List.getElem?_cons_succ, List.getElem?_cons_zero]; rfl) (by kernel_rfl) (by kernel_rfl) (by kernel_rfl) (fun _ _ _ h => h) (Or.inl ⟨by rfl, ?_⟩) (by assumption) ?_
        rotate_left 1
        · intro w hSw; (try dsimp only at hSw); go_simp; (first | done | with_reducible rfl)
        try simp only [Act.put, List.setIfInBounds_toArray, List.set_cons_zero, List.set_cons_succ]
        refine wpAnyH_take (i := 6) (v := ?_) (by simp only [List.getElem?_toArray, List.getElem?_cons_succ, List.getElem?_cons_zero]; rfl) (by kernel_rfl) (by kernel_rfl) (by kernel_rfl) (fun _ _ _ h => h) (Or.inl ⟨by rfl, ?_⟩) (by assumption) ?_
        rotate_left 1
        · intro w hSw; (try dsimp only at hSw); go_simp; (first | done | with_reducible rfl)
        try simp only [Act.put, List.setIfInBounds_toArray, List.set_cons_zero, List.set_cons_succ]
        refine wpAnyH_ready (rs := [1, 7]) (by kernel_rfl) (by simp) ?_
        refine AllReadyH.cons (by simp only [List.getElem?_toArray, List.getElem?_cons_succ, List.getElem?_cons_zero]; rfl) (fun K hK => ?_) ?_
        · go_simp
          refine hK.out _ _ (by (try dsimp only) <;> go_keep) (fun hHeld => ?_)
          clear hK K
          try simp only [Act.put, List.setIfInBounds_toArray, List.set_cons_zero, List.set_cons_succ]
          clear hHeld
          refine wpAnyH_ready (rs := [7]) (by kernel_rfl) (by simp) ?_
          refine AllReadyH.cons (by simp only [List.getElem?_toArray, List.getElem?_cons_succ, List.getElem?_cons_zero]; rfl) (fun K hK => ?_) AllReadyH.nil
          go_simp
          (go_at_call 16; (with_reducible refine (HW.out _ (below_from hbw (Below.refl _ _).drew)).mono ?_); rintro e w2 ⟨a', b', rfl, ha', hb', hb2⟩; obtain ⟨xa1, xc1, rfl⟩ := ha'.slice; obtain ⟨xa2, xc2, rfl⟩ := hb'.slice; have HA1 := Lib.hid ha'; have HA2 := Lib.hid hb'; have HB2 := Lib.hid hb2; clear ha' hb'; obtain ⟨r1, r2⟩ := bcell hb2; have hk1 := r1 b (o + k * 4) hzb; have hk2 := r1 b (o + k * 4 + 1) hzb; have hk3 := r1 b (o + k * 4 + 2) hzb; have hk4 := r1 b (o + k * 4 + 3) hzb; have hk5 := r1 Bu 3 hzU; have hk6 := r1 w.heap.size 3 hzA; clear r1 r2; have hz2 := hb2.size; have hz2 : wr.heap.size ≤ w2.heap.size := hz2; have HU2 := Lib.hid (heap_below hb2 (show (wr.drew).heap[Bu]? = _ from HBv.out)); obtain ⟨j1, j2⟩ := blk HU2.out; have v7 : ¬ Bu = w2.heap.size := (by omega); have v8 : ¬ w2.heap.size = Bu := (by omega); have j3 := (blk (heap_old _ (.cells #[.int .i64 x.tag, .slice xa1 x.attrs.length xc1, .string ⟨x.text.toArray⟩, .slice xa2 x.kids.length xc2] 25) HU2.out)).1 3; clear hb2; unfold nodV)
          refine hK.out _ _ (by (try dsimp only) <;> go_keep) (fun hHeld => ?_)
          clear hK K
          try simp only [Act.put, List.setIfInBounds_toArray, List.set_cons_zero, List.set_cons_succ]
          clear hHeld
          refine wpAnyH_ready (rs := [8]) (by kernel_rfl) (by simp) ?_
          refine AllReadyH.cons (by simp only [List.getElem?_toArray, List.getElem?_cons_succ, List.getElem?_cons_zero]; rfl) (fun K hK => ?_) AllReadyH.nil
          go_simp
          refine hK.out _ _ (by (try dsimp only) <;> go_keep) (fun hHeld => ?_)
          clear hK K
          try simp only [Act.put, List.setIfInBounds_toArray, List.set_cons_zero, List.set_cons_succ]
          clear hHeld
          refine wpAnyH_ready (rs := [9]) (by kernel_rfl) (by simp) ?_
          refine AllReadyH.cons (by simp only [List.getElem?_toArray, List.getElem?_cons_succ, List.getElem?_cons_zero]; rfl) (fun K hK => ?_) AllReadyH.nil
          ((refine step_append_X (by rfl) _ _ 23 23 (by rfl) rowNod (eltNod (h' + 1)) wc.heap.size (.slice ov k oc) _ (xs := n.kids.take k) (ys := [x]) (news := [.int .i64 x.tag, .slice xa1 x.attrs.length xc1, .string ⟨x.text.toArray⟩, .slice xa2 x.kids.length xc2]) (by rfl) (by rfl) (HO.out.below (rdNod_stable _ _) ((((Keeps.refl _ _).drew).on HB2.out).alloc _)) (by simp; omega) (src_one rowNod w2 _ rfl (oneV_node _ _ _ _ _ _ _) 1) (news_apart (rdNod_stable _ _) HO.out hwz (NewsR.one rfl ⟨_, _, rfl, HA1.out.stable (rdOf_stable _) ((Keeps.refl _ _).alloc _) (fun b h _ => h), HA2.out.stable (rdNod_stable _ _) ((Keeps.refl _ _).alloc _) (fun b h _ => h)⟩)) (by rw [HKL.out]; exact htl) ?_); intro v3 w3 hv3 hb3 _ _; rw [← HT.out] at hv3; obtain ⟨a3, c3, hv3e⟩ := hv3.slice; rw [HL1.out] at hv3e; subst hv3e; have e1 : w3.heap[b]? = w2.heap[b]? := (hb3.block b hbc).trans (heap_alloc_old _ _ (by omega)); have e2 : w3.heap[w.heap.size]? = w2.heap[w.heap.size]? := (hb3.block _ hwcz).trans (heap_alloc_old _ _ (by omega)); have m1 := World.cell?_of_block (a := Addr.mk b (o + k * 4) none) e1; have m2 := World.cell?_of_block (a := Addr.mk b (o + k * 4 + 1) none) e1; have m3 := World.cell?_of_block (a := Addr.mk b (o + k * 4 + 2) none) e1; have m4 := World.cell?_of_block (a := Addr.mk b (o + k * 4 + 3) none) e1; have m5 := World.cell?_of_block (a := Addr.mk w.heap.size (3) none) e2; clear e1 e2; have HR3 := Lib.hid hv3; have HB3 := Lib.hid hb3; clear hv3; obtain ⟨t1, t2⟩ := blk ((hb3.block Bu hBuz).trans (heap_old _ _ HU2.out)); clear hb3)
          refine hK.out _ _ (by (try dsimp only) <;> go_keep) (fun hHeld => ?_)
          clear hK K
          try simp only [Act.put, List.setIfInBounds_toArray, List.set_cons_zero, List.set_cons_succ]
          refine wpAnyH_take (i := 10) (v := ?_) (by simp only [List.getElem?_toArray, List.getElem?_cons_succ, List.getElem?_cons_zero]; rfl) (by kernel_rfl) (by kernel_rfl) (by kernel_rfl) (fun _ _ _ h => h) (Or.inl ⟨by rfl, ?_⟩) (by assumption) ?_
          rotate_left 1
          · intro w hSw; (try dsimp only at hSw); go_simp; (first | done | with_reducible rfl)
          try simp only [Act.put, List.setIfInBounds_toArray, List.set_cons_zero, List.set_cons_succ]
          refine wpAnyH_ready (rs := [11]) (by kernel_rfl) (by simp) ?_
          refine AllReadyH.cons (by simp only [List.getElem?_toArray, List.getElem?_cons_succ, List.getElem?_cons_zero]; rfl) (fun K hK => ?_) AllReadyH.nil
          go_simp
          refine hK.out _ _ (by (try dsimp only) <;> go_keep) (fun hHeld => ?_)
          clear hK K
          try simp only [Act.put, List.setIfInBounds_toArray, List.set_cons_zero, List.set_cons_succ]
          clear hHeld
          refine wpAnyH_done (by kernel_rfl) ?_ _
          refine NoPanic.normal ?_
          go_wp2_with fail
          go_roundw
          case rel =>
            have hU3 := (HB3.out.block Bu hBuz).trans (heap_old _ _ HU2.out)
            refine ⟨k + 1, _, hlt, by go_num, Lib.hid (by simp [heap_set, putIn, hU3]), Lib.hid (HR3.out.below (rdNod_stable _ _) ((Keeps.refl _ _).set (by simp; omega) _)), Lib.hid ?_, Lib.hid ?_⟩
            · refine Keeps.set ?_ (by simp) _
              have k1 : Keeps (fun b => ¬ b = Bu) wc (w2.alloc (.cells #[.int .i64 x.tag, .slice xa1 x.attrs.length xc1, .string ⟨x.text.toArray⟩, .slice xa2 x.kids.length xc2] 25)) := (((HKb.out.drew).on HB2.out).alloc _)
              exact ⟨Nat.le_trans k1.size HB3.out.size, fun b hb hz => (HB3.out.block b hz).trans (k1.block b hb hz)⟩
            · have k2 : Below W1.heap.size W1 (w2.alloc (.cells #[.int .i64 x.tag, .slice xa1 x.attrs.length xc1, .string ⟨x.text.toArray⟩, .slice xa2 x.kids.length xc2] 25)) := (below_from HBr.out.drew HB2.out).alloc (by omega) _
              exact (k2.trans (HB3.out.mono hwc1)).setCell hBu _
          case measure => simp [intOf]; omega
        refine AllReadyH.cons (by simp only [List.getElem?_toArray, List.getElem?_cons_succ, List.getElem?_cons_zero]; rfl) (fun K hK => ?_) ?_
        · go_simp
          (go_at_call 16; (with_reducible refine (HW.out _ (below_from hbw (Below.refl _ _).drew)).mono ?_); rintro e w2 ⟨a', b', rfl, ha', hb', hb2⟩; obtain ⟨xa1, xc1, rfl⟩ := ha'.slice; obtain ⟨xa2, xc2, rfl⟩ := hb'.slice; have HA1 := Lib.hid ha'; have HA2 := Lib.hid hb'; have HB2 := Lib.hid hb2; clear ha' hb'; obtain ⟨r1, r2⟩ := bcell hb2; have hk1 := r1 b (o + k * 4) hzb; have hk2 := r1 b (o + k * 4 + 1) hzb; have hk3 := r1 b (o + k * 4 + 2) hzb; have hk4 := r1 b (o + k * 4 + 3) hzb; have hk5 := r1 Bu 3 hzU; have hk6 := r1 w.heap.size 3 hzA; clear r1 r2; have hz2 := hb2.size; have hz2 : wr.heap.size ≤ w2.heap.size := hz2; have HU2 := Lib.hid (heap_below hb2 (show (wr.drew).heap[Bu]? = _ from HBv.out)); obtain ⟨j1, j2⟩ := blk HU2.out; have v7 : ¬ Bu = w2.heap.size := (by omega); have v8 : ¬ w2.heap.size = Bu := (by omega); have j3 := (blk (heap_old _ (.cells #[.int .i64 x.tag, .slice xa1 x.attrs.length xc1, .string ⟨x.text.toArray⟩, .slice xa2 x.kids.length xc2] 25) HU2.out)).1 3; clear hb2; unfold nodV)
          refine hK.out _ _ (by (try dsimp only) <;> go_keep) (fun hHeld => ?_)
          clear hK K
          try simp only [Act.put, List.setIfInBounds_toArray, List.set_cons_zero, List.set_cons_succ]
          clear hHeld
          refine wpAnyH_ready (rs := [1, 8]) (by kernel_rfl) (by simp) ?_
          refine AllReadyH.cons (by simp only [List.getElem?_toArray, List.getElem?_cons_succ, List.getElem?_cons_zero]; rfl) (fun K hK => ?_) ?_
          · go_simp
            refine hK.out _ _ (by (try dsimp only) <;> go_keep) (fun hHeld => ?_)
            clear hK K
            try simp only [Act.put, List.setIfInBounds_toArray, List.set_cons_zero, List.set_cons_succ]
            clear hHeld
            refine wpAnyH_ready (rs := [8]) (by kernel_rfl) (by simp) ?_
            refine AllReadyH.cons (by simp only [List.getElem?_toArray, List.getElem?_cons_succ, List.getElem?_cons_zero]; rfl) (fun K hK => ?_) AllReadyH.nil
            go_simp
            refine hK.out _ _ (by (try dsimp only) <;> go_keep) (fun hHeld => ?_)
            clear hK K
            try simp only [Act.put, List.setIfInBounds_toArray, List.set_cons_zero, List.set_cons_succ]
            clear hHeld
            refine wpAnyH_ready (rs := [9]) (by kernel_rfl) (by simp) ?_
            refine AllReadyH.cons (by simp only [List.getElem?_toArray, List.getElem?_cons_succ, List.getElem?_cons_zero]; rfl) (fun K hK => ?_) AllReadyH.nil
            ((refine step_append_X (by rfl) _ _ 23 23 (by rfl) rowNod (eltNod (h' + 1)) wc.heap.size (.slice ov k oc) _ (xs := n.kids.take k) (ys := [x]) (news := [.int .i64 x.tag, .slice xa1 x.attrs.length xc1, .string ⟨x.text.toArray⟩, .slice xa2 x.kids.length xc2]) (by rfl) (by rfl) (HO.out.below (rdNod_stable _ _) ((((Keeps.refl _ _).drew).on HB2.out).alloc _)) (by simp; omega) (src_one rowNod w2 _ rfl (oneV_node _ _ _ _ _ _ _) 1) (news_apart (rdNod_stable _ _) HO.out hwz (NewsR.one rfl ⟨_, _, rfl, HA1.out.stable (rdOf_stable _) ((Keeps.refl _ _).alloc _) (fun b h _ => h), HA2.out.stable (rdNod_stable _ _) ((Keeps.refl _ _).alloc _) (fun b h _ => h)⟩)) (by rw [HKL.out]; exact htl) ?_); intro v3 w3 hv3 hb3 _ _; rw [← HT.out] at hv3; obtain ⟨a3, c3, hv3e⟩ := hv3.slice; rw [HL1.out] at hv3e; subst hv3e; have e1 : w3.heap[b]? = w2.heap[b]? := (hb3.block b hbc).trans (heap_alloc_old _ _ (by omega)); have e2 : w3.heap[w.heap.size]? = w2.heap[w.heap.size]? := (hb3.block _ hwcz).trans (heap_alloc_old _ _ (by omega)); have m1 := World.cell?_of_block (a := Addr.mk b (o + k * 4) none) e1; have m2 := World.cell?_of_block (a := Addr.mk b (o + k * 4 + 1) none) e1; have m3 := World.cell?_of_block (a := Addr.mk b (o + k * 4 + 2) none) e1; have m4 := World.cell?_of_block (a := Addr.mk b (o + k * 4 + 3) none) e1; have m5 := World.cell?_of_block (a := Addr.mk w.heap.size (3) none) e2; clear e1 e2; have HR3 := Lib.hid hv3; have HB3 := Lib.hid hb3; clear hv3; obtain ⟨t1, t2⟩ := blk ((hb3.block Bu hBuz).trans (heap_old _ _ HU2.out)); clear hb3)
            refine hK.out _ _ (by (try dsimp only) <;> go_keep) (fun hHeld => ?_)
            clear hK K
            try simp only [Act.put, List.setIfInBounds_toArray, List.set_cons_zero, List.set_cons_succ]
            refine wpAnyH_take (i := 10) (v := ?_) (by simp only [List.getElem?_toArray, List.getElem?_cons_succ, List.getElem?_cons_zero]; rfl) (by kernel_rfl) (by kernel_rfl) (by kernel_rfl) (fun _ _ _ h => h) (Or.inl ⟨by rfl, ?_⟩) (by assumption) ?_
            rotate_left 1
            · intro w hSw; (try dsimp only at hSw); go_simp; (first | done | with_reducible rfl)
            try simp only [Act.put, List.setIfInBounds_toArray, List.set_cons_zero, List.set_cons_succ]
            refine wpAnyH_ready (rs := [11]) (by kernel_rfl) (by simp) ?_
            refine AllReadyH.cons (by simp only [List.getElem?_toArray, List.getElem?_cons_succ, List.getElem?_cons_zero]; rfl) (fun K hK => ?_) AllReadyH.nil
            go_simp
            refine hK.out _ _ (by (try dsimp only) <;> go_keep) (fun hHeld => ?_)
            clear hK K
            try simp only [Act.put, List.setIfInBounds_toArray, List.set_cons_zero, List.set_cons_succ]
            clear hHeld
            refine wpAnyH_done (by kernel_rfl) ?_ _
            refine NoPanic.normal ?_
            go_wp2_with fail
            go_roundw
            case rel =>
              have hU3 := (HB3.out.block Bu hBuz).trans (heap_old _ _ HU2.out)
              refine ⟨k + 1, _, hlt, by go_num, Lib.hid (by simp [heap_set, putIn, hU3]), Lib.hid (HR3.out.below (rdNod_stable _ _) ((Keeps.refl _ _).set (by simp; omega) _)), Lib.hid ?_, Lib.hid ?_⟩
              · refine Keeps.set ?_ (by simp) _
                have k1 : Keeps (fun b => ¬ b = Bu) wc (w2.alloc (.cells #[.int .i64 x.tag, .slice xa1 x.attrs.length xc1, .string ⟨x.text.toArray⟩, .slice xa2 x.kids.length xc2] 25)) := (((HKb.out.drew).on HB2.out).alloc _)
                exact ⟨Nat.le_trans k1.size HB3.out.size, fun b hb hz => (HB3.out.block b hz).trans (k1.block b hb hz)⟩
              · have k2 : Below W1.heap.size W1 (w2.alloc (.cells #[.int .i64 x.tag, .slice xa1 x.attrs.length xc1, .string ⟨x.text.toArray⟩, .slice xa2 x.kids.length xc2] 25)) := (below_from HBr.out.drew HB2.out).alloc (by omega) _
                exact (k2.trans (HB3.out.mono hwc1)).setCell hBu _
            case measure => simp [intOf]; omega
          refine AllReadyH.cons (by simp only [List.getElem?_toArray, List.getElem?_cons_succ, List.getElem?_cons_zero]; rfl) (fun K hK => ?_) ?_
          · go_simp
            refine hK.out _ _ (by (try dsimp only) <;> go_keep) (fun hHeld => ?_)
            clear hK K
            try simp only [Act.put, List.setIfInBounds_toArray, List.set_cons_zero, List.set_cons_succ]
            clear hHeld
            refine wpAnyH_ready (rs := [1]) (by kernel_rfl) (by simp) ?_
            refine AllReadyH.cons (by simp only [List.getElem?_toArray, List.getElem?_cons_succ, List.getElem?_cons_zero]; rfl) (fun K hK => ?_) AllReadyH.nil
            go_simp
            refine hK.out _ _ (by (try dsimp only) <;> go_keep) (fun hHeld => ?_)
            clear hK K
            try simp only [Act.put, List.setIfInBounds_toArray, List.set_cons_zero, List.set_cons_succ]
            clear hHeld
            refine wpAnyH_ready (rs := [9]) (by kernel_rfl) (by simp) ?_
            refine AllReadyH.cons (by simp only [List.getElem?_toArray, List.getElem?_cons_succ, List.getElem?_cons_zero]; rfl) (fun K hK => ?_) AllReadyH.nil
            ((refine step_append_X (by rfl) _ _ 23 23 (by rfl) rowNod (eltNod (h' + 1)) wc.heap.size (.slice ov k oc) _ (xs := n.kids.take k) (ys := [x]) (news := [.int .i64 x.tag, .slice xa1 x.attrs.length xc1, .string ⟨x.text.toArray⟩, .slice xa2 x.kids.length xc2]) (by rfl) (by rfl) (HO.out.below (rdNod_stable _ _) ((((Keeps.refl _ _).drew).on HB2.out).alloc _)) (by simp; omega) (src_one rowNod w2 _ rfl (oneV_node _ _ _ _ _ _ _) 1) (news_apart (rdNod_stable _ _) HO.out hwz (NewsR.one rfl ⟨_, _, rfl, HA1.out.stable (rdOf_stable _) ((Keeps.refl _ _).alloc _) (fun b h _ => h), HA2.out.stable (rdNod_stable _ _) ((Keeps.refl _ _).alloc _) (fun b h _ => h)⟩)) (by rw [HKL.out]; exact htl) ?_); intro v3 w3 hv3 hb3 _ _; rw [← HT.out] at hv3; obtain ⟨a3, c3, hv3e⟩ := hv3.slice; rw [HL1.out] at hv3e; subst hv3e; have e1 : w3.heap[b]? = w2.heap[b]? := (hb3.block b hbc).trans (heap_alloc_old _ _ (by omega)); have e2 : w3.heap[w.heap.size]? = w2.heap[w.heap.size]? := (hb3.block _ hwcz).trans (heap_alloc_old _ _ (by omega)); have m1 := World.cell?_of_block (a := Addr.mk b (o + k * 4) none) e1; have m2 := World.cell?_of_block (a := Addr.mk b (o + k * 4 + 1) none) e1; have m3 := World.cell?_of_block (a := Addr.mk b (o + k * 4 + 2) none) e1; have m4 := World.cell?_of_block (a := Addr.mk b (o + k * 4 + 3) none) e1; have m5 := World.cell?_of_block (a := Addr.mk w.heap.size (3) none) e2; clear e1 e2; have HR3 := Lib.hid hv3; have HB3 := Lib.hid hb3; clear hv3; obtain ⟨t1, t2⟩ := blk ((hb3.block Bu hBuz).trans (heap_old _ _ HU2.out)); clear hb3)
            refine hK.out _ _ (by (try dsimp only) <;> go_keep) (fun hHeld => ?_)
            clear hK K
            try simp only [Act.put, List.setIfInBounds_toArray, List.set_cons_zero, List.set_cons_succ]
            refine wpAnyH_take (i := 10) (v := ?_) (by simp only [List.getElem?_toArray, List.getElem?_cons_succ, List.getElem?_cons_zero]; rfl) (by kernel_rfl) (by kernel_rfl) (by kernel_rfl) (fun _ _ _ h => h) (Or.inl ⟨by rfl, ?_⟩) (by assumption) ?_
            rotate_left 1
            · intro w hSw; (try dsimp only at hSw); go_simp; (first | done | with_reducible rfl)
            try simp only [Act.put, List.setIfInBounds_toArray, List.set_cons_zero, List.set_cons_succ]
            refine wpAnyH_ready (rs := [11]) (by kernel_rfl) (by simp) ?_
            refine AllReadyH.cons (by simp only [List.getElem?_toArray, List.getElem?_cons_succ, List.getElem?_cons_zero]; rfl) (fun K hK => ?_) AllReadyH.nil
            go_simp
            refine hK.out _ _ (by (try dsimp only) <;> go_keep) (fun hHeld => ?_)
            clear hK K
            try simp only [Act.put, List.setIfInBounds_toArray, List.set_cons_zero, List.set_cons_succ]
            clear hHeld
            refine wpAnyH_done (by kernel_rfl) ?_ _
            refine NoPanic.normal ?_
            go_wp2_with fail
            go_roundw
            case rel =>
              have hU3 := (HB3.out.block Bu hBuz).trans (heap_old _ _ HU2.out)
              refine ⟨k + 1, _, hlt, by go_num, Lib.hid (by simp [heap_set, putIn, hU3]), Lib.hid (HR3.out.below (rdNod_stable _ _) ((Keeps.refl _ _).set (by simp; omega) _)), Lib.hid ?_, Lib.hid ?_⟩
              · refine Keeps.set ?_ (by simp) _
                have k1 : Keeps (fun b => ¬ b = Bu) wc (w2.alloc (.cells #[.int .i64 x.tag, .slice xa1 x.attrs.length xc1, .string ⟨x.text.toArray⟩, .slice xa2 x.kids.length xc2] 25)) := (((HKb.out.drew).on HB2.out).alloc _)
                exact ⟨Nat.le_trans k1.size HB3.out.size, fun b hb hz => (HB3.out.block b hz).trans (k1.block b hb hz)⟩
              · have k2 : Below W1.heap.size W1 (w2.alloc (.cells #[.int .i64 x.tag, .slice xa1 x.attrs.length xc1, .string ⟨x.text.toArray⟩, .slice xa2 x.kids.length xc2] 25)) := (below_from HBr.out.drew HB2.out).alloc (by omega) _
                exact (k2.trans (HB3.out.mono hwc1)).setCell hBu _
            case measure => simp [intOf]; omega
          exact AllReadyH.nil
        exact AllReadyH.nil
      · obtain rfl : k = n.kids.length := by omega
        have HT := Lib.hid (List.take_length (l := n.kids))
        subst hve
        have hB1r := heap_below HBr.out HB1.out
        have HB1r := Lib.hid hB1r
        obtain ⟨qq, gg⟩ := blk hB1r
        clear hB1r
        go_wp2_with fail
        refine bodyPost_ret (results_node rfl _ _ (w.heap.size + 1) (.int .i64 n.tag) (.slice au n.attrs.length cu) (.string ⟨n.text.toArray⟩) (.slice ov n.kids.length oc) rfl (by simp [heap_set, putIn, HB1r.out])) rfl ?_
        have hO := HO.out
        rw [HT.out] at hO
        have hne : ¬ w.heap.size + 1 = Bu := by omega
        refine ⟨_, _, rfl, ?_, ?_, ?_⟩
        · have h1 := HAu.out.stable (rdOf_stable _) (Keeps.refl _ _) (fun b hb hz => (⟨hb.2, hb.1⟩ : ¬ b = Bu ∧ W1.heap.size ≤ b))
          have h2 : AttsR true wr (fun b => ¬ b = Bu ∧ W1.heap.size ≤ b) (.slice au n.attrs.length cu) n.attrs := h1.stable (rdOf_stable _) ⟨HKb.out.size, fun b hb hz => HKb.out.block b hb.1 hz⟩ (fun _ h _ => h)
          exact h2.stable (rdOf_stable _) (((((Keeps.refl _ _).set (by simp; omega) _).set (by simp; omega) _).set (by simp; omega) _).set (by simp; omega) _) (fun b hb _ => by have := hb.2; omega)
        · have h1 := hO.row (rdNod_stable _ _)
          exact h1.stable (rdNod_stable _ _) (((((Keeps.refl _ _).set (by simp; omega) _).set (by simp; omega) _).set (by simp; omega) _).set (by simp; omega) _) (fun b hb _ => by have hb' : wc.heap.size ≤ b := hb; omega)
        · have h1 : Below w.heap.size w wr := hB.trans (HBr.out.mono hBs)
          exact (((h1.setCell (by simp) _).setCell (by simp) _).setCell (by simp) _).setCell (by simp) _
theorem rown_all : ∀ h, ROwnAt h
  | 0 => rown_step 0 (fun _ e => by cases e)
  | h + 1 => rown_step (h + 1) (fun h' e => by cases e; exact rown_all h)
end Go.Proofs.YtgeaijnelopkbaaDoor
namespace Go.Proofs.Qw
open Go.RowKit Go.Proofs.YtgeaijnelopkbaaDoor
def ShpN (w wr : World) : Prop := ∀ (b : Nat) (cs : Array Value) (t : TypeId), w.heap[b]? = some (.cells cs t) → ∃ cs' : Array Value, wr.heap[b]? = some (.cells cs' t) ∧ cs'.size = cs.size ∧ (t = 25 → ∀ (j : Nat) (a : Option Addr) (n c : Nat), cs[j]? = some (.slice a n c) → cs'[j]? = some (.slice a n c))
theorem ShpN.refl (w : World) : ShpN w w := fun _ cs _ h => ⟨cs, h, rfl, fun _ _ _ _ _ h => h⟩
theorem ShpN.set {w wr : World} (h : ShpN w wr) {B off : Nat} {cs : Array Value} {t : TypeId} (hB : w.heap[B]? = some (.cells cs t)) (ht : t = 25 → ∃ k z, cs[off]? = some (.int k z)) (v : Value) : ShpN w (wr.setCell ⟨B, off, none⟩ v) := by
  intro b cs2 t2 h2
  obtain ⟨cs', g1, g2, g3⟩ := h b cs2 t2 h2
  by_cases e : B = b
  · subst e
    rw [hB] at h2
    cases h2
    refine ⟨cs'.setIfInBounds off v, by rw [heap_set, if_pos rfl, g1]; rfl, by simpa using g2, fun e j a n c hj => ?_⟩
    obtain ⟨k, z, hz⟩ := ht e
    have hne : off ≠ j := fun e2 => by subst e2; rw [hz] at hj; cases hj
    rw [Array.getElem?_setIfInBounds, if_neg hne]
    exact g3 e j a n c hj
  · exact ⟨cs', by rw [heap_set, if_neg e]; exact g1, g2, g3⟩
theorem ShpN.at {w wr : World} (h : ShpN w wr) {B off : Nat} {cs : Array Value} {t : TypeId} (hB : w.heap[B]? = some (.cells cs t)) (ho : off < cs.size) : (∃ u, wr.cell? ⟨B, off, none⟩ = some u) ∧ wr.frozen? ⟨B, off, none⟩ = false := by
  obtain ⟨cs', g1, g2, _⟩ := h B cs t hB
  refine ⟨⟨cs'[off], ?_⟩, frozen_of_heap g1⟩
  rw [cell_of_heap g1, Array.getElem?_eq_getElem (by omega)]
theorem ShpN.slice {w wr : World} (h : ShpN w wr) {B off : Nat} {cs : Array Value} (hB : w.heap[B]? = some (.cells cs 25)) {a : Option Addr} {n c : Nat} (ho : cs[off]? = some (.slice a n c)) : wr.cell? ⟨B, off, none⟩ = some (.slice a n c) := by
  obtain ⟨cs', g1, _, g3⟩ := h B cs _ hB
  rw [cell_of_heap g1]
  exact g3 rfl off a n c ho
theorem nodsOwn_shape {h : Nat} {w : World} {S : Nat → Prop} {v : Value} {d : List Nod} (hd : NodsR true h w S v d) :
    ∃ a c, v = .slice a d.length c ∧ d.length ≤ c ∧ c ≤ maxLen ∧ ∀ i l, d[i]? = some l → ∃ h' b o, ∃ cs : Array Value, ∃ aa ac ka kc, h = h' + 1 ∧ a = some ⟨b, o, none⟩ ∧ S b ∧ w.heap[b]? = some (.cells cs 25) ∧ cs[o + i * 4]? = some (.int .i64 l.tag) ∧ cs[o + i * 4 + 1]? = some (.slice aa l.attrs.length ac) ∧
      cs[o + i * 4 + 3]? = some (.slice ka l.kids.length kc) ∧ AttsR true w S (.slice aa l.attrs.length ac) l.attrs ∧ NodsR true h' w S (.slice ka l.kids.length kc) l.kids := by
  obtain ⟨a, c, rfl, hc, hm, hx⟩ := SliceR.shape_own hd
  refine ⟨a, c, rfl, hc, hm, fun i l hl => ?_⟩
  obtain ⟨b, o, vs, cs, rfl, hz, hb, g1, g2, _, hR, he⟩ := hx i l hl
  match h, hR with
  | h' + 1, ⟨x, y, e, h1, h2⟩ =>
    subst e
    obtain ⟨aa, ac, rfl⟩ := h1.slice
    obtain ⟨ka, kc, rfl⟩ := h2.slice
    refine ⟨h', b, o, cs, aa, ac, ka, kc, rfl, rfl, hb, g1, ?_, ?_, ?_, h1, h2⟩
    · rw [← cell_of_heap g1]; exact he 0 _ rfl
    · rw [← cell_of_heap g1]; exact he 1 _ rfl
    · rw [← cell_of_heap g1]; exact he 3 _ rfl
end Go.Proofs.Qw
namespace Go.Proofs.YtgeaijnelopkbaaDoor
open Go.RowKit
open Go.Proofs.Qw
attribute [local go_sem ↓] Go.wp_at_zero Go.wp_at_succ
def SpoilAt (h : Nat) : Prop := ∀ (v : Value) (d : List Nod) (n : Nat) (w0 w : World), NodsR true h w0 (fun b => n ≤ b) v d → ShpN w0 w → Below n w0 w →
    Calls Tryd.prog 24 #[v] w fun e w' => (∃ u, e = .returned u) ∧ ShpN w0 w' ∧ Below n w0 w'
set_option maxRecDepth 100000 in
set_option maxHeartbeats 4000000 in
theorem spoilN_step (h : Nat) (ih : ∀ h', h = h' + 1 → SpoilAt h') : SpoilAt h := by
  intro v d n w0 w hv hS0 hB0
  obtain ⟨a, c, rfl, hc, hm, hx⟩ := nodsOwn_shape hv
  have HX := Lib.hid hx
  have HI := Lib.hid ih
  have HS0 := Lib.hid hS0
  have HB0 := Lib.hid hB0
  unfold maxLen at hm
  clear hx hv ih hS0 hB0
  go_enter Tryd.func24, Tryd.ntmps24
  go_wp2_with fail
  go_loopw [2, 3] (fun i _ wr => ∃ k : Nat, k ≤ d.length ∧ i = .int .i64 k ∧ Hid (ShpN w0 wr) ∧ Hid (Below n w0 wr)) (fun i _ _ => d.length - (intOf i).toNat)
  case atStart => exact ⟨0, Nat.zero_le _, rfl, HS0, HB0⟩
  case round =>
    obtain ⟨k, hk, rfl, HS, HB⟩ := hrel
    by_cases hlt : k < d.length
    · obtain ⟨x, hl, hd⟩ := getOf d k hlt
      obtain ⟨h', b, o, cs, aa, ac, ka, kc, rfl, rfl, hSb, hg, e0, e1, e3, hA, hK⟩ := HX.out k x hl
      have hSb : n ≤ b := hSb
      have hal := hA.len
      have hkl := hK.len
      have HL := Lib.hid (And.intro hg (And.intro e0 (And.intro e1 e3)))
      have HAK := Lib.hid (And.intro hA hK)
      have HW : Hid (∀ W, ShpN w0 W → Below n w0 W → Calls Tryd.prog 24 #[.slice ka x.kids.length kc] W fun e w' => (∃ u, e = .returned u) ∧ ShpN w0 w' ∧ Below n w0 w') := Lib.hid fun W h1 h2 => HI.out h' rfl _ _ n w0 W hK h1 h2
      have q1 := HS.out.slice hg e1
      have q3 := HS.out.slice hg e3
      unfold maxLen at hal hkl
      clear hl hd hA hK hg e0 e1 e3
      go_wp2_with (go_at_call 24; refine (HW.out _ HS.out HB.out).mono ?_; rintro e w2 ⟨⟨u, rfl⟩, hS2, hb2⟩; have p1 := hS2.slice HL.out.1 HL.out.2.2.1; have HS2 := Lib.hid hS2; have HB2 := Lib.hid hb2; clear hS2 hb2)
      go_loopw [3] (fun j wi => ∃ q : Nat, q ≤ x.attrs.length ∧ j = .int .i64 q ∧ Hid (ShpN w0 wi) ∧ Hid (Below n w0 wi)) (fun j _ => x.attrs.length - (intOf j).toNat)
      case atStart => exact ⟨0, Nat.zero_le _, rfl, HS2, HB2⟩
      case round =>
        clear q1 q3 p1 HS HB HS2 HB2
        obtain ⟨q, hq, rfl, HS, HB⟩ := hrel
        have q1 := HS.out.slice HL.out.1 HL.out.2.2.1
        by_cases hlt2 : q < x.attrs.length
        · obtain ⟨bc, oc, cs2, rfl, hSc, hg2, hsz⟩ := HAK.out.1.cellAt hlt2
          have hSc : n ≤ bc := hSc
          obtain ⟨⟨u, hu⟩, hf⟩ := HS.out.at (off := oc + q * 2) hg2 (by omega)
          have HG2 := Lib.hid hg2
          clear hg2
          go_wp2_with fail
          go_roundw
          case rel => exact ⟨q + 1, hlt2, by go_num, Lib.hid (HS.out.set HG2.out (fun e => absurd e (by decide)) _), Lib.hid (HB.out.setCell hSc _)⟩
          case measure => simp [intOf]; omega
        · obtain rfl : q = x.attrs.length := by omega
          have hos : o + k * 4 < cs.size := (Array.getElem?_eq_some_iff.1 HL.out.2.1).1
          obtain ⟨⟨u, hu⟩, hf⟩ := HS.out.at (off := o + k * 4) HL.out.1 hos
          go_wp2_with fail
          go_roundw
          case rel => exact ⟨k + 1, hlt, by go_num, Lib.hid (HS.out.set HL.out.1 (fun _ => ⟨_, _, HL.out.2.1⟩) _), Lib.hid (HB.out.setCell hSb _)⟩
          case measure => simp [intOf]; omega
    · obtain rfl : k = d.length := by omega
      go_wp2_with fail
      go_returns
      exact ⟨⟨_, rfl⟩, HS.out, HB.out⟩
theorem spoilN_all : ∀ h, SpoilAt h
  | 0 => spoilN_step 0 (fun _ e => by cases e)
  | h + 1 => spoilN_step (h + 1) (fun h' e => by cases e; exact spoilN_all h)
theorem spoilN_any (h : Nat) (v : Value) (d : List Nod) (n : Nat) (w : World) (hv : NodsR true h w (fun b => n ≤ b) v d) :
    Calls Tryd.prog 24 #[v] w fun e w' => (∃ u, e = .returned u) ∧ Below n w w' :=
  (spoilN_all h v d n w w hv (ShpN.refl _) (Below.refl _ _)).mono fun _ _ h => ⟨h.1, h.2.2⟩
end Go.Proofs.YtgeaijnelopkbaaDoor
namespace Go.Proofs.Qw
open Go.RowKit Go.Proofs.YtgeaijnelopkbaaDoor
theorem light_node2 {n : Nod} (h : ¬ weighN n 3000 < 0) : FitN n ∧ n.count ≤ 1000000000 ∧ n.deep ≤ 1000000000 := by
  have hm := weighN_is n 3000 (by omega)
  have h1 := Nod.count_le n
  have h2 := Nod.deep_le n
  exact ⟨fit_light n (by omega), by omega, by omega⟩
end Go.Proofs.Qw
namespace Go.Proofs.YtgeaijnelopkbaaDoor
open Go.RowKit
open Go.Proofs.Qw
attribute [local go_sem ↓] Go.wp_at_zero Go.wp_at_succ
set_option maxRecDepth 100000 in
set_option maxHeartbeats 8000000 in
theorem valueTrees_any (HP : CssP) (h : Nat) (x y : Nod) (a k a2 k2 : Value) (w : World) (S S2 : Nat → Prop) (hA : AttsR false w S a x.attrs) (hK : NodsR false h w S k x.kids) (hA2 : AttsR false w S2 a2 y.attrs) (hK2 : NodsR false h w S2 k2 y.kids) (hs : x.Sane) (hs2 : y.Sane) (he : EnvT w) :
    Calls Tryd.prog 4 #[nodV x a k, nodV y a2 k2] w fun e w' => e = .returned (.bool true) ∧ Below w.heap.size w w' := by
  have CH : Hid (∀ W, Below w.heap.size w W → Calls Tryd.prog 8 #[nodV x a k] W fun e w' => e = .returned (.bool (decide (weighN x 3000 < 0))) ∧ Below W.heap.size W w') := Lib.hid fun W hW => heavy_any h x a k W w S hA hK hW hs
  have CH2 : Hid (∀ W, Below w.heap.size w W → Calls Tryd.prog 8 #[nodV y a2 k2] W fun e w' => e = .returned (.bool (decide (weighN y 3000 < 0))) ∧ Below W.heap.size W w') := Lib.hid fun W hW => heavy_any h y a2 k2 W w S2 hA2 hK2 hW hs2
  have CA : Hid (∀ W, Below w.heap.size w W → Calls Tryd.prog 9 #[] W fun e w' => e = .returned (.bool true) ∧ Below W.heap.size W w') := Lib.hid fun W hW => awake17_any HP W (he.below hW)
  obtain ⟨la, lc, rfl⟩ := hA.slice
  obtain ⟨ka, kc, rfl⟩ := hK.slice
  obtain ⟨la2, lc2, rfl⟩ := hA2.slice
  obtain ⟨ka2, kc2, rfl⟩ := hK2.slice
  obtain ⟨W1, hW1, hB, hz, hB0, hB1⟩ := two_nodes w (.int .i64 x.tag) (.slice la x.attrs.length lc) (.string ⟨x.text.toArray⟩) (.slice ka x.kids.length kc) (.int .i64 y.tag) (.slice la2 y.attrs.length lc2) (.string ⟨y.text.toArray⟩) (.slice ka2 y.kids.length kc2)
  have H0 := Lib.hid hB0
  have H1 := Lib.hid hB1
  have HB := Lib.hid hB
  obtain ⟨p0, f0⟩ := blk hB0
  obtain ⟨p1, f1⟩ := blk hB1
  by_cases hv : weighN x 3000 < 0
  · have HV : Hid (decide (weighN x 3000 < 0) = true) := Lib.hid (by simpa using hv)
    rw [HV.out] at CH
    clear hA hK hA2 hK2 hs hs2 he hv hz hB0 hB1
    unfold nodV at *
    go_enter Tryd.func4, Tryd.ntmps4
    go_wp2_with (first
      | (go_at_call 8; refine (CH.out _ HB.out).mono ?_; rintro e w2 ⟨rfl, hb2⟩; have hx2 := below_from HB.out hb2)
      | (go_at_call 9; refine (CA.out _ hx2).mono ?_; rintro e w3 ⟨rfl, hb3⟩))
    go_ret
    exact ⟨rfl, below_from hx2 hb3⟩
  have HV : Hid (decide (weighN x 3000 < 0) = false) := Lib.hid (by simpa using hv)
  rw [HV.out] at CH
  by_cases hv2 : weighN y 3000 < 0
  · have HV2 : Hid (decide (weighN y 3000 < 0) = true) := Lib.hid (by simpa using hv2)
    rw [HV2.out] at CH2
    clear hA hK hA2 hK2 hs hs2 he hv hv2 hz hB0 hB1
    unfold nodV at *
    go_enter Tryd.func4, Tryd.ntmps4
    go_wp2_with (first
      | (go_at_call 8; (with_reducible refine (CH.out _ HB.out).mono ?_); rintro e w2 ⟨rfl, hb2⟩; have hx2 := below_from HB.out hb2; obtain ⟨p2, f2⟩ := blk (heap_below hb2 H1.out))
      | (go_at_call 8; (with_reducible refine (CH2.out _ hx2).mono ?_); rintro e w3 ⟨rfl, hb3⟩; have hx3 := below_from hx2 hb3)
      | (go_at_call 9; refine (CA.out _ hx3).mono ?_; rintro e w4 ⟨rfl, hb4⟩))
    go_ret
    exact ⟨rfl, below_from hx3 hb4⟩
  have HV2 : Hid (decide (weighN y 3000 < 0) = false) := Lib.hid (by simpa using hv2)
  rw [HV2.out] at CH2
  obtain ⟨fx, cx, dx⟩ := light_node2 hv
  have CO1 : Hid (∀ W, Below w.heap.size w W → Calls Tryd.prog 16 #[nodV x (.slice la x.attrs.length lc) (.slice ka x.kids.length kc)] W fun e w' => ∃ o1 c1 o2 c2, e = .returned (nodV x (.slice o1 x.attrs.length c1) (.slice o2 x.kids.length c2)) ∧ AttsR true w' (fun b => W.heap.size ≤ b) (.slice o1 x.attrs.length c1) x.attrs ∧ NodsR true h w' (fun b => W.heap.size ≤ b) (.slice o2 x.kids.length c2) x.kids ∧ Below W.heap.size W w') := Lib.hid fun W hW => (rown_all h x _ _ W w S hA hK hW fx).mono fun _ _ ⟨a', k', e, h1, h2, h3⟩ => by
    obtain ⟨o1, c1, rfl⟩ := h1.slice
    obtain ⟨o2, c2, rfl⟩ := h2.slice
    exact ⟨o1, c1, o2, c2, e, h1, h2, h3⟩
  have CO2 : Hid (∀ W, Below w.heap.size w W → Calls Tryd.prog 17 #[nodV x (.slice la x.attrs.length lc) (.slice ka x.kids.length kc)] W fun e w' => ∃ o1 c1 o2 c2, e = .returned (nodV x (.slice o1 x.attrs.length c1) (.slice o2 x.kids.length c2)) ∧ AttsR true w' (fun b => W.heap.size ≤ b) (.slice o1 x.attrs.length c1) x.attrs ∧ NodsR true h w' (fun b => W.heap.size ≤ b) (.slice o2 x.kids.length c2) x.kids ∧ Below W.heap.size W w') := Lib.hid fun W hW => (nodOwn_any h x _ _ false false W w S hA hK hW fx).mono fun _ _ ⟨a', k', e, h1, h2, h3⟩ => by
    obtain ⟨o1, c1, rfl⟩ := h1.slice
    obtain ⟨o2, c2, rfl⟩ := h2.slice
    exact ⟨o1, c1, o2, c2, e, h1, h2, h3⟩
  have D2 : Hid (∀ W, Below w.heap.size w W → Calls Tryd.prog 19 #[nodV x (.slice la x.attrs.length lc) (.slice ka x.kids.length kc), nodV y (.slice la2 y.attrs.length lc2) (.slice ka2 y.kids.length kc2)] W fun e w' => e = .returned (.bool (decide (x = y))) ∧ Below W.heap.size W w') := Lib.hid fun W hW => nodSame_any h x y _ _ _ _ W S S2 (hA.below (rdOf_stable _) hW) (hK.below (rdNod_stable _ _) hW) (hA2.below (rdOf_stable _) hW) (hK2.below (rdNod_stable _ _) hW)
  have D3 : Hid (∀ W, Below w.heap.size w W → Calls Tryd.prog 18 #[nodV x (.slice la x.attrs.length lc) (.slice ka x.kids.length kc), nodV y (.slice la2 y.attrs.length lc2) (.slice ka2 y.kids.length kc2)] W fun e w' => e = .returned (.bool (decide (x = y))) ∧ Below W.heap.size W w') := Lib.hid fun W hW => rsame_all h x y _ _ _ _ W S S2 (hA.below (rdOf_stable _) hW) (hK.below (rdNod_stable _ _) hW) (hA2.below (rdOf_stable _) hW) (hK2.below (rdNod_stable _ _) hW)
  have D4 : Hid (∀ W, Below w.heap.size w W → Calls Tryd.prog 19 #[nodV x (.slice la x.attrs.length lc) (.slice ka x.kids.length kc), nodV x (.slice la x.attrs.length lc) (.slice ka x.kids.length kc)] W fun e w' => e = .returned (.bool true) ∧ Below W.heap.size W w') := Lib.hid fun W hW => by
    have := nodSame_any h x x _ _ _ _ W S S (hA.below (rdOf_stable _) hW) (hK.below (rdNod_stable _ _) hW) (hA.below (rdOf_stable _) hW) (hK.below (rdNod_stable _ _) hW)
    rw [decide_eq_true (rfl : x = x)] at this
    exact this
  have D5 : Hid (∀ W, Below w.heap.size w W → Calls Tryd.prog 20 #[nodV x (.slice la x.attrs.length lc) (.slice ka x.kids.length kc)] W fun e w' => e = .returned (.int .i64 x.count) ∧ Below W.heap.size W w') := Lib.hid fun W hW => count_any h x _ _ W S (hA.below (rdOf_stable _) hW) (hK.below (rdNod_stable _ _) hW) cx
  have D6 : Hid (∀ W, Below w.heap.size w W → Calls Tryd.prog 21 #[nodV x (.slice la x.attrs.length lc) (.slice ka x.kids.length kc)] W fun e w' => e = .returned (.int .i64 x.count) ∧ Below W.heap.size W w') := Lib.hid fun W hW => rcount_all h x _ _ W S (hA.below (rdOf_stable _) hW) (hK.below (rdNod_stable _ _) hW) cx
  have D7 : Hid (∀ W, Below w.heap.size w W → Calls Tryd.prog 22 #[nodV x (.slice la x.attrs.length lc) (.slice ka x.kids.length kc)] W fun e w' => e = .returned (.int .i64 x.deep) ∧ Below W.heap.size W w') := Lib.hid fun W hW => deep_all h x _ _ W S (hA.below (rdOf_stable _) hW) (hK.below (rdNod_stable _ _) hW) dx
  have D8 : Hid (∀ W, Below w.heap.size w W → Calls Tryd.prog 23 #[nodV x (.slice la x.attrs.length lc) (.slice ka x.kids.length kc)] W fun e w' => e = .returned (.int .i64 x.deep) ∧ Below W.heap.size W w') := Lib.hid fun W hW => rdeep_all h x _ _ W S (hA.below (rdOf_stable _) hW) (hK.below (rdNod_stable _ _) hW) dx
  have HAK := Lib.hid (And.intro hA hK)
  clear hA hK hA2 hK2 hs hs2 he hv hv2 hz hB0 hB1 fx cx dx
  unfold nodV at *
  generalize decide (x = y) = r at *
  go_enter Tryd.func4, Tryd.ntmps4
  go_upto_region 5 with (first
    | (go_at_call 8; (with_reducible refine (CH.out _ HB.out).mono ?_); rintro e w2 ⟨rfl, hb2⟩; have hx2 := below_from HB.out hb2; obtain ⟨p2, f2⟩ := blk (heap_below hb2 H1.out))
    | (go_at_call 8; (with_reducible refine (CH2.out _ hx2).mono ?_); rintro e w3 ⟨rfl, hb3⟩; have hx3 := below_from hx2 hb3; have hy3 := below_from hb2 hb3; obtain ⟨p3, f3⟩ := blk (heap_below hy3 H0.out))
    | (go_at_call 16; (with_reducible refine (CO1.out _ hx3).mono ?_); rintro e w4 ⟨o1, c1, o2, c2, rfl, ha4, hk4, hb4⟩; have HA4 := Lib.hid ha4; have HK4 := Lib.hid hk4; clear ha4 hk4; have hx4 := below_from hx3 hb4; have hy4 := below_from hy3 hb4; have hz4 := hx4.size; have hz4b := hy4.size; obtain ⟨p4, f4⟩ := blk (heap_old _ (.cells #[.int .i64 x.tag, .slice o1 x.attrs.length c1, .string ⟨x.text.toArray⟩, .slice o2 x.kids.length c2] 25) (heap_below hy4 H0.out)))
    | (go_at_call 17; (with_reducible refine (CO2.out _ (hx4.alloc hz4 _)).mono ?_); rintro e w6 ⟨o3, c3, o4, c4, rfl, ha6, hk6, hb6⟩; have HA6 := Lib.hid ha6; have HK6 := Lib.hid hk6; clear ha6 hk6; have HB6 := Lib.hid hb6; clear hb6))
  have hb5 : Below w.heap.size w (w4.alloc (.cells #[.int .i64 x.tag, .slice o1 x.attrs.length c1, .string ⟨x.text.toArray⟩, .slice o2 x.kids.length c2] 25)) := hx4.alloc hz4 _
  have g0 : (w4.alloc (.cells #[.int .i64 x.tag, .slice o1 x.attrs.length c1, .string ⟨x.text.toArray⟩, .slice o2 x.kids.length c2] 25)).heap[w.heap.size]? = some (.cells #[.int .i64 x.tag, .slice la x.attrs.length lc, .string ⟨x.text.toArray⟩, .slice ka x.kids.length kc] 25) := heap_old _ _ (heap_below hy4 H0.out)
  have g1 : (w4.alloc (.cells #[.int .i64 x.tag, .slice o1 x.attrs.length c1, .string ⟨x.text.toArray⟩, .slice o2 x.kids.length c2] 25)).heap[w.heap.size + 1]? = some (.cells #[.int .i64 y.tag, .slice la2 y.attrs.length lc2, .string ⟨y.text.toArray⟩, .slice ka2 y.kids.length kc2] 25) := heap_old _ _ (heap_below hy4 H1.out)
  have g4 : (w4.alloc (.cells #[.int .i64 x.tag, .slice o1 x.attrs.length c1, .string ⟨x.text.toArray⟩, .slice o2 x.kids.length c2] 25)).heap[w4.heap.size]? = some (.cells #[.int .i64 x.tag, .slice o1 x.attrs.length c1, .string ⟨x.text.toArray⟩, .slice o2 x.kids.length c2] 25) := heap_new _ _ rfl
  have a5 : AttsR false (w4.alloc (.cells #[.int .i64 x.tag, .slice o1 x.attrs.length c1, .string ⟨x.text.toArray⟩, .slice o2 x.kids.length c2] 25)) (fun _ => True) (.slice o1 x.attrs.length c1) x.attrs := (HA4.out.stable (rdOf_stable _) ((Keeps.refl _ _).alloc _) (fun _ _ _ => trivial)).read fun _ _ h => h
  have k5 : NodsR false h (w4.alloc (.cells #[.int .i64 x.tag, .slice o1 x.attrs.length c1, .string ⟨x.text.toArray⟩, .slice o2 x.kids.length c2] 25)) (fun _ => True) (.slice o2 x.kids.length c2) x.kids := (HK4.out.stable (rdNod_stable _ _) ((Keeps.refl _ _).alloc _) (fun _ _ _ => trivial)).read fun _ _ h => rdNod_read h
  have hx6 := HB6.out
  have ha6 := HA6.out
  have hk6 := HK6.out
  clear HB6 HA6 HK6 HA4 HK4
  obtain ⟨W5, hW5⟩ : ∃ W5, w4.alloc (.cells #[.int .i64 x.tag, .slice o1 x.attrs.length c1, .string ⟨x.text.toArray⟩, .slice o2 x.kids.length c2] 25) = W5 := ⟨_, rfl⟩
  rw [hW5] at hb5 g0 g1 g4 a5 k5 hx6 ha6 hk6
  have hw6 := below_from hb5 hx6
  have hx7 : Below W5.heap.size W5 (w6.alloc (.cells #[.int .i64 x.tag, .slice o3 x.attrs.length c3, .string ⟨x.text.toArray⟩, .slice o4 x.kids.length c4] 25)) := hx6.alloc hx6.size _
  have G0 := Lib.hid (heap_old _ (.cells #[.int .i64 x.tag, .slice o3 x.attrs.length c3, .string ⟨x.text.toArray⟩, .slice o4 x.kids.length c4] 25) (heap_below hx6 g0))
  have G1 := Lib.hid (heap_old _ (.cells #[.int .i64 x.tag, .slice o3 x.attrs.length c3, .string ⟨x.text.toArray⟩, .slice o4 x.kids.length c4] 25) (heap_below hx6 g1))
  have G4 := Lib.hid (heap_old _ (.cells #[.int .i64 x.tag, .slice o3 x.attrs.length c3, .string ⟨x.text.toArray⟩, .slice o4 x.kids.length c4] 25) (heap_below hx6 g4))
  have G6 : Hid ((w6.alloc (.cells #[.int .i64 x.tag, .slice o3 x.attrs.length c3, .string ⟨x.text.toArray⟩, .slice o4 x.kids.length c4] 25)).heap[w6.heap.size]? = some (.cells #[.int .i64 x.tag, .slice o3 x.attrs.length c3, .string ⟨x.text.toArray⟩, .slice o4 x.kids.length c4] 25)) := Lib.hid (heap_new _ _ rfl)
  have ha7 := SliceR.stable (rdOf_stable _) ha6 ((Keeps.refl _ w6).alloc (.cells #[.int .i64 x.tag, .slice o3 x.attrs.length c3, .string ⟨x.text.toArray⟩, .slice o4 x.kids.length c4] 25)) (fun _ h _ => h)
  have hk7 := SliceR.stable (rdNod_stable _ _) hk6 ((Keeps.refl _ w6).alloc (.cells #[.int .i64 x.tag, .slice o3 x.attrs.length c3, .string ⟨x.text.toArray⟩, .slice o4 x.kids.length c4] 25)) (fun _ h _ => h)
  have K0 := Lib.hid g0
  have K4 := Lib.hid g4
  obtain ⟨W7, hW7⟩ : ∃ W7, w6.alloc (.cells #[.int .i64 x.tag, .slice o3 x.attrs.length c3, .string ⟨x.text.toArray⟩, .slice o4 x.kids.length c4] 25) = W7 := ⟨_, rfl⟩
  rw [hW7] at hx7 G0 G1 G4 G6 ha7 hk7
  rw [hW7]
  have hw7 : Below w.heap.size w W7 := below_from hb5 hx7
  have E2 : Hid (∀ W, Below W7.heap.size W7 W → Calls Tryd.prog 18 #[.agg #[.int .i64 x.tag, .slice o3 x.attrs.length c3, .string ⟨x.text.toArray⟩, .slice o4 x.kids.length c4], .agg #[.int .i64 x.tag, .slice o1 x.attrs.length c1, .string ⟨x.text.toArray⟩, .slice o2 x.kids.length c2]] W fun e w' => e = .returned (.bool true) ∧ Below W.heap.size W w') := Lib.hid fun W hW => by
    have := rsame_all h x x _ _ _ _ W _ _ (SliceR.below (rdOf_stable _) (ha7.read fun _ _ h => h) hW) (SliceR.below (rdNod_stable _ _) (hk7.read fun _ _ h => rdNod_read h) hW) (a5.below (rdOf_stable _) (below_from hx7 hW)) (k5.below (rdNod_stable _ _) (below_from hx7 hW))
    rw [decide_eq_true (rfl : x = x)] at this
    exact this
  have E1 : Hid (∀ W, Below W5.heap.size W5 W → Calls Tryd.prog 18 #[.agg #[.int .i64 x.tag, .slice la x.attrs.length lc, .string ⟨x.text.toArray⟩, .slice ka x.kids.length kc], .agg #[.int .i64 x.tag, .slice o1 x.attrs.length c1, .string ⟨x.text.toArray⟩, .slice o2 x.kids.length c2]] W fun e w' => e = .returned (.bool true) ∧ Below W.heap.size W w') := Lib.hid fun W hW => by
    have := rsame_all h x x _ _ _ _ W _ _ (HAK.out.1.below (rdOf_stable _) (below_from hb5 hW)) (HAK.out.2.below (rdNod_stable _ _) (below_from hb5 hW)) (a5.below (rdOf_stable _) hW) (k5.below (rdNod_stable _ _) hW)
    rw [decide_eq_true (rfl : x = x)] at this
    exact this
  have CS : Hid (∀ W, Below W7.heap.size W7 W → Calls Tryd.prog 24 #[.slice (some ⟨W.heap.size, 0, none⟩) 1 1] (W.alloc (.cells #[.int .i64 x.tag, .slice o3 x.attrs.length c3, .string ⟨x.text.toArray⟩, .slice o4 x.kids.length c4] 25)) fun e w' => (∃ u, e = .returned u) ∧ Below W5.heap.size W5 w' ∧ Below w.heap.size w w') := Lib.hid fun W hW => by
    have hle : W5.heap.size ≤ W.heap.size := Nat.le_trans hx7.size hW.size
    have hr : NodsR true (h + 1) (W.alloc (.cells #[.int .i64 x.tag, .slice o3 x.attrs.length c3, .string ⟨x.text.toArray⟩, .slice o4 x.kids.length c4] 25)) (fun b => W5.heap.size ≤ b) (.slice (some ⟨W.heap.size, 0, none⟩) 1 1) [x] :=
      SliceR.one_new W [.int .i64 x.tag, .slice o3 x.attrs.length c3, .string ⟨x.text.toArray⟩, .slice o4 x.kids.length c4] rfl ⟨_, _, rfl, SliceR.stable (rdOf_stable _) (SliceR.below (rdOf_stable _) ha7 hW) ((Keeps.refl _ _).alloc _) (fun _ h _ => h), SliceR.stable (rdNod_stable _ _) (SliceR.below (rdNod_stable _ _) hk7 hW) ((Keeps.refl _ _).alloc _) (fun _ h _ => h)⟩ hle
    refine (spoilN_any (h + 1) _ [x] W5.heap.size _ hr).mono ?_
    rintro e w' ⟨h1, hb⟩
    have hx : Below W5.heap.size W5 (W.alloc (.cells #[.int .i64 x.tag, .slice o3 x.attrs.length c3, .string ⟨x.text.toArray⟩, .slice o4 x.kids.length c4] 25)) := (below_from hx7 hW).alloc hle _
    have hx' : Below W5.heap.size W5 w' := hx.trans hb
    exact ⟨h1, hx', below_from hb5 hx'⟩
  clear p0 f0 p1 f1 p2 f2 p3 f3 p4 f4 g0 g1 g4 a5 k5 ha6 hk6 ha7 hk7 hW5 hW7 hx6 hx2 hx3 hy3 hx4 hy4 hb2 hb4 hb5 hw6 hx7
  obtain ⟨q0, r0⟩ := blk G0.out
  obtain ⟨q1, r1⟩ := blk G1.out
  obtain ⟨q4, r4⟩ := blk G4.out
  obtain ⟨q6, r6⟩ := blk G6.out
  have hxd : Below W7.heap.size W7 W7.drew := (Below.refl _ _).drew
  have hwd : Below w.heap.size w W7.drew := hw7.drew
  go_region_held3 (fun w' => w'.cell? ⟨w.heap.size, 0, none⟩ = some (.int .i64 x.tag) ∧ w'.cell? ⟨w.heap.size, 1, none⟩ = some (.slice la x.attrs.length lc) ∧ w'.cell? ⟨w.heap.size, 2, none⟩ = some (.string ⟨x.text.toArray⟩) ∧ w'.cell? ⟨w.heap.size, 3, none⟩ = some (.slice ka x.kids.length kc) ∧ w'.cell? ⟨w.heap.size + 1, 0, none⟩ = some (.int .i64 y.tag) ∧ w'.cell? ⟨w.heap.size + 1, 1, none⟩ = some (.slice la2 y.attrs.length lc2) ∧ w'.cell? ⟨w.heap.size + 1, 2, none⟩ = some (.string ⟨y.text.toArray⟩) ∧ w'.cell? ⟨w.heap.size + 1, 3, none⟩ = some (.slice ka2 y.kids.length kc2) ∧ w'.cell? ⟨w4.heap.size, 0, none⟩ = some (.int .i64 x.tag) ∧ w'.cell? ⟨w4.heap.size, 1, none⟩ = some (.slice o1 x.attrs.length c1) ∧ w'.cell? ⟨w4.heap.size, 2, none⟩ = some (.string ⟨x.text.toArray⟩) ∧ w'.cell? ⟨w4.heap.size, 3, none⟩ = some (.slice o2 x.kids.length c2) ∧ w'.cell? ⟨w6.heap.size, 0, none⟩ = some (.int .i64 x.tag) ∧ w'.cell? ⟨w6.heap.size, 1, none⟩ = some (.slice o3 x.attrs.length c3) ∧ w'.cell? ⟨w6.heap.size, 2, none⟩ = some (.string ⟨x.text.toArray⟩) ∧ w'.cell? ⟨w6.heap.size, 3, none⟩ = some (.slice o4 x.kids.length c4)) (go_keep)
    (first
      | (go_at_call 18; (with_reducible refine (E2.out _ (by assumption)).mono ?_); rintro e w20 ⟨rfl, hb20⟩; have hx20 : Below W7.heap.size W7 w20 := below_from (by assumption) hb20; have hw20 : Below w.heap.size w w20 := below_from (by assumption) hb20; clear hb20; obtain ⟨q20a, r20a⟩ := blk (heap_below hx20 G0.out); obtain ⟨q20b, r20b⟩ := blk (heap_below hx20 G1.out); obtain ⟨q20c, r20c⟩ := blk (heap_below hx20 G4.out); obtain ⟨q20d, r20d⟩ := blk (heap_below hx20 G6.out))
      | (go_at_call 19; (with_reducible refine (D2.out _ (by assumption)).mono ?_); rintro e w21 ⟨rfl, hb21⟩; have hx21 : Below W7.heap.size W7 w21 := below_from (by assumption) hb21; have hw21 : Below w.heap.size w w21 := below_from (by assumption) hb21; clear hb21; obtain ⟨q21a, r21a⟩ := blk (heap_below hx21 G0.out); obtain ⟨q21b, r21b⟩ := blk (heap_below hx21 G1.out); obtain ⟨q21c, r21c⟩ := blk (heap_below hx21 G4.out); obtain ⟨q21d, r21d⟩ := blk (heap_below hx21 G6.out))
      | (go_at_call 18; (with_reducible refine (D3.out _ (by assumption)).mono ?_); rintro e w22 ⟨rfl, hb22⟩; have hx22 : Below W7.heap.size W7 w22 := below_from (by assumption) hb22; have hw22 : Below w.heap.size w w22 := below_from (by assumption) hb22; clear hb22; obtain ⟨q22a, r22a⟩ := blk (heap_below hx22 G0.out); obtain ⟨q22b, r22b⟩ := blk (heap_below hx22 G1.out); obtain ⟨q22c, r22c⟩ := blk (heap_below hx22 G4.out); obtain ⟨q22d, r22d⟩ := blk (heap_below hx22 G6.out))
      | (go_at_call 19; (with_reducible refine (D4.out _ (by assumption)).mono ?_); rintro e w23 ⟨rfl, hb23⟩; have hx23 : Below W7.heap.size W7 w23 := below_from (by assumption) hb23; have hw23 : Below w.heap.size w w23 := below_from (by assumption) hb23; clear hb23; obtain ⟨q23a, r23a⟩ := blk (heap_below hx23 G0.out); obtain ⟨q23b, r23b⟩ := blk (heap_below hx23 G1.out); obtain ⟨q23c, r23c⟩ := blk (heap_below hx23 G4.out); obtain ⟨q23d, r23d⟩ := blk (heap_below hx23 G6.out))
      | (go_at_call 20; (with_reducible refine (D5.out _ (by assumption)).mono ?_); rintro e w24 ⟨rfl, hb24⟩; have hx24 : Below W7.heap.size W7 w24 := below_from (by assumption) hb24; have hw24 : Below w.heap.size w w24 := below_from (by assumption) hb24; clear hb24; obtain ⟨q24a, r24a⟩ := blk (heap_below hx24 G0.out); obtain ⟨q24b, r24b⟩ := blk (heap_below hx24 G1.out); obtain ⟨q24c, r24c⟩ := blk (heap_below hx24 G4.out); obtain ⟨q24d, r24d⟩ := blk (heap_below hx24 G6.out))
      | (go_at_call 21; (with_reducible refine (D6.out _ (by assumption)).mono ?_); rintro e w25 ⟨rfl, hb25⟩; have hx25 : Below W7.heap.size W7 w25 := below_from (by assumption) hb25; have hw25 : Below w.heap.size w w25 := below_from (by assumption) hb25; clear hb25; obtain ⟨q25a, r25a⟩ := blk (heap_below hx25 G0.out); obtain ⟨q25b, r25b⟩ := blk (heap_below hx25 G1.out); obtain ⟨q25c, r25c⟩ := blk (heap_below hx25 G4.out); obtain ⟨q25d, r25d⟩ := blk (heap_below hx25 G6.out))
      | (go_at_call 22; (with_reducible refine (D7.out _ (by assumption)).mono ?_); rintro e w26 ⟨rfl, hb26⟩; have hx26 : Below W7.heap.size W7 w26 := below_from (by assumption) hb26; have hw26 : Below w.heap.size w w26 := below_from (by assumption) hb26; clear hb26; obtain ⟨q26a, r26a⟩ := blk (heap_below hx26 G0.out); obtain ⟨q26b, r26b⟩ := blk (heap_below hx26 G1.out); obtain ⟨q26c, r26c⟩ := blk (heap_below hx26 G4.out); obtain ⟨q26d, r26d⟩ := blk (heap_below hx26 G6.out))
      | (go_at_call 23; (with_reducible refine (D8.out _ (by assumption)).mono ?_); rintro e w27 ⟨rfl, hb27⟩; have hx27 : Below W7.heap.size W7 w27 := below_from (by assumption) hb27; have hw27 : Below w.heap.size w w27 := below_from (by assumption) hb27; clear hb27; obtain ⟨q27a, r27a⟩ := blk (heap_below hx27 G0.out); obtain ⟨q27b, r27b⟩ := blk (heap_below hx27 G1.out); obtain ⟨q27c, r27c⟩ := blk (heap_below hx27 G4.out); obtain ⟨q27d, r27d⟩ := blk (heap_below hx27 G6.out)))
  all_goals
    go_wp2_with (first
      | (go_at_call 24; (with_reducible refine (CS.out _ hx27).mono ?_); rintro e w30 ⟨⟨u, rfl⟩, hx30, hw30⟩; obtain ⟨s0, t0⟩ := blk (heap_below hx30 K0.out); obtain ⟨s4, t4⟩ := blk (heap_below hx30 K4.out))
      | (go_at_call 18; (with_reducible refine (E1.out _ hx30).mono ?_); rintro e w31 ⟨rfl, hb31⟩; have hw31 := below_from hw30 hb31)
      | (go_at_call 9; (with_reducible refine (CA.out _ hw31).mono ?_); rintro e w32 ⟨rfl, hb32⟩))
    go_ret
    exact ⟨rfl, below_from hw31 hb32⟩
end Go.Proofs.YtgeaijnelopkbaaDoor
namespace Go.Proofs.YtgeaijnelopkbaaDoor
open Go.RowKit
open Go.Proofs.Qw
attribute [local go_sem ↓] Go.wp_at_zero Go.wp_at_succ
set_option maxRecDepth 100000 in
theorem field_kids (x y z u : Value) (X : World) : (Instr.field 25 (.agg #[x, y, z, u]) 3).run Tryd.prog X = .ok u X := rfl
set_option maxRecDepth 100000 in
set_option maxHeartbeats 4000000 in
theorem rwrap_any (h : Nat) (b : Int) (href : List UInt8) (v : Value) (l : List Nod) (w w0 : World) (S : Nat → Prop) (hv : NodsR false h w0 S v l) (h0 : Below w0.heap.size w0 w) (hn : l.length ≤ 1000000) (hf : FitK l) :
    Calls Tryd.prog 32 #[.int .i64 b, .string ⟨href.toArray⟩, v] w fun e w' => ∃ v' h', e = .returned v' ∧ NodsR true h' w' (fun b => w.heap.size ≤ b) v' (wrapN b href l) ∧ Below w.heap.size w w' := by
  have HC : Hid (∀ W, Below w0.heap.size w0 W → Calls Tryd.prog 16 #[.agg #[.int .i64 0, .slice none 0 0, .string ⟨#[]⟩, v]] W fun e w' => ∃ x y k', e = .returned (.agg #[.int .i64 0, .slice x 0 y, .string ⟨#[]⟩, k']) ∧ NodsR true h w' (fun b => W.heap.size ≤ b) k' l ∧ Below W.heap.size W w') := Lib.hid fun W hW =>
    (rown_all h (.mk 0 [] [] l) (.slice none 0 0) v W w0 S (SliceR.nil _ _ _ _ _ _) hv hW (by rw [FitN]; exact ⟨by simp, hn, hf⟩)).mono fun _ _ ⟨a', k', h1, h2, h3, h4⟩ => by obtain ⟨x, y, rfl⟩ := h2.slice; exact ⟨x, y, k', h1, h3, h4⟩
  obtain ⟨a, c, rfl⟩ := hv.slice
  clear hv hn hf
  have hfk := fun (x y z u : Value) (X : World) => field_kids x y z u X
  go_enter Tryd.func32, Tryd.ntmps32
  go_upto_if 14 with (go_at_call 16; refine (HC.out _ h0).mono ?_; rintro e w2 ⟨a2, c2, k2, rfl, hv1, hb1⟩; obtain ⟨a1, c1, hve⟩ := hv1.slice; subst hve; have HV := Lib.hid (⟨h, hv1⟩ : ∃ h2, NodsR true h2 w2 (fun b => w.heap.size ≤ b) (.slice a1 l.length c1) (wrapT b 0 l)); have HB := Lib.hid hb1; have HS := Lib.hid hb1.size; clear hv1 hb1)
  go_cut [7] from 15 to 17 (fun o wx => Hid (∃ h2, NodsR true h2 wx (fun b => w.heap.size ≤ b) o (wrapT b 1 l)) ∧ Hid (Below w.heap.size w wx))
  case first =>
    by_cases hb : bits .and .i64 b 8 = 0
    · have HBB := Lib.hid hb
      go_wp2_with fail
      go_meet
      case rel =>
        obtain ⟨h2, h1⟩ := HV.out
        exact ⟨Lib.hid ⟨h2, Eq.mp (congrArg (fun z => NodsR true h2 w2 (fun b => w.heap.size ≤ b) _ z) (show wrapT b 0 l = wrapT b 1 l from (if_pos HBB.out).symm)) h1⟩, HB⟩
    · have HBB := Lib.hid hb
      go_wp2_with fail
      go_meet
      case rel =>
        obtain ⟨h2, h1⟩ := HV.out
        exact ⟨Lib.hid ⟨h2 + 1, by rw [show wrapT b 1 l = [.mk 14 [] [] (wrapT b 0 l)] from if_neg HBB.out]; exact nods_wrap 14 h1 (SliceR.nil _ _ _ _ _ _) HS.out⟩, Lib.hid (HB.out.alloc HS.out _)⟩
  case rest =>
    obtain ⟨HV1, HB1⟩ := hcut
    have HS1 := Lib.hid (HB1.out.size)
    have HE1 := Lib.hid (HV1.out.elim fun _ h => h.slice)
    obtain ⟨oa1, oc1, hoe⟩ := HE1.out
    generalize hln1 : (wrapT b 1 l).length = ln1 at *
    subst hoe
    clear HE1 HV HB HS
    obtain ⟨w1x, rfl⟩ : ∃ wy : World, wy = wc := ⟨_, rfl⟩
    clear hln1
    refine ‹∀ (a : Act) (w : World), Code.wp _ _ _ a w → _› _ _ ?_
    go_upto_if 20 with fail
    go_cut [7] from 21 to 23 (fun o wx => Hid (∃ h2, NodsR true h2 wx (fun b => w.heap.size ≤ b) o (wrapT b 2 l)) ∧ Hid (Below w.heap.size w wx))
    case first =>
      by_cases hb : bits .and .i64 b 4 = 0
      · have HBB := Lib.hid hb
        go_wp2_with fail
        go_meet
        case rel =>
          obtain ⟨h2, h1⟩ := HV1.out
          exact ⟨Lib.hid ⟨h2, Eq.mp (congrArg (fun z => NodsR true h2 w1x (fun b => w.heap.size ≤ b) _ z) (show wrapT b 1 l = wrapT b 2 l from (if_pos HBB.out).symm)) h1⟩, HB1⟩
      · have HBB := Lib.hid hb
        go_wp2_with fail
        go_meet
        case rel =>
          obtain ⟨h2, h1⟩ := HV1.out
          exact ⟨Lib.hid ⟨h2 + 1, by rw [show wrapT b 2 l = [.mk 13 [] [] (wrapT b 1 l)] from if_neg HBB.out]; exact nods_wrap 13 h1 (SliceR.nil _ _ _ _ _ _) HS1.out⟩, Lib.hid (HB1.out.alloc HS1.out _)⟩
    case rest =>
      obtain ⟨HV2, HB2⟩ := hcut
      have HS2 := Lib.hid (HB2.out.size)
      have HE2 := Lib.hid (HV2.out.elim fun _ h => h.slice)
      obtain ⟨oa2, oc2, hoe⟩ := HE2.out
      generalize hln2 : (wrapT b 2 l).length = ln2 at *
      subst hoe
      clear HE2 HV1 HB1 HS1
      obtain ⟨w2x, rfl⟩ : ∃ wy : World, wy = wc := ⟨_, rfl⟩
      clear hln2
      refine ‹∀ (a : Act) (w : World), Code.wp _ _ _ a w → _› _ _ ?_
      go_upto_if 26 with fail
      go_cut [7] from 27 to 29 (fun o wx => Hid (∃ h2, NodsR true h2 wx (fun b => w.heap.size ≤ b) o (wrapT b 3 l)) ∧ Hid (Below w.heap.size w wx))
      case first =>
        by_cases hb : bits .and .i64 b 2 = 0
        · have HBB := Lib.hid hb
          go_wp2_with fail
          go_meet
          case rel =>
            obtain ⟨h2, h1⟩ := HV2.out
            exact ⟨Lib.hid ⟨h2, Eq.mp (congrArg (fun z => NodsR true h2 w2x (fun b => w.heap.size ≤ b) _ z) (show wrapT b 2 l = wrapT b 3 l from (if_pos HBB.out).symm)) h1⟩, HB2⟩
        · have HBB := Lib.hid hb
          go_wp2_with fail
          go_meet
          case rel =>
            obtain ⟨h2, h1⟩ := HV2.out
            exact ⟨Lib.hid ⟨h2 + 1, by rw [show wrapT b 3 l = [.mk 12 [] [] (wrapT b 2 l)] from if_neg HBB.out]; exact nods_wrap 12 h1 (SliceR.nil _ _ _ _ _ _) HS2.out⟩, Lib.hid (HB2.out.alloc HS2.out _)⟩
      case rest =>
        obtain ⟨HV3, HB3⟩ := hcut
        have HS3 := Lib.hid (HB3.out.size)
        have HE3 := Lib.hid (HV3.out.elim fun _ h => h.slice)
        obtain ⟨oa3, oc3, hoe⟩ := HE3.out
        generalize hln3 : (wrapT b 3 l).length = ln3 at *
        subst hoe
        clear HE3 HV2 HB2 HS2
        obtain ⟨w3x, rfl⟩ : ∃ wy : World, wy = wc := ⟨_, rfl⟩
        clear hln3
        refine ‹∀ (a : Act) (w : World), Code.wp _ _ _ a w → _› _ _ ?_
        go_upto_if 32 with fail
        go_cut [7] from 33 to 35 (fun o wx => Hid (∃ h2, NodsR true h2 wx (fun b => w.heap.size ≤ b) o (wrapT b 4 l)) ∧ Hid (Below w.heap.size w wx))
        case first =>
          by_cases hb : bits .and .i64 b 1 = 0
          · have HBB := Lib.hid hb
            go_wp2_with fail
            go_meet
            case rel =>
              obtain ⟨h2, h1⟩ := HV3.out
              exact ⟨Lib.hid ⟨h2, Eq.mp (congrArg (fun z => NodsR true h2 w3x (fun b => w.heap.size ≤ b) _ z) (show wrapT b 3 l = wrapT b 4 l from (if_pos HBB.out).symm)) h1⟩, HB3⟩
          · have HBB := Lib.hid hb
            go_wp2_with fail
            go_meet
            case rel =>
              obtain ⟨h2, h1⟩ := HV3.out
              exact ⟨Lib.hid ⟨h2 + 1, by rw [show wrapT b 4 l = [.mk 11 [] [] (wrapT b 3 l)] from if_neg HBB.out]; exact nods_wrap 11 h1 (SliceR.nil _ _ _ _ _ _) HS3.out⟩, Lib.hid (HB3.out.alloc HS3.out _)⟩
        case rest =>
          obtain ⟨HV4, HB4⟩ := hcut
          have HS4 := Lib.hid (HB4.out.size)
          have HE4 := Lib.hid (HV4.out.elim fun _ h => h.slice)
          obtain ⟨oa4, oc4, hoe⟩ := HE4.out
          generalize hln4 : (wrapT b 4 l).length = ln4 at *
          subst hoe
          clear HE4 HV3 HB3 HS3
          obtain ⟨w4x, rfl⟩ : ∃ wy : World, wy = wc := ⟨_, rfl⟩
          clear hln4
          refine ‹∀ (a : Act) (w : World), Code.wp _ _ _ a w → _› _ _ ?_
          by_cases hb : href = []
          · have HBB := Lib.hid hb
            subst hb
            go_wp2_with fail
            go_ret
            obtain ⟨h2, h1⟩ := HV4.out
            exact ⟨_, rfl, ⟨h2, h1⟩, HB4.out⟩
          · have HBB := Lib.hid hb
            have hq : href.isEmpty = false := by cases href with | nil => exact absurd rfl hb | cons _ _ => rfl
            clear hb
            go_wp2_with fail
            go_ret
            obtain ⟨h2, h1⟩ := HV4.out
            refine ⟨_, h2 + 1, rfl, ?_, (HB4.out.alloc HS4.out _).alloc (Nat.le_trans HS4.out (by simp)) _⟩
            rw [show wrapN b href l = [.mk 10 (hrefA href) [] (wrapT b 4 l)] from if_neg HBB.out]
            have h3 : AttsR true (w4x.alloc (.cells #[.string ⟨#[104, 114, 101, 102]⟩, .string ⟨href.toArray⟩] 48)) (fun b => w.heap.size ≤ b) (.slice (some ⟨w4x.heap.size, 0, none⟩) 1 1) (hrefA href) := SliceR.one_new w4x [.string ⟨#[104, 114, 101, 102]⟩, .string ⟨href.toArray⟩] rfl rfl HS4.out
            have h4 := nods_wrap 10 (h1.stable (rdNod_stable _ _) ((Keeps.refl _ _).alloc _) (fun _ h _ => h)) h3 (Nat.le_trans HS4.out (by simp))
            simpa using h4
end Go.Proofs.YtgeaijnelopkbaaDoor
namespace Go.Proofs.Qw
open Go.RowKit Go.Proofs.YtgeaijnelopkbaaDoor
theorem light_kids {l : List Nod} (h : ¬ weighN (.mk 0 [] [] l) 3000 < 0) : l.length ≤ 1000000 ∧ FitK l := by
  have h1 := (light_node2 h).1
  rw [FitN] at h1
  exact ⟨h1.2.1, h1.2.2⟩
theorem nods_mono {h h' : Nat} (hh : h ≤ h') {own : Bool} {w : World} {S : Nat → Prop} {v : Value} {l : List Nod} (hv : NodsR own h w S v l) : NodsR own h' w S v l := hv.imp fun _ _ _ g => rdNod_mono hh g
theorem nods_plain {h : Nat} {w : World} {S : Nat → Prop} {v : Value} {l : List Nod} (hv : NodsR true h w S v l) : NodsR false h w S v l := hv.read fun _ _ g => rdNod_read g
end Go.Proofs.Qw
namespace Go.Proofs.YtgeaijnelopkbaaDoor
open Go.RowKit
open Go.Proofs.Qw
attribute [local go_sem ↓] Go.wp_at_zero Go.wp_at_succ
set_option maxRecDepth 100000 in
set_option maxHeartbeats 8000000 in
theorem valueMakes_any (HP : CssP) (h : Nat) (z : List UInt8) (t b : Int) (href : List UInt8) (v : Value) (l : List Nod) (w : World) (S : Nat → Prop) (hv : NodsR false h w S v l) (hs : Nod.Sane (.mk 0 [] [] l)) (he : EnvT w) :
    Calls Tryd.prog 7 #[.string ⟨z.toArray⟩, .int .i64 t, .int .i64 b, .string ⟨href.toArray⟩, v] w fun e w' => e = .returned (.bool true) ∧ Below w.heap.size w w' := by
  have CH : Hid (∀ W, Below w.heap.size w W → Calls Tryd.prog 27 #[v] W fun e w' => e = .returned (.bool (decide (1000 < l.length) || decide (weighN (.mk 0 [] [] l) 3000 < 0))) ∧ Below W.heap.size W w') := Lib.hid fun W hW => heavies_any h v l W w S hv hW hs
  have CA : Hid (∀ W, Below w.heap.size w W → Calls Tryd.prog 9 #[] W fun e w' => e = .returned (.bool true) ∧ Below W.heap.size W w') := Lib.hid fun W hW => awake17_any HP W (he.below hW)
  have H0 := Lib.hid (Below.refl w.heap.size w)
  obtain ⟨va, vc, hve⟩ := hv.slice
  subst hve
  by_cases hbig : (decide (1000 < l.length) || decide (weighN (.mk 0 [] [] l) 3000 < 0)) = true
  · rw [hbig] at CH
    clear hv hs he hbig
    go_enter Tryd.func7, Tryd.ntmps7
    go_wp2_with (first
      | (go_at_call 27; refine (CH.out _ H0.out).mono ?_; rintro e w2 ⟨rfl, hb2⟩)
      | (go_at_call 9; refine (CA.out _ hb2).mono ?_; rintro e w3 ⟨rfl, hb3⟩))
    go_ret
    exact ⟨rfl, below_from hb2 hb3⟩
  rw [Bool.not_eq_true] at hbig
  rw [hbig] at CH
  have hln : ¬ weighN (.mk 0 [] [] l) 3000 < 0 := by
    intro hh
    rw [decide_eq_true hh, Bool.or_true] at hbig
    cases hbig
  obtain ⟨hn, hf⟩ := light_kids hln
  by_cases hlz : 10000 < z.length
  · have hd : decide (10000 < (z.length : Int)) = true := by simp; omega
    clear hv hs he hbig hln hn hf
    go_enter Tryd.func7, Tryd.ntmps7
    go_wp2_with (first
      | (go_at_call 27; refine (CH.out _ H0.out).mono ?_; rintro e w2 ⟨rfl, hb2⟩)
      | (go_at_call 9; refine (CA.out _ hb2).mono ?_; rintro e w3 ⟨rfl, hb3⟩))
    go_ret
    exact ⟨rfl, below_from hb2 hb3⟩
  have hd1 : decide (10000 < (z.length : Int)) = false := by simp; omega
  by_cases hlh : 1000 < href.length
  · have hd : decide (1000 < (href.length : Int)) = true := by simp; omega
    clear hv hs he hbig hln hn hf
    go_enter Tryd.func7, Tryd.ntmps7
    go_wp2_with (first
      | (go_at_call 27; refine (CH.out _ H0.out).mono ?_; rintro e w2 ⟨rfl, hb2⟩)
      | (go_at_call 9; refine (CA.out _ hb2).mono ?_; rintro e w3 ⟨rfl, hb3⟩))
    go_ret
    exact ⟨rfl, below_from hb2 hb3⟩
  have hd2 : decide (1000 < (href.length : Int)) = false := by simp; omega
  have CO : Hid (∀ W, Below w.heap.size w W → Calls Tryd.prog 16 #[.agg #[.int .i64 0, .slice none 0 0, .string ⟨#[]⟩, .slice va l.length vc]] W fun e w' => ∃ x y k1 k2, e = .returned (.agg #[.int .i64 0, .slice x 0 y, .string ⟨#[]⟩, .slice k1 l.length k2]) ∧ NodsR true h w' (fun b => W.heap.size ≤ b) (.slice k1 l.length k2) l ∧ Below W.heap.size W w') := Lib.hid fun W hW =>
    (rown_all h (.mk 0 [] [] l) (.slice none 0 0) _ W w S (SliceR.nil _ _ _ _ _ _) hv hW (by rw [FitN]; exact ⟨by simp, hn, hf⟩)).mono fun _ _ ⟨a', k', h1, h2, h3, h4⟩ => by
      obtain ⟨x, y, rfl⟩ := h2.slice
      obtain ⟨k1, k2, rfl⟩ := h3.slice
      exact ⟨x, y, k1, k2, h1, h3, h4⟩
  have CT : Hid (∀ W, Calls Tryd.prog 29 #[.string ⟨z.toArray⟩] W fun e w' => e = .returned (.agg #[.int .i64 0, .slice none 0 0, .string ⟨z.toArray⟩, .slice none 0 0]) ∧ Below W.heap.size W w') := Lib.hid fun W => text_node z W
  have CR : Hid (∀ W, Calls Tryd.prog 18 #[.agg #[.int .i64 0, .slice none 0 0, .string ⟨z.toArray⟩, .slice none 0 0], .agg #[.int .i64 0, .slice none 0 0, .string ⟨z.toArray⟩, .slice none 0 0]] W fun e w' => e = .returned (.bool true) ∧ Below W.heap.size W w') := Lib.hid fun W => by
    have := rsame_all 0 (.mk 0 [] z []) (.mk 0 [] z []) (.slice none 0 0) (.slice none 0 0) (.slice none 0 0) (.slice none 0 0) W (fun _ => True) (fun _ => True) (SliceR.nil _ _ _ _ _ _) (SliceR.nil _ _ _ _ _ _) (SliceR.nil _ _ _ _ _ _) (SliceR.nil _ _ _ _ _ _)
    rw [decide_eq_true (rfl : Nod.mk 0 [] z [] = Nod.mk 0 [] z [])] at this
    exact this
  have CE : Hid (∀ W, Below w.heap.size w W → Calls Tryd.prog 30 #[.int .i64 t, .slice va l.length vc] W fun e w' => ∃ k1 k2, e = .returned (.agg #[.int .i64 t, .slice none 0 0, .string ⟨#[]⟩, .slice k1 l.length k2]) ∧ NodsR true h w' (fun b => W.heap.size ≤ b) (.slice k1 l.length k2) l ∧ Below W.heap.size W w') := Lib.hid fun W hW =>
    (elem_any h t _ l false W w S hv hW hn hf).mono fun _ _ ⟨k', h1, h3, h4⟩ => by
      obtain ⟨k1, k2, rfl⟩ := h3.slice
      exact ⟨k1, k2, h1, h3, h4⟩
  have CW : Hid (∀ W, Below w.heap.size w W → Calls Tryd.prog 28 #[.int .i64 b, .string ⟨href.toArray⟩, .slice va l.length vc] W fun e w' => ∃ k1 k2 h', e = .returned (.slice k1 (wrapN b href l).length k2) ∧ NodsR true h' w' (fun b => W.heap.size ≤ b) (.slice k1 (wrapN b href l).length k2) (wrapN b href l) ∧ Below W.heap.size W w') := Lib.hid fun W hW =>
    (wrap_any h b href _ l false W w S hv hW hn hf).mono fun _ _ ⟨v', h', h1, h3, h4⟩ => by
      obtain ⟨k1, k2, rfl⟩ := h3.slice
      exact ⟨k1, k2, h', h1, h3, h4⟩
  have HK := Lib.hid hv
  have HNF := Lib.hid (And.intro hn hf)
  clear hv hs he hbig hln hn hf
  go_enter Tryd.func7, Tryd.ntmps7
  have hfk := fun (x y z u : Value) (X : World) => field_kids x y z u X
  go_upto_region 8 with (first
    | (go_at_call 27; (with_reducible refine (CH.out _ H0.out).mono ?_); rintro e w2 ⟨rfl, hb2⟩)
    | (go_at_call 16; (with_reducible refine (CO.out _ hb2).mono ?_); rintro e w3 ⟨x1, y1, k1, k2, rfl, hk3, hb3⟩; have hx3 := below_from hb2 hb3; have HK3 := Lib.hid hk3; clear hk3)
    | (go_at_call 29; (with_reducible refine (CT.out _).mono ?_); rintro e w4 ⟨rfl, hb4⟩; have hx4 := below_from hx3 hb4)
    | (go_at_call 18; (with_reducible refine (CR.out _).mono ?_); rintro e w5 ⟨rfl, hb5⟩; have hx5 := below_from hx4 hb5)
    | (go_at_call 30; (with_reducible refine (CE.out _ (hx5.alloc hx5.size _)).mono ?_); rintro e w6 ⟨k3, k4, rfl, hk6, hb6⟩; have HK6 := Lib.hid hk6; clear hk6)
    | (go_at_call 30; (with_reducible refine (CE.out _ hx5).mono ?_); rintro e w6 ⟨k3, k4, rfl, hk6, hb6⟩; have HK6 := Lib.hid hk6; clear hk6; have hx6 := below_from hx5 hb6)
    | (go_at_call 28; (with_reducible refine (CW.out _ (hx6.alloc hx6.size _)).mono ?_); rintro e w7 ⟨k5, k6, h7, rfl, hk7, hb7⟩; have HK7 := Lib.hid hk7; clear hk7))
  have y5 := below_from hb4 hb5
  have y6 := below_from y5 hb6
  have y7 := below_from (y6.alloc y6.size (.cells #[.int .i64 t, .slice none 0 0, .string ⟨#[]⟩, .slice k3 l.length k4] 25)) hb7
  have hx7 : Below w.heap.size w w7 := below_from (hx6.alloc hx6.size (.cells #[.int .i64 t, .slice none 0 0, .string ⟨#[]⟩, .slice k3 l.length k4] 25)) hb7
  have e7 : Below w6.heap.size w6 w7 := below_from ((Below.refl w6.heap.size w6).alloc (Nat.le_refl _) (.cells #[.int .i64 t, .slice none 0 0, .string ⟨#[]⟩, .slice k3 l.length k4] 25)) hb7
  have u7 : Below w5.heap.size w5 w7 := below_from hb6 e7
  have B7 := Lib.hid (heap_below hb7 (heap_new w6 (.cells #[.int .i64 t, .slice none 0 0, .string ⟨#[]⟩, .slice k3 l.length k4] 25) rfl))
  have r3 := HK3.out.below (rdNod_stable _ _) y7
  have r35 := HK3.out.below (rdNod_stable _ _) y5
  have r6 := HK6.out.below (rdNod_stable _ _) e7
  have r7 : NodsR true h7 w7 (fun b => w5.heap.size ≤ b) (.slice k5 (wrapN b href l).length k6) (wrapN b href l) := HK7.out.stable (rdNod_stable _ _) (Keeps.refl _ _) (fun b hb _ => by have hb' : (w6.alloc (.cells #[.int .i64 t, .slice none 0 0, .string ⟨#[]⟩, .slice k3 l.length k4] 25)).heap.size ≤ b := hb; have := hb6.size; simp at hb'; omega)
  have rk := HK.out
  have hle5 : w.heap.size ≤ w5.heap.size := hx5.size
  have F1 : Hid (∀ W, Below w7.heap.size w7 W → Calls Tryd.prog 18 #[.agg #[.int .i64 t, .slice none 0 0, .string ⟨#[]⟩, .slice k3 l.length k4], .agg #[.int .i64 t, .slice none 0 0, .string ⟨#[]⟩, .slice k1 l.length k2]] W fun e w' => e = .returned (.bool true) ∧ Below W.heap.size W w') := Lib.hid fun W hW => by
    have := rsame_all h (.mk t [] [] l) (.mk t [] [] l) (.slice none 0 0) _ (.slice none 0 0) _ W _ _ (SliceR.nil _ _ _ _ _ _) (nods_plain (r6.below (rdNod_stable _ _) hW)) (SliceR.nil _ _ _ _ _ _) (nods_plain (r3.below (rdNod_stable _ _) hW))
    rw [decide_eq_true (rfl : Nod.mk t [] [] l = Nod.mk t [] [] l)] at this
    exact this
  have F2 : Hid (∀ W, Below w7.heap.size w7 W → Calls Tryd.prog 32 #[.int .i64 b, .string ⟨href.toArray⟩, .slice k1 l.length k2] W fun e w' => ∃ k7 k8 h8, e = .returned (.slice k7 (wrapN b href l).length k8) ∧ NodsR true h8 w' (fun b => W.heap.size ≤ b) (.slice k7 (wrapN b href l).length k8) (wrapN b href l) ∧ Below W.heap.size W w') := Lib.hid fun W hW =>
    (rwrap_any h b href _ l W w7 _ (nods_plain r3) hW HNF.out.1 HNF.out.2).mono fun _ _ ⟨v', h', g1, g3, g4⟩ => by
      obtain ⟨k7, k8, rfl⟩ := g3.slice
      exact ⟨k7, k8, h', g1, g3, g4⟩
  have F3 : Hid (∀ W k7 k8 h8 S8, Below w7.heap.size w7 W → NodsR true h8 W S8 (.slice k7 (wrapN b href l).length k8) (wrapN b href l) → Calls Tryd.prog 31 #[(.slice k5 (wrapN b href l).length k6), .slice k7 (wrapN b href l).length k8] W fun e w' => e = .returned (.bool true) ∧ Below W.heap.size W w') := Lib.hid fun W k7 k8 h8 S8 hW h1 => by
    have := refNodes_any (max h7 h8) _ _ (wrapN b href l) (wrapN b href l) W _ _ (nods_mono (Nat.le_max_left _ _) (nods_plain (r7.below (rdNod_stable _ _) hW))) (nods_mono (Nat.le_max_right _ _) (nods_plain h1))
    rw [decide_eq_true (rfl : wrapN b href l = wrapN b href l)] at this
    exact this
  have F4 : Hid (∀ W, Below w5.heap.size w5 W → Calls Tryd.prog 31 #[.slice va l.length vc, .slice k1 l.length k2] W fun e w' => e = .returned (.bool true) ∧ Below W.heap.size W w') := Lib.hid fun W hW => by
    have := refNodes_any h _ _ l l W _ _ (rk.below (rdNod_stable _ _) (below_from hx5 hW)) (nods_plain (r35.below (rdNod_stable _ _) hW))
    rw [decide_eq_true (rfl : l = l)] at this
    exact this
  have G1 : Hid (∀ W, Below w7.heap.size w7 W → Calls Tryd.prog 24 #[.slice k3 l.length k4] W fun e w' => (∃ u, e = .returned u) ∧ ShpN W w' ∧ Below w5.heap.size W w') := Lib.hid fun W hW => spoilN_all h _ l w5.heap.size W W (r6.below (rdNod_stable _ _) hW) (ShpN.refl _) (Below.refl _ _)
  have G2 : Hid (∀ W W', Below w7.heap.size w7 W → ShpN W W' → Below w5.heap.size W W' → Calls Tryd.prog 24 #[(.slice k5 (wrapN b href l).length k6)] W' fun e w' => (∃ u, e = .returned u) ∧ Below w5.heap.size w5 w') := Lib.hid fun W W' hW g1 g2 => (spoilN_all h7 _ (wrapN b href l) w5.heap.size W W' (r7.below (rdNod_stable _ _) hW) g1 g2).mono fun _ _ ⟨q1, _, q3⟩ => ⟨q1, (below_from u7 hW).trans q3⟩
  clear rk r7 r6 r35 r3 y5 y6 y7 e7 hb2 hb3 hb4 hb5 hb6 hb7 HK3 HK6 HK7 hx3 hx4 hx6
  obtain ⟨p7, f7⟩ := blk B7.out
  have hz7 := Lib.hid (Below.refl w7.heap.size w7)
  go_wp2_with (first
    | (go_at_call 18; (with_reducible refine (F1.out _ hz7.out).mono ?_); rintro e w8 ⟨rfl, hb8⟩)
    | (go_at_call 32; (with_reducible refine (F2.out _ hb8).mono ?_); rintro e w9 ⟨k7, k8, h8, rfl, hk9, hb9⟩; have hx9 := below_from hb8 hb9; have HK9 := Lib.hid hk9; clear hk9)
    | (go_at_call 31; (with_reducible refine (F3.out _ _ _ _ _ hx9 HK9.out).mono ?_); rintro e w10 ⟨rfl, hb10⟩; have hx10 := below_from hx9 hb10; obtain ⟨p10, f10⟩ := blk (heap_below hx10 B7.out))
    | (go_at_call 24; (with_reducible refine (G1.out _ hx10).mono ?_); rintro e w11 ⟨⟨u, rfl⟩, hS11, hb11⟩; have HS11 := Lib.hid hS11; clear hS11)
    | (go_at_call 24; (with_reducible refine (G2.out _ _ hx10 HS11.out hb11).mono ?_); rintro e w12 ⟨⟨u, rfl⟩, hb12⟩; have hx12 := below_from hx5 hb12)
    | (go_at_call 31; (with_reducible refine (F4.out _ hb12).mono ?_); rintro e w13 ⟨rfl, hb13⟩; have hx13 := below_from hx12 hb13)
    | (go_at_call 9; (with_reducible refine (CA.out _ hx13).mono ?_); rintro e w14 ⟨rfl, hb14⟩))
  go_ret
  exact ⟨rfl, below_from hx13 hb14⟩
end Go.Proofs.YtgeaijnelopkbaaDoor
namespace Go.Proofs.Qw
open Go.RowKit
theorem wrapB_one (b : Int) (kids : List Nod) (g : Int) (k : List UInt8) : ∀ i, i < bitsC b → ∃ t ks, (offs i (wrapB b kids, g, k)).1 = [.mk t [] [] ks] := by
  unfold bitsC wrapB wrap1
  by_cases c1 : bits .and .i64 b 1 = 0 <;> by_cases c2 : bits .and .i64 b 2 = 0 <;> by_cases c4 : bits .and .i64 b 4 = 0 <;> by_cases c8 : bits .and .i64 b 8 = 0 <;> simp only [c1, c2, c4, c8, if_true, if_false, Nat.add_zero, Nat.zero_add, Nat.reduceAdd]
  all_goals
    intro i hi
    rcases i with _ | _ | _ | _ | i <;> first | exact ⟨_, _, rfl⟩ | (exfalso; omega)
theorem wraps_one (b : Int) (href : List UInt8) (kids : List Nod) : ∀ i, i < bitsC b + (if href = [] then 0 else 1) → ∃ t ats ks, (offs i (wrapN b href kids, 0, [])).1 = [.mk t ats [] ks] ∧ (ats = [] ∨ ats = hrefA href) := by
  intro i hi
  unfold wrapN
  by_cases hh : href = []
  · rw [if_pos hh] at hi ⊢
    obtain ⟨t, ks, e⟩ := wrapB_one b kids 0 [] i (by omega)
    exact ⟨t, [], ks, e, .inl rfl⟩
  · rw [if_neg hh] at hi ⊢
    cases i with
    | zero => exact ⟨10, hrefA href, wrapB b kids, rfl, .inr rfl⟩
    | succ i =>
      rw [offs]
      obtain ⟨t, ks, e⟩ := wrapB_one b kids (offW ([Nod.mk 10 (hrefA href) [] (wrapB b kids)], 0, [])).2.1 (offW ([Nod.mk 10 (hrefA href) [] (wrapB b kids)], 0, [])).2.2 i (by omega)
      exact ⟨t, [], ks, e, .inl rfl⟩
def cntW (b : Int) : Nat → Nat
  | 0 => 0
  | 1 => (if bits .and .i64 b 1 = 0 then 0 else 1)
  | 2 => (if bits .and .i64 b 1 = 0 then 0 else 1) + (if bits .and .i64 b 2 = 0 then 0 else 1)
  | 3 => (if bits .and .i64 b 1 = 0 then 0 else 1) + (if bits .and .i64 b 2 = 0 then 0 else 1) + (if bits .and .i64 b 4 = 0 then 0 else 1)
  | _ => bitsC b
theorem cntW_le (b : Int) : ∀ k, k ≤ 4 → cntW b k ≤ k
  | 0, _ => by simp [cntW]
  | 1, _ => by
    show (if bits .and .i64 b 1 = 0 then 0 else 1) ≤ 1
    (repeat' split) <;> omega
  | 2, _ => by
    show (if bits .and .i64 b 1 = 0 then 0 else 1) + (if bits .and .i64 b 2 = 0 then 0 else 1) ≤ 2
    (repeat' split) <;> omega
  | 3, _ => by
    show (if bits .and .i64 b 1 = 0 then 0 else 1) + (if bits .and .i64 b 2 = 0 then 0 else 1) + (if bits .and .i64 b 4 = 0 then 0 else 1) ≤ 3
    (repeat' split) <;> omega
  | 4, _ => by
    show (if bits .and .i64 b 1 = 0 then 0 else 1) + (if bits .and .i64 b 2 = 0 then 0 else 1) + (if bits .and .i64 b 4 = 0 then 0 else 1) + (if bits .and .i64 b 8 = 0 then 0 else 1) ≤ 4
    (repeat' split) <;> omega
  | n + 5, h => by omega
theorem cnt1y {b : Int} (h : bits .and .i64 b 1 = 0) : cntW b 1 = cntW b 0 := by simp [cntW, h]
theorem cnt1n {b : Int} (h : ¬ bits .and .i64 b 1 = 0) : cntW b 1 = cntW b 0 + 1 := by simp [cntW, h]
theorem cnt2y {b : Int} (h : bits .and .i64 b 2 = 0) : cntW b 2 = cntW b 1 := by simp [cntW, h]
theorem cnt2n {b : Int} (h : ¬ bits .and .i64 b 2 = 0) : cntW b 2 = cntW b 1 + 1 := by simp [cntW, h]
theorem cnt4y {b : Int} (h : bits .and .i64 b 4 = 0) : cntW b 3 = cntW b 2 := by simp [cntW, h]
theorem cnt4n {b : Int} (h : ¬ bits .and .i64 b 4 = 0) : cntW b 3 = cntW b 2 + 1 := by simp [cntW, h]
theorem cnt8y {b : Int} (h : bits .and .i64 b 8 = 0) : cntW b 4 = cntW b 3 := by simp [cntW, bitsC, h]
theorem cnt8n {b : Int} (h : ¬ bits .and .i64 b 8 = 0) : cntW b 4 = cntW b 3 + 1 := by simp [cntW, bitsC, h]
theorem cnt_end {b : Int} {href : List UInt8} {N : Nat} {z : Int} {q : Bool} (hN : bitsC b + (if href = [] then 0 else 1) = N) (hz : z = cntW b 4) (hq : href.isEmpty = q) : (N : Int) = if q = true then z else z + 1 := by
  have e : cntW b 4 = bitsC b := rfl
  rw [e] at hz
  subst hz hq hN
  by_cases h : href = []
  · subst h; simp
  · have : href.isEmpty = false := by cases href with | nil => exact absurd rfl h | cons _ _ => rfl
    simp [h]
end Go.Proofs.Qw
namespace Go.Proofs.YtgeaijnelopkbaaDoor
open Go.RowKit
open Go.Proofs.Qw
attribute [local go_sem ↓] Go.wp_at_zero Go.wp_at_succ
set_option maxRecDepth 100000 in
set_option maxHeartbeats 8000000 in
theorem valueWraps_any (HP : CssP) (h : Nat) (b : Int) (href : List UInt8) (v : Value) (l : List Nod) (w : World) (S : Nat → Prop) (hv : NodsR false h w S v l) (hs : Nod.Sane (.mk 0 [] [] l)) (he : EnvT w) (hb1 : -9223372036854775808 ≤ b) (hb2 : b ≤ 9223372036854775807) :
    Calls Tryd.prog 6 #[.int .i64 b, .string ⟨href.toArray⟩, v] w fun e w' => e = .returned (.bool true) ∧ Below w.heap.size w w' := by
  have CH : Hid (∀ W, Below w.heap.size w W → Calls Tryd.prog 27 #[v] W fun e w' => e = .returned (.bool (decide (1000 < l.length) || decide (weighN (.mk 0 [] [] l) 3000 < 0))) ∧ Below W.heap.size W w') := Lib.hid fun W hW => heavies_any h v l W w S hv hW hs
  have CA : Hid (∀ W, Below w.heap.size w W → Calls Tryd.prog 9 #[] W fun e w' => e = .returned (.bool true) ∧ Below W.heap.size W w') := Lib.hid fun W hW => awake17_any HP W (he.below hW)
  have H0 := Lib.hid (Below.refl w.heap.size w)
  obtain ⟨va, vc, hve, hvc, hvm, hvx⟩ := nods_shape hv
  subst hve
  by_cases hbig : (decide (1000 < l.length) || decide (weighN (.mk 0 [] [] l) 3000 < 0)) = true
  · rw [hbig] at CH
    clear hv hs he hbig hvc hvm hvx
    go_enter Tryd.func6, Tryd.ntmps6
    go_wp2_with (first
      | (go_at_call 27; refine (CH.out _ H0.out).mono ?_; rintro e w2 ⟨rfl, hb2⟩)
      | (go_at_call 9; refine (CA.out _ hb2).mono ?_; rintro e w3 ⟨rfl, hb3⟩))
    go_ret
    exact ⟨rfl, below_from hb2 hb3⟩
  rw [Bool.not_eq_true] at hbig
  rw [hbig] at CH
  have hln : ¬ weighN (.mk 0 [] [] l) 3000 < 0 := by
    intro hh
    rw [decide_eq_true hh, Bool.or_true] at hbig
    cases hbig
  obtain ⟨hn, hf⟩ := light_kids hln
  by_cases hlh : 1000 < href.length
  · have hd : decide (1000 < (href.length : Int)) = true := by simp; omega
    clear hv hs he hbig hln hn hf hvc hvm hvx
    go_enter Tryd.func6, Tryd.ntmps6
    go_wp2_with (first
      | (go_at_call 27; refine (CH.out _ H0.out).mono ?_; rintro e w2 ⟨rfl, hb2⟩)
      | (go_at_call 9; refine (CA.out _ hb2).mono ?_; rintro e w3 ⟨rfl, hb3⟩))
    go_ret
    exact ⟨rfl, below_from hb2 hb3⟩
  have hd2 : decide (1000 < (href.length : Int)) = false := by simp; omega
  have CW : Hid (∀ W, Below w.heap.size w W → Calls Tryd.prog 28 #[.int .i64 b, .string ⟨href.toArray⟩, .slice va l.length vc] W fun e w' => ∃ k1 k2 h', e = .returned (.slice k1 (wrapN b href l).length k2) ∧ NodsR true h' w' (fun b => W.heap.size ≤ b) (.slice k1 (wrapN b href l).length k2) (wrapN b href l) ∧ Below W.heap.size W w') := Lib.hid fun W hW =>
    (wrap_any h b href _ l false W w S hv hW hn hf).mono fun _ _ ⟨v', h', h1, h3, h4⟩ => by
      obtain ⟨k1, k2, rfl⟩ := h3.slice
      exact ⟨k1, k2, h', h1, h3, h4⟩
  obtain ⟨N, hN⟩ : ∃ N : Nat, bitsC b + (if href = [] then 0 else 1) = N := ⟨_, rfl⟩
  obtain ⟨_, hend⟩ := wraps_law b href l hb1 hb2
  have hone := wraps_one b href l
  rw [hN] at hend hone
  have HN := Lib.hid hN
  have HEnd := Lib.hid hend
  have HOne := Lib.hid hone
  have HLH : Hid (href.length ≤ 1000) := Lib.hid (by omega)
  have HK := Lib.hid hv
  have HEn := Lib.hid he
  have HVX := Lib.hid hvx
  have CT : Hid (∀ W, Below w.heap.size w W → Calls Tryd.prog 26 #[.string ⟨href.toArray⟩] W fun e w' => e = .returned (.bool (targetF href)) ∧ Below W.heap.size W w') := Lib.hid fun W hW => by
    have := target_any ⟨href.toArray⟩ W (he.below hW) (by simp [ByteArray.size]; omega)
    exact this
  have hN5 : N ≤ 5 := by
    have := cntW_le b 4 (by omega)
    have e : cntW b 4 = bitsC b := rfl
    rw [e] at this
    rw [← hN]
    split <;> omega
  clear hv hs he hbig hln hf hN hend hone hlh hvx
  generalize hq : href.isEmpty = q
  have HQ := Lib.hid hq
  clear hq
  have hq := HQ.out
  go_enter Tryd.func6, Tryd.ntmps6
  go_wp2_with (first
    | (go_at_call 27; (with_reducible refine (CH.out _ H0.out).mono ?_); rintro e w2 ⟨rfl, hb2⟩)
    | (go_at_call 28; (with_reducible refine (CW.out _ hb2).mono ?_); rintro e w3 ⟨k1, k2, h3, rfl, hk3, hb3⟩; have hx3 := below_from hb2 hb3; have HK3 := Lib.hid hk3; clear hk3))
  have HX3 := Lib.hid hx3
  clear hb2 hb3 hx3
  go_loopw [10, 11] (fun n i wr => ∃ (k : Nat) (z y : Int), k ≤ 4 ∧ Hid (z = cntW b k) ∧ 0 ≤ z ∧ z ≤ k ∧ n = .int .i64 z ∧ Hid (y = 2 ^ k) ∧ i = .int .i64 y ∧ wr = w3) (fun _ i _ => 16 - (intOf i).toNat)
  case atStart => exact ⟨0, 0, 1, by omega, Lib.hid rfl, by omega, by omega, rfl, Lib.hid rfl, rfl, rfl⟩
  case round =>
    obtain ⟨k, z, y, hk, HZ, hz1, hz2, rfl, HY, rfl, hwr⟩ := hrel
    subst hwr
    obtain rfl | rfl | rfl | rfl | rfl : k = 0 ∨ k = 1 ∨ k = 2 ∨ k = 3 ∨ k = 4 := by omega
    all_goals clear hk
    · obtain rfl : y = 1 := HY.out
      replace hz2 : z ≤ 0 := hz2
      by_cases hb : bits .and .i64 b 1 = 0
      · have HBB := Lib.hid hb
        go_wp2_with fail
        go_roundw
        case rel => exact ⟨1, z, 2, by omega, Lib.hid (by rw [cnt1y HBB.out]; exact HZ.out), hz1, by omega, rfl, Lib.hid rfl, by go_num, by first | trivial | rfl⟩
        case measure => simp [intOf]
      · have HBB := Lib.hid hb
        go_wp2_with fail
        go_roundw
        case rel => exact ⟨1, z + 1, 2, by omega, Lib.hid (by rw [cnt1n HBB.out, HZ.out]; rfl), by omega, by omega, by go_num, Lib.hid rfl, by go_num, by first | trivial | rfl⟩
        case measure => simp [intOf]
    · obtain rfl : y = 2 := HY.out
      replace hz2 : z ≤ 1 := hz2
      by_cases hb : bits .and .i64 b 2 = 0
      · have HBB := Lib.hid hb
        go_wp2_with fail
        go_roundw
        case rel => exact ⟨2, z, 4, by omega, Lib.hid (by rw [cnt2y HBB.out]; exact HZ.out), hz1, by omega, rfl, Lib.hid rfl, by go_num, by first | trivial | rfl⟩
        case measure => simp [intOf]
      · have HBB := Lib.hid hb
        go_wp2_with fail
        go_roundw
        case rel => exact ⟨2, z + 1, 4, by omega, Lib.hid (by rw [cnt2n HBB.out, HZ.out]; rfl), by omega, by omega, by go_num, Lib.hid rfl, by go_num, by first | trivial | rfl⟩
        case measure => simp [intOf]
    · obtain rfl : y = 4 := HY.out
      replace hz2 : z ≤ 2 := hz2
      by_cases hb : bits .and .i64 b 4 = 0
      · have HBB := Lib.hid hb
        go_wp2_with fail
        go_roundw
        case rel => exact ⟨3, z, 8, by omega, Lib.hid (by rw [cnt4y HBB.out]; exact HZ.out), hz1, by omega, rfl, Lib.hid rfl, by go_num, by first | trivial | rfl⟩
        case measure => simp [intOf]
      · have HBB := Lib.hid hb
        go_wp2_with fail
        go_roundw
        case rel => exact ⟨3, z + 1, 8, by omega, Lib.hid (by rw [cnt4n HBB.out, HZ.out]; rfl), by omega, by omega, by go_num, Lib.hid rfl, by go_num, by first | trivial | rfl⟩
        case measure => simp [intOf]
    · obtain rfl : y = 8 := HY.out
      replace hz2 : z ≤ 3 := hz2
      by_cases hb : bits .and .i64 b 8 = 0
      · have HBB := Lib.hid hb
        go_wp2_with fail
        go_roundw
        case rel => exact ⟨4, z, 16, by omega, Lib.hid (by rw [cnt8y HBB.out]; exact HZ.out), hz1, by omega, rfl, Lib.hid rfl, by go_num, by first | trivial | rfl⟩
        case measure => simp [intOf]
      · have HBB := Lib.hid hb
        go_wp2_with fail
        go_roundw
        case rel => exact ⟨4, z + 1, 16, by omega, Lib.hid (by rw [cnt8n HBB.out, HZ.out]; rfl), by omega, by omega, by go_num, Lib.hid rfl, by go_num, by first | trivial | rfl⟩
        case measure => simp [intOf]
    · obtain rfl : y = 16 := HY.out
      replace hz2 : z ≤ 4 := hz2
      have HNz := Lib.hid (cnt_end HN.out HZ.out HQ.out)
      clear HY
      go_upto_if 37 with fail
      go_cut [10] from 38 to 39 (fun n wx => n = .int .i64 (N : Int) ∧ wx = wr)
      case first =>
        cases q
        all_goals
          go_wp2_with fail
          go_meet
          case rel => exact ⟨by rw [HNz.out]; rfl, rfl⟩
      case rest =>
        obtain ⟨rfl, rfl⟩ := hcut
        clear hz1 hz2 HNz hq
        refine ‹∀ (a : Act) (w : World), Code.wp _ _ _ a w → _› _ _ ?_
        go_wp2_with fail
        go_loopw [7, 8, 9, 12] (fun lv g s i wr => ∃ (k : Nat) (O : List Nod) (G : Int) (L : List UInt8) (u : Option Addr) (c : Nat), k ≤ N ∧ i = .int .i64 k ∧ Hid (offs k (wrapN b href l, 0, []) = (O, G, L)) ∧ lv = .slice u O.length c ∧ Hid (NodsR false h3 wr (fun b => w2.heap.size ≤ b) (.slice u O.length c) O) ∧ g = .int .i64 G ∧ s = .string ⟨L.toArray⟩ ∧ Hid (Below wc.heap.size wc wr)) (fun _ _ _ i _ => N - (intOf i).toNat)
        case atStart => exact ⟨0, wrapN b href l, 0, [], k1, k2, Nat.zero_le _, rfl, Lib.hid rfl, rfl, Lib.hid (nods_plain HK3.out), rfl, rfl, Lib.hid (Below.refl _ _)⟩
        case round =>
          obtain ⟨k, O, G, L, u, c, hk, rfl, HO, rfl, HR, rfl, rfl, HB⟩ := hrel
          by_cases hlt : k < N
          · obtain ⟨t, ats, ks, e1, e2⟩ := HOne.out k hlt
            have eO : O = [Nod.mk t ats [] ks] := by rw [HO.out] at e1; exact e1
            subst eO
            obtain ⟨m, hm⟩ : ∃ m, Nod.mk t ats [] ks = m := ⟨_, rfl⟩
            have hma : ∀ x ∈ m.attrs, x.value.length ≤ 100000 := by
              rw [← hm]
              intro x hx
              rcases e2 with rfl | rfl
              · cases hx
              · have hx : x ∈ hrefA href := hx
                unfold hrefA at hx
                rw [List.mem_singleton] at hx
                subst hx
                have := HLH.out
                show href.length ≤ 100000
                omega
            rw [hm] at HR HO
            have HStep : Hid (offs (k + 1) (wrapN b href l, 0, []) = (m.kids, bitsN m G, linkN m L)) := Lib.hid (by rw [offs_succ, HO.out]; rfl)
            obtain ⟨a', c', ev, hcc, hcm, hxx⟩ := nods_shape HR.out
            obtain ⟨bb, oo, aa, ac, ka, kc, h', eh, ea, hA⟩ := hxx 0 m rfl
            subst eh ea
            obtain ⟨eu, ec⟩ : u = some ⟨bb, oo, none⟩ ∧ c = c' := by
              have ev' : Value.slice u 1 c = Value.slice (some ⟨bb, oo, none⟩) 1 c' := ev
              cases ev'
              exact ⟨rfl, rfl⟩
            subst eu ec
            simp only [Nat.zero_mul, Nat.add_zero] at hA
            have HA := Lib.hid hA
            have CB : Hid (∀ W, Below wr.heap.size wr W → Calls Tryd.prog 12 #[.agg #[.int .i64 m.tag, .slice aa m.attrs.length ac, .string ⟨m.text.toArray⟩, .slice ka m.kids.length kc], .int .i64 G] W fun e w' => e = .returned (.int .i64 (bitsN m G)) ∧ Below W.heap.size W w') := Lib.hid fun W hW => nodBits_any HP m _ _ _ _ G W _ (hA.attrsR.below (rdOf_stable _) hW) (HEn.out.1.below (below_from HX3.out (below_from HB.out hW))) hma
            have CL : Hid (∀ W, Below wr.heap.size wr W → Calls Tryd.prog 14 #[.agg #[.int .i64 m.tag, .slice aa m.attrs.length ac, .string ⟨m.text.toArray⟩, .slice ka m.kids.length kc], .string ⟨L.toArray⟩] W fun e w' => e = .returned (.string ⟨(linkN m L).toArray⟩) ∧ Below W.heap.size W w') := Lib.hid fun W hW => nodLink_any m _ _ _ _ L W _ (hA.attrsR.below (rdOf_stable _) hW) (HEn.out.below (below_from HX3.out (below_from HB.out hW))) hma
            obtain ⟨hz, c0, c1, c2, c3, _, _⟩ := hA
            have hwr : Below wr.heap.size wr wr.drew := (Below.refl _ _).drew
            clear hma hm e1 e2 ev hcc hcm hxx
            generalize bitsN m G = G2 at *
            generalize linkN m L = L2 at *
            go_upto_region 18 with fail
            go_cut [8, 9] from 48 to 57 (fun g s wx => g = .int .i64 G2 ∧ s = .string ⟨L2.toArray⟩ ∧ Hid (Below wr.heap.size wr wx))
            case first =>
              go_region_held3 (fun w' => w'.cell? ⟨bb, oo, none⟩ = some (.int .i64 m.tag) ∧ w'.cell? ⟨bb, oo + 1, none⟩ = some (.slice aa m.attrs.length ac) ∧ w'.cell? ⟨bb, oo + 2, none⟩ = some (.string ⟨m.text.toArray⟩) ∧ w'.cell? ⟨bb, oo + 3, none⟩ = some (.slice ka m.kids.length kc)) (go_keep)
                (first
                  | (go_at_call 12; (with_reducible refine (CB.out _ (by assumption)).mono ?_); rintro e w5 ⟨rfl, hb5⟩; have hx5 : Below wr.heap.size wr w5 := below_from (by assumption) hb5; obtain ⟨_, d0, d1, d2, d3, _, _⟩ := HA.out.below hx5)
                  | (go_at_call 14; (with_reducible refine (CL.out _ (by assumption)).mono ?_); rintro e w7 ⟨rfl, hb7⟩; have hx7 : Below wr.heap.size wr w7 := below_from (by assumption) hb7; obtain ⟨_, d0, d1, d2, d3, _, _⟩ := HA.out.below hx7))
              all_goals
                go_wp2_with fail
                go_meet
                case rel => exact ⟨rfl, rfl, Lib.hid hx7⟩
            case rest =>
              obtain ⟨rfl, rfl, HY⟩ := hcut
              clear c0 c1 c2 c3 hwr
              obtain ⟨_, c0, c1, c2, c3, _, hkr⟩ := HA.out.below HY.out
              have HKR := Lib.hid hkr
              clear hkr
              refine ‹∀ (a : Act) (w : World), Code.wp _ _ _ a w → _› _ _ ?_
              go_wp2_with fail
              go_roundw
              case rel => exact ⟨k + 1, m.kids, G2, L2, ka, kc, hlt, by go_num, HStep, rfl, Lib.hid (nods_mono (Nat.le_succ _) HKR.out), rfl, rfl, Lib.hid (below_from HB.out HY.out)⟩
              case measure => simp [intOf]; omega
          · obtain rfl : k = N := by omega
            have e := HO.out.symm.trans HEnd.out
            obtain ⟨f1, f2⟩ := Prod.mk.inj e
            obtain ⟨f3, f4⟩ := Prod.mk.inj f2
            clear e f2
            subst f3
            subst f1
            have e := f4
            clear f4
            have HLast : Hid (NodsR false h3 wr (fun b => w2.heap.size ≤ b) (.slice u O.length c) O) := HR
            have HW : Hid (Below w.heap.size w wr) := Lib.hid (below_from HX3.out HB.out)
            clear HO HEnd HOne hlt hk
            have e2 : (targetF href = true ∧ L = href) ∨ (targetF href = false ∧ L = []) := by
              by_cases ht : targetF href = true
              · left
                refine ⟨ht, ?_⟩
                rw [e]
                by_cases hh : href = []
                · rw [hh]; simp
                · rw [if_pos ⟨ht, hh⟩]
              · right
                exact ⟨by simpa using ht, by rw [e, if_neg (fun h => ht h.1)]⟩
            clear e
            rcases e2 with ⟨ht, rfl⟩ | ⟨ht, rfl⟩
            all_goals
              rw [ht] at CT
              clear ht
              go_wp2_with (first
                | (go_at_call 26; (with_reducible refine (CT.out _ HW.out).mono ?_); rintro e w8 ⟨rfl, hb8⟩; have hx8 := below_from HW.out hb8)
                | (go_at_call 26; (with_reducible refine (CT.out _ hx8).mono ?_); rintro e w9 ⟨rfl, hb9⟩; have hx9 := below_from hx8 hb9))
              have HL9 := Lib.hid (HLast.out.below (rdNod_stable _ _) (below_from hb8 hb9))
              obtain ⟨_, _, ev, hcc, hcm, hxx⟩ := nods_shape HL9.out
              cases ev
              have HLX := Lib.hid hxx
              have HX9 := Lib.hid hx9
              unfold maxLen at hcm hvm
              clear hxx hb8 hb9 hx8 hx9
              go_loopw [13] (fun i wy => ∃ k : Nat, k ≤ O.length ∧ i = .int .i64 k ∧ Hid (Below w9.heap.size w9 wy)) (fun i _ => O.length - (intOf i).toNat)
              case atStart => exact ⟨0, Nat.zero_le _, rfl, Lib.hid (Below.refl _ _)⟩
              case round =>
                obtain ⟨k, hk, rfl, HB9⟩ := hrel
                have HBW := Lib.hid (below_from HX9.out HB9.out)
                by_cases hlt : k < O.length
                · obtain ⟨x, hx, _⟩ := getOf O k hlt
                  obtain ⟨bb, oo, aa, ac, ka, kc, h', eh, eu, hA⟩ := HLX.out k x hx
                  obtain ⟨b2, o2, aa2, ac2, ka2, kc2, h'', eh2, eva, hA2⟩ := HVX.out k x hx
                  subst eu eva
                  have hA := hA.below HB9.out
                  have hA2 := hA2.below HBW.out
                  have HA := Lib.hid hA
                  have HA2 := Lib.hid hA2
                  have CE : Hid (∀ W, Below wr.heap.size wr W → Calls Tryd.prog 19 #[.agg #[.int .i64 x.tag, .slice aa x.attrs.length ac, .string ⟨x.text.toArray⟩, .slice ka x.kids.length kc], .agg #[.int .i64 x.tag, .slice aa2 x.attrs.length ac2, .string ⟨x.text.toArray⟩, .slice ka2 x.kids.length kc2]] W fun e w' => e = .returned (.bool true) ∧ Below W.heap.size W w') := Lib.hid fun W hW => by
                    have h3 := HA.out.below hW
                    have h4 := HA2.out.below hW
                    have := nodSame_any (max h' h'') x x _ _ _ _ W _ _ h3.attrsR (nods_mono (Nat.le_max_left _ _) h3.kidsR) h4.attrsR (nods_mono (Nat.le_max_right _ _) h4.kidsR)
                    rw [decide_eq_true (rfl : x = x)] at this
                    exact this
                  obtain ⟨hz, c0, c1, c2, c3, _, _⟩ := hA
                  obtain ⟨hz2, d0, d1, d2, d3, _, _⟩ := hA2
                  have i0 : (0 : Int) ≤ (k : Int) := Int.natCast_nonneg _
                  have i1 : (k : Int) < (O.length : Int) := by omega
                  have hwr : Below wr.heap.size wr wr.drew := (Below.refl _ _).drew
                  have HWB := HB9
                  clear hx HB9 eh eh2
                  go_wp2_with fail
                  (go_region_held3 (fun w' => w'.cell? ⟨bb, oo + k * 4, none⟩ = some (.int .i64 x.tag) ∧ w'.cell? ⟨bb, oo + k * 4 + 1, none⟩ = some (.slice aa x.attrs.length ac) ∧ w'.cell? ⟨bb, oo + k * 4 + 2, none⟩ = some (.string ⟨x.text.toArray⟩) ∧ w'.cell? ⟨bb, oo + k * 4 + 3, none⟩ = some (.slice ka x.kids.length kc) ∧ w'.cell? ⟨b2, o2 + k * 4, none⟩ = some (.int .i64 x.tag) ∧ w'.cell? ⟨b2, o2 + k * 4 + 1, none⟩ = some (.slice aa2 x.attrs.length ac2) ∧ w'.cell? ⟨b2, o2 + k * 4 + 2, none⟩ = some (.string ⟨x.text.toArray⟩) ∧ w'.cell? ⟨b2, o2 + k * 4 + 3, none⟩ = some (.slice ka2 x.kids.length kc2)) ((first | go_keep | skip)) ((go_at_call 19; (with_reducible refine (CE.out _ (by assumption)).mono ?_); rintro e w10 ⟨rfl, hb10⟩; have hx10 : Below wr.heap.size wr w10 := below_from (by assumption) hb10; obtain ⟨_, e0, e1, e2, e3, _, _⟩ := HA.out.below hx10; obtain ⟨_, g0, g1, g2, g3, _, _⟩ := HA2.out.below hx10)))
                  all_goals
                    go_wp2_with fail
                    go_roundw
                    case rel => exact ⟨k + 1, hlt, by go_num, Lib.hid (below_from HWB.out hx10)⟩
                    case measure => simp [intOf]; omega
                · obtain rfl : k = O.length := by omega
                  go_wp2_with (go_at_call 9; (with_reducible refine (CA.out _ HBW.out).mono ?_); rintro e w11 ⟨rfl, hb11⟩)
                  go_ret
                  exact ⟨rfl, below_from HBW.out hb11⟩
end Go.Proofs.YtgeaijnelopkbaaDoor
