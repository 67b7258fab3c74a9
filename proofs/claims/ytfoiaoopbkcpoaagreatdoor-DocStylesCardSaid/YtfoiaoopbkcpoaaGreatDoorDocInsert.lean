/- The walks of Insert of documents, of the code and of the reference. -/
import Derived.Test.YtfoiaoopbkcpoaaGreatDoorCellsInsert
import Derived.Test.YtfoiaoopbkcpoaaGreatDoorDocPart
import Derived.Test.YtfoiaoopbkcpoaaGreatDoorDocSplit
namespace Go.Proofs.YtfoiaoopbkcpoaaGreatDoor
open Go.RowKit
open Go.Proofs.Qw
def insertD (more : List Cel) (d : Doc) (p : Ps) : Doc × Ps × Int :=
  if (spanD d p p && mayCs more) = true then (if 4000 < sizeD d + more.length then ([], ⟨0, 0⟩, 10) else (d.set p.line.toNat { (d.getD p.line.toNat default) with cells := insertC (d.getD p.line.toNat default).cells p.col.toNat more }, ⟨p.line, p.col + more.length⟩, 0)) else ([], ⟨0, 0⟩, 1)

set_option maxRecDepth 100000 in
set_option maxHeartbeats 8000000 in
theorem docInsert_any (v lv : Value) (d : Doc) (more : List Cel) (p : Ps) (w : World) (S S2 : Nat → Prop) (h : LinsR w S v d) (hl : CelsR false w S2 lv more) (he : EnvT w) (hs : Small d) (hf : Fits d) (hml : more.length ≤ 1000000) (hmh : ∀ c ∈ more, c.href.length ≤ 1000000) :
    Calls Tryz.prog 54 #[v, posV p, lv] w (DocPSaid (insertD more d p) w) := by
  obtain ⟨W1, hW1, hB, hz, k0, k1⟩ := two_pos w (.int .i64 p.line) (.int .i64 p.col) (.int .i64 0) (.int .i64 0)
  have HC1 := Lib.hid (docSpan_any v d p p W1 S (h.below (rdLin_stable _) hB) (he.below hB) hs)
  have HCM : Hid (∀ W, Below W1.heap.size W1 W → Calls Tryz.prog 96 #[lv] W fun e w' => e = .returned (.bool (mayCs more)) ∧ Below W.heap.size W w') := Lib.hid fun W hW => cellsMay_any lv more W w S2 hl (he.below (hB.trans (hW.mono hB.size))) (hB.trans (hW.mono hB.size)) hmh
  have HSZ : Hid (∀ W, Below W1.heap.size W1 W → Calls Tryz.prog 15 #[v] W fun e w' => e = .returned (.int .i64 (sizeD d)) ∧ Below W.heap.size W w') := Lib.hid fun W hW => size_any v d W w S h (hB.trans (hW.mono hB.size)) hs.1
  have HO : Hid (∀ W, Below W1.heap.size W1 W → Calls Tryz.prog 32 #[v] W fun e w' => ∃ v', e = .returned v' ∧ DocR true w' (fun b => W.heap.size ≤ b) v' d ∧ Below W.heap.size W w') := Lib.hid fun W hW => docOwn_any v d W w S h (hB.trans (hW.mono hB.size)) hf
  have HB : Hid (∀ W, Below W1.heap.size W1 W → W.heap[w.heap.size]? = some (.cells #[.int .i64 p.line, .int .i64 p.col] 24) ∧ W.heap[w.heap.size + 1]? = some (.cells #[.int .i64 0, .int .i64 0] 24)) := Lib.hid fun W hW => ⟨heap_below hW k0, heap_below hW k1⟩
  have HP : Hid (∀ p : Ps, posV p = .agg #[.int .i64 p.line, .int .i64 p.col]) := Lib.hid fun _ => rfl
  have H1 := Lib.hid hB
  have HL := Lib.hid h
  have HLC := Lib.hid hl
  have HF := Lib.hid hf
  have hlen := hf.1
  have hs1 := hB.size
  have hsz5 := hs.1
  obtain ⟨p1, f1⟩ := blk k0
  obtain ⟨p2, f2⟩ := blk k1
  obtain ⟨va, vc, rfl⟩ := h.slice
  obtain ⟨lb, lc, rfl⟩ := hl.slice
  clear h hl he hs hf k0 k1 hB
  cases hsp : spanD d p p
  · have HR : Hid (insertD more d p = ([], ⟨0, 0⟩, 1)) := Lib.hid (by unfold insertD; rw [hsp]; rfl)
    rw [hsp] at HC1
    clear hsp
    rw [HP.out p] at HC1 ⊢
    go_enter Tryz.func54, Tryz.ntmps54
    go_wp2_with (go_at_call 90; refine HC1.out.mono ?_; rintro e w2 ⟨rfl, hb2⟩; have k1' := (HB.out _ hb2).2; obtain ⟨q2, g2⟩ := blk k1')
    refine bodyPost_ret (results_dpe rfl _ _ (w.heap.size + 1) (.int .i64 0) (.int .i64 0) rfl (by simp [heap_set, putIn, k1'])) rfl ?_
    unfold DocPSaid
    rw [HR.out]
    have hfin := H1.out.trans (hb2.mono hs1)
    exact ⟨_, rfl, SliceR.nil _ _ _ _ _ _, by (repeat' (first | (with_reducible exact Below.refl _ _) | (with_reducible assumption) | (with_reducible refine Below.alloc ?_ ?_ _) | (with_reducible refine Below.drew ?_) | (with_reducible refine drewN_below ?_) | (with_reducible refine Below.setCell ?_ ?_ _) | go_size))⟩
  cases hmy : mayCs more
  · have HR : Hid (insertD more d p = ([], ⟨0, 0⟩, 1)) := Lib.hid (by unfold insertD; rw [hsp, hmy]; rfl)
    rw [hsp] at HC1
    rw [hmy] at HCM
    clear hsp hmy
    rw [HP.out p] at HC1 ⊢
    go_enter Tryz.func54, Tryz.ntmps54
    go_wp2_with (first | (go_at_call 90; refine HC1.out.mono ?_; rintro e w2 ⟨rfl, hb2⟩) | (go_at_call 96; refine (HCM.out _ hb2).mono ?_; rintro e w3 ⟨rfl, hb3⟩; have hx3 := below_from hb2 hb3; have k1' := (HB.out _ hx3).2; obtain ⟨q2, g2⟩ := blk k1'))
    refine bodyPost_ret (results_dpe rfl _ _ (w.heap.size + 1) (.int .i64 0) (.int .i64 0) rfl (by simp [heap_set, putIn, k1'])) rfl ?_
    unfold DocPSaid
    rw [HR.out]
    have hfin := H1.out.trans (hx3.mono hs1)
    exact ⟨_, rfl, SliceR.nil _ _ _ _ _ _, by (repeat' (first | (with_reducible exact Below.refl _ _) | (with_reducible assumption) | (with_reducible refine Below.alloc ?_ ?_ _) | (with_reducible refine Below.drew ?_) | (with_reducible refine drewN_below ?_) | (with_reducible refine Below.setCell ?_ ?_ _) | go_size))⟩
  obtain ⟨n, hn⟩ : ∃ n, sizeD d = n := ⟨_, rfl⟩
  rw [hn] at HSZ hsz5
  by_cases h4 : 4000 < n + more.length
  · have HR : Hid (insertD more d p = ([], ⟨0, 0⟩, 10)) := Lib.hid (by unfold insertD; rw [hsp, hmy, hn, show (true && true) = true from rfl, if_pos rfl, if_pos h4])
    have hq1 : (4000 : Int) < (n : Int) + (more.length : Int) := by omega
    have hq2 : decide ((4000 : Int) < (n : Int) + (more.length : Int)) = true := decide_eq_true hq1
    rw [hsp] at HC1
    rw [hmy] at HCM
    clear hsp hmy h4 hn
    rw [HP.out p] at HC1 ⊢
    go_enter Tryz.func54, Tryz.ntmps54
    go_wp2_with (first | (go_at_call 90; refine HC1.out.mono ?_; rintro e w2 ⟨rfl, hb2⟩) | (go_at_call 96; refine (HCM.out _ hb2).mono ?_; rintro e w3 ⟨rfl, hb3⟩; have hx3 := below_from hb2 hb3) | (go_at_call 15; refine (HSZ.out _ hx3).mono ?_; rintro e w4 ⟨rfl, hb4⟩; have hx4 := below_from hx3 hb4; have k1' := (HB.out _ hx4).2; obtain ⟨q2, g2⟩ := blk k1'))
    refine bodyPost_ret (results_dpe rfl _ _ (w.heap.size + 1) (.int .i64 0) (.int .i64 0) rfl (by simp [heap_set, putIn, k1'])) rfl ?_
    unfold DocPSaid
    rw [HR.out]
    have hfin := H1.out.trans (hx4.mono hs1)
    exact ⟨_, rfl, SliceR.nil _ _ _ _ _ _, by (repeat' (first | (with_reducible exact Below.refl _ _) | (with_reducible assumption) | (with_reducible refine Below.alloc ?_ ?_ _) | (with_reducible refine Below.drew ?_) | (with_reducible refine drewN_below ?_) | (with_reducible refine Below.setCell ?_ ?_ _) | go_size))⟩
  obtain ⟨_, i, _, q, _, l, _, rfl, hpe, hl, _, hq, _, _, _⟩ := span_at hsp
  have hil := (List.getElem?_eq_some_iff.1 hl).1
  have hfl := HF.out.2 l (List.mem_of_getElem? hl)
  have HR : Hid (insertD more d ⟨i, q⟩ = (d.set i { l with cells := insertC l.cells q more }, ⟨i, (q : Int) + (more.length : Int)⟩, 0)) := Lib.hid (by
    unfold insertD
    rw [hsp, hmy, hn, show (true && true) = true from rfl, if_pos rfl, if_neg h4]
    simp [List.getD, hl])
  have hq1 : (n : Int) + (more.length : Int) ≤ 4000 := by omega
  have hq2 : decide ((4000 : Int) < (n : Int) + (more.length : Int)) = false := decide_eq_false (by omega)
  rw [hsp] at HC1
  rw [hmy] at HCM
  rw [HP.out] at HC1 ⊢
  obtain ⟨va', vc', hve, hvc, hvm, hx⟩ := lins_shape HL.out
  cases hve
  obtain ⟨b1, o1, la, lc1, ca, cc, rfl, hAi⟩ := hx i l hl
  have HAI := Lib.hid hAi
  have HLL := Lib.hid hl
  unfold maxLen at hvm
  have i0 : (0 : Int) ≤ (i : Int) := Int.natCast_nonneg _
  have i1 : (i : Int) < (d.length : Int) := by omega
  have u0 : (0 : Int) ≤ (q : Int) := Int.natCast_nonneg _
  have u1 : (q : Int) ≤ 1000000 := by omega
  have u2 : (more.length : Int) ≤ 1000000 := by omega
  clear hx hAi hl hsp hmy h4 hn hpe
  go_enter Tryz.func54, Tryz.ntmps54
  go_wp2_with (first | (go_at_call 90; refine HC1.out.mono ?_; rintro e w2 ⟨rfl, hb2⟩) | (go_at_call 96; refine (HCM.out _ hb2).mono ?_; rintro e w3 ⟨rfl, hb3⟩; have hx3 := below_from hb2 hb3) | (go_at_call 15; refine (HSZ.out _ hx3).mono ?_; rintro e w4 ⟨rfl, hb4⟩; have hx4 := below_from hx3 hb4) | (go_at_call 32; refine (HO.out _ hx4).mono ?_; rintro e w5 ⟨v5, rfl, hv5, hb5⟩; have hx5 := below_from hx4 hb5; obtain ⟨b3, o3, c3, la3, lc3, ca3, cc3, rfl, hc3, hm3, hA3, hI3, hC3, hS3⟩ := docOwn_at hv5 HLL.out; have HV5 := Lib.hid hv5; have HA3 := Lib.hid hA3; have HC3 := Lib.hid hC3; unfold maxLen at hm3; have hS3' : w4.heap.size ≤ b3 := hS3; clear hv5 hI3 hC3 hA3 hS3))
  have hsz14 := hx4.size
  have hsz45 := hb5.size
  have hb3z := HA3.out.lt
  have hb1z : b1 < w.heap.size := HAI.out.lt
  have k0' := (HB.out _ hx5).1
  have k1' := (HB.out _ hx5).2
  obtain ⟨q1', g1'⟩ := blk k0'
  have hd5 : Below w5.heap.size w5 w5.drew := (Below.refl _ _).drew
  have HCI : Hid (∀ W, Below w5.heap.size w5 W → Calls Tryz.prog 97 #[.slice ca3 l.cells.length cc3, .int .i64 q, .slice lb more.length lc] W (CellsSaid (insertC l.cells q more) 0 W)) := Lib.hid fun W hW => cellsInsert_any ca3 lb cc3 lc q l.cells more W w5 w _ S2 true false HC3.out HLC.out hW ((H1.out.trans (hx5.mono hs1)).trans (hW.mono (by omega))) hq hfl.2 hml
  obtain ⟨b3', o3', cs3, hbe, _, hg3, hgz⟩ := SliceR.cellAt HV5.out (i := i) hil
  cases hbe
  have e1 : b3 ≠ w.heap.size := by omega
  have e2 : b3 ≠ w.heap.size + 1 := by omega
  have HG3 := Lib.hid hg3
  have hld : (w5.drew).cell? ⟨b3, o3 + i * 4 + 3, none⟩ = some (.slice ca3 l.cells.length cc3) := HA3.out.cells
  have HK := Lib.hid (And.intro k0' k1')
  clear hg3 k0' k1' p1 f1 p2 f2 hW1
  refine wp_region_noPanic ?_
  refine wp_region_held_drew (S := fun w' => w'.cell? ⟨w.heap.size, 0, none⟩ = some (.int .i64 i) ∧ w'.cell? ⟨w.heap.size, 1, none⟩ = some (.int .i64 q)) (by kernel_rfl) ⟨q1' 0, q1' 1⟩ (fun hHeld => ?_)
  obtain ⟨X0, hX0⟩ : ∃ X, w5.drew = X := ⟨_, rfl⟩
  rw [hX0] at hd5 hHeld hld ⊢
  clear hX0 q1' g1'
  refine wpAnyH_take (i := 0) (v := ?_) (by simp only [List.getElem?_toArray, List.getElem?_cons_zero]; rfl) (by kernel_rfl) (by kernel_rfl) (by kernel_rfl) (fun _ _ _ h => h) (Or.inl ⟨by rfl, ?_⟩) (by assumption) ?_
  rotate_left 1
  · intro w hSw; (try dsimp only at hSw); go_simp; (first | done | with_reducible rfl)
  try simp only [Act.put, List.setIfInBounds_toArray, List.set_cons_zero, List.set_cons_succ]
  refine wpAnyH_take (i := 1) (v := ?_) (by simp only [List.getElem?_toArray, List.getElem?_cons_succ, List.getElem?_cons_zero]; rfl) (by kernel_rfl) (by kernel_rfl) (by kernel_rfl) (fun _ _ _ h => h) (Or.inl ⟨by rfl, ?_⟩) (by assumption) ?_
  rotate_left 1
  · intro w hSw; (try dsimp only at hSw); go_simp; (first | done | with_reducible rfl)
  try simp only [Act.put, List.setIfInBounds_toArray, List.set_cons_zero, List.set_cons_succ]
  refine wpAnyH_take (i := 2) (v := ?_) (by simp only [List.getElem?_toArray, List.getElem?_cons_succ, List.getElem?_cons_zero]; rfl) (by kernel_rfl) (by kernel_rfl) (by kernel_rfl) (fun _ _ _ h => h) (Or.inl ⟨by rfl, ?_⟩) (by assumption) ?_
  rotate_left 1
  · intro w hSw; (try dsimp only at hSw); go_simp; (first | done | with_reducible rfl)
  try simp only [Act.put, List.setIfInBounds_toArray, List.set_cons_zero, List.set_cons_succ]
  refine wpAnyH_take (i := 3) (v := ?_) (by simp only [List.getElem?_toArray, List.getElem?_cons_succ, List.getElem?_cons_zero]; rfl) (by kernel_rfl) (by kernel_rfl) (by kernel_rfl) (fun _ _ _ h => h) (Or.inl ⟨by rfl, ?_⟩) (by assumption) ?_
  rotate_left 1
  · intro w hSw; (try dsimp only at hSw); go_simp; (first | done | with_reducible rfl)
  try simp only [Act.put, List.setIfInBounds_toArray, List.set_cons_zero, List.set_cons_succ]
  refine wpAnyH_take (i := 4) (v := ?_) (by simp only [List.getElem?_toArray, List.getElem?_cons_succ, List.getElem?_cons_zero]; rfl) (by kernel_rfl) (by kernel_rfl) (by kernel_rfl) (fun _ _ _ h => h) (Or.inl ⟨by rfl, ?_⟩) (by assumption) ?_
  rotate_left 1
  · intro w hSw; (try dsimp only at hSw); go_simp; (first | done | with_reducible rfl)
  try simp only [Act.put, List.setIfInBounds_toArray, List.set_cons_zero, List.set_cons_succ]
  refine wpAnyH_take (i := 5) (v := ?_) (by simp only [List.getElem?_toArray, List.getElem?_cons_succ, List.getElem?_cons_zero]; rfl) (by kernel_rfl) (by kernel_rfl) (by kernel_rfl) (fun _ _ _ h => h) (Or.inl ⟨by rfl, ?_⟩) (by assumption) ?_
  rotate_left 1
  · intro w hSw; (try dsimp only at hSw); go_simp; (first | done | with_reducible rfl)
  try simp only [Act.put, List.setIfInBounds_toArray, List.set_cons_zero, List.set_cons_succ]
  refine wpAnyH_take (i := 6) (v := ?_) (by simp only [List.getElem?_toArray, List.getElem?_cons_succ, List.getElem?_cons_zero]; rfl) (by kernel_rfl) (by kernel_rfl) (by kernel_rfl) (fun _ _ _ h => h) (Or.inl ⟨by rfl, ?_⟩) (by assumption) ?_
  rotate_left 1
  · intro w hSw; (try dsimp only at hSw); go_simp; (first | done | with_reducible rfl)
  try simp only [Act.put, List.setIfInBounds_toArray, List.set_cons_zero, List.set_cons_succ]
  refine wpAnyH_take (i := 7) (v := ?_) (by simp only [List.getElem?_toArray, List.getElem?_cons_succ, List.getElem?_cons_zero]; rfl) (by kernel_rfl) (by kernel_rfl) (by kernel_rfl) (fun _ _ _ h => h) (Or.inl ⟨by rfl, ?_⟩) (by assumption) ?_
  rotate_left 1
  · intro w hSw; (try dsimp only at hSw); go_simp; (first | done | with_reducible rfl)
  try simp only [Act.put, List.setIfInBounds_toArray, List.set_cons_zero, List.set_cons_succ]
  refine wpAnyH_take (i := 9) (v := ?_) (by simp only [List.getElem?_toArray, List.getElem?_cons_succ, List.getElem?_cons_zero]; rfl) (by kernel_rfl) (by kernel_rfl) (by kernel_rfl) (fun _ _ _ h => h) (Or.inl ⟨by rfl, ?_⟩) (by assumption) ?_
  rotate_left 1
  · intro w hSw; (try dsimp only at hSw); go_simp; (first | done | with_reducible rfl)
  try simp only [Act.put, List.setIfInBounds_toArray, List.set_cons_zero, List.set_cons_succ]
  refine wpAnyH_take (i := 10) (v := ?_) (by simp only [List.getElem?_toArray, List.getElem?_cons_succ, List.getElem?_cons_zero]; rfl) (by kernel_rfl) (by kernel_rfl) (by kernel_rfl) (fun _ _ _ h => h) (Or.inl ⟨by rfl, ?_⟩) (by assumption) ?_
  rotate_left 1
  · intro w hSw; (try dsimp only at hSw); go_simp; (first | done | with_reducible rfl)
  try simp only [Act.put, List.setIfInBounds_toArray, List.set_cons_zero, List.set_cons_succ]
  refine wpAnyH_take (i := 11) (v := ?_) (by simp only [List.getElem?_toArray, List.getElem?_cons_succ, List.getElem?_cons_zero]; rfl) (by kernel_rfl) (by kernel_rfl) (by kernel_rfl) (fun _ _ _ h => h) (Or.inl ⟨by rfl, ?_⟩) (by assumption) ?_
  rotate_left 1
  · intro w hSw; (try dsimp only at hSw); go_simp; (first | done | with_reducible rfl)
  try simp only [Act.put, List.setIfInBounds_toArray, List.set_cons_zero, List.set_cons_succ]
  refine wpAnyH_ready (rs := [8]) (by kernel_rfl) (by simp) ?_
  refine AllReadyH.cons (by simp only [List.getElem?_toArray, List.getElem?_cons_succ, List.getElem?_cons_zero]; rfl) (fun K hK => ?_) AllReadyH.nil
  go_simp
  refine hK.out _ _ hHeld (fun _ => ?_)
  clear hK K
  try simp only [Act.put, List.setIfInBounds_toArray, List.set_cons_zero, List.set_cons_succ]
  refine wpAnyH_ready (rs := [12]) (by kernel_rfl) (by simp) ?_
  refine AllReadyH.cons (by simp only [List.getElem?_toArray, List.getElem?_cons_succ, List.getElem?_cons_zero]; rfl) (fun K hK => ?_) AllReadyH.nil
  go_simp
  refine (HCI.out _ hd5).mono ?_
  intro e w6 hsaid
  obtain ⟨v6, rfl, hv6, hb6'⟩ := hsaid
  have hb6 : Below w5.heap.size w5 w6 := below_from hd5 hb6'
  have hdz := hd5.size
  obtain ⟨a6, n6, c6, hv6e⟩ := slice_any hv6
  subst hv6e
  have HV6 : Hid (CelsR true w6 (fun b => w5.heap.size ≤ b) (.slice a6 n6 c6) (insertC l.cells q more)) := Lib.hid (SliceR.stable (rdOf_stable _) hv6 (Keeps.refl _ _) (fun b h _ => Nat.le_trans hdz h))
  obtain ⟨y0, y0f⟩ := blk (heap_below hb6 HK.out.1)
  have k16 := heap_below hb6 HK.out.2
  have g36 := heap_below hb6 HG3.out
  have y3 : w6.cell? ⟨b3, o3 + i * 4 + 3, none⟩ = some (.slice ca3 l.cells.length cc3) := (hb6.cell (p := ⟨b3, o3 + i * 4 + 3, none⟩) hb3z).trans HA3.out.cells
  have y3f : w6.frozen? ⟨b3, o3 + i * 4 + 3, none⟩ = false := frozen_of_heap g36
  have hS6 : w6.cell? ⟨w.heap.size, 0, none⟩ = some (.int .i64 i) ∧ w6.cell? ⟨w.heap.size, 1, none⟩ = some (.int .i64 q) := ⟨y0 0, y0 1⟩
  clear hv6 hb6' hld hHeld
  refine hK.out _ _ hS6 (fun hHeld => ?_)
  clear hK K
  try simp only [Act.put, List.setIfInBounds_toArray, List.set_cons_zero, List.set_cons_succ]
  refine wpAnyH_take (i := 13) (v := ?_) (by simp only [List.getElem?_toArray, List.getElem?_cons_succ, List.getElem?_cons_zero]; rfl) (by kernel_rfl) (by kernel_rfl) (by kernel_rfl) (fun _ _ _ h => h) (Or.inl ⟨by rfl, ?_⟩) (by assumption) ?_
  rotate_left 1
  · intro w hSw; (try dsimp only at hSw); go_simp; (first | done | with_reducible rfl)
  try simp only [Act.put, List.setIfInBounds_toArray, List.set_cons_zero, List.set_cons_succ]
  refine wpAnyH_take (i := 14) (v := ?_) (by simp only [List.getElem?_toArray, List.getElem?_cons_succ, List.getElem?_cons_zero]; rfl) (by kernel_rfl) (by kernel_rfl) (by kernel_rfl) (fun _ _ _ h => h) (Or.inl ⟨by rfl, ?_⟩) (by assumption) ?_
  rotate_left 1
  · intro w hSw; (try dsimp only at hSw); go_simp; (first | done | with_reducible rfl)
  try simp only [Act.put, List.setIfInBounds_toArray, List.set_cons_zero, List.set_cons_succ]
  refine wpAnyH_take (i := 15) (v := ?_) (by simp only [List.getElem?_toArray, List.getElem?_cons_succ, List.getElem?_cons_zero]; rfl) (by kernel_rfl) (by kernel_rfl) (by kernel_rfl) (fun _ _ _ h => h) (Or.inl ⟨by rfl, ?_⟩) (by assumption) ?_
  rotate_left 1
  · intro w hSw; (try dsimp only at hSw); go_simp; (first | done | with_reducible rfl)
  try simp only [Act.put, List.setIfInBounds_toArray, List.set_cons_zero, List.set_cons_succ]
  refine wpAnyH_take (i := 16) (v := ?_) (by simp only [List.getElem?_toArray, List.getElem?_cons_succ, List.getElem?_cons_zero]; rfl) (by kernel_rfl) (by kernel_rfl) (by kernel_rfl) (fun _ _ _ h => h) (Or.inl ⟨by rfl, ?_⟩) (by assumption) ?_
  rotate_left 1
  · intro w hSw; (try dsimp only at hSw); go_simp; (first | done | with_reducible rfl)
  try simp only [Act.put, List.setIfInBounds_toArray, List.set_cons_zero, List.set_cons_succ]
  refine wpAnyH_take (i := 17) (v := ?_) (by simp only [List.getElem?_toArray, List.getElem?_cons_succ, List.getElem?_cons_zero]; rfl) (by kernel_rfl) (by kernel_rfl) (by kernel_rfl) (fun _ _ _ h => h) (Or.inl ⟨by rfl, ?_⟩) (by assumption) ?_
  rotate_left 1
  · intro w hSw; (try dsimp only at hSw); go_simp; (first | done | with_reducible rfl)
  try simp only [Act.put, List.setIfInBounds_toArray, List.set_cons_zero, List.set_cons_succ]
  refine wpAnyH_ready (rs := [18]) (by kernel_rfl) (by simp) ?_
  refine AllReadyH.cons (by simp only [List.getElem?_toArray, List.getElem?_cons_succ, List.getElem?_cons_zero]; rfl) (fun K hK => ?_) AllReadyH.nil
  go_simp
  have hS7 : (w6.setCell ⟨b3, o3 + i * 4 + 3, none⟩ (.slice a6 n6 c6)).cell? ⟨w.heap.size, 0, none⟩ = some (.int .i64 i) ∧ (w6.setCell ⟨b3, o3 + i * 4 + 3, none⟩ (.slice a6 n6 c6)).cell? ⟨w.heap.size, 1, none⟩ = some (.int .i64 q) := ⟨(setCell_block e1).trans hS6.1, (setCell_block e1).trans hS6.2⟩
  refine hK.out _ _ hS7 (fun _ => ?_)
  refine wpAnyH_done (by kernel_rfl) ?_ _
  refine NoPanic.normal ?_
  clear hK K hHeld y0 y0f y3 y3f
  obtain ⟨w7, hw7⟩ : ∃ X, w6.setCell ⟨b3, o3 + i * 4 + 3, none⟩ (.slice a6 n6 c6) = X := ⟨_, rfl⟩
  have k17 : w7.heap[w.heap.size + 1]? = some (.cells #[.int .i64 0, .int .i64 0] 24) := by rw [← hw7, heap_set, if_neg e2]; exact k16
  have hfin : Below w.heap.size w w7 := by
    rw [← hw7]
    exact ((H1.out.trans (hx5.mono hs1)).trans (hb6.mono (by omega))).setCell (by show w.heap.size ≤ b3; omega) _
  have hD7 : DocR true w7 (fun b => w4.heap.size ≤ b) (.slice (some ⟨b3, o3, none⟩) d.length c3) (d.set i { l with cells := insertC l.cells q more }) := by
    rw [← hw7]
    refine SliceR.set1 eltLine.tag (SliceR.below (rdLin_stable true) HV5.out hb6) HLL.out (j := 3) (by decide) (.slice a6 n6 c6) ?_
    rintro vs _ ⟨p', q', rfl, hp', hq'⟩
    exact ⟨p', _, rfl, hp', SliceR.stable (rdOf_stable _) HV6.out (Keeps.refl _ _) (fun b h _ => Nat.le_trans hsz45 h)⟩
  have hz7 : w6.heap.size = w7.heap.size := by rw [← hw7]; simp
  have hz56 := hb6.size
  rw [hw7] at hS7 ⊢
  clear hw7 k16 hS6 g36
  obtain ⟨r1, s1⟩ := blk k17
  have HD7 := Lib.hid hD7
  have HFIN := Lib.hid hfin
  clear hD7 hfin
  go_wp2_with fail
  refine wp_region_noPanic ?_
  refine wp_region_held_drew (S := fun w' => w'.cell? ⟨w.heap.size, 0, none⟩ = some (.int .i64 i) ∧ w'.cell? ⟨w.heap.size, 1, none⟩ = some (.int .i64 q)) (by kernel_rfl) ⟨hS7.1, hS7.2⟩ (fun hHeld => ?_)
  obtain ⟨X9, hX9⟩ : ∃ X, w7.drew = X := ⟨_, rfl⟩
  have hd9 : Below w7.heap.size w7 X9 := hX9 ▸ (Below.refl _ _).drew
  rw [hX9] at hHeld ⊢
  have k19 := heap_below hd9 k17
  obtain ⟨r9, s9⟩ := blk k19
  have HD9 := Lib.hid hd9
  have HK9 := Lib.hid k19
  have HS9 := Lib.hid hHeld
  have e3 : w.heap.size + 1 ≠ w.heap.size := by omega
  clear hX9 hS7 r1 s1 k17 hd9 k19
  refine wpAnyH_take (i := 0) (v := ?_) (by simp only [List.getElem?_toArray, List.getElem?_cons_zero]; rfl) (by kernel_rfl) (by kernel_rfl) (by kernel_rfl) (fun _ _ _ h => h) (Or.inl ⟨by rfl, ?_⟩) (by assumption) ?_
  rotate_left 1
  · intro w hSw; (try dsimp only at hSw); go_simp; (first | done | with_reducible rfl)
  try simp only [Act.put, List.setIfInBounds_toArray, List.set_cons_zero, List.set_cons_succ]
  refine wpAnyH_take (i := 1) (v := ?_) (by simp only [List.getElem?_toArray, List.getElem?_cons_succ, List.getElem?_cons_zero]; rfl) (by kernel_rfl) (by kernel_rfl) (by kernel_rfl) (fun _ _ _ h => h) (Or.inl ⟨by rfl, ?_⟩) (by assumption) ?_
  rotate_left 1
  · intro w hSw; (try dsimp only at hSw); go_simp; (first | done | with_reducible rfl)
  try simp only [Act.put, List.setIfInBounds_toArray, List.set_cons_zero, List.set_cons_succ]
  refine wpAnyH_take (i := 2) (v := ?_) (by simp only [List.getElem?_toArray, List.getElem?_cons_succ, List.getElem?_cons_zero]; rfl) (by kernel_rfl) (by kernel_rfl) (by kernel_rfl) (fun _ _ _ h => h) (Or.inl ⟨by rfl, ?_⟩) (by assumption) ?_
  rotate_left 1
  · intro w hSw; (try dsimp only at hSw); go_simp; (first | done | with_reducible rfl)
  try simp only [Act.put, List.setIfInBounds_toArray, List.set_cons_zero, List.set_cons_succ]
  refine wpAnyH_take (i := 3) (v := ?_) (by simp only [List.getElem?_toArray, List.getElem?_cons_succ, List.getElem?_cons_zero]; rfl) (by kernel_rfl) (by kernel_rfl) (by kernel_rfl) (fun _ _ _ h => h) (Or.inl ⟨by rfl, ?_⟩) (by assumption) ?_
  rotate_left 1
  · intro w hSw; (try dsimp only at hSw); go_simp; (first | done | with_reducible rfl)
  try simp only [Act.put, List.setIfInBounds_toArray, List.set_cons_zero, List.set_cons_succ]
  refine wpAnyH_take (i := 4) (v := ?_) (by simp only [List.getElem?_toArray, List.getElem?_cons_succ, List.getElem?_cons_zero]; rfl) (by kernel_rfl) (by kernel_rfl) (by kernel_rfl) (fun _ _ _ h => h) (Or.inl ⟨by rfl, ?_⟩) (by assumption) ?_
  rotate_left 1
  · intro w hSw; (try dsimp only at hSw); go_simp; (first | done | with_reducible rfl)
  try simp only [Act.put, List.setIfInBounds_toArray, List.set_cons_zero, List.set_cons_succ]
  refine wpAnyH_take (i := 5) (v := ?_) (by simp only [List.getElem?_toArray, List.getElem?_cons_succ, List.getElem?_cons_zero]; rfl) (by kernel_rfl) (by kernel_rfl) (by kernel_rfl) (fun _ _ _ h => h) (Or.inl ⟨by rfl, ?_⟩) (by assumption) ?_
  rotate_left 1
  · intro w hSw; (try dsimp only at hSw); go_simp; (first | done | with_reducible rfl)
  try simp only [Act.put, List.setIfInBounds_toArray, List.set_cons_zero, List.set_cons_succ]
  refine wpAnyH_take (i := 6) (v := ?_) (by simp only [List.getElem?_toArray, List.getElem?_cons_succ, List.getElem?_cons_zero]; rfl) (by kernel_rfl) (by kernel_rfl) (by kernel_rfl) (fun _ _ _ h => h) (Or.inl ⟨by rfl, ?_⟩) (by assumption) ?_
  rotate_left 1
  · intro w hSw; (try dsimp only at hSw); go_simp; (first | done | with_reducible rfl)
  try simp only [Act.put, List.setIfInBounds_toArray, List.set_cons_zero, List.set_cons_succ]
  refine wpAnyH_take (i := 7) (v := ?_) (by simp only [List.getElem?_toArray, List.getElem?_cons_succ, List.getElem?_cons_zero]; rfl) (by kernel_rfl) (by kernel_rfl) (by kernel_rfl) (fun _ _ _ h => h) (Or.inl ⟨by rfl, ?_⟩) (by assumption) ?_
  rotate_left 1
  · intro w hSw; (try dsimp only at hSw); go_simp; (first | done | with_reducible rfl)
  try simp only [Act.put, List.setIfInBounds_toArray, List.set_cons_zero, List.set_cons_succ]
  refine wpAnyH_take (i := 8) (v := ?_) (by simp only [List.getElem?_toArray, List.getElem?_cons_succ, List.getElem?_cons_zero]; rfl) (by kernel_rfl) (by kernel_rfl) (by kernel_rfl) (fun _ _ _ h => h) (Or.inl ⟨by rfl, ?_⟩) (by assumption) ?_
  rotate_left 1
  · intro w hSw; (try dsimp only at hSw); go_simp; (first | done | with_reducible rfl)
  try simp only [Act.put, List.setIfInBounds_toArray, List.set_cons_zero, List.set_cons_succ]
  refine wpAnyH_ready (rs := [9]) (by kernel_rfl) (by simp) ?_
  refine AllReadyH.cons (by simp only [List.getElem?_toArray, List.getElem?_cons_succ, List.getElem?_cons_zero]; rfl) (fun K hK => ?_) AllReadyH.nil
  go_simp
  refine hK.out _ _ hHeld (fun _ => ?_)
  clear hK K
  try simp only [Act.put, List.setIfInBounds_toArray, List.set_cons_zero, List.set_cons_succ]
  refine wpAnyH_ready (rs := [10]) (by kernel_rfl) (by simp) ?_
  refine AllReadyH.cons (by simp only [List.getElem?_toArray, List.getElem?_cons_succ, List.getElem?_cons_zero]; rfl) (fun K hK => ?_) AllReadyH.nil
  go_simp
  have hSA : ∀ u0 u1, ((X9.setCell ⟨w.heap.size + 1, 0, none⟩ u0).setCell ⟨w.heap.size + 1, 1, none⟩ u1).cell? ⟨w.heap.size, 0, none⟩ = some (.int .i64 i) ∧ ((X9.setCell ⟨w.heap.size + 1, 0, none⟩ u0).setCell ⟨w.heap.size + 1, 1, none⟩ u1).cell? ⟨w.heap.size, 1, none⟩ = some (.int .i64 q) := fun u0 u1 =>
    ⟨(setCell_block e3).trans ((setCell_block e3).trans HS9.out.1), (setCell_block e3).trans ((setCell_block e3).trans HS9.out.2)⟩
  refine hK.out _ _ (hSA _ _) (fun _ => ?_)
  clear hK K
  try simp only [Act.put, List.setIfInBounds_toArray, List.set_cons_zero, List.set_cons_succ]
  refine wpAnyH_ready (rs := [11]) (by kernel_rfl) (by simp) ?_
  refine AllReadyH.cons (by simp only [List.getElem?_toArray, List.getElem?_cons_succ, List.getElem?_cons_zero]; rfl) (fun K hK => ?_) AllReadyH.nil
  go_simp
  refine hK.out _ _ (hSA _ _) (fun _ => ?_)
  refine wpAnyH_done (by kernel_rfl) ?_ _
  refine NoPanic.normal ?_
  clear hK K hSA
  go_wp2_with fail
  have k19 := HK9.out
  have hwr : IntKind.i64.wrap ((q : Int) + (more.length : Int)) = (q : Int) + (more.length : Int) := IntWalk.i64_in _ (by omega)
  refine bodyPost_ret (results_dpe rfl _ _ (w.heap.size + 1) (.int .i64 i) (.int .i64 ((q : Int) + (more.length : Int))) rfl (by simp [heap_set, putIn, k19, hwr])) rfl ?_
  unfold DocPSaid
  rw [HR.out]
  have hz9 := HD9.out.size
  have hfz := HFIN.out.size
  have hw4 : w.heap.size + 2 ≤ w4.heap.size := by omega
  refine ⟨_, by rw [HP.out]; rfl, SliceR.stable (rdLin_stable true) HD7.out ((((Keeps.all HD9.out)).set (fun hh => by have hh : w4.heap.size ≤ w.heap.size + 1 := hh; omega) _).set (fun hh => by have hh : w4.heap.size ≤ w.heap.size + 1 := hh; omega) _) (fun b h _ => by have h : w4.heap.size ≤ b := h; omega), ?_⟩
  exact ((HFIN.out.trans (HD9.out.mono hfz)).setCell (by show w.heap.size ≤ w.heap.size + 1; omega) _).setCell (by show w.heap.size ≤ w.heap.size + 1; omega) _

set_option maxRecDepth 100000 in
set_option maxHeartbeats 8000000 in
theorem refDInsert_any (v lv : Value) (d : Doc) (more : List Cel) (p : Ps) (w : World) (S S2 : Nat → Prop) (h : LinsR w S v d) (hl : CelsR false w S2 lv more) (hs : Small d) (hf : Fits d) (hml : more.length ≤ 1000000) (hmh : ∀ c ∈ more, c.href.length ≤ 1000000) :
    Calls Tryz.prog 55 #[v, posV p, lv] w (DocPSaid (insertD more d p) w) := by
  obtain ⟨W1, hW1, hB, hz, k0, k1⟩ := two_pos w (.int .i64 p.line) (.int .i64 p.col) (.int .i64 0) (.int .i64 0)
  have HC1 := Lib.hid (refSpan_any v d p p W1 S (h.below (rdLin_stable _) hB) hs)
  have HCM : Hid (∀ W, Below W1.heap.size W1 W → Calls Tryz.prog 46 #[lv] W fun e w' => e = .returned (.bool (mayCs more)) ∧ Below W.heap.size W w') := Lib.hid fun W hW => refCellsMay_any lv more W S2 (SliceR.below (rdOf_stable _) hl (hB.trans (hW.mono hB.size))) hmh
  have HSZ : Hid (∀ W, Below W1.heap.size W1 W → Calls Tryz.prog 16 #[v] W fun e w' => e = .returned (.int .i64 (sizeD d)) ∧ Below W.heap.size W w') := Lib.hid fun W hW => refSize_any v d W S (h.below (rdLin_stable _) (hB.trans (hW.mono hB.size))) hs.1
  have HO : Hid (∀ W, Below W1.heap.size W1 W → Calls Tryz.prog 12 #[v] W fun e w' => ∃ v', e = .returned v' ∧ DocR true w' (fun b => W.heap.size ≤ b) v' d ∧ Below W.heap.size W w') := Lib.hid fun W hW => refOwnD_any v d W S (h.below (rdLin_stable _) (hB.trans (hW.mono hB.size))) hf
  have HB : Hid (∀ W, Below W1.heap.size W1 W → W.heap[w.heap.size]? = some (.cells #[.int .i64 p.line, .int .i64 p.col] 24) ∧ W.heap[w.heap.size + 1]? = some (.cells #[.int .i64 0, .int .i64 0] 24)) := Lib.hid fun W hW => ⟨heap_below hW k0, heap_below hW k1⟩
  have HP : Hid (∀ p : Ps, posV p = .agg #[.int .i64 p.line, .int .i64 p.col]) := Lib.hid fun _ => rfl
  have H1 := Lib.hid hB
  have HL := Lib.hid h
  have HLC := Lib.hid hl
  have HF := Lib.hid hf
  have hlen := hf.1
  have hs1 := hB.size
  have hsz5 := hs.1
  obtain ⟨p1, f1⟩ := blk k0
  obtain ⟨p2, f2⟩ := blk k1
  obtain ⟨va, vc, rfl⟩ := h.slice
  obtain ⟨lb, lc, rfl⟩ := hl.slice
  clear h hl hs hf k0 k1 hB
  cases hsp : spanD d p p
  · have HR : Hid (insertD more d p = ([], ⟨0, 0⟩, 1)) := Lib.hid (by unfold insertD; rw [hsp]; rfl)
    rw [hsp] at HC1
    clear hsp
    rw [HP.out p] at HC1 ⊢
    go_enter Tryz.func55, Tryz.ntmps55
    go_wp2_with (go_at_call 72; refine HC1.out.mono ?_; rintro e w2 ⟨rfl, hb2⟩; have k1' := (HB.out _ hb2).2; obtain ⟨q2, g2⟩ := blk k1')
    refine bodyPost_ret (results_dpe rfl _ _ (w.heap.size + 1) (.int .i64 0) (.int .i64 0) rfl (by simp [heap_set, putIn, k1'])) rfl ?_
    unfold DocPSaid
    rw [HR.out]
    have hfin := H1.out.trans (hb2.mono hs1)
    exact ⟨_, rfl, SliceR.nil _ _ _ _ _ _, by (repeat' (first | (with_reducible exact Below.refl _ _) | (with_reducible assumption) | (with_reducible refine Below.alloc ?_ ?_ _) | (with_reducible refine Below.drew ?_) | (with_reducible refine drewN_below ?_) | (with_reducible refine Below.setCell ?_ ?_ _) | go_size))⟩
  cases hmy : mayCs more
  · have HR : Hid (insertD more d p = ([], ⟨0, 0⟩, 1)) := Lib.hid (by unfold insertD; rw [hsp, hmy]; rfl)
    rw [hsp] at HC1
    rw [hmy] at HCM
    clear hsp hmy
    rw [HP.out p] at HC1 ⊢
    go_enter Tryz.func55, Tryz.ntmps55
    go_wp2_with (first | (go_at_call 72; refine HC1.out.mono ?_; rintro e w2 ⟨rfl, hb2⟩) | (go_at_call 46; refine (HCM.out _ hb2).mono ?_; rintro e w3 ⟨rfl, hb3⟩; have hx3 := below_from hb2 hb3; have k1' := (HB.out _ hx3).2; obtain ⟨q2, g2⟩ := blk k1'))
    refine bodyPost_ret (results_dpe rfl _ _ (w.heap.size + 1) (.int .i64 0) (.int .i64 0) rfl (by simp [heap_set, putIn, k1'])) rfl ?_
    unfold DocPSaid
    rw [HR.out]
    have hfin := H1.out.trans (hx3.mono hs1)
    exact ⟨_, rfl, SliceR.nil _ _ _ _ _ _, by (repeat' (first | (with_reducible exact Below.refl _ _) | (with_reducible assumption) | (with_reducible refine Below.alloc ?_ ?_ _) | (with_reducible refine Below.drew ?_) | (with_reducible refine drewN_below ?_) | (with_reducible refine Below.setCell ?_ ?_ _) | go_size))⟩
  obtain ⟨n, hn⟩ : ∃ n, sizeD d = n := ⟨_, rfl⟩
  rw [hn] at HSZ hsz5
  by_cases h4 : 4000 < n + more.length
  · have HR : Hid (insertD more d p = ([], ⟨0, 0⟩, 10)) := Lib.hid (by unfold insertD; rw [hsp, hmy, hn, show (true && true) = true from rfl, if_pos rfl, if_pos h4])
    have hq1 : (4000 : Int) < (n : Int) + (more.length : Int) := by omega
    have hq2 : decide ((4000 : Int) < (n : Int) + (more.length : Int)) = true := decide_eq_true hq1
    rw [hsp] at HC1
    rw [hmy] at HCM
    clear hsp hmy h4 hn
    rw [HP.out p] at HC1 ⊢
    go_enter Tryz.func55, Tryz.ntmps55
    go_wp2_with (first | (go_at_call 72; refine HC1.out.mono ?_; rintro e w2 ⟨rfl, hb2⟩) | (go_at_call 46; refine (HCM.out _ hb2).mono ?_; rintro e w3 ⟨rfl, hb3⟩; have hx3 := below_from hb2 hb3) | (go_at_call 16; refine (HSZ.out _ hx3).mono ?_; rintro e w4 ⟨rfl, hb4⟩; have hx4 := below_from hx3 hb4; have k1' := (HB.out _ hx4).2; obtain ⟨q2, g2⟩ := blk k1'))
    refine bodyPost_ret (results_dpe rfl _ _ (w.heap.size + 1) (.int .i64 0) (.int .i64 0) rfl (by simp [heap_set, putIn, k1'])) rfl ?_
    unfold DocPSaid
    rw [HR.out]
    have hfin := H1.out.trans (hx4.mono hs1)
    exact ⟨_, rfl, SliceR.nil _ _ _ _ _ _, by (repeat' (first | (with_reducible exact Below.refl _ _) | (with_reducible assumption) | (with_reducible refine Below.alloc ?_ ?_ _) | (with_reducible refine Below.drew ?_) | (with_reducible refine drewN_below ?_) | (with_reducible refine Below.setCell ?_ ?_ _) | go_size))⟩
  obtain ⟨_, i, _, q, _, l, _, rfl, hpe, hl, _, hq, _, _, _⟩ := span_at hsp
  have hil := (List.getElem?_eq_some_iff.1 hl).1
  have hfl := HF.out.2 l (List.mem_of_getElem? hl)
  have HR : Hid (insertD more d ⟨i, q⟩ = (d.set i { l with cells := insertC l.cells q more }, ⟨i, (q : Int) + (more.length : Int)⟩, 0)) := Lib.hid (by
    unfold insertD
    rw [hsp, hmy, hn, show (true && true) = true from rfl, if_pos rfl, if_neg h4]
    simp [List.getD, hl])
  have hq1 : (n : Int) + (more.length : Int) ≤ 4000 := by omega
  have hq2 : decide ((4000 : Int) < (n : Int) + (more.length : Int)) = false := decide_eq_false (by omega)
  rw [hsp] at HC1
  rw [hmy] at HCM
  rw [HP.out] at HC1 ⊢
  obtain ⟨va', vc', hve, hvc, hvm, hx⟩ := lins_shape HL.out
  cases hve
  obtain ⟨b1, o1, la, lc1, ca, cc, rfl, hAi⟩ := hx i l hl
  have HAI := Lib.hid hAi
  have HLL := Lib.hid hl
  unfold maxLen at hvm
  have i0 : (0 : Int) ≤ (i : Int) := Int.natCast_nonneg _
  have i1 : (i : Int) < (d.length : Int) := by omega
  have u0 : (0 : Int) ≤ (q : Int) := Int.natCast_nonneg _
  have u1 : (q : Int) ≤ 1000000 := by omega
  have u2 : (more.length : Int) ≤ 1000000 := by omega
  clear hx hAi hl hsp hmy h4 hn hpe
  go_enter Tryz.func55, Tryz.ntmps55
  go_wp2_with (first | (go_at_call 72; refine HC1.out.mono ?_; rintro e w2 ⟨rfl, hb2⟩) | (go_at_call 46; refine (HCM.out _ hb2).mono ?_; rintro e w3 ⟨rfl, hb3⟩; have hx3 := below_from hb2 hb3) | (go_at_call 16; refine (HSZ.out _ hx3).mono ?_; rintro e w4 ⟨rfl, hb4⟩; have hx4 := below_from hx3 hb4) | (go_at_call 12; refine (HO.out _ hx4).mono ?_; rintro e w5 ⟨v5, rfl, hv5, hb5⟩; have hx5 := below_from hx4 hb5; obtain ⟨b3, o3, c3, la3, lc3, ca3, cc3, rfl, hc3, hm3, hA3, hI3, hC3, hS3⟩ := docOwn_at hv5 HLL.out; have HV5 := Lib.hid hv5; have HA3 := Lib.hid hA3; have HC3 := Lib.hid hC3; unfold maxLen at hm3; have hS3' : w4.heap.size ≤ b3 := hS3; clear hv5 hI3 hC3 hA3 hS3))
  have hsz14 := hx4.size
  have hsz45 := hb5.size
  have hb3z := HA3.out.lt
  have hb1z : b1 < w.heap.size := HAI.out.lt
  have k0' := (HB.out _ hx5).1
  have k1' := (HB.out _ hx5).2
  obtain ⟨q1', g1'⟩ := blk k0'
  have hd5 : Below w5.heap.size w5 w5.drew := (Below.refl _ _).drew
  have HCI : Hid (∀ W, Below w5.heap.size w5 W → Calls Tryz.prog 98 #[.slice ca l.cells.length cc, .int .i64 q, .slice lb more.length lc] W (CellsSaid (insertC l.cells q more) 0 W)) := Lib.hid fun W hW => refCInsert_any ca lb cc lc q l.cells more W w w S S2 false false HAI.out.cellsR HLC.out ((H1.out.trans (hx5.mono hs1)).trans (hW.mono (by omega))) ((H1.out.trans (hx5.mono hs1)).trans (hW.mono (by omega))) hq hfl.2 hml
  obtain ⟨b3', o3', cs3, hbe, _, hg3, hgz⟩ := SliceR.cellAt HV5.out (i := i) hil
  cases hbe
  have e1 : b3 ≠ w.heap.size := by omega
  have e2 : b3 ≠ w.heap.size + 1 := by omega
  have HG3 := Lib.hid hg3
  have hld : (w5.drew).cell? ⟨b1, o1 + i * 4 + 3, none⟩ = some (.slice ca l.cells.length cc) := (hd5.cell (p := ⟨b1, o1 + i * 4 + 3, none⟩) (by show b1 < w5.heap.size; omega)).trans (HAI.out.below (H1.out.trans (hx5.mono hs1))).cells
  have HK := Lib.hid (And.intro k0' k1')
  clear hg3 k0' k1' p1 f1 p2 f2 hW1
  refine wp_region_noPanic ?_
  refine wp_region_held_drew (S := fun w' => w'.cell? ⟨w.heap.size, 0, none⟩ = some (.int .i64 i) ∧ w'.cell? ⟨w.heap.size, 1, none⟩ = some (.int .i64 q)) (by kernel_rfl) ⟨q1' 0, q1' 1⟩ (fun hHeld => ?_)
  obtain ⟨X0, hX0⟩ : ∃ X, w5.drew = X := ⟨_, rfl⟩
  rw [hX0] at hd5 hHeld hld ⊢
  clear hX0 q1' g1'
  refine wpAnyH_take (i := 0) (v := ?_) (by simp only [List.getElem?_toArray, List.getElem?_cons_zero]; rfl) (by kernel_rfl) (by kernel_rfl) (by kernel_rfl) (fun _ _ _ h => h) (Or.inl ⟨by rfl, ?_⟩) (by assumption) ?_
  rotate_left 1
  · intro w hSw; (try dsimp only at hSw); go_simp; (first | done | with_reducible rfl)
  try simp only [Act.put, List.setIfInBounds_toArray, List.set_cons_zero, List.set_cons_succ]
  refine wpAnyH_take (i := 1) (v := ?_) (by simp only [List.getElem?_toArray, List.getElem?_cons_succ, List.getElem?_cons_zero]; rfl) (by kernel_rfl) (by kernel_rfl) (by kernel_rfl) (fun _ _ _ h => h) (Or.inl ⟨by rfl, ?_⟩) (by assumption) ?_
  rotate_left 1
  · intro w hSw; (try dsimp only at hSw); go_simp; (first | done | with_reducible rfl)
  try simp only [Act.put, List.setIfInBounds_toArray, List.set_cons_zero, List.set_cons_succ]
  refine wpAnyH_take (i := 2) (v := ?_) (by simp only [List.getElem?_toArray, List.getElem?_cons_succ, List.getElem?_cons_zero]; rfl) (by kernel_rfl) (by kernel_rfl) (by kernel_rfl) (fun _ _ _ h => h) (Or.inl ⟨by rfl, ?_⟩) (by assumption) ?_
  rotate_left 1
  · intro w hSw; (try dsimp only at hSw); go_simp; (first | done | with_reducible rfl)
  try simp only [Act.put, List.setIfInBounds_toArray, List.set_cons_zero, List.set_cons_succ]
  refine wpAnyH_take (i := 3) (v := ?_) (by simp only [List.getElem?_toArray, List.getElem?_cons_succ, List.getElem?_cons_zero]; rfl) (by kernel_rfl) (by kernel_rfl) (by kernel_rfl) (fun _ _ _ h => h) (Or.inl ⟨by rfl, ?_⟩) (by assumption) ?_
  rotate_left 1
  · intro w hSw; (try dsimp only at hSw); go_simp; (first | done | with_reducible rfl)
  try simp only [Act.put, List.setIfInBounds_toArray, List.set_cons_zero, List.set_cons_succ]
  refine wpAnyH_take (i := 4) (v := ?_) (by simp only [List.getElem?_toArray, List.getElem?_cons_succ, List.getElem?_cons_zero]; rfl) (by kernel_rfl) (by kernel_rfl) (by kernel_rfl) (fun _ _ _ h => h) (Or.inl ⟨by rfl, ?_⟩) (by assumption) ?_
  rotate_left 1
  · intro w hSw; (try dsimp only at hSw); go_simp; (first | done | with_reducible rfl)
  try simp only [Act.put, List.setIfInBounds_toArray, List.set_cons_zero, List.set_cons_succ]
  refine wpAnyH_take (i := 5) (v := ?_) (by simp only [List.getElem?_toArray, List.getElem?_cons_succ, List.getElem?_cons_zero]; rfl) (by kernel_rfl) (by kernel_rfl) (by kernel_rfl) (fun _ _ _ h => h) (Or.inl ⟨by rfl, ?_⟩) (by assumption) ?_
  rotate_left 1
  · intro w hSw; (try dsimp only at hSw); go_simp; (first | done | with_reducible rfl)
  try simp only [Act.put, List.setIfInBounds_toArray, List.set_cons_zero, List.set_cons_succ]
  refine wpAnyH_take (i := 6) (v := ?_) (by simp only [List.getElem?_toArray, List.getElem?_cons_succ, List.getElem?_cons_zero]; rfl) (by kernel_rfl) (by kernel_rfl) (by kernel_rfl) (fun _ _ _ h => h) (Or.inl ⟨by rfl, ?_⟩) (by assumption) ?_
  rotate_left 1
  · intro w hSw; (try dsimp only at hSw); go_simp; (first | done | with_reducible rfl)
  try simp only [Act.put, List.setIfInBounds_toArray, List.set_cons_zero, List.set_cons_succ]
  refine wpAnyH_take (i := 7) (v := ?_) (by simp only [List.getElem?_toArray, List.getElem?_cons_succ, List.getElem?_cons_zero]; rfl) (by kernel_rfl) (by kernel_rfl) (by kernel_rfl) (fun _ _ _ h => h) (Or.inl ⟨by rfl, ?_⟩) (by assumption) ?_
  rotate_left 1
  · intro w hSw; (try dsimp only at hSw); go_simp; (first | done | with_reducible rfl)
  try simp only [Act.put, List.setIfInBounds_toArray, List.set_cons_zero, List.set_cons_succ]
  refine wpAnyH_take (i := 9) (v := ?_) (by simp only [List.getElem?_toArray, List.getElem?_cons_succ, List.getElem?_cons_zero]; rfl) (by kernel_rfl) (by kernel_rfl) (by kernel_rfl) (fun _ _ _ h => h) (Or.inl ⟨by rfl, ?_⟩) (by assumption) ?_
  rotate_left 1
  · intro w hSw; (try dsimp only at hSw); go_simp; (first | done | with_reducible rfl)
  try simp only [Act.put, List.setIfInBounds_toArray, List.set_cons_zero, List.set_cons_succ]
  refine wpAnyH_take (i := 10) (v := ?_) (by simp only [List.getElem?_toArray, List.getElem?_cons_succ, List.getElem?_cons_zero]; rfl) (by kernel_rfl) (by kernel_rfl) (by kernel_rfl) (fun _ _ _ h => h) (Or.inl ⟨by rfl, ?_⟩) (by assumption) ?_
  rotate_left 1
  · intro w hSw; (try dsimp only at hSw); go_simp; (first | done | with_reducible rfl)
  try simp only [Act.put, List.setIfInBounds_toArray, List.set_cons_zero, List.set_cons_succ]
  refine wpAnyH_take (i := 11) (v := ?_) (by simp only [List.getElem?_toArray, List.getElem?_cons_succ, List.getElem?_cons_zero]; rfl) (by kernel_rfl) (by kernel_rfl) (by kernel_rfl) (fun _ _ _ h => h) (Or.inl ⟨by rfl, ?_⟩) (by assumption) ?_
  rotate_left 1
  · intro w hSw; (try dsimp only at hSw); go_simp; (first | done | with_reducible rfl)
  try simp only [Act.put, List.setIfInBounds_toArray, List.set_cons_zero, List.set_cons_succ]
  refine wpAnyH_ready (rs := [8]) (by kernel_rfl) (by simp) ?_
  refine AllReadyH.cons (by simp only [List.getElem?_toArray, List.getElem?_cons_succ, List.getElem?_cons_zero]; rfl) (fun K hK => ?_) AllReadyH.nil
  go_simp
  refine hK.out _ _ hHeld (fun _ => ?_)
  clear hK K
  try simp only [Act.put, List.setIfInBounds_toArray, List.set_cons_zero, List.set_cons_succ]
  refine wpAnyH_ready (rs := [12]) (by kernel_rfl) (by simp) ?_
  refine AllReadyH.cons (by simp only [List.getElem?_toArray, List.getElem?_cons_succ, List.getElem?_cons_zero]; rfl) (fun K hK => ?_) AllReadyH.nil
  go_simp
  refine (HCI.out _ hd5).mono ?_
  intro e w6 hsaid
  obtain ⟨v6, rfl, hv6, hb6'⟩ := hsaid
  have hb6 : Below w5.heap.size w5 w6 := below_from hd5 hb6'
  have hdz := hd5.size
  obtain ⟨a6, n6, c6, hv6e⟩ := slice_any hv6
  subst hv6e
  have HV6 : Hid (CelsR true w6 (fun b => w5.heap.size ≤ b) (.slice a6 n6 c6) (insertC l.cells q more)) := Lib.hid (SliceR.stable (rdOf_stable _) hv6 (Keeps.refl _ _) (fun b h _ => Nat.le_trans hdz h))
  obtain ⟨y0, y0f⟩ := blk (heap_below hb6 HK.out.1)
  have k16 := heap_below hb6 HK.out.2
  have g36 := heap_below hb6 HG3.out
  have y3 : w6.cell? ⟨b3, o3 + i * 4 + 3, none⟩ = some (.slice ca3 l.cells.length cc3) := (hb6.cell (p := ⟨b3, o3 + i * 4 + 3, none⟩) hb3z).trans HA3.out.cells
  have y3f : w6.frozen? ⟨b3, o3 + i * 4 + 3, none⟩ = false := frozen_of_heap g36
  have hS6 : w6.cell? ⟨w.heap.size, 0, none⟩ = some (.int .i64 i) ∧ w6.cell? ⟨w.heap.size, 1, none⟩ = some (.int .i64 q) := ⟨y0 0, y0 1⟩
  clear hv6 hb6' hld hHeld
  refine hK.out _ _ hS6 (fun hHeld => ?_)
  clear hK K
  try simp only [Act.put, List.setIfInBounds_toArray, List.set_cons_zero, List.set_cons_succ]
  refine wpAnyH_take (i := 13) (v := ?_) (by simp only [List.getElem?_toArray, List.getElem?_cons_succ, List.getElem?_cons_zero]; rfl) (by kernel_rfl) (by kernel_rfl) (by kernel_rfl) (fun _ _ _ h => h) (Or.inl ⟨by rfl, ?_⟩) (by assumption) ?_
  rotate_left 1
  · intro w hSw; (try dsimp only at hSw); go_simp; (first | done | with_reducible rfl)
  try simp only [Act.put, List.setIfInBounds_toArray, List.set_cons_zero, List.set_cons_succ]
  refine wpAnyH_take (i := 14) (v := ?_) (by simp only [List.getElem?_toArray, List.getElem?_cons_succ, List.getElem?_cons_zero]; rfl) (by kernel_rfl) (by kernel_rfl) (by kernel_rfl) (fun _ _ _ h => h) (Or.inl ⟨by rfl, ?_⟩) (by assumption) ?_
  rotate_left 1
  · intro w hSw; (try dsimp only at hSw); go_simp; (first | done | with_reducible rfl)
  try simp only [Act.put, List.setIfInBounds_toArray, List.set_cons_zero, List.set_cons_succ]
  refine wpAnyH_take (i := 15) (v := ?_) (by simp only [List.getElem?_toArray, List.getElem?_cons_succ, List.getElem?_cons_zero]; rfl) (by kernel_rfl) (by kernel_rfl) (by kernel_rfl) (fun _ _ _ h => h) (Or.inl ⟨by rfl, ?_⟩) (by assumption) ?_
  rotate_left 1
  · intro w hSw; (try dsimp only at hSw); go_simp; (first | done | with_reducible rfl)
  try simp only [Act.put, List.setIfInBounds_toArray, List.set_cons_zero, List.set_cons_succ]
  refine wpAnyH_take (i := 16) (v := ?_) (by simp only [List.getElem?_toArray, List.getElem?_cons_succ, List.getElem?_cons_zero]; rfl) (by kernel_rfl) (by kernel_rfl) (by kernel_rfl) (fun _ _ _ h => h) (Or.inl ⟨by rfl, ?_⟩) (by assumption) ?_
  rotate_left 1
  · intro w hSw; (try dsimp only at hSw); go_simp; (first | done | with_reducible rfl)
  try simp only [Act.put, List.setIfInBounds_toArray, List.set_cons_zero, List.set_cons_succ]
  refine wpAnyH_take (i := 17) (v := ?_) (by simp only [List.getElem?_toArray, List.getElem?_cons_succ, List.getElem?_cons_zero]; rfl) (by kernel_rfl) (by kernel_rfl) (by kernel_rfl) (fun _ _ _ h => h) (Or.inl ⟨by rfl, ?_⟩) (by assumption) ?_
  rotate_left 1
  · intro w hSw; (try dsimp only at hSw); go_simp; (first | done | with_reducible rfl)
  try simp only [Act.put, List.setIfInBounds_toArray, List.set_cons_zero, List.set_cons_succ]
  refine wpAnyH_ready (rs := [18]) (by kernel_rfl) (by simp) ?_
  refine AllReadyH.cons (by simp only [List.getElem?_toArray, List.getElem?_cons_succ, List.getElem?_cons_zero]; rfl) (fun K hK => ?_) AllReadyH.nil
  go_simp
  have hS7 : (w6.setCell ⟨b3, o3 + i * 4 + 3, none⟩ (.slice a6 n6 c6)).cell? ⟨w.heap.size, 0, none⟩ = some (.int .i64 i) ∧ (w6.setCell ⟨b3, o3 + i * 4 + 3, none⟩ (.slice a6 n6 c6)).cell? ⟨w.heap.size, 1, none⟩ = some (.int .i64 q) := ⟨(setCell_block e1).trans hS6.1, (setCell_block e1).trans hS6.2⟩
  refine hK.out _ _ hS7 (fun _ => ?_)
  refine wpAnyH_done (by kernel_rfl) ?_ _
  refine NoPanic.normal ?_
  clear hK K hHeld y0 y0f y3 y3f
  obtain ⟨w7, hw7⟩ : ∃ X, w6.setCell ⟨b3, o3 + i * 4 + 3, none⟩ (.slice a6 n6 c6) = X := ⟨_, rfl⟩
  have k17 : w7.heap[w.heap.size + 1]? = some (.cells #[.int .i64 0, .int .i64 0] 24) := by rw [← hw7, heap_set, if_neg e2]; exact k16
  have hfin : Below w.heap.size w w7 := by
    rw [← hw7]
    exact ((H1.out.trans (hx5.mono hs1)).trans (hb6.mono (by omega))).setCell (by show w.heap.size ≤ b3; omega) _
  have hD7 : DocR true w7 (fun b => w4.heap.size ≤ b) (.slice (some ⟨b3, o3, none⟩) d.length c3) (d.set i { l with cells := insertC l.cells q more }) := by
    rw [← hw7]
    refine SliceR.set1 eltLine.tag (SliceR.below (rdLin_stable true) HV5.out hb6) HLL.out (j := 3) (by decide) (.slice a6 n6 c6) ?_
    rintro vs _ ⟨p', q', rfl, hp', hq'⟩
    exact ⟨p', _, rfl, hp', SliceR.stable (rdOf_stable _) HV6.out (Keeps.refl _ _) (fun b h _ => Nat.le_trans hsz45 h)⟩
  have hz7 : w6.heap.size = w7.heap.size := by rw [← hw7]; simp
  have hz56 := hb6.size
  rw [hw7] at hS7 ⊢
  clear hw7 k16 hS6 g36
  obtain ⟨r1, s1⟩ := blk k17
  have HD7 := Lib.hid hD7
  have HFIN := Lib.hid hfin
  clear hD7 hfin
  go_wp2_with fail
  refine wp_region_noPanic ?_
  refine wp_region_held_drew (S := fun w' => w'.cell? ⟨w.heap.size, 0, none⟩ = some (.int .i64 i) ∧ w'.cell? ⟨w.heap.size, 1, none⟩ = some (.int .i64 q)) (by kernel_rfl) ⟨hS7.1, hS7.2⟩ (fun hHeld => ?_)
  obtain ⟨X9, hX9⟩ : ∃ X, w7.drew = X := ⟨_, rfl⟩
  have hd9 : Below w7.heap.size w7 X9 := hX9 ▸ (Below.refl _ _).drew
  rw [hX9] at hHeld ⊢
  have k19 := heap_below hd9 k17
  obtain ⟨r9, s9⟩ := blk k19
  have HD9 := Lib.hid hd9
  have HK9 := Lib.hid k19
  have HS9 := Lib.hid hHeld
  have e3 : w.heap.size + 1 ≠ w.heap.size := by omega
  clear hX9 hS7 r1 s1 k17 hd9 k19
  refine wpAnyH_take (i := 0) (v := ?_) (by simp only [List.getElem?_toArray, List.getElem?_cons_zero]; rfl) (by kernel_rfl) (by kernel_rfl) (by kernel_rfl) (fun _ _ _ h => h) (Or.inl ⟨by rfl, ?_⟩) (by assumption) ?_
  rotate_left 1
  · intro w hSw; (try dsimp only at hSw); go_simp; (first | done | with_reducible rfl)
  try simp only [Act.put, List.setIfInBounds_toArray, List.set_cons_zero, List.set_cons_succ]
  refine wpAnyH_take (i := 1) (v := ?_) (by simp only [List.getElem?_toArray, List.getElem?_cons_succ, List.getElem?_cons_zero]; rfl) (by kernel_rfl) (by kernel_rfl) (by kernel_rfl) (fun _ _ _ h => h) (Or.inl ⟨by rfl, ?_⟩) (by assumption) ?_
  rotate_left 1
  · intro w hSw; (try dsimp only at hSw); go_simp; (first | done | with_reducible rfl)
  try simp only [Act.put, List.setIfInBounds_toArray, List.set_cons_zero, List.set_cons_succ]
  refine wpAnyH_take (i := 2) (v := ?_) (by simp only [List.getElem?_toArray, List.getElem?_cons_succ, List.getElem?_cons_zero]; rfl) (by kernel_rfl) (by kernel_rfl) (by kernel_rfl) (fun _ _ _ h => h) (Or.inl ⟨by rfl, ?_⟩) (by assumption) ?_
  rotate_left 1
  · intro w hSw; (try dsimp only at hSw); go_simp; (first | done | with_reducible rfl)
  try simp only [Act.put, List.setIfInBounds_toArray, List.set_cons_zero, List.set_cons_succ]
  refine wpAnyH_take (i := 3) (v := ?_) (by simp only [List.getElem?_toArray, List.getElem?_cons_succ, List.getElem?_cons_zero]; rfl) (by kernel_rfl) (by kernel_rfl) (by kernel_rfl) (fun _ _ _ h => h) (Or.inl ⟨by rfl, ?_⟩) (by assumption) ?_
  rotate_left 1
  · intro w hSw; (try dsimp only at hSw); go_simp; (first | done | with_reducible rfl)
  try simp only [Act.put, List.setIfInBounds_toArray, List.set_cons_zero, List.set_cons_succ]
  refine wpAnyH_take (i := 4) (v := ?_) (by simp only [List.getElem?_toArray, List.getElem?_cons_succ, List.getElem?_cons_zero]; rfl) (by kernel_rfl) (by kernel_rfl) (by kernel_rfl) (fun _ _ _ h => h) (Or.inl ⟨by rfl, ?_⟩) (by assumption) ?_
  rotate_left 1
  · intro w hSw; (try dsimp only at hSw); go_simp; (first | done | with_reducible rfl)
  try simp only [Act.put, List.setIfInBounds_toArray, List.set_cons_zero, List.set_cons_succ]
  refine wpAnyH_take (i := 5) (v := ?_) (by simp only [List.getElem?_toArray, List.getElem?_cons_succ, List.getElem?_cons_zero]; rfl) (by kernel_rfl) (by kernel_rfl) (by kernel_rfl) (fun _ _ _ h => h) (Or.inl ⟨by rfl, ?_⟩) (by assumption) ?_
  rotate_left 1
  · intro w hSw; (try dsimp only at hSw); go_simp; (first | done | with_reducible rfl)
  try simp only [Act.put, List.setIfInBounds_toArray, List.set_cons_zero, List.set_cons_succ]
  refine wpAnyH_take (i := 6) (v := ?_) (by simp only [List.getElem?_toArray, List.getElem?_cons_succ, List.getElem?_cons_zero]; rfl) (by kernel_rfl) (by kernel_rfl) (by kernel_rfl) (fun _ _ _ h => h) (Or.inl ⟨by rfl, ?_⟩) (by assumption) ?_
  rotate_left 1
  · intro w hSw; (try dsimp only at hSw); go_simp; (first | done | with_reducible rfl)
  try simp only [Act.put, List.setIfInBounds_toArray, List.set_cons_zero, List.set_cons_succ]
  refine wpAnyH_take (i := 7) (v := ?_) (by simp only [List.getElem?_toArray, List.getElem?_cons_succ, List.getElem?_cons_zero]; rfl) (by kernel_rfl) (by kernel_rfl) (by kernel_rfl) (fun _ _ _ h => h) (Or.inl ⟨by rfl, ?_⟩) (by assumption) ?_
  rotate_left 1
  · intro w hSw; (try dsimp only at hSw); go_simp; (first | done | with_reducible rfl)
  try simp only [Act.put, List.setIfInBounds_toArray, List.set_cons_zero, List.set_cons_succ]
  refine wpAnyH_take (i := 8) (v := ?_) (by simp only [List.getElem?_toArray, List.getElem?_cons_succ, List.getElem?_cons_zero]; rfl) (by kernel_rfl) (by kernel_rfl) (by kernel_rfl) (fun _ _ _ h => h) (Or.inl ⟨by rfl, ?_⟩) (by assumption) ?_
  rotate_left 1
  · intro w hSw; (try dsimp only at hSw); go_simp; (first | done | with_reducible rfl)
  try simp only [Act.put, List.setIfInBounds_toArray, List.set_cons_zero, List.set_cons_succ]
  refine wpAnyH_ready (rs := [9]) (by kernel_rfl) (by simp) ?_
  refine AllReadyH.cons (by simp only [List.getElem?_toArray, List.getElem?_cons_succ, List.getElem?_cons_zero]; rfl) (fun K hK => ?_) AllReadyH.nil
  go_simp
  refine hK.out _ _ hHeld (fun _ => ?_)
  clear hK K
  try simp only [Act.put, List.setIfInBounds_toArray, List.set_cons_zero, List.set_cons_succ]
  refine wpAnyH_ready (rs := [10]) (by kernel_rfl) (by simp) ?_
  refine AllReadyH.cons (by simp only [List.getElem?_toArray, List.getElem?_cons_succ, List.getElem?_cons_zero]; rfl) (fun K hK => ?_) AllReadyH.nil
  go_simp
  have hSA : ∀ u0 u1, ((X9.setCell ⟨w.heap.size + 1, 0, none⟩ u0).setCell ⟨w.heap.size + 1, 1, none⟩ u1).cell? ⟨w.heap.size, 0, none⟩ = some (.int .i64 i) ∧ ((X9.setCell ⟨w.heap.size + 1, 0, none⟩ u0).setCell ⟨w.heap.size + 1, 1, none⟩ u1).cell? ⟨w.heap.size, 1, none⟩ = some (.int .i64 q) := fun u0 u1 =>
    ⟨(setCell_block e3).trans ((setCell_block e3).trans HS9.out.1), (setCell_block e3).trans ((setCell_block e3).trans HS9.out.2)⟩
  refine hK.out _ _ (hSA _ _) (fun _ => ?_)
  clear hK K
  try simp only [Act.put, List.setIfInBounds_toArray, List.set_cons_zero, List.set_cons_succ]
  refine wpAnyH_ready (rs := [11]) (by kernel_rfl) (by simp) ?_
  refine AllReadyH.cons (by simp only [List.getElem?_toArray, List.getElem?_cons_succ, List.getElem?_cons_zero]; rfl) (fun K hK => ?_) AllReadyH.nil
  go_simp
  refine hK.out _ _ (hSA _ _) (fun _ => ?_)
  refine wpAnyH_done (by kernel_rfl) ?_ _
  refine NoPanic.normal ?_
  clear hK K hSA
  go_wp2_with fail
  have k19 := HK9.out
  have hwr : IntKind.i64.wrap ((q : Int) + (more.length : Int)) = (q : Int) + (more.length : Int) := IntWalk.i64_in _ (by omega)
  refine bodyPost_ret (results_dpe rfl _ _ (w.heap.size + 1) (.int .i64 i) (.int .i64 ((q : Int) + (more.length : Int))) rfl (by simp [heap_set, putIn, k19, hwr])) rfl ?_
  unfold DocPSaid
  rw [HR.out]
  have hz9 := HD9.out.size
  have hfz := HFIN.out.size
  have hw4 : w.heap.size + 2 ≤ w4.heap.size := by omega
  refine ⟨_, by rw [HP.out]; rfl, SliceR.stable (rdLin_stable true) HD7.out ((((Keeps.all HD9.out)).set (fun hh => by have hh : w4.heap.size ≤ w.heap.size + 1 := hh; omega) _).set (fun hh => by have hh : w4.heap.size ≤ w.heap.size + 1 := hh; omega) _) (fun b h _ => by have h : w4.heap.size ≤ b := h; omega), ?_⟩
  exact ((HFIN.out.trans (HD9.out.mono hfz)).setCell (by show w.heap.size ≤ w.heap.size + 1; omega) _).setCell (by show w.heap.size ≤ w.heap.size + 1; omega) _
end Go.Proofs.YtfoiaoopbkcpoaaGreatDoor
