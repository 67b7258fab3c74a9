/- The walks of Insert of documents, of the code and of the reference. -/
import Derived.Test.YtpndnbjpnajaaaaGreatDoorCellsInsertK
import Derived.Test.YtpndnbjpnajaaaaGreatDoorDocPartK
import Derived.Test.YtpndnbjpnajaaaaGreatDoorDocSplitK
import Derived.Test.YtpndnbjpnajaaaaGreatDoorReplaceK
import Derived.Test.YtpndnbjpnajaaaaGreatDoorSameK
import Derived.Laws.BitsLemmas
import Derived.Test.YtpndnbjpnajaaaaGreatDoorOwnK
import Derived.Lib.QuoteLoop
import Derived.Lib.TrimUEq
set_option linter.unusedVariables false
set_option linter.unusedSimpArgs false
namespace Go.Proofs.YtpndnbjpnajaaaaGreatDoor
open Go.RowKit
open Go.Proofs.Qw
def insertD (more : List Cel) (d : Doc) (p : Ps) : Doc × Ps × Int :=
 if (spanD d p p && mayCs more) = true then (if 4000 < sizeD d + more.length then ([], ⟨0, 0⟩, 10) else (d.set p.line.toNat { (d.getD p.line.toNat default) with cells := insertC (d.getD p.line.toNat default).cells p.col.toNat more }, ⟨p.line, p.col + more.length⟩, 0)) else ([], ⟨0, 0⟩, 1)
set_option maxRecDepth 100000 in
set_option maxHeartbeats 8000000 in
theorem docInsert_any (v lv : Value) (d : Doc) (more : List Cel) (p : Ps) (w : World) (S S2 : Nat → Prop) (h : LinsR w S v d) (hl : CelsR false w S2 lv more) (he : EnvT w) (hs : Small d) (hf : Fits d) (hml : more.length ≤ 1000000) (hmh : ∀ c ∈ more, c.href.length ≤ 1000000) :
  Calls Tryz.prog 127 #[v, posV p, lv] w (DocPSaid (insertD more d p) w) := by
 obtain ⟨W1, hW1, hB, hz, k0, k1⟩ := two_pos w (.int .i64 p.line) (.int .i64 p.col) (.int .i64 0) (.int .i64 0)
 have HC1 := Lib.hid (docSpan_any v d p p W1 S (h.below (rdLin_stable _) hB) (he.below hB) hs)
 have HCM : Hid (∀ W, Below W1.heap.size W1 W → Calls Tryz.prog 194 #[lv] W fun e w' => e = .returned (.bool (mayCs more)) ∧ Below W.heap.size W w') := Lib.hid fun W hW => cellsMay_any lv more W w S2 hl (he.below (hB.trans (hW.mono hB.size))) (hB.trans (hW.mono hB.size)) hmh
 have HSZ : Hid (∀ W, Below W1.heap.size W1 W → Calls Tryz.prog 141 #[v] W fun e w' => e = .returned (.int .i64 (sizeD d)) ∧ Below W.heap.size W w') := Lib.hid fun W hW => size_any v d W w S h (hB.trans (hW.mono hB.size)) hs.1
 have HO : Hid (∀ W, Below W1.heap.size W1 W → Calls Tryz.prog 108 #[v] W fun e w' => ∃ v', e = .returned v' ∧ DocR true w' (fun b => W.heap.size ≤ b) v' d ∧ Below W.heap.size W w') := Lib.hid fun W hW => docOwn_any v d W w S h (hB.trans (hW.mono hB.size)) hf
 have HB : Hid (∀ W, Below W1.heap.size W1 W → W.heap[w.heap.size]? = some (.cells #[.int .i64 p.line, .int .i64 p.col] 24) ∧ W.heap[w.heap.size + 1]? = some (.cells #[.int .i64 0, .int .i64 0] 24)) := Lib.hid fun W hW => ⟨heap_below hW k0, heap_below hW k1⟩
 have HP : Hid (∀ p : Ps, posV p = .agg #[.int .i64 p.line, .int .i64 p.col]) := Lib.hid fun _ => rfl
 have H1 := Lib.hid hB
 have HL := Lib.hid h
 have HLC := Lib.hid hl
 have HF := Lib.hid hf
 have hlen := hf.1
 have hs1 := hB.size
 have hsz5 := hs.1
 obtain ⟨p1, f1⟩ := blk k0
 obtain ⟨p2, f2⟩ := blk k1
 obtain ⟨va, vc, rfl⟩ := h.slice
 obtain ⟨lb, lc, rfl⟩ := hl.slice
 clear h hl he hs hf k0 k1 hB
 cases hsp : spanD d p p
 ·have HR : Hid (insertD more d p = ([], ⟨0, 0⟩, 1)) := Lib.hid (by unfold insertD; rw [hsp]; rfl)
  rw [hsp] at HC1
  clear hsp
  rw [HP.out p] at HC1 ⊢
  go_enter Tryz.func127, Tryz.ntmps127
  go_wp2_with (go_at_call 133; refine HC1.out.mono ?_; rintro e w2 ⟨rfl, hb2⟩; have k1' := (HB.out _ hb2).2; obtain ⟨q2, g2⟩ := blk k1')
  refine bodyPost_ret (results_dpe rfl _ _ (w.heap.size + 1) (.int .i64 0) (.int .i64 0) rfl (by simp [heap_set, putIn, k1'])) rfl ?_
  unfold DocPSaid
  rw [HR.out]
  have hfin := H1.out.trans (hb2.mono hs1)
  exact ⟨_, rfl, SliceR.nil _ _ _ _ _ _, by (repeat' (first | (with_reducible exact Below.refl _ _) | (with_reducible assumption) | (with_reducible refine Below.alloc ?_ ?_ _) | (with_reducible refine Below.drew ?_) | (with_reducible refine drewN_below ?_) | (with_reducible refine Below.setCell ?_ ?_ _) | go_size))⟩
 cases hmy : mayCs more
 ·have HR : Hid (insertD more d p = ([], ⟨0, 0⟩, 1)) := Lib.hid (by unfold insertD; rw [hsp, hmy]; rfl)
  rw [hsp] at HC1
  rw [hmy] at HCM
  clear hsp hmy
  rw [HP.out p] at HC1 ⊢
  go_enter Tryz.func127, Tryz.ntmps127
  go_wp2_with (first | (go_at_call 133; refine HC1.out.mono ?_; rintro e w2 ⟨rfl, hb2⟩) | (go_at_call 194; refine (HCM.out _ hb2).mono ?_; rintro e w3 ⟨rfl, hb3⟩; have hx3 := below_from hb2 hb3; have k1' := (HB.out _ hx3).2; obtain ⟨q2, g2⟩ := blk k1'))
  refine bodyPost_ret (results_dpe rfl _ _ (w.heap.size + 1) (.int .i64 0) (.int .i64 0) rfl (by simp [heap_set, putIn, k1'])) rfl ?_
  unfold DocPSaid
  rw [HR.out]
  have hfin := H1.out.trans (hx3.mono hs1)
  exact ⟨_, rfl, SliceR.nil _ _ _ _ _ _, by (repeat' (first | (with_reducible exact Below.refl _ _) | (with_reducible assumption) | (with_reducible refine Below.alloc ?_ ?_ _) | (with_reducible refine Below.drew ?_) | (with_reducible refine drewN_below ?_) | (with_reducible refine Below.setCell ?_ ?_ _) | go_size))⟩
 obtain ⟨n, hn⟩ : ∃ n, sizeD d = n := ⟨_, rfl⟩
 rw [hn] at HSZ hsz5
 by_cases h4 : 4000 < n + more.length
 ·have HR : Hid (insertD more d p = ([], ⟨0, 0⟩, 10)) := Lib.hid (by unfold insertD; rw [hsp, hmy, hn, show (true && true) = true from rfl, if_pos rfl, if_pos h4])
  have hq1 : (4000 : Int) < (n : Int) + (more.length : Int) := by omega
  have hq2 : decide ((4000 : Int) < (n : Int) + (more.length : Int)) = true := decide_eq_true hq1
  rw [hsp] at HC1
  rw [hmy] at HCM
  clear hsp hmy h4 hn
  rw [HP.out p] at HC1 ⊢
  go_enter Tryz.func127, Tryz.ntmps127
  go_wp2_with (first | (go_at_call 133; refine HC1.out.mono ?_; rintro e w2 ⟨rfl, hb2⟩) | (go_at_call 194; refine (HCM.out _ hb2).mono ?_; rintro e w3 ⟨rfl, hb3⟩; have hx3 := below_from hb2 hb3) | (go_at_call 141; refine (HSZ.out _ hx3).mono ?_; rintro e w4 ⟨rfl, hb4⟩; have hx4 := below_from hx3 hb4; have k1' := (HB.out _ hx4).2; obtain ⟨q2, g2⟩ := blk k1'))
  refine bodyPost_ret (results_dpe rfl _ _ (w.heap.size + 1) (.int .i64 0) (.int .i64 0) rfl (by simp [heap_set, putIn, k1'])) rfl ?_
  unfold DocPSaid
  rw [HR.out]
  have hfin := H1.out.trans (hx4.mono hs1)
  exact ⟨_, rfl, SliceR.nil _ _ _ _ _ _, by (repeat' (first | (with_reducible exact Below.refl _ _) | (with_reducible assumption) | (with_reducible refine Below.alloc ?_ ?_ _) | (with_reducible refine Below.drew ?_) | (with_reducible refine drewN_below ?_) | (with_reducible refine Below.setCell ?_ ?_ _) | go_size))⟩
 obtain ⟨_, i, _, q, _, l, _, rfl, hpe, hl, _, hq, _, _, _⟩ := span_at hsp
 have hil := (List.getElem?_eq_some_iff.1 hl).1
 have hfl := HF.out.2 l (List.mem_of_getElem? hl)
 have HR : Hid (insertD more d ⟨i, q⟩ = (d.set i { l with cells := insertC l.cells q more }, ⟨i, (q : Int) + (more.length : Int)⟩, 0)) := Lib.hid (by
  unfold insertD
  rw [hsp, hmy, hn, show (true && true) = true from rfl, if_pos rfl, if_neg h4]
  simp [List.getD, hl])
 have hq1 : (n : Int) + (more.length : Int) ≤ 4000 := by omega
 have hq2 : decide ((4000 : Int) < (n : Int) + (more.length : Int)) = false := decide_eq_false (by omega)
 rw [hsp] at HC1
 rw [hmy] at HCM
 rw [HP.out] at HC1 ⊢
 obtain ⟨va', vc', hve, hvc, hvm, hx⟩ := lins_shape HL.out
 cases hve
 obtain ⟨b1, o1, la, lc1, ca, cc, rfl, hAi⟩ := hx i l hl
 have HAI := Lib.hid hAi
 have HLL := Lib.hid hl
 unfold maxLen at hvm
 have i0 : (0 : Int) ≤ (i : Int) := Int.natCast_nonneg _
 have i1 : (i : Int) < (d.length : Int) := by omega
 have u0 : (0 : Int) ≤ (q : Int) := Int.natCast_nonneg _
 have u1 : (q : Int) ≤ 1000000 := by omega
 have u2 : (more.length : Int) ≤ 1000000 := by omega
 clear hx hAi hl hsp hmy h4 hn hpe
 go_enter Tryz.func127, Tryz.ntmps127
 go_wp2_with (first | (go_at_call 133; refine HC1.out.mono ?_; rintro e w2 ⟨rfl, hb2⟩) | (go_at_call 194; refine (HCM.out _ hb2).mono ?_; rintro e w3 ⟨rfl, hb3⟩; have hx3 := below_from hb2 hb3) | (go_at_call 141; refine (HSZ.out _ hx3).mono ?_; rintro e w4 ⟨rfl, hb4⟩; have hx4 := below_from hx3 hb4) | (go_at_call 108; refine (HO.out _ hx4).mono ?_; rintro e w5 ⟨v5, rfl, hv5, hb5⟩; have hx5 := below_from hx4 hb5; obtain ⟨b3, o3, c3, la3, lc3, ca3, cc3, rfl, hc3, hm3, hA3, hI3, hC3, hS3⟩ := docOwn_at hv5 HLL.out; have HV5 := Lib.hid hv5; have HA3 := Lib.hid hA3; have HC3 := Lib.hid hC3; unfold maxLen at hm3; have hS3' : w4.heap.size ≤ b3 := hS3; clear hv5 hI3 hC3 hA3 hS3))
 have hsz14 := hx4.size
 have hsz45 := hb5.size
 have hb3z := HA3.out.lt
 have hb1z : b1 < w.heap.size := HAI.out.lt
 have k0' := (HB.out _ hx5).1
 have k1' := (HB.out _ hx5).2
 obtain ⟨q1', g1'⟩ := blk k0'
 have hd5 : Below w5.heap.size w5 w5.drew := (Below.refl _ _).drew
 have HCI : Hid (∀ W, Below w5.heap.size w5 W → Calls Tryz.prog 195 #[.slice ca3 l.cells.length cc3, .int .i64 q, .slice lb more.length lc] W (CellsSaid (insertC l.cells q more) 0 W)) := Lib.hid fun W hW => cellsInsert_any ca3 lb cc3 lc q l.cells more W w5 w _ S2 true false HC3.out HLC.out hW ((H1.out.trans (hx5.mono hs1)).trans (hW.mono (by omega))) hq hfl.2 hml
 obtain ⟨b3', o3', cs3, hbe, _, hg3, hgz⟩ := SliceR.cellAt HV5.out (i := i) hil
 cases hbe
 have e1 : b3 ≠ w.heap.size := by omega
 have e2 : b3 ≠ w.heap.size + 1 := by omega
 have HG3 := Lib.hid hg3
 have hld : (w5.drew).cell? ⟨b3, o3 + i * 4 + 3, none⟩ = some (.slice ca3 l.cells.length cc3) := HA3.out.cells
 have HK := Lib.hid (And.intro k0' k1')
 clear hg3 k0' k1' p1 f1 p2 f2 hW1
 refine wp_region_noPanic ?_
 refine wp_region_held_drew (S := fun w' => w'.cell? ⟨w.heap.size, 0, none⟩ = some (.int .i64 i) ∧ w'.cell? ⟨w.heap.size, 1, none⟩ = some (.int .i64 q)) (by kernel_rfl) ⟨q1' 0, q1' 1⟩ (fun hHeld => ?_)
 obtain ⟨X0, hX0⟩ : ∃ X, w5.drew = X := ⟨_, rfl⟩
 rw [hX0] at hd5 hHeld hld ⊢
 clear hX0 q1' g1'
 refine wpAnyH_take (i := 0) (v := ?_) (by simp only [qA, qZ]; rfl) (by kernel_rfl) (by kernel_rfl) (by kernel_rfl) (fun _ _ _ h => h) (Or.inl ⟨by rfl, ?_⟩) (by assumption) ?_
 rotate_left 1
 ·intro w hSw; (try dsimp only at hSw); go_simp; (first | done | with_reducible rfl)
 try simp only [Act.put, qI, qX, qY]
 refine wpAnyH_take (i := 1) (v := ?_) (by simp only [qA, qS, qZ]; rfl) (by kernel_rfl) (by kernel_rfl) (by kernel_rfl) (fun _ _ _ h => h) (Or.inl ⟨by rfl, ?_⟩) (by assumption) ?_
 rotate_left 1
 ·intro w hSw; (try dsimp only at hSw); go_simp; (first | done | with_reducible rfl)
 try simp only [Act.put, qI, qX, qY]
 refine wpAnyH_take (i := 2) (v := ?_) (by simp only [qA, qS, qZ]; rfl) (by kernel_rfl) (by kernel_rfl) (by kernel_rfl) (fun _ _ _ h => h) (Or.inl ⟨by rfl, ?_⟩) (by assumption) ?_
 rotate_left 1
 ·intro w hSw; (try dsimp only at hSw); go_simp; (first | done | with_reducible rfl)
 try simp only [Act.put, qI, qX, qY]
 refine wpAnyH_take (i := 3) (v := ?_) (by simp only [qA, qS, qZ]; rfl) (by kernel_rfl) (by kernel_rfl) (by kernel_rfl) (fun _ _ _ h => h) (Or.inl ⟨by rfl, ?_⟩) (by assumption) ?_
 rotate_left 1
 ·intro w hSw; (try dsimp only at hSw); go_simp; (first | done | with_reducible rfl)
 try simp only [Act.put, qI, qX, qY]
 refine wpAnyH_take (i := 4) (v := ?_) (by simp only [qA, qS, qZ]; rfl) (by kernel_rfl) (by kernel_rfl) (by kernel_rfl) (fun _ _ _ h => h) (Or.inl ⟨by rfl, ?_⟩) (by assumption) ?_
 rotate_left 1
 ·intro w hSw; (try dsimp only at hSw); go_simp; (first | done | with_reducible rfl)
 try simp only [Act.put, qI, qX, qY]
 refine wpAnyH_take (i := 5) (v := ?_) (by simp only [qA, qS, qZ]; rfl) (by kernel_rfl) (by kernel_rfl) (by kernel_rfl) (fun _ _ _ h => h) (Or.inl ⟨by rfl, ?_⟩) (by assumption) ?_
 rotate_left 1
 ·intro w hSw; (try dsimp only at hSw); go_simp; (first | done | with_reducible rfl)
 try simp only [Act.put, qI, qX, qY]
 refine wpAnyH_take (i := 6) (v := ?_) (by simp only [qA, qS, qZ]; rfl) (by kernel_rfl) (by kernel_rfl) (by kernel_rfl) (fun _ _ _ h => h) (Or.inl ⟨by rfl, ?_⟩) (by assumption) ?_
 rotate_left 1
 ·intro w hSw; (try dsimp only at hSw); go_simp; (first | done | with_reducible rfl)
 try simp only [Act.put, qI, qX, qY]
 refine wpAnyH_take (i := 7) (v := ?_) (by simp only [qA, qS, qZ]; rfl) (by kernel_rfl) (by kernel_rfl) (by kernel_rfl) (fun _ _ _ h => h) (Or.inl ⟨by rfl, ?_⟩) (by assumption) ?_
 rotate_left 1
 ·intro w hSw; (try dsimp only at hSw); go_simp; (first | done | with_reducible rfl)
 try simp only [Act.put, qI, qX, qY]
 refine wpAnyH_take (i := 9) (v := ?_) (by simp only [qA, qS, qZ]; rfl) (by kernel_rfl) (by kernel_rfl) (by kernel_rfl) (fun _ _ _ h => h) (Or.inl ⟨by rfl, ?_⟩) (by assumption) ?_
 rotate_left 1
 ·intro w hSw; (try dsimp only at hSw); go_simp; (first | done | with_reducible rfl)
 try simp only [Act.put, qI, qX, qY]
 refine wpAnyH_take (i := 10) (v := ?_) (by simp only [qA, qS, qZ]; rfl) (by kernel_rfl) (by kernel_rfl) (by kernel_rfl) (fun _ _ _ h => h) (Or.inl ⟨by rfl, ?_⟩) (by assumption) ?_
 rotate_left 1
 ·intro w hSw; (try dsimp only at hSw); go_simp; (first | done | with_reducible rfl)
 try simp only [Act.put, qI, qX, qY]
 refine wpAnyH_take (i := 11) (v := ?_) (by simp only [qA, qS, qZ]; rfl) (by kernel_rfl) (by kernel_rfl) (by kernel_rfl) (fun _ _ _ h => h) (Or.inl ⟨by rfl, ?_⟩) (by assumption) ?_
 rotate_left 1
 ·intro w hSw; (try dsimp only at hSw); go_simp; (first | done | with_reducible rfl)
 try simp only [Act.put, qI, qX, qY]
 refine wpAnyH_ready (rs := [8]) (by kernel_rfl) (by simp) ?_
 refine AllReadyH.cons (by simp only [qA, qS, qZ]; rfl) (fun K hK => ?_) AllReadyH.nil
 go_simp
 refine hK.out _ _ hHeld (fun _ => ?_)
 clear hK K
 try simp only [Act.put, qI, qX, qY]
 refine wpAnyH_ready (rs := [12]) (by kernel_rfl) (by simp) ?_
 refine AllReadyH.cons (by simp only [qA, qS, qZ]; rfl) (fun K hK => ?_) AllReadyH.nil
 go_simp
 refine (HCI.out _ hd5).mono ?_
 intro e w6 hsaid
 obtain ⟨v6, rfl, hv6, hb6'⟩ := hsaid
 have hb6 : Below w5.heap.size w5 w6 := below_from hd5 hb6'
 have hdz := hd5.size
 obtain ⟨a6, n6, c6, hv6e⟩ := slice_any hv6
 subst hv6e
 have HV6 : Hid (CelsR true w6 (fun b => w5.heap.size ≤ b) (.slice a6 n6 c6) (insertC l.cells q more)) := Lib.hid (SliceR.stable (rdOf_stable _) hv6 (Keeps.refl _ _) (fun b h _ => Nat.le_trans hdz h))
 obtain ⟨y0, y0f⟩ := blk (heap_below hb6 HK.out.1)
 have k16 := heap_below hb6 HK.out.2
 have g36 := heap_below hb6 HG3.out
 have y3 : w6.cell? ⟨b3, o3 + i * 4 + 3, none⟩ = some (.slice ca3 l.cells.length cc3) := (hb6.cell (p := ⟨b3, o3 + i * 4 + 3, none⟩) hb3z).trans HA3.out.cells
 have y3f : w6.frozen? ⟨b3, o3 + i * 4 + 3, none⟩ = false := frozen_of_heap g36
 have hS6 : w6.cell? ⟨w.heap.size, 0, none⟩ = some (.int .i64 i) ∧ w6.cell? ⟨w.heap.size, 1, none⟩ = some (.int .i64 q) := ⟨y0 0, y0 1⟩
 clear hv6 hb6' hld hHeld
 refine hK.out _ _ hS6 (fun hHeld => ?_)
 clear hK K
 try simp only [Act.put, qI, qX, qY]
 refine wpAnyH_take (i := 13) (v := ?_) (by simp only [qA, qS, qZ]; rfl) (by kernel_rfl) (by kernel_rfl) (by kernel_rfl) (fun _ _ _ h => h) (Or.inl ⟨by rfl, ?_⟩) (by assumption) ?_
 rotate_left 1
 ·intro w hSw; (try dsimp only at hSw); go_simp; (first | done | with_reducible rfl)
 try simp only [Act.put, qI, qX, qY]
 refine wpAnyH_take (i := 14) (v := ?_) (by simp only [qA, qS, qZ]; rfl) (by kernel_rfl) (by kernel_rfl) (by kernel_rfl) (fun _ _ _ h => h) (Or.inl ⟨by rfl, ?_⟩) (by assumption) ?_
 rotate_left 1
 ·intro w hSw; (try dsimp only at hSw); go_simp; (first | done | with_reducible rfl)
 try simp only [Act.put, qI, qX, qY]
 refine wpAnyH_take (i := 15) (v := ?_) (by simp only [qA, qS, qZ]; rfl) (by kernel_rfl) (by kernel_rfl) (by kernel_rfl) (fun _ _ _ h => h) (Or.inl ⟨by rfl, ?_⟩) (by assumption) ?_
 rotate_left 1
 ·intro w hSw; (try dsimp only at hSw); go_simp; (first | done | with_reducible rfl)
 try simp only [Act.put, qI, qX, qY]
 refine wpAnyH_take (i := 16) (v := ?_) (by simp only [qA, qS, qZ]; rfl) (by kernel_rfl) (by kernel_rfl) (by kernel_rfl) (fun _ _ _ h => h) (Or.inl ⟨by rfl, ?_⟩) (by assumption) ?_
 rotate_left 1
 ·intro w hSw; (try dsimp only at hSw); go_simp; (first | done | with_reducible rfl)
 try simp only [Act.put, qI, qX, qY]
 refine wpAnyH_take (i := 17) (v := ?_) (by simp only [qA, qS, qZ]; rfl) (by kernel_rfl) (by kernel_rfl) (by kernel_rfl) (fun _ _ _ h => h) (Or.inl ⟨by rfl, ?_⟩) (by assumption) ?_
 rotate_left 1
 ·intro w hSw; (try dsimp only at hSw); go_simp; (first | done | with_reducible rfl)
 try simp only [Act.put, qI, qX, qY]
 refine wpAnyH_ready (rs := [18]) (by kernel_rfl) (by simp) ?_
 refine AllReadyH.cons (by simp only [qA, qS, qZ]; rfl) (fun K hK => ?_) AllReadyH.nil
 go_simp
 have hS7 : (w6.setCell ⟨b3, o3 + i * 4 + 3, none⟩ (.slice a6 n6 c6)).cell? ⟨w.heap.size, 0, none⟩ = some (.int .i64 i) ∧ (w6.setCell ⟨b3, o3 + i * 4 + 3, none⟩ (.slice a6 n6 c6)).cell? ⟨w.heap.size, 1, none⟩ = some (.int .i64 q) := ⟨(setCell_block e1).trans hS6.1, (setCell_block e1).trans hS6.2⟩
 refine hK.out _ _ hS7 (fun _ => ?_)
 refine wpAnyH_done (by kernel_rfl) ?_ _
 refine NoPanic.normal ?_
 clear hK K hHeld y0 y0f y3 y3f
 obtain ⟨w7, hw7⟩ : ∃ X, w6.setCell ⟨b3, o3 + i * 4 + 3, none⟩ (.slice a6 n6 c6) = X := ⟨_, rfl⟩
 have k17 : w7.heap[w.heap.size + 1]? = some (.cells #[.int .i64 0, .int .i64 0] 24) := by rw [← hw7, heap_set, if_neg e2]; exact k16
 have hfin : Below w.heap.size w w7 := by
  rw [← hw7]
  exact ((H1.out.trans (hx5.mono hs1)).trans (hb6.mono (by omega))).setCell (by show w.heap.size ≤ b3; omega) _
 have hD7 : DocR true w7 (fun b => w4.heap.size ≤ b) (.slice (some ⟨b3, o3, none⟩) d.length c3) (d.set i { l with cells := insertC l.cells q more }) := by
  rw [← hw7]
  refine SliceR.set1 eltLine.tag (SliceR.below (rdLin_stable true) HV5.out hb6) HLL.out (j := 3) (by decide) (.slice a6 n6 c6) ?_
  rintro vs _ ⟨p', q', rfl, hp', hq'⟩
  exact ⟨p', _, rfl, hp', SliceR.stable (rdOf_stable _) HV6.out (Keeps.refl _ _) (fun b h _ => Nat.le_trans hsz45 h)⟩
 have hz7 : w6.heap.size = w7.heap.size := by rw [← hw7]; simp
 have hz56 := hb6.size
 rw [hw7] at hS7 ⊢
 clear hw7 k16 hS6 g36
 obtain ⟨r1, s1⟩ := blk k17
 have HD7 := Lib.hid hD7
 have HFIN := Lib.hid hfin
 clear hD7 hfin
 go_wp2_with fail
 refine wp_region_noPanic ?_
 refine wp_region_held_drew (S := fun w' => w'.cell? ⟨w.heap.size, 0, none⟩ = some (.int .i64 i) ∧ w'.cell? ⟨w.heap.size, 1, none⟩ = some (.int .i64 q)) (by kernel_rfl) ⟨hS7.1, hS7.2⟩ (fun hHeld => ?_)
 obtain ⟨X9, hX9⟩ : ∃ X, w7.drew = X := ⟨_, rfl⟩
 have hd9 : Below w7.heap.size w7 X9 := hX9 ▸ (Below.refl _ _).drew
 rw [hX9] at hHeld ⊢
 have k19 := heap_below hd9 k17
 obtain ⟨r9, s9⟩ := blk k19
 have HD9 := Lib.hid hd9
 have HK9 := Lib.hid k19
 have HS9 := Lib.hid hHeld
 have e3 : w.heap.size + 1 ≠ w.heap.size := by omega
 clear hX9 hS7 r1 s1 k17 hd9 k19
 refine wpAnyH_take (i := 0) (v := ?_) (by simp only [qA, qZ]; rfl) (by kernel_rfl) (by kernel_rfl) (by kernel_rfl) (fun _ _ _ h => h) (Or.inl ⟨by rfl, ?_⟩) (by assumption) ?_
 rotate_left 1
 ·intro w hSw; (try dsimp only at hSw); go_simp; (first | done | with_reducible rfl)
 try simp only [Act.put, qI, qX, qY]
 refine wpAnyH_take (i := 1) (v := ?_) (by simp only [qA, qS, qZ]; rfl) (by kernel_rfl) (by kernel_rfl) (by kernel_rfl) (fun _ _ _ h => h) (Or.inl ⟨by rfl, ?_⟩) (by assumption) ?_
 rotate_left 1
 ·intro w hSw; (try dsimp only at hSw); go_simp; (first | done | with_reducible rfl)
 try simp only [Act.put, qI, qX, qY]
 refine wpAnyH_take (i := 2) (v := ?_) (by simp only [qA, qS, qZ]; rfl) (by kernel_rfl) (by kernel_rfl) (by kernel_rfl) (fun _ _ _ h => h) (Or.inl ⟨by rfl, ?_⟩) (by assumption) ?_
 rotate_left 1
 ·intro w hSw; (try dsimp only at hSw); go_simp; (first | done | with_reducible rfl)
 try simp only [Act.put, qI, qX, qY]
 refine wpAnyH_take (i := 3) (v := ?_) (by simp only [qA, qS, qZ]; rfl) (by kernel_rfl) (by kernel_rfl) (by kernel_rfl) (fun _ _ _ h => h) (Or.inl ⟨by rfl, ?_⟩) (by assumption) ?_
 rotate_left 1
 ·intro w hSw; (try dsimp only at hSw); go_simp; (first | done | with_reducible rfl)
 try simp only [Act.put, qI, qX, qY]
 refine wpAnyH_take (i := 4) (v := ?_) (by simp only [qA, qS, qZ]; rfl) (by kernel_rfl) (by kernel_rfl) (by kernel_rfl) (fun _ _ _ h => h) (Or.inl ⟨by rfl, ?_⟩) (by assumption) ?_
 rotate_left 1
 ·intro w hSw; (try dsimp only at hSw); go_simp; (first | done | with_reducible rfl)
 try simp only [Act.put, qI, qX, qY]
 refine wpAnyH_take (i := 5) (v := ?_) (by simp only [qA, qS, qZ]; rfl) (by kernel_rfl) (by kernel_rfl) (by kernel_rfl) (fun _ _ _ h => h) (Or.inl ⟨by rfl, ?_⟩) (by assumption) ?_
 rotate_left 1
 ·intro w hSw; (try dsimp only at hSw); go_simp; (first | done | with_reducible rfl)
 try simp only [Act.put, qI, qX, qY]
 refine wpAnyH_take (i := 6) (v := ?_) (by simp only [qA, qS, qZ]; rfl) (by kernel_rfl) (by kernel_rfl) (by kernel_rfl) (fun _ _ _ h => h) (Or.inl ⟨by rfl, ?_⟩) (by assumption) ?_
 rotate_left 1
 ·intro w hSw; (try dsimp only at hSw); go_simp; (first | done | with_reducible rfl)
 try simp only [Act.put, qI, qX, qY]
 refine wpAnyH_take (i := 7) (v := ?_) (by simp only [qA, qS, qZ]; rfl) (by kernel_rfl) (by kernel_rfl) (by kernel_rfl) (fun _ _ _ h => h) (Or.inl ⟨by rfl, ?_⟩) (by assumption) ?_
 rotate_left 1
 ·intro w hSw; (try dsimp only at hSw); go_simp; (first | done | with_reducible rfl)
 try simp only [Act.put, qI, qX, qY]
 refine wpAnyH_take (i := 8) (v := ?_) (by simp only [qA, qS, qZ]; rfl) (by kernel_rfl) (by kernel_rfl) (by kernel_rfl) (fun _ _ _ h => h) (Or.inl ⟨by rfl, ?_⟩) (by assumption) ?_
 rotate_left 1
 ·intro w hSw; (try dsimp only at hSw); go_simp; (first | done | with_reducible rfl)
 try simp only [Act.put, qI, qX, qY]
 refine wpAnyH_ready (rs := [9]) (by kernel_rfl) (by simp) ?_
 refine AllReadyH.cons (by simp only [qA, qS, qZ]; rfl) (fun K hK => ?_) AllReadyH.nil
 go_simp
 refine hK.out _ _ hHeld (fun _ => ?_)
 clear hK K
 try simp only [Act.put, qI, qX, qY]
 refine wpAnyH_ready (rs := [10]) (by kernel_rfl) (by simp) ?_
 refine AllReadyH.cons (by simp only [qA, qS, qZ]; rfl) (fun K hK => ?_) AllReadyH.nil
 go_simp
 have hSA : ∀ u0 u1, ((X9.setCell ⟨w.heap.size + 1, 0, none⟩ u0).setCell ⟨w.heap.size + 1, 1, none⟩ u1).cell? ⟨w.heap.size, 0, none⟩ = some (.int .i64 i) ∧ ((X9.setCell ⟨w.heap.size + 1, 0, none⟩ u0).setCell ⟨w.heap.size + 1, 1, none⟩ u1).cell? ⟨w.heap.size, 1, none⟩ = some (.int .i64 q) := fun u0 u1 =>
  ⟨(setCell_block e3).trans ((setCell_block e3).trans HS9.out.1), (setCell_block e3).trans ((setCell_block e3).trans HS9.out.2)⟩
 refine hK.out _ _ (hSA _ _) (fun _ => ?_)
 clear hK K
 try simp only [Act.put, qI, qX, qY]
 refine wpAnyH_ready (rs := [11]) (by kernel_rfl) (by simp) ?_
 refine AllReadyH.cons (by simp only [qA, qS, qZ]; rfl) (fun K hK => ?_) AllReadyH.nil
 go_simp
 refine hK.out _ _ (hSA _ _) (fun _ => ?_)
 refine wpAnyH_done (by kernel_rfl) ?_ _
 refine NoPanic.normal ?_
 clear hK K hSA
 go_wp2_with fail
 have k19 := HK9.out
 have hwr : IntKind.i64.wrap ((q : Int) + (more.length : Int)) = (q : Int) + (more.length : Int) := IntWalk.i64_in _ (by omega)
 refine bodyPost_ret (results_dpe rfl _ _ (w.heap.size + 1) (.int .i64 i) (.int .i64 ((q : Int) + (more.length : Int))) rfl (by simp [heap_set, putIn, k19, hwr])) rfl ?_
 unfold DocPSaid
 rw [HR.out]
 have hz9 := HD9.out.size
 have hfz := HFIN.out.size
 have hw4 : w.heap.size + 2 ≤ w4.heap.size := by omega
 refine ⟨_, by rw [HP.out]; rfl, SliceR.stable (rdLin_stable true) HD7.out ((((Keeps.all HD9.out)).set (fun hh => by have hh : w4.heap.size ≤ w.heap.size + 1 := hh; omega) _).set (fun hh => by have hh : w4.heap.size ≤ w.heap.size + 1 := hh; omega) _) (fun b h _ => by have h : w4.heap.size ≤ b := h; omega), ?_⟩
 exact ((HFIN.out.trans (HD9.out.mono hfz)).setCell (by show w.heap.size ≤ w.heap.size + 1; omega) _).setCell (by show w.heap.size ≤ w.heap.size + 1; omega) _
end Go.Proofs.YtpndnbjpnajaaaaGreatDoor
namespace Go.Proofs.Qw
open Go.RowKit Go.Proofs.YtpndnbjpnajaaaaGreatDoor
def flat (d : Doc) : List Cel := d.flatMap (·.cells)
theorem flatc_len (d : Doc) : (flat d).length = sizeD d := by unfold flat sizeD; rw [List.length_flatMap]
theorem flat_append (d e : Doc) : flat (d ++ e) = flat d ++ flat e := by unfold flat; rw [List.flatMap_append]
theorem flat_one (l : Lin) : flat [l] = l.cells := by simp [flat]
theorem split_at {d : Doc} {i : Nat} {l : Lin} (h : d[i]? = some l) : d = d.take i ++ [l] ++ d.drop (i + 1) := by
 have hi := (List.getElem?_eq_some_iff.1 h).1
 have e : d.drop i = l :: d.drop (i + 1) := by
  rw [List.drop_eq_getElem_cons hi, (List.getElem?_eq_some_iff.1 h).2]
 rw [List.append_assoc, List.singleton_append, ← e, List.take_append_drop]
theorem flat_at {d : Doc} {i : Nat} {l : Lin} (h : d[i]? = some l) : flat d = flat (d.take i) ++ (l.cells ++ flat (d.drop (i + 1))) := by
 conv => lhs; rw [split_at h]
 rw [flat_append, flat_append, flat_one, List.append_assoc]
def offs (d : Doc) (i p : Nat) : Nat := (flat (d.take i)).length + p
theorem flat_take {d : Doc} {i p : Nat} {l : Lin} (h : d[i]? = some l) (hp : p ≤ l.cells.length) : (flat d).take (offs d i p) = flat (d.take i) ++ l.cells.take p := by
 unfold offs
 rw [flat_at h, List.take_length_add_append, List.take_append_of_le_length hp]
theorem flat_drop {d : Doc} {i p : Nat} {l : Lin} (h : d[i]? = some l) (hp : p ≤ l.cells.length) : (flat d).drop (offs d i p) = l.cells.drop p ++ flat (d.drop (i + 1)) := by
 unfold offs
 rw [flat_at h, List.drop_length_add_append, List.drop_append_of_le_length hp]
theorem flat_next {d : Doc} {k : Nat} {l : Lin} (h : d[k]? = some l) : flat (d.take (k + 1)) = flat (d.take k) ++ l.cells := by
 rw [List.take_add_one, h, flat_append]
 simp [flat]
theorem cmp_le {i p j q : Nat} : cmpP ⟨i, p⟩ ⟨j, q⟩ ≤ 0 ↔ i < j ∨ i = j ∧ p ≤ q := by
 unfold cmpP cmpI
 simp only
 by_cases h : (i : Int) < j
 ·simp [h]; omega
 ·by_cases h2 : (j : Int) < i
  ·simp [h, h2]; omega
  ·simp only [h, h2, if_false]
   simp only [ne_eq, not_true_eq_false, if_false]
   split
   ·simp; omega
   ·split
    ·simp; omega
    ·simp; omega
theorem is_mk {d : Doc} {i p : Nat} {l : Lin} (hl : d[i]? = some l) (hp : p ≤ l.cells.length) : isD d ⟨i, p⟩ = true := by
 rw [isD_at hl]
 simp
 omega
theorem span_mk {d : Doc} {i p j q : Nat} {l m : Lin} (hM : mayD d = true) (hl : d[i]? = some l) (hm : d[j]? = some m) (hp : p ≤ l.cells.length) (hq : q ≤ m.cells.length) (hij : i ≤ j) (hpq : i = j → p ≤ q) : spanD d ⟨i, p⟩ ⟨j, q⟩ = true := by
 unfold spanD
 rw [hM, is_mk hl hp, is_mk hm hq]
 simp only [Bool.and_true, Bool.true_and, decide_eq_true_eq, cmp_le]
 omega
theorem mayL_cells {l : Lin} {cs : List Cel} (h : mayL l = true) (hc : mayCs cs = true) : mayL { l with cells := cs } = true := by
 unfold mayL at h ⊢
 simp only [Bool.and_eq_true] at h ⊢
 exact ⟨h.1, hc⟩
theorem mayL_has {l : Lin} (h : mayL l = true) : mayCs l.cells = true := by
 unfold mayL at h
 simp only [Bool.and_eq_true] at h
 exact h.2
theorem mayCs_take {l : List Cel} (h : mayCs l = true) (n : Nat) : mayCs (l.take n) = true := by
 unfold mayCs at h ⊢
 rw [List.all_eq_true] at h ⊢
 exact fun x hx => h x (List.mem_of_mem_take hx)
theorem mayCs_drop {l : List Cel} (h : mayCs l = true) (n : Nat) : mayCs (l.drop n) = true := by
 unfold mayCs at h ⊢
 rw [List.all_eq_true] at h ⊢
 exact fun x hx => h x (List.mem_of_mem_drop hx)
theorem mayCs_append {l m : List Cel} (h : mayCs l = true) (k : mayCs m = true) : mayCs (l ++ m) = true := by
 unfold mayCs at h k ⊢
 rw [List.all_append, h, k]
 rfl
theorem mayD_iff {d : Doc} : mayD d = true ↔ 1 ≤ d.length ∧ d.length ≤ 200 ∧ (flat d).length ≤ 4000 ∧ ∀ l ∈ d, mayL l = true := by
 unfold mayD
 simp only [Bool.and_eq_true, decide_eq_true_eq, List.all_eq_true, flatc_len]
 exact ⟨fun ⟨⟨⟨a, b⟩, c⟩, e⟩ => ⟨a, b, c, e⟩, fun ⟨a, b, c, e⟩ => ⟨⟨⟨a, b⟩, c⟩, e⟩⟩
theorem flat_delete {d : Doc} {i p j q : Nat} {l m : Lin} (hl : d[i]? = some l) (hm : d[j]? = some m) (hp : p ≤ l.cells.length) (hq : q ≤ m.cells.length) :
  flat (deleteL d ⟨i, p⟩ ⟨j, q⟩) = (flat d).take (offs d i p) ++ (flat d).drop (offs d j q) := by
 rw [deleteL_at hl hm, flat_append, flat_append, flat_one, flat_take hl hp, flat_drop hm hq]
 simp
theorem offs_mono {d : Doc} {i p j q : Nat} {l m : Lin} (hl : d[i]? = some l) (hm : d[j]? = some m) (hp : p ≤ l.cells.length) (hij : i ≤ j) (hpq : i = j → p ≤ q) : offs d i p ≤ offs d j q := by
 unfold offs
 by_cases e : i = j
 ·subst e
  have := hpq rfl
  omega
 ·have h1 : (d.take j).take (i + 1) = d.take (i + 1) := by rw [List.take_take, Nat.min_eq_left (by omega)]
  have h2 : flat (d.take j) = flat (d.take (i + 1)) ++ flat ((d.take j).drop (i + 1)) := by rw [← h1, ← flat_append, List.take_append_drop]
  rw [h2, flat_next hl]
  simp only [List.length_append]
  omega
theorem mem_of_at {d : Doc} {i : Nat} {l : Lin} (h : d[i]? = some l) : l ∈ d := List.mem_of_getElem? h
theorem delete_may {d : Doc} {i p j q : Nat} {l m : Lin} (hM : mayD d = true) (hl : d[i]? = some l) (hm : d[j]? = some m) (hp : p ≤ l.cells.length) (hq : q ≤ m.cells.length) (hij : i ≤ j) (hpq : i = j → p ≤ q) :
  mayD (deleteL d ⟨i, p⟩ ⟨j, q⟩) = true := by
 obtain ⟨a1, a2, a3, a4⟩ := mayD_iff.1 hM
 have hj := (List.getElem?_eq_some_iff.1 hm).1
 have ho := offs_mono hl hm hp hij hpq
 refine mayD_iff.2 ⟨?_, ?_, ?_, fun x hx => ?_⟩
 ·rw [deleteL_at hl hm]; simp; omega
 ·rw [deleteL_at hl hm]
  simp only [List.length_append, List.length_take, List.length_drop, List.length_singleton]
  omega
 ·rw [flat_delete hl hm hp hq, List.length_append, List.length_take, List.length_drop]
  omega
 ·rw [deleteL_at hl hm] at hx
  simp only [List.mem_append, List.mem_singleton] at hx
  rcases hx with (hx | rfl) | hx
  ·exact a4 x (List.mem_of_mem_take hx)
  ·exact mayL_cells (a4 l (mem_of_at hl)) (mayCs_append (mayCs_take (mayL_has (a4 l (mem_of_at hl))) _) (mayCs_drop (mayL_has (a4 m (mem_of_at hm))) _))
  ·exact a4 x (List.mem_of_mem_drop hx)
theorem delete_get {d : Doc} {i p j q : Nat} {l m : Lin} (hl : d[i]? = some l) (hm : d[j]? = some m) (k : Nat) :
  (deleteL d ⟨i, p⟩ ⟨j, q⟩)[k]? = if k < i then d[k]? else if k = i then some { l with cells := l.cells.take p ++ m.cells.drop q } else d[k - i + j]? := by
 have hi := (List.getElem?_eq_some_iff.1 hl).1
 rw [deleteL_at hl hm]
 by_cases h1 : k < i
 ·rw [if_pos h1, List.append_assoc, List.getElem?_append_left (by simp; omega), List.getElem?_take, if_pos h1]
 ·rw [if_neg h1]
  by_cases h2 : k = i
  ·subst h2
   rw [if_pos rfl, List.append_assoc, List.getElem?_append_right (by simp; omega), List.length_take, Nat.min_eq_left (by omega), Nat.sub_self]
   rfl
  ·rw [if_neg h2, List.getElem?_append_right (by simp; omega)]
   simp only [List.length_append, List.length_take, List.length_singleton, Nat.min_eq_left (Nat.le_of_lt hi)]
   rw [List.getElem?_drop]
   congr 1
   omega
end Go.Proofs.Qw
namespace Go.Proofs.Qw
open Go.RowKit Go.Proofs.YtpndnbjpnajaaaaGreatDoor
theorem set_at {d : Doc} {i : Nat} {l : Lin} (h : d[i]? = some l) (x : Lin) : d.set i x = d.take i ++ [x] ++ d.drop (i + 1) := by
 have hi := (List.getElem?_eq_some_iff.1 h).1
 rw [List.set_eq_take_append_cons_drop, if_pos hi, List.append_assoc, List.singleton_append]
theorem set_self {d : Doc} {i : Nat} {l : Lin} (h : d[i]? = some l) : d.take i ++ [l] ++ d.drop (i + 1) = d := (split_at h).symm
theorem split_back {d : Doc} {a : Ps} {x : Doc} {p : Ps} (h : splitD d a = (x, p, 0)) : mayD x = true ∧ p = ⟨a.line + 1, 0⟩ ∧ deleteD x a p = (d, 0) := by
 unfold splitD at h
 split at h
 ·rename_i hc
  split at h
  ·cases h
  ·rename_i h200
   obtain ⟨hM, i, j, q, q', l, m, rfl, e, hl, hm, hq, hq', _, _⟩ := span_at hc
   obtain ⟨a1, a2, a3, a4⟩ := mayD_iff.1 hM
   have hi := (List.getElem?_eq_some_iff.1 hl).1
   simp only [Prod.mk.injEq] at h
   obtain ⟨rfl, rfl, _⟩ := h
   have hxe : splitLD d ⟨i, q⟩ = d.take i ++ [(splitL l q).1, (splitL l q).2] ++ d.drop (i + 1) := by
    unfold splitLD
    simp [List.getD, hl]
   have hcs : (splitL l q).1.cells ++ (splitL l q).2.cells = l.cells := by
    unfold splitL
    by_cases hlq : l.cells.length ≤ q
    ·rw [if_pos hlq, List.append_nil]; exact List.take_of_length_le hlq
    ·rw [if_neg hlq]; exact List.take_append_drop _ _
   have hfl : flat (splitLD d ⟨i, q⟩) = flat d := by
    rw [hxe, flat_append, flat_append, flat_at hl, ← hcs]
    simp [flat]
   have hml := a4 l (mem_of_at hl)
   have hmay : mayD (splitLD d ⟨i, q⟩) = true := by
    refine mayD_iff.2 ⟨by rw [hxe]; simp; omega, by rw [hxe]; simp; omega, by rw [hfl]; exact a3, fun y hy => ?_⟩
    rw [hxe] at hy
    simp only [List.mem_append, List.mem_cons, List.not_mem_nil, or_false] at hy
    rcases hy with (hy | rfl | rfl) | hy
    ·exact a4 y (List.mem_of_mem_take hy)
    ·exact mayL_cells hml (mayCs_take (mayL_has hml) _)
    ·unfold splitL
     by_cases hlq : l.cells.length ≤ q
     ·rw [if_pos hlq]
      unfold mayL at hml ⊢
      simp only [Bool.and_eq_true, Bool.or_eq_true, decide_eq_true_eq] at hml ⊢
      obtain ⟨⟨⟨⟨⟨⟨⟨b1, b2⟩, b3⟩, b4⟩, b5⟩, b6⟩, b7⟩, b8⟩ := hml
      exact ⟨⟨⟨⟨⟨⟨⟨b1, b2⟩, b3⟩, Int.le_refl _⟩, by decide⟩, .inr trivial⟩, b7⟩, rfl⟩
     ·rw [if_neg hlq]
      exact mayL_cells hml (mayCs_drop (mayL_has hml) _)
    ·exact a4 y (List.mem_of_mem_drop hy)
   refine ⟨hmay, rfl, ?_⟩
   have hx1 : (splitLD d ⟨i, q⟩)[i]? = some (splitL l q).1 := by
    rw [hxe, List.append_assoc, List.getElem?_append_right (by simp; omega), List.length_take, Nat.min_eq_left (by omega), Nat.sub_self]
    rfl
   have hx2 : (splitLD d ⟨i, q⟩)[i + 1]? = some (splitL l q).2 := by
    rw [hxe, List.append_assoc, List.getElem?_append_right (by simp; omega), List.length_take, Nat.min_eq_left (by omega), show i + 1 - i = 1 by omega]
    rfl
   have hc1 : (splitL l q).1.cells = l.cells.take q := rfl
   have hq2 : (⟨(i : Int) + 1, 0⟩ : Ps) = ⟨((i + 1 : Nat) : Int), ((0 : Nat) : Int)⟩ := rfl
   have hsp : spanD (splitLD d ⟨i, q⟩) ⟨i, q⟩ ⟨((i + 1 : Nat) : Int), ((0 : Nat) : Int)⟩ = true := span_mk hmay hx1 hx2 (by rw [hc1]; simp; omega) (Nat.zero_le _) (by omega) (fun e => by omega)
   show deleteD _ _ ⟨(i : Int) + 1, 0⟩ = _
   rw [hq2]
   unfold deleteD
   rw [if_pos hsp, deleteL_at hx1 hx2, List.drop_zero, show (splitL l q).1.cells.take q = (splitL l q).1.cells by rw [hc1, List.take_take, Nat.min_self], hcs]
   have e1 : (splitLD d ⟨i, q⟩).take i = d.take i := by
    rw [hxe, List.append_assoc, List.take_append_of_le_length (by simp; omega), List.take_take, Nat.min_self]
   have e2 : (splitLD d ⟨i, q⟩).drop (i + 1 + 1) = d.drop (i + 1) := by
    rw [hxe, List.drop_append_of_le_length (by simp; omega), List.drop_eq_nil_of_le (by simp; omega), List.nil_append]
   rw [e1, e2]
   exact congrArg (·, 0) (set_self hl)
 ·cases h
theorem part_length {d : Doc} {i p j q : Nat} (h : spanD d ⟨i, p⟩ ⟨j, q⟩ = true) : (partD d ⟨i, p⟩ ⟨j, q⟩).1.length = j + 1 - i := by
 unfold partD
 rw [if_pos h]
 simp [rowsTo]
theorem end_at {d : Doc} {n : Nat} {l : Lin} (hn : d.length = n + 1) (hl : d[n]? = some l) : endD d = ⟨n, l.cells.length⟩ := by
 unfold endD
 rw [if_neg (by intro e; rw [e] at hn; cases hn), hn]
 have : d.getLastD default = l := by
  rw [List.getLastD_eq_getLast?, List.getLast?_eq_getElem?, hn, Nat.add_sub_cancel, hl]
  rfl
 rw [this]
 simp
end Go.Proofs.Qw
namespace Go.Proofs.Qw
open Go.RowKit Go.Proofs.YtpndnbjpnajaaaaGreatDoor
theorem may_small {d : Doc} (h : mayD d = true) : Small d ∧ Fits d := by
 obtain ⟨h1, h2, h3, h4⟩ := mayD_iff.1 h
 rw [flatc_len] at h3
 refine ⟨⟨by omega, by omega, fun l hl c hc => ?_⟩, by omega, fun l hl => ?_⟩
 ·have := h4 l hl
  unfold mayL at this
  simp only [Bool.and_eq_true] at this
  have hcs := this.2
  unfold mayCs at hcs
  have hm := List.all_eq_true.1 hcs c hc
  unfold mayC linkF at hm
  simp only [Bool.and_eq_true, Bool.or_eq_true, decide_eq_true_eq] at hm
  rcases hm.2 with e | e
  ·rw [e]; simp
  ·unfold targetF valueF valueB at e
   simp only [Bool.and_eq_true, decide_eq_true_eq] at e
   have h5 := e.1.2.1
   have : (⟨c.href.toArray⟩ : ByteArray).size = c.href.length := by show c.href.toArray.size = _; simp
   omega
 ·have hm := h4 l hl
  unfold mayL at hm
  simp only [Bool.and_eq_true, decide_eq_true_eq] at hm
  obtain ⟨i, hi⟩ := List.getElem?_of_mem hl
  have := cells_le hi
  omega
end Go.Proofs.Qw
namespace Go.Proofs.Qw
open Go.RowKit Go.Proofs.YtpndnbjpnajaaaaGreatDoor
def stripC (c : Cel) : Cel := ⟨c.r, 0, []⟩
def stripL (l : Lin) : Lin := { l with cells := l.cells.map stripC }
def stripD (d : Doc) : Doc := d.map stripL
structure Stays (s t : St) : Prop where
 may : mayS t = true
 anc : t.anc = s.anc
 foc : t.foc = s.foc
 strip : stripD t.lines = stripD s.lines
theorem Stays.refl {s : St} (h : mayS s = true) : Stays s s := ⟨h, rfl, rfl, rfl⟩
theorem Stays.trans {s t u : St} (h : Stays s t) (k : Stays t u) : Stays s u := ⟨k.may, k.anc.trans h.anc, k.foc.trans h.foc, k.strip.trans h.strip⟩
end Go.Proofs.Qw
namespace Go.Proofs.Qw
def placesFrom : Nat → Doc → List Ps
 | _, [] => []
 | i, l :: d => (List.range (l.cells.length + 1)).map (fun (k : Nat) => (⟨(i : Int), (k : Int)⟩ : Ps)) ++ placesFrom (i + 1) d
def placesD (d : Doc) : List Ps := placesFrom 0 d
theorem placesFrom_length : ∀ (d : Doc) (i : Nat), (placesFrom i d).length = sizeD d + d.length
 | [], _ => rfl
 | l :: d, i => by
  rw [placesFrom, List.length_append, placesFrom_length d, List.length_map, List.length_range]
  simp only [sizeD, List.map_cons, List.sum_cons, List.length_cons]
  omega
theorem placesD_length (d : Doc) : (placesD d).length = sizeD d + d.length := placesFrom_length d 0
end Go.Proofs.Qw
namespace Go.Proofs.YtpndnbjpnajaaaaGreatDoor
open Go.RowKit
open Go.Proofs.Qw
theorem placesFrom_at : ∀ (d : Doc) (i k : Nat) (p : Ps), (placesFrom i d)[k]? = some p → ∃ m : Nat, p.line = ((i + m : Nat) : Int) ∧ m < d.length ∧ 0 ≤ p.col ∧ p.col ≤ ((d.getD m default).cells.length : Int) ∧ (k : Int) = sizeD (d.take m) + m + p.col
 | [], i, k, p, h => by simp [placesFrom] at h
 | l :: d, i, k, p, h => by
  rw [placesFrom] at h
  by_cases hk : k < l.cells.length + 1
  ·rw [List.getElem?_append_left (by simpa using hk), List.getElem?_map, List.getElem?_range hk] at h
   cases h
   refine ⟨0, by simp, by simp, by simp, by simp; omega, by simp [sizeD]⟩
  ·rw [List.getElem?_append_right (by simpa using hk)] at h
   simp only [List.length_map, List.length_range] at h
   obtain ⟨m, h1, h2, h3, h4, h5⟩ := placesFrom_at d (i + 1) _ p h
   refine ⟨m + 1, by rw [h1]; congr 1; omega, by simpa using h2, h3, by simpa using h4, ?_⟩
   simp only [sizeD, List.take_succ_cons, List.map_cons, List.sum_cons] at h5 ⊢
   omega
theorem placesFrom_has : ∀ (d : Doc) (i m j : Nat), m < d.length → j ≤ (d.getD m default).cells.length → (placesFrom i d)[sizeD (d.take m) + m + j]? = some ⟨((i + m : Nat) : Int), j⟩
 | [], i, m, j, h, _ => by cases h
 | l :: d, i, 0, j, _, h => by
  have h : j ≤ l.cells.length := h
  rw [placesFrom, List.getElem?_append_left (by simp [sizeD]; omega), List.getElem?_map]
  simp only [List.take_zero, sizeD, List.map_nil, List.sum_nil, Nat.zero_add]
  rw [List.getElem?_range (by omega)]
  rfl
 | l :: d, i, m + 1, j, hm, h => by
  have ih := placesFrom_has d (i + 1) m j (by simpa using hm) (by simpa using h)
  have e : sizeD ((l :: d).take (m + 1)) + (m + 1) + j = (l.cells.length + 1) + (sizeD (d.take m) + m + j) := by
   simp only [sizeD, List.take_succ_cons, List.map_cons, List.sum_cons]
   omega
  rw [placesFrom, e, List.getElem?_append_right (by simp)]
  simp only [List.length_map, List.length_range]
  rw [Nat.add_sub_cancel_left, ih]
  congr 2
  omega
theorem places_off {d : Doc} {k : Nat} {p : Ps} (h : (placesD d)[k]? = some p) : offD d p = ((k : Int), 0) := by
 obtain ⟨m, h1, h2, h3, h4, h5⟩ := placesFrom_at d 0 k p h
 obtain ⟨a, b⟩ := p
 simp only [Nat.zero_add] at h1
 subst h1
 obtain ⟨l, hl, _⟩ := getOf d m h2
 have hg : d.getD m default = l := by simp [List.getD, hl]
 rw [hg] at h4
 unfold offD
 rw [isD_at hl]
 simp only at h3 h4 h5
 rw [if_pos (by simp [h3, h4])]
 simp
 omega
theorem atGo_places : ∀ (d : Doc) (i : Nat) (n : Int), atGo i d n = if h : 0 ≤ n ∧ n < (placesFrom i d).length then ((placesFrom i d)[n.toNat]'(by omega), 0) else (⟨0, 0⟩, 1)
 | [], i, n => by
  rw [dif_neg (by simp [placesFrom])]
  rfl
 | l :: d, i, n => by
  by_cases h0 : n < 0
  ·rw [atGo_neg h0, dif_neg (by omega)]
  ·by_cases h1 : n ≤ l.cells.length
   ·rw [atGo, if_neg h0, if_pos h1, dif_pos ⟨by omega, by simp [placesFrom]; omega⟩]
    congr 1
    simp only [placesFrom]
    rw [List.getElem_append_left (by simp; omega)]
    simp
    omega
   ·rw [atGo, if_neg h0, if_neg h1, atGo_places d]
    by_cases h2 : n < (placesFrom i (l :: d)).length
    ·have h2' := h2
     simp only [placesFrom, List.length_append, List.length_map, List.length_range] at h2'
     rw [dif_pos ⟨by omega, by omega⟩, dif_pos ⟨by omega, h2⟩]
     congr 1
     simp only [placesFrom]
     rw [List.getElem_append_right (by simp; omega)]
     congr 1
     simp
     omega
    ·have h2' := h2
     simp only [placesFrom, List.length_append, List.length_map, List.length_range] at h2'
     rw [dif_neg (by omega), dif_neg (by omega)]
theorem atD_some {d : Doc} {n : Nat} {p : Ps} (h : (placesD d)[n]? = some p) : atD d n = (p, 0) := by
 obtain ⟨h1, h2⟩ := List.getElem?_eq_some_iff.1 h
 unfold atD
 rw [atGo_places, dif_pos ⟨by omega, by unfold placesD at h1; omega⟩]
 simp only [Int.toNat_natCast]
 rw [show (placesFrom 0 d)[n] = p from h2]
theorem places_last {d : Doc} (h : d ≠ []) : (placesD d)[(placesD d).length - 1]? = some (endD d) := by
 have hd : 0 < d.length := List.length_pos_iff.2 h
 obtain ⟨l, hl, _⟩ := getOf d (d.length - 1) (by omega)
 have hg : d.getD (d.length - 1) default = l := by simp [List.getD, hl]
 have e : endD d = ⟨((d.length - 1 : Nat) : Int), l.cells.length⟩ := by
  unfold endD
  rw [if_neg h, List.getLastD_eq_getLast?, List.getLast?_eq_getElem?, hl]
  simp only [Option.getD_some, Ps.mk.injEq, and_true]
  omega
 have hs := sizeD_step hl
 rw [List.take_of_length_le (by omega)] at hs
 have := placesFrom_has d 0 (d.length - 1) l.cells.length (by omega) (by rw [hg]; omega)
 simp only [Nat.zero_add] at this
 rw [placesD_length, e]
 rw [show sizeD d + d.length - 1 = sizeD (d.take (d.length - 1)) + (d.length - 1) + l.cells.length by omega]
 exact this
end Go.Proofs.YtpndnbjpnajaaaaGreatDoor
namespace Go.Proofs.YtpndnbjpnajaaaaGreatDoor
open Go.RowKit
open Go.Proofs.Qw
theorem isD_nat {d : Doc} {p : Ps} (h : isD d p = true) : ∃ (i j : Nat) (l : Lin), p = ⟨i, j⟩ ∧ d[i]? = some l ∧ j ≤ l.cells.length := by
 obtain ⟨x, y⟩ := p
 by_cases hi : 0 ≤ x ∧ x < d.length
 ·obtain ⟨i, rfl⟩ := Int.eq_ofNat_of_zero_le hi.1
  obtain ⟨l, hl, _⟩ := getOf d i (by omega)
  rw [isD_at hl] at h
  simp only [Bool.and_eq_true, decide_eq_true_eq] at h
  obtain ⟨p, rfl⟩ := Int.eq_ofNat_of_zero_le h.1
  exact ⟨i, p, l, rfl, hl, by omega⟩
 ·rw [isD_off hi] at h
  cases h
theorem clamp_is {d : Doc} {p : Ps} (h : isD d p = true) : clampD d p = p := by
 obtain ⟨i, j, l, rfl, hl, hj⟩ := isD_nat h
 rw [clampD_at hl]
 congr 1
 omega
theorem is_places {d : Doc} {k : Nat} {p : Ps} (h : (placesD d)[k]? = some p) : isD d p = true := by
 obtain ⟨m, h1, h2, h3, h4, _⟩ := placesFrom_at d 0 k p h
 obtain ⟨x, y⟩ := p
 simp only [Nat.zero_add] at h1
 subst h1
 obtain ⟨l, hl, _⟩ := getOf d m h2
 have hg : d.getD m default = l := by simp [List.getD, hl]
 rw [hg] at h4
 rw [isD_at hl]
 simp only at h3 h4
 simp [h3, h4]
theorem stepD_places {d : Doc} {n : Nat} {p : Ps} (hp : (placesD d)[n]? = some p) (m : Int) : stepD d p m = if m < -(n : Int) then (⟨0, 0⟩, false) else if ((placesD d).length : Int) - 1 - n < m then (endD d, false) else ((atD d (n + m)).1, true) := by
 have hne : d ≠ [] := by rintro rfl; simp [placesD, placesFrom] at hp
 have hl := places_last hne
 have hn := (List.getElem?_eq_some_iff.1 hp).1
 unfold stepD
 rw [if_neg hne, clamp_is (is_places hp), places_off hp, places_off hl]
 simp only
 rw [show (((placesD d).length - 1 : Nat) : Int) = ((placesD d).length : Int) - 1 by omega]
end Go.Proofs.YtpndnbjpnajaaaaGreatDoor
namespace Go.Proofs.Qw
open Go.RowKit Go.Proofs.YtpndnbjpnajaaaaGreatDoor
def cleanR (c : Int) : Option Int := if c = 9 ∨ c = 12 ∨ c = 13 then some 32 else if c = 10 then some 10 else if classF c = 1 then none else some c
def cleanB (t : ByteArray) : List Int := (runesB t).filterMap cleanR
def cellsOf (l : List Int) (b : Int) (h : List UInt8) : List Cel := l.map fun c => ⟨c, b, h⟩
end Go.Proofs.Qw
namespace Go.Proofs.Qw
open Go.RowKit Go.Proofs.YtpndnbjpnajaaaaGreatDoor
def outS (s : St) : Doc := deleteL s.lines (spanS s).1 (spanS s).2
def endS (x : Doc × Ps × Int) : St × Int := if x.2.2 = 0 then (closedS x.1 x.2.1, 0) else (noS, x.2.2)
def keyS (s : St) (x : Doc × Ps × Int) : St × Int := if mayS s = true then endS x else (noS, 1)
def lineAt (d : Doc) (p : Ps) : Lin := d.getD p.line.toNat default
def eraseK (s : St) : Doc × Ps × Int := if s.anc = s.foc then ([], (spanS s).1, 7) else (outS s, (spanS s).1, 0)
def headB (l : List Cel) (b : Int) : Int := match l with | [] => b | c :: _ => c.bits
def typB (s : St) : Int := bits .or .i64 (bits .andNot .i64 (headB (cellsD s.lines (spanS s).1 (spanS s).2) (aroundF (lineAt s.lines (spanS s).1).cells (spanS s).1.col.toNat).1) s.off) s.on
def textK (s : St) (t : ByteArray) : Doc × Ps × Int :=
 if 8192 < t.size then ([], (spanS s).1, 10) else if cleanB t = [] then ([], (spanS s).1, 7)
 else insertD (cellsOf (cleanB t) (typB s) (aroundF (lineAt (outS s) (spanS s).1).cells (spanS s).1.col.toNat).2) (outS s) (spanS s).1
def putK (d : Doc) (p : Ps) (r : Option Lin) (x : Doc × Ps × Int) : Doc × Ps × Int := match r with | some l => (d.set p.line.toNat l, p, 0) | none => x
def paraK (s : St) : Doc × Ps × Int :=
 putK (outS s) (spanS s).1 (if (lineAt (outS s) (spanS s).1).cells = [] then outdentL (lineAt (outS s) (spanS s).1) else none) (splitD (outS s) (spanS s).1)
def cutK (d : Doc) (a b p : Ps) : Doc × Ps × Int := ((deleteD d a b).1, p, (deleteD d a b).2)
def backK (s : St) : Doc × Ps × Int :=
 if s.anc = s.foc then
  putK (outS s) (spanS s).1 (if (spanS s).1.col = 0 then freeL (lineAt (outS s) (spanS s).1) else none)
   (if (stepD (outS s) (spanS s).1 (-1)).2 = true then cutK (outS s) (stepD (outS s) (spanS s).1 (-1)).1 (spanS s).1 (stepD (outS s) (spanS s).1 (-1)).1 else ([], (spanS s).1, 7))
 else (outS s, (spanS s).1, 0)
def forthK (s : St) : Doc × Ps × Int :=
 if s.anc = s.foc then
  (if (stepD (outS s) (spanS s).1 1).2 = true then cutK (outS s) (spanS s).1 (stepD (outS s) (spanS s).1 1).1 (spanS s).1 else ([], (spanS s).1, 7))
 else (outS s, (spanS s).1, 0)
theorem span_self {d : Doc} {p : Ps} (hM : mayD d = true) (hp : isD d p = true) : spanD d p p = true := by
 obtain ⟨i, j, l, rfl, hl, hj⟩ := isD_nat hp
 exact span_mk hM hl hl hj hj (Nat.le_refl _) (fun _ => Nat.le_refl _)
theorem delete_self {d : Doc} {p : Ps} (hp : isD d p = true) : deleteL d p p = d := by
 obtain ⟨i, j, l, rfl, hl, hj⟩ := isD_nat hp
 rw [deleteL_at hl hl, List.take_append_drop]
 exact set_self hl
theorem out_facts {s : St} (h : mayS s = true) : mayD (outS s) = true ∧ spanD s.lines (spanS s).1 (spanS s).2 = true ∧ isD (outS s) (spanS s).1 = true ∧ deleteD s.lines (spanS s).1 (spanS s).2 = (outS s, 0) ∧ isD s.lines (spanS s).1 = true := by
 have hsp := mayS_span h
 obtain ⟨hM, i, j, p, q, l, m, ha, hb, hl, hm, hp, hq, hij, hpq⟩ := span_at hsp
 have hd : deleteD s.lines (spanS s).1 (spanS s).2 = (outS s, 0) := by unfold deleteD; rw [if_pos hsp]; rfl
 refine ⟨?_, hsp, ?_, hd, ?_⟩
 ·unfold outS; rw [ha, hb]; exact delete_may hM hl hm hp hq hij hpq
 ·unfold outS; rw [ha, hb]
  exact is_mk (d := deleteL s.lines ⟨i, p⟩ ⟨j, q⟩) (l := { l with cells := l.cells.take p ++ m.cells.drop q }) (by rw [delete_get hl hm, if_neg (Nat.lt_irrefl _), if_pos rfl]) (by simp; omega)
 ·rw [ha]; exact is_mk hl hp
theorem out_closed {s : St} (h : mayS s = true) (hc : s.anc = s.foc) : outS s = s.lines ∧ (spanS s).1 = s.foc ∧ isD s.lines s.foc = true := by
 have h1 := mayS_at h
 rw [outS, spanS_closed hc]
 exact ⟨delete_self h1.2.1, hc, h1.2.2.1⟩
theorem step_back {d : Doc} {i j : Nat} {l : Lin} (hl : d[i]? = some l) (hj : j ≤ l.cells.length) :
  stepD d ⟨i, j⟩ (-1) = if 0 < j then (⟨i, j - 1⟩, true) else if i = 0 then (⟨0, 0⟩, false) else (⟨i - 1, ((lineAt d ⟨(i - 1 : Nat), 0⟩).cells.length : Int)⟩, true) := by
 have hi := (List.getElem?_eq_some_iff.1 hl).1
 have hg : (d.getD i default) = l := by rw [List.getD_eq_getElem?_getD, hl]; rfl
 have hn := placesFrom_has d 0 i j hi (by rw [hg]; exact hj)
 rw [Nat.zero_add] at hn
 have hltn : sizeD (d.take i) + i + j < (placesD d).length := (List.getElem?_eq_some_iff.1 hn).1
 rw [stepD_places (show (placesD d)[sizeD (d.take i) + i + j]? = some ⟨(i : Int), (j : Int)⟩ from hn)]
 by_cases h0 : 0 < j
 ·rw [if_pos h0, if_neg (by omega), if_neg (by omega)]
  have h2 := placesFrom_has d 0 i (j - 1) hi (by rw [hg]; omega)
  rw [Nat.zero_add] at h2
  have h3 := atD_some (d := d) (n := sizeD (d.take i) + i + (j - 1)) h2
  rw [show ((sizeD (d.take i) + i + j : Nat) : Int) + -1 = ((sizeD (d.take i) + i + (j - 1) : Nat) : Int) by omega, h3]
  simp only [Prod.mk.injEq, Ps.mk.injEq, and_true, true_and]
  omega
 ·rw [if_neg h0]
  obtain rfl : j = 0 := by omega
  by_cases hi0 : i = 0
  ·subst hi0
   rw [if_pos rfl, if_pos (by simp [sizeD])]
  ·rw [if_neg hi0]
   obtain ⟨n, rfl⟩ : ∃ n, i = n + 1 := ⟨i - 1, by omega⟩
   obtain ⟨m, hm⟩ : ∃ m, d[n]? = some m := ⟨d[n]'(by omega), List.getElem?_eq_getElem (by omega)⟩
   have hgm : (d.getD n default) = m := by rw [List.getD_eq_getElem?_getD, hm]; rfl
   have ht : sizeD (d.take (n + 1)) = sizeD (d.take n) + m.cells.length := by rw [← flatc_len, flat_next hm, List.length_append, flatc_len]
   rw [if_neg (by omega), if_neg (by omega)]
   have h2 := placesFrom_has d 0 n m.cells.length (by omega) (by rw [hgm]; exact Nat.le_refl _)
   rw [Nat.zero_add] at h2
   have h3 := atD_some (d := d) (n := sizeD (d.take n) + n + m.cells.length) h2
   rw [show ((sizeD (d.take (n + 1)) + (n + 1) + 0 : Nat) : Int) + -1 = ((sizeD (d.take n) + n + m.cells.length : Nat) : Int) by rw [ht]; omega, h3]
   have : (lineAt d ⟨((n + 1 - 1 : Nat) : Int), 0⟩) = m := by unfold lineAt; simpa using hgm
   rw [this]
   simp only [Prod.mk.injEq, Ps.mk.injEq, and_true]
   omega
theorem step_forth {d : Doc} {i j : Nat} {l : Lin} (hl : d[i]? = some l) (hj : j ≤ l.cells.length) :
  stepD d ⟨i, j⟩ 1 = if j < l.cells.length then (⟨i, j + 1⟩, true) else if i + 1 < d.length then (⟨i + 1, 0⟩, true) else (endD d, false) := by
 have hi := (List.getElem?_eq_some_iff.1 hl).1
 have hg : (d.getD i default) = l := by rw [List.getD_eq_getElem?_getD, hl]; rfl
 have hn := placesFrom_has d 0 i j hi (by rw [hg]; exact hj)
 rw [Nat.zero_add] at hn
 rw [stepD_places (show (placesD d)[sizeD (d.take i) + i + j]? = some ⟨(i : Int), (j : Int)⟩ from hn), if_neg (by omega)]
 by_cases h0 : j < l.cells.length
 ·rw [if_pos h0]
  have h2 := placesFrom_has d 0 i (j + 1) hi (by rw [hg]; omega)
  rw [Nat.zero_add] at h2
  have hlt := (List.getElem?_eq_some_iff.1 h2).1
  have h3 := atD_some (d := d) (n := sizeD (d.take i) + i + (j + 1)) h2
  rw [if_neg (by unfold placesD; omega), show ((sizeD (d.take i) + i + j : Nat) : Int) + 1 = ((sizeD (d.take i) + i + (j + 1) : Nat) : Int) by omega, h3]
  simp only [Prod.mk.injEq, Ps.mk.injEq, and_true, true_and]
  omega
 ·rw [if_neg h0]
  obtain rfl : j = l.cells.length := by omega
  have ht : sizeD (d.take (i + 1)) = sizeD (d.take i) + l.cells.length := by rw [← flatc_len, flat_next hl, List.length_append, flatc_len]
  by_cases h1 : i + 1 < d.length
  ·rw [if_pos h1]
   have h2 := placesFrom_has d 0 (i + 1) 0 h1 (Nat.zero_le _)
   rw [Nat.zero_add] at h2
   have hlt := (List.getElem?_eq_some_iff.1 h2).1
   have h3 := atD_some (d := d) (n := sizeD (d.take (i + 1)) + (i + 1) + 0) h2
   rw [if_neg (by unfold placesD; omega), show ((sizeD (d.take i) + i + l.cells.length : Nat) : Int) + 1 = ((sizeD (d.take (i + 1)) + (i + 1) + 0 : Nat) : Int) by omega, h3]
   simp
  ·rw [if_neg h1]
   rw [if_pos]
   have hlast := places_last (d := d) (by intro e; rw [e] at hi; cases hi)
   have hE : endD d = ⟨i, l.cells.length⟩ := end_at (by omega) hl
   rw [hE] at hlast
   have hoff := places_off hlast
   have hoff2 := places_off (show (placesD d)[sizeD (d.take i) + i + l.cells.length]? = some ⟨(i : Int), (l.cells.length : Int)⟩ from hn)
   rw [hoff] at hoff2
   have := congrArg Prod.fst hoff2
   simp only at this
   have hlt := (List.getElem?_eq_some_iff.1 hlast).1
   omega
end Go.Proofs.Qw
namespace Go.Proofs.Qw
open Go.RowKit Go.Proofs.YtpndnbjpnajaaaaGreatDoor
theorem key_may {s : St} (h : mayS s = true) (x : Doc × Ps × Int) : keyS s x = endS x := by unfold keyS; rw [if_pos h]
theorem key_not {s : St} (h : mayS s = false) (x : Doc × Ps × Int) : keyS s x = (noS, 1) := by unfold keyS; rw [h]; rfl
theorem para_some {s : St} (h : mayS s = true) {l' : Lin} (h1 : (lineAt (outS s) (spanS s).1).cells = []) (h2 : outdentL (lineAt (outS s) (spanS s).1) = some l') :
  keyS s (paraK s) = (closedS ((outS s).set (spanS s).1.line.toNat l') (spanS s).1, 0) := by
 rw [key_may h]
 unfold paraK putK
 rw [if_pos h1, h2]
 rfl
theorem para_none {s : St} (h : mayS s = true) (h1 : (lineAt (outS s) (spanS s).1).cells ≠ [] ∨ outdentL (lineAt (outS s) (spanS s).1) = none) :
  keyS s (paraK s) = endS (splitD (outS s) (spanS s).1) := by
 rw [key_may h]
 unfold paraK putK
 rcases h1 with h1 | h1
 ·rw [if_neg h1]
 ·rw [h1, ite_self]
theorem cut_law {d : Doc} {a b p : Ps} (h : spanD d a b = true) : endS (cutK d a b p) = (closedS (deleteL d a b) p, 0) := by
 unfold cutK deleteD endS
 rw [if_pos h]
 rfl
theorem lineAt_eq {d : Doc} {i : Nat} {l : Lin} (hl : d[i]? = some l) (j : Int) : lineAt d ⟨i, j⟩ = l := by
 unfold lineAt
 simp only [Int.toNat_natCast]
 rw [List.getD_eq_getElem?_getD, hl]
 rfl
theorem end_take {d : Doc} {n : Nat} {m : Lin} (hm : d[n]? = some m) : endD (d.take (n + 1)) = ⟨n, m.cells.length⟩ := by
 have hi := (List.getElem?_eq_some_iff.1 hm).1
 exact end_at (n := n) (l := m) (by rw [List.length_take]; omega) (by rw [List.getElem?_take, if_pos (by omega), hm])
theorem back_law {s : St} {i j : Nat} {l : Lin} (h : mayS s = true) (hc : s.anc = s.foc) (hf : s.foc = ⟨i, j⟩) (hl : s.lines[i]? = some l) (hj : j ≤ l.cells.length) :
  keyS s (backK s) = if 0 < j then (closedS (deleteL s.lines ⟨i, j - 1⟩ ⟨i, j⟩) ⟨i, j - 1⟩, (0 : Int)) else match freeL l with
   | some l' => (closedS (s.lines.set i l') ⟨i, 0⟩, 0)
   | none => if i = 0 then (noS, 7) else (closedS (deleteL s.lines (endD (s.lines.take i)) ⟨i, 0⟩) (endD (s.lines.take i)), 0) := by
 obtain ⟨ho, hp, _⟩ := out_closed h hc
 have hM := (mayS_at h).1
 have hi := (List.getElem?_eq_some_iff.1 hl).1
 rw [key_may h]
 unfold backK
 rw [if_pos hc, ho, hp, hf, step_back hl hj, lineAt_eq hl]
 by_cases h0 : 0 < j
 ·rw [if_pos h0, if_neg (show ¬ (j : Int) = 0 by omega)]
  simp only [putK, if_pos]
  have hsp : spanD s.lines ⟨i, (j : Int) - 1⟩ ⟨i, j⟩ = true := by
   rw [show ((j : Int) - 1) = ((j - 1 : Nat) : Int) by omega]
   exact span_mk hM hl hl (by omega) hj (Nat.le_refl _) (fun _ => by omega)
  rw [if_pos h0, cut_law hsp]
 ·rw [if_neg h0, if_neg h0]
  obtain rfl : j = 0 := by omega
  rw [if_pos (show ((0 : Nat) : Int) = 0 by rfl)]
  cases hfl : freeL l with
  | some l' => simp only [putK, Int.toNat_natCast]; rfl
  | none =>
   simp only [putK]
   by_cases hi0 : i = 0
   ·rw [if_pos hi0, if_pos hi0]
    rfl
   ·rw [if_neg hi0, if_neg hi0]
    obtain ⟨n, rfl⟩ : ∃ n, i = n + 1 := ⟨i - 1, by omega⟩
    obtain ⟨m, hm⟩ : ∃ m, s.lines[n]? = some m := ⟨s.lines[n]'(by omega), List.getElem?_eq_getElem (by omega)⟩
    rw [end_take hm]
    simp only [Nat.add_sub_cancel, lineAt_eq hm, if_pos]
    rw [show (((n + 1 : Nat) : Int) - 1) = (n : Int) by omega]
    exact cut_law (span_mk hM hm hl (Nat.le_refl _) (Nat.zero_le _) (by omega) (fun e => by omega))
end Go.Proofs.Qw
namespace Go.Proofs.YtpndnbjpnajaaaaGreatDoor
open Go.RowKit
open Go.Proofs.Qw
attribute [local go_sem] Oper.semAt_some
theorem blk1 {w : World} {B : Nat} {cs : Array Value} {t : TypeId} (h : w.heap[B]? = some (.cells cs t)) : (∀ X k, (w.alloc X).cell? ⟨B, k, none⟩ = cs[k]?) ∧ (∀ X k, (w.alloc X).frozen? ⟨B, k, none⟩ = false) :=
 ⟨fun X _ => cell_of_heap (heap_old _ X h), fun X _ => frozen_of_heap (heap_old _ X h)⟩
def DocPB (n : Nat) (x : Doc × Ps × Int) (w : World) (e : Ending) (w' : World) : Prop := ∃ v', e = .returned (.tuple #[v', posV x.2.1, .int .i64 x.2.2]) ∧ DocR true w' (fun b => n ≤ b) v' x.1 ∧ Below n w w'
theorem DocPSaid.base {x : Doc × Ps × Int} {w W : World} {e : Ending} {w' : World} {n : Nat} (h : DocPSaid x W e w') (hb : Below n w W) (hn : n ≤ W.heap.size) : DocPB n x w e w' := by
 obtain ⟨v', h1, h2, h3⟩ := h
 exact ⟨v', h1, SliceR.stable (rdLin_stable true) h2 (Keeps.refl _ _) (fun b h _ => Nat.le_trans hn h), hb.trans (h3.mono hn)⟩
def KeyDoes (s : St) (g : Nat) (lb : Array Value) (R : Doc × Ps × Int) (w : World) : Prop :=
 ∀ (n : Nat) (W : World) (a : Option Addr) (c : Nat), Below w.heap.size w W → w.heap.size ≤ n → n ≤ W.heap.size → DocR true W (fun b => n ≤ b) (.slice a (outS s).length c) (outS s) → Calls Tryz.prog g (#[.slice a (outS s).length c, posV (spanS s).1] ++ lb) W (DocPB n R W)
set_option maxRecDepth 100000 in
set_option maxHeartbeats 4000000 in
theorem emptied_any (v : Value) (s : St) (g : Nat) (lb : Array Value) (R : Doc × Ps × Int) (w : World) (S : Nat → Prop) (h : LinsR w S v s.lines) (he : EnvT w) (hs : Small s.lines) (hf : Fits s.lines)
  (eg : ∀ args w, (callFunc g args).run Tryz.prog w = .ok (.enter g args) w) (hg : mayS s = true → KeyDoes s g lb R w) :
  Calls Tryz.prog 109 #[stV v s, .func (.func g) #[] lb] w (StSaid (keyS s R) w) := by
 obtain ⟨W1, hW1, hB, hz, k0, k1⟩ := st_two w v s
 have HB : Hid (∀ W, Below W1.heap.size W1 W → W.heap[w.heap.size]? = some (.cells #[v, .int .i64 s.anc.line, .int .i64 s.anc.col, .int .i64 s.foc.line, .int .i64 s.foc.col, .int .i64 s.on, .int .i64 s.off] 26) ∧ W.heap[w.heap.size + 1]? = some (.cells #[.slice none 0 0, .int .i64 0, .int .i64 0, .int .i64 0, .int .i64 0, .int .i64 0, .int .i64 0] 26)) := Lib.hid fun W hW => ⟨heap_below hW k0, heap_below hW k1⟩
 have hs1 := hB.size
 have H1 := Lib.hid hB
 have hw0 : Below W1.heap.size W1 W1 := Below.refl _ _
 have HV : Hid (∀ W, Below W1.heap.size W1 W → LinsR W S v s.lines) := Lib.hid fun W hW => h.below (rdLin_stable _) (hB.trans (hW.mono hs1))
 have HE : Hid (∀ W, Below W1.heap.size W1 W → EnvT W) := Lib.hid fun W hW => (he.below hB).below hW
 have HM : Hid (∀ W, Below W1.heap.size W1 W → Calls Tryz.prog 27 #[stV v s] W fun e w' => e = .returned (.bool (mayS s)) ∧ Below W.heap.size W w') := Lib.hid fun W hW => stMay_any v s W S (HV.out W hW) (HE.out W hW) hs
 have HR : Hid (keyS s R = if mayS s = true then endS R else (noS, 1)) := Lib.hid rfl
 cases hm : mayS s
 ·rw [hm] at HM HR
  have HR : Hid (keyS s R = (noS, 1)) := Lib.hid (HR.out.trans (if_neg (by simp)))
  obtain ⟨p0, f0⟩ := blk k0
  obtain ⟨p1, f1⟩ := blk k1
  obtain ⟨va, vc, rfl⟩ := h.slice
  clear h he hs hf hg k0 k1 hB hm
  go_enter Tryz.func109, Tryz.ntmps109
  go_wp2_with ((go_at_call 27; refine (HM.out _ hw0).mono ?_; rintro e w2 ⟨rfl, hst2⟩; have hb2 := below_from hw0 hst2; obtain ⟨q1, g1⟩ := blk (HB.out _ hb2).2))
  refine bodyPost_ret (results_st_e rfl _ _ (w.heap.size + 1) (.slice none 0 0) (.int .i64 0) (.int .i64 0) (.int .i64 0) (.int .i64 0) (.int .i64 0) (.int .i64 0) (.int .i64 1) rfl rfl (by simp [heap_set, putIn, (HB.out _ hb2).2])) rfl ?_
  unfold StSaid
  rw [HR.out]
  have hfin := H1.out.trans (hb2.mono hs1)
  exact ⟨_, rfl, SliceR.nil _ _ _ _ _ _, by (repeat' (first | (with_reducible exact Below.refl _ _) | (with_reducible assumption) | (with_reducible refine Below.alloc ?_ ?_ _) | (with_reducible refine Below.drew ?_) | (with_reducible refine drewN_below ?_) | (with_reducible refine Below.setCell ?_ ?_ _) | go_size))⟩
 ·have HG : Hid (∀ (n : Nat) (W : World) (a : Option Addr) (c : Nat), Below W1.heap.size W1 W → W1.heap.size ≤ n → n ≤ W.heap.size → DocR true W (fun b => n ≤ b) (.slice a (outS s).length c) (outS s) → Calls Tryz.prog g (#[.slice a (outS s).length c, posV (spanS s).1] ++ lb) W (DocPB n R W)) :=
   Lib.hid fun n W a c hW h1 h2 h3 => hg hm n W a c (hB.trans (hW.mono hs1)) (Nat.le_trans hs1 h1) h2 h3
  have hd := (out_facts hm).2.2.2.1
  rw [hm] at HM HR
  rw [if_pos rfl] at HR
  have HSp : Hid (∀ W, Below W1.heap.size W1 W → Calls Tryz.prog 28 #[stV v s] W fun e w' => e = .returned (.tuple #[.agg #[.int .i64 (spanS s).1.line, .int .i64 (spanS s).1.col], .agg #[.int .i64 (spanS s).2.line, .int .i64 (spanS s).2.col]]) ∧ Below W.heap.size W w') := Lib.hid fun W hW => stSpan_any v s W
  have HD : Hid (∀ W, Below W1.heap.size W1 W → Calls Tryz.prog 122 #[v, posV (spanS s).1, posV (spanS s).2] W (DocSaid (outS s, 0) W)) := Lib.hid fun W hW => by
   have := docDelete_any v s.lines (spanS s).1 (spanS s).2 W S (HV.out W hW) (HE.out W hW) hs hf
   rw [hd] at this
   exact this
  obtain ⟨O, hO⟩ : ∃ O, outS s = O := ⟨_, rfl⟩
  rw [hO] at HD HG
  obtain ⟨A, B, hAB⟩ : ∃ A B, spanS s = (A, B) := ⟨_, _, rfl⟩
  rw [hAB] at HSp HG HD
  simp only at HSp HG HD
  obtain ⟨D, q, er, hD⟩ : ∃ D q er, R = (D, q, er) := ⟨_, _, _, rfl⟩
  subst hD
  have HP : Hid (∀ p : Ps, posV p = .agg #[.int .i64 p.line, .int .i64 p.col]) := Lib.hid fun _ => rfl
  rw [HP.out] at HG
  rw [HP.out, HP.out] at HD
  have HCl := Lib.hid (fun (a : Option Addr) (n c : Nat) (p : Ps) (W : World) => typClosed_any a n c p W)
  obtain ⟨p0, f0⟩ := blk k0
  obtain ⟨p1, f1⟩ := blk k1
  obtain ⟨va, vc, rfl⟩ := h.slice
  clear h he hs hf hg k0 k1 hB hm hAB hd hO
  by_cases h0 : er = 0
  ·subst h0
   have HR := Lib.hid (HR.out.trans (show endS (D, q, (0 : Int)) = (closedS D q, 0) from if_pos rfl))
   go_enter Tryz.func109, Tryz.ntmps109
   go_wp2_with (first
    | (go_at_call 27; refine (HM.out _ hw0).mono ?_; rintro e w2 ⟨rfl, hst2⟩; have hb2 := below_from hw0 hst2; obtain ⟨q0, g0⟩ := blk (HB.out _ hb2).1) | (go_at_call 28; refine (HSp.out _ hb2).mono ?_; rintro e w3 ⟨rfl, hst3⟩; have hb3 := below_from hb2 hst3; obtain ⟨q1, g1⟩ := blk (HB.out _ hb3).1; have hz3 := hb3.size; have e3 : ¬ w3.heap.size = w.heap.size := (by omega); have r1 := on2 (HB.out _ hb3).1; have HX3 : Hid (∀ X Y, Below W1.heap.size W1 ((w3.alloc X).alloc Y)) := Lib.hid fun X Y => hb3.trans (below2 (Below.refl _ _) X Y |>.mono hz3)) | (go_at_call 122; refine (HD.out _ (HX3.out _ _)).mono ?_; intro e w4 hsaid; obtain ⟨v4, rfl, hv4, hst4⟩ := hsaid; obtain ⟨a4, c4, rfl⟩ := hv4.slice; have hb4 := below_from (HX3.out _ _) hst4; have HV4 := Lib.hid hv4; clear hv4; have hz4 := hst4.size; have m4 := heap_below hst4 (heap_old _ _ (heap_new _ _ rfl)); obtain ⟨q4, g4⟩ := blk m4) | (go_at_fn g; refine (HG.out _ _ a4 c4 hb4 (HX3.out _ _).size hz4 HV4.out).mono ?_; intro e w5 hsaid; obtain ⟨v5, he5, hv5, hst5⟩ := hsaid; simp only [HP.out] at he5; subst he5; obtain ⟨a5, c5, rfl⟩ := hv5.slice; have hb5 := hb4.trans (hst5.mono (HX3.out _ _).size); have HV5 := Lib.hid hv5; clear hv5; obtain ⟨q5, g5⟩ := blk (HB.out _ hb5).2; have hz5 := hb5.size; obtain ⟨r5, s5⟩ := blk1 (HB.out _ hb5).2)
    | (go_at_call 140; refine (HCl.out _ _ _ q _).mono ?_; rintro e w6 ⟨rfl, hst6⟩; have hb56 : Below w5.heap.size w5 w6 := below_from ((Below.refl _ _).alloc (Nat.le_refl _) _) hst6; have hb6 := below_from hb5 hb56; obtain ⟨q6, g6⟩ := blk (HB.out _ hb6).2))
   refine bodyPost_ret (results_st_e rfl _ _ (w.heap.size + 1) (.slice a5 D.length c5) (.int .i64 q.line) (.int .i64 q.col) (.int .i64 q.line) (.int .i64 q.col) (.int .i64 0) (.int .i64 0) (.int .i64 0) rfl rfl (by simp [heap_set, putIn, (HB.out _ hb6).2])) rfl ?_
   unfold StSaid
   rw [HR.out]
   have hfin := H1.out.trans (hb6.mono hs1)
   have hv5 := HV5.out.below hb56
   exact ⟨_, rfl, (SliceR.stable (rdLin_stable _) hv5 (by (repeat' (first | (with_reducible exact Keeps.refl _ _) | (with_reducible refine Keeps.set ?_ ?_ _) | (with_reducible refine Keeps.alloc ?_ _) | (with_reducible refine Keeps.drew ?_) | (first | fail) | (simp; omega)))) (fun b h _ => (by have h' := h; (try simp at h'); omega))), by (repeat' (first | (with_reducible exact Below.refl _ _) | (with_reducible assumption) | (with_reducible refine Below.alloc ?_ ?_ _) | (with_reducible refine Below.drew ?_) | (with_reducible refine drewN_below ?_) | (with_reducible refine Below.setCell ?_ ?_ _) | go_size))⟩
  ·have HR2 : Hid (keyS s (D, q, er) = (noS, er)) := Lib.hid (HR.out.trans (if_neg h0))
   have hne : (er != 0) = true := by simpa using h0
   have hne2 : (er == 0) = false := by simpa using h0
   clear h0 HR
   go_enter Tryz.func109, Tryz.ntmps109
   go_wp2_with (first
    | (go_at_call 27; refine (HM.out _ hw0).mono ?_; rintro e w2 ⟨rfl, hst2⟩; have hb2 := below_from hw0 hst2; obtain ⟨q0, g0⟩ := blk (HB.out _ hb2).1) | (go_at_call 28; refine (HSp.out _ hb2).mono ?_; rintro e w3 ⟨rfl, hst3⟩; have hb3 := below_from hb2 hst3; obtain ⟨q1, g1⟩ := blk (HB.out _ hb3).1; have hz3 := hb3.size; have e3 : ¬ w3.heap.size = w.heap.size := (by omega); have r1 := on2 (HB.out _ hb3).1; have HX3 : Hid (∀ X Y, Below W1.heap.size W1 ((w3.alloc X).alloc Y)) := Lib.hid fun X Y => hb3.trans (below2 (Below.refl _ _) X Y |>.mono hz3)) | (go_at_call 122; refine (HD.out _ (HX3.out _ _)).mono ?_; intro e w4 hsaid; obtain ⟨v4, rfl, hv4, hst4⟩ := hsaid; obtain ⟨a4, c4, rfl⟩ := hv4.slice; have hb4 := below_from (HX3.out _ _) hst4; have HV4 := Lib.hid hv4; clear hv4; have hz4 := hst4.size; have m4 := heap_below hst4 (heap_old _ _ (heap_new _ _ rfl)); obtain ⟨q4, g4⟩ := blk m4) | (go_at_fn g; refine (HG.out _ _ a4 c4 hb4 (HX3.out _ _).size hz4 HV4.out).mono ?_; intro e w5 hsaid; obtain ⟨v5, he5, hv5, hst5⟩ := hsaid; simp only [HP.out] at he5; subst he5; obtain ⟨a5, c5, rfl⟩ := hv5.slice; have hb5 := hb4.trans (hst5.mono (HX3.out _ _).size); have HV5 := Lib.hid hv5; clear hv5; obtain ⟨q5, g5⟩ := blk (HB.out _ hb5).2; have hz5 := hb5.size; obtain ⟨r5, s5⟩ := blk1 (HB.out _ hb5).2))
   refine bodyPost_ret (results_st_e rfl _ _ (w.heap.size + 1) (.slice none 0 0) (.int .i64 0) (.int .i64 0) (.int .i64 0) (.int .i64 0) (.int .i64 0) (.int .i64 0) (.int .i64 er) rfl rfl (by simp [heap_set, putIn, heap_old _ _ (HB.out _ hb5).2])) rfl ?_
   unfold StSaid
   rw [HR2.out]
   have hfin := H1.out.trans (hb5.mono hs1)
   exact ⟨_, rfl, SliceR.nil _ _ _ _ _ _, by (repeat' (first | (with_reducible exact Below.refl _ _) | (with_reducible assumption) | (with_reducible refine Below.alloc ?_ ?_ _) | (with_reducible refine Below.drew ?_) | (with_reducible refine drewN_below ?_) | (with_reducible refine Below.setCell ?_ ?_ _) | go_size))⟩
end Go.Proofs.YtpndnbjpnajaaaaGreatDoor
namespace Go.Proofs.YtpndnbjpnajaaaaGreatDoor
open Go.RowKit
open Go.Proofs.Qw
attribute [local go_sem] Oper.semAt_some
theorem DocPB.err {n : Nat} {x : Doc × Ps × Int} {w w' : World} {q : Ps} {e : Int} (hx : x = ([], q, e)) (hb : Below w.heap.size w w') (hn : n ≤ w.heap.size) : DocPB n x w (.returned (.tuple #[.slice none 0 0, .agg #[.int .i64 q.line, .int .i64 q.col], .int .i64 e])) w' := by
 subst hx
 exact ⟨_, rfl, SliceR.nil _ _ _ _ _ _, hb.mono hn⟩
theorem DocPB.same {n : Nat} {x : Doc × Ps × Int} {w w' : World} {v : Value} {O : Doc} {q : Ps} (hx : x = (O, q, 0)) (hO : DocR true w (fun b => n ≤ b) v O) (hb : Below w.heap.size w w') (hn : n ≤ w.heap.size) : DocPB n x w (.returned (.tuple #[v, .agg #[.int .i64 q.line, .int .i64 q.col], .int .i64 0])) w' := by
 subst hx
 exact ⟨_, rfl, hO.below hb, hb.mono hn⟩
set_option maxRecDepth 100000 in
set_option maxHeartbeats 2000000 in
theorem erase1_any (Bs : Nat) (v : Value) (s : St) (n : Nat) (a : Option Addr) (c : Nat) (w : World) (hst : w.heap[Bs]? = some (.cells #[v, .int .i64 s.anc.line, .int .i64 s.anc.col, .int .i64 s.foc.line, .int .i64 s.foc.col, .int .i64 s.on, .int .i64 s.off] 26)) (h : DocR true w (fun b => n ≤ b) (.slice a (outS s).length c) (outS s)) (hn : n ≤ w.heap.size) :
  Calls Tryz.prog 110 #[.slice a (outS s).length c, posV (spanS s).1, .pointer (some ⟨Bs, 0, none⟩)] w (DocPB n (eraseK s) w) := by
 have HR : Hid (eraseK s = if s.anc = s.foc then ([], (spanS s).1, 7) else (outS s, (spanS s).1, 0)) := Lib.hid rfl
 obtain ⟨O, hO⟩ : ∃ O, outS s = O := ⟨_, rfl⟩
 obtain ⟨A, hA⟩ : ∃ A, (spanS s).1 = A := ⟨_, rfl⟩
 rw [hO] at h
 rw [hO, hA] at HR ⊢
 obtain ⟨W1, hW1, hB, hz, k0, k1⟩ := two_pos w (.int .i64 A.line) (.int .i64 A.col) (.int .i64 0) (.int .i64 0)
 have kt := heap_below hB hst
 have H := Lib.hid h
 have H1 := Lib.hid hB
 have HK := Lib.hid k1
 have HN := Lib.hid hn
 have hg := guardPos
 have hq := fun (w : World) => run_eql_pos s.anc s.foc w
 have HP : Hid (∀ p : Ps, posV p = .agg #[.int .i64 p.line, .int .i64 p.col]) := Lib.hid fun _ => rfl
 rw [HP.out]
 obtain ⟨p0, f0⟩ := blk k0
 obtain ⟨p1, f1⟩ := blk k1
 obtain ⟨p2, f2⟩ := blk kt
 by_cases hc : s.anc = s.foc
 ·rw [if_pos hc] at HR
  rw [decide_eq_true hc] at hq
  clear h hB hc k0 k1 kt hst hn hO hA
  go_enter Tryz.func110, Tryz.ntmps110
  go_wp2_with fail
  go_region
  go_wp2_with fail
  refine bodyPost_ret (results_dpe rfl _ _ (w.heap.size + 1) (.int .i64 A.line) (.int .i64 A.col) rfl (by rw [drew_heap]; simp [heap_set, putIn, HK.out])) rfl ?_
  have hfin := H1.out
  exact DocPB.err HR.out (by (repeat' (first | (with_reducible exact Below.refl _ _) | (with_reducible assumption) | (with_reducible refine Below.alloc ?_ ?_ _) | (with_reducible refine Below.drew ?_) | (with_reducible refine drewN_below ?_) | (with_reducible refine Below.setCell ?_ ?_ _) | go_size))) HN.out
 ·rw [if_neg hc] at HR
  rw [decide_eq_false hc] at hq
  clear h hB hc k0 k1 kt hst hn hO hA
  go_enter Tryz.func110, Tryz.ntmps110
  go_wp2_with fail
  go_region
  go_wp2_with fail
  refine bodyPost_ret (results_dpe rfl _ _ (w.heap.size + 1) (.int .i64 A.line) (.int .i64 A.col) rfl (by rw [drew_heap]; simp [heap_set, putIn, HK.out])) rfl ?_
  have hfin := H1.out
  exact DocPB.same HR.out H.out (by (repeat' (first | (with_reducible exact Below.refl _ _) | (with_reducible assumption) | (with_reducible refine Below.alloc ?_ ?_ _) | (with_reducible refine Below.drew ?_) | (with_reducible refine drewN_below ?_) | (with_reducible refine Below.setCell ?_ ?_ _) | go_size))) HN.out
set_option maxRecDepth 100000 in
set_option maxHeartbeats 2000000 in
theorem forth1_any (Bs : Nat) (v : Value) (s : St) (n : Nat) (a : Option Addr) (c : Nat) (w : World) (hst : w.heap[Bs]? = some (.cells #[v, .int .i64 s.anc.line, .int .i64 s.anc.col, .int .i64 s.foc.line, .int .i64 s.foc.col, .int .i64 s.on, .int .i64 s.off] 26)) (h : DocR true w (fun b => n ≤ b) (.slice a (outS s).length c) (outS s)) (hn : n ≤ w.heap.size) (he : EnvT w) (hs : Small (outS s)) (hf : Fits (outS s)) :
  Calls Tryz.prog 125 #[.slice a (outS s).length c, posV (spanS s).1, .pointer (some ⟨Bs, 0, none⟩)] w (DocPB n (forthK s) w) := by
 have HR : Hid (forthK s = if s.anc = s.foc then (if (stepD (outS s) (spanS s).1 1).2 = true then cutK (outS s) (spanS s).1 (stepD (outS s) (spanS s).1 1).1 (spanS s).1 else ([], (spanS s).1, 7)) else (outS s, (spanS s).1, 0)) := Lib.hid rfl
 obtain ⟨O, hO⟩ : ∃ O, outS s = O := ⟨_, rfl⟩
 obtain ⟨A, hA⟩ : ∃ A, (spanS s).1 = A := ⟨_, rfl⟩
 rw [hO] at h hs hf
 rw [hO, hA] at HR ⊢
 obtain ⟨W1, hW1, hB, hz, k0, k1⟩ := two_pos w (.int .i64 A.line) (.int .i64 A.col) (.int .i64 0) (.int .i64 0)
 have hs1 := hB.size
 have kt := heap_below hB hst
 have HB : Hid (∀ W, Below W1.heap.size W1 W → W.heap[w.heap.size]? = some (.cells #[.int .i64 A.line, .int .i64 A.col] 24) ∧ W.heap[w.heap.size + 1]? = some (.cells #[.int .i64 0, .int .i64 0] 24) ∧ W.heap[Bs]? = some (.cells #[v, .int .i64 s.anc.line, .int .i64 s.anc.col, .int .i64 s.foc.line, .int .i64 s.foc.col, .int .i64 s.on, .int .i64 s.off] 26)) := Lib.hid fun W hW => ⟨heap_below hW k0, heap_below hW k1, heap_below hW kt⟩
 have hw0 : Below W1.heap.size W1 W1 := Below.refl _ _
 have HS : Hid (∀ W, Below W1.heap.size W1 W → Calls Tryz.prog 121 #[.slice a O.length c, .agg #[.int .i64 A.line, .int .i64 A.col], .int .i64 1] W fun e w' => e = .returned (.tuple #[.agg #[.int .i64 (stepD O A 1).1.line, .int .i64 (stepD O A 1).1.col], .bool (stepD O A 1).2]) ∧ Below W.heap.size W w') := Lib.hid fun W hW => step_any _ O A 1 W w (fun b => n ≤ b) h.read (hB.trans (hW.mono hs1)) hs.1 hs.2.1 (by decide)
 have HD : Hid (∀ p W, Below W1.heap.size W1 W → Calls Tryz.prog 122 #[.slice a O.length c, .agg #[.int .i64 A.line, .int .i64 A.col], .agg #[.int .i64 p.line, .int .i64 p.col]] W (DocSaid (deleteD O A p) W)) := Lib.hid fun p W hW => docDelete_any _ O A p W (fun b => n ≤ b) (h.below (hB.trans (hW.mono hs1))).read ((he.below hB).below hW) hs hf
 have H := Lib.hid h
 have H1 := Lib.hid hB
 have HN := Lib.hid hn
 have hg := guardPos
 have hq := fun (w : World) => run_neq_pos s.anc s.foc w
 have HP : Hid (∀ p : Ps, posV p = .agg #[.int .i64 p.line, .int .i64 p.col]) := Lib.hid fun _ => rfl
 rw [HP.out]
 obtain ⟨q, t, hqt⟩ : ∃ q t, stepD O A 1 = (q, t) := ⟨_, _, rfl⟩
 rw [hqt] at HR HS
 simp only at HR HS
 have HD := Lib.hid (fun W hW => HD.out q W hW)
 obtain ⟨p0, f0⟩ := blk k0
 by_cases hc : s.anc = s.foc
 ·rw [if_pos hc] at HR
  rw [decide_eq_true hc] at hq
  cases t
  ·rw [if_neg (by decide)] at HR
   clear h hB hc k0 k1 kt hst hn hO hA hs hf he hqt HD
   go_enter Tryz.func125, Tryz.ntmps125
   go_wp2_with (go_at_call 121; refine (HS.out _ hw0).mono ?_; rintro e w2 ⟨rfl, hst2⟩; have hb2 := below_from hw0 hst2; obtain ⟨c0, d0⟩ := blk1 (HB.out _ hb2).1; obtain ⟨c1, d1⟩ := blk1 (HB.out _ hb2).2.1; obtain ⟨c2, d2⟩ := blk1 (HB.out _ hb2).2.2; have hz2 := hb2.size; have n1 : ¬ w2.heap.size = w.heap.size + 1 := (by omega); have n2 : ¬ w.heap.size + 1 = w2.heap.size := (by omega))
   go_region
   go_wp2_with fail
   have hfin := H1.out.trans (hb2.mono hs1)
   refine bodyPost_ret (results_dpe rfl _ _ (w.heap.size + 1) (.int .i64 A.line) (.int .i64 A.col) rfl (by rw [drew_heap]; simp [heap_set, putIn, heap_old _ _ (HB.out _ hb2).2.1])) rfl ?_
   exact DocPB.err HR.out (by (repeat' (first | (with_reducible exact Below.refl _ _) | (with_reducible assumption) | (with_reducible refine Below.alloc ?_ ?_ _) | (with_reducible refine Below.drew ?_) | (with_reducible refine drewN_below ?_) | (with_reducible refine Below.setCell ?_ ?_ _) | go_size))) HN.out
  ·rw [if_pos rfl] at HR
   have HX : Hid (cutK O A q A = ((deleteD O A q).1, A, (deleteD O A q).2)) := Lib.hid rfl
   obtain ⟨D, er, hD⟩ : ∃ D er, deleteD O A q = (D, er) := ⟨_, _, rfl⟩
   rw [hD] at HX HD
   clear h hB hc k0 k1 kt hst hn hO hA hs hf he hqt hD
   go_enter Tryz.func125, Tryz.ntmps125
   go_wp2_with (first
    | (go_at_call 121; refine (HS.out _ hw0).mono ?_; rintro e w2 ⟨rfl, hst2⟩; have hb2 := below_from hw0 hst2; obtain ⟨c0, d0⟩ := blk1 (HB.out _ hb2).1; obtain ⟨c1, d1⟩ := blk1 (HB.out _ hb2).2.1; obtain ⟨c2, d2⟩ := blk1 (HB.out _ hb2).2.2; have hz2 := hb2.size; have n1 : ¬ w2.heap.size = w.heap.size + 1 := (by omega); have n2 : ¬ w.heap.size + 1 = w2.heap.size := (by omega))
    | (go_at_call 122; refine (HD.out _ (hb2.alloc hb2.size _)).mono ?_; intro e w4 hsaid; obtain ⟨v4, rfl, hv4, hst4⟩ := hsaid; have hb4 := below_from (hb2.alloc hb2.size _) hst4; have HV4 := Lib.hid hv4; clear hv4; obtain ⟨q0, g0⟩ := blk (HB.out _ hb4).1; obtain ⟨q1, g1⟩ := blk (HB.out _ hb4).2.1))
   go_region
   go_wp2_with fail
   have hfin := H1.out.trans (hb4.mono hs1)
   refine bodyPost_ret (results_dpe rfl _ _ (w.heap.size + 1) (.int .i64 A.line) (.int .i64 A.col) rfl (by rw [drew_heap]; simp [heap_set, putIn, (HB.out _ hb4).2.1])) rfl ?_
   rw [HR.out, HX.out]
   have hv4 := HV4.out
   have hn4 : n ≤ w.heap.size := HN.out
   refine ⟨_, rfl, (SliceR.stable (rdLin_stable _) hv4 (by (repeat' (first | (with_reducible exact Keeps.refl _ _) | (with_reducible refine Keeps.set ?_ ?_ _) | (with_reducible refine Keeps.alloc ?_ _) | (with_reducible refine Keeps.drew ?_) | (first | fail) | (simp; omega)))) (fun b h _ => (by have h' := h; (try simp at h'); omega))), ?_⟩
   refine Below.mono ?_ HN.out
   (repeat' (first | (with_reducible exact Below.refl _ _) | (with_reducible assumption) | (with_reducible refine Below.alloc ?_ ?_ _) | (with_reducible refine Below.drew ?_) | (with_reducible refine drewN_below ?_) | (with_reducible refine Below.setCell ?_ ?_ _) | go_size))
 ·rw [if_neg hc] at HR
  rw [decide_eq_false hc] at hq
  clear h hB hc k0 k1 kt hst hn hO hA hs hf he hqt HD
  go_enter Tryz.func125, Tryz.ntmps125
  go_wp2_with (go_at_call 121; refine (HS.out _ hw0).mono ?_; rintro e w2 ⟨rfl, hst2⟩; have hb2 := below_from hw0 hst2; obtain ⟨c0, d0⟩ := blk1 (HB.out _ hb2).1; obtain ⟨c1, d1⟩ := blk1 (HB.out _ hb2).2.1; obtain ⟨c2, d2⟩ := blk1 (HB.out _ hb2).2.2; have hz2 := hb2.size; have n1 : ¬ w2.heap.size = w.heap.size + 1 := (by omega); have n2 : ¬ w.heap.size + 1 = w2.heap.size := (by omega))
  go_region
  go_wp2_with fail
  have hfin := H1.out.trans (hb2.mono hs1)
  refine bodyPost_ret (results_dpe rfl _ _ (w.heap.size + 1) (.int .i64 A.line) (.int .i64 A.col) rfl (by rw [drew_heap]; simp [heap_set, putIn, heap_old _ _ (HB.out _ hb2).2.1])) rfl ?_
  exact DocPB.same HR.out H.out (by (repeat' (first | (with_reducible exact Below.refl _ _) | (with_reducible assumption) | (with_reducible refine Below.alloc ?_ ?_ _) | (with_reducible refine Below.drew ?_) | (with_reducible refine drewN_below ?_) | (with_reducible refine Below.setCell ?_ ?_ _) | go_size))) HN.out
set_option maxRecDepth 100000 in
set_option maxHeartbeats 2000000 in
theorem typErase_any (v : Value) (s : St) (w : World) (S : Nat → Prop) (h : LinsR w S v s.lines) (he : EnvT w) (hs : Small s.lines) (hf : Fits s.lines) :
  Calls Tryz.prog 45 #[stV v s] w (StSaid (keyS s (eraseK s)) w) := by
 obtain ⟨W1, hW1, hB, hz, k0, k1⟩ := st_two w v s
 have HB : Hid (∀ W, Below W1.heap.size W1 W → W.heap[w.heap.size]? = some (.cells #[v, .int .i64 s.anc.line, .int .i64 s.anc.col, .int .i64 s.foc.line, .int .i64 s.foc.col, .int .i64 s.on, .int .i64 s.off] 26) ∧ W.heap[w.heap.size + 1]? = some (.cells #[.slice none 0 0, .int .i64 0, .int .i64 0, .int .i64 0, .int .i64 0, .int .i64 0, .int .i64 0] 26)) := Lib.hid fun W hW => ⟨heap_below hW k0, heap_below hW k1⟩
 have hs1 := hB.size
 have H1 := Lib.hid hB
 have HC := Lib.hid (emptied_any v s 110 #[.pointer (some ⟨w.heap.size, 0, none⟩)] (eraseK s) W1 S (h.below (rdLin_stable _) hB) (he.below hB) hs hf (enters_of Tryz.func110 (by kernel_rfl) rfl)
  (fun hm n W a c hW h1 h2 h3 => erase1_any (w.heap.size) v s n a c W (heap_below hW k0) h3 h2))
 obtain ⟨X, hX⟩ : ∃ X, keyS s (eraseK s) = X := ⟨_, rfl⟩
 rw [hX] at HC ⊢
 obtain ⟨p0, f0⟩ := blk k0
 obtain ⟨p1, f1⟩ := blk k1
 obtain ⟨va, vc, rfl⟩ := h.slice
 clear h he hs hf hX k0 k1 hB
 go_enter Tryz.func45, Tryz.ntmps45
 go_wp2_with (go_at_call 109; refine HC.out.mono ?_; intro e w2 hsaid; obtain ⟨v2, rfl, hv2, hb2⟩ := hsaid; obtain ⟨a2, c2, rfl⟩ := hv2.slice; have HV2 := Lib.hid hv2; clear hv2; obtain ⟨q2, g2⟩ := blk (HB.out _ hb2).2)
 refine bodyPost_ret (results_st_e rfl _ _ (w.heap.size + 1) (.slice a2 X.1.lines.length c2) (.int .i64 X.1.anc.line) (.int .i64 X.1.anc.col) (.int .i64 X.1.foc.line) (.int .i64 X.1.foc.col) (.int .i64 X.1.on) (.int .i64 X.1.off) (.int .i64 X.2) rfl rfl (by simp [heap_set, putIn, (HB.out _ hb2).2])) rfl ?_
 have hfin := H1.out.trans (hb2.mono hs1)
 have hv2 := HV2.out
 exact ⟨_, rfl, (SliceR.stable (rdLin_stable _) hv2 (by (repeat' (first | (with_reducible exact Keeps.refl _ _) | (with_reducible refine Keeps.set ?_ ?_ _) | (with_reducible refine Keeps.alloc ?_ _) | (with_reducible refine Keeps.drew ?_) | (first | fail) | (simp; omega)))) (fun b h _ => (by have h' := h; (try simp at h'); omega))), by (repeat' (first | (with_reducible exact Below.refl _ _) | (with_reducible assumption) | (with_reducible refine Below.alloc ?_ ?_ _) | (with_reducible refine Below.drew ?_) | (with_reducible refine drewN_below ?_) | (with_reducible refine Below.setCell ?_ ?_ _) | go_size))⟩
set_option maxRecDepth 100000 in
set_option maxHeartbeats 2000000 in
theorem typForth_any (v : Value) (s : St) (w : World) (S : Nat → Prop) (h : LinsR w S v s.lines) (he : EnvT w) (hs : Small s.lines) (hf : Fits s.lines) :
  Calls Tryz.prog 52 #[stV v s] w (StSaid (keyS s (forthK s)) w) := by
 obtain ⟨W1, hW1, hB, hz, k0, k1⟩ := st_two w v s
 have HB : Hid (∀ W, Below W1.heap.size W1 W → W.heap[w.heap.size]? = some (.cells #[v, .int .i64 s.anc.line, .int .i64 s.anc.col, .int .i64 s.foc.line, .int .i64 s.foc.col, .int .i64 s.on, .int .i64 s.off] 26) ∧ W.heap[w.heap.size + 1]? = some (.cells #[.slice none 0 0, .int .i64 0, .int .i64 0, .int .i64 0, .int .i64 0, .int .i64 0, .int .i64 0] 26)) := Lib.hid fun W hW => ⟨heap_below hW k0, heap_below hW k1⟩
 have hs1 := hB.size
 have H1 := Lib.hid hB
 have HC := Lib.hid (emptied_any v s 125 #[.pointer (some ⟨w.heap.size, 0, none⟩)] (forthK s) W1 S (h.below (rdLin_stable _) hB) (he.below hB) hs hf (enters_of Tryz.func125 (by kernel_rfl) rfl)
  (fun hm n W a c hW h1 h2 h3 => forth1_any (w.heap.size) v s n a c W (heap_below hW k0) h3 h2 ((he.below hB).below hW) (may_small (out_facts hm).1).1 (may_small (out_facts hm).1).2))
 obtain ⟨X, hX⟩ : ∃ X, keyS s (forthK s) = X := ⟨_, rfl⟩
 rw [hX] at HC ⊢
 obtain ⟨p0, f0⟩ := blk k0
 obtain ⟨p1, f1⟩ := blk k1
 obtain ⟨va, vc, rfl⟩ := h.slice
 clear h he hs hf hX k0 k1 hB
 go_enter Tryz.func52, Tryz.ntmps52
 go_wp2_with (go_at_call 109; refine HC.out.mono ?_; intro e w2 hsaid; obtain ⟨v2, rfl, hv2, hb2⟩ := hsaid; obtain ⟨a2, c2, rfl⟩ := hv2.slice; have HV2 := Lib.hid hv2; clear hv2; obtain ⟨q2, g2⟩ := blk (HB.out _ hb2).2)
 refine bodyPost_ret (results_st_e rfl _ _ (w.heap.size + 1) (.slice a2 X.1.lines.length c2) (.int .i64 X.1.anc.line) (.int .i64 X.1.anc.col) (.int .i64 X.1.foc.line) (.int .i64 X.1.foc.col) (.int .i64 X.1.on) (.int .i64 X.1.off) (.int .i64 X.2) rfl rfl (by simp [heap_set, putIn, (HB.out _ hb2).2])) rfl ?_
 have hfin := H1.out.trans (hb2.mono hs1)
 have hv2 := HV2.out
 exact ⟨_, rfl, (SliceR.stable (rdLin_stable _) hv2 (by (repeat' (first | (with_reducible exact Keeps.refl _ _) | (with_reducible refine Keeps.set ?_ ?_ _) | (with_reducible refine Keeps.alloc ?_ _) | (with_reducible refine Keeps.drew ?_) | (first | fail) | (simp; omega)))) (fun b h _ => (by have h' := h; (try simp at h'); omega))), by (repeat' (first | (with_reducible exact Below.refl _ _) | (with_reducible assumption) | (with_reducible refine Below.alloc ?_ ?_ _) | (with_reducible refine Below.drew ?_) | (with_reducible refine drewN_below ?_) | (with_reducible refine Below.setCell ?_ ?_ _) | go_size))⟩
end Go.Proofs.YtpndnbjpnajaaaaGreatDoor
namespace Go.Proofs.YtpndnbjpnajaaaaGreatDoor
open Go.RowKit
open Go.Proofs.Qw
theorem put_line {w : World} {S : Nat → Prop} {b o c : Nat} {O : Doc} (h : DocR true w S (.slice (some ⟨b, o, none⟩) O.length c) O) {i : Nat} {l : Lin} (hi : O[i]? = some l) (l' : Lin) (x1 x2 : Value) (h1 : IntsR true w S x1 l'.lists) (h2 : CelsR true w S x2 l'.cells) :
  ∃ W, (((w.setCell ⟨b, o + i * 4, none⟩ (.int .i64 l'.quote)).setCell ⟨b, o + i * 4 + 1, none⟩ x1).setCell ⟨b, o + i * 4 + 2, none⟩ (.int .i64 l'.kind)).setCell ⟨b, o + i * 4 + 3, none⟩ x2 = W ∧
   DocR true W S (.slice (some ⟨b, o, none⟩) O.length c) (O.set i l') ∧ (∀ d, d ≠ b → W.heap[d]? = w.heap[d]?) ∧ W.heap.size = w.heap.size ∧ (∀ m, m ≤ b → Below m w W) := by
 have hil := (List.getElem?_eq_some_iff.1 hi).1
 have hw := SliceR.write (R := rdLin true) (k := 4) eltLine.tag (by decide) h (p := i) (ys := [l']) (news := [.int .i64 l'.quote, x1, .int .i64 l'.kind, x2]) (by simp; omega)
  (NewsR.one rfl ⟨_, _, rfl, h1, h2⟩) rfl
 refine ⟨_, rfl, ?_, fun d hd => by simp [heap_set, Ne.symm hd], by simp, fun m hm => ((((Below.refl _ _).setCell hm _).setCell hm _).setCell hm _).setCell hm _⟩
 have e : O.take i ++ [l'] ++ O.drop (i + 1) = O.set i l' := (set_at hi l').symm
 simp only [List.length_singleton] at hw
 rw [e] at hw
 exact hw
theorem own_line {w : World} {S : Nat → Prop} {a : Option Addr} {n c : Nat} {O : Doc} (h : DocR true w S (.slice a n c) O) {i : Nat} {l : Lin} (hi : O[i]? = some l) :
  ∃ b o la lc ca cc, a = some ⟨b, o, none⟩ ∧ S b ∧ b < w.heap.size ∧ LinAt w S b (o + i * 4) l la lc ca cc ∧ (∀ k, w.frozen? ⟨b, k, none⟩ = false) ∧ ∃ cs, w.heap[b]? = some (.cells cs 42) := by
 have hil := (List.getElem?_eq_some_iff.1 hi).1
 obtain ⟨b, o, cs, rfl, hb, hcs, hle⟩ := SliceR.cellAt h hil
 obtain ⟨a', c', e, _, _, hx⟩ := lins_shape h.read
 cases e
 obtain ⟨b', o', la, lc, ca, cc, e, hA⟩ := hx i l hi
 cases e
 exact ⟨b, o, la, lc, ca, cc, rfl, hb, hA.lt, hA, fun k => frozen_of_heap hcs, cs, hcs⟩
end Go.Proofs.YtpndnbjpnajaaaaGreatDoor
namespace Go.Proofs.Qw
open Go.RowKit Go.Proofs.YtpndnbjpnajaaaaGreatDoor
def KeyOk (x : St × Int) : Prop := (x.2 = 0 ∧ ∃ d p, x.1 = closedS d p ∧ mayD d = true ∧ isD d p = true) ∨ (x.1 = noS ∧ (x.2 = 7 ∨ x.2 = 10))
theorem key_ok {d : Doc} {p : Ps} (h : mayD d = true) (hp : isD d p = true) : KeyOk (closedS d p, 0) := .inl ⟨rfl, d, p, rfl, h, hp⟩
theorem key_off {e : Int} (h : e = 7 ∨ e = 10) : KeyOk (noS, e) := .inr ⟨rfl, h⟩
theorem may_at {d : Doc} {p : Ps} (h : mayD d = true) (hp : isD d p = true) : ∃ (i j : Nat) (l : Lin), p = ⟨i, j⟩ ∧ d[i]? = some l ∧ j ≤ l.cells.length ∧ mayL l = true ∧ lineAt d p = l := by
 obtain ⟨i, j, l, rfl, hl, hj⟩ := isD_nat hp
 exact ⟨i, j, l, rfl, hl, hj, (mayD_iff.1 h).2.2.2 l (mem_of_at hl), lineAt_eq hl _⟩
theorem span_is {d : Doc} {a b : Ps} (h : spanD d a b = true) : isD d a = true ∧ isD d b = true := by
 unfold spanD at h
 simp only [Bool.and_eq_true] at h
 exact ⟨h.1.1.2, h.1.2⟩
theorem deleteD_ok {d e : Doc} {a b : Ps} (h : deleteD d a b = (e, 0)) : spanD d a b = true := by
 unfold deleteD at h
 split at h
 ·assumption
 ·cases h
theorem end_ok {x : Doc × Ps × Int} (h : (x.2.2 = 0 ∧ mayD x.1 = true ∧ isD x.1 x.2.1 = true) ∨ x.2.2 = 7 ∨ x.2.2 = 10) : KeyOk (endS x) := by
 unfold endS
 rcases h with ⟨h0, h1, h2⟩ | h
 ·rw [if_pos h0]; exact key_ok h1 h2
 ·rw [if_neg (by omega)]; exact key_off h
theorem split_ok {d : Doc} {p : Ps} (h : mayD d = true) (hp : isD d p = true) : ((splitD d p).2.2 = 0 ∧ mayD (splitD d p).1 = true ∧ isD (splitD d p).1 (splitD d p).2.1 = true) ∨ (splitD d p).2.2 = 7 ∨ (splitD d p).2.2 = 10 := by
 by_cases h0 : (splitD d p).2.2 = 0
 ·obtain ⟨h1, _, h2⟩ := split_back (d := d) (a := p) (x := (splitD d p).1) (p := (splitD d p).2.1) (by rw [← h0])
  exact .inl ⟨h0, h1, (span_is (deleteD_ok h2)).2⟩
 ·refine .inr (.inr ?_)
  unfold splitD at h0 ⊢
  rw [if_pos (span_self h hp)] at h0 ⊢
  split
  ·rfl
  ·rename_i h3
   rw [if_neg h3] at h0
   exact absurd rfl h0
theorem mayL_mk {l : Lin} (h1 : 0 ≤ l.quote) (h2 : l.quote ≤ 6) (h3 : l.lists.length ≤ 6) (h4 : 0 ≤ l.kind) (h5 : l.kind ≤ 3) (h6 : l.lists = [] ∨ l.kind = 0) (h7 : ∀ k ∈ l.lists, k = 0 ∨ k = 1) (h8 : mayCs l.cells = true) : mayL l = true := by
 unfold mayL
 simp only [Bool.and_eq_true, Bool.or_eq_true, decide_eq_true_eq, List.all_eq_true]
 exact ⟨⟨⟨⟨⟨⟨⟨h1, h2⟩, h3⟩, h4⟩, h5⟩, h6⟩, h7⟩, h8⟩
theorem mayL_parts {l : Lin} (h : mayL l = true) : 0 ≤ l.quote ∧ l.quote ≤ 6 ∧ l.lists.length ≤ 6 ∧ 0 ≤ l.kind ∧ l.kind ≤ 3 ∧ (l.lists = [] ∨ l.kind = 0) ∧ (∀ k ∈ l.lists, k = 0 ∨ k = 1) ∧ mayCs l.cells = true := by
 unfold mayL at h
 simp only [Bool.and_eq_true, Bool.or_eq_true, decide_eq_true_eq, List.all_eq_true] at h
 obtain ⟨⟨⟨⟨⟨⟨⟨h1, h2⟩, h3⟩, h4⟩, h5⟩, h6⟩, h7⟩, h8⟩ := h
 exact ⟨h1, h2, h3, h4, h5, h6, h7, h8⟩
theorem outdent_ok {l l' : Lin} (h : mayL l = true) (he : outdentL l = some l') : mayL l' = true ∧ l'.cells = l.cells := by
 obtain ⟨h1, h2, h3, h4, h5, h6, h7, h8⟩ := mayL_parts h
 unfold outdentL at he
 split at he
 ·rename_i hne
  cases he
  exact ⟨mayL_mk h1 h2 (by simp only [List.length_dropLast]; omega) h4 h5 (.inr (h6.resolve_left hne)) (fun k hk => h7 k (List.dropLast_subset _ hk)) h8, rfl⟩
 ·split at he
  ·cases he
   exact ⟨mayL_mk (by simp only; omega) (by simp only; omega) h3 h4 h5 h6 h7 h8, rfl⟩
  ·cases he
theorem free_ok {l l' : Lin} (h : mayL l = true) (he : freeL l = some l') : mayL l' = true ∧ l'.cells = l.cells := by
 obtain ⟨h1, h2, h3, h4, h5, h6, h7, h8⟩ := mayL_parts h
 unfold freeL at he
 split at he
 ·rename_i hne
  cases he
  exact ⟨mayL_mk h1 h2 (by simp only [List.length_dropLast]; omega) h4 h5 (.inr (h6.resolve_left hne)) (fun k hk => h7 k (List.dropLast_subset _ hk)) h8, rfl⟩
 ·split at he
  ·cases he
   exact ⟨mayL_mk h1 h2 h3 (Int.le_refl 0) (show (0 : Int) ≤ 3 by decide) (.inr rfl) h7 h8, rfl⟩
  ·split at he
   ·cases he
    exact ⟨mayL_mk (by simp only; omega) (by simp only; omega) h3 h4 h5 h6 h7 h8, rfl⟩
   ·cases he
theorem set_may {d : Doc} {i : Nat} {l l' : Lin} (hM : mayD d = true) (hl : d[i]? = some l) (h : mayL l' = true) (hc : l'.cells = l.cells) : mayD (d.set i l') = true ∧ ∀ j : Nat, j ≤ l.cells.length → isD (d.set i l') ⟨i, j⟩ = true := by
 obtain ⟨a1, a2, a3, a4⟩ := mayD_iff.1 hM
 have hi := (List.getElem?_eq_some_iff.1 hl).1
 refine ⟨mayD_iff.2 ⟨by simpa using a1, by simpa using a2, ?_, fun x hx => ?_⟩, fun j hj => is_mk (l := l') (by rw [List.getElem?_set_self hi]) (by rw [hc]; exact hj)⟩
 ·rw [set_at hl, flat_append, flat_append, flat_one, hc, ← flat_one l, ← flat_append, ← flat_append, set_self hl]
  exact a3
 ·rcases List.mem_or_eq_of_mem_set hx with hx | rfl
  ·exact a4 x hx
  ·exact h
theorem put_ok {d : Doc} {p : Ps} {r : Option Lin} {x : Doc × Ps × Int} (hM : mayD d = true) (hp : isD d p = true) (hr : ∀ l', r = some l' → mayL l' = true ∧ l'.cells = (lineAt d p).cells)
  (hx : (x.2.2 = 0 ∧ mayD x.1 = true ∧ isD x.1 x.2.1 = true) ∨ x.2.2 = 7 ∨ x.2.2 = 10) : ((putK d p r x).2.2 = 0 ∧ mayD (putK d p r x).1 = true ∧ isD (putK d p r x).1 (putK d p r x).2.1 = true) ∨ (putK d p r x).2.2 = 7 ∨ (putK d p r x).2.2 = 10 := by
 cases r with
 | none => exact hx
 | some l' =>
  obtain ⟨i, j, l, rfl, hl, hj, hml, he⟩ := may_at hM hp
  obtain ⟨h1, h2⟩ := hr l' rfl
  rw [he] at h2
  obtain ⟨k1, k2⟩ := set_may hM hl h1 h2
  exact .inl ⟨rfl, by simpa [putK] using k1, by simpa [putK] using k2 j hj⟩
theorem cut_ok {d : Doc} {a b p : Ps} (h : spanD d a b = true) (hp : p = a) : ((cutK d a b p).2.2 = 0 ∧ mayD (cutK d a b p).1 = true ∧ isD (cutK d a b p).1 (cutK d a b p).2.1 = true) ∨ (cutK d a b p).2.2 = 7 ∨ (cutK d a b p).2.2 = 10 := by
 subst hp
 obtain ⟨hM, i, j, x, y, l, m, rfl, rfl, hl, hm, hp, hq, hij, hpq⟩ := span_at h
 unfold cutK deleteD
 rw [if_pos h]
 exact .inl ⟨rfl, delete_may hM hl hm hp hq hij hpq, is_mk (d := deleteL d ⟨i, x⟩ ⟨j, y⟩) (l := { l with cells := l.cells.take x ++ m.cells.drop y }) (by rw [delete_get hl hm, if_neg (Nat.lt_irrefl _), if_pos rfl]) (by simp; omega)⟩
theorem para_ok {s : St} (h : mayS s = true) : KeyOk (keyS s (paraK s)) := by
 obtain ⟨h1, _, h3, _, _⟩ := out_facts h
 rw [key_may h]
 refine end_ok (put_ok h1 h3 (fun l' hl' => ?_) (split_ok h1 h3))
 obtain ⟨i, j, l, hp, hl, hj, hml, he⟩ := may_at h1 h3
 split at hl'
 ·rw [he] at hl' ⊢
  exact outdent_ok hml hl'
 ·cases hl'
theorem step_span {d : Doc} {p : Ps} (hM : mayD d = true) (hp : isD d p = true) : ((stepD d p (-1)).2 = true → spanD d (stepD d p (-1)).1 p = true) ∧ ((stepD d p 1).2 = true → spanD d p (stepD d p 1).1 = true) := by
 obtain ⟨i, j, l, rfl, hl, hj, _, _⟩ := may_at hM hp
 have hi := (List.getElem?_eq_some_iff.1 hl).1
 constructor
 ·intro h
  rw [step_back hl hj] at h ⊢
  by_cases h0 : 0 < j
  ·rw [if_pos h0, show ((j : Int) - 1) = ((j - 1 : Nat) : Int) by omega]
   exact span_mk hM hl hl (by omega) hj (Nat.le_refl _) (fun _ => by omega)
  ·rw [if_neg h0] at h ⊢
   by_cases h1 : i = 0
   ·rw [if_pos h1] at h; cases h
   ·rw [if_neg h1]
    obtain ⟨n, rfl⟩ : ∃ n, i = n + 1 := ⟨i - 1, by omega⟩
    obtain ⟨m, hm⟩ : ∃ m, d[n]? = some m := ⟨d[n]'(by omega), List.getElem?_eq_getElem (by omega)⟩
    simp only [Nat.add_sub_cancel, lineAt_eq hm]
    rw [show (((n + 1 : Nat) : Int) - 1) = (n : Int) by omega]
    exact span_mk hM hm hl (Nat.le_refl _) hj (by omega) (fun e => by omega)
 ·intro h
  rw [step_forth hl hj] at h ⊢
  by_cases h0 : j < l.cells.length
  ·rw [if_pos h0, show ((j : Int) + 1) = ((j + 1 : Nat) : Int) by omega]
   exact span_mk hM hl hl hj (by omega) (Nat.le_refl _) (fun _ => by omega)
  ·rw [if_neg h0] at h ⊢
   by_cases h1 : i + 1 < d.length
   ·rw [if_pos h1]
    obtain ⟨m, hm⟩ : ∃ m, d[i + 1]? = some m := ⟨d[i + 1]'h1, List.getElem?_eq_getElem h1⟩
    rw [show ((i : Int) + 1) = ((i + 1 : Nat) : Int) by omega]
    exact span_mk hM hl hm hj (Nat.zero_le _) (by omega) (fun e => by omega)
   ·rw [if_neg h1] at h; cases h
theorem back_ok {s : St} (h : mayS s = true) : KeyOk (keyS s (backK s)) := by
 obtain ⟨h1, _, h3, _, _⟩ := out_facts h
 rw [key_may h]
 unfold backK
 split
 ·refine end_ok (put_ok h1 h3 (fun l' hl' => ?_) ?_)
  ·obtain ⟨i, j, l, hp, hl, hj, hml, he⟩ := may_at h1 h3
   split at hl'
   ·rw [he] at hl' ⊢
    exact free_ok hml hl'
   ·cases hl'
  ·split
   ·rename_i h5
    exact cut_ok ((step_span h1 h3).1 h5) rfl
   ·exact .inr (.inl rfl)
 ·exact end_ok (.inl ⟨rfl, h1, h3⟩)
end Go.Proofs.Qw
