/- The walks of Insert of documents, of the code and of the reference. -/
import Derived.Test.YtpndnbjpnajaaaaGreatDoorCellsInsertU
import Derived.Test.YtpndnbjpnajaaaaGreatDoorDocPartU
import Derived.Test.YtpndnbjpnajaaaaGreatDoorDocSplitU
import Derived.Test.YtpndnbjpnajaaaaGreatDoorOpenMoreU
import Derived.Test.YtpndnbjpnajaaaaGreatDoorStyBitsU
import Derived.Test.YtpndnbjpnajaaaaGreatDoorRefTargetU
import Derived.Laws.BitsLemmas
set_option linter.unusedVariables false
set_option linter.unusedSimpArgs false
namespace Go.Proofs.YtpndnbjpnajaaaaGreatDoor
open Go.RowKit
open Go.Proofs.Qw
def insertD (more : List Cel) (d : Doc) (p : Ps) : Doc × Ps × Int :=
 if (spanD d p p && mayCs more) = true then (if 4000 < sizeD d + more.length then ([], ⟨0, 0⟩, 10) else (d.set p.line.toNat { (d.getD p.line.toNat default) with cells := insertC (d.getD p.line.toNat default).cells p.col.toNat more }, ⟨p.line, p.col + more.length⟩, 0)) else ([], ⟨0, 0⟩, 1)
set_option maxRecDepth 100000 in
set_option maxHeartbeats 8000000 in
theorem docInsert_any (v lv : Value) (d : Doc) (more : List Cel) (p : Ps) (w : World) (S S2 : Nat → Prop) (h : LinsR w S v d) (hl : CelsR false w S2 lv more) (he : EnvT w) (hs : Small d) (hf : Fits d) (hml : more.length ≤ 1000000) (hmh : ∀ c ∈ more, c.href.length ≤ 1000000) :
  Calls Tryz.prog 127 #[v, posV p, lv] w (DocPSaid (insertD more d p) w) := by
 obtain ⟨W1, hW1, hB, hz, k0, k1⟩ := two_pos w (.int .i64 p.line) (.int .i64 p.col) (.int .i64 0) (.int .i64 0)
 have HC1 := Lib.hid (docSpan_any v d p p W1 S (h.below (rdLin_stable _) hB) (he.below hB) hs)
 have HCM : Hid (∀ W, Below W1.heap.size W1 W → Calls Tryz.prog 194 #[lv] W fun e w' => e = .returned (.bool (mayCs more)) ∧ Below W.heap.size W w') := Lib.hid fun W hW => cellsMay_any lv more W w S2 hl (he.below (hB.trans (hW.mono hB.size))) (hB.trans (hW.mono hB.size)) hmh
 have HSZ : Hid (∀ W, Below W1.heap.size W1 W → Calls Tryz.prog 141 #[v] W fun e w' => e = .returned (.int .i64 (sizeD d)) ∧ Below W.heap.size W w') := Lib.hid fun W hW => size_any v d W w S h (hB.trans (hW.mono hB.size)) hs.1
 have HO : Hid (∀ W, Below W1.heap.size W1 W → Calls Tryz.prog 108 #[v] W fun e w' => ∃ v', e = .returned v' ∧ DocR true w' (fun b => W.heap.size ≤ b) v' d ∧ Below W.heap.size W w') := Lib.hid fun W hW => docOwn_any v d W w S h (hB.trans (hW.mono hB.size)) hf
 have HB : Hid (∀ W, Below W1.heap.size W1 W → W.heap[w.heap.size]? = some (.cells #[.int .i64 p.line, .int .i64 p.col] 24) ∧ W.heap[w.heap.size + 1]? = some (.cells #[.int .i64 0, .int .i64 0] 24)) := Lib.hid fun W hW => ⟨heap_below hW k0, heap_below hW k1⟩
 have HP : Hid (∀ p : Ps, posV p = .agg #[.int .i64 p.line, .int .i64 p.col]) := Lib.hid fun _ => rfl
 have H1 := Lib.hid hB
 have HL := Lib.hid h
 have HLC := Lib.hid hl
 have HF := Lib.hid hf
 have hlen := hf.1
 have hs1 := hB.size
 have hsz5 := hs.1
 obtain ⟨p1, f1⟩ := blk k0
 obtain ⟨p2, f2⟩ := blk k1
 obtain ⟨va, vc, rfl⟩ := h.slice
 obtain ⟨lb, lc, rfl⟩ := hl.slice
 clear h hl he hs hf k0 k1 hB
 cases hsp : spanD d p p
 ·have HR : Hid (insertD more d p = ([], ⟨0, 0⟩, 1)) := Lib.hid (by unfold insertD; rw [hsp]; rfl)
  rw [hsp] at HC1
  clear hsp
  rw [HP.out p] at HC1 ⊢
  go_enter Tryz.func127, Tryz.ntmps127
  go_wp2_with (go_at_call 133; refine HC1.out.mono ?_; rintro e w2 ⟨rfl, hb2⟩; have k1' := (HB.out _ hb2).2; obtain ⟨q2, g2⟩ := blk k1')
  refine bodyPost_ret (results_dpe rfl _ _ (w.heap.size + 1) (.int .i64 0) (.int .i64 0) rfl (by simp [heap_set, putIn, k1'])) rfl ?_
  unfold DocPSaid
  rw [HR.out]
  have hfin := H1.out.trans (hb2.mono hs1)
  exact ⟨_, rfl, SliceR.nil _ _ _ _ _ _, by (repeat' (first | (with_reducible exact Below.refl _ _) | (with_reducible assumption) | (with_reducible refine Below.alloc ?_ ?_ _) | (with_reducible refine Below.drew ?_) | (with_reducible refine drewN_below ?_) | (with_reducible refine Below.setCell ?_ ?_ _) | go_size))⟩
 cases hmy : mayCs more
 ·have HR : Hid (insertD more d p = ([], ⟨0, 0⟩, 1)) := Lib.hid (by unfold insertD; rw [hsp, hmy]; rfl)
  rw [hsp] at HC1
  rw [hmy] at HCM
  clear hsp hmy
  rw [HP.out p] at HC1 ⊢
  go_enter Tryz.func127, Tryz.ntmps127
  go_wp2_with (first | (go_at_call 133; refine HC1.out.mono ?_; rintro e w2 ⟨rfl, hb2⟩) | (go_at_call 194; refine (HCM.out _ hb2).mono ?_; rintro e w3 ⟨rfl, hb3⟩; have hx3 := below_from hb2 hb3; have k1' := (HB.out _ hx3).2; obtain ⟨q2, g2⟩ := blk k1'))
  refine bodyPost_ret (results_dpe rfl _ _ (w.heap.size + 1) (.int .i64 0) (.int .i64 0) rfl (by simp [heap_set, putIn, k1'])) rfl ?_
  unfold DocPSaid
  rw [HR.out]
  have hfin := H1.out.trans (hx3.mono hs1)
  exact ⟨_, rfl, SliceR.nil _ _ _ _ _ _, by (repeat' (first | (with_reducible exact Below.refl _ _) | (with_reducible assumption) | (with_reducible refine Below.alloc ?_ ?_ _) | (with_reducible refine Below.drew ?_) | (with_reducible refine drewN_below ?_) | (with_reducible refine Below.setCell ?_ ?_ _) | go_size))⟩
 obtain ⟨n, hn⟩ : ∃ n, sizeD d = n := ⟨_, rfl⟩
 rw [hn] at HSZ hsz5
 by_cases h4 : 4000 < n + more.length
 ·have HR : Hid (insertD more d p = ([], ⟨0, 0⟩, 10)) := Lib.hid (by unfold insertD; rw [hsp, hmy, hn, show (true && true) = true from rfl, if_pos rfl, if_pos h4])
  have hq1 : (4000 : Int) < (n : Int) + (more.length : Int) := by omega
  have hq2 : decide ((4000 : Int) < (n : Int) + (more.length : Int)) = true := decide_eq_true hq1
  rw [hsp] at HC1
  rw [hmy] at HCM
  clear hsp hmy h4 hn
  rw [HP.out p] at HC1 ⊢
  go_enter Tryz.func127, Tryz.ntmps127
  go_wp2_with (first | (go_at_call 133; refine HC1.out.mono ?_; rintro e w2 ⟨rfl, hb2⟩) | (go_at_call 194; refine (HCM.out _ hb2).mono ?_; rintro e w3 ⟨rfl, hb3⟩; have hx3 := below_from hb2 hb3) | (go_at_call 141; refine (HSZ.out _ hx3).mono ?_; rintro e w4 ⟨rfl, hb4⟩; have hx4 := below_from hx3 hb4; have k1' := (HB.out _ hx4).2; obtain ⟨q2, g2⟩ := blk k1'))
  refine bodyPost_ret (results_dpe rfl _ _ (w.heap.size + 1) (.int .i64 0) (.int .i64 0) rfl (by simp [heap_set, putIn, k1'])) rfl ?_
  unfold DocPSaid
  rw [HR.out]
  have hfin := H1.out.trans (hx4.mono hs1)
  exact ⟨_, rfl, SliceR.nil _ _ _ _ _ _, by (repeat' (first | (with_reducible exact Below.refl _ _) | (with_reducible assumption) | (with_reducible refine Below.alloc ?_ ?_ _) | (with_reducible refine Below.drew ?_) | (with_reducible refine drewN_below ?_) | (with_reducible refine Below.setCell ?_ ?_ _) | go_size))⟩
 obtain ⟨_, i, _, q, _, l, _, rfl, hpe, hl, _, hq, _, _, _⟩ := span_at hsp
 have hil := (List.getElem?_eq_some_iff.1 hl).1
 have hfl := HF.out.2 l (List.mem_of_getElem? hl)
 have HR : Hid (insertD more d ⟨i, q⟩ = (d.set i { l with cells := insertC l.cells q more }, ⟨i, (q : Int) + (more.length : Int)⟩, 0)) := Lib.hid (by
  unfold insertD
  rw [hsp, hmy, hn, show (true && true) = true from rfl, if_pos rfl, if_neg h4]
  simp [List.getD, hl])
 have hq1 : (n : Int) + (more.length : Int) ≤ 4000 := by omega
 have hq2 : decide ((4000 : Int) < (n : Int) + (more.length : Int)) = false := decide_eq_false (by omega)
 rw [hsp] at HC1
 rw [hmy] at HCM
 rw [HP.out] at HC1 ⊢
 obtain ⟨va', vc', hve, hvc, hvm, hx⟩ := lins_shape HL.out
 cases hve
 obtain ⟨b1, o1, la, lc1, ca, cc, rfl, hAi⟩ := hx i l hl
 have HAI := Lib.hid hAi
 have HLL := Lib.hid hl
 unfold maxLen at hvm
 have i0 : (0 : Int) ≤ (i : Int) := Int.natCast_nonneg _
 have i1 : (i : Int) < (d.length : Int) := by omega
 have u0 : (0 : Int) ≤ (q : Int) := Int.natCast_nonneg _
 have u1 : (q : Int) ≤ 1000000 := by omega
 have u2 : (more.length : Int) ≤ 1000000 := by omega
 clear hx hAi hl hsp hmy h4 hn hpe
 go_enter Tryz.func127, Tryz.ntmps127
 go_wp2_with (first | (go_at_call 133; refine HC1.out.mono ?_; rintro e w2 ⟨rfl, hb2⟩) | (go_at_call 194; refine (HCM.out _ hb2).mono ?_; rintro e w3 ⟨rfl, hb3⟩; have hx3 := below_from hb2 hb3) | (go_at_call 141; refine (HSZ.out _ hx3).mono ?_; rintro e w4 ⟨rfl, hb4⟩; have hx4 := below_from hx3 hb4) | (go_at_call 108; refine (HO.out _ hx4).mono ?_; rintro e w5 ⟨v5, rfl, hv5, hb5⟩; have hx5 := below_from hx4 hb5; obtain ⟨b3, o3, c3, la3, lc3, ca3, cc3, rfl, hc3, hm3, hA3, hI3, hC3, hS3⟩ := docOwn_at hv5 HLL.out; have HV5 := Lib.hid hv5; have HA3 := Lib.hid hA3; have HC3 := Lib.hid hC3; unfold maxLen at hm3; have hS3' : w4.heap.size ≤ b3 := hS3; clear hv5 hI3 hC3 hA3 hS3))
 have hsz14 := hx4.size
 have hsz45 := hb5.size
 have hb3z := HA3.out.lt
 have hb1z : b1 < w.heap.size := HAI.out.lt
 have k0' := (HB.out _ hx5).1
 have k1' := (HB.out _ hx5).2
 obtain ⟨q1', g1'⟩ := blk k0'
 have hd5 : Below w5.heap.size w5 w5.drew := (Below.refl _ _).drew
 have HCI : Hid (∀ W, Below w5.heap.size w5 W → Calls Tryz.prog 195 #[.slice ca3 l.cells.length cc3, .int .i64 q, .slice lb more.length lc] W (CellsSaid (insertC l.cells q more) 0 W)) := Lib.hid fun W hW => cellsInsert_any ca3 lb cc3 lc q l.cells more W w5 w _ S2 true false HC3.out HLC.out hW ((H1.out.trans (hx5.mono hs1)).trans (hW.mono (by omega))) hq hfl.2 hml
 obtain ⟨b3', o3', cs3, hbe, _, hg3, hgz⟩ := SliceR.cellAt HV5.out (i := i) hil
 cases hbe
 have e1 : b3 ≠ w.heap.size := by omega
 have e2 : b3 ≠ w.heap.size + 1 := by omega
 have HG3 := Lib.hid hg3
 have hld : (w5.drew).cell? ⟨b3, o3 + i * 4 + 3, none⟩ = some (.slice ca3 l.cells.length cc3) := HA3.out.cells
 have HK := Lib.hid (And.intro k0' k1')
 clear hg3 k0' k1' p1 f1 p2 f2 hW1
 refine wp_region_noPanic ?_
 refine wp_region_held_drew (S := fun w' => w'.cell? ⟨w.heap.size, 0, none⟩ = some (.int .i64 i) ∧ w'.cell? ⟨w.heap.size, 1, none⟩ = some (.int .i64 q)) (by kernel_rfl) ⟨q1' 0, q1' 1⟩ (fun hHeld => ?_)
 obtain ⟨X0, hX0⟩ : ∃ X, w5.drew = X := ⟨_, rfl⟩
 rw [hX0] at hd5 hHeld hld ⊢
 clear hX0 q1' g1'
 refine wpAnyH_take (i := 0) (v := ?_) (by simp only [qA, qZ]; rfl) (by kernel_rfl) (by kernel_rfl) (by kernel_rfl) (fun _ _ _ h => h) (Or.inl ⟨by rfl, ?_⟩) (by assumption) ?_
 rotate_left 1
 ·intro w hSw; (try dsimp only at hSw); go_simp; (first | done | with_reducible rfl)
 try simp only [Act.put, qI, qX, qY]
 refine wpAnyH_take (i := 1) (v := ?_) (by simp only [qA, qS, qZ]; rfl) (by kernel_rfl) (by kernel_rfl) (by kernel_rfl) (fun _ _ _ h => h) (Or.inl ⟨by rfl, ?_⟩) (by assumption) ?_
 rotate_left 1
 ·intro w hSw; (try dsimp only at hSw); go_simp; (first | done | with_reducible rfl)
 try simp only [Act.put, qI, qX, qY]
 refine wpAnyH_take (i := 2) (v := ?_) (by simp only [qA, qS, qZ]; rfl) (by kernel_rfl) (by kernel_rfl) (by kernel_rfl) (fun _ _ _ h => h) (Or.inl ⟨by rfl, ?_⟩) (by assumption) ?_
 rotate_left 1
 ·intro w hSw; (try dsimp only at hSw); go_simp; (first | done | with_reducible rfl)
 try simp only [Act.put, qI, qX, qY]
 refine wpAnyH_take (i := 3) (v := ?_) (by simp only [qA, qS, qZ]; rfl) (by kernel_rfl) (by kernel_rfl) (by kernel_rfl) (fun _ _ _ h => h) (Or.inl ⟨by rfl, ?_⟩) (by assumption) ?_
 rotate_left 1
 ·intro w hSw; (try dsimp only at hSw); go_simp; (first | done | with_reducible rfl)
 try simp only [Act.put, qI, qX, qY]
 refine wpAnyH_take (i := 4) (v := ?_) (by simp only [qA, qS, qZ]; rfl) (by kernel_rfl) (by kernel_rfl) (by kernel_rfl) (fun _ _ _ h => h) (Or.inl ⟨by rfl, ?_⟩) (by assumption) ?_
 rotate_left 1
 ·intro w hSw; (try dsimp only at hSw); go_simp; (first | done | with_reducible rfl)
 try simp only [Act.put, qI, qX, qY]
 refine wpAnyH_take (i := 5) (v := ?_) (by simp only [qA, qS, qZ]; rfl) (by kernel_rfl) (by kernel_rfl) (by kernel_rfl) (fun _ _ _ h => h) (Or.inl ⟨by rfl, ?_⟩) (by assumption) ?_
 rotate_left 1
 ·intro w hSw; (try dsimp only at hSw); go_simp; (first | done | with_reducible rfl)
 try simp only [Act.put, qI, qX, qY]
 refine wpAnyH_take (i := 6) (v := ?_) (by simp only [qA, qS, qZ]; rfl) (by kernel_rfl) (by kernel_rfl) (by kernel_rfl) (fun _ _ _ h => h) (Or.inl ⟨by rfl, ?_⟩) (by assumption) ?_
 rotate_left 1
 ·intro w hSw; (try dsimp only at hSw); go_simp; (first | done | with_reducible rfl)
 try simp only [Act.put, qI, qX, qY]
 refine wpAnyH_take (i := 7) (v := ?_) (by simp only [qA, qS, qZ]; rfl) (by kernel_rfl) (by kernel_rfl) (by kernel_rfl) (fun _ _ _ h => h) (Or.inl ⟨by rfl, ?_⟩) (by assumption) ?_
 rotate_left 1
 ·intro w hSw; (try dsimp only at hSw); go_simp; (first | done | with_reducible rfl)
 try simp only [Act.put, qI, qX, qY]
 refine wpAnyH_take (i := 9) (v := ?_) (by simp only [qA, qS, qZ]; rfl) (by kernel_rfl) (by kernel_rfl) (by kernel_rfl) (fun _ _ _ h => h) (Or.inl ⟨by rfl, ?_⟩) (by assumption) ?_
 rotate_left 1
 ·intro w hSw; (try dsimp only at hSw); go_simp; (first | done | with_reducible rfl)
 try simp only [Act.put, qI, qX, qY]
 refine wpAnyH_take (i := 10) (v := ?_) (by simp only [qA, qS, qZ]; rfl) (by kernel_rfl) (by kernel_rfl) (by kernel_rfl) (fun _ _ _ h => h) (Or.inl ⟨by rfl, ?_⟩) (by assumption) ?_
 rotate_left 1
 ·intro w hSw; (try dsimp only at hSw); go_simp; (first | done | with_reducible rfl)
 try simp only [Act.put, qI, qX, qY]
 refine wpAnyH_take (i := 11) (v := ?_) (by simp only [qA, qS, qZ]; rfl) (by kernel_rfl) (by kernel_rfl) (by kernel_rfl) (fun _ _ _ h => h) (Or.inl ⟨by rfl, ?_⟩) (by assumption) ?_
 rotate_left 1
 ·intro w hSw; (try dsimp only at hSw); go_simp; (first | done | with_reducible rfl)
 try simp only [Act.put, qI, qX, qY]
 refine wpAnyH_ready (rs := [8]) (by kernel_rfl) (by simp) ?_
 refine AllReadyH.cons (by simp only [qA, qS, qZ]; rfl) (fun K hK => ?_) AllReadyH.nil
 go_simp
 refine hK.out _ _ hHeld (fun _ => ?_)
 clear hK K
 try simp only [Act.put, qI, qX, qY]
 refine wpAnyH_ready (rs := [12]) (by kernel_rfl) (by simp) ?_
 refine AllReadyH.cons (by simp only [qA, qS, qZ]; rfl) (fun K hK => ?_) AllReadyH.nil
 go_simp
 refine (HCI.out _ hd5).mono ?_
 intro e w6 hsaid
 obtain ⟨v6, rfl, hv6, hb6'⟩ := hsaid
 have hb6 : Below w5.heap.size w5 w6 := below_from hd5 hb6'
 have hdz := hd5.size
 obtain ⟨a6, n6, c6, hv6e⟩ := slice_any hv6
 subst hv6e
 have HV6 : Hid (CelsR true w6 (fun b => w5.heap.size ≤ b) (.slice a6 n6 c6) (insertC l.cells q more)) := Lib.hid (SliceR.stable (rdOf_stable _) hv6 (Keeps.refl _ _) (fun b h _ => Nat.le_trans hdz h))
 obtain ⟨y0, y0f⟩ := blk (heap_below hb6 HK.out.1)
 have k16 := heap_below hb6 HK.out.2
 have g36 := heap_below hb6 HG3.out
 have y3 : w6.cell? ⟨b3, o3 + i * 4 + 3, none⟩ = some (.slice ca3 l.cells.length cc3) := (hb6.cell (p := ⟨b3, o3 + i * 4 + 3, none⟩) hb3z).trans HA3.out.cells
 have y3f : w6.frozen? ⟨b3, o3 + i * 4 + 3, none⟩ = false := frozen_of_heap g36
 have hS6 : w6.cell? ⟨w.heap.size, 0, none⟩ = some (.int .i64 i) ∧ w6.cell? ⟨w.heap.size, 1, none⟩ = some (.int .i64 q) := ⟨y0 0, y0 1⟩
 clear hv6 hb6' hld hHeld
 refine hK.out _ _ hS6 (fun hHeld => ?_)
 clear hK K
 try simp only [Act.put, qI, qX, qY]
 refine wpAnyH_take (i := 13) (v := ?_) (by simp only [qA, qS, qZ]; rfl) (by kernel_rfl) (by kernel_rfl) (by kernel_rfl) (fun _ _ _ h => h) (Or.inl ⟨by rfl, ?_⟩) (by assumption) ?_
 rotate_left 1
 ·intro w hSw; (try dsimp only at hSw); go_simp; (first | done | with_reducible rfl)
 try simp only [Act.put, qI, qX, qY]
 refine wpAnyH_take (i := 14) (v := ?_) (by simp only [qA, qS, qZ]; rfl) (by kernel_rfl) (by kernel_rfl) (by kernel_rfl) (fun _ _ _ h => h) (Or.inl ⟨by rfl, ?_⟩) (by assumption) ?_
 rotate_left 1
 ·intro w hSw; (try dsimp only at hSw); go_simp; (first | done | with_reducible rfl)
 try simp only [Act.put, qI, qX, qY]
 refine wpAnyH_take (i := 15) (v := ?_) (by simp only [qA, qS, qZ]; rfl) (by kernel_rfl) (by kernel_rfl) (by kernel_rfl) (fun _ _ _ h => h) (Or.inl ⟨by rfl, ?_⟩) (by assumption) ?_
 rotate_left 1
 ·intro w hSw; (try dsimp only at hSw); go_simp; (first | done | with_reducible rfl)
 try simp only [Act.put, qI, qX, qY]
 refine wpAnyH_take (i := 16) (v := ?_) (by simp only [qA, qS, qZ]; rfl) (by kernel_rfl) (by kernel_rfl) (by kernel_rfl) (fun _ _ _ h => h) (Or.inl ⟨by rfl, ?_⟩) (by assumption) ?_
 rotate_left 1
 ·intro w hSw; (try dsimp only at hSw); go_simp; (first | done | with_reducible rfl)
 try simp only [Act.put, qI, qX, qY]
 refine wpAnyH_take (i := 17) (v := ?_) (by simp only [qA, qS, qZ]; rfl) (by kernel_rfl) (by kernel_rfl) (by kernel_rfl) (fun _ _ _ h => h) (Or.inl ⟨by rfl, ?_⟩) (by assumption) ?_
 rotate_left 1
 ·intro w hSw; (try dsimp only at hSw); go_simp; (first | done | with_reducible rfl)
 try simp only [Act.put, qI, qX, qY]
 refine wpAnyH_ready (rs := [18]) (by kernel_rfl) (by simp) ?_
 refine AllReadyH.cons (by simp only [qA, qS, qZ]; rfl) (fun K hK => ?_) AllReadyH.nil
 go_simp
 have hS7 : (w6.setCell ⟨b3, o3 + i * 4 + 3, none⟩ (.slice a6 n6 c6)).cell? ⟨w.heap.size, 0, none⟩ = some (.int .i64 i) ∧ (w6.setCell ⟨b3, o3 + i * 4 + 3, none⟩ (.slice a6 n6 c6)).cell? ⟨w.heap.size, 1, none⟩ = some (.int .i64 q) := ⟨(setCell_block e1).trans hS6.1, (setCell_block e1).trans hS6.2⟩
 refine hK.out _ _ hS7 (fun _ => ?_)
 refine wpAnyH_done (by kernel_rfl) ?_ _
 refine NoPanic.normal ?_
 clear hK K hHeld y0 y0f y3 y3f
 obtain ⟨w7, hw7⟩ : ∃ X, w6.setCell ⟨b3, o3 + i * 4 + 3, none⟩ (.slice a6 n6 c6) = X := ⟨_, rfl⟩
 have k17 : w7.heap[w.heap.size + 1]? = some (.cells #[.int .i64 0, .int .i64 0] 24) := by rw [← hw7, heap_set, if_neg e2]; exact k16
 have hfin : Below w.heap.size w w7 := by
  rw [← hw7]
  exact ((H1.out.trans (hx5.mono hs1)).trans (hb6.mono (by omega))).setCell (by show w.heap.size ≤ b3; omega) _
 have hD7 : DocR true w7 (fun b => w4.heap.size ≤ b) (.slice (some ⟨b3, o3, none⟩) d.length c3) (d.set i { l with cells := insertC l.cells q more }) := by
  rw [← hw7]
  refine SliceR.set1 eltLine.tag (SliceR.below (rdLin_stable true) HV5.out hb6) HLL.out (j := 3) (by decide) (.slice a6 n6 c6) ?_
  rintro vs _ ⟨p', q', rfl, hp', hq'⟩
  exact ⟨p', _, rfl, hp', SliceR.stable (rdOf_stable _) HV6.out (Keeps.refl _ _) (fun b h _ => Nat.le_trans hsz45 h)⟩
 have hz7 : w6.heap.size = w7.heap.size := by rw [← hw7]; simp
 have hz56 := hb6.size
 rw [hw7] at hS7 ⊢
 clear hw7 k16 hS6 g36
 obtain ⟨r1, s1⟩ := blk k17
 have HD7 := Lib.hid hD7
 have HFIN := Lib.hid hfin
 clear hD7 hfin
 go_wp2_with fail
 refine wp_region_noPanic ?_
 refine wp_region_held_drew (S := fun w' => w'.cell? ⟨w.heap.size, 0, none⟩ = some (.int .i64 i) ∧ w'.cell? ⟨w.heap.size, 1, none⟩ = some (.int .i64 q)) (by kernel_rfl) ⟨hS7.1, hS7.2⟩ (fun hHeld => ?_)
 obtain ⟨X9, hX9⟩ : ∃ X, w7.drew = X := ⟨_, rfl⟩
 have hd9 : Below w7.heap.size w7 X9 := hX9 ▸ (Below.refl _ _).drew
 rw [hX9] at hHeld ⊢
 have k19 := heap_below hd9 k17
 obtain ⟨r9, s9⟩ := blk k19
 have HD9 := Lib.hid hd9
 have HK9 := Lib.hid k19
 have HS9 := Lib.hid hHeld
 have e3 : w.heap.size + 1 ≠ w.heap.size := by omega
 clear hX9 hS7 r1 s1 k17 hd9 k19
 refine wpAnyH_take (i := 0) (v := ?_) (by simp only [qA, qZ]; rfl) (by kernel_rfl) (by kernel_rfl) (by kernel_rfl) (fun _ _ _ h => h) (Or.inl ⟨by rfl, ?_⟩) (by assumption) ?_
 rotate_left 1
 ·intro w hSw; (try dsimp only at hSw); go_simp; (first | done | with_reducible rfl)
 try simp only [Act.put, qI, qX, qY]
 refine wpAnyH_take (i := 1) (v := ?_) (by simp only [qA, qS, qZ]; rfl) (by kernel_rfl) (by kernel_rfl) (by kernel_rfl) (fun _ _ _ h => h) (Or.inl ⟨by rfl, ?_⟩) (by assumption) ?_
 rotate_left 1
 ·intro w hSw; (try dsimp only at hSw); go_simp; (first | done | with_reducible rfl)
 try simp only [Act.put, qI, qX, qY]
 refine wpAnyH_take (i := 2) (v := ?_) (by simp only [qA, qS, qZ]; rfl) (by kernel_rfl) (by kernel_rfl) (by kernel_rfl) (fun _ _ _ h => h) (Or.inl ⟨by rfl, ?_⟩) (by assumption) ?_
 rotate_left 1
 ·intro w hSw; (try dsimp only at hSw); go_simp; (first | done | with_reducible rfl)
 try simp only [Act.put, qI, qX, qY]
 refine wpAnyH_take (i := 3) (v := ?_) (by simp only [qA, qS, qZ]; rfl) (by kernel_rfl) (by kernel_rfl) (by kernel_rfl) (fun _ _ _ h => h) (Or.inl ⟨by rfl, ?_⟩) (by assumption) ?_
 rotate_left 1
 ·intro w hSw; (try dsimp only at hSw); go_simp; (first | done | with_reducible rfl)
 try simp only [Act.put, qI, qX, qY]
 refine wpAnyH_take (i := 4) (v := ?_) (by simp only [qA, qS, qZ]; rfl) (by kernel_rfl) (by kernel_rfl) (by kernel_rfl) (fun _ _ _ h => h) (Or.inl ⟨by rfl, ?_⟩) (by assumption) ?_
 rotate_left 1
 ·intro w hSw; (try dsimp only at hSw); go_simp; (first | done | with_reducible rfl)
 try simp only [Act.put, qI, qX, qY]
 refine wpAnyH_take (i := 5) (v := ?_) (by simp only [qA, qS, qZ]; rfl) (by kernel_rfl) (by kernel_rfl) (by kernel_rfl) (fun _ _ _ h => h) (Or.inl ⟨by rfl, ?_⟩) (by assumption) ?_
 rotate_left 1
 ·intro w hSw; (try dsimp only at hSw); go_simp; (first | done | with_reducible rfl)
 try simp only [Act.put, qI, qX, qY]
 refine wpAnyH_take (i := 6) (v := ?_) (by simp only [qA, qS, qZ]; rfl) (by kernel_rfl) (by kernel_rfl) (by kernel_rfl) (fun _ _ _ h => h) (Or.inl ⟨by rfl, ?_⟩) (by assumption) ?_
 rotate_left 1
 ·intro w hSw; (try dsimp only at hSw); go_simp; (first | done | with_reducible rfl)
 try simp only [Act.put, qI, qX, qY]
 refine wpAnyH_take (i := 7) (v := ?_) (by simp only [qA, qS, qZ]; rfl) (by kernel_rfl) (by kernel_rfl) (by kernel_rfl) (fun _ _ _ h => h) (Or.inl ⟨by rfl, ?_⟩) (by assumption) ?_
 rotate_left 1
 ·intro w hSw; (try dsimp only at hSw); go_simp; (first | done | with_reducible rfl)
 try simp only [Act.put, qI, qX, qY]
 refine wpAnyH_take (i := 8) (v := ?_) (by simp only [qA, qS, qZ]; rfl) (by kernel_rfl) (by kernel_rfl) (by kernel_rfl) (fun _ _ _ h => h) (Or.inl ⟨by rfl, ?_⟩) (by assumption) ?_
 rotate_left 1
 ·intro w hSw; (try dsimp only at hSw); go_simp; (first | done | with_reducible rfl)
 try simp only [Act.put, qI, qX, qY]
 refine wpAnyH_ready (rs := [9]) (by kernel_rfl) (by simp) ?_
 refine AllReadyH.cons (by simp only [qA, qS, qZ]; rfl) (fun K hK => ?_) AllReadyH.nil
 go_simp
 refine hK.out _ _ hHeld (fun _ => ?_)
 clear hK K
 try simp only [Act.put, qI, qX, qY]
 refine wpAnyH_ready (rs := [10]) (by kernel_rfl) (by simp) ?_
 refine AllReadyH.cons (by simp only [qA, qS, qZ]; rfl) (fun K hK => ?_) AllReadyH.nil
 go_simp
 have hSA : ∀ u0 u1, ((X9.setCell ⟨w.heap.size + 1, 0, none⟩ u0).setCell ⟨w.heap.size + 1, 1, none⟩ u1).cell? ⟨w.heap.size, 0, none⟩ = some (.int .i64 i) ∧ ((X9.setCell ⟨w.heap.size + 1, 0, none⟩ u0).setCell ⟨w.heap.size + 1, 1, none⟩ u1).cell? ⟨w.heap.size, 1, none⟩ = some (.int .i64 q) := fun u0 u1 =>
  ⟨(setCell_block e3).trans ((setCell_block e3).trans HS9.out.1), (setCell_block e3).trans ((setCell_block e3).trans HS9.out.2)⟩
 refine hK.out _ _ (hSA _ _) (fun _ => ?_)
 clear hK K
 try simp only [Act.put, qI, qX, qY]
 refine wpAnyH_ready (rs := [11]) (by kernel_rfl) (by simp) ?_
 refine AllReadyH.cons (by simp only [qA, qS, qZ]; rfl) (fun K hK => ?_) AllReadyH.nil
 go_simp
 refine hK.out _ _ (hSA _ _) (fun _ => ?_)
 refine wpAnyH_done (by kernel_rfl) ?_ _
 refine NoPanic.normal ?_
 clear hK K hSA
 go_wp2_with fail
 have k19 := HK9.out
 have hwr : IntKind.i64.wrap ((q : Int) + (more.length : Int)) = (q : Int) + (more.length : Int) := IntWalk.i64_in _ (by omega)
 refine bodyPost_ret (results_dpe rfl _ _ (w.heap.size + 1) (.int .i64 i) (.int .i64 ((q : Int) + (more.length : Int))) rfl (by simp [heap_set, putIn, k19, hwr])) rfl ?_
 unfold DocPSaid
 rw [HR.out]
 have hz9 := HD9.out.size
 have hfz := HFIN.out.size
 have hw4 : w.heap.size + 2 ≤ w4.heap.size := by omega
 refine ⟨_, by rw [HP.out]; rfl, SliceR.stable (rdLin_stable true) HD7.out ((((Keeps.all HD9.out)).set (fun hh => by have hh : w4.heap.size ≤ w.heap.size + 1 := hh; omega) _).set (fun hh => by have hh : w4.heap.size ≤ w.heap.size + 1 := hh; omega) _) (fun b h _ => by have h : w4.heap.size ≤ b := h; omega), ?_⟩
 exact ((HFIN.out.trans (HD9.out.mono hfz)).setCell (by show w.heap.size ≤ w.heap.size + 1; omega) _).setCell (by show w.heap.size ≤ w.heap.size + 1; omega) _
set_option maxRecDepth 100000 in
set_option maxHeartbeats 8000000 in
theorem refDInsert_any (v lv : Value) (d : Doc) (more : List Cel) (p : Ps) (w : World) (S S2 : Nat → Prop) (h : LinsR w S v d) (hl : CelsR false w S2 lv more) (hs : Small d) (hf : Fits d) (hml : more.length ≤ 1000000) (hmh : ∀ c ∈ more, c.href.length ≤ 1000000) :
  Calls Tryz.prog 132 #[v, posV p, lv] w (DocPSaid (insertD more d p) w) := by
 obtain ⟨W1, hW1, hB, hz, k0, k1⟩ := two_pos w (.int .i64 p.line) (.int .i64 p.col) (.int .i64 0) (.int .i64 0)
 have HC1 := Lib.hid (refSpan_any v d p p W1 S (h.below (rdLin_stable _) hB) hs)
 have HCM : Hid (∀ W, Below W1.heap.size W1 W → Calls Tryz.prog 197 #[lv] W fun e w' => e = .returned (.bool (mayCs more)) ∧ Below W.heap.size W w') := Lib.hid fun W hW => refCellsMay_any lv more W S2 (SliceR.below (rdOf_stable _) hl (hB.trans (hW.mono hB.size))) hmh
 have HSZ : Hid (∀ W, Below W1.heap.size W1 W → Calls Tryz.prog 56 #[v] W fun e w' => e = .returned (.int .i64 (sizeD d)) ∧ Below W.heap.size W w') := Lib.hid fun W hW => refSize_any v d W S (h.below (rdLin_stable _) (hB.trans (hW.mono hB.size))) hs.1
 have HO : Hid (∀ W, Below W1.heap.size W1 W → Calls Tryz.prog 102 #[v] W fun e w' => ∃ v', e = .returned v' ∧ DocR true w' (fun b => W.heap.size ≤ b) v' d ∧ Below W.heap.size W w') := Lib.hid fun W hW => refOwnD_any v d W S (h.below (rdLin_stable _) (hB.trans (hW.mono hB.size))) hf
 have HB : Hid (∀ W, Below W1.heap.size W1 W → W.heap[w.heap.size]? = some (.cells #[.int .i64 p.line, .int .i64 p.col] 24) ∧ W.heap[w.heap.size + 1]? = some (.cells #[.int .i64 0, .int .i64 0] 24)) := Lib.hid fun W hW => ⟨heap_below hW k0, heap_below hW k1⟩
 have HP : Hid (∀ p : Ps, posV p = .agg #[.int .i64 p.line, .int .i64 p.col]) := Lib.hid fun _ => rfl
 have H1 := Lib.hid hB
 have HL := Lib.hid h
 have HLC := Lib.hid hl
 have HF := Lib.hid hf
 have hlen := hf.1
 have hs1 := hB.size
 have hsz5 := hs.1
 obtain ⟨p1, f1⟩ := blk k0
 obtain ⟨p2, f2⟩ := blk k1
 obtain ⟨va, vc, rfl⟩ := h.slice
 obtain ⟨lb, lc, rfl⟩ := hl.slice
 clear h hl hs hf k0 k1 hB
 cases hsp : spanD d p p
 ·have HR : Hid (insertD more d p = ([], ⟨0, 0⟩, 1)) := Lib.hid (by unfold insertD; rw [hsp]; rfl)
  rw [hsp] at HC1
  clear hsp
  rw [HP.out p] at HC1 ⊢
  go_enter Tryz.func132, Tryz.ntmps132
  go_wp2_with (go_at_call 174; refine HC1.out.mono ?_; rintro e w2 ⟨rfl, hb2⟩; have k1' := (HB.out _ hb2).2; obtain ⟨q2, g2⟩ := blk k1')
  refine bodyPost_ret (results_dpe rfl _ _ (w.heap.size + 1) (.int .i64 0) (.int .i64 0) rfl (by simp [heap_set, putIn, k1'])) rfl ?_
  unfold DocPSaid
  rw [HR.out]
  have hfin := H1.out.trans (hb2.mono hs1)
  exact ⟨_, rfl, SliceR.nil _ _ _ _ _ _, by (repeat' (first | (with_reducible exact Below.refl _ _) | (with_reducible assumption) | (with_reducible refine Below.alloc ?_ ?_ _) | (with_reducible refine Below.drew ?_) | (with_reducible refine drewN_below ?_) | (with_reducible refine Below.setCell ?_ ?_ _) | go_size))⟩
 cases hmy : mayCs more
 ·have HR : Hid (insertD more d p = ([], ⟨0, 0⟩, 1)) := Lib.hid (by unfold insertD; rw [hsp, hmy]; rfl)
  rw [hsp] at HC1
  rw [hmy] at HCM
  clear hsp hmy
  rw [HP.out p] at HC1 ⊢
  go_enter Tryz.func132, Tryz.ntmps132
  go_wp2_with (first | (go_at_call 174; refine HC1.out.mono ?_; rintro e w2 ⟨rfl, hb2⟩) | (go_at_call 197; refine (HCM.out _ hb2).mono ?_; rintro e w3 ⟨rfl, hb3⟩; have hx3 := below_from hb2 hb3; have k1' := (HB.out _ hx3).2; obtain ⟨q2, g2⟩ := blk k1'))
  refine bodyPost_ret (results_dpe rfl _ _ (w.heap.size + 1) (.int .i64 0) (.int .i64 0) rfl (by simp [heap_set, putIn, k1'])) rfl ?_
  unfold DocPSaid
  rw [HR.out]
  have hfin := H1.out.trans (hx3.mono hs1)
  exact ⟨_, rfl, SliceR.nil _ _ _ _ _ _, by (repeat' (first | (with_reducible exact Below.refl _ _) | (with_reducible assumption) | (with_reducible refine Below.alloc ?_ ?_ _) | (with_reducible refine Below.drew ?_) | (with_reducible refine drewN_below ?_) | (with_reducible refine Below.setCell ?_ ?_ _) | go_size))⟩
 obtain ⟨n, hn⟩ : ∃ n, sizeD d = n := ⟨_, rfl⟩
 rw [hn] at HSZ hsz5
 by_cases h4 : 4000 < n + more.length
 ·have HR : Hid (insertD more d p = ([], ⟨0, 0⟩, 10)) := Lib.hid (by unfold insertD; rw [hsp, hmy, hn, show (true && true) = true from rfl, if_pos rfl, if_pos h4])
  have hq1 : (4000 : Int) < (n : Int) + (more.length : Int) := by omega
  have hq2 : decide ((4000 : Int) < (n : Int) + (more.length : Int)) = true := decide_eq_true hq1
  rw [hsp] at HC1
  rw [hmy] at HCM
  clear hsp hmy h4 hn
  rw [HP.out p] at HC1 ⊢
  go_enter Tryz.func132, Tryz.ntmps132
  go_wp2_with (first | (go_at_call 174; refine HC1.out.mono ?_; rintro e w2 ⟨rfl, hb2⟩) | (go_at_call 197; refine (HCM.out _ hb2).mono ?_; rintro e w3 ⟨rfl, hb3⟩; have hx3 := below_from hb2 hb3) | (go_at_call 56; refine (HSZ.out _ hx3).mono ?_; rintro e w4 ⟨rfl, hb4⟩; have hx4 := below_from hx3 hb4; have k1' := (HB.out _ hx4).2; obtain ⟨q2, g2⟩ := blk k1'))
  refine bodyPost_ret (results_dpe rfl _ _ (w.heap.size + 1) (.int .i64 0) (.int .i64 0) rfl (by simp [heap_set, putIn, k1'])) rfl ?_
  unfold DocPSaid
  rw [HR.out]
  have hfin := H1.out.trans (hx4.mono hs1)
  exact ⟨_, rfl, SliceR.nil _ _ _ _ _ _, by (repeat' (first | (with_reducible exact Below.refl _ _) | (with_reducible assumption) | (with_reducible refine Below.alloc ?_ ?_ _) | (with_reducible refine Below.drew ?_) | (with_reducible refine drewN_below ?_) | (with_reducible refine Below.setCell ?_ ?_ _) | go_size))⟩
 obtain ⟨_, i, _, q, _, l, _, rfl, hpe, hl, _, hq, _, _, _⟩ := span_at hsp
 have hil := (List.getElem?_eq_some_iff.1 hl).1
 have hfl := HF.out.2 l (List.mem_of_getElem? hl)
 have HR : Hid (insertD more d ⟨i, q⟩ = (d.set i { l with cells := insertC l.cells q more }, ⟨i, (q : Int) + (more.length : Int)⟩, 0)) := Lib.hid (by
  unfold insertD
  rw [hsp, hmy, hn, show (true && true) = true from rfl, if_pos rfl, if_neg h4]
  simp [List.getD, hl])
 have hq1 : (n : Int) + (more.length : Int) ≤ 4000 := by omega
 have hq2 : decide ((4000 : Int) < (n : Int) + (more.length : Int)) = false := decide_eq_false (by omega)
 rw [hsp] at HC1
 rw [hmy] at HCM
 rw [HP.out] at HC1 ⊢
 obtain ⟨va', vc', hve, hvc, hvm, hx⟩ := lins_shape HL.out
 cases hve
 obtain ⟨b1, o1, la, lc1, ca, cc, rfl, hAi⟩ := hx i l hl
 have HAI := Lib.hid hAi
 have HLL := Lib.hid hl
 unfold maxLen at hvm
 have i0 : (0 : Int) ≤ (i : Int) := Int.natCast_nonneg _
 have i1 : (i : Int) < (d.length : Int) := by omega
 have u0 : (0 : Int) ≤ (q : Int) := Int.natCast_nonneg _
 have u1 : (q : Int) ≤ 1000000 := by omega
 have u2 : (more.length : Int) ≤ 1000000 := by omega
 clear hx hAi hl hsp hmy h4 hn hpe
 go_enter Tryz.func132, Tryz.ntmps132
 go_wp2_with (first | (go_at_call 174; refine HC1.out.mono ?_; rintro e w2 ⟨rfl, hb2⟩) | (go_at_call 197; refine (HCM.out _ hb2).mono ?_; rintro e w3 ⟨rfl, hb3⟩; have hx3 := below_from hb2 hb3) | (go_at_call 56; refine (HSZ.out _ hx3).mono ?_; rintro e w4 ⟨rfl, hb4⟩; have hx4 := below_from hx3 hb4) | (go_at_call 102; refine (HO.out _ hx4).mono ?_; rintro e w5 ⟨v5, rfl, hv5, hb5⟩; have hx5 := below_from hx4 hb5; obtain ⟨b3, o3, c3, la3, lc3, ca3, cc3, rfl, hc3, hm3, hA3, hI3, hC3, hS3⟩ := docOwn_at hv5 HLL.out; have HV5 := Lib.hid hv5; have HA3 := Lib.hid hA3; have HC3 := Lib.hid hC3; unfold maxLen at hm3; have hS3' : w4.heap.size ≤ b3 := hS3; clear hv5 hI3 hC3 hA3 hS3))
 have hsz14 := hx4.size
 have hsz45 := hb5.size
 have hb3z := HA3.out.lt
 have hb1z : b1 < w.heap.size := HAI.out.lt
 have k0' := (HB.out _ hx5).1
 have k1' := (HB.out _ hx5).2
 obtain ⟨q1', g1'⟩ := blk k0'
 have hd5 : Below w5.heap.size w5 w5.drew := (Below.refl _ _).drew
 have HCI : Hid (∀ W, Below w5.heap.size w5 W → Calls Tryz.prog 198 #[.slice ca l.cells.length cc, .int .i64 q, .slice lb more.length lc] W (CellsSaid (insertC l.cells q more) 0 W)) := Lib.hid fun W hW => refCInsert_any ca lb cc lc q l.cells more W w w S S2 false false HAI.out.cellsR HLC.out ((H1.out.trans (hx5.mono hs1)).trans (hW.mono (by omega))) ((H1.out.trans (hx5.mono hs1)).trans (hW.mono (by omega))) hq hfl.2 hml
 obtain ⟨b3', o3', cs3, hbe, _, hg3, hgz⟩ := SliceR.cellAt HV5.out (i := i) hil
 cases hbe
 have e1 : b3 ≠ w.heap.size := by omega
 have e2 : b3 ≠ w.heap.size + 1 := by omega
 have HG3 := Lib.hid hg3
 have hld : (w5.drew).cell? ⟨b1, o1 + i * 4 + 3, none⟩ = some (.slice ca l.cells.length cc) := (hd5.cell (p := ⟨b1, o1 + i * 4 + 3, none⟩) (by show b1 < w5.heap.size; omega)).trans (HAI.out.below (H1.out.trans (hx5.mono hs1))).cells
 have HK := Lib.hid (And.intro k0' k1')
 clear hg3 k0' k1' p1 f1 p2 f2 hW1
 refine wp_region_noPanic ?_
 refine wp_region_held_drew (S := fun w' => w'.cell? ⟨w.heap.size, 0, none⟩ = some (.int .i64 i) ∧ w'.cell? ⟨w.heap.size, 1, none⟩ = some (.int .i64 q)) (by kernel_rfl) ⟨q1' 0, q1' 1⟩ (fun hHeld => ?_)
 obtain ⟨X0, hX0⟩ : ∃ X, w5.drew = X := ⟨_, rfl⟩
 rw [hX0] at hd5 hHeld hld ⊢
 clear hX0 q1' g1'
 refine wpAnyH_take (i := 0) (v := ?_) (by simp only [qA, qZ]; rfl) (by kernel_rfl) (by kernel_rfl) (by kernel_rfl) (fun _ _ _ h => h) (Or.inl ⟨by rfl, ?_⟩) (by assumption) ?_
 rotate_left 1
 ·intro w hSw; (try dsimp only at hSw); go_simp; (first | done | with_reducible rfl)
 try simp only [Act.put, qI, qX, qY]
 refine wpAnyH_take (i := 1) (v := ?_) (by simp only [qA, qS, qZ]; rfl) (by kernel_rfl) (by kernel_rfl) (by kernel_rfl) (fun _ _ _ h => h) (Or.inl ⟨by rfl, ?_⟩) (by assumption) ?_
 rotate_left 1
 ·intro w hSw; (try dsimp only at hSw); go_simp; (first | done | with_reducible rfl)
 try simp only [Act.put, qI, qX, qY]
 refine wpAnyH_take (i := 2) (v := ?_) (by simp only [qA, qS, qZ]; rfl) (by kernel_rfl) (by kernel_rfl) (by kernel_rfl) (fun _ _ _ h => h) (Or.inl ⟨by rfl, ?_⟩) (by assumption) ?_
 rotate_left 1
 ·intro w hSw; (try dsimp only at hSw); go_simp; (first | done | with_reducible rfl)
 try simp only [Act.put, qI, qX, qY]
 refine wpAnyH_take (i := 3) (v := ?_) (by simp only [qA, qS, qZ]; rfl) (by kernel_rfl) (by kernel_rfl) (by kernel_rfl) (fun _ _ _ h => h) (Or.inl ⟨by rfl, ?_⟩) (by assumption) ?_
 rotate_left 1
 ·intro w hSw; (try dsimp only at hSw); go_simp; (first | done | with_reducible rfl)
 try simp only [Act.put, qI, qX, qY]
 refine wpAnyH_take (i := 4) (v := ?_) (by simp only [qA, qS, qZ]; rfl) (by kernel_rfl) (by kernel_rfl) (by kernel_rfl) (fun _ _ _ h => h) (Or.inl ⟨by rfl, ?_⟩) (by assumption) ?_
 rotate_left 1
 ·intro w hSw; (try dsimp only at hSw); go_simp; (first | done | with_reducible rfl)
 try simp only [Act.put, qI, qX, qY]
 refine wpAnyH_take (i := 5) (v := ?_) (by simp only [qA, qS, qZ]; rfl) (by kernel_rfl) (by kernel_rfl) (by kernel_rfl) (fun _ _ _ h => h) (Or.inl ⟨by rfl, ?_⟩) (by assumption) ?_
 rotate_left 1
 ·intro w hSw; (try dsimp only at hSw); go_simp; (first | done | with_reducible rfl)
 try simp only [Act.put, qI, qX, qY]
 refine wpAnyH_take (i := 6) (v := ?_) (by simp only [qA, qS, qZ]; rfl) (by kernel_rfl) (by kernel_rfl) (by kernel_rfl) (fun _ _ _ h => h) (Or.inl ⟨by rfl, ?_⟩) (by assumption) ?_
 rotate_left 1
 ·intro w hSw; (try dsimp only at hSw); go_simp; (first | done | with_reducible rfl)
 try simp only [Act.put, qI, qX, qY]
 refine wpAnyH_take (i := 7) (v := ?_) (by simp only [qA, qS, qZ]; rfl) (by kernel_rfl) (by kernel_rfl) (by kernel_rfl) (fun _ _ _ h => h) (Or.inl ⟨by rfl, ?_⟩) (by assumption) ?_
 rotate_left 1
 ·intro w hSw; (try dsimp only at hSw); go_simp; (first | done | with_reducible rfl)
 try simp only [Act.put, qI, qX, qY]
 refine wpAnyH_take (i := 9) (v := ?_) (by simp only [qA, qS, qZ]; rfl) (by kernel_rfl) (by kernel_rfl) (by kernel_rfl) (fun _ _ _ h => h) (Or.inl ⟨by rfl, ?_⟩) (by assumption) ?_
 rotate_left 1
 ·intro w hSw; (try dsimp only at hSw); go_simp; (first | done | with_reducible rfl)
 try simp only [Act.put, qI, qX, qY]
 refine wpAnyH_take (i := 10) (v := ?_) (by simp only [qA, qS, qZ]; rfl) (by kernel_rfl) (by kernel_rfl) (by kernel_rfl) (fun _ _ _ h => h) (Or.inl ⟨by rfl, ?_⟩) (by assumption) ?_
 rotate_left 1
 ·intro w hSw; (try dsimp only at hSw); go_simp; (first | done | with_reducible rfl)
 try simp only [Act.put, qI, qX, qY]
 refine wpAnyH_take (i := 11) (v := ?_) (by simp only [qA, qS, qZ]; rfl) (by kernel_rfl) (by kernel_rfl) (by kernel_rfl) (fun _ _ _ h => h) (Or.inl ⟨by rfl, ?_⟩) (by assumption) ?_
 rotate_left 1
 ·intro w hSw; (try dsimp only at hSw); go_simp; (first | done | with_reducible rfl)
 try simp only [Act.put, qI, qX, qY]
 refine wpAnyH_ready (rs := [8]) (by kernel_rfl) (by simp) ?_
 refine AllReadyH.cons (by simp only [qA, qS, qZ]; rfl) (fun K hK => ?_) AllReadyH.nil
 go_simp
 refine hK.out _ _ hHeld (fun _ => ?_)
 clear hK K
 try simp only [Act.put, qI, qX, qY]
 refine wpAnyH_ready (rs := [12]) (by kernel_rfl) (by simp) ?_
 refine AllReadyH.cons (by simp only [qA, qS, qZ]; rfl) (fun K hK => ?_) AllReadyH.nil
 go_simp
 refine (HCI.out _ hd5).mono ?_
 intro e w6 hsaid
 obtain ⟨v6, rfl, hv6, hb6'⟩ := hsaid
 have hb6 : Below w5.heap.size w5 w6 := below_from hd5 hb6'
 have hdz := hd5.size
 obtain ⟨a6, n6, c6, hv6e⟩ := slice_any hv6
 subst hv6e
 have HV6 : Hid (CelsR true w6 (fun b => w5.heap.size ≤ b) (.slice a6 n6 c6) (insertC l.cells q more)) := Lib.hid (SliceR.stable (rdOf_stable _) hv6 (Keeps.refl _ _) (fun b h _ => Nat.le_trans hdz h))
 obtain ⟨y0, y0f⟩ := blk (heap_below hb6 HK.out.1)
 have k16 := heap_below hb6 HK.out.2
 have g36 := heap_below hb6 HG3.out
 have y3 : w6.cell? ⟨b3, o3 + i * 4 + 3, none⟩ = some (.slice ca3 l.cells.length cc3) := (hb6.cell (p := ⟨b3, o3 + i * 4 + 3, none⟩) hb3z).trans HA3.out.cells
 have y3f : w6.frozen? ⟨b3, o3 + i * 4 + 3, none⟩ = false := frozen_of_heap g36
 have hS6 : w6.cell? ⟨w.heap.size, 0, none⟩ = some (.int .i64 i) ∧ w6.cell? ⟨w.heap.size, 1, none⟩ = some (.int .i64 q) := ⟨y0 0, y0 1⟩
 clear hv6 hb6' hld hHeld
 refine hK.out _ _ hS6 (fun hHeld => ?_)
 clear hK K
 try simp only [Act.put, qI, qX, qY]
 refine wpAnyH_take (i := 13) (v := ?_) (by simp only [qA, qS, qZ]; rfl) (by kernel_rfl) (by kernel_rfl) (by kernel_rfl) (fun _ _ _ h => h) (Or.inl ⟨by rfl, ?_⟩) (by assumption) ?_
 rotate_left 1
 ·intro w hSw; (try dsimp only at hSw); go_simp; (first | done | with_reducible rfl)
 try simp only [Act.put, qI, qX, qY]
 refine wpAnyH_take (i := 14) (v := ?_) (by simp only [qA, qS, qZ]; rfl) (by kernel_rfl) (by kernel_rfl) (by kernel_rfl) (fun _ _ _ h => h) (Or.inl ⟨by rfl, ?_⟩) (by assumption) ?_
 rotate_left 1
 ·intro w hSw; (try dsimp only at hSw); go_simp; (first | done | with_reducible rfl)
 try simp only [Act.put, qI, qX, qY]
 refine wpAnyH_take (i := 15) (v := ?_) (by simp only [qA, qS, qZ]; rfl) (by kernel_rfl) (by kernel_rfl) (by kernel_rfl) (fun _ _ _ h => h) (Or.inl ⟨by rfl, ?_⟩) (by assumption) ?_
 rotate_left 1
 ·intro w hSw; (try dsimp only at hSw); go_simp; (first | done | with_reducible rfl)
 try simp only [Act.put, qI, qX, qY]
 refine wpAnyH_take (i := 16) (v := ?_) (by simp only [qA, qS, qZ]; rfl) (by kernel_rfl) (by kernel_rfl) (by kernel_rfl) (fun _ _ _ h => h) (Or.inl ⟨by rfl, ?_⟩) (by assumption) ?_
 rotate_left 1
 ·intro w hSw; (try dsimp only at hSw); go_simp; (first | done | with_reducible rfl)
 try simp only [Act.put, qI, qX, qY]
 refine wpAnyH_take (i := 17) (v := ?_) (by simp only [qA, qS, qZ]; rfl) (by kernel_rfl) (by kernel_rfl) (by kernel_rfl) (fun _ _ _ h => h) (Or.inl ⟨by rfl, ?_⟩) (by assumption) ?_
 rotate_left 1
 ·intro w hSw; (try dsimp only at hSw); go_simp; (first | done | with_reducible rfl)
 try simp only [Act.put, qI, qX, qY]
 refine wpAnyH_ready (rs := [18]) (by kernel_rfl) (by simp) ?_
 refine AllReadyH.cons (by simp only [qA, qS, qZ]; rfl) (fun K hK => ?_) AllReadyH.nil
 go_simp
 have hS7 : (w6.setCell ⟨b3, o3 + i * 4 + 3, none⟩ (.slice a6 n6 c6)).cell? ⟨w.heap.size, 0, none⟩ = some (.int .i64 i) ∧ (w6.setCell ⟨b3, o3 + i * 4 + 3, none⟩ (.slice a6 n6 c6)).cell? ⟨w.heap.size, 1, none⟩ = some (.int .i64 q) := ⟨(setCell_block e1).trans hS6.1, (setCell_block e1).trans hS6.2⟩
 refine hK.out _ _ hS7 (fun _ => ?_)
 refine wpAnyH_done (by kernel_rfl) ?_ _
 refine NoPanic.normal ?_
 clear hK K hHeld y0 y0f y3 y3f
 obtain ⟨w7, hw7⟩ : ∃ X, w6.setCell ⟨b3, o3 + i * 4 + 3, none⟩ (.slice a6 n6 c6) = X := ⟨_, rfl⟩
 have k17 : w7.heap[w.heap.size + 1]? = some (.cells #[.int .i64 0, .int .i64 0] 24) := by rw [← hw7, heap_set, if_neg e2]; exact k16
 have hfin : Below w.heap.size w w7 := by
  rw [← hw7]
  exact ((H1.out.trans (hx5.mono hs1)).trans (hb6.mono (by omega))).setCell (by show w.heap.size ≤ b3; omega) _
 have hD7 : DocR true w7 (fun b => w4.heap.size ≤ b) (.slice (some ⟨b3, o3, none⟩) d.length c3) (d.set i { l with cells := insertC l.cells q more }) := by
  rw [← hw7]
  refine SliceR.set1 eltLine.tag (SliceR.below (rdLin_stable true) HV5.out hb6) HLL.out (j := 3) (by decide) (.slice a6 n6 c6) ?_
  rintro vs _ ⟨p', q', rfl, hp', hq'⟩
  exact ⟨p', _, rfl, hp', SliceR.stable (rdOf_stable _) HV6.out (Keeps.refl _ _) (fun b h _ => Nat.le_trans hsz45 h)⟩
 have hz7 : w6.heap.size = w7.heap.size := by rw [← hw7]; simp
 have hz56 := hb6.size
 rw [hw7] at hS7 ⊢
 clear hw7 k16 hS6 g36
 obtain ⟨r1, s1⟩ := blk k17
 have HD7 := Lib.hid hD7
 have HFIN := Lib.hid hfin
 clear hD7 hfin
 go_wp2_with fail
 refine wp_region_noPanic ?_
 refine wp_region_held_drew (S := fun w' => w'.cell? ⟨w.heap.size, 0, none⟩ = some (.int .i64 i) ∧ w'.cell? ⟨w.heap.size, 1, none⟩ = some (.int .i64 q)) (by kernel_rfl) ⟨hS7.1, hS7.2⟩ (fun hHeld => ?_)
 obtain ⟨X9, hX9⟩ : ∃ X, w7.drew = X := ⟨_, rfl⟩
 have hd9 : Below w7.heap.size w7 X9 := hX9 ▸ (Below.refl _ _).drew
 rw [hX9] at hHeld ⊢
 have k19 := heap_below hd9 k17
 obtain ⟨r9, s9⟩ := blk k19
 have HD9 := Lib.hid hd9
 have HK9 := Lib.hid k19
 have HS9 := Lib.hid hHeld
 have e3 : w.heap.size + 1 ≠ w.heap.size := by omega
 clear hX9 hS7 r1 s1 k17 hd9 k19
 refine wpAnyH_take (i := 0) (v := ?_) (by simp only [qA, qZ]; rfl) (by kernel_rfl) (by kernel_rfl) (by kernel_rfl) (fun _ _ _ h => h) (Or.inl ⟨by rfl, ?_⟩) (by assumption) ?_
 rotate_left 1
 ·intro w hSw; (try dsimp only at hSw); go_simp; (first | done | with_reducible rfl)
 try simp only [Act.put, qI, qX, qY]
 refine wpAnyH_take (i := 1) (v := ?_) (by simp only [qA, qS, qZ]; rfl) (by kernel_rfl) (by kernel_rfl) (by kernel_rfl) (fun _ _ _ h => h) (Or.inl ⟨by rfl, ?_⟩) (by assumption) ?_
 rotate_left 1
 ·intro w hSw; (try dsimp only at hSw); go_simp; (first | done | with_reducible rfl)
 try simp only [Act.put, qI, qX, qY]
 refine wpAnyH_take (i := 2) (v := ?_) (by simp only [qA, qS, qZ]; rfl) (by kernel_rfl) (by kernel_rfl) (by kernel_rfl) (fun _ _ _ h => h) (Or.inl ⟨by rfl, ?_⟩) (by assumption) ?_
 rotate_left 1
 ·intro w hSw; (try dsimp only at hSw); go_simp; (first | done | with_reducible rfl)
 try simp only [Act.put, qI, qX, qY]
 refine wpAnyH_take (i := 3) (v := ?_) (by simp only [qA, qS, qZ]; rfl) (by kernel_rfl) (by kernel_rfl) (by kernel_rfl) (fun _ _ _ h => h) (Or.inl ⟨by rfl, ?_⟩) (by assumption) ?_
 rotate_left 1
 ·intro w hSw; (try dsimp only at hSw); go_simp; (first | done | with_reducible rfl)
 try simp only [Act.put, qI, qX, qY]
 refine wpAnyH_take (i := 4) (v := ?_) (by simp only [qA, qS, qZ]; rfl) (by kernel_rfl) (by kernel_rfl) (by kernel_rfl) (fun _ _ _ h => h) (Or.inl ⟨by rfl, ?_⟩) (by assumption) ?_
 rotate_left 1
 ·intro w hSw; (try dsimp only at hSw); go_simp; (first | done | with_reducible rfl)
 try simp only [Act.put, qI, qX, qY]
 refine wpAnyH_take (i := 5) (v := ?_) (by simp only [qA, qS, qZ]; rfl) (by kernel_rfl) (by kernel_rfl) (by kernel_rfl) (fun _ _ _ h => h) (Or.inl ⟨by rfl, ?_⟩) (by assumption) ?_
 rotate_left 1
 ·intro w hSw; (try dsimp only at hSw); go_simp; (first | done | with_reducible rfl)
 try simp only [Act.put, qI, qX, qY]
 refine wpAnyH_take (i := 6) (v := ?_) (by simp only [qA, qS, qZ]; rfl) (by kernel_rfl) (by kernel_rfl) (by kernel_rfl) (fun _ _ _ h => h) (Or.inl ⟨by rfl, ?_⟩) (by assumption) ?_
 rotate_left 1
 ·intro w hSw; (try dsimp only at hSw); go_simp; (first | done | with_reducible rfl)
 try simp only [Act.put, qI, qX, qY]
 refine wpAnyH_take (i := 7) (v := ?_) (by simp only [qA, qS, qZ]; rfl) (by kernel_rfl) (by kernel_rfl) (by kernel_rfl) (fun _ _ _ h => h) (Or.inl ⟨by rfl, ?_⟩) (by assumption) ?_
 rotate_left 1
 ·intro w hSw; (try dsimp only at hSw); go_simp; (first | done | with_reducible rfl)
 try simp only [Act.put, qI, qX, qY]
 refine wpAnyH_take (i := 8) (v := ?_) (by simp only [qA, qS, qZ]; rfl) (by kernel_rfl) (by kernel_rfl) (by kernel_rfl) (fun _ _ _ h => h) (Or.inl ⟨by rfl, ?_⟩) (by assumption) ?_
 rotate_left 1
 ·intro w hSw; (try dsimp only at hSw); go_simp; (first | done | with_reducible rfl)
 try simp only [Act.put, qI, qX, qY]
 refine wpAnyH_ready (rs := [9]) (by kernel_rfl) (by simp) ?_
 refine AllReadyH.cons (by simp only [qA, qS, qZ]; rfl) (fun K hK => ?_) AllReadyH.nil
 go_simp
 refine hK.out _ _ hHeld (fun _ => ?_)
 clear hK K
 try simp only [Act.put, qI, qX, qY]
 refine wpAnyH_ready (rs := [10]) (by kernel_rfl) (by simp) ?_
 refine AllReadyH.cons (by simp only [qA, qS, qZ]; rfl) (fun K hK => ?_) AllReadyH.nil
 go_simp
 have hSA : ∀ u0 u1, ((X9.setCell ⟨w.heap.size + 1, 0, none⟩ u0).setCell ⟨w.heap.size + 1, 1, none⟩ u1).cell? ⟨w.heap.size, 0, none⟩ = some (.int .i64 i) ∧ ((X9.setCell ⟨w.heap.size + 1, 0, none⟩ u0).setCell ⟨w.heap.size + 1, 1, none⟩ u1).cell? ⟨w.heap.size, 1, none⟩ = some (.int .i64 q) := fun u0 u1 =>
  ⟨(setCell_block e3).trans ((setCell_block e3).trans HS9.out.1), (setCell_block e3).trans ((setCell_block e3).trans HS9.out.2)⟩
 refine hK.out _ _ (hSA _ _) (fun _ => ?_)
 clear hK K
 try simp only [Act.put, qI, qX, qY]
 refine wpAnyH_ready (rs := [11]) (by kernel_rfl) (by simp) ?_
 refine AllReadyH.cons (by simp only [qA, qS, qZ]; rfl) (fun K hK => ?_) AllReadyH.nil
 go_simp
 refine hK.out _ _ (hSA _ _) (fun _ => ?_)
 refine wpAnyH_done (by kernel_rfl) ?_ _
 refine NoPanic.normal ?_
 clear hK K hSA
 go_wp2_with fail
 have k19 := HK9.out
 have hwr : IntKind.i64.wrap ((q : Int) + (more.length : Int)) = (q : Int) + (more.length : Int) := IntWalk.i64_in _ (by omega)
 refine bodyPost_ret (results_dpe rfl _ _ (w.heap.size + 1) (.int .i64 i) (.int .i64 ((q : Int) + (more.length : Int))) rfl (by simp [heap_set, putIn, k19, hwr])) rfl ?_
 unfold DocPSaid
 rw [HR.out]
 have hz9 := HD9.out.size
 have hfz := HFIN.out.size
 have hw4 : w.heap.size + 2 ≤ w4.heap.size := by omega
 refine ⟨_, by rw [HP.out]; rfl, SliceR.stable (rdLin_stable true) HD7.out ((((Keeps.all HD9.out)).set (fun hh => by have hh : w4.heap.size ≤ w.heap.size + 1 := hh; omega) _).set (fun hh => by have hh : w4.heap.size ≤ w.heap.size + 1 := hh; omega) _) (fun b h _ => by have h : w4.heap.size ≤ b := h; omega), ?_⟩
 exact ((HFIN.out.trans (HD9.out.mono hfz)).setCell (by show w.heap.size ≤ w.heap.size + 1; omega) _).setCell (by show w.heap.size ≤ w.heap.size + 1; omega) _
end Go.Proofs.YtpndnbjpnajaaaaGreatDoor
namespace Go.Proofs.Qw
open Go.RowKit Go.Proofs.YtpndnbjpnajaaaaGreatDoor
theorem setRows_before (C : List Cel → Nat → Nat → List Cel) (d : Doc) (i p j q : Nat) : ∀ (n m : Nat), i + n ≤ m → (setRows C d (rowsTo d i p j q (i + n)))[m]? = d[m]?
 | 0, m, _ => by rw [Nat.add_zero, rowsTo_nil]; rfl
 | n + 1, m, h => by
  have ih := setRows_before C d i p j q n m (by omega)
  rw [show i + (n + 1) = i + n + 1 by omega, rowsTo_step d (by omega), setRows_snoc]
  unfold setRow
  rw [List.getElem?_set_ne (by show ¬ i + n = m; omega)]
  exact ih
theorem setRows_step (C : List Cel → Nat → Nat → List Cel) {d : Doc} {i p j q k : Nat} {l : Lin} (h : i ≤ k) (hl : d[k]? = some l) :
  (setRows C d (rowsTo d i p j q k))[k]? = some l ∧ setRows C d (rowsTo d i p j q (k + 1)) = (setRows C d (rowsTo d i p j q k)).set k { l with cells := C l.cells (rowB d i p j q k).2.1 (rowB d i p j q k).2.2 } := by
 have hb := setRows_before C d i p j q (k - i) k (by omega)
 rw [show i + (k - i) = k by omega, hl] at hb
 refine ⟨hb, ?_⟩
 rw [rowsTo_step d h, setRows_snoc, setRow_at (x := rowB d i p j q k) hb]
 rfl
end Go.Proofs.Qw
namespace Go.Proofs.Qw
open Go.RowKit Go.Proofs.YtpndnbjpnajaaaaGreatDoor
def flat (d : Doc) : List Cel := d.flatMap (·.cells)
theorem flatc_len (d : Doc) : (flat d).length = sizeD d := by unfold flat sizeD; rw [List.length_flatMap]
theorem flat_append (d e : Doc) : flat (d ++ e) = flat d ++ flat e := by unfold flat; rw [List.flatMap_append]
theorem flat_one (l : Lin) : flat [l] = l.cells := by simp [flat]
theorem split_at {d : Doc} {i : Nat} {l : Lin} (h : d[i]? = some l) : d = d.take i ++ [l] ++ d.drop (i + 1) := by
 have hi := (List.getElem?_eq_some_iff.1 h).1
 have e : d.drop i = l :: d.drop (i + 1) := by
  rw [List.drop_eq_getElem_cons hi, (List.getElem?_eq_some_iff.1 h).2]
 rw [List.append_assoc, List.singleton_append, ← e, List.take_append_drop]
theorem flat_at {d : Doc} {i : Nat} {l : Lin} (h : d[i]? = some l) : flat d = flat (d.take i) ++ (l.cells ++ flat (d.drop (i + 1))) := by
 conv => lhs; rw [split_at h]
 rw [flat_append, flat_append, flat_one, List.append_assoc]
def offs (d : Doc) (i p : Nat) : Nat := (flat (d.take i)).length + p
theorem flat_take {d : Doc} {i p : Nat} {l : Lin} (h : d[i]? = some l) (hp : p ≤ l.cells.length) : (flat d).take (offs d i p) = flat (d.take i) ++ l.cells.take p := by
 unfold offs
 rw [flat_at h, List.take_length_add_append, List.take_append_of_le_length hp]
theorem flat_drop {d : Doc} {i p : Nat} {l : Lin} (h : d[i]? = some l) (hp : p ≤ l.cells.length) : (flat d).drop (offs d i p) = l.cells.drop p ++ flat (d.drop (i + 1)) := by
 unfold offs
 rw [flat_at h, List.drop_length_add_append, List.drop_append_of_le_length hp]
theorem flat_next {d : Doc} {k : Nat} {l : Lin} (h : d[k]? = some l) : flat (d.take (k + 1)) = flat (d.take k) ++ l.cells := by
 rw [List.take_add_one, h, flat_append]
 simp [flat]
theorem cellsD_at {d : Doc} {i p j q : Nat} (h : spanD d ⟨i, p⟩ ⟨j, q⟩ = true) : cellsD d ⟨i, p⟩ ⟨j, q⟩ = cellsL d (rowsTo d i p j q (j + 1)) := by unfold cellsD; rw [if_pos h]; rfl
theorem cmp_le {i p j q : Nat} : cmpP ⟨i, p⟩ ⟨j, q⟩ ≤ 0 ↔ i < j ∨ i = j ∧ p ≤ q := by
 unfold cmpP cmpI
 simp only
 by_cases h : (i : Int) < j
 ·simp [h]; omega
 ·by_cases h2 : (j : Int) < i
  ·simp [h, h2]; omega
  ·simp only [h, h2, if_false]
   simp only [ne_eq, not_true_eq_false, if_false]
   split
   ·simp; omega
   ·split
    ·simp; omega
    ·simp; omega
theorem is_mk {d : Doc} {i p : Nat} {l : Lin} (hl : d[i]? = some l) (hp : p ≤ l.cells.length) : isD d ⟨i, p⟩ = true := by
 rw [isD_at hl]
 simp
 omega
theorem span_mk {d : Doc} {i p j q : Nat} {l m : Lin} (hM : mayD d = true) (hl : d[i]? = some l) (hm : d[j]? = some m) (hp : p ≤ l.cells.length) (hq : q ≤ m.cells.length) (hij : i ≤ j) (hpq : i = j → p ≤ q) : spanD d ⟨i, p⟩ ⟨j, q⟩ = true := by
 unfold spanD
 rw [hM, is_mk hl hp, is_mk hm hq]
 simp only [Bool.and_true, Bool.true_and, decide_eq_true_eq, cmp_le]
 omega
theorem mayL_cells {l : Lin} {cs : List Cel} (h : mayL l = true) (hc : mayCs cs = true) : mayL { l with cells := cs } = true := by
 unfold mayL at h ⊢
 simp only [Bool.and_eq_true] at h ⊢
 exact ⟨h.1, hc⟩
theorem mayL_has {l : Lin} (h : mayL l = true) : mayCs l.cells = true := by
 unfold mayL at h
 simp only [Bool.and_eq_true] at h
 exact h.2
theorem mayCs_take {l : List Cel} (h : mayCs l = true) (n : Nat) : mayCs (l.take n) = true := by
 unfold mayCs at h ⊢
 rw [List.all_eq_true] at h ⊢
 exact fun x hx => h x (List.mem_of_mem_take hx)
theorem mayCs_drop {l : List Cel} (h : mayCs l = true) (n : Nat) : mayCs (l.drop n) = true := by
 unfold mayCs at h ⊢
 rw [List.all_eq_true] at h ⊢
 exact fun x hx => h x (List.mem_of_mem_drop hx)
theorem mayCs_append {l m : List Cel} (h : mayCs l = true) (k : mayCs m = true) : mayCs (l ++ m) = true := by
 unfold mayCs at h k ⊢
 rw [List.all_append, h, k]
 rfl
theorem mayD_iff {d : Doc} : mayD d = true ↔ 1 ≤ d.length ∧ d.length ≤ 200 ∧ (flat d).length ≤ 4000 ∧ ∀ l ∈ d, mayL l = true := by
 unfold mayD
 simp only [Bool.and_eq_true, decide_eq_true_eq, List.all_eq_true, flatc_len]
 exact ⟨fun ⟨⟨⟨a, b⟩, c⟩, e⟩ => ⟨a, b, c, e⟩, fun ⟨a, b, c, e⟩ => ⟨⟨⟨a, b⟩, c⟩, e⟩⟩
theorem flat_delete {d : Doc} {i p j q : Nat} {l m : Lin} (hl : d[i]? = some l) (hm : d[j]? = some m) (hp : p ≤ l.cells.length) (hq : q ≤ m.cells.length) :
  flat (deleteL d ⟨i, p⟩ ⟨j, q⟩) = (flat d).take (offs d i p) ++ (flat d).drop (offs d j q) := by
 rw [deleteL_at hl hm, flat_append, flat_append, flat_one, flat_take hl hp, flat_drop hm hq]
 simp
theorem offs_mono {d : Doc} {i p j q : Nat} {l m : Lin} (hl : d[i]? = some l) (hm : d[j]? = some m) (hp : p ≤ l.cells.length) (hij : i ≤ j) (hpq : i = j → p ≤ q) : offs d i p ≤ offs d j q := by
 unfold offs
 by_cases e : i = j
 ·subst e
  have := hpq rfl
  omega
 ·have h1 : (d.take j).take (i + 1) = d.take (i + 1) := by rw [List.take_take, Nat.min_eq_left (by omega)]
  have h2 : flat (d.take j) = flat (d.take (i + 1)) ++ flat ((d.take j).drop (i + 1)) := by rw [← h1, ← flat_append, List.take_append_drop]
  rw [h2, flat_next hl]
  simp only [List.length_append]
  omega
theorem mem_of_at {d : Doc} {i : Nat} {l : Lin} (h : d[i]? = some l) : l ∈ d := List.mem_of_getElem? h
theorem delete_may {d : Doc} {i p j q : Nat} {l m : Lin} (hM : mayD d = true) (hl : d[i]? = some l) (hm : d[j]? = some m) (hp : p ≤ l.cells.length) (hq : q ≤ m.cells.length) (hij : i ≤ j) (hpq : i = j → p ≤ q) :
  mayD (deleteL d ⟨i, p⟩ ⟨j, q⟩) = true := by
 obtain ⟨a1, a2, a3, a4⟩ := mayD_iff.1 hM
 have hj := (List.getElem?_eq_some_iff.1 hm).1
 have ho := offs_mono hl hm hp hij hpq
 refine mayD_iff.2 ⟨?_, ?_, ?_, fun x hx => ?_⟩
 ·rw [deleteL_at hl hm]; simp; omega
 ·rw [deleteL_at hl hm]
  simp only [List.length_append, List.length_take, List.length_drop, List.length_singleton]
  omega
 ·rw [flat_delete hl hm hp hq, List.length_append, List.length_take, List.length_drop]
  omega
 ·rw [deleteL_at hl hm] at hx
  simp only [List.mem_append, List.mem_singleton] at hx
  rcases hx with (hx | rfl) | hx
  ·exact a4 x (List.mem_of_mem_take hx)
  ·exact mayL_cells (a4 l (mem_of_at hl)) (mayCs_append (mayCs_take (mayL_has (a4 l (mem_of_at hl))) _) (mayCs_drop (mayL_has (a4 m (mem_of_at hm))) _))
  ·exact a4 x (List.mem_of_mem_drop hx)
theorem delete_get {d : Doc} {i p j q : Nat} {l m : Lin} (hl : d[i]? = some l) (hm : d[j]? = some m) (k : Nat) :
  (deleteL d ⟨i, p⟩ ⟨j, q⟩)[k]? = if k < i then d[k]? else if k = i then some { l with cells := l.cells.take p ++ m.cells.drop q } else d[k - i + j]? := by
 have hi := (List.getElem?_eq_some_iff.1 hl).1
 rw [deleteL_at hl hm]
 by_cases h1 : k < i
 ·rw [if_pos h1, List.append_assoc, List.getElem?_append_left (by simp; omega), List.getElem?_take, if_pos h1]
 ·rw [if_neg h1]
  by_cases h2 : k = i
  ·subst h2
   rw [if_pos rfl, List.append_assoc, List.getElem?_append_right (by simp; omega), List.length_take, Nat.min_eq_left (by omega), Nat.sub_self]
   rfl
  ·rw [if_neg h2, List.getElem?_append_right (by simp; omega)]
   simp only [List.length_append, List.length_take, List.length_singleton, Nat.min_eq_left (Nat.le_of_lt hi)]
   rw [List.getElem?_drop]
   congr 1
   omega
end Go.Proofs.Qw
namespace Go.Proofs.Qw
open Go.RowKit Go.Proofs.YtpndnbjpnajaaaaGreatDoor
theorem set_at {d : Doc} {i : Nat} {l : Lin} (h : d[i]? = some l) (x : Lin) : d.set i x = d.take i ++ [x] ++ d.drop (i + 1) := by
 have hi := (List.getElem?_eq_some_iff.1 h).1
 rw [List.set_eq_take_append_cons_drop, if_pos hi, List.append_assoc, List.singleton_append]
theorem set_self {d : Doc} {i : Nat} {l : Lin} (h : d[i]? = some l) : d.take i ++ [l] ++ d.drop (i + 1) = d := (split_at h).symm
theorem insert_back {d : Doc} {a : Ps} {more : List Cel} {x : Doc} {p : Ps} (h : insertD more d a = (x, p, 0)) : mayD x = true ∧ sizeD x = sizeD d + more.length ∧ deleteD x a p = (d, 0) := by
 unfold insertD at h
 split at h
 ·rename_i hc
  rw [Bool.and_eq_true] at hc
  split at h
  ·cases h
  ·rename_i hsz
   obtain ⟨hM, i, j, q, q', l, m, rfl, e, hl, hm, hq, hq', _, _⟩ := span_at hc.1
   obtain ⟨a1, a2, a3, a4⟩ := mayD_iff.1 hM
   have hi := (List.getElem?_eq_some_iff.1 hl).1
   simp only [Prod.mk.injEq, Int.toNat_natCast, List.getD, hl, Option.getD_some] at h
   obtain ⟨rfl, rfl, _⟩ := h
   have hfl : flat (d.set i { l with cells := insertC l.cells q more }) = flat (d.take i) ++ (insertC l.cells q more ++ flat (d.drop (i + 1))) := by
    rw [set_at hl, flat_append, flat_append, flat_one, List.append_assoc]
   have hin : (insertC l.cells q more).length = l.cells.length + more.length := by
    unfold insertC
    simp only [List.length_append, List.length_take, List.length_drop]
    omega
   have hsize : sizeD (d.set i { l with cells := insertC l.cells q more }) = sizeD d + more.length := by
    rw [← flatc_len, ← flatc_len, hfl, flat_at hl]
    simp only [List.length_append, hin]
    omega
   have hmay : mayD (d.set i { l with cells := insertC l.cells q more }) = true := by
    refine mayD_iff.2 ⟨by rw [List.length_set]; exact a1, by rw [List.length_set]; exact a2, by rw [flatc_len, hsize]; omega, fun y hy => ?_⟩
    rcases List.mem_or_eq_of_mem_set hy with hy | rfl
    ·exact a4 y hy
    ·have hc1 := mayL_has (a4 l (mem_of_at hl))
     exact mayL_cells (a4 l (mem_of_at hl)) (mayCs_append (mayCs_append (mayCs_take hc1 _) hc.2) (mayCs_drop hc1 _))
   refine ⟨hmay, hsize, ?_⟩
   have hx : (d.set i { l with cells := insertC l.cells q more })[i]? = some { l with cells := insertC l.cells q more } := List.getElem?_set_self hi
   have hsp : spanD (d.set i { l with cells := insertC l.cells q more }) ⟨i, q⟩ ⟨i, ((q + more.length : Nat) : Int)⟩ = true := span_mk hmay hx hx (by simp only [hin]; omega) (by simp only [hin]; omega) (Nat.le_refl _) (fun _ => by omega)
   have hq2 : (q : Int) + (more.length : Int) = ((q + more.length : Nat) : Int) := by omega
   rw [hq2]
   unfold deleteD
   rw [if_pos hsp, deleteL_at hx hx]
   have e1 : (insertC l.cells q more).take q = l.cells.take q := by
    unfold insertC
    rw [List.append_assoc, List.take_append_of_le_length (by simp; omega), List.take_take, Nat.min_self]
   have e2 : (insertC l.cells q more).drop (q + more.length) = l.cells.drop q := by
    unfold insertC
    have hlen : (l.cells.take q ++ more).length = q + more.length := by simp; omega
    rw [List.drop_append_of_le_length (by omega), List.drop_eq_nil_of_le (by omega), List.nil_append]
   simp only [e1, e2, List.take_append_drop, Prod.mk.injEq, and_true]
   rw [List.take_set_of_le (Nat.le_refl _), List.drop_set_of_lt (by omega)]
   exact set_self hl
 ·cases h
theorem part_length {d : Doc} {i p j q : Nat} (h : spanD d ⟨i, p⟩ ⟨j, q⟩ = true) : (partD d ⟨i, p⟩ ⟨j, q⟩).1.length = j + 1 - i := by
 unfold partD
 rw [if_pos h]
 simp [rowsTo]
end Go.Proofs.Qw
namespace Go.Proofs.Qw
open Go.RowKit Go.Proofs.YtpndnbjpnajaaaaGreatDoor
def lineF (F : Cel → Cel) (i p j q k : Nat) (l : Lin) : Lin := if i ≤ k ∧ k ≤ j then { l with cells := mapIn F (if k = i then p else 0) (if k = j then q else l.cells.length) l.cells } else l
theorem setRows_to {F : Cel → Cel} {d : Doc} {i p j q : Nat} (hj : j < d.length) : ∀ n k, k = i + n → k ≤ j + 1 → ∀ m : Nat, (setRows (fun cs i j => mapIn F i j cs) d (rowsTo d i p j q k))[m]? = (d[m]?).map fun l => if m < k then lineF F i p j q m l else l
 | 0, k, hk, _, m => by
  obtain rfl : k = i := hk
  rw [rowsTo_nil]
  show d[m]? = _
  cases hd : d[m]? with
  | none => rfl
  | some l =>
   simp only [Option.map_some, lineF]
   by_cases h : m < k
   ·rw [if_pos h, if_neg (by omega)]
   ·rw [if_neg h]
 | n + 1, k, hk, hkj, m => by
  subst hk
  obtain ⟨x, hx, _⟩ := getOf d (i + n) (by omega)
  obtain ⟨h1, h2⟩ := setRows_step (fun cs i j => mapIn F i j cs) (i := i) (p := p) (j := j) (q := q) (by omega) hx
  have ih := setRows_to (F := F) (d := d) (i := i) (p := p) (j := j) (q := q) hj n (i + n) rfl (by omega)
  rw [show i + (n + 1) = i + n + 1 from rfl, h2]
  by_cases e : i + n = m
  ·subst e
   rw [List.getElem?_set_self (List.getElem?_eq_some_iff.1 h1).1, hx, rowB_len d hx]
   simp only [Option.map_some, lineF]
   rw [if_pos (show i + n < i + n + 1 by omega), if_pos (show i ≤ i + n ∧ i + n ≤ j by omega)]
  ·rw [List.getElem?_set_ne e, ih m]
   cases hd : d[m]? with
   | none => rfl
   | some l =>
    simp only [Option.map_some]
    by_cases h : m < i + n
    ·rw [if_pos h, if_pos (by omega)]
    ·rw [if_neg h, if_neg (by omega)]
theorem setRows_get {F : Cel → Cel} {d : Doc} {i p j q : Nat} (hj : j < d.length) (hij : i ≤ j) (m : Nat) : (setRows (fun cs i j => mapIn F i j cs) d (rowsTo d i p j q (j + 1)))[m]? = (d[m]?).map (lineF F i p j q m) := by
 rw [setRows_to hj (j + 1 - i) (j + 1) (by omega) (Nat.le_refl _)]
 cases hd : d[m]? with
 | none => rfl
 | some l =>
  simp only [Option.map_some]
  by_cases h : m < j + 1
  ·rw [if_pos h]
  ·rw [if_neg h, lineF, if_neg (by omega)]
theorem lineF_length (F : Cel → Cel) (i p j q k : Nat) (l : Lin) : (lineF F i p j q k l).cells.length = l.cells.length := by
 unfold lineF
 split
 ·exact mapIn_length _ _ _ _
 ·rfl
theorem mapIn_cut {F : Cel → Cel} {i k : Nat} {l : List Cel} : ((mapIn F i k l).drop i).take (k - i) = ((l.drop i).take (k - i)).map F := by
 apply List.ext_getElem?
 intro n
 simp only [List.getElem?_take, List.getElem?_drop, List.getElem?_map, mapIn_get]
 split
 ·cases l[i + n]? with
  | none => rfl
  | some x => simp only [Option.map_some]; rw [if_pos (by omega)]
 ·rfl
theorem mem_mapIn {F : Cel → Cel} {i k : Nat} {l : List Cel} {y : Cel} (h : y ∈ mapIn F i k l) : ∃ x ∈ l, y = x ∨ y = F x := by
 obtain ⟨n, hn⟩ := List.getElem?_of_mem h
 rw [mapIn_get] at hn
 cases hx : l[n]? with
 | none => rw [hx] at hn; cases hn
 | some x =>
  rw [hx] at hn
  simp only [Option.map_some, Option.some.injEq] at hn
  refine ⟨x, List.mem_of_getElem? hx, ?_⟩
  split at hn
  ·exact .inr hn.symm
  ·exact .inl hn.symm
theorem cells_set {F : Cel → Cel} {d : Doc} {a b : Ps} (hF : ∀ c, mayC c = true → mayC (F c) = true) (h : spanD d a b = true) :
  mayD (setRows (fun cs i j => mapIn F i j cs) d (rowsTo d a.line.toNat a.col.toNat b.line.toNat b.col.toNat (b.line.toNat + 1))) = true ∧
  spanD (setRows (fun cs i j => mapIn F i j cs) d (rowsTo d a.line.toNat a.col.toNat b.line.toNat b.col.toNat (b.line.toNat + 1))) a b = true ∧
  cellsD (setRows (fun cs i j => mapIn F i j cs) d (rowsTo d a.line.toNat a.col.toNat b.line.toNat b.col.toNat (b.line.toNat + 1))) a b = (cellsD d a b).map F := by
 obtain ⟨hM, i, j, p, q, l, m, rfl, rfl, hl, hm, hp, hq, hij, hpq⟩ := span_at h
 obtain ⟨a1, a2, a3, a4⟩ := mayD_iff.1 hM
 have hi := (List.getElem?_eq_some_iff.1 hl).1
 have hj := (List.getElem?_eq_some_iff.1 hm).1
 simp only [Int.toNat_natCast]
 have hget := setRows_get (F := F) (p := p) (q := q) hj hij
 obtain ⟨D, hD⟩ : ∃ D, setRows (fun cs i j => mapIn F i j cs) d (rowsTo d i p j q (j + 1)) = D := ⟨_, rfl⟩
 rw [hD] at hget ⊢
 have hlen : D.length = d.length := by
  have h1 := hget d.length
  rw [List.getElem?_eq_none (Nat.le_refl _)] at h1
  have h2 : D.length ≤ d.length := List.getElem?_eq_none_iff.1 h1
  have h3 := hget D.length
  rw [List.getElem?_eq_none (Nat.le_refl _)] at h3
  have h4 : d[D.length]? = none := by
   cases hd : d[D.length]? with
   | none => rfl
   | some x => rw [hd] at h3; cases h3
  have := List.getElem?_eq_none_iff.1 h4
  omega
 have hmapl : D.map (·.cells.length) = d.map (·.cells.length) := by
  apply List.ext_getElem?
  intro n
  rw [List.getElem?_map, List.getElem?_map, hget]
  cases d[n]? with
  | none => rfl
  | some x => simp only [Option.map_some, lineF_length]
 have hsz : sizeD D = sizeD d := by unfold sizeD; rw [hmapl]
 have hmay : mayD D = true := by
  refine mayD_iff.2 ⟨by omega, by omega, by rw [flatc_len, hsz, ← flatc_len]; exact a3, fun y hy => ?_⟩
  obtain ⟨n, hn⟩ := List.getElem?_of_mem hy
  rw [hget] at hn
  cases hx : d[n]? with
  | none => rw [hx] at hn; cases hn
  | some x =>
   rw [hx] at hn
   simp only [Option.map_some, Option.some.injEq] at hn
   subst hn
   have hx4 := a4 x (mem_of_at hx)
   unfold lineF
   split
   ·refine mayL_cells hx4 ?_
    unfold mayCs
    rw [List.all_eq_true]
    intro z hz
    have hcs := mayL_has hx4
    unfold mayCs at hcs
    rw [List.all_eq_true] at hcs
    obtain ⟨u, hu, e⟩ := mem_mapIn hz
    rcases e with rfl | rfl
    ·exact hcs _ hu
    ·exact hF _ (hcs _ hu)
   ·exact hx4
 have hDl := hget i
 have hDm := hget j
 rw [hl] at hDl
 rw [hm] at hDm
 simp only [Option.map_some] at hDl hDm
 have hsp : spanD D ⟨i, p⟩ ⟨j, q⟩ = true := span_mk hmay hDl hDm (by rw [lineF_length]; exact hp) (by rw [lineF_length]; exact hq) hij hpq
 refine ⟨hmay, hsp, ?_⟩
 rw [cellsD_at hsp, cellsD_at h]
 have hto : ∀ n k, k = i + n → k ≤ j + 1 → cellsL D (rowsTo D i p j q k) = (cellsL d (rowsTo d i p j q k)).map F := by
  intro n
  induction n with
  | zero =>
   intro k hk _
   obtain rfl : k = i := hk
   rw [rowsTo_nil, rowsTo_nil]
   rfl
  | succ n ih =>
   intro k hk hkj
   subst hk
   obtain ⟨x, hx, _⟩ := getOf d (i + n) (by omega)
   have hy := hget (i + n)
   rw [hx] at hy
   simp only [Option.map_some] at hy
   rw [show i + (n + 1) = i + n + 1 from rfl, rowsTo_step D (by omega), rowsTo_step d (by omega), cellsL_snoc, cellsL_snoc, List.map_append, ih (i + n) rfl (by omega), rowB_len D hy, rowB_len d hx, cellsB_at (by exact hy), cellsB_at (by exact hx)]
   congr 1
   simp only [lineF_length]
   have : (lineF F i p j q (i + n) x).cells = mapIn F (if i + n = i then p else 0) (if i + n = j then q else x.cells.length) x.cells := by
    unfold lineF
    rw [if_pos ⟨by omega, by omega⟩]
   rw [this]
   exact mapIn_cut
 exact hto (j + 1 - i) (j + 1) (by omega) (Nat.le_refl _)
theorem bits_fin (x s c : Int) (hx : 0 ≤ x ∧ x ≤ 15) (hs : 0 ≤ s ∧ s ≤ 15) (hc : 0 ≤ c ∧ c ≤ 15) :
  bits .and .i64 s 15 = s ∧ (0 ≤ bits .or .i64 (bits .andNot .i64 x c) s ∧ bits .or .i64 (bits .andNot .i64 x c) s ≤ 15) ∧ bits .and .i64 (bits .or .i64 (bits .andNot .i64 x c) s) s = s ∧ bits .and .i64 (bits .or .i64 (bits .andNot .i64 x c) s) (bits .andNot .i64 c s) = 0 := by
 obtain ⟨x, rfl⟩ := Int.eq_ofNat_of_zero_le hx.1
 obtain ⟨s, rfl⟩ := Int.eq_ofNat_of_zero_le hs.1
 obtain ⟨c, rfl⟩ := Int.eq_ofNat_of_zero_le hc.1
 have H : ∀ x s c : Fin 16, bits .and .i64 (s.val : Int) 15 = s.val ∧ (0 ≤ bits .or .i64 (bits .andNot .i64 (x.val : Int) c.val) s.val ∧ bits .or .i64 (bits .andNot .i64 (x.val : Int) c.val) s.val ≤ 15) ∧ bits .and .i64 (bits .or .i64 (bits .andNot .i64 (x.val : Int) c.val) s.val) s.val = s.val ∧ bits .and .i64 (bits .or .i64 (bits .andNot .i64 (x.val : Int) c.val) s.val) (bits .andNot .i64 (c.val : Int) s.val) = 0 := by decide +kernel
 exact H ⟨x, by omega⟩ ⟨s, by omega⟩ ⟨c, by omega⟩
theorem may_small {d : Doc} (h : mayD d = true) : Small d ∧ Fits d := by
 obtain ⟨h1, h2, h3, h4⟩ := mayD_iff.1 h
 rw [flatc_len] at h3
 refine ⟨⟨by omega, by omega, fun l hl c hc => ?_⟩, by omega, fun l hl => ?_⟩
 ·have := h4 l hl
  unfold mayL at this
  simp only [Bool.and_eq_true] at this
  have hcs := this.2
  unfold mayCs at hcs
  have hm := List.all_eq_true.1 hcs c hc
  unfold mayC linkF at hm
  simp only [Bool.and_eq_true, Bool.or_eq_true, decide_eq_true_eq] at hm
  rcases hm.2 with e | e
  ·rw [e]; simp
  ·unfold targetF valueF valueB at e
   simp only [Bool.and_eq_true, decide_eq_true_eq] at e
   have h5 := e.1.2.1
   have : (⟨c.href.toArray⟩ : ByteArray).size = c.href.length := by show c.href.toArray.size = _; simp
   omega
 ·have hm := h4 l hl
  unfold mayL at hm
  simp only [Bool.and_eq_true, decide_eq_true_eq] at hm
  obtain ⟨i, hi⟩ := List.getElem?_of_mem hl
  have := cells_le hi
  omega
end Go.Proofs.Qw
namespace Go.Proofs.Qw
open Go.RowKit Go.Proofs.YtpndnbjpnajaaaaGreatDoor
theorem may_setBits {s c : Int} (hs : 0 ≤ s ∧ s ≤ 15) (hc : 0 ≤ c ∧ c ≤ 15) : ∀ x, mayC x = true → mayC (setBits s c x) = true := by
 intro x hx
 unfold mayC at hx ⊢
 simp only [Bool.and_eq_true, decide_eq_true_eq] at hx ⊢
 obtain ⟨⟨⟨h1, h2⟩, h3⟩, h4⟩ := hx
 have h := (bits_fin x.bits s c ⟨h2, h3⟩ hs hc).2.1
 have e1 := (bits_fin x.bits s c ⟨h2, h3⟩ hs hc).1
 have e2 := (bits_fin x.bits c s ⟨h2, h3⟩ hc hs).1
 have e : (setBits s c x).bits = bits .or .i64 (bits .andNot .i64 x.bits c) s := by unfold setBits; simp only [e1, e2]
 rw [e]
 exact ⟨⟨⟨h1, h.1⟩, h.2⟩, h4⟩
theorem may_setHref {h : List UInt8} (hl : linkF h = true) : ∀ x, mayC x = true → mayC (setHref h x) = true := by
 intro x hx
 unfold mayC setHref at *
 simp only [Bool.and_eq_true, decide_eq_true_eq] at hx ⊢
 exact ⟨hx.1, hl⟩
end Go.Proofs.Qw
namespace Go.Proofs.Qw
open Go.RowKit Go.Proofs.YtpndnbjpnajaaaaGreatDoor
theorem isD_alike {D E : Doc} (h : Alike D E) (p : Ps) : isD E p = isD D p := by
 unfold isD
 by_cases hk : p.line.toNat < D.length
 ·obtain ⟨l, hl, _⟩ := getOf D p.line.toNat hk
  obtain ⟨m, hm, e⟩ := h.2 _ _ hl
  rw [List.getD, List.getD, hl, hm, h.1]
  simp only [Option.getD_some, e]
 ·rw [List.getD, List.getD, List.getElem?_eq_none (Nat.le_of_not_lt hk), List.getElem?_eq_none (by have := h.1; omega), h.1]
theorem each_ok {C : List Cel → Nat → Nat → List Cel} {d : Doc} {a b : Ps} {X : Doc} (h : eachD C d a b = (X, 0)) : spanD d a b = true ∧ cellsD d a b ≠ [] ∧ X = setRows C d (rowsTo d a.line.toNat a.col.toNat b.line.toNat b.col.toNat (b.line.toNat + 1)) := by
 unfold eachD at h
 split at h
 ·rename_i h1
  split at h
  ·have h3 := congrArg Prod.snd h
   simp at h3
  ·rename_i h2
   exact ⟨h1, h2, (congrArg Prod.fst h).symm⟩
 ·have h3 := congrArg Prod.snd h
  simp at h3
theorem each_keeps {F : Cel → Cel} (hF : ∀ c, mayC c = true → mayC (F c) = true) {d : Doc} {a b : Ps} {X : Doc} (h : eachD (fun cs i j => mapIn F i j cs) d a b = (X, 0)) :
  spanD d a b = true ∧ cellsD d a b ≠ [] ∧ mayD X = true ∧ Alike d X ∧ spanD X a b = true ∧ cellsD X a b = (cellsD d a b).map F := by
 obtain ⟨h1, h2, rfl⟩ := each_ok h
 obtain ⟨a1, a2, a3⟩ := cells_set hF h1
 exact ⟨h1, h2, a1, setRows_alike (fun _ _ _ => mapIn_length _ _ _ _) _ _, a2, a3⟩
theorem may_stays {s : St} (hm : mayS s = true) {X : Doc} (hX : mayD X = true) (ha : Alike s.lines X) : mayS ⟨X, s.anc, s.foc, 0, 0⟩ = true := by
 obtain ⟨_, h2, h3, _⟩ := mayS_at hm
 simp only [mayS, Bool.and_eq_true]
 exact ⟨hX, by rw [isD_alike ha]; exact h2, by rw [isD_alike ha]; exact h3, by decide +kernel, by decide +kernel, by decide +kernel⟩
def stripC (c : Cel) : Cel := ⟨c.r, 0, []⟩
def stripL (l : Lin) : Lin := { l with cells := l.cells.map stripC }
def stripD (d : Doc) : Doc := d.map stripL
theorem strip_mapIn {F : Cel → Cel} (hF : ∀ c, (F c).r = c.r) (i k : Nat) (cs : List Cel) : (mapIn F i k cs).map stripC = cs.map stripC := by
 apply List.ext_getElem?
 intro q
 rw [List.getElem?_map, mapIn_get, List.getElem?_map, Option.map_map]
 cases cs[q]? with
 | none => rfl
 | some x =>
  simp only [Option.map_some, Function.comp]
  split
  ·unfold stripC; rw [hF]
  ·rfl
theorem setRow_strip {F : Cel → Cel} (hF : ∀ c, (F c).r = c.r) (D : Doc) (x : Nat × Nat × Nat) : stripD (setRow (fun cs i j => mapIn F i j cs) D x) = stripD D := by
 unfold setRow stripD
 apply List.ext_getElem?
 intro q
 rw [List.getElem?_map, List.getElem?_map, List.getElem?_set]
 by_cases e : x.1 = q
 ·subst e
  rw [if_pos rfl]
  by_cases hk : x.1 < D.length
  ·obtain ⟨l, hl, _⟩ := getOf D x.1 hk
   rw [if_pos hk, hl, List.getD, hl]
   simp only [Option.getD_some, Option.map_some, stripL, strip_mapIn hF]
  ·rw [if_neg hk, List.getElem?_eq_none (Nat.le_of_not_lt hk)]
 ·rw [if_neg e]
theorem setRows_strip {F : Cel → Cel} (hF : ∀ c, (F c).r = c.r) : ∀ (xs : List (Nat × Nat × Nat)) (D : Doc), stripD (setRows (fun cs i j => mapIn F i j cs) D xs) = stripD D
 | [], _ => rfl
 | x :: xs, D => (setRows_strip hF xs (setRow (fun cs i j => mapIn F i j cs) D x)).trans (setRow_strip hF D x)
theorem each_strip {F : Cel → Cel} (hF : ∀ c, (F c).r = c.r) {d : Doc} {a b : Ps} {X : Doc} (h : eachD (fun cs i j => mapIn F i j cs) d a b = (X, 0)) : stripD X = stripD d := by
 obtain ⟨_, _, rfl⟩ := each_ok h
 exact setRows_strip hF _ _
structure Stays (s t : St) : Prop where
 may : mayS t = true
 anc : t.anc = s.anc
 foc : t.foc = s.foc
 strip : stripD t.lines = stripD s.lines
theorem Stays.refl {s : St} (h : mayS s = true) : Stays s s := ⟨h, rfl, rfl, rfl⟩
theorem Stays.trans {s t u : St} (h : Stays s t) (k : Stays t u) : Stays s u := ⟨k.may, k.anc.trans h.anc, k.foc.trans h.foc, k.strip.trans h.strip⟩
def ActSaid (s : St) (x : St × Int) : Prop := (x.2 = 0 ∧ Stays s x.1) ∨ (x.1 = noS ∧ (x.2 = 7 ∨ x.2 = 1))
theorem each_stays {s : St} (hm : mayS s = true) {F : Cel → Cel} (hF : ∀ c, mayC c = true → mayC (F c) = true) (hr : ∀ c, (F c).r = c.r) (a b : Ps) : ActSaid s (staysS s (eachD (fun cs i j => mapIn F i j cs) s.lines a b)) := by
 obtain ⟨X, e, h⟩ : ∃ X e, eachD (fun cs i j => mapIn F i j cs) s.lines a b = (X, e) := ⟨_, _, rfl⟩
 by_cases h0 : e = 0
 ·subst h0
  obtain ⟨_, _, h3, h4, _, _⟩ := each_keeps hF h
  rw [h]
  unfold staysS
  rw [if_pos rfl]
  exact .inl ⟨rfl, may_stays hm h3 h4, rfl, rfl, each_strip hr h⟩
 ·rw [h]
  unfold staysS
  rw [if_neg h0]
  refine .inr ⟨rfl, ?_⟩
  have h1 : (eachD (fun cs i j => mapIn F i j cs) s.lines a b).2 = e := by rw [h]
  unfold eachD at h1
  split at h1
  ·split at h1
   ·exact .inl h1.symm
   ·exact absurd h1.symm h0
  ·exact .inr h1.symm
theorem may_range {x : Int} (hx : -9223372036854775808 ≤ x ∧ x ≤ 9223372036854775807) (h : bits .andNot .i64 x 15 = 0) : 0 ≤ x ∧ x ≤ 15 := by
 have := bits_small x hx
 rw [h] at this
 simpa using this.symm
end Go.Proofs.Qw
namespace Go.Proofs.YtpndnbjpnajaaaaGreatDoor
open Go.RowKit
open Go.Proofs.Qw
theorem and_bound (x : Int) (m : Nat) (hm : m < 9223372036854775808) : 0 ≤ bits .and .i64 x m ∧ bits .and .i64 x m ≤ m := by
 have h : ((BitVec.ofInt IntKind.i64.bits x &&& BitVec.ofInt IntKind.i64.bits (m : Int)).toNat) ≤ m := by
  rw [BitVec.toNat_and, BitVec.ofInt_natCast]
  refine Nat.le_trans Nat.and_le_right ?_
  rw [BitVec.toNat_ofNat]
  exact Nat.mod_le _ _
 unfold bits
 dsimp only
 generalize (BitVec.ofInt IntKind.i64.bits x &&& BitVec.ofInt IntKind.i64.bits (m : Int)).toNat = z at *
 rw [IntKind.wrap_i64]
 omega
theorem isD_nat {d : Doc} {p : Ps} (h : isD d p = true) : ∃ (i j : Nat) (l : Lin), p = ⟨i, j⟩ ∧ d[i]? = some l ∧ j ≤ l.cells.length := by
 obtain ⟨x, y⟩ := p
 by_cases hi : 0 ≤ x ∧ x < d.length
 ·obtain ⟨i, rfl⟩ := Int.eq_ofNat_of_zero_le hi.1
  obtain ⟨l, hl, _⟩ := getOf d i (by omega)
  rw [isD_at hl] at h
  simp only [Bool.and_eq_true, decide_eq_true_eq] at h
  obtain ⟨p, rfl⟩ := Int.eq_ofNat_of_zero_le h.1
  exact ⟨i, p, l, rfl, hl, by omega⟩
 ·rw [isD_off hi] at h
  cases h
end Go.Proofs.YtpndnbjpnajaaaaGreatDoor
namespace Go.Proofs.Qw
open Go.RowKit Go.Proofs.YtpndnbjpnajaaaaGreatDoor
def RngS (s : St) : Prop := (0 ≤ s.on ∧ s.on ≤ 15) ∧ (0 ≤ s.off ∧ s.off ≤ 15)
theorem rng_may {s : St} (h : mayS s = true) (ho : -9223372036854775808 ≤ s.on ∧ s.on ≤ 9223372036854775807) (hf : -9223372036854775808 ≤ s.off ∧ s.off ≤ 9223372036854775807) : RngS s := by
 obtain ⟨_, _, _, h1, h2, _⟩ := mayS_at h
 exact ⟨may_range ho h1, may_range hf h2⟩
def ActsOn (s : St) (x : St × Int) : Prop := (x.2 = 0 ∧ Stays s x.1 ∧ RngS x.1) ∨ (x.1 = noS ∧ (x.2 = 7 ∨ x.2 = 1))
theorem acts_stays {s : St} {y : Doc × Int} (h : ActSaid s (staysS s y)) : ActsOn s (staysS s y) := by
 rcases h with ⟨h1, h2⟩ | h
 ·refine .inl ⟨h1, h2, ?_⟩
  unfold staysS at h1 ⊢
  split
  ·exact ⟨⟨Int.le_refl 0, (by decide : (0 : Int) ≤ 15)⟩, ⟨Int.le_refl 0, (by decide : (0 : Int) ≤ 15)⟩⟩
  ·exact ⟨⟨Int.le_refl 0, (by decide : (0 : Int) ≤ 15)⟩, ⟨Int.le_refl 0, (by decide : (0 : Int) ≤ 15)⟩⟩
 ·exact .inr h
theorem acts_off (s : St) {e : Int} (h : e = 7 ∨ e = 1) : ActsOn s (staysS s ([], e)) := by
 refine .inr ⟨?_, ?_⟩
 ·unfold staysS; rw [if_neg (by rcases h with rfl | rfl <;> decide)]
 ·unfold staysS; rw [if_neg (by rcases h with rfl | rfl <;> decide)]; exact h
theorem acts_link {s : St} (hm : mayS s = true) (h : List UInt8) : ActsOn s (changedS s (linkL s h)) := by
 unfold changedS linkL
 rw [if_pos hm]
 split
 ·unfold linkD
  split
  ·rename_i h2
   exact acts_stays (each_stays hm (may_setHref h2) (fun _ => rfl) _ _)
  ·exact acts_off s (.inr rfl)
 ·exact acts_off s (.inr rfl)
theorem acts_unlink {s : St} (hm : mayS s = true) : ActsOn s (changedS s (unlinkL s)) := by
 unfold changedS unlinkL
 rw [if_pos hm]
 split
 ·unfold linkD
  rw [if_pos (by simp [linkF])]
  exact acts_stays (each_stays hm (may_setHref (by simp [linkF])) (fun _ => rfl) _ _)
 ·exact acts_off s (.inl rfl)
theorem acts_set {s : St} (hm : mayS s = true) {x y : Int} (hx : 0 ≤ x ∧ x ≤ 15) (hy : 0 ≤ y ∧ y ≤ 15) (a b : Ps) : ActsOn s (staysS s (setD x y s.lines a b)) := by
 unfold setD
 exact acts_stays (each_stays hm (may_setBits hx hy) (fun _ => rfl) _ _)
theorem acts_plain {s : St} (hm : mayS s = true) : ActsOn s (changedS s (plainL s)) := by
 unfold changedS plainL
 rw [if_pos hm]
 split
 ·exact acts_set hm (by decide) (by decide) _ _
 ·exact acts_off s (.inl rfl)
theorem four_rng {b : Int} (h : four b = true) : 0 ≤ b ∧ b ≤ 15 := by
 rcases four_cases h with rfl | rfl | rfl | rfl <;> decide
theorem mayC_bits {c : Cel} (h : mayC c = true) : 0 ≤ c.bits ∧ c.bits ≤ 15 := by
 unfold mayC at h
 simp only [Bool.and_eq_true, decide_eq_true_eq] at h
 exact ⟨h.1.1.2, h.1.2⟩
theorem around_rng {l : List Cel} (h : mayCs l = true) {k : Nat} (hk : k ≤ l.length) : 0 ≤ (aroundF l k).1 ∧ (aroundF l k).1 ≤ 15 := by
 have H : ∀ n, n < l.length → 0 ≤ (l.getD n default).bits ∧ (l.getD n default).bits ≤ 15 := fun n hn => by
  rw [List.getD_eq_getElem?_getD, List.getElem?_eq_getElem hn]
  exact mayC_bits (List.all_eq_true.1 h _ (List.getElem_mem hn))
 unfold aroundF
 simp only
 split
 ·exact H _ (by omega)
 ·split
  ·exact H _ (by omega)
  ·decide
theorem bits_closed {s : St} (hm : mayS s = true) (hc : s.anc = s.foc) :
  ∃ x, bitsS s = bits .or .i64 (bits .andNot .i64 x s.off) s.on ∧ 0 ≤ x ∧ x ≤ 15 := by
 obtain ⟨hM, hi, _⟩ := mayS_at hm
 obtain ⟨i, j, l, ha, hl, hj⟩ := isD_nat hi
 refine ⟨(aroundF (cellsAt s) s.anc.col.toNat).1, ?_, ?_⟩
 ·unfold bitsS; rw [if_pos hm, if_pos hc]
 ·have : cellsAt s = l.cells := by
   unfold cellsAt
   rw [ha]
   simp only [Int.toNat_natCast]
   rw [List.getD_eq_getElem?_getD, hl]
   rfl
  rw [this, ha]
  exact around_rng (mayL_has ((mayD_iff.1 hM).2.2.2 l (mem_of_at hl))) (by simpa using hj)
theorem tog_rng (on off x b : Int) (ho : 0 ≤ on ∧ on ≤ 15) (hf : 0 ≤ off ∧ off ≤ 15) (hx : 0 ≤ x ∧ x ≤ 15) (h0 : bits .and .i64 on off = 0) (hb : four b = true) :
  ∃ n m : Int, bits .or .i64 (bits .andNot .i64 on b) (bits .andNot .i64 b (bits .or .i64 (bits .andNot .i64 x off) on)) = n ∧ bits .or .i64 (bits .andNot .i64 off b) (bits .andNot .i64 b (bits .andNot .i64 b (bits .or .i64 (bits .andNot .i64 x off) on))) = m ∧
   bits .andNot .i64 n 15 = 0 ∧ bits .andNot .i64 m 15 = 0 ∧ bits .and .i64 n m = 0 ∧ (0 ≤ n ∧ n ≤ 15) ∧ (0 ≤ m ∧ m ≤ 15) := by
 obtain ⟨on, rfl⟩ := Int.eq_ofNat_of_zero_le ho.1
 obtain ⟨off, rfl⟩ := Int.eq_ofNat_of_zero_le hf.1
 obtain ⟨x, rfl⟩ := Int.eq_ofNat_of_zero_le hx.1
 have H : ∀ b ∈ [(1 : Int), 2, 4, 8], ∀ on off x : Fin 16, bits .and .i64 (on.val : Int) (off.val : Int) = 0 →
   (bits .andNot .i64 (bits .or .i64 (bits .andNot .i64 (on.val : Int) b) (bits .andNot .i64 b (bits .or .i64 (bits .andNot .i64 (x.val : Int) (off.val : Int)) (on.val : Int)))) 15 = 0 ∧
    bits .andNot .i64 (bits .or .i64 (bits .andNot .i64 (off.val : Int) b) (bits .andNot .i64 b (bits .andNot .i64 b (bits .or .i64 (bits .andNot .i64 (x.val : Int) (off.val : Int)) (on.val : Int))))) 15 = 0 ∧
    bits .and .i64 (bits .or .i64 (bits .andNot .i64 (on.val : Int) b) (bits .andNot .i64 b (bits .or .i64 (bits .andNot .i64 (x.val : Int) (off.val : Int)) (on.val : Int)))) (bits .or .i64 (bits .andNot .i64 (off.val : Int) b) (bits .andNot .i64 b (bits .andNot .i64 b (bits .or .i64 (bits .andNot .i64 (x.val : Int) (off.val : Int)) (on.val : Int))))) = 0 ∧
    (0 ≤ bits .or .i64 (bits .andNot .i64 (on.val : Int) b) (bits .andNot .i64 b (bits .or .i64 (bits .andNot .i64 (x.val : Int) (off.val : Int)) (on.val : Int))) ∧ bits .or .i64 (bits .andNot .i64 (on.val : Int) b) (bits .andNot .i64 b (bits .or .i64 (bits .andNot .i64 (x.val : Int) (off.val : Int)) (on.val : Int))) ≤ 15) ∧
    (0 ≤ bits .or .i64 (bits .andNot .i64 (off.val : Int) b) (bits .andNot .i64 b (bits .andNot .i64 b (bits .or .i64 (bits .andNot .i64 (x.val : Int) (off.val : Int)) (on.val : Int)))) ∧ bits .or .i64 (bits .andNot .i64 (off.val : Int) b) (bits .andNot .i64 b (bits .andNot .i64 b (bits .or .i64 (bits .andNot .i64 (x.val : Int) (off.val : Int)) (on.val : Int)))) ≤ 15)) := by decide +kernel
 have hm : b ∈ [(1 : Int), 2, 4, 8] := by rcases four_cases hb with rfl | rfl | rfl | rfl <;> simp
 have h1 := H b hm ⟨on, by omega⟩ ⟨off, by omega⟩ ⟨x, by omega⟩ h0
 exact ⟨_, _, rfl, rfl, h1⟩
theorem acts_toggle {s : St} (hm : mayS s = true) (hr : RngS s) {b : Int} (hb : four b = true) : ActsOn s (toggleS s b) := by
 unfold toggleS
 rw [if_pos ⟨hm, hb⟩]
 obtain ⟨hM, hi, hf, h1, h2, h3⟩ := mayS_at hm
 split
 ·rename_i hc
  obtain ⟨x, hx, hxr⟩ := bits_closed hm hc
  obtain ⟨n, m, e1, e2, k1, k2, k3, k4, k5⟩ := tog_rng s.on s.off x b hr.1 hr.2 hxr h3 hb
  unfold togC
  rw [hx, e1, e2]
  refine .inl ⟨rfl, ⟨?_, rfl, rfl, rfl⟩, k4, k5⟩
  unfold mayS
  simp only [hM, hi, hf, k1, k2, k3, Bool.and_eq_true, beq_self_eq_true, and_true]
 ·unfold togD
  split
  ·exact acts_set hm (by decide) (four_rng hb) _ _
  ·exact acts_set hm (four_rng hb) (by decide) _ _
end Go.Proofs.Qw
