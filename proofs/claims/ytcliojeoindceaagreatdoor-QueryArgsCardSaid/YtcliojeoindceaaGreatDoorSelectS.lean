/- The walks of Insert of documents, of the code and of the reference. -/
import Derived.Test.YtcliojeoindceaaGreatDoorDocPartS
import Derived.Test.YtcliojeoindceaaGreatDoorDocSplitS
import Derived.Test.YtcliojeoindceaaGreatDoorRefLongS
import Derived.Laws.BitsLemmas
set_option linter.unusedVariables false
set_option linter.unusedSimpArgs false
set_option maxHeartbeats 8000000
namespace Go.Proofs.YtcliojeoindceaaGreatDoor
open Go.RowKit
open Go.Proofs.Qw
open _root_.Go.Lib renaming hid → zA
open _root_.Go.RowKit.Below renaming refl → zE
open _root_.Go renaming bodyPost_ret → zM, wpAnyH_take → zP, wpAnyH_ready → zQ
open _root_.Go.AllReadyH renaming cons → zN, nil → zO
open _root_.Int renaming natCast_nonneg → zR
open _root_.Go.Act renaming put → zU
open _root_.Go.Proofs.Tryz renaming prog → zV
def insertD (more : List Cel) (d : Doc) (p : Ps) : Doc × Ps × Int :=
 if (spanD d p p && mayCs more) = true then (if 4000 < sizeD d + more.length then ([], ⟨0, 0⟩, 10) else (d.set p.line.toNat { (d.getD p.line.toNat default) with cells := insertC (d.getD p.line.toNat default).cells p.col.toNat more }, ⟨p.line, p.col + more.length⟩, 0)) else ([], ⟨0, 0⟩, 1)
set_option maxRecDepth 100000 in
theorem docInsert_any (v lv : Value) (d : Doc) (more : List Cel) (p : Ps) (w : World) (S S2 : Nat → Prop) (h : LinsR w S v d) (hl : CelsR false w S2 lv more) (he : EnvT w) (hs : Small d) (hf : Fits d) (hml : more.length ≤ 1000000) (hmh : ∀ c ∈ more, c.href.length ≤ 1000000) :
  Calls zV 142 #[v, posV p, lv] w (DocPSaid (insertD more d p) w) := by
 obtain ⟨W1, hW1, hB, hz, k0, k1⟩ := two_pos w (.int .i64 p.line) (.int .i64 p.col) (.int .i64 0) (.int .i64 0)
 have HC1 := zA (docSpan_any v d p p W1 S (h.below (rdLin_stable _) hB) (he.below hB) hs)
 have HCM : Hid (∀ W, Below W1.heap.size W1 W → Calls zV 210 #[lv] W fun e w' => e = .returned (.bool (mayCs more)) ∧ Below W.heap.size W w') := zA fun W hW => cellsMay_any lv more W w S2 hl (he.below (hB.trans (hW.mono hB.size))) (hB.trans (hW.mono hB.size)) hmh
 have HSZ : Hid (∀ W, Below W1.heap.size W1 W → Calls zV 128 #[v] W fun e w' => e = .returned (.int .i64 (sizeD d)) ∧ Below W.heap.size W w') := zA fun W hW => size_any v d W w S h (hB.trans (hW.mono hB.size)) hs.1
 have HO : Hid (∀ W, Below W1.heap.size W1 W → Calls zV 69 #[v] W fun e w' => ∃ v', e = .returned v' ∧ DocR true w' (fun b => W.heap.size ≤ b) v' d ∧ Below W.heap.size W w') := zA fun W hW => docOwn_any v d W w S h (hB.trans (hW.mono hB.size)) hf
 have HB : Hid (∀ W, Below W1.heap.size W1 W → W.heap[w.heap.size]? = some (.cells #[.int .i64 p.line, .int .i64 p.col] 24) ∧ W.heap[w.heap.size + 1]? = some (.cells #[.int .i64 0, .int .i64 0] 24)) := zA fun W hW => ⟨heap_below hW k0, heap_below hW k1⟩
 have HP : Hid (∀ p : Ps, posV p = .agg #[.int .i64 p.line, .int .i64 p.col]) := zA fun _ => rfl
 have H1 := zA hB
 have HL := zA h
 have HLC := zA hl
 have HF := zA hf
 have hlen := hf.1
 have hs1 := hB.size
 have hsz5 := hs.1
 obtain ⟨p1, f1⟩ := blk k0
 obtain ⟨p2, f2⟩ := blk k1
 obtain ⟨va, vc, rfl⟩ := h.slice
 obtain ⟨lb, lc, rfl⟩ := hl.slice
 clear h hl he hs hf k0 k1 hB
 cases hsp : spanD d p p
 ·have HR : Hid (insertD more d p = ([], ⟨0, 0⟩, 1)) := zA (by unfold insertD; rw [hsp]; rfl)
  rw [hsp] at HC1
  clear hsp
  rw [HP.out p] at HC1 ⊢
  go_enter Tryz.func142, Tryz.ntmps142
  go_wp2_with (go_at_call 227; refine HC1.out.mono ?_; rintro e w2 ⟨rfl, hb2⟩; have k1' := (HB.out _ hb2).2; obtain ⟨q2, g2⟩ := blk k1')
  refine zM (results_dpe rfl _ _ (w.heap.size + 1) (.int .i64 0) (.int .i64 0) rfl (by simp [heap_set, putIn, k1'])) rfl ?_
  unfold DocPSaid
  rw [HR.out]
  have hfin := H1.out.trans (hb2.mono hs1)
  exact ⟨_, rfl, SliceR.nil _ _ _ _ _ _, by ((with_reducible repeat' first | exact zE _ _ | assumption | refine Below.alloc ?_ ?_ _ | refine Below.drew ?_ | refine drewN_below ?_ | refine Below.setCell ?_ ?_ _) <;> go_size)⟩
 cases hmy : mayCs more
 ·have HR : Hid (insertD more d p = ([], ⟨0, 0⟩, 1)) := zA (by unfold insertD; rw [hsp, hmy]; rfl)
  rw [hsp] at HC1
  rw [hmy] at HCM
  clear hsp hmy
  rw [HP.out p] at HC1 ⊢
  go_enter Tryz.func142, Tryz.ntmps142
  go_wp2_with (first | (go_at_call 227; refine HC1.out.mono ?_; rintro e w2 ⟨rfl, hb2⟩) | (go_at_call 210; refine (HCM.out _ hb2).mono ?_; rintro e w3 ⟨rfl, hb3⟩; have hx3 := below_from hb2 hb3; have k1' := (HB.out _ hx3).2; obtain ⟨q2, g2⟩ := blk k1'))
  refine zM (results_dpe rfl _ _ (w.heap.size + 1) (.int .i64 0) (.int .i64 0) rfl (by simp [heap_set, putIn, k1'])) rfl ?_
  unfold DocPSaid
  rw [HR.out]
  have hfin := H1.out.trans (hx3.mono hs1)
  exact ⟨_, rfl, SliceR.nil _ _ _ _ _ _, by ((with_reducible repeat' first | exact zE _ _ | assumption | refine Below.alloc ?_ ?_ _ | refine Below.drew ?_ | refine drewN_below ?_ | refine Below.setCell ?_ ?_ _) <;> go_size)⟩
 obtain ⟨n, hn⟩ : ∃ n, sizeD d = n := ⟨_, rfl⟩
 rw [hn] at HSZ hsz5
 by_cases h4 : 4000 < n + more.length
 ·have HR : Hid (insertD more d p = ([], ⟨0, 0⟩, 10)) := zA (by unfold insertD; rw [hsp, hmy, hn, show (true && true) = true from rfl, if_pos rfl, if_pos h4])
  have hq1 : (4000 : Int) < (n : Int) + (more.length : Int) := by omega
  have hq2 : decide ((4000 : Int) < (n : Int) + (more.length : Int)) = true := decide_eq_true hq1
  rw [hsp] at HC1
  rw [hmy] at HCM
  clear hsp hmy h4 hn
  rw [HP.out p] at HC1 ⊢
  go_enter Tryz.func142, Tryz.ntmps142
  go_wp2_with (first | (go_at_call 227; refine HC1.out.mono ?_; rintro e w2 ⟨rfl, hb2⟩) | (go_at_call 210; refine (HCM.out _ hb2).mono ?_; rintro e w3 ⟨rfl, hb3⟩; have hx3 := below_from hb2 hb3) | (go_at_call 128; refine (HSZ.out _ hx3).mono ?_; rintro e w4 ⟨rfl, hb4⟩; have hx4 := below_from hx3 hb4; have k1' := (HB.out _ hx4).2; obtain ⟨q2, g2⟩ := blk k1'))
  refine zM (results_dpe rfl _ _ (w.heap.size + 1) (.int .i64 0) (.int .i64 0) rfl (by simp [heap_set, putIn, k1'])) rfl ?_
  unfold DocPSaid
  rw [HR.out]
  have hfin := H1.out.trans (hx4.mono hs1)
  exact ⟨_, rfl, SliceR.nil _ _ _ _ _ _, by ((with_reducible repeat' first | exact zE _ _ | assumption | refine Below.alloc ?_ ?_ _ | refine Below.drew ?_ | refine drewN_below ?_ | refine Below.setCell ?_ ?_ _) <;> go_size)⟩
 obtain ⟨_, i, _, q, _, l, _, rfl, hpe, hl, _, hq, _, _, _⟩ := span_at hsp
 have hil := (List.getElem?_eq_some_iff.1 hl).1
 have hfl := HF.out.2 l (List.mem_of_getElem? hl)
 have HR : Hid (insertD more d ⟨i, q⟩ = (d.set i { l with cells := insertC l.cells q more }, ⟨i, (q : Int) + (more.length : Int)⟩, 0)) := zA (by
  unfold insertD
  rw [hsp, hmy, hn, show (true && true) = true from rfl, if_pos rfl, if_neg h4]
  simp [List.getD, hl])
 have hq1 : (n : Int) + (more.length : Int) ≤ 4000 := by omega
 have hq2 : decide ((4000 : Int) < (n : Int) + (more.length : Int)) = false := decide_eq_false (by omega)
 rw [hsp] at HC1
 rw [hmy] at HCM
 rw [HP.out] at HC1 ⊢
 obtain ⟨va', vc', hve, hvc, hvm, hx⟩ := lins_shape HL.out
 cases hve
 obtain ⟨b1, o1, la, lc1, ca, cc, rfl, hAi⟩ := hx i l hl
 have HAI := zA hAi
 have HLL := zA hl
 unfold maxLen at hvm
 have i0 : (0 : Int) ≤ (i : Int) := zR _
 have i1 : (i : Int) < (d.length : Int) := by omega
 have u0 : (0 : Int) ≤ (q : Int) := zR _
 have u1 : (q : Int) ≤ 1000000 := by omega
 have u2 : (more.length : Int) ≤ 1000000 := by omega
 clear hx hAi hl hsp hmy h4 hn hpe
 go_enter Tryz.func142, Tryz.ntmps142
 go_wp2_with (first | (go_at_call 227; refine HC1.out.mono ?_; rintro e w2 ⟨rfl, hb2⟩) | (go_at_call 210; refine (HCM.out _ hb2).mono ?_; rintro e w3 ⟨rfl, hb3⟩; have hx3 := below_from hb2 hb3) | (go_at_call 128; refine (HSZ.out _ hx3).mono ?_; rintro e w4 ⟨rfl, hb4⟩; have hx4 := below_from hx3 hb4) | (go_at_call 69; refine (HO.out _ hx4).mono ?_; rintro e w5 ⟨v5, rfl, hv5, hb5⟩; have hx5 := below_from hx4 hb5; obtain ⟨b3, o3, c3, la3, lc3, ca3, cc3, rfl, hc3, hm3, hA3, hI3, hC3, hS3⟩ := docOwn_at hv5 HLL.out; have HV5 := zA hv5; have HA3 := zA hA3; have HC3 := zA hC3; unfold maxLen at hm3; have hS3' : w4.heap.size ≤ b3 := hS3; clear hv5 hI3 hC3 hA3 hS3))
 have hsz14 := hx4.size
 have hsz45 := hb5.size
 have hb3z := HA3.out.lt
 have hb1z : b1 < w.heap.size := HAI.out.lt
 have k0' := (HB.out _ hx5).1
 have k1' := (HB.out _ hx5).2
 obtain ⟨q1', g1'⟩ := blk k0'
 have hd5 : Below w5.heap.size w5 w5.drew := (zE _ _).drew
 have HCI : Hid (∀ W, Below w5.heap.size w5 W → Calls zV 228 #[.slice ca3 l.cells.length cc3, .int .i64 q, .slice lb more.length lc] W (CellsSaid (insertC l.cells q more) 0 W)) := zA fun W hW => cellsInsert_any ca3 lb cc3 lc q l.cells more W w5 w _ S2 true false HC3.out HLC.out hW ((H1.out.trans (hx5.mono hs1)).trans (hW.mono (by omega))) hq hfl.2 hml
 obtain ⟨b3', o3', cs3, hbe, _, hg3, hgz⟩ := SliceR.cellAt HV5.out (i := i) hil
 cases hbe
 have e1 : b3 ≠ w.heap.size := by omega
 have e2 : b3 ≠ w.heap.size + 1 := by omega
 have HG3 := zA hg3
 have hld : (w5.drew).cell? ⟨b3, o3 + i * 4 + 3, none⟩ = some (.slice ca3 l.cells.length cc3) := HA3.out.cells
 have HK := zA (And.intro k0' k1')
 clear hg3 k0' k1' p1 f1 p2 f2 hW1
 refine wp_region_noPanic ?_
 refine wp_region_held_drew (S := fun w' => w'.cell? ⟨w.heap.size, 0, none⟩ = some (.int .i64 i) ∧ w'.cell? ⟨w.heap.size, 1, none⟩ = some (.int .i64 q)) (by kernel_rfl) ⟨q1' 0, q1' 1⟩ (fun hHeld => ?_)
 obtain ⟨X0, hX0⟩ : ∃ X, w5.drew = X := ⟨_, rfl⟩
 rw [hX0] at hd5 hHeld hld ⊢
 clear hX0 q1' g1'
 refine zP (i := 0) (v := ?_) (by simp only [qA, qZ]; rfl) (by kernel_rfl) (by kernel_rfl) (by kernel_rfl) (fun _ _ _ h => h) (Or.inl ⟨by rfl, ?_⟩) (by assumption) ?_
 rotate_left 1
 ·intro w hSw; (try dsimp only at hSw); go_simp; (first | done | with_reducible rfl)
 try simp only [zU, qI, qX, qY]
 refine zP (i := 1) (v := ?_) (by simp only [qA, qS, qZ]; rfl) (by kernel_rfl) (by kernel_rfl) (by kernel_rfl) (fun _ _ _ h => h) (Or.inl ⟨by rfl, ?_⟩) (by assumption) ?_
 rotate_left 1
 ·intro w hSw; (try dsimp only at hSw); go_simp; (first | done | with_reducible rfl)
 try simp only [zU, qI, qX, qY]
 refine zP (i := 2) (v := ?_) (by simp only [qA, qS, qZ]; rfl) (by kernel_rfl) (by kernel_rfl) (by kernel_rfl) (fun _ _ _ h => h) (Or.inl ⟨by rfl, ?_⟩) (by assumption) ?_
 rotate_left 1
 ·intro w hSw; (try dsimp only at hSw); go_simp; (first | done | with_reducible rfl)
 try simp only [zU, qI, qX, qY]
 refine zP (i := 3) (v := ?_) (by simp only [qA, qS, qZ]; rfl) (by kernel_rfl) (by kernel_rfl) (by kernel_rfl) (fun _ _ _ h => h) (Or.inl ⟨by rfl, ?_⟩) (by assumption) ?_
 rotate_left 1
 ·intro w hSw; (try dsimp only at hSw); go_simp; (first | done | with_reducible rfl)
 try simp only [zU, qI, qX, qY]
 refine zP (i := 4) (v := ?_) (by simp only [qA, qS, qZ]; rfl) (by kernel_rfl) (by kernel_rfl) (by kernel_rfl) (fun _ _ _ h => h) (Or.inl ⟨by rfl, ?_⟩) (by assumption) ?_
 rotate_left 1
 ·intro w hSw; (try dsimp only at hSw); go_simp; (first | done | with_reducible rfl)
 try simp only [zU, qI, qX, qY]
 refine zP (i := 5) (v := ?_) (by simp only [qA, qS, qZ]; rfl) (by kernel_rfl) (by kernel_rfl) (by kernel_rfl) (fun _ _ _ h => h) (Or.inl ⟨by rfl, ?_⟩) (by assumption) ?_
 rotate_left 1
 ·intro w hSw; (try dsimp only at hSw); go_simp; (first | done | with_reducible rfl)
 try simp only [zU, qI, qX, qY]
 refine zP (i := 6) (v := ?_) (by simp only [qA, qS, qZ]; rfl) (by kernel_rfl) (by kernel_rfl) (by kernel_rfl) (fun _ _ _ h => h) (Or.inl ⟨by rfl, ?_⟩) (by assumption) ?_
 rotate_left 1
 ·intro w hSw; (try dsimp only at hSw); go_simp; (first | done | with_reducible rfl)
 try simp only [zU, qI, qX, qY]
 refine zP (i := 7) (v := ?_) (by simp only [qA, qS, qZ]; rfl) (by kernel_rfl) (by kernel_rfl) (by kernel_rfl) (fun _ _ _ h => h) (Or.inl ⟨by rfl, ?_⟩) (by assumption) ?_
 rotate_left 1
 ·intro w hSw; (try dsimp only at hSw); go_simp; (first | done | with_reducible rfl)
 try simp only [zU, qI, qX, qY]
 refine zP (i := 9) (v := ?_) (by simp only [qA, qS, qZ]; rfl) (by kernel_rfl) (by kernel_rfl) (by kernel_rfl) (fun _ _ _ h => h) (Or.inl ⟨by rfl, ?_⟩) (by assumption) ?_
 rotate_left 1
 ·intro w hSw; (try dsimp only at hSw); go_simp; (first | done | with_reducible rfl)
 try simp only [zU, qI, qX, qY]
 refine zP (i := 10) (v := ?_) (by simp only [qA, qS, qZ]; rfl) (by kernel_rfl) (by kernel_rfl) (by kernel_rfl) (fun _ _ _ h => h) (Or.inl ⟨by rfl, ?_⟩) (by assumption) ?_
 rotate_left 1
 ·intro w hSw; (try dsimp only at hSw); go_simp; (first | done | with_reducible rfl)
 try simp only [zU, qI, qX, qY]
 refine zP (i := 11) (v := ?_) (by simp only [qA, qS, qZ]; rfl) (by kernel_rfl) (by kernel_rfl) (by kernel_rfl) (fun _ _ _ h => h) (Or.inl ⟨by rfl, ?_⟩) (by assumption) ?_
 rotate_left 1
 ·intro w hSw; (try dsimp only at hSw); go_simp; (first | done | with_reducible rfl)
 try simp only [zU, qI, qX, qY]
 refine zQ (rs := [8]) (by kernel_rfl) (by simp) ?_
 refine zN (by simp only [qA, qS, qZ]; rfl) (fun K hK => ?_) zO
 go_simp
 refine hK.out _ _ hHeld (fun _ => ?_)
 clear hK K
 try simp only [zU, qI, qX, qY]
 refine zQ (rs := [12]) (by kernel_rfl) (by simp) ?_
 refine zN (by simp only [qA, qS, qZ]; rfl) (fun K hK => ?_) zO
 go_simp
 refine (HCI.out _ hd5).mono ?_
 intro e w6 hsaid
 obtain ⟨v6, rfl, hv6, hb6'⟩ := hsaid
 have hb6 : Below w5.heap.size w5 w6 := below_from hd5 hb6'
 have hdz := hd5.size
 obtain ⟨a6, n6, c6, hv6e⟩ := slice_any hv6
 subst hv6e
 have HV6 : Hid (CelsR true w6 (fun b => w5.heap.size ≤ b) (.slice a6 n6 c6) (insertC l.cells q more)) := zA (SliceR.stable (rdOf_stable _) hv6 (Keeps.refl _ _) (fun b h _ => Nat.le_trans hdz h))
 obtain ⟨y0, y0f⟩ := blk (heap_below hb6 HK.out.1)
 have k16 := heap_below hb6 HK.out.2
 have g36 := heap_below hb6 HG3.out
 have y3 : w6.cell? ⟨b3, o3 + i * 4 + 3, none⟩ = some (.slice ca3 l.cells.length cc3) := (hb6.cell (p := ⟨b3, o3 + i * 4 + 3, none⟩) hb3z).trans HA3.out.cells
 have y3f : w6.frozen? ⟨b3, o3 + i * 4 + 3, none⟩ = false := frozen_of_heap g36
 have hS6 : w6.cell? ⟨w.heap.size, 0, none⟩ = some (.int .i64 i) ∧ w6.cell? ⟨w.heap.size, 1, none⟩ = some (.int .i64 q) := ⟨y0 0, y0 1⟩
 clear hv6 hb6' hld hHeld
 refine hK.out _ _ hS6 (fun hHeld => ?_)
 clear hK K
 try simp only [zU, qI, qX, qY]
 refine zP (i := 13) (v := ?_) (by simp only [qA, qS, qZ]; rfl) (by kernel_rfl) (by kernel_rfl) (by kernel_rfl) (fun _ _ _ h => h) (Or.inl ⟨by rfl, ?_⟩) (by assumption) ?_
 rotate_left 1
 ·intro w hSw; (try dsimp only at hSw); go_simp; (first | done | with_reducible rfl)
 try simp only [zU, qI, qX, qY]
 refine zP (i := 14) (v := ?_) (by simp only [qA, qS, qZ]; rfl) (by kernel_rfl) (by kernel_rfl) (by kernel_rfl) (fun _ _ _ h => h) (Or.inl ⟨by rfl, ?_⟩) (by assumption) ?_
 rotate_left 1
 ·intro w hSw; (try dsimp only at hSw); go_simp; (first | done | with_reducible rfl)
 try simp only [zU, qI, qX, qY]
 refine zP (i := 15) (v := ?_) (by simp only [qA, qS, qZ]; rfl) (by kernel_rfl) (by kernel_rfl) (by kernel_rfl) (fun _ _ _ h => h) (Or.inl ⟨by rfl, ?_⟩) (by assumption) ?_
 rotate_left 1
 ·intro w hSw; (try dsimp only at hSw); go_simp; (first | done | with_reducible rfl)
 try simp only [zU, qI, qX, qY]
 refine zP (i := 16) (v := ?_) (by simp only [qA, qS, qZ]; rfl) (by kernel_rfl) (by kernel_rfl) (by kernel_rfl) (fun _ _ _ h => h) (Or.inl ⟨by rfl, ?_⟩) (by assumption) ?_
 rotate_left 1
 ·intro w hSw; (try dsimp only at hSw); go_simp; (first | done | with_reducible rfl)
 try simp only [zU, qI, qX, qY]
 refine zP (i := 17) (v := ?_) (by simp only [qA, qS, qZ]; rfl) (by kernel_rfl) (by kernel_rfl) (by kernel_rfl) (fun _ _ _ h => h) (Or.inl ⟨by rfl, ?_⟩) (by assumption) ?_
 rotate_left 1
 ·intro w hSw; (try dsimp only at hSw); go_simp; (first | done | with_reducible rfl)
 try simp only [zU, qI, qX, qY]
 refine zQ (rs := [18]) (by kernel_rfl) (by simp) ?_
 refine zN (by simp only [qA, qS, qZ]; rfl) (fun K hK => ?_) zO
 go_simp
 have hS7 : (w6.setCell ⟨b3, o3 + i * 4 + 3, none⟩ (.slice a6 n6 c6)).cell? ⟨w.heap.size, 0, none⟩ = some (.int .i64 i) ∧ (w6.setCell ⟨b3, o3 + i * 4 + 3, none⟩ (.slice a6 n6 c6)).cell? ⟨w.heap.size, 1, none⟩ = some (.int .i64 q) := ⟨(setCell_block e1).trans hS6.1, (setCell_block e1).trans hS6.2⟩
 refine hK.out _ _ hS7 (fun _ => ?_)
 refine wpAnyH_done (by kernel_rfl) ?_ _
 refine NoPanic.normal ?_
 clear hK K hHeld y0 y0f y3 y3f
 obtain ⟨w7, hw7⟩ : ∃ X, w6.setCell ⟨b3, o3 + i * 4 + 3, none⟩ (.slice a6 n6 c6) = X := ⟨_, rfl⟩
 have k17 : w7.heap[w.heap.size + 1]? = some (.cells #[.int .i64 0, .int .i64 0] 24) := by rw [← hw7, heap_set, if_neg e2]; exact k16
 have hfin : Below w.heap.size w w7 := by
  rw [← hw7]
  exact ((H1.out.trans (hx5.mono hs1)).trans (hb6.mono (by omega))).setCell (by show w.heap.size ≤ b3; omega) _
 have hD7 : DocR true w7 (fun b => w4.heap.size ≤ b) (.slice (some ⟨b3, o3, none⟩) d.length c3) (d.set i { l with cells := insertC l.cells q more }) := by
  rw [← hw7]
  refine SliceR.set1 eltLine.tag (SliceR.below (rdLin_stable true) HV5.out hb6) HLL.out (j := 3) (by decide) (.slice a6 n6 c6) ?_
  rintro vs _ ⟨p', q', rfl, hp', hq'⟩
  exact ⟨p', _, rfl, hp', SliceR.stable (rdOf_stable _) HV6.out (Keeps.refl _ _) (fun b h _ => Nat.le_trans hsz45 h)⟩
 have hz7 : w6.heap.size = w7.heap.size := by rw [← hw7]; simp
 have hz56 := hb6.size
 rw [hw7] at hS7 ⊢
 clear hw7 k16 hS6 g36
 obtain ⟨r1, s1⟩ := blk k17
 have HD7 := zA hD7
 have HFIN := zA hfin
 clear hD7 hfin
 go_wp2_with fail
 refine wp_region_noPanic ?_
 refine wp_region_held_drew (S := fun w' => w'.cell? ⟨w.heap.size, 0, none⟩ = some (.int .i64 i) ∧ w'.cell? ⟨w.heap.size, 1, none⟩ = some (.int .i64 q)) (by kernel_rfl) ⟨hS7.1, hS7.2⟩ (fun hHeld => ?_)
 obtain ⟨X9, hX9⟩ : ∃ X, w7.drew = X := ⟨_, rfl⟩
 have hd9 : Below w7.heap.size w7 X9 := hX9 ▸ (zE _ _).drew
 rw [hX9] at hHeld ⊢
 have k19 := heap_below hd9 k17
 obtain ⟨r9, s9⟩ := blk k19
 have HD9 := zA hd9
 have HK9 := zA k19
 have HS9 := zA hHeld
 have e3 : w.heap.size + 1 ≠ w.heap.size := by omega
 clear hX9 hS7 r1 s1 k17 hd9 k19
 refine zP (i := 0) (v := ?_) (by simp only [qA, qZ]; rfl) (by kernel_rfl) (by kernel_rfl) (by kernel_rfl) (fun _ _ _ h => h) (Or.inl ⟨by rfl, ?_⟩) (by assumption) ?_
 rotate_left 1
 ·intro w hSw; (try dsimp only at hSw); go_simp; (first | done | with_reducible rfl)
 try simp only [zU, qI, qX, qY]
 refine zP (i := 1) (v := ?_) (by simp only [qA, qS, qZ]; rfl) (by kernel_rfl) (by kernel_rfl) (by kernel_rfl) (fun _ _ _ h => h) (Or.inl ⟨by rfl, ?_⟩) (by assumption) ?_
 rotate_left 1
 ·intro w hSw; (try dsimp only at hSw); go_simp; (first | done | with_reducible rfl)
 try simp only [zU, qI, qX, qY]
 refine zP (i := 2) (v := ?_) (by simp only [qA, qS, qZ]; rfl) (by kernel_rfl) (by kernel_rfl) (by kernel_rfl) (fun _ _ _ h => h) (Or.inl ⟨by rfl, ?_⟩) (by assumption) ?_
 rotate_left 1
 ·intro w hSw; (try dsimp only at hSw); go_simp; (first | done | with_reducible rfl)
 try simp only [zU, qI, qX, qY]
 refine zP (i := 3) (v := ?_) (by simp only [qA, qS, qZ]; rfl) (by kernel_rfl) (by kernel_rfl) (by kernel_rfl) (fun _ _ _ h => h) (Or.inl ⟨by rfl, ?_⟩) (by assumption) ?_
 rotate_left 1
 ·intro w hSw; (try dsimp only at hSw); go_simp; (first | done | with_reducible rfl)
 try simp only [zU, qI, qX, qY]
 refine zP (i := 4) (v := ?_) (by simp only [qA, qS, qZ]; rfl) (by kernel_rfl) (by kernel_rfl) (by kernel_rfl) (fun _ _ _ h => h) (Or.inl ⟨by rfl, ?_⟩) (by assumption) ?_
 rotate_left 1
 ·intro w hSw; (try dsimp only at hSw); go_simp; (first | done | with_reducible rfl)
 try simp only [zU, qI, qX, qY]
 refine zP (i := 5) (v := ?_) (by simp only [qA, qS, qZ]; rfl) (by kernel_rfl) (by kernel_rfl) (by kernel_rfl) (fun _ _ _ h => h) (Or.inl ⟨by rfl, ?_⟩) (by assumption) ?_
 rotate_left 1
 ·intro w hSw; (try dsimp only at hSw); go_simp; (first | done | with_reducible rfl)
 try simp only [zU, qI, qX, qY]
 refine zP (i := 6) (v := ?_) (by simp only [qA, qS, qZ]; rfl) (by kernel_rfl) (by kernel_rfl) (by kernel_rfl) (fun _ _ _ h => h) (Or.inl ⟨by rfl, ?_⟩) (by assumption) ?_
 rotate_left 1
 ·intro w hSw; (try dsimp only at hSw); go_simp; (first | done | with_reducible rfl)
 try simp only [zU, qI, qX, qY]
 refine zP (i := 7) (v := ?_) (by simp only [qA, qS, qZ]; rfl) (by kernel_rfl) (by kernel_rfl) (by kernel_rfl) (fun _ _ _ h => h) (Or.inl ⟨by rfl, ?_⟩) (by assumption) ?_
 rotate_left 1
 ·intro w hSw; (try dsimp only at hSw); go_simp; (first | done | with_reducible rfl)
 try simp only [zU, qI, qX, qY]
 refine zP (i := 8) (v := ?_) (by simp only [qA, qS, qZ]; rfl) (by kernel_rfl) (by kernel_rfl) (by kernel_rfl) (fun _ _ _ h => h) (Or.inl ⟨by rfl, ?_⟩) (by assumption) ?_
 rotate_left 1
 ·intro w hSw; (try dsimp only at hSw); go_simp; (first | done | with_reducible rfl)
 try simp only [zU, qI, qX, qY]
 refine zQ (rs := [9]) (by kernel_rfl) (by simp) ?_
 refine zN (by simp only [qA, qS, qZ]; rfl) (fun K hK => ?_) zO
 go_simp
 refine hK.out _ _ hHeld (fun _ => ?_)
 clear hK K
 try simp only [zU, qI, qX, qY]
 refine zQ (rs := [10]) (by kernel_rfl) (by simp) ?_
 refine zN (by simp only [qA, qS, qZ]; rfl) (fun K hK => ?_) zO
 go_simp
 have hSA : ∀ u0 u1, ((X9.setCell ⟨w.heap.size + 1, 0, none⟩ u0).setCell ⟨w.heap.size + 1, 1, none⟩ u1).cell? ⟨w.heap.size, 0, none⟩ = some (.int .i64 i) ∧ ((X9.setCell ⟨w.heap.size + 1, 0, none⟩ u0).setCell ⟨w.heap.size + 1, 1, none⟩ u1).cell? ⟨w.heap.size, 1, none⟩ = some (.int .i64 q) := fun u0 u1 =>
  ⟨(setCell_block e3).trans ((setCell_block e3).trans HS9.out.1), (setCell_block e3).trans ((setCell_block e3).trans HS9.out.2)⟩
 refine hK.out _ _ (hSA _ _) (fun _ => ?_)
 clear hK K
 try simp only [zU, qI, qX, qY]
 refine zQ (rs := [11]) (by kernel_rfl) (by simp) ?_
 refine zN (by simp only [qA, qS, qZ]; rfl) (fun K hK => ?_) zO
 go_simp
 refine hK.out _ _ (hSA _ _) (fun _ => ?_)
 refine wpAnyH_done (by kernel_rfl) ?_ _
 refine NoPanic.normal ?_
 clear hK K hSA
 go_wp2_with fail
 have k19 := HK9.out
 have hwr : IntKind.i64.wrap ((q : Int) + (more.length : Int)) = (q : Int) + (more.length : Int) := IntWalk.i64_in _ (by omega)
 refine zM (results_dpe rfl _ _ (w.heap.size + 1) (.int .i64 i) (.int .i64 ((q : Int) + (more.length : Int))) rfl (by simp [heap_set, putIn, k19, hwr])) rfl ?_
 unfold DocPSaid
 rw [HR.out]
 have hz9 := HD9.out.size
 have hfz := HFIN.out.size
 have hw4 : w.heap.size + 2 ≤ w4.heap.size := by omega
 refine ⟨_, by rw [HP.out]; rfl, SliceR.stable (rdLin_stable true) HD7.out ((((Keeps.all HD9.out)).set (fun hh => by have hh : w4.heap.size ≤ w.heap.size + 1 := hh; omega) _).set (fun hh => by have hh : w4.heap.size ≤ w.heap.size + 1 := hh; omega) _) (fun b h _ => by have h : w4.heap.size ≤ b := h; omega), ?_⟩
 exact ((HFIN.out.trans (HD9.out.mono hfz)).setCell (by show w.heap.size ≤ w.heap.size + 1; omega) _).setCell (by show w.heap.size ≤ w.heap.size + 1; omega) _
end Go.Proofs.YtcliojeoindceaaGreatDoor
namespace Go.Proofs.Qw
open Go.RowKit Go.Proofs.YtcliojeoindceaaGreatDoor
open _root_.Nat renaming le_refl → zC
open _root_.List renaming getElem?_eq_some_iff → zK, length_append → zS
def flat (d : Doc) : List Cel := d.flatMap (·.cells)
theorem flatc_len (d : Doc) : (flat d).length = sizeD d := by unfold flat sizeD; rw [List.length_flatMap]
theorem flat_append (d e : Doc) : flat (d ++ e) = flat d ++ flat e := by unfold flat; rw [List.flatMap_append]
theorem flat_one (l : Lin) : flat [l] = l.cells := by simp [flat]
theorem split_at {d : Doc} {i : Nat} {l : Lin} (h : d[i]? = some l) : d = d.take i ++ [l] ++ d.drop (i + 1) := by
 have hi := (zK.1 h).1
 have e : d.drop i = l :: d.drop (i + 1) := by
  rw [List.drop_eq_getElem_cons hi, (zK.1 h).2]
 rw [List.append_assoc, List.singleton_append, ← e, List.take_append_drop]
theorem flat_at {d : Doc} {i : Nat} {l : Lin} (h : d[i]? = some l) : flat d = flat (d.take i) ++ (l.cells ++ flat (d.drop (i + 1))) := by
 conv => lhs; rw [split_at h]
 rw [flat_append, flat_append, flat_one, List.append_assoc]
def offs (d : Doc) (i p : Nat) : Nat := (flat (d.take i)).length + p
theorem flat_take {d : Doc} {i p : Nat} {l : Lin} (h : d[i]? = some l) (hp : p ≤ l.cells.length) : (flat d).take (offs d i p) = flat (d.take i) ++ l.cells.take p := by
 unfold offs
 rw [flat_at h, List.take_length_add_append, List.take_append_of_le_length hp]
theorem flat_drop {d : Doc} {i p : Nat} {l : Lin} (h : d[i]? = some l) (hp : p ≤ l.cells.length) : (flat d).drop (offs d i p) = l.cells.drop p ++ flat (d.drop (i + 1)) := by
 unfold offs
 rw [flat_at h, List.drop_length_add_append, List.drop_append_of_le_length hp]
theorem offs_le {d : Doc} {i p : Nat} {l : Lin} (h : d[i]? = some l) (hp : p ≤ l.cells.length) : offs d i p ≤ (flat d).length := by
 unfold offs
 rw [flat_at h]
 simp only [zS]
 omega
theorem flat_next {d : Doc} {k : Nat} {l : Lin} (h : d[k]? = some l) : flat (d.take (k + 1)) = flat (d.take k) ++ l.cells := by
 rw [List.take_add_one, h, flat_append]
 simp [flat]
theorem cells_to {d : Doc} {i p j q : Nat} {l m : Lin} (hl : d[i]? = some l) (hm : d[j]? = some m) (hp : p ≤ l.cells.length) (hq : q ≤ m.cells.length) (hij : i ≤ j) (hpq : i = j → p ≤ q) :
  ∀ n k, k = i + n → k ≤ j → (flat (d.take i) ++ l.cells.take p) ++ cellsL d (rowsTo d i p j q k) = if k = i then flat (d.take i) ++ l.cells.take p else flat (d.take k)
 | 0, k, hk, _ => by
  obtain rfl : k = i := hk
  rw [if_pos rfl, rowsTo_nil]
  simp [cellsL]
 | n + 1, k, hk, hkj => by
  obtain ⟨x, hx, _⟩ := getOf d (i + n) (by have := (zK.1 hm).1; omega)
  have ih := cells_to hl hm hp hq hij hpq n (i + n) rfl (by omega)
  subst hk
  have hne : ¬ i + n = j := by omega
  rw [show i + (n + 1) = i + n + 1 from rfl, rowsTo_step d (by omega), cellsL_snoc, ← List.append_assoc, ih, if_neg (show ¬ i + n + 1 = i by omega), rowB_len d hx, cellsB_at (by exact hx), flat_next hx, if_neg hne]
  by_cases hn : n = 0
  ·subst hn
   obtain rfl : l = x := by rw [Nat.add_zero] at hx; exact Option.some.inj (hl.symm.trans hx)
   simp only [Nat.add_zero, if_true]
   rw [List.append_assoc]
   congr 1
   rw [List.take_of_length_le (l := l.cells.drop p) (by rw [List.length_drop]; omega)]
   exact List.take_append_drop _ _
  ·have hni : ¬ i + n = i := by omega
   simp only [hni, if_false]
   simp
theorem cells_span {d : Doc} {i p j q : Nat} {l m : Lin} (hl : d[i]? = some l) (hm : d[j]? = some m) (hp : p ≤ l.cells.length) (hq : q ≤ m.cells.length) (hij : i ≤ j) (hpq : i = j → p ≤ q) :
  (flat d).take (offs d i p) ++ cellsL d (rowsTo d i p j q (j + 1)) = (flat d).take (offs d j q) := by
 have h := cells_to hl hm hp hq hij hpq (j - i) j (by omega) (zC _)
 rw [flat_take hl hp, flat_take hm hq, rowsTo_step d hij, cellsL_snoc, ← List.append_assoc, h, rowB_len d hm, cellsB_at (by exact hm), if_pos rfl]
 by_cases e : j = i
 ·subst e
  obtain rfl : l = m := Option.some.inj (hl.symm.trans hm)
  rw [if_pos rfl, if_pos rfl, List.append_assoc]
  congr 1
  have := hpq rfl
  rw [← List.take_append_drop p (l.cells.take q), List.take_take, Nat.min_eq_left this, List.drop_take]
 ·rw [if_neg e, if_neg e]
  simp
theorem cellsD_at {d : Doc} {i p j q : Nat} (h : spanD d ⟨i, p⟩ ⟨j, q⟩ = true) : cellsD d ⟨i, p⟩ ⟨j, q⟩ = cellsL d (rowsTo d i p j q (j + 1)) := by unfold cellsD; rw [if_pos h]; rfl
theorem cmp_le {i p j q : Nat} : cmpP ⟨i, p⟩ ⟨j, q⟩ ≤ 0 ↔ i < j ∨ i = j ∧ p ≤ q := by
 unfold cmpP cmpI
 simp only
 by_cases h : (i : Int) < j
 ·simp [h]; omega
 ·by_cases h2 : (j : Int) < i
  ·simp [h, h2]; omega
  ·simp only [h, h2, if_false]
   simp only [ne_eq, not_true_eq_false, if_false]
   split
   ·simp; omega
   ·split
    ·simp; omega
    ·simp; omega
theorem is_mk {d : Doc} {i p : Nat} {l : Lin} (hl : d[i]? = some l) (hp : p ≤ l.cells.length) : isD d ⟨i, p⟩ = true := by
 rw [isD_at hl]
 simp
 omega
theorem span_mk {d : Doc} {i p j q : Nat} {l m : Lin} (hM : mayD d = true) (hl : d[i]? = some l) (hm : d[j]? = some m) (hp : p ≤ l.cells.length) (hq : q ≤ m.cells.length) (hij : i ≤ j) (hpq : i = j → p ≤ q) : spanD d ⟨i, p⟩ ⟨j, q⟩ = true := by
 unfold spanD
 rw [hM, is_mk hl hp, is_mk hm hq]
 simp only [Bool.and_true, Bool.true_and, decide_eq_true_eq, cmp_le]
 omega
theorem cells_len {d : Doc} {i p j q : Nat} {l m : Lin} (hM : mayD d = true) (hl : d[i]? = some l) (hm : d[j]? = some m) (hp : p ≤ l.cells.length) (hq : q ≤ m.cells.length) (hij : i ≤ j) (hpq : i = j → p ≤ q) : offs d i p + (cellsD d ⟨i, p⟩ ⟨j, q⟩).length = offs d j q := by
 rw [cellsD_at (span_mk hM hl hm hp hq hij hpq)]
 have := congrArg List.length (cells_span hl hm hp hq hij hpq)
 rw [zS, List.length_take, List.length_take, Nat.min_eq_left (offs_le hl hp), Nat.min_eq_left (offs_le hm hq)] at this
 exact this
theorem mayL_cells {l : Lin} {cs : List Cel} (h : mayL l = true) (hc : mayCs cs = true) : mayL { l with cells := cs } = true := by
 unfold mayL at h ⊢
 simp only [Bool.and_eq_true] at h ⊢
 exact ⟨h.1, hc⟩
theorem mayL_has {l : Lin} (h : mayL l = true) : mayCs l.cells = true := by
 unfold mayL at h
 simp only [Bool.and_eq_true] at h
 exact h.2
theorem mayCs_take {l : List Cel} (h : mayCs l = true) (n : Nat) : mayCs (l.take n) = true := by
 unfold mayCs at h ⊢
 rw [List.all_eq_true] at h ⊢
 exact fun x hx => h x (List.mem_of_mem_take hx)
theorem mayCs_drop {l : List Cel} (h : mayCs l = true) (n : Nat) : mayCs (l.drop n) = true := by
 unfold mayCs at h ⊢
 rw [List.all_eq_true] at h ⊢
 exact fun x hx => h x (List.mem_of_mem_drop hx)
theorem mayCs_append {l m : List Cel} (h : mayCs l = true) (k : mayCs m = true) : mayCs (l ++ m) = true := by
 unfold mayCs at h k ⊢
 rw [List.all_append, h, k]
 rfl
theorem mayD_iff {d : Doc} : mayD d = true ↔ 1 ≤ d.length ∧ d.length ≤ 200 ∧ (flat d).length ≤ 4000 ∧ ∀ l ∈ d, mayL l = true := by
 unfold mayD
 simp only [Bool.and_eq_true, decide_eq_true_eq, List.all_eq_true, flatc_len]
 exact ⟨fun ⟨⟨⟨a, b⟩, c⟩, e⟩ => ⟨a, b, c, e⟩, fun ⟨a, b, c, e⟩ => ⟨⟨⟨a, b⟩, c⟩, e⟩⟩
theorem flat_delete {d : Doc} {i p j q : Nat} {l m : Lin} (hl : d[i]? = some l) (hm : d[j]? = some m) (hp : p ≤ l.cells.length) (hq : q ≤ m.cells.length) :
  flat (deleteL d ⟨i, p⟩ ⟨j, q⟩) = (flat d).take (offs d i p) ++ (flat d).drop (offs d j q) := by
 rw [deleteL_at hl hm, flat_append, flat_append, flat_one, flat_take hl hp, flat_drop hm hq]
 simp
theorem offs_mono {d : Doc} {i p j q : Nat} {l m : Lin} (hl : d[i]? = some l) (hm : d[j]? = some m) (hp : p ≤ l.cells.length) (hij : i ≤ j) (hpq : i = j → p ≤ q) : offs d i p ≤ offs d j q := by
 unfold offs
 by_cases e : i = j
 ·subst e
  have := hpq rfl
  omega
 ·have h1 : (d.take j).take (i + 1) = d.take (i + 1) := by rw [List.take_take, Nat.min_eq_left (by omega)]
  have h2 : flat (d.take j) = flat (d.take (i + 1)) ++ flat ((d.take j).drop (i + 1)) := by rw [← h1, ← flat_append, List.take_append_drop]
  rw [h2, flat_next hl]
  simp only [zS]
  omega
theorem mem_of_at {d : Doc} {i : Nat} {l : Lin} (h : d[i]? = some l) : l ∈ d := List.mem_of_getElem? h
theorem delete_may {d : Doc} {i p j q : Nat} {l m : Lin} (hM : mayD d = true) (hl : d[i]? = some l) (hm : d[j]? = some m) (hp : p ≤ l.cells.length) (hq : q ≤ m.cells.length) (hij : i ≤ j) (hpq : i = j → p ≤ q) :
  mayD (deleteL d ⟨i, p⟩ ⟨j, q⟩) = true := by
 obtain ⟨a1, a2, a3, a4⟩ := mayD_iff.1 hM
 have hj := (zK.1 hm).1
 have ho := offs_mono hl hm hp hij hpq
 refine mayD_iff.2 ⟨?_, ?_, ?_, fun x hx => ?_⟩
 ·rw [deleteL_at hl hm]; simp; omega
 ·rw [deleteL_at hl hm]
  simp only [zS, List.length_take, List.length_drop, List.length_singleton]
  omega
 ·rw [flat_delete hl hm hp hq, zS, List.length_take, List.length_drop]
  omega
 ·rw [deleteL_at hl hm] at hx
  simp only [List.mem_append, List.mem_singleton] at hx
  rcases hx with (hx | rfl) | hx
  ·exact a4 x (List.mem_of_mem_take hx)
  ·exact mayL_cells (a4 l (mem_of_at hl)) (mayCs_append (mayCs_take (mayL_has (a4 l (mem_of_at hl))) _) (mayCs_drop (mayL_has (a4 m (mem_of_at hm))) _))
  ·exact a4 x (List.mem_of_mem_drop hx)
theorem delete_get {d : Doc} {i p j q : Nat} {l m : Lin} (hl : d[i]? = some l) (hm : d[j]? = some m) (k : Nat) :
  (deleteL d ⟨i, p⟩ ⟨j, q⟩)[k]? = if k < i then d[k]? else if k = i then some { l with cells := l.cells.take p ++ m.cells.drop q } else d[k - i + j]? := by
 have hi := (zK.1 hl).1
 rw [deleteL_at hl hm]
 by_cases h1 : k < i
 ·rw [if_pos h1, List.append_assoc, List.getElem?_append_left (by simp; omega), List.getElem?_take, if_pos h1]
 ·rw [if_neg h1]
  by_cases h2 : k = i
  ·subst h2
   rw [if_pos rfl, List.append_assoc, List.getElem?_append_right (by simp; omega), List.length_take, Nat.min_eq_left (by omega), Nat.sub_self]
   rfl
  ·rw [if_neg h2, List.getElem?_append_right (by simp; omega)]
   simp only [zS, List.length_take, List.length_singleton, Nat.min_eq_left (Nat.le_of_lt hi)]
   rw [List.getElem?_drop]
   congr 1
   omega
theorem set_at {d : Doc} {i : Nat} {l : Lin} (h : d[i]? = some l) (x : Lin) : d.set i x = d.take i ++ [x] ++ d.drop (i + 1) := by
 have hi := (zK.1 h).1
 rw [List.set_eq_take_append_cons_drop, if_pos hi, List.append_assoc, List.singleton_append]
theorem set_self {d : Doc} {i : Nat} {l : Lin} (h : d[i]? = some l) : d.take i ++ [l] ++ d.drop (i + 1) = d := (split_at h).symm
theorem insert_back {d : Doc} {a : Ps} {more : List Cel} {x : Doc} {p : Ps} (h : insertD more d a = (x, p, 0)) : mayD x = true ∧ sizeD x = sizeD d + more.length ∧ deleteD x a p = (d, 0) := by
 unfold insertD at h
 split at h
 ·rename_i hc
  rw [Bool.and_eq_true] at hc
  split at h
  ·cases h
  ·rename_i hsz
   obtain ⟨hM, i, j, q, q', l, m, rfl, e, hl, hm, hq, hq', _, _⟩ := span_at hc.1
   obtain ⟨a1, a2, a3, a4⟩ := mayD_iff.1 hM
   have hi := (zK.1 hl).1
   simp only [Prod.mk.injEq, Int.toNat_natCast, List.getD, hl, Option.getD_some] at h
   obtain ⟨rfl, rfl, _⟩ := h
   have hfl : flat (d.set i { l with cells := insertC l.cells q more }) = flat (d.take i) ++ (insertC l.cells q more ++ flat (d.drop (i + 1))) := by
    rw [set_at hl, flat_append, flat_append, flat_one, List.append_assoc]
   have hin : (insertC l.cells q more).length = l.cells.length + more.length := by
    unfold insertC
    simp only [zS, List.length_take, List.length_drop]
    omega
   have hsize : sizeD (d.set i { l with cells := insertC l.cells q more }) = sizeD d + more.length := by
    rw [← flatc_len, ← flatc_len, hfl, flat_at hl]
    simp only [zS, hin]
    omega
   have hmay : mayD (d.set i { l with cells := insertC l.cells q more }) = true := by
    refine mayD_iff.2 ⟨by rw [List.length_set]; exact a1, by rw [List.length_set]; exact a2, by rw [flatc_len, hsize]; omega, fun y hy => ?_⟩
    rcases List.mem_or_eq_of_mem_set hy with hy | rfl
    ·exact a4 y hy
    ·have hc1 := mayL_has (a4 l (mem_of_at hl))
     exact mayL_cells (a4 l (mem_of_at hl)) (mayCs_append (mayCs_append (mayCs_take hc1 _) hc.2) (mayCs_drop hc1 _))
   refine ⟨hmay, hsize, ?_⟩
   have hx : (d.set i { l with cells := insertC l.cells q more })[i]? = some { l with cells := insertC l.cells q more } := List.getElem?_set_self hi
   have hsp : spanD (d.set i { l with cells := insertC l.cells q more }) ⟨i, q⟩ ⟨i, ((q + more.length : Nat) : Int)⟩ = true := span_mk hmay hx hx (by simp only [hin]; omega) (by simp only [hin]; omega) (zC _) (fun _ => by omega)
   have hq2 : (q : Int) + (more.length : Int) = ((q + more.length : Nat) : Int) := by omega
   rw [hq2]
   unfold deleteD
   rw [if_pos hsp, deleteL_at hx hx]
   have e1 : (insertC l.cells q more).take q = l.cells.take q := by
    unfold insertC
    rw [List.append_assoc, List.take_append_of_le_length (by simp; omega), List.take_take, Nat.min_self]
   have e2 : (insertC l.cells q more).drop (q + more.length) = l.cells.drop q := by
    unfold insertC
    have hlen : (l.cells.take q ++ more).length = q + more.length := by simp; omega
    rw [List.drop_append_of_le_length (by omega), List.drop_eq_nil_of_le (by omega), List.nil_append]
   simp only [e1, e2, List.take_append_drop, Prod.mk.injEq, and_true]
   rw [List.take_set_of_le (zC _), List.drop_set_of_lt (by omega)]
   exact set_self hl
 ·cases h
theorem split_back {d : Doc} {a : Ps} {x : Doc} {p : Ps} (h : splitD d a = (x, p, 0)) : mayD x = true ∧ p = ⟨a.line + 1, 0⟩ ∧ deleteD x a p = (d, 0) := by
 unfold splitD at h
 split at h
 ·rename_i hc
  split at h
  ·cases h
  ·rename_i h200
   obtain ⟨hM, i, j, q, q', l, m, rfl, e, hl, hm, hq, hq', _, _⟩ := span_at hc
   obtain ⟨a1, a2, a3, a4⟩ := mayD_iff.1 hM
   have hi := (zK.1 hl).1
   simp only [Prod.mk.injEq] at h
   obtain ⟨rfl, rfl, _⟩ := h
   have hxe : splitLD d ⟨i, q⟩ = d.take i ++ [(splitL l q).1, (splitL l q).2] ++ d.drop (i + 1) := by
    unfold splitLD
    simp [List.getD, hl]
   have hcs : (splitL l q).1.cells ++ (splitL l q).2.cells = l.cells := by
    unfold splitL
    by_cases hlq : l.cells.length ≤ q
    ·rw [if_pos hlq, List.append_nil]; exact List.take_of_length_le hlq
    ·rw [if_neg hlq]; exact List.take_append_drop _ _
   have hfl : flat (splitLD d ⟨i, q⟩) = flat d := by
    rw [hxe, flat_append, flat_append, flat_at hl, ← hcs]
    simp [flat]
   have hml := a4 l (mem_of_at hl)
   have hmay : mayD (splitLD d ⟨i, q⟩) = true := by
    refine mayD_iff.2 ⟨by rw [hxe]; simp; omega, by rw [hxe]; simp; omega, by rw [hfl]; exact a3, fun y hy => ?_⟩
    rw [hxe] at hy
    simp only [List.mem_append, List.mem_cons, List.not_mem_nil, or_false] at hy
    rcases hy with (hy | rfl | rfl) | hy
    ·exact a4 y (List.mem_of_mem_take hy)
    ·exact mayL_cells hml (mayCs_take (mayL_has hml) _)
    ·unfold splitL
     by_cases hlq : l.cells.length ≤ q
     ·rw [if_pos hlq]
      unfold mayL at hml ⊢
      simp only [Bool.and_eq_true, Bool.or_eq_true, decide_eq_true_eq] at hml ⊢
      obtain ⟨⟨⟨⟨⟨⟨⟨b1, b2⟩, b3⟩, b4⟩, b5⟩, b6⟩, b7⟩, b8⟩ := hml
      exact ⟨⟨⟨⟨⟨⟨⟨b1, b2⟩, b3⟩, Int.le_refl _⟩, by decide⟩, .inr trivial⟩, b7⟩, rfl⟩
     ·rw [if_neg hlq]
      exact mayL_cells hml (mayCs_drop (mayL_has hml) _)
    ·exact a4 y (List.mem_of_mem_drop hy)
   refine ⟨hmay, rfl, ?_⟩
   have hx1 : (splitLD d ⟨i, q⟩)[i]? = some (splitL l q).1 := by
    rw [hxe, List.append_assoc, List.getElem?_append_right (by simp; omega), List.length_take, Nat.min_eq_left (by omega), Nat.sub_self]
    rfl
   have hx2 : (splitLD d ⟨i, q⟩)[i + 1]? = some (splitL l q).2 := by
    rw [hxe, List.append_assoc, List.getElem?_append_right (by simp; omega), List.length_take, Nat.min_eq_left (by omega), show i + 1 - i = 1 by omega]
    rfl
   have hc1 : (splitL l q).1.cells = l.cells.take q := rfl
   have hq2 : (⟨(i : Int) + 1, 0⟩ : Ps) = ⟨((i + 1 : Nat) : Int), ((0 : Nat) : Int)⟩ := rfl
   have hsp : spanD (splitLD d ⟨i, q⟩) ⟨i, q⟩ ⟨((i + 1 : Nat) : Int), ((0 : Nat) : Int)⟩ = true := span_mk hmay hx1 hx2 (by rw [hc1]; simp; omega) (Nat.zero_le _) (by omega) (fun e => by omega)
   show deleteD _ _ ⟨(i : Int) + 1, 0⟩ = _
   rw [hq2]
   unfold deleteD
   rw [if_pos hsp, deleteL_at hx1 hx2, List.drop_zero, show (splitL l q).1.cells.take q = (splitL l q).1.cells by rw [hc1, List.take_take, Nat.min_self], hcs]
   have e1 : (splitLD d ⟨i, q⟩).take i = d.take i := by
    rw [hxe, List.append_assoc, List.take_append_of_le_length (by simp; omega), List.take_take, Nat.min_self]
   have e2 : (splitLD d ⟨i, q⟩).drop (i + 1 + 1) = d.drop (i + 1) := by
    rw [hxe, List.drop_append_of_le_length (by simp; omega), List.drop_eq_nil_of_le (by simp; omega), List.nil_append]
   rw [e1, e2]
   exact congrArg (·, 0) (set_self hl)
 ·cases h
theorem part_length {d : Doc} {i p j q : Nat} (h : spanD d ⟨i, p⟩ ⟨j, q⟩ = true) : (partD d ⟨i, p⟩ ⟨j, q⟩).1.length = j + 1 - i := by
 unfold partD
 rw [if_pos h]
 simp [rowsTo]
theorem end_at {d : Doc} {n : Nat} {l : Lin} (hn : d.length = n + 1) (hl : d[n]? = some l) : endD d = ⟨n, l.cells.length⟩ := by
 unfold endD
 rw [if_neg (by intro e; rw [e] at hn; cases hn), hn]
 have : d.getLastD default = l := by
  rw [List.getLastD_eq_getLast?, List.getLast?_eq_getElem?, hn, Nat.add_sub_cancel, hl]
  rfl
 rw [this]
 simp
def lineF (F : Cel → Cel) (i p j q k : Nat) (l : Lin) : Lin := if i ≤ k ∧ k ≤ j then { l with cells := mapIn F (if k = i then p else 0) (if k = j then q else l.cells.length) l.cells } else l
theorem setRows_to {F : Cel → Cel} {d : Doc} {i p j q : Nat} (hj : j < d.length) : ∀ n k, k = i + n → k ≤ j + 1 → ∀ m : Nat, (setRows (fun cs i j => mapIn F i j cs) d (rowsTo d i p j q k))[m]? = (d[m]?).map fun l => if m < k then lineF F i p j q m l else l
 | 0, k, hk, _, m => by
  obtain rfl : k = i := hk
  rw [rowsTo_nil]
  show d[m]? = _
  cases hd : d[m]? with
  | none => rfl
  | some l =>
   simp only [Option.map_some, lineF]
   by_cases h : m < k
   ·rw [if_pos h, if_neg (by omega)]
   ·rw [if_neg h]
 | n + 1, k, hk, hkj, m => by
  subst hk
  obtain ⟨x, hx, _⟩ := getOf d (i + n) (by omega)
  obtain ⟨h1, h2⟩ := setRows_step (fun cs i j => mapIn F i j cs) (i := i) (p := p) (j := j) (q := q) (by omega) hx
  have ih := setRows_to (F := F) (d := d) (i := i) (p := p) (j := j) (q := q) hj n (i + n) rfl (by omega)
  rw [show i + (n + 1) = i + n + 1 from rfl, h2]
  by_cases e : i + n = m
  ·subst e
   rw [List.getElem?_set_self (zK.1 h1).1, hx, rowB_len d hx]
   simp only [Option.map_some, lineF]
   rw [if_pos (show i + n < i + n + 1 by omega), if_pos (show i ≤ i + n ∧ i + n ≤ j by omega)]
  ·rw [List.getElem?_set_ne e, ih m]
   cases hd : d[m]? with
   | none => rfl
   | some l =>
    simp only [Option.map_some]
    by_cases h : m < i + n
    ·rw [if_pos h, if_pos (by omega)]
    ·rw [if_neg h, if_neg (by omega)]
theorem setRows_get {F : Cel → Cel} {d : Doc} {i p j q : Nat} (hj : j < d.length) (hij : i ≤ j) (m : Nat) : (setRows (fun cs i j => mapIn F i j cs) d (rowsTo d i p j q (j + 1)))[m]? = (d[m]?).map (lineF F i p j q m) := by
 rw [setRows_to hj (j + 1 - i) (j + 1) (by omega) (zC _)]
 cases hd : d[m]? with
 | none => rfl
 | some l =>
  simp only [Option.map_some]
  by_cases h : m < j + 1
  ·rw [if_pos h]
  ·rw [if_neg h, lineF, if_neg (by omega)]
theorem lineF_frame (F : Cel → Cel) (i p j q k : Nat) (l : Lin) : { (lineF F i p j q k l) with cells := [] } = { l with cells := [] } := by
 unfold lineF
 split <;> rfl
theorem lineF_length (F : Cel → Cel) (i p j q k : Nat) (l : Lin) : (lineF F i p j q k l).cells.length = l.cells.length := by
 unfold lineF
 split
 ·exact mapIn_length _ _ _ _
 ·rfl
theorem lineF_cell (F : Cel → Cel) {i p j q k : Nat} {l : Lin} {c : Nat} {x : Cel} (hij : i ≤ j) (hx : l.cells[c]? = some x) :
  (lineF F i p j q k l).cells[c]? = some (if cmpP ⟨i, p⟩ ⟨k, c⟩ ≤ 0 ∧ cmpP ⟨k, c⟩ ⟨j, q⟩ < 0 then F x else x) := by
 have hc := (zK.1 hx).1
 have hlt : ∀ a b c e : Nat, cmpP ⟨a, b⟩ ⟨c, e⟩ < 0 ↔ a < c ∨ a = c ∧ b < e := by
  intro a b c e
  unfold cmpP cmpI
  simp only
  by_cases h : (a : Int) < c
  ·simp [h]; omega
  ·by_cases h2 : (c : Int) < a
   ·simp [h, h2]; omega
   ·simp only [h, h2, if_false]
    simp only [ne_eq, not_true_eq_false, if_false]
    split
    ·simp; omega
    ·split
     ·simp; omega
     ·simp; omega
 simp only [cmp_le, hlt]
 unfold lineF
 by_cases h : i ≤ k ∧ k ≤ j
 ·rw [if_pos h]
  simp only
  rw [mapIn_get, hx]
  simp only [Option.map_some]
  have key : ((if k = i then p else 0) ≤ c ∧ c < (if k = j then q else l.cells.length)) ↔ ((i < k ∨ i = k ∧ p ≤ c) ∧ (k < j ∨ k = j ∧ c < q)) := by
   by_cases e1 : k = i
   ·rw [if_pos e1]
    by_cases e2 : k = j
    ·rw [if_pos e2]; omega
    ·rw [if_neg e2]; omega
   ·rw [if_neg e1]
    by_cases e2 : k = j
    ·rw [if_pos e2]; omega
    ·rw [if_neg e2]; omega
  by_cases g : (if k = i then p else 0) ≤ c ∧ c < (if k = j then q else l.cells.length)
  ·rw [if_pos g, if_pos (key.1 g)]
  ·rw [if_neg g, if_neg (fun e => g (key.2 e))]
 ·rw [if_neg h, hx, if_neg (by omega)]
theorem mapIn_cut {F : Cel → Cel} {i k : Nat} {l : List Cel} : ((mapIn F i k l).drop i).take (k - i) = ((l.drop i).take (k - i)).map F := by
 apply List.ext_getElem?
 intro n
 simp only [List.getElem?_take, List.getElem?_drop, List.getElem?_map, mapIn_get]
 split
 ·cases l[i + n]? with
  | none => rfl
  | some x => simp only [Option.map_some]; rw [if_pos (by omega)]
 ·rfl
theorem mem_mapIn {F : Cel → Cel} {i k : Nat} {l : List Cel} {y : Cel} (h : y ∈ mapIn F i k l) : ∃ x ∈ l, y = x ∨ y = F x := by
 obtain ⟨n, hn⟩ := List.getElem?_of_mem h
 rw [mapIn_get] at hn
 cases hx : l[n]? with
 | none => rw [hx] at hn; cases hn
 | some x =>
  rw [hx] at hn
  simp only [Option.map_some, Option.some.injEq] at hn
  refine ⟨x, List.mem_of_getElem? hx, ?_⟩
  split at hn
  ·exact .inr hn.symm
  ·exact .inl hn.symm
theorem cells_set {F : Cel → Cel} {d : Doc} {a b : Ps} (hF : ∀ c, mayC c = true → mayC (F c) = true) (h : spanD d a b = true) :
  mayD (setRows (fun cs i j => mapIn F i j cs) d (rowsTo d a.line.toNat a.col.toNat b.line.toNat b.col.toNat (b.line.toNat + 1))) = true ∧
  spanD (setRows (fun cs i j => mapIn F i j cs) d (rowsTo d a.line.toNat a.col.toNat b.line.toNat b.col.toNat (b.line.toNat + 1))) a b = true ∧
  cellsD (setRows (fun cs i j => mapIn F i j cs) d (rowsTo d a.line.toNat a.col.toNat b.line.toNat b.col.toNat (b.line.toNat + 1))) a b = (cellsD d a b).map F := by
 obtain ⟨hM, i, j, p, q, l, m, rfl, rfl, hl, hm, hp, hq, hij, hpq⟩ := span_at h
 obtain ⟨a1, a2, a3, a4⟩ := mayD_iff.1 hM
 have hi := (zK.1 hl).1
 have hj := (zK.1 hm).1
 simp only [Int.toNat_natCast]
 have hget := setRows_get (F := F) (p := p) (q := q) hj hij
 obtain ⟨D, hD⟩ : ∃ D, setRows (fun cs i j => mapIn F i j cs) d (rowsTo d i p j q (j + 1)) = D := ⟨_, rfl⟩
 rw [hD] at hget ⊢
 have hlen : D.length = d.length := by
  have h1 := hget d.length
  rw [List.getElem?_eq_none (zC _)] at h1
  have h2 : D.length ≤ d.length := List.getElem?_eq_none_iff.1 h1
  have h3 := hget D.length
  rw [List.getElem?_eq_none (zC _)] at h3
  have h4 : d[D.length]? = none := by
   cases hd : d[D.length]? with
   | none => rfl
   | some x => rw [hd] at h3; cases h3
  have := List.getElem?_eq_none_iff.1 h4
  omega
 have hmapl : D.map (·.cells.length) = d.map (·.cells.length) := by
  apply List.ext_getElem?
  intro n
  rw [List.getElem?_map, List.getElem?_map, hget]
  cases d[n]? with
  | none => rfl
  | some x => simp only [Option.map_some, lineF_length]
 have hsz : sizeD D = sizeD d := by unfold sizeD; rw [hmapl]
 have hmay : mayD D = true := by
  refine mayD_iff.2 ⟨by omega, by omega, by rw [flatc_len, hsz, ← flatc_len]; exact a3, fun y hy => ?_⟩
  obtain ⟨n, hn⟩ := List.getElem?_of_mem hy
  rw [hget] at hn
  cases hx : d[n]? with
  | none => rw [hx] at hn; cases hn
  | some x =>
   rw [hx] at hn
   simp only [Option.map_some, Option.some.injEq] at hn
   subst hn
   have hx4 := a4 x (mem_of_at hx)
   unfold lineF
   split
   ·refine mayL_cells hx4 ?_
    unfold mayCs
    rw [List.all_eq_true]
    intro z hz
    have hcs := mayL_has hx4
    unfold mayCs at hcs
    rw [List.all_eq_true] at hcs
    obtain ⟨u, hu, e⟩ := mem_mapIn hz
    rcases e with rfl | rfl
    ·exact hcs _ hu
    ·exact hF _ (hcs _ hu)
   ·exact hx4
 have hDl := hget i
 have hDm := hget j
 rw [hl] at hDl
 rw [hm] at hDm
 simp only [Option.map_some] at hDl hDm
 have hsp : spanD D ⟨i, p⟩ ⟨j, q⟩ = true := span_mk hmay hDl hDm (by rw [lineF_length]; exact hp) (by rw [lineF_length]; exact hq) hij hpq
 refine ⟨hmay, hsp, ?_⟩
 rw [cellsD_at hsp, cellsD_at h]
 have hto : ∀ n k, k = i + n → k ≤ j + 1 → cellsL D (rowsTo D i p j q k) = (cellsL d (rowsTo d i p j q k)).map F := by
  intro n
  induction n with
  | zero =>
   intro k hk _
   obtain rfl : k = i := hk
   rw [rowsTo_nil, rowsTo_nil]
   rfl
  | succ n ih =>
   intro k hk hkj
   subst hk
   obtain ⟨x, hx, _⟩ := getOf d (i + n) (by omega)
   have hy := hget (i + n)
   rw [hx] at hy
   simp only [Option.map_some] at hy
   rw [show i + (n + 1) = i + n + 1 from rfl, rowsTo_step D (by omega), rowsTo_step d (by omega), cellsL_snoc, cellsL_snoc, List.map_append, ih (i + n) rfl (by omega), rowB_len D hy, rowB_len d hx, cellsB_at (by exact hy), cellsB_at (by exact hx)]
   congr 1
   simp only [lineF_length]
   have : (lineF F i p j q (i + n) x).cells = mapIn F (if i + n = i then p else 0) (if i + n = j then q else x.cells.length) x.cells := by
    unfold lineF
    rw [if_pos ⟨by omega, by omega⟩]
   rw [this]
   exact mapIn_cut
 exact hto (j + 1 - i) (j + 1) (by omega) (zC _)
theorem bits_fin (x s c : Int) (hx : 0 ≤ x ∧ x ≤ 15) (hs : 0 ≤ s ∧ s ≤ 15) (hc : 0 ≤ c ∧ c ≤ 15) :
  bits .and .i64 s 15 = s ∧ (0 ≤ bits .or .i64 (bits .andNot .i64 x c) s ∧ bits .or .i64 (bits .andNot .i64 x c) s ≤ 15) ∧ bits .and .i64 (bits .or .i64 (bits .andNot .i64 x c) s) s = s ∧ bits .and .i64 (bits .or .i64 (bits .andNot .i64 x c) s) (bits .andNot .i64 c s) = 0 := by
 obtain ⟨x, rfl⟩ := Int.eq_ofNat_of_zero_le hx.1
 obtain ⟨s, rfl⟩ := Int.eq_ofNat_of_zero_le hs.1
 obtain ⟨c, rfl⟩ := Int.eq_ofNat_of_zero_le hc.1
 have H : ∀ x s c : Fin 16, bits .and .i64 (s.val : Int) 15 = s.val ∧ (0 ≤ bits .or .i64 (bits .andNot .i64 (x.val : Int) c.val) s.val ∧ bits .or .i64 (bits .andNot .i64 (x.val : Int) c.val) s.val ≤ 15) ∧ bits .and .i64 (bits .or .i64 (bits .andNot .i64 (x.val : Int) c.val) s.val) s.val = s.val ∧ bits .and .i64 (bits .or .i64 (bits .andNot .i64 (x.val : Int) c.val) s.val) (bits .andNot .i64 (c.val : Int) s.val) = 0 := by decide +kernel
 exact H ⟨x, by omega⟩ ⟨s, by omega⟩ ⟨c, by omega⟩
theorem may_small {d : Doc} (h : mayD d = true) : Small d ∧ Fits d := by
 obtain ⟨h1, h2, h3, h4⟩ := mayD_iff.1 h
 rw [flatc_len] at h3
 refine ⟨⟨by omega, by omega, fun l hl c hc => ?_⟩, by omega, fun l hl => ?_⟩
 ·have := h4 l hl
  unfold mayL at this
  simp only [Bool.and_eq_true] at this
  have hcs := this.2
  unfold mayCs at hcs
  have hm := List.all_eq_true.1 hcs c hc
  unfold mayC linkF at hm
  simp only [Bool.and_eq_true, Bool.or_eq_true, decide_eq_true_eq] at hm
  rcases hm.2 with e | e
  ·rw [e]; simp
  ·unfold targetF valueF valueB at e
   simp only [Bool.and_eq_true, decide_eq_true_eq] at e
   have h5 := e.1.2.1
   have : (⟨c.href.toArray⟩ : ByteArray).size = c.href.length := by show c.href.toArray.size = _; simp
   omega
 ·have hm := h4 l hl
  unfold mayL at hm
  simp only [Bool.and_eq_true, decide_eq_true_eq] at hm
  obtain ⟨i, hi⟩ := List.getElem?_of_mem hl
  have := cells_le hi
  omega
theorem may_setBits {s c : Int} (hs : 0 ≤ s ∧ s ≤ 15) (hc : 0 ≤ c ∧ c ≤ 15) : ∀ x, mayC x = true → mayC (setBits s c x) = true := by
 intro x hx
 unfold mayC at hx ⊢
 simp only [Bool.and_eq_true, decide_eq_true_eq] at hx ⊢
 obtain ⟨⟨⟨h1, h2⟩, h3⟩, h4⟩ := hx
 have h := (bits_fin x.bits s c ⟨h2, h3⟩ hs hc).2.1
 have e1 := (bits_fin x.bits s c ⟨h2, h3⟩ hs hc).1
 have e2 := (bits_fin x.bits c s ⟨h2, h3⟩ hc hs).1
 have e : (setBits s c x).bits = bits .or .i64 (bits .andNot .i64 x.bits c) s := by unfold setBits; simp only [e1, e2]
 rw [e]
 exact ⟨⟨⟨h1, h.1⟩, h.2⟩, h4⟩
theorem may_setHref {h : List UInt8} (hl : linkF h = true) : ∀ x, mayC x = true → mayC (setHref h x) = true := by
 intro x hx
 unfold mayC setHref at *
 simp only [Bool.and_eq_true, decide_eq_true_eq] at hx ⊢
 exact ⟨hx.1, hl⟩
theorem isD_alike {D E : Doc} (h : Alike D E) (p : Ps) : isD E p = isD D p := by
 unfold isD
 by_cases hk : p.line.toNat < D.length
 ·obtain ⟨l, hl, _⟩ := getOf D p.line.toNat hk
  obtain ⟨m, hm, e⟩ := h.2 _ _ hl
  rw [List.getD, List.getD, hl, hm, h.1]
  simp only [Option.getD_some, e]
 ·rw [List.getD, List.getD, List.getElem?_eq_none (Nat.le_of_not_lt hk), List.getElem?_eq_none (by have := h.1; omega), h.1]
theorem each_ok {C : List Cel → Nat → Nat → List Cel} {d : Doc} {a b : Ps} {X : Doc} (h : eachD C d a b = (X, 0)) : spanD d a b = true ∧ cellsD d a b ≠ [] ∧ X = setRows C d (rowsTo d a.line.toNat a.col.toNat b.line.toNat b.col.toNat (b.line.toNat + 1)) := by
 unfold eachD at h
 split at h
 ·rename_i h1
  split at h
  ·have h3 := congrArg Prod.snd h
   simp at h3
  ·rename_i h2
   exact ⟨h1, h2, (congrArg Prod.fst h).symm⟩
 ·have h3 := congrArg Prod.snd h
  simp at h3
theorem each_keeps {F : Cel → Cel} (hF : ∀ c, mayC c = true → mayC (F c) = true) {d : Doc} {a b : Ps} {X : Doc} (h : eachD (fun cs i j => mapIn F i j cs) d a b = (X, 0)) :
  spanD d a b = true ∧ cellsD d a b ≠ [] ∧ mayD X = true ∧ Alike d X ∧ spanD X a b = true ∧ cellsD X a b = (cellsD d a b).map F := by
 obtain ⟨h1, h2, rfl⟩ := each_ok h
 obtain ⟨a1, a2, a3⟩ := cells_set hF h1
 exact ⟨h1, h2, a1, setRows_alike (fun _ _ _ => mapIn_length _ _ _ _) _ _, a2, a3⟩
theorem may_stays {s : St} (hm : mayS s = true) {X : Doc} (hX : mayD X = true) (ha : Alike s.lines X) : mayS ⟨X, s.anc, s.foc, 0, 0⟩ = true := by
 obtain ⟨_, h2, h3, _⟩ := mayS_at hm
 simp only [mayS, Bool.and_eq_true]
 exact ⟨hX, by rw [isD_alike ha]; exact h2, by rw [isD_alike ha]; exact h3, by decide +kernel, by decide +kernel, by decide +kernel⟩
def stripC (c : Cel) : Cel := ⟨c.r, 0, []⟩
def stripL (l : Lin) : Lin := { l with cells := l.cells.map stripC }
def stripD (d : Doc) : Doc := d.map stripL
theorem strip_mapIn {F : Cel → Cel} (hF : ∀ c, (F c).r = c.r) (i k : Nat) (cs : List Cel) : (mapIn F i k cs).map stripC = cs.map stripC := by
 apply List.ext_getElem?
 intro q
 rw [List.getElem?_map, mapIn_get, List.getElem?_map, Option.map_map]
 cases cs[q]? with
 | none => rfl
 | some x =>
  simp only [Option.map_some, Function.comp]
  split
  ·unfold stripC; rw [hF]
  ·rfl
theorem setRow_strip {F : Cel → Cel} (hF : ∀ c, (F c).r = c.r) (D : Doc) (x : Nat × Nat × Nat) : stripD (setRow (fun cs i j => mapIn F i j cs) D x) = stripD D := by
 unfold setRow stripD
 apply List.ext_getElem?
 intro q
 rw [List.getElem?_map, List.getElem?_map, List.getElem?_set]
 by_cases e : x.1 = q
 ·subst e
  rw [if_pos rfl]
  by_cases hk : x.1 < D.length
  ·obtain ⟨l, hl, _⟩ := getOf D x.1 hk
   rw [if_pos hk, hl, List.getD, hl]
   simp only [Option.getD_some, Option.map_some, stripL, strip_mapIn hF]
  ·rw [if_neg hk, List.getElem?_eq_none (Nat.le_of_not_lt hk)]
 ·rw [if_neg e]
theorem setRows_strip {F : Cel → Cel} (hF : ∀ c, (F c).r = c.r) : ∀ (xs : List (Nat × Nat × Nat)) (D : Doc), stripD (setRows (fun cs i j => mapIn F i j cs) D xs) = stripD D
 | [], _ => rfl
 | x :: xs, D => (setRows_strip hF xs (setRow (fun cs i j => mapIn F i j cs) D x)).trans (setRow_strip hF D x)
theorem each_strip {F : Cel → Cel} (hF : ∀ c, (F c).r = c.r) {d : Doc} {a b : Ps} {X : Doc} (h : eachD (fun cs i j => mapIn F i j cs) d a b = (X, 0)) : stripD X = stripD d := by
 obtain ⟨_, _, rfl⟩ := each_ok h
 exact setRows_strip hF _ _
structure Stays (s t : St) : Prop where
 may : mayS t = true
 anc : t.anc = s.anc
 foc : t.foc = s.foc
 strip : stripD t.lines = stripD s.lines
theorem Stays.refl {s : St} (h : mayS s = true) : Stays s s := ⟨h, rfl, rfl, rfl⟩
theorem Stays.trans {s t u : St} (h : Stays s t) (k : Stays t u) : Stays s u := ⟨k.may, k.anc.trans h.anc, k.foc.trans h.foc, k.strip.trans h.strip⟩
def ActSaid (s : St) (x : St × Int) : Prop := (x.2 = 0 ∧ Stays s x.1) ∨ (x.1 = noS ∧ (x.2 = 7 ∨ x.2 = 1))
theorem each_stays {s : St} (hm : mayS s = true) {F : Cel → Cel} (hF : ∀ c, mayC c = true → mayC (F c) = true) (hr : ∀ c, (F c).r = c.r) (a b : Ps) : ActSaid s (staysS s (eachD (fun cs i j => mapIn F i j cs) s.lines a b)) := by
 obtain ⟨X, e, h⟩ : ∃ X e, eachD (fun cs i j => mapIn F i j cs) s.lines a b = (X, e) := ⟨_, _, rfl⟩
 by_cases h0 : e = 0
 ·subst h0
  obtain ⟨_, _, h3, h4, _, _⟩ := each_keeps hF h
  rw [h]
  unfold staysS
  rw [if_pos rfl]
  exact .inl ⟨rfl, may_stays hm h3 h4, rfl, rfl, each_strip hr h⟩
 ·rw [h]
  unfold staysS
  rw [if_neg h0]
  refine .inr ⟨rfl, ?_⟩
  have h1 : (eachD (fun cs i j => mapIn F i j cs) s.lines a b).2 = e := by rw [h]
  unfold eachD at h1
  split at h1
  ·split at h1
   ·exact .inl h1.symm
   ·exact absurd h1.symm h0
  ·exact .inr h1.symm
theorem may_range {x : Int} (hx : -9223372036854775808 ≤ x ∧ x ≤ 9223372036854775807) (h : bits .andNot .i64 x 15 = 0) : 0 ≤ x ∧ x ≤ 15 := by
 have := bits_small x hx
 rw [h] at this
 simpa using this.symm
theorem cells_closed (d : Doc) (p : Ps) : cellsD d p p = [] := by
 cases h : spanD d p p
 ·unfold cellsD; rw [h]; rfl
 ·obtain ⟨hM, i, j, a, b, l, m, h1, h2, hl, hm, hp, hq, hij, hpq⟩ := span_at h
  rw [h1] at h2
  have e1 : i = j := by injection h2 with h3 _; omega
  have e2 : a = b := by injection h2 with _ h4; omega
  subst e1 e2
  rw [h1]
  have := cells_len hM hl hm hp hq hij hpq
  exact List.length_eq_zero_iff.1 (by omega)
theorem open_stays {s : St} {F : Cel → Cel} (hm : mayS s = true) (hF : ∀ c, mayC c = true → mayC (F c) = true) {X : Doc} (h : eachD (fun cs i j => mapIn F i j cs) s.lines (spanS s).1 (spanS s).2 = (X, 0)) :
  ¬ s.anc = s.foc ∧ mayS ⟨X, s.anc, s.foc, 0, 0⟩ = true ∧ selS s ≠ [] ∧ selS ⟨X, s.anc, s.foc, 0, 0⟩ = (selS s).map F ∧ spanS ⟨X, s.anc, s.foc, 0, 0⟩ = spanS s ∧ spanD X (spanS s).1 (spanS s).2 = true ∧ (∀ c, c ∈ selS s → 0 ≤ c.bits ∧ c.bits ≤ 15) := by
 obtain ⟨_, h2, h3, h4, h5, h6⟩ := each_keeps hF h
 refine ⟨fun e => ?_, may_stays hm h3 h4, h2, h6, rfl, h5, fun c hc => cells_bits (mayS_at hm).1 c hc⟩
 rw [spanS_closed e] at h2
 exact h2 (cells_closed _ _)
theorem stays_ok {s a : St} {x : Doc × Int} (h : staysS s x = (a, 0)) : x.2 = 0 ∧ a = ⟨x.1, s.anc, s.foc, 0, 0⟩ := by
 unfold staysS at h
 split at h
 ·rename_i h0
  exact ⟨h0, (congrArg Prod.fst h).symm⟩
 ·rename_i h0
  exact absurd (congrArg Prod.snd h) h0
theorem each_again {s : St} {F : Cel → Cel} {X : Doc} {A B : Ps} (h1 : spanD X A B = true) (h2 : cellsD X A B ≠ []) : ∃ Y, eachD (fun cs i j => mapIn F i j cs) X A B = (Y, 0) := by
 unfold eachD
 rw [if_pos h1, if_neg h2]
 exact ⟨_, rfl⟩
end Go.Proofs.Qw
namespace Go.Proofs.Qw
def placesFrom : Nat → Doc → List Ps
 | _, [] => []
 | i, l :: d => (List.range (l.cells.length + 1)).map (fun (k : Nat) => (⟨(i : Int), (k : Int)⟩ : Ps)) ++ placesFrom (i + 1) d
def placesD (d : Doc) : List Ps := placesFrom 0 d
theorem placesFrom_length : ∀ (d : Doc) (i : Nat), (placesFrom i d).length = sizeD d + d.length
 | [], _ => rfl
 | l :: d, i => by
  rw [placesFrom, List.length_append, placesFrom_length d, List.length_map, List.length_range]
  simp only [sizeD, List.map_cons, List.sum_cons, List.length_cons]
  omega
theorem placesD_length (d : Doc) : (placesD d).length = sizeD d + d.length := placesFrom_length d 0
end Go.Proofs.Qw
namespace Go.Proofs.YtcliojeoindceaaGreatDoor
open Go.RowKit
open Go.Proofs.Qw
open _root_.List renaming getElem?_eq_some_iff → zK, length_append → zS
theorem placesFrom_at : ∀ (d : Doc) (i k : Nat) (p : Ps), (placesFrom i d)[k]? = some p → ∃ m : Nat, p.line = ((i + m : Nat) : Int) ∧ m < d.length ∧ 0 ≤ p.col ∧ p.col ≤ ((d.getD m default).cells.length : Int) ∧ (k : Int) = sizeD (d.take m) + m + p.col
 | [], i, k, p, h => by simp [placesFrom] at h
 | l :: d, i, k, p, h => by
  rw [placesFrom] at h
  by_cases hk : k < l.cells.length + 1
  ·rw [List.getElem?_append_left (by simpa using hk), List.getElem?_map, List.getElem?_range hk] at h
   cases h
   refine ⟨0, by simp, by simp, by simp, by simp; omega, by simp [sizeD]⟩
  ·rw [List.getElem?_append_right (by simpa using hk)] at h
   simp only [List.length_map, List.length_range] at h
   obtain ⟨m, h1, h2, h3, h4, h5⟩ := placesFrom_at d (i + 1) _ p h
   refine ⟨m + 1, by rw [h1]; congr 1; omega, by simpa using h2, h3, by simpa using h4, ?_⟩
   simp only [sizeD, List.take_succ_cons, List.map_cons, List.sum_cons] at h5 ⊢
   omega
theorem placesFrom_has : ∀ (d : Doc) (i m j : Nat), m < d.length → j ≤ (d.getD m default).cells.length → (placesFrom i d)[sizeD (d.take m) + m + j]? = some ⟨((i + m : Nat) : Int), j⟩
 | [], i, m, j, h, _ => by cases h
 | l :: d, i, 0, j, _, h => by
  have h : j ≤ l.cells.length := h
  rw [placesFrom, List.getElem?_append_left (by simp [sizeD]; omega), List.getElem?_map]
  simp only [List.take_zero, sizeD, List.map_nil, List.sum_nil, Nat.zero_add]
  rw [List.getElem?_range (by omega)]
  rfl
 | l :: d, i, m + 1, j, hm, h => by
  have ih := placesFrom_has d (i + 1) m j (by simpa using hm) (by simpa using h)
  have e : sizeD ((l :: d).take (m + 1)) + (m + 1) + j = (l.cells.length + 1) + (sizeD (d.take m) + m + j) := by
   simp only [sizeD, List.take_succ_cons, List.map_cons, List.sum_cons]
   omega
  rw [placesFrom, e, List.getElem?_append_right (by simp)]
  simp only [List.length_map, List.length_range]
  rw [Nat.add_sub_cancel_left, ih]
  congr 2
  omega
theorem places_off {d : Doc} {k : Nat} {p : Ps} (h : (placesD d)[k]? = some p) : offD d p = ((k : Int), 0) := by
 obtain ⟨m, h1, h2, h3, h4, h5⟩ := placesFrom_at d 0 k p h
 obtain ⟨a, b⟩ := p
 simp only [Nat.zero_add] at h1
 subst h1
 obtain ⟨l, hl, _⟩ := getOf d m h2
 have hg : d.getD m default = l := by simp [List.getD, hl]
 rw [hg] at h4
 unfold offD
 rw [isD_at hl]
 simp only at h3 h4 h5
 rw [if_pos (by simp [h3, h4])]
 simp
 omega
theorem atGo_places : ∀ (d : Doc) (i : Nat) (n : Int), atGo i d n = if h : 0 ≤ n ∧ n < (placesFrom i d).length then ((placesFrom i d)[n.toNat]'(by omega), 0) else (⟨0, 0⟩, 1)
 | [], i, n => by
  rw [dif_neg (by simp [placesFrom])]
  rfl
 | l :: d, i, n => by
  by_cases h0 : n < 0
  ·rw [atGo_neg h0, dif_neg (by omega)]
  ·by_cases h1 : n ≤ l.cells.length
   ·rw [atGo, if_neg h0, if_pos h1, dif_pos ⟨by omega, by simp [placesFrom]; omega⟩]
    congr 1
    simp only [placesFrom]
    rw [List.getElem_append_left (by simp; omega)]
    simp
    omega
   ·rw [atGo, if_neg h0, if_neg h1, atGo_places d]
    by_cases h2 : n < (placesFrom i (l :: d)).length
    ·have h2' := h2
     simp only [placesFrom, zS, List.length_map, List.length_range] at h2'
     rw [dif_pos ⟨by omega, by omega⟩, dif_pos ⟨by omega, h2⟩]
     congr 1
     simp only [placesFrom]
     rw [List.getElem_append_right (by simp; omega)]
     congr 1
     simp
     omega
    ·have h2' := h2
     simp only [placesFrom, zS, List.length_map, List.length_range] at h2'
     rw [dif_neg (by omega), dif_neg (by omega)]
theorem atD_some {d : Doc} {n : Nat} {p : Ps} (h : (placesD d)[n]? = some p) : atD d n = (p, 0) := by
 obtain ⟨h1, h2⟩ := zK.1 h
 unfold atD
 rw [atGo_places, dif_pos ⟨by omega, by unfold placesD at h1; omega⟩]
 simp only [Int.toNat_natCast]
 rw [show (placesFrom 0 d)[n] = p from h2]
theorem places_last {d : Doc} (h : d ≠ []) : (placesD d)[(placesD d).length - 1]? = some (endD d) := by
 have hd : 0 < d.length := List.length_pos_iff.2 h
 obtain ⟨l, hl, _⟩ := getOf d (d.length - 1) (by omega)
 have hg : d.getD (d.length - 1) default = l := by simp [List.getD, hl]
 have e : endD d = ⟨((d.length - 1 : Nat) : Int), l.cells.length⟩ := by
  unfold endD
  rw [if_neg h, List.getLastD_eq_getLast?, List.getLast?_eq_getElem?, hl]
  simp only [Option.getD_some, Ps.mk.injEq, and_true]
  omega
 have hs := sizeD_step hl
 rw [List.take_of_length_le (by omega)] at hs
 have := placesFrom_has d 0 (d.length - 1) l.cells.length (by omega) (by rw [hg]; omega)
 simp only [Nat.zero_add] at this
 rw [placesD_length, e]
 rw [show sizeD d + d.length - 1 = sizeD (d.take (d.length - 1)) + (d.length - 1) + l.cells.length by omega]
 exact this
theorem isD_nat {d : Doc} {p : Ps} (h : isD d p = true) : ∃ (i j : Nat) (l : Lin), p = ⟨i, j⟩ ∧ d[i]? = some l ∧ j ≤ l.cells.length := by
 obtain ⟨x, y⟩ := p
 by_cases hi : 0 ≤ x ∧ x < d.length
 ·obtain ⟨i, rfl⟩ := Int.eq_ofNat_of_zero_le hi.1
  obtain ⟨l, hl, _⟩ := getOf d i (by omega)
  rw [isD_at hl] at h
  simp only [Bool.and_eq_true, decide_eq_true_eq] at h
  obtain ⟨p, rfl⟩ := Int.eq_ofNat_of_zero_le h.1
  exact ⟨i, p, l, rfl, hl, by omega⟩
 ·rw [isD_off hi] at h
  cases h
theorem clamp_is {d : Doc} {p : Ps} (h : isD d p = true) : clampD d p = p := by
 obtain ⟨i, j, l, rfl, hl, hj⟩ := isD_nat h
 rw [clampD_at hl]
 congr 1
 omega
theorem is_places {d : Doc} {k : Nat} {p : Ps} (h : (placesD d)[k]? = some p) : isD d p = true := by
 obtain ⟨m, h1, h2, h3, h4, _⟩ := placesFrom_at d 0 k p h
 obtain ⟨x, y⟩ := p
 simp only [Nat.zero_add] at h1
 subst h1
 obtain ⟨l, hl, _⟩ := getOf d m h2
 have hg : d.getD m default = l := by simp [List.getD, hl]
 rw [hg] at h4
 rw [isD_at hl]
 simp only at h3 h4
 simp [h3, h4]
theorem stepD_places {d : Doc} {n : Nat} {p : Ps} (hp : (placesD d)[n]? = some p) (m : Int) : stepD d p m = if m < -(n : Int) then (⟨0, 0⟩, false) else if ((placesD d).length : Int) - 1 - n < m then (endD d, false) else ((atD d (n + m)).1, true) := by
 have hne : d ≠ [] := by rintro rfl; simp [placesD, placesFrom] at hp
 have hl := places_last hne
 have hn := (zK.1 hp).1
 unfold stepD
 rw [if_neg hne, clamp_is (is_places hp), places_off hp, places_off hl]
 simp only
 rw [show (((placesD d).length - 1 : Nat) : Int) = ((placesD d).length : Int) - 1 by omega]
end Go.Proofs.YtcliojeoindceaaGreatDoor
namespace Go.Proofs.Qw
open Go.RowKit Go.Proofs.YtcliojeoindceaaGreatDoor
def RngS (s : St) : Prop := (0 ≤ s.on ∧ s.on ≤ 15) ∧ (0 ≤ s.off ∧ s.off ≤ 15)
theorem rng_may {s : St} (h : mayS s = true) (ho : -9223372036854775808 ≤ s.on ∧ s.on ≤ 9223372036854775807) (hf : -9223372036854775808 ≤ s.off ∧ s.off ≤ 9223372036854775807) : RngS s := by
 obtain ⟨_, _, _, h1, h2, _⟩ := mayS_at h
 exact ⟨may_range ho h1, may_range hf h2⟩
def ActsOn (s : St) (x : St × Int) : Prop := (x.2 = 0 ∧ Stays s x.1 ∧ RngS x.1) ∨ (x.1 = noS ∧ (x.2 = 7 ∨ x.2 = 1))
theorem acts_stays {s : St} {y : Doc × Int} (h : ActSaid s (staysS s y)) : ActsOn s (staysS s y) := by
 rcases h with ⟨h1, h2⟩ | h
 ·refine .inl ⟨h1, h2, ?_⟩
  unfold staysS at h1 ⊢
  split
  ·exact ⟨⟨Int.le_refl 0, (by decide : (0 : Int) ≤ 15)⟩, ⟨Int.le_refl 0, (by decide : (0 : Int) ≤ 15)⟩⟩
  ·exact ⟨⟨Int.le_refl 0, (by decide : (0 : Int) ≤ 15)⟩, ⟨Int.le_refl 0, (by decide : (0 : Int) ≤ 15)⟩⟩
 ·exact .inr h
theorem acts_off (s : St) {e : Int} (h : e = 7 ∨ e = 1) : ActsOn s (staysS s ([], e)) := by
 refine .inr ⟨?_, ?_⟩
 ·unfold staysS; rw [if_neg (by rcases h with rfl | rfl <;> decide)]
 ·unfold staysS; rw [if_neg (by rcases h with rfl | rfl <;> decide)]; exact h
theorem acts_link {s : St} (hm : mayS s = true) (h : List UInt8) : ActsOn s (changedS s (linkL s h)) := by
 unfold changedS linkL
 rw [if_pos hm]
 split
 ·unfold linkD
  split
  ·rename_i h2
   exact acts_stays (each_stays hm (may_setHref h2) (fun _ => rfl) _ _)
  ·exact acts_off s (.inr rfl)
 ·exact acts_off s (.inr rfl)
theorem acts_unlink {s : St} (hm : mayS s = true) : ActsOn s (changedS s (unlinkL s)) := by
 unfold changedS unlinkL
 rw [if_pos hm]
 split
 ·unfold linkD
  rw [if_pos (by simp [linkF])]
  exact acts_stays (each_stays hm (may_setHref (by simp [linkF])) (fun _ => rfl) _ _)
 ·exact acts_off s (.inl rfl)
theorem acts_set {s : St} (hm : mayS s = true) {x y : Int} (hx : 0 ≤ x ∧ x ≤ 15) (hy : 0 ≤ y ∧ y ≤ 15) (a b : Ps) : ActsOn s (staysS s (setD x y s.lines a b)) := by
 unfold setD
 exact acts_stays (each_stays hm (may_setBits hx hy) (fun _ => rfl) _ _)
theorem acts_plain {s : St} (hm : mayS s = true) : ActsOn s (changedS s (plainL s)) := by
 unfold changedS plainL
 rw [if_pos hm]
 split
 ·exact acts_set hm (by decide) (by decide) _ _
 ·exact acts_off s (.inl rfl)
theorem four_rng {b : Int} (h : four b = true) : 0 ≤ b ∧ b ≤ 15 := by
 rcases four_cases h with rfl | rfl | rfl | rfl <;> decide
theorem mayC_bits {c : Cel} (h : mayC c = true) : 0 ≤ c.bits ∧ c.bits ≤ 15 := by
 unfold mayC at h
 simp only [Bool.and_eq_true, decide_eq_true_eq] at h
 exact ⟨h.1.1.2, h.1.2⟩
theorem around_rng {l : List Cel} (h : mayCs l = true) {k : Nat} (hk : k ≤ l.length) : 0 ≤ (aroundF l k).1 ∧ (aroundF l k).1 ≤ 15 := by
 have H : ∀ n, n < l.length → 0 ≤ (l.getD n default).bits ∧ (l.getD n default).bits ≤ 15 := fun n hn => by
  rw [List.getD_eq_getElem?_getD, List.getElem?_eq_getElem hn]
  exact mayC_bits (List.all_eq_true.1 h _ (List.getElem_mem hn))
 unfold aroundF
 simp only
 split
 ·exact H _ (by omega)
 ·split
  ·exact H _ (by omega)
  ·decide
theorem bits_closed {s : St} (hm : mayS s = true) (hc : s.anc = s.foc) :
  ∃ x, bitsS s = bits .or .i64 (bits .andNot .i64 x s.off) s.on ∧ 0 ≤ x ∧ x ≤ 15 := by
 obtain ⟨hM, hi, _⟩ := mayS_at hm
 obtain ⟨i, j, l, ha, hl, hj⟩ := isD_nat hi
 refine ⟨(aroundF (cellsAt s) s.anc.col.toNat).1, ?_, ?_⟩
 ·unfold bitsS; rw [if_pos hm, if_pos hc]
 ·have : cellsAt s = l.cells := by
   unfold cellsAt
   rw [ha]
   simp only [Int.toNat_natCast]
   rw [List.getD_eq_getElem?_getD, hl]
   rfl
  rw [this, ha]
  exact around_rng (mayL_has ((mayD_iff.1 hM).2.2.2 l (mem_of_at hl))) (by simpa using hj)
theorem tog_rng (on off x b : Int) (ho : 0 ≤ on ∧ on ≤ 15) (hf : 0 ≤ off ∧ off ≤ 15) (hx : 0 ≤ x ∧ x ≤ 15) (h0 : bits .and .i64 on off = 0) (hb : four b = true) :
  ∃ n m : Int, bits .or .i64 (bits .andNot .i64 on b) (bits .andNot .i64 b (bits .or .i64 (bits .andNot .i64 x off) on)) = n ∧ bits .or .i64 (bits .andNot .i64 off b) (bits .andNot .i64 b (bits .andNot .i64 b (bits .or .i64 (bits .andNot .i64 x off) on))) = m ∧
   bits .andNot .i64 n 15 = 0 ∧ bits .andNot .i64 m 15 = 0 ∧ bits .and .i64 n m = 0 ∧ (0 ≤ n ∧ n ≤ 15) ∧ (0 ≤ m ∧ m ≤ 15) := by
 obtain ⟨on, rfl⟩ := Int.eq_ofNat_of_zero_le ho.1
 obtain ⟨off, rfl⟩ := Int.eq_ofNat_of_zero_le hf.1
 obtain ⟨x, rfl⟩ := Int.eq_ofNat_of_zero_le hx.1
 have H : ∀ b ∈ [(1 : Int), 2, 4, 8], ∀ on off x : Fin 16, bits .and .i64 (on.val : Int) (off.val : Int) = 0 →
   (bits .andNot .i64 (bits .or .i64 (bits .andNot .i64 (on.val : Int) b) (bits .andNot .i64 b (bits .or .i64 (bits .andNot .i64 (x.val : Int) (off.val : Int)) (on.val : Int)))) 15 = 0 ∧
    bits .andNot .i64 (bits .or .i64 (bits .andNot .i64 (off.val : Int) b) (bits .andNot .i64 b (bits .andNot .i64 b (bits .or .i64 (bits .andNot .i64 (x.val : Int) (off.val : Int)) (on.val : Int))))) 15 = 0 ∧
    bits .and .i64 (bits .or .i64 (bits .andNot .i64 (on.val : Int) b) (bits .andNot .i64 b (bits .or .i64 (bits .andNot .i64 (x.val : Int) (off.val : Int)) (on.val : Int)))) (bits .or .i64 (bits .andNot .i64 (off.val : Int) b) (bits .andNot .i64 b (bits .andNot .i64 b (bits .or .i64 (bits .andNot .i64 (x.val : Int) (off.val : Int)) (on.val : Int))))) = 0 ∧
    (0 ≤ bits .or .i64 (bits .andNot .i64 (on.val : Int) b) (bits .andNot .i64 b (bits .or .i64 (bits .andNot .i64 (x.val : Int) (off.val : Int)) (on.val : Int))) ∧ bits .or .i64 (bits .andNot .i64 (on.val : Int) b) (bits .andNot .i64 b (bits .or .i64 (bits .andNot .i64 (x.val : Int) (off.val : Int)) (on.val : Int))) ≤ 15) ∧
    (0 ≤ bits .or .i64 (bits .andNot .i64 (off.val : Int) b) (bits .andNot .i64 b (bits .andNot .i64 b (bits .or .i64 (bits .andNot .i64 (x.val : Int) (off.val : Int)) (on.val : Int)))) ∧ bits .or .i64 (bits .andNot .i64 (off.val : Int) b) (bits .andNot .i64 b (bits .andNot .i64 b (bits .or .i64 (bits .andNot .i64 (x.val : Int) (off.val : Int)) (on.val : Int)))) ≤ 15)) := by decide +kernel
 have hm : b ∈ [(1 : Int), 2, 4, 8] := by rcases four_cases hb with rfl | rfl | rfl | rfl <;> simp
 have h1 := H b hm ⟨on, by omega⟩ ⟨off, by omega⟩ ⟨x, by omega⟩ h0
 exact ⟨_, _, rfl, rfl, h1⟩
theorem acts_toggle {s : St} (hm : mayS s = true) (hr : RngS s) {b : Int} (hb : four b = true) : ActsOn s (toggleS s b) := by
 unfold toggleS
 rw [if_pos ⟨hm, hb⟩]
 obtain ⟨hM, hi, hf, h1, h2, h3⟩ := mayS_at hm
 split
 ·rename_i hc
  obtain ⟨x, hx, hxr⟩ := bits_closed hm hc
  obtain ⟨n, m, e1, e2, k1, k2, k3, k4, k5⟩ := tog_rng s.on s.off x b hr.1 hr.2 hxr h3 hb
  unfold togC
  rw [hx, e1, e2]
  refine .inl ⟨rfl, ⟨?_, rfl, rfl, rfl⟩, k4, k5⟩
  unfold mayS
  simp only [hM, hi, hf, k1, k2, k3, Bool.and_eq_true, beq_self_eq_true, and_true]
 ·unfold togD
  split
  ·exact acts_set hm (by decide) (four_rng hb) _ _
  ·exact acts_set hm (four_rng hb) (by decide) _ _
end Go.Proofs.Qw
namespace Go.Proofs.YtcliojeoindceaaGreatDoor
open Go.RowKit
open Go.Proofs.Qw
attribute [local go_sem] Oper.semAt_some
open _root_.Nat renaming le_refl → zC, le_trans → zD
open _root_.Array renaming getElem?_eq_some_iff → zL
def ownAt (Bs : Nat) (W : World) : Option Nat := (W.cell? ⟨Bs, 0, none⟩).bind Value.ownBlock
structure Kd (n₀ base Bs : Nat) (W W' : World) : Prop where
 below : Below n₀ W W'
 cells : ∀ k o, base ≤ k → W.heap[k]? = some o → o.isCells = true → ownAt Bs W ≠ some k → W'.heap[k]? = some o
 own : ownAt Bs W' = ownAt Bs W ∨ ∃ j, ownAt Bs W' = some j ∧ W.heap.size ≤ j
theorem Kd.t {n₀ base Bs : Nat} {A B C : World} (h : Kd n₀ base Bs A B) (k : Kd n₀ base Bs B C) : Kd n₀ base Bs A C := by
 refine ⟨h.below.trans k.below, fun i o hi ho hc hn => k.cells i o hi (h.cells i o hi ho hc hn) hc ?_, ?_⟩
 ·rcases h.own with e | ⟨j, e, hj⟩
  ·rw [e]; exact hn
  ·rw [e]
   intro e2
   cases e2
   have := (zL.1 ho).1
   omega
 ·rcases k.own with e | ⟨j, e, hj⟩
  ·rw [e]; exact h.own
  ·exact .inr ⟨j, e, zD h.below.size hj⟩
theorem Kd.of_below {n₀ base Bs : Nat} {W W' : World} (hn : n₀ ≤ W.heap.size) (hs : Bs < W.heap.size) (hb : Below W.heap.size W W') : Kd n₀ base Bs W W' :=
 ⟨hb.mono hn, fun k _ _ hk _ _ => (hb.block k (zL.1 hk).1).trans hk, .inl (by unfold ownAt; rw [hb.cell (p := ⟨Bs, 0, none⟩) hs])⟩
theorem Kd.b {n₀ base Bs : Nat} {w : World} (hn : n₀ ≤ w.heap.size) (hs : Bs < w.heap.size) (W : World) (l : Nat) (o o' : Obj) (hl : w.heap.size ≤ l) (h : W.heap[l]? = some o) (hc : o.isCells = false) (hw : o.isWalk = false) : Kd n₀ base Bs W (W.putObj l o') :=
 ⟨belowK_b hn W l o o' hl h hc hw, fun k u _ hk hu _ => by
  rw [World.putObj_heap_other (fun e => by subst e; rw [h] at hk; cases hk; rw [hc] at hu; cases hu)]; exact hk, .inl (by
  unfold ownAt
  rw [World.cell?_of_block (World.putObj_heap_other (by show Bs ≠ l; omega))])⟩
theorem Kd.setCell {n₀ base Bs : Nat} (W : World) {B o : Nat} (h1 : n₀ ≤ B) (h2 : B < base) (h3 : B ≠ Bs) (v : Value) : Kd n₀ base Bs W (W.setCell ⟨B, o, none⟩ v) :=
 ⟨(Below.refl _ _).setCell h1 _, fun k u hk h _ _ => by rw [Below.heap_setCell _ _ _ _ (by simp; omega)]; exact h, .inl (by
  unfold ownAt
  rw [World.cell?_of_block (Below.heap_setCell _ _ _ _ (by simp; omega))])⟩
theorem Kd.append {n₀ base Bs : Nat} {w w' : World} {v v' : Value} (h : w.heap[Bs]? = some (.cells #[v] 58)) (hne : v.ownBlock ≠ some Bs) (hg : w.grownBy w' v.ownBlock) (hb : Below n₀ w w') (hv : v'.ownBlock = v.ownBlock ∨ v'.ownBlock = some w.heap.size) (h1 : n₀ ≤ Bs) (h2 : Bs < base) : Kd n₀ base Bs w (w'.setCell ⟨Bs, 0, none⟩ v') := by
 have hlt := (zL.1 h).1
 have h' : w'.heap[Bs]? = some (.cells #[v] 58) := (hg.block Bs hlt (fun e => hne e.symm)).trans h
 have o1 : ownAt Bs w = v.ownBlock := by unfold ownAt; rw [cell_of_heap h]; rfl
 have o2 : ownAt Bs (w'.setCell ⟨Bs, 0, none⟩ v') = v'.ownBlock := by unfold ownAt; rw [cell_of_heap (setCell_heap h' v')]; rfl
 refine ⟨hb.setCell h1 _, fun k o hk ho _ hn => ?_, ?_⟩
 ·rw [Below.heap_setCell _ _ _ _ (by simp; omega)]
  exact (hg.block k (zL.1 ho).1 (fun e => hn (o1.trans e.symm))).trans ho
 ·rw [o1, o2]
  rcases hv with e | e
  ·exact .inl e
  ·exact .inr ⟨_, e, zC _⟩
theorem cell_cells {w : World} {b o : Nat} {u : Value} (h : w.cell? ⟨b, o, none⟩ = some u) : ∃ ob, w.heap[b]? = some ob ∧ ob.isCells = true := by
 unfold World.cell? at h
 split at h
 ·rename_i c t f e
  exact ⟨_, e, rfl⟩
 ·cases h
structure KC (W2 : World) (Z Bs n₀ : Nat) (w0 wr : World) : Prop where
 cell : ∀ b o u, Z ≤ b → b < W2.heap.size → W2.cell? ⟨b, o, none⟩ = some u → wr.cell? ⟨b, o, none⟩ = some u
 own : ∀ k, ownAt Bs wr = some k → W2.heap.size ≤ k
 size : W2.heap.size ≤ wr.heap.size
 below : Below n₀ w0 wr
theorem KC.go {W2 : World} {Z Bs n₀ base : Nat} {w0 wr wr' : World} (h : KC W2 Z Bs n₀ w0 wr) (hz : base ≤ Z) (k : Kd n₀ base Bs wr wr') : KC W2 Z Bs n₀ w0 wr' := by
 refine ⟨fun b o u h1 h2 h3 => ?_, fun j hj => ?_, zD h.size k.below.size, h.below.trans k.below⟩
 ·have hc := h.cell b o u h1 h2 h3
  obtain ⟨ob, e1, e2⟩ := cell_cells hc
  have e3 := k.cells b ob (zD hz h1) e1 e2 (fun e => by have := h.own b e; omega)
  rw [World.cell?_of_block (w := wr) (e3.trans e1.symm)]
  exact hc
 ·rcases k.own with e | ⟨i, e, hi⟩
  ·exact h.own j (e.symm.trans hj)
  ·rw [e] at hj
   cases hj
   exact zD h.size hi
theorem KC.start {W2 : World} {Z Bs n₀ : Nat} {w0 : World} (hb : Below n₀ w0 W2) (ho : ownAt Bs W2 = none) : KC W2 Z Bs n₀ w0 W2 :=
 ⟨fun _ _ _ _ _ h => h, fun k hk => (by rw [ho] at hk; cases hk), zC _, hb⟩
theorem rangeFunc_boxD {P : Program} {F : Fence} {n : Nat} {α : Type} {g : Operand} {ps : Array Tmp} {assign body : Code} {Q : Exit → Act → World → Prop} {a : Act} {w : World}
  (hro : F.round = none) (h1 : 1 ≤ n) {gf : Nat} {lb : Array Value} (hg : a.eval g = .func (.func gf) #[] lb) (hFg : F.fn gf) (eg : ∀ args w, (callFunc gf args).run P w = .ok (.enter gf args) w)
  {encs : α → Array Value} {n₀ base Bs : Nat} {S Sp : List α → Prop} {N : Nat} {w0 : World} (hseq : SeqStopsK F (n - 1) P gf lb encs (Kd n₀ base Bs) S Sp N w0)
  (hn : n₀ ≤ w.heap.size) (hBs : Bs < w.heap.size) (hb0 : Below w0.heap.size w0 w) (hps : ∀ x, (encs x).size = ps.size)
  (I : List α → World → Prop) (Ix : Code → List α → World → Prop) (hI : OwnFrom w.heap.size I) (hIx : ∀ c, OwnFrom w.heap.size (Ix c)) (h0 : I [] w) (hIz : ∀ pre W, I pre W → w.heap.size ≤ W.heap.size)
  (rc : α → Array Value) (rt : TypeId) (act : Nat → α → Act)
  (hassign : ∀ (l : Nat) (pre : List α) (x : α) (W : World) (K : Act → World → Prop) (Bx : Nat), Bx = W.heap.size → I pre W → K (act Bx x) (W.alloc (.cells (rc x) rt)) →
   assign.wpIn (F.inRound l) (n - 1 - 1) P (Exit.then K (fun _ _ _ => False)) { tmps := (ps.zip (encs x)).foldl (fun t (p, v) => t.setIfInBounds p v) a.tmps, defers := [] } W)
  (hbody : ∀ (l : Nat) (pre : List α) (x : α) (Bx : Nat) (W : World), I pre W → w.heap.size ≤ Bx → W.heap[Bx]? = some (.cells (rc x) rt) → pre.length < N → body.wpIn (F.inRound l) (n - 1 - 1) P (ownPostG w.heap.size (Kd n₀ base Bs) I Ix (pre ++ [x]) W) (act Bx x) W)
  (hdone : ∀ (D : Nat) (xs : List α) (W : World), w.heap.size ≤ D → S xs → I xs W → W.heap[D]? = some (.deferred (some [])) → Q .normal { a with defers := { target := .collected D, args := #[] } :: a.defers } W)
  (hstop : ∀ (D : Nat) (c : Code) (pre : List α) (W : World), w.heap.size ≤ D → Sp pre → Ix c pre W → W.heap[D]? = some (.deferred (some [])) → c.wpIn F n P Q { a with defers := { target := .collected D, args := #[] } :: a.defers } W) :
  (Code.rangeFunc g ps assign body).wpIn F n P Q a w := by
 refine wpIn_rangeFunc_ownH hro h1 hg hFg eg hseq (fun h k => h.t k) (Kd.b hn hBs) hb0 hps I Ix hI hIx h0
  (fun x a' W => ∃ Bx, w.heap.size ≤ Bx ∧ W.heap[Bx]? = some (.cells (rc x) rt) ∧ a' = act Bx x) ?_ ?_ ?_ hdone hstop
 ·intro x a' _ X Y row hs hg hr
  obtain ⟨Bx, h1, h2, h3⟩ := hs
  exact ⟨Bx, h1, (hg.block Bx (zL.1 h2).1 (fun e => by obtain ⟨_, o, ho, hc⟩ := hr Bx e.symm; rw [h2] at ho; cases ho; cases hc)).trans h2, h3⟩
 ·intro l pre x W K hi hK
  exact hassign l pre x W K _ rfl hi (hK _ _ ((KeepsOthers.alloc _ _).from _) (Kd.of_below (zD hn (hIz _ _ hi)) (Nat.lt_of_lt_of_le hBs (hIz _ _ hi)) ((Below.refl _ _).alloc (zC _) _)) (hI.alloc _ hi) ⟨_, hIz _ _ hi, heap_new _ _ rfl, rfl⟩)
 ·intro l pre x a' W hl hr hi ha hlt
  obtain ⟨Bx, h1, h2, rfl⟩ := ha
  exact hbody l pre x Bx W hi h1 h2 hlt
end Go.Proofs.YtcliojeoindceaaGreatDoor
namespace Go.Proofs.Qw
open Go.RowKit Go.Proofs.YtcliojeoindceaaGreatDoor
theorem part_cells (d : Doc) (a b : Ps) : (partD d a b).1.flatMap (·.cells) = cellsD d a b := by
 unfold partD cellsD
 split
 ·rw [List.flatMap_map]; rfl
 ·rfl
end Go.Proofs.Qw
namespace Go.Proofs.YtcliojeoindceaaGreatDoor
open Go.RowKit
open Go.Proofs.Qw
attribute [local go_sem] Oper.semAt_some
open _root_.Go.Lib renaming hid → zA
open _root_.Nat renaming le_refl → zC
open _root_.Int renaming natCast_nonneg → zR
open _root_.List renaming length_append → zS
theorem selected_any (va : Option Addr) (vn vc : Nat) (a b : Ps) (w : World) :
  Calls Tryz.prog 124 #[.slice va vn vc, .agg #[.int .i64 a.line, .int .i64 a.col], .agg #[.int .i64 b.line, .int .i64 b.col]] w fun e w' => e = .returned (.func (.func 204) #[] #[.pointer (some ⟨w.heap.size, 0, none⟩), .pointer (some ⟨w.heap.size + 1, 0, none⟩), .pointer (some ⟨w.heap.size + 2, 0, none⟩)]) ∧
   w' = ((w.alloc (.cells #[.slice va vn vc] 22)).alloc (.cells #[.int .i64 a.line, .int .i64 a.col] 24)).alloc (.cells #[.int .i64 b.line, .int .i64 b.col] 24) := by
 go_enter Tryz.func124, Tryz.ntmps124
 go_wp2_with fail
 go_ret
 exact ⟨rfl, rfl⟩
set_option maxRecDepth 200000 in
theorem selected1_in (n l Bd Ba Bb base Bs : Nat) (v : Value) (d : Doc) (a b : Ps) (S : Nat → Prop) (J Jx : List Cel → World → Prop) (w0 W : World) (hv : LinsR w0 S v d) (he : EnvT w0) (hs : Small d) (hf : Fits d) (hb0 : Below w0.heap.size w0 W)
  (hbase : base ≤ W.heap.size) (hD : W.heap[Bd]? = some (.cells #[v] 22)) (hA : W.heap[Ba]? = some (.cells #[.int .i64 a.line, .int .i64 a.col] 24)) (hB : W.heap[Bb]? = some (.cells #[.int .i64 b.line, .int .i64 b.col] 24))
  (hBs : Bs < W.heap.size) (hown : ownAt Bs W = none) (hJ : AbidesFrom W.heap.size J)
  (hY : ∀ (pre : List Cel) (x : Cel) W, J pre W → pre.length < 200000 → YieldAt Fence.wide (n - 1) Tryz.prog l #[celV x] W fun e W' =>
   (e = .returned (.bool true) ∧ J (pre ++ [x]) W' ∧ Kd w0.heap.size base Bs W W') ∨ (e = .returned (.bool false) ∧ Jx (pre ++ [x]) W'))
  (h0 : J [] W) :
  CallsIn Fence.wide n Tryz.prog 204 #[.func (.yield l) #[] #[], .pointer (some ⟨Bd, 0, none⟩), .pointer (some ⟨Ba, 0, none⟩), .pointer (some ⟨Bb, 0, none⟩)] W fun e W' => (∃ v, e = .returned v) ∧
   ((∃ ys : List Cel, ys = cellsD d a b ∧ J ys W') ∨ (∃ pre : List Cel, pre <+: cellsD d a b ∧ Jx pre W')) := by
 refine callsIn_of_wp Tryz.func204 rfl trivial ?_ rfl
 simp only [Tryz.ntmps204, List.size_toArray, List.length_cons, List.length_nil, Nat.reduceAdd, Nat.reduceSub, Array.replicate_succ, Array.replicate_zero, List.push_toArray, List.append_toArray, List.nil_append, List.cons_append]
 have hwf : ∀ f, Fence.wide.fn f := fun _ => trivial
 have hwd : Fence.wide.depth = none := rfl
 have hz0 := hb0.size
 have HP := zA (docPart_any v d a b W S (SliceR.below (rdLin_stable _) hv hb0) (he.below hb0) hs hf)
 obtain ⟨P, er, hP⟩ : ∃ P er, partD d a b = (P, er) := ⟨_, _, rfl⟩
 have HC : Hid (P.flatMap (·.cells) = cellsD d a b) := zA (by rw [← part_cells, hP])
 have HCL : Hid ((P.flatMap (·.cells)).length ≤ 100000) := zA (by rw [HC.out]; exact Nat.le_trans (cellsD_size d a b) hs.1)
 rw [hP] at HP
 obtain ⟨va, vc, rfl⟩ := hv.slice
 have HY := zA hY
 have HJA := zA hJ
 have HB0 := zA hb0
 obtain ⟨p1, f1⟩ := blk hD
 obtain ⟨p2, f2⟩ := blk hA
 obtain ⟨p3, f3⟩ := blk hB
 clear hv he hs hf hY hJ hP hD hA hB
 gi_wp2_with (gi_at_call 205; refine (callsIn_wide.2 HP.out).mono ?_; intro e W2 hsaid; obtain ⟨v2, rfl, hv2, hb2⟩ := hsaid; have HV2 := zA hv2; have hvl := hv2.slice; clear hv2; obtain ⟨a2, c2, rfl⟩ := hvl)
 clear p1 f1 p2 f2 p3 f3 HP
 have hz2 := hb2.size
 have HB2 := zA hb2
 have HKC0 := zA (KC.start (W2 := W2) (Z := W.heap.size) (Bs := Bs) (below_from HB0.out hb2) (by
  unfold ownAt
  rw [hb2.cell (p := ⟨Bs, 0, none⟩) hBs]
  exact hown))
 have HJ2 := zA (abides_below HJA.out h0 hb2)
 have HKD : Hid (∀ X Y, KC W2 W.heap.size Bs w0.heap.size w0 X → Below X.heap.size X Y → Kd w0.heap.size base Bs X Y) := zA fun X Y hX hb => Kd.of_below (by have := hX.size; omega) (by have := hX.size; omega) hb
 clear hb2 hown h0 hb0
 have hPl : P.length ≤ 9223372036854775807 := by
  have hh := SliceR.len HV2.out
  unfold maxLen at hh
  omega
 gi_loopw [20, 8, 10] (fun z _ _ wr => ∃ k : Nat, k ≤ P.length ∧ z = .int .i64 k ∧ Hid (J ((P.take k).flatMap (·.cells)) wr) ∧ Hid (KC W2 W.heap.size Bs w0.heap.size w0 wr) ∧ W2.heap.size ≤ wr.heap.size) (fun z _ _ _ => P.length - (intOf z).toNat)
 case atStart => exact ⟨0, Nat.zero_le _, rfl, HJ2, HKC0, zC _⟩
 case round =>
  obtain ⟨k, hk, rfl, HJ, HK, hzr⟩ := hrel
  by_cases hlt : k < P.length
  ·obtain ⟨ln, hln, _⟩ := getOf P k hlt
   obtain ⟨b1, o1, c1, la, lc, ca, cc, hve, hc1, hm1, hAk, _, hCk, hS1⟩ := docOwn_at HV2.out hln
   cases hve
   have hlt1 := hAk.lt
   have c0 := HK.out.cell _ _ _ hS1 hlt1 hAk.quote
   have c1' := HK.out.cell _ _ _ hS1 hlt1 hAk.lists
   have c2' := HK.out.cell _ _ _ hS1 hlt1 hAk.kind
   have c3 := HK.out.cell _ _ _ hS1 hlt1 hAk.cells
   have HCK := zA hCk
   have hcl := SliceR.len hCk
   have HT : Hid ((P.take (k + 1)).flatMap (·.cells) = (P.take k).flatMap (·.cells) ++ ln.cells) := zA (by rw [take_some hln, List.flatMap_append]; simp)
   have HPL : Hid ((P.take k).flatMap (·.cells) = (P.take k).flatMap (·.cells)) := zA rfl
   obtain ⟨F, hF⟩ : ∃ F, (P.take k).flatMap (·.cells) = F := ⟨_, rfl⟩
   have HFL : Hid (F.length + ln.cells.length ≤ 100000) := zA (by
    have h1 : ((P.take (k + 1)).flatMap (·.cells)).length ≤ (P.flatMap (·.cells)).length := by
     conv => rhs; rw [← List.take_append_drop (k + 1) P, List.flatMap_append, zS]
     omega
    rw [HT.out, hF, zS] at h1
    exact Nat.le_trans h1 HCL.out)
   rw [hF] at HJ HT
   clear hF HPL hCk hAk
   unfold maxLen at hm1 hcl
   have i0 : (0 : Int) ≤ (k : Int) := zR _
   have i1 : (k : Int) < (P.length : Int) := by omega
   gi_wp2_with fail
   obtain ⟨w4, hw4⟩ : ∃ w4, wr.alloc (.cells #[.int .i64 ln.quote, .slice la ln.lists.length lc, .int .i64 ln.kind, .slice ca ln.cells.length cc] 60) = w4 := ⟨_, rfl⟩
   rw [hw4]
   have hb4 : Below wr.heap.size wr w4 := hw4 ▸ (Below.refl _ _).alloc (zC _) _
   have HJ4 := zA (abides_below HJA.out HJ.out hb4)
   have HK4 := zA (HK.out.go hbase (HKD.out _ _ HK.out hb4))
   have hz4 := hb4.size
   clear hw4 hb4
   gi_loopw [27, 10] (fun z _ wr => ∃ m : Nat, m ≤ ln.cells.length ∧ z = .int .i64 m ∧ Hid (J (F ++ ln.cells.take m) wr) ∧ Hid (KC W2 W.heap.size Bs w0.heap.size w0 wr) ∧ W2.heap.size ≤ wr.heap.size) (fun z _ _ => ln.cells.length - (intOf z).toNat)
   case atStart => exact ⟨0, Nat.zero_le _, rfl, zA (by simpa using HJ4.out), HK4, by omega⟩
   case round =>
    obtain ⟨m, hm, rfl, HJm, HKm, hzm⟩ := hrel
    by_cases hlt2 : m < ln.cells.length
    ·obtain ⟨x, hx, _⟩ := getOf ln.cells m hlt2
     obtain ⟨a5, c5, hve5, hcc5, hmm5, hx5⟩ := SliceR.shape_own HCK.out
     cases hve5
     obtain ⟨b5, o5, vs5, cs5, rfl, hz5, hS5, _, _, _, hvs5, he5⟩ := hx5 m x hx
     cases hvs5
     have d0 : wr.cell? ⟨b5, o5 + m * 3, none⟩ = some (.int .i32 x.r) := HKm.out.cell _ _ _ hS5 hz5 (he5 0 _ rfl)
     have d1 : wr.cell? ⟨b5, o5 + m * 3 + 1, none⟩ = some (.int .i64 x.bits) := HKm.out.cell _ _ _ hS5 hz5 (he5 1 _ rfl)
     have d2 : wr.cell? ⟨b5, o5 + m * 3 + 2, none⟩ = some (.string ⟨x.href.toArray⟩) := HKm.out.cell _ _ _ hS5 hz5 (he5 2 _ rfl)
     have HTm : Hid (F ++ ln.cells.take (m + 1) = F ++ ln.cells.take m ++ [x]) := zA (by rw [take_some hx, List.append_assoc])
     have HPre : Hid (F ++ ln.cells.take m ++ [x] <+: cellsD d a b) := zA (by
      rw [← HTm.out, ← HC.out]
      refine List.IsPrefix.trans (l₂ := F ++ ln.cells) ((List.prefix_append_right_inj F).2 (List.take_prefix _ _)) ?_
      rw [← HT.out]
      exact ⟨(P.drop (k + 1)).flatMap (·.cells), by rw [← List.flatMap_append, List.take_append_drop]⟩)
     clear hx5 he5
     have j0 : (0 : Int) ≤ (m : Int) := zR _
     have j1 : (m : Int) < (ln.cells.length : Int) := by omega
     have hb6 : Below wr.heap.size wr (wr.alloc (.cells #[.int .i32 x.r, .int .i64 x.bits, .string ⟨x.href.toArray⟩] 57)) := (Below.refl _ _).alloc (zC _) _
     have HK6 := zA (HKm.out.go hbase (HKD.out _ _ HKm.out hb6))
     have hYY := HY.out _ x _ (abides_below HJA.out HJm.out hb6) (by rw [zS, List.length_take]; have := HFL.out; omega)
     clear hb6
     unfold celV at hYY
     obtain ⟨fn, tmps, assign, body, hy, hR⟩ := hYY
     gi_wp2_with fail
     refine hR.mono ?_
     rintro e w7 (⟨rfl, hJ7, hk7⟩ | ⟨rfl, hJx7⟩)
     ·have HJ7 := zA hJ7
      have HK7 := zA (HK6.out.go hbase hk7)
      have hz7 := HK7.out.size
      clear hJ7 hk7
      rw [← HTm.out] at HJ7
      gi_wp2_with fail
      go_roundw
      case rel => exact ⟨m + 1, by omega, by go_num, HJ7, HK7, hz7⟩
      case measure => simp [intOf]; omega
     ·gi_wp2_with fail
      refine bodyPost_ret (results_none rfl _ _ _) rfl ?_
      exact ⟨⟨_, rfl⟩, .inr ⟨_, HPre.out, hJx7⟩⟩
    ·obtain rfl : m = ln.cells.length := by omega
     rw [List.take_length, ← HT.out] at HJm
     gi_wp2_with fail
     go_roundw
     case rel => exact ⟨k + 1, by omega, by go_num, HJm, HKm, hzm⟩
     case measure => simp [intOf]; omega
  ·obtain rfl : k = P.length := by omega
   rw [List.take_length, HC.out] at HJ
   gi_wp2_with fail
   go_end0
   exact ⟨⟨_, rfl⟩, .inl ⟨_, rfl, HJ.out⟩⟩
end Go.Proofs.YtcliojeoindceaaGreatDoor
