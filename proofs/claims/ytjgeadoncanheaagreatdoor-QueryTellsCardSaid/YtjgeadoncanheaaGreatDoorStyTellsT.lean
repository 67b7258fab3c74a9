/- Parts of the proof. -/
import Derived.Test.YtjgeadoncanheaaGreatDoorPartBaseT
import Derived.Test.YtjgeadoncanheaaGreatDoorDocPartT
import Derived.Test.YtjgeadoncanheaaGreatDoorDocSplitT
import Derived.Test.YtjgeadoncanheaaGreatDoorRefOwnT
import Derived.Test.YtjgeadoncanheaaGreatDoorDocDeleteT
import Derived.Laws.BitsLemmas
import Derived.Test.YtjgeadoncanheaaGreatDoorAttrWalkT
set_option linter.unusedVariables false
set_option linter.unusedSimpArgs false
set_option maxHeartbeats 8000000
namespace Go.Proofs.YtjgeadoncanheaaGreatDoor
open Go.RowKit
open Go.Proofs.Qw
open _root_.Go.Lib renaming hid → zA
open _root_.Go.RowKit.Below renaming refl → zE
open _root_.Go renaming bodyPost_ret → zM, wpAnyH_take → zP, wpAnyH_ready → zQ
open _root_.Go.AllReadyH renaming cons → zN, nil → zO
open _root_.Int renaming natCast_nonneg → zR
open _root_.Go.Act renaming put → zU
open _root_.Go.Proofs.Tryz renaming prog → zV
def vR (more : List Cel) (d : Doc) (p : Ps) : Doc × Ps × Int :=
 if (kK d p p && kL more) = true then (if 4000 < jQ d + more.length then ([], ⟨0, 0⟩, 10) else (d.set p.line.toNat { (d.getD p.line.toNat default) with cells := zAr (d.getD p.line.toNat default).cells p.col.toNat more }, ⟨p.line, p.col + more.length⟩, 0)) else ([], ⟨0, 0⟩, 1)
set_option maxRecDepth 100000 in
theorem zHV (v lv : Value) (d : Doc) (more : List Cel) (p : Ps) (w : World) (S S2 : Nat → Prop) (h : jC w S v d) (hl : jE false w S2 lv more) (he : EnvT w) (hs : Small d) (hf : Fits d) (hml : more.length ≤ 1000000) (hmh : ∀ c ∈ more, c.href.length ≤ 1000000) :
  Calls zV 110 #[v, posV p, lv] w (DocPSaid (vR more d p) w) := by
 obtain ⟨W1, hW1, hB, hz, k0, k1⟩ := yP w (.int .i64 p.line) (.int .i64 p.col) (.int .i64 0) (.int .i64 0);have HC1 := zA (zAE v d p p W1 S (h.below (jY _) hB) (he.below hB) hs);have HCM : Hid (∀ W, Below W1.heap.size W1 W → Calls zV 151 #[lv] W fun e w' => e = .returned (.bool (kL more)) ∧ Below W.heap.size W w') := zA fun W hW => zES lv more W w S2 hl (he.below (hB.trans (hW.mono hB.size))) (hB.trans (hW.mono hB.size)) hmh;have HSZ : Hid (∀ W, Below W1.heap.size W1 W → Calls zV 88 #[v] W fun e w' => e = .returned (.int .i64 (jQ d)) ∧ Below W.heap.size W w') := zA fun W hW => zDO v d W w S h (hB.trans (hW.mono hB.size)) hs.1;have HO : Hid (∀ W, Below W1.heap.size W1 W → Calls zV 167 #[v] W fun e w' => ∃ v', e = .returned v' ∧ DocR true w' (fun b => W.heap.size ≤ b) v' d ∧ Below W.heap.size W w') := zA fun W hW => zBy v d W w S h (hB.trans (hW.mono hB.size)) hf;have HB : Hid (∀ W, Below W1.heap.size W1 W → W.heap[w.heap.size]? = some (.cells #[.int .i64 p.line, .int .i64 p.col] 24) ∧ W.heap[w.heap.size + 1]? = some (.cells #[.int .i64 0, .int .i64 0] 24)) := zA fun W hW => ⟨jG hW k0, jG hW k1⟩;have HP : Hid (∀ p : Ps, posV p = .agg #[.int .i64 p.line, .int .i64 p.col]) := zA fun _ => rfl;have H1 := zA hB;have HL := zA h;have HLC := zA hl;have HF := zA hf;have hlen := hf.1;have hs1 := hB.size;have hsz5 := hs.1;obtain ⟨p1, f1⟩ := blk k0;obtain ⟨p2, f2⟩ := blk k1;obtain ⟨va, vc, rfl⟩ := h.slice;obtain ⟨lb, lc, rfl⟩ := hl.slice;clear h hl he hs hf k0 k1 hB;cases hsp : kK d p p
 ·have HR : Hid (vR more d p = ([], ⟨0, 0⟩, 1)) := zA (by unfold vR; rw [hsp]; rfl)
  rw [hsp] at HC1;clear hsp;rw [HP.out p] at HC1 ⊢;go_enter Tryz.func110, Tryz.ntmps110;go_wp2_with (go_at_call 154; refine HC1.out.mono ?_; rintro e w2 ⟨rfl, hb2⟩; have k1' := (HB.out _ hb2).2; obtain ⟨q2, g2⟩ := blk k1');refine zM (xA rfl _ _ (w.heap.size + 1) (.int .i64 0) (.int .i64 0) rfl zBN) rfl ?_;unfold DocPSaid;rw [HR.out];have hfin := H1.out.trans (hb2.mono hs1);exact ⟨_, rfl, SliceR.nil _ _ _ _ _ _, by ((with_reducible repeat' first | exact zE _ _ | assumption | refine Below.alloc ?_ ?_ _ | refine Below.drew ?_ | refine jK ?_ | refine Below.setCell ?_ ?_ _) <;> go_size)⟩
 cases hmy : kL more
 ·have HR : Hid (vR more d p = ([], ⟨0, 0⟩, 1)) := zA (by unfold vR; rw [hsp, hmy]; rfl)
  rw [hsp] at HC1;rw [hmy] at HCM;clear hsp hmy;rw [HP.out p] at HC1 ⊢;go_enter Tryz.func110, Tryz.ntmps110;go_wp2_with (first | (go_at_call 154; refine HC1.out.mono ?_; rintro e w2 ⟨rfl, hb2⟩) | (go_at_call 151; refine (HCM.out _ hb2).mono ?_; rintro e w3 ⟨rfl, hb3⟩; have hx3 := jH hb2 hb3; have k1' := (HB.out _ hx3).2; obtain ⟨q2, g2⟩ := blk k1'));refine zM (xA rfl _ _ (w.heap.size + 1) (.int .i64 0) (.int .i64 0) rfl zBN) rfl ?_;unfold DocPSaid;rw [HR.out];have hfin := H1.out.trans (hx3.mono hs1);exact ⟨_, rfl, SliceR.nil _ _ _ _ _ _, by ((with_reducible repeat' first | exact zE _ _ | assumption | refine Below.alloc ?_ ?_ _ | refine Below.drew ?_ | refine jK ?_ | refine Below.setCell ?_ ?_ _) <;> go_size)⟩
 obtain ⟨n, hn⟩ : ∃ n, jQ d = n := ⟨_, rfl⟩;rw [hn] at HSZ hsz5
 by_cases h4 : 4000 < n + more.length
 ·have HR : Hid (vR more d p = ([], ⟨0, 0⟩, 10)) := zA (by unfold vR; rw [hsp, hmy, hn, show (true && true) = true from rfl, if_pos rfl, if_pos h4])
  have hq1 : (4000 : Int) < (n : Int) + (more.length : Int) := by omega
  have hq2 : decide ((4000 : Int) < (n : Int) + (more.length : Int)) = true := decide_eq_true hq1;rw [hsp] at HC1;rw [hmy] at HCM;clear hsp hmy h4 hn;rw [HP.out p] at HC1 ⊢;go_enter Tryz.func110, Tryz.ntmps110;go_wp2_with (first | (go_at_call 154; refine HC1.out.mono ?_; rintro e w2 ⟨rfl, hb2⟩) | (go_at_call 151; refine (HCM.out _ hb2).mono ?_; rintro e w3 ⟨rfl, hb3⟩; have hx3 := jH hb2 hb3) | (go_at_call 88; refine (HSZ.out _ hx3).mono ?_; rintro e w4 ⟨rfl, hb4⟩; have hx4 := jH hx3 hb4; have k1' := (HB.out _ hx4).2; obtain ⟨q2, g2⟩ := blk k1'));refine zM (xA rfl _ _ (w.heap.size + 1) (.int .i64 0) (.int .i64 0) rfl zBN) rfl ?_;unfold DocPSaid;rw [HR.out];have hfin := H1.out.trans (hx4.mono hs1);exact ⟨_, rfl, SliceR.nil _ _ _ _ _ _, by ((with_reducible repeat' first | exact zE _ _ | assumption | refine Below.alloc ?_ ?_ _ | refine Below.drew ?_ | refine jK ?_ | refine Below.setCell ?_ ?_ _) <;> go_size)⟩
 obtain ⟨_, i, _, q, _, l, _, rfl, hpe, hl, _, hq, _, _, _⟩ := uI hsp;have hil := (List.getElem?_eq_some_iff.1 hl).1;have hfl := HF.out.2 l (List.mem_of_getElem? hl)
 have HR : Hid (vR more d ⟨i, q⟩ = (d.set i { l with cells := zAr l.cells q more }, ⟨i, (q : Int) + (more.length : Int)⟩, 0)) := zA (by
  unfold vR;rw [hsp, hmy, hn, show (true && true) = true from rfl, if_pos rfl, if_neg h4];simp [List.getD, hl])
 have hq1 : (n : Int) + (more.length : Int) ≤ 4000 := by omega
 have hq2 : decide ((4000 : Int) < (n : Int) + (more.length : Int)) = false := decide_eq_false qE;rw [hsp] at HC1;rw [hmy] at HCM;rw [HP.out] at HC1 ⊢;obtain ⟨va', vc', hve, hvc, hvm, hx⟩ := kJ HL.out;cases hve;obtain ⟨b1, o1, la, lc1, ca, cc, rfl, hAi⟩ := hx i l hl;have HAI := zA hAi;have HLL := zA hl;unfold maxLen at hvm;have i0 : (0 : Int) ≤ (i : Int) := zR _;have i1 : (i : Int) < (d.length : Int) := by omega
 have u0 : (0 : Int) ≤ (q : Int) := zR _;have u1 : (q : Int) ≤ 1000000 := by omega
 have u2 : (more.length : Int) ≤ 1000000 := by omega
 clear hx hAi hl hsp hmy h4 hn hpe;go_enter Tryz.func110, Tryz.ntmps110;go_wp2_with (first | (go_at_call 154; refine HC1.out.mono ?_; rintro e w2 ⟨rfl, hb2⟩) | (go_at_call 151; refine (HCM.out _ hb2).mono ?_; rintro e w3 ⟨rfl, hb3⟩; have hx3 := jH hb2 hb3) | (go_at_call 88; refine (HSZ.out _ hx3).mono ?_; rintro e w4 ⟨rfl, hb4⟩; have hx4 := jH hx3 hb4) | (go_at_call 167; refine (HO.out _ hx4).mono ?_; rintro e w5 ⟨v5, rfl, hv5, hb5⟩; have hx5 := jH hx4 hb5; obtain ⟨b3, o3, c3, la3, lc3, ca3, cc3, rfl, hc3, hm3, hA3, hI3, hC3, hS3⟩ := zAp hv5 HLL.out; have HV5 := zA hv5; have HA3 := zA hA3; have HC3 := zA hC3; unfold maxLen at hm3; have hS3' : w4.heap.size ≤ b3 := hS3; clear hv5 hI3 hC3 hA3 hS3));have hsz14 := hx4.size;have hsz45 := hb5.size;have hb3z := HA3.out.lt;have hb1z : b1 < w.heap.size := HAI.out.lt;have k0' := (HB.out _ hx5).1;have k1' := (HB.out _ hx5).2;obtain ⟨q1', g1'⟩ := blk k0';have hd5 : Below w5.heap.size w5 w5.drew := (zE _ _).drew;have HCI : Hid (∀ W, Below w5.heap.size w5 W → Calls zV 168 #[.slice ca3 l.cells.length cc3, .int .i64 q, .slice lb more.length lc] W (CellsSaid (zAr l.cells q more) 0 W)) := zA fun W hW => zHi ca3 lb cc3 lc q l.cells more W w5 w _ S2 true false HC3.out HLC.out hW ((H1.out.trans (hx5.mono hs1)).trans (hW.mono qE)) hq hfl.2 hml;obtain ⟨b3', o3', cs3, hbe, _, hg3, hgz⟩ := SliceR.cellAt HV5.out (i := i) hil;cases hbe;have e1 : b3 ≠ w.heap.size := by omega
 have e2 : b3 ≠ w.heap.size + 1 := by omega
 have HG3 := zA hg3;have hld : (w5.drew).cell? ⟨b3, o3 + i * 4 + 3, none⟩ = some (.slice ca3 l.cells.length cc3) := HA3.out.cells;have HK := zA (And.intro k0' k1');clear hg3 k0' k1' p1 f1 p2 f2 hW1;refine wp_region_noPanic ?_;refine wp_region_held_drew (S := fun w' => w'.cell? ⟨w.heap.size, 0, none⟩ = some (.int .i64 i) ∧ w'.cell? ⟨w.heap.size, 1, none⟩ = some (.int .i64 q)) qC ⟨q1' 0, q1' 1⟩ (fun hHeld => ?_);obtain ⟨X0, hX0⟩ : ∃ X, w5.drew = X := ⟨_, rfl⟩;rw [hX0] at hd5 hHeld hld ⊢;clear hX0 q1' g1';refine zP (i := 0) (v := ?_) vD qC qC qC (fun _ _ _ h => h) (Or.inl ⟨by rfl, ?_⟩) qW ?_;rotate_left 1
 ·intro w hSw; (try dsimp only at hSw); go_simp; (first | done | with_reducible rfl)
 try simp only [zU, qI, qX, qY]
 refine zP (i := 1) (v := ?_) qU qC qC qC (fun _ _ _ h => h) (Or.inl ⟨by rfl, ?_⟩) qW ?_;rotate_left 1
 ·intro w hSw; (try dsimp only at hSw); go_simp; (first | done | with_reducible rfl)
 try simp only [zU, qI, qX, qY]
 refine zP (i := 2) (v := ?_) qU qC qC qC (fun _ _ _ h => h) (Or.inl ⟨by rfl, ?_⟩) qW ?_;rotate_left 1
 ·intro w hSw; (try dsimp only at hSw); go_simp; (first | done | with_reducible rfl)
 try simp only [zU, qI, qX, qY]
 refine zP (i := 3) (v := ?_) qU qC qC qC (fun _ _ _ h => h) (Or.inl ⟨by rfl, ?_⟩) qW ?_;rotate_left 1
 ·intro w hSw; (try dsimp only at hSw); go_simp; (first | done | with_reducible rfl)
 try simp only [zU, qI, qX, qY]
 refine zP (i := 4) (v := ?_) qU qC qC qC (fun _ _ _ h => h) (Or.inl ⟨by rfl, ?_⟩) qW ?_;rotate_left 1
 ·intro w hSw; (try dsimp only at hSw); go_simp; (first | done | with_reducible rfl)
 try simp only [zU, qI, qX, qY]
 refine zP (i := 5) (v := ?_) qU qC qC qC (fun _ _ _ h => h) (Or.inl ⟨by rfl, ?_⟩) qW ?_;rotate_left 1
 ·intro w hSw; (try dsimp only at hSw); go_simp; (first | done | with_reducible rfl)
 try simp only [zU, qI, qX, qY]
 refine zP (i := 6) (v := ?_) qU qC qC qC (fun _ _ _ h => h) (Or.inl ⟨by rfl, ?_⟩) qW ?_;rotate_left 1
 ·intro w hSw; (try dsimp only at hSw); go_simp; (first | done | with_reducible rfl)
 try simp only [zU, qI, qX, qY]
 refine zP (i := 7) (v := ?_) qU qC qC qC (fun _ _ _ h => h) (Or.inl ⟨by rfl, ?_⟩) qW ?_;rotate_left 1
 ·intro w hSw; (try dsimp only at hSw); go_simp; (first | done | with_reducible rfl)
 try simp only [zU, qI, qX, qY]
 refine zP (i := 9) (v := ?_) qU qC qC qC (fun _ _ _ h => h) (Or.inl ⟨by rfl, ?_⟩) qW ?_;rotate_left 1
 ·intro w hSw; (try dsimp only at hSw); go_simp; (first | done | with_reducible rfl)
 try simp only [zU, qI, qX, qY]
 refine zP (i := 10) (v := ?_) qU qC qC qC (fun _ _ _ h => h) (Or.inl ⟨by rfl, ?_⟩) qW ?_;rotate_left 1
 ·intro w hSw; (try dsimp only at hSw); go_simp; (first | done | with_reducible rfl)
 try simp only [zU, qI, qX, qY]
 refine zP (i := 11) (v := ?_) qU qC qC qC (fun _ _ _ h => h) (Or.inl ⟨by rfl, ?_⟩) qW ?_;rotate_left 1
 ·intro w hSw; (try dsimp only at hSw); go_simp; (first | done | with_reducible rfl)
 try simp only [zU, qI, qX, qY]
 refine zQ (rs := [8]) qC qT ?_;refine zN qU (fun K hK => ?_) zO;go_simp;refine hK.out _ _ hHeld (fun _ => ?_);clear hK K;try simp only [zU, qI, qX, qY]
 refine zQ (rs := [12]) qC qT ?_;refine zN qU (fun K hK => ?_) zO;go_simp;refine (HCI.out _ hd5).mono ?_;intro e w6 hsaid;obtain ⟨v6, rfl, hv6, hb6'⟩ := hsaid;have hb6 : Below w5.heap.size w5 w6 := jH hd5 hb6';have hdz := hd5.size;obtain ⟨a6, n6, c6, hv6e⟩ := zAW hv6;subst hv6e;have HV6 : Hid (jE true w6 (fun b => w5.heap.size ≤ b) (.slice a6 n6 c6) (zAr l.cells q more)) := zA (SliceR.stable (jX _) hv6 (Keeps.refl _ _) (fun b h _ => Nat.le_trans hdz h));obtain ⟨y0, y0f⟩ := blk (jG hb6 HK.out.1);have k16 := jG hb6 HK.out.2;have g36 := jG hb6 HG3.out;have y3 : w6.cell? ⟨b3, o3 + i * 4 + 3, none⟩ = some (.slice ca3 l.cells.length cc3) := (hb6.cell (p := ⟨b3, o3 + i * 4 + 3, none⟩) hb3z).trans HA3.out.cells;have y3f : w6.frozen? ⟨b3, o3 + i * 4 + 3, none⟩ = false := yJ g36;have hS6 : w6.cell? ⟨w.heap.size, 0, none⟩ = some (.int .i64 i) ∧ w6.cell? ⟨w.heap.size, 1, none⟩ = some (.int .i64 q) := ⟨y0 0, y0 1⟩;clear hv6 hb6' hld hHeld;refine hK.out _ _ hS6 (fun hHeld => ?_);clear hK K;try simp only [zU, qI, qX, qY]
 refine zP (i := 13) (v := ?_) qU qC qC qC (fun _ _ _ h => h) (Or.inl ⟨by rfl, ?_⟩) qW ?_;rotate_left 1
 ·intro w hSw; (try dsimp only at hSw); go_simp; (first | done | with_reducible rfl)
 try simp only [zU, qI, qX, qY]
 refine zP (i := 14) (v := ?_) qU qC qC qC (fun _ _ _ h => h) (Or.inl ⟨by rfl, ?_⟩) qW ?_;rotate_left 1
 ·intro w hSw; (try dsimp only at hSw); go_simp; (first | done | with_reducible rfl)
 try simp only [zU, qI, qX, qY]
 refine zP (i := 15) (v := ?_) qU qC qC qC (fun _ _ _ h => h) (Or.inl ⟨by rfl, ?_⟩) qW ?_;rotate_left 1
 ·intro w hSw; (try dsimp only at hSw); go_simp; (first | done | with_reducible rfl)
 try simp only [zU, qI, qX, qY]
 refine zP (i := 16) (v := ?_) qU qC qC qC (fun _ _ _ h => h) (Or.inl ⟨by rfl, ?_⟩) qW ?_;rotate_left 1
 ·intro w hSw; (try dsimp only at hSw); go_simp; (first | done | with_reducible rfl)
 try simp only [zU, qI, qX, qY]
 refine zP (i := 17) (v := ?_) qU qC qC qC (fun _ _ _ h => h) (Or.inl ⟨by rfl, ?_⟩) qW ?_;rotate_left 1
 ·intro w hSw; (try dsimp only at hSw); go_simp; (first | done | with_reducible rfl)
 try simp only [zU, qI, qX, qY]
 refine zQ (rs := [18]) qC qT ?_;refine zN qU (fun K hK => ?_) zO;go_simp;have hS7 : (w6.setCell ⟨b3, o3 + i * 4 + 3, none⟩ (.slice a6 n6 c6)).cell? ⟨w.heap.size, 0, none⟩ = some (.int .i64 i) ∧ (w6.setCell ⟨b3, o3 + i * 4 + 3, none⟩ (.slice a6 n6 c6)).cell? ⟨w.heap.size, 1, none⟩ = some (.int .i64 q) := ⟨(kT e1).trans hS6.1, (kT e1).trans hS6.2⟩;refine hK.out _ _ hS7 (fun _ => ?_);refine wpAnyH_done qC ?_ _;refine NoPanic.normal ?_;clear hK K hHeld y0 y0f y3 y3f;obtain ⟨w7, hw7⟩ : ∃ X, w6.setCell ⟨b3, o3 + i * 4 + 3, none⟩ (.slice a6 n6 c6) = X := ⟨_, rfl⟩;have k17 : w7.heap[w.heap.size + 1]? = some (.cells #[.int .i64 0, .int .i64 0] 24) := by rw [← hw7, jN, if_neg e2]; exact k16
 have hfin : Below w.heap.size w w7 := by
  rw [← hw7];exact ((H1.out.trans (hx5.mono hs1)).trans (hb6.mono qE)).setCell (by show w.heap.size ≤ b3; omega) _
 have hD7 : DocR true w7 (fun b => w4.heap.size ≤ b) (.slice (some ⟨b3, o3, none⟩) d.length c3) (d.set i { l with cells := zAr l.cells q more }) := by
  rw [← hw7];refine SliceR.set1 kH.tag (SliceR.below (jY true) HV5.out hb6) HLL.out (j := 3) jA (.slice a6 n6 c6) ?_;rintro vs _ ⟨p', q', rfl, hp', hq'⟩;exact ⟨p', _, rfl, hp', SliceR.stable (jX _) HV6.out (Keeps.refl _ _) (fun b h _ => Nat.le_trans hsz45 h)⟩
 have hz7 : w6.heap.size = w7.heap.size := by rw [← hw7]; simp
 have hz56 := hb6.size;rw [hw7] at hS7 ⊢;clear hw7 k16 hS6 g36;obtain ⟨r1, s1⟩ := blk k17;have HD7 := zA hD7;have HFIN := zA hfin;clear hD7 hfin;go_wp2_with fail;refine wp_region_noPanic ?_;refine wp_region_held_drew (S := fun w' => w'.cell? ⟨w.heap.size, 0, none⟩ = some (.int .i64 i) ∧ w'.cell? ⟨w.heap.size, 1, none⟩ = some (.int .i64 q)) qC ⟨hS7.1, hS7.2⟩ (fun hHeld => ?_);obtain ⟨X9, hX9⟩ : ∃ X, w7.drew = X := ⟨_, rfl⟩;have hd9 : Below w7.heap.size w7 X9 := hX9 ▸ (zE _ _).drew;rw [hX9] at hHeld ⊢;have k19 := jG hd9 k17;obtain ⟨r9, s9⟩ := blk k19;have HD9 := zA hd9;have HK9 := zA k19;have HS9 := zA hHeld;have e3 : w.heap.size + 1 ≠ w.heap.size := by omega
 clear hX9 hS7 r1 s1 k17 hd9 k19;refine zP (i := 0) (v := ?_) vD qC qC qC (fun _ _ _ h => h) (Or.inl ⟨by rfl, ?_⟩) qW ?_;rotate_left 1
 ·intro w hSw; (try dsimp only at hSw); go_simp; (first | done | with_reducible rfl)
 try simp only [zU, qI, qX, qY]
 refine zP (i := 1) (v := ?_) qU qC qC qC (fun _ _ _ h => h) (Or.inl ⟨by rfl, ?_⟩) qW ?_;rotate_left 1
 ·intro w hSw; (try dsimp only at hSw); go_simp; (first | done | with_reducible rfl)
 try simp only [zU, qI, qX, qY]
 refine zP (i := 2) (v := ?_) qU qC qC qC (fun _ _ _ h => h) (Or.inl ⟨by rfl, ?_⟩) qW ?_;rotate_left 1
 ·intro w hSw; (try dsimp only at hSw); go_simp; (first | done | with_reducible rfl)
 try simp only [zU, qI, qX, qY]
 refine zP (i := 3) (v := ?_) qU qC qC qC (fun _ _ _ h => h) (Or.inl ⟨by rfl, ?_⟩) qW ?_;rotate_left 1
 ·intro w hSw; (try dsimp only at hSw); go_simp; (first | done | with_reducible rfl)
 try simp only [zU, qI, qX, qY]
 refine zP (i := 4) (v := ?_) qU qC qC qC (fun _ _ _ h => h) (Or.inl ⟨by rfl, ?_⟩) qW ?_;rotate_left 1
 ·intro w hSw; (try dsimp only at hSw); go_simp; (first | done | with_reducible rfl)
 try simp only [zU, qI, qX, qY]
 refine zP (i := 5) (v := ?_) qU qC qC qC (fun _ _ _ h => h) (Or.inl ⟨by rfl, ?_⟩) qW ?_;rotate_left 1
 ·intro w hSw; (try dsimp only at hSw); go_simp; (first | done | with_reducible rfl)
 try simp only [zU, qI, qX, qY]
 refine zP (i := 6) (v := ?_) qU qC qC qC (fun _ _ _ h => h) (Or.inl ⟨by rfl, ?_⟩) qW ?_;rotate_left 1
 ·intro w hSw; (try dsimp only at hSw); go_simp; (first | done | with_reducible rfl)
 try simp only [zU, qI, qX, qY]
 refine zP (i := 7) (v := ?_) qU qC qC qC (fun _ _ _ h => h) (Or.inl ⟨by rfl, ?_⟩) qW ?_;rotate_left 1
 ·intro w hSw; (try dsimp only at hSw); go_simp; (first | done | with_reducible rfl)
 try simp only [zU, qI, qX, qY]
 refine zP (i := 8) (v := ?_) qU qC qC qC (fun _ _ _ h => h) (Or.inl ⟨by rfl, ?_⟩) qW ?_;rotate_left 1
 ·intro w hSw; (try dsimp only at hSw); go_simp; (first | done | with_reducible rfl)
 try simp only [zU, qI, qX, qY]
 refine zQ (rs := [9]) qC qT ?_;refine zN qU (fun K hK => ?_) zO;go_simp;refine hK.out _ _ hHeld (fun _ => ?_);clear hK K;try simp only [zU, qI, qX, qY]
 refine zQ (rs := [10]) qC qT ?_;refine zN qU (fun K hK => ?_) zO;go_simp
 have hSA : ∀ u0 u1, ((X9.setCell ⟨w.heap.size + 1, 0, none⟩ u0).setCell ⟨w.heap.size + 1, 1, none⟩ u1).cell? ⟨w.heap.size, 0, none⟩ = some (.int .i64 i) ∧ ((X9.setCell ⟨w.heap.size + 1, 0, none⟩ u0).setCell ⟨w.heap.size + 1, 1, none⟩ u1).cell? ⟨w.heap.size, 1, none⟩ = some (.int .i64 q) := fun u0 u1 =>
  ⟨(kT e3).trans ((kT e3).trans HS9.out.1), (kT e3).trans ((kT e3).trans HS9.out.2)⟩
 refine hK.out _ _ (hSA _ _) (fun _ => ?_);clear hK K;try simp only [zU, qI, qX, qY]
 refine zQ (rs := [11]) qC qT ?_;refine zN qU (fun K hK => ?_) zO;go_simp;refine hK.out _ _ (hSA _ _) (fun _ => ?_);refine wpAnyH_done qC ?_ _;refine NoPanic.normal ?_;clear hK K hSA;go_wp2_with fail;have k19 := HK9.out;have hwr : IntKind.i64.wrap ((q : Int) + (more.length : Int)) = (q : Int) + (more.length : Int) := IntWalk.i64_in _ qE;refine zM (xA rfl _ _ (w.heap.size + 1) (.int .i64 i) (.int .i64 ((q : Int) + (more.length : Int))) rfl (by simp [jN, jB, k19, hwr])) rfl ?_;unfold DocPSaid;rw [HR.out];have hz9 := HD9.out.size;have hfz := HFIN.out.size;have hw4 : w.heap.size + 2 ≤ w4.heap.size := by omega
 refine ⟨_, by rw [HP.out]; rfl, SliceR.stable (jY true) HD7.out ((((Keeps.all HD9.out)).set (fun hh => by have hh : w4.heap.size ≤ w.heap.size + 1 := hh; omega) _).set (fun hh => by have hh : w4.heap.size ≤ w.heap.size + 1 := hh; omega) _) (fun b h _ => by have h : w4.heap.size ≤ b := h; omega), ?_⟩;exact ((HFIN.out.trans (HD9.out.mono hfz)).setCell uE _).setCell uE _
end Go.Proofs.YtjgeadoncanheaaGreatDoor
namespace Go.Proofs.Qw
open Go.RowKit Go.Proofs.YtjgeadoncanheaaGreatDoor
open _root_.List renaming getElem?_eq_some_iff → zK, length_append → zS
def flat (d : Doc) : List Cel := d.flatMap (·.cells)
theorem zGh (d : Doc) : (flat d).length = jQ d := by unfold flat jQ; rw [List.length_flatMap]
theorem zAS (d e : Doc) : flat (d ++ e) = flat d ++ flat e := by unfold flat; rw [List.flatMap_append]
theorem zGy (l : Lin) : flat [l] = l.cells := by simp [flat]
theorem zLD {d : Doc} {i : Nat} {l : Lin} (h : d[i]? = some l) : d = d.take i ++ [l] ++ d.drop (i + 1) := by
 have hi := (zK.1 h).1
 have e : d.drop i = l :: d.drop (i + 1) := by
  rw [List.drop_eq_getElem_cons hi, (zK.1 h).2]
 rw [List.append_assoc, List.singleton_append, ← e, List.take_append_drop]
theorem zGO {d : Doc} {i : Nat} {l : Lin} (h : d[i]? = some l) : flat d = flat (d.take i) ++ (l.cells ++ flat (d.drop (i + 1))) := by
 conv => lhs; rw [zLD h]
 rw [zAS, zAS, zGy, List.append_assoc]
def offs (d : Doc) (i p : Nat) : Nat := (flat (d.take i)).length + p
theorem zLd {d : Doc} {i p : Nat} {l : Lin} (h : d[i]? = some l) (hp : p ≤ l.cells.length) : (flat d).take (offs d i p) = flat (d.take i) ++ l.cells.take p := by
 unfold offs;rw [zGO h, List.take_length_add_append, List.take_append_of_le_length hp]
theorem zLg {d : Doc} {i p : Nat} {l : Lin} (h : d[i]? = some l) (hp : p ≤ l.cells.length) : (flat d).drop (offs d i p) = l.cells.drop p ++ flat (d.drop (i + 1)) := by
 unfold offs;rw [zGO h, List.drop_length_add_append, List.drop_append_of_le_length hp]
theorem zLf {d : Doc} {k : Nat} {l : Lin} (h : d[k]? = some l) : flat (d.take (k + 1)) = flat (d.take k) ++ l.cells := by
 rw [List.take_add_one, h, zAS];simp [flat]
theorem zGZ {d : Doc} {i p : Nat} {l : Lin} (hl : d[i]? = some l) (hp : p ≤ l.cells.length) : isD d ⟨i, p⟩ = true := by
 rw [zAI hl]
 simp
 omega
theorem zKa {l : Lin} {cs : List Cel} (h : mayL l = true) (hc : kL cs = true) : mayL { l with cells := cs } = true := by
 unfold mayL at h ⊢;simp only [Bool.and_eq_true] at h ⊢;exact ⟨h.1, hc⟩
theorem zGu {l : Lin} (h : mayL l = true) : kL l.cells = true := by
 unfold mayL at h;simp only [Bool.and_eq_true] at h;exact h.2
theorem zKb {l : List Cel} (h : kL l = true) (n : Nat) : kL (l.take n) = true := by
 unfold kL at h ⊢;rw [List.all_eq_true] at h ⊢;exact fun x hx => h x (List.mem_of_mem_take hx)
theorem zKc {l : List Cel} (h : kL l = true) (n : Nat) : kL (l.drop n) = true := by
 unfold kL at h ⊢;rw [List.all_eq_true] at h ⊢;exact fun x hx => h x (List.mem_of_mem_drop hx)
theorem zIy {l m : List Cel} (h : kL l = true) (k : kL m = true) : kL (l ++ m) = true := by
 unfold kL at h k ⊢;rw [List.all_append, h, k]
 rfl
theorem uY {d : Doc} : mayD d = true ↔ 1 ≤ d.length ∧ d.length ≤ 200 ∧ (flat d).length ≤ 4000 ∧ ∀ l ∈ d, mayL l = true := by
 unfold mayD;simp only [Bool.and_eq_true, decide_eq_true_eq, List.all_eq_true, zGh];exact ⟨fun ⟨⟨⟨a, b⟩, c⟩, e⟩ => ⟨a, b, c, e⟩, fun ⟨a, b, c, e⟩ => ⟨⟨⟨a, b⟩, c⟩, e⟩⟩
theorem zJv {d : Doc} {i p j q : Nat} {l m : Lin} (hl : d[i]? = some l) (hm : d[j]? = some m) (hp : p ≤ l.cells.length) (hq : q ≤ m.cells.length) :
  flat (zAu d ⟨i, p⟩ ⟨j, q⟩) = (flat d).take (offs d i p) ++ (flat d).drop (offs d j q) := by
 rw [zAV hl hm, zAS, zAS, zGy, zLd hl hp, zLg hm hq]
 simp
theorem zKQ {d : Doc} {i p j q : Nat} {l m : Lin} (hl : d[i]? = some l) (hm : d[j]? = some m) (hp : p ≤ l.cells.length) (hij : i ≤ j) (hpq : i = j → p ≤ q) : offs d i p ≤ offs d j q := by
 unfold offs
 by_cases e : i = j
 ·subst e
  have := hpq rfl
  omega
 ·have h1 : (d.take j).take (i + 1) = d.take (i + 1) := by rw [List.take_take, Nat.min_eq_left qE]
  have h2 : flat (d.take j) = flat (d.take (i + 1)) ++ flat ((d.take j).drop (i + 1)) := by rw [← h1, ← zAS, List.take_append_drop]
  rw [h2, zLf hl];simp only [zS]
  omega
theorem vL {d : Doc} {i : Nat} {l : Lin} (h : d[i]? = some l) : l ∈ d := List.mem_of_getElem? h
theorem zKo {d : Doc} {i p j q : Nat} {l m : Lin} (hM : mayD d = true) (hl : d[i]? = some l) (hm : d[j]? = some m) (hp : p ≤ l.cells.length) (hq : q ≤ m.cells.length) (hij : i ≤ j) (hpq : i = j → p ≤ q) :
  mayD (zAu d ⟨i, p⟩ ⟨j, q⟩) = true := by
 obtain ⟨a1, a2, a3, a4⟩ := uY.1 hM;have hj := (zK.1 hm).1;have ho := zKQ hl hm hp hij hpq;refine uY.2 ⟨?_, ?_, ?_, fun x hx => ?_⟩
 ·rw [zAV hl hm]; simp; omega
 ·rw [zAV hl hm]
  simp only [zS, List.length_take, List.length_drop, List.length_singleton]
  omega
 ·rw [zJv hl hm hp hq, zS, List.length_take, List.length_drop]
  omega
 ·rw [zAV hl hm] at hx
  simp only [List.mem_append, List.mem_singleton] at hx;rcases hx with (hx | rfl) | hx
  ·exact a4 x (List.mem_of_mem_take hx)
  ·exact zKa (a4 l (vL hl)) (zIy (zKb (zGu (a4 l (vL hl))) _) (zKc (zGu (a4 m (vL hm))) _))
  ·exact a4 x (List.mem_of_mem_drop hx)
theorem zKp {d : Doc} {i p j q : Nat} {l m : Lin} (hl : d[i]? = some l) (hm : d[j]? = some m) (k : Nat) :
  (zAu d ⟨i, p⟩ ⟨j, q⟩)[k]? = if k < i then d[k]? else if k = i then some { l with cells := l.cells.take p ++ m.cells.drop q } else d[k - i + j]? := by
 have hi := (zK.1 hl).1;rw [zAV hl hm]
 by_cases h1 : k < i
 ·rw [if_pos h1, List.append_assoc, List.getElem?_append_left jD, List.getElem?_take, if_pos h1]
 ·rw [if_neg h1]
  by_cases h2 : k = i
  ·subst h2
   rw [if_pos rfl, List.append_assoc, List.getElem?_append_right jD, List.length_take, Nat.min_eq_left qE, Nat.sub_self]
   rfl
  ·rw [if_neg h2, List.getElem?_append_right jD]
   simp only [zS, List.length_take, List.length_singleton, Nat.min_eq_left (Nat.le_of_lt hi)];rw [List.getElem?_drop]
   congr 1
   omega
theorem zMK {d : Doc} {i : Nat} {l : Lin} (h : d[i]? = some l) (x : Lin) : d.set i x = d.take i ++ [x] ++ d.drop (i + 1) := by
 have hi := (zK.1 h).1;rw [List.set_eq_take_append_cons_drop, if_pos hi, List.append_assoc, List.singleton_append]
theorem zJo {d : Doc} {i p j q : Nat} (h : kK d ⟨i, p⟩ ⟨j, q⟩ = true) : (kX d ⟨i, p⟩ ⟨j, q⟩).1.length = j + 1 - i := by
 unfold kX;rw [if_pos h];simp [kE]
theorem zAo {d : Doc} (h : mayD d = true) : Small d ∧ Fits d := by
 obtain ⟨h1, h2, h3, h4⟩ := uY.1 h;rw [zGh] at h3;refine ⟨⟨by omega, by omega, fun l hl c hc => ?_⟩, by omega, fun l hl => ?_⟩
 ·have := h4 l hl
  unfold mayL at this;simp only [Bool.and_eq_true] at this;have hcs := this.2;unfold kL at hcs;have hm := List.all_eq_true.1 hcs c hc;unfold mayC xN at hm;simp only [Bool.and_eq_true, Bool.or_eq_true, decide_eq_true_eq] at hm;rcases hm.2 with e | e
  ·rw [e]; simp
  ·unfold kN zCC yM at e
   simp only [Bool.and_eq_true, decide_eq_true_eq] at e;have h5 := e.1.2.1;have : (⟨c.href.toArray⟩ : ByteArray).size = c.href.length := by show c.href.toArray.size = _; simp
   omega
 ·have hm := h4 l hl
  unfold mayL at hm;simp only [Bool.and_eq_true, decide_eq_true_eq] at hm;obtain ⟨i, hi⟩ := List.getElem?_of_mem hl;have := zAY hi
  omega
def zMH (c : Cel) : Cel := ⟨c.r, 0, []⟩
def zMG (l : Lin) : Lin := { l with cells := l.cells.map zMH }
def zGW (d : Doc) : Doc := d.map zMG
structure Stays (s t : St) : Prop where
 may : mayS t = true
 anc : t.anc = s.anc
 foc : t.foc = s.foc
 strip : zGW t.lines = zGW s.lines
theorem Stays.refl {s : St} (h : mayS s = true) : Stays s s := ⟨h, rfl, rfl, rfl⟩
theorem Stays.trans {s t u : St} (h : Stays s t) (k : Stays t u) : Stays s u := ⟨k.may, k.anc.trans h.anc, k.foc.trans h.foc, k.strip.trans h.strip⟩
end Go.Proofs.Qw
namespace Go.Proofs.YtjgeadoncanheaaGreatDoor
open Go.RowKit
open Go.Proofs.Qw
theorem zMr {d : Doc} {p : Ps} (h : isD d p = true) : ∃ (i j : Nat) (l : Lin), p = ⟨i, j⟩ ∧ d[i]? = some l ∧ j ≤ l.cells.length := by
 obtain ⟨x, y⟩ := p
 by_cases hi : 0 ≤ x ∧ x < d.length
 ·obtain ⟨i, rfl⟩ := Int.eq_ofNat_of_zero_le hi.1
  obtain ⟨l, hl, _⟩ := jJ d i qE;rw [zAI hl] at h;simp only [Bool.and_eq_true, decide_eq_true_eq] at h;obtain ⟨p, rfl⟩ := Int.eq_ofNat_of_zero_le h.1;exact ⟨i, p, l, rfl, hl, by omega⟩
 ·rw [zAZ hi] at h
  cases h
end Go.Proofs.YtjgeadoncanheaaGreatDoor
namespace Go.Proofs.YtjgeadoncanheaaGreatDoor
open Go.RowKit
open Go.Proofs.Qw
attribute [local go_sem] Oper.semAt_some
open _root_.Nat renaming le_refl → zC, le_trans → zD
open _root_.Array renaming getElem?_eq_some_iff → zL
def yL (Bs : Nat) (W : World) : Option Nat := (W.cell? ⟨Bs, 0, none⟩).bind Value.ownBlock
structure Kd (n₀ base Bs : Nat) (W W' : World) : Prop where
 below : Below n₀ W W'
 cells : ∀ k o, base ≤ k → W.heap[k]? = some o → o.isCells = true → yL Bs W ≠ some k → W'.heap[k]? = some o
 own : yL Bs W' = yL Bs W ∨ ∃ j, yL Bs W' = some j ∧ W.heap.size ≤ j
theorem Kd.t {n₀ base Bs : Nat} {A B C : World} (h : Kd n₀ base Bs A B) (k : Kd n₀ base Bs B C) : Kd n₀ base Bs A C := by
 refine ⟨h.below.trans k.below, fun i o hi ho hc hn => k.cells i o hi (h.cells i o hi ho hc hn) hc ?_, ?_⟩
 ·rcases h.own with e | ⟨j, e, hj⟩
  ·rw [e]; exact hn
  ·rw [e]
   intro e2;cases e2;have := (zL.1 ho).1
   omega
 ·rcases k.own with e | ⟨j, e, hj⟩
  ·rw [e]; exact h.own
  ·exact .inr ⟨j, e, zD h.below.size hj⟩
theorem Kd.of_below {n₀ base Bs : Nat} {W W' : World} (hn : n₀ ≤ W.heap.size) (hs : Bs < W.heap.size) (hb : Below W.heap.size W W') : Kd n₀ base Bs W W' :=
 ⟨hb.mono hn, fun k _ _ hk _ _ => (hb.block k (zL.1 hk).1).trans hk, .inl (by unfold yL; rw [hb.cell (p := ⟨Bs, 0, none⟩) hs])⟩
theorem Kd.b {n₀ base Bs : Nat} {w : World} (hn : n₀ ≤ w.heap.size) (hs : Bs < w.heap.size) (W : World) (l : Nat) (o o' : Obj) (hl : w.heap.size ≤ l) (h : W.heap[l]? = some o) (hc : o.isCells = false) (hw : o.isWalk = false) : Kd n₀ base Bs W (W.putObj l o') :=
 ⟨belowK_b hn W l o o' hl h hc hw, fun k u _ hk hu _ => by
  rw [World.putObj_heap_other (fun e => by subst e; rw [h] at hk; cases hk; rw [hc] at hu; cases hu)]; exact hk, .inl (by
  unfold yL;rw [World.cell?_of_block (World.putObj_heap_other (by show Bs ≠ l; omega))])⟩
theorem Kd.setCell {n₀ base Bs : Nat} (W : World) {B o : Nat} (h1 : n₀ ≤ B) (h2 : B < base) (h3 : B ≠ Bs) (v : Value) : Kd n₀ base Bs W (W.setCell ⟨B, o, none⟩ v) :=
 ⟨(Below.refl _ _).setCell h1 _, fun k u hk h _ _ => by rw [Below.heap_setCell _ _ _ _ jD]; exact h, .inl (by
  unfold yL;rw [World.cell?_of_block (Below.heap_setCell _ _ _ _ jD)])⟩
theorem Kd.append {n₀ base Bs : Nat} {w w' : World} {v v' : Value} (h : w.heap[Bs]? = some (.cells #[v] 44)) (hne : v.ownBlock ≠ some Bs) (hg : w.grownBy w' v.ownBlock) (hb : Below n₀ w w') (hv : v'.ownBlock = v.ownBlock ∨ v'.ownBlock = some w.heap.size) (h1 : n₀ ≤ Bs) (h2 : Bs < base) : Kd n₀ base Bs w (w'.setCell ⟨Bs, 0, none⟩ v') := by
 have hlt := (zL.1 h).1;have h' : w'.heap[Bs]? = some (.cells #[v] 44) := (hg.block Bs hlt (fun e => hne e.symm)).trans h;have o1 : yL Bs w = v.ownBlock := by unfold yL; rw [jS h]; rfl
 have o2 : yL Bs (w'.setCell ⟨Bs, 0, none⟩ v') = v'.ownBlock := by unfold yL; rw [jS (yW h' v')]; rfl
 refine ⟨hb.setCell h1 _, fun k o hk ho _ hn => ?_, ?_⟩
 ·rw [Below.heap_setCell _ _ _ _ jD]
  exact (hg.block k (zL.1 ho).1 (fun e => hn (o1.trans e.symm))).trans ho
 ·rw [o1, o2]
  rcases hv with e | e
  ·exact .inl e
  ·exact .inr ⟨_, e, zC _⟩
theorem zKv {w : World} {b o : Nat} {u : Value} (h : w.cell? ⟨b, o, none⟩ = some u) : ∃ ob, w.heap[b]? = some ob ∧ ob.isCells = true := by
 unfold World.cell? at h
 split at h
 ·rename_i c t f e
  exact ⟨_, e, rfl⟩
 ·cases h
structure KC (W2 : World) (Z Bs n₀ : Nat) (w0 wr : World) : Prop where
 cell : ∀ b o u, Z ≤ b → b < W2.heap.size → W2.cell? ⟨b, o, none⟩ = some u → wr.cell? ⟨b, o, none⟩ = some u
 own : ∀ k, yL Bs wr = some k → W2.heap.size ≤ k
 size : W2.heap.size ≤ wr.heap.size
 below : Below n₀ w0 wr
theorem KC.go {W2 : World} {Z Bs n₀ base : Nat} {w0 wr wr' : World} (h : KC W2 Z Bs n₀ w0 wr) (hz : base ≤ Z) (k : Kd n₀ base Bs wr wr') : KC W2 Z Bs n₀ w0 wr' := by
 refine ⟨fun b o u h1 h2 h3 => ?_, fun j hj => ?_, zD h.size k.below.size, h.below.trans k.below⟩
 ·have hc := h.cell b o u h1 h2 h3
  obtain ⟨ob, e1, e2⟩ := zKv hc;have e3 := k.cells b ob (zD hz h1) e1 e2 (fun e => by have := h.own b e; omega);rw [World.cell?_of_block (w := wr) (e3.trans e1.symm)];exact hc
 ·rcases k.own with e | ⟨i, e, hi⟩
  ·exact h.own j (e.symm.trans hj)
  ·rw [e] at hj
   cases hj;exact zD h.size hi
theorem KC.start {W2 : World} {Z Bs n₀ : Nat} {w0 : World} (hb : Below n₀ w0 W2) (ho : yL Bs W2 = none) : KC W2 Z Bs n₀ w0 W2 :=
 ⟨fun _ _ _ _ _ h => h, fun k hk => (by rw [ho] at hk; cases hk), zC _, hb⟩
theorem zDd {P : Program} {F : Fence} {n : Nat} {α : Type} {g : Operand} {ps : Array Tmp} {assign body : Code} {Q : Exit → Act → World → Prop} {a : Act} {w : World}
  (hro : F.round = none) (h1 : 1 ≤ n) {gf : Nat} {lb : Array Value} (hg : a.eval g = .func (.func gf) #[] lb) (hFg : F.fn gf) (eg : ∀ args w, (callFunc gf args).run P w = .ok (.enter gf args) w)
  {encs : α → Array Value} {n₀ base Bs : Nat} {S Sp : List α → Prop} {N : Nat} {w0 : World} (hseq : SeqStopsK F (n - 1) P gf lb encs (Kd n₀ base Bs) S Sp N w0)
  (hn : n₀ ≤ w.heap.size) (hBs : Bs < w.heap.size) (hb0 : Below w0.heap.size w0 w) (hps : ∀ x, (encs x).size = ps.size)
  (I : List α → World → Prop) (Ix : Code → List α → World → Prop) (hI : OwnFrom w.heap.size I) (hIx : ∀ c, OwnFrom w.heap.size (Ix c)) (h0 : I [] w) (hIz : ∀ pre W, I pre W → w.heap.size ≤ W.heap.size)
  (rc : α → Array Value) (rt : TypeId) (act : Nat → α → Act)
  (hassign : ∀ (l : Nat) (pre : List α) (x : α) (W : World) (K : Act → World → Prop) (Bx : Nat), Bx = W.heap.size → I pre W → K (act Bx x) (W.alloc (.cells (rc x) rt)) →
   assign.wpIn (F.inRound l) (n - 1 - 1) P (Exit.then K (fun _ _ _ => False)) { tmps := (ps.zip (encs x)).foldl (fun t (p, v) => t.setIfInBounds p v) a.tmps, defers := [] } W)
  (hbody : ∀ (l : Nat) (pre : List α) (x : α) (Bx : Nat) (W : World), I pre W → w.heap.size ≤ Bx → W.heap[Bx]? = some (.cells (rc x) rt) → pre.length < N → body.wpIn (F.inRound l) (n - 1 - 1) P (ownPostG w.heap.size (Kd n₀ base Bs) I Ix (pre ++ [x]) W) (act Bx x) W)
  (hdone : ∀ (D : Nat) (xs : List α) (W : World), w.heap.size ≤ D → S xs → I xs W → W.heap[D]? = some (.deferred (some [])) → Q .normal { a with defers := { target := .collected D, args := #[] } :: a.defers } W)
  (hstop : ∀ (D : Nat) (c : Code) (pre : List α) (W : World), w.heap.size ≤ D → Sp pre → Ix c pre W → W.heap[D]? = some (.deferred (some [])) → c.wpIn F n P Q { a with defers := { target := .collected D, args := #[] } :: a.defers } W) :
  (Code.rangeFunc g ps assign body).wpIn F n P Q a w := by
 refine wpIn_rangeFunc_ownH hro h1 hg hFg eg hseq (fun h k => h.t k) (Kd.b hn hBs) hb0 hps I Ix hI hIx h0
  (fun x a' W => ∃ Bx, w.heap.size ≤ Bx ∧ W.heap[Bx]? = some (.cells (rc x) rt) ∧ a' = act Bx x) ?_ ?_ ?_ hdone hstop
 ·intro x a' _ X Y row hs hg hr
  obtain ⟨Bx, h1, h2, h3⟩ := hs;exact ⟨Bx, h1, (hg.block Bx (zL.1 h2).1 (fun e => by obtain ⟨_, o, ho, hc⟩ := hr Bx e.symm; rw [h2] at ho; cases ho; cases hc)).trans h2, h3⟩
 ·intro l pre x W K hi hK
  exact hassign l pre x W K _ rfl hi (hK _ _ ((KeepsOthers.alloc _ _).from _) (Kd.of_below (zD hn (hIz _ _ hi)) (Nat.lt_of_lt_of_le hBs (hIz _ _ hi)) ((Below.refl _ _).alloc (zC _) _)) (hI.alloc _ hi) ⟨_, hIz _ _ hi, jF _ _ rfl, rfl⟩)
 ·intro l pre x a' W hl hr hi ha hlt
  obtain ⟨Bx, h1, h2, rfl⟩ := ha;exact hbody l pre x Bx W hi h1 h2 hlt
end Go.Proofs.YtjgeadoncanheaaGreatDoor
namespace Go.Proofs.Qw
open Go.RowKit Go.Proofs.YtjgeadoncanheaaGreatDoor
theorem zJU (d : Doc) (a b : Ps) : (kX d a b).1.flatMap (·.cells) = cellsD d a b := by
 unfold kX cellsD
 split
 ·rw [List.flatMap_map]; rfl
 ·rfl
end Go.Proofs.Qw
namespace Go.Proofs.YtjgeadoncanheaaGreatDoor
open Go.RowKit
open Go.Proofs.Qw
attribute [local go_sem] Oper.semAt_some
open _root_.Go.Lib renaming hid → zA
open _root_.And renaming intro → zB
open _root_.Nat renaming le_refl → zC, le_trans → zD
open _root_.Go.RowKit.Below renaming refl → zE
open _root_.Int renaming natCast_nonneg → zR
open _root_.List renaming length_append → zS
open _root_.Go.Proofs.Tryz renaming prog → zV
open _root_.Go.Proofs.Qw renaming jX → qB
open _root_.Go.Proofs.Qw.SliceR renaming stable → qG
theorem zDo (va : Option Addr) (vn vc : Nat) (a b : Ps) (w : World) :
  Calls zV 61 #[.slice va vn vc, .agg #[.int .i64 a.line, .int .i64 a.col], .agg #[.int .i64 b.line, .int .i64 b.col]] w fun e w' => e = .returned (.func (.func 102) #[] #[.pointer (some ⟨w.heap.size, 0, none⟩), .pointer (some ⟨w.heap.size + 1, 0, none⟩), .pointer (some ⟨w.heap.size + 2, 0, none⟩)]) ∧
   w' = ((w.alloc (.cells #[.slice va vn vc] 22)).alloc (.cells #[.int .i64 a.line, .int .i64 a.col] 24)).alloc (.cells #[.int .i64 b.line, .int .i64 b.col] 24) := by
 go_enter Tryz.func61, Tryz.ntmps61;go_wp2_with fail;go_ret;exact ⟨rfl, rfl⟩
set_option maxRecDepth 200000 in
theorem zDp (n l Bd Ba Bb base Bs : Nat) (v : Value) (d : Doc) (a b : Ps) (S : Nat → Prop) (J Jx : List Cel → World → Prop) (w0 W : World) (hv : jC w0 S v d) (he : EnvT w0) (hs : Small d) (hf : Fits d) (hb0 : Below w0.heap.size w0 W)
  (hbase : base ≤ W.heap.size) (hD : W.heap[Bd]? = some (.cells #[v] 22)) (hA : W.heap[Ba]? = some (.cells #[.int .i64 a.line, .int .i64 a.col] 24)) (hB : W.heap[Bb]? = some (.cells #[.int .i64 b.line, .int .i64 b.col] 24))
  (hBs : Bs < W.heap.size) (hown : yL Bs W = none) (hJ : AbidesFrom W.heap.size J)
  (hY : ∀ (pre : List Cel) (x : Cel) W, J pre W → pre.length < 200000 → YieldAt Fence.wide (n - 1) zV l #[celV x] W fun e W' =>
   (e = .returned (.bool true) ∧ J (pre ++ [x]) W' ∧ Kd w0.heap.size base Bs W W') ∨ (e = .returned (.bool false) ∧ Jx (pre ++ [x]) W'))
  (h0 : J [] W) :
  CallsIn Fence.wide n zV 102 #[.func (.yield l) #[] #[], .pointer (some ⟨Bd, 0, none⟩), .pointer (some ⟨Ba, 0, none⟩), .pointer (some ⟨Bb, 0, none⟩)] W fun e W' => (∃ v, e = .returned v) ∧
   ((∃ ys : List Cel, ys = cellsD d a b ∧ J ys W') ∨ (∃ pre : List Cel, pre <+: cellsD d a b ∧ Jx pre W')) := by
 refine callsIn_of_wp Tryz.func102 rfl trivial ?_ rfl;simp only [Tryz.ntmps102, List.size_toArray, List.length_cons, List.length_nil, Nat.reduceAdd, Nat.reduceSub, Array.replicate_succ, Array.replicate_zero, List.push_toArray, List.append_toArray, List.nil_append, List.cons_append];have hwf : ∀ f, Fence.wide.fn f := fun _ => trivial;have hwd : Fence.wide.depth = none := rfl;have hz0 := hb0.size;have HP := zA (zFj v d a b W S (SliceR.below (jY _) hv hb0) (he.below hb0) hs hf);obtain ⟨P, er, hP⟩ : ∃ P er, kX d a b = (P, er) := ⟨_, _, rfl⟩;have HC : Hid (P.flatMap (·.cells) = cellsD d a b) := zA (by rw [← zJU, hP]);have HCL : Hid ((P.flatMap (·.cells)).length ≤ 100000) := zA (by rw [HC.out]; exact zD (uW d a b) hs.1);rw [hP] at HP;obtain ⟨va, vc, rfl⟩ := hv.slice;have HY := zA hY;have HJA := zA hJ;have HB0 := zA hb0;obtain ⟨p1, f1⟩ := blk hD;obtain ⟨p2, f2⟩ := blk hA;obtain ⟨p3, f3⟩ := blk hB;clear hv he hs hf hY hJ hP hD hA hB
 gi_wp2_with (gi_at_call 103; refine (callsIn_wide.2 HP.out).mono ?_; intro e W2 hsaid; obtain ⟨v2, rfl, hv2, hb2⟩ := hsaid; have HV2 := zA hv2; have hvl := hv2.slice; clear hv2; obtain ⟨a2, c2, rfl⟩ := hvl)
 clear p1 f1 p2 f2 p3 f3 HP;have hz2 := hb2.size;have HB2 := zA hb2
 have HKC0 := zA (KC.start (W2 := W2) (Z := W.heap.size) (Bs := Bs) (jH HB0.out hb2) (by
  unfold yL;rw [hb2.cell (p := ⟨Bs, 0, none⟩) hBs];exact hown))
 have HJ2 := zA (zAR HJA.out h0 hb2);have HKD : Hid (∀ X Y, KC W2 W.heap.size Bs w0.heap.size w0 X → Below X.heap.size X Y → Kd w0.heap.size base Bs X Y) := zA fun X Y hX hb => Kd.of_below (by have := hX.size; omega) (by have := hX.size; omega) hb;clear hb2 hown h0 hb0
 have hPl : P.length ≤ 9223372036854775807 := by
  have hh := SliceR.len HV2.out;unfold maxLen at hh
  omega
 gi_loopw [20, 8, 10] (fun z _ _ wr => ∃ k : Nat, k ≤ P.length ∧ z = .int .i64 k ∧ Hid (J ((P.take k).flatMap (·.cells)) wr) ∧ Hid (KC W2 W.heap.size Bs w0.heap.size w0 wr) ∧ W2.heap.size ≤ wr.heap.size) (fun z _ _ _ => P.length - (intOf z).toNat)
 case atStart => exact ⟨0, Nat.zero_le _, rfl, HJ2, HKC0, zC _⟩
 case round =>
  obtain ⟨k, hk, rfl, HJ, HK, hzr⟩ := hrel
  by_cases hlt : k < P.length
  ·obtain ⟨ln, hln, _⟩ := jJ P k hlt
   obtain ⟨b1, o1, c1, la, lc, ca, cc, hve, hc1, hm1, hAk, _, hCk, hS1⟩ := zAp HV2.out hln;cases hve;have hlt1 := hAk.lt;have c0 := HK.out.cell _ _ _ hS1 hlt1 hAk.quote;have c1' := HK.out.cell _ _ _ hS1 hlt1 hAk.lists;have c2' := HK.out.cell _ _ _ hS1 hlt1 hAk.kind;have c3 := HK.out.cell _ _ _ hS1 hlt1 hAk.cells;have HCK := zA hCk;have hcl := SliceR.len hCk;have HT : Hid ((P.take (k + 1)).flatMap (·.cells) = (P.take k).flatMap (·.cells) ++ ln.cells) := zA (by rw [xF hln, List.flatMap_append]; simp);have HPL : Hid ((P.take k).flatMap (·.cells) = (P.take k).flatMap (·.cells)) := zA rfl;obtain ⟨F, hF⟩ : ∃ F, (P.take k).flatMap (·.cells) = F := ⟨_, rfl⟩
   have HFL : Hid (F.length + ln.cells.length ≤ 100000) := zA (by
    have h1 : ((P.take (k + 1)).flatMap (·.cells)).length ≤ (P.flatMap (·.cells)).length := by
     conv => rhs; rw [← List.take_append_drop (k + 1) P, List.flatMap_append, zS]
     omega
    rw [HT.out, hF, zS] at h1;exact zD h1 HCL.out)
   rw [hF] at HJ HT;clear hF HPL hCk hAk;unfold maxLen at hm1 hcl;have i0 : (0 : Int) ≤ (k : Int) := zR _;have i1 : (k : Int) < (P.length : Int) := by omega
   gi_wp2_with fail
   obtain ⟨w4, hw4⟩ : ∃ w4, wr.alloc (.cells #[.int .i64 ln.quote, .slice la ln.lists.length lc, .int .i64 ln.kind, .slice ca ln.cells.length cc] 47) = w4 := ⟨_, rfl⟩;rw [hw4];have hb4 : Below wr.heap.size wr w4 := hw4 ▸ (zE _ _).alloc (zC _) _;have HJ4 := zA (zAR HJA.out HJ.out hb4);have HK4 := zA (HK.out.go hbase (HKD.out _ _ HK.out hb4));have hz4 := hb4.size;clear hw4 hb4
   gi_loopw [27, 10] (fun z _ wr => ∃ m : Nat, m ≤ ln.cells.length ∧ z = .int .i64 m ∧ Hid (J (F ++ ln.cells.take m) wr) ∧ Hid (KC W2 W.heap.size Bs w0.heap.size w0 wr) ∧ W2.heap.size ≤ wr.heap.size) (fun z _ _ => ln.cells.length - (intOf z).toNat)
   case atStart => exact ⟨0, Nat.zero_le _, rfl, zA (by simpa using HJ4.out), HK4, by omega⟩
   case round =>
    obtain ⟨m, hm, rfl, HJm, HKm, hzm⟩ := hrel
    by_cases hlt2 : m < ln.cells.length
    ·obtain ⟨x, hx, _⟩ := jJ ln.cells m hlt2
     obtain ⟨a5, c5, hve5, hcc5, hmm5, hx5⟩ := SliceR.shape_own HCK.out;cases hve5;obtain ⟨b5, o5, vs5, cs5, rfl, hz5, hS5, _, _, _, hvs5, he5⟩ := hx5 m x hx;cases hvs5;have d0 : wr.cell? ⟨b5, o5 + m * 3, none⟩ = some (.int .i32 x.r) := HKm.out.cell _ _ _ hS5 hz5 (he5 0 _ rfl);have d1 : wr.cell? ⟨b5, o5 + m * 3 + 1, none⟩ = some (.int .i64 x.bits) := HKm.out.cell _ _ _ hS5 hz5 (he5 1 _ rfl);have d2 : wr.cell? ⟨b5, o5 + m * 3 + 2, none⟩ = some (.string ⟨x.href.toArray⟩) := HKm.out.cell _ _ _ hS5 hz5 (he5 2 _ rfl);have HTm : Hid (F ++ ln.cells.take (m + 1) = F ++ ln.cells.take m ++ [x]) := zA (by rw [xF hx, List.append_assoc])
     have HPre : Hid (F ++ ln.cells.take m ++ [x] <+: cellsD d a b) := zA (by
      rw [← HTm.out, ← HC.out];refine List.IsPrefix.trans (l₂ := F ++ ln.cells) ((List.prefix_append_right_inj F).2 (List.take_prefix _ _)) ?_;rw [← HT.out];exact ⟨(P.drop (k + 1)).flatMap (·.cells), by rw [← List.flatMap_append, List.take_append_drop]⟩)
     clear hx5 he5;have j0 : (0 : Int) ≤ (m : Int) := zR _;have j1 : (m : Int) < (ln.cells.length : Int) := by omega
     have hb6 : Below wr.heap.size wr (wr.alloc (.cells #[.int .i32 x.r, .int .i64 x.bits, .string ⟨x.href.toArray⟩] 43)) := (zE _ _).alloc (zC _) _;have HK6 := zA (HKm.out.go hbase (HKD.out _ _ HKm.out hb6));have hYY := HY.out _ x _ (zAR HJA.out HJm.out hb6) (by rw [zS, List.length_take]; have := HFL.out; omega);clear hb6;unfold celV at hYY;obtain ⟨fn, tmps, assign, body, hy, hR⟩ := hYY
     gi_wp2_with fail
     refine hR.mono ?_;rintro e w7 (⟨rfl, hJ7, hk7⟩ | ⟨rfl, hJx7⟩)
     ·have HJ7 := zA hJ7
      have HK7 := zA (HK6.out.go hbase hk7);have hz7 := HK7.out.size;clear hJ7 hk7;rw [← HTm.out] at HJ7
      gi_wp2_with fail
      go_roundw
      case rel => exact ⟨m + 1, by omega, by go_num, HJ7, HK7, hz7⟩
      case measure => simp [intOf]; omega
     ·gi_wp2_with fail
      refine bodyPost_ret (results_none rfl _ _ _) rfl ?_;exact ⟨⟨_, rfl⟩, .inr ⟨_, HPre.out, hJx7⟩⟩
    ·obtain rfl : m = ln.cells.length := by omega
     rw [List.take_length, ← HT.out] at HJm
     gi_wp2_with fail
     go_roundw
     case rel => exact ⟨k + 1, by omega, by go_num, HJm, HKm, hzm⟩
     case measure => simp [intOf]; omega
  ·obtain rfl : k = P.length := by omega
   rw [List.take_length, HC.out] at HJ
   gi_wp2_with fail
   go_end0;exact ⟨⟨_, rfl⟩, .inl ⟨_, rfl, HJ.out⟩⟩
theorem zGC {β : Type} (B : Nat) (S : Nat → Prop) (v : Value) (f : β → List Cel) : OwnFrom B (fun (s : β) (W : World) => jE true W S v (f s)) := fun s X Y row hs hg hr => by
 cases row with
 | none => exact qG (qB _) hs ⟨hg.size, fun b _ hz => hg.block b hz qT⟩ (fun _ h _ => h)
 | some k =>
  obtain ⟨_, o, ho, hc⟩ := hr k rfl;exact qG (qB _) (SliceR.avoidO hs ho hc) ⟨hg.size, fun b hb hz => hg.block b hz (by intro e; cases e; exact hb.2 rfl)⟩ (fun _ h _ => h.1)
def CI (w : World) (Z : Nat) (pre : List Cel) (W : World) : Prop :=
 ∃ v, W.heap[w.heap.size]? = some (.cells #[v] 44) ∧ jE true W (fun b => Z ≤ b) v pre ∧ (v = .slice none 0 0 ∨ pre ≠ []) ∧ Below w.heap.size w W ∧ Z ≤ W.heap.size
theorem zMW {w : World} {Z B : Nat} (hB : w.heap.size ≤ B) : OwnFrom B (CI w Z) := fun s X Y row ⟨v, h1, h2, h3, h4, h5⟩ hg hr =>
 ⟨v, yA B _ _ _ s X Y row h1 hg hr, zGC B _ v (fun s : List Cel => s) s X Y row h2 hg hr, h3, ownFrom_below (zC _) hB s X Y row h4 hg hr, uV B _ s X Y row h5 hg hr⟩
theorem zKN {W : World} {Z : Nat} {v : Value} {xs : List Cel} (h : jE true W (fun b => Z ≤ b) v xs) (hne : v = .slice none 0 0 ∨ xs ≠ []) {k : Nat} (hk : k < Z) : v.ownBlock ≠ some k := by
 rcases hne with rfl | hne
 ·intro e; cases e
 ·obtain ⟨x, hx⟩ : ∃ x, xs[0]? = some x := by
   cases xs with
   | nil => exact absurd rfl hne
   | cons x l => exact ⟨x, rfl⟩
  obtain ⟨a, c, rfl, _, _, hxx⟩ := h.shape;obtain ⟨b, o, vs, rfl, _, hS, _⟩ := hxx 0 x hx;intro e;have e : some b = some k := e;have e2 : b = k := by injection e
  have hS : Z ≤ b := hS
  omega
theorem zLK (c : Cel) : ∀ u ∈ [Value.int .i32 c.r, .int .i64 c.bits, .string ⟨c.href.toArray⟩], u.oneCell' = true := by
 intro u hu;simp at hu;rcases hu with rfl | rfl | rfl <;> rfl
set_option maxRecDepth 200000 in
theorem zIb (Bd Ba Bb : Nat) (v : Value) (d : Doc) (a b : Ps) (w : World) (S : Nat → Prop) (h : jC w S v d) (he : EnvT w) (hs : Small d) (hf : Fits d)
  (hD : w.heap[Bd]? = some (.cells #[v] 22)) (hA : w.heap[Ba]? = some (.cells #[.int .i64 a.line, .int .i64 a.col] 24)) (hB : w.heap[Bb]? = some (.cells #[.int .i64 b.line, .int .i64 b.col] 24)) :
  Calls zV 101 #[.slice none 0 0, .func (.func 102) #[] #[.pointer (some ⟨Bd, 0, none⟩), .pointer (some ⟨Ba, 0, none⟩), .pointer (some ⟨Bb, 0, none⟩)]] w
   fun e w' => ∃ v', e = .returned v' ∧ jE true w' (fun b => w.heap.size ≤ b) v' (cellsD d a b) ∧ Below w.heap.size w w' := by
 obtain ⟨w6, hw6⟩ : ∃ w6, w.alloc (.cells #[.slice none 0 0] 44) = w6 := ⟨_, rfl⟩;have hb6 : Below w.heap.size w w6 := hw6 ▸ (zE _ _).alloc (zC _) _;have hz6 : w6.heap.size = w.heap.size + 1 := by rw [← hw6]; simp
 have m0 : w6.heap[w.heap.size]? = some (.cells #[.slice none 0 0] 44) := hw6 ▸ jF _ _ rfl;have HV := zA h;have HE := zA he;have HS := zA hs;have HF := zA hf;have HBX := zA (zB hD (zB hA hB));have HM := zA m0;have HL : Hid ((cellsD d a b).length ≤ 100000) := zA (zD (uW d a b) hs.1);have hCI : CI w w6.heap.size [] w6 := ⟨_, m0, SliceR.nil _ _ _ _ _ _, .inl rfl, hb6, zC _⟩;obtain ⟨p0, f0⟩ := blk m0;clear h he hs hf hD hA hB m0;refine (callsIn_wide (n := 6)).1 ?_;refine callsIn_of_wp_marks Tryz.func101 rfl trivial ?_ rfl;simp only [Tryz.ntmps101, List.size_toArray, List.length_cons, List.length_nil, Nat.reduceAdd, Nat.reduceSub, Array.replicate_succ, Array.replicate_zero, List.push_toArray, List.append_toArray, List.nil_append, List.cons_append];have hwf : ∀ f, Fence.wide.fn f := fun _ => trivial;have hwd : Fence.wide.depth = none := rfl
 gi_wp2_with fail
 clear hw6 p0 f0
 refine zDd rfl qE (gf := 102) (lb := #[.pointer (some ⟨Bd, 0, none⟩), .pointer (some ⟨Ba, 0, none⟩), .pointer (some ⟨Bb, 0, none⟩)]) rfl trivial (enters_of Tryz.func102 qC rfl)
  (encs := fun c : Cel => #[celV c]) (n₀ := w.heap.size) (base := w6.heap.size) (Bs := w.heap.size) (S := fun ys => ys = cellsD d a b) (Sp := fun pre => pre <+: cellsD d a b) (N := 200000) (w0 := w6) ?seq qE qE (zE _ _) (fun _ => rfl)
  (CI w w6.heap.size) (fun _ _ _ => False) (zMW qE) (fun _ _ _ _ _ hs _ _ => hs) hCI (fun _ _ ⟨_, _, _, _, _, h⟩ => h)
  (fun x => #[.int .i32 x.r, .int .i64 x.bits, .string ⟨x.href.toArray⟩]) 43 ?act ?assign ?body ?done ?stop
 case seq =>
  intro l J Jx W hW hJ _ hY h0;have hb0 := hb6.trans (hW.mono hb6.size)
  exact zDp 5 l Bd Ba Bb w6.heap.size w.heap.size v d a b S J Jx w W HV.out HE.out HS.out HF.out hb0 hW.size (jG hb0 HBX.out.1) (jG hb0 HBX.out.2.1) (jG hb0 HBX.out.2.2) (by have := hW.size; omega)
   (by unfold yL; rw [jS (jG hW HM.out)]; rfl) hJ hY h0
 case assign =>
  intro l pre x W K Bx hBx hI hK;unfold celV
  gi_wp2
  rw [← hBx];exact hK
 case body =>
  intro l pre x Bx W hI hBx hbx hlt;obtain ⟨v0, t0, hR, hne, hb, hz⟩ := hI;obtain ⟨s0, s0f⟩ := blk t0;obtain ⟨sx, sxf⟩ := blk hbx;have HA := zA (zB t0 hbx);have hb7 : ∀ ob, Below W.heap.size W (W.alloc ob) := fun ob => (zE _ _).alloc (zC _) _;have HB7 := zA hb7;have HR7 : Hid (∀ ob, jE true (W.alloc ob) (fun b => w6.heap.size ≤ b) v0 pre) := zA fun ob => SliceR.below (qB _) hR (hb7 ob);have HZ7 : Hid (∀ ob, w6.heap.size ≤ (W.alloc ob).heap.size) := zA fun ob => zD hz (hb7 ob).size;have HM7 : Hid (∀ ob, (W.alloc ob).heap[w.heap.size]? = some (.cells #[v0] 44)) := zA fun ob => jG (hb7 ob) t0;have HNE := zA hne;have HOB : Hid (v0.ownBlock ≠ some w.heap.size) := zA (zKN hR hne qE);have HIN := zA (zB hb hz);have hl7 : pre.length + 1 ≤ 100000000 := by omega
  have HN7 : Hid (∀ ob, NewsR 3 (rdOf kV) (W.alloc ob) (fun b => w6.heap.size ≤ b) [.int .i32 x.r, .int .i64 x.bits, .string ⟨x.href.toArray⟩] [x]) := zA fun ob => NewsR.one rfl rfl;have hw2Z : w.heap.size < w6.heap.size := by omega
  obtain ⟨va0, na0, ca0, hva0⟩ := zAW hR;subst hva0;clear hR hne hb hz hb7 t0 hbx
  gi_wp2_with (gi_at_builtin; go_must (refine zEn _ rfl _ _ 44 44 rfl vQ vS w6.heap.size (.slice va0 na0 ca0) _ (xs := pre) (ys := [x]) (news := [.int .i32 x.r, .int .i64 x.bits, .string ⟨x.href.toArray⟩]) rfl rfl (HR7.out _) (HZ7.out _) (zAH vQ W _ rfl (zLK _) 1 rfl) (HN7.out _) hl7 ?_); intro v' w8 hR8 hB8 hG8 hO8; obtain ⟨a8, n8, c8, hv8⟩ := zAW hR8; subst hv8; have HR8 := zA hR8; have HB8 := zA hB8; have HG8 := zA hG8; have HO8 := zA hO8; have m8 := (hB8.block _ hw2Z).trans (HM7.out _); obtain ⟨r8, s8⟩ := blk m8; clear hR8 hB8 hG8 hO8)
  have hb7 := HB7.out (.cells #[.int .i32 x.r, .int .i64 x.bits, .string ⟨x.href.toArray⟩] 43);have hwW := HIN.out.1.size;have hz8 := HB8.out.size;have hz7 := HZ7.out (.cells #[.int .i32 x.r, .int .i64 x.bits, .string ⟨x.href.toArray⟩] 43);have hWz := HIN.out.2;refine ⟨((uG hb7).from _).trans (((zET (HR7.out _) HNE.out HG8.out).from _).trans ((KeepsOthers.setCell _ _ _).from _)), (Kd.of_below hwW qE hb7).t (Kd.append (HM7.out _) HOB.out HG8.out (HB8.out.mono qE) HO8.out (zC _) hw2Z), _, ?_, qG (qB _) HR8.out ((Keeps.refl _ _).set (fun hh => by have hh : w6.heap.size ≤ w.heap.size := hh; omega) _) (fun _ h _ => h), .inr qT, ?_, ?_⟩
  ·rw [jN, if_pos rfl, m8]; rfl
  ·exact ((jH HIN.out.1 hb7).trans (HB8.out.mono qE)).setCell (zC _) _
  ·simp only [World.size_setCell]; omega
 case done =>
  rintro D ys W hD hys ⟨v9, t0, hR, hne, hb, hz⟩ hK;obtain ⟨s0, s0f⟩ := blk t0;subst hys;obtain ⟨va9, n9, c9, rfl⟩ := zAW hR;have HR9 := zA hR;have HB9 := zA hb;have HK9 := zA hK;clear hR hb hK hne
  gi_wp2_with fail
  refine ⟨by simp, .inl ⟨_, _, rfl, run_takeDeferred HK9.out, ?_⟩⟩;refine ⟨.slice va9 n9 c9, by simp [results, Tryz.results101, go_sem], ?_⟩;exact ⟨_, rfl, qG (qB _) ((zGC (β := Unit) D _ _ (fun _ => cellsD d a b)).putObj (s := ()) _ HR9.out (zC _) HK9.out rfl) (Keeps.refl _ _) (fun b h _ => zD hb6.size h), HB9.out.trans (belowK_b (w := w) (zC _) W D _ _ qE HK9.out rfl rfl)⟩
 case stop =>
  rintro D c pre W _ _ h _;exact h.elim
theorem zJC (Bd Ba Bb : Nat) (v : Value) (d : Doc) (a b : Ps) (w : World) (S : Nat → Prop) (h : jC w S v d) (he : EnvT w) (hs : Small d) (hf : Fits d)
  (hD : w.heap[Bd]? = some (.cells #[v] 22)) (hA : w.heap[Ba]? = some (.cells #[.int .i64 a.line, .int .i64 a.col] 24)) (hB : w.heap[Bb]? = some (.cells #[.int .i64 b.line, .int .i64 b.col] 24)) :
  Calls zV 60 #[.func (.func 102) #[] #[.pointer (some ⟨Bd, 0, none⟩), .pointer (some ⟨Ba, 0, none⟩), .pointer (some ⟨Bb, 0, none⟩)]] w
   fun e w' => ∃ v', e = .returned v' ∧ jE true w' (fun b => w.heap.size ≤ b) v' (cellsD d a b) ∧ Below w.heap.size w w' := by
 have HC := zA (zIb Bd Ba Bb v d a b w S h he hs hf hD hA hB);clear h he hs hf hD hA hB
 generalize cellsD d a b = L at *
 go_enter Tryz.func60, Tryz.ntmps60;go_wp2_with (go_at_call 101; refine HC.out.mono ?_; rintro e w2 ⟨v2, rfl, hv2, hb2⟩; obtain ⟨a2, n2, c2, hve⟩ := zAW hv2; subst hve; have HV2 := zA hv2; clear hv2);go_ret;exact ⟨_, rfl, HV2.out, hb2⟩
end Go.Proofs.YtjgeadoncanheaaGreatDoor
namespace Go.Proofs.YtjgeadoncanheaaGreatDoor
open Go.RowKit
open Go.Proofs.Qw
open _root_.Go.Lib renaming hid → zA
open _root_.Go.RowKit.Below renaming setCell → zF, alloc → zG
open _root_.Go renaming bodyPost_ret → zM
open _root_.Go.Proofs.Tryz renaming prog → zV
set_option maxRecDepth 100000 in
theorem uM (v : Value) (s : St) (w : World) (S : Nat → Prop) (h : jC w S v s.lines) (he : EnvT w) (hs : Small s.lines) :
  Calls zV 27 #[stV v s] w fun e w' => e = .returned (.bool (mayS s)) ∧ Below w.heap.size w w' := by
 obtain ⟨W1, hW1, hB, hz, hA⟩ := xC w v s;have hs1 := hB.size;have HC1 := zA (zFL v s.lines W1 w S h (he.below hB) hB hs);have HC2 : Hid (∀ p : Ps, ∀ W, Below W1.heap.size W1 W → Calls zV 48 #[v, .agg #[.int .i64 p.line, .int .i64 p.col]] W fun e w' => e = .returned (.bool (isD s.lines p)) ∧ Below W.heap.size W w') := zA fun p W hW => zEa v s.lines p W w S h (hB.trans (hW.mono hs1));have HB : Hid (∀ W, Below W1.heap.size W1 W → W.heap[w.heap.size]? = some (.cells #[v, .int .i64 s.anc.line, .int .i64 s.anc.col, .int .i64 s.foc.line, .int .i64 s.foc.col, .int .i64 s.on, .int .i64 s.off] 26)) := zA fun W hW => jG hW hA;have HE : Hid (mayS s = (mayD s.lines && (isD s.lines s.anc && (isD s.lines s.foc && (bits .andNot .i64 s.on 15 == 0 && (bits .andNot .i64 s.off 15 == 0 && bits .and .i64 s.on s.off == 0)))))) := zA rfl;have H1 := zA hB;obtain ⟨p0, f0⟩ := blk hA;obtain ⟨va, vc, rfl⟩ := h.slice;clear h he hs hz hA hB
 generalize mayS s = r at *
 generalize mayD s.lines = x at *
 go_enter Tryz.func27, Tryz.ntmps27
 go_wp2_with (first
  | (go_at_call 47; refine HC1.out.mono ?_; rintro e w2 ⟨rfl, hb2⟩; obtain ⟨p3, f3⟩ := blk (HB.out _ hb2); cases x)
  | (go_at_call 48; refine (HC2.out _ _ qW).mono ?_; rintro e w3 ⟨rfl, hb3⟩; have hx3 : Below W1.heap.size W1 w3 := jH qW hb3; clear hb3; obtain ⟨p5, f5⟩ := blk (HB.out _ hx3)))
 all_goals
  go_ret;refine ⟨?_, H1.out.trans (Below.mono qW hs1)⟩;rw [HE.out];refine congrArg Ending.returned (congrArg Value.bool ?_);clear HE HC1 HC2 HB H1;simp (config := { failIfUnchanged := false }) [*]
set_option maxRecDepth 100000 in
theorem zAk (v : Value) (s : St) (w : World) :
  Calls zV 49 #[stV v s] w fun e w' => e = .returned (.tuple #[.agg #[.int .i64 (qV s).1.line, .int .i64 (qV s).1.col], .agg #[.int .i64 (qV s).2.line, .int .i64 (qV s).2.col]]) ∧ Below w.heap.size w w' := by
 obtain ⟨W1, hW1, hB, hz, k0, k1, k2⟩ := zBF w v s;have hs1 := hB.size;have HC : Hid (Calls zV 92 #[.agg #[.int .i64 s.anc.line, .int .i64 s.anc.col], .agg #[.int .i64 s.foc.line, .int .i64 s.foc.col]] W1 fun e w' => e = .returned (.int .i64 (cmpP s.anc s.foc)) ∧ Below W1.heap.size W1 w') := zA (zGS s.anc s.foc W1);have HR : Hid (qV s = if 0 < cmpP s.anc s.foc then (s.foc, s.anc) else (s.anc, s.foc)) := zA (by unfold qV; first | rfl | simp only [zDX]);have HB : Hid (∀ W, Below W1.heap.size W1 W → W.heap[w.heap.size]? = some (.cells #[v, .int .i64 s.anc.line, .int .i64 s.anc.col, .int .i64 s.foc.line, .int .i64 s.foc.col, .int .i64 s.on, .int .i64 s.off] 26) ∧ W.heap[w.heap.size + 1]? = some (.cells #[.int .i64 0, .int .i64 0] 24) ∧ W.heap[w.heap.size + 2]? = some (.cells #[.int .i64 0, .int .i64 0] 24)) := zA fun W hW => ⟨jG hW k0, jG hW k1, jG hW k2⟩;have H1 := zA hB;obtain ⟨p0, f0⟩ := blk k0;clear k0 k1 k2 hB
 generalize cmpP s.anc s.foc = r at *
 by_cases hr : 0 < r
 ·rw [if_pos hr] at HR
  have hr' := decide_eq_true hr;have HR' := zA HR.out;clear HR;go_enter Tryz.func49, Tryz.ntmps49;go_wp2_with (go_at_call 92; refine HC.out.mono ?_; rintro e w2 ⟨rfl, hb2⟩; obtain ⟨q0, g0⟩ := blk (HB.out _ hb2).1; obtain ⟨q1, g1⟩ := blk (HB.out _ hb2).2.1; obtain ⟨q2, g2⟩ := blk (HB.out _ hb2).2.2);go_region;go_wp2_with fail;refine zM (uU rfl _ _ (w.heap.size + 1) (w.heap.size + 2) (.int .i64 s.foc.line) (.int .i64 s.foc.col) (.int .i64 s.anc.line) (.int .i64 s.anc.col) rfl rfl zCN zCM) rfl ?_;rw [HR'.out];have hfin := H1.out.trans (hb2.mono hs1);exact ⟨rfl, by ((with_reducible repeat' first | exact Below.refl _ _ | assumption | refine zG ?_ ?_ _ | refine Below.drew ?_ | refine jK ?_ | refine zF ?_ ?_ _) <;> go_size)⟩
 ·rw [if_neg hr] at HR
  have hr' := decide_eq_false hr;have HR' := zA HR.out;clear HR;go_enter Tryz.func49, Tryz.ntmps49;go_wp2_with (go_at_call 92; refine HC.out.mono ?_; rintro e w2 ⟨rfl, hb2⟩; obtain ⟨q0, g0⟩ := blk (HB.out _ hb2).1; obtain ⟨q1, g1⟩ := blk (HB.out _ hb2).2.1; obtain ⟨q2, g2⟩ := blk (HB.out _ hb2).2.2);go_region;go_wp2_with fail;refine zM (uU rfl _ _ (w.heap.size + 1) (w.heap.size + 2) (.int .i64 s.anc.line) (.int .i64 s.anc.col) (.int .i64 s.foc.line) (.int .i64 s.foc.col) rfl rfl zCN zCM) rfl ?_;rw [HR'.out];have hfin := H1.out.trans (hb2.mono hs1);exact ⟨rfl, by ((with_reducible repeat' first | exact Below.refl _ _ | assumption | refine zG ?_ ?_ _ | refine Below.drew ?_ | refine jK ?_ | refine zF ?_ ?_ _) <;> go_size)⟩
set_option maxRecDepth 100000 in
theorem zBU (v : Value) (s : St) (w : World) :
  Calls zV 45 #[stV v s] w fun e w' => e = .returned (.tuple #[.agg #[.int .i64 (qV s).1.line, .int .i64 (qV s).1.col], .agg #[.int .i64 (qV s).2.line, .int .i64 (qV s).2.col]]) ∧ Below w.heap.size w w' := by
 obtain ⟨W1, hW1, hB, hz, k0, k1, k2⟩ := zBF w v s;have hs1 := hB.size;have HC : Hid (Calls zV 86 #[.agg #[.int .i64 s.foc.line, .int .i64 s.foc.col], .agg #[.int .i64 s.anc.line, .int .i64 s.anc.col]] W1 fun e w' => e = .returned (.int .i64 (cmpP s.foc s.anc)) ∧ Below W1.heap.size W1 w') := zA (zFy s.foc s.anc W1);have HR : Hid (qV s = if cmpP s.foc s.anc < 0 then (s.foc, s.anc) else (s.anc, s.foc)) := zA (by unfold qV; first | rfl | simp only [zDX]);have HB : Hid (∀ W, Below W1.heap.size W1 W → W.heap[w.heap.size]? = some (.cells #[v, .int .i64 s.anc.line, .int .i64 s.anc.col, .int .i64 s.foc.line, .int .i64 s.foc.col, .int .i64 s.on, .int .i64 s.off] 26) ∧ W.heap[w.heap.size + 1]? = some (.cells #[.int .i64 0, .int .i64 0] 24) ∧ W.heap[w.heap.size + 2]? = some (.cells #[.int .i64 0, .int .i64 0] 24)) := zA fun W hW => ⟨jG hW k0, jG hW k1, jG hW k2⟩;have H1 := zA hB;obtain ⟨p0, f0⟩ := blk k0;clear k0 k1 k2 hB
 generalize cmpP s.foc s.anc = r at *
 by_cases hr : r < 0
 ·rw [if_pos hr] at HR
  have hr' := decide_eq_true hr;have HR' := zA HR.out;clear HR;go_enter Tryz.func45, Tryz.ntmps45;go_wp2_with (go_at_call 86; refine HC.out.mono ?_; rintro e w2 ⟨rfl, hb2⟩; obtain ⟨q0, g0⟩ := blk (HB.out _ hb2).1; obtain ⟨q1, g1⟩ := blk (HB.out _ hb2).2.1; obtain ⟨q2, g2⟩ := blk (HB.out _ hb2).2.2);go_region;go_wp2_with fail;refine zM (uU rfl _ _ (w.heap.size + 1) (w.heap.size + 2) (.int .i64 s.foc.line) (.int .i64 s.foc.col) (.int .i64 s.anc.line) (.int .i64 s.anc.col) rfl rfl zCN zCM) rfl ?_;rw [HR'.out];have hfin := H1.out.trans (hb2.mono hs1);exact ⟨rfl, by ((with_reducible repeat' first | exact Below.refl _ _ | assumption | refine zG ?_ ?_ _ | refine Below.drew ?_ | refine jK ?_ | refine zF ?_ ?_ _) <;> go_size)⟩
 ·rw [if_neg hr] at HR
  have hr' := decide_eq_false hr;have HR' := zA HR.out;clear HR;go_enter Tryz.func45, Tryz.ntmps45;go_wp2_with (go_at_call 86; refine HC.out.mono ?_; rintro e w2 ⟨rfl, hb2⟩; obtain ⟨q0, g0⟩ := blk (HB.out _ hb2).1; obtain ⟨q1, g1⟩ := blk (HB.out _ hb2).2.1; obtain ⟨q2, g2⟩ := blk (HB.out _ hb2).2.2);go_region;go_wp2_with fail;refine zM (uU rfl _ _ (w.heap.size + 1) (w.heap.size + 2) (.int .i64 s.anc.line) (.int .i64 s.anc.col) (.int .i64 s.foc.line) (.int .i64 s.foc.col) rfl rfl zCN zCM) rfl ?_;rw [HR'.out];have hfin := H1.out.trans (hb2.mono hs1);exact ⟨rfl, by ((with_reducible repeat' first | exact Below.refl _ _ | assumption | refine zG ?_ ?_ _ | refine Below.drew ?_ | refine jK ?_ | refine zF ?_ ?_ _) <;> go_size)⟩
end Go.Proofs.YtjgeadoncanheaaGreatDoor
namespace Go.Proofs.Qw
open Go.RowKit Go.Proofs.YtjgeadoncanheaaGreatDoor
section
variable {P : Program} {ops : Array Oper} {C : World → Prop} {K : Act → Prop} {a : Act} {o : Oper}
abbrev Grew (n : Nat) (w : World) : World → Prop := fun W => Below n w W
theorem kZ {id : Nat} {Q : Exit → Act → World → Prop} {a : Act} {w : World} {l : List Oper} (n : Nat) (hm : P.follows .mixedOrders = true) (hB : Region.lexB .any l.toArray = true)
  (h : wpQuiet P l.toArray (Grew n w) (fun a' => ∀ w', Below n w w' → Q .normal a' w') l a) : (Code.region id l.toArray true).wp P Q a w :=
 wp_region_quiet (C := Grew n w) hm hB ((Below.refl n w).drew) (by simpa using h)
theorem xB (v : Value) (h : ∀ W, C W → (execOp a.eval o).run P W = .ok (.value v) W) (hk : K (a.put o.dst v)) : o.quiet P a C K :=
 ⟨v, fun W hW => by unfold Oper.quietAt; rw [h W hW]; exact ⟨rfl, rfl⟩, hk⟩
theorem yX (v : Value) {f : FuncId} {args : Array Value} (h : ∀ W, C W → (execOp a.eval o).run P W = .ok (.enter f args) W) (hc : ∀ W, C W → Calls P f args W fun e W' => e = .returned v ∧ C W') (hk : K (a.put o.dst v)) : o.quiet P a C K :=
 ⟨v, fun W hW => by unfold Oper.quietAt; rw [h W hW]; exact ⟨rfl, hc W hW⟩, hk⟩
end
end Go.Proofs.Qw
namespace Go.Proofs.YtjgeadoncanheaaGreatDoor
open Go.RowKit
open Go.Proofs.Qw
open _root_.Go.Lib renaming hid → zA
open _root_.Go.RowKit.Below renaming refl → zE
open _root_.Go.BigFrame renaming wpQuiet_want → zI
open _root_.Go renaming bodyPost_ret → zM
open _root_.Go.Act renaming put → zU
open _root_.Go.Proofs.Tryz renaming prog → zV
open _root_.Go.Proofs.YtjgeadoncanheaaGreatDoor renaming jH → zW, jG → zX
theorem zBt (p q : Ps) (w : World) : (binOp .neq 24 (.agg #[.int .i64 p.line, .int .i64 p.col]) (.agg #[.int .i64 q.line, .int .i64 q.col])).run zV w = .ok (.bool (!decide (p = q))) w := by
 have h1 : Tryz.prog.stoodInHeld 24 = false := by kernel_rfl
 have h2 : Tryz.prog.underlying 24 = some (.struct (Tryz.prog.fieldsOf 24)) := by kernel_rfl
 rw [run_neq_struct, show (10000:Nat) = 9999 + 1 from rfl, run_equalIn_agg _ _ _ _ _ h2 h1];simp [Tryz.underlying24, go_sem];obtain ⟨a, b⟩ := p;obtain ⟨d, e⟩ := q;simp only [Ps.mk.injEq]
 by_cases e1 : a = d <;> by_cases e2 : b = e <;> simp [e1, e2]
set_option maxRecDepth 100000 in
theorem zCb (v : Value) (s : St) (w : World) :
  Calls zV 50 #[stV v s] w fun e w' => e = .returned (.bool (!decide (s.anc = s.foc))) ∧ Below w.heap.size w w' := by
 obtain ⟨W1, hW1, hB, hz, k0⟩ := xC w v s;have HB : Hid (∀ W, Below W1.heap.size W1 W → W.heap[w.heap.size]? = some (.cells #[v, .int .i64 s.anc.line, .int .i64 s.anc.col, .int .i64 s.foc.line, .int .i64 s.foc.col, .int .i64 s.on, .int .i64 s.off] 26)) := zA fun W hW => zX hW k0;have hs1 := hB.size;have H1 := zA hB;have hw0 : Below W1.heap.size W1 W1 := zE _ _;have hg := uZ;have hq := fun (w : World) => zBt s.anc s.foc w;obtain ⟨p0, f0⟩ := blk k0
 generalize decide (s.anc = s.foc) = r at *
 clear k0 hB;go_enter Tryz.func50, Tryz.ntmps50;go_wp2_with fail;go_ret;exact ⟨rfl, H1.out⟩
theorem zCt {d : Doc} {p : Ps} (h : isD d p = true) : ∃ (i k : Nat) (l : Lin), p.line = i ∧ p.col = k ∧ d[i]? = some l ∧ (d.getD p.line.toNat default).cells = l.cells ∧ p.col.toNat = k ∧ k ≤ l.cells.length := by
 obtain ⟨a, b⟩ := p;simp only [isD, Bool.and_eq_true, decide_eq_true_eq] at h;obtain ⟨⟨⟨h1, h2⟩, h3⟩, h4⟩ := h;obtain ⟨i, rfl⟩ := Int.eq_ofNat_of_zero_le h1;obtain ⟨k, rfl⟩ := Int.eq_ofNat_of_zero_le h3;obtain ⟨l, hl, _⟩ := jJ d i qE;have hg : d.getD i default = l := by rw [List.getD, hl]; rfl
 rw [Int.toNat_natCast] at h4 ⊢;rw [hg] at h4 ⊢;exact ⟨i, k, l, rfl, rfl, hl, rfl, Int.toNat_natCast _, by omega⟩
set_option maxRecDepth 100000 in
theorem zKH (v : Value) (s : St) (w : World) (S : Nat → Prop) (h : jC w S v s.lines) (hf : Fits s.lines) (hc : s.anc = s.foc) (hm : isD s.lines s.anc = true) :
  Calls zV 100 #[stV v s] w fun e w' => e = .returned (.tuple #[.agg #[.int .i64 s.anc.line, .int .i64 (kQ (xL s) s.anc.col.toNat).1], .agg #[.int .i64 s.anc.line, .int .i64 (kQ (xL s) s.anc.col.toNat).2]]) ∧ Below w.heap.size w w' := by
 obtain ⟨W1, hW1, hB, hz, k0, k1, k2⟩ := zBF w v s;have HB : Hid (∀ W, Below W1.heap.size W1 W → W.heap[w.heap.size]? = some (.cells #[v, .int .i64 s.anc.line, .int .i64 s.anc.col, .int .i64 s.foc.line, .int .i64 s.foc.col, .int .i64 s.on, .int .i64 s.off] 26) ∧ W.heap[w.heap.size + 1]? = some (.cells #[.int .i64 0, .int .i64 0] 24) ∧ W.heap[w.heap.size + 2]? = some (.cells #[.int .i64 0, .int .i64 0] 24)) := zA fun W hW => ⟨zX hW k0, zX hW k1, zX hW k2⟩;have hs1 := hB.size;have H1 := zA hB;have hw0 : Below W1.heap.size W1 W1 := zE _ _;have HV : Hid (∀ W, Below W1.heap.size W1 W → jC W S v s.lines) := zA fun W hW => h.below (jY _) (hB.trans (hW.mono hs1))
 have HS : Hid (∀ W, Below W1.heap.size W1 W → Calls zV 49 #[stV v s] W fun e w' => e = .returned (.tuple #[.agg #[.int .i64 s.anc.line, .int .i64 s.anc.col], .agg #[.int .i64 s.anc.line, .int .i64 s.anc.col]]) ∧ Below W.heap.size W w') := zA fun W _ => by
  have := zAk v s W;rw [zDn hc] at this;exact this
 obtain ⟨i, n, l, hi, hn, hl, hcl, hnn, hnl⟩ := zCt hm;have hc1 : (kQ (xL s) s.anc.col.toNat) = kQ l.cells n := by unfold xL; rw [hcl, hnn]
 obtain ⟨x, y, hxy⟩ : ∃ x y, kQ l.cells n = (x, y) := ⟨_, _, rfl⟩;rw [hc1, hxy];have HXY := zA hxy;have hfl := (hf.2 l (List.mem_of_getElem? hl)).2;have hil := (List.getElem?_eq_some_iff.1 hl).1;obtain ⟨va, vc, rfl, hvc, hvm, hx⟩ := kJ h;obtain ⟨b, o, la, lc, ca, cc, rfl, hAt⟩ := hx i l hl;have HAT : Hid (∀ W, Below W1.heap.size W1 W → LinAt W S b (o + i * 4) l la lc ca cc) := zA fun W hW => hAt.below (hB.trans (hW.mono hs1));unfold maxLen at hvm;have i0 : (0 : Int) ≤ (i : Int) := Int.natCast_nonneg _;have i1 : (i : Int) < (s.lines.length : Int) := by omega
 obtain ⟨p0, f0⟩ := blk k0;obtain ⟨lines, anc, foc, on, off⟩ := s;obtain ⟨al, ac⟩ := anc;simp only at hi hn hc;subst hi hn hc;clear h hf hm hcl hnn hc1 hxy hl hx hAt k0 k1 k2 hB;go_enter Tryz.func100, Tryz.ntmps100;go_wp2_with (go_at_call 49; refine (HS.out _ hw0).mono ?_; rintro e w2 ⟨rfl, hb2⟩; obtain ⟨q0, g0⟩ := blk (HB.out _ hb2).1);obtain ⟨w3, hw3⟩ : ∃ w3, (w2.alloc (.cells #[.int .i64 i, .int .i64 n] 24)).alloc (.cells #[.int .i64 i, .int .i64 n] 24) = w3 := ⟨_, rfl⟩;rw [hw3];have hb23 : Below w2.heap.size w2 w3 := hw3 ▸ ((zE _ _).alloc (Nat.le_refl _) _).alloc qT _;have n3 : w3.heap[w2.heap.size]? = some (.cells #[.int .i64 i, .int .i64 n] 24) := hw3 ▸ jI _ _ (jF _ _ rfl);have hb3 := zW hb2 hb23;have HB3 : Hid (∀ W, Below w3.heap.size w3 W → W.heap[w2.heap.size]? = some (.cells #[.int .i64 i, .int .i64 n] 24)) := zA fun W hW => zX hW n3
 have HWi : Hid (∀ W, Below w3.heap.size w3 W → Calls zV 157 #[.slice ca l.cells.length cc, .int .i64 n] W fun e w' => e = .returned (.tuple #[.int .i64 x, .int .i64 y]) ∧ Below W.heap.size W w') := zA fun W hW => by
  have := zJI _ l.cells n W S (HAT.out W (zW hb3 hW)).cellsR hnl hfl;rw [HXY.out] at this;exact this
 clear n3 q0 g0 p0 f0 hw3;refine kZ w3.heap.size qC qC ?_;refine zI qC (fun K hK => ?_);refine xB ?_ (fun W hW => ?_) (hK _ ?_);rotate_left 1
 ·skip
  go_simp
  try rfl
 clear hK;clear K;try simp only [zU, qI, qX, qY]
 refine zI qC (fun K hK => ?_);refine xB ?_ (fun W hW => ?_) (hK _ ?_);rotate_left 1
 ·skip
  obtain ⟨p0, f0⟩ := blk (HB.out _ (zW hb3 hW)).1;obtain ⟨p3, f3⟩ := blk (HB3.out _ hW);obtain ⟨_, _, _, _, c3, _, _⟩ := HAT.out _ (zW hb3 hW);go_simp
  try rfl
 clear hK;clear K;try simp only [zU, qI, qX, qY]
 refine zI qC (fun K hK => ?_);refine xB ?_ (fun W hW => ?_) (hK _ ?_);rotate_left 1
 ·skip
  go_simp
  try rfl
 clear hK;clear K;try simp only [zU, qI, qX, qY]
 refine zI qC (fun K hK => ?_);refine xB ?_ (fun W hW => ?_) (hK _ ?_);rotate_left 1
 ·skip
  obtain ⟨p0, f0⟩ := blk (HB.out _ (zW hb3 hW)).1;obtain ⟨p3, f3⟩ := blk (HB3.out _ hW);obtain ⟨_, _, _, _, c3, _, _⟩ := HAT.out _ (zW hb3 hW);go_simp
  try rfl
 clear hK;clear K;try simp only [zU, qI, qX, qY]
 refine zI qC (fun K hK => ?_);refine xB ?_ (fun W hW => ?_) (hK _ ?_);rotate_left 1
 ·skip
  go_simp
  try rfl
 clear hK;clear K;try simp only [zU, qI, qX, qY]
 refine zI qC (fun K hK => ?_);refine xB ?_ (fun W hW => ?_) (hK _ ?_);rotate_left 1
 ·skip
  go_simp
  try rfl
 clear hK;clear K;try simp only [zU, qI, qX, qY]
 refine zI qC (fun K hK => ?_);refine xB ?_ (fun W hW => ?_) (hK _ ?_);rotate_left 1
 ·skip
  obtain ⟨p0, f0⟩ := blk (HB.out _ (zW hb3 hW)).1;obtain ⟨p3, f3⟩ := blk (HB3.out _ hW);obtain ⟨_, _, _, _, c3, _, _⟩ := HAT.out _ (zW hb3 hW);go_simp
  try rfl
 clear hK;clear K;try simp only [zU, qI, qX, qY]
 refine zI qC (fun K hK => ?_);refine xB ?_ (fun W hW => ?_) (hK _ ?_);rotate_left 1
 ·skip
  go_simp
  try rfl
 clear hK;clear K;try simp only [zU, qI, qX, qY]
 refine zI qC (fun K hK => ?_);refine xB ?_ (fun W hW => ?_) (hK _ ?_);rotate_left 1
 ·skip
  obtain ⟨p0, f0⟩ := blk (HB.out _ (zW hb3 hW)).1;obtain ⟨p3, f3⟩ := blk (HB3.out _ hW);obtain ⟨_, _, _, _, c3, _, _⟩ := HAT.out _ (zW hb3 hW);go_simp
  try rfl
 clear hK;clear K;try simp only [zU, qI, qX, qY]
 refine zI qC (fun K hK => ?_);refine yX (f := ?_) (args := ?_) ?_ (fun W hW => ?_) (fun W hW => ?_) (hK _ ?_);rotate_left 3
 ·go_simp
  constructor <;> rfl
 ·refine (HWi.out _ hW).mono ?_
  rintro e W2 ⟨rfl, hbW⟩;refine ⟨?_, zW hW hbW⟩
  rfl
 clear hK;clear K;try simp only [zU, qI, qX, qY]
 refine zI qC (fun K hK => ?_);refine xB ?_ (fun W hW => ?_) (hK _ ?_);rotate_left 1
 ·skip
  go_simp
  try rfl
 clear hK;clear K;try simp only [zU, qI, qX, qY]
 refine zI qC (fun K hK => ?_);refine xB ?_ (fun W hW => ?_) (hK _ ?_);rotate_left 1
 ·skip
  go_simp
  try rfl
 clear hK;clear K;try simp only [zU, qI, qX, qY]
 refine zI qC (fun K hK => ?_);refine xB ?_ (fun W hW => ?_) (hK _ ?_);rotate_left 1
 ·skip
  go_simp
  try rfl
 clear hK;clear K;try simp only [zU, qI, qX, qY]
 refine zI qC (fun K hK => ?_);refine xB ?_ (fun W hW => ?_) (hK _ ?_);rotate_left 1
 ·skip
  go_simp
  try rfl
 clear hK;clear K;try simp only [zU, qI, qX, qY]
 refine zI qC (fun K hK => ?_);refine xB ?_ (fun W hW => ?_) (hK _ ?_);rotate_left 1
 ·skip
  go_simp
  try rfl
 clear hK;clear K;try simp only [zU, qI, qX, qY]
 refine wpQuiet_nil (fun X6 hstX6 => ?_);have hcX6 := zW hb3 hstX6;obtain ⟨p3, f3⟩ := blk (HB3.out _ hstX6);obtain ⟨p1, f1⟩ := blk (HB.out _ hcX6).2.1;obtain ⟨p2, f2⟩ := blk (HB.out _ hcX6).2.2;go_wp2_with fail;have hs2 := hb2.size;have e1 : ¬ w.heap.size + 1 = w2.heap.size := by omega
 have e2 : ¬ w2.heap.size = w.heap.size + 1 := by omega
 have e3 : ¬ w.heap.size + 1 + 1 = w2.heap.size := by omega
 have e4 : ¬ w2.heap.size = w.heap.size + 1 + 1 := by omega
 go_region;go_wp2_with fail;refine zM (uU rfl _ _ (w.heap.size + 1) (w.heap.size + 2) (.int .i64 i) (.int .i64 x) (.int .i64 i) (.int .i64 y) rfl rfl (by change (World.setCell _ _ _).heap[_]? = _; simp [jN, jB, (HB.out _ hcX6).2.1]) (by change (World.setCell _ _ _).heap[_]? = _; simp [jN, jB, (HB.out _ hcX6).2.2])) rfl ?_;have hfin := H1.out.trans (hcX6.mono hs1);exact ⟨rfl, by ((with_reducible repeat' first | exact zE _ _ | assumption | refine Below.alloc ?_ ?_ _ | refine Below.drew ?_ | refine jK ?_ | refine Below.setCell ?_ ?_ _) <;> go_size)⟩
set_option maxRecDepth 100000 in
theorem zEV (v : Value) (s : St) (w : World) (S : Nat → Prop) (h : jC w S v s.lines) (hf : Fits s.lines) (hm : isD s.lines s.anc = true) :
  Calls zV 59 #[stV v s] w fun e w' => e = .returned (.tuple #[.agg #[.int .i64 (jZ s).1.line, .int .i64 (jZ s).1.col], .agg #[.int .i64 (jZ s).2.line, .int .i64 (jZ s).2.col]]) ∧ Below w.heap.size w w' := by
 obtain ⟨W1, hW1, hB, hz, k0, k1, k2⟩ := zBF w v s;have HB : Hid (∀ W, Below W1.heap.size W1 W → W.heap[w.heap.size]? = some (.cells #[v, .int .i64 s.anc.line, .int .i64 s.anc.col, .int .i64 s.foc.line, .int .i64 s.foc.col, .int .i64 s.on, .int .i64 s.off] 26) ∧ W.heap[w.heap.size + 1]? = some (.cells #[.int .i64 0, .int .i64 0] 24) ∧ W.heap[w.heap.size + 2]? = some (.cells #[.int .i64 0, .int .i64 0] 24)) := zA fun W hW => ⟨zX hW k0, zX hW k1, zX hW k2⟩;have hs1 := hB.size;have H1 := zA hB;have hw0 : Below W1.heap.size W1 W1 := zE _ _;have HV : Hid (∀ W, Below W1.heap.size W1 W → jC W S v s.lines) := zA fun W hW => h.below (jY _) (hB.trans (hW.mono hs1));have HO : Hid (∀ W, Below W1.heap.size W1 W → Calls zV 50 #[stV v s] W fun e w' => e = .returned (.bool (!decide (s.anc = s.foc))) ∧ Below W.heap.size W w') := zA fun W _ => zCb v s W;have HS : Hid (∀ W, Below W1.heap.size W1 W → Calls zV 49 #[stV v s] W fun e w' => e = .returned (.tuple #[.agg #[.int .i64 (qV s).1.line, .int .i64 (qV s).1.col], .agg #[.int .i64 (qV s).2.line, .int .i64 (qV s).2.col]]) ∧ Below W.heap.size W w') := zA fun W _ => zAk v s W;have HA : Hid (s.anc = s.foc → ∀ W, Below W1.heap.size W1 W → Calls zV 100 #[stV v s] W fun e w' => e = .returned (.tuple #[.agg #[.int .i64 s.anc.line, .int .i64 (kQ (xL s) s.anc.col.toNat).1], .agg #[.int .i64 s.anc.line, .int .i64 (kQ (xL s) s.anc.col.toNat).2]]) ∧ Below W.heap.size W w') := zA fun hc W hW => zKH v s W S (HV.out W hW) hf hc hm;have HR : Hid (jZ s = if s.anc = s.foc then (⟨s.anc.line, ((kQ (xL s) s.anc.col.toNat).1 : Int)⟩, ⟨s.anc.line, ((kQ (xL s) s.anc.col.toNat).2 : Int)⟩) else qV s) := zA rfl;obtain ⟨p0, f0⟩ := blk k0;obtain ⟨va, vc, rfl⟩ := h.slice;clear h hf hm HV k0 k1 k2 hB
 by_cases hc : s.anc = s.foc
 ·skip
  rw [if_pos hc] at HR;rw [decide_eq_true hc] at HO;have HA := zA (HA.out hc);obtain ⟨x, hx⟩ : ∃ x, (kQ (xL s) s.anc.col.toNat) = x := ⟨_, rfl⟩;rw [hx] at HR HA;clear hx HS;have HR := zA HR.out;clear hc;go_enter Tryz.func59, Tryz.ntmps59;go_wp2_with (first | (go_at_call 50; refine (HO.out _ hw0).mono ?_; rintro e w2 ⟨rfl, hb2⟩; obtain ⟨q0, g0⟩ := blk (HB.out _ hb2).1) | (go_at_call 100; refine (HA.out _ hb2).mono ?_; rintro e w3 ⟨rfl, hst3⟩; have hb3 := zW hb2 hst3; obtain ⟨q1, g1⟩ := blk (HB.out _ hb3).2.1; obtain ⟨q2, g2⟩ := blk (HB.out _ hb3).2.2));refine zM (uU rfl _ _ (w.heap.size + 1) (w.heap.size + 2) (.int .i64 s.anc.line) (.int .i64 x.1) (.int .i64 s.anc.line) (.int .i64 x.2) rfl rfl (by simp [jN, jB, (HB.out _ hb3).2.1]) (by simp [jN, jB, (HB.out _ hb3).2.2])) rfl ?_;rw [HR.out];have hfin := H1.out.trans (hb3.mono hs1);exact ⟨rfl, by ((with_reducible repeat' first | exact zE _ _ | assumption | refine Below.alloc ?_ ?_ _ | refine Below.drew ?_ | refine jK ?_ | refine Below.setCell ?_ ?_ _) <;> go_size)⟩
 ·skip
  rw [if_neg hc] at HR;rw [decide_eq_false hc] at HO;obtain ⟨x, hx⟩ : ∃ x, qV s = x := ⟨_, rfl⟩;rw [hx] at HR HS;clear hx HA;have HR := zA HR.out;clear hc;go_enter Tryz.func59, Tryz.ntmps59;go_wp2_with (first | (go_at_call 50; refine (HO.out _ hw0).mono ?_; rintro e w2 ⟨rfl, hb2⟩; obtain ⟨q0, g0⟩ := blk (HB.out _ hb2).1) | (go_at_call 49; refine (HS.out _ hb2).mono ?_; rintro e w3 ⟨rfl, hst3⟩; have hb3 := zW hb2 hst3; obtain ⟨q1, g1⟩ := blk (HB.out _ hb3).2.1; obtain ⟨q2, g2⟩ := blk (HB.out _ hb3).2.2));refine zM (uU rfl _ _ (w.heap.size + 1) (w.heap.size + 2) (.int .i64 x.1.line) (.int .i64 x.1.col) (.int .i64 x.2.line) (.int .i64 x.2.col) rfl rfl (by simp [jN, jB, (HB.out _ hb3).2.1]) (by simp [jN, jB, (HB.out _ hb3).2.2])) rfl ?_;rw [HR.out];have hfin := H1.out.trans (hb3.mono hs1);exact ⟨rfl, by ((with_reducible repeat' first | exact zE _ _ | assumption | refine Below.alloc ?_ ?_ _ | refine Below.drew ?_ | refine jK ?_ | refine Below.setCell ?_ ?_ _) <;> go_size)⟩
end Go.Proofs.YtjgeadoncanheaaGreatDoor
