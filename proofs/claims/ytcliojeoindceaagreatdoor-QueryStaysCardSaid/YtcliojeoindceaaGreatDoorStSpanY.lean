/- Parts of the proof. -/
import Derived.Test.YtcliojeoindceaaGreatDoorPartBaseY
import Derived.Test.YtcliojeoindceaaGreatDoorDocPartY
import Derived.Test.YtcliojeoindceaaGreatDoorDocSplitY
import Derived.Test.YtcliojeoindceaaGreatDoorLaidY
import Derived.Laws.BitsLemmas
set_option linter.unusedVariables false
set_option linter.unusedSimpArgs false
set_option maxHeartbeats 8000000
namespace Go.Proofs.YtcliojeoindceaaGreatDoor
open Go.RowKit
open Go.Proofs.Qw
open _root_.Go.Lib renaming hid → zA
open _root_.Go.RowKit.Below renaming refl → zE
open _root_.Go renaming bodyPost_ret → zM, wpAnyH_take → zP, wpAnyH_ready → zQ
open _root_.Go.AllReadyH renaming cons → zN, nil → zO
open _root_.Int renaming natCast_nonneg → zR
open _root_.Go.Act renaming put → zU
open _root_.Go.Proofs.Tryz renaming prog → zV
def kQ (more : List Cel) (d : Doc) (p : Ps) : Doc × Ps × Int :=
 if (jU d p p && kC more) = true then (if 4000 < jH d + more.length then ([], ⟨0, 0⟩, 10) else (d.set p.line.toNat { (d.getD p.line.toNat default) with cells := xK (d.getD p.line.toNat default).cells p.col.toNat more }, ⟨p.line, p.col + more.length⟩, 0)) else ([], ⟨0, 0⟩, 1)
set_option maxRecDepth 100000 in
theorem zIa (v lv : Value) (d : Doc) (more : List Cel) (p : Ps) (w : World) (S S2 : Nat → Prop) (h : jD w S v d) (hl : jE false w S2 lv more) (he : EnvT w) (hs : Small d) (hf : Fits d) (hml : more.length ≤ 1000000) (hmh : ∀ c ∈ more, c.href.length ≤ 1000000) :
  Calls zV 142 #[v, posV p, lv] w (DocPSaid (kQ more d p) w) := by
 obtain ⟨W1, hW1, hB, hz, k0, k1⟩ := vX w (.int .i64 p.line) (.int .i64 p.col) (.int .i64 0) (.int .i64 0);have HC1 := zA (zAE v d p p W1 S (h.below (jW _) hB) (he.below hB) hs);have HCM : Hid (∀ W, Below W1.heap.size W1 W → Calls zV 210 #[lv] W fun e w' => e = .returned (.bool (kC more)) ∧ Below W.heap.size W w') := zA fun W hW => zFc lv more W w S2 hl (he.below (hB.trans (hW.mono hB.size))) (hB.trans (hW.mono hB.size)) hmh;have HSZ : Hid (∀ W, Below W1.heap.size W1 W → Calls zV 128 #[v] W fun e w' => e = .returned (.int .i64 (jH d)) ∧ Below W.heap.size W w') := zA fun W hW => zDW v d W w S h (hB.trans (hW.mono hB.size)) hs.1;have HO : Hid (∀ W, Below W1.heap.size W1 W → Calls zV 69 #[v] W fun e w' => ∃ v', e = .returned v' ∧ DocR true w' (fun b => W.heap.size ≤ b) v' d ∧ Below W.heap.size W w') := zA fun W hW => zBL v d W w S h (hB.trans (hW.mono hB.size)) hf;have HB : Hid (∀ W, Below W1.heap.size W1 W → W.heap[w.heap.size]? = some (.cells #[.int .i64 p.line, .int .i64 p.col] 24) ∧ W.heap[w.heap.size + 1]? = some (.cells #[.int .i64 0, .int .i64 0] 24)) := zA fun W hW => ⟨jI hW k0, jI hW k1⟩;have HP : Hid (∀ p : Ps, posV p = .agg #[.int .i64 p.line, .int .i64 p.col]) := zA fun _ => rfl;have H1 := zA hB;have HL := zA h;have HLC := zA hl;have HF := zA hf;have hlen := hf.1;have hs1 := hB.size;have hsz5 := hs.1;obtain ⟨p1, f1⟩ := blk k0;obtain ⟨p2, f2⟩ := blk k1;obtain ⟨va, vc, rfl⟩ := h.slice;obtain ⟨lb, lc, rfl⟩ := hl.slice;clear h hl he hs hf k0 k1 hB;cases hsp : jU d p p
 ·have HR : Hid (kQ more d p = ([], ⟨0, 0⟩, 1)) := zA (by unfold kQ; rw [hsp]; rfl)
  rw [hsp] at HC1;clear hsp;rw [HP.out p] at HC1 ⊢;go_enter Tryz.func142, Tryz.ntmps142;go_wp2_with (go_at_call 227; refine HC1.out.mono ?_; rintro e w2 ⟨rfl, hb2⟩; have k1' := (HB.out _ hb2).2; obtain ⟨q2, g2⟩ := blk k1');refine zM (kT rfl _ _ (w.heap.size + 1) (.int .i64 0) (.int .i64 0) rfl zCf) rfl ?_;unfold DocPSaid;rw [HR.out];have hfin := H1.out.trans (hb2.mono hs1);exact ⟨_, rfl, SliceR.nil _ _ _ _ _ _, by ((with_reducible repeat' first | exact zE _ _ | assumption | refine Below.alloc ?_ ?_ _ | refine Below.drew ?_ | refine jQ ?_ | refine Below.setCell ?_ ?_ _) <;> go_size)⟩
 cases hmy : kC more
 ·have HR : Hid (kQ more d p = ([], ⟨0, 0⟩, 1)) := zA (by unfold kQ; rw [hsp, hmy]; rfl)
  rw [hsp] at HC1;rw [hmy] at HCM;clear hsp hmy;rw [HP.out p] at HC1 ⊢;go_enter Tryz.func142, Tryz.ntmps142;go_wp2_with (first | (go_at_call 227; refine HC1.out.mono ?_; rintro e w2 ⟨rfl, hb2⟩) | (go_at_call 210; refine (HCM.out _ hb2).mono ?_; rintro e w3 ⟨rfl, hb3⟩; have hx3 := jG hb2 hb3; have k1' := (HB.out _ hx3).2; obtain ⟨q2, g2⟩ := blk k1'));refine zM (kT rfl _ _ (w.heap.size + 1) (.int .i64 0) (.int .i64 0) rfl zCf) rfl ?_;unfold DocPSaid;rw [HR.out];have hfin := H1.out.trans (hx3.mono hs1);exact ⟨_, rfl, SliceR.nil _ _ _ _ _ _, by ((with_reducible repeat' first | exact zE _ _ | assumption | refine Below.alloc ?_ ?_ _ | refine Below.drew ?_ | refine jQ ?_ | refine Below.setCell ?_ ?_ _) <;> go_size)⟩
 obtain ⟨n, hn⟩ : ∃ n, jH d = n := ⟨_, rfl⟩;rw [hn] at HSZ hsz5
 by_cases h4 : 4000 < n + more.length
 ·have HR : Hid (kQ more d p = ([], ⟨0, 0⟩, 10)) := zA (by unfold kQ; rw [hsp, hmy, hn, show (true && true) = true from rfl, if_pos rfl, if_pos h4])
  have hq1 : (4000 : Int) < (n : Int) + (more.length : Int) := by omega
  have hq2 : decide ((4000 : Int) < (n : Int) + (more.length : Int)) = true := decide_eq_true hq1;rw [hsp] at HC1;rw [hmy] at HCM;clear hsp hmy h4 hn;rw [HP.out p] at HC1 ⊢;go_enter Tryz.func142, Tryz.ntmps142;go_wp2_with (first | (go_at_call 227; refine HC1.out.mono ?_; rintro e w2 ⟨rfl, hb2⟩) | (go_at_call 210; refine (HCM.out _ hb2).mono ?_; rintro e w3 ⟨rfl, hb3⟩; have hx3 := jG hb2 hb3) | (go_at_call 128; refine (HSZ.out _ hx3).mono ?_; rintro e w4 ⟨rfl, hb4⟩; have hx4 := jG hx3 hb4; have k1' := (HB.out _ hx4).2; obtain ⟨q2, g2⟩ := blk k1'));refine zM (kT rfl _ _ (w.heap.size + 1) (.int .i64 0) (.int .i64 0) rfl zCf) rfl ?_;unfold DocPSaid;rw [HR.out];have hfin := H1.out.trans (hx4.mono hs1);exact ⟨_, rfl, SliceR.nil _ _ _ _ _ _, by ((with_reducible repeat' first | exact zE _ _ | assumption | refine Below.alloc ?_ ?_ _ | refine Below.drew ?_ | refine jQ ?_ | refine Below.setCell ?_ ?_ _) <;> go_size)⟩
 obtain ⟨_, i, _, q, _, l, _, rfl, hpe, hl, _, hq, _, _, _⟩ := vF hsp;have hil := (List.getElem?_eq_some_iff.1 hl).1;have hfl := HF.out.2 l (List.mem_of_getElem? hl)
 have HR : Hid (kQ more d ⟨i, q⟩ = (d.set i { l with cells := xK l.cells q more }, ⟨i, (q : Int) + (more.length : Int)⟩, 0)) := zA (by
  unfold kQ;rw [hsp, hmy, hn, show (true && true) = true from rfl, if_pos rfl, if_neg h4];simp [List.getD, hl])
 have hq1 : (n : Int) + (more.length : Int) ≤ 4000 := by omega
 have hq2 : decide ((4000 : Int) < (n : Int) + (more.length : Int)) = false := decide_eq_false qD;rw [hsp] at HC1;rw [hmy] at HCM;rw [HP.out] at HC1 ⊢;obtain ⟨va', vc', hve, hvc, hvm, hx⟩ := xA HL.out;cases hve;obtain ⟨b1, o1, la, lc1, ca, cc, rfl, hAi⟩ := hx i l hl;have HAI := zA hAi;have HLL := zA hl;unfold maxLen at hvm;have i0 : (0 : Int) ≤ (i : Int) := zR _;have i1 : (i : Int) < (d.length : Int) := by omega
 have u0 : (0 : Int) ≤ (q : Int) := zR _;have u1 : (q : Int) ≤ 1000000 := by omega
 have u2 : (more.length : Int) ≤ 1000000 := by omega
 clear hx hAi hl hsp hmy h4 hn hpe;go_enter Tryz.func142, Tryz.ntmps142;go_wp2_with (first | (go_at_call 227; refine HC1.out.mono ?_; rintro e w2 ⟨rfl, hb2⟩) | (go_at_call 210; refine (HCM.out _ hb2).mono ?_; rintro e w3 ⟨rfl, hb3⟩; have hx3 := jG hb2 hb3) | (go_at_call 128; refine (HSZ.out _ hx3).mono ?_; rintro e w4 ⟨rfl, hb4⟩; have hx4 := jG hx3 hb4) | (go_at_call 69; refine (HO.out _ hx4).mono ?_; rintro e w5 ⟨v5, rfl, hv5, hb5⟩; have hx5 := jG hx4 hb5; obtain ⟨b3, o3, c3, la3, lc3, ca3, cc3, rfl, hc3, hm3, hA3, hI3, hC3, hS3⟩ := zAq hv5 HLL.out; have HV5 := zA hv5; have HA3 := zA hA3; have HC3 := zA hC3; unfold maxLen at hm3; have hS3' : w4.heap.size ≤ b3 := hS3; clear hv5 hI3 hC3 hA3 hS3));have hsz14 := hx4.size;have hsz45 := hb5.size;have hb3z := HA3.out.lt;have hb1z : b1 < w.heap.size := HAI.out.lt;have k0' := (HB.out _ hx5).1;have k1' := (HB.out _ hx5).2;obtain ⟨q1', g1'⟩ := blk k0';have hd5 : Below w5.heap.size w5 w5.drew := (zE _ _).drew;have HCI : Hid (∀ W, Below w5.heap.size w5 W → Calls zV 228 #[.slice ca3 l.cells.length cc3, .int .i64 q, .slice lb more.length lc] W (CellsSaid (xK l.cells q more) 0 W)) := zA fun W hW => zHA ca3 lb cc3 lc q l.cells more W w5 w _ S2 true false HC3.out HLC.out hW ((H1.out.trans (hx5.mono hs1)).trans (hW.mono qD)) hq hfl.2 hml;obtain ⟨b3', o3', cs3, hbe, _, hg3, hgz⟩ := SliceR.cellAt HV5.out (i := i) hil;cases hbe;have e1 : b3 ≠ w.heap.size := by omega
 have e2 : b3 ≠ w.heap.size + 1 := by omega
 have HG3 := zA hg3;have hld : (w5.drew).cell? ⟨b3, o3 + i * 4 + 3, none⟩ = some (.slice ca3 l.cells.length cc3) := HA3.out.cells;have HK := zA (And.intro k0' k1');clear hg3 k0' k1' p1 f1 p2 f2 hW1;refine wp_region_noPanic ?_;refine wp_region_held_drew (S := fun w' => w'.cell? ⟨w.heap.size, 0, none⟩ = some (.int .i64 i) ∧ w'.cell? ⟨w.heap.size, 1, none⟩ = some (.int .i64 q)) zT ⟨q1' 0, q1' 1⟩ (fun hHeld => ?_);obtain ⟨X0, hX0⟩ : ∃ X, w5.drew = X := ⟨_, rfl⟩;rw [hX0] at hd5 hHeld hld ⊢;clear hX0 q1' g1';refine zP (i := 0) (v := ?_) zAS zT zT zT (fun _ _ _ h => h) (Or.inl ⟨by rfl, ?_⟩) jC ?_;rotate_left 1
 ·intro w hSw; (try dsimp only at hSw); go_simp; (first | done | with_reducible rfl)
 try simp only [zU, qI, qX, qY]
 refine zP (i := 1) (v := ?_) qU zT zT zT (fun _ _ _ h => h) (Or.inl ⟨by rfl, ?_⟩) jC ?_;rotate_left 1
 ·intro w hSw; (try dsimp only at hSw); go_simp; (first | done | with_reducible rfl)
 try simp only [zU, qI, qX, qY]
 refine zP (i := 2) (v := ?_) qU zT zT zT (fun _ _ _ h => h) (Or.inl ⟨by rfl, ?_⟩) jC ?_;rotate_left 1
 ·intro w hSw; (try dsimp only at hSw); go_simp; (first | done | with_reducible rfl)
 try simp only [zU, qI, qX, qY]
 refine zP (i := 3) (v := ?_) qU zT zT zT (fun _ _ _ h => h) (Or.inl ⟨by rfl, ?_⟩) jC ?_;rotate_left 1
 ·intro w hSw; (try dsimp only at hSw); go_simp; (first | done | with_reducible rfl)
 try simp only [zU, qI, qX, qY]
 refine zP (i := 4) (v := ?_) qU zT zT zT (fun _ _ _ h => h) (Or.inl ⟨by rfl, ?_⟩) jC ?_;rotate_left 1
 ·intro w hSw; (try dsimp only at hSw); go_simp; (first | done | with_reducible rfl)
 try simp only [zU, qI, qX, qY]
 refine zP (i := 5) (v := ?_) qU zT zT zT (fun _ _ _ h => h) (Or.inl ⟨by rfl, ?_⟩) jC ?_;rotate_left 1
 ·intro w hSw; (try dsimp only at hSw); go_simp; (first | done | with_reducible rfl)
 try simp only [zU, qI, qX, qY]
 refine zP (i := 6) (v := ?_) qU zT zT zT (fun _ _ _ h => h) (Or.inl ⟨by rfl, ?_⟩) jC ?_;rotate_left 1
 ·intro w hSw; (try dsimp only at hSw); go_simp; (first | done | with_reducible rfl)
 try simp only [zU, qI, qX, qY]
 refine zP (i := 7) (v := ?_) qU zT zT zT (fun _ _ _ h => h) (Or.inl ⟨by rfl, ?_⟩) jC ?_;rotate_left 1
 ·intro w hSw; (try dsimp only at hSw); go_simp; (first | done | with_reducible rfl)
 try simp only [zU, qI, qX, qY]
 refine zP (i := 9) (v := ?_) qU zT zT zT (fun _ _ _ h => h) (Or.inl ⟨by rfl, ?_⟩) jC ?_;rotate_left 1
 ·intro w hSw; (try dsimp only at hSw); go_simp; (first | done | with_reducible rfl)
 try simp only [zU, qI, qX, qY]
 refine zP (i := 10) (v := ?_) qU zT zT zT (fun _ _ _ h => h) (Or.inl ⟨by rfl, ?_⟩) jC ?_;rotate_left 1
 ·intro w hSw; (try dsimp only at hSw); go_simp; (first | done | with_reducible rfl)
 try simp only [zU, qI, qX, qY]
 refine zP (i := 11) (v := ?_) qU zT zT zT (fun _ _ _ h => h) (Or.inl ⟨by rfl, ?_⟩) jC ?_;rotate_left 1
 ·intro w hSw; (try dsimp only at hSw); go_simp; (first | done | with_reducible rfl)
 try simp only [zU, qI, qX, qY]
 refine zQ (rs := [8]) zT qF ?_;refine zN qU (fun K hK => ?_) zO;go_simp;refine hK.out _ _ hHeld (fun _ => ?_);clear hK K;try simp only [zU, qI, qX, qY]
 refine zQ (rs := [12]) zT qF ?_;refine zN qU (fun K hK => ?_) zO;go_simp;refine (HCI.out _ hd5).mono ?_;intro e w6 hsaid;obtain ⟨v6, rfl, hv6, hb6'⟩ := hsaid;have hb6 : Below w5.heap.size w5 w6 := jG hd5 hb6';have hdz := hd5.size;obtain ⟨a6, n6, c6, hv6e⟩ := zAZ hv6;subst hv6e;have HV6 : Hid (jE true w6 (fun b => w5.heap.size ≤ b) (.slice a6 n6 c6) (xK l.cells q more)) := zA (SliceR.stable (jZ _) hv6 (Keeps.refl _ _) (fun b h _ => Nat.le_trans hdz h));obtain ⟨y0, y0f⟩ := blk (jI hb6 HK.out.1);have k16 := jI hb6 HK.out.2;have g36 := jI hb6 HG3.out;have y3 : w6.cell? ⟨b3, o3 + i * 4 + 3, none⟩ = some (.slice ca3 l.cells.length cc3) := (hb6.cell (p := ⟨b3, o3 + i * 4 + 3, none⟩) hb3z).trans HA3.out.cells;have y3f : w6.frozen? ⟨b3, o3 + i * 4 + 3, none⟩ = false := xY g36;have hS6 : w6.cell? ⟨w.heap.size, 0, none⟩ = some (.int .i64 i) ∧ w6.cell? ⟨w.heap.size, 1, none⟩ = some (.int .i64 q) := ⟨y0 0, y0 1⟩;clear hv6 hb6' hld hHeld;refine hK.out _ _ hS6 (fun hHeld => ?_);clear hK K;try simp only [zU, qI, qX, qY]
 refine zP (i := 13) (v := ?_) qU zT zT zT (fun _ _ _ h => h) (Or.inl ⟨by rfl, ?_⟩) jC ?_;rotate_left 1
 ·intro w hSw; (try dsimp only at hSw); go_simp; (first | done | with_reducible rfl)
 try simp only [zU, qI, qX, qY]
 refine zP (i := 14) (v := ?_) qU zT zT zT (fun _ _ _ h => h) (Or.inl ⟨by rfl, ?_⟩) jC ?_;rotate_left 1
 ·intro w hSw; (try dsimp only at hSw); go_simp; (first | done | with_reducible rfl)
 try simp only [zU, qI, qX, qY]
 refine zP (i := 15) (v := ?_) qU zT zT zT (fun _ _ _ h => h) (Or.inl ⟨by rfl, ?_⟩) jC ?_;rotate_left 1
 ·intro w hSw; (try dsimp only at hSw); go_simp; (first | done | with_reducible rfl)
 try simp only [zU, qI, qX, qY]
 refine zP (i := 16) (v := ?_) qU zT zT zT (fun _ _ _ h => h) (Or.inl ⟨by rfl, ?_⟩) jC ?_;rotate_left 1
 ·intro w hSw; (try dsimp only at hSw); go_simp; (first | done | with_reducible rfl)
 try simp only [zU, qI, qX, qY]
 refine zP (i := 17) (v := ?_) qU zT zT zT (fun _ _ _ h => h) (Or.inl ⟨by rfl, ?_⟩) jC ?_;rotate_left 1
 ·intro w hSw; (try dsimp only at hSw); go_simp; (first | done | with_reducible rfl)
 try simp only [zU, qI, qX, qY]
 refine zQ (rs := [18]) zT qF ?_;refine zN qU (fun K hK => ?_) zO;go_simp;have hS7 : (w6.setCell ⟨b3, o3 + i * 4 + 3, none⟩ (.slice a6 n6 c6)).cell? ⟨w.heap.size, 0, none⟩ = some (.int .i64 i) ∧ (w6.setCell ⟨b3, o3 + i * 4 + 3, none⟩ (.slice a6 n6 c6)).cell? ⟨w.heap.size, 1, none⟩ = some (.int .i64 q) := ⟨(kL e1).trans hS6.1, (kL e1).trans hS6.2⟩;refine hK.out _ _ hS7 (fun _ => ?_);refine wpAnyH_done zT ?_ _;refine NoPanic.normal ?_;clear hK K hHeld y0 y0f y3 y3f;obtain ⟨w7, hw7⟩ : ∃ X, w6.setCell ⟨b3, o3 + i * 4 + 3, none⟩ (.slice a6 n6 c6) = X := ⟨_, rfl⟩;have k17 : w7.heap[w.heap.size + 1]? = some (.cells #[.int .i64 0, .int .i64 0] 24) := by rw [← hw7, jO, if_neg e2]; exact k16
 have hfin : Below w.heap.size w w7 := by
  rw [← hw7];exact ((H1.out.trans (hx5.mono hs1)).trans (hb6.mono qD)).setCell (by show w.heap.size ≤ b3; omega) _
 have hD7 : DocR true w7 (fun b => w4.heap.size ≤ b) (.slice (some ⟨b3, o3, none⟩) d.length c3) (d.set i { l with cells := xK l.cells q more }) := by
  rw [← hw7];refine SliceR.set1 kH.tag (SliceR.below (jW true) HV5.out hb6) HLL.out (j := 3) qW (.slice a6 n6 c6) ?_;rintro vs _ ⟨p', q', rfl, hp', hq'⟩;exact ⟨p', _, rfl, hp', SliceR.stable (jZ _) HV6.out (Keeps.refl _ _) (fun b h _ => Nat.le_trans hsz45 h)⟩
 have hz7 : w6.heap.size = w7.heap.size := by rw [← hw7]; simp
 have hz56 := hb6.size;rw [hw7] at hS7 ⊢;clear hw7 k16 hS6 g36;obtain ⟨r1, s1⟩ := blk k17;have HD7 := zA hD7;have HFIN := zA hfin;clear hD7 hfin;go_wp2_with fail;refine wp_region_noPanic ?_;refine wp_region_held_drew (S := fun w' => w'.cell? ⟨w.heap.size, 0, none⟩ = some (.int .i64 i) ∧ w'.cell? ⟨w.heap.size, 1, none⟩ = some (.int .i64 q)) zT ⟨hS7.1, hS7.2⟩ (fun hHeld => ?_);obtain ⟨X9, hX9⟩ : ∃ X, w7.drew = X := ⟨_, rfl⟩;have hd9 : Below w7.heap.size w7 X9 := hX9 ▸ (zE _ _).drew;rw [hX9] at hHeld ⊢;have k19 := jI hd9 k17;obtain ⟨r9, s9⟩ := blk k19;have HD9 := zA hd9;have HK9 := zA k19;have HS9 := zA hHeld;have e3 : w.heap.size + 1 ≠ w.heap.size := by omega
 clear hX9 hS7 r1 s1 k17 hd9 k19;refine zP (i := 0) (v := ?_) zAS zT zT zT (fun _ _ _ h => h) (Or.inl ⟨by rfl, ?_⟩) jC ?_;rotate_left 1
 ·intro w hSw; (try dsimp only at hSw); go_simp; (first | done | with_reducible rfl)
 try simp only [zU, qI, qX, qY]
 refine zP (i := 1) (v := ?_) qU zT zT zT (fun _ _ _ h => h) (Or.inl ⟨by rfl, ?_⟩) jC ?_;rotate_left 1
 ·intro w hSw; (try dsimp only at hSw); go_simp; (first | done | with_reducible rfl)
 try simp only [zU, qI, qX, qY]
 refine zP (i := 2) (v := ?_) qU zT zT zT (fun _ _ _ h => h) (Or.inl ⟨by rfl, ?_⟩) jC ?_;rotate_left 1
 ·intro w hSw; (try dsimp only at hSw); go_simp; (first | done | with_reducible rfl)
 try simp only [zU, qI, qX, qY]
 refine zP (i := 3) (v := ?_) qU zT zT zT (fun _ _ _ h => h) (Or.inl ⟨by rfl, ?_⟩) jC ?_;rotate_left 1
 ·intro w hSw; (try dsimp only at hSw); go_simp; (first | done | with_reducible rfl)
 try simp only [zU, qI, qX, qY]
 refine zP (i := 4) (v := ?_) qU zT zT zT (fun _ _ _ h => h) (Or.inl ⟨by rfl, ?_⟩) jC ?_;rotate_left 1
 ·intro w hSw; (try dsimp only at hSw); go_simp; (first | done | with_reducible rfl)
 try simp only [zU, qI, qX, qY]
 refine zP (i := 5) (v := ?_) qU zT zT zT (fun _ _ _ h => h) (Or.inl ⟨by rfl, ?_⟩) jC ?_;rotate_left 1
 ·intro w hSw; (try dsimp only at hSw); go_simp; (first | done | with_reducible rfl)
 try simp only [zU, qI, qX, qY]
 refine zP (i := 6) (v := ?_) qU zT zT zT (fun _ _ _ h => h) (Or.inl ⟨by rfl, ?_⟩) jC ?_;rotate_left 1
 ·intro w hSw; (try dsimp only at hSw); go_simp; (first | done | with_reducible rfl)
 try simp only [zU, qI, qX, qY]
 refine zP (i := 7) (v := ?_) qU zT zT zT (fun _ _ _ h => h) (Or.inl ⟨by rfl, ?_⟩) jC ?_;rotate_left 1
 ·intro w hSw; (try dsimp only at hSw); go_simp; (first | done | with_reducible rfl)
 try simp only [zU, qI, qX, qY]
 refine zP (i := 8) (v := ?_) qU zT zT zT (fun _ _ _ h => h) (Or.inl ⟨by rfl, ?_⟩) jC ?_;rotate_left 1
 ·intro w hSw; (try dsimp only at hSw); go_simp; (first | done | with_reducible rfl)
 try simp only [zU, qI, qX, qY]
 refine zQ (rs := [9]) zT qF ?_;refine zN qU (fun K hK => ?_) zO;go_simp;refine hK.out _ _ hHeld (fun _ => ?_);clear hK K;try simp only [zU, qI, qX, qY]
 refine zQ (rs := [10]) zT qF ?_;refine zN qU (fun K hK => ?_) zO;go_simp
 have hSA : ∀ u0 u1, ((X9.setCell ⟨w.heap.size + 1, 0, none⟩ u0).setCell ⟨w.heap.size + 1, 1, none⟩ u1).cell? ⟨w.heap.size, 0, none⟩ = some (.int .i64 i) ∧ ((X9.setCell ⟨w.heap.size + 1, 0, none⟩ u0).setCell ⟨w.heap.size + 1, 1, none⟩ u1).cell? ⟨w.heap.size, 1, none⟩ = some (.int .i64 q) := fun u0 u1 =>
  ⟨(kL e3).trans ((kL e3).trans HS9.out.1), (kL e3).trans ((kL e3).trans HS9.out.2)⟩
 refine hK.out _ _ (hSA _ _) (fun _ => ?_);clear hK K;try simp only [zU, qI, qX, qY]
 refine zQ (rs := [11]) zT qF ?_;refine zN qU (fun K hK => ?_) zO;go_simp;refine hK.out _ _ (hSA _ _) (fun _ => ?_);refine wpAnyH_done zT ?_ _;refine NoPanic.normal ?_;clear hK K hSA;go_wp2_with fail;have k19 := HK9.out;have hwr : IntKind.i64.wrap ((q : Int) + (more.length : Int)) = (q : Int) + (more.length : Int) := IntWalk.i64_in _ qD;refine zM (kT rfl _ _ (w.heap.size + 1) (.int .i64 i) (.int .i64 ((q : Int) + (more.length : Int))) rfl (by simp [jO, jA, k19, hwr])) rfl ?_;unfold DocPSaid;rw [HR.out];have hz9 := HD9.out.size;have hfz := HFIN.out.size;have hw4 : w.heap.size + 2 ≤ w4.heap.size := by omega
 refine ⟨_, by rw [HP.out]; rfl, SliceR.stable (jW true) HD7.out ((((Keeps.all HD9.out)).set (fun hh => by have hh : w4.heap.size ≤ w.heap.size + 1 := hh; omega) _).set (fun hh => by have hh : w4.heap.size ≤ w.heap.size + 1 := hh; omega) _) (fun b h _ => by have h : w4.heap.size ≤ b := h; omega), ?_⟩;exact ((HFIN.out.trans (HD9.out.mono hfz)).setCell uA _).setCell uA _
end Go.Proofs.YtcliojeoindceaaGreatDoor
namespace Go.Proofs.Qw
open Go.RowKit Go.Proofs.YtcliojeoindceaaGreatDoor
open _root_.Nat renaming le_refl → zC
open _root_.List renaming getElem?_eq_some_iff → zK, length_append → zS
def flat (d : Doc) : List Cel := d.flatMap (·.cells)
theorem uC (d : Doc) : (flat d).length = jH d := by unfold flat jH; rw [List.length_flatMap]
theorem vD (d e : Doc) : flat (d ++ e) = flat d ++ flat e := by unfold flat; rw [List.flatMap_append]
theorem zBP (l : Lin) : flat [l] = l.cells := by simp [flat]
theorem zGE {d : Doc} {i : Nat} {l : Lin} (h : d[i]? = some l) : d = d.take i ++ [l] ++ d.drop (i + 1) := by
 have hi := (zK.1 h).1
 have e : d.drop i = l :: d.drop (i + 1) := by
  rw [List.drop_eq_getElem_cons hi, (zK.1 h).2]
 rw [List.append_assoc, List.singleton_append, ← e, List.take_append_drop]
theorem zCL {d : Doc} {i : Nat} {l : Lin} (h : d[i]? = some l) : flat d = flat (d.take i) ++ (l.cells ++ flat (d.drop (i + 1))) := by
 conv => lhs; rw [zGE h]
 rw [vD, vD, zBP, List.append_assoc]
def offs (d : Doc) (i p : Nat) : Nat := (flat (d.take i)).length + p
theorem zLw {d : Doc} {i p : Nat} {l : Lin} (h : d[i]? = some l) (hp : p ≤ l.cells.length) : (flat d).take (offs d i p) = flat (d.take i) ++ l.cells.take p := by
 unfold offs;rw [zCL h, List.take_length_add_append, List.take_append_of_le_length hp]
theorem zLy {d : Doc} {i p : Nat} {l : Lin} (h : d[i]? = some l) (hp : p ≤ l.cells.length) : (flat d).drop (offs d i p) = l.cells.drop p ++ flat (d.drop (i + 1)) := by
 unfold offs;rw [zCL h, List.drop_length_add_append, List.drop_append_of_le_length hp]
theorem zDR {d : Doc} {k : Nat} {l : Lin} (h : d[k]? = some l) : flat (d.take (k + 1)) = flat (d.take k) ++ l.cells := by
 rw [List.take_add_one, h, vD];simp [flat]
theorem zGy {d : Doc} {i p j q : Nat} (h : jU d ⟨i, p⟩ ⟨j, q⟩ = true) : cellsD d ⟨i, p⟩ ⟨j, q⟩ = kO d (jY d i p j q (j + 1)) := by unfold cellsD; rw [if_pos h]; rfl
theorem zNI {i p j q : Nat} : cmpP ⟨i, p⟩ ⟨j, q⟩ ≤ 0 ↔ i < j ∨ i = j ∧ p ≤ q := by
 unfold cmpP cmpI;simp only
 by_cases h : (i : Int) < j
 ·simp [h]; omega
 ·by_cases h2 : (j : Int) < i
  ·simp [h, h2]; omega
  ·simp only [h, h2, if_false]
   simp only [ne_eq, not_true_eq_false, if_false]
   split
   ·simp; omega
   ·split
    ·simp; omega
    ·simp; omega
theorem zAL {d : Doc} {i p : Nat} {l : Lin} (hl : d[i]? = some l) (hp : p ≤ l.cells.length) : isD d ⟨i, p⟩ = true := by
 rw [zAv hl]
 simp
 omega
theorem zAr {d : Doc} {i p j q : Nat} {l m : Lin} (hM : mayD d = true) (hl : d[i]? = some l) (hm : d[j]? = some m) (hp : p ≤ l.cells.length) (hq : q ≤ m.cells.length) (hij : i ≤ j) (hpq : i = j → p ≤ q) : jU d ⟨i, p⟩ ⟨j, q⟩ = true := by
 unfold jU;rw [hM, zAL hl hp, zAL hm hq];simp only [Bool.and_true, Bool.true_and, decide_eq_true_eq, zNI]
 omega
theorem zBK {l : Lin} {cs : List Cel} (h : mayL l = true) (hc : kC cs = true) : mayL { l with cells := cs } = true := by
 unfold mayL at h ⊢;simp only [Bool.and_eq_true] at h ⊢;exact ⟨h.1, hc⟩
theorem uV {l : Lin} (h : mayL l = true) : kC l.cells = true := by
 unfold mayL at h;simp only [Bool.and_eq_true] at h;exact h.2
theorem zDE {l : List Cel} (h : kC l = true) (n : Nat) : kC (l.take n) = true := by
 unfold kC at h ⊢;rw [List.all_eq_true] at h ⊢;exact fun x hx => h x (List.mem_of_mem_take hx)
theorem zDF {l : List Cel} (h : kC l = true) (n : Nat) : kC (l.drop n) = true := by
 unfold kC at h ⊢;rw [List.all_eq_true] at h ⊢;exact fun x hx => h x (List.mem_of_mem_drop hx)
theorem zDx {l m : List Cel} (h : kC l = true) (k : kC m = true) : kC (l ++ m) = true := by
 unfold kC at h k ⊢;rw [List.all_append, h, k]
 rfl
theorem xZ {d : Doc} : mayD d = true ↔ 1 ≤ d.length ∧ d.length ≤ 200 ∧ (flat d).length ≤ 4000 ∧ ∀ l ∈ d, mayL l = true := by
 unfold mayD;simp only [Bool.and_eq_true, decide_eq_true_eq, List.all_eq_true, uC];exact ⟨fun ⟨⟨⟨a, b⟩, c⟩, e⟩ => ⟨a, b, c, e⟩, fun ⟨a, b, c, e⟩ => ⟨⟨⟨a, b⟩, c⟩, e⟩⟩
theorem zJz {d : Doc} {i p j q : Nat} {l m : Lin} (hl : d[i]? = some l) (hm : d[j]? = some m) (hp : p ≤ l.cells.length) (hq : q ≤ m.cells.length) :
  flat (zAb d ⟨i, p⟩ ⟨j, q⟩) = (flat d).take (offs d i p) ++ (flat d).drop (offs d j q) := by
 rw [zAn hl hm, vD, vD, zBP, zLw hl hp, zLy hm hq]
 simp
theorem zLd {d : Doc} {i p j q : Nat} {l m : Lin} (hl : d[i]? = some l) (hm : d[j]? = some m) (hp : p ≤ l.cells.length) (hij : i ≤ j) (hpq : i = j → p ≤ q) : offs d i p ≤ offs d j q := by
 unfold offs
 by_cases e : i = j
 ·subst e
  have := hpq rfl
  omega
 ·have h1 : (d.take j).take (i + 1) = d.take (i + 1) := by rw [List.take_take, Nat.min_eq_left qD]
  have h2 : flat (d.take j) = flat (d.take (i + 1)) ++ flat ((d.take j).drop (i + 1)) := by rw [← h1, ← vD, List.take_append_drop]
  rw [h2, zDR hl];simp only [zS]
  omega
theorem yI {d : Doc} {i : Nat} {l : Lin} (h : d[i]? = some l) : l ∈ d := List.mem_of_getElem? h
theorem zFU {d : Doc} {i p j q : Nat} {l m : Lin} (hM : mayD d = true) (hl : d[i]? = some l) (hm : d[j]? = some m) (hp : p ≤ l.cells.length) (hq : q ≤ m.cells.length) (hij : i ≤ j) (hpq : i = j → p ≤ q) :
  mayD (zAb d ⟨i, p⟩ ⟨j, q⟩) = true := by
 obtain ⟨a1, a2, a3, a4⟩ := xZ.1 hM;have hj := (zK.1 hm).1;have ho := zLd hl hm hp hij hpq;refine xZ.2 ⟨?_, ?_, ?_, fun x hx => ?_⟩
 ·rw [zAn hl hm]; simp; omega
 ·rw [zAn hl hm]
  simp only [zS, List.length_take, List.length_drop, List.length_singleton]
  omega
 ·rw [zJz hl hm hp hq, zS, List.length_take, List.length_drop]
  omega
 ·rw [zAn hl hm] at hx
  simp only [List.mem_append, List.mem_singleton] at hx;rcases hx with (hx | rfl) | hx
  ·exact a4 x (List.mem_of_mem_take hx)
  ·exact zBK (a4 l (yI hl)) (zDx (zDE (uV (a4 l (yI hl))) _) (zDF (uV (a4 m (yI hm))) _))
  ·exact a4 x (List.mem_of_mem_drop hx)
theorem zFV {d : Doc} {i p j q : Nat} {l m : Lin} (hl : d[i]? = some l) (hm : d[j]? = some m) (k : Nat) :
  (zAb d ⟨i, p⟩ ⟨j, q⟩)[k]? = if k < i then d[k]? else if k = i then some { l with cells := l.cells.take p ++ m.cells.drop q } else d[k - i + j]? := by
 have hi := (zK.1 hl).1;rw [zAn hl hm]
 by_cases h1 : k < i
 ·rw [if_pos h1, List.append_assoc, List.getElem?_append_left jB, List.getElem?_take, if_pos h1]
 ·rw [if_neg h1]
  by_cases h2 : k = i
  ·subst h2
   rw [if_pos rfl, List.append_assoc, List.getElem?_append_right jB, List.length_take, Nat.min_eq_left qD, Nat.sub_self]
   rfl
  ·rw [if_neg h2, List.getElem?_append_right jB]
   simp only [zS, List.length_take, List.length_singleton, Nat.min_eq_left (Nat.le_of_lt hi)];rw [List.getElem?_drop]
   congr 1
   omega
theorem zEn {d : Doc} {i : Nat} {l : Lin} (h : d[i]? = some l) (x : Lin) : d.set i x = d.take i ++ [x] ++ d.drop (i + 1) := by
 have hi := (zK.1 h).1;rw [List.set_eq_take_append_cons_drop, if_pos hi, List.append_assoc, List.singleton_append]
theorem zDX {d : Doc} {i : Nat} {l : Lin} (h : d[i]? = some l) : d.take i ++ [l] ++ d.drop (i + 1) = d := (zGE h).symm
theorem zJu {d : Doc} {a : Ps} {more : List Cel} {x : Doc} {p : Ps} (h : kQ more d a = (x, p, 0)) : mayD x = true ∧ jH x = jH d + more.length ∧ kR x a p = (d, 0) := by
 unfold kQ at h
 split at h
 ·rename_i hc
  rw [Bool.and_eq_true] at hc
  split at h
  ·cases h
  ·rename_i hsz
   obtain ⟨hM, i, j, q, q', l, m, rfl, e, hl, hm, hq, hq', _, _⟩ := vF hc.1;obtain ⟨a1, a2, a3, a4⟩ := xZ.1 hM;have hi := (zK.1 hl).1;simp only [Prod.mk.injEq, Int.toNat_natCast, List.getD, hl, Option.getD_some] at h;obtain ⟨rfl, rfl, _⟩ := h
   have hfl : flat (d.set i { l with cells := xK l.cells q more }) = flat (d.take i) ++ (xK l.cells q more ++ flat (d.drop (i + 1))) := by
    rw [zEn hl, vD, vD, zBP, List.append_assoc]
   have hin : (xK l.cells q more).length = l.cells.length + more.length := by
    unfold xK;simp only [zS, List.length_take, List.length_drop]
    omega
   have hsize : jH (d.set i { l with cells := xK l.cells q more }) = jH d + more.length := by
    rw [← uC, ← uC, hfl, zCL hl];simp only [zS, hin]
    omega
   have hmay : mayD (d.set i { l with cells := xK l.cells q more }) = true := by
    refine xZ.2 ⟨by rw [List.length_set]; exact a1, by rw [List.length_set]; exact a2, by rw [uC, hsize]; omega, fun y hy => ?_⟩;rcases List.mem_or_eq_of_mem_set hy with hy | rfl
    ·exact a4 y hy
    ·have hc1 := uV (a4 l (yI hl))
     exact zBK (a4 l (yI hl)) (zDx (zDx (zDE hc1 _) hc.2) (zDF hc1 _))
   refine ⟨hmay, hsize, ?_⟩;have hx : (d.set i { l with cells := xK l.cells q more })[i]? = some { l with cells := xK l.cells q more } := List.getElem?_set_self hi;have hsp : jU (d.set i { l with cells := xK l.cells q more }) ⟨i, q⟩ ⟨i, ((q + more.length : Nat) : Int)⟩ = true := zAr hmay hx hx (by simp only [hin]; omega) (by simp only [hin]; omega) (zC _) (fun _ => by omega);have hq2 : (q : Int) + (more.length : Int) = ((q + more.length : Nat) : Int) := by omega
   rw [hq2];unfold kR;rw [if_pos hsp, zAn hx hx]
   have e1 : (xK l.cells q more).take q = l.cells.take q := by
    unfold xK;rw [List.append_assoc, List.take_append_of_le_length jB, List.take_take, Nat.min_self]
   have e2 : (xK l.cells q more).drop (q + more.length) = l.cells.drop q := by
    unfold xK;have hlen : (l.cells.take q ++ more).length = q + more.length := by simp; omega
    rw [List.drop_append_of_le_length qD, List.drop_eq_nil_of_le qD, List.nil_append]
   simp only [e1, e2, List.take_append_drop, Prod.mk.injEq, and_true];rw [List.take_set_of_le (zC _), List.drop_set_of_lt qD];exact zDX hl
 ·cases h
theorem zKa {d : Doc} {a : Ps} {x : Doc} {p : Ps} (h : kZ d a = (x, p, 0)) : mayD x = true ∧ p = ⟨a.line + 1, 0⟩ ∧ kR x a p = (d, 0) := by
 unfold kZ at h
 split at h
 ·rename_i hc
  split at h
  ·cases h
  ·rename_i h200
   obtain ⟨hM, i, j, q, q', l, m, rfl, e, hl, hm, hq, hq', _, _⟩ := vF hc;obtain ⟨a1, a2, a3, a4⟩ := xZ.1 hM;have hi := (zK.1 hl).1;simp only [Prod.mk.injEq] at h;obtain ⟨rfl, rfl, _⟩ := h
   have hxe : uD d ⟨i, q⟩ = d.take i ++ [(kN l q).1, (kN l q).2] ++ d.drop (i + 1) := by
    unfold uD;simp [List.getD, hl]
   have hcs : (kN l q).1.cells ++ (kN l q).2.cells = l.cells := by
    unfold kN
    by_cases hlq : l.cells.length ≤ q
    ·rw [if_pos hlq, List.append_nil]; exact List.take_of_length_le hlq
    ·rw [if_neg hlq]; exact List.take_append_drop _ _
   have hfl : flat (uD d ⟨i, q⟩) = flat d := by
    rw [hxe, vD, vD, zCL hl, ← hcs];simp [flat]
   have hml := a4 l (yI hl)
   have hmay : mayD (uD d ⟨i, q⟩) = true := by
    refine xZ.2 ⟨by rw [hxe]; simp; omega, by rw [hxe]; simp; omega, by rw [hfl]; exact a3, fun y hy => ?_⟩;rw [hxe] at hy;simp only [List.mem_append, List.mem_cons, List.not_mem_nil, or_false] at hy;rcases hy with (hy | rfl | rfl) | hy
    ·exact a4 y (List.mem_of_mem_take hy)
    ·exact zBK hml (zDE (uV hml) _)
    ·unfold kN
     by_cases hlq : l.cells.length ≤ q
     ·rw [if_pos hlq]
      unfold mayL at hml ⊢;simp only [Bool.and_eq_true, Bool.or_eq_true, decide_eq_true_eq] at hml ⊢;obtain ⟨⟨⟨⟨⟨⟨⟨b1, b2⟩, b3⟩, b4⟩, b5⟩, b6⟩, b7⟩, b8⟩ := hml;exact ⟨⟨⟨⟨⟨⟨⟨b1, b2⟩, b3⟩, Int.le_refl _⟩, by decide⟩, .inr trivial⟩, b7⟩, rfl⟩
     ·rw [if_neg hlq]
      exact zBK hml (zDF (uV hml) _)
    ·exact a4 y (List.mem_of_mem_drop hy)
   refine ⟨hmay, rfl, ?_⟩
   have hx1 : (uD d ⟨i, q⟩)[i]? = some (kN l q).1 := by
    rw [hxe, List.append_assoc, List.getElem?_append_right jB, List.length_take, Nat.min_eq_left qD, Nat.sub_self]
    rfl
   have hx2 : (uD d ⟨i, q⟩)[i + 1]? = some (kN l q).2 := by
    rw [hxe, List.append_assoc, List.getElem?_append_right jB, List.length_take, Nat.min_eq_left qD, show i + 1 - i = 1 by omega]
    rfl
   have hc1 : (kN l q).1.cells = l.cells.take q := rfl;have hq2 : (⟨(i : Int) + 1, 0⟩ : Ps) = ⟨((i + 1 : Nat) : Int), ((0 : Nat) : Int)⟩ := rfl;have hsp : jU (uD d ⟨i, q⟩) ⟨i, q⟩ ⟨((i + 1 : Nat) : Int), ((0 : Nat) : Int)⟩ = true := zAr hmay hx1 hx2 (by rw [hc1]; simp; omega) (Nat.zero_le _) qD (fun e => by omega)
   show kR _ _ ⟨(i : Int) + 1, 0⟩ = _
   rw [hq2];unfold kR;rw [if_pos hsp, zAn hx1 hx2, List.drop_zero, show (kN l q).1.cells.take q = (kN l q).1.cells by rw [hc1, List.take_take, Nat.min_self], hcs]
   have e1 : (uD d ⟨i, q⟩).take i = d.take i := by
    rw [hxe, List.append_assoc, List.take_append_of_le_length jB, List.take_take, Nat.min_self]
   have e2 : (uD d ⟨i, q⟩).drop (i + 1 + 1) = d.drop (i + 1) := by
    rw [hxe, List.drop_append_of_le_length jB, List.drop_eq_nil_of_le jB, List.nil_append]
   rw [e1, e2];exact congrArg (·, 0) (zDX hl)
 ·cases h
theorem zJq {d : Doc} {i p j q : Nat} (h : jU d ⟨i, p⟩ ⟨j, q⟩ = true) : (vB d ⟨i, p⟩ ⟨j, q⟩).1.length = j + 1 - i := by
 unfold vB;rw [if_pos h];simp [jY]
theorem zNE {d : Doc} {n : Nat} {l : Lin} (hn : d.length = n + 1) (hl : d[n]? = some l) : endD d = ⟨n, l.cells.length⟩ := by
 unfold endD;rw [if_neg (by intro e; rw [e] at hn; cases hn), hn]
 have : d.getLastD default = l := by
  rw [List.getLastD_eq_getLast?, List.getLast?_eq_getElem?, hn, Nat.add_sub_cancel, hl]
  rfl
 rw [this]
 simp
def uP (F : Cel → Cel) (i p j q k : Nat) (l : Lin) : Lin := if i ≤ k ∧ k ≤ j then { l with cells := jX F (if k = i then p else 0) (if k = j then q else l.cells.length) l.cells } else l
theorem zFA {F : Cel → Cel} {d : Doc} {i p j q : Nat} (hj : j < d.length) : ∀ n k, k = i + n → k ≤ j + 1 → ∀ m : Nat, (xB (fun cs i j => jX F i j cs) d (jY d i p j q k))[m]? = (d[m]?).map fun l => if m < k then uP F i p j q m l else l
 | 0, k, hk, _, m => by
  obtain rfl : k = i := hk;rw [zAF]
  show d[m]? = _
  cases hd : d[m]? with
  | none => rfl
  | some l =>
   simp only [Option.map_some, uP]
   by_cases h : m < k
   ·rw [if_pos h, if_neg qD]
   ·rw [if_neg h]
 | n + 1, k, hk, hkj, m => by
  subst hk;obtain ⟨x, hx, _⟩ := jP d (i + n) qD;obtain ⟨h1, h2⟩ := zIp (fun cs i j => jX F i j cs) (i := i) (p := p) (j := j) (q := q) qD hx;have ih := zFA (F := F) (d := d) (i := i) (p := p) (j := j) (q := q) hj n (i + n) rfl qD;rw [show i + (n + 1) = i + n + 1 from rfl, h2]
  by_cases e : i + n = m
  ·subst e
   rw [List.getElem?_set_self (zK.1 h1).1, hx, zBc d hx];simp only [Option.map_some, uP];rw [if_pos (show i + n < i + n + 1 by omega), if_pos (show i ≤ i + n ∧ i + n ≤ j by omega)]
  ·rw [List.getElem?_set_ne e, ih m]
   cases hd : d[m]? with
   | none => rfl
   | some l =>
    simp only [Option.map_some]
    by_cases h : m < i + n
    ·rw [if_pos h, if_pos qD]
    ·rw [if_neg h, if_neg qD]
theorem zJd {F : Cel → Cel} {d : Doc} {i p j q : Nat} (hj : j < d.length) (hij : i ≤ j) (m : Nat) : (xB (fun cs i j => jX F i j cs) d (jY d i p j q (j + 1)))[m]? = (d[m]?).map (uP F i p j q m) := by
 rw [zFA hj (j + 1 - i) (j + 1) qD (zC _)];cases hd : d[m]? with
 | none => rfl
 | some l =>
  simp only [Option.map_some]
  by_cases h : m < j + 1
  ·rw [if_pos h]
  ·rw [if_neg h, uP, if_neg qD]
theorem zCp (F : Cel → Cel) (i p j q k : Nat) (l : Lin) : (uP F i p j q k l).cells.length = l.cells.length := by
 unfold uP
 split
 ·exact zAT _ _ _ _
 ·rfl
theorem zLk {F : Cel → Cel} {i k : Nat} {l : List Cel} : ((jX F i k l).drop i).take (k - i) = ((l.drop i).take (k - i)).map F := by
 apply List.ext_getElem?
 intro n;simp only [List.getElem?_take, List.getElem?_drop, List.getElem?_map, zAp]
 split
 ·cases l[i + n]? with
  | none => rfl
  | some x => simp only [Option.map_some]; rw [if_pos qD]
 ·rfl
theorem zLg {F : Cel → Cel} {i k : Nat} {l : List Cel} {y : Cel} (h : y ∈ jX F i k l) : ∃ x ∈ l, y = x ∨ y = F x := by
 obtain ⟨n, hn⟩ := List.getElem?_of_mem h;rw [zAp] at hn;cases hx : l[n]? with
 | none => rw [hx] at hn; cases hn
 | some x =>
  rw [hx] at hn;simp only [Option.map_some, Option.some.injEq] at hn;refine ⟨x, List.mem_of_getElem? hx, ?_⟩
  split at hn
  ·exact .inr hn.symm
  ·exact .inl hn.symm
theorem zLK {F : Cel → Cel} {d : Doc} {a b : Ps} (hF : ∀ c, mayC c = true → mayC (F c) = true) (h : jU d a b = true) :
  mayD (xB (fun cs i j => jX F i j cs) d (jY d a.line.toNat a.col.toNat b.line.toNat b.col.toNat (b.line.toNat + 1))) = true ∧
  jU (xB (fun cs i j => jX F i j cs) d (jY d a.line.toNat a.col.toNat b.line.toNat b.col.toNat (b.line.toNat + 1))) a b = true ∧
  cellsD (xB (fun cs i j => jX F i j cs) d (jY d a.line.toNat a.col.toNat b.line.toNat b.col.toNat (b.line.toNat + 1))) a b = (cellsD d a b).map F := by
 obtain ⟨hM, i, j, p, q, l, m, rfl, rfl, hl, hm, hp, hq, hij, hpq⟩ := vF h;obtain ⟨a1, a2, a3, a4⟩ := xZ.1 hM;have hi := (zK.1 hl).1;have hj := (zK.1 hm).1;simp only [Int.toNat_natCast];have hget := zJd (F := F) (p := p) (q := q) hj hij;obtain ⟨D, hD⟩ : ∃ D, xB (fun cs i j => jX F i j cs) d (jY d i p j q (j + 1)) = D := ⟨_, rfl⟩;rw [hD] at hget ⊢
 have hlen : D.length = d.length := by
  have h1 := hget d.length;rw [List.getElem?_eq_none (zC _)] at h1;have h2 : D.length ≤ d.length := List.getElem?_eq_none_iff.1 h1;have h3 := hget D.length;rw [List.getElem?_eq_none (zC _)] at h3
  have h4 : d[D.length]? = none := by
   cases hd : d[D.length]? with
   | none => rfl
   | some x => rw [hd] at h3; cases h3
  have := List.getElem?_eq_none_iff.1 h4
  omega
 have hmapl : D.map (·.cells.length) = d.map (·.cells.length) := by
  apply List.ext_getElem?
  intro n;rw [List.getElem?_map, List.getElem?_map, hget];cases d[n]? with
  | none => rfl
  | some x => simp only [Option.map_some, zCp]
 have hsz : jH D = jH d := by unfold jH; rw [hmapl]
 have hmay : mayD D = true := by
  refine xZ.2 ⟨by omega, by omega, by rw [uC, hsz, ← uC]; exact a3, fun y hy => ?_⟩;obtain ⟨n, hn⟩ := List.getElem?_of_mem hy;rw [hget] at hn;cases hx : d[n]? with
  | none => rw [hx] at hn; cases hn
  | some x =>
   rw [hx] at hn;simp only [Option.map_some, Option.some.injEq] at hn;subst hn;have hx4 := a4 x (yI hx);unfold uP
   split
   ·refine zBK hx4 ?_
    unfold kC;rw [List.all_eq_true];intro z hz;have hcs := uV hx4;unfold kC at hcs;rw [List.all_eq_true] at hcs;obtain ⟨u, hu, e⟩ := zLg hz;rcases e with rfl | rfl
    ·exact hcs _ hu
    ·exact hF _ (hcs _ hu)
   ·exact hx4
 have hDl := hget i;have hDm := hget j;rw [hl] at hDl;rw [hm] at hDm;simp only [Option.map_some] at hDl hDm;have hsp : jU D ⟨i, p⟩ ⟨j, q⟩ = true := zAr hmay hDl hDm (by rw [zCp]; exact hp) (by rw [zCp]; exact hq) hij hpq;refine ⟨hmay, hsp, ?_⟩;rw [zGy hsp, zGy h]
 have hto : ∀ n k, k = i + n → k ≤ j + 1 → kO D (jY D i p j q k) = (kO d (jY d i p j q k)).map F := by
  intro n
  induction n with
  | zero =>
   intro k hk _;obtain rfl : k = i := hk;rw [zAF, zAF]
   rfl
  | succ n ih =>
   intro k hk hkj;subst hk;obtain ⟨x, hx, _⟩ := jP d (i + n) qD;have hy := hget (i + n);rw [hx] at hy;simp only [Option.map_some] at hy;rw [show i + (n + 1) = i + n + 1 from rfl, zAC D qD, zAC d qD, zCv, zCv, List.map_append, ih (i + n) rfl qD, zBc D hy, zBc d hx, zBN (by exact hy), zBN (by exact hx)]
   congr 1
   simp only [zCp]
   have : (uP F i p j q (i + n) x).cells = jX F (if i + n = i then p else 0) (if i + n = j then q else x.cells.length) x.cells := by
    unfold uP;rw [if_pos ⟨by omega, by omega⟩]
   rw [this];exact zLk
 exact hto (j + 1 - i) (j + 1) qD (zC _)
theorem zEa (x s c : Int) (hx : 0 ≤ x ∧ x ≤ 15) (hs : 0 ≤ s ∧ s ≤ 15) (hc : 0 ≤ c ∧ c ≤ 15) :
  bits .and .i64 s 15 = s ∧ (0 ≤ bits .or .i64 (bits .andNot .i64 x c) s ∧ bits .or .i64 (bits .andNot .i64 x c) s ≤ 15) ∧ bits .and .i64 (bits .or .i64 (bits .andNot .i64 x c) s) s = s ∧ bits .and .i64 (bits .or .i64 (bits .andNot .i64 x c) s) (bits .andNot .i64 c s) = 0 := by
 obtain ⟨x, rfl⟩ := Int.eq_ofNat_of_zero_le hx.1;obtain ⟨s, rfl⟩ := Int.eq_ofNat_of_zero_le hs.1;obtain ⟨c, rfl⟩ := Int.eq_ofNat_of_zero_le hc.1;have H : ∀ x s c : Fin 16, bits .and .i64 (s.val : Int) 15 = s.val ∧ (0 ≤ bits .or .i64 (bits .andNot .i64 (x.val : Int) c.val) s.val ∧ bits .or .i64 (bits .andNot .i64 (x.val : Int) c.val) s.val ≤ 15) ∧ bits .and .i64 (bits .or .i64 (bits .andNot .i64 (x.val : Int) c.val) s.val) s.val = s.val ∧ bits .and .i64 (bits .or .i64 (bits .andNot .i64 (x.val : Int) c.val) s.val) (bits .andNot .i64 (c.val : Int) s.val) = 0 := by decide +kernel
 exact H ⟨x, by omega⟩ ⟨s, by omega⟩ ⟨c, by omega⟩
theorem uK {d : Doc} (h : mayD d = true) : Small d ∧ Fits d := by
 obtain ⟨h1, h2, h3, h4⟩ := xZ.1 h;rw [uC] at h3;refine ⟨⟨by omega, by omega, fun l hl c hc => ?_⟩, by omega, fun l hl => ?_⟩
 ·have := h4 l hl
  unfold mayL at this;simp only [Bool.and_eq_true] at this;have hcs := this.2;unfold kC at hcs;have hm := List.all_eq_true.1 hcs c hc;unfold mayC xD at hm;simp only [Bool.and_eq_true, Bool.or_eq_true, decide_eq_true_eq] at hm;rcases hm.2 with e | e
  ·rw [e]; simp
  ·unfold yQ zEl zBj at e
   simp only [Bool.and_eq_true, decide_eq_true_eq] at e;have h5 := e.1.2.1;have : (⟨c.href.toArray⟩ : ByteArray).size = c.href.length := by show c.href.toArray.size = _; simp
   omega
 ·have hm := h4 l hl
  unfold mayL at hm;simp only [Bool.and_eq_true, decide_eq_true_eq] at hm;obtain ⟨i, hi⟩ := List.getElem?_of_mem hl;have := zBe hi
  omega
theorem zJr {s c : Int} (hs : 0 ≤ s ∧ s ≤ 15) (hc : 0 ≤ c ∧ c ≤ 15) : ∀ x, mayC x = true → mayC (yR s c x) = true := by
 intro x hx;unfold mayC at hx ⊢;simp only [Bool.and_eq_true, decide_eq_true_eq] at hx ⊢;obtain ⟨⟨⟨h1, h2⟩, h3⟩, h4⟩ := hx;have h := (zEa x.bits s c ⟨h2, h3⟩ hs hc).2.1;have e1 := (zEa x.bits s c ⟨h2, h3⟩ hs hc).1;have e2 := (zEa x.bits c s ⟨h2, h3⟩ hc hs).1;have e : (yR s c x).bits = bits .or .i64 (bits .andNot .i64 x.bits c) s := by unfold yR; simp only [e1, e2]
 rw [e];exact ⟨⟨⟨h1, h.1⟩, h.2⟩, h4⟩
theorem zFm {h : List UInt8} (hl : xD h = true) : ∀ x, mayC x = true → mayC (yJ h x) = true := by
 intro x hx;unfold mayC yJ at *;simp only [Bool.and_eq_true, decide_eq_true_eq] at hx ⊢;exact ⟨hx.1, hl⟩
theorem zGq {D E : Doc} (h : Alike D E) (p : Ps) : isD E p = isD D p := by
 unfold isD
 by_cases hk : p.line.toNat < D.length
 ·obtain ⟨l, hl, _⟩ := jP D p.line.toNat hk
  obtain ⟨m, hm, e⟩ := h.2 _ _ hl;rw [List.getD, List.getD, hl, hm, h.1];simp only [Option.getD_some, e]
 ·rw [List.getD, List.getD, List.getElem?_eq_none (Nat.le_of_not_lt hk), List.getElem?_eq_none (by have := h.1; omega), h.1]
theorem zHe {C : List Cel → Nat → Nat → List Cel} {d : Doc} {a b : Ps} {X : Doc} (h : xG C d a b = (X, 0)) : jU d a b = true ∧ cellsD d a b ≠ [] ∧ X = xB C d (jY d a.line.toNat a.col.toNat b.line.toNat b.col.toNat (b.line.toNat + 1)) := by
 unfold xG at h
 split at h
 ·rename_i h1
  split at h
  ·have h3 := congrArg Prod.snd h
   simp at h3
  ·rename_i h2
   exact ⟨h1, h2, (congrArg Prod.fst h).symm⟩
 ·have h3 := congrArg Prod.snd h
  simp at h3
theorem zKw {F : Cel → Cel} (hF : ∀ c, mayC c = true → mayC (F c) = true) {d : Doc} {a b : Ps} {X : Doc} (h : xG (fun cs i j => jX F i j cs) d a b = (X, 0)) :
  jU d a b = true ∧ cellsD d a b ≠ [] ∧ mayD X = true ∧ Alike d X ∧ jU X a b = true ∧ cellsD X a b = (cellsD d a b).map F := by
 obtain ⟨h1, h2, rfl⟩ := zHe h;obtain ⟨a1, a2, a3⟩ := zLK hF h1;exact ⟨h1, h2, a1, zDm (fun _ _ _ => zAT _ _ _ _) _ _, a2, a3⟩
theorem zLh {s : St} (hm : mayS s = true) {X : Doc} (hX : mayD X = true) (ha : Alike s.lines X) : mayS ⟨X, s.anc, s.foc, 0, 0⟩ = true := by
 obtain ⟨_, h2, h3, _⟩ := yK hm;simp only [mayS, Bool.and_eq_true];exact ⟨hX, by rw [zGq ha]; exact h2, by rw [zGq ha]; exact h3, by decide +kernel, by decide +kernel, by decide +kernel⟩
def zCO (c : Cel) : Cel := ⟨c.r, 0, []⟩
def zHm (l : Lin) : Lin := { l with cells := l.cells.map zCO }
def zAc (d : Doc) : Doc := d.map zHm
theorem zJb {F : Cel → Cel} (hF : ∀ c, (F c).r = c.r) (i k : Nat) (cs : List Cel) : (jX F i k cs).map zCO = cs.map zCO := by
 apply List.ext_getElem?
 intro q;rw [List.getElem?_map, zAp, List.getElem?_map, Option.map_map];cases cs[q]? with
 | none => rfl
 | some x =>
  simp only [Option.map_some, Function.comp]
  split
  ·unfold zCO; rw [hF]
  ·rfl
theorem zIq {F : Cel → Cel} (hF : ∀ c, (F c).r = c.r) (D : Doc) (x : Nat × Nat × Nat) : zAc (setRow (fun cs i j => jX F i j cs) D x) = zAc D := by
 unfold setRow zAc;apply List.ext_getElem?
 intro q;rw [List.getElem?_map, List.getElem?_map, List.getElem?_set]
 by_cases e : x.1 = q
 ·subst e
  rw [if_pos rfl]
  by_cases hk : x.1 < D.length
  ·obtain ⟨l, hl, _⟩ := jP D x.1 hk
   rw [if_pos hk, hl, List.getD, hl];simp only [Option.getD_some, Option.map_some, zHm, zJb hF]
  ·rw [if_neg hk, List.getElem?_eq_none (Nat.le_of_not_lt hk)]
 ·rw [if_neg e]
theorem zEI {F : Cel → Cel} (hF : ∀ c, (F c).r = c.r) : ∀ (xs : List (Nat × Nat × Nat)) (D : Doc), zAc (xB (fun cs i j => jX F i j cs) D xs) = zAc D
 | [], _ => rfl
 | x :: xs, D => (zEI hF xs (setRow (fun cs i j => jX F i j cs) D x)).trans (zIq hF D x)
theorem zKv {F : Cel → Cel} (hF : ∀ c, (F c).r = c.r) {d : Doc} {a b : Ps} {X : Doc} (h : xG (fun cs i j => jX F i j cs) d a b = (X, 0)) : zAc X = zAc d := by
 obtain ⟨_, _, rfl⟩ := zHe h;exact zEI hF _ _
structure Stays (s t : St) : Prop where
 may : mayS t = true
 anc : t.anc = s.anc
 foc : t.foc = s.foc
 strip : zAc t.lines = zAc s.lines
theorem Stays.refl {s : St} (h : mayS s = true) : Stays s s := ⟨h, rfl, rfl, rfl⟩
theorem Stays.trans {s t u : St} (h : Stays s t) (k : Stays t u) : Stays s u := ⟨k.may, k.anc.trans h.anc, k.foc.trans h.foc, k.strip.trans h.strip⟩
def zHl (s : St) (x : St × Int) : Prop := (x.2 = 0 ∧ Stays s x.1) ∨ (x.1 = noS ∧ (x.2 = 7 ∨ x.2 = 1))
theorem zDH {s : St} (hm : mayS s = true) {F : Cel → Cel} (hF : ∀ c, mayC c = true → mayC (F c) = true) (hr : ∀ c, (F c).r = c.r) (a b : Ps) : zHl s (yM s (xG (fun cs i j => jX F i j cs) s.lines a b)) := by
 obtain ⟨X, e, h⟩ : ∃ X e, xG (fun cs i j => jX F i j cs) s.lines a b = (X, e) := ⟨_, _, rfl⟩
 by_cases h0 : e = 0
 ·subst h0
  obtain ⟨_, _, h3, h4, _, _⟩ := zKw hF h;rw [h];unfold yM;rw [if_pos rfl];exact .inl ⟨rfl, zLh hm h3 h4, rfl, rfl, zKv hr h⟩
 ·rw [h]
  unfold yM;rw [if_neg h0];refine .inr ⟨rfl, ?_⟩;have h1 : (xG (fun cs i j => jX F i j cs) s.lines a b).2 = e := by rw [h]
  unfold xG at h1
  split at h1
  ·split at h1
   ·exact .inl h1.symm
   ·exact absurd h1.symm h0
  ·exact .inr h1.symm
theorem zGj {x : Int} (hx : -9223372036854775808 ≤ x ∧ x ≤ 9223372036854775807) (h : bits .andNot .i64 x 15 = 0) : 0 ≤ x ∧ x ≤ 15 := by
 have := zKF x hx;rw [h] at this
 simpa using this.symm
end Go.Proofs.Qw
namespace Go.Proofs.Qw
def xH : Nat → Doc → List Ps
 | _, [] => []
 | i, l :: d => (List.range (l.cells.length + 1)).map (fun (k : Nat) => (⟨(i : Int), (k : Int)⟩ : Ps)) ++ xH (i + 1) d
def yD (d : Doc) : List Ps := xH 0 d
theorem zEC : ∀ (d : Doc) (i : Nat), (xH i d).length = jH d + d.length
 | [], _ => rfl
 | l :: d, i => by
  rw [xH, List.length_append, zEC d, List.length_map, List.length_range];simp only [jH, List.map_cons, List.sum_cons, List.length_cons]
  omega
theorem zHK (d : Doc) : (yD d).length = jH d + d.length := zEC d 0
end Go.Proofs.Qw
namespace Go.Proofs.YtcliojeoindceaaGreatDoor
open Go.RowKit
open Go.Proofs.Qw
open _root_.List renaming getElem?_eq_some_iff → zK, length_append → zS
theorem zDp : ∀ (d : Doc) (i k : Nat) (p : Ps), (xH i d)[k]? = some p → ∃ m : Nat, p.line = ((i + m : Nat) : Int) ∧ m < d.length ∧ 0 ≤ p.col ∧ p.col ≤ ((d.getD m default).cells.length : Int) ∧ (k : Int) = jH (d.take m) + m + p.col
 | [], i, k, p, h => by simp [xH] at h
 | l :: d, i, k, p, h => by
  rw [xH] at h
  by_cases hk : k < l.cells.length + 1
  ·rw [List.getElem?_append_left (by simpa using hk), List.getElem?_map, List.getElem?_range hk] at h
   cases h;refine ⟨0, by simp, by simp, by simp, by simp; omega, by simp [jH]⟩
  ·rw [List.getElem?_append_right (by simpa using hk)] at h
   simp only [List.length_map, List.length_range] at h;obtain ⟨m, h1, h2, h3, h4, h5⟩ := zDp d (i + 1) _ p h;refine ⟨m + 1, by rw [h1]; congr 1; omega, by simpa using h2, h3, by simpa using h4, ?_⟩;simp only [jH, List.take_succ_cons, List.map_cons, List.sum_cons] at h5 ⊢
   omega
theorem zAk : ∀ (d : Doc) (i m j : Nat), m < d.length → j ≤ (d.getD m default).cells.length → (xH i d)[jH (d.take m) + m + j]? = some ⟨((i + m : Nat) : Int), j⟩
 | [], i, m, j, h, _ => by cases h
 | l :: d, i, 0, j, _, h => by
  have h : j ≤ l.cells.length := h;rw [xH, List.getElem?_append_left (by simp [jH]; omega), List.getElem?_map];simp only [List.take_zero, jH, List.map_nil, List.sum_nil, Nat.zero_add];rw [List.getElem?_range qD]
  rfl
 | l :: d, i, m + 1, j, hm, h => by
  have ih := zAk d (i + 1) m j (by simpa using hm) (by simpa using h)
  have e : jH ((l :: d).take (m + 1)) + (m + 1) + j = (l.cells.length + 1) + (jH (d.take m) + m + j) := by
   simp only [jH, List.take_succ_cons, List.map_cons, List.sum_cons]
   omega
  rw [xH, e, List.getElem?_append_right qF];simp only [List.length_map, List.length_range];rw [Nat.add_sub_cancel_left, ih]
  congr 2
  omega
theorem zCy {d : Doc} {k : Nat} {p : Ps} (h : (yD d)[k]? = some p) : offD d p = ((k : Int), 0) := by
 obtain ⟨m, h1, h2, h3, h4, h5⟩ := zDp d 0 k p h;obtain ⟨a, b⟩ := p;simp only [Nat.zero_add] at h1;subst h1;obtain ⟨l, hl, _⟩ := jP d m h2;have hg : d.getD m default = l := by simp [List.getD, hl]
 rw [hg] at h4;unfold offD;rw [zAv hl];simp only at h3 h4 h5;rw [if_pos (by simp [h3, h4])]
 simp
 omega
theorem zFx : ∀ (d : Doc) (i : Nat) (n : Int), atGo i d n = if h : 0 ≤ n ∧ n < (xH i d).length then ((xH i d)[n.toNat]'qD, 0) else (⟨0, 0⟩, 1)
 | [], i, n => by
  rw [dif_neg (by simp [xH])]
  rfl
 | l :: d, i, n => by
  by_cases h0 : n < 0
  ·rw [zGS h0, dif_neg qD]
  ·by_cases h1 : n ≤ l.cells.length
   ·rw [atGo, if_neg h0, if_pos h1, dif_pos ⟨by omega, by simp [xH]; omega⟩]
    congr 1
    simp only [xH];rw [List.getElem_append_left jB]
    simp
    omega
   ·rw [atGo, if_neg h0, if_neg h1, zFx d]
    by_cases h2 : n < (xH i (l :: d)).length
    ·have h2' := h2
     simp only [xH, zS, List.length_map, List.length_range] at h2';rw [dif_pos ⟨by omega, by omega⟩, dif_pos ⟨by omega, h2⟩]
     congr 1
     simp only [xH];rw [List.getElem_append_right jB]
     congr 1
     simp
     omega
    ·have h2' := h2
     simp only [xH, zS, List.length_map, List.length_range] at h2';rw [dif_neg qD, dif_neg qD]
theorem zCH {d : Doc} {n : Nat} {p : Ps} (h : (yD d)[n]? = some p) : atD d n = (p, 0) := by
 obtain ⟨h1, h2⟩ := zK.1 h;unfold atD;rw [zFx, dif_pos ⟨by omega, by unfold yD at h1; omega⟩];simp only [Int.toNat_natCast];rw [show (xH 0 d)[n] = p from h2]
theorem zFk {d : Doc} (h : d ≠ []) : (yD d)[(yD d).length - 1]? = some (endD d) := by
 have hd : 0 < d.length := List.length_pos_iff.2 h;obtain ⟨l, hl, _⟩ := jP d (d.length - 1) qD;have hg : d.getD (d.length - 1) default = l := by simp [List.getD, hl]
 have e : endD d = ⟨((d.length - 1 : Nat) : Int), l.cells.length⟩ := by
  unfold endD;rw [if_neg h, List.getLastD_eq_getLast?, List.getLast?_eq_getElem?, hl];simp only [Option.getD_some, Ps.mk.injEq, and_true]
  omega
 have hs := zBI hl;rw [List.take_of_length_le qD] at hs;have := zAk d 0 (d.length - 1) l.cells.length qD (by rw [hg]; omega);simp only [Nat.zero_add] at this;rw [zHK, e];rw [show jH d + d.length - 1 = jH (d.take (d.length - 1)) + (d.length - 1) + l.cells.length by omega];exact this
theorem zBS {d : Doc} {p : Ps} (h : isD d p = true) : ∃ (i j : Nat) (l : Lin), p = ⟨i, j⟩ ∧ d[i]? = some l ∧ j ≤ l.cells.length := by
 obtain ⟨x, y⟩ := p
 by_cases hi : 0 ≤ x ∧ x < d.length
 ·obtain ⟨i, rfl⟩ := Int.eq_ofNat_of_zero_le hi.1
  obtain ⟨l, hl, _⟩ := jP d i qD;rw [zAv hl] at h;simp only [Bool.and_eq_true, decide_eq_true_eq] at h;obtain ⟨p, rfl⟩ := Int.eq_ofNat_of_zero_le h.1;exact ⟨i, p, l, rfl, hl, by omega⟩
 ·rw [zBR hi] at h
  cases h
theorem zMI {d : Doc} {p : Ps} (h : isD d p = true) : yO d p = p := by
 obtain ⟨i, j, l, rfl, hl, hj⟩ := zBS h;rw [zGw hl]
 congr 1
 omega
theorem zLo {d : Doc} {k : Nat} {p : Ps} (h : (yD d)[k]? = some p) : isD d p = true := by
 obtain ⟨m, h1, h2, h3, h4, _⟩ := zDp d 0 k p h;obtain ⟨x, y⟩ := p;simp only [Nat.zero_add] at h1;subst h1;obtain ⟨l, hl, _⟩ := jP d m h2;have hg : d.getD m default = l := by simp [List.getD, hl]
 rw [hg] at h4;rw [zAv hl];simp only at h3 h4;simp [h3, h4]
theorem zEU {d : Doc} {n : Nat} {p : Ps} (hp : (yD d)[n]? = some p) (m : Int) : kK d p m = if m < -(n : Int) then (⟨0, 0⟩, false) else if ((yD d).length : Int) - 1 - n < m then (endD d, false) else ((atD d (n + m)).1, true) := by
 have hne : d ≠ [] := by rintro rfl; simp [yD, xH] at hp
 have hl := zFk hne;have hn := (zK.1 hp).1;unfold kK;rw [if_neg hne, zMI (zLo hp), zCy hp, zCy hl];simp only;rw [show (((yD d).length - 1 : Nat) : Int) = ((yD d).length : Int) - 1 by omega]
end Go.Proofs.YtcliojeoindceaaGreatDoor
namespace Go.Proofs.Qw
open Go.RowKit Go.Proofs.YtcliojeoindceaaGreatDoor
def RngS (s : St) : Prop := (0 ≤ s.on ∧ s.on ≤ 15) ∧ (0 ≤ s.off ∧ s.off ≤ 15)
theorem zMW {s : St} (h : mayS s = true) (ho : -9223372036854775808 ≤ s.on ∧ s.on ≤ 9223372036854775807) (hf : -9223372036854775808 ≤ s.off ∧ s.off ≤ 9223372036854775807) : RngS s := by
 obtain ⟨_, _, _, h1, h2, _⟩ := yK h;exact ⟨zGj ho h1, zGj hf h2⟩
def zAx (s : St) (x : St × Int) : Prop := (x.2 = 0 ∧ Stays s x.1 ∧ RngS x.1) ∨ (x.1 = noS ∧ (x.2 = 7 ∨ x.2 = 1))
theorem zDK {s : St} {y : Doc × Int} (h : zHl s (yM s y)) : zAx s (yM s y) := by
 rcases h with ⟨h1, h2⟩ | h
 ·refine .inl ⟨h1, h2, ?_⟩
  unfold yM at h1 ⊢
  split
  ·exact ⟨⟨Int.le_refl 0, (by decide : (0 : Int) ≤ 15)⟩, ⟨Int.le_refl 0, (by decide : (0 : Int) ≤ 15)⟩⟩
  ·exact ⟨⟨Int.le_refl 0, (by decide : (0 : Int) ≤ 15)⟩, ⟨Int.le_refl 0, (by decide : (0 : Int) ≤ 15)⟩⟩
 ·exact .inr h
theorem zCI (s : St) {e : Int} (h : e = 7 ∨ e = 1) : zAx s (yM s ([], e)) := by
 refine .inr ⟨?_, ?_⟩
 ·unfold yM; rw [if_neg (by rcases h with rfl | rfl <;> decide)]
 ·unfold yM; rw [if_neg (by rcases h with rfl | rfl <;> decide)]; exact h
theorem zLS {s : St} (hm : mayS s = true) (h : List UInt8) : zAx s (xI s (zBs s h)) := by
 unfold xI zBs;rw [if_pos hm]
 split
 ·unfold vM
  split
  ·rename_i h2
   exact zDK (zDH hm (zFm h2) (fun _ => rfl) _ _)
  ·exact zCI s (.inr rfl)
 ·exact zCI s (.inr rfl)
theorem zJO {s : St} (hm : mayS s = true) : zAx s (xI s (uL s)) := by
 unfold xI uL;rw [if_pos hm]
 split
 ·unfold vM
  rw [if_pos (by simp [xD])];exact zDK (zDH hm (zFm (by simp [xD])) (fun _ => rfl) _ _)
 ·exact zCI s (.inl rfl)
theorem zEc {s : St} (hm : mayS s = true) {x y : Int} (hx : 0 ≤ x ∧ x ≤ 15) (hy : 0 ≤ y ∧ y ≤ 15) (a b : Ps) : zAx s (yM s (setD x y s.lines a b)) := by
 unfold setD;exact zDK (zDH hm (zJr hx hy) (fun _ => rfl) _ _)
theorem zKH {s : St} (hm : mayS s = true) : zAx s (xI s (zBm s)) := by
 unfold xI zBm;rw [if_pos hm]
 split
 ·exact zEc hm qW qW _ _
 ·exact zCI s (.inl rfl)
theorem zGL {b : Int} (h : four b = true) : 0 ≤ b ∧ b ≤ 15 := by
 rcases zAX h with rfl | rfl | rfl | rfl <;> decide
theorem zLi {c : Cel} (h : mayC c = true) : 0 ≤ c.bits ∧ c.bits ≤ 15 := by
 unfold mayC at h;simp only [Bool.and_eq_true, decide_eq_true_eq] at h;exact ⟨h.1.1.2, h.1.2⟩
theorem zGa {l : List Cel} (h : kC l = true) {k : Nat} (hk : k ≤ l.length) : 0 ≤ (kV l k).1 ∧ (kV l k).1 ≤ 15 := by
 have H : ∀ n, n < l.length → 0 ≤ (l.getD n default).bits ∧ (l.getD n default).bits ≤ 15 := fun n hn => by
  rw [List.getD_eq_getElem?_getD, List.getElem?_eq_getElem hn];exact zLi (List.all_eq_true.1 h _ (List.getElem_mem hn))
 unfold kV;simp only
 split
 ·exact H _ qD
 ·split
  ·exact H _ qD
  ·decide
theorem zJK {s : St} (hm : mayS s = true) (hc : s.anc = s.foc) :
  ∃ x, yH s = bits .or .i64 (bits .andNot .i64 x s.off) s.on ∧ 0 ≤ x ∧ x ≤ 15 := by
 obtain ⟨hM, hi, _⟩ := yK hm;obtain ⟨i, j, l, ha, hl, hj⟩ := zBS hi;refine ⟨(kV (yF s) s.anc.col.toNat).1, ?_, ?_⟩
 ·unfold yH; rw [if_pos hm, if_pos hc]
 ·have : yF s = l.cells := by
   unfold yF;rw [ha];simp only [Int.toNat_natCast];rw [List.getD_eq_getElem?_getD, hl]
   rfl
  rw [this, ha];exact zGa (uV ((xZ.1 hM).2.2.2 l (yI hl))) (by simpa using hj)
theorem zMR (on off x b : Int) (ho : 0 ≤ on ∧ on ≤ 15) (hf : 0 ≤ off ∧ off ≤ 15) (hx : 0 ≤ x ∧ x ≤ 15) (h0 : bits .and .i64 on off = 0) (hb : four b = true) :
  ∃ n m : Int, bits .or .i64 (bits .andNot .i64 on b) (bits .andNot .i64 b (bits .or .i64 (bits .andNot .i64 x off) on)) = n ∧ bits .or .i64 (bits .andNot .i64 off b) (bits .andNot .i64 b (bits .andNot .i64 b (bits .or .i64 (bits .andNot .i64 x off) on))) = m ∧
   bits .andNot .i64 n 15 = 0 ∧ bits .andNot .i64 m 15 = 0 ∧ bits .and .i64 n m = 0 ∧ (0 ≤ n ∧ n ≤ 15) ∧ (0 ≤ m ∧ m ≤ 15) := by
 obtain ⟨on, rfl⟩ := Int.eq_ofNat_of_zero_le ho.1;obtain ⟨off, rfl⟩ := Int.eq_ofNat_of_zero_le hf.1;obtain ⟨x, rfl⟩ := Int.eq_ofNat_of_zero_le hx.1
 have H : ∀ b ∈ [(1 : Int), 2, 4, 8], ∀ on off x : Fin 16, bits .and .i64 (on.val : Int) (off.val : Int) = 0 →
   (bits .andNot .i64 (bits .or .i64 (bits .andNot .i64 (on.val : Int) b) (bits .andNot .i64 b (bits .or .i64 (bits .andNot .i64 (x.val : Int) (off.val : Int)) (on.val : Int)))) 15 = 0 ∧
    bits .andNot .i64 (bits .or .i64 (bits .andNot .i64 (off.val : Int) b) (bits .andNot .i64 b (bits .andNot .i64 b (bits .or .i64 (bits .andNot .i64 (x.val : Int) (off.val : Int)) (on.val : Int))))) 15 = 0 ∧
    bits .and .i64 (bits .or .i64 (bits .andNot .i64 (on.val : Int) b) (bits .andNot .i64 b (bits .or .i64 (bits .andNot .i64 (x.val : Int) (off.val : Int)) (on.val : Int)))) (bits .or .i64 (bits .andNot .i64 (off.val : Int) b) (bits .andNot .i64 b (bits .andNot .i64 b (bits .or .i64 (bits .andNot .i64 (x.val : Int) (off.val : Int)) (on.val : Int))))) = 0 ∧
    (0 ≤ bits .or .i64 (bits .andNot .i64 (on.val : Int) b) (bits .andNot .i64 b (bits .or .i64 (bits .andNot .i64 (x.val : Int) (off.val : Int)) (on.val : Int))) ∧ bits .or .i64 (bits .andNot .i64 (on.val : Int) b) (bits .andNot .i64 b (bits .or .i64 (bits .andNot .i64 (x.val : Int) (off.val : Int)) (on.val : Int))) ≤ 15) ∧
    (0 ≤ bits .or .i64 (bits .andNot .i64 (off.val : Int) b) (bits .andNot .i64 b (bits .andNot .i64 b (bits .or .i64 (bits .andNot .i64 (x.val : Int) (off.val : Int)) (on.val : Int)))) ∧ bits .or .i64 (bits .andNot .i64 (off.val : Int) b) (bits .andNot .i64 b (bits .andNot .i64 b (bits .or .i64 (bits .andNot .i64 (x.val : Int) (off.val : Int)) (on.val : Int)))) ≤ 15)) := by decide +kernel
 have hm : b ∈ [(1 : Int), 2, 4, 8] := by rcases zAX hb with rfl | rfl | rfl | rfl <;> simp
 have h1 := H b hm ⟨on, by omega⟩ ⟨off, by omega⟩ ⟨x, by omega⟩ h0;exact ⟨_, _, rfl, rfl, h1⟩
theorem zJP {s : St} (hm : mayS s = true) (hr : RngS s) {b : Int} (hb : four b = true) : zAx s (vS s b) := by
 unfold vS;rw [if_pos ⟨hm, hb⟩];obtain ⟨hM, hi, hf, h1, h2, h3⟩ := yK hm
 split
 ·rename_i hc
  obtain ⟨x, hx, hxr⟩ := zJK hm hc;obtain ⟨n, m, e1, e2, k1, k2, k3, k4, k5⟩ := zMR s.on s.off x b hr.1 hr.2 hxr h3 hb;unfold togC;rw [hx, e1, e2];refine .inl ⟨rfl, ⟨?_, rfl, rfl, rfl⟩, k4, k5⟩;unfold mayS;simp only [hM, hi, hf, k1, k2, k3, Bool.and_eq_true, beq_self_eq_true, and_true]
 ·unfold togD
  split
  ·exact zEc hm qW (zGL hb) _ _
  ·exact zEc hm (zGL hb) qW _ _
end Go.Proofs.Qw
namespace Go.Proofs.YtcliojeoindceaaGreatDoor
open Go.RowKit
open Go.Proofs.Qw
attribute [local go_sem] Oper.semAt_some
open _root_.Nat renaming le_refl → zC, le_trans → zD
open _root_.Array renaming getElem?_eq_some_iff → zL
def yG (Bs : Nat) (W : World) : Option Nat := (W.cell? ⟨Bs, 0, none⟩).bind Value.ownBlock
structure Kd (n₀ base Bs : Nat) (W W' : World) : Prop where
 below : Below n₀ W W'
 cells : ∀ k o, base ≤ k → W.heap[k]? = some o → o.isCells = true → yG Bs W ≠ some k → W'.heap[k]? = some o
 own : yG Bs W' = yG Bs W ∨ ∃ j, yG Bs W' = some j ∧ W.heap.size ≤ j
theorem Kd.t {n₀ base Bs : Nat} {A B C : World} (h : Kd n₀ base Bs A B) (k : Kd n₀ base Bs B C) : Kd n₀ base Bs A C := by
 refine ⟨h.below.trans k.below, fun i o hi ho hc hn => k.cells i o hi (h.cells i o hi ho hc hn) hc ?_, ?_⟩
 ·rcases h.own with e | ⟨j, e, hj⟩
  ·rw [e]; exact hn
  ·rw [e]
   intro e2;cases e2;have := (zL.1 ho).1
   omega
 ·rcases k.own with e | ⟨j, e, hj⟩
  ·rw [e]; exact h.own
  ·exact .inr ⟨j, e, zD h.below.size hj⟩
theorem Kd.of_below {n₀ base Bs : Nat} {W W' : World} (hn : n₀ ≤ W.heap.size) (hs : Bs < W.heap.size) (hb : Below W.heap.size W W') : Kd n₀ base Bs W W' :=
 ⟨hb.mono hn, fun k _ _ hk _ _ => (hb.block k (zL.1 hk).1).trans hk, .inl (by unfold yG; rw [hb.cell (p := ⟨Bs, 0, none⟩) hs])⟩
theorem Kd.b {n₀ base Bs : Nat} {w : World} (hn : n₀ ≤ w.heap.size) (hs : Bs < w.heap.size) (W : World) (l : Nat) (o o' : Obj) (hl : w.heap.size ≤ l) (h : W.heap[l]? = some o) (hc : o.isCells = false) (hw : o.isWalk = false) : Kd n₀ base Bs W (W.putObj l o') :=
 ⟨belowK_b hn W l o o' hl h hc hw, fun k u _ hk hu _ => by
  rw [World.putObj_heap_other (fun e => by subst e; rw [h] at hk; cases hk; rw [hc] at hu; cases hu)]; exact hk, .inl (by
  unfold yG;rw [World.cell?_of_block (World.putObj_heap_other (by show Bs ≠ l; omega))])⟩
theorem Kd.setCell {n₀ base Bs : Nat} (W : World) {B o : Nat} (h1 : n₀ ≤ B) (h2 : B < base) (h3 : B ≠ Bs) (v : Value) : Kd n₀ base Bs W (W.setCell ⟨B, o, none⟩ v) :=
 ⟨(Below.refl _ _).setCell h1 _, fun k u hk h _ _ => by rw [Below.heap_setCell _ _ _ _ jB]; exact h, .inl (by
  unfold yG;rw [World.cell?_of_block (Below.heap_setCell _ _ _ _ jB)])⟩
theorem Kd.append {n₀ base Bs : Nat} {w w' : World} {v v' : Value} (h : w.heap[Bs]? = some (.cells #[v] 58)) (hne : v.ownBlock ≠ some Bs) (hg : w.grownBy w' v.ownBlock) (hb : Below n₀ w w') (hv : v'.ownBlock = v.ownBlock ∨ v'.ownBlock = some w.heap.size) (h1 : n₀ ≤ Bs) (h2 : Bs < base) : Kd n₀ base Bs w (w'.setCell ⟨Bs, 0, none⟩ v') := by
 have hlt := (zL.1 h).1;have h' : w'.heap[Bs]? = some (.cells #[v] 58) := (hg.block Bs hlt (fun e => hne e.symm)).trans h;have o1 : yG Bs w = v.ownBlock := by unfold yG; rw [jT h]; rfl
 have o2 : yG Bs (w'.setCell ⟨Bs, 0, none⟩ v') = v'.ownBlock := by unfold yG; rw [jT (yW h' v')]; rfl
 refine ⟨hb.setCell h1 _, fun k o hk ho _ hn => ?_, ?_⟩
 ·rw [Below.heap_setCell _ _ _ _ jB]
  exact (hg.block k (zL.1 ho).1 (fun e => hn (o1.trans e.symm))).trans ho
 ·rw [o1, o2]
  rcases hv with e | e
  ·exact .inl e
  ·exact .inr ⟨_, e, zC _⟩
theorem zKE {w : World} {b o : Nat} {u : Value} (h : w.cell? ⟨b, o, none⟩ = some u) : ∃ ob, w.heap[b]? = some ob ∧ ob.isCells = true := by
 unfold World.cell? at h
 split at h
 ·rename_i c t f e
  exact ⟨_, e, rfl⟩
 ·cases h
structure KC (W2 : World) (Z Bs n₀ : Nat) (w0 wr : World) : Prop where
 cell : ∀ b o u, Z ≤ b → b < W2.heap.size → W2.cell? ⟨b, o, none⟩ = some u → wr.cell? ⟨b, o, none⟩ = some u
 own : ∀ k, yG Bs wr = some k → W2.heap.size ≤ k
 size : W2.heap.size ≤ wr.heap.size
 below : Below n₀ w0 wr
theorem KC.go {W2 : World} {Z Bs n₀ base : Nat} {w0 wr wr' : World} (h : KC W2 Z Bs n₀ w0 wr) (hz : base ≤ Z) (k : Kd n₀ base Bs wr wr') : KC W2 Z Bs n₀ w0 wr' := by
 refine ⟨fun b o u h1 h2 h3 => ?_, fun j hj => ?_, zD h.size k.below.size, h.below.trans k.below⟩
 ·have hc := h.cell b o u h1 h2 h3
  obtain ⟨ob, e1, e2⟩ := zKE hc;have e3 := k.cells b ob (zD hz h1) e1 e2 (fun e => by have := h.own b e; omega);rw [World.cell?_of_block (w := wr) (e3.trans e1.symm)];exact hc
 ·rcases k.own with e | ⟨i, e, hi⟩
  ·exact h.own j (e.symm.trans hj)
  ·rw [e] at hj
   cases hj;exact zD h.size hi
theorem KC.start {W2 : World} {Z Bs n₀ : Nat} {w0 : World} (hb : Below n₀ w0 W2) (ho : yG Bs W2 = none) : KC W2 Z Bs n₀ w0 W2 :=
 ⟨fun _ _ _ _ _ h => h, fun k hk => (by rw [ho] at hk; cases hk), zC _, hb⟩
theorem zDk {P : Program} {F : Fence} {n : Nat} {α : Type} {g : Operand} {ps : Array Tmp} {assign body : Code} {Q : Exit → Act → World → Prop} {a : Act} {w : World}
  (hro : F.round = none) (h1 : 1 ≤ n) {gf : Nat} {lb : Array Value} (hg : a.eval g = .func (.func gf) #[] lb) (hFg : F.fn gf) (eg : ∀ args w, (callFunc gf args).run P w = .ok (.enter gf args) w)
  {encs : α → Array Value} {n₀ base Bs : Nat} {S Sp : List α → Prop} {N : Nat} {w0 : World} (hseq : SeqStopsK F (n - 1) P gf lb encs (Kd n₀ base Bs) S Sp N w0)
  (hn : n₀ ≤ w.heap.size) (hBs : Bs < w.heap.size) (hb0 : Below w0.heap.size w0 w) (hps : ∀ x, (encs x).size = ps.size)
  (I : List α → World → Prop) (Ix : Code → List α → World → Prop) (hI : OwnFrom w.heap.size I) (hIx : ∀ c, OwnFrom w.heap.size (Ix c)) (h0 : I [] w) (hIz : ∀ pre W, I pre W → w.heap.size ≤ W.heap.size)
  (rc : α → Array Value) (rt : TypeId) (act : Nat → α → Act)
  (hassign : ∀ (l : Nat) (pre : List α) (x : α) (W : World) (K : Act → World → Prop) (Bx : Nat), Bx = W.heap.size → I pre W → K (act Bx x) (W.alloc (.cells (rc x) rt)) →
   assign.wpIn (F.inRound l) (n - 1 - 1) P (Exit.then K (fun _ _ _ => False)) { tmps := (ps.zip (encs x)).foldl (fun t (p, v) => t.setIfInBounds p v) a.tmps, defers := [] } W)
  (hbody : ∀ (l : Nat) (pre : List α) (x : α) (Bx : Nat) (W : World), I pre W → w.heap.size ≤ Bx → W.heap[Bx]? = some (.cells (rc x) rt) → pre.length < N → body.wpIn (F.inRound l) (n - 1 - 1) P (ownPostG w.heap.size (Kd n₀ base Bs) I Ix (pre ++ [x]) W) (act Bx x) W)
  (hdone : ∀ (D : Nat) (xs : List α) (W : World), w.heap.size ≤ D → S xs → I xs W → W.heap[D]? = some (.deferred (some [])) → Q .normal { a with defers := { target := .collected D, args := #[] } :: a.defers } W)
  (hstop : ∀ (D : Nat) (c : Code) (pre : List α) (W : World), w.heap.size ≤ D → Sp pre → Ix c pre W → W.heap[D]? = some (.deferred (some [])) → c.wpIn F n P Q { a with defers := { target := .collected D, args := #[] } :: a.defers } W) :
  (Code.rangeFunc g ps assign body).wpIn F n P Q a w := by
 refine wpIn_rangeFunc_ownH hro h1 hg hFg eg hseq (fun h k => h.t k) (Kd.b hn hBs) hb0 hps I Ix hI hIx h0
  (fun x a' W => ∃ Bx, w.heap.size ≤ Bx ∧ W.heap[Bx]? = some (.cells (rc x) rt) ∧ a' = act Bx x) ?_ ?_ ?_ hdone hstop
 ·intro x a' _ X Y row hs hg hr
  obtain ⟨Bx, h1, h2, h3⟩ := hs;exact ⟨Bx, h1, (hg.block Bx (zL.1 h2).1 (fun e => by obtain ⟨_, o, ho, hc⟩ := hr Bx e.symm; rw [h2] at ho; cases ho; cases hc)).trans h2, h3⟩
 ·intro l pre x W K hi hK
  exact hassign l pre x W K _ rfl hi (hK _ _ ((KeepsOthers.alloc _ _).from _) (Kd.of_below (zD hn (hIz _ _ hi)) (Nat.lt_of_lt_of_le hBs (hIz _ _ hi)) ((Below.refl _ _).alloc (zC _) _)) (hI.alloc _ hi) ⟨_, hIz _ _ hi, jF _ _ rfl, rfl⟩)
 ·intro l pre x a' W hl hr hi ha hlt
  obtain ⟨Bx, h1, h2, rfl⟩ := ha;exact hbody l pre x Bx W hi h1 h2 hlt
end Go.Proofs.YtcliojeoindceaaGreatDoor
namespace Go.Proofs.Qw
open Go.RowKit Go.Proofs.YtcliojeoindceaaGreatDoor
theorem zKf (d : Doc) (a b : Ps) : (vB d a b).1.flatMap (·.cells) = cellsD d a b := by
 unfold vB cellsD
 split
 ·rw [List.flatMap_map]; rfl
 ·rfl
end Go.Proofs.Qw
namespace Go.Proofs.YtcliojeoindceaaGreatDoor
open Go.RowKit
open Go.Proofs.Qw
attribute [local go_sem] Oper.semAt_some
open _root_.Go.Lib renaming hid → zA
open _root_.And renaming intro → zB
open _root_.Nat renaming le_refl → zC, le_trans → zD
open _root_.Go.RowKit.Below renaming refl → zE
open _root_.Int renaming natCast_nonneg → zR
open _root_.List renaming length_append → zS
open _root_.Go.Proofs.Tryz renaming prog → zV
open _root_.Go.Proofs.Qw renaming jZ → qC
open _root_.Go.Proofs.Qw.SliceR renaming stable → qH
theorem zDv (va : Option Addr) (vn vc : Nat) (a b : Ps) (w : World) :
  Calls zV 124 #[.slice va vn vc, .agg #[.int .i64 a.line, .int .i64 a.col], .agg #[.int .i64 b.line, .int .i64 b.col]] w fun e w' => e = .returned (.func (.func 204) #[] #[.pointer (some ⟨w.heap.size, 0, none⟩), .pointer (some ⟨w.heap.size + 1, 0, none⟩), .pointer (some ⟨w.heap.size + 2, 0, none⟩)]) ∧
   w' = ((w.alloc (.cells #[.slice va vn vc] 22)).alloc (.cells #[.int .i64 a.line, .int .i64 a.col] 24)).alloc (.cells #[.int .i64 b.line, .int .i64 b.col] 24) := by
 go_enter Tryz.func124, Tryz.ntmps124;go_wp2_with fail;go_ret;exact ⟨rfl, rfl⟩
set_option maxRecDepth 200000 in
theorem zDw (n l Bd Ba Bb base Bs : Nat) (v : Value) (d : Doc) (a b : Ps) (S : Nat → Prop) (J Jx : List Cel → World → Prop) (w0 W : World) (hv : jD w0 S v d) (he : EnvT w0) (hs : Small d) (hf : Fits d) (hb0 : Below w0.heap.size w0 W)
  (hbase : base ≤ W.heap.size) (hD : W.heap[Bd]? = some (.cells #[v] 22)) (hA : W.heap[Ba]? = some (.cells #[.int .i64 a.line, .int .i64 a.col] 24)) (hB : W.heap[Bb]? = some (.cells #[.int .i64 b.line, .int .i64 b.col] 24))
  (hBs : Bs < W.heap.size) (hown : yG Bs W = none) (hJ : AbidesFrom W.heap.size J)
  (hY : ∀ (pre : List Cel) (x : Cel) W, J pre W → pre.length < 200000 → YieldAt Fence.wide (n - 1) zV l #[celV x] W fun e W' =>
   (e = .returned (.bool true) ∧ J (pre ++ [x]) W' ∧ Kd w0.heap.size base Bs W W') ∨ (e = .returned (.bool false) ∧ Jx (pre ++ [x]) W'))
  (h0 : J [] W) :
  CallsIn Fence.wide n zV 204 #[.func (.yield l) #[] #[], .pointer (some ⟨Bd, 0, none⟩), .pointer (some ⟨Ba, 0, none⟩), .pointer (some ⟨Bb, 0, none⟩)] W fun e W' => (∃ v, e = .returned v) ∧
   ((∃ ys : List Cel, ys = cellsD d a b ∧ J ys W') ∨ (∃ pre : List Cel, pre <+: cellsD d a b ∧ Jx pre W')) := by
 refine callsIn_of_wp Tryz.func204 rfl trivial ?_ rfl;simp only [Tryz.ntmps204, List.size_toArray, List.length_cons, List.length_nil, Nat.reduceAdd, Nat.reduceSub, Array.replicate_succ, Array.replicate_zero, List.push_toArray, List.append_toArray, List.nil_append, List.cons_append];have hwf : ∀ f, Fence.wide.fn f := fun _ => trivial;have hwd : Fence.wide.depth = none := rfl;have hz0 := hb0.size;have HP := zA (zFq v d a b W S (SliceR.below (jW _) hv hb0) (he.below hb0) hs hf);obtain ⟨P, er, hP⟩ : ∃ P er, vB d a b = (P, er) := ⟨_, _, rfl⟩;have HC : Hid (P.flatMap (·.cells) = cellsD d a b) := zA (by rw [← zKf, hP]);have HCL : Hid ((P.flatMap (·.cells)).length ≤ 100000) := zA (by rw [HC.out]; exact zD (zBG d a b) hs.1);rw [hP] at HP;obtain ⟨va, vc, rfl⟩ := hv.slice;have HY := zA hY;have HJA := zA hJ;have HB0 := zA hb0;obtain ⟨p1, f1⟩ := blk hD;obtain ⟨p2, f2⟩ := blk hA;obtain ⟨p3, f3⟩ := blk hB;clear hv he hs hf hY hJ hP hD hA hB
 gi_wp2_with (gi_at_call 205; refine (callsIn_wide.2 HP.out).mono ?_; intro e W2 hsaid; obtain ⟨v2, rfl, hv2, hb2⟩ := hsaid; have HV2 := zA hv2; have hvl := hv2.slice; clear hv2; obtain ⟨a2, c2, rfl⟩ := hvl)
 clear p1 f1 p2 f2 p3 f3 HP;have hz2 := hb2.size;have HB2 := zA hb2
 have HKC0 := zA (KC.start (W2 := W2) (Z := W.heap.size) (Bs := Bs) (jG HB0.out hb2) (by
  unfold yG;rw [hb2.cell (p := ⟨Bs, 0, none⟩) hBs];exact hown))
 have HJ2 := zA (zAU HJA.out h0 hb2);have HKD : Hid (∀ X Y, KC W2 W.heap.size Bs w0.heap.size w0 X → Below X.heap.size X Y → Kd w0.heap.size base Bs X Y) := zA fun X Y hX hb => Kd.of_below (by have := hX.size; omega) (by have := hX.size; omega) hb;clear hb2 hown h0 hb0
 have hPl : P.length ≤ 9223372036854775807 := by
  have hh := SliceR.len HV2.out;unfold maxLen at hh
  omega
 gi_loopw [20, 8, 10] (fun z _ _ wr => ∃ k : Nat, k ≤ P.length ∧ z = .int .i64 k ∧ Hid (J ((P.take k).flatMap (·.cells)) wr) ∧ Hid (KC W2 W.heap.size Bs w0.heap.size w0 wr) ∧ W2.heap.size ≤ wr.heap.size) (fun z _ _ _ => P.length - (intOf z).toNat)
 case atStart => exact ⟨0, Nat.zero_le _, rfl, HJ2, HKC0, zC _⟩
 case round =>
  obtain ⟨k, hk, rfl, HJ, HK, hzr⟩ := hrel
  by_cases hlt : k < P.length
  ·obtain ⟨ln, hln, _⟩ := jP P k hlt
   obtain ⟨b1, o1, c1, la, lc, ca, cc, hve, hc1, hm1, hAk, _, hCk, hS1⟩ := zAq HV2.out hln;cases hve;have hlt1 := hAk.lt;have c0 := HK.out.cell _ _ _ hS1 hlt1 hAk.quote;have c1' := HK.out.cell _ _ _ hS1 hlt1 hAk.lists;have c2' := HK.out.cell _ _ _ hS1 hlt1 hAk.kind;have c3 := HK.out.cell _ _ _ hS1 hlt1 hAk.cells;have HCK := zA hCk;have hcl := SliceR.len hCk;have HT : Hid ((P.take (k + 1)).flatMap (·.cells) = (P.take k).flatMap (·.cells) ++ ln.cells) := zA (by rw [vP hln, List.flatMap_append]; simp);have HPL : Hid ((P.take k).flatMap (·.cells) = (P.take k).flatMap (·.cells)) := zA rfl;obtain ⟨F, hF⟩ : ∃ F, (P.take k).flatMap (·.cells) = F := ⟨_, rfl⟩
   have HFL : Hid (F.length + ln.cells.length ≤ 100000) := zA (by
    have h1 : ((P.take (k + 1)).flatMap (·.cells)).length ≤ (P.flatMap (·.cells)).length := by
     conv => rhs; rw [← List.take_append_drop (k + 1) P, List.flatMap_append, zS]
     omega
    rw [HT.out, hF, zS] at h1;exact zD h1 HCL.out)
   rw [hF] at HJ HT;clear hF HPL hCk hAk;unfold maxLen at hm1 hcl;have i0 : (0 : Int) ≤ (k : Int) := zR _;have i1 : (k : Int) < (P.length : Int) := by omega
   gi_wp2_with fail
   obtain ⟨w4, hw4⟩ : ∃ w4, wr.alloc (.cells #[.int .i64 ln.quote, .slice la ln.lists.length lc, .int .i64 ln.kind, .slice ca ln.cells.length cc] 60) = w4 := ⟨_, rfl⟩;rw [hw4];have hb4 : Below wr.heap.size wr w4 := hw4 ▸ (zE _ _).alloc (zC _) _;have HJ4 := zA (zAU HJA.out HJ.out hb4);have HK4 := zA (HK.out.go hbase (HKD.out _ _ HK.out hb4));have hz4 := hb4.size;clear hw4 hb4
   gi_loopw [27, 10] (fun z _ wr => ∃ m : Nat, m ≤ ln.cells.length ∧ z = .int .i64 m ∧ Hid (J (F ++ ln.cells.take m) wr) ∧ Hid (KC W2 W.heap.size Bs w0.heap.size w0 wr) ∧ W2.heap.size ≤ wr.heap.size) (fun z _ _ => ln.cells.length - (intOf z).toNat)
   case atStart => exact ⟨0, Nat.zero_le _, rfl, zA (by simpa using HJ4.out), HK4, by omega⟩
   case round =>
    obtain ⟨m, hm, rfl, HJm, HKm, hzm⟩ := hrel
    by_cases hlt2 : m < ln.cells.length
    ·obtain ⟨x, hx, _⟩ := jP ln.cells m hlt2
     obtain ⟨a5, c5, hve5, hcc5, hmm5, hx5⟩ := SliceR.shape_own HCK.out;cases hve5;obtain ⟨b5, o5, vs5, cs5, rfl, hz5, hS5, _, _, _, hvs5, he5⟩ := hx5 m x hx;cases hvs5;have d0 : wr.cell? ⟨b5, o5 + m * 3, none⟩ = some (.int .i32 x.r) := HKm.out.cell _ _ _ hS5 hz5 (he5 0 _ rfl);have d1 : wr.cell? ⟨b5, o5 + m * 3 + 1, none⟩ = some (.int .i64 x.bits) := HKm.out.cell _ _ _ hS5 hz5 (he5 1 _ rfl);have d2 : wr.cell? ⟨b5, o5 + m * 3 + 2, none⟩ = some (.string ⟨x.href.toArray⟩) := HKm.out.cell _ _ _ hS5 hz5 (he5 2 _ rfl);have HTm : Hid (F ++ ln.cells.take (m + 1) = F ++ ln.cells.take m ++ [x]) := zA (by rw [vP hx, List.append_assoc])
     have HPre : Hid (F ++ ln.cells.take m ++ [x] <+: cellsD d a b) := zA (by
      rw [← HTm.out, ← HC.out];refine List.IsPrefix.trans (l₂ := F ++ ln.cells) ((List.prefix_append_right_inj F).2 (List.take_prefix _ _)) ?_;rw [← HT.out];exact ⟨(P.drop (k + 1)).flatMap (·.cells), by rw [← List.flatMap_append, List.take_append_drop]⟩)
     clear hx5 he5;have j0 : (0 : Int) ≤ (m : Int) := zR _;have j1 : (m : Int) < (ln.cells.length : Int) := by omega
     have hb6 : Below wr.heap.size wr (wr.alloc (.cells #[.int .i32 x.r, .int .i64 x.bits, .string ⟨x.href.toArray⟩] 57)) := (zE _ _).alloc (zC _) _;have HK6 := zA (HKm.out.go hbase (HKD.out _ _ HKm.out hb6));have hYY := HY.out _ x _ (zAU HJA.out HJm.out hb6) (by rw [zS, List.length_take]; have := HFL.out; omega);clear hb6;unfold celV at hYY;obtain ⟨fn, tmps, assign, body, hy, hR⟩ := hYY
     gi_wp2_with fail
     refine hR.mono ?_;rintro e w7 (⟨rfl, hJ7, hk7⟩ | ⟨rfl, hJx7⟩)
     ·have HJ7 := zA hJ7
      have HK7 := zA (HK6.out.go hbase hk7);have hz7 := HK7.out.size;clear hJ7 hk7;rw [← HTm.out] at HJ7
      gi_wp2_with fail
      go_roundw
      case rel => exact ⟨m + 1, by omega, by go_num, HJ7, HK7, hz7⟩
      case measure => simp [intOf]; omega
     ·gi_wp2_with fail
      refine bodyPost_ret (results_none rfl _ _ _) rfl ?_;exact ⟨⟨_, rfl⟩, .inr ⟨_, HPre.out, hJx7⟩⟩
    ·obtain rfl : m = ln.cells.length := by omega
     rw [List.take_length, ← HT.out] at HJm
     gi_wp2_with fail
     go_roundw
     case rel => exact ⟨k + 1, by omega, by go_num, HJm, HKm, hzm⟩
     case measure => simp [intOf]; omega
  ·obtain rfl : k = P.length := by omega
   rw [List.take_length, HC.out] at HJ
   gi_wp2_with fail
   go_end0;exact ⟨⟨_, rfl⟩, .inl ⟨_, rfl, HJ.out⟩⟩
theorem zGR {β : Type} (B : Nat) (S : Nat → Prop) (v : Value) (f : β → List Cel) : OwnFrom B (fun (s : β) (W : World) => jE true W S v (f s)) := fun s X Y row hs hg hr => by
 cases row with
 | none => exact qH (qC _) hs ⟨hg.size, fun b _ hz => hg.block b hz qF⟩ (fun _ h _ => h)
 | some k =>
  obtain ⟨_, o, ho, hc⟩ := hr k rfl;exact qH (qC _) (SliceR.avoidO hs ho hc) ⟨hg.size, fun b hb hz => hg.block b hz (by intro e; cases e; exact hb.2 rfl)⟩ (fun _ h _ => h.1)
def CI (w : World) (Z : Nat) (pre : List Cel) (W : World) : Prop :=
 ∃ v, W.heap[w.heap.size]? = some (.cells #[v] 58) ∧ jE true W (fun b => Z ≤ b) v pre ∧ (v = .slice none 0 0 ∨ pre ≠ []) ∧ Below w.heap.size w W ∧ Z ≤ W.heap.size
theorem zNJ {w : World} {Z B : Nat} (hB : w.heap.size ≤ B) : OwnFrom B (CI w Z) := fun s X Y row ⟨v, h1, h2, h3, h4, h5⟩ hg hr =>
 ⟨v, xP B _ _ _ s X Y row h1 hg hr, zGR B _ v (fun s : List Cel => s) s X Y row h2 hg hr, h3, ownFrom_below (zC _) hB s X Y row h4 hg hr, uS B _ s X Y row h5 hg hr⟩
theorem zKZ {W : World} {Z : Nat} {v : Value} {xs : List Cel} (h : jE true W (fun b => Z ≤ b) v xs) (hne : v = .slice none 0 0 ∨ xs ≠ []) {k : Nat} (hk : k < Z) : v.ownBlock ≠ some k := by
 rcases hne with rfl | hne
 ·intro e; cases e
 ·obtain ⟨x, hx⟩ : ∃ x, xs[0]? = some x := by
   cases xs with
   | nil => exact absurd rfl hne
   | cons x l => exact ⟨x, rfl⟩
  obtain ⟨a, c, rfl, _, _, hxx⟩ := h.shape;obtain ⟨b, o, vs, rfl, _, hS, _⟩ := hxx 0 x hx;intro e;have e : some b = some k := e;have e2 : b = k := by injection e
  have hS : Z ≤ b := hS
  omega
theorem zMn (c : Cel) : ∀ u ∈ [Value.int .i32 c.r, .int .i64 c.bits, .string ⟨c.href.toArray⟩], u.oneCell' = true := by
 intro u hu;simp at hu;rcases hu with rfl | rfl | rfl <;> rfl
set_option maxRecDepth 200000 in
theorem zIg (Bd Ba Bb : Nat) (v : Value) (d : Doc) (a b : Ps) (w : World) (S : Nat → Prop) (h : jD w S v d) (he : EnvT w) (hs : Small d) (hf : Fits d)
  (hD : w.heap[Bd]? = some (.cells #[v] 22)) (hA : w.heap[Ba]? = some (.cells #[.int .i64 a.line, .int .i64 a.col] 24)) (hB : w.heap[Bb]? = some (.cells #[.int .i64 b.line, .int .i64 b.col] 24)) :
  Calls zV 203 #[.slice none 0 0, .func (.func 204) #[] #[.pointer (some ⟨Bd, 0, none⟩), .pointer (some ⟨Ba, 0, none⟩), .pointer (some ⟨Bb, 0, none⟩)]] w
   fun e w' => ∃ v', e = .returned v' ∧ jE true w' (fun b => w.heap.size ≤ b) v' (cellsD d a b) ∧ Below w.heap.size w w' := by
 obtain ⟨w6, hw6⟩ : ∃ w6, w.alloc (.cells #[.slice none 0 0] 58) = w6 := ⟨_, rfl⟩;have hb6 : Below w.heap.size w w6 := hw6 ▸ (zE _ _).alloc (zC _) _;have hz6 : w6.heap.size = w.heap.size + 1 := by rw [← hw6]; simp
 have m0 : w6.heap[w.heap.size]? = some (.cells #[.slice none 0 0] 58) := hw6 ▸ jF _ _ rfl;have HV := zA h;have HE := zA he;have HS := zA hs;have HF := zA hf;have HBX := zA (zB hD (zB hA hB));have HM := zA m0;have HL : Hid ((cellsD d a b).length ≤ 100000) := zA (zD (zBG d a b) hs.1);have hCI : CI w w6.heap.size [] w6 := ⟨_, m0, SliceR.nil _ _ _ _ _ _, .inl rfl, hb6, zC _⟩;obtain ⟨p0, f0⟩ := blk m0;clear h he hs hf hD hA hB m0;refine (callsIn_wide (n := 6)).1 ?_;refine callsIn_of_wp_marks Tryz.func203 rfl trivial ?_ rfl;simp only [Tryz.ntmps203, List.size_toArray, List.length_cons, List.length_nil, Nat.reduceAdd, Nat.reduceSub, Array.replicate_succ, Array.replicate_zero, List.push_toArray, List.append_toArray, List.nil_append, List.cons_append];have hwf : ∀ f, Fence.wide.fn f := fun _ => trivial;have hwd : Fence.wide.depth = none := rfl
 gi_wp2_with fail
 clear hw6 p0 f0
 refine zDk rfl qD (gf := 204) (lb := #[.pointer (some ⟨Bd, 0, none⟩), .pointer (some ⟨Ba, 0, none⟩), .pointer (some ⟨Bb, 0, none⟩)]) rfl trivial (enters_of Tryz.func204 zT rfl)
  (encs := fun c : Cel => #[celV c]) (n₀ := w.heap.size) (base := w6.heap.size) (Bs := w.heap.size) (S := fun ys => ys = cellsD d a b) (Sp := fun pre => pre <+: cellsD d a b) (N := 200000) (w0 := w6) ?seq qD qD (zE _ _) (fun _ => rfl)
  (CI w w6.heap.size) (fun _ _ _ => False) (zNJ qD) (fun _ _ _ _ _ hs _ _ => hs) hCI (fun _ _ ⟨_, _, _, _, _, h⟩ => h)
  (fun x => #[.int .i32 x.r, .int .i64 x.bits, .string ⟨x.href.toArray⟩]) 57 ?act ?assign ?body ?done ?stop
 case seq =>
  intro l J Jx W hW hJ _ hY h0;have hb0 := hb6.trans (hW.mono hb6.size)
  exact zDw 5 l Bd Ba Bb w6.heap.size w.heap.size v d a b S J Jx w W HV.out HE.out HS.out HF.out hb0 hW.size (jI hb0 HBX.out.1) (jI hb0 HBX.out.2.1) (jI hb0 HBX.out.2.2) (by have := hW.size; omega)
   (by unfold yG; rw [jT (jI hW HM.out)]; rfl) hJ hY h0
 case assign =>
  intro l pre x W K Bx hBx hI hK;unfold celV
  gi_wp2
  rw [← hBx];exact hK
 case body =>
  intro l pre x Bx W hI hBx hbx hlt;obtain ⟨v0, t0, hR, hne, hb, hz⟩ := hI;obtain ⟨s0, s0f⟩ := blk t0;obtain ⟨sx, sxf⟩ := blk hbx;have HA := zA (zB t0 hbx);have hb7 : ∀ ob, Below W.heap.size W (W.alloc ob) := fun ob => (zE _ _).alloc (zC _) _;have HB7 := zA hb7;have HR7 : Hid (∀ ob, jE true (W.alloc ob) (fun b => w6.heap.size ≤ b) v0 pre) := zA fun ob => SliceR.below (qC _) hR (hb7 ob);have HZ7 : Hid (∀ ob, w6.heap.size ≤ (W.alloc ob).heap.size) := zA fun ob => zD hz (hb7 ob).size;have HM7 : Hid (∀ ob, (W.alloc ob).heap[w.heap.size]? = some (.cells #[v0] 58)) := zA fun ob => jI (hb7 ob) t0;have HNE := zA hne;have HOB : Hid (v0.ownBlock ≠ some w.heap.size) := zA (zKZ hR hne qD);have HIN := zA (zB hb hz);have hl7 : pre.length + 1 ≤ 100000000 := by omega
  have HN7 : Hid (∀ ob, NewsR 3 (rdOf kX) (W.alloc ob) (fun b => w6.heap.size ≤ b) [.int .i32 x.r, .int .i64 x.bits, .string ⟨x.href.toArray⟩] [x]) := zA fun ob => NewsR.one rfl rfl;have hw2Z : w.heap.size < w6.heap.size := by omega
  obtain ⟨va0, na0, ca0, hva0⟩ := zAZ hR;subst hva0;clear hR hne hb hz hb7 t0 hbx
  gi_wp2_with (gi_at_builtin; go_must (refine zEz _ rfl _ _ 58 58 rfl uY zAa w6.heap.size (.slice va0 na0 ca0) _ (xs := pre) (ys := [x]) (news := [.int .i32 x.r, .int .i64 x.bits, .string ⟨x.href.toArray⟩]) rfl rfl (HR7.out _) (HZ7.out _) (zBl uY W _ rfl (zMn _) 1 rfl) (HN7.out _) hl7 ?_); intro v' w8 hR8 hB8 hG8 hO8; obtain ⟨a8, n8, c8, hv8⟩ := zAZ hR8; subst hv8; have HR8 := zA hR8; have HB8 := zA hB8; have HG8 := zA hG8; have HO8 := zA hO8; have m8 := (hB8.block _ hw2Z).trans (HM7.out _); obtain ⟨r8, s8⟩ := blk m8; clear hR8 hB8 hG8 hO8)
  have hb7 := HB7.out (.cells #[.int .i32 x.r, .int .i64 x.bits, .string ⟨x.href.toArray⟩] 57);have hwW := HIN.out.1.size;have hz8 := HB8.out.size;have hz7 := HZ7.out (.cells #[.int .i32 x.r, .int .i64 x.bits, .string ⟨x.href.toArray⟩] 57);have hWz := HIN.out.2;refine ⟨((uB hb7).from _).trans (((zFd (HR7.out _) HNE.out HG8.out).from _).trans ((KeepsOthers.setCell _ _ _).from _)), (Kd.of_below hwW qD hb7).t (Kd.append (HM7.out _) HOB.out HG8.out (HB8.out.mono qD) HO8.out (zC _) hw2Z), _, ?_, qH (qC _) HR8.out ((Keeps.refl _ _).set (fun hh => by have hh : w6.heap.size ≤ w.heap.size := hh; omega) _) (fun _ h _ => h), .inr qF, ?_, ?_⟩
  ·rw [jO, if_pos rfl, m8]; rfl
  ·exact ((jG HIN.out.1 hb7).trans (HB8.out.mono qD)).setCell (zC _) _
  ·simp only [World.size_setCell]; omega
 case done =>
  rintro D ys W hD hys ⟨v9, t0, hR, hne, hb, hz⟩ hK;obtain ⟨s0, s0f⟩ := blk t0;subst hys;obtain ⟨va9, n9, c9, rfl⟩ := zAZ hR;have HR9 := zA hR;have HB9 := zA hb;have HK9 := zA hK;clear hR hb hK hne
  gi_wp2_with fail
  refine ⟨by simp, .inl ⟨_, _, rfl, run_takeDeferred HK9.out, ?_⟩⟩;refine ⟨.slice va9 n9 c9, by simp [results, Tryz.results203, go_sem], ?_⟩;exact ⟨_, rfl, qH (qC _) ((zGR (β := Unit) D _ _ (fun _ => cellsD d a b)).putObj (s := ()) _ HR9.out (zC _) HK9.out rfl) (Keeps.refl _ _) (fun b h _ => zD hb6.size h), HB9.out.trans (belowK_b (w := w) (zC _) W D _ _ qD HK9.out rfl rfl)⟩
 case stop =>
  rintro D c pre W _ _ h _;exact h.elim
theorem zJF (Bd Ba Bb : Nat) (v : Value) (d : Doc) (a b : Ps) (w : World) (S : Nat → Prop) (h : jD w S v d) (he : EnvT w) (hs : Small d) (hf : Fits d)
  (hD : w.heap[Bd]? = some (.cells #[v] 22)) (hA : w.heap[Ba]? = some (.cells #[.int .i64 a.line, .int .i64 a.col] 24)) (hB : w.heap[Bb]? = some (.cells #[.int .i64 b.line, .int .i64 b.col] 24)) :
  Calls zV 123 #[.func (.func 204) #[] #[.pointer (some ⟨Bd, 0, none⟩), .pointer (some ⟨Ba, 0, none⟩), .pointer (some ⟨Bb, 0, none⟩)]] w
   fun e w' => ∃ v', e = .returned v' ∧ jE true w' (fun b => w.heap.size ≤ b) v' (cellsD d a b) ∧ Below w.heap.size w w' := by
 have HC := zA (zIg Bd Ba Bb v d a b w S h he hs hf hD hA hB);clear h he hs hf hD hA hB
 generalize cellsD d a b = L at *
 go_enter Tryz.func123, Tryz.ntmps123;go_wp2_with (go_at_call 203; refine HC.out.mono ?_; rintro e w2 ⟨v2, rfl, hv2, hb2⟩; obtain ⟨a2, n2, c2, hve⟩ := zAZ hv2; subst hve; have HV2 := zA hv2; clear hv2);go_ret;exact ⟨_, rfl, HV2.out, hb2⟩
end Go.Proofs.YtcliojeoindceaaGreatDoor
namespace Go.Proofs.YtcliojeoindceaaGreatDoor
open Go.RowKit
open Go.Proofs.Qw
open _root_.Go.Lib renaming hid → zA
set_option maxRecDepth 100000 in
theorem vV (v : Value) (s : St) (w : World) (S : Nat → Prop) (h : jD w S v s.lines) (he : EnvT w) (hs : Small s.lines) :
  Calls Tryz.prog 23 #[stV v s] w fun e w' => e = .returned (.bool (mayS s)) ∧ Below w.heap.size w w' := by
 obtain ⟨W1, hW1, hB, hz, hA⟩ := vJ w v s;have hs1 := hB.size;have HC1 := zA (zFS v s.lines W1 w S h (he.below hB) hB hs);have HC2 : Hid (∀ p : Ps, ∀ W, Below W1.heap.size W1 W → Calls Tryz.prog 64 #[v, .agg #[.int .i64 p.line, .int .i64 p.col]] W fun e w' => e = .returned (.bool (isD s.lines p)) ∧ Below W.heap.size W w') := zA fun p W hW => zEo v s.lines p W w S h (hB.trans (hW.mono hs1));have HB : Hid (∀ W, Below W1.heap.size W1 W → W.heap[w.heap.size]? = some (.cells #[v, .int .i64 s.anc.line, .int .i64 s.anc.col, .int .i64 s.foc.line, .int .i64 s.foc.col, .int .i64 s.on, .int .i64 s.off] 26)) := zA fun W hW => jI hW hA;have HE : Hid (mayS s = (mayD s.lines && (isD s.lines s.anc && (isD s.lines s.foc && (bits .andNot .i64 s.on 15 == 0 && (bits .andNot .i64 s.off 15 == 0 && bits .and .i64 s.on s.off == 0)))))) := zA rfl;have H1 := zA hB;obtain ⟨p0, f0⟩ := blk hA;obtain ⟨va, vc, rfl⟩ := h.slice;clear h he hs hz hA hB
 generalize mayS s = r at *
 generalize mayD s.lines = x at *
 go_enter Tryz.func23, Tryz.ntmps23
 go_wp2_with (first
  | (go_at_call 63; refine HC1.out.mono ?_; rintro e w2 ⟨rfl, hb2⟩; obtain ⟨p3, f3⟩ := blk (HB.out _ hb2); cases x)
  | (go_at_call 64; refine (HC2.out _ _ jC).mono ?_; rintro e w3 ⟨rfl, hb3⟩; have hx3 : Below W1.heap.size W1 w3 := jG jC hb3; clear hb3; obtain ⟨p5, f5⟩ := blk (HB.out _ hx3)))
 all_goals
  go_ret;refine ⟨?_, H1.out.trans (Below.mono jC hs1)⟩;rw [HE.out];refine congrArg Ending.returned (congrArg Value.bool ?_);clear HE HC1 HC2 HB H1;simp (config := { failIfUnchanged := false }) [*]
set_option maxRecDepth 100000 in
theorem zAm (v : Value) (s : St) (w : World) :
  Calls Tryz.prog 114 #[stV v s] w fun e w' => e = .returned (.tuple #[.agg #[.int .i64 (qV s).1.line, .int .i64 (qV s).1.col], .agg #[.int .i64 (qV s).2.line, .int .i64 (qV s).2.col]]) ∧ Below w.heap.size w w' := by
 obtain ⟨W1, hW1, hB, hz, k0, k1, k2⟩ := zEe w v s;have hs1 := hB.size;have HC : Hid (Calls Tryz.prog 197 #[.agg #[.int .i64 s.anc.line, .int .i64 s.anc.col], .agg #[.int .i64 s.foc.line, .int .i64 s.foc.col]] W1 fun e w' => e = .returned (.int .i64 (cmpP s.anc s.foc)) ∧ Below W1.heap.size W1 w') := zA (zHh s.anc s.foc W1);have HR : Hid (qV s = if 0 < cmpP s.anc s.foc then (s.foc, s.anc) else (s.anc, s.foc)) := zA (by unfold qV; first | rfl | simp only [zHi]);have HB : Hid (∀ W, Below W1.heap.size W1 W → W.heap[w.heap.size]? = some (.cells #[v, .int .i64 s.anc.line, .int .i64 s.anc.col, .int .i64 s.foc.line, .int .i64 s.foc.col, .int .i64 s.on, .int .i64 s.off] 26) ∧ W.heap[w.heap.size + 1]? = some (.cells #[.int .i64 0, .int .i64 0] 24) ∧ W.heap[w.heap.size + 2]? = some (.cells #[.int .i64 0, .int .i64 0] 24)) := zA fun W hW => ⟨jI hW k0, jI hW k1, jI hW k2⟩;have H1 := zA hB;obtain ⟨p0, f0⟩ := blk k0;clear k0 k1 k2 hB
 generalize cmpP s.anc s.foc = r at *
 by_cases hr : 0 < r
 ·rw [if_pos hr] at HR
  have hr' := decide_eq_true hr;have HR' := zA HR.out;clear HR;go_enter Tryz.func114, Tryz.ntmps114;go_wp2_with (go_at_call 197; refine HC.out.mono ?_; rintro e w2 ⟨rfl, hb2⟩; obtain ⟨q0, g0⟩ := blk (HB.out _ hb2).1; obtain ⟨q1, g1⟩ := blk (HB.out _ hb2).2.1; obtain ⟨q2, g2⟩ := blk (HB.out _ hb2).2.2);go_region;go_wp2_with fail;refine bodyPost_ret (zBC rfl _ _ (w.heap.size + 1) (w.heap.size + 2) (.int .i64 s.foc.line) (.int .i64 s.foc.col) (.int .i64 s.anc.line) (.int .i64 s.anc.col) rfl rfl (by change (World.setCell _ _ _).heap[_]? = _; simp [jO, jA, (HB.out _ hb2).2.1]) (by change (World.setCell _ _ _).heap[_]? = _; simp [jO, jA, (HB.out _ hb2).2.2])) rfl ?_;rw [HR'.out];have hfin := H1.out.trans (hb2.mono hs1);exact ⟨rfl, by ((with_reducible repeat' first | exact Below.refl _ _ | assumption | refine Below.alloc ?_ ?_ _ | refine Below.drew ?_ | refine jQ ?_ | refine Below.setCell ?_ ?_ _) <;> go_size)⟩
 ·rw [if_neg hr] at HR
  have hr' := decide_eq_false hr;have HR' := zA HR.out;clear HR;go_enter Tryz.func114, Tryz.ntmps114;go_wp2_with (go_at_call 197; refine HC.out.mono ?_; rintro e w2 ⟨rfl, hb2⟩; obtain ⟨q0, g0⟩ := blk (HB.out _ hb2).1; obtain ⟨q1, g1⟩ := blk (HB.out _ hb2).2.1; obtain ⟨q2, g2⟩ := blk (HB.out _ hb2).2.2);go_region;go_wp2_with fail;refine bodyPost_ret (zBC rfl _ _ (w.heap.size + 1) (w.heap.size + 2) (.int .i64 s.anc.line) (.int .i64 s.anc.col) (.int .i64 s.foc.line) (.int .i64 s.foc.col) rfl rfl (by change (World.setCell _ _ _).heap[_]? = _; simp [jO, jA, (HB.out _ hb2).2.1]) (by change (World.setCell _ _ _).heap[_]? = _; simp [jO, jA, (HB.out _ hb2).2.2])) rfl ?_;rw [HR'.out];have hfin := H1.out.trans (hb2.mono hs1);exact ⟨rfl, by ((with_reducible repeat' first | exact Below.refl _ _ | assumption | refine Below.alloc ?_ ?_ _ | refine Below.drew ?_ | refine jQ ?_ | refine Below.setCell ?_ ?_ _) <;> go_size)⟩
end Go.Proofs.YtcliojeoindceaaGreatDoor
