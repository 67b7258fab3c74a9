/- Parts of the proof. -/
import Derived.Test.YtjgeadoncanheaaGreatDoorBlkTellsT
import Derived.Test.YtjgeadoncanheaaGreatDoorQryNamesT
import Derived.Test.YtjgeadoncanheaaGreatDoorStyTellsT
import Derived.Test.YtjgeadoncanheaaGreatDoorRefOwnT
import Derived.Test.YtjgeadoncanheaaGreatDoorAttrWalkT
import Derived.Test.YtjgeadoncanheaaGreatDoorPartBaseT
import Derived.Lib.OthersKept
import Derived.Lib.RuneCount
import Derived.Test.YtjgeadoncanheaaGreatDoorDocPartT
set_option linter.unusedVariables false
set_option linter.unusedSimpArgs false
set_option maxHeartbeats 8000000
namespace Go.Proofs.YtjgeadoncanheaaGreatDoor
open Go.RowKit
open Go.Proofs.Qw
attribute [local go_sem] Oper.semAt_some
open _root_.Go.Lib renaming hid → zA
open _root_.Go.RowKit.Below renaming refl → zE, setCell → zF, alloc → zG, drew → zH
open _root_.Go renaming bodyPost_ret → zM
open _root_.Go.Proofs.Tryz renaming prog → zV
open _root_.Go.Proofs.YtjgeadoncanheaaGreatDoor renaming jH → zW, jG → zX, jK → qQ, jN → qR
open _root_.Go.Proofs.Qw renaming jY → zZ
open _root_.Go.Proofs.Qw.SliceR renaming stable → qG
open _root_.Go.Proofs.Qw.Keeps renaming refl → qM, alloc → qN, drew → qO
set_option maxRecDepth 100000 in
theorem zJF (v : Value) (s : St) (k : Int) (w : World) (S : Nat → Prop) (h : jC w S v s.lines) (he : EnvT w) (hs : Small s.lines) (hf : Fits s.lines) :
  Calls zV 137 #[stV v s, .int .i64 k] w (StSaid (zAf k s) w) := by
 obtain ⟨W1, hW1, hB, hz, k0, k1, k2⟩ := zFs w v s k;have HB : Hid (∀ W, Below W1.heap.size W1 W → W.heap[w.heap.size]? = some (.cells #[v, .int .i64 s.anc.line, .int .i64 s.anc.col, .int .i64 s.foc.line, .int .i64 s.foc.col, .int .i64 s.on, .int .i64 s.off] 26) ∧ W.heap[w.heap.size + 2]? = some (.cells #[.slice none 0 0, .int .i64 0, .int .i64 0, .int .i64 0, .int .i64 0, .int .i64 0, .int .i64 0] 26) ∧ W.heap[w.heap.size + 1]? = some (.cells #[.int .i64 k] 3)) := zA fun W hW => ⟨zX hW k0, zX hW k2, zX hW k1⟩;have hs1 := hB.size;have H1 := zA hB;have HLd := zA (zEF v s k W1 S (h.below (zZ _) hB) (he.below hB) hs)
 have HO : Hid (∀ W, Below W1.heap.size W1 W → Calls zV 134 #[stV v s, .func (.func 115) #[] #[]] W (StSaid (kR xH s) W)) := zA fun W hW => zBv v s 115 #[] xH W S ((h.below (zZ _) hB).below (zZ _) hW) ((he.below hB).below hW) hs hf (enters_of Tryz.func115 qC rfl)
  (fun W' l la ca lc cc hW' hl hm hL hC => zCY l la ca lc cc W' W S hL hC hW' (((he.below hB).below hW).below hW') (hf.2 l hl) (hs.2.2 l hl) hm)
 have HC : Hid (k = 0 ∨ k = 1 → ∀ W, Below W1.heap.size W1 W → Calls zV 134 #[stV v s, .func (.func 198) #[] #[.pointer (some ⟨w.heap.size + 1, 0, none⟩)]] W (StSaid (kR (yN k) s) W)) := zA fun hk W hW => zBv v s 198 #[.pointer (some ⟨w.heap.size + 1, 0, none⟩)] (yN k) W S ((h.below (zZ _) hB).below (zZ _) hW) ((he.below hB).below hW) hs hf (enters_of Tryz.func198 qC rfl)
  (fun W' l la ca lc cc hW' hl hm hL hC => zIN (w.heap.size + 1) k l la ca lc cc W' W S hk (zX (hW.trans (hW'.mono hW.size)) k1) hL hC hW' (((he.below hB).below hW).below hW') (hf.2 l hl) (hs.2.2 l hl) hm)
 have HR := zA (show zAf k s = if k ≠ 0 ∧ k ≠ 1 then (noS, 1) else if (kF k s).1 = true then kR xH s else kR (yN k) s from rfl);obtain ⟨p0, f0⟩ := blk k0;obtain ⟨p1, f1⟩ := blk k1;obtain ⟨p2, f2⟩ := blk k2;obtain ⟨va, vc, rfl⟩ := h.slice;clear h he hs hf hB k0 k1 k2;obtain ⟨al, hal⟩ : ∃ x, (kF k s).1 = x := ⟨_, rfl⟩;obtain ⟨so, hso⟩ : ∃ x, (kF k s).2 = x := ⟨_, rfl⟩;rw [hal] at HLd HR;rw [hso] at HLd;clear hal hso;rcases (show (k ≠ 0 ∧ k ≠ 1) ∨ (k = 0 ∨ k = 1) by omega) with ⟨hk0, hk1⟩ | hk
 ·have HR : Hid (zAf k s = (noS, 1)) := zA (HR.out.trans (if_pos ⟨hk0, hk1⟩))
  have d0 : (k != 0) = true := by simp [hk0]
  have d1 : (k != 1) = true := by simp [hk1]
  go_enter Tryz.func137, Tryz.ntmps137;go_wp2_with (go_at_call 42; refine HLd.out.mono ?_; rintro e w2 ⟨rfl, hb2⟩; obtain ⟨q0, g0⟩ := blk (HB.out _ hb2).1; obtain ⟨q1, g1⟩ := blk (HB.out _ hb2).2.1; obtain ⟨q2, g2⟩ := blk (HB.out _ hb2).2.2; have HB2 := zA hb2);refine zM (jU rfl _ _ (w.heap.size + 2) (.slice none 0 0) (.int .i64 0) (.int .i64 0) (.int .i64 0) (.int .i64 0) (.int .i64 0) (.int .i64 0) (.int .i64 1) rfl rfl (by simp [qR, jB, (HB.out _ HB2.out).2.1])) rfl ?_;unfold StSaid;rw [HR.out];have hfin := H1.out.trans (HB2.out.mono hs1);exact ⟨_, rfl, SliceR.nil _ _ _ _ _ _, by ((with_reducible repeat' first | exact zE _ _ | assumption | refine zG ?_ ?_ _ | refine zH ?_ | refine qQ ?_ | refine zF ?_ ?_ _) <;> go_size)⟩
 ·have HR : Hid (zAf k s = if al = true then kR xH s else kR (yN k) s) := zA (HR.out.trans (if_neg (fun h => by omega)))
  have HC := zA (HC.out hk);have d0 : (k != 0) = false ∨ ((k != 0) = true ∧ (k != 1) = false) := by rcases hk with rfl | rfl <;> simp
  clear hk;have HR1 : Hid (al = true → zAf k s = kR xH s) := zA fun e => by rw [HR.out, e]; rfl
  obtain ⟨X1, hX1⟩ : ∃ X, kR xH s = X := ⟨_, rfl⟩;rw [hX1] at HO HR1;have HR2 : Hid (al = false → zAf k s = kR (yN k) s) := zA fun e => by rw [HR.out, e]; rfl
  obtain ⟨X2, hX2⟩ : ∃ X, kR (yN k) s = X := ⟨_, rfl⟩;rw [hX2] at HC HR2;clear HR hX1 hX2;cases al
  ·have HR := zA (HR2.out rfl)
   rw [HR.out];rcases d0 with d0 | ⟨d0, d1⟩
   all_goals
    go_enter Tryz.func137, Tryz.ntmps137
    go_wp2_with (first
     | (go_at_call 42; refine HLd.out.mono ?_; rintro e w2 ⟨rfl, hb2⟩; obtain ⟨q0, g0⟩ := blk (HB.out _ hb2).1; obtain ⟨q1, g1⟩ := blk (HB.out _ hb2).2.1; obtain ⟨q2, g2⟩ := blk (HB.out _ hb2).2.2)
     | (go_at_call 134; refine (HC.out _ hb2).mono ?_; rintro e w3 ⟨v3, rfl, hv3, hst3⟩; have hb3 := zW hb2 hst3; obtain ⟨a3, c3, rfl⟩ := hv3.slice; obtain ⟨t0, u0⟩ := blk (HB.out _ hb3).2.1; have HV := zA hv3; clear hv3))
    refine zM (jU rfl _ _ (w.heap.size + 2) (.slice a3 X2.1.lines.length c3) (.int .i64 X2.1.anc.line) (.int .i64 X2.1.anc.col) (.int .i64 X2.1.foc.line) (.int .i64 X2.1.foc.col) (.int .i64 X2.1.on) (.int .i64 X2.1.off) (.int .i64 X2.2) rfl rfl (by simp [qR, jB, (HB.out _ hb3).2.1])) rfl ?_;have hfin := H1.out.trans (hb3.mono hs1);have hv3 := HV.out;have hs2 := hb2.size;exact ⟨_, rfl, (qG (zZ _) hv3 zBL (fun b h _ => jM)), by ((with_reducible repeat' first | exact zE _ _ | assumption | refine zG ?_ ?_ _ | refine zH ?_ | refine qQ ?_ | refine zF ?_ ?_ _) <;> go_size)⟩
  ·have HR := zA (HR1.out rfl)
   rw [HR.out];rcases d0 with d0 | ⟨d0, d1⟩
   all_goals
    go_enter Tryz.func137, Tryz.ntmps137
    go_wp2_with (first
     | (go_at_call 42; refine HLd.out.mono ?_; rintro e w2 ⟨rfl, hb2⟩; obtain ⟨q0, g0⟩ := blk (HB.out _ hb2).1; obtain ⟨q1, g1⟩ := blk (HB.out _ hb2).2.1; obtain ⟨q2, g2⟩ := blk (HB.out _ hb2).2.2)
     | (go_at_call 134; refine (HO.out _ hb2).mono ?_; rintro e w3 ⟨v3, rfl, hv3, hst3⟩; have hb3 := zW hb2 hst3; obtain ⟨a3, c3, rfl⟩ := hv3.slice; obtain ⟨t0, u0⟩ := blk (HB.out _ hb3).2.1; have HV := zA hv3; clear hv3))
    refine zM (jU rfl _ _ (w.heap.size + 2) (.slice a3 X1.1.lines.length c3) (.int .i64 X1.1.anc.line) (.int .i64 X1.1.anc.col) (.int .i64 X1.1.foc.line) (.int .i64 X1.1.foc.col) (.int .i64 X1.1.on) (.int .i64 X1.1.off) (.int .i64 X1.2) rfl rfl (by simp [qR, jB, (HB.out _ hb3).2.1])) rfl ?_;have hfin := H1.out.trans (hb3.mono hs1);have hv3 := HV.out;have hs2 := hb2.size;exact ⟨_, rfl, (qG (zZ _) hv3 zBL (fun b h _ => jM)), by ((with_reducible repeat' first | exact zE _ _ | assumption | refine zG ?_ ?_ _ | refine zH ?_ | refine qQ ?_ | refine zF ?_ ?_ _) <;> go_size)⟩
theorem blk1 {w : World} {B : Nat} {cs : Array Value} {t : TypeId} (h : w.heap[B]? = some (.cells cs t)) : (∀ X k, (w.alloc X).cell? ⟨B, k, none⟩ = cs[k]?) ∧ (∀ X k, (w.alloc X).frozen? ⟨B, k, none⟩ = false) :=
 ⟨fun X _ => jS (jI _ X h), fun X _ => yJ (jI _ X h)⟩
def DocPB (n : Nat) (x : Doc × Ps × Int) (w : World) (e : Ending) (w' : World) : Prop := ∃ v', e = .returned (.tuple #[v', posV x.2.1, .int .i64 x.2.2]) ∧ DocR true w' (fun b => n ≤ b) v' x.1 ∧ Below n w w'
theorem DocPSaid.base {x : Doc × Ps × Int} {w W : World} {e : Ending} {w' : World} {n : Nat} (h : DocPSaid x W e w') (hb : Below n w W) (hn : n ≤ W.heap.size) : DocPB n x w e w' := by
 obtain ⟨v', h1, h2, h3⟩ := h;exact ⟨v', h1, qG (zZ true) h2 (qM _ _) (fun b h _ => Nat.le_trans hn h), hb.trans (h3.mono hn)⟩
def zMA (s : St) (g : Nat) (lb : Array Value) (R : Doc × Ps × Int) (w : World) : Prop :=
 ∀ (n : Nat) (W : World) (a : Option Addr) (c : Nat), Below w.heap.size w W → w.heap.size ≤ n → n ≤ W.heap.size → DocR true W (fun b => n ≤ b) (.slice a (outS s).length c) (outS s) → Calls zV g (#[.slice a (outS s).length c, posV (qV s).1] ++ lb) W (DocPB n R W)
set_option maxRecDepth 100000 in
theorem zCe (v : Value) (s : St) (g : Nat) (lb : Array Value) (R : Doc × Ps × Int) (w : World) (S : Nat → Prop) (h : jC w S v s.lines) (he : EnvT w) (hs : Small s.lines) (hf : Fits s.lines)
  (eg : ∀ args w, (callFunc g args).run zV w = .ok (.enter g args) w) (hg : mayS s = true → zMA s g lb R w) :
  Calls zV 107 #[stV v s, .func (.func g) #[] lb] w (StSaid (keyS s R) w) := by
 obtain ⟨W1, hW1, hB, hz, k0, k1⟩ := yF w v s;have HB : Hid (∀ W, Below W1.heap.size W1 W → W.heap[w.heap.size]? = some (.cells #[v, .int .i64 s.anc.line, .int .i64 s.anc.col, .int .i64 s.foc.line, .int .i64 s.foc.col, .int .i64 s.on, .int .i64 s.off] 26) ∧ W.heap[w.heap.size + 1]? = some (.cells #[.slice none 0 0, .int .i64 0, .int .i64 0, .int .i64 0, .int .i64 0, .int .i64 0, .int .i64 0] 26)) := zA fun W hW => ⟨zX hW k0, zX hW k1⟩;have hs1 := hB.size;have H1 := zA hB;have hw0 : Below W1.heap.size W1 W1 := zE _ _;have HV : Hid (∀ W, Below W1.heap.size W1 W → jC W S v s.lines) := zA fun W hW => h.below (zZ _) (hB.trans (hW.mono hs1));have HE : Hid (∀ W, Below W1.heap.size W1 W → EnvT W) := zA fun W hW => (he.below hB).below hW;have HM : Hid (∀ W, Below W1.heap.size W1 W → Calls zV 27 #[stV v s] W fun e w' => e = .returned (.bool (mayS s)) ∧ Below W.heap.size W w') := zA fun W hW => uM v s W S (HV.out W hW) (HE.out W hW) hs;have HR : Hid (keyS s R = if mayS s = true then endS R else (noS, 1)) := zA rfl;cases hm : mayS s
 ·rw [hm] at HM HR
  have HR : Hid (keyS s R = (noS, 1)) := zA (HR.out.trans (if_neg qT));obtain ⟨p0, f0⟩ := blk k0;obtain ⟨p1, f1⟩ := blk k1;obtain ⟨va, vc, rfl⟩ := h.slice;clear h he hs hf hg k0 k1 hB hm;go_enter Tryz.func107, Tryz.ntmps107;go_wp2_with ((go_at_call 27; refine (HM.out _ hw0).mono ?_; rintro e w2 ⟨rfl, hst2⟩; have hb2 := zW hw0 hst2; obtain ⟨q1, g1⟩ := blk (HB.out _ hb2).2));refine zM (jU rfl _ _ (w.heap.size + 1) (.slice none 0 0) (.int .i64 0) (.int .i64 0) (.int .i64 0) (.int .i64 0) (.int .i64 0) (.int .i64 0) (.int .i64 1) rfl rfl vV) rfl ?_;unfold StSaid;rw [HR.out];have hfin := H1.out.trans (hb2.mono hs1);exact ⟨_, rfl, SliceR.nil _ _ _ _ _ _, by ((with_reducible repeat' first | exact zE _ _ | assumption | refine zG ?_ ?_ _ | refine zH ?_ | refine qQ ?_ | refine zF ?_ ?_ _) <;> go_size)⟩
 ·have HG : Hid (∀ (n : Nat) (W : World) (a : Option Addr) (c : Nat), Below W1.heap.size W1 W → W1.heap.size ≤ n → n ≤ W.heap.size → DocR true W (fun b => n ≤ b) (.slice a (outS s).length c) (outS s) → Calls zV g (#[.slice a (outS s).length c, posV (qV s).1] ++ lb) W (DocPB n R W)) :=
   zA fun n W a c hW h1 h2 h3 => hg hm n W a c (hB.trans (hW.mono hs1)) (Nat.le_trans hs1 h1) h2 h3
  have hd := (uN hm).2.2.2.1;rw [hm] at HM HR;rw [if_pos rfl] at HR;have HSp : Hid (∀ W, Below W1.heap.size W1 W → Calls zV 49 #[stV v s] W fun e w' => e = .returned (.tuple #[.agg #[.int .i64 (qV s).1.line, .int .i64 (qV s).1.col], .agg #[.int .i64 (qV s).2.line, .int .i64 (qV s).2.col]]) ∧ Below W.heap.size W w') := zA fun W hW => zAk v s W
  have HD : Hid (∀ W, Below W1.heap.size W1 W → Calls zV 120 #[v, posV (qV s).1, posV (qV s).2] W (DocSaid (outS s, 0) W)) := zA fun W hW => by
   have := zDi v s.lines (qV s).1 (qV s).2 W S (HV.out W hW) (HE.out W hW) hs hf;rw [hd] at this;exact this
  obtain ⟨O, hO⟩ : ∃ O, outS s = O := ⟨_, rfl⟩;rw [hO] at HD HG;obtain ⟨A, B, hAB⟩ : ∃ A B, qV s = (A, B) := ⟨_, _, rfl⟩;rw [hAB] at HSp HG HD;simp only at HSp HG HD;obtain ⟨D, q, er, hD⟩ : ∃ D q er, R = (D, q, er) := ⟨_, _, _, rfl⟩;subst hD;have HP : Hid (∀ p : Ps, posV p = .agg #[.int .i64 p.line, .int .i64 p.col]) := zA fun _ => rfl;rw [HP.out] at HG;rw [HP.out, HP.out] at HD;have HCl := zA (fun (a : Option Addr) (n c : Nat) (p : Ps) (W : World) => zHE a n c p W);obtain ⟨p0, f0⟩ := blk k0;obtain ⟨p1, f1⟩ := blk k1;obtain ⟨va, vc, rfl⟩ := h.slice;clear h he hs hf hg k0 k1 hB hm hAB hd hO
  by_cases h0 : er = 0
  ·subst h0
   have HR := zA (HR.out.trans (show endS (D, q, (0 : Int)) = (zGT D q, 0) from if_pos rfl));go_enter Tryz.func107, Tryz.ntmps107
   go_wp2_with (first
    | (go_at_call 27; refine (HM.out _ hw0).mono ?_; rintro e w2 ⟨rfl, hst2⟩; have hb2 := zW hw0 hst2; obtain ⟨q0, g0⟩ := blk (HB.out _ hb2).1) | (go_at_call 49; refine (HSp.out _ hb2).mono ?_; rintro e w3 ⟨rfl, hst3⟩; have hb3 := zW hb2 hst3; obtain ⟨q1, g1⟩ := blk (HB.out _ hb3).1; have hz3 := hb3.size; have e3 : ¬ w3.heap.size = w.heap.size := qE; have r1 := on2 (HB.out _ hb3).1; have HX3 : Hid (∀ X Y, Below W1.heap.size W1 ((w3.alloc X).alloc Y)) := zA fun X Y => hb3.trans (vI (zE _ _) X Y |>.mono hz3)) | (go_at_call 120; refine (HD.out _ (HX3.out _ _)).mono ?_; intro e w4 hsaid; obtain ⟨v4, rfl, hv4, hst4⟩ := hsaid; obtain ⟨a4, c4, rfl⟩ := hv4.slice; have hb4 := zW (HX3.out _ _) hst4; have HV4 := zA hv4; clear hv4; have hz4 := hst4.size; have m4 := zX hst4 (jI _ _ (jF _ _ rfl)); obtain ⟨q4, g4⟩ := blk m4) | (go_at_fn g; refine (HG.out _ _ a4 c4 hb4 (HX3.out _ _).size hz4 HV4.out).mono ?_; intro e w5 hsaid; obtain ⟨v5, he5, hv5, hst5⟩ := hsaid; simp only [HP.out] at he5; subst he5; obtain ⟨a5, c5, rfl⟩ := hv5.slice; have hb5 := hb4.trans (hst5.mono (HX3.out _ _).size); have HV5 := zA hv5; clear hv5; obtain ⟨q5, g5⟩ := blk (HB.out _ hb5).2; have hz5 := hb5.size; obtain ⟨r5, s5⟩ := blk1 (HB.out _ hb5).2)
    | (go_at_call 164; refine (HCl.out _ _ _ q _).mono ?_; rintro e w6 ⟨rfl, hst6⟩; have hb56 : Below w5.heap.size w5 w6 := zW ((zE _ _).alloc (Nat.le_refl _) _) hst6; have hb6 := zW hb5 hb56; obtain ⟨q6, g6⟩ := blk (HB.out _ hb6).2))
   refine zM (jU rfl _ _ (w.heap.size + 1) (.slice a5 D.length c5) (.int .i64 q.line) (.int .i64 q.col) (.int .i64 q.line) (.int .i64 q.col) (.int .i64 0) (.int .i64 0) (.int .i64 0) rfl rfl uT) rfl ?_;unfold StSaid;rw [HR.out];have hfin := H1.out.trans (hb6.mono hs1);have hv5 := HV5.out.below hb56;exact ⟨_, rfl, (qG (zZ _) hv5 zBL (fun b h _ => jM)), by ((with_reducible repeat' first | exact zE _ _ | assumption | refine zG ?_ ?_ _ | refine zH ?_ | refine qQ ?_ | refine zF ?_ ?_ _) <;> go_size)⟩
  ·have HR2 : Hid (keyS s (D, q, er) = (noS, er)) := zA (HR.out.trans (if_neg h0))
   have hne : (er != 0) = true := by simpa using h0
   have hne2 : (er == 0) = false := by simpa using h0
   clear h0 HR;go_enter Tryz.func107, Tryz.ntmps107
   go_wp2_with (first
    | (go_at_call 27; refine (HM.out _ hw0).mono ?_; rintro e w2 ⟨rfl, hst2⟩; have hb2 := zW hw0 hst2; obtain ⟨q0, g0⟩ := blk (HB.out _ hb2).1) | (go_at_call 49; refine (HSp.out _ hb2).mono ?_; rintro e w3 ⟨rfl, hst3⟩; have hb3 := zW hb2 hst3; obtain ⟨q1, g1⟩ := blk (HB.out _ hb3).1; have hz3 := hb3.size; have e3 : ¬ w3.heap.size = w.heap.size := qE; have r1 := on2 (HB.out _ hb3).1; have HX3 : Hid (∀ X Y, Below W1.heap.size W1 ((w3.alloc X).alloc Y)) := zA fun X Y => hb3.trans (vI (zE _ _) X Y |>.mono hz3)) | (go_at_call 120; refine (HD.out _ (HX3.out _ _)).mono ?_; intro e w4 hsaid; obtain ⟨v4, rfl, hv4, hst4⟩ := hsaid; obtain ⟨a4, c4, rfl⟩ := hv4.slice; have hb4 := zW (HX3.out _ _) hst4; have HV4 := zA hv4; clear hv4; have hz4 := hst4.size; have m4 := zX hst4 (jI _ _ (jF _ _ rfl)); obtain ⟨q4, g4⟩ := blk m4) | (go_at_fn g; refine (HG.out _ _ a4 c4 hb4 (HX3.out _ _).size hz4 HV4.out).mono ?_; intro e w5 hsaid; obtain ⟨v5, he5, hv5, hst5⟩ := hsaid; simp only [HP.out] at he5; subst he5; obtain ⟨a5, c5, rfl⟩ := hv5.slice; have hb5 := hb4.trans (hst5.mono (HX3.out _ _).size); have HV5 := zA hv5; clear hv5; obtain ⟨q5, g5⟩ := blk (HB.out _ hb5).2; have hz5 := hb5.size; obtain ⟨r5, s5⟩ := blk1 (HB.out _ hb5).2))
   refine zM (jU rfl _ _ (w.heap.size + 1) (.slice none 0 0) (.int .i64 0) (.int .i64 0) (.int .i64 0) (.int .i64 0) (.int .i64 0) (.int .i64 0) (.int .i64 er) rfl rfl (by simp [qR, jB, jI _ _ (HB.out _ hb5).2])) rfl ?_;unfold StSaid;rw [HR2.out];have hfin := H1.out.trans (hb5.mono hs1);exact ⟨_, rfl, SliceR.nil _ _ _ _ _ _, by ((with_reducible repeat' first | exact zE _ _ | assumption | refine zG ?_ ?_ _ | refine zH ?_ | refine qQ ?_ | refine zF ?_ ?_ _) <;> go_size)⟩
theorem DocPB.err {n : Nat} {x : Doc × Ps × Int} {w w' : World} {q : Ps} {e : Int} (hx : x = ([], q, e)) (hb : Below w.heap.size w w') (hn : n ≤ w.heap.size) : DocPB n x w (.returned (.tuple #[.slice none 0 0, .agg #[.int .i64 q.line, .int .i64 q.col], .int .i64 e])) w' := by
 subst hx;exact ⟨_, rfl, SliceR.nil _ _ _ _ _ _, hb.mono hn⟩
theorem DocPB.same {n : Nat} {x : Doc × Ps × Int} {w w' : World} {v : Value} {O : Doc} {q : Ps} (hx : x = (O, q, 0)) (hO : DocR true w (fun b => n ≤ b) v O) (hb : Below w.heap.size w w') (hn : n ≤ w.heap.size) : DocPB n x w (.returned (.tuple #[v, .agg #[.int .i64 q.line, .int .i64 q.col], .int .i64 0])) w' := by
 subst hx;exact ⟨_, rfl, hO.below hb, hb.mono hn⟩
set_option maxRecDepth 100000 in
theorem zKi (Bs : Nat) (v : Value) (s : St) (n : Nat) (a : Option Addr) (c : Nat) (w : World) (hst : w.heap[Bs]? = some (.cells #[v, .int .i64 s.anc.line, .int .i64 s.anc.col, .int .i64 s.foc.line, .int .i64 s.foc.col, .int .i64 s.on, .int .i64 s.off] 26)) (h : DocR true w (fun b => n ≤ b) (.slice a (outS s).length c) (outS s)) (hn : n ≤ w.heap.size) (he : EnvT w) (hs : Small (outS s)) (hf : Fits (outS s)) :
  Calls zV 121 #[.slice a (outS s).length c, posV (qV s).1, .pointer (some ⟨Bs, 0, none⟩)] w (DocPB n (zBf s) w) := by
 have HR : Hid (zBf s = if s.anc = s.foc then (if (xR (outS s) (qV s).1 1).2 = true then cutK (outS s) (qV s).1 (xR (outS s) (qV s).1 1).1 (qV s).1 else ([], (qV s).1, 7)) else (outS s, (qV s).1, 0)) := zA rfl;obtain ⟨O, hO⟩ : ∃ O, outS s = O := ⟨_, rfl⟩;obtain ⟨A, hA⟩ : ∃ A, (qV s).1 = A := ⟨_, rfl⟩;rw [hO] at h hs hf;rw [hO, hA] at HR ⊢;obtain ⟨W1, hW1, hB, hz, k0, k1⟩ := yP w (.int .i64 A.line) (.int .i64 A.col) (.int .i64 0) (.int .i64 0);have hs1 := hB.size;have kt := zX hB hst;have HB : Hid (∀ W, Below W1.heap.size W1 W → W.heap[w.heap.size]? = some (.cells #[.int .i64 A.line, .int .i64 A.col] 24) ∧ W.heap[w.heap.size + 1]? = some (.cells #[.int .i64 0, .int .i64 0] 24) ∧ W.heap[Bs]? = some (.cells #[v, .int .i64 s.anc.line, .int .i64 s.anc.col, .int .i64 s.foc.line, .int .i64 s.foc.col, .int .i64 s.on, .int .i64 s.off] 26)) := zA fun W hW => ⟨zX hW k0, zX hW k1, zX hW kt⟩;have hw0 : Below W1.heap.size W1 W1 := zE _ _;have HS : Hid (∀ W, Below W1.heap.size W1 W → Calls zV 119 #[.slice a O.length c, .agg #[.int .i64 A.line, .int .i64 A.col], .int .i64 1] W fun e w' => e = .returned (.tuple #[.agg #[.int .i64 (xR O A 1).1.line, .int .i64 (xR O A 1).1.col], .bool (xR O A 1).2]) ∧ Below W.heap.size W w') := zA fun W hW => zGs _ O A 1 W w (fun b => n ≤ b) h.read (hB.trans (hW.mono hs1)) hs.1 hs.2.1 jA;have HD : Hid (∀ p W, Below W1.heap.size W1 W → Calls zV 120 #[.slice a O.length c, .agg #[.int .i64 A.line, .int .i64 A.col], .agg #[.int .i64 p.line, .int .i64 p.col]] W (DocSaid (yK O A p) W)) := zA fun p W hW => zDi _ O A p W (fun b => n ≤ b) (h.below (hB.trans (hW.mono hs1))).read ((he.below hB).below hW) hs hf;have H := zA h;have H1 := zA hB;have HN := zA hn;have hg := uZ;have hq := fun (w : World) => zBt s.anc s.foc w;have HP : Hid (∀ p : Ps, posV p = .agg #[.int .i64 p.line, .int .i64 p.col]) := zA fun _ => rfl;rw [HP.out];obtain ⟨q, t, hqt⟩ : ∃ q t, xR O A 1 = (q, t) := ⟨_, _, rfl⟩;rw [hqt] at HR HS;simp only at HR HS;have HD := zA (fun W hW => HD.out q W hW);obtain ⟨p0, f0⟩ := blk k0
 by_cases hc : s.anc = s.foc
 ·rw [if_pos hc] at HR
  rw [decide_eq_true hc] at hq;cases t
  ·rw [if_neg jA] at HR
   clear h hB hc k0 k1 kt hst hn hO hA hs hf he hqt HD;go_enter Tryz.func121, Tryz.ntmps121;go_wp2_with (go_at_call 119; refine (HS.out _ hw0).mono ?_; rintro e w2 ⟨rfl, hst2⟩; have hb2 := zW hw0 hst2; obtain ⟨c0, d0⟩ := blk1 (HB.out _ hb2).1; obtain ⟨c1, d1⟩ := blk1 (HB.out _ hb2).2.1; obtain ⟨c2, d2⟩ := blk1 (HB.out _ hb2).2.2; have hz2 := hb2.size; have n1 : ¬ w2.heap.size = w.heap.size + 1 := qE; have n2 : ¬ w.heap.size + 1 = w2.heap.size := qE);go_region;go_wp2_with fail;have hfin := H1.out.trans (hb2.mono hs1);refine zM (xA rfl _ _ (w.heap.size + 1) (.int .i64 A.line) (.int .i64 A.col) rfl (by rw [xG]; simp [qR, jB, jI _ _ (HB.out _ hb2).2.1])) rfl ?_;exact DocPB.err HR.out zBK HN.out
  ·rw [if_pos rfl] at HR
   have HX : Hid (cutK O A q A = ((yK O A q).1, A, (yK O A q).2)) := zA rfl;obtain ⟨D, er, hD⟩ : ∃ D er, yK O A q = (D, er) := ⟨_, _, rfl⟩;rw [hD] at HX HD;clear h hB hc k0 k1 kt hst hn hO hA hs hf he hqt hD;go_enter Tryz.func121, Tryz.ntmps121
   go_wp2_with (first
    | (go_at_call 119; refine (HS.out _ hw0).mono ?_; rintro e w2 ⟨rfl, hst2⟩; have hb2 := zW hw0 hst2; obtain ⟨c0, d0⟩ := blk1 (HB.out _ hb2).1; obtain ⟨c1, d1⟩ := blk1 (HB.out _ hb2).2.1; obtain ⟨c2, d2⟩ := blk1 (HB.out _ hb2).2.2; have hz2 := hb2.size; have n1 : ¬ w2.heap.size = w.heap.size + 1 := qE; have n2 : ¬ w.heap.size + 1 = w2.heap.size := qE)
    | (go_at_call 120; refine (HD.out _ (hb2.alloc hb2.size _)).mono ?_; intro e w4 hsaid; obtain ⟨v4, rfl, hv4, hst4⟩ := hsaid; have hb4 := zW (hb2.alloc hb2.size _) hst4; have HV4 := zA hv4; clear hv4; obtain ⟨q0, g0⟩ := blk (HB.out _ hb4).1; obtain ⟨q1, g1⟩ := blk (HB.out _ hb4).2.1))
   go_region;go_wp2_with fail;have hfin := H1.out.trans (hb4.mono hs1);refine zM (xA rfl _ _ (w.heap.size + 1) (.int .i64 A.line) (.int .i64 A.col) rfl (by rw [xG]; simp [qR, jB, (HB.out _ hb4).2.1])) rfl ?_;rw [HR.out, HX.out];have hv4 := HV4.out;have hn4 : n ≤ w.heap.size := HN.out;refine ⟨_, rfl, (qG (zZ _) hv4 zBL (fun b h _ => jM)), ?_⟩;refine Below.mono ?_ HN.out
   ((with_reducible repeat' first | exact zE _ _ | assumption | refine zG ?_ ?_ _ | refine zH ?_ | refine qQ ?_ | refine zF ?_ ?_ _) <;> go_size)
 ·rw [if_neg hc] at HR
  rw [decide_eq_false hc] at hq;clear h hB hc k0 k1 kt hst hn hO hA hs hf he hqt HD;go_enter Tryz.func121, Tryz.ntmps121;go_wp2_with (go_at_call 119; refine (HS.out _ hw0).mono ?_; rintro e w2 ⟨rfl, hst2⟩; have hb2 := zW hw0 hst2; obtain ⟨c0, d0⟩ := blk1 (HB.out _ hb2).1; obtain ⟨c1, d1⟩ := blk1 (HB.out _ hb2).2.1; obtain ⟨c2, d2⟩ := blk1 (HB.out _ hb2).2.2; have hz2 := hb2.size; have n1 : ¬ w2.heap.size = w.heap.size + 1 := qE; have n2 : ¬ w.heap.size + 1 = w2.heap.size := qE);go_region;go_wp2_with fail;have hfin := H1.out.trans (hb2.mono hs1);refine zM (xA rfl _ _ (w.heap.size + 1) (.int .i64 A.line) (.int .i64 A.col) rfl (by rw [xG]; simp [qR, jB, jI _ _ (HB.out _ hb2).2.1])) rfl ?_;exact DocPB.same HR.out H.out zBK HN.out
set_option maxRecDepth 100000 in
theorem zId (v : Value) (s : St) (w : World) (S : Nat → Prop) (h : jC w S v s.lines) (he : EnvT w) (hs : Small s.lines) (hf : Fits s.lines) :
  Calls zV 72 #[stV v s] w (StSaid (keyS s (zBf s)) w) := by
 obtain ⟨W1, hW1, hB, hz, k0, k1⟩ := yF w v s;have HB : Hid (∀ W, Below W1.heap.size W1 W → W.heap[w.heap.size]? = some (.cells #[v, .int .i64 s.anc.line, .int .i64 s.anc.col, .int .i64 s.foc.line, .int .i64 s.foc.col, .int .i64 s.on, .int .i64 s.off] 26) ∧ W.heap[w.heap.size + 1]? = some (.cells #[.slice none 0 0, .int .i64 0, .int .i64 0, .int .i64 0, .int .i64 0, .int .i64 0, .int .i64 0] 26)) := zA fun W hW => ⟨zX hW k0, zX hW k1⟩;have hs1 := hB.size;have H1 := zA hB
 have HC := zA (zCe v s 121 #[.pointer (some ⟨w.heap.size, 0, none⟩)] (zBf s) W1 S (h.below (zZ _) hB) (he.below hB) hs hf (enters_of Tryz.func121 qC rfl)
  (fun hm n W a c hW h1 h2 h3 => zKi (w.heap.size) v s n a c W (zX hW k0) h3 h2 ((he.below hB).below hW) (zAo (uN hm).1).1 (zAo (uN hm).1).2))
 obtain ⟨X, hX⟩ : ∃ X, keyS s (zBf s) = X := ⟨_, rfl⟩;rw [hX] at HC ⊢;obtain ⟨p0, f0⟩ := blk k0;obtain ⟨p1, f1⟩ := blk k1;obtain ⟨va, vc, rfl⟩ := h.slice;clear h he hs hf hX k0 k1 hB;go_enter Tryz.func72, Tryz.ntmps72;go_wp2_with (go_at_call 107; refine HC.out.mono ?_; intro e w2 hsaid; obtain ⟨v2, rfl, hv2, hb2⟩ := hsaid; obtain ⟨a2, c2, rfl⟩ := hv2.slice; have HV2 := zA hv2; clear hv2; obtain ⟨q2, g2⟩ := blk (HB.out _ hb2).2);refine zM (jU rfl _ _ (w.heap.size + 1) (.slice a2 X.1.lines.length c2) (.int .i64 X.1.anc.line) (.int .i64 X.1.anc.col) (.int .i64 X.1.foc.line) (.int .i64 X.1.foc.col) (.int .i64 X.1.on) (.int .i64 X.1.off) (.int .i64 X.2) rfl rfl vV) rfl ?_;have hfin := H1.out.trans (hb2.mono hs1);have hv2 := HV2.out;exact ⟨_, rfl, (qG (zZ _) hv2 zBL (fun b h _ => jM)), by ((with_reducible repeat' first | exact zE _ _ | assumption | refine zG ?_ ?_ _ | refine zH ?_ | refine qQ ?_ | refine zF ?_ ?_ _) <;> go_size)⟩
end Go.Proofs.YtjgeadoncanheaaGreatDoor
namespace Go.Proofs.Qw
open Go.RowKit Go.Proofs.YtjgeadoncanheaaGreatDoor
def vG (c : Int) : Int × Bool := if c = 9 ∨ c = 12 ∨ c = 13 then (32, true) else if c = 10 then (c, true) else (c, !(uQ c == 1))
theorem zJn (c : Int) : (if (vG c).2 = true then some (vG c).1 else none) = zCF c := by
 unfold vG zCF
 split
 ·rfl
 ·split
  ·rename_i h; subst h; rfl
  ·by_cases h : uQ c = 1
   ·rw [if_pos h]; simp [h]
   ·rw [if_neg h]; simp [h]
end Go.Proofs.Qw
namespace Go.Proofs.YtjgeadoncanheaaGreatDoor
open Go.RowKit
open Go.Proofs.Qw
attribute [local go_sem] Oper.semAt_some
open _root_.Go.Lib renaming hid → zA
open _root_.Nat renaming le_refl → zC
open _root_.Array renaming getElem?_eq_some_iff → zL
open _root_.Go.Proofs.Tryz renaming prog → zV
open _root_.Go.Proofs.Qw renaming jX → qB
theorem zGJ : RowT zV 117 21 1 := RowT.mk' (y := 4) Tryz.underlying117 qC jA (z := .int .i32 0) jA
theorem zMw : Elt 21 1 (rdOf zBG) := zEb _ jA (fun _ => rfl) (fun x u hu => by simp [zBG] at hu; subst hu; rfl)
theorem zKP (r : Int) : ∀ u ∈ [Value.int .i32 r], u.oneCell' = true := fun u hu => by simp at hu; subst hu; rfl
theorem zKL (c : Int) (w : World) :
  Calls zV 166 #[.int .i32 c] w fun e w' => e = .returned (.tuple #[.int .i32 (vG c).1, .bool (vG c).2]) ∧ w' = w := by
 have HC := zA (zGl c w)
 by_cases h9 : c = 9
 ·subst h9
  clear HC;go_enter Tryz.func166, Tryz.ntmps166;go_wp2_with fail;go_ret2;rw [show vG 9 = (32, true) from if_pos jA];exact ⟨rfl, rfl⟩
 by_cases h12 : c = 12
 ·subst h12
  clear HC;go_enter Tryz.func166, Tryz.ntmps166;go_wp2_with fail;go_ret2;rw [show vG 12 = (32, true) from if_pos jA];exact ⟨rfl, rfl⟩
 by_cases h13 : c = 13
 ·subst h13
  clear HC;go_enter Tryz.func166, Tryz.ntmps166;go_wp2_with fail;go_ret2;rw [show vG 13 = (32, true) from if_pos jA];exact ⟨rfl, rfl⟩
 by_cases h10 : c = 10
 ·subst h10
  clear HC;go_enter Tryz.func166, Tryz.ntmps166;go_wp2_with fail;go_ret2;rw [show vG 10 = (10, true) from (if_neg jA).trans (if_pos rfl)];exact ⟨rfl, rfl⟩
 have HR : Hid (vG c = (c, !(uQ c == 1))) := zA (by unfold vG; rw [if_neg qE, if_neg h10]);have b9 : (c == 9) = false := by simpa using h9
 have b12 : (c == 12) = false := by simpa using h12
 have b13 : (c == 13) = false := by simpa using h13
 have b10 : (c == 10) = false := by simpa using h10
 clear h9 h12 h13 h10
 generalize uQ c = k at *
 go_enter Tryz.func166, Tryz.ntmps166;go_wp2_with (go_at_call 215; refine HC.out.mono ?_; rintro e w' ⟨rfl, rfl⟩);go_ret2;rw [HR.out];exact ⟨rfl, rfl⟩
theorem zEw (s : ByteArray) : ∀ (f pos : Nat), (xJ s f pos).length ≤ f
 | 0, _ => zC _
 | f + 1, pos => by
  unfold xJ
  split
  ·have := zEw s f (pos + (Utf8.decode s pos).2)
   rw [List.length_cons]; omega
  ·simp
theorem zDg (s : ByteArray) : (kC s).length ≤ s.size := zEw s _ _
set_option maxRecDepth 100000 in
theorem zMb (s : ByteArray) (g : Nat) (F : Int → Int × Bool) (eg : ∀ args w, (callFunc g args).run zV w = .ok (.enter g args) w)
  (hF : ∀ c w, Calls zV g #[.int .i32 c] w fun e w' => e = .returned (.tuple #[.int .i32 (F c).1, .bool (F c).2]) ∧ w' = w) (w : World) (hs : s.size ≤ 10000000) :
  Calls zV 165 #[.string s, .func (.func g) #[] #[]] w fun e w' => ∃ v, e = .returned v ∧ zAK true w' (fun b => w.heap.size ≤ b) v ((kC s).filterMap fun c => if (F c).2 = true then some (F c).1 else none) ∧ Below w.heap.size w w' := by
 obtain ⟨G, hG⟩ : ∃ G : Int → Option Int, (fun c => if (F c).2 = true then some (F c).1 else none) = G := ⟨_, rfl⟩;have HG : Hid (∀ c, G c = if (F c).2 = true then some (F c).1 else none) := zA fun c => by rw [← hG]
 rw [hG];have HF := zA hF;clear hG hF;go_enter Tryz.func165, Tryz.ntmps165;go_wp2_with fail;go_loopw [5] (fun l wr => ∃ (pos fuel : Nat) (acc : List Int), Hid (zAK true wr (fun b => w.heap.size + 1 ≤ b) l acc) ∧ wr.heap[w.heap.size]? = some (.stringIter s pos) ∧ Hid (Below w.heap.size w wr) ∧ Hid (acc ++ (xJ s fuel pos).filterMap G = (kC s).filterMap G) ∧ s.size ≤ pos + fuel) (fun _ wr => s.size - wr.iterPos w.heap.size)
 case atStart => exact ⟨0, s.size, [], zA (SliceR.nil _ _ _ _ _ _), World.iter_heap w s 0, zA ((Below.refl _ _).alloc (zC _) _), zA rfl, by omega⟩
 case round =>
  obtain ⟨pos, fuel, acc, HO, hit, HB, HA, hfu⟩ := hrel;have hsz : w.heap.size < wr.heap.size := (zL.1 hit).1
  by_cases hp : pos < s.size
  ·have hwd := Lib.decode_width_pos s pos hp
   have hd1 := decode_le s pos;have hnx : ∀ ty, (Instr.next (.pointer (some ⟨w.heap.size, 0, none⟩)) true ty).run zV wr = .ok (.tuple #[.bool true, .int .i64 pos, .int .i32 (Utf8.decode s pos).1]) (wr.iterAt w.heap.size s (pos + (Utf8.decode s pos).2)) := fun ty => Lib.run_next_any_at wr w.heap.size s pos ty hit hp;have hit2 := Lib.iterAt_heap wr w.heap.size s pos (pos + (Utf8.decode s pos).2) hit;have hbw2 := Lib.below_iterAt HB.out (k := w.heap.size) (zC _) s (pos + (Utf8.decode s pos).2);have hsz2 : (wr.iterAt w.heap.size s (pos + (Utf8.decode s pos).2)).heap.size = wr.heap.size := Lib.iterAt_size _ _ _ _;have HO2 := zA (SliceR.stable (w' := wr.iterAt w.heap.size s (pos + (Utf8.decode s pos).2)) (S' := fun b => w.heap.size + 1 ≤ b) (qB zBG) HO.out (Keeps.only (b := w.heap.size) hsz2 (fun d hd => Lib.iterAt_other _ _ _ _ _ hd) qT) (fun _ h _ => h));obtain ⟨f, rfl⟩ : ∃ f, fuel = f + 1 := ⟨fuel - 1, by omega⟩;have HA2 : Hid (acc ++ (((Utf8.decode s pos).1 : Int) :: xJ s f (pos + (Utf8.decode s pos).2)).filterMap G = (kC s).filterMap G) := zA (by have := HA.out; unfold xJ at this; rw [if_pos hp] at this; exact this);obtain ⟨wi, hwi⟩ : ∃ wi, wr.iterAt w.heap.size s (pos + (Utf8.decode s pos).2) = wi := ⟨_, rfl⟩;rw [hwi] at hnx hit2 hbw2 hsz2 HO2;obtain ⟨c, hcc⟩ : ∃ c : Int, ((Utf8.decode s pos).1 : Int) = c := ⟨_, rfl⟩;rw [hcc] at hnx HA2;obtain ⟨pos', hpp⟩ : ∃ pos', pos + (Utf8.decode s pos).2 = pos' := ⟨_, rfl⟩;have hpl : pos + 1 ≤ pos' := by omega
   rw [hpp] at hit2 HA2;obtain ⟨r, t, hrt⟩ : ∃ r t, F c = (r, t) := ⟨_, _, rfl⟩
   have HFc : Hid (∀ W, Calls zV g #[.int .i32 c] W fun e w' => e = .returned (.tuple #[.int .i32 r, .bool t]) ∧ w' = W) := zA fun W => by
    have := HF.out c W;rw [hrt] at this;exact this
   have hGc := HG.out c;rw [hrt] at hGc;have hm1 : (wi.iterPos w.heap.size) = pos' := by simp only [World.iterPos, hit2]
   have hm0 : (wr.iterPos w.heap.size) = pos := by simp only [World.iterPos, hit]
   have HB2 := zA hbw2;have HIT := zA hit2;have hlw : w.heap.size < wi.heap.size := (zL.1 hit2).1;have HM := zA (And.intro hm0 hm1);clear hit hit2 hbw2 HB HA HO HF HG hcc hpp hwi hrt hd1 hwd hm0 hm1 hsz2;cases t
   ·have HA3 : Hid (acc ++ (xJ s f pos').filterMap G = (kC s).filterMap G) := zA (by have := HA2.out; rw [List.filterMap_cons, hGc] at this; exact this)
    clear hGc;go_wp2_with (go_at_fn g; refine (HFc.out _).mono ?_; rintro e w1 ⟨rfl, rfl⟩);go_roundw
    case rel => exact ⟨pos', f, acc, HO2, HIT.out, HB2, HA3, by omega⟩
    case measure => rw [HM.out.1, HM.out.2]; omega
   ·have HA3 : Hid ((acc ++ [r]) ++ (xJ s f pos').filterMap G = (kC s).filterMap G) := zA (by have := HA2.out; rw [List.filterMap_cons, hGc] at this; simpa using this)
    have HL : Hid (acc.length + 1 ≤ 10000000) := zA (by
     have h1 := congrArg List.length HA3.out;have h2 := List.length_filterMap_le G (kC s);have h3 := zDg s;simp only [List.length_append, List.length_singleton] at h1
     omega)
    clear hGc
    go_wp2_with (first
     | (go_at_fn g; refine (HFc.out _).mono ?_; rintro e w1 ⟨rfl, rfl⟩)
     | (at_builtin; refine uF _ rfl _ _ 117 117 rfl zGJ zMw (w.heap.size + 1) _ _ (xs := acc) (ys := [r]) (news := [.int .i32 r]) rfl rfl (SliceR.below (qB _) HO2.out ((Below.refl _ _).alloc (zC _) _)) jD (zAH zGJ _ _ rfl (zKP r) 1 rfl) (NewsR.one rfl rfl) (by have := HL.out; simp only [List.length_singleton]; omega) ?_; intro v' w2 hR hB' _ _; have HR := zA hR; have HB' := zA hB'; clear hR hB'))
    have hi2 := (HB'.out.block w.heap.size (Nat.lt_succ_self _)).trans (jI _ _ HIT.out);go_roundw
    case rel => exact ⟨pos', f, acc ++ [r], HR, hi2, zA ((HB2.out.alloc HB2.out.size _).trans (HB'.out.mono (Nat.le_succ _))), HA3, by omega⟩
    case measure => rw [HM.out.1]; simp only [World.iterPos, hi2]; omega
  ·have hnx : ∀ ty, (Instr.next (.pointer (some ⟨w.heap.size, 0, none⟩)) true ty).run zV wr = .ok (.tuple #[.bool false]) wr := fun ty => Lib.run_next_end_at wr w.heap.size s pos ty hit hp
   have HA2 : Hid (acc = (kC s).filterMap G) := zA (by
    have := HA.out;cases fuel with
    | zero => simpa [xJ] using this
    | succ f => unfold xJ at this; rw [if_neg hp] at this; simpa using this)
   clear HF HG HA hit;go_wp2_with fail;go_ret;refine ⟨_, rfl, ?_, HB.out⟩;rw [← HA2.out];exact SliceR.stable (qB _) HO.out (Keeps.refl _ _) (fun b h _ => Nat.le_of_succ_le h)
theorem zGk (s : ByteArray) (w : World) (hs : s.size ≤ 10000000) :
  Calls zV 109 #[.string s] w fun e w' => ∃ v, e = .returned v ∧ zAK true w' (fun b => w.heap.size ≤ b) v (vH s) ∧ Below w.heap.size w w' := by
 have HE := zA (zMb s 166 vG (enters_of Tryz.func166 qC rfl) zKL w hs);have e : (fun c => if (vG c).2 = true then some (vG c).1 else none) = zCF := funext zJn;rw [e] at HE;clear e;go_enter Tryz.func109, Tryz.ntmps109;go_wp2_with (go_at_call 165; refine HE.out.mono ?_; rintro e w2 ⟨v, rfl, hv, hb⟩);go_ret;exact ⟨_, rfl, hv, hb⟩
set_option maxRecDepth 100000 in
theorem zJE (s : ByteArray) (b : Int) (h : List UInt8) (w : World) (hs : s.size ≤ 10000000) :
  Calls zV 111 #[.string s, .int .i64 b, .string ⟨h.toArray⟩] w fun e w' => ∃ v, e = .returned v ∧ jE true w' (fun b => w.heap.size ≤ b) v (cellsOf (vH s) b h) ∧ Below w.heap.size w w' := by
 have HRu := zA (zGk s w hs);have hln : (vH s).length ≤ s.size := Nat.le_trans (List.length_filterMap_le _ _) (zDg s);obtain ⟨d, hd⟩ : ∃ d, vH s = d := ⟨_, rfl⟩;rw [hd] at HRu hln ⊢;clear hd;go_enter Tryz.func111, Tryz.ntmps111;go_wp2_with (go_at_call 109; refine HRu.out.mono ?_; rintro e w2 ⟨v2, rfl, hv2, hb2⟩; obtain ⟨a2, c2, rfl, hc2, hm2, hx2⟩ := zBs hv2; have HX := zA hx2; clear hv2 hx2);have HW2 := zA hb2;unfold maxLen at hm2;clear hb2;go_loopw [7, 13] (fun out z wr => ∃ k : Nat, k ≤ d.length ∧ z = .int .i64 k ∧ Hid (jE true wr (fun b => w2.heap.size ≤ b) out (cellsOf (d.take k) b h)) ∧ Below w2.heap.size w2 wr) (fun _ z _ => d.length - (intOf z).toNat)
 case atStart => exact ⟨0, Nat.zero_le _, rfl, zA (SliceR.nil _ _ _ _ _ _), Below.refl _ _⟩
 case round =>
  obtain ⟨k, hk, rfl, HO, hb⟩ := hrel
  by_cases hlt : k < d.length
  ·obtain ⟨x, hx, _⟩ := jJ d k hlt
   obtain ⟨b1, o1, rfl, hz1, hcell⟩ := HX.out k x hx;have hcl := (hb.cell hz1).trans hcell;have HT : Hid (cellsOf (d.take (k + 1)) b h = cellsOf (d.take k) b h ++ [⟨x, b, h⟩]) := zA (by unfold cellsOf; rw [xF hx, List.map_append]; rfl);have HL : Hid ((cellsOf (d.take k) b h).length ≤ 10000000) := zA (by unfold cellsOf; rw [List.length_map, List.length_take]; omega);have i0 : (0 : Int) ≤ (k : Int) := Int.natCast_nonneg _;have i1 : (k : Int) < (d.length : Int) := by omega
   have hbs := hb.size;clear hx hz1 hcell;go_wp2_with (at_builtin; refine uF _ rfl _ _ 44 44 rfl vQ vS w2.heap.size _ _ (xs := cellsOf (d.take k) b h) (ys := [(⟨x, b, h⟩ : Cel)]) (news := [.int .i32 x, .int .i64 b, .string ⟨h.toArray⟩]) rfl rfl (SliceR.below (qB _) HO.out ((Below.refl _ _).alloc (zC _) _)) jD (zAH vQ _ _ rfl (fun u hu => by simp at hu; rcases hu with rfl | rfl | rfl <;> rfl) 1 rfl) (NewsR.one rfl rfl) (by have := HL.out; simp only [List.length_singleton]; omega) ?_; intro v' w4 hR hB' _ _; rw [← HT.out] at hR; have HR := zA hR; have HB' := zA hB'; clear hR hB');go_roundw
   case rel => exact ⟨k + 1, hlt, by go_num, HR, (hb.alloc hbs _).trans HB'.out⟩
   case measure => simp [intOf]; omega
  ·obtain rfl : k = d.length := by omega
   have HBB := zA hb;clear hb;go_wp2_with fail;go_ret;have h9 := HO.out;rw [List.take_length] at h9;exact ⟨_, rfl, SliceR.stable (qB _) h9 (Keeps.refl _ _) (fun b h _ => Nat.le_trans HW2.out.size h), jH HW2.out HBB.out⟩
end Go.Proofs.YtjgeadoncanheaaGreatDoor
namespace Go.Proofs.Qw
open Go.RowKit Go.Proofs.YtjgeadoncanheaaGreatDoor
theorem zKl {d : Doc} {a b : Ps} (h : kK d a b = true) : flat (kX d a b).1 = cellsD d a b := by
 unfold kX cellsD flat;rw [if_pos h, if_pos h];exact zFI d _
end Go.Proofs.Qw
namespace Go.Proofs.YtjgeadoncanheaaGreatDoor
open Go.RowKit
open Go.Proofs.Qw
attribute [local go_sem] Oper.semAt_some
open _root_.Go.Lib renaming hid → zA
open _root_.Go.RowKit.Below renaming refl → zE, setCell → zF, alloc → zG, drew → zH
open _root_.Go.BigFrame renaming wpQuiet_want → zI
open _root_.List renaming getElem?_eq_some_iff → zK
open _root_.Array renaming getElem?_eq_some_iff → zL
open _root_.Go renaming bodyPost_ret → zM
open _root_.Int renaming natCast_nonneg → zR
open _root_.Go.Act renaming put → zU
open _root_.Go.Proofs.Tryz renaming prog → zV
open _root_.Go.Proofs.YtjgeadoncanheaaGreatDoor renaming jH → zW, jG → zX
open _root_.Go.Proofs.Qw renaming jY → zZ, xB → qK
open _root_.Go.Proofs.Qw.SliceR renaming stable → qG
theorem zBP (v : Value) (d : List Int) (t : Int) (w : World) (S : Nat → Prop) (h : jL false w S v d) :
  Calls zV 181 #[v, .int .i64 t] w fun e w' => e = .returned (.bool (d.any fun x => x == t)) ∧ w' = w := by
 have HC : Hid (Calls zV 221 #[v, .int .i64 t] w fun e w' => ∃ r : Int, e = .returned (.int .i64 r) ∧ decide (0 ≤ r) = (d.any fun x => x == t) ∧ w' = w) := zA (by
  obtain ⟨a, c, rfl, hc, hm, hx⟩ := zAm h;have HX := zA hx;clear hx h;unfold maxLen at hm;go_enter Tryz.func221, Tryz.ntmps221;go_wp2_with fail;go_loopw [5, 8] (fun _ i wr => ∃ k : Nat, k ≤ d.length ∧ i = .int .i64 k ∧ Hid ((d.any fun x => x == t) = ((d.drop k).any fun x => x == t)) ∧ w = wr) (fun _ i _ => d.length - (intOf i).toNat)
  case atStart => exact ⟨0, Nat.zero_le _, rfl, zA rfl, rfl⟩
  case round =>
   obtain ⟨k, hk, rfl, HK, rfl⟩ := hrel;have k0 : (0 : Int) ≤ (k : Int) := zR _
   by_cases hlt : k < d.length
   ·obtain ⟨x, hx, hd⟩ := jJ d k hlt
    obtain ⟨b, o, rfl, hz, c0⟩ := HX.out k x hx;rw [hd, List.any_cons] at HK;cases hq : x == t
    ·have hq' : (t == x) = false := by rw [Bool.beq_comm]; exact hq
     rw [hq, Bool.false_or] at HK;clear hx hd;go_wp2_with fail;go_roundw
     case rel => exact ⟨k + 1, hlt, by go_num, HK, by simp⟩
     case measure => simp [intOf]; omega
    ·have hq' : (t == x) = true := by rw [Bool.beq_comm]; exact hq
     rw [hq, Bool.true_or] at HK;clear hx hd;go_wp2_with fail;go_ret;exact ⟨k, rfl, by rw [HK.out]; exact decide_eq_true k0, rfl⟩
   ·obtain rfl : k = d.length := by omega
    rw [List.drop_length] at HK;go_wp2_with fail;go_ret;exact ⟨-1, rfl, by rw [HK.out]; rfl, rfl⟩)
 obtain ⟨a, c, rfl⟩ := h.slice;clear h
 generalize (d.any fun x => x == t) = R at *
 go_enter Tryz.func181, Tryz.ntmps181;go_wp2_with (go_at_call 221; refine HC.out.mono ?_; rintro e w1 ⟨r, rfl, hr, rfl⟩; have HRR := zA hr; clear hr);go_ret;rw [← HRR.out];exact ⟨rfl, rfl⟩
theorem zCv (t : Int) : ([1, 2, 4, 8].any fun x => x == t) = four t := by
 unfold four;rw [Bool.eq_iff_iff];simp only [List.any_cons, List.any_nil, Bool.or_eq_true, beq_iff_eq, decide_eq_true_eq, Bool.or_false]
 omega
set_option maxRecDepth 100000 in
theorem zHm (Bt : Nat) (v : Value) (d : Doc) (a b : Ps) (t : Int) (w : World) (S : Nat → Prop) (h : jC w S v d) (he : EnvT w) (hs : Small d) (hf : Fits d) (ht : w.heap[Bt]? = some (.cells #[.int .i64 t] 3)) :
  Calls zV 183 #[v, posV a, posV b, .pointer (some ⟨Bt, 0, none⟩)] w (DocSaid (if allL (cellsD d a b) t = true then setD 0 t d a b else setD t 0 d a b) w) := by
 obtain ⟨W1, hW1, hB, hz, k0, k1⟩ := yP w (.int .i64 a.line) (.int .i64 a.col) (.int .i64 b.line) (.int .i64 b.col);have kt := zX hB ht;have HB : Hid (∀ W, Below W1.heap.size W1 W → W.heap[w.heap.size]? = some (.cells #[.int .i64 a.line, .int .i64 a.col] 24) ∧ W.heap[w.heap.size + 1]? = some (.cells #[.int .i64 b.line, .int .i64 b.col] 24) ∧ W.heap[Bt]? = some (.cells #[.int .i64 t] 3)) := zA fun W hW => ⟨zX hW k0, zX hW k1, zX hW kt⟩;have hs1 := hB.size;have H1 := zA hB;have hw0 : Below W1.heap.size W1 W1 := zE _ _;have HV : Hid (∀ W, Below W1.heap.size W1 W → jC W S v d) := zA fun W hW => h.below (zZ _) (hB.trans (hW.mono hs1));have HE : Hid (∀ W, Below W1.heap.size W1 W → EnvT W) := zA fun W hW => (he.below hB).below hW
 have HAl : Hid (∀ W, Below W1.heap.size W1 W → Calls zV 52 #[v, .agg #[.int .i64 a.line, .int .i64 a.col], .agg #[.int .i64 b.line, .int .i64 b.col], .int .i64 t] W fun e w' => e = .returned (.bool (allL (cellsD d a b) t)) ∧ Below W.heap.size W w') := zA fun W hW => by
  have := zFM v d a b t W S _ rfl (HV.out W hW) (HE.out W hW) hs;rw [zFS] at this;exact this
 have HSe : Hid (∀ (x y : Int) W, Below W1.heap.size W1 W → Calls zV 130 #[v, .agg #[.int .i64 a.line, .int .i64 a.col], .agg #[.int .i64 b.line, .int .i64 b.col], .int .i64 x, .int .i64 y] W (DocSaid (setD x y d a b) W)) := zA fun x y W hW => zFK v d a b x y W S (HV.out W hW) (HE.out W hW) hs hf;have HP : Hid (∀ p : Ps, posV p = .agg #[.int .i64 p.line, .int .i64 p.col]) := zA fun _ => rfl;obtain ⟨p0, f0⟩ := blk k0;obtain ⟨p1, f1⟩ := blk k1;obtain ⟨p2, f2⟩ := blk kt;obtain ⟨va, vc, rfl⟩ := h.slice;rw [HP.out a, HP.out b]
 generalize allL (cellsD d a b) t = r at *
 clear h he hs hf k0 k1 kt ht hB;cases r
 ·rw [if_neg qT]
  go_enter Tryz.func183, Tryz.ntmps183
  go_wp2_with (first
   | (go_at_call 52; refine (HAl.out _ hw0).mono ?_; rintro e w2 ⟨rfl, hst2⟩; have hb2 := zW hw0 hst2; obtain ⟨q0, g0⟩ := blk (HB.out _ hb2).1; obtain ⟨q1, g1⟩ := blk (HB.out _ hb2).2.1; obtain ⟨q2, g2⟩ := blk (HB.out _ hb2).2.2)
   | (go_at_call 130; refine (HSe.out _ _ _ hb2).mono ?_; intro e w3 hsaid; have hsaid := DocSaid.from hsaid (H1.out.trans (hb2.mono hs1)); obtain ⟨v3, rfl, hv3, hb3⟩ := hsaid))
  go_ret2;exact ⟨_, rfl, hv3, hb3⟩
 ·rw [if_pos rfl]
  go_enter Tryz.func183, Tryz.ntmps183
  go_wp2_with (first
   | (go_at_call 52; refine (HAl.out _ hw0).mono ?_; rintro e w2 ⟨rfl, hst2⟩; have hb2 := zW hw0 hst2; obtain ⟨q0, g0⟩ := blk (HB.out _ hb2).1; obtain ⟨q1, g1⟩ := blk (HB.out _ hb2).2.1; obtain ⟨q2, g2⟩ := blk (HB.out _ hb2).2.2)
   | (go_at_call 130; refine (HSe.out _ _ _ hb2).mono ?_; intro e w3 hsaid; have hsaid := DocSaid.from hsaid (H1.out.trans (hb2.mono hs1)); obtain ⟨v3, rfl, hv3, hb3⟩ := hsaid))
  go_ret2;exact ⟨_, rfl, hv3, hb3⟩
set_option maxRecDepth 100000 in
theorem zIi (Bt : Nat) (v : Value) (d : Doc) (a b : Ps) (hr : List UInt8) (w : World) (S : Nat → Prop) (h : jC w S v d) (he : EnvT w) (hs : Small d) (hf : Fits d) (hh : hr.length ≤ 1000000) (ht : w.heap[Bt]? = some (.cells #[.string ⟨hr.toArray⟩] 9)) :
  Calls zV 125 #[v, posV a, posV b, .pointer (some ⟨Bt, 0, none⟩)] w (DocSaid (if kN hr = true then uB hr d a b else ([], 1)) w) := by
 obtain ⟨W1, hW1, hB, hz, k0, k1⟩ := yP w (.int .i64 a.line) (.int .i64 a.col) (.int .i64 b.line) (.int .i64 b.col);have kt := zX hB ht;have HB : Hid (∀ W, Below W1.heap.size W1 W → W.heap[w.heap.size]? = some (.cells #[.int .i64 a.line, .int .i64 a.col] 24) ∧ W.heap[w.heap.size + 1]? = some (.cells #[.int .i64 b.line, .int .i64 b.col] 24) ∧ W.heap[Bt]? = some (.cells #[.string ⟨hr.toArray⟩] 9)) := zA fun W hW => ⟨zX hW k0, zX hW k1, zX hW kt⟩;have hs1 := hB.size;have H1 := zA hB;have hw0 : Below W1.heap.size W1 W1 := zE _ _;have HV : Hid (∀ W, Below W1.heap.size W1 W → jC W S v d) := zA fun W hW => h.below (zZ _) (hB.trans (hW.mono hs1));have HE : Hid (∀ W, Below W1.heap.size W1 W → EnvT W) := zA fun W hW => (he.below hB).below hW;have HAl : Hid (∀ W, Below W1.heap.size W1 W → Calls zV 126 #[.string ⟨hr.toArray⟩] W fun e w' => e = .returned (.bool (kN hr)) ∧ Below W.heap.size W w') := zA fun W hW => zDx ⟨hr.toArray⟩ W (HE.out W hW) zEk;have HSe : Hid (∀ W, Below W1.heap.size W1 W → Calls zV 127 #[v, .agg #[.int .i64 a.line, .int .i64 a.col], .agg #[.int .i64 b.line, .int .i64 b.col], .string ⟨hr.toArray⟩] W (DocSaid (uB hr d a b) W)) := zA fun W hW => zFk v d a b hr W S (HV.out W hW) (HE.out W hW) hs hf hh;have HP : Hid (∀ p : Ps, posV p = .agg #[.int .i64 p.line, .int .i64 p.col]) := zA fun _ => rfl;obtain ⟨p0, f0⟩ := blk k0;obtain ⟨p1, f1⟩ := blk k1;obtain ⟨p2, f2⟩ := blk kt;obtain ⟨va, vc, rfl⟩ := h.slice;rw [HP.out a, HP.out b]
 generalize kN hr = r at *
 clear h he hs hf hh k0 k1 kt ht hB;cases r
 ·rw [if_neg qT]
  go_enter Tryz.func125, Tryz.ntmps125;go_wp2_with ((go_at_call 126; refine (HAl.out _ hw0).mono ?_; rintro e w2 ⟨rfl, hst2⟩; have hb2 := zW hw0 hst2; skip));go_ret2;exact ⟨_, rfl, SliceR.nil _ _ _ _ _ _, H1.out.trans (hb2.mono hs1)⟩
 ·rw [if_pos rfl]
  go_enter Tryz.func125, Tryz.ntmps125
  go_wp2_with (first
   | (go_at_call 126; refine (HAl.out _ hw0).mono ?_; rintro e w2 ⟨rfl, hst2⟩; have hb2 := zW hw0 hst2; obtain ⟨q0, g0⟩ := blk (HB.out _ hb2).1; obtain ⟨q1, g1⟩ := blk (HB.out _ hb2).2.1; obtain ⟨q2, g2⟩ := blk (HB.out _ hb2).2.2)
   | (go_at_call 127; refine (HSe.out _ hb2).mono ?_; intro e w3 hsaid; have hsaid := DocSaid.from hsaid (H1.out.trans (hb2.mono hs1)); obtain ⟨v3, rfl, hv3, hb3⟩ := hsaid))
  go_ret2;exact ⟨_, rfl, hv3, hb3⟩
set_option maxRecDepth 100000 in
theorem zHH (v : Value) (d : Doc) (a b : Ps) (w : World) (S : Nat → Prop) (h : jC w S v d) (he : EnvT w) (hs : Small d) (hf : Fits d) :
  Calls zV 129 #[v, posV a, posV b] w (DocSaid (if vJ (cellsD d a b) 15 = true then setD 0 15 d a b else ([], 7)) w) := by
 obtain ⟨W1, hW1, hB, hz, k0, k1⟩ := yP w (.int .i64 a.line) (.int .i64 a.col) (.int .i64 b.line) (.int .i64 b.col);have HB : Hid (∀ W, Below W1.heap.size W1 W → W.heap[w.heap.size]? = some (.cells #[.int .i64 a.line, .int .i64 a.col] 24) ∧ W.heap[w.heap.size + 1]? = some (.cells #[.int .i64 b.line, .int .i64 b.col] 24)) := zA fun W hW => ⟨zX hW k0, zX hW k1⟩;have hs1 := hB.size;have H1 := zA hB;have hw0 : Below W1.heap.size W1 W1 := zE _ _;have HV : Hid (∀ W, Below W1.heap.size W1 W → jC W S v d) := zA fun W hW => h.below (zZ _) (hB.trans (hW.mono hs1));have HE : Hid (∀ W, Below W1.heap.size W1 W → EnvT W) := zA fun W hW => (he.below hB).below hW
 have HAl : Hid (∀ W, Below W1.heap.size W1 W → Calls zV 51 #[v, .agg #[.int .i64 a.line, .int .i64 a.col], .agg #[.int .i64 b.line, .int .i64 b.col], .int .i64 15] W fun e w' => e = .returned (.bool (vJ (cellsD d a b) 15)) ∧ Below W.heap.size W w') := zA fun W hW => by
  have := zFi v d a b 15 W S _ rfl (HV.out W hW) (HE.out W hW) hs;rw [zFR] at this;exact this
 have HSe : Hid (∀ W, Below W1.heap.size W1 W → Calls zV 130 #[v, .agg #[.int .i64 a.line, .int .i64 a.col], .agg #[.int .i64 b.line, .int .i64 b.col], .int .i64 0, .int .i64 15] W (DocSaid (setD 0 15 d a b) W)) := zA fun W hW => zFK v d a b 0 15 W S (HV.out W hW) (HE.out W hW) hs hf;have HP : Hid (∀ p : Ps, posV p = .agg #[.int .i64 p.line, .int .i64 p.col]) := zA fun _ => rfl;obtain ⟨p0, f0⟩ := blk k0;obtain ⟨p1, f1⟩ := blk k1;obtain ⟨va, vc, rfl⟩ := h.slice;rw [HP.out a, HP.out b]
 generalize vJ (cellsD d a b) 15 = r at *
 clear h he hs hf k0 k1 hB;cases r
 ·rw [if_neg qT]
  go_enter Tryz.func129, Tryz.ntmps129;go_wp2_with ((go_at_call 51; refine (HAl.out _ hw0).mono ?_; rintro e w2 ⟨rfl, hst2⟩; have hb2 := zW hw0 hst2; skip));go_ret2;exact ⟨_, rfl, SliceR.nil _ _ _ _ _ _, H1.out.trans (hb2.mono hs1)⟩
 ·rw [if_pos rfl]
  go_enter Tryz.func129, Tryz.ntmps129
  go_wp2_with (first
   | (go_at_call 51; refine (HAl.out _ hw0).mono ?_; rintro e w2 ⟨rfl, hst2⟩; have hb2 := zW hw0 hst2; obtain ⟨q0, g0⟩ := blk (HB.out _ hb2).1; obtain ⟨q1, g1⟩ := blk (HB.out _ hb2).2)
   | (go_at_call 130; refine (HSe.out _ hb2).mono ?_; intro e w3 hsaid; have hsaid := DocSaid.from hsaid (H1.out.trans (hb2.mono hs1)); obtain ⟨v3, rfl, hv3, hb3⟩ := hsaid))
  go_ret2;exact ⟨_, rfl, hv3, hb3⟩
theorem zDH (w : World) (v : Value) (s : St) (u : Value) (t : TypeId) : ∃ W1, ((w.alloc (.cells #[v, .int .i64 s.anc.line, .int .i64 s.anc.col, .int .i64 s.foc.line, .int .i64 s.foc.col, .int .i64 s.on, .int .i64 s.off] 26)).alloc (.cells #[u] t)).alloc (.cells #[.slice none 0 0, .int .i64 0, .int .i64 0, .int .i64 0, .int .i64 0, .int .i64 0, .int .i64 0] 26) = W1 ∧ Below w.heap.size w W1 ∧ w.heap.size + 3 = W1.heap.size ∧
  W1.heap[w.heap.size]? = some (.cells #[v, .int .i64 s.anc.line, .int .i64 s.anc.col, .int .i64 s.foc.line, .int .i64 s.foc.col, .int .i64 s.on, .int .i64 s.off] 26) ∧ W1.heap[w.heap.size + 1]? = some (.cells #[u] t) ∧ W1.heap[w.heap.size + 2]? = some (.cells #[.slice none 0 0, .int .i64 0, .int .i64 0, .int .i64 0, .int .i64 0, .int .i64 0, .int .i64 0] 26) :=
 ⟨_, rfl, zBH (zE _ _) _ _ _, by simp, jI _ _ (jI _ _ (jF _ _ rfl)), jI _ _ (jF _ _ qT), jF _ _ qT⟩
set_option maxRecDepth 100000 in
theorem zIV (v : Value) (s : St) (hr : List UInt8) (w : World) (S : Nat → Prop) (h : jC w S v s.lines) (he : EnvT w) (hs : Small s.lines) (hf : Fits s.lines) (hh : hr.length ≤ 1000000) :
  Calls zV 74 #[stV v s, .string ⟨hr.toArray⟩] w (StSaid (yY s (zCI s hr)) w) := by
 obtain ⟨W1, hW1, hB, hz, k0, k1, k2⟩ := zDH w v s (.string ⟨hr.toArray⟩) 9;have HB : Hid (∀ W, Below W1.heap.size W1 W → W.heap[w.heap.size]? = some (.cells #[v, .int .i64 s.anc.line, .int .i64 s.anc.col, .int .i64 s.foc.line, .int .i64 s.foc.col, .int .i64 s.on, .int .i64 s.off] 26) ∧ W.heap[w.heap.size + 2]? = some (.cells #[.slice none 0 0, .int .i64 0, .int .i64 0, .int .i64 0, .int .i64 0, .int .i64 0, .int .i64 0] 26)) := zA fun W hW => ⟨zX hW k0, zX hW k2⟩;have hs1 := hB.size;have H1 := zA hB
 have HC := zA (zBR v s 125 #[.pointer (some ⟨w.heap.size + 1, 0, none⟩)] (zCI s hr) W1 S (h.below (zZ _) hB) (he.below hB) hs (enters_of Tryz.func125 qC rfl)
  (fun _ W hW => zIi (w.heap.size + 1) v s.lines (qV s).1 (qV s).2 hr W S (h.below (zZ _) (hB.trans (hW.mono hs1))) ((he.below hB).below hW) hs hf hh (zX hW k1)))
 obtain ⟨X, hX⟩ : ∃ X, yY s (zCI s hr) = X := ⟨_, rfl⟩;rw [hX] at HC ⊢;obtain ⟨p0, f0⟩ := blk k0;obtain ⟨p1, f1⟩ := blk k1;obtain ⟨p2, f2⟩ := blk k2;obtain ⟨va, vc, rfl⟩ := h.slice;clear h he hs hf hh hX k0 k1 k2 hB;go_enter Tryz.func74, Tryz.ntmps74;go_wp2_with (go_at_call 124; refine HC.out.mono ?_; intro e w2 hsaid; obtain ⟨v2, rfl, hv2, hb2⟩ := hsaid; obtain ⟨a2, c2, rfl⟩ := hv2.slice; have HV2 := zA hv2; clear hv2; obtain ⟨q2, g2⟩ := blk (HB.out _ hb2).2);refine zM (jU rfl _ _ (w.heap.size + 2) (.slice a2 X.1.lines.length c2) (.int .i64 X.1.anc.line) (.int .i64 X.1.anc.col) (.int .i64 X.1.foc.line) (.int .i64 X.1.foc.col) (.int .i64 X.1.on) (.int .i64 X.1.off) (.int .i64 X.2) rfl rfl zBM) rfl ?_;have hfin := H1.out.trans (hb2.mono hs1);have hv2 := HV2.out;exact ⟨_, rfl, (qG (zZ _) hv2 zAh (fun b h _ => jM)), by ((with_reducible repeat' first | exact zE _ _ | assumption | refine zG ?_ ?_ _ | refine zH ?_ | refine jK ?_ | refine zF ?_ ?_ _) <;> go_size)⟩
set_option maxRecDepth 100000 in
theorem zIg (v : Value) (s : St) (w : World) (S : Nat → Prop) (h : jC w S v s.lines) (he : EnvT w) (hs : Small s.lines) (hf : Fits s.lines) :
  Calls zV 76 #[stV v s] w (StSaid (yY s (zCD s)) w) := by
 obtain ⟨W1, hW1, hB, hz, k0, k2⟩ := yF w v s;have HB : Hid (∀ W, Below W1.heap.size W1 W → W.heap[w.heap.size]? = some (.cells #[v, .int .i64 s.anc.line, .int .i64 s.anc.col, .int .i64 s.foc.line, .int .i64 s.foc.col, .int .i64 s.on, .int .i64 s.off] 26) ∧ W.heap[w.heap.size + 1]? = some (.cells #[.slice none 0 0, .int .i64 0, .int .i64 0, .int .i64 0, .int .i64 0, .int .i64 0, .int .i64 0] 26)) := zA fun W hW => ⟨zX hW k0, zX hW k2⟩;have hs1 := hB.size;have H1 := zA hB
 have HC := zA (zBR v s 129 #[] (zCD s) W1 S (h.below (zZ _) hB) (he.below hB) hs (enters_of Tryz.func129 qC rfl)
  (fun _ W hW => zHH v s.lines (qV s).1 (qV s).2 W S (h.below (zZ _) (hB.trans (hW.mono hs1))) ((he.below hB).below hW) hs hf))
 obtain ⟨X, hX⟩ : ∃ X, yY s (zCD s) = X := ⟨_, rfl⟩;rw [hX] at HC ⊢;obtain ⟨p0, f0⟩ := blk k0;obtain ⟨p2, f2⟩ := blk k2;obtain ⟨va, vc, rfl⟩ := h.slice;clear h he hs hf hX k0 k2 hB;go_enter Tryz.func76, Tryz.ntmps76;go_wp2_with (go_at_call 124; refine HC.out.mono ?_; intro e w2 hsaid; obtain ⟨v2, rfl, hv2, hb2⟩ := hsaid; obtain ⟨a2, c2, rfl⟩ := hv2.slice; have HV2 := zA hv2; clear hv2; obtain ⟨q2, g2⟩ := blk (HB.out _ hb2).2);refine zM (jU rfl _ _ (w.heap.size + 1) (.slice a2 X.1.lines.length c2) (.int .i64 X.1.anc.line) (.int .i64 X.1.anc.col) (.int .i64 X.1.foc.line) (.int .i64 X.1.foc.col) (.int .i64 X.1.on) (.int .i64 X.1.off) (.int .i64 X.2) rfl rfl zBM) rfl ?_;have hfin := H1.out.trans (hb2.mono hs1);have hv2 := HV2.out;exact ⟨_, rfl, (qG (zZ _) hv2 zAh (fun b h _ => jM)), by ((with_reducible repeat' first | exact zE _ _ | assumption | refine zG ?_ ?_ _ | refine zH ?_ | refine jK ?_ | refine zF ?_ ?_ _) <;> go_size)⟩
theorem zLh (l : Lin) (d : Doc) : flat (l :: d) = l.cells ++ flat d := by simp [flat]
set_option maxRecDepth 100000 in
theorem zIQ (v : Value) (s : St) (w : World) (S : Nat → Prop) (h : jC w S v s.lines) (he : EnvT w) (hs : Small s.lines) (hf : Fits s.lines) (hm : mayS s = true) :
  Calls zV 112 #[stV v s] w fun e w' => e = .returned (.int .i64 (typB s)) ∧ Below w.heap.size w w' := by
 obtain ⟨W1, hW1, hB, hz, k0⟩ := xC w v s;have HB : Hid (∀ W, Below W1.heap.size W1 W → W.heap[w.heap.size]? = some (.cells #[v, .int .i64 s.anc.line, .int .i64 s.anc.col, .int .i64 s.foc.line, .int .i64 s.foc.col, .int .i64 s.on, .int .i64 s.off] 26)) := zA fun W hW => zX hW k0;have hs1 := hB.size;have H1 := zA hB;have hw0 : Below W1.heap.size W1 W1 := zE _ _;have HV : Hid (∀ W, Below W1.heap.size W1 W → jC W S v s.lines) := zA fun W hW => h.below (zZ _) (hB.trans (hW.mono hs1));have HE : Hid (∀ W, Below W1.heap.size W1 W → EnvT W) := zA fun W hW => (he.below hB).below hW;have HSp : Hid (∀ W, Below W1.heap.size W1 W → Calls zV 49 #[stV v s] W fun e w' => e = .returned (.tuple #[.agg #[.int .i64 (qV s).1.line, .int .i64 (qV s).1.col], .agg #[.int .i64 (qV s).2.line, .int .i64 (qV s).2.col]]) ∧ Below W.heap.size W w') := zA fun W hW => zAk v s W;obtain ⟨hMo, hsp, _, _, hiA⟩ := uN hm;obtain ⟨i, n, l, hA, hl, hnl, hml, hla⟩ := zCE (vY hm).1 hiA;have HPt : Hid (∀ W, Below W1.heap.size W1 W → Calls zV 103 #[v, posV (qV s).1, posV (qV s).2] W (DocSaid (kX s.lines (qV s).1 (qV s).2) W)) := zA fun W hW => zFj v s.lines _ _ W S (HV.out W hW) (HE.out W hW) hs hf;have hfl := zKl hsp
 have hR : typB s = bits .or .i64 (bits .andNot .i64 (zBk (flat (kX s.lines (qV s).1 (qV s).2).1) (kO l.cells n).1) s.off) s.on := by
  unfold typB;rw [hfl, hla, hA]
  rfl
 have HR := zA hR;obtain ⟨px, pe, hpx⟩ : ∃ px pe, kX s.lines (qV s).1 (qV s).2 = (px, pe) := ⟨_, _, rfl⟩;rw [hpx] at HPt HR
 have HPL : Hid (px.length ≤ 1000000) := zA (by
  obtain ⟨_, i2, j2, p2, q2, _, _, e1, e2, g1, g2, _⟩ := uI hsp;have h9 := hsp;rw [e1, e2] at h9;have h8 := zJo h9;rw [← e1, ← e2, hpx] at h8;have := (zK.1 g2).1;have := hf.1;simp only at h8
  omega)
 obtain ⟨B, hBB⟩ : ∃ B, (qV s).2 = B := ⟨_, rfl⟩;rw [hA, hBB] at HSp HPt;have HP : Hid (∀ p : Ps, posV p = .agg #[.int .i64 p.line, .int .i64 p.col]) := zA fun _ => rfl;rw [HP.out, HP.out] at HPt;obtain ⟨x, y, hxy⟩ : ∃ x y, kO l.cells n = (x, y) := ⟨_, _, rfl⟩;rw [hxy] at HR;have HXY := zA hxy;have hil := (zK.1 hl).1;obtain ⟨va, vc, rfl, hvc, hvm, hx⟩ := kJ h;obtain ⟨b, o, la, lc, ca, cc, rfl, hAt⟩ := hx i l hl;have HAT : Hid (∀ W, Below W1.heap.size W1 W → LinAt W S b (o + i * 4) l la lc ca cc) := zA fun W hW => hAt.below (hB.trans (hW.mono hs1));unfold maxLen at hvm;have i0 : (0 : Int) ≤ (i : Int) := zR _;have i1 : (i : Int) < (s.lines.length : Int) := by omega
 obtain ⟨p0, f0⟩ := blk k0;obtain ⟨r, hr⟩ : ∃ r, typB s = r := ⟨_, rfl⟩;rw [hr] at HR ⊢;clear hr h he hs hf hm hMo hsp hiA hl hml hla hA hfl hpx hBB hxy hx hAt k0 hB hR;go_enter Tryz.func112, Tryz.ntmps112;go_wp2_with (go_at_call 49; refine (HSp.out _ hw0).mono ?_; rintro e w2 ⟨rfl, hb2⟩; obtain ⟨q0, g0⟩ := blk (HB.out _ hb2));obtain ⟨w3, hw3⟩ : ∃ w3, (w2.alloc (.cells #[.int .i64 i, .int .i64 n] 24)).alloc (.cells #[.int .i64 B.line, .int .i64 B.col] 24) = w3 := ⟨_, rfl⟩;rw [hw3];have hb23 : Below w2.heap.size w2 w3 := hw3 ▸ ((zE _ _).alloc (Nat.le_refl _) _).alloc qT _;have n3 : w3.heap[w2.heap.size]? = some (.cells #[.int .i64 i, .int .i64 n] 24) := hw3 ▸ jI _ _ (jF _ _ rfl);have n4 : w3.heap[w2.heap.size + 1]? = some (.cells #[.int .i64 B.line, .int .i64 B.col] 24) := hw3 ▸ jF _ _ qT;have hb3 := zW hb2 hb23;have HB3 : Hid (∀ W, Below w3.heap.size w3 W → W.heap[w2.heap.size]? = some (.cells #[.int .i64 i, .int .i64 n] 24) ∧ W.heap[w2.heap.size + 1]? = some (.cells #[.int .i64 B.line, .int .i64 B.col] 24)) := zA fun W hW => ⟨zX hW n3, zX hW n4⟩
 have HAr : Hid (∀ W, Below w3.heap.size w3 W → Calls zV 84 #[.slice ca l.cells.length cc, .int .i64 n] W fun e w' => e = .returned (.tuple #[.int .i64 x, .string ⟨y.toArray⟩]) ∧ Below W.heap.size W w') := zA fun W hW => by
  have := zDE _ l.cells n W S (HAT.out W (zW hb3 hW)).cellsR hnl;rw [HXY.out] at this;exact this
 clear n3 n4 q0 g0 p0 f0 hw3;refine kZ w3.heap.size qC qC ?_;refine zI qC (fun K hK => ?_);refine qK ?_ (fun W hW => ?_) (hK _ ?_);rotate_left 1
 ·skip
  go_simp
  try rfl
 clear hK;clear K;try simp only [zU, qI, qX, qY]
 refine zI qC (fun K hK => ?_);refine qK ?_ (fun W hW => ?_) (hK _ ?_);rotate_left 1
 ·skip
  obtain ⟨p0, f0⟩ := blk (HB.out _ (zW hb3 hW));obtain ⟨p3, f3⟩ := blk (HB3.out _ hW).1;obtain ⟨_, _, _, _, c3, _, _⟩ := HAT.out _ (zW hb3 hW);go_simp
  try rfl
 clear hK;clear K;try simp only [zU, qI, qX, qY]
 refine zI qC (fun K hK => ?_);refine qK ?_ (fun W hW => ?_) (hK _ ?_);rotate_left 1
 ·skip
  go_simp
  try rfl
 clear hK;clear K;try simp only [zU, qI, qX, qY]
 refine zI qC (fun K hK => ?_);refine qK ?_ (fun W hW => ?_) (hK _ ?_);rotate_left 1
 ·skip
  obtain ⟨p0, f0⟩ := blk (HB.out _ (zW hb3 hW));obtain ⟨p3, f3⟩ := blk (HB3.out _ hW).1;obtain ⟨_, _, _, _, c3, _, _⟩ := HAT.out _ (zW hb3 hW);go_simp
  try rfl
 clear hK;clear K;try simp only [zU, qI, qX, qY]
 refine zI qC (fun K hK => ?_);refine qK ?_ (fun W hW => ?_) (hK _ ?_);rotate_left 1
 ·skip
  go_simp
  try rfl
 clear hK;clear K;try simp only [zU, qI, qX, qY]
 refine zI qC (fun K hK => ?_);refine qK ?_ (fun W hW => ?_) (hK _ ?_);rotate_left 1
 ·skip
  go_simp
  try rfl
 clear hK;clear K;try simp only [zU, qI, qX, qY]
 refine zI qC (fun K hK => ?_);refine qK ?_ (fun W hW => ?_) (hK _ ?_);rotate_left 1
 ·skip
  obtain ⟨p0, f0⟩ := blk (HB.out _ (zW hb3 hW));obtain ⟨p3, f3⟩ := blk (HB3.out _ hW).1;obtain ⟨_, _, _, _, c3, _, _⟩ := HAT.out _ (zW hb3 hW);go_simp
  try rfl
 clear hK;clear K;try simp only [zU, qI, qX, qY]
 refine zI qC (fun K hK => ?_);refine qK ?_ (fun W hW => ?_) (hK _ ?_);rotate_left 1
 ·skip
  go_simp
  try rfl
 clear hK;clear K;try simp only [zU, qI, qX, qY]
 refine zI qC (fun K hK => ?_);refine qK ?_ (fun W hW => ?_) (hK _ ?_);rotate_left 1
 ·skip
  obtain ⟨p0, f0⟩ := blk (HB.out _ (zW hb3 hW));obtain ⟨p3, f3⟩ := blk (HB3.out _ hW).1;obtain ⟨_, _, _, _, c3, _, _⟩ := HAT.out _ (zW hb3 hW);go_simp
  try rfl
 clear hK;clear K;try simp only [zU, qI, qX, qY]
 refine zI qC (fun K hK => ?_);refine yX (f := ?_) (args := ?_) ?_ (fun W hW => ?_) (fun W hW => ?_) (hK _ ?_);rotate_left 3
 ·go_simp
  constructor <;> rfl
 ·refine (HAr.out _ hW).mono ?_
  rintro e W2 ⟨rfl, hbW⟩;refine ⟨?_, zW hW hbW⟩
  rfl
 clear hK;clear K;try simp only [zU, qI, qX, qY]
 refine zI qC (fun K hK => ?_);refine qK ?_ (fun W hW => ?_) (hK _ ?_);rotate_left 1
 ·skip
  go_simp
  try rfl
 clear hK;clear K;try simp only [zU, qI, qX, qY]
 refine zI qC (fun K hK => ?_);refine qK ?_ (fun W hW => ?_) (hK _ ?_);rotate_left 1
 ·skip
  go_simp
  try rfl
 clear hK;clear K;try simp only [zU, qI, qX, qY]
 refine zI qC (fun K hK => ?_);refine qK ?_ (fun W hW => ?_) (hK _ ?_);rotate_left 1
 ·skip
  go_simp
  try rfl
 clear hK;clear K;try simp only [zU, qI, qX, qY]
 refine zI qC (fun K hK => ?_);refine qK ?_ (fun W hW => ?_) (hK _ ?_);rotate_left 1
 ·skip
  go_simp
  try rfl
 clear hK;clear K;try simp only [zU, qI, qX, qY]
 refine zI qC (fun K hK => ?_);refine qK ?_ (fun W hW => ?_) (hK _ ?_);rotate_left 1
 ·skip
  go_simp
  try rfl
 clear hK;clear K;try simp only [zU, qI, qX, qY]
 refine wpQuiet_nil (fun X6 hstX6 => ?_);have hcX6 := zW hb3 hstX6;obtain ⟨p0, f0⟩ := blk (HB.out _ hcX6);obtain ⟨p3, f3⟩ := blk (HB3.out _ hstX6).1;obtain ⟨p4, f4⟩ := blk (HB3.out _ hstX6).2;go_wp2_with (go_at_call 103; refine (HPt.out _ hcX6).mono ?_; intro e w7 hsaid; obtain ⟨v7, rfl, hv7, hst7⟩ := hsaid; obtain ⟨a7, c7, rfl, hc7, hm7, hx7⟩ := kJ hv7.read; have HX := zA hx7; clear hv7 hx7);have hb7 := zW hcX6 hst7;have HK0 := zA hb7;unfold maxLen at hm7;have hpl := HPL.out;clear p0 f0 p3 f3 p4 f4;go_loopw [5, 39] (fun bb z wr => ∃ k : Nat, k ≤ px.length ∧ z = .int .i64 k ∧ bb = .int .i64 x ∧ Hid (zBk (flat px) x = zBk (flat (px.drop k)) x) ∧ Below w7.heap.size w7 wr) (fun _ z _ => px.length - (intOf z).toNat)
 case atStart => exact ⟨0, Nat.zero_le _, rfl, rfl, zA rfl, zE _ _⟩
 case round =>
  obtain ⟨k, hk, rfl, rfl, HK, hb⟩ := hrel;have hbw := zW hb7 hb
  by_cases hlt : k < px.length
  ·obtain ⟨ln, hln, hdr⟩ := jJ px k hlt
   obtain ⟨b1, o1, la1, lc1, ca1, cc1, rfl, hAk⟩ := HX.out k ln hln;obtain ⟨_, d0, d1, d2, d3, _, hcR⟩ := hAk.below hb;rw [hdr, zLh] at HK;have k0' : (0 : Int) ≤ (k : Int) := zR _;have k1' : (k : Int) < (px.length : Int) := by omega
   cases hce : ln.cells with
   | nil =>
    rw [hce] at d3 HK;rw [List.nil_append] at HK;simp only [List.length_nil] at d3;clear hcR hAk hln hdr hce;go_wp2_with fail;go_roundw
    case rel => exact ⟨k + 1, hlt, by go_num, rfl, HK, hb.alloc hb.size _⟩
    case measure => simp [intOf]; omega
   | cons cel cels =>
    rw [hce] at d3 HK hcR;obtain ⟨a9, c9, e9, _, _, hx9⟩ := yO hcR;cases e9;obtain ⟨b9, o9, rfl, hz9, u0, u1, u2⟩ := hx9 0 cel rfl;rw [Nat.zero_mul, Nat.add_zero] at u0 u1 u2;have u1' : ∀ X, (wr.alloc X).cell? ⟨b9, o9 + 1, none⟩ = some (.int .i64 cel.bits) := fun X => (World.cell?_of_block (heap_alloc_old _ _ hz9)).trans u1;have hp1 : (0 : Int) < (((cel :: cels).length : Nat) : Int) := by simp
    have hp2 : 0 < (cel :: cels).length := by simp
    have HKK : Hid (zBk (flat px) x = cel.bits) := zA (HK.out.trans rfl);obtain ⟨m, hm⟩ : ∃ m, (cel :: cels).length = m := ⟨_, rfl⟩;rw [hm] at d3 hp1 hp2;have r0 := on1 (HB.out _ hbw);clear hcR hAk hln hdr hce HK hx9 u0 u1 u2;go_wp2_with fail;go_ret;rw [HR.out, HKK.out];exact ⟨rfl, H1.out.trans ((hbw.alloc hbw.size _).mono hs1)⟩
  ·obtain rfl : k = px.length := by omega
   have HKK : Hid (zBk (flat px) x = x) := zA (by have := HK.out; rw [List.drop_length] at this; exact this);obtain ⟨p0, f0⟩ := blk (HB.out _ hbw);clear HK;go_wp2_with fail;go_ret;rw [HR.out, HKK.out];exact ⟨rfl, H1.out.trans (hbw.mono hs1)⟩
set_option maxRecDepth 100000 in
theorem zKE (Bt Bs : Nat) (v : Value) (s : St) (t : ByteArray) (n : Nat) (a : Option Addr) (c : Nat) (w : World) (S : Nat → Prop) (ht : w.heap[Bt]? = some (.cells #[.string t] 9)) (hst : w.heap[Bs]? = some (.cells #[v, .int .i64 s.anc.line, .int .i64 s.anc.col, .int .i64 s.foc.line, .int .i64 s.foc.col, .int .i64 s.on, .int .i64 s.off] 26)) (hv : jC w S v s.lines) (he : EnvT w) (hs : Small s.lines) (hf : Fits s.lines) (hm : mayS s = true)
  (h : DocR true w (fun b => n ≤ b) (.slice a (outS s).length c) (outS s)) (hn : n ≤ w.heap.size) (hts : t.size ≤ 1000000) :
  Calls zV 108 #[.slice a (outS s).length c, posV (qV s).1, .pointer (some ⟨Bt, 0, none⟩), .pointer (some ⟨Bs, 0, none⟩)] w (DocPB n (uS s t) w) := by
 obtain ⟨hMo, hsp, hiO, _, hiA⟩ := uN hm;obtain ⟨i, p, l, hA, hl, hpl, hml, hla⟩ := zCE hMo hiO;have hso := (zAo hMo).1;have hfo := (zAo hMo).2;obtain ⟨x, y, hxy⟩ : ∃ x y, kO l.cells p = (x, y) := ⟨_, _, rfl⟩
 have hyl : y.length ≤ 1000000 := by
  have h9 : (kO l.cells p).2 = y := by rw [hxy]
  rw [← h9];unfold kO;simp only
  split
  ·rename_i h1
   have hme : (l.cells.getD (p - 1) default) ∈ l.cells := by
    rw [List.getD_eq_getElem?_getD, List.getElem?_eq_getElem (show p - 1 < l.cells.length by omega)];exact List.getElem_mem _
   exact hso.2.2 l (vL hl) _ hme
  ·simp
 have HR : Hid (uS s t = if 8192 < t.size then ([], ⟨i, p⟩, 10) else if vH t = [] then ([], ⟨i, p⟩, 7) else vR (cellsOf (vH t) (typB s) y) (outS s) ⟨i, p⟩) := zA (by
  unfold uS;rw [hla, hA];simp only [Int.toNat_natCast];rw [hxy])
 have hcl : (vH t).length ≤ t.size := Nat.le_trans (List.length_filterMap_le _ _) (zDg t);have HXY := zA hxy;have HOL := zA hl;obtain ⟨O, hO⟩ : ∃ O, outS s = O := ⟨_, rfl⟩;rw [hO] at h hl hso hfo HR HOL;rw [hO, hA];obtain ⟨W1, hW1, hB, hz, k0, k1⟩ := yP w (.int .i64 i) (.int .i64 p) (.int .i64 0) (.int .i64 0);have hs1 := hB.size;have kt := zX hB ht;have ks := zX hB hst;have HB : Hid (∀ W, Below W1.heap.size W1 W → W.heap[w.heap.size]? = some (.cells #[.int .i64 (⟨i, p⟩ : Ps).line, .int .i64 (⟨i, p⟩ : Ps).col] 24) ∧ W.heap[w.heap.size + 1]? = some (.cells #[.int .i64 0, .int .i64 0] 24) ∧ W.heap[Bt]? = some (.cells #[.string t] 9) ∧ W.heap[Bs]? = some (.cells #[v, .int .i64 s.anc.line, .int .i64 s.anc.col, .int .i64 s.foc.line, .int .i64 s.foc.col, .int .i64 s.on, .int .i64 s.off] 26)) := zA fun W hW => ⟨zX hW k0, zX hW k1, zX hW kt, zX hW ks⟩;have hw0 : Below W1.heap.size W1 W1 := zE _ _;have hE1 := he.below hB;have HCln : Hid (∀ W, Below W1.heap.size W1 W → Calls zV 109 #[.string t] W fun e w' => ∃ v, e = .returned v ∧ zAK true w' (fun b => W.heap.size ≤ b) v (vH t) ∧ Below W.heap.size W w') := zA fun W _ => zGk t W qE;have HBi : Hid (∀ W, Below W1.heap.size W1 W → Calls zV 112 #[stV v s] W fun e w' => e = .returned (.int .i64 (typB s)) ∧ Below W.heap.size W w') := zA fun W hW => zIQ v s W S (hv.below (zZ _) (hB.trans (hW.mono hs1))) (hE1.below hW) hs hf hm;have HOf : Hid (∀ b W, Below W1.heap.size W1 W → Calls zV 111 #[.string t, .int .i64 b, .string ⟨y.toArray⟩] W fun e w' => ∃ v, e = .returned v ∧ jE true w' (fun b => W.heap.size ≤ b) v (cellsOf (vH t) b y) ∧ Below W.heap.size W w') := zA fun b W _ => zJE t b y W qE
 have HIn : Hid (∀ b lv S2 W, Below W1.heap.size W1 W → jE false W S2 lv (cellsOf (vH t) b y) → Calls zV 110 #[.slice a O.length c, .agg #[.int .i64 i, .int .i64 p], lv] W (DocPSaid (vR (cellsOf (vH t) b y) O ⟨i, p⟩) W)) := zA fun b lv S2 W hW hlv => zHV _ lv O _ ⟨i, p⟩ W (fun b => n ≤ b) S2 (h.below (hB.trans (hW.mono hs1))).read hlv (hE1.below hW) hso hfo (by unfold cellsOf; rw [List.length_map]; omega) (fun c hc => by
  unfold cellsOf at hc;obtain ⟨r, _, rfl⟩ := List.mem_map.1 hc;exact hyl)
 obtain ⟨a', c', ee, hvc, hvm, hx⟩ := kJ (h.below hB).read;cases ee;obtain ⟨b, o, la, lc, ca, cc, rfl, hAt⟩ := hx i l hl;have HAT : Hid (∀ W, Below W1.heap.size W1 W → LinAt W (fun b => n ≤ b) b (o + i * 4) l la lc ca cc) := zA fun W hW => hAt.below hW
 have HAr : Hid (∀ W, Below W1.heap.size W1 W → Calls zV 84 #[.slice ca l.cells.length cc, .int .i64 p] W fun e w' => e = .returned (.tuple #[.int .i64 x, .string ⟨y.toArray⟩]) ∧ Below W.heap.size W w') := zA fun W hW => by
  have := zDE _ l.cells p W _ (HAT.out W hW).cellsR hpl;rw [HXY.out] at this;exact this
 have hil := (zK.1 hl).1;unfold maxLen at hvm;have i0 : (0 : Int) ≤ (i : Int) := zR _;have i1 : (i : Int) < (O.length : Int) := by omega
 have HP : Hid (∀ p : Ps, posV p = .agg #[.int .i64 p.line, .int .i64 p.col]) := zA fun _ => rfl;rw [HP.out];have H1 := zA hB;have HN := zA hn;have HK := zA k1;have hBt := (zL.1 ht).1;have hBs := (zL.1 hst).1;have e1 : ¬ Bt = w.heap.size := by omega
 have e2 : ¬ Bt = w.heap.size + 1 := by omega
 have e3 : ¬ Bs = w.heap.size := by omega
 have e4 : ¬ Bs = w.heap.size + 1 := by omega
 have e5 : ¬ w.heap.size + 1 = Bt := by omega
 have e6 : ¬ w.heap.size + 1 = Bs := by omega
 obtain ⟨p0, f0⟩ := blk k0;obtain ⟨p1, f1⟩ := blk k1;obtain ⟨p2, f2⟩ := blk kt;obtain ⟨va, vc, rfl⟩ := hv.slice;obtain ⟨tb, htb⟩ : ∃ tb, typB s = tb := ⟨_, rfl⟩;rw [htb] at HBi HR;obtain ⟨cl, hcl2⟩ : ∃ cl, vH t = cl := ⟨_, rfl⟩;rw [hcl2] at HCln HOf HIn HR hcl;have HOf := zA (fun W hW => HOf.out tb W hW);have HIn := zA (fun lv S2 W hW h9 => HIn.out tb lv S2 W hW h9);clear ht hst hv he hs hf hm h hn hMo hsp hiO hiA hA hl hpl hml hla hso hfo hxy hyl hO k0 k1 kt ks hB hE1 hx hAt htb hcl2
 by_cases h8 : 8192 < t.size
 ·have HR := zA (HR.out.trans (if_pos h8))
  have h8i : (8192 : Int) < (t.size : Int) := by omega
  go_enter Tryz.func108, Tryz.ntmps108;go_wp2_with fail;go_region;go_wp2_with fail;refine zM (xA rfl _ _ (w.heap.size + 1) (.int .i64 i) (.int .i64 p) rfl (by rw [xG]; simp [jN, jB, HK.out])) rfl ?_;have hfin := H1.out;exact DocPB.err HR.out zAO HN.out
 have HR := zA (HR.out.trans (if_neg h8));have h8i : ¬ (8192 : Int) < (t.size : Int) := by omega
 by_cases hc0 : cl = []
 ·have HR := zA (HR.out.trans (if_pos hc0))
  have hcz : ((cl.length : Nat) : Int) = 0 := by rw [hc0]; rfl
  have hcz2 : (((cl.length : Nat) : Int) == 0) = true := by rw [hcz]; rfl
  clear hc0 hcz;go_enter Tryz.func108, Tryz.ntmps108;go_wp2_with (go_at_call 109; refine (HCln.out _ hw0).mono ?_; rintro e w2 ⟨v2, rfl, hv2, hst2⟩; obtain ⟨a2, c2, rfl⟩ := hv2.slice; clear hv2; have hb2 := zW hw0 hst2; obtain ⟨q0, g0⟩ := blk (HB.out _ hb2).1; obtain ⟨q1, g1⟩ := blk (HB.out _ hb2).2.1; obtain ⟨q2, g2⟩ := blk (HB.out _ hb2).2.2.1);go_region;go_wp2_with fail;refine zM (xA rfl _ _ (w.heap.size + 1) (.int .i64 i) (.int .i64 p) rfl (by rw [xG]; simp [jN, jB, (HB.out _ hb2).2.1])) rfl ?_;have hfin := H1.out.trans (hb2.mono hs1);exact DocPB.err HR.out zAO HN.out
 have HR := zA (HR.out.trans (if_neg hc0))
 have hcz2 : (((cl.length : Nat) : Int) == 0) = false := by
  have : cl.length ≠ 0 := fun e => hc0 (List.length_eq_zero_iff.1 e)
  simp
  exact hc0
 clear hc0;obtain ⟨Y, q, er, hY⟩ : ∃ Y q er, vR (cellsOf cl tb y) O ⟨i, p⟩ = (Y, q, er) := ⟨_, _, _, rfl⟩;rw [hY] at HIn HR;clear hY;go_enter Tryz.func108, Tryz.ntmps108;go_wp2_with (go_at_call 109; refine (HCln.out _ hw0).mono ?_; rintro e w2 ⟨v2, rfl, hv2, hst2⟩; obtain ⟨a2, c2, rfl⟩ := hv2.slice; clear hv2; have hb2 := zW hw0 hst2; obtain ⟨q0, g0⟩ := blk (HB.out _ hb2).1; obtain ⟨q1, g1⟩ := blk (HB.out _ hb2).2.1; obtain ⟨q2, g2⟩ := blk (HB.out _ hb2).2.2.1);refine kZ w2.heap.size qC qC ?_;refine zI qC (fun K hK => ?_);refine qK ?_ (fun W hW => ?_) (hK _ ?_);rotate_left 1
 ·skip
  go_simp
  try rfl
 clear hK;clear K;try simp only [zU, qI, qX, qY]
 refine zI qC (fun K hK => ?_);refine qK ?_ (fun W hW => ?_) (hK _ ?_);rotate_left 1
 ·skip
  go_simp
  try rfl
 clear hK;clear K;try simp only [zU, qI, qX, qY]
 refine zI qC (fun K hK => ?_);refine qK ?_ (fun W hW => ?_) (hK _ ?_);rotate_left 1
 ·skip
  obtain ⟨p0, f0⟩ := blk (HB.out _ (zW hb2 hW)).1;obtain ⟨_, _, _, _, c3, _, _⟩ := HAT.out _ (zW hb2 hW);go_simp
  try rfl
 clear hK;clear K;try simp only [zU, qI, qX, qY]
 refine zI qC (fun K hK => ?_);refine qK ?_ (fun W hW => ?_) (hK _ ?_);rotate_left 1
 ·skip
  go_simp
  try rfl
 clear hK;clear K;try simp only [zU, qI, qX, qY]
 refine zI qC (fun K hK => ?_);refine qK ?_ (fun W hW => ?_) (hK _ ?_);rotate_left 1
 ·skip
  go_simp
  try rfl
 clear hK;clear K;try simp only [zU, qI, qX, qY]
 refine zI qC (fun K hK => ?_);refine qK ?_ (fun W hW => ?_) (hK _ ?_);rotate_left 1
 ·skip
  obtain ⟨p0, f0⟩ := blk (HB.out _ (zW hb2 hW)).1;obtain ⟨_, _, _, _, c3, _, _⟩ := HAT.out _ (zW hb2 hW);go_simp
  try rfl
 clear hK;clear K;try simp only [zU, qI, qX, qY]
 refine zI qC (fun K hK => ?_);refine qK ?_ (fun W hW => ?_) (hK _ ?_);rotate_left 1
 ·skip
  go_simp
  try rfl
 clear hK;clear K;try simp only [zU, qI, qX, qY]
 refine zI qC (fun K hK => ?_);refine qK ?_ (fun W hW => ?_) (hK _ ?_);rotate_left 1
 ·skip
  obtain ⟨p0, f0⟩ := blk (HB.out _ (zW hb2 hW)).1;obtain ⟨_, _, _, _, c3, _, _⟩ := HAT.out _ (zW hb2 hW);go_simp
  try rfl
 clear hK;clear K;try simp only [zU, qI, qX, qY]
 refine zI qC (fun K hK => ?_);refine yX (f := ?_) (args := ?_) ?_ (fun W hW => ?_) (fun W hW => ?_) (hK _ ?_);rotate_left 3
 ·go_simp
  constructor <;> rfl
 ·refine (HAr.out _ (zW hb2 hW)).mono ?_
  rintro e W2 ⟨rfl, hbW⟩;refine ⟨?_, zW hW hbW⟩
  rfl
 clear hK;clear K;try simp only [zU, qI, qX, qY]
 refine zI qC (fun K hK => ?_);refine qK ?_ (fun W hW => ?_) (hK _ ?_);rotate_left 1
 ·skip
  go_simp
  try rfl
 clear hK;clear K;try simp only [zU, qI, qX, qY]
 refine zI qC (fun K hK => ?_);refine qK ?_ (fun W hW => ?_) (hK _ ?_);rotate_left 1
 ·skip
  go_simp
  try rfl
 clear hK;clear K;try simp only [zU, qI, qX, qY]
 refine zI qC (fun K hK => ?_);refine qK ?_ (fun W hW => ?_) (hK _ ?_);rotate_left 1
 ·skip
  go_simp
  try rfl
 clear hK;clear K;try simp only [zU, qI, qX, qY]
 refine zI qC (fun K hK => ?_);refine qK ?_ (fun W hW => ?_) (hK _ ?_);rotate_left 1
 ·skip
  go_simp
  try rfl
 clear hK;clear K;try simp only [zU, qI, qX, qY]
 refine zI qC (fun K hK => ?_);refine qK ?_ (fun W hW => ?_) (hK _ ?_);rotate_left 1
 ·skip
  go_simp
  try rfl
 clear hK;clear K;try simp only [zU, qI, qX, qY]
 refine wpQuiet_nil (fun X6 hstX6 => ?_);have hcX6 := zW hb2 hstX6;clear p0 f0 p1 f1 p2 f2 q0 g0 q1 g1 q2 g2;obtain ⟨p0, f0⟩ := blk (HB.out _ hcX6).1;obtain ⟨p1, f1⟩ := blk (HB.out _ hcX6).2.1;obtain ⟨p2, f2⟩ := blk (HB.out _ hcX6).2.2.1;obtain ⟨p3, f3⟩ := blk (HB.out _ hcX6).2.2.2;have hd6 : Below W1.heap.size W1 X6.drew := hcX6.drew;go_wp2_with fail
 go_region_held3 (fun w' => w'.cell? ⟨w.heap.size, 0, none⟩ = some (.int .i64 i) ∧ w'.cell? ⟨w.heap.size, 1, none⟩ = some (.int .i64 p) ∧ w'.cell? ⟨Bt, 0, none⟩ = some (.string t) ∧ w'.cell? ⟨Bs, 0, none⟩ = some (.slice va s.lines.length vc) ∧ w'.cell? ⟨Bs, 1, none⟩ = some (.int .i64 s.anc.line) ∧ w'.cell? ⟨Bs, 2, none⟩ = some (.int .i64 s.anc.col) ∧ w'.cell? ⟨Bs, 3, none⟩ = some (.int .i64 s.foc.line) ∧ w'.cell? ⟨Bs, 4, none⟩ = some (.int .i64 s.foc.col) ∧ w'.cell? ⟨Bs, 5, none⟩ = some (.int .i64 s.on) ∧ w'.cell? ⟨Bs, 6, none⟩ = some (.int .i64 s.off)) (go_keep)
  ((first
   | (go_at_call 112; refine (HBi.out _ hd6).mono ?_; rintro e w7 ⟨rfl, hst7⟩; have hb7 := zW hd6 hst7; obtain ⟨r0, s0⟩ := blk (HB.out _ hb7).1; obtain ⟨r1, s1⟩ := blk (HB.out _ hb7).2.1; obtain ⟨r2, s2⟩ := blk (HB.out _ hb7).2.2.1; obtain ⟨r3, s3⟩ := blk (HB.out _ hb7).2.2.2)
   | (go_at_call 111; refine (HOf.out _ hb7).mono ?_; rintro e w8 ⟨v8, rfl, hv8, hst8⟩; have hb8 := zW hb7 hst8; have HI8 := zA (fun W hW => HIn.out v8 (fun b => w7.heap.size ≤ b) W hW); have HV8 := zA (SliceR.read (fun _ _ h => h) hv8); clear hv8; obtain ⟨r4, s4⟩ := blk (HB.out _ hb8).1; obtain ⟨r5, s5⟩ := blk (HB.out _ hb8).2.1; obtain ⟨r6, s6⟩ := blk (HB.out _ hb8).2.2.1; obtain ⟨r7, s7⟩ := blk (HB.out _ hb8).2.2.2)
   | (go_at_call 110; refine (HI8.out _ hb8 HV8.out).mono ?_; intro e w9 hsaid; obtain ⟨v9, he9, hv9, hst9⟩ := hsaid; rw [HP.out] at he9; subst he9; have hb9 := zW hb8 hst9; have HV9 := zA hv9; clear hv9; obtain ⟨t0, u0⟩ := blk (HB.out _ hb9).1; obtain ⟨t1, u1⟩ := blk (HB.out _ hb9).2.1; obtain ⟨t2, u2⟩ := blk (HB.out _ hb9).2.2.1; obtain ⟨t3, u3⟩ := blk (HB.out _ hb9).2.2.2)))
 go_wp2_with fail;have hfin := H1.out.trans (hb9.mono hs1);refine zM (xA rfl _ _ (w.heap.size + 1) (.int .i64 q.line) (.int .i64 q.col) rfl (by simp [jN, jB, (HB.out _ hb9).2.1])) rfl ?_;rw [HR.out];have hv9 := HV9.out;have hz8 := hb8.size;have hn9 : n ≤ w.heap.size := HN.out;refine ⟨_, rfl, (qG (zZ _) hv9 zAh (fun b h _ => jM)), ?_⟩;refine Below.mono ?_ HN.out
 ((with_reducible repeat' first | exact zE _ _ | assumption | refine zG ?_ ?_ _ | refine zH ?_ | refine jK ?_ | refine zF ?_ ?_ _) <;> go_size)
set_option maxRecDepth 100000 in
theorem zEU (v : Value) (s : St) (t : ByteArray) (w : World) (S : Nat → Prop) (h : jC w S v s.lines) (he : EnvT w) (hs : Small s.lines) (hf : Fits s.lines) (hts : t.size ≤ 1000000) :
  Calls zV 67 #[stV v s, .string t] w (StSaid (keyS s (uS s t)) w) := by
 obtain ⟨W1, hW1, hB, hz, k0, k1, k2⟩ := zDH w v s (.string t) 9;have HB : Hid (∀ W, Below W1.heap.size W1 W → W.heap[w.heap.size]? = some (.cells #[v, .int .i64 s.anc.line, .int .i64 s.anc.col, .int .i64 s.foc.line, .int .i64 s.foc.col, .int .i64 s.on, .int .i64 s.off] 26) ∧ W.heap[w.heap.size + 2]? = some (.cells #[.slice none 0 0, .int .i64 0, .int .i64 0, .int .i64 0, .int .i64 0, .int .i64 0, .int .i64 0] 26)) := zA fun W hW => ⟨zX hW k0, zX hW k2⟩;have hs1 := hB.size;have H1 := zA hB
 have HC := zA (zCe v s 108 #[.pointer (some ⟨w.heap.size + 1, 0, none⟩), .pointer (some ⟨w.heap.size, 0, none⟩)] (uS s t) W1 S (h.below (zZ _) hB) (he.below hB) hs hf (enters_of Tryz.func108 qC rfl)
  (fun hm n W a c hW h1 h2 h3 => zKE (w.heap.size + 1) w.heap.size v s t n a c W S (zX hW k1) (zX hW k0) (h.below (zZ _) (hB.trans (hW.mono hs1))) ((he.below hB).below hW) hs hf hm h3 h2 hts))
 obtain ⟨X, hX⟩ : ∃ X, keyS s (uS s t) = X := ⟨_, rfl⟩;rw [hX] at HC ⊢;obtain ⟨p0, f0⟩ := blk k0;obtain ⟨p1, f1⟩ := blk k1;obtain ⟨p2, f2⟩ := blk k2;obtain ⟨va, vc, rfl⟩ := h.slice;clear h he hs hf hX k0 k1 k2 hB;go_enter Tryz.func67, Tryz.ntmps67;go_wp2_with (go_at_call 107; refine HC.out.mono ?_; intro e w2 hsaid; obtain ⟨v2, rfl, hv2, hb2⟩ := hsaid; obtain ⟨a2, c2, rfl⟩ := hv2.slice; have HV2 := zA hv2; clear hv2; obtain ⟨q2, g2⟩ := blk (HB.out _ hb2).2);refine zM (jU rfl _ _ (w.heap.size + 2) (.slice a2 X.1.lines.length c2) (.int .i64 X.1.anc.line) (.int .i64 X.1.anc.col) (.int .i64 X.1.foc.line) (.int .i64 X.1.foc.col) (.int .i64 X.1.on) (.int .i64 X.1.off) (.int .i64 X.2) rfl rfl zBM) rfl ?_;have hfin := H1.out.trans (hb2.mono hs1);have hv2 := HV2.out;exact ⟨_, rfl, (qG (zZ _) hv2 zAh (fun b h _ => jM)), by ((with_reducible repeat' first | exact zE _ _ | assumption | refine zG ?_ ?_ _ | refine zH ?_ | refine jK ?_ | refine zF ?_ ?_ _) <;> go_size)⟩
end Go.Proofs.YtjgeadoncanheaaGreatDoor
