/- Parts of the proof. -/
import Derived.Test.YtjgeadoncanheaaGreatDoorBlkLinesN
import Derived.Test.YtjgeadoncanheaaGreatDoorEmptiedN
import Derived.Test.YtjgeadoncanheaaGreatDoorQryActsN
import Derived.Test.YtjgeadoncanheaaGreatDoorQryArgsN
set_option linter.unusedVariables false
set_option linter.unusedSimpArgs false
set_option maxHeartbeats 8000000
namespace Go.Proofs.YtjgeadoncanheaaGreatDoor
open Go.RowKit
open Go.Proofs.Qw
attribute [local go_sem] Oper.semAt_some
open _root_.Go.Lib renaming hid → zA
open _root_.And renaming intro → zB
open _root_.Nat renaming le_refl → zC
open _root_.Go.RowKit.Below renaming refl → zE, setCell → zF, alloc → zG, drew → zH
open _root_.List renaming getElem?_eq_some_iff → zK
open _root_.Go renaming bodyPost_ret → zM
open _root_.Int renaming natCast_nonneg → zR
open _root_.Go.Proofs.Tryz renaming prog → zV
open _root_.Go.Proofs.YtjgeadoncanheaaGreatDoor renaming jF → zW, jG → zX, jN → qQ, jL → qR
open _root_.Go.Proofs.Qw renaming jW → zZ
open _root_.Go.Proofs.Qw.SliceR renaming stable → qG
open _root_.Go.Proofs.Qw.Keeps renaming refl → qM, alloc → qN, drew → qO, set → qP
theorem zBX (s : St) (a : List UInt8) : uY s a = if ((tagF (jZ a)).getD 0 ≠ 2 ∧ (if 3 ≤ (tagF (jZ a)).getD 0 ∧ (tagF (jZ a)).getD 0 ≤ 5 then (tagF (jZ a)).getD 0 - 2 else 0) = 0) then (noS, 1) else yE (if 3 ≤ (tagF (jZ a)).getD 0 ∧ (tagF (jZ a)).getD 0 ≤ 5 then (tagF (jZ a)).getD 0 - 2 else 0) s := by
 unfold uY;rw [zKf];cases h : tagF (jZ a) with
 | none => rfl
 | some t =>
  simp only [Option.getD_some]
  by_cases h1 : 2 ≤ t ∧ t ≤ 5
  ·rw [if_pos h1]
   by_cases h2 : t = 2
   ·subst h2
    rfl
   ·rw [if_pos (show 3 ≤ t ∧ t ≤ 5 by omega), if_neg qC]
  ·rw [if_neg h1, if_neg (show ¬ (3 ≤ t ∧ t ≤ 5) by omega), if_pos ⟨by omega, rfl⟩]
theorem zJJ (ar : ByteArray) (h : 1 < ar.size) : (ar.extract 1 (ar.size - 1)).data.toList = (ar.data.toList.drop 1).dropLast := by
 have e : (ar.extract 1 (ar.size - 1)).data.toList = (ar.data.toList.drop 1).take (ar.size - 1 - 1) := by
  rw [ByteArray.data_extract, Array.toList_extract]
 rw [e, List.dropLast_eq_take, List.length_drop, Array.length_toList]
 rfl
theorem zBZ {o : Option UInt8} {b c : UInt8} (h : o = some b) : (o = some c) ↔ ((b.toNat : Int) == (c.toNat : Int)) = true := by
 subst h;constructor
 ·intro e
  cases e
  simp
 ·intro e
  have : (b.toNat : Int) = (c.toNat : Int) := by simpa using e
  have : b.toNat = c.toNat := by omega
  rw [UInt8.toNat_inj.1 this]
set_option maxRecDepth 100000 in
theorem zHR (v : Value) (s : St) (ar : ByteArray) (w : World) (S : Nat → Prop) (h : jE w S v s.lines) (he : EnvT w) (hs : Small s.lines) (hf : Fits s.lines) (ha : ar.size ≤ 1000000) (hn : ar.size ≤ 1) :
  Calls zV 77 #[stV v s, .string ar] w (StSaid (uY s ar.data.toList) w) := by
 obtain ⟨W1, hW1, hB, hz, k0, k2⟩ := xE w v s;have HB : Hid (∀ W, Below W1.heap.size W1 W → W.heap[w.heap.size]? = some (.cells #[v, .int .i64 s.anc.line, .int .i64 s.anc.col, .int .i64 s.foc.line, .int .i64 s.foc.col, .int .i64 s.on, .int .i64 s.off] 26) ∧ W.heap[w.heap.size + 1]? = some (.cells #[.slice none 0 0, .int .i64 0, .int .i64 0, .int .i64 0, .int .i64 0, .int .i64 0, .int .i64 0] 26)) := zA fun W hW => ⟨zX hW k0, zX hW k2⟩;have hs1 := hB.size;have H1 := zA hB;have hw0 : Below W1.heap.size W1 W1 := zE _ _
 have HTF : Hid (∀ W, Below W1.heap.size W1 W → Calls zV 131 #[.string (ar)] W fun e w' => e = .returned (.tuple #[.int .i64 ((tagF (jZ ar.data.toList)).getD 0), .bool (tagF (jZ ar.data.toList)).isSome]) ∧ Below W.heap.size W w') := zA fun W hW => by
  have := zBI (ar) W ((he.below hB).below hW) (ha);rw [show jZ ar.data.toList = ar.data.toList from (if_neg (fun h => by have h2 : ar.data.toList.length = ar.size := Array.length_toList; omega))];exact this
 have HFB : Hid (∀ k W, Below W1.heap.size W1 W → Calls zV 133 #[stV v s, .int .i64 k] W (StSaid (yE k s) W)) := zA fun k W hW => zBD v s k W S ((h.below (zZ _) hB).below (zZ _) hW) ((he.below hB).below hW) hs hf;have HR := zA (zBX s ar.data.toList);obtain ⟨tf, htf⟩ : ∃ t, (tagF (jZ ar.data.toList)).getD 0 = t := ⟨_, rfl⟩;obtain ⟨tb, htb⟩ : ∃ t, (tagF (jZ ar.data.toList)).isSome = t := ⟨_, rfl⟩;rw [htf] at HTF HR;rw [htb] at HTF;obtain ⟨p0, f0⟩ := blk k0;obtain ⟨p1, f1⟩ := blk k2;obtain ⟨va, vc, rfl⟩ := h.slice;have hsz : 0 ≤ (ar.size : Int) := zR _;have i1 : ¬ (1 : Int) < (ar.size : Int) := by omega
 have i2 : ¬ 1 < ar.size := by omega
 clear h he hs hf hB k0 k2 htf htb;have HH : Hid (∀ W, Calls zV 132 #[.int .i64 tf] W fun e w' => e = .returned (.int .i64 (if 3 ≤ tf ∧ tf ≤ 5 then tf - 2 else 0)) ∧ Below W.heap.size W w') := zA fun W => zBz tf W;obtain ⟨hd, hhd⟩ : ∃ x : Int, (if 3 ≤ tf ∧ tf ≤ 5 then tf - 2 else 0) = x := ⟨_, rfl⟩;rw [hhd] at HH HR;clear hhd;obtain ⟨X, hX⟩ : ∃ X, yE hd s = X := ⟨_, rfl⟩;have HFB : Hid (∀ W, Below W1.heap.size W1 W → Calls zV 133 #[stV (.slice va s.lines.length vc) s, .int .i64 hd] W (StSaid X W)) := zA fun W hW => hX ▸ HFB.out hd W hW;rw [hX] at HR;clear hX;rcases (show tf = 2 ∨ (tf ≠ 2 ∧ hd = 0) ∨ (tf ≠ 2 ∧ hd ≠ 0) by omega) with q | ⟨q, q2⟩ | ⟨q, q2⟩
 ·have HR := zA (HR.out.trans (if_neg (fun h => h.1 q)))
  have d2 : (tf != 2) = false := by simp [q]
  have HQ := zA q;clear q;go_enter Tryz.func77, Tryz.ntmps77
  go_wp2_with (first
    | (go_at_call 131; refine (HTF.out _ hw0).mono ?_; rintro e w2 ⟨rfl, hb2⟩; obtain ⟨q0, g0⟩ := blk (HB.out _ hb2).1; obtain ⟨q1, g1⟩ := blk (HB.out _ hb2).2)
    | (go_at_call 132; refine (HH.out _).mono ?_; rintro e w3 ⟨rfl, hst3⟩; have hb3 := zW hb2 hst3; clear q0 g0 q1 g1; obtain ⟨q0, g0⟩ := blk (HB.out _ hb3).1; obtain ⟨q1, g1⟩ := blk (HB.out _ hb3).2))
  have hdr : Below W1.heap.size W1 w2.drew := hb2.drew
  go_region_held3 (fun w' => w'.cell? ⟨w.heap.size, 0, none⟩ = some (.slice va s.lines.length vc) ∧ w'.cell? ⟨w.heap.size, 1, none⟩ = some (.int .i64 s.anc.line) ∧ w'.cell? ⟨w.heap.size, 2, none⟩ = some (.int .i64 s.anc.col) ∧ w'.cell? ⟨w.heap.size, 3, none⟩ = some (.int .i64 s.foc.line) ∧ w'.cell? ⟨w.heap.size, 4, none⟩ = some (.int .i64 s.foc.col) ∧ w'.cell? ⟨w.heap.size, 5, none⟩ = some (.int .i64 s.on) ∧ w'.cell? ⟨w.heap.size, 6, none⟩ = some (.int .i64 s.off)) (go_keep)
   (first
    | (go_at_call 132; refine (HH.out _).mono ?_; rintro e w5 ⟨rfl, hst5⟩; have hb5 := zW hdr hst5; obtain ⟨t0, u0⟩ := blk (HB.out _ hb5).1; obtain ⟨t1, u1⟩ := blk (HB.out _ hb5).2)
    | (go_at_call 133; refine (HFB.out _ hb5).mono ?_; rintro e w6 ⟨v6, rfl, hv6, hst6⟩; have hb6 := zW hb5 hst6; obtain ⟨a6, c6, rfl⟩ := hv6.slice; obtain ⟨t2, u2⟩ := blk (HB.out _ hb6).1; obtain ⟨t3, u3⟩ := blk (HB.out _ hb6).2; have HV := zA hv6; clear hv6))
  go_wp2_with fail;refine zM (jQ rfl _ _ (w.heap.size + 1) (.slice a6 X.1.lines.length c6) (.int .i64 X.1.anc.line) (.int .i64 X.1.anc.col) (.int .i64 X.1.foc.line) (.int .i64 X.1.foc.col) (.int .i64 X.1.on) (.int .i64 X.1.off) (.int .i64 X.2) rfl rfl vZ) rfl ?_;rw [HR.out];have hfin := H1.out.trans (hb6.mono hs1);have hs5 := hb5.size;have hv6 := HV.out;exact ⟨_, rfl, (qG (zZ _) hv6 jM (fun b h _ => jJ)), by ((with_reducible repeat' first | exact zE _ _ | assumption | refine zG ?_ ?_ _ | refine zH ?_ | refine qQ ?_ | refine zF ?_ ?_ _) <;> go_size)⟩
 ·have HR := zA (HR.out.trans (if_pos ⟨q, q2⟩))
  have d2 : (tf != 2) = true := by simp [q]
  have d3 : (hd == 0) = true := by simp [q2]
  go_enter Tryz.func77, Tryz.ntmps77
  go_wp2_with (first
    | (go_at_call 131; refine (HTF.out _ hw0).mono ?_; rintro e w2 ⟨rfl, hb2⟩; obtain ⟨q0, g0⟩ := blk (HB.out _ hb2).1; obtain ⟨q1, g1⟩ := blk (HB.out _ hb2).2)
    | (go_at_call 132; refine (HH.out _).mono ?_; rintro e w3 ⟨rfl, hst3⟩; have hb3 := zW hb2 hst3; clear q0 g0 q1 g1; obtain ⟨q0, g0⟩ := blk (HB.out _ hb3).1; obtain ⟨q1, g1⟩ := blk (HB.out _ hb3).2))
  refine zM (jQ rfl _ _ (w.heap.size + 1) (.slice none 0 0) (.int .i64 0) (.int .i64 0) (.int .i64 0) (.int .i64 0) (.int .i64 0) (.int .i64 0) (.int .i64 1) rfl rfl zCn) rfl ?_;unfold StSaid;rw [HR.out];have hfin := H1.out.trans (hb3.mono hs1);exact ⟨_, rfl, SliceR.nil _ _ _ _ _ _, by ((with_reducible repeat' first | exact zE _ _ | assumption | refine zG ?_ ?_ _ | refine zH ?_ | refine qQ ?_ | refine zF ?_ ?_ _) <;> go_size)⟩
 ·have HR := zA (HR.out.trans (if_neg (fun h => q2 h.2)))
  have d2 : (tf != 2) = true := by simp [q]
  have d3 : (hd == 0) = false := by simp [q2]
  clear q q2;go_enter Tryz.func77, Tryz.ntmps77
  go_wp2_with (first
    | (go_at_call 131; refine (HTF.out _ hw0).mono ?_; rintro e w2 ⟨rfl, hb2⟩; obtain ⟨q0, g0⟩ := blk (HB.out _ hb2).1; obtain ⟨q1, g1⟩ := blk (HB.out _ hb2).2)
    | (go_at_call 132; refine (HH.out _).mono ?_; rintro e w3 ⟨rfl, hst3⟩; have hb3 := zW hb2 hst3; clear q0 g0 q1 g1; obtain ⟨q0, g0⟩ := blk (HB.out _ hb3).1; obtain ⟨q1, g1⟩ := blk (HB.out _ hb3).2))
  have hdr : Below W1.heap.size W1 w3.drew := hb3.drew
  go_region_held3 (fun w' => w'.cell? ⟨w.heap.size, 0, none⟩ = some (.slice va s.lines.length vc) ∧ w'.cell? ⟨w.heap.size, 1, none⟩ = some (.int .i64 s.anc.line) ∧ w'.cell? ⟨w.heap.size, 2, none⟩ = some (.int .i64 s.anc.col) ∧ w'.cell? ⟨w.heap.size, 3, none⟩ = some (.int .i64 s.foc.line) ∧ w'.cell? ⟨w.heap.size, 4, none⟩ = some (.int .i64 s.foc.col) ∧ w'.cell? ⟨w.heap.size, 5, none⟩ = some (.int .i64 s.on) ∧ w'.cell? ⟨w.heap.size, 6, none⟩ = some (.int .i64 s.off)) (go_keep)
   (first
    | (go_at_call 132; refine (HH.out _).mono ?_; rintro e w5 ⟨rfl, hst5⟩; have hb5 := zW hdr hst5; obtain ⟨t0, u0⟩ := blk (HB.out _ hb5).1; obtain ⟨t1, u1⟩ := blk (HB.out _ hb5).2)
    | (go_at_call 133; refine (HFB.out _ hb5).mono ?_; rintro e w6 ⟨v6, rfl, hv6, hst6⟩; have hb6 := zW hb5 hst6; obtain ⟨a6, c6, rfl⟩ := hv6.slice; obtain ⟨t2, u2⟩ := blk (HB.out _ hb6).1; obtain ⟨t3, u3⟩ := blk (HB.out _ hb6).2; have HV := zA hv6; clear hv6))
  go_wp2_with fail;refine zM (jQ rfl _ _ (w.heap.size + 1) (.slice a6 X.1.lines.length c6) (.int .i64 X.1.anc.line) (.int .i64 X.1.anc.col) (.int .i64 X.1.foc.line) (.int .i64 X.1.foc.col) (.int .i64 X.1.on) (.int .i64 X.1.off) (.int .i64 X.2) rfl rfl vZ) rfl ?_;rw [HR.out];have hfin := H1.out.trans (hb6.mono hs1);have hs5 := hb5.size;have hv6 := HV.out;exact ⟨_, rfl, (qG (zZ _) hv6 jM (fun b h _ => jJ)), by ((with_reducible repeat' first | exact zE _ _ | assumption | refine zG ?_ ?_ _ | refine zH ?_ | refine qQ ?_ | refine zF ?_ ?_ _) <;> go_size)⟩
set_option maxRecDepth 100000 in
theorem zHQ (v : Value) (s : St) (ar : ByteArray) (w : World) (S : Nat → Prop) (h : jE w S v s.lines) (he : EnvT w) (hs : Small s.lines) (hf : Fits s.lines) (ha : ar.size ≤ 1000000) (hn : 1 < ar.size) (hc : ((ar[0].toNat : Int) == 60) = false) :
  Calls zV 77 #[stV v s, .string ar] w (StSaid (uY s ar.data.toList) w) := by
 obtain ⟨W1, hW1, hB, hz, k0, k2⟩ := xE w v s;have HB : Hid (∀ W, Below W1.heap.size W1 W → W.heap[w.heap.size]? = some (.cells #[v, .int .i64 s.anc.line, .int .i64 s.anc.col, .int .i64 s.foc.line, .int .i64 s.foc.col, .int .i64 s.on, .int .i64 s.off] 26) ∧ W.heap[w.heap.size + 1]? = some (.cells #[.slice none 0 0, .int .i64 0, .int .i64 0, .int .i64 0, .int .i64 0, .int .i64 0, .int .i64 0] 26)) := zA fun W hW => ⟨zX hW k0, zX hW k2⟩;have hs1 := hB.size;have H1 := zA hB;have hw0 : Below W1.heap.size W1 W1 := zE _ _
 have HTF : Hid (∀ W, Below W1.heap.size W1 W → Calls zV 131 #[.string (ar)] W fun e w' => e = .returned (.tuple #[.int .i64 ((tagF (jZ ar.data.toList)).getD 0), .bool (tagF (jZ ar.data.toList)).isSome]) ∧ Below W.heap.size W w') := zA fun W hW => by
  have := zBI (ar) W ((he.below hB).below hW) (ha);rw [show jZ ar.data.toList = ar.data.toList from (if_neg (fun h => by have := (zBZ (c := 60) (zCX ar qC)).1 h.2.1; rw [show (((60 : UInt8).toNat : Nat) : Int) = 60 from rfl, hc] at this; cases this))];exact this
 have HFB : Hid (∀ k W, Below W1.heap.size W1 W → Calls zV 133 #[stV v s, .int .i64 k] W (StSaid (yE k s) W)) := zA fun k W hW => zBD v s k W S ((h.below (zZ _) hB).below (zZ _) hW) ((he.below hB).below hW) hs hf;have HR := zA (zBX s ar.data.toList);obtain ⟨tf, htf⟩ : ∃ t, (tagF (jZ ar.data.toList)).getD 0 = t := ⟨_, rfl⟩;obtain ⟨tb, htb⟩ : ∃ t, (tagF (jZ ar.data.toList)).isSome = t := ⟨_, rfl⟩;rw [htf] at HTF HR;rw [htb] at HTF;obtain ⟨p0, f0⟩ := blk k0;obtain ⟨p1, f1⟩ := blk k2;obtain ⟨va, vc, rfl⟩ := h.slice;have hsz : 0 ≤ (ar.size : Int) := zR _;have i1 : (1 : Int) < (ar.size : Int) := by omega
 have i0 : (0 : Int) < (ar.size : Int) := by omega
 clear h he hs hf hB k0 k2 htf htb;have HH : Hid (∀ W, Calls zV 132 #[.int .i64 tf] W fun e w' => e = .returned (.int .i64 (if 3 ≤ tf ∧ tf ≤ 5 then tf - 2 else 0)) ∧ Below W.heap.size W w') := zA fun W => zBz tf W;obtain ⟨hd, hhd⟩ : ∃ x : Int, (if 3 ≤ tf ∧ tf ≤ 5 then tf - 2 else 0) = x := ⟨_, rfl⟩;rw [hhd] at HH HR;clear hhd;obtain ⟨X, hX⟩ : ∃ X, yE hd s = X := ⟨_, rfl⟩;have HFB : Hid (∀ W, Below W1.heap.size W1 W → Calls zV 133 #[stV (.slice va s.lines.length vc) s, .int .i64 hd] W (StSaid X W)) := zA fun W hW => hX ▸ HFB.out hd W hW;rw [hX] at HR;clear hX;rcases (show tf = 2 ∨ (tf ≠ 2 ∧ hd = 0) ∨ (tf ≠ 2 ∧ hd ≠ 0) by omega) with q | ⟨q, q2⟩ | ⟨q, q2⟩
 ·have HR := zA (HR.out.trans (if_neg (fun h => h.1 q)))
  have d2 : (tf != 2) = false := by simp [q]
  have HQ := zA q;clear q;go_enter Tryz.func77, Tryz.ntmps77
  go_wp2_with (first
    | (go_at_call 131; refine (HTF.out _ hw0).mono ?_; rintro e w2 ⟨rfl, hb2⟩; obtain ⟨q0, g0⟩ := blk (HB.out _ hb2).1; obtain ⟨q1, g1⟩ := blk (HB.out _ hb2).2)
    | (go_at_call 132; refine (HH.out _).mono ?_; rintro e w3 ⟨rfl, hst3⟩; have hb3 := zW hb2 hst3; clear q0 g0 q1 g1; obtain ⟨q0, g0⟩ := blk (HB.out _ hb3).1; obtain ⟨q1, g1⟩ := blk (HB.out _ hb3).2))
  have hdr : Below W1.heap.size W1 w2.drew := hb2.drew
  go_region_held3 (fun w' => w'.cell? ⟨w.heap.size, 0, none⟩ = some (.slice va s.lines.length vc) ∧ w'.cell? ⟨w.heap.size, 1, none⟩ = some (.int .i64 s.anc.line) ∧ w'.cell? ⟨w.heap.size, 2, none⟩ = some (.int .i64 s.anc.col) ∧ w'.cell? ⟨w.heap.size, 3, none⟩ = some (.int .i64 s.foc.line) ∧ w'.cell? ⟨w.heap.size, 4, none⟩ = some (.int .i64 s.foc.col) ∧ w'.cell? ⟨w.heap.size, 5, none⟩ = some (.int .i64 s.on) ∧ w'.cell? ⟨w.heap.size, 6, none⟩ = some (.int .i64 s.off)) (go_keep)
   (first
    | (go_at_call 132; refine (HH.out _).mono ?_; rintro e w5 ⟨rfl, hst5⟩; have hb5 := zW hdr hst5; obtain ⟨t0, u0⟩ := blk (HB.out _ hb5).1; obtain ⟨t1, u1⟩ := blk (HB.out _ hb5).2)
    | (go_at_call 133; refine (HFB.out _ hb5).mono ?_; rintro e w6 ⟨v6, rfl, hv6, hst6⟩; have hb6 := zW hb5 hst6; obtain ⟨a6, c6, rfl⟩ := hv6.slice; obtain ⟨t2, u2⟩ := blk (HB.out _ hb6).1; obtain ⟨t3, u3⟩ := blk (HB.out _ hb6).2; have HV := zA hv6; clear hv6))
  go_wp2_with fail;refine zM (jQ rfl _ _ (w.heap.size + 1) (.slice a6 X.1.lines.length c6) (.int .i64 X.1.anc.line) (.int .i64 X.1.anc.col) (.int .i64 X.1.foc.line) (.int .i64 X.1.foc.col) (.int .i64 X.1.on) (.int .i64 X.1.off) (.int .i64 X.2) rfl rfl vZ) rfl ?_;rw [HR.out];have hfin := H1.out.trans (hb6.mono hs1);have hs5 := hb5.size;have hv6 := HV.out;exact ⟨_, rfl, (qG (zZ _) hv6 jM (fun b h _ => jJ)), by ((with_reducible repeat' first | exact zE _ _ | assumption | refine zG ?_ ?_ _ | refine zH ?_ | refine qQ ?_ | refine zF ?_ ?_ _) <;> go_size)⟩
 ·have HR := zA (HR.out.trans (if_pos ⟨q, q2⟩))
  have d2 : (tf != 2) = true := by simp [q]
  have d3 : (hd == 0) = true := by simp [q2]
  go_enter Tryz.func77, Tryz.ntmps77
  go_wp2_with (first
    | (go_at_call 131; refine (HTF.out _ hw0).mono ?_; rintro e w2 ⟨rfl, hb2⟩; obtain ⟨q0, g0⟩ := blk (HB.out _ hb2).1; obtain ⟨q1, g1⟩ := blk (HB.out _ hb2).2)
    | (go_at_call 132; refine (HH.out _).mono ?_; rintro e w3 ⟨rfl, hst3⟩; have hb3 := zW hb2 hst3; clear q0 g0 q1 g1; obtain ⟨q0, g0⟩ := blk (HB.out _ hb3).1; obtain ⟨q1, g1⟩ := blk (HB.out _ hb3).2))
  refine zM (jQ rfl _ _ (w.heap.size + 1) (.slice none 0 0) (.int .i64 0) (.int .i64 0) (.int .i64 0) (.int .i64 0) (.int .i64 0) (.int .i64 0) (.int .i64 1) rfl rfl zCn) rfl ?_;unfold StSaid;rw [HR.out];have hfin := H1.out.trans (hb3.mono hs1);exact ⟨_, rfl, SliceR.nil _ _ _ _ _ _, by ((with_reducible repeat' first | exact zE _ _ | assumption | refine zG ?_ ?_ _ | refine zH ?_ | refine qQ ?_ | refine zF ?_ ?_ _) <;> go_size)⟩
 ·have HR := zA (HR.out.trans (if_neg (fun h => q2 h.2)))
  have d2 : (tf != 2) = true := by simp [q]
  have d3 : (hd == 0) = false := by simp [q2]
  clear q q2;go_enter Tryz.func77, Tryz.ntmps77
  go_wp2_with (first
    | (go_at_call 131; refine (HTF.out _ hw0).mono ?_; rintro e w2 ⟨rfl, hb2⟩; obtain ⟨q0, g0⟩ := blk (HB.out _ hb2).1; obtain ⟨q1, g1⟩ := blk (HB.out _ hb2).2)
    | (go_at_call 132; refine (HH.out _).mono ?_; rintro e w3 ⟨rfl, hst3⟩; have hb3 := zW hb2 hst3; clear q0 g0 q1 g1; obtain ⟨q0, g0⟩ := blk (HB.out _ hb3).1; obtain ⟨q1, g1⟩ := blk (HB.out _ hb3).2))
  have hdr : Below W1.heap.size W1 w3.drew := hb3.drew
  go_region_held3 (fun w' => w'.cell? ⟨w.heap.size, 0, none⟩ = some (.slice va s.lines.length vc) ∧ w'.cell? ⟨w.heap.size, 1, none⟩ = some (.int .i64 s.anc.line) ∧ w'.cell? ⟨w.heap.size, 2, none⟩ = some (.int .i64 s.anc.col) ∧ w'.cell? ⟨w.heap.size, 3, none⟩ = some (.int .i64 s.foc.line) ∧ w'.cell? ⟨w.heap.size, 4, none⟩ = some (.int .i64 s.foc.col) ∧ w'.cell? ⟨w.heap.size, 5, none⟩ = some (.int .i64 s.on) ∧ w'.cell? ⟨w.heap.size, 6, none⟩ = some (.int .i64 s.off)) (go_keep)
   (first
    | (go_at_call 132; refine (HH.out _).mono ?_; rintro e w5 ⟨rfl, hst5⟩; have hb5 := zW hdr hst5; obtain ⟨t0, u0⟩ := blk (HB.out _ hb5).1; obtain ⟨t1, u1⟩ := blk (HB.out _ hb5).2)
    | (go_at_call 133; refine (HFB.out _ hb5).mono ?_; rintro e w6 ⟨v6, rfl, hv6, hst6⟩; have hb6 := zW hb5 hst6; obtain ⟨a6, c6, rfl⟩ := hv6.slice; obtain ⟨t2, u2⟩ := blk (HB.out _ hb6).1; obtain ⟨t3, u3⟩ := blk (HB.out _ hb6).2; have HV := zA hv6; clear hv6))
  go_wp2_with fail;refine zM (jQ rfl _ _ (w.heap.size + 1) (.slice a6 X.1.lines.length c6) (.int .i64 X.1.anc.line) (.int .i64 X.1.anc.col) (.int .i64 X.1.foc.line) (.int .i64 X.1.foc.col) (.int .i64 X.1.on) (.int .i64 X.1.off) (.int .i64 X.2) rfl rfl vZ) rfl ?_;rw [HR.out];have hfin := H1.out.trans (hb6.mono hs1);have hs5 := hb5.size;have hv6 := HV.out;exact ⟨_, rfl, (qG (zZ _) hv6 jM (fun b h _ => jJ)), by ((with_reducible repeat' first | exact zE _ _ | assumption | refine zG ?_ ?_ _ | refine zH ?_ | refine qQ ?_ | refine zF ?_ ?_ _) <;> go_size)⟩
set_option maxRecDepth 100000 in
theorem zGD (v : Value) (s : St) (ar : ByteArray) (w : World) (S : Nat → Prop) (h : jE w S v s.lines) (he : EnvT w) (hs : Small s.lines) (hf : Fits s.lines) (ha : ar.size ≤ 1000000) (hn : 1 < ar.size) (hc : ((ar[0].toNat : Int) == 60) = true) (hl : ((ar[ar.size - 1].toNat : Int) == 62) = false) :
  Calls zV 77 #[stV v s, .string ar] w (StSaid (uY s ar.data.toList) w) := by
 obtain ⟨W1, hW1, hB, hz, k0, k2⟩ := xE w v s;have HB : Hid (∀ W, Below W1.heap.size W1 W → W.heap[w.heap.size]? = some (.cells #[v, .int .i64 s.anc.line, .int .i64 s.anc.col, .int .i64 s.foc.line, .int .i64 s.foc.col, .int .i64 s.on, .int .i64 s.off] 26) ∧ W.heap[w.heap.size + 1]? = some (.cells #[.slice none 0 0, .int .i64 0, .int .i64 0, .int .i64 0, .int .i64 0, .int .i64 0, .int .i64 0] 26)) := zA fun W hW => ⟨zX hW k0, zX hW k2⟩;have hs1 := hB.size;have H1 := zA hB;have hw0 : Below W1.heap.size W1 W1 := zE _ _
 have HTF : Hid (∀ W, Below W1.heap.size W1 W → Calls zV 131 #[.string (ar)] W fun e w' => e = .returned (.tuple #[.int .i64 ((tagF (jZ ar.data.toList)).getD 0), .bool (tagF (jZ ar.data.toList)).isSome]) ∧ Below W.heap.size W w') := zA fun W hW => by
  have := zBI (ar) W ((he.below hB).below hW) (ha);rw [show jZ ar.data.toList = ar.data.toList from (if_neg (fun h => by have := (zBZ (c := 62) (zCW ar qC)).1 h.2.2; rw [show (((62 : UInt8).toNat : Nat) : Int) = 62 from rfl, hl] at this; cases this))];exact this
 have HFB : Hid (∀ k W, Below W1.heap.size W1 W → Calls zV 133 #[stV v s, .int .i64 k] W (StSaid (yE k s) W)) := zA fun k W hW => zBD v s k W S ((h.below (zZ _) hB).below (zZ _) hW) ((he.below hB).below hW) hs hf;have HR := zA (zBX s ar.data.toList);obtain ⟨tf, htf⟩ : ∃ t, (tagF (jZ ar.data.toList)).getD 0 = t := ⟨_, rfl⟩;obtain ⟨tb, htb⟩ : ∃ t, (tagF (jZ ar.data.toList)).isSome = t := ⟨_, rfl⟩;rw [htf] at HTF HR;rw [htb] at HTF;obtain ⟨p0, f0⟩ := blk k0;obtain ⟨p1, f1⟩ := blk k2;obtain ⟨va, vc, rfl⟩ := h.slice;have hsz : 0 ≤ (ar.size : Int) := zR _;have i1 : (1 : Int) < (ar.size : Int) := by omega
 have i0 : (0 : Int) < (ar.size : Int) := by omega
 clear h he hs hf hB k0 k2 htf htb;have HH : Hid (∀ W, Calls zV 132 #[.int .i64 tf] W fun e w' => e = .returned (.int .i64 (if 3 ≤ tf ∧ tf ≤ 5 then tf - 2 else 0)) ∧ Below W.heap.size W w') := zA fun W => zBz tf W;obtain ⟨hd, hhd⟩ : ∃ x : Int, (if 3 ≤ tf ∧ tf ≤ 5 then tf - 2 else 0) = x := ⟨_, rfl⟩;rw [hhd] at HH HR;clear hhd;obtain ⟨X, hX⟩ : ∃ X, yE hd s = X := ⟨_, rfl⟩;have HFB : Hid (∀ W, Below W1.heap.size W1 W → Calls zV 133 #[stV (.slice va s.lines.length vc) s, .int .i64 hd] W (StSaid X W)) := zA fun W hW => hX ▸ HFB.out hd W hW;rw [hX] at HR;clear hX;rcases (show tf = 2 ∨ (tf ≠ 2 ∧ hd = 0) ∨ (tf ≠ 2 ∧ hd ≠ 0) by omega) with q | ⟨q, q2⟩ | ⟨q, q2⟩
 ·have HR := zA (HR.out.trans (if_neg (fun h => h.1 q)))
  have d2 : (tf != 2) = false := by simp [q]
  have HQ := zA q;clear q;go_enter Tryz.func77, Tryz.ntmps77
  go_wp2_with (first
    | (go_at_call 131; refine (HTF.out _ hw0).mono ?_; rintro e w2 ⟨rfl, hb2⟩; obtain ⟨q0, g0⟩ := blk (HB.out _ hb2).1; obtain ⟨q1, g1⟩ := blk (HB.out _ hb2).2)
    | (go_at_call 132; refine (HH.out _).mono ?_; rintro e w3 ⟨rfl, hst3⟩; have hb3 := zW hb2 hst3; clear q0 g0 q1 g1; obtain ⟨q0, g0⟩ := blk (HB.out _ hb3).1; obtain ⟨q1, g1⟩ := blk (HB.out _ hb3).2))
  have hdr : Below W1.heap.size W1 w2.drew := hb2.drew
  go_region_held3 (fun w' => w'.cell? ⟨w.heap.size, 0, none⟩ = some (.slice va s.lines.length vc) ∧ w'.cell? ⟨w.heap.size, 1, none⟩ = some (.int .i64 s.anc.line) ∧ w'.cell? ⟨w.heap.size, 2, none⟩ = some (.int .i64 s.anc.col) ∧ w'.cell? ⟨w.heap.size, 3, none⟩ = some (.int .i64 s.foc.line) ∧ w'.cell? ⟨w.heap.size, 4, none⟩ = some (.int .i64 s.foc.col) ∧ w'.cell? ⟨w.heap.size, 5, none⟩ = some (.int .i64 s.on) ∧ w'.cell? ⟨w.heap.size, 6, none⟩ = some (.int .i64 s.off)) (go_keep)
   (first
    | (go_at_call 132; refine (HH.out _).mono ?_; rintro e w5 ⟨rfl, hst5⟩; have hb5 := zW hdr hst5; obtain ⟨t0, u0⟩ := blk (HB.out _ hb5).1; obtain ⟨t1, u1⟩ := blk (HB.out _ hb5).2)
    | (go_at_call 133; refine (HFB.out _ hb5).mono ?_; rintro e w6 ⟨v6, rfl, hv6, hst6⟩; have hb6 := zW hb5 hst6; obtain ⟨a6, c6, rfl⟩ := hv6.slice; obtain ⟨t2, u2⟩ := blk (HB.out _ hb6).1; obtain ⟨t3, u3⟩ := blk (HB.out _ hb6).2; have HV := zA hv6; clear hv6))
  go_wp2_with fail;refine zM (jQ rfl _ _ (w.heap.size + 1) (.slice a6 X.1.lines.length c6) (.int .i64 X.1.anc.line) (.int .i64 X.1.anc.col) (.int .i64 X.1.foc.line) (.int .i64 X.1.foc.col) (.int .i64 X.1.on) (.int .i64 X.1.off) (.int .i64 X.2) rfl rfl vZ) rfl ?_;rw [HR.out];have hfin := H1.out.trans (hb6.mono hs1);have hs5 := hb5.size;have hv6 := HV.out;exact ⟨_, rfl, (qG (zZ _) hv6 jM (fun b h _ => jJ)), by ((with_reducible repeat' first | exact zE _ _ | assumption | refine zG ?_ ?_ _ | refine zH ?_ | refine qQ ?_ | refine zF ?_ ?_ _) <;> go_size)⟩
 ·have HR := zA (HR.out.trans (if_pos ⟨q, q2⟩))
  have d2 : (tf != 2) = true := by simp [q]
  have d3 : (hd == 0) = true := by simp [q2]
  go_enter Tryz.func77, Tryz.ntmps77
  go_wp2_with (first
    | (go_at_call 131; refine (HTF.out _ hw0).mono ?_; rintro e w2 ⟨rfl, hb2⟩; obtain ⟨q0, g0⟩ := blk (HB.out _ hb2).1; obtain ⟨q1, g1⟩ := blk (HB.out _ hb2).2)
    | (go_at_call 132; refine (HH.out _).mono ?_; rintro e w3 ⟨rfl, hst3⟩; have hb3 := zW hb2 hst3; clear q0 g0 q1 g1; obtain ⟨q0, g0⟩ := blk (HB.out _ hb3).1; obtain ⟨q1, g1⟩ := blk (HB.out _ hb3).2))
  refine zM (jQ rfl _ _ (w.heap.size + 1) (.slice none 0 0) (.int .i64 0) (.int .i64 0) (.int .i64 0) (.int .i64 0) (.int .i64 0) (.int .i64 0) (.int .i64 1) rfl rfl zCn) rfl ?_;unfold StSaid;rw [HR.out];have hfin := H1.out.trans (hb3.mono hs1);exact ⟨_, rfl, SliceR.nil _ _ _ _ _ _, by ((with_reducible repeat' first | exact zE _ _ | assumption | refine zG ?_ ?_ _ | refine zH ?_ | refine qQ ?_ | refine zF ?_ ?_ _) <;> go_size)⟩
 ·have HR := zA (HR.out.trans (if_neg (fun h => q2 h.2)))
  have d2 : (tf != 2) = true := by simp [q]
  have d3 : (hd == 0) = false := by simp [q2]
  clear q q2;go_enter Tryz.func77, Tryz.ntmps77
  go_wp2_with (first
    | (go_at_call 131; refine (HTF.out _ hw0).mono ?_; rintro e w2 ⟨rfl, hb2⟩; obtain ⟨q0, g0⟩ := blk (HB.out _ hb2).1; obtain ⟨q1, g1⟩ := blk (HB.out _ hb2).2)
    | (go_at_call 132; refine (HH.out _).mono ?_; rintro e w3 ⟨rfl, hst3⟩; have hb3 := zW hb2 hst3; clear q0 g0 q1 g1; obtain ⟨q0, g0⟩ := blk (HB.out _ hb3).1; obtain ⟨q1, g1⟩ := blk (HB.out _ hb3).2))
  have hdr : Below W1.heap.size W1 w3.drew := hb3.drew
  go_region_held3 (fun w' => w'.cell? ⟨w.heap.size, 0, none⟩ = some (.slice va s.lines.length vc) ∧ w'.cell? ⟨w.heap.size, 1, none⟩ = some (.int .i64 s.anc.line) ∧ w'.cell? ⟨w.heap.size, 2, none⟩ = some (.int .i64 s.anc.col) ∧ w'.cell? ⟨w.heap.size, 3, none⟩ = some (.int .i64 s.foc.line) ∧ w'.cell? ⟨w.heap.size, 4, none⟩ = some (.int .i64 s.foc.col) ∧ w'.cell? ⟨w.heap.size, 5, none⟩ = some (.int .i64 s.on) ∧ w'.cell? ⟨w.heap.size, 6, none⟩ = some (.int .i64 s.off)) (go_keep)
   (first
    | (go_at_call 132; refine (HH.out _).mono ?_; rintro e w5 ⟨rfl, hst5⟩; have hb5 := zW hdr hst5; obtain ⟨t0, u0⟩ := blk (HB.out _ hb5).1; obtain ⟨t1, u1⟩ := blk (HB.out _ hb5).2)
    | (go_at_call 133; refine (HFB.out _ hb5).mono ?_; rintro e w6 ⟨v6, rfl, hv6, hst6⟩; have hb6 := zW hb5 hst6; obtain ⟨a6, c6, rfl⟩ := hv6.slice; obtain ⟨t2, u2⟩ := blk (HB.out _ hb6).1; obtain ⟨t3, u3⟩ := blk (HB.out _ hb6).2; have HV := zA hv6; clear hv6))
  go_wp2_with fail;refine zM (jQ rfl _ _ (w.heap.size + 1) (.slice a6 X.1.lines.length c6) (.int .i64 X.1.anc.line) (.int .i64 X.1.anc.col) (.int .i64 X.1.foc.line) (.int .i64 X.1.foc.col) (.int .i64 X.1.on) (.int .i64 X.1.off) (.int .i64 X.2) rfl rfl vZ) rfl ?_;rw [HR.out];have hfin := H1.out.trans (hb6.mono hs1);have hs5 := hb5.size;have hv6 := HV.out;exact ⟨_, rfl, (qG (zZ _) hv6 jM (fun b h _ => jJ)), by ((with_reducible repeat' first | exact zE _ _ | assumption | refine zG ?_ ?_ _ | refine zH ?_ | refine qQ ?_ | refine zF ?_ ?_ _) <;> go_size)⟩
set_option maxRecDepth 100000 in
theorem zHi (v : Value) (s : St) (ar : ByteArray) (w : World) (S : Nat → Prop) (h : jE w S v s.lines) (he : EnvT w) (hs : Small s.lines) (hf : Fits s.lines) (ha : ar.size ≤ 1000000) (hn : 1 < ar.size) (hc : ((ar[0].toNat : Int) == 60) = true) (hl : ((ar[ar.size - 1].toNat : Int) == 62) = true) :
  Calls zV 77 #[stV v s, .string ar] w (StSaid (uY s ar.data.toList) w) := by
 obtain ⟨W1, hW1, hB, hz, k0, k2⟩ := xE w v s;have HB : Hid (∀ W, Below W1.heap.size W1 W → W.heap[w.heap.size]? = some (.cells #[v, .int .i64 s.anc.line, .int .i64 s.anc.col, .int .i64 s.foc.line, .int .i64 s.foc.col, .int .i64 s.on, .int .i64 s.off] 26) ∧ W.heap[w.heap.size + 1]? = some (.cells #[.slice none 0 0, .int .i64 0, .int .i64 0, .int .i64 0, .int .i64 0, .int .i64 0, .int .i64 0] 26)) := zA fun W hW => ⟨zX hW k0, zX hW k2⟩;have hs1 := hB.size;have H1 := zA hB;have hw0 : Below W1.heap.size W1 W1 := zE _ _
 have HTF : Hid (∀ W, Below W1.heap.size W1 W → Calls zV 131 #[.string (ar.extract 1 (ar.size - 1))] W fun e w' => e = .returned (.tuple #[.int .i64 ((tagF (jZ ar.data.toList)).getD 0), .bool (tagF (jZ ar.data.toList)).isSome]) ∧ Below W.heap.size W w') := zA fun W hW => by
  have := zBI (ar.extract 1 (ar.size - 1)) W ((he.below hB).below hW) jB;rw [show jZ ar.data.toList = (ar.extract 1 (ar.size - 1)).data.toList by rw [zJJ ar hn]; exact if_pos ⟨by have h2 : ar.data.toList.length = ar.size := Array.length_toList; omega, (zBZ (c := 60) (zCX ar qC)).2 hc, (zBZ (c := 62) (zCW ar qC)).2 hl⟩];exact this
 have HFB : Hid (∀ k W, Below W1.heap.size W1 W → Calls zV 133 #[stV v s, .int .i64 k] W (StSaid (yE k s) W)) := zA fun k W hW => zBD v s k W S ((h.below (zZ _) hB).below (zZ _) hW) ((he.below hB).below hW) hs hf;have HR := zA (zBX s ar.data.toList);obtain ⟨tf, htf⟩ : ∃ t, (tagF (jZ ar.data.toList)).getD 0 = t := ⟨_, rfl⟩;obtain ⟨tb, htb⟩ : ∃ t, (tagF (jZ ar.data.toList)).isSome = t := ⟨_, rfl⟩;rw [htf] at HTF HR;rw [htb] at HTF;obtain ⟨p0, f0⟩ := blk k0;obtain ⟨p1, f1⟩ := blk k2;obtain ⟨va, vc, rfl⟩ := h.slice;have hsz : 0 ≤ (ar.size : Int) := zR _;have i1 : (1 : Int) < (ar.size : Int) := by omega
 have i0 : (0 : Int) < (ar.size : Int) := by omega
 clear h he hs hf hB k0 k2 htf htb;have HH : Hid (∀ W, Calls zV 132 #[.int .i64 tf] W fun e w' => e = .returned (.int .i64 (if 3 ≤ tf ∧ tf ≤ 5 then tf - 2 else 0)) ∧ Below W.heap.size W w') := zA fun W => zBz tf W;obtain ⟨hd, hhd⟩ : ∃ x : Int, (if 3 ≤ tf ∧ tf ≤ 5 then tf - 2 else 0) = x := ⟨_, rfl⟩;rw [hhd] at HH HR;clear hhd;obtain ⟨X, hX⟩ : ∃ X, yE hd s = X := ⟨_, rfl⟩;have HFB : Hid (∀ W, Below W1.heap.size W1 W → Calls zV 133 #[stV (.slice va s.lines.length vc) s, .int .i64 hd] W (StSaid X W)) := zA fun W hW => hX ▸ HFB.out hd W hW;rw [hX] at HR;clear hX;rcases (show tf = 2 ∨ (tf ≠ 2 ∧ hd = 0) ∨ (tf ≠ 2 ∧ hd ≠ 0) by omega) with q | ⟨q, q2⟩ | ⟨q, q2⟩
 ·have HR := zA (HR.out.trans (if_neg (fun h => h.1 q)))
  have d2 : (tf != 2) = false := by simp [q]
  have HQ := zA q;clear q;go_enter Tryz.func77, Tryz.ntmps77
  go_wp2_with (first
    | (go_at_call 131; refine (HTF.out _ hw0).mono ?_; rintro e w2 ⟨rfl, hb2⟩; obtain ⟨q0, g0⟩ := blk (HB.out _ hb2).1; obtain ⟨q1, g1⟩ := blk (HB.out _ hb2).2)
    | (go_at_call 132; refine (HH.out _).mono ?_; rintro e w3 ⟨rfl, hst3⟩; have hb3 := zW hb2 hst3; clear q0 g0 q1 g1; obtain ⟨q0, g0⟩ := blk (HB.out _ hb3).1; obtain ⟨q1, g1⟩ := blk (HB.out _ hb3).2))
  have hdr : Below W1.heap.size W1 w2.drew := hb2.drew
  go_region_held3 (fun w' => w'.cell? ⟨w.heap.size, 0, none⟩ = some (.slice va s.lines.length vc) ∧ w'.cell? ⟨w.heap.size, 1, none⟩ = some (.int .i64 s.anc.line) ∧ w'.cell? ⟨w.heap.size, 2, none⟩ = some (.int .i64 s.anc.col) ∧ w'.cell? ⟨w.heap.size, 3, none⟩ = some (.int .i64 s.foc.line) ∧ w'.cell? ⟨w.heap.size, 4, none⟩ = some (.int .i64 s.foc.col) ∧ w'.cell? ⟨w.heap.size, 5, none⟩ = some (.int .i64 s.on) ∧ w'.cell? ⟨w.heap.size, 6, none⟩ = some (.int .i64 s.off)) (go_keep)
   (first
    | (go_at_call 132; refine (HH.out _).mono ?_; rintro e w5 ⟨rfl, hst5⟩; have hb5 := zW hdr hst5; obtain ⟨t0, u0⟩ := blk (HB.out _ hb5).1; obtain ⟨t1, u1⟩ := blk (HB.out _ hb5).2)
    | (go_at_call 133; refine (HFB.out _ hb5).mono ?_; rintro e w6 ⟨v6, rfl, hv6, hst6⟩; have hb6 := zW hb5 hst6; obtain ⟨a6, c6, rfl⟩ := hv6.slice; obtain ⟨t2, u2⟩ := blk (HB.out _ hb6).1; obtain ⟨t3, u3⟩ := blk (HB.out _ hb6).2; have HV := zA hv6; clear hv6))
  go_wp2_with fail;refine zM (jQ rfl _ _ (w.heap.size + 1) (.slice a6 X.1.lines.length c6) (.int .i64 X.1.anc.line) (.int .i64 X.1.anc.col) (.int .i64 X.1.foc.line) (.int .i64 X.1.foc.col) (.int .i64 X.1.on) (.int .i64 X.1.off) (.int .i64 X.2) rfl rfl vZ) rfl ?_;rw [HR.out];have hfin := H1.out.trans (hb6.mono hs1);have hs5 := hb5.size;have hv6 := HV.out;exact ⟨_, rfl, (qG (zZ _) hv6 jM (fun b h _ => jJ)), by ((with_reducible repeat' first | exact zE _ _ | assumption | refine zG ?_ ?_ _ | refine zH ?_ | refine qQ ?_ | refine zF ?_ ?_ _) <;> go_size)⟩
 ·have HR := zA (HR.out.trans (if_pos ⟨q, q2⟩))
  have d2 : (tf != 2) = true := by simp [q]
  have d3 : (hd == 0) = true := by simp [q2]
  go_enter Tryz.func77, Tryz.ntmps77
  go_wp2_with (first
    | (go_at_call 131; refine (HTF.out _ hw0).mono ?_; rintro e w2 ⟨rfl, hb2⟩; obtain ⟨q0, g0⟩ := blk (HB.out _ hb2).1; obtain ⟨q1, g1⟩ := blk (HB.out _ hb2).2)
    | (go_at_call 132; refine (HH.out _).mono ?_; rintro e w3 ⟨rfl, hst3⟩; have hb3 := zW hb2 hst3; clear q0 g0 q1 g1; obtain ⟨q0, g0⟩ := blk (HB.out _ hb3).1; obtain ⟨q1, g1⟩ := blk (HB.out _ hb3).2))
  refine zM (jQ rfl _ _ (w.heap.size + 1) (.slice none 0 0) (.int .i64 0) (.int .i64 0) (.int .i64 0) (.int .i64 0) (.int .i64 0) (.int .i64 0) (.int .i64 1) rfl rfl zCn) rfl ?_;unfold StSaid;rw [HR.out];have hfin := H1.out.trans (hb3.mono hs1);exact ⟨_, rfl, SliceR.nil _ _ _ _ _ _, by ((with_reducible repeat' first | exact zE _ _ | assumption | refine zG ?_ ?_ _ | refine zH ?_ | refine qQ ?_ | refine zF ?_ ?_ _) <;> go_size)⟩
 ·have HR := zA (HR.out.trans (if_neg (fun h => q2 h.2)))
  have d2 : (tf != 2) = true := by simp [q]
  have d3 : (hd == 0) = false := by simp [q2]
  clear q q2;go_enter Tryz.func77, Tryz.ntmps77
  go_wp2_with (first
    | (go_at_call 131; refine (HTF.out _ hw0).mono ?_; rintro e w2 ⟨rfl, hb2⟩; obtain ⟨q0, g0⟩ := blk (HB.out _ hb2).1; obtain ⟨q1, g1⟩ := blk (HB.out _ hb2).2)
    | (go_at_call 132; refine (HH.out _).mono ?_; rintro e w3 ⟨rfl, hst3⟩; have hb3 := zW hb2 hst3; clear q0 g0 q1 g1; obtain ⟨q0, g0⟩ := blk (HB.out _ hb3).1; obtain ⟨q1, g1⟩ := blk (HB.out _ hb3).2))
  have hdr : Below W1.heap.size W1 w3.drew := hb3.drew
  go_region_held3 (fun w' => w'.cell? ⟨w.heap.size, 0, none⟩ = some (.slice va s.lines.length vc) ∧ w'.cell? ⟨w.heap.size, 1, none⟩ = some (.int .i64 s.anc.line) ∧ w'.cell? ⟨w.heap.size, 2, none⟩ = some (.int .i64 s.anc.col) ∧ w'.cell? ⟨w.heap.size, 3, none⟩ = some (.int .i64 s.foc.line) ∧ w'.cell? ⟨w.heap.size, 4, none⟩ = some (.int .i64 s.foc.col) ∧ w'.cell? ⟨w.heap.size, 5, none⟩ = some (.int .i64 s.on) ∧ w'.cell? ⟨w.heap.size, 6, none⟩ = some (.int .i64 s.off)) (go_keep)
   (first
    | (go_at_call 132; refine (HH.out _).mono ?_; rintro e w5 ⟨rfl, hst5⟩; have hb5 := zW hdr hst5; obtain ⟨t0, u0⟩ := blk (HB.out _ hb5).1; obtain ⟨t1, u1⟩ := blk (HB.out _ hb5).2)
    | (go_at_call 133; refine (HFB.out _ hb5).mono ?_; rintro e w6 ⟨v6, rfl, hv6, hst6⟩; have hb6 := zW hb5 hst6; obtain ⟨a6, c6, rfl⟩ := hv6.slice; obtain ⟨t2, u2⟩ := blk (HB.out _ hb6).1; obtain ⟨t3, u3⟩ := blk (HB.out _ hb6).2; have HV := zA hv6; clear hv6))
  go_wp2_with fail;refine zM (jQ rfl _ _ (w.heap.size + 1) (.slice a6 X.1.lines.length c6) (.int .i64 X.1.anc.line) (.int .i64 X.1.anc.col) (.int .i64 X.1.foc.line) (.int .i64 X.1.foc.col) (.int .i64 X.1.on) (.int .i64 X.1.off) (.int .i64 X.2) rfl rfl vZ) rfl ?_;rw [HR.out];have hfin := H1.out.trans (hb6.mono hs1);have hs5 := hb5.size;have hv6 := HV.out;exact ⟨_, rfl, (qG (zZ _) hv6 jM (fun b h _ => jJ)), by ((with_reducible repeat' first | exact zE _ _ | assumption | refine zG ?_ ?_ _ | refine zH ?_ | refine qQ ?_ | refine zF ?_ ?_ _) <;> go_size)⟩
theorem zHS (v : Value) (s : St) (ar : ByteArray) (w : World) (S : Nat → Prop) (h : jE w S v s.lines) (he : EnvT w) (hs : Small s.lines) (hf : Fits s.lines) (ha : ar.size ≤ 1000000) :
  Calls zV 77 #[stV v s, .string ar] w (StSaid (uY s ar.data.toList) w) := by
 by_cases hn : ar.size ≤ 1
 ·exact zHR v s ar w S h he hs hf ha hn
 ·cases hc : ((ar[0].toNat : Int) == 60)
  ·exact zHQ v s ar w S h he hs hf ha qC hc
  ·cases hl : ((ar[ar.size - 1].toNat : Int) == 62)
   ·exact zGD v s ar w S h he hs hf ha qC hc hl
   ·exact zHi v s ar w S h he hs hf ha qC hc hl
set_option maxRecDepth 100000 in
theorem zKr {n g k : Nat} {caps : Array Value} (hg : (zAr n)[k]? = some (.func (.func g) #[] caps)) (v : Value) (s : St) (a : ByteArray) (W : World) (S : Nat → Prop) (ho : ∀ (j : Nat) (o : Obj), (uD n)[j]? = some o → W.heap[n + (j + 1)]? = some o) (hv : jE W S v s.lines) (he : EnvT W) (hs : Small s.lines) (hf : Fits s.lines) (ha : a.size ≤ 1000000) :
  (∀ args w, (callFunc g args).run zV w = .ok (.enter g args) w) ∧ Calls zV g (#[stV v s, .string a] ++ caps) W (StSaid (doQ s k a.data.toList) W) := by
 have hk : k < 17 := (zK.1 hg).1;have e1 : k = 0 ∨ k = 1 ∨ k = 2 ∨ k = 3 ∨ k = 4 ∨ k = 5 ∨ k = 6 ∨ k = 7 ∨ k = 8 ∨ k = 9 ∨ k = 10 ∨ k = 11 ∨ k = 12 ∨ k = 13 ∨ k = 14 ∨ k = 15 ∨ k = 16 := by omega
 clear hk;rcases e1 with rfl | rfl | rfl | rfl | rfl | rfl | rfl | rfl | rfl | rfl | rfl | rfl | rfl | rfl | rfl | rfl | rfl
 ·cases hg
  refine ⟨enters_of Tryz.func67 zT rfl, ?_⟩;exact zEa v s a W S hv he hs hf ha
 ·cases hg
  refine ⟨enters_of Tryz.func113 zT rfl, ?_⟩;exact yM v s a (n + 1) 69 #[] _ W S hv (ho 0 _ rfl) (enters_of Tryz.func69 zT rfl) (fun W' hW => zIl v s W' S (hv.below (zZ _) hW) (he.below hW) hs hf)
 ·cases hg
  refine ⟨enters_of Tryz.func113 zT rfl, ?_⟩;exact yM v s a (n + 2) 70 #[] _ W S hv (ho 1 _ rfl) (enters_of Tryz.func70 zT rfl) (fun W' hW => zFZ v s W' S (hv.below (zZ _) hW) (he.below hW) hs hf)
 ·cases hg
  refine ⟨enters_of Tryz.func113 zT rfl, ?_⟩;exact yM v s a (n + 3) 71 #[] _ W S hv (ho 2 _ rfl) (enters_of Tryz.func71 zT rfl) (fun W' hW => zHu v s W' S (hv.below (zZ _) hW) (he.below hW) hs hf)
 ·cases hg
  refine ⟨enters_of Tryz.func113 zT rfl, ?_⟩;exact yM v s a (n + 4) 72 #[] _ W S hv (ho 3 _ rfl) (enters_of Tryz.func72 zT rfl) (fun W' hW => zGM v s W' S (hv.below (zZ _) hW) (he.below hW) hs hf)
 ·cases hg
  refine ⟨enters_of Tryz.func113 zT rfl, ?_⟩;exact yM v s a (n + 6) 122 #[.pointer (some ⟨n + 5, 0, none⟩)] _ W S hv (ho 5 _ rfl) (enters_of Tryz.func122 zT rfl) (fun W' hW => zBH v s 1 (n + 5) W' S (hv.below (zZ _) hW) (he.below hW) hs hf (zX hW (ho 4 _ rfl)))
 ·cases hg
  refine ⟨enters_of Tryz.func113 zT rfl, ?_⟩;exact yM v s a (n + 8) 122 #[.pointer (some ⟨n + 7, 0, none⟩)] _ W S hv (ho 7 _ rfl) (enters_of Tryz.func122 zT rfl) (fun W' hW => zBH v s 2 (n + 7) W' S (hv.below (zZ _) hW) (he.below hW) hs hf (zX hW (ho 6 _ rfl)))
 ·cases hg
  refine ⟨enters_of Tryz.func113 zT rfl, ?_⟩;exact yM v s a (n + 10) 122 #[.pointer (some ⟨n + 9, 0, none⟩)] _ W S hv (ho 9 _ rfl) (enters_of Tryz.func122 zT rfl) (fun W' hW => zBH v s 4 (n + 9) W' S (hv.below (zZ _) hW) (he.below hW) hs hf (zX hW (ho 8 _ rfl)))
 ·cases hg
  refine ⟨enters_of Tryz.func113 zT rfl, ?_⟩;exact yM v s a (n + 12) 122 #[.pointer (some ⟨n + 11, 0, none⟩)] _ W S hv (ho 11 _ rfl) (enters_of Tryz.func122 zT rfl) (fun W' hW => zBH v s 8 (n + 11) W' S (hv.below (zZ _) hW) (he.below hW) hs hf (zX hW (ho 10 _ rfl)))
 ·cases hg
  refine ⟨enters_of Tryz.func74 zT rfl, ?_⟩;exact zHy v s a.data.toList W S hv he hs hf (by rw [Array.length_toList]; exact ha)
 ·cases hg
  refine ⟨enters_of Tryz.func113 zT rfl, ?_⟩;exact yM v s a (n + 13) 75 #[] _ W S hv (ho 12 _ rfl) (enters_of Tryz.func75 zT rfl) (fun W' hW => zGu v s W' S (hv.below (zZ _) hW) (he.below hW) hs hf)
 ·cases hg
  refine ⟨enters_of Tryz.func113 zT rfl, ?_⟩;exact yM v s a (n + 14) 76 #[] _ W S hv (ho 13 _ rfl) (enters_of Tryz.func76 zT rfl) (fun W' hW => zGP v s W' S (hv.below (zZ _) hW) (he.below hW) hs hf)
 ·cases hg
  refine ⟨enters_of Tryz.func77 zT rfl, ?_⟩;exact zHS v s a W S hv he hs hf ha
 ·cases hg
  refine ⟨enters_of Tryz.func113 zT rfl, ?_⟩;exact yM v s a (n + 15) 78 #[] _ W S hv (ho 14 _ rfl) (enters_of Tryz.func78 zT rfl) (fun W' hW => zGI v s W' S (hv.below (zZ _) hW) (he.below hW) hs hf)
 ·cases hg
  refine ⟨enters_of Tryz.func113 zT rfl, ?_⟩;exact yM v s a (n + 16) 79 #[] _ W S hv (ho 15 _ rfl) (enters_of Tryz.func79 zT rfl) (fun W' hW => zGq v s W' S (hv.below (zZ _) hW) (he.below hW) hs hf)
 ·cases hg
  refine ⟨enters_of Tryz.func113 zT rfl, ?_⟩;exact yM v s a (n + 18) 136 #[.pointer (some ⟨n + 17, 0, none⟩)] _ W S hv (ho 17 _ rfl) (enters_of Tryz.func136 zT rfl) (fun W' hW => zEy v s 0 (n + 17) W' S (hv.below (zZ _) hW) (he.below hW) hs hf (zX hW (ho 16 _ rfl)))
 ·cases hg
  refine ⟨enters_of Tryz.func113 zT rfl, ?_⟩;exact yM v s a (n + 20) 136 #[.pointer (some ⟨n + 19, 0, none⟩)] _ W S hv (ho 19 _ rfl) (enters_of Tryz.func136 zT rfl) (fun W' hW => zEy v s 1 (n + 19) W' S (hv.below (zZ _) hW) (he.below hW) hs hf (zX hW (ho 18 _ rfl)))
set_option maxRecDepth 100000 in
theorem zCT (n : Nat) {k g : Nat} {caps : Array Value} {c : Cmd} (hc : cmds[k]? = some c) (hg : (zAr n)[k]? = some (.func (.func g) #[] caps)) (X : World) :
  (Instr.index 64 (.agg (tabV n)) (.int .i64 k)).run zV X = .ok (.agg #[.string ⟨c.name.toArray⟩, .string ⟨c.input.toArray⟩, .int .i64 c.data, .func (.func g) #[] caps]) X := by
 have hk : k < 17 := (zK.1 hg).1;have e1 : k = 0 ∨ k = 1 ∨ k = 2 ∨ k = 3 ∨ k = 4 ∨ k = 5 ∨ k = 6 ∨ k = 7 ∨ k = 8 ∨ k = 9 ∨ k = 10 ∨ k = 11 ∨ k = 12 ∨ k = 13 ∨ k = 14 ∨ k = 15 ∨ k = 16 := by omega
 clear hk;rcases e1 with rfl | rfl | rfl | rfl | rfl | rfl | rfl | rfl | rfl | rfl | rfl | rfl | rfl | rfl | rfl | rfl | rfl <;> (cases hc; cases hg; rfl)
theorem zKN {n g k : Nat} {caps : Array Value} (hg : (zAr n)[k]? = some (.func (.func g) #[] caps)) : ∀ args w, (callFunc g args).run zV w = .ok (.enter g args) w := by
 have hk : k < 17 := (zK.1 hg).1;have e1 : k = 0 ∨ k = 1 ∨ k = 2 ∨ k = 3 ∨ k = 4 ∨ k = 5 ∨ k = 6 ∨ k = 7 ∨ k = 8 ∨ k = 9 ∨ k = 10 ∨ k = 11 ∨ k = 12 ∨ k = 13 ∨ k = 14 ∨ k = 15 ∨ k = 16 := by omega
 clear hk;rcases e1 with rfl | rfl | rfl | rfl | rfl | rfl | rfl | rfl | rfl | rfl | rfl | rfl | rfl | rfl | rfl | rfl | rfl
 ·cases hg; exact enters_of Tryz.func67 zT rfl
 ·cases hg; exact enters_of Tryz.func113 zT rfl
 ·cases hg; exact enters_of Tryz.func113 zT rfl
 ·cases hg; exact enters_of Tryz.func113 zT rfl
 ·cases hg; exact enters_of Tryz.func113 zT rfl
 ·cases hg; exact enters_of Tryz.func113 zT rfl
 ·cases hg; exact enters_of Tryz.func113 zT rfl
 ·cases hg; exact enters_of Tryz.func113 zT rfl
 ·cases hg; exact enters_of Tryz.func113 zT rfl
 ·cases hg; exact enters_of Tryz.func74 zT rfl
 ·cases hg; exact enters_of Tryz.func113 zT rfl
 ·cases hg; exact enters_of Tryz.func113 zT rfl
 ·cases hg; exact enters_of Tryz.func77 zT rfl
 ·cases hg; exact enters_of Tryz.func113 zT rfl
 ·cases hg; exact enters_of Tryz.func113 zT rfl
 ·cases hg; exact enters_of Tryz.func113 zT rfl
 ·cases hg; exact enters_of Tryz.func113 zT rfl
set_option maxRecDepth 100000 in
theorem zFx (n : Nat) {k : Nat} (hk : k < 17) : ∃ g caps, (zAr n)[k]? = some (.func (.func g) #[] caps) := by
 have e1 : k = 0 ∨ k = 1 ∨ k = 2 ∨ k = 3 ∨ k = 4 ∨ k = 5 ∨ k = 6 ∨ k = 7 ∨ k = 8 ∨ k = 9 ∨ k = 10 ∨ k = 11 ∨ k = 12 ∨ k = 13 ∨ k = 14 ∨ k = 15 ∨ k = 16 := by omega
 clear hk;rcases e1 with rfl | rfl | rfl | rfl | rfl | rfl | rfl | rfl | rfl | rfl | rfl | rfl | rfl | rfl | rfl | rfl | rfl <;> exact ⟨_, _, rfl⟩
set_option maxRecDepth 100000 in
theorem zJe (x y z u : Value) (X : World) : (Instr.field 63 (.agg #[x, y, z, u]) 1).run zV X = .ok u X := rfl
set_option maxRecDepth 100000 in
theorem zBR (v : Value) (s : St) (name a : ByteArray) (w : World) (S : Nat → Prop) (h : jE w S v s.lines) (he : EnvT w) (hs : Small s.lines) (hf : Fits s.lines) (hn : name.size ≤ 1000000) (ha : a.size ≤ 1000000) :
  Calls zV 20 #[stV v s, .string name, .string a] w (StSaid (runQ s name.data.toList a.data.toList) w) := by
 obtain ⟨W1, hW1, hB, hz, k0, k2⟩ := xE w v s;have HB : Hid (∀ W, Below W1.heap.size W1 W → W.heap[w.heap.size]? = some (.cells #[v, .int .i64 s.anc.line, .int .i64 s.anc.col, .int .i64 s.foc.line, .int .i64 s.foc.col, .int .i64 s.on, .int .i64 s.off] 26) ∧ W.heap[w.heap.size + 1]? = some (.cells #[.slice none 0 0, .int .i64 0, .int .i64 0, .int .i64 0, .int .i64 0, .int .i64 0, .int .i64 0] 26)) := zA fun W hW => ⟨zX hW k0, zX hW k2⟩;have hs1 := hB.size;have H1 := zA hB;have HF := zA (uQ name W1 (he.below hB) hn);have HVE : Hid (∀ W, Below W1.heap.size W1 W → jE W S v s.lines ∧ EnvT W) := zA fun W hW => ⟨(h.below (zZ _) hB).below (zZ _) hW, (he.below hB).below hW⟩;have HSF := zA (zB hs (zB hf ha));obtain ⟨r, hr⟩ : ∃ r, jT name.data.toList = r := ⟨_, rfl⟩;have HFN := zA (show kH name.data.toList = r.getD 0 by unfold kH; rw [hr]);have HLT : Hid (∀ k, r = some k → k < 17) := zA fun k e => zAn (hr.trans e);rw [hr, HFN.out] at HF;have HR0 := zA hr;obtain ⟨p0, f0⟩ := blk k0;obtain ⟨p1, f1⟩ := blk k2;obtain ⟨va, vc, rfl⟩ := h.slice;clear h he hs hf hB k0 k2 hr;cases r with
 | none =>
  have HR : Hid (runQ s name.data.toList a.data.toList = (noS, 2)) := zA (by unfold runQ; rw [HR0.out]);rw [HR.out];have HF : Hid (Calls zV 15 #[.string name] W1 fun e w' => e = .returned (.tuple #[.int .i64 0, .bool false]) ∧ Below W1.heap.size W1 w') := zA HF.out;go_enter Tryz.func20, Tryz.ntmps20;go_wp2_with (go_at_call 15; refine HF.out.mono ?_; rintro e w2 ⟨rfl, hb2⟩; obtain ⟨q0, g0⟩ := blk (HB.out _ hb2).1; obtain ⟨q1, g1⟩ := blk (HB.out _ hb2).2);refine zM (jQ rfl _ _ (w.heap.size + 1) (.slice none 0 0) (.int .i64 0) (.int .i64 0) (.int .i64 0) (.int .i64 0) (.int .i64 0) (.int .i64 0) (.int .i64 2) rfl rfl yL) rfl ?_;have hfin := H1.out.trans (hb2.mono hs1);exact ⟨_, rfl, SliceR.nil _ _ _ _ _ _, by ((with_reducible repeat' first | exact zE _ _ | assumption | refine zG ?_ ?_ _ | refine zH ?_ | refine qQ ?_ | refine zF ?_ ?_ _) <;> go_size)⟩
 | some k =>
  have HF : Hid (Calls zV 15 #[.string name] W1 fun e w' => e = .returned (.tuple #[.int .i64 (k : Int), .bool true]) ∧ Below W1.heap.size W1 w') := zA HF.out;have hk := HLT.out k rfl;obtain ⟨c, hc, _⟩ := jO cmds k (by rw [zDe]; exact hk);have HC := zA hc;obtain ⟨X, hX⟩ : ∃ X, doQ s k a.data.toList = X := ⟨_, rfl⟩;have HXX := zA hX;have HR : Hid (runQ s name.data.toList a.data.toList = X) := zA (by unfold runQ; rw [HR0.out]; exact hX);rw [HR.out];clear hc hX;go_enter Tryz.func20, Tryz.ntmps20;go_wp2_with (go_at_call 15; refine HF.out.mono ?_; rintro e w2 ⟨rfl, hb2⟩; obtain ⟨q0, g0⟩ := blk (HB.out _ hb2).1; obtain ⟨q1, g1⟩ := blk (HB.out _ hb2).2);obtain ⟨g, caps, hgc⟩ := zFx w2.heap.size hk;have hix := fun X => zCT w2.heap.size HC.out hgc X;have eg := zKN hgc;have hfl := fun X => zJe (.string ⟨c.name.toArray⟩) (.string ⟨c.input.toArray⟩) (.int .i64 c.data) (.func (.func g) #[] caps) X;have HGC := zA hgc;have hdr : Below W1.heap.size W1 w2.drew := hb2.drew;clear hgc
  go_region_held3 (fun w' => w'.cell? ⟨w.heap.size, 0, none⟩ = some (.slice va s.lines.length vc) ∧ w'.cell? ⟨w.heap.size, 1, none⟩ = some (.int .i64 s.anc.line) ∧ w'.cell? ⟨w.heap.size, 2, none⟩ = some (.int .i64 s.anc.col) ∧ w'.cell? ⟨w.heap.size, 3, none⟩ = some (.int .i64 s.foc.line) ∧ w'.cell? ⟨w.heap.size, 4, none⟩ = some (.int .i64 s.foc.col) ∧ w'.cell? ⟨w.heap.size, 5, none⟩ = some (.int .i64 s.on) ∧ w'.cell? ⟨w.heap.size, 6, none⟩ = some (.int .i64 s.off)) (go_keep)
   (first
    | (go_at_call 37; refine (zAB _).mono ?_; rintro e w5 ⟨rfl, hst5, ho5⟩; have HO5 := zA ho5; have hb5 := zW hdr hst5; clear ho5; obtain ⟨t0, u0⟩ := blk (HB.out _ hb5).1; obtain ⟨t1, u1⟩ := blk (HB.out _ hb5).2)
    | (go_at_fn g; refine ((HXX.out ▸ (zKr HGC.out _ s a _ S HO5.out (HVE.out _ hb5).1 (HVE.out _ hb5).2 HSF.out.1 HSF.out.2.1 HSF.out.2.2).2 : Calls zV g (#[stV (.slice va s.lines.length vc) s, .string a] ++ caps) _ (StSaid X _))).mono ?_; rintro e w6 ⟨v6, rfl, hv6, hst6⟩; have hb6 := zW hb5 hst6; obtain ⟨a6, c6, rfl⟩ := hv6.slice; obtain ⟨t2, u2⟩ := blk (HB.out _ hb6).1; obtain ⟨t3, u3⟩ := blk (HB.out _ hb6).2; have HV := zA hv6; clear hv6))
  go_wp2_with fail;refine zM (jQ rfl _ _ (w.heap.size + 1) (.slice a6 X.1.lines.length c6) (.int .i64 X.1.anc.line) (.int .i64 X.1.anc.col) (.int .i64 X.1.foc.line) (.int .i64 X.1.foc.col) (.int .i64 X.1.on) (.int .i64 X.1.off) (.int .i64 X.2) rfl rfl vZ) rfl ?_;have hfin := H1.out.trans (hb6.mono hs1);have hs5 := hb5.size;have hv6 := HV.out;exact ⟨_, rfl, (qG (zZ _) hv6 jM (fun b h _ => jJ)), by ((with_reducible repeat' first | exact zE _ _ | assumption | refine zG ?_ ?_ _ | refine zH ?_ | refine qQ ?_ | refine zF ?_ ?_ _) <;> go_size)⟩
def zAI {w0 : World} {S : Nat → Prop} {s : St} (pre : List (SelX w0 S s)) : List Lin := pre.map (·.l)
def KB {w0 : World} {S : Nat → Prop} {s : St} (w : World) (Z : Nat) (pre : List (SelX w0 S s)) (W : World) : Prop :=
 (∃ k : Int, vE (zAI pre) = some k ∧ W.heap[w.heap.size + 1]? = some (.cells #[.int .i64 k] 3)) ∧ W.heap[w.heap.size + 2]? = some (.cells #[.bool false] 4) ∧ Below w.heap.size w W ∧ Z ≤ W.heap.size
def KX {w0 : World} {S : Nat → Prop} {s : St} (w : World) (c : Code) (pre : List (SelX w0 S s)) (W : World) : Prop :=
 c = .ret ∧ vE (zAI pre) = none ∧ W.heap[w.heap.size + 1]? = some (.cells #[.int .i64 0] 3) ∧ W.heap[w.heap.size + 2]? = some (.cells #[.bool false] 4) ∧ Below w.heap.size w W
theorem zLj {w0 : World} {S : Nat → Prop} {s : St} {w : World} {Z B : Nat} (hB : w.heap.size ≤ B) : OwnFrom B (KB (w0 := w0) (S := S) (s := s) w Z) :=
 OwnFrom.and (fun pre X Y row ⟨k, h1, h2⟩ hg hr => ⟨k, h1, kZ (β := Unit) B _ _ _ () X Y row h2 hg hr⟩) (OwnFrom.and (kZ _ _ _ _) (OwnFrom.and (ownFrom_below (zC _) hB) (uA _ _)))
theorem zLi {w0 : World} {S : Nat → Prop} {s : St} {w : World} {B : Nat} (hB : w.heap.size ≤ B) (c : Code) : OwnFrom B (KX (w0 := w0) (S := S) (s := s) w c) :=
 fun pre X Y row ⟨h0, h1, h2, h3, h4⟩ hg hr => ⟨h0, h1, kZ (β := Unit) B _ _ _ () X Y row h2 hg hr, kZ (β := Unit) B _ _ _ () X Y row h3 hg hr, ownFrom_below (zC _) hB pre X Y row h4 hg hr⟩
theorem zHN (w : World) (v : Value) (s : St) : ∃ W1, ((w.alloc (.cells #[v, .int .i64 s.anc.line, .int .i64 s.anc.col, .int .i64 s.foc.line, .int .i64 s.foc.col, .int .i64 s.on, .int .i64 s.off] 26)).alloc (.cells #[.int .i64 0] 3)).alloc (.cells #[.bool false] 4) = W1 ∧ Below w.heap.size w W1 ∧ w.heap.size + 3 = W1.heap.size ∧
  W1.heap[w.heap.size]? = some (.cells #[v, .int .i64 s.anc.line, .int .i64 s.anc.col, .int .i64 s.foc.line, .int .i64 s.foc.col, .int .i64 s.on, .int .i64 s.off] 26) ∧ W1.heap[w.heap.size + 1]? = some (.cells #[.int .i64 0] 3) ∧ W1.heap[w.heap.size + 2]? = some (.cells #[.bool false] 4) :=
 ⟨_, rfl, (((zE _ _).alloc (zC _) _).alloc qE _).alloc jB _, by simp, jH _ _ (jH _ _ (jD _ _ rfl)), jH _ _ (jD _ _ qE), jD _ _ qE⟩
set_option maxRecDepth 200000 in
theorem zEq (v : Value) (s : St) (w : World) (S : Nat → Prop) (h : jE w S v s.lines) (he : EnvT w) (hs : Small s.lines) :
  Calls zV 26 #[stV v s] w fun e w' => e = .returned (.tuple #[.int .i64 ((kQ s).getD 0), .bool (kQ s).isSome]) ∧ Below w.heap.size w w' := by
 obtain ⟨W1, hW1, hB, hz, k0, k1, k2⟩ := zHN w v s;have HB : Hid (∀ W, Below W1.heap.size W1 W → W.heap[w.heap.size]? = some (.cells #[v, .int .i64 s.anc.line, .int .i64 s.anc.col, .int .i64 s.foc.line, .int .i64 s.foc.col, .int .i64 s.on, .int .i64 s.off] 26) ∧ W.heap[w.heap.size + 1]? = some (.cells #[.int .i64 0] 3) ∧ W.heap[w.heap.size + 2]? = some (.cells #[.bool false] 4)) := zA fun W hW => ⟨zX hW k0, zX hW k1, zX hW k2⟩;have hs1 := hB.size;have H1 := zA hB;have hw0 : Below W1.heap.size W1 W1 := zE _ _;have HM := zA (vQ v s W1 S (h.below (zZ _) hB) (he.below hB) hs);have HVF := zA (zB h hs);obtain ⟨p0, f0⟩ := blk k0;obtain ⟨p1, f1⟩ := blk k1;obtain ⟨p2, f2⟩ := blk k2;obtain ⟨va, vc, rfl⟩ := h.slice;have hm0 : Hid (mayS s = mayS s) := zA rfl;obtain ⟨m, hm⟩ : ∃ m, mayS s = m := ⟨_, rfl⟩;rw [hm] at HM;cases m
 ·have HR : Hid (kQ s = none) := zA (by unfold kQ; rw [hm]; rfl)
  clear h he hs k0 k1 k2 hB hm HVF;go_enter Tryz.func26, Tryz.ntmps26;go_wp2_with (go_at_call 27; refine HM.out.mono ?_; rintro e w2 ⟨rfl, hb2⟩; obtain ⟨q2, g2⟩ := blk (HB.out _ hb2).2.1; obtain ⟨q3, g3⟩ := blk (HB.out _ hb2).2.2; have HB2 := zA hb2);refine zM (zCN rfl _ _ ⟨w.heap.size + 1, 0, none⟩ ⟨w.heap.size + 1 + 1, 0, none⟩ 0 false rfl rfl ((kE zAS).trans (xY (q2 0))) (xY ((kE zCk).trans (q3 0)))) rfl ?_;rw [HR.out];have hfin := H1.out.trans (HB2.out.mono hs1);exact ⟨rfl, by ((with_reducible repeat' first | exact zE _ _ | assumption | refine zG ?_ ?_ _ | refine zH ?_ | refine qQ ?_ | refine zF ?_ ?_ _) <;> go_size)⟩
 obtain ⟨i, j, hi, hj, hij, hjl⟩ := zBN hm;have HSI := zA (zB hi hj);have HR := zA (zJr hm hi hj hij hjl);clear h he hs k0 k1 k2 hB hm hi hj;refine (callsIn_wide (n := 6)).1 ?_;refine callsIn_of_wp_marks Tryz.func26 rfl trivial ?_ rfl;simp only [Tryz.ntmps26, List.size_toArray, List.length_cons, List.length_nil, Nat.reduceAdd, Nat.reduceSub, Array.replicate_succ, Array.replicate_zero, List.push_toArray, List.append_toArray, List.nil_append, List.cons_append];have hwf : ∀ f, Fence.wide.fn f := fun _ => trivial;have hwd : Fence.wide.depth = none := rfl
 gi_wp2_with (first
  | (gi_at_call 27; refine (callsIn_wide.2 HM.out).mono ?_; rintro e w2 ⟨rfl, hb2⟩; obtain ⟨q0, g0⟩ := blk (HB.out _ hb2).1; obtain ⟨q2, g2⟩ := blk (HB.out _ hb2).2.1; obtain ⟨q3, g3⟩ := blk (HB.out _ hb2).2.2)
  | (gi_at_call 46; refine (callsIn_wide.2 (zCt _ _ _ s _)).mono ?_; rintro e w5 ⟨rfl, rfl⟩))
 obtain ⟨w6, hw6⟩ : ∃ w6, (w2.setCell ⟨w.heap.size + 1, 0, none⟩ (.int .i64 (-1))).alloc (.cells #[.slice va s.lines.length vc, .int .i64 s.anc.line, .int .i64 s.anc.col, .int .i64 s.foc.line, .int .i64 s.foc.col, .int .i64 s.on, .int .i64 s.off] 26) = w6 := ⟨_, rfl⟩;rw [hw6];have hs2 := hb2.size;have hz6 : w6.heap.size = w2.heap.size + 1 := by rw [← hw6]; simp
 have m1 : w6.heap[w.heap.size + 1]? = some (.cells #[.int .i64 (-1)] 3) := hw6 ▸ jH _ _ (by rw [qR, if_pos rfl, (HB.out _ hb2).2.1]; rfl);have m2 : w6.heap[w.heap.size + 2]? = some (.cells #[.bool false] 4) := hw6 ▸ jH _ _ (by rw [qR, if_neg zDu, (HB.out _ hb2).2.2]);have m4 : w6.heap[w2.heap.size]? = some (.cells #[.slice va s.lines.length vc, .int .i64 s.anc.line, .int .i64 s.anc.col, .int .i64 s.foc.line, .int .i64 s.foc.col, .int .i64 s.on, .int .i64 s.off] 26) := hw6 ▸ jD _ _ qE;have hbw : Below w.heap.size w w6 := hw6 ▸ ((H1.out.trans (hb2.mono hs1)).setCell vH _).alloc jB _;have hLB : KB (w0 := w) (S := S) (s := s) w w6.heap.size [] w6 := ⟨⟨-1, rfl, m1⟩, m2, hbw, zC _⟩;have N2 := zA m4;have HBW := zA hbw;clear hw6 q0 g0 q2 g2 q3 g3 p0 f0 p1 f1 p2 f2 hW1 m1 m2 m4
 refine zBa rfl qC (gf := 87) (lb := #[.pointer (some ⟨w2.heap.size, 0, none⟩)]) rfl trivial (enters_of Tryz.func87 zT rfl)
  (encs := zAc (w0 := w) (S := S) (s := s)) (n₀ := w.heap.size) (base := w2.heap.size) (S := fun ys => ys.map (·.i) = List.range' i (j + 1 - i)) (Sp := fun pre => pre.map (·.i) = List.range' i pre.length ∧ pre.length ≤ j + 1 - i) (N := 200000) (w0 := w6) ?seq qC (zE _ _) (fun _ => rfl)
  (KB w w6.heap.size) (KX w) (zLj qC) (zLi qC) hLB (fun _ _ h => h.2.2.2)
  (fun x => #[.int .i64 x.l.quote, .slice x.la x.l.lists.length x.lc, .int .i64 x.l.kind, .slice x.ca x.l.cells.length x.cc]) 47 ?act ?assign ?body ?done ?stop
 case seq =>
  intro l J Jx W hW hJ _ hY h0;have hzW := hW.size;exact zDi 5 l w2.heap.size w2.heap.size (.slice va s.lines.length vc) s i j S w W J Jx HVF.out.1 (HBW.out.trans (hW.mono HBW.out.size)) (zC _) qC (zX hW N2.out) HSI.out.1 HSI.out.2 hij hjl HVF.out.2.2.1 hJ hY h0
 case assign =>
  intro l pre x W K Bx hBx hI hK;unfold zAc linV;rw [zDg];simp only [qI, qX, qY]
  repeat (first | go_values | gi_guarded | gi_step | gi_upon)
  rw [← hBx];exact hK
 case body =>
  intro l pre x Bx W hI hBx hbx hlt;obtain ⟨⟨k0, hk0, t0⟩, t1, hb, hz⟩ := hI;obtain ⟨kk, ln, la, lc, ca, cc, row, hL, hC⟩ := x
  have hF : vE (zAI (pre ++ [(⟨kk, ln, la, lc, ca, cc, row, hL, hC⟩ : SelX w S s)])) = if ln.lists ≠ [] ∨ (0 ≤ k0 ∧ ln.kind ≠ k0) then none else some ln.kind := by
   unfold zAI at hk0 ⊢;rw [List.map_append, List.map_singleton, zIF, hk0]
   rfl
  have hlen := hL.len;unfold maxLen at hlen;obtain ⟨s0, s0f⟩ := blk t0;obtain ⟨s1, s1f⟩ := blk t1;obtain ⟨sx, sxf⟩ := blk hbx;have HIN := zA (zB t0 (zB t1 (zB hb hz)));have hzW := hb.size;have v1 : ¬ Bx = w.heap.size + 1 := by omega
  have v2 : ¬ w.heap.size + 1 = Bx := by omega
  have v3 : ¬ w.heap.size + 2 = Bx := by omega
  have v4 : ¬ Bx = w.heap.size + 2 := by omega
  have HFF := zA hF;clear t0 t1 hb hbx hk0 hF;simp only at s0 sx ⊢
  rcases (show ln.lists ≠ [] ∨ (ln.lists = [] ∧ ¬ 0 ≤ k0) ∨ (ln.lists = [] ∧ 0 ≤ k0 ∧ ln.kind = k0) ∨ (ln.lists = [] ∧ 0 ≤ k0 ∧ ln.kind ≠ k0) by
   by_cases e1 : ln.lists = []
   ·by_cases e2 : 0 ≤ k0
    ·by_cases e3 : ln.kind = k0
     ·exact .inr (.inr (.inl ⟨e1, e2, e3⟩))
     ·exact .inr (.inr (.inr ⟨e1, e2, e3⟩))
    ·exact .inr (.inl ⟨e1, e2⟩)
   ·exact .inl e1) with e1 | ⟨e1, e2⟩ | ⟨e1, e2, e3⟩ | ⟨e1, e2, e3⟩
  ·have d1 : decide ((0 : Int) < (ln.lists.length : Int)) = true := decide_eq_true (by have := List.length_pos_iff.2 e1; omega)
   have d2 : decide (0 < ln.lists.length) = true := decide_eq_true (List.length_pos_iff.2 e1);have d3 : 0 < ln.lists.length := List.length_pos_iff.2 e1;have HF2 := zA (HFF.out.trans (if_pos (.inl e1)));clear e1
   gi_wp2_with fail
   refine ⟨((KeepsOthers.setCell _ _ _).trans (KeepsOthers.setCell _ _ _)).from _, rfl, HF2.out, ?_, ?_, (HIN.out.2.2.1.setCell vH _).setCell xC _⟩
   ·rw [qR, if_neg zAS, qR, if_pos rfl, HIN.out.1]; rfl
   ·rw [qR, if_pos rfl, qR, if_neg zCk]
    have := HIN.out.2.1;simp [qW, this]
  ·have d1 : decide ((0 : Int) < (ln.lists.length : Int)) = false := decide_eq_false zAX
   have d2 : decide (0 < ln.lists.length) = false := decide_eq_false zAX;have d3 : ¬ 0 < ln.lists.length := by rw [e1]; decide
   have d4 : decide (0 ≤ k0) = false := decide_eq_false e2;have HF2 := zA (HFF.out.trans (if_neg (fun h => h.elim (fun h => h e1) (fun h => e2 h.1))));clear e1
   gi_wp2_with fail
   refine ⟨(KeepsOthers.setCell _ _ _).from _, Kp.setCell _ qC qC _, ⟨ln.kind, HF2.out, ?_⟩, ?_, HIN.out.2.2.1.setCell vH _, by have := HIN.out.2.2.2; simp; omega⟩
   ·rw [qR, if_pos rfl, HIN.out.1]; rfl
   ·rw [qR, if_neg zDu]; exact HIN.out.2.1
  ·have d1 : decide ((0 : Int) < (ln.lists.length : Int)) = false := decide_eq_false zAX
   have d2 : decide (0 < ln.lists.length) = false := decide_eq_false zAX;have d3 : ¬ 0 < ln.lists.length := by rw [e1]; decide
   have d4 : decide (0 ≤ k0) = true := decide_eq_true e2;have d5 : (ln.kind != k0) = false := by simp [e3]
   have HF2 := zA (HFF.out.trans (if_neg (fun h => h.elim (fun h => h e1) (fun h => h.2 e3))));clear e1 e3
   gi_wp2_with fail
   refine ⟨(KeepsOthers.setCell _ _ _).from _, Kp.setCell _ qC qC _, ⟨ln.kind, HF2.out, ?_⟩, ?_, HIN.out.2.2.1.setCell vH _, by have := HIN.out.2.2.2; simp; omega⟩
   ·rw [qR, if_pos rfl, HIN.out.1]; rfl
   ·rw [qR, if_neg zDu]; exact HIN.out.2.1
  ·have d1 : decide ((0 : Int) < (ln.lists.length : Int)) = false := decide_eq_false zAX
   have d2 : decide (0 < ln.lists.length) = false := decide_eq_false zAX;have d3 : ¬ 0 < ln.lists.length := by rw [e1]; decide
   have d4 : decide (0 ≤ k0) = true := decide_eq_true e2;have d5 : (ln.kind != k0) = true := by simp [e3]
   have HF2 := zA (HFF.out.trans (if_pos (.inr ⟨e2, e3⟩)));clear e1 e3
   gi_wp2_with fail
   refine ⟨((KeepsOthers.setCell _ _ _).trans (KeepsOthers.setCell _ _ _)).from _, rfl, HF2.out, ?_, ?_, (HIN.out.2.2.1.setCell vH _).setCell xC _⟩
   ·rw [qR, if_neg zAS, qR, if_pos rfl, HIN.out.1]; rfl
   ·rw [qR, if_pos rfl, qR, if_neg zCk]
    have := HIN.out.2.1;simp [qW, this]
 case done =>
  rintro D ys W hD hys ⟨⟨k0, hk0, t0⟩, t1, hb, hz⟩ hK;have hl : ∀ x : SelX w S s, kA s x.i = x.l := fun x => by unfold kA; rw [List.getD_eq_getElem?_getD, x.row]; rfl
  have hys2 : zAI ys = (List.range' i (j + 1 - i)).map (kA s) := by
   rw [← hys, List.map_map];exact congrArg (fun f => List.map f ys) (funext fun x => (hl x).symm)
  have HR : Hid (kQ s = some k0) := zA (by rw [HR.out, ← hys2, hk0]);have HB9 := zA hb;have HK9 := zA hK;obtain ⟨s0, s0f⟩ := blk t0;obtain ⟨s1, s1f⟩ := blk t1;clear t0 t1 hb hK hys2 hk0
  gi_wp2_with fail
  have hBE : Below w.heap.size w ((W.setCell ⟨w.heap.size + 1, 0, none⟩ (.int .i64 k0)).setCell ⟨w.heap.size + 1 + 1, 0, none⟩ (.bool true)) := ((HB9.out.setCell vH _).setCell xC _)
  have hK2 : ((W.setCell ⟨w.heap.size + 1, 0, none⟩ (.int .i64 k0)).setCell ⟨w.heap.size + 1 + 1, 0, none⟩ (.bool true)).heap[D]? = some (.deferred (some [])) := by
   rw [qR, if_neg (by show ¬ w.heap.size + 1 + 1 = D; omega), qR, if_neg (by show ¬ w.heap.size + 1 = D; omega)];exact HK9.out
  have r1 : ((W.setCell ⟨w.heap.size + 1, 0, none⟩ (.int .i64 k0)).setCell ⟨w.heap.size + 1 + 1, 0, none⟩ (.bool true)).cell? ⟨w.heap.size + 1, 0, none⟩ = some (.int .i64 k0) := (kE zAS).trans (xY (s0 0));have r2 : ((W.setCell ⟨w.heap.size + 1, 0, none⟩ (.int .i64 k0)).setCell ⟨w.heap.size + 1 + 1, 0, none⟩ (.bool true)).cell? ⟨w.heap.size + 1 + 1, 0, none⟩ = some (.bool true) := xY ((kE zCk).trans (s1 0))
  generalize ((W.setCell ⟨w.heap.size + 1, 0, none⟩ (.int .i64 k0)).setCell ⟨w.heap.size + 1 + 1, 0, none⟩ (.bool true)) = Y at *
  refine ⟨by simp, .inl ⟨_, _, rfl, run_takeDeferred hK2, ?_⟩⟩;refine ⟨_, zCN rfl _ _ ⟨w.heap.size + 1, 0, none⟩ ⟨w.heap.size + 1 + 1, 0, none⟩ k0 true rfl rfl ((World.cell?_of_block (World.putObj_heap_other (by show w.heap.size + 1 ≠ D; omega))).trans r1) ((World.cell?_of_block (World.putObj_heap_other (by show w.heap.size + 1 + 1 ≠ D; omega))).trans r2), ?_⟩;rw [HR.out];exact ⟨rfl, hBE.trans (belowK_b (w := w) (zC _) _ D _ _ qC hK2 rfl rfl)⟩
 case stop =>
  rintro D c pre W hD hpre ⟨rfl, hk0, t0, t1, hb⟩ hK;have hl : ∀ x : SelX w S s, kA s x.i = x.l := fun x => by unfold kA; rw [List.getD_eq_getElem?_getD, x.row]; rfl
  have hys2 : zAI pre = (List.range' i pre.length).map (kA s) := by
   rw [← hpre.1, List.map_map];exact congrArg (fun f => List.map f pre) (funext fun x => (hl x).symm)
  have HR : Hid (kQ s = none) := zA (by
   rw [HR.out];refine zHj ?_ hk0;rw [hys2];refine ⟨(List.range' (i + pre.length) (j + 1 - i - pre.length)).map (kA s), ?_⟩;rw [← List.map_append]
   congr 1
   have := List.range'_append_1 (s := i) (m := pre.length) (n := j + 1 - i - pre.length);rw [this]
   congr 1
   have := hpre.2
   omega)
  have HB9 := zA hb;have HK9 := zA hK;obtain ⟨s0, s0f⟩ := blk t0;obtain ⟨s1, s1f⟩ := blk t1;clear t0 t1 hb hK hys2 hk0 hpre
  gi_wp2_with fail
  refine ⟨by simp, .inl ⟨_, _, rfl, run_takeDeferred HK9.out, ?_⟩⟩;refine ⟨_, zCN rfl _ _ ⟨w.heap.size + 1, 0, none⟩ ⟨w.heap.size + 1 + 1, 0, none⟩ 0 false rfl rfl ((World.cell?_of_block (World.putObj_heap_other (by show w.heap.size + 1 ≠ D; omega))).trans (s0 0)) ((World.cell?_of_block (World.putObj_heap_other (by show w.heap.size + 1 + 1 ≠ D; omega))).trans (s1 0)), ?_⟩;rw [HR.out];exact ⟨rfl, HB9.out.trans (belowK_b (w := w) (zC _) _ D _ _ qC HK9.out rfl rfl)⟩
def yJ (s : St) (name : List UInt8) : Bool × Bool := match jT name with | some k => if 15 ≤ k then xK ((k : Int) - 15) s else (false, false) | none => (false, false)
set_option maxRecDepth 100000 in
theorem zGy (v : Value) (s : St) (name : ByteArray) (w : World) (S : Nat → Prop) (h : jE w S v s.lines) (he : EnvT w) (hs : Small s.lines) (hf : Fits s.lines) (hn : name.size ≤ 1000000) :
  Calls zV 21 #[stV v s, .string name] w fun e w' => e = .returned (.tuple #[.bool (yJ s name.data.toList).1, .bool (yJ s name.data.toList).2]) ∧ Below w.heap.size w w' := by
 obtain ⟨W1, hW1, hB, hz, k0⟩ := vU w v s;have HB : Hid (∀ W, Below W1.heap.size W1 W → W.heap[w.heap.size]? = some (.cells #[v, .int .i64 s.anc.line, .int .i64 s.anc.col, .int .i64 s.foc.line, .int .i64 s.foc.col, .int .i64 s.on, .int .i64 s.off] 26)) := zA fun W hW => zX hW k0;have hs1 := hB.size;have H1 := zA hB;have hw0 : Below W1.heap.size W1 W1 := zE _ _;have HV : Hid (∀ W, Below W1.heap.size W1 W → jE W S v s.lines ∧ EnvT W) := zA fun W hW => ⟨(h.below (zZ _) hB).below (zZ _) hW, (he.below hB).below hW⟩;have HFd : Hid (∀ W, Below W1.heap.size W1 W → Calls zV 15 #[.string name] W fun e w' => e = .returned (.tuple #[.int .i64 (kH name.data.toList), .bool (jT name.data.toList).isSome]) ∧ Below W.heap.size W w') := zA fun W hW => uQ name W (HV.out W hW).2 hn;have HLd : Hid (∀ (k : Int) W, Below W1.heap.size W1 W → Calls zV 42 #[stV v s, .int .i64 k] W fun e w' => e = .returned (.tuple #[.bool (xK k s).1, .bool (xK k s).2]) ∧ Below W.heap.size W w') := zA fun k W hW => zDO v s k W S (HV.out W hW).1 (HV.out W hW).2 hs;obtain ⟨r, hr⟩ : ∃ r, jT name.data.toList = r := ⟨_, rfl⟩;have HFN := zA (show kH name.data.toList = r.getD 0 by unfold kH; rw [hr]);have HLT : Hid (∀ k, r = some k → k < 17) := zA fun k e => zAn (hr.trans e);rw [hr, HFN.out] at HFd;have HR0 := zA hr;obtain ⟨p0, f0⟩ := blk k0;obtain ⟨va, vc, rfl⟩ := h.slice;clear h he hs hf hB k0 hr;cases r with
 | none =>
  have HR : Hid (yJ s name.data.toList = (false, false)) := zA (by unfold yJ; rw [HR0.out]);have HFd : Hid (∀ W, Below W1.heap.size W1 W → Calls zV 15 #[.string name] W fun e w' => e = .returned (.tuple #[.int .i64 0, .bool false]) ∧ Below W.heap.size W w') := zA HFd.out;rw [HR.out];go_enter Tryz.func21, Tryz.ntmps21;go_wp2_with (go_at_call 15; refine (HFd.out _ hw0).mono ?_; rintro e w2 ⟨rfl, hb2⟩);go_ret2;exact ⟨rfl, H1.out.trans (hb2.mono hs1)⟩
 | some k =>
  have hk := HLT.out k rfl;have HFd : Hid (∀ W, Below W1.heap.size W1 W → Calls zV 15 #[.string name] W fun e w' => e = .returned (.tuple #[.int .i64 (k : Int), .bool true]) ∧ Below W.heap.size W w') := zA HFd.out
  by_cases h15 : 15 ≤ k
  ·have HR : Hid (yJ s name.data.toList = xK ((k : Int) - 15) s) := zA (by unfold yJ; rw [HR0.out]; exact if_pos h15)
   rw [HR.out];have i1 : (15 : Int) ≤ (k : Int) := by omega
   have e1 : IntKind.i64.wrap ((k : Int) - 15) = (k : Int) - 15 := IntWalk.i64_in _ qC;obtain ⟨x, hx⟩ : ∃ x : Int, (k : Int) - 15 = x := ⟨_, rfl⟩;have HLx : Hid (∀ W, Below W1.heap.size W1 W → Calls zV 42 #[stV (.slice va s.lines.length vc) s, .int .i64 ((k : Int) - 15)] W fun e w' => e = .returned (.tuple #[.bool (xK x s).1, .bool (xK x s).2]) ∧ Below W.heap.size W w') := zA fun W hW => hx ▸ HLd.out ((k : Int) - 15) W hW;rw [hx];clear hx;go_enter Tryz.func21, Tryz.ntmps21
   go_wp2_with (first
    | (go_at_call 15; refine (HFd.out _ hw0).mono ?_; rintro e w2 ⟨rfl, hb2⟩; obtain ⟨q0, g0⟩ := blk (HB.out _ hb2))
    | (go_at_call 42; refine (HLx.out _ hb2).mono ?_; rintro e w3 ⟨rfl, hst3⟩))
   go_ret2;exact ⟨rfl, H1.out.trans ((zW hb2 hst3).mono hs1)⟩
  ·have HR : Hid (yJ s name.data.toList = (false, false)) := zA (by unfold yJ; rw [HR0.out]; exact if_neg h15)
   rw [HR.out];have i1 : ¬ (15 : Int) ≤ (k : Int) := by omega
   go_enter Tryz.func21, Tryz.ntmps21;go_wp2_with (go_at_call 15; refine (HFd.out _ hw0).mono ?_; rintro e w2 ⟨rfl, hb2⟩);go_ret2;exact ⟨rfl, H1.out.trans (hb2.mono hs1)⟩
def bitN (name : List UInt8) : Int := match jT name with | some k => bitQ k | none => 0
theorem zIq (name : ByteArray) (w : World) (he : EnvT w) (hn : name.size ≤ 1000000) :
  Calls zV 23 #[.string name] w fun e w' => e = .returned (.int .i64 (bitN name.data.toList)) ∧ Below w.heap.size w w' := by
 have HFd := zA (uQ name w he hn);obtain ⟨r, hr⟩ : ∃ r, jT name.data.toList = r := ⟨_, rfl⟩;have HFN := zA (show kH name.data.toList = r.getD 0 by unfold kH; rw [hr]);have HLT : Hid (∀ k, r = some k → k < 17) := zA fun k e => zAn (hr.trans e);rw [hr, HFN.out] at HFd;have HR0 := zA hr;clear hr he;cases r with
 | none =>
  have HR : Hid (bitN name.data.toList = 0) := zA (by unfold bitN; rw [HR0.out]);have HFd : Hid (Calls zV 15 #[.string name] w fun e w' => e = .returned (.tuple #[.int .i64 0, .bool false]) ∧ Below w.heap.size w w') := zA HFd.out;rw [HR.out];go_enter Tryz.func23, Tryz.ntmps23;go_wp2_with (go_at_call 15; refine HFd.out.mono ?_; rintro e w2 ⟨rfl, hb2⟩);go_ret;exact ⟨rfl, hb2⟩
 | some k =>
  have hk := HLT.out k rfl;have HFd : Hid (Calls zV 15 #[.string name] w fun e w' => e = .returned (.tuple #[.int .i64 (k : Int), .bool true]) ∧ Below w.heap.size w w') := zA HFd.out;have HR : Hid (bitN name.data.toList = bitQ k) := zA (by unfold bitN; rw [HR0.out]);rw [HR.out]
  have hq : k = 5 ∨ k = 6 ∨ k = 7 ∨ k = 8 ∨ (k < 5 ∧ bitQ k = 0) ∨ (8 < k ∧ bitQ k = 0) := by
   unfold bitQ
   by_cases h5 : k = 5
   ·exact .inl h5
   by_cases h6 : k = 6
   ·exact .inr (.inl h6)
   by_cases h7 : k = 7
   ·exact .inr (.inr (.inl h7))
   by_cases h8 : k = 8
   ·exact .inr (.inr (.inr (.inl h8)))
   rw [if_neg h5, if_neg h6, if_neg h7, if_neg h8]
   omega
  rcases hq with rfl | rfl | rfl | rfl | ⟨h1, h2⟩ | ⟨h1, h2⟩
  ·go_enter Tryz.func23, Tryz.ntmps23
   go_wp2_with (go_at_call 15; refine HFd.out.mono ?_; rintro e w2 ⟨rfl, hb2⟩);go_ret;exact ⟨rfl, hb2⟩
  ·go_enter Tryz.func23, Tryz.ntmps23
   go_wp2_with (go_at_call 15; refine HFd.out.mono ?_; rintro e w2 ⟨rfl, hb2⟩);go_ret;exact ⟨rfl, hb2⟩
  ·go_enter Tryz.func23, Tryz.ntmps23
   go_wp2_with (go_at_call 15; refine HFd.out.mono ?_; rintro e w2 ⟨rfl, hb2⟩);go_ret;exact ⟨rfl, hb2⟩
  ·go_enter Tryz.func23, Tryz.ntmps23
   go_wp2_with (go_at_call 15; refine HFd.out.mono ?_; rintro e w2 ⟨rfl, hb2⟩);go_ret;exact ⟨rfl, hb2⟩
  ·have i1 : ¬ (5 : Int) ≤ (k : Int) := by omega
   rw [h2];clear h2 HR;go_enter Tryz.func23, Tryz.ntmps23;go_wp2_with (go_at_call 15; refine HFd.out.mono ?_; rintro e w2 ⟨rfl, hb2⟩);go_ret;exact ⟨rfl, hb2⟩
  ·have i1 : (5 : Int) ≤ (k : Int) := by omega
   have i2 : ¬ (k : Int) ≤ 8 := by omega
   rw [h2];clear h2 HR;go_enter Tryz.func23, Tryz.ntmps23;go_wp2_with (go_at_call 15; refine HFd.out.mono ?_; rintro e w2 ⟨rfl, hb2⟩);go_ret;exact ⟨rfl, hb2⟩
set_option maxRecDepth 100000 in
theorem zEu (x y z u : Value) (X : World) : (Instr.field 63 (.agg #[x, y, z, u]) 0).run zV X = .ok (.agg #[x, y, z]) X := rfl
set_option maxRecDepth 100000 in
theorem zEN (x y z : Value) (X : World) : (Instr.field 34 (.agg #[x, y, z]) 2).run zV X = .ok z X := rfl
set_option maxRecDepth 100000 in
theorem zEf (name a : ByteArray) (w : World) (he : EnvT w) (hn : name.size ≤ 1000000) :
  Calls zV 17 #[.string name, .string a] w fun e w' => e = .returned (.tuple #[.string ⟨(kW name.data.toList a.data.toList).1.toArray⟩, .bool (kW name.data.toList a.data.toList).2]) ∧ Below w.heap.size w w' := by
 have HFd := zA (uQ name w he hn);obtain ⟨r, hr⟩ : ∃ r, jT name.data.toList = r := ⟨_, rfl⟩;have HFN := zA (show kH name.data.toList = r.getD 0 by unfold kH; rw [hr]);have HLT : Hid (∀ k, r = some k → k < 17) := zA fun k e => zAn (hr.trans e);rw [hr, HFN.out] at HFd;have HR0 := zA hr;have hl : a.data.toList.toArray = a.data := rfl;clear hr he hl;cases r with
 | none =>
  have HR : Hid (kW name.data.toList a.data.toList = ([], false)) := zA (by unfold kW; rw [HR0.out]);have HFd : Hid (Calls zV 15 #[.string name] w fun e w' => e = .returned (.tuple #[.int .i64 0, .bool false]) ∧ Below w.heap.size w w') := zA HFd.out;rw [HR.out];go_enter Tryz.func17, Tryz.ntmps17;go_wp2_with (go_at_call 15; refine HFd.out.mono ?_; rintro e w2 ⟨rfl, hb2⟩);go_ret2;exact ⟨rfl, hb2⟩
 | some k =>
  have hk := HLT.out k rfl;obtain ⟨c, hc, _⟩ := jO cmds k (by rw [zDe]; exact hk);have HFd : Hid (Calls zV 15 #[.string name] w fun e w' => e = .returned (.tuple #[.int .i64 (k : Int), .bool true]) ∧ Below w.heap.size w w') := zA HFd.out;have HC := zA hc;have HD : Hid (∀ n, ∃ g caps, (zAr n)[k]? = some (.func (.func g) #[] caps)) := zA fun n => zFx n hk
  have HR : Hid (kW name.data.toList a.data.toList = if c.data = 1 then (a.data.toList, true) else ([], true)) := zA (by
   unfold kW;rw [HR0.out];simp only [List.getD_eq_getElem?_getD, hc, Option.getD_some])
  clear hc
  by_cases hd : c.data = 1
  ·have HR := zA (HR.out.trans (if_pos hd))
   rw [HR.out];have d1 : (c.data == 1) = true := by simp [hd]
   clear hd;go_enter Tryz.func17, Tryz.ntmps17
   go_wp2_with (first
    | (go_at_call 15; refine HFd.out.mono ?_; rintro e w2 ⟨rfl, hb2⟩; obtain ⟨g, caps, hgc⟩ := HD.out w2.heap.size; have hix := fun X => zCT w2.heap.size HC.out hgc X; have hf0 := fun X => zEu (.string ⟨c.name.toArray⟩) (.string ⟨c.input.toArray⟩) (.int .i64 c.data) (.func (.func g) #[] caps) X; have hf2 := fun X => zEN (.string ⟨c.name.toArray⟩) (.string ⟨c.input.toArray⟩) (.int .i64 c.data) X; clear hgc)
    | (go_at_call 37; refine (zAB _).mono ?_; rintro e w5 ⟨rfl, hst5, _⟩))
   go_ret2;exact ⟨rfl, zW hb2 hst5⟩
  ·have HR := zA (HR.out.trans (if_neg hd))
   rw [HR.out];have d1 : (c.data == 1) = false := by simp [hd]
   clear hd;go_enter Tryz.func17, Tryz.ntmps17
   go_wp2_with (first
    | (go_at_call 15; refine HFd.out.mono ?_; rintro e w2 ⟨rfl, hb2⟩; obtain ⟨g, caps, hgc⟩ := HD.out w2.heap.size; have hix := fun X => zCT w2.heap.size HC.out hgc X; have hf0 := fun X => zEu (.string ⟨c.name.toArray⟩) (.string ⟨c.input.toArray⟩) (.int .i64 c.data) (.func (.func g) #[] caps) X; have hf2 := fun X => zEN (.string ⟨c.name.toArray⟩) (.string ⟨c.input.toArray⟩) (.int .i64 c.data) X; clear hgc)
    | (go_at_call 37; refine (zAB _).mono ?_; rintro e w5 ⟨rfl, hst5, _⟩))
   go_ret2;exact ⟨rfl, zW hb2 hst5⟩
theorem zHO {s : St} {q : Int} (h : kQ s = some q) : 0 ≤ q ∧ q ≤ 3 := by
 unfold kQ at h
 split at h
 ·rename_i hm
  split at h
  ·cases h
   obtain ⟨i, j, hi, hj, hij, hjl⟩ := zBN hm;have hl : s.lines[i]? = some s.lines[i] := List.getElem?_eq_getElem qC;have hm' := (zAl.1 (uW hm).1).2.2.2 _ (vJ hl);obtain ⟨_, _, _, h4, h5, _⟩ := zED hm'
   have e : xN s.lines (qU s).1 = s.lines[i] := by
    unfold xN;rw [hi, Int.toNat_natCast, List.getD_eq_getElem?_getD, hl]
    rfl
   rw [e];exact ⟨h4, h5⟩
  ·cases h
 ·cases h
def valK (o : Option Int) : List UInt8 := match o with | some q => zAm q | none => []
theorem zGk {fn : Func} {p : Tmp} (h : fn.results = #[.cell p 82]) (tmps : Array Value) (w : World) (B : Nat) (x y : Value) (hp : tmps.getD p undef = .pointer (some ⟨B, 0, none⟩)) (hB : w.heap[B]? = some (.cells #[x, y] 82)) :
  (results fn tmps).run zV w = .ok (.agg #[x, y]) w := by
 have h1 := run_loadVar_row (P := zV) w B 82 82 _ _ _ hB Tryz.underlying82 rfl zT;have hp' : tmps[p]?.getD undef = .pointer (some ⟨B, 0, none⟩) := by simpa using hp
 simp [results, h, hp', asAddr, h1]
set_option maxRecDepth 100000 in
theorem zJb (k : Nat) (hk : 1 ≤ k ∧ k < 17) (w : World) : Calls zV 58 #[.int .i64 k] w fun e w' => ∃ n, e = .returned (.agg #[.slice (some ⟨n + k, 0, none⟩) (lenT k) (lenT k), .int .i64 (zAM k)]) ∧ Below w.heap.size w w' ∧ ∀ o, uC[k - 1]? = some o → w'.heap[n + k]? = some o := by
 obtain ⟨W1, hW1⟩ : ∃ W1, w.alloc (.cells #[.slice none 0 0, .int .i64 0] 82) = W1 := ⟨_, rfl⟩;have hB1 : Below w.heap.size w W1 := hW1 ▸ (zE _ _).alloc (zC _) _;have hN : W1.heap[w.heap.size]? = some (.cells #[.slice none 0 0, .int .i64 0] 82) := hW1 ▸ jD _ _ rfl;have hz : w.heap.size < W1.heap.size := by rw [← hW1]; simp
 have hix := fun X => zES W1.heap.size k hk.2 X;have hsl : zBt W1.heap.size k = .slice (some ⟨W1.heap.size + k, 0, none⟩) (lenT k) (lenT k) := by unfold zBt; rw [if_neg qC]
 rw [hsl] at hix;obtain ⟨ln, hln⟩ : ∃ n, lenT k = n := ⟨_, rfl⟩;obtain ⟨cl, hcl⟩ : ∃ c, zAM k = c := ⟨_, rfl⟩;rw [hln, hcl] at hix ⊢;have HW1 := zA hW1;have H1 := zA hB1;have HN := zA hN;have i1 : ¬ (k : Int) < 0 := by omega
 have i2 : ¬ (16 : Int) < (k : Int) := by omega
 have HK := zA hk;have hs1 := hB1.size;clear hW1 hB1 hN hsl hln hcl hk;go_enter Tryz.func58, Tryz.ntmps58;go_wp2_with (go_at_call 99; rw [HW1.out]; refine (zDP _).mono ?_; rintro e w2 ⟨rfl, hb2, ho2⟩; obtain ⟨p0, f0⟩ := blk (zX hb2 HN.out); have HO2 := zA ho2; clear ho2);refine zM (zGk rfl _ _ w.heap.size (.slice (some ⟨W1.heap.size + k, 0, none⟩) ln ln) (.int .i64 cl) rfl (by simp [qR, qW, zX hb2 HN.out])) rfl ?_;have hfin := H1.out.trans (hb2.mono hs1);refine ⟨W1.heap.size, rfl, by ((with_reducible repeat' first | exact zE _ _ | assumption | refine zG ?_ ?_ _ | refine zH ?_ | refine qQ ?_ | refine zF ?_ ?_ _) <;> go_size), fun o ho => ?_⟩;have hko := HO2.out (k - 1) o ho;rw [show W1.heap.size + (k - 1 + 1) = W1.heap.size + k by have := HK.out; omega] at hko;rw [qR, if_neg (by show ¬ w.heap.size = W1.heap.size + k; omega), qR, if_neg (by show ¬ w.heap.size = W1.heap.size + k; omega)];exact hko
set_option maxRecDepth 100000 in
theorem zIj (x y : Value) (X : World) : (Instr.field 82 (.agg #[x, y]) 0).run zV X = .ok x X := rfl
set_option maxRecDepth 100000 in
theorem zHv (q : Int) (hq : 0 ≤ q ∧ q ≤ 3) (w : World) : Calls zV 33 #[.int .i64 (q + 2)] w fun e w' => e = .returned (.string ⟨(zAm q).toArray⟩) ∧ Below w.heap.size w w' := by
 obtain ⟨k, hk, hkq⟩ : ∃ k : Nat, (2 ≤ k ∧ k ≤ 5) ∧ (k : Int) = q + 2 := ⟨(q + 2).toNat, by omega, by omega⟩;have HO := zA (zJb k ⟨by omega, by omega⟩ w)
 have H : lenT k = 1 ∧ ∃ o, uC[k - 1]? = some (.cells #[.string ⟨(zAm q).toArray⟩] o) := by
  obtain rfl : q = (k : Int) - 2 := by omega
  have : k = 2 ∨ k = 3 ∨ k = 4 ∨ k = 5 := by omega
  rcases this with rfl | rfl | rfl | rfl <;> exact ⟨rfl, _, rfl⟩
 obtain ⟨hl, ot, hot⟩ := H;rw [hl] at HO;obtain ⟨nm, hnm⟩ : ∃ x, (⟨(zAm q).toArray⟩ : ByteArray) = x := ⟨_, rfl⟩;rw [hnm] at hot ⊢;obtain ⟨cl, hcl⟩ : ∃ c, zAM k = c := ⟨_, rfl⟩;rw [hcl] at HO;rw [← hkq];have HOT := zA hot;have hf := fun n X => zIj (.slice (some ⟨n + k, 0, none⟩) 1 1) (.int .i64 cl) X;clear hl hot hnm hcl hkq hk hq;go_enter Tryz.func33, Tryz.ntmps33;go_wp2_with (go_at_call 58; refine HO.out.mono ?_; rintro e w2 ⟨n, rfl, hb2, ho2⟩; obtain ⟨p0, f0⟩ := blk (ho2 _ HOT.out); clear ho2);go_ret;exact ⟨rfl, hb2⟩
set_option maxRecDepth 100000 in
theorem zGW (v : Value) (s : St) (name : ByteArray) (w : World) (S : Nat → Prop) (h : jE w S v s.lines) (he : EnvT w) (hs : Small s.lines) (hf : Fits s.lines) (hn : name.size ≤ 1000000) :
  Calls zV 11 #[stV v s, .string name] w fun e w' => e = .returned (.string ⟨(zAb s name.data.toList).toArray⟩) ∧ Below w.heap.size w w' := by
 obtain ⟨W1, hW1, hB, hz, k0⟩ := vU w v s;have HB : Hid (∀ W, Below W1.heap.size W1 W → W.heap[w.heap.size]? = some (.cells #[v, .int .i64 s.anc.line, .int .i64 s.anc.col, .int .i64 s.foc.line, .int .i64 s.foc.col, .int .i64 s.on, .int .i64 s.off] 26)) := zA fun W hW => zX hW k0;have hs1 := hB.size;have H1 := zA hB;have hw0 : Below W1.heap.size W1 W1 := zE _ _;have HV : Hid (∀ W, Below W1.heap.size W1 W → jE W S v s.lines ∧ EnvT W) := zA fun W hW => ⟨(h.below (zZ _) hB).below (zZ _) hW, (he.below hB).below hW⟩;have HFd : Hid (∀ W, Below W1.heap.size W1 W → Calls zV 15 #[.string name] W fun e w' => e = .returned (.tuple #[.int .i64 (kH name.data.toList), .bool (jT name.data.toList).isSome]) ∧ Below W.heap.size W w') := zA fun W hW => uQ name W (HV.out W hW).2 hn;have HKd : Hid (∀ W, Below W1.heap.size W1 W → Calls zV 26 #[stV v s] W fun e w' => e = .returned (.tuple #[.int .i64 ((kQ s).getD 0), .bool (kQ s).isSome]) ∧ Below W.heap.size W w') := zA fun W hW => zEq v s W S (HV.out W hW).1 (HV.out W hW).2 hs;have HHr : Hid (∀ W, Below W1.heap.size W1 W → Calls zV 34 #[stV v s] W fun e w' => e = .returned (.string ⟨(zAO s).toArray⟩) ∧ Below W.heap.size W w') := zA fun W hW => zHz v s W S (HV.out W hW).1 (HV.out W hW).2 hs hf;have HKr : Hid (∀ q, kQ s = some q → 0 ≤ q ∧ q ≤ 3) := zA fun q hq => zHO hq;obtain ⟨r, hr⟩ : ∃ r, jT name.data.toList = r := ⟨_, rfl⟩;have HFN := zA (show kH name.data.toList = r.getD 0 by unfold kH; rw [hr]);have HLT : Hid (∀ k, r = some k → k < 17) := zA fun k e => zAn (hr.trans e);rw [hr, HFN.out] at HFd;have HR0 := zA hr;obtain ⟨kb, hkb⟩ : ∃ x, kQ s = x := ⟨_, rfl⟩;have HKB := zA hkb;rw [hkb] at HKd HKr;obtain ⟨p0, f0⟩ := blk k0;obtain ⟨va, vc, rfl⟩ := h.slice;clear h he hs hf hB k0 hr hkb;cases r with
 | none =>
  have HR : Hid (zAb s name.data.toList = []) := zA (by unfold zAb; rw [HR0.out]);have HFd : Hid (∀ W, Below W1.heap.size W1 W → Calls zV 15 #[.string name] W fun e w' => e = .returned (.tuple #[.int .i64 0, .bool false]) ∧ Below W.heap.size W w') := zA HFd.out;rw [HR.out];go_enter Tryz.func11, Tryz.ntmps11;go_wp2_with (go_at_call 15; refine (HFd.out _ hw0).mono ?_; rintro e w2 ⟨rfl, hb2⟩);go_ret;exact ⟨rfl, H1.out.trans (hb2.mono hs1)⟩
 | some k =>
  have hk := HLT.out k rfl;have HFd : Hid (∀ W, Below W1.heap.size W1 W → Calls zV 15 #[.string name] W fun e w' => e = .returned (.tuple #[.int .i64 (k : Int), .bool true]) ∧ Below W.heap.size W w') := zA HFd.out;have HV0 : Hid (zAb s name.data.toList = if k = 12 then valK kb else if k = 9 then zAO s else []) := zA (by unfold zAb; rw [HR0.out, ← HKB.out]; rfl)
  by_cases h12 : k = 12
  ·have HV0 := zA (HV0.out.trans (if_pos h12))
   have d1 : ((k : Int) == 12) = true := by simp; omega
   have d2 : (k == 12) = true := by simp; omega
   clear h12;cases kb with
   | none =>
    have HR : Hid (zAb s name.data.toList = []) := zA HV0.out;have HKd : Hid (∀ W, Below W1.heap.size W1 W → Calls zV 26 #[stV (.slice va s.lines.length vc) s] W fun e w' => e = .returned (.tuple #[.int .i64 0, .bool false]) ∧ Below W.heap.size W w') := zA HKd.out;rw [HR.out];go_enter Tryz.func11, Tryz.ntmps11
    go_wp2_with (first
     | (go_at_call 15; refine (HFd.out _ hw0).mono ?_; rintro e w2 ⟨rfl, hb2⟩; obtain ⟨q0, g0⟩ := blk (HB.out _ hb2))
     | (go_at_call 26; refine (HKd.out _ hb2).mono ?_; rintro e w3 ⟨rfl, hst3⟩; have hb3 := zW hb2 hst3))
    go_ret;exact ⟨rfl, H1.out.trans (hb3.mono hs1)⟩
   | some q =>
    have HR : Hid (zAb s name.data.toList = zAm q) := zA HV0.out;obtain ⟨hq0, hq3⟩ := HKr.out q rfl;have HKd : Hid (∀ W, Below W1.heap.size W1 W → Calls zV 26 #[stV (.slice va s.lines.length vc) s] W fun e w' => e = .returned (.tuple #[.int .i64 q, .bool true]) ∧ Below W.heap.size W w') := zA HKd.out;have HLi : Hid (∀ W, Calls zV 32 #[.int .i64 q] W fun e w' => e = .returned (.tuple #[.int .i64 (q + 2), .bool true]) ∧ Below W.heap.size W w') := zA fun W => zHx q ⟨hq0, hq3⟩ W;have HNm : Hid (∀ W, Calls zV 33 #[.int .i64 (q + 2)] W fun e w' => e = .returned (.string ⟨(zAm q).toArray⟩) ∧ Below W.heap.size W w') := zA fun W => zHv q ⟨hq0, hq3⟩ W;rw [HR.out];clear hq0 hq3;go_enter Tryz.func11, Tryz.ntmps11
    go_wp2_with (first
     | (go_at_call 15; refine (HFd.out _ hw0).mono ?_; rintro e w2 ⟨rfl, hb2⟩; obtain ⟨q0, g0⟩ := blk (HB.out _ hb2))
     | (go_at_call 26; refine (HKd.out _ hb2).mono ?_; rintro e w3 ⟨rfl, hst3⟩; have hb3 := zW hb2 hst3)
     | (go_at_call 32; refine (HLi.out _).mono ?_; rintro e w4 ⟨rfl, hst4⟩; have hb4 := zW hb3 hst4)
     | (go_at_call 33; refine (HNm.out _).mono ?_; rintro e w5 ⟨rfl, hst5⟩; have hb5 := zW hb4 hst5))
    go_ret;exact ⟨rfl, H1.out.trans (hb5.mono hs1)⟩
  ·have HV0 := zA (HV0.out.trans (if_neg h12))
   have d1 : ((k : Int) == 12) = false := by simp; omega
   have d2 : (k == 12) = false := by simp; omega
   clear h12
   by_cases h9 : k = 9
   ·have HR := zA (HV0.out.trans (if_pos h9))
    have d3 : ((k : Int) == 9) = true := by simp; omega
    have d4 : (k == 9) = true := by simp; omega
    rw [HR.out];clear h9;go_enter Tryz.func11, Tryz.ntmps11
    go_wp2_with (first
     | (go_at_call 15; refine (HFd.out _ hw0).mono ?_; rintro e w2 ⟨rfl, hb2⟩; obtain ⟨q0, g0⟩ := blk (HB.out _ hb2))
     | (go_at_call 34; refine (HHr.out _ hb2).mono ?_; rintro e w3 ⟨rfl, hst3⟩; have hb3 := zW hb2 hst3))
    go_ret;exact ⟨rfl, H1.out.trans (hb3.mono hs1)⟩
   ·have HR := zA (HV0.out.trans (if_neg h9))
    have d3 : ((k : Int) == 9) = false := by simp; omega
    have d4 : (k == 9) = false := by simp; omega
    rw [HR.out];clear h9;go_enter Tryz.func11, Tryz.ntmps11;go_wp2_with (go_at_call 15; refine (HFd.out _ hw0).mono ?_; rintro e w2 ⟨rfl, hb2⟩; obtain ⟨q0, g0⟩ := blk (HB.out _ hb2));go_ret;exact ⟨rfl, H1.out.trans (hb2.mono hs1)⟩
end Go.Proofs.YtjgeadoncanheaaGreatDoor
