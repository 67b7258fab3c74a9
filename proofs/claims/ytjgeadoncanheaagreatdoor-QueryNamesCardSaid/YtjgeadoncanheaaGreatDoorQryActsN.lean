/- Parts of the proof. -/
import Derived.Test.YtjgeadoncanheaaGreatDoorKeys2N
import Derived.Test.YtjgeadoncanheaaGreatDoorQryArgsN
import Derived.Test.YtjgeadoncanheaaGreatDoorBlkLinesN
import Derived.Test.YtjgeadoncanheaaGreatDoorEmptiedN
set_option linter.unusedVariables false
set_option linter.unusedSimpArgs false
set_option maxHeartbeats 8000000
namespace Go.Proofs.YtjgeadoncanheaaGreatDoor
open Go.RowKit
open Go.Proofs.Qw
attribute [local go_sem] Oper.semAt_some
open _root_.Go.Lib renaming hid → zA
open _root_.And renaming intro → zB
open _root_.Nat renaming le_refl → zC
open _root_.Go.RowKit.Below renaming refl → zE, setCell → zF, alloc → zG, drew → zH
open _root_.Go.BigFrame renaming wpQuiet_want → zI, wpQuiet_skip → zJ
open _root_.Array renaming getElem?_eq_some_iff → zL
open _root_.Go renaming bodyPost_ret → zM
open _root_.Go.Act renaming put → zU
open _root_.Go.Proofs.Tryz renaming prog → zV
open _root_.Go.Proofs.YtjgeadoncanheaaGreatDoor renaming jF → zW, jG → zX, jH → zY, jD → qF, jN → qQ, jL → qR
open _root_.Go.Proofs.Qw renaming jW → zZ, kR → qK, vP → qL
open _root_.Go.Proofs.Qw.SliceR renaming stable → qG
open _root_.Go.Proofs.Qw.Keeps renaming refl → qM, alloc → qN, drew → qO, set → qP
theorem zAD {w w' : World} {r : Option Lin} {e : Ending} (h : yT w r e w') : ∃ q a1 n1 c1 k a2 n2 c2 er, e = .returned (.tuple #[.agg #[.int .i64 q, .slice a1 n1 c1, .int .i64 k, .slice a2 n2 c2], .int .i64 er]) ∧ (er == (0 : Int)) = r.isSome ∧
  (∀ l', r = some l' → q = l'.quote ∧ k = l'.kind ∧ jI true w' (fun b => w.heap.size ≤ b) (.slice a1 n1 c1) l'.lists ∧ jC true w' (fun b => w.heap.size ≤ b) (.slice a2 n2 c2) l'.cells) ∧ Below w.heap.size w w' := by
 obtain ⟨h1, h2, h3⟩ := h;cases r with
 | none => exact ⟨0, none, 0, 0, 0, none, 0, 0, 7, h2 rfl, rfl, fun l' h => kN, h3⟩
 | some l' =>
  obtain ⟨a', b', he, ha, hb⟩ := h1 _ rfl;obtain ⟨a1, c1, rfl⟩ := ha.slice;obtain ⟨a2, c2, rfl⟩ := hb.slice;exact ⟨_, _, _, _, _, _, _, _, 0, he, rfl, fun l'' h => (by cases h; exact ⟨rfl, rfl, ha, hb⟩), h3⟩
set_option maxRecDepth 100000 in
theorem zJK (Bs : Nat) (v : Value) (s : St) (n : Nat) (a : Option Addr) (c : Nat) (w : World) (hst : w.heap[Bs]? = some (.cells #[v, .int .i64 s.anc.line, .int .i64 s.anc.col, .int .i64 s.foc.line, .int .i64 s.foc.col, .int .i64 s.on, .int .i64 s.off] 26)) (h : DocR true w (fun b => n ≤ b) (.slice a (outS s).length c) (outS s)) (hn : n ≤ w.heap.size) (he : EnvT w) (hm : mayS s = true) (hv : ∃ va vn vc, v = .slice va vn vc) (hBn : Bs < n) :
  Calls zV 117 #[.slice a (outS s).length c, posV (qU s).1, .pointer (some ⟨Bs, 0, none⟩)] w (DocPB n (zAe s) w) := by
 obtain ⟨hM, _, hA, _, _⟩ := vR hm;have hs := (uT hM).1;have hf := (uT hM).2
 have hR : zAe s = if s.anc = s.foc then putK (outS s) (qU s).1 (if (qU s).1.col = 0 then vD (xN (outS s) (qU s).1) else none)
   (if (kT (outS s) (qU s).1 (-1)).2 = true then cutK (outS s) (kT (outS s) (qU s).1 (-1)).1 (qU s).1 (kT (outS s) (qU s).1 (-1)).1 else ([], (qU s).1, 7)) else (outS s, (qU s).1, 0) := rfl
 obtain ⟨O, hO⟩ : ∃ O, outS s = O := ⟨_, rfl⟩;obtain ⟨A, hAA⟩ : ∃ A, (qU s).1 = A := ⟨_, rfl⟩;rw [hO] at h hM hs hf hR hA ⊢;rw [hAA] at hR hA ⊢;obtain ⟨i, p, l, rfl, hl, hp, hml, hla⟩ := zCc hM hA;rw [hla] at hR;obtain ⟨q, t, hqt⟩ : ∃ q t, kT O ⟨i, p⟩ (-1) = (q, t) := ⟨_, _, rfl⟩;rw [hqt] at hR;simp only at hR;obtain ⟨W1, hW1, hB, hz, k0, k1⟩ := vA w (.int .i64 i) (.int .i64 p) (.int .i64 0) (.int .i64 0);have hs1 := hB.size;have kt := zX hB hst;obtain ⟨b, o, la, lc, ca, cc, rfl, hb0, hbz, hAt, hfr, cs, hcs⟩ := zBU (h.below hB) hl;have hfl := hf.2 l (vJ hl);have hsl := hs.2.2 l (vJ hl);have hil := (List.getElem?_eq_some_iff.1 hl).1;have hlen := (h.below hB).len;have HB : Hid (∀ W, Below W1.heap.size W1 W → W.heap[w.heap.size]? = some (.cells #[.int .i64 (⟨i, p⟩ : Ps).line, .int .i64 (⟨i, p⟩ : Ps).col] 24) ∧ W.heap[w.heap.size + 1]? = some (.cells #[.int .i64 0, .int .i64 0] 24) ∧ W.heap[Bs]? = some (.cells #[v, .int .i64 s.anc.line, .int .i64 s.anc.col, .int .i64 s.foc.line, .int .i64 s.foc.col, .int .i64 s.on, .int .i64 s.off] 26)) := zA fun W hW => ⟨zX hW k0, zX hW k1, zX hW kt⟩;have hw0 : Below W1.heap.size W1 W1 := zE _ _;have HFr : Hid (∀ W, Below W1.heap.size W1 W → Calls zV 118 #[.agg #[.int .i64 l.quote, .slice la l.lists.length lc, .int .i64 l.kind, .slice ca l.cells.length cc]] W (yT W (vD l))) := zA fun W hW => zHe l la ca lc cc W W1 (fun b => n ≤ b) hAt.listsR hAt.cellsR hW ((he.below hB).below hW) hfl hsl hml
 have HS : Hid (∀ W, Below W1.heap.size W1 W → Calls zV 119 #[.slice (some ⟨b, o, none⟩) O.length c, .agg #[.int .i64 i, .int .i64 p], .int .i64 (-1)] W fun e w' => e = .returned (.tuple #[.agg #[.int .i64 q.line, .int .i64 q.col], .bool t]) ∧ Below W.heap.size W w') := zA fun W hW => by
  have := zFn _ O ⟨i, p⟩ (-1) W w (fun b => n ≤ b) h.read (hB.trans (hW.mono hs1)) hs.1 hs.2.1 qV;rw [hqt] at this;exact this
 have HD : Hid (∀ W, Below W1.heap.size W1 W → Calls zV 120 #[.slice (some ⟨b, o, none⟩) O.length c, .agg #[.int .i64 q.line, .int .i64 q.col], .agg #[.int .i64 i, .int .i64 p]] W (DocSaid (xI O q ⟨i, p⟩) W)) := zA fun W hW => zCA _ O q ⟨i, p⟩ W (fun b => n ≤ b) (h.below (hB.trans (hW.mono hs1))).read ((he.below hB).below hW) hs hf;have HP : Hid (∀ p : Ps, posV p = .agg #[.int .i64 p.line, .int .i64 p.col]) := zA fun _ => rfl;rw [HP.out];have HO := zA h;have H1 := zA hB;have HN := zA hn;have HL := zA hl;have HAt := zA hAt;have HCS := zA hcs;have HR := zA hR;have hAc := hAt;obtain ⟨_, c0, c1, c2, c3, _, _⟩ := hAt;have i0 : (0 : Int) ≤ (i : Int) := Int.natCast_nonneg _;have i1 : (i : Int) < (O.length : Int) := by omega
 have n1 : ¬ b = w.heap.size := fun e => by rw [e] at hcs; rw [k0] at hcs; cases hcs
 have n2 : ¬ b = w.heap.size + 1 := fun e => by rw [e] at hcs; rw [k1] at hcs; cases hcs
 have HBN := zA hb0;have HNb := zA (zB n1 n2);have hg := zDd;have hq := fun (w : World) => zCH s.anc s.foc w;obtain ⟨p0, f0⟩ := blk k0;obtain ⟨va, vn, vc, rfl⟩ := hv;obtain ⟨ro, hro⟩ : ∃ r, vD l = r := ⟨_, rfl⟩;rw [hro] at HFr HR;unfold maxLen at hlen
 have hpz : (((p : Nat) : Int) == 0) = decide (p = 0) := by
  by_cases hp0 : p = 0
  ·subst hp0; rfl
  ·rw [decide_eq_false hp0]; simpa using hp0
 by_cases hc : s.anc = s.foc
 ·rw [if_pos hc] at HR
  rw [decide_eq_true hc] at hq
  have hcase : (p = 0 ∧ ∃ l', ro = some l') ∨ (Hid (putK O ⟨i, p⟩ (if (⟨i, p⟩ : Ps).col = 0 then ro else none) (if t = true then cutK O q ⟨i, p⟩ q else ([], ⟨i, p⟩, 7)) = (if t = true then cutK O q ⟨i, p⟩ q else ([], ⟨i, p⟩, 7))) ∧ ((p = 0 ∧ ro = none) ∨ p ≠ 0)) := by
   by_cases hp0 : p = 0
   ·cases ro with
    | none => exact .inr ⟨zA (by rw [ite_self]; rfl), .inl ⟨hp0, rfl⟩⟩
    | some l' => exact .inl ⟨hp0, l', rfl⟩
   ·exact .inr ⟨zA (by rw [if_neg (by simp only; omega)]; rfl), .inr hp0⟩
  rcases hcase with ⟨hp0, l', rfl⟩ | ⟨HPK, hcase⟩
  ·have HR1 : Hid (zAe s = (O.set i l', ⟨i, p⟩, 0)) := zA (by rw [HR.out, if_pos (show ((p : Nat) : Int) = 0 by omega)]; rfl)
   rw [decide_eq_true hp0] at hpz;clear h hB k0 k1 kt hst hn he hs hf hM hA hl hla hro hcs hAc hfr hR hqt hm hc hO hAA HR hp0 HD;go_enter Tryz.func117, Tryz.ntmps117
   go_wp2_with (first
    | (go_at_call 118; refine (HFr.out _ hw0).mono ?_; rintro e w3 hsaid; obtain ⟨fq, fa1, fn1, fc1, fk, fa2, fn2, fc2, fe, rfl, hfe, HFS, hst3⟩ := zAD hsaid; have HFS := zA HFS; clear hsaid; have hb3 := zW hw0 hst3; have z3 := hb3.size; obtain ⟨t0, u0⟩ := blk1 (HB.out _ hb3).1; (try simp only [Option.isSome_none, Option.isSome_some] at hfe))
    | (go_at_call 119; refine (HS.out _ (hb3.alloc hb3.size _)).mono ?_; rintro e w5 ⟨rfl, hst5⟩; have hb5 := zW (hb3.alloc hb3.size _) hst5; have m5 := zX hst5 (qF w3 _ rfl); have r5 := on1 m5; have z5 := hst5.size; obtain ⟨t2, u2⟩ := blk1 (HB.out _ hb5).1; obtain ⟨t3, u3⟩ := blk1 (HB.out _ hb5).2.1; obtain ⟨t4, u4⟩ := blk1 (HB.out _ hb5).2.2; have zz5 := hb5.size; have n5 : ¬ b = w5.heap.size := qC; have n6 : ¬ w5.heap.size = b := qC; have n7 : ¬ w.heap.size = b := (fun e => n1 e.symm); have n8 : ¬ w.heap.size + 1 = b := (fun e => n2 e.symm); have n9 : b < w5.heap.size := qC; have g4 := fun k => (blk (zX hb5 HCS.out)).2 k; have y1 : ¬ w5.heap.size = w.heap.size + 1 := qC; have y2 : ¬ w.heap.size + 1 = w5.heap.size := qC; obtain ⟨_, d0, d1, d2, d3, _, _⟩ := HAt.out.below hb5; have e0 := jP d0; have e1 := jP d1; have e2 := jP d2; have e3 := jP d3; have g3 := fun X k => (blk1 (zX hb5 HCS.out)).2 X k))
   obtain ⟨rfl, rfl, hi3, hc3⟩ := HFS.out _ rfl;have hb35 : Below w3.heap.size w3 w5 := ((zE _ _).alloc (zC _) _).trans (hst5.mono qE);have hO5 : DocR true w5 (fun b => n ≤ b ∧ ¬ b = w.heap.size + 1) (.slice (some ⟨b, o, none⟩) O.length c) O := qG (zZ true) (SliceR.bounded (zZ true) HO.out) (Keeps.all (H1.out.trans (hb5.mono hs1))) (fun b h _ => ⟨h.1, fun e => by have := h.2; omega⟩);have hi5 := qG (S' := fun b => n ≤ b ∧ ¬ b = w.heap.size + 1) (jV _) (SliceR.below (jV _) hi3 hb35) (qM _ _) (fun b h _ => by have h' : W1.heap.size ≤ b := h; have := HN.out; exact ⟨by omega, by omega⟩);have hc5 := qG (S' := fun b => n ≤ b ∧ ¬ b = w.heap.size + 1) (jV _) (SliceR.below (jV _) hc3 hb35) (qM _ _) (fun b h _ => by have h' : W1.heap.size ≤ b := h; have := HN.out; exact ⟨by omega, by omega⟩);have hl5 := hi5.len.1;have hl6 := hc5.len.1;obtain ⟨W5, hW5, hD5, hk5, hz5, hb5'⟩ := zDc hO5 HL.out l' (.slice fa1 fn1 fc1) (.slice fa2 fn2 fc2) hi5 hc5;rw [hW5];have j0 := (hk5 w.heap.size (fun e => HNb.out.1 e.symm)).trans (HB.out _ hb5).1;have j1 := (hk5 (w.heap.size + 1) (fun e => HNb.out.2 e.symm)).trans (HB.out _ hb5).2.1;have HJ := zA (zB j1 (zB hD5 (zB (hb5' n HBN.out) hz5)));clear hk5 hD5 hb5' hW5 hO5 d0 d1 d2 d3 e0 e1 e2 e3 g3 g4 t0 u0 t2 u2 t3 u3 t4 u4 hz5 hi5 hc5 hi3 hc3 hl5 hl6;obtain ⟨p5, f5⟩ := blk1 j0;obtain ⟨p6, f6⟩ := blk1 j1;go_region;go_wp2_with fail;refine zM (kK rfl _ _ (w.heap.size + 1) (.int .i64 i) (.int .i64 p) rfl (by rw [xD]; simp [qR, qW, zY _ _ HJ.out.1])) rfl ?_;rw [HR1.out];have hD5 := HJ.out.2.1;have hn5 : n ≤ w.heap.size := HN.out;have hfin : Below n w W5 := ((H1.out.trans (hb5.mono hs1)).mono hn5).trans HJ.out.2.2.1;have hzz := hfin.size;refine ⟨_, rfl, ?_, ?_⟩
   ·show DocR true _ _ (.slice (some ⟨b, o, none⟩) O.length c) (O.set i l')
    exact qG (zZ true) hD5 zDp (fun b h _ => h.1)
   ·((with_reducible repeat' first | exact zE _ _ | assumption | refine zG ?_ ?_ _ | refine zH ?_ | refine qQ ?_ | refine zF ?_ ?_ _) <;> go_size)
  ·have HR1 : Hid (zAe s = if t = true then cutK O q ⟨i, p⟩ q else ([], ⟨i, p⟩, 7)) := zA (HR.out.trans HPK.out)
   have HX : Hid (cutK O q ⟨i, p⟩ q = ((xI O q ⟨i, p⟩).1, q, (xI O q ⟨i, p⟩).2)) := zA rfl;obtain ⟨D, er, hD⟩ : ∃ D er, xI O q ⟨i, p⟩ = (D, er) := ⟨_, _, rfl⟩;rw [hD] at HX HD;clear h hB k0 k1 kt hst hn he hs hf hM hA hl hla hro hcs hAc hfr hR hqt hm hc hO hAA HR HPK hD;rcases hcase with ⟨hp0, rfl⟩ | hp0
   ·rw [decide_eq_true hp0] at hpz
    clear hp0;cases t
    ·have HR2 := zA (HR1.out.trans (if_neg qV))
     clear HR1 HD HX;go_enter Tryz.func117, Tryz.ntmps117
     go_wp2_with (first
      | (go_at_call 118; refine (HFr.out _ hw0).mono ?_; rintro e w3 hsaid; obtain ⟨fq, fa1, fn1, fc1, fk, fa2, fn2, fc2, fe, rfl, hfe, HFS, hst3⟩ := zAD hsaid; have HFS := zA HFS; clear hsaid; have hb3 := zW hw0 hst3; have z3 := hb3.size; obtain ⟨t0, u0⟩ := blk1 (HB.out _ hb3).1; (try simp only [Option.isSome_none, Option.isSome_some] at hfe))
      | (go_at_call 119; refine (HS.out _ (hb3.alloc hb3.size _)).mono ?_; rintro e w5 ⟨rfl, hst5⟩; have hb5 := zW (hb3.alloc hb3.size _) hst5; have m5 := zX hst5 (qF w3 _ rfl); have r5 := on1 m5; have z5 := hst5.size; obtain ⟨t2, u2⟩ := blk1 (HB.out _ hb5).1; obtain ⟨t3, u3⟩ := blk1 (HB.out _ hb5).2.1; obtain ⟨t4, u4⟩ := blk1 (HB.out _ hb5).2.2; have zz5 := hb5.size; have n5 : ¬ b = w5.heap.size := qC; have n6 : ¬ w5.heap.size = b := qC; have n7 : ¬ w.heap.size = b := (fun e => n1 e.symm); have n8 : ¬ w.heap.size + 1 = b := (fun e => n2 e.symm); have n9 : b < w5.heap.size := qC; have g4 := fun k => (blk (zX hb5 HCS.out)).2 k; have y1 : ¬ w5.heap.size = w.heap.size + 1 := qC; have y2 : ¬ w.heap.size + 1 = w5.heap.size := qC; obtain ⟨_, d0, d1, d2, d3, _, _⟩ := HAt.out.below hb5; have e0 := jP d0; have e1 := jP d1; have e2 := jP d2; have e3 := jP d3; have g3 := fun X k => (blk1 (zX hb5 HCS.out)).2 X k))
     go_region;go_wp2_with fail;have hfin := H1.out.trans (hb5.mono hs1);refine zM (kK rfl _ _ (w.heap.size + 1) (.int .i64 i) (.int .i64 p) rfl zDs) rfl ?_;exact DocPB.err HR2.out zBv HN.out
    ·have HR2 := zA (HR1.out.trans (if_pos rfl))
     clear HR1;go_enter Tryz.func117, Tryz.ntmps117
     go_wp2_with (first
      | (go_at_call 118; refine (HFr.out _ hw0).mono ?_; rintro e w3 hsaid; obtain ⟨fq, fa1, fn1, fc1, fk, fa2, fn2, fc2, fe, rfl, hfe, HFS, hst3⟩ := zAD hsaid; have HFS := zA HFS; clear hsaid; have hb3 := zW hw0 hst3; have z3 := hb3.size; obtain ⟨t0, u0⟩ := blk1 (HB.out _ hb3).1; (try simp only [Option.isSome_none, Option.isSome_some] at hfe))
      | (go_at_call 119; refine (HS.out _ (hb3.alloc hb3.size _)).mono ?_; rintro e w5 ⟨rfl, hst5⟩; have hb5 := zW (hb3.alloc hb3.size _) hst5; have m5 := zX hst5 (qF w3 _ rfl); have r5 := on1 m5; have z5 := hst5.size; obtain ⟨t2, u2⟩ := blk1 (HB.out _ hb5).1; obtain ⟨t3, u3⟩ := blk1 (HB.out _ hb5).2.1; obtain ⟨t4, u4⟩ := blk1 (HB.out _ hb5).2.2; have zz5 := hb5.size; have n5 : ¬ b = w5.heap.size := qC; have n6 : ¬ w5.heap.size = b := qC; have n7 : ¬ w.heap.size = b := (fun e => n1 e.symm); have n8 : ¬ w.heap.size + 1 = b := (fun e => n2 e.symm); have n9 : b < w5.heap.size := qC; have g4 := fun k => (blk (zX hb5 HCS.out)).2 k; have y1 : ¬ w5.heap.size = w.heap.size + 1 := qC; have y2 : ¬ w.heap.size + 1 = w5.heap.size := qC; obtain ⟨_, d0, d1, d2, d3, _, _⟩ := HAt.out.below hb5; have e0 := jP d0; have e1 := jP d1; have e2 := jP d2; have e3 := jP d3; have g3 := fun X k => (blk1 (zX hb5 HCS.out)).2 X k)
      | (go_at_call 120; refine (HD.out _ (hb5.alloc hb5.size _)).mono ?_; intro e w6 hsaid; obtain ⟨v6, rfl, hv6, hst6⟩ := hsaid; have hb6 := zW (hb5.alloc hb5.size _) hst6; have HV6 := zA hv6; clear hv6; obtain ⟨q0, s0⟩ := blk (HB.out _ hb6).1; obtain ⟨q1, s1⟩ := blk (HB.out _ hb6).2.1; have m6 := zX hst6 (qF w5 _ rfl); obtain ⟨q2, s2⟩ := blk m6))
     go_region;go_wp2_with fail;have hfin := H1.out.trans (hb6.mono hs1);refine zM (kK rfl _ _ (w.heap.size + 1) (.int .i64 q.line) (.int .i64 q.col) rfl (by rw [xD]; simp [qR, qW, (HB.out _ hb6).2.1])) rfl ?_;rw [HR2.out, HX.out];have hv6 := HV6.out;have hn4 : n ≤ w.heap.size := HN.out;refine ⟨_, rfl, (qG (zZ _) hv6 jM (fun b h _ => jJ)), ?_⟩;refine Below.mono ?_ HN.out
     ((with_reducible repeat' first | exact zE _ _ | assumption | refine zG ?_ ?_ _ | refine zH ?_ | refine qQ ?_ | refine zF ?_ ?_ _) <;> go_size)
   ·rw [decide_eq_false hp0] at hpz
    clear hp0;cases t
    ·have HR2 := zA (HR1.out.trans (if_neg qV))
     clear HR1 HD HX;go_enter Tryz.func117, Tryz.ntmps117
     go_wp2_with (first
      | (go_at_call 118; refine (HFr.out _ hw0).mono ?_; rintro e w3 hsaid; obtain ⟨fq, fa1, fn1, fc1, fk, fa2, fn2, fc2, fe, rfl, hfe, HFS, hst3⟩ := zAD hsaid; have HFS := zA HFS; clear hsaid; have hb3 := zW hw0 hst3; have z3 := hb3.size; obtain ⟨t0, u0⟩ := blk1 (HB.out _ hb3).1; (try simp only [Option.isSome_none, Option.isSome_some] at hfe))
      | (go_at_call 119; refine (HS.out _ (hb3.alloc hb3.size _)).mono ?_; rintro e w5 ⟨rfl, hst5⟩; have hb5 := zW (hb3.alloc hb3.size _) hst5; have m5 := zX hst5 (qF w3 _ rfl); have r5 := on1 m5; have z5 := hst5.size; obtain ⟨t2, u2⟩ := blk1 (HB.out _ hb5).1; obtain ⟨t3, u3⟩ := blk1 (HB.out _ hb5).2.1; obtain ⟨t4, u4⟩ := blk1 (HB.out _ hb5).2.2; have zz5 := hb5.size; have n5 : ¬ b = w5.heap.size := qC; have n6 : ¬ w5.heap.size = b := qC; have n7 : ¬ w.heap.size = b := (fun e => n1 e.symm); have n8 : ¬ w.heap.size + 1 = b := (fun e => n2 e.symm); have n9 : b < w5.heap.size := qC; have g4 := fun k => (blk (zX hb5 HCS.out)).2 k; have y1 : ¬ w5.heap.size = w.heap.size + 1 := qC; have y2 : ¬ w.heap.size + 1 = w5.heap.size := qC; obtain ⟨_, d0, d1, d2, d3, _, _⟩ := HAt.out.below hb5; have e0 := jP d0; have e1 := jP d1; have e2 := jP d2; have e3 := jP d3; have g3 := fun X k => (blk1 (zX hb5 HCS.out)).2 X k))
     go_region;go_wp2_with fail;have hfin := H1.out.trans (hb5.mono hs1);refine zM (kK rfl _ _ (w.heap.size + 1) (.int .i64 i) (.int .i64 p) rfl zDs) rfl ?_;exact DocPB.err HR2.out zBv HN.out
    ·have HR2 := zA (HR1.out.trans (if_pos rfl))
     clear HR1;go_enter Tryz.func117, Tryz.ntmps117
     go_wp2_with (first
      | (go_at_call 118; refine (HFr.out _ hw0).mono ?_; rintro e w3 hsaid; obtain ⟨fq, fa1, fn1, fc1, fk, fa2, fn2, fc2, fe, rfl, hfe, HFS, hst3⟩ := zAD hsaid; have HFS := zA HFS; clear hsaid; have hb3 := zW hw0 hst3; have z3 := hb3.size; obtain ⟨t0, u0⟩ := blk1 (HB.out _ hb3).1; (try simp only [Option.isSome_none, Option.isSome_some] at hfe))
      | (go_at_call 119; refine (HS.out _ (hb3.alloc hb3.size _)).mono ?_; rintro e w5 ⟨rfl, hst5⟩; have hb5 := zW (hb3.alloc hb3.size _) hst5; have m5 := zX hst5 (qF w3 _ rfl); have r5 := on1 m5; have z5 := hst5.size; obtain ⟨t2, u2⟩ := blk1 (HB.out _ hb5).1; obtain ⟨t3, u3⟩ := blk1 (HB.out _ hb5).2.1; obtain ⟨t4, u4⟩ := blk1 (HB.out _ hb5).2.2; have zz5 := hb5.size; have n5 : ¬ b = w5.heap.size := qC; have n6 : ¬ w5.heap.size = b := qC; have n7 : ¬ w.heap.size = b := (fun e => n1 e.symm); have n8 : ¬ w.heap.size + 1 = b := (fun e => n2 e.symm); have n9 : b < w5.heap.size := qC; have g4 := fun k => (blk (zX hb5 HCS.out)).2 k; have y1 : ¬ w5.heap.size = w.heap.size + 1 := qC; have y2 : ¬ w.heap.size + 1 = w5.heap.size := qC; obtain ⟨_, d0, d1, d2, d3, _, _⟩ := HAt.out.below hb5; have e0 := jP d0; have e1 := jP d1; have e2 := jP d2; have e3 := jP d3; have g3 := fun X k => (blk1 (zX hb5 HCS.out)).2 X k)
      | (go_at_call 120; refine (HD.out _ (hb5.alloc hb5.size _)).mono ?_; intro e w6 hsaid; obtain ⟨v6, rfl, hv6, hst6⟩ := hsaid; have hb6 := zW (hb5.alloc hb5.size _) hst6; have HV6 := zA hv6; clear hv6; obtain ⟨q0, s0⟩ := blk (HB.out _ hb6).1; obtain ⟨q1, s1⟩ := blk (HB.out _ hb6).2.1; have m6 := zX hst6 (qF w5 _ rfl); obtain ⟨q2, s2⟩ := blk m6))
     go_region;go_wp2_with fail;have hfin := H1.out.trans (hb6.mono hs1);refine zM (kK rfl _ _ (w.heap.size + 1) (.int .i64 q.line) (.int .i64 q.col) rfl (by rw [xD]; simp [qR, qW, (HB.out _ hb6).2.1])) rfl ?_;rw [HR2.out, HX.out];have hv6 := HV6.out;have hn4 : n ≤ w.heap.size := HN.out;refine ⟨_, rfl, (qG (zZ _) hv6 jM (fun b h _ => jJ)), ?_⟩;refine Below.mono ?_ HN.out
     ((with_reducible repeat' first | exact zE _ _ | assumption | refine zG ?_ ?_ _ | refine zH ?_ | refine qQ ?_ | refine zF ?_ ?_ _) <;> go_size)
 ·rw [if_neg hc] at HR
  rw [decide_eq_false hc] at hq;clear h hB k0 k1 kt hst hn he hs hf hM hA hl hla hro hcs hAc hfr hR hqt hm hc hO hAA HD;go_enter Tryz.func117, Tryz.ntmps117
  go_wp2_with (first
   | (go_at_call 118; refine (HFr.out _ hw0).mono ?_; rintro e w3 hsaid; obtain ⟨fq, fa1, fn1, fc1, fk, fa2, fn2, fc2, fe, rfl, hfe, HFS, hst3⟩ := zAD hsaid; have HFS := zA HFS; clear hsaid; have hb3 := zW hw0 hst3; have z3 := hb3.size; obtain ⟨t0, u0⟩ := blk1 (HB.out _ hb3).1; (try simp only [Option.isSome_none, Option.isSome_some] at hfe))
   | (go_at_call 119; refine (HS.out _ (hb3.alloc hb3.size _)).mono ?_; rintro e w5 ⟨rfl, hst5⟩; have hb5 := zW (hb3.alloc hb3.size _) hst5; have m5 := zX hst5 (qF w3 _ rfl); have r5 := on1 m5; have z5 := hst5.size; obtain ⟨t2, u2⟩ := blk1 (HB.out _ hb5).1; obtain ⟨t3, u3⟩ := blk1 (HB.out _ hb5).2.1; obtain ⟨t4, u4⟩ := blk1 (HB.out _ hb5).2.2; have zz5 := hb5.size; have n5 : ¬ b = w5.heap.size := qC; have n6 : ¬ w5.heap.size = b := qC; have n7 : ¬ w.heap.size = b := (fun e => n1 e.symm); have n8 : ¬ w.heap.size + 1 = b := (fun e => n2 e.symm); have n9 : b < w5.heap.size := qC; have g4 := fun k => (blk (zX hb5 HCS.out)).2 k; have y1 : ¬ w5.heap.size = w.heap.size + 1 := qC; have y2 : ¬ w.heap.size + 1 = w5.heap.size := qC; obtain ⟨_, d0, d1, d2, d3, _, _⟩ := HAt.out.below hb5; have e0 := jP d0; have e1 := jP d1; have e2 := jP d2; have e3 := jP d3; have g3 := fun X k => (blk1 (zX hb5 HCS.out)).2 X k))
  go_region;go_wp2_with fail;have hfin := H1.out.trans (hb5.mono hs1);refine zM (kK rfl _ _ (w.heap.size + 1) (.int .i64 i) (.int .i64 p) rfl zDs) rfl ?_;exact DocPB.same HR.out HO.out zBv HN.out
set_option maxRecDepth 100000 in
theorem zHu (v : Value) (s : St) (w : World) (S : Nat → Prop) (h : jE w S v s.lines) (he : EnvT w) (hs : Small s.lines) (hf : Fits s.lines) :
  Calls zV 71 #[stV v s] w (StSaid (keyS s (zAe s)) w) := by
 obtain ⟨W1, hW1, hB, hz, k0, k1⟩ := xE w v s;have HB : Hid (∀ W, Below W1.heap.size W1 W → W.heap[w.heap.size]? = some (.cells #[v, .int .i64 s.anc.line, .int .i64 s.anc.col, .int .i64 s.foc.line, .int .i64 s.foc.col, .int .i64 s.on, .int .i64 s.off] 26) ∧ W.heap[w.heap.size + 1]? = some (.cells #[.slice none 0 0, .int .i64 0, .int .i64 0, .int .i64 0, .int .i64 0, .int .i64 0, .int .i64 0] 26)) := zA fun W hW => ⟨zX hW k0, zX hW k1⟩;have hs1 := hB.size;have H1 := zA hB;obtain ⟨va, vc, rfl⟩ := h.slice
 have HC := zA (zBL _ s 117 #[.pointer (some ⟨w.heap.size, 0, none⟩)] (zAe s) W1 S (h.below (zZ _) hB) (he.below hB) hs hf (enters_of Tryz.func117 zT rfl)
  (fun hm n W a c hW h1 h2 h3 => zJK w.heap.size _ s n a c W (zX hW k0) h3 h2 ((he.below hB).below hW) hm ⟨_, _, _, rfl⟩ qC))
 obtain ⟨X, hX⟩ : ∃ X, keyS s (zAe s) = X := ⟨_, rfl⟩;rw [hX] at HC ⊢;obtain ⟨p0, f0⟩ := blk k0;obtain ⟨p1, f1⟩ := blk k1;clear h he hs hf hX k0 k1 hB;go_enter Tryz.func71, Tryz.ntmps71;go_wp2_with (go_at_call 107; refine HC.out.mono ?_; intro e w2 hsaid; obtain ⟨v2, rfl, hv2, hb2⟩ := hsaid; obtain ⟨a2, c2, rfl⟩ := hv2.slice; have HV2 := zA hv2; clear hv2; obtain ⟨q2, g2⟩ := blk (HB.out _ hb2).2);refine zM (jQ rfl _ _ (w.heap.size + 1) (.slice a2 X.1.lines.length c2) (.int .i64 X.1.anc.line) (.int .i64 X.1.anc.col) (.int .i64 X.1.foc.line) (.int .i64 X.1.foc.col) (.int .i64 X.1.on) (.int .i64 X.1.off) (.int .i64 X.2) rfl rfl yL) rfl ?_;have hfin := H1.out.trans (hb2.mono hs1);have hv2 := HV2.out;exact ⟨_, rfl, (qG (zZ _) hv2 jM (fun b h _ => jJ)), by ((with_reducible repeat' first | exact zE _ _ | assumption | refine zG ?_ ?_ _ | refine zH ?_ | refine qQ ?_ | refine zF ?_ ?_ _) <;> go_size)⟩
theorem zLb (w : World) (B : Nat) {x0 x1 x2 x3 x4 x5 x6 : Value} {t : TypeId} (h : w.heap[B]? = some (.cells #[x0, x1, x2, x3, x4, x5, x6] t)) (a b c d e f g : Value) :
  ∃ W, ((((((w.setCell ⟨B, 0, none⟩ a).setCell ⟨B, 1, none⟩ b).setCell ⟨B, 2, none⟩ c).setCell ⟨B, 3, none⟩ d).setCell ⟨B, 4, none⟩ e).setCell ⟨B, 5, none⟩ f).setCell ⟨B, 6, none⟩ g = W ∧
   W.heap[B]? = some (.cells #[a, b, c, d, e, f, g] t) ∧ (∀ n, n ≤ B → Below n w W) ∧ (∀ k, k ≠ B → W.heap[k]? = w.heap[k]?) ∧ W.heap.size = w.heap.size :=
 ⟨_, rfl, by simp [qR, qW, h], fun n hn => (((((((zE _ _).setCell hn _).setCell hn _).setCell hn _).setCell hn _).setCell hn _).setCell hn _).setCell hn _, fun k hk => by simp [qR, Ne.symm hk], by simp⟩
theorem zBg {α : Type} {t : TypeId} {k : Nat} {enc : α → List Value} (hk : ∀ x, (enc x).length = k) {w : World} {S : Nat → Prop} {b : Nat} (xs : List α) (h : w.heap[b]? = some (.cells (xs.map enc).flatten.toArray t)) (hS : S b) (hm : xs.length ≤ maxLen) {u : TypeId} :
  SliceR u k (rdOf enc) false w S (.slice (some ⟨b, 0, none⟩) xs.length xs.length) xs := by
 refine ⟨_, xs.length, rfl, zC _, hm, .inr ⟨b, 0, rfl, hS, (zL.1 h).1, fun h => kN, fun i x hx => ⟨enc x, hk x, rfl, fun j u hu => ?_⟩⟩⟩;rw [jR h, Nat.zero_add, List.getElem?_toArray];exact zBP (xs.map enc) i (enc x) j u (by simp; intro a _; exact hk a) (by rw [List.getElem?_map, hx]; rfl) hu
set_option maxRecDepth 100000 in
theorem zGv (v : Value) (s : St) (t : Int) (w : World) (S : Nat → Prop) (h : jE w S v s.lines) (he : EnvT w) (hs : Small s.lines) (hf : Fits s.lines) :
  Calls zV 123 #[stV v s, .int .i64 t] w (StSaid (vK s t) w) := by
 obtain ⟨W1, hW1, hB, hz, k0, k1, k2⟩ := zCU w v s (.int .i64 t) 3;have HB : Hid (∀ W, Below W1.heap.size W1 W → W.heap[w.heap.size]? = some (.cells #[v, .int .i64 s.anc.line, .int .i64 s.anc.col, .int .i64 s.foc.line, .int .i64 s.foc.col, .int .i64 s.on, .int .i64 s.off] 26) ∧ W.heap[w.heap.size + 1]? = some (.cells #[.int .i64 t] 3) ∧ W.heap[w.heap.size + 2]? = some (.cells #[.slice none 0 0, .int .i64 0, .int .i64 0, .int .i64 0, .int .i64 0, .int .i64 0, .int .i64 0] 26)) := zA fun W hW => ⟨zX hW k0, zX hW k1, zX hW k2⟩;have hs1 := hB.size;have H1 := zA hB;have hw0 : Below W1.heap.size W1 W1 := zE _ _;have HV : Hid (∀ W, Below W1.heap.size W1 W → jE W S v s.lines) := zA fun W hW => h.below (zZ _) (hB.trans (hW.mono hs1));have HE : Hid (∀ W, Below W1.heap.size W1 W → EnvT W) := zA fun W hW => (he.below hB).below hW;have HM : Hid (∀ W, Below W1.heap.size W1 W → Calls zV 27 #[stV v s] W fun e w' => e = .returned (.bool (mayS s)) ∧ Below W.heap.size W w') := zA fun W hW => vQ v s W S (HV.out W hW) (HE.out W hW) hs;have HO : Hid (∀ W, Below W1.heap.size W1 W → Calls zV 50 #[stV v s] W fun e w' => e = .returned (.bool (!decide (s.anc = s.foc))) ∧ Below W.heap.size W w') := zA fun W hW => zBJ v s W;have HBi : Hid (∀ W, Below W1.heap.size W1 W → Calls zV 43 #[stV v s] W fun e w' => e = .returned (.int .i64 (vF s)) ∧ Below W.heap.size W w') := zA fun W hW => zHA v s W S (HV.out W hW) (HE.out W hW) hs hf;have HOw : Hid (∀ W, Below W1.heap.size W1 W → Calls zV 182 #[stV v s] W fun e w' => ∃ v', e = .returned (stV v' s) ∧ DocR true w' (fun b => W.heap.size ≤ b) v' s.lines ∧ Below W.heap.size W w') := zA fun W hW => zET v s W S (HV.out W hW) hf
 have HCh : Hid (mayS s = true → ∀ W, Below W1.heap.size W1 W → Calls zV 124 #[stV v s, .func (.func 183) #[] #[.pointer (some ⟨w.heap.size + 1, 0, none⟩)]] W (StSaid (zAo s (togD s t)) W)) := zA fun hm W hW => by
  have := zBA v s 183 #[.pointer (some ⟨w.heap.size + 1, 0, none⟩)] (togD s t) W S (HV.out W hW) (HE.out W hW) hs (enters_of Tryz.func183 zT rfl)
   (fun _ X hX => zGh (w.heap.size + 1) v s.lines (qU s).1 (qU s).2 t X S (HV.out X (zW hW hX)) (HE.out X (zW hW hX)) hs hf (HB.out X (zW hW hX)).2.1)
  unfold yA at this;rw [if_pos hm] at this;exact this
 have HT : Hid (∀ W : World, Calls zV 180 #[] W fun e w' => e = .returned (.agg #[.int .i64 1, .int .i64 2, .int .i64 4, .int .i64 8]) ∧ Below W.heap.size W w') := zA fun W => by
  go_enter Tryz.func180, Tryz.ntmps180;go_wp2_with fail;refine zM (results_cell_row rfl _ _ W.heap.size _ _ _ _ rfl (qF _ _ rfl) Tryz.underlying189 rfl zT) rfl ?_;exact ⟨rfl, by ((with_reducible repeat' first | exact zE _ _ | assumption | refine zG ?_ ?_ _ | refine zH ?_ | refine qQ ?_ | refine zF ?_ ?_ _) <;> go_size)⟩
 have HR : Hid (vK s t = if mayS s = true ∧ four t = true then (if s.anc = s.foc then (togC s t, 0) else zAo s (togD s t)) else (noS, 1)) := zA rfl;have HTC : Hid (togC s t = ⟨s.lines, s.anc, s.foc, bits .or .i64 (bits .andNot .i64 s.on t) (bits .andNot .i64 t (vF s)), bits .or .i64 (bits .andNot .i64 s.off t) (bits .andNot .i64 t (bits .andNot .i64 t (vF s)))⟩) := zA rfl;obtain ⟨va, vc, rfl⟩ := h.slice;clear h he hs hf hB;obtain ⟨w2, hw2⟩ : ∃ w2, W1 = w2 := ⟨_, rfl⟩;cases hm : mayS s
 ·rw [hm] at HM HR
  have HR2 : Hid (vK s t = (noS, 1)) := zA (HR.out.trans (if_neg qE));obtain ⟨p0, f0⟩ := blk k0;clear HR HCh hm k0 k1 k2 hw2;go_enter Tryz.func123, Tryz.ntmps123;go_wp2_with (go_at_call 180; refine (HT.out _).mono ?_; rintro e w2 ⟨rfl, hst2⟩);have hb2 := zW hw0 hst2;obtain ⟨w3, hw3⟩ : ∃ w3, w2.alloc (.cells #[.int .i64 1, .int .i64 2, .int .i64 4, .int .i64 8] 189) = w3 := ⟨_, rfl⟩;rw [hw3];have hb23 : Below w2.heap.size w2 w3 := hw3 ▸ yG (zE _ _) _;have n3 : w3.heap[w2.heap.size]? = some (.cells #[.int .i64 1, .int .i64 2, .int .i64 4, .int .i64 8] 189) := hw3 ▸ qF _ _ rfl;have hb3 := zW hb2 hb23
  have HCt : Hid (∀ W, Below w3.heap.size w3 W → Calls zV 181 #[.slice (some ⟨w2.heap.size, 0, none⟩) 4 4, .int .i64 t] W fun e w' => e = .returned (.bool (four t)) ∧ Below W.heap.size W w') := zA fun W hW => by
   have := zBy _ [1, 2, 4, 8] t W (fun _ => True) (zBg (enc := yX) (fun _ => rfl) [1, 2, 4, 8] (zX hW n3) trivial qV);rw [zBW] at this;exact this.mono fun _ _ ⟨h1, h2⟩ => ⟨h1, h2 ▸ zE _ _⟩
  clear hw3 n3 p0 f0;refine kX w3.heap.size zT zT ?_;refine zI zT (fun K hK => ?_);refine qK ?_ (fun W hW => ?_) (hK _ ?_);rotate_left 1
  ·skip
   obtain ⟨p0, f0⟩ := blk (HB.out _ (zW hb3 hW)).1;obtain ⟨p1, f1⟩ := blk (HB.out _ (zW hb3 hW)).2.1;go_simp
   try rfl
  clear hK;clear K;try simp only [zU, qI, qX, qY]
  refine zI zT (fun K hK => ?_);refine qL (f := ?_) (args := ?_) ?_ (fun W hW => ?_) (fun W hW => ?_) (hK _ ?_);rotate_left 3
  ·go_simp
   constructor <;> rfl
  ·refine (HM.out _ (zW hb3 hW)).mono ?_
   rintro e W2 ⟨rfl, hbW⟩;refine ⟨?_, zW hW hbW⟩
   rfl
  clear hK;clear K;try simp only [zU, qI, qX, qY]
  refine zI zT (fun K hK => ?_);refine qK ?_ (fun W hW => ?_) (hK _ ?_);rotate_left 1
  ·skip
   go_simp
   try rfl
  clear hK;clear K;try simp only [zU, qI, qX, qY]
  refine zI zT (fun K hK => ?_);refine qK ?_ (fun W hW => ?_) (hK _ ?_);rotate_left 1
  ·skip
   go_simp
   try rfl
  clear hK;clear K;try simp only [zU, qI, qX, qY]
  refine zJ zT ?_;try simp only [zU, qI, qX, qY]
  refine zJ zT ?_;try simp only [zU, qI, qX, qY]
  refine zJ zT ?_;try simp only [zU, qI, qX, qY]
  refine zJ zT ?_;try simp only [zU, qI, qX, qY]
  refine zI zT (fun K hK => ?_);refine qK ?_ (fun W hW => ?_) (hK _ ?_);rotate_left 1
  ·skip
   go_simp
   try rfl
  clear hK;clear K;try simp only [zU, qI, qX, qY]
  refine zI zT (fun K hK => ?_);refine qK ?_ (fun W hW => ?_) (hK _ ?_);rotate_left 1
  ·skip
   go_simp
   try rfl
  clear hK;clear K;try simp only [zU, qI, qX, qY]
  refine wpQuiet_nil (fun X6 hstX6 => ?_);have hcX6 := zW hb3 hstX6;obtain ⟨p2, f2⟩ := blk (HB.out _ hcX6).2.2;go_wp2_with fail;refine zM (jQ rfl _ _ (w.heap.size + 2) (.slice none 0 0) (.int .i64 0) (.int .i64 0) (.int .i64 0) (.int .i64 0) (.int .i64 0) (.int .i64 0) (.int .i64 1) rfl rfl (by simp [qR, qW, (HB.out _ hcX6).2.2])) rfl ?_;unfold StSaid;rw [HR2.out];have hfin := H1.out.trans (hcX6.mono hs1);exact ⟨_, rfl, SliceR.nil _ _ _ _ _ _, by ((with_reducible repeat' first | exact zE _ _ | assumption | refine zG ?_ ?_ _ | refine zH ?_ | refine qQ ?_ | refine zF ?_ ?_ _) <;> go_size)⟩
 ·have HCh2 := zA (HCh.out hm)
  rw [hm] at HM HR;clear HCh hm hw2;cases hfo : four t
  ·rw [hfo] at HR
   have HF := zA hfo;have HR2 : Hid (vK s t = (noS, 1)) := zA (HR.out.trans (if_neg qE));obtain ⟨p0, f0⟩ := blk k0;clear HR HCh2 hfo k0 k1 k2;go_enter Tryz.func123, Tryz.ntmps123;go_wp2_with (go_at_call 180; refine (HT.out _).mono ?_; rintro e w2 ⟨rfl, hst2⟩);have hb2 := zW hw0 hst2;obtain ⟨w3, hw3⟩ : ∃ w3, w2.alloc (.cells #[.int .i64 1, .int .i64 2, .int .i64 4, .int .i64 8] 189) = w3 := ⟨_, rfl⟩;rw [hw3];have hb23 : Below w2.heap.size w2 w3 := hw3 ▸ yG (zE _ _) _;have n3 : w3.heap[w2.heap.size]? = some (.cells #[.int .i64 1, .int .i64 2, .int .i64 4, .int .i64 8] 189) := hw3 ▸ qF _ _ rfl;have hb3 := zW hb2 hb23
   have HCt : Hid (∀ W, Below w3.heap.size w3 W → Calls zV 181 #[.slice (some ⟨w2.heap.size, 0, none⟩) 4 4, .int .i64 t] W fun e w' => e = .returned (.bool (four t)) ∧ Below W.heap.size W w') := zA fun W hW => by
    have := zBy _ [1, 2, 4, 8] t W (fun _ => True) (zBg (enc := yX) (fun _ => rfl) [1, 2, 4, 8] (zX hW n3) trivial qV);rw [zBW] at this;exact this.mono fun _ _ ⟨h1, h2⟩ => ⟨h1, h2 ▸ zE _ _⟩
   clear hw3 n3 p0 f0;rw [HF.out] at HCt;refine kX w3.heap.size zT zT ?_;refine zI zT (fun K hK => ?_);refine qK ?_ (fun W hW => ?_) (hK _ ?_);rotate_left 1
   ·skip
    obtain ⟨p0, f0⟩ := blk (HB.out _ (zW hb3 hW)).1;obtain ⟨p1, f1⟩ := blk (HB.out _ (zW hb3 hW)).2.1;go_simp
    try rfl
   clear hK;clear K;try simp only [zU, qI, qX, qY]
   refine zI zT (fun K hK => ?_);refine qL (f := ?_) (args := ?_) ?_ (fun W hW => ?_) (fun W hW => ?_) (hK _ ?_);rotate_left 3
   ·go_simp
    constructor <;> rfl
   ·refine (HM.out _ (zW hb3 hW)).mono ?_
    rintro e W2 ⟨rfl, hbW⟩;refine ⟨?_, zW hW hbW⟩
    rfl
   clear hK;clear K;try simp only [zU, qI, qX, qY]
   refine zI zT (fun K hK => ?_);refine qK ?_ (fun W hW => ?_) (hK _ ?_);rotate_left 1
   ·skip
    go_simp
    try rfl
   clear hK;clear K;try simp only [zU, qI, qX, qY]
   refine zI zT (fun K hK => ?_);refine qK ?_ (fun W hW => ?_) (hK _ ?_);rotate_left 1
   ·skip
    go_simp
    try rfl
   clear hK;clear K;try simp only [zU, qI, qX, qY]
   refine zI zT (fun K hK => ?_);refine qK ?_ (fun W hW => ?_) (hK _ ?_);rotate_left 1
   ·skip
    go_simp
    try rfl
   clear hK;clear K;try simp only [zU, qI, qX, qY]
   refine zI zT (fun K hK => ?_);refine qK ?_ (fun W hW => ?_) (hK _ ?_);rotate_left 1
   ·skip
    obtain ⟨p0, f0⟩ := blk (HB.out _ (zW hb3 hW)).1;obtain ⟨p1, f1⟩ := blk (HB.out _ (zW hb3 hW)).2.1;go_simp
    try rfl
   clear hK;clear K;try simp only [zU, qI, qX, qY]
   refine zI zT (fun K hK => ?_);refine qL (f := ?_) (args := ?_) ?_ (fun W hW => ?_) (fun W hW => ?_) (hK _ ?_);rotate_left 3
   ·go_simp
    constructor <;> rfl
   ·refine (HCt.out _ hW).mono ?_
    rintro e W2 ⟨rfl, hbW⟩;refine ⟨?_, zW hW hbW⟩
    rfl
   clear hK;clear K;try simp only [zU, qI, qX, qY]
   refine zI zT (fun K hK => ?_);refine qK ?_ (fun W hW => ?_) (hK _ ?_);rotate_left 1
   ·skip
    go_simp
    try rfl
   clear hK;clear K;try simp only [zU, qI, qX, qY]
   refine zI zT (fun K hK => ?_);refine qK ?_ (fun W hW => ?_) (hK _ ?_);rotate_left 1
   ·skip
    go_simp
    try rfl
   clear hK;clear K;try simp only [zU, qI, qX, qY]
   refine zI zT (fun K hK => ?_);refine qK ?_ (fun W hW => ?_) (hK _ ?_);rotate_left 1
   ·skip
    go_simp
    try rfl
   clear hK;clear K;try simp only [zU, qI, qX, qY]
   refine wpQuiet_nil (fun X6 hstX6 => ?_);have hcX6 := zW hb3 hstX6;obtain ⟨p2, f2⟩ := blk (HB.out _ hcX6).2.2;go_wp2_with fail;refine zM (jQ rfl _ _ (w.heap.size + 2) (.slice none 0 0) (.int .i64 0) (.int .i64 0) (.int .i64 0) (.int .i64 0) (.int .i64 0) (.int .i64 0) (.int .i64 1) rfl rfl (by simp [qR, qW, (HB.out _ hcX6).2.2])) rfl ?_;unfold StSaid;rw [HR2.out];have hfin := H1.out.trans (hcX6.mono hs1);exact ⟨_, rfl, SliceR.nil _ _ _ _ _ _, by ((with_reducible repeat' first | exact zE _ _ | assumption | refine zG ?_ ?_ _ | refine zH ?_ | refine qQ ?_ | refine zF ?_ ?_ _) <;> go_size)⟩
  ·rw [hfo] at HR
   have HF := zA hfo;rw [if_pos ⟨rfl, rfl⟩] at HR
   by_cases hc : s.anc = s.foc
   ·have HR2 : Hid (vK s t = (togC s t, 0)) := zA (HR.out.trans (if_pos hc))
    rw [decide_eq_true hc] at HO;obtain ⟨p0, f0⟩ := blk k0;obtain ⟨r, hr⟩ : ∃ r, vF s = r := ⟨_, rfl⟩;rw [hr] at HBi HTC;clear HR HCh2 hfo hc hr k0 k1 k2;go_enter Tryz.func123, Tryz.ntmps123;go_wp2_with (go_at_call 180; refine (HT.out _).mono ?_; rintro e w2 ⟨rfl, hst2⟩);have hb2 := zW hw0 hst2;obtain ⟨w3, hw3⟩ : ∃ w3, w2.alloc (.cells #[.int .i64 1, .int .i64 2, .int .i64 4, .int .i64 8] 189) = w3 := ⟨_, rfl⟩;rw [hw3];have hb23 : Below w2.heap.size w2 w3 := hw3 ▸ yG (zE _ _) _;have n3 : w3.heap[w2.heap.size]? = some (.cells #[.int .i64 1, .int .i64 2, .int .i64 4, .int .i64 8] 189) := hw3 ▸ qF _ _ rfl;have hb3 := zW hb2 hb23
    have HCt : Hid (∀ W, Below w3.heap.size w3 W → Calls zV 181 #[.slice (some ⟨w2.heap.size, 0, none⟩) 4 4, .int .i64 t] W fun e w' => e = .returned (.bool (four t)) ∧ Below W.heap.size W w') := zA fun W hW => by
     have := zBy _ [1, 2, 4, 8] t W (fun _ => True) (zBg (enc := yX) (fun _ => rfl) [1, 2, 4, 8] (zX hW n3) trivial qV);rw [zBW] at this;exact this.mono fun _ _ ⟨h1, h2⟩ => ⟨h1, h2 ▸ zE _ _⟩
    clear hw3 n3 p0 f0;rw [HF.out] at HCt;refine kX w3.heap.size zT zT ?_;refine zI zT (fun K hK => ?_);refine qK ?_ (fun W hW => ?_) (hK _ ?_);rotate_left 1
    ·skip
     obtain ⟨p0, f0⟩ := blk (HB.out _ (zW hb3 hW)).1;obtain ⟨p1, f1⟩ := blk (HB.out _ (zW hb3 hW)).2.1;go_simp
     try rfl
    clear hK;clear K;try simp only [zU, qI, qX, qY]
    refine zI zT (fun K hK => ?_);refine qL (f := ?_) (args := ?_) ?_ (fun W hW => ?_) (fun W hW => ?_) (hK _ ?_);rotate_left 3
    ·go_simp
     constructor <;> rfl
    ·refine (HM.out _ (zW hb3 hW)).mono ?_
     rintro e W2 ⟨rfl, hbW⟩;refine ⟨?_, zW hW hbW⟩
     rfl
    clear hK;clear K;try simp only [zU, qI, qX, qY]
    refine zI zT (fun K hK => ?_);refine qK ?_ (fun W hW => ?_) (hK _ ?_);rotate_left 1
    ·skip
     go_simp
     try rfl
    clear hK;clear K;try simp only [zU, qI, qX, qY]
    refine zI zT (fun K hK => ?_);refine qK ?_ (fun W hW => ?_) (hK _ ?_);rotate_left 1
    ·skip
     go_simp
     try rfl
    clear hK;clear K;try simp only [zU, qI, qX, qY]
    refine zI zT (fun K hK => ?_);refine qK ?_ (fun W hW => ?_) (hK _ ?_);rotate_left 1
    ·skip
     go_simp
     try rfl
    clear hK;clear K;try simp only [zU, qI, qX, qY]
    refine zI zT (fun K hK => ?_);refine qK ?_ (fun W hW => ?_) (hK _ ?_);rotate_left 1
    ·skip
     obtain ⟨p0, f0⟩ := blk (HB.out _ (zW hb3 hW)).1;obtain ⟨p1, f1⟩ := blk (HB.out _ (zW hb3 hW)).2.1;go_simp
     try rfl
    clear hK;clear K;try simp only [zU, qI, qX, qY]
    refine zI zT (fun K hK => ?_);refine qL (f := ?_) (args := ?_) ?_ (fun W hW => ?_) (fun W hW => ?_) (hK _ ?_);rotate_left 3
    ·go_simp
     constructor <;> rfl
    ·refine (HCt.out _ hW).mono ?_
     rintro e W2 ⟨rfl, hbW⟩;refine ⟨?_, zW hW hbW⟩
     rfl
    clear hK;clear K;try simp only [zU, qI, qX, qY]
    refine zI zT (fun K hK => ?_);refine qK ?_ (fun W hW => ?_) (hK _ ?_);rotate_left 1
    ·skip
     go_simp
     try rfl
    clear hK;clear K;try simp only [zU, qI, qX, qY]
    refine zI zT (fun K hK => ?_);refine qK ?_ (fun W hW => ?_) (hK _ ?_);rotate_left 1
    ·skip
     go_simp
     try rfl
    clear hK;clear K;try simp only [zU, qI, qX, qY]
    refine zI zT (fun K hK => ?_);refine qK ?_ (fun W hW => ?_) (hK _ ?_);rotate_left 1
    ·skip
     go_simp
     try rfl
    clear hK;clear K;try simp only [zU, qI, qX, qY]
    refine wpQuiet_nil (fun X6 hstX6 => ?_);have hcX6 := zW hb3 hstX6;obtain ⟨p0, f0⟩ := blk (HB.out _ hcX6).1;go_wp2_with (go_at_call 50; refine (HO.out _ hcX6).mono ?_; rintro e w7 ⟨rfl, hst7⟩; have hb7 := zW hcX6 hst7; skip);clear p0 f0;refine kX w7.heap.size zT zT ?_;refine zI zT (fun K hK => ?_);refine qK ?_ (fun W hW => ?_) (hK _ ?_);rotate_left 1
    ·skip
     obtain ⟨p0, f0⟩ := blk (HB.out _ (zW hb7 hW)).1;obtain ⟨p1, f1⟩ := blk (HB.out _ (zW hb7 hW)).2.1;go_simp
     try rfl
    clear hK;clear K;try simp only [zU, qI, qX, qY]
    refine zI zT (fun K hK => ?_);refine qK ?_ (fun W hW => ?_) (hK _ ?_);rotate_left 1
    ·skip
     obtain ⟨p0, f0⟩ := blk (HB.out _ (zW hb7 hW)).1;obtain ⟨p1, f1⟩ := blk (HB.out _ (zW hb7 hW)).2.1;go_simp
     try rfl
    clear hK;clear K;try simp only [zU, qI, qX, qY]
    refine zI zT (fun K hK => ?_);refine qL (f := ?_) (args := ?_) ?_ (fun W hW => ?_) (fun W hW => ?_) (hK _ ?_);rotate_left 3
    ·go_simp
     constructor <;> rfl
    ·refine (HBi.out _ (zW hb7 hW)).mono ?_
     rintro e W2 ⟨rfl, hbW⟩;refine ⟨?_, zW hW hbW⟩
     rfl
    clear hK;clear K;try simp only [zU, qI, qX, qY]
    refine zI zT (fun K hK => ?_);refine qK ?_ (fun W hW => ?_) (hK _ ?_);rotate_left 1
    ·skip
     go_simp
     try rfl
    clear hK;clear K;try simp only [zU, qI, qX, qY]
    refine zI zT (fun K hK => ?_);refine qK ?_ (fun W hW => ?_) (hK _ ?_);rotate_left 1
    ·skip
     go_simp
     try rfl
    clear hK;clear K;try simp only [zU, qI, qX, qY]
    refine wpQuiet_nil (fun X8 hstX8 => ?_);have hcX8 := zW hb7 hstX8;obtain ⟨p0, f0⟩ := blk (HB.out _ hcX8).1;go_wp2_with (go_at_call 182; refine (HOw.out _ hcX8).mono ?_; rintro e w9 ⟨v9, rfl, hv9, hst9⟩; obtain ⟨a9, c9, rfl⟩ := hv9.slice; have hb9 := zW hcX8 hst9; have HV9 := zA hv9; clear hv9; obtain ⟨q0, g0⟩ := blk (HB.out _ hb9).1);obtain ⟨w10, hw10, n10, b10, o10, z10⟩ := zLb w9 w.heap.size (HB.out _ hb9).1 (.slice a9 s.lines.length c9) (.int .i64 s.anc.line) (.int .i64 s.anc.col) (.int .i64 s.foc.line) (.int .i64 s.foc.col) (.int .i64 s.on) (.int .i64 s.off);rw [hw10];have HX10 := zA (zB n10 (zB ((o10 (w.heap.size + 1) qC).trans (HB.out _ hb9).2.1) (zB ((o10 (w.heap.size + 2) qC).trans (HB.out _ hb9).2.2) (zB b10 (zB o10 z10)))));clear hw10 q0 g0 n10 b10 o10 z10 p0 f0;obtain ⟨p0, f0⟩ := blk HX10.out.1;obtain ⟨p1, f1⟩ := blk HX10.out.2.1;obtain ⟨p2, f2⟩ := blk HX10.out.2.2.1;go_region;go_wp2_with fail;refine zM (jQ rfl _ _ (w.heap.size + 2) (.slice a9 s.lines.length c9) (.int .i64 s.anc.line) (.int .i64 s.anc.col) (.int .i64 s.foc.line) (.int .i64 s.foc.col) (.int .i64 (bits .or .i64 (bits .andNot .i64 s.on t) (bits .andNot .i64 t r))) (.int .i64 (bits .or .i64 (bits .andNot .i64 s.off t) (bits .andNot .i64 t (bits .andNot .i64 t r)))) (.int .i64 0) rfl rfl (by rw [xD]; simp [qR, qW, HX10.out.2.2.1])) rfl ?_;unfold StSaid;rw [HR2.out, HTC.out];have hb10 : Below w.heap.size w w10 := (H1.out.trans (hb9.mono hs1)).trans (HX10.out.2.2.2.1 _ (zC _));have hv10 : DocR true w10 (fun b => w.heap.size + 3 ≤ b) (.slice a9 s.lines.length c9) s.lines := qG (zZ true) HV9.out ⟨Nat.le_of_eq HX10.out.2.2.2.2.2.symm, fun b hb _ => HX10.out.2.2.2.2.1 b (fun e => by have hb : X8.heap.size ≤ b := hb; have := hcX8.size; omega)⟩ (fun b hb _ => by have hb : X8.heap.size ≤ b := hb; have := hcX8.size; show w.heap.size + 3 ≤ b; omega);exact ⟨_, rfl, (qG (zZ _) hv10 zDp (fun b h _ => jJ)), by ((with_reducible repeat' first | exact zE _ _ | assumption | refine zG ?_ ?_ _ | refine zH ?_ | refine qQ ?_ | refine zF ?_ ?_ _) <;> go_size)⟩
   ·have HR2 : Hid (vK s t = zAo s (togD s t)) := zA (HR.out.trans (if_neg hc))
    rw [decide_eq_false hc] at HO;obtain ⟨X, hX⟩ : ∃ X, zAo s (togD s t) = X := ⟨_, rfl⟩;rw [hX] at HCh2 HR2;obtain ⟨p0, f0⟩ := blk k0;clear HR hfo hc hX k0 k1 k2;go_enter Tryz.func123, Tryz.ntmps123;go_wp2_with (go_at_call 180; refine (HT.out _).mono ?_; rintro e w2 ⟨rfl, hst2⟩);have hb2 := zW hw0 hst2;obtain ⟨w3, hw3⟩ : ∃ w3, w2.alloc (.cells #[.int .i64 1, .int .i64 2, .int .i64 4, .int .i64 8] 189) = w3 := ⟨_, rfl⟩;rw [hw3];have hb23 : Below w2.heap.size w2 w3 := hw3 ▸ yG (zE _ _) _;have n3 : w3.heap[w2.heap.size]? = some (.cells #[.int .i64 1, .int .i64 2, .int .i64 4, .int .i64 8] 189) := hw3 ▸ qF _ _ rfl;have hb3 := zW hb2 hb23
    have HCt : Hid (∀ W, Below w3.heap.size w3 W → Calls zV 181 #[.slice (some ⟨w2.heap.size, 0, none⟩) 4 4, .int .i64 t] W fun e w' => e = .returned (.bool (four t)) ∧ Below W.heap.size W w') := zA fun W hW => by
     have := zBy _ [1, 2, 4, 8] t W (fun _ => True) (zBg (enc := yX) (fun _ => rfl) [1, 2, 4, 8] (zX hW n3) trivial qV);rw [zBW] at this;exact this.mono fun _ _ ⟨h1, h2⟩ => ⟨h1, h2 ▸ zE _ _⟩
    clear hw3 n3 p0 f0;rw [HF.out] at HCt;refine kX w3.heap.size zT zT ?_;refine zI zT (fun K hK => ?_);refine qK ?_ (fun W hW => ?_) (hK _ ?_);rotate_left 1
    ·skip
     obtain ⟨p0, f0⟩ := blk (HB.out _ (zW hb3 hW)).1;obtain ⟨p1, f1⟩ := blk (HB.out _ (zW hb3 hW)).2.1;go_simp
     try rfl
    clear hK;clear K;try simp only [zU, qI, qX, qY]
    refine zI zT (fun K hK => ?_);refine qL (f := ?_) (args := ?_) ?_ (fun W hW => ?_) (fun W hW => ?_) (hK _ ?_);rotate_left 3
    ·go_simp
     constructor <;> rfl
    ·refine (HM.out _ (zW hb3 hW)).mono ?_
     rintro e W2 ⟨rfl, hbW⟩;refine ⟨?_, zW hW hbW⟩
     rfl
    clear hK;clear K;try simp only [zU, qI, qX, qY]
    refine zI zT (fun K hK => ?_);refine qK ?_ (fun W hW => ?_) (hK _ ?_);rotate_left 1
    ·skip
     go_simp
     try rfl
    clear hK;clear K;try simp only [zU, qI, qX, qY]
    refine zI zT (fun K hK => ?_);refine qK ?_ (fun W hW => ?_) (hK _ ?_);rotate_left 1
    ·skip
     go_simp
     try rfl
    clear hK;clear K;try simp only [zU, qI, qX, qY]
    refine zI zT (fun K hK => ?_);refine qK ?_ (fun W hW => ?_) (hK _ ?_);rotate_left 1
    ·skip
     go_simp
     try rfl
    clear hK;clear K;try simp only [zU, qI, qX, qY]
    refine zI zT (fun K hK => ?_);refine qK ?_ (fun W hW => ?_) (hK _ ?_);rotate_left 1
    ·skip
     obtain ⟨p0, f0⟩ := blk (HB.out _ (zW hb3 hW)).1;obtain ⟨p1, f1⟩ := blk (HB.out _ (zW hb3 hW)).2.1;go_simp
     try rfl
    clear hK;clear K;try simp only [zU, qI, qX, qY]
    refine zI zT (fun K hK => ?_);refine qL (f := ?_) (args := ?_) ?_ (fun W hW => ?_) (fun W hW => ?_) (hK _ ?_);rotate_left 3
    ·go_simp
     constructor <;> rfl
    ·refine (HCt.out _ hW).mono ?_
     rintro e W2 ⟨rfl, hbW⟩;refine ⟨?_, zW hW hbW⟩
     rfl
    clear hK;clear K;try simp only [zU, qI, qX, qY]
    refine zI zT (fun K hK => ?_);refine qK ?_ (fun W hW => ?_) (hK _ ?_);rotate_left 1
    ·skip
     go_simp
     try rfl
    clear hK;clear K;try simp only [zU, qI, qX, qY]
    refine zI zT (fun K hK => ?_);refine qK ?_ (fun W hW => ?_) (hK _ ?_);rotate_left 1
    ·skip
     go_simp
     try rfl
    clear hK;clear K;try simp only [zU, qI, qX, qY]
    refine zI zT (fun K hK => ?_);refine qK ?_ (fun W hW => ?_) (hK _ ?_);rotate_left 1
    ·skip
     go_simp
     try rfl
    clear hK;clear K;try simp only [zU, qI, qX, qY]
    refine wpQuiet_nil (fun X6 hstX6 => ?_);have hcX6 := zW hb3 hstX6;obtain ⟨p0, f0⟩ := blk (HB.out _ hcX6).1
    go_wp2_with (first
     | (go_at_call 50; refine (HO.out _ hcX6).mono ?_; rintro e w7 ⟨rfl, hst7⟩; have hb7 := zW hcX6 hst7; obtain ⟨q0, g0⟩ := blk (HB.out _ hb7).1)
     | (go_at_call 124; refine (HCh2.out _ hb7).mono ?_; intro e w8 hsaid; obtain ⟨v8, rfl, hv8, hst8⟩ := hsaid; obtain ⟨a8, c8, rfl⟩ := hv8.slice; have hb8 := zW hb7 hst8; have HV8 := zA hv8; clear hv8; obtain ⟨q2, g2⟩ := blk (HB.out _ hb8).2.2))
    refine zM (jQ rfl _ _ (w.heap.size + 2) (.slice a8 X.1.lines.length c8) (.int .i64 X.1.anc.line) (.int .i64 X.1.anc.col) (.int .i64 X.1.foc.line) (.int .i64 X.1.foc.col) (.int .i64 X.1.on) (.int .i64 X.1.off) (.int .i64 X.2) rfl rfl (by simp [qR, qW, (HB.out _ hb8).2.2])) rfl ?_;unfold StSaid;rw [HR2.out];have hfin := H1.out.trans (hb8.mono hs1);have hv8 := HV8.out;have hz7 := hb7.size;exact ⟨_, rfl, (qG (zZ _) hv8 jM (fun b h _ => jJ)), by ((with_reducible repeat' first | exact zE _ _ | assumption | refine zG ?_ ?_ _ | refine zH ?_ | refine qQ ?_ | refine zF ?_ ?_ _) <;> go_size)⟩
theorem zDJ {fn : Func} {p u : Tmp} (h : fn.results = #[.cell p 22, .cell u 48]) (tmps : Array Value) (w : World) (a b : Addr) (x : Value) (y : Int) (hx : ∃ c n k, x = .slice c n k) (hp : tmps.getD p undef = .pointer (some a)) (hu : tmps.getD u undef = .pointer (some b)) (h1 : w.cell? a = some x) (h2 : w.cell? b = some (.int .i64 y)) :
  (results fn tmps).run zV w = .ok (.tuple #[x, .int .i64 y]) w := by
 obtain ⟨c, n, k, rfl⟩ := hx;simp only [results, h];simp at hp hu;simp [go_sem, hp, hu, h1, h2]
def UI (w6 : World) (pre : List Cel) (W : World) : Prop := (∀ c ∈ pre, c.href = []) ∧ Below w6.heap.size w6 W ∧ w6.heap.size ≤ W.heap.size
theorem zKU (w6 : World) : OwnFrom w6.heap.size (UI w6) := fun s X Y row ⟨h1, h2, h3⟩ hg hr => ⟨h1, ownFrom_below (zC _) (zC _) s X Y row h2 hg hr, uA _ _ s X Y row h3 hg hr⟩
def UX (R : Doc × Int) (w : World) (Z : Nat) (c : Code) (pre : List Cel) (W : World) : Prop :=
 c = .ret ∧ (∃ z ∈ pre, z.href ≠ []) ∧ ∃ v, W.heap[w.heap.size + 3]? = some (.cells #[v] 22) ∧ W.heap[w.heap.size + 4]? = some (.cells #[.int .i64 R.2] 48) ∧ DocR true W (fun b => Z ≤ b) v R.1 ∧ Below w.heap.size w W
theorem zKT {R : Doc × Int} {w : World} {Z B : Nat} (hB : w.heap.size ≤ B) (c : Code) : OwnFrom B (UX R w Z c) := fun s X Y row ⟨h0, h1, v, h2, h3, h4, h5⟩ hg hr =>
 ⟨h0, h1, v, kZ B _ _ _ s X Y row h2 hg hr, kZ B _ _ _ s X Y row h3 hg hr, uZ (β := Unit) B _ _ (fun _ => R.1) () X Y row h4 hg hr, ownFrom_below (zC _) hB s X Y row h5 hg hr⟩
set_option maxRecDepth 200000 in
theorem zGg (Bs : Nat) (v : Value) (s : St) (P Q : Ps) (w : World) (S : Nat → Prop) (h : jE w S v s.lines) (he : EnvT w) (hs : Small s.lines) (hf : Fits s.lines) (hm : isD s.lines s.anc = true) (hBs : w.heap[Bs]? = some (.cells #[v, .int .i64 s.anc.line, .int .i64 s.anc.col, .int .i64 s.foc.line, .int .i64 s.foc.col, .int .i64 s.on, .int .i64 s.off] 26)) :
  Calls zV 128 #[v, posV P, posV Q, .pointer (some ⟨Bs, 0, none⟩)] w (DocSaid (uV s) w) := by
 obtain ⟨W1, hW1⟩ : ∃ W1, ((((w.alloc (.cells #[v] 22)).alloc (.cells #[.int .i64 P.line, .int .i64 P.col] 24)).alloc (.cells #[.int .i64 Q.line, .int .i64 Q.col] 24)).alloc (.cells #[.slice none 0 0] 22)).alloc (.cells #[.int .i64 0] 48) = W1 := ⟨_, rfl⟩;have hB : Below w.heap.size w W1 := hW1 ▸ uI (zBq (zE _ _) _ _ _) _ _;have hz : w.heap.size + 5 = W1.heap.size := by rw [← hW1]; simp
 have k0 : W1.heap[w.heap.size]? = some (.cells #[v] 22) := hW1 ▸ zY _ _ (zY _ _ (zY _ _ (zY _ _ (qF _ _ rfl))));have k1 : W1.heap[w.heap.size + 1]? = some (.cells #[.int .i64 P.line, .int .i64 P.col] 24) := hW1 ▸ zY _ _ (zY _ _ (zY _ _ (qF _ _ qE)));have k3 : W1.heap[w.heap.size + 3]? = some (.cells #[.slice none 0 0] 22) := hW1 ▸ zY _ _ (qF _ _ qE);have k4 : W1.heap[w.heap.size + 4]? = some (.cells #[.int .i64 0] 48) := hW1 ▸ qF _ _ qE;have kS := zX hB hBs;have HB : Hid (∀ W, Below W1.heap.size W1 W → W.heap[Bs]? = some (.cells #[v, .int .i64 s.anc.line, .int .i64 s.anc.col, .int .i64 s.foc.line, .int .i64 s.foc.col, .int .i64 s.on, .int .i64 s.off] 26) ∧ W.heap[w.heap.size]? = some (.cells #[v] 22) ∧ W.heap[w.heap.size + 1]? = some (.cells #[.int .i64 P.line, .int .i64 P.col] 24) ∧ W.heap[w.heap.size + 3]? = some (.cells #[.slice none 0 0] 22) ∧ W.heap[w.heap.size + 4]? = some (.cells #[.int .i64 0] 48)) := zA fun W hW => ⟨zX hW kS, zX hW k0, zX hW k1, zX hW k3, zX hW k4⟩;have hs1 := hB.size;have hBw := (zL.1 hBs).1;have H1 := zA hB;have hw0 : Below W1.heap.size W1 W1 := zE _ _;have HV : Hid (∀ W, Below W1.heap.size W1 W → jE W S v s.lines) := zA fun W hW => h.below (zZ _) (hB.trans (hW.mono hs1));have HE : Hid (∀ W, Below W1.heap.size W1 W → EnvT W) := zA fun W hW => (he.below hB).below hW;have HR : Hid (uV s = if (cellsD s.lines (kG s).1 (kG s).2).any (fun c => decide (c.href ≠ [])) = true then vC [] s.lines (kG s).1 (kG s).2 else ([], 7)) := zA rfl;have HVF := zA (zB hs hf);have HVw := zA (zB h he);have HH : Hid (∀ W, Below W1.heap.size W1 W → Calls zV 59 #[stV v s] W fun e w' => e = .returned (.tuple #[.agg #[.int .i64 (kG s).1.line, .int .i64 (kG s).1.col], .agg #[.int .i64 (kG s).2.line, .int .i64 (kG s).2.col]]) ∧ Below W.heap.size W w') := zA fun W hW => zEb v s W S (HV.out W hW) hf hm;obtain ⟨A, B, hAB⟩ : ∃ A B, kG s = (A, B) := ⟨_, _, rfl⟩;rw [hAB] at HH HR;simp only at HH HR;have HLk : Hid (∀ W, Below W1.heap.size W1 W → Calls zV 127 #[v, posV A, posV B, .string ⟨#[]⟩] W (DocSaid (vC [] s.lines A B) W)) := zA fun W hW => zEl v s.lines A B [] W S (HV.out W hW) (HE.out W hW) hs hf qE;have HP : Hid (∀ p : Ps, posV p = .agg #[.int .i64 p.line, .int .i64 p.col]) := zA fun _ => rfl;rw [HP.out, HP.out] at HLk ⊢;have HL : Hid ((cellsD s.lines A B).length ≤ 100000) := zA (Nat.le_trans (zBc _ _ _) hs.1);obtain ⟨X, er, hX⟩ : ∃ X er, vC [] s.lines A B = (X, er) := ⟨_, _, rfl⟩;rw [hX] at HLk HR;obtain ⟨p0, f0⟩ := blk k0;obtain ⟨p1, f1⟩ := blk k3;obtain ⟨p2, f2⟩ := blk k4;obtain ⟨p3, f3⟩ := blk kS;obtain ⟨va, vc, rfl⟩ := h.slice;clear h he hs hf hm hAB hX k0 k1 k3 k4 kS hBs hB;refine (callsIn_wide (n := 6)).1 ?_;refine callsIn_of_wp_marks Tryz.func128 rfl trivial ?_ rfl;simp only [Tryz.ntmps128, List.size_toArray, List.length_cons, List.length_nil, Nat.reduceAdd, Nat.reduceSub, Array.replicate_succ, Array.replicate_zero, List.push_toArray, List.append_toArray, List.nil_append, List.cons_append];have hwf : ∀ f, Fence.wide.fn f := fun _ => trivial;have hwd : Fence.wide.depth = none := rfl
 gi_wp2_with (first
  | (gi_at_call 59; refine (callsIn_wide.2 (HH.out _ hw0)).mono ?_; rintro e w2 ⟨rfl, hst2⟩; have hb2 := zW hw0 hst2; obtain ⟨q0, g0⟩ := blk (HB.out _ hb2).2.1; have hz2 := hb2.size; have r0 := on2 (HB.out _ hb2).2.1)
  | (gi_at_call 61; refine (callsIn_wide.2 (zCE _ _ _ A B _)).mono ?_; rintro e w5 ⟨rfl, rfl⟩))
 obtain ⟨w6, hw6⟩ : ∃ w6, ((((w2.alloc (.cells #[.int .i64 A.line, .int .i64 A.col] 24)).alloc (.cells #[.int .i64 B.line, .int .i64 B.col] 24)).alloc (.cells #[.slice va s.lines.length vc] 22)).alloc (.cells #[.int .i64 A.line, .int .i64 A.col] 24)).alloc (.cells #[.int .i64 B.line, .int .i64 B.col] 24) = w6 := ⟨_, rfl⟩;rw [hw6];have hb26 : Below w2.heap.size w2 w6 := hw6 ▸ zBq (uI (zE _ _) _ _) _ _ _;have hz6 : w6.heap.size = w2.heap.size + 5 := by rw [← hw6]; simp
 have m0 : w6.heap[w2.heap.size]? = some (.cells #[.int .i64 A.line, .int .i64 A.col] 24) := hw6 ▸ zY _ _ (zY _ _ (zY _ _ (zY _ _ (qF _ _ rfl))));have m1 : w6.heap[w2.heap.size + 1]? = some (.cells #[.int .i64 B.line, .int .i64 B.col] 24) := hw6 ▸ zY _ _ (zY _ _ (zY _ _ (qF _ _ qE)));have m2 : w6.heap[w2.heap.size + 1 + 1]? = some (.cells #[.slice va s.lines.length vc] 22) := hw6 ▸ zY _ _ (zY _ _ (qF _ _ qE));have m3 : w6.heap[w2.heap.size + 1 + 1 + 1]? = some (.cells #[.int .i64 A.line, .int .i64 A.col] 24) := hw6 ▸ zY _ _ (qF _ _ qE);have m4 : w6.heap[w2.heap.size + 1 + 1 + 2]? = some (.cells #[.int .i64 B.line, .int .i64 B.col] 24) := hw6 ▸ qF _ _ qE;have hb6 := zW hb2 hb26;have hbw : Below w.heap.size w w6 := H1.out.trans (hb6.mono hs1);have N0 := zA (zB m0 (zB m1 (zB m2 (zB m3 m4))));have hUI : UI w6 [] w6 := ⟨fun _ h => kN, zE _ _, zC _⟩;clear hw6 m0 m1 m2 m3 m4 q0 g0 r0 p0 f0 p1 f1 p2 f2 p3 f3 hW1
 refine zCw rfl qC (gf := 102) (lb := #[.pointer (some ⟨w2.heap.size + 1 + 1, 0, none⟩), .pointer (some ⟨w2.heap.size + 1 + 1 + 1, 0, none⟩), .pointer (some ⟨w2.heap.size + 1 + 1 + 2, 0, none⟩)]) rfl trivial (enters_of Tryz.func102 zT rfl)
  (encs := fun c : Cel => #[celV c]) (n₀ := w.heap.size) (base := w6.heap.size) (Bs := w.heap.size + 1) (S := fun ys => ys = cellsD s.lines A B) (Sp := fun pre => pre <+: cellsD s.lines A B) (N := 200000) (w0 := w6) ?seq qC qC (zE _ _) (fun _ => rfl)
  (UI w6) (UX (X, er) w w2.heap.size) (zKU w6) (zKT qC) hUI (fun _ _ h => h.2.2)
  (fun x => #[.int .i32 x.r, .int .i64 x.bits, .string ⟨x.href.toArray⟩]) 43 ?act ?assign ?body ?done ?stop
 case seq =>
  intro l J Jx W hW hJ _ hY h0;have hzW := hW.size;have hb1 := zW hb6 hW
  exact zCF 5 l (w2.heap.size + 1 + 1) (w2.heap.size + 1 + 1 + 1) (w2.heap.size + 1 + 1 + 2) w6.heap.size (w.heap.size + 1) (.slice va s.lines.length vc) s.lines A B S J Jx w W HVw.out.1 HVw.out.2 HVF.out.1 HVF.out.2 (hbw.trans (hW.mono hbw.size)) hW.size (zX hW N0.out.2.2.1) (zX hW N0.out.2.2.2.1) (zX hW N0.out.2.2.2.2) qC
   (by unfold xJ; rw [jR (HB.out W hb1).2.2.1]; rfl) hJ hY h0
 case assign =>
  intro l pre x W K Bx hBx hI hK;unfold celV
  gi_wp2
  rw [← hBx];exact hK
 case body =>
  intro l pre x Bx W hI hBx hbx hlt;obtain ⟨hal, hb, hzW⟩ := hI;have hbW := zW hb6 hb;obtain ⟨sx, sxf⟩ := blk hbx;obtain ⟨s0, s0f⟩ := blk (HB.out _ hbW).2.1;obtain ⟨s1, s1f⟩ := blk (zX hb N0.out.1);obtain ⟨s2, s2f⟩ := blk (zX hb N0.out.2.1);have HA := zA (zB hal (zB hb (zB hzW hbW)));clear hal hb
  by_cases hx : x.href = []
  ·have HX := zA hx
   have hq : x.href.isEmpty = true := by simpa using hx
   clear hx
   gi_wp2_with fail
   exact ⟨KeepsFrom.refl _ _, Kd.of_below (by have := hbw.size; omega) qC (zE _ _), fun c hc => (by rcases List.mem_append.1 hc with h | h; exact HA.out.1 c h; rw [List.mem_singleton.1 h]; exact HX.out), HA.out.2.1, HA.out.2.2.1⟩
  ·have HX := zA hx
   have hq : x.href.isEmpty = false := by simpa using hx
   clear hx
   gi_wp2_with (gi_at_call 127; refine (callsIn_wide.2 (HLk.out _ HA.out.2.2.2)).mono ?_; intro e w7 hsaid; obtain ⟨v7, rfl, hv7, hb7⟩ := hsaid; obtain ⟨a7, c7, rfl⟩ := hv7.slice; have HV7 := zA hv7; clear hv7; have hx7 := zW HA.out.2.2.2 hb7; obtain ⟨t3, t3f⟩ := blk (HB.out _ hx7).2.2.2.1; obtain ⟨t4, t4f⟩ := blk (HB.out _ hx7).2.2.2.2)
   refine ⟨((vI hb7).from _).trans (((KeepsOthers.setCell _ _ _).trans (KeepsOthers.setCell _ _ _)).from _), rfl, ⟨x, by simp, HX.out⟩, .slice a7 X.length c7, ?_, ?_, ?_, ?_⟩
   ·rw [qR, if_neg qE, qR, if_pos rfl, (HB.out _ hx7).2.2.2.1]; rfl
   ·rw [qR, if_pos rfl, qR, if_neg qE, (HB.out _ hx7).2.2.2.2]; rfl
   ·have hv7 := HV7.out
    have hw7 := hb7.size;exact (qG (zZ _) hv7 jM (fun b h _ => jJ))
   ·exact ((H1.out.trans (hx7.mono hs1)).setCell (by show w.heap.size ≤ w.heap.size + 3; omega) _).setCell (by show w.heap.size ≤ w.heap.size + 4; omega) _
 case done =>
  rintro D ys W hD hys ⟨hal, hb, hzW⟩ hK;subst hys;have hbW := zW hb6 hb;obtain ⟨t3, t3f⟩ := blk (HB.out _ hbW).2.2.2.1;obtain ⟨t4, t4f⟩ := blk (HB.out _ hbW).2.2.2.2
  have HR : Hid (uV s = ([], 7)) := zA (HR.out.trans (if_neg (by
   rw [List.any_eq_true];rintro ⟨c, hc, hc2⟩;exact absurd (hal c hc) (by simpa using hc2))))
  have HB9 := zA hbW;have HK9 := zA hK;clear hal hb hK
  gi_wp2_with fail
  have r1 : ((W.setCell ⟨w.heap.size + 1 + 1 + 1, 0, none⟩ (.slice none 0 0)).setCell ⟨w.heap.size + 1 + 1 + 1 + 1, 0, none⟩ (.int .i64 7)).cell? ⟨w.heap.size + 1 + 1 + 1, 0, none⟩ = some (.slice none 0 0) := (kE qC).trans (xY (t3 0));have r2 : ((W.setCell ⟨w.heap.size + 1 + 1 + 1, 0, none⟩ (.slice none 0 0)).setCell ⟨w.heap.size + 1 + 1 + 1 + 1, 0, none⟩ (.int .i64 7)).cell? ⟨w.heap.size + 1 + 1 + 1 + 1, 0, none⟩ = some (.int .i64 7) := xY ((kE qC).trans (t4 0));have hK2 : ((W.setCell ⟨w.heap.size + 1 + 1 + 1, 0, none⟩ (.slice none 0 0)).setCell ⟨w.heap.size + 1 + 1 + 1 + 1, 0, none⟩ (.int .i64 7)).heap[D]? = some (.deferred (some [])) := by rw [qR, if_neg (by show ¬ w.heap.size + 1 + 1 + 1 + 1 = D; omega), qR, if_neg (by show ¬ w.heap.size + 1 + 1 + 1 = D; omega)]; exact HK9.out
  have hbE : Below w.heap.size w ((W.setCell ⟨w.heap.size + 1 + 1 + 1, 0, none⟩ (.slice none 0 0)).setCell ⟨w.heap.size + 1 + 1 + 1 + 1, 0, none⟩ (.int .i64 7)) := ((H1.out.trans (HB9.out.mono hs1)).setCell zDt _).setCell zCj _;refine ⟨by simp, .inl ⟨_, _, rfl, run_takeDeferred hK2, ?_⟩⟩;refine ⟨_, zDJ rfl _ _ ⟨w.heap.size + 1 + 1 + 1, 0, none⟩ ⟨w.heap.size + 1 + 1 + 1 + 1, 0, none⟩ (.slice none 0 0) 7 ⟨_, _, _, rfl⟩ rfl rfl ((World.cell?_of_block (World.putObj_heap_other jB)).trans r1) ((World.cell?_of_block (World.putObj_heap_other jB)).trans r2), ?_⟩;unfold DocSaid;rw [HR.out];exact ⟨_, rfl, SliceR.nil _ _ _ _ _ _, hbE.trans (belowK_b (w := w) (zC _) _ D _ _ qC hK2 rfl rfl)⟩
 case stop =>
  rintro D c pre W hD hpre ⟨rfl, ⟨z, hz1, hz2⟩, v9, h3, h4, h5, h6⟩ hK
  have HR : Hid (uV s = (X, er)) := zA (HR.out.trans (if_pos (by
   rw [List.any_eq_true];exact ⟨z, hpre.subset hz1, by simpa using hz2⟩)))
  obtain ⟨t3, t3f⟩ := blk h3;obtain ⟨t4, t4f⟩ := blk h4;obtain ⟨a9, c9, rfl⟩ := h5.slice;have HV9 := zA h5;have HB9 := zA h6;have HK9 := zA hK;clear h3 h4 h5 h6 hK hpre hz1 hz2
  gi_wp2_with fail
  refine ⟨by simp, .inl ⟨_, _, rfl, run_takeDeferred HK9.out, ?_⟩⟩;refine ⟨_, zDJ rfl _ _ ⟨w.heap.size + 1 + 1 + 1, 0, none⟩ ⟨w.heap.size + 1 + 1 + 1 + 1, 0, none⟩ (.slice a9 X.length c9) er ⟨_, _, _, rfl⟩ rfl rfl ((World.cell?_of_block (World.putObj_heap_other jB)).trans (t3 0)) ((World.cell?_of_block (World.putObj_heap_other jB)).trans (t4 0)), ?_⟩;unfold DocSaid;rw [HR.out];exact ⟨_, rfl, qG (zZ true) ((uZ (β := Unit) D _ _ (fun _ => X)).putObj (s := ()) _ HV9.out (zC _) HK9.out rfl) (qM _ _) (fun b h _ => Nat.le_trans qC h), HB9.out.trans (belowK_b (w := w) (zC _) W D _ _ qC HK9.out rfl rfl)⟩
set_option maxRecDepth 100000 in
theorem zGu (v : Value) (s : St) (w : World) (S : Nat → Prop) (h : jE w S v s.lines) (he : EnvT w) (hs : Small s.lines) (hf : Fits s.lines) :
  Calls zV 75 #[stV v s] w (StSaid (yA s (uV s)) w) := by
 obtain ⟨W1, hW1, hB, hz, k0, k2⟩ := xE w v s;have HB : Hid (∀ W, Below W1.heap.size W1 W → W.heap[w.heap.size]? = some (.cells #[v, .int .i64 s.anc.line, .int .i64 s.anc.col, .int .i64 s.foc.line, .int .i64 s.foc.col, .int .i64 s.on, .int .i64 s.off] 26) ∧ W.heap[w.heap.size + 1]? = some (.cells #[.slice none 0 0, .int .i64 0, .int .i64 0, .int .i64 0, .int .i64 0, .int .i64 0, .int .i64 0] 26)) := zA fun W hW => ⟨zX hW k0, zX hW k2⟩;have hs1 := hB.size;have H1 := zA hB
 have HC := zA (zBA v s 128 #[.pointer (some ⟨w.heap.size, 0, none⟩)] (uV s) W1 S (h.below (zZ _) hB) (he.below hB) hs (enters_of Tryz.func128 zT rfl)
  (fun hm W hW => zGg w.heap.size v s (qU s).1 (qU s).2 W S (h.below (zZ _) (hB.trans (hW.mono hs1))) ((he.below hB).below hW) hs hf (uW hm).2.1 (zX hW k0)))
 obtain ⟨X, hX⟩ : ∃ X, yA s (uV s) = X := ⟨_, rfl⟩;rw [hX] at HC ⊢;obtain ⟨p0, f0⟩ := blk k0;obtain ⟨p2, f2⟩ := blk k2;obtain ⟨va, vc, rfl⟩ := h.slice;clear h he hs hf hX k0 k2 hB;go_enter Tryz.func75, Tryz.ntmps75;go_wp2_with (go_at_call 124; refine HC.out.mono ?_; intro e w2 hsaid; obtain ⟨v2, rfl, hv2, hb2⟩ := hsaid; obtain ⟨a2, c2, rfl⟩ := hv2.slice; have HV2 := zA hv2; clear hv2; obtain ⟨q2, g2⟩ := blk (HB.out _ hb2).2);refine zM (jQ rfl _ _ (w.heap.size + 1) (.slice a2 X.1.lines.length c2) (.int .i64 X.1.anc.line) (.int .i64 X.1.anc.col) (.int .i64 X.1.foc.line) (.int .i64 X.1.foc.col) (.int .i64 X.1.on) (.int .i64 X.1.off) (.int .i64 X.2) rfl rfl yL) rfl ?_;have hfin := H1.out.trans (hb2.mono hs1);have hv2 := HV2.out;exact ⟨_, rfl, (qG (zZ _) hv2 jM (fun b h _ => jJ)), by ((with_reducible repeat' first | exact zE _ _ | assumption | refine zG ?_ ?_ _ | refine zH ?_ | refine qQ ?_ | refine zF ?_ ?_ _) <;> go_size)⟩
set_option maxRecDepth 100000 in
theorem yM (v : Value) (s : St) (a : ByteArray) (B g : Nat) (caps : Array Value) (X : St × Int) (w : World) (S : Nat → Prop) (h : jE w S v s.lines) (hB0 : w.heap[B]? = some (.cells #[.func (.func g) #[] caps] 93)) (eg : ∀ args w, (callFunc g args).run zV w = .ok (.enter g args) w)
  (hc : ∀ W, Below w.heap.size w W → Calls zV g (#[stV v s] ++ caps) W (StSaid X W)) :
  Calls zV 113 #[stV v s, .string a, .pointer (some ⟨B, 0, none⟩)] w (StSaid X w) := by
 obtain ⟨W1, hW1, hB, hz, k0, k2⟩ := xE w v s;have HB : Hid (∀ W, Below W1.heap.size W1 W → W.heap[w.heap.size]? = some (.cells #[v, .int .i64 s.anc.line, .int .i64 s.anc.col, .int .i64 s.foc.line, .int .i64 s.foc.col, .int .i64 s.on, .int .i64 s.off] 26) ∧ W.heap[w.heap.size + 1]? = some (.cells #[.slice none 0 0, .int .i64 0, .int .i64 0, .int .i64 0, .int .i64 0, .int .i64 0, .int .i64 0] 26)) := zA fun W hW => ⟨zX hW k0, zX hW k2⟩;have hs1 := hB.size;have H1 := zA hB;have HC := zA (hc W1 hB);obtain ⟨pb, fb⟩ := blk (zX hB hB0);obtain ⟨p0, f0⟩ := blk k0;obtain ⟨p1, f1⟩ := blk k2;obtain ⟨va, vc, rfl⟩ := h.slice;clear h hB k0 k2 hc hB0;go_enter Tryz.func113, Tryz.ntmps113;go_wp2_with (go_at_fn g; refine HC.out.mono ?_; rintro e w2 ⟨v2, rfl, hv2, hb2⟩; obtain ⟨a2, c2, rfl⟩ := hv2.slice; obtain ⟨q0, g0⟩ := blk (HB.out _ hb2).1; obtain ⟨q1, g1⟩ := blk (HB.out _ hb2).2; have HV := zA hv2; clear hv2);refine zM (jQ rfl _ _ (w.heap.size + 1) (.slice a2 X.1.lines.length c2) (.int .i64 X.1.anc.line) (.int .i64 X.1.anc.col) (.int .i64 X.1.foc.line) (.int .i64 X.1.foc.col) (.int .i64 X.1.on) (.int .i64 X.1.off) (.int .i64 X.2) rfl rfl yL) rfl ?_;have hfin := H1.out.trans (hb2.mono hs1);have hv2 := HV.out;exact ⟨_, rfl, (qG (zZ _) hv2 jM (fun b h _ => jJ)), by ((with_reducible repeat' first | exact zE _ _ | assumption | refine zG ?_ ?_ _ | refine zH ?_ | refine qQ ?_ | refine zF ?_ ?_ _) <;> go_size)⟩
set_option maxRecDepth 100000 in
theorem zBH (v : Value) (s : St) (b : Int) (B : Nat) (w : World) (S : Nat → Prop) (h : jE w S v s.lines) (he : EnvT w) (hs : Small s.lines) (hf : Fits s.lines) (hB0 : w.heap[B]? = some (.cells #[.int .i64 b] 3)) :
  Calls zV 122 #[stV v s, .pointer (some ⟨B, 0, none⟩)] w (StSaid (vK s b) w) := by
 obtain ⟨W1, hW1, hB, hz, k0, k2⟩ := xE w v s;have HB : Hid (∀ W, Below W1.heap.size W1 W → W.heap[w.heap.size]? = some (.cells #[v, .int .i64 s.anc.line, .int .i64 s.anc.col, .int .i64 s.foc.line, .int .i64 s.foc.col, .int .i64 s.on, .int .i64 s.off] 26) ∧ W.heap[w.heap.size + 1]? = some (.cells #[.slice none 0 0, .int .i64 0, .int .i64 0, .int .i64 0, .int .i64 0, .int .i64 0, .int .i64 0] 26)) := zA fun W hW => ⟨zX hW k0, zX hW k2⟩;have hs1 := hB.size;have H1 := zA hB;have HC := zA (zGv v s b W1 S (h.below (zZ _) hB) (he.below hB) hs hf);obtain ⟨X, hX⟩ : ∃ X, vK s b = X := ⟨_, rfl⟩;rw [hX] at HC ⊢;obtain ⟨pb, fb⟩ := blk (zX hB hB0);obtain ⟨p0, f0⟩ := blk k0;obtain ⟨p1, f1⟩ := blk k2;obtain ⟨va, vc, rfl⟩ := h.slice;clear h he hs hf hB k0 k2 hB0 hX;go_enter Tryz.func122, Tryz.ntmps122;go_wp2_with (go_at_call 123; refine HC.out.mono ?_; rintro e w2 ⟨v2, rfl, hv2, hb2⟩; obtain ⟨a2, c2, rfl⟩ := hv2.slice; obtain ⟨q0, g0⟩ := blk (HB.out _ hb2).1; obtain ⟨q1, g1⟩ := blk (HB.out _ hb2).2; have HV := zA hv2; clear hv2);refine zM (jQ rfl _ _ (w.heap.size + 1) (.slice a2 X.1.lines.length c2) (.int .i64 X.1.anc.line) (.int .i64 X.1.anc.col) (.int .i64 X.1.foc.line) (.int .i64 X.1.foc.col) (.int .i64 X.1.on) (.int .i64 X.1.off) (.int .i64 X.2) rfl rfl yL) rfl ?_;have hfin := H1.out.trans (hb2.mono hs1);have hv2 := HV.out;exact ⟨_, rfl, (qG (zZ _) hv2 jM (fun b h _ => jJ)), by ((with_reducible repeat' first | exact zE _ _ | assumption | refine zG ?_ ?_ _ | refine zH ?_ | refine qQ ?_ | refine zF ?_ ?_ _) <;> go_size)⟩
set_option maxRecDepth 100000 in
theorem zEy (v : Value) (s : St) (b : Int) (B : Nat) (w : World) (S : Nat → Prop) (h : jE w S v s.lines) (he : EnvT w) (hs : Small s.lines) (hf : Fits s.lines) (hB0 : w.heap[B]? = some (.cells #[.int .i64 b] 3)) :
  Calls zV 136 #[stV v s, .pointer (some ⟨B, 0, none⟩)] w (StSaid (uL b s) w) := by
 obtain ⟨W1, hW1, hB, hz, k0, k2⟩ := xE w v s;have HB : Hid (∀ W, Below W1.heap.size W1 W → W.heap[w.heap.size]? = some (.cells #[v, .int .i64 s.anc.line, .int .i64 s.anc.col, .int .i64 s.foc.line, .int .i64 s.foc.col, .int .i64 s.on, .int .i64 s.off] 26) ∧ W.heap[w.heap.size + 1]? = some (.cells #[.slice none 0 0, .int .i64 0, .int .i64 0, .int .i64 0, .int .i64 0, .int .i64 0, .int .i64 0] 26)) := zA fun W hW => ⟨zX hW k0, zX hW k2⟩;have hs1 := hB.size;have H1 := zA hB;have HC := zA (zIc v s b W1 S (h.below (zZ _) hB) (he.below hB) hs hf);obtain ⟨X, hX⟩ : ∃ X, uL b s = X := ⟨_, rfl⟩;rw [hX] at HC ⊢;obtain ⟨pb, fb⟩ := blk (zX hB hB0);obtain ⟨p0, f0⟩ := blk k0;obtain ⟨p1, f1⟩ := blk k2;obtain ⟨va, vc, rfl⟩ := h.slice;clear h he hs hf hB k0 k2 hB0 hX;go_enter Tryz.func136, Tryz.ntmps136;go_wp2_with (go_at_call 137; refine HC.out.mono ?_; rintro e w2 ⟨v2, rfl, hv2, hb2⟩; obtain ⟨a2, c2, rfl⟩ := hv2.slice; obtain ⟨q0, g0⟩ := blk (HB.out _ hb2).1; obtain ⟨q1, g1⟩ := blk (HB.out _ hb2).2; have HV := zA hv2; clear hv2);refine zM (jQ rfl _ _ (w.heap.size + 1) (.slice a2 X.1.lines.length c2) (.int .i64 X.1.anc.line) (.int .i64 X.1.anc.col) (.int .i64 X.1.foc.line) (.int .i64 X.1.foc.col) (.int .i64 X.1.on) (.int .i64 X.1.off) (.int .i64 X.2) rfl rfl yL) rfl ?_;have hfin := H1.out.trans (hb2.mono hs1);have hv2 := HV.out;exact ⟨_, rfl, (qG (zZ _) hv2 jM (fun b h _ => jJ)), by ((with_reducible repeat' first | exact zE _ _ | assumption | refine zG ?_ ?_ _ | refine zH ?_ | refine qQ ?_ | refine zF ?_ ?_ _) <;> go_size)⟩
set_option maxRecDepth 100000 in
theorem zIl (v : Value) (s : St) (w : World) (S : Nat → Prop) (h : jE w S v s.lines) (he : EnvT w) (hs : Small s.lines) (hf : Fits s.lines) :
  Calls zV 69 #[stV v s] w (StSaid (keyS s (vX s ⟨#[10]⟩)) w) := by
 obtain ⟨W1, hW1, hB, hz, k0, k2⟩ := xE w v s;have HB : Hid (∀ W, Below W1.heap.size W1 W → W.heap[w.heap.size]? = some (.cells #[v, .int .i64 s.anc.line, .int .i64 s.anc.col, .int .i64 s.foc.line, .int .i64 s.foc.col, .int .i64 s.on, .int .i64 s.off] 26) ∧ W.heap[w.heap.size + 1]? = some (.cells #[.slice none 0 0, .int .i64 0, .int .i64 0, .int .i64 0, .int .i64 0, .int .i64 0, .int .i64 0] 26)) := zA fun W hW => ⟨zX hW k0, zX hW k2⟩;have hs1 := hB.size;have H1 := zA hB;have HC := zA (zEa v s ⟨#[10]⟩ W1 S (h.below (zZ _) hB) (he.below hB) hs hf qV);obtain ⟨X, hX⟩ : ∃ X, keyS s (vX s ⟨#[10]⟩) = X := ⟨_, rfl⟩;rw [hX] at HC ⊢;obtain ⟨p0, f0⟩ := blk k0;obtain ⟨p1, f1⟩ := blk k2;obtain ⟨va, vc, rfl⟩ := h.slice;clear h he hs hf hB k0 k2 hX;go_enter Tryz.func69, Tryz.ntmps69;go_wp2_with (go_at_call 67; refine HC.out.mono ?_; rintro e w2 ⟨v2, rfl, hv2, hb2⟩; obtain ⟨a2, c2, rfl⟩ := hv2.slice; obtain ⟨q0, g0⟩ := blk (HB.out _ hb2).1; obtain ⟨q1, g1⟩ := blk (HB.out _ hb2).2; have HV := zA hv2; clear hv2);refine zM (jQ rfl _ _ (w.heap.size + 1) (.slice a2 X.1.lines.length c2) (.int .i64 X.1.anc.line) (.int .i64 X.1.anc.col) (.int .i64 X.1.foc.line) (.int .i64 X.1.foc.col) (.int .i64 X.1.on) (.int .i64 X.1.off) (.int .i64 X.2) rfl rfl yL) rfl ?_;have hfin := H1.out.trans (hb2.mono hs1);have hv2 := HV.out;exact ⟨_, rfl, (qG (zZ _) hv2 jM (fun b h _ => jJ)), by ((with_reducible repeat' first | exact zE _ _ | assumption | refine zG ?_ ?_ _ | refine zH ?_ | refine qQ ?_ | refine zF ?_ ?_ _) <;> go_size)⟩
end Go.Proofs.YtjgeadoncanheaaGreatDoor
