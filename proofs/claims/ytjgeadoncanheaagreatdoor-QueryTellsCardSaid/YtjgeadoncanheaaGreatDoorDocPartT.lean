/- Parts of the proof. -/
import Derived.Test.YtjgeadoncanheaaGreatDoorPartBaseT
import Derived.Test.YtjgeadoncanheaaGreatDoorDocEachT
set_option linter.unusedVariables false
set_option linter.unusedSimpArgs false
set_option maxHeartbeats 8000000
namespace Go.Proofs.YtjgeadoncanheaaGreatDoor
open Go.RowKit
open Go.Proofs.Qw
attribute [local go_sem] Oper.semAt_some
open _root_.Go.Lib renaming hid → zA
open _root_.And renaming intro → zB
open _root_.Nat renaming le_refl → zC, le_trans → zD
open _root_.Go.RowKit.Below renaming refl → zE
open _root_.List renaming getElem?_eq_some_iff → zK
open _root_.Array renaming getElem?_eq_some_iff → zL
open _root_.Go renaming wpAnyH_take → zP
open _root_.Int renaming natCast_nonneg → zR
open _root_.Go.Act renaming put → zU
open _root_.Go.Proofs.YtjgeadoncanheaaGreatDoor renaming jG → zX
open _root_.Go.Proofs.Qw renaming jY → zZ, jX → qB
set_option maxRecDepth 100000 in
theorem zHW (ca : Option Addr) (cc : Nat) (cs : List Cel) (xf xt : Nat) (w w0 : World) (S : Nat → Prop) (h : jE false w0 S (.slice ca cs.length cc) cs) (h0 : Below w0.heap.size w0 w) (h1 : xf ≤ xt) (h2 : xt ≤ cs.length) (hs : cs.length ≤ 1000000) :
  Calls Tryz.prog 159 #[.slice ca cs.length cc, .int .i64 xf, .int .i64 xt] w (CellsSaid ((cs.drop xf).take (xt - xf)) 0 w) := by
 have hw : jE false w S (.slice ca cs.length cc) cs := SliceR.below (qB _) h h0;have HC1 := zA (zDk _ cs xf xt w S false hw);have hsp : yT cs.length xf xt = true := by unfold yT; simp; omega
 rw [hsp] at HC1;obtain ⟨_, hccl, hccm⟩ := hw.len;obtain ⟨row, hrow⟩ : ∃ row, (cs.drop xf).take (xt - xf) = row := ⟨_, rfl⟩;have hrl : row.length = xt - xf := by rw [← hrow, List.length_take, List.length_drop]; omega
 have hh : jE false w S (sliced ca xf xt cc 3) row := by
  rw [← hrow];exact hw.part (i := xf) (j := xt) (m := cc) h1 h2 qE (zC _)
 rw [hrow];have HC2 := zA (zDj _ row false w w S hh (zE _ _) qE);unfold sliced at HC2;unfold maxLen at hccm;have u0 : (0 : Int) ≤ (xf : Int) := zR _;have u1 : (xf : Int) ≤ (xt : Int) := by omega
 have u2 : (xt : Int) ≤ (cc : Int) := by omega
 clear h hw hsp hrow hrl hh
 by_cases hcq : cc = xf
 ·subst hcq
  have hee : xt = cc := by omega
  subst hee;rw [if_pos rfl, Nat.sub_self] at HC2;go_enter Tryz.func159, Tryz.ntmps159;go_wp2_with (first | (go_at_call 213; refine HC1.out.mono ?_; rintro e w2 ⟨rfl, rfl⟩) | (go_at_call 214; refine HC2.out.mono ?_; rintro e w3 ⟨v3, rfl, hv3, hb3⟩; obtain ⟨a3, c3, rfl⟩ := hv3.slice; have HV := zA hv3; have HB := zA hb3; clear hv3 hb3));go_ret2;exact ⟨_, rfl, HV.out, HB.out⟩
 ·rw [if_neg hcq] at HC2
  go_enter Tryz.func159, Tryz.ntmps159;go_wp2_with (first | (go_at_call 213; refine HC1.out.mono ?_; rintro e w2 ⟨rfl, rfl⟩) | (go_at_call 214; refine HC2.out.mono ?_; rintro e w3 ⟨v3, rfl, hv3, hb3⟩; obtain ⟨a3, c3, rfl⟩ := hv3.slice; have HV := zA hv3; have HB := zA hb3; clear hv3 hb3));go_ret2;exact ⟨_, rfl, HV.out, HB.out⟩
theorem zAW {α : Type} {t : TypeId} {k : Nat} {R : Rd α} {own : Bool} {w : World} {S : Nat → Prop} {v : Value} {xs : List α} (h : SliceR t k R own w S v xs) : ∃ a n c, v = .slice a n c := by
 obtain ⟨a, c, e⟩ := h.slice;exact ⟨a, _, c, e⟩
def PI (d : Doc) (dv : Value) (w : World) (Bo Z : Nat) (pre : List (RowX d)) (W : World) : Prop :=
 ∃ v, W.heap[Bo]? = some (.cells #[v] 22) ∧ DocR true W (fun b => Z ≤ b) v (pre.map fun y => kY d y.1) ∧ W.heap[w.heap.size]? = some (.cells #[dv] 22) ∧ (v = .slice none 0 0 ∨ (pre.map fun y => kY d y.1) ≠ []) ∧ Below w.heap.size w W ∧ Z ≤ W.heap.size
theorem zMM {d : Doc} {dv : Value} {w : World} {Bo Z B : Nat} (hB : w.heap.size ≤ B) : OwnFrom B (PI d dv w Bo Z) := fun s X Y row ⟨v, h1, h2, h3, h4, h5, h6⟩ hg hr =>
 ⟨v, yA B _ _ _ s X Y row h1 hg hr, zAt B _ v (fun s : List (RowX d) => s.map fun y => kY d y.1) s X Y row h2 hg hr, yA B _ _ _ s X Y row h3 hg hr, h4, ownFrom_below (zC _) hB s X Y row h5 hg hr, uV B _ s X Y row h6 hg hr⟩
set_option maxRecDepth 200000 in
theorem zFj (v : Value) (d : Doc) (a b : Ps) (w : World) (S : Nat → Prop) (h : jC w S v d) (he : EnvT w) (hs : Small d) (hf : Fits d) :
  Calls Tryz.prog 103 #[v, posV a, posV b] w (DocSaid (kX d a b) w) := by
 obtain ⟨W1, hW1⟩ : ∃ W1, ((w.alloc (.cells #[v] 22)).alloc (.cells #[.int .i64 a.line, .int .i64 a.col] 24)).alloc (.cells #[.int .i64 b.line, .int .i64 b.col] 24) = W1 := ⟨_, rfl⟩;have hB : Below w.heap.size w W1 := hW1 ▸ (((zE _ _).alloc (zC _) _).alloc qT _).alloc jD _;have hz : w.heap.size + 3 = W1.heap.size := by rw [← hW1]; simp
 have k0 : W1.heap[w.heap.size]? = some (.cells #[v] 22) := hW1 ▸ jI _ _ (jI _ _ (jF _ _ rfl));have k1 : W1.heap[w.heap.size + 1]? = some (.cells #[.int .i64 a.line, .int .i64 a.col] 24) := hW1 ▸ jI _ _ (jF _ _ qT);have k2 : W1.heap[w.heap.size + 1 + 1]? = some (.cells #[.int .i64 b.line, .int .i64 b.col] 24) := hW1 ▸ jF _ _ qT;have HC1 := zA (zAE v d a b W1 S (h.below (zZ _) hB) (he.below hB) hs);have HB : Hid (∀ W, Below W1.heap.size W1 W → W.heap[w.heap.size]? = some (.cells #[v] 22) ∧ W.heap[w.heap.size + 1]? = some (.cells #[.int .i64 a.line, .int .i64 a.col] 24) ∧ W.heap[w.heap.size + 1 + 1]? = some (.cells #[.int .i64 b.line, .int .i64 b.col] 24)) := zA fun W hW => ⟨zX hW k0, zX hW k1, zX hW k2⟩;have HP : Hid (∀ p : Ps, posV p = .agg #[.int .i64 p.line, .int .i64 p.col]) := zA fun _ => rfl;have H1 := zA hB;have HL := zA h;have HF := zA hf;have HS := zA hs;have hlen := hf.1;have hs1 := hB.size;obtain ⟨p0, f0⟩ := blk k0;obtain ⟨p1, f1⟩ := blk k1;obtain ⟨p2, f2⟩ := blk k2;obtain ⟨va, vc, rfl⟩ := h.slice;clear h he hs hf k0 k1 k2 hB;cases hsp : kK d a b
 ·have HR : Hid (kX d a b = ([], 1)) := zA (by unfold kX; rw [hsp]; rfl)
  rw [hsp] at HC1;clear hsp;rw [HP.out a, HP.out b] at HC1 ⊢;go_enter Tryz.func103, Tryz.ntmps103;go_wp2_with (go_at_call 154; refine HC1.out.mono ?_; rintro e w2 ⟨rfl, hb2⟩);go_ret2;unfold DocSaid;rw [HR.out];exact ⟨_, rfl, SliceR.nil _ _ _ _ _ _, H1.out.trans (hb2.mono hs1)⟩
 obtain ⟨_, i, j, p, q, l, m, rfl, rfl, hl, hm, hp, hq, hij, hpq⟩ := uI hsp;have hjl := (zK.1 hm).1;have HR : Hid (kX d ⟨i, p⟩ ⟨j, q⟩ = ((kE d i p j q (j + 1)).map (kY d), 0)) := zA (by unfold kX; rw [hsp, if_pos rfl]; rfl);have HOK : Hid (∀ k, i ≤ k → k ≤ j → zAz d (rowB d i p j q k)) := zA fun k h1 h2 => zCy hl hm hp hq hpq h1 h2;rw [hsp] at HC1;clear hsp hl hm hp hq hpq;rw [HP.out, HP.out] at HC1 ⊢;refine (callsIn_wide (n := 6)).1 ?_;refine callsIn_of_wp_marks Tryz.func103 rfl trivial ?_ rfl;simp only [Tryz.ntmps103, List.size_toArray, List.length_cons, List.length_nil, Nat.reduceAdd, Nat.reduceSub, Array.replicate_succ, Array.replicate_zero, List.push_toArray, List.append_toArray, List.nil_append, List.cons_append];have hwf : ∀ f, Fence.wide.fn f := fun _ => trivial;have hwd : Fence.wide.depth = none := rfl
 gi_wp2_with (first
  | (gi_at_call 154; refine (callsIn_wide.2 HC1.out).mono ?_; rintro e w2 ⟨rfl, hb2⟩; obtain ⟨q0, g0⟩ := blk (HB.out _ hb2).1; obtain ⟨q1, g1⟩ := blk (HB.out _ hb2).2.1; obtain ⟨q2, g2⟩ := blk (HB.out _ hb2).2.2; have r0 := jR (q0 0); have r1 := jR (q1 0); have r2 := jR (q1 1); have r3 := jR (q2 0); have r4 := jR (q2 1))
  | (gi_at_call 155; refine (callsIn_wide.2 (zDw _ _ _ _ _ _ _ _)).mono ?_; rintro e w5 ⟨rfl, rfl⟩))
 have hx2 : Below w.heap.size w w2 := H1.out.trans (hb2.mono hs1);have hz2 := hb2.size;obtain ⟨w6, hw6⟩ : ∃ w6, (((w2.alloc (.cells #[.slice none 0 0] 22)).alloc (.cells #[.slice va d.length vc] 22)).alloc (.cells #[.int .i64 i, .int .i64 p] 24)).alloc (.cells #[.int .i64 j, .int .i64 q] 24) = w6 := ⟨_, rfl⟩;rw [hw6];obtain ⟨t0, t1, t2⟩ := HB.out _ hb2;have hb26 : Below w2.heap.size w2 w6 := hw6 ▸ ((((zE _ _).alloc (zC _) _).alloc qT _).alloc jD _).alloc jD _;have hz6 : w6.heap.size = w2.heap.size + 4 := by rw [← hw6]; simp
 have m0 : w6.heap[w2.heap.size]? = some (.cells #[.slice none 0 0] 22) := hw6 ▸ jI _ _ (jI _ _ (jI _ _ (jF _ _ rfl)));have n0 : w6.heap[w2.heap.size + 1]? = some (.cells #[.slice va d.length vc] 22) := hw6 ▸ jI _ _ (jI _ _ (jF _ _ qT));have n1 : w6.heap[w2.heap.size + 1 + 1]? = some (.cells #[.int .i64 i, .int .i64 p] 24) := hw6 ▸ jI _ _ (jF _ _ qT);have n2 : w6.heap[w2.heap.size + 1 + 2]? = some (.cells #[.int .i64 j, .int .i64 q] 24) := hw6 ▸ jF _ _ qT;have hb6 : Below w.heap.size w w6 := hx2.trans (hb26.mono qE);have hPI : PI d (.slice va d.length vc) w w2.heap.size w6.heap.size [] w6 := ⟨_, m0, SliceR.nil _ _ _ _ _ _, zX hb26 t0, .inl rfl, hb6, zC _⟩;clear hw6 q0 q1 q2 g0 g1 g2 p0 f0 p1 p2 f1 f2 t0 t1 t2 r0 r1 r2 r3 r4 hW1 m0;have N0 := zA (zB n0 (zB n1 n2));clear n0 n1 n2
 refine zHx rfl qE (gf := 209) (lb := #[.pointer (some ⟨w2.heap.size + 1 + 1, 0, none⟩), .pointer (some ⟨w2.heap.size + 1 + 2, 0, none⟩), .pointer (some ⟨w2.heap.size + 1, 0, none⟩)]) rfl trivial (enters_of Tryz.func209 qC rfl)
  (encs := zAd (d := d)) (n₀ := w.heap.size) (base := w2.heap.size + 1) (top := w6.heap.size) (S := fun ys => ys.map (·.1) = kE d i p j q (j + 1)) (Sp := fun _ => True) (N := 200000) (w0 := w6) ?seq qE (zE _ _) (fun _ => rfl)
  (PI d (.slice va d.length vc) w w2.heap.size w6.heap.size) (fun _ _ _ => False) (zMM qE) (fun _ _ _ _ _ hs _ _ => hs) hPI (fun _ _ ⟨_, _, _, _, _, _, h⟩ => h)
  (fun x => #[.int .i64 x.1.2.1, .int .i64 x.1.2.2]) 164 ?act ?assign ?body ?done ?stop
 case seq =>
  intro l J Jx W hW hJ _ hY h0;exact zIO 5 l (w2.heap.size + 1) (w2.heap.size + 1 + 1) (w2.heap.size + 1 + 2) (w2.heap.size + 1) w6.heap.size (.slice va d.length vc) d i p j q S J Jx w W HL.out (hb6.trans (hW.mono hb6.size)) ⟨by omega, by omega, by omega⟩ ⟨by omega, by omega, by omega⟩ (zX hW N0.out.1) (zX hW N0.out.2.1) (zX hW N0.out.2.2) hij hjl HOK.out HS.out.2.1 hJ hY h0
 case assign =>
  intro l pre x W K Bx hBx hI hK
  gi_wp2
  rw [← hBx];exact hK
 case body =>
  intro l pre x Bx W hI hBx hbx hlt;obtain ⟨v0, t0, hD, td, hne, hb, hz⟩ := hI;obtain ⟨ln, hln, hft, htl⟩ := x.2;obtain ⟨xi, exi⟩ : ∃ z, x.1.1 = z := ⟨_, rfl⟩;obtain ⟨xf, exf⟩ : ∃ z, x.1.2.1 = z := ⟨_, rfl⟩;obtain ⟨xt, ext⟩ : ∃ z, x.1.2.2 = z := ⟨_, rfl⟩;have hpo := zFZ hln;obtain ⟨row, hrow⟩ : ∃ row, (ln.cells.drop xf).take (xt - xf) = row := ⟨_, rfl⟩;rw [exf, ext, hrow] at hpo;have HT : Hid ((pre ++ [x]).map (fun y => kY d y.1) = pre.map (fun y => kY d y.1) ++ [{ ln with cells := row }]) := zA (by rw [List.map_append, List.map_singleton, hpo]);rw [exi] at hln;rw [exf, ext] at hft hbx;rw [ext] at htl;rw [exi, exf, ext];clear exi exf ext hpo;have hil := (zK.1 hln).1;have hfl := HF.out.2 ln (List.mem_of_getElem? hln);obtain ⟨va', vc', hve, hvc, hvm, hx⟩ := kJ HL.out;cases hve;obtain ⟨b1, o1, la, lc, ca, cc, rfl, hAk⟩ := hx xi ln hln;have HFM : Hid (∀ W', Below W.heap.size W W' → Calls Tryz.prog 158 #[linV ln (.slice la ln.lists.length lc) (.slice ca ln.cells.length cc)] W' fun e w' => ∃ a', e = .returned (linV ln a' (.slice none 0 0)) ∧ jL true w' (fun b => W'.heap.size ≤ b) a' ln.lists ∧ Below W'.heap.size W' w') := zA fun W' hW => zEC ln _ _ false false W' w S hAk.listsR hAk.cellsR (jH hb hW) hfl
  have HCP : Hid (∀ W', Below W.heap.size W W' → Calls Tryz.prog 159 #[.slice ca ln.cells.length cc, .int .i64 xf, .int .i64 xt] W' (CellsSaid row 0 W')) := zA fun W' hW => by
   have := zHW ca cc ln.cells xf xt W' w S hAk.cellsR (jH hb hW) hft htl hfl.2
   rwa [hrow] at this
  have hlt1 := hAk.lt;have hbz := hb.size;obtain ⟨hz4, c0, c1, c2, c3, _, _⟩ := hAk.below hb;obtain ⟨s0, s0f⟩ := blk t0;obtain ⟨sd, sdf⟩ := blk td;obtain ⟨sx, sxf⟩ := blk hbx;unfold maxLen at hvm;have i0 : (0 : Int) ≤ (xi : Int) := zR _;have i1 : (xi : Int) < (d.length : Int) := by omega
  have hw0 : Below W.heap.size W W := zE _ _;have HA := zA (zB t0 (zB td hbx));have HD := zA (SliceR.bounded (zZ true) hD);have HNE := zA hne;have HIN := zA (zB hb hz);have HC3 := zA c3;have hbxl := (zL.1 hbx).1;clear hD hrow hln hfl hft htl hx hAk t0 td hbx hne hvc;unfold linV at HFM
  gi_wp2_with (gi_at_call 158; refine (callsIn_wide.2 (HFM.out _ hw0)).mono ?_; rintro e w4 ⟨a', rfl, ha4, hb4⟩; obtain ⟨a4, c4, rfl⟩ := ha4.slice; have HI4 := zA (SliceR.bounded (qB _) ha4); clear ha4)
  obtain ⟨w5, hw5⟩ : ∃ X, w4.alloc (.cells #[.int .i64 ln.quote, .slice a4 ln.lists.length c4, .int .i64 ln.kind, .slice none 0 0] 47) = X := ⟨_, rfl⟩;rw [hw5];have hb45 : Below w4.heap.size w4 w5 := hw5 ▸ (zE _ _).alloc (zC _) _;have m5 : w5.heap[w4.heap.size]? = some (.cells #[.int .i64 ln.quote, .slice a4 ln.lists.length c4, .int .i64 ln.kind, .slice none 0 0] 47) := hw5 ▸ jF _ _ rfl;have hzW4 := hb4.size;have hb5 : Below W.heap.size W w5 := jH hb4 hb45;have hd5 : Below W.heap.size W w5.drew := hb5.drew;have HC5 := zA (HCP.out w5.drew hd5);obtain ⟨u0, u0f⟩ := blk (zX hb5 HA.out.2.1);obtain ⟨ux, uxf⟩ := blk (zX hb5 HA.out.2.2);have u3 : w5.cell? ⟨b1, o1 + xi * 4 + 3, none⟩ = some (.slice ca ln.cells.length cc) := (hb5.cell (p := ⟨b1, o1 + xi * 4 + 3, none⟩) hz4).trans HC3.out;have e1 : w4.heap.size ≠ w.heap.size := by omega
  have e2 : w4.heap.size ≠ b1 := by omega
  have e3 : w4.heap.size ≠ Bx := by omega
  clear s0 s0f sd sdf sx sxf c0 c1 c2 c3 hw5 HFM HCP;refine zEo qC qC (S := fun w' => w'.cell? ⟨w.heap.size, 0, none⟩ = some (.slice (some ⟨b1, o1, none⟩) d.length vc) ∧ w'.cell? ⟨b1, o1 + xi * 4 + 3, none⟩ = some (.slice ca ln.cells.length cc) ∧ w'.cell? ⟨Bx, 0, none⟩ = some (.int .i64 xf) ∧ w'.cell? ⟨Bx, 1, none⟩ = some (.int .i64 xt)) ⟨u0 0, u3, ux 0, ux 1⟩ (fun R hR hHeld => ?_);refine zP (i := 0) (v := ?_) vD qC qC qC (fun _ _ _ h => h) (Or.inl ⟨by rfl, ?_⟩) qW ?_;rotate_left 1
  ·intro w hSw; (try dsimp only at hSw); go_simp; (first | done | with_reducible rfl)
  try simp only [zU, qI, qX, qY]
  refine zP (i := 1) (v := ?_) qU qC qC qC (fun _ _ _ h => h) (Or.inl ⟨by rfl, ?_⟩) qW ?_;rotate_left 1
  ·intro w hSw; (try dsimp only at hSw); go_simp; (first | done | with_reducible rfl)
  try simp only [zU, qI, qX, qY]
  refine zP (i := 2) (v := ?_) qU qC qC qC (fun _ _ _ h => h) (Or.inl ⟨by rfl, ?_⟩) qW ?_;rotate_left 1
  ·intro w hSw; (try dsimp only at hSw); go_simp; (first | done | with_reducible rfl)
  try simp only [zU, qI, qX, qY]
  refine zP (i := 3) (v := ?_) qU qC qC qC (fun _ _ _ h => h) (Or.inl ⟨by rfl, ?_⟩) qW ?_;rotate_left 1
  ·intro w hSw; (try dsimp only at hSw); go_simp; (first | done | with_reducible rfl)
  try simp only [zU, qI, qX, qY]
  refine zP (i := 4) (v := ?_) qU qC qC qC (fun _ _ _ h => h) (Or.inl ⟨by rfl, ?_⟩) qW ?_;rotate_left 1
  ·intro w hSw; (try dsimp only at hSw); go_simp; (first | done | with_reducible rfl)
  try simp only [zU, qI, qX, qY]
  refine zP (i := 5) (v := ?_) qU qC qC qC (fun _ _ _ h => h) (Or.inl ⟨by rfl, ?_⟩) qW ?_;rotate_left 1
  ·intro w hSw; (try dsimp only at hSw); go_simp; (first | done | with_reducible rfl)
  try simp only [zU, qI, qX, qY]
  refine zP (i := 6) (v := ?_) qU qC qC qC (fun _ _ _ h => h) (Or.inl ⟨by rfl, ?_⟩) qW ?_;rotate_left 1
  ·intro w hSw; (try dsimp only at hSw); go_simp; (first | done | with_reducible rfl)
  try simp only [zU, qI, qX, qY]
  refine zP (i := 7) (v := ?_) qU qC qC qC (fun _ _ _ h => h) (Or.inl ⟨by rfl, ?_⟩) qW ?_;rotate_left 1
  ·intro w hSw; (try dsimp only at hSw); go_simp; (first | done | with_reducible rfl)
  try simp only [zU, qI, qX, qY]
  refine zP (i := 8) (v := ?_) qU qC qC qC (fun _ _ _ h => h) (Or.inl ⟨by rfl, ?_⟩) qW ?_;rotate_left 1
  ·intro w hSw; (try dsimp only at hSw); go_simp; (first | done | with_reducible rfl)
  try simp only [zU, qI, qX, qY]
  refine wpAnyH_ready (rs := [9]) qC qT ?_;refine AllReadyH.cons qU (fun K hK => ?_) AllReadyH.nil;go_simp;refine HC5.out.mono ?_;intro e w6' hsaid;obtain ⟨v6, rfl, hv6, hb6'⟩ := hsaid;have hb56 : Below w5.heap.size w5 w6' := ((zE _ _).drew).trans hb6';obtain ⟨a6, c6, rfl⟩ := hv6.slice;have HV6 : Hid (jE true w6' (fun b => w5.heap.size ≤ b) (.slice a6 row.length c6) row) := zA (SliceR.stable (qB _) hv6 (Keeps.refl _ _) (fun b hb' _ => hb'));have hbW6 : Below W.heap.size W w6' := jH hb5 hb56;have hb46 : Below w4.heap.size w4 w6' := jH hb45 hb56;have m6 := zX hb56 m5;obtain ⟨y0, y0f⟩ := blk (zX hbW6 HA.out.2.1);obtain ⟨yx, yxf⟩ := blk (zX hbW6 HA.out.2.2);obtain ⟨r6, s6⟩ := blk m6;have y3 : w6'.cell? ⟨b1, o1 + xi * 4 + 3, none⟩ = some (.slice ca ln.cells.length cc) := (hbW6.cell (p := ⟨b1, o1 + xi * 4 + 3, none⟩) hz4).trans HC3.out;have hS6 : w6'.cell? ⟨w.heap.size, 0, none⟩ = some (.slice (some ⟨b1, o1, none⟩) d.length vc) ∧ w6'.cell? ⟨b1, o1 + xi * 4 + 3, none⟩ = some (.slice ca ln.cells.length cc) ∧ w6'.cell? ⟨Bx, 0, none⟩ = some (.int .i64 xf) ∧ w6'.cell? ⟨Bx, 1, none⟩ = some (.int .i64 xt) := ⟨y0 0, y3, yx 0, yx 1⟩;clear hv6 hb6' u0 u0f ux uxf u3;refine hK.out _ _ hS6 (fun hHeld => ?_);clear hK K;try simp only [zU, qI, qX, qY]
  refine zP (i := 10) (v := ?_) qU qC qC qC (fun _ _ _ h => h) (Or.inl ⟨by rfl, ?_⟩) qW ?_;rotate_left 1
  ·intro w hSw; (try dsimp only at hSw); go_simp; (first | done | with_reducible rfl)
  try simp only [zU, qI, qX, qY]
  refine zP (i := 11) (v := ?_) qU qC qC qC (fun _ _ _ h => h) (Or.inl ⟨by rfl, ?_⟩) qW ?_;rotate_left 1
  ·intro w hSw; (try dsimp only at hSw); go_simp; (first | done | with_reducible rfl)
  try simp only [zU, qI, qX, qY]
  refine zP (i := 12) (v := ?_) qU qC qC qC (fun _ _ _ h => h) (Or.inl ⟨by rfl, ?_⟩) qW ?_;rotate_left 1
  ·intro w hSw; (try dsimp only at hSw); go_simp; (first | done | with_reducible rfl)
  try simp only [zU, qI, qX, qY]
  refine zP (i := 13) (v := ?_) qU qC qC qC (fun _ _ _ h => h) (Or.inl ⟨by rfl, ?_⟩) qW ?_;rotate_left 1
  ·intro w hSw; (try dsimp only at hSw); go_simp; (first | done | with_reducible rfl)
  try simp only [zU, qI, qX, qY]
  refine wpAnyH_ready (rs := [14]) qC qT ?_;refine AllReadyH.cons qU (fun K hK => ?_) AllReadyH.nil;go_simp
  have hS7 : (w6'.setCell ⟨w4.heap.size, 3, none⟩ (.slice a6 row.length c6)).cell? ⟨w.heap.size, 0, none⟩ = some (.slice (some ⟨b1, o1, none⟩) d.length vc) ∧ (w6'.setCell ⟨w4.heap.size, 3, none⟩ (.slice a6 row.length c6)).cell? ⟨b1, o1 + xi * 4 + 3, none⟩ = some (.slice ca ln.cells.length cc) ∧ (w6'.setCell ⟨w4.heap.size, 3, none⟩ (.slice a6 row.length c6)).cell? ⟨Bx, 0, none⟩ = some (.int .i64 xf) ∧ (w6'.setCell ⟨w4.heap.size, 3, none⟩ (.slice a6 row.length c6)).cell? ⟨Bx, 1, none⟩ = some (.int .i64 xt) :=
   ⟨(kT e1).trans hS6.1, (kT e2).trans hS6.2.1, (kT e3).trans hS6.2.2.1, (kT e3).trans hS6.2.2.2⟩
  refine hK.out _ _ hS7 (fun _ => ?_);refine wpAnyH_done qC ?_ _;refine hR.out _ _ ?_;clear hK K hS6 hS7 y0 y0f yx yxf y3;have hz45 := hb45.size;have hz56 := hb56.size;obtain ⟨z0, z0f⟩ := blk (zX hbW6 HA.out.1);have e4 : ¬ w4.heap.size = w2.heap.size := by omega
  have e5 : w4.heap.size ≠ w2.heap.size := e4;have hw2Z : w2.heap.size < w6.heap.size := by omega
  have hb7 : ∀ u ob, Below W.heap.size W ((w6'.setCell ⟨w4.heap.size, 3, none⟩ u).alloc ob) := fun u ob => (hbW6.setCell (by show W.heap.size ≤ w4.heap.size; omega) _).alloc jD _;have HB7 := zA hb7;have HD7 : Hid (∀ u ob, DocR true ((w6'.setCell ⟨w4.heap.size, 3, none⟩ u).alloc ob) (fun b => w6.heap.size ≤ b) v0 (pre.map fun y => kY d y.1)) := zA fun u ob => HD.out.stable (zZ true) (.all (hb7 u ob)) (fun _ h _ => h.1);have HM7 : Hid (∀ u ob, ((w6'.setCell ⟨w4.heap.size, 3, none⟩ u).alloc ob).heap[w2.heap.size]? = some (.cells #[v0] 22)) := zA fun u ob => zX (hb7 u ob) HA.out.1;have hzz7 : ∀ u ob, w6.heap.size ≤ ((w6'.setCell ⟨w4.heap.size, 3, none⟩ u).alloc ob).heap.size := fun u ob => zD HIN.out.2 (hb7 u ob).size;have HZ7 := zA hzz7;have hl7 : (pre.map fun y => kY d y.1).length + 1 ≤ 100000000 := by rw [List.length_map]; omega
  have HN7 : Hid (∀ ob, NewsR 4 (uL true) ((w6'.setCell ⟨w4.heap.size, 3, none⟩ (.slice a6 row.length c6)).alloc ob) (fun b => w6.heap.size ≤ b) [.int .i64 ln.quote, .slice a4 ln.lists.length c4, .int .i64 ln.kind, .slice a6 row.length c6] [{ ln with cells := row }]) := zA fun ob =>
   NewsR.one rfl ⟨_, _, rfl, HI4.out.stable (qB _) (((Keeps.all hb46).set (fun hh => (Nat.lt_irrefl _) hh.2) _).alloc _) (fun b h _ => zD HIN.out.2 h.1), HV6.out.stable (qB _) (((Keeps.refl _ _).set (fun hh => by have hh : w5.heap.size ≤ w4.heap.size := hh; have := (zL.1 m5).1; omega) _).alloc _) (fun b h _ => by have h : w5.heap.size ≤ b := h; have := HIN.out.2; omega)⟩
  clear hb7 hzz7
  gi_wp2_with (gi_at_builtin; go_must (refine zEn _ rfl _ _ 22 22 rfl kU kH w6.heap.size v0 _ (xs := pre.map (fun y : RowX d => kY d y.1)) (ys := [{ ln with cells := row }]) (news := [.int .i64 ln.quote, .slice a4 ln.lists.length c4, .int .i64 ln.kind, .slice a6 row.length c6]) rfl rfl (HD7.out _ _) (HZ7.out _ _) (zAH kU (w6'.setCell ⟨w4.heap.size, 3, none⟩ (.slice a6 row.length c6)) _ rfl (zCm _ _ _ _ _ _ _) 1 qT) (HN7.out _) hl7 ?_); intro v' w8 hR8 hB8 hG8 _; rw [← HT.out] at hR8; obtain ⟨a8, n8, c8, hv8⟩ := zAW hR8; subst hv8; have HR8 := zA hR8; have HB8 := zA hB8; have HG8 := zA hG8; have m8 := (hB8.block _ hw2Z).trans (HM7.out _ _); obtain ⟨r8, s8⟩ := blk m8; clear hR8 hB8 hG8)
  have h1 := HD7.out (.slice a6 row.length c6) (.cells #[.int .i64 ln.quote, .slice a4 ln.lists.length c4, .int .i64 ln.kind, .slice a6 row.length c6] 47);have hb7 := HB7.out (.slice a6 row.length c6) (.cells #[.int .i64 ln.quote, .slice a4 ln.lists.length c4, .int .i64 ln.kind, .slice a6 row.length c6] 47);have hwW := HIN.out.1.size;have hz8 := HB8.out.size;have hz7 := HZ7.out (.slice a6 row.length c6) (.cells #[.int .i64 ln.quote, .slice a4 ln.lists.length c4, .int .i64 ln.kind, .slice a6 row.length c6] 47);have hd8 := (HB8.out.block w.heap.size qE).trans (zX hb7 HA.out.2.1);refine ⟨((uG hb7).from _).trans (((zET h1 HNE.out HG8.out).from _).trans ((KeepsOthers.setCell _ _ _).from _)), (Kb.of_below hwW hb7).t ((Kb.of_top hb6.size (zC _) HB8.out).t (Kb.setCell _ hx2.size (Or.inl (Nat.lt_succ_self _)) _)), _, ?_, SliceR.stable (zZ true) HR8.out ((Keeps.refl _ _).set (fun hh => by have hh : w6.heap.size ≤ w2.heap.size := hh; omega) _) (fun _ h _ => h), ?_, .inr (by rw [HT.out]; simp), ?_, ?_⟩
  ·rw [jN, if_pos rfl, m8]; rfl
  ·rw [jN, if_neg qE]; exact hd8
  ·exact ((jH HIN.out.1 hb7).trans (HB8.out.mono hb6.size)).setCell (by show w.heap.size ≤ w2.heap.size; exact hx2.size) _
  ·simp only [World.size_setCell]; omega
 case done =>
  rintro D ys W hD hys ⟨v9, t0, hDoc, td, hne, hb, hz⟩ hK;obtain ⟨s0, s0f⟩ := blk t0;rw [show (ys.map fun y => kY d y.1) = (kE d i p j q (j + 1)).map (kY d) by rw [← hys, List.map_map]; rfl] at hDoc;obtain ⟨va9, c9, rfl⟩ := hDoc.slice;have HDOC := zA hDoc;have HB9 := zA hb;have HK9 := zA hK;clear hDoc hb hK td hne
  generalize ((kE d i p j q (j + 1)).map (kY d)).length = n9 at *
  gi_wp2_with fail
  refine ⟨by simp, .inl ⟨_, _, rfl, run_takeDeferred HK9.out, ?_⟩⟩;refine ⟨.tuple #[.slice va9 n9 c9, .int .i64 0], by simp [results, Tryz.results103, go_sem], ?_⟩;unfold DocSaid;rw [HR.out];exact ⟨_, rfl, SliceR.stable (zZ true) ((zAt (β := Unit) D _ _ (fun _ => (kE d i p j q (j + 1)).map (kY d))).putObj (s := ()) _ HDOC.out (zC _) HK9.out rfl) (Keeps.refl _ _) (fun b h _ => zD hb6.size h), HB9.out.trans (belowK_b (w := w) (zC _) W D _ _ qE HK9.out rfl rfl)⟩
 case stop =>
  rintro D c pre W _ _ h _;exact h.elim
end Go.Proofs.YtjgeadoncanheaaGreatDoor
