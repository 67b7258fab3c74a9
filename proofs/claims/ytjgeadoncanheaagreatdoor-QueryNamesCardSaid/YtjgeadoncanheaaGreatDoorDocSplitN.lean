/- Parts of the proof. -/
import Derived.Test.YtjgeadoncanheaaGreatDoorLineSplitN
import Derived.Test.YtjgeadoncanheaaGreatDoorDocDeleteN
import Derived.Test.YtjgeadoncanheaaGreatDoorPartBaseN
import Derived.IntWalk
set_option linter.unusedVariables false
set_option linter.unusedSimpArgs false
set_option maxHeartbeats 8000000
namespace Go.Proofs.YtjgeadoncanheaaGreatDoor
open Go.RowKit
open Go.Proofs.Qw
attribute [local go_sem ↓] Go.wp_at_zero Go.wp_at_succ
open _root_.Go.Lib renaming hid → zA
open _root_.And renaming intro → zB
open _root_.Nat renaming le_refl → zC, le_trans → zD
open _root_.Go.RowKit.Below renaming refl → zE
open _root_.Array renaming getElem?_eq_some_iff → zL
open _root_.Go renaming bodyPost_ret → zM, wpAnyH_take → zP, wpAnyH_ready → zQ
open _root_.Go.AllReadyH renaming cons → zN, nil → zO
open _root_.Go.Act renaming put → zU
open _root_.Go.Proofs.Tryz renaming prog → zV
open _root_.Go.Proofs.YtjgeadoncanheaaGreatDoor renaming jF → zW, jG → zX, jD → qF
open _root_.Go.Proofs.Qw renaming jW → zZ, jV → qB
open _root_.Go.Proofs.Qw.SliceR renaming stable → qG, below → qH, tagged → qJ
open _root_.Go.Proofs.Qw.Keeps renaming refl → qM
def zFE (d : Doc) (p : Ps) : Doc := d.take p.line.toNat ++ [(xU (d.getD p.line.toNat default) p.col.toNat).1, (xU (d.getD p.line.toNat default) p.col.toNat).2] ++ d.drop (p.line.toNat + 1)
def vM (d : Doc) (p : Ps) : Doc × Ps × Int := if kF d p p = true then (if d.length = 200 then ([], ⟨0, 0⟩, 10) else (zFE d p, ⟨p.line + 1, 0⟩, 0)) else ([], ⟨0, 0⟩, 1)
def DocPSaid (x : Doc × Ps × Int) (w : World) (e : Ending) (w' : World) : Prop := ∃ v', e = .returned (.tuple #[v', posV x.2.1, .int .i64 x.2.2]) ∧ DocR true w' (fun b => w.heap.size ≤ b) v' x.1 ∧ Below w.heap.size w w'
theorem kK {fn : Func} {p q u : Tmp} (h : fn.results = #[.tmp p, .cell q 24, .tmp u]) (tmps : Array Value) (w : World) (B : Nat) (x y : Value) (hq : tmps.getD q undef = .pointer (some ⟨B, 0, none⟩))
  (hB : w.heap[B]? = some (.cells #[x, y] 24)) :
  (results fn tmps).run zV w = .ok (.tuple #[tmps.getD p undef, .agg #[x, y], tmps.getD u undef]) w := by
 have h1 := run_loadVar_row (P := zV) w B 24 24 _ _ _ hB Tryz.underlying24 rfl zT;have hq' : tmps[q]?.getD undef = .pointer (some ⟨B, 0, none⟩) := by simpa using hq
 simp [results, h, hq', asAddr, h1]
theorem zFK {W : World} {S : Nat → Prop} {l m : Lin} {a b c e : Value} {g : Nat} (hg : W.heap[g]? = some (.cells #[.int .i64 l.quote, a, .int .i64 l.kind, b, .int .i64 m.quote, c, .int .i64 m.kind, e] 47)) (hI : jI true W S a l.lists) (hC : jC true W S b l.cells)
  (hI2 : jI true W S c m.lists) (hC2 : jC true W S e m.cells) (hS : S g) : DocR true W S (.slice (some ⟨g, 0, none⟩) 2 2) [l, m] := by
 refine ⟨_, 2, rfl, by simp, by decide, .inr ⟨g, 0, rfl, hS, (zL.1 hg).1, fun _ => ⟨_, hg, by simp⟩, fun i x hx => ?_⟩⟩
 match i, hx with
 | 0, hx =>
  cases hx;refine ⟨_, rfl, ⟨a, b, rfl, hI, hC⟩, fun j u hu => ?_⟩;rw [jR hg]
  match j, hu with
  | 0, hu => exact hu
  | 1, hu => exact hu
  | 2, hu => exact hu
  | 3, hu => exact hu
 | 1, hx =>
  cases hx;refine ⟨_, rfl, ⟨c, e, rfl, hI2, hC2⟩, fun j u hu => ?_⟩;rw [jR hg]
  match j, hu with
  | 0, hu => exact hu
  | 1, hu => exact hu
  | 2, hu => exact hu
  | 3, hu => exact hu
set_option maxRecDepth 100000 in
theorem zHk (v : Value) (d : Doc) (p : Ps) (w : World) (S : Nat → Prop) (h : jE w S v d) (he : EnvT w) (hs : Small d) (hf : Fits d) :
  Calls zV 116 #[v, posV p] w (DocPSaid (vM d p) w) := by
 obtain ⟨W1, hW1, hB, hz, k0, k1⟩ := vA w (.int .i64 p.line) (.int .i64 p.col) (.int .i64 0) (.int .i64 0);have HC1 := zA (zAk v d p p W1 S (h.below (zZ _) hB) (he.below hB) hs);have HB : Hid (∀ W, Below W1.heap.size W1 W → W.heap[w.heap.size]? = some (.cells #[.int .i64 p.line, .int .i64 p.col] 24) ∧ W.heap[w.heap.size + 1]? = some (.cells #[.int .i64 0, .int .i64 0] 24)) := zA fun W hW => ⟨zX hW k0, zX hW k1⟩;have HP : Hid (∀ p : Ps, posV p = .agg #[.int .i64 p.line, .int .i64 p.col]) := zA fun _ => rfl;have H1 := zA hB;have HL := zA (h.below (zZ _) hB);have HE := zA (he.below hB);have HSM := zA hs;have HF := zA hf;have hlen := hf.1;have hs1 := hB.size;obtain ⟨p1, f1⟩ := blk k0;obtain ⟨p2, f2⟩ := blk k1;obtain ⟨va, vc, rfl⟩ := h.slice;clear h he hs hf k0 k1 hB;cases hsp : kF d p p
 ·have HR : Hid (vM d p = ([], ⟨0, 0⟩, 1)) := zA (by unfold vM; rw [hsp]; rfl)
  rw [hsp] at HC1;clear hsp;rw [HP.out p] at HC1 ⊢;go_enter Tryz.func116, Tryz.ntmps116;go_wp2_with (go_at_call 154; refine HC1.out.mono ?_; rintro e w2 ⟨rfl, hb2⟩; have k1' := (HB.out _ hb2).2; obtain ⟨q2, g2⟩ := blk k1');refine zM (kK rfl _ _ (w.heap.size + 1) (.int .i64 0) (.int .i64 0) rfl zBw) rfl ?_;unfold DocPSaid;rw [HR.out];have hfin := H1.out.trans (hb2.mono hs1);exact ⟨_, rfl, SliceR.nil _ _ _ _ _ _, by ((with_reducible repeat' first | exact zE _ _ | assumption | refine Below.alloc ?_ ?_ _ | refine Below.drew ?_ | refine jN ?_ | refine Below.setCell ?_ ?_ _) <;> go_size)⟩
 ·by_cases h200 : d.length = 200
  ·have HR : Hid (vM d p = ([], ⟨0, 0⟩, 10)) := zA (by unfold vM; rw [hsp, if_pos rfl, if_pos h200])
   have hq : ((d.length : Int) == 200) = true := by simp; omega
   rw [hsp] at HC1;clear hsp h200;rw [HP.out p] at HC1 ⊢;go_enter Tryz.func116, Tryz.ntmps116;go_wp2_with (go_at_call 154; refine HC1.out.mono ?_; rintro e w2 ⟨rfl, hb2⟩; have k1' := (HB.out _ hb2).2; obtain ⟨q2, g2⟩ := blk k1');refine zM (kK rfl _ _ (w.heap.size + 1) (.int .i64 0) (.int .i64 0) rfl zBw) rfl ?_;unfold DocPSaid;rw [HR.out];have hfin := H1.out.trans (hb2.mono hs1);exact ⟨_, rfl, SliceR.nil _ _ _ _ _ _, by ((with_reducible repeat' first | exact zE _ _ | assumption | refine Below.alloc ?_ ?_ _ | refine Below.drew ?_ | refine jN ?_ | refine Below.setCell ?_ ?_ _) <;> go_size)⟩
  ·obtain ⟨hmd, i, _, q, _, l, _, rfl, hpe, hl, _, hq, _, _, _⟩ := vS hsp
   have hil := (List.getElem?_eq_some_iff.1 hl).1
   have hml : mayL l = true := by
    unfold mayD at hmd;simp only [Bool.and_eq_true, List.all_eq_true] at hmd;exact hmd.2 l (List.mem_of_getElem? hl)
   obtain ⟨s1, hs1e⟩ : ∃ s, (xU l q).1 = s := ⟨_, rfl⟩;obtain ⟨s2, hs2e⟩ : ∃ s, (xU l q).2 = s := ⟨_, rfl⟩
   have HR : Hid (vM d ⟨i, q⟩ = (d.take i ++ [s1, s2] ++ d.drop (i + 1), ⟨(i : Int) + 1, 0⟩, 0)) := zA (by
    unfold vM zFE;rw [hsp, if_pos rfl, if_neg h200];simp [List.getD, hl, hs1e, hs2e])
   have hq2 : ((d.length : Int) == 200) = false := by simp; omega
   have hfl := HF.out.2 l (List.mem_of_getElem? hl);have hhl : ∀ c ∈ l.cells, c.href.length ≤ 1000000 := HSM.out.2.2 l (List.mem_of_getElem? hl);rw [hsp] at HC1;rw [HP.out] at HC1 ⊢;obtain ⟨va', vc', hve, hvc, hvm, hx⟩ := kP HL.out;cases hve;obtain ⟨b1, o1, la, lc, ca, cc, rfl, hAi⟩ := hx i l hl;have HAI := zA hAi
   have HLS : Hid (∀ W, Below W1.heap.size W1 W → Calls zV 172 #[linV l (.slice la l.lists.length lc) (.slice ca l.cells.length cc), .int .i64 q] W fun e w' => ∃ x1 x2 y1 y2, e = .returned (.tuple #[linV s1 x1 x2, linV s2 y1 y2, .int .i64 0]) ∧
     jI true w' (fun b => W.heap.size ≤ b) x1 s1.lists ∧ jC true w' (fun b => W.heap.size ≤ b) x2 s1.cells ∧ jI true w' (fun b => W.heap.size ≤ b) y1 s2.lists ∧ jC true w' (fun b => W.heap.size ≤ b) y2 s2.cells ∧ Below W.heap.size W w') := zA fun W hW => by
    have := zGA l la ca lc cc q W S (hAi.below hW).listsR (hAi.below hW).cellsR (HE.out.below hW) hfl hhl hml hq
    rwa [hs1e, hs2e] at this
   have HO : Hid (∀ W, Below W1.heap.size W1 W → Calls zV 167 #[.slice (some ⟨b1, o1, none⟩) d.length vc] W fun e w' => ∃ v', e = .returned v' ∧ DocR true w' (fun b => W.heap.size ≤ b) v' d ∧ Below W.heap.size W w') := zA fun W hW => zBf _ d W W1 S HL.out hW HF.out;have HLL := zA hl;unfold maxLen at hvm;clear hx hAi hl hml hmd hsp h200 hs1e hs2e hfl hhl;have i0 : (0 : Int) ≤ (i : Int) := Int.natCast_nonneg _;have i1 : (i : Int) < (d.length : Int) := by omega
   go_enter Tryz.func116, Tryz.ntmps116;go_wp2_with (go_at_call 154; refine HC1.out.mono ?_; rintro e w2 ⟨rfl, hb2⟩; have k0' := (HB.out _ hb2).1; have k1' := (HB.out _ hb2).2; obtain ⟨q1, g1⟩ := blk k0'; obtain ⟨q2, g2⟩ := blk k1');have hwW2 : Below w.heap.size w w2 := H1.out.trans (hb2.mono hs1);have hww2 := hwW2.size;have hsp2 : w.heap.size + 2 ≤ w2.heap.size := by have := hb2.size; omega
   have hb1w : b1 < W1.heap.size := HAI.out.lt;have hs12 := hb2.size;have HPB : Hid (∀ X, Below w2.heap.size w2 X → X.heap[w.heap.size + 1]? = some (.cells #[.int .i64 0, .int .i64 0] 24)) := zA fun X hX => (HB.out X (zW hb2 hX)).2;clear p1 f1 p2 f2 hW1 q2 g2 q1 g1 k0' k1'
   have HS3 : Hid (∀ X Y : World, Below W1.heap.size W1 X → Y.heap[w.heap.size]? = X.heap[w.heap.size]? → Y.heap[b1]? = X.heap[b1]? → (fun w' => w'.cell? ⟨w.heap.size, 0, none⟩ = some (.int .i64 i) ∧ w'.cell? ⟨w.heap.size, 1, none⟩ = some (.int .i64 q) ∧ w'.cell? ⟨b1, o1 + i * 4, none⟩ = some (.int .i64 l.quote) ∧ w'.cell? ⟨b1, o1 + i * 4 + 1, none⟩ = some (.slice la l.lists.length lc) ∧ w'.cell? ⟨b1, o1 + i * 4 + 2, none⟩ = some (.int .i64 l.kind) ∧ w'.cell? ⟨b1, o1 + i * 4 + 3, none⟩ = some (.slice ca l.cells.length cc)) Y) := zA fun X Y hX hY hY1 => by
    obtain ⟨_, c0, c1, c2, c3, _, _⟩ := HAI.out.below hX;have hp := (blk (hY.trans (HB.out X hX).1)).1;exact ⟨hp 0, hp 1, (World.cell?_of_block hY1).trans c0, (World.cell?_of_block hY1).trans c1, (World.cell?_of_block hY1).trans c2, (World.cell?_of_block hY1).trans c3⟩
   have HS2 : Hid (∀ X : World, Below W1.heap.size W1 X → (fun w' => w'.cell? ⟨w.heap.size, 0, none⟩ = some (.int .i64 i) ∧ w'.cell? ⟨w.heap.size, 1, none⟩ = some (.int .i64 q) ∧ w'.cell? ⟨b1, o1 + i * 4, none⟩ = some (.int .i64 l.quote) ∧ w'.cell? ⟨b1, o1 + i * 4 + 1, none⟩ = some (.slice la l.lists.length lc) ∧ w'.cell? ⟨b1, o1 + i * 4 + 2, none⟩ = some (.int .i64 l.kind) ∧ w'.cell? ⟨b1, o1 + i * 4 + 3, none⟩ = some (.slice ca l.cells.length cc)) X) := zA fun X hX => HS3.out X X hX rfl rfl;unfold linV at HLS
   refine Code.wp_mono (Q := zAq fun a' w' => ∃ (B C : Nat) (a1 : Option Addr) (c1 : Nat) (a2 : Option Addr) (c2 : Nat) (a3 : Option Addr) (c3 : Nat) (a4 : Option Addr) (c4 : Nat) (x9 x10 x11 x12 x13 x14 x15 x16 x17 x18 x19 x20 x21 x22 x23 x24 x25 x26 x27 x28 x29 x30 x31 x32 x33 x34 x35 x36 x37 x38 x39 x40 x41 x42 x43 x44 x45 x46 x47 x48 : Value), a' = { tmps := #[.slice (some ⟨b1, o1, none⟩) d.length vc, .agg #[.int .i64 i, .int .i64 q], undef, .pointer (some ⟨w.heap.size, 0, none⟩), .slice none 0 0, .pointer (some ⟨w.heap.size + 1, 0, none⟩), .int .i64 0, .pointer (some ⟨B, 0, none⟩), .pointer (some ⟨C, 0, none⟩), x9, x10, x11, x12, x13, x14, x15, x16, x17, x18, x19, x20, x21, x22, x23, x24, x25, x26, x27, x28, x29, x30, x31, x32, x33, x34, x35, x36, x37, x38, x39, x40, x41, x42, x43, x44, x45, x46, x47, x48], defers := [] } ∧
    w2.heap.size ≤ B ∧ w2.heap.size ≤ C ∧ ¬ B = C ∧ w'.heap[B]? = some (.cells #[.int .i64 s1.quote, .slice a1 s1.lists.length c1, .int .i64 s1.kind, .slice a2 s1.cells.length c2] 47) ∧ w'.heap[C]? = some (.cells #[.int .i64 s2.quote, .slice a3 s2.lists.length c3, .int .i64 s2.kind, .slice a4 s2.cells.length c4] 47) ∧
    jI true w' (fun b => w2.heap.size ≤ b) (.slice a1 s1.lists.length c1) s1.lists ∧ jC true w' (fun b => w2.heap.size ≤ b) (.slice a2 s1.cells.length c2) s1.cells ∧ jI true w' (fun b => w2.heap.size ≤ b) (.slice a3 s2.lists.length c3) s2.lists ∧ jC true w' (fun b => w2.heap.size ≤ b) (.slice a4 s2.cells.length c4) s2.cells ∧ Below w2.heap.size w2 w') ?_ ?_
   ·intro e a' w7 hends
    obtain ⟨rfl, B, C, a1, c1, a2, c2, a3, c3, a4, c4, x9, x10, x11, x12, x13, x14, x15, x16, x17, x18, x19, x20, x21, x22, x23, x24, x25, x26, x27, x28, x29, x30, x31, x32, x33, x34, x35, x36, x37, x38, x39, x40, x41, x42, x43, x44, x45, x46, x47, x48, rfl, eB, eC, nBC, yB, yC, ia, ib, ic, id', hb27⟩ := zDM hends;clear hends HLS HS2 HS3;have hw27 := hb27.size;have hW7 : Below W1.heap.size W1 w7 := zW hb2 hb27;have hBz := (zL.1 yB).1;have hCz := (zL.1 yC).1;have HIC : Hid (∀ X, Below w7.heap.size w7 X → jI true X (fun b => w2.heap.size ≤ b) (.slice a1 s1.lists.length c1) s1.lists ∧ jC true X (fun b => w2.heap.size ≤ b) (.slice a2 s1.cells.length c2) s1.cells ∧ jI true X (fun b => w2.heap.size ≤ b) (.slice a3 s2.lists.length c3) s2.lists ∧ jC true X (fun b => w2.heap.size ≤ b) (.slice a4 s2.cells.length c4) s2.cells) := zA fun X hX => ⟨ia.below (qB _) hX, ib.below (qB _) hX, ic.below (qB _) hX, id'.below (qB _) hX⟩
    have HT3 : Hid (∀ X Y : World, Below w7.heap.size w7 X → Y.heap[w.heap.size]? = X.heap[w.heap.size]? → Y.heap[B]? = X.heap[B]? → Y.heap[C]? = X.heap[C]? → (fun w' => w'.cell? ⟨w.heap.size, 0, none⟩ = some (.int .i64 i) ∧ w'.cell? ⟨w.heap.size, 1, none⟩ = some (.int .i64 q) ∧ w'.cell? ⟨B, 0, none⟩ = some (.int .i64 s1.quote) ∧ w'.cell? ⟨B, 1, none⟩ = some (.slice a1 s1.lists.length c1) ∧ w'.cell? ⟨B, 2, none⟩ = some (.int .i64 s1.kind) ∧ w'.cell? ⟨B, 3, none⟩ = some (.slice a2 s1.cells.length c2) ∧ w'.cell? ⟨C, 0, none⟩ = some (.int .i64 s2.quote) ∧ w'.cell? ⟨C, 1, none⟩ = some (.slice a3 s2.lists.length c3) ∧ w'.cell? ⟨C, 2, none⟩ = some (.int .i64 s2.kind) ∧ w'.cell? ⟨C, 3, none⟩ = some (.slice a4 s2.cells.length c4)) Y) := zA fun X Y hX hY hYB hYC => by
     have hp := (blk (hY.trans (HB.out X (zW hW7 hX)).1)).1;have hb := (blk (hYB.trans (zX hX yB))).1;have hc := (blk (hYC.trans (zX hX yC))).1;exact ⟨hp 0, hp 1, hb 0, hb 1, hb 2, hb 3, hc 0, hc 1, hc 2, hc 3⟩
    have HT2 : Hid (∀ X : World, Below w7.heap.size w7 X → (fun w' => w'.cell? ⟨w.heap.size, 0, none⟩ = some (.int .i64 i) ∧ w'.cell? ⟨w.heap.size, 1, none⟩ = some (.int .i64 q) ∧ w'.cell? ⟨B, 0, none⟩ = some (.int .i64 s1.quote) ∧ w'.cell? ⟨B, 1, none⟩ = some (.slice a1 s1.lists.length c1) ∧ w'.cell? ⟨B, 2, none⟩ = some (.int .i64 s1.kind) ∧ w'.cell? ⟨B, 3, none⟩ = some (.slice a2 s1.cells.length c2) ∧ w'.cell? ⟨C, 0, none⟩ = some (.int .i64 s2.quote) ∧ w'.cell? ⟨C, 1, none⟩ = some (.slice a3 s2.lists.length c3) ∧ w'.cell? ⟨C, 2, none⟩ = some (.int .i64 s2.kind) ∧ w'.cell? ⟨C, 3, none⟩ = some (.slice a4 s2.cells.length c4)) X) := zA fun X hX => HT3.out X X hX rfl rfl rfl;have hB0 : Below w7.heap.size w7 w7.drew := (zE _ _).drew;have w1e : IntKind.i64.wrap ((i : Int) + 1) = (i : Int) + 1 := IntWalk.i64_in _ qC;clear ia ib ic id' yB yC;go_wp2_with fail;refine wp_region_noPanic ?_;refine wp_region_held_drew (S := (fun w' => w'.cell? ⟨w.heap.size, 0, none⟩ = some (.int .i64 i) ∧ w'.cell? ⟨w.heap.size, 1, none⟩ = some (.int .i64 q) ∧ w'.cell? ⟨B, 0, none⟩ = some (.int .i64 s1.quote) ∧ w'.cell? ⟨B, 1, none⟩ = some (.slice a1 s1.lists.length c1) ∧ w'.cell? ⟨B, 2, none⟩ = some (.int .i64 s1.kind) ∧ w'.cell? ⟨B, 3, none⟩ = some (.slice a2 s1.cells.length c2) ∧ w'.cell? ⟨C, 0, none⟩ = some (.int .i64 s2.quote) ∧ w'.cell? ⟨C, 1, none⟩ = some (.slice a3 s2.lists.length c3) ∧ w'.cell? ⟨C, 2, none⟩ = some (.int .i64 s2.kind) ∧ w'.cell? ⟨C, 3, none⟩ = some (.slice a4 s2.cells.length c4))) zT (HT2.out _ hB0) (fun hHeld => ?_);obtain ⟨X0, hX0⟩ : ∃ X, w7.drew = X := ⟨_, rfl⟩;rw [hX0] at hB0 hHeld ⊢;have N0 := zA hB0;clear hX0 hB0;refine zP (i := 0) (v := ?_) zAu zT zT zT (fun _ _ _ h => h) (Or.inl ⟨by rfl, ?_⟩) jA ?_;rotate_left 1
    ·intro w hSw; (try dsimp only at hSw); go_simp; (first | done | with_reducible rfl)
    try simp only [zU, qI, qX, qY]
    refine zP (i := 2) (v := ?_) qT zT zT zT (fun _ _ _ h => h) (Or.inl ⟨by rfl, ?_⟩) jA ?_;rotate_left 1
    ·intro w hSw; (try dsimp only at hSw); go_simp; (first | done | with_reducible rfl)
    try simp only [zU, qI, qX, qY]
    refine zP (i := 3) (v := ?_) qT zT zT zT (fun _ _ _ h => h) (Or.inl ⟨by rfl, ?_⟩) jA ?_;rotate_left 1
    ·intro w hSw; (try dsimp only at hSw); go_simp; (first | done | with_reducible rfl)
    try simp only [zU, qI, qX, qY]
    refine zP (i := 4) (v := ?_) qT zT zT zT (fun _ _ _ h => h) (Or.inl ⟨by rfl, ?_⟩) jA ?_;rotate_left 1
    ·intro w hSw; (try dsimp only at hSw); go_simp; (first | done | with_reducible rfl)
    try simp only [zU, qI, qX, qY]
    refine zP (i := 5) (v := ?_) qT zT zT zT (fun _ _ _ h => h) (Or.inl ⟨by rfl, ?_⟩) jA ?_;rotate_left 1
    ·intro w hSw; (try dsimp only at hSw); go_simp; (first | done | with_reducible rfl)
    try simp only [zU, qI, qX, qY]
    refine zP (i := 6) (v := ?_) qT zT zT zT (fun _ _ _ h => h) (Or.inl ⟨by rfl, ?_⟩) jA ?_;rotate_left 1
    ·intro w hSw; (try dsimp only at hSw); go_simp; (first | done | with_reducible rfl)
    try simp only [zU, qI, qX, qY]
    refine zP (i := 7) (v := ?_) qT zT zT zT (fun _ _ _ h => h) (Or.inl ⟨by rfl, ?_⟩) jA ?_;rotate_left 1
    ·intro w hSw; (try dsimp only at hSw); go_simp; (first | done | with_reducible rfl)
    try simp only [zU, qI, qX, qY]
    refine zP (i := 8) (v := ?_) qT zT zT zT (fun _ _ _ h => h) (Or.inl ⟨by rfl, ?_⟩) jA ?_;rotate_left 1
    ·intro w hSw; (try dsimp only at hSw); go_simp; (first | done | with_reducible rfl)
    try simp only [zU, qI, qX, qY]
    refine zP (i := 11) (v := ?_) qT zT zT zT (fun _ _ _ h => h) (Or.inl ⟨by rfl, ?_⟩) jA ?_;rotate_left 1
    ·intro w hSw; (try dsimp only at hSw); go_simp; (first | done | with_reducible rfl)
    try simp only [zU, qI, qX, qY]
    refine zP (i := 12) (v := ?_) qT zT zT zT (fun _ _ _ h => h) (Or.inl ⟨by rfl, ?_⟩) jA ?_;rotate_left 1
    ·intro w hSw; (try dsimp only at hSw); go_simp; (first | done | with_reducible rfl)
    try simp only [zU, qI, qX, qY]
    refine zP (i := 13) (v := ?_) qT zT zT zT (fun _ _ _ h => h) (Or.inl ⟨by rfl, ?_⟩) jA ?_;rotate_left 1
    ·intro w hSw; (try dsimp only at hSw); go_simp; (first | done | with_reducible rfl)
    try simp only [zU, qI, qX, qY]
    refine zP (i := 14) (v := ?_) qT zT zT zT (fun _ _ _ h => h) (Or.inl ⟨by rfl, ?_⟩) jA ?_;rotate_left 1
    ·intro w hSw; (try dsimp only at hSw); go_simp; (first | done | with_reducible rfl)
    try simp only [zU, qI, qX, qY]
    clear w1e
    -- TREE6
    refine zQ (rs := [1, 9]) zT qE ?_;refine zN qT (fun K hK => ?_) ?_
    ·go_simp
     refine (HO.out _ (zW hW7 N0.out)).mono ?_;rintro e X1 ⟨v3, rfl, ho3, hst1⟩;obtain ⟨b3, o3, c3', la3, lc3, ca3, cc3, rfl, hc3, hm3, hA3, hI3, hC3, hS3⟩ := uU ho3 HLL.out;have hu := N0.out.size;have t1_0 := zW N0.out hst1;have t1_1 := qG (zZ true) ho3 (qM _ _) (S' := fun b => w7.heap.size ≤ b) (fun b h _ => zD hu h);have N1 := zA (zB t1_0 (t1_1));refine hK.out _ _ (HT2.out _ N1.out.1) (fun hHeld1 => ?_);clear hK K t1_0 t1_1 hHeld N0 hst1;try simp only [zU, qI, qX, qY]
     clear ho3 hc3 hm3 hA3 hI3 hC3 hS3 hu;refine zQ (rs := [9]) zT qE ?_;refine zN qT (fun K hK => ?_) ?_
     ·go_simp
      obtain ⟨X2, hX2⟩ : ∃ X, X1.alloc (.cells #[.int .i64 s1.quote, .slice a1 s1.lists.length c1, .int .i64 s1.kind, .slice a2 s1.cells.length c2, .int .i64 s2.quote, .slice a3 s2.lists.length c3, .int .i64 s2.kind, .slice a4 s2.cells.length c4] 47) = X := ⟨_, rfl⟩;rw [hX2];have hst2 : Below X1.heap.size X1 X2 := hX2 ▸ (zE _ _).alloc (zC _) _;have z2 : X2.heap[X1.heap.size]? = some (.cells #[.int .i64 s1.quote, .slice a1 s1.lists.length c1, .int .i64 s1.kind, .slice a2 s1.cells.length c2, .int .i64 s2.quote, .slice a3 s2.lists.length c3, .int .i64 s2.kind, .slice a4 s2.cells.length c4] 47) := hX2 ▸ qF _ _ rfl;clear hX2
      have hne : ¬ X1.heap.size = b3 := by
       obtain ⟨b', o', cs, e, _, hg, _⟩ := SliceR.cellAt N1.out.2 (i := i) hil;cases e;have := (zL.1 hg).1
       omega
      have t2_0 := zW N1.out.1 hst2;have t2_1 := qH (zZ true) N1.out.2 hst2;have t2_2 := z2;have t2_3 := N1.out.1.size;have t2_4 := hne;have N2 := zA (zB t2_0 (zB t2_1 (zB t2_2 (zB t2_3 (t2_4)))));refine hK.out _ _ (HT2.out _ N2.out.1) (fun hHeld2 => ?_);clear hK K t2_0 t2_1 t2_2 t2_3 t2_4 hHeld1 N1 hst2;try simp only [zU, qI, qX, qY]
      clear z2;have hg := N2.out.2.2.2.1;have hbx := zW hb27 N2.out.1;have hIC := HIC.out _ N2.out.1;have hnew := zFK (S := fun b => w2.heap.size ≤ b) N2.out.2.2.1 hIC.1 hIC.2.1 hIC.2.2.1 hIC.2.2.2 (by show w2.heap.size ≤ X1.heap.size; omega);have hown := qG (zZ true) N2.out.2.1 (qM _ _) (S' := fun b => w2.heap.size ≤ b) (fun b h _ => zD hw27 h);have hC7 := zEd b3 o3 d.length c3' (X1.heap.size) 0 2 d s1 s2 i w2.heap.size _ hown hnew N2.out.2.2.2.2 (by have := hbx.size; omega) hil hlen
      have hb3 : w7.heap.size ≤ b3 := by
       obtain ⟨b', o', cs, e, hsb, _, _⟩ := SliceR.cellAt N2.out.2.1 (i := i) hil;cases e;exact hsb
      rw [show ((i + 1 : Nat) : Int) = (i : Int) + 1 by omega] at hC7;have HC7 := zA hC7;clear hC7 hown hnew hIC;refine zQ (rs := [10]) zT qE ?_;refine zN qT (fun K hK => ?_) zO;go_simp
      with_reducible refine HC7.out.mono ?_
      rintro e Y ⟨v7, rfl, hv7, hb7, hf7⟩;have hkB : Y.heap[B]? = X2.heap[B]? := hf7 B zCp qC;have hkC : Y.heap[C]? = X2.heap[C]? := hf7 C zCp qC;have hkw : Y.heap[w.heap.size]? = X2.heap[w.heap.size]? := hb7.block _ qC;have hkp : Y.heap[w.heap.size + 1]? = X2.heap[w.heap.size + 1]? := hb7.block _ qC;refine hK.out _ _ (HT3.out X2 Y N2.out.1 hkw hkB hkC) (fun hHeld => ?_);clear hK K;try simp only [zU, qI, qX, qY]
      refine zP (i := 15) (v := ?_) qT zT zT zT (fun _ _ _ h => h) (Or.inl ⟨by rfl, ?_⟩) jA ?_;rotate_left 1
      ·intro w hSw; (try dsimp only at hSw); go_simp; (first | done | with_reducible rfl)
      try simp only [zU, qI, qX, qY]
      have y1 := hkp.trans (HPB.out _ hbx);obtain ⟨q8, f8⟩ := blk y1;refine zQ (rs := [16]) zT qE ?_;refine zN qT (fun K hK => ?_) zO;go_simp;obtain ⟨Y2, hY2⟩ : ∃ Y2, (Y.setCell ⟨w.heap.size + 1, 0, none⟩ (.int .i64 ((i : Int) + 1))).setCell ⟨w.heap.size + 1, 1, none⟩ (.int .i64 0) = Y2 := ⟨_, rfl⟩;rw [hY2];have y2k : ∀ b, w.heap.size + 1 ≠ b → Y2.heap[b]? = Y.heap[b]? := fun b hb => by rw [← hY2]; simp [jL, hb]
      have y2p : Y2.heap[w.heap.size + 1]? = some (.cells #[.int .i64 ((i : Int) + 1), .int .i64 0] 24) := by rw [← hY2]; simp [jL, qW, y1]
      have y2b : Below w.heap.size w Y → Below w.heap.size w Y2 := fun hq => hY2 ▸ (hq.setCell vH _).setCell vH _;refine hK.out _ _ (HT3.out X2 Y2 N2.out.1 ((y2k _ qC).trans hkw) ((y2k _ qC).trans hkB) ((y2k _ qC).trans hkC)) (fun hHeld => ?_);clear hK K q8 f8;try simp only [zU, qI, qX, qY]
      refine zP (i := 17) (v := ?_) qT zT zT zT (fun _ _ _ h => h) (Or.inl ⟨by rfl, ?_⟩) jA ?_;rotate_left 1
      ·intro w hSw; (try dsimp only at hSw); go_simp; (first | done | with_reducible rfl)
      try simp only [zU, qI, qX, qY]
      refine wpAnyH_done zT ?_ _;refine NoPanic.normal ?_;have hbY : Below w.heap.size w Y := (hwW2.trans (hbx.mono hww2)).trans (hb7.mono hww2);have hvY2 : DocR true Y2 (fun b => w.heap.size ≤ b) v7 (d.take i ++ [s1, s2] ++ d.drop (i + 1)) := qG (zZ true) hv7 (S' := fun b => w.heap.size ≤ b) ⟨by rw [← hY2]; simp, fun b hb _ => y2k b zDw⟩ (fun b hb _ => zD hww2 hb);go_wp2_with fail;refine zM (kK rfl _ _ (w.heap.size + 1) (.int .i64 ((i : Int) + 1)) (.int .i64 0) rfl y2p) rfl ?_;unfold DocPSaid;rw [HR.out];exact ⟨_, rfl, hvY2, y2b hbY⟩
     exact zO
    refine zN qT (fun K hK => ?_) ?_
    ·go_simp
     obtain ⟨X1, hX1⟩ : ∃ X, X0.alloc (.cells #[.int .i64 s1.quote, .slice a1 s1.lists.length c1, .int .i64 s1.kind, .slice a2 s1.cells.length c2, .int .i64 s2.quote, .slice a3 s2.lists.length c3, .int .i64 s2.kind, .slice a4 s2.cells.length c4] 47) = X := ⟨_, rfl⟩;rw [hX1];have hst1 : Below X0.heap.size X0 X1 := hX1 ▸ (zE _ _).alloc (zC _) _;have z1 : X1.heap[X0.heap.size]? = some (.cells #[.int .i64 s1.quote, .slice a1 s1.lists.length c1, .int .i64 s1.kind, .slice a2 s1.cells.length c2, .int .i64 s2.quote, .slice a3 s2.lists.length c3, .int .i64 s2.kind, .slice a4 s2.cells.length c4] 47) := hX1 ▸ qF _ _ rfl;clear hX1;have t1_0 := zW N0.out hst1;have t1_1 := z1;have t1_2 := N0.out.size;have N1 := zA (zB t1_0 (zB t1_1 (t1_2)));refine hK.out _ _ (HT2.out _ N1.out.1) (fun hHeld1 => ?_);clear hK K t1_0 t1_1 t1_2 hHeld N0 hst1;try simp only [zU, qI, qX, qY]
     clear z1;refine zQ (rs := [1]) zT qE ?_;refine zN qT (fun K hK => ?_) ?_
     ·go_simp
      refine (HO.out _ (zW hW7 N1.out.1)).mono ?_;rintro e X2 ⟨v3, rfl, ho3, hst2⟩;obtain ⟨b3, o3, c3', la3, lc3, ca3, cc3, rfl, hc3, hm3, hA3, hI3, hC3, hS3⟩ := uU ho3 HLL.out;have hu := N1.out.1.size
      have hne : ¬ X0.heap.size = b3 := by
       have h1 : X1.heap.size ≤ b3 := hS3;have h2 := (zL.1 N1.out.2.1).1
       omega
      have t2_0 := zW N1.out.1 hst2;have t2_1 := zX hst2 N1.out.2.1;have t2_2 := N1.out.2.2;have t2_3 := qG (zZ true) ho3 (qM _ _) (S' := fun b => w7.heap.size ≤ b) (fun b h _ => zD hu h);have t2_4 := hne;have N2 := zA (zB t2_0 (zB t2_1 (zB t2_2 (zB t2_3 (t2_4)))));refine hK.out _ _ (HT2.out _ N2.out.1) (fun hHeld2 => ?_);clear hK K t2_0 t2_1 t2_2 t2_3 t2_4 hHeld1 N1 hst2;try simp only [zU, qI, qX, qY]
      clear ho3 hc3 hm3 hA3 hI3 hC3 hS3 hu hne;have hg := N2.out.2.2.1;have hbx := zW hb27 N2.out.1;have hIC := HIC.out _ N2.out.1;have hnew := zFK (S := fun b => w2.heap.size ≤ b) N2.out.2.1 hIC.1 hIC.2.1 hIC.2.2.1 hIC.2.2.2 (by show w2.heap.size ≤ X0.heap.size; omega);have hown := qG (zZ true) N2.out.2.2.2.1 (qM _ _) (S' := fun b => w2.heap.size ≤ b) (fun b h _ => zD hw27 h);have hC7 := zEd b3 o3 d.length c3' (X0.heap.size) 0 2 d s1 s2 i w2.heap.size _ hown hnew N2.out.2.2.2.2 (by have := hbx.size; omega) hil hlen
      have hb3 : w7.heap.size ≤ b3 := by
       obtain ⟨b', o', cs, e, hsb, _, _⟩ := SliceR.cellAt N2.out.2.2.2.1 (i := i) hil;cases e;exact hsb
      rw [show ((i + 1 : Nat) : Int) = (i : Int) + 1 by omega] at hC7;have HC7 := zA hC7;clear hC7 hown hnew hIC;refine zQ (rs := [10]) zT qE ?_;refine zN qT (fun K hK => ?_) zO;go_simp
      with_reducible refine HC7.out.mono ?_
      rintro e Y ⟨v7, rfl, hv7, hb7, hf7⟩;have hkB : Y.heap[B]? = X2.heap[B]? := hf7 B zCp qC;have hkC : Y.heap[C]? = X2.heap[C]? := hf7 C zCp qC;have hkw : Y.heap[w.heap.size]? = X2.heap[w.heap.size]? := hb7.block _ qC;have hkp : Y.heap[w.heap.size + 1]? = X2.heap[w.heap.size + 1]? := hb7.block _ qC;refine hK.out _ _ (HT3.out X2 Y N2.out.1 hkw hkB hkC) (fun hHeld => ?_);clear hK K;try simp only [zU, qI, qX, qY]
      refine zP (i := 15) (v := ?_) qT zT zT zT (fun _ _ _ h => h) (Or.inl ⟨by rfl, ?_⟩) jA ?_;rotate_left 1
      ·intro w hSw; (try dsimp only at hSw); go_simp; (first | done | with_reducible rfl)
      try simp only [zU, qI, qX, qY]
      have y1 := hkp.trans (HPB.out _ hbx);obtain ⟨q8, f8⟩ := blk y1;refine zQ (rs := [16]) zT qE ?_;refine zN qT (fun K hK => ?_) zO;go_simp;obtain ⟨Y2, hY2⟩ : ∃ Y2, (Y.setCell ⟨w.heap.size + 1, 0, none⟩ (.int .i64 ((i : Int) + 1))).setCell ⟨w.heap.size + 1, 1, none⟩ (.int .i64 0) = Y2 := ⟨_, rfl⟩;rw [hY2];have y2k : ∀ b, w.heap.size + 1 ≠ b → Y2.heap[b]? = Y.heap[b]? := fun b hb => by rw [← hY2]; simp [jL, hb]
      have y2p : Y2.heap[w.heap.size + 1]? = some (.cells #[.int .i64 ((i : Int) + 1), .int .i64 0] 24) := by rw [← hY2]; simp [jL, qW, y1]
      have y2b : Below w.heap.size w Y → Below w.heap.size w Y2 := fun hq => hY2 ▸ (hq.setCell vH _).setCell vH _;refine hK.out _ _ (HT3.out X2 Y2 N2.out.1 ((y2k _ qC).trans hkw) ((y2k _ qC).trans hkB) ((y2k _ qC).trans hkC)) (fun hHeld => ?_);clear hK K q8 f8;try simp only [zU, qI, qX, qY]
      refine zP (i := 17) (v := ?_) qT zT zT zT (fun _ _ _ h => h) (Or.inl ⟨by rfl, ?_⟩) jA ?_;rotate_left 1
      ·intro w hSw; (try dsimp only at hSw); go_simp; (first | done | with_reducible rfl)
      try simp only [zU, qI, qX, qY]
      refine wpAnyH_done zT ?_ _;refine NoPanic.normal ?_;have hbY : Below w.heap.size w Y := (hwW2.trans (hbx.mono hww2)).trans (hb7.mono hww2);have hvY2 : DocR true Y2 (fun b => w.heap.size ≤ b) v7 (d.take i ++ [s1, s2] ++ d.drop (i + 1)) := qG (zZ true) hv7 (S' := fun b => w.heap.size ≤ b) ⟨by rw [← hY2]; simp, fun b hb _ => y2k b zDw⟩ (fun b hb _ => zD hww2 hb);go_wp2_with fail;refine zM (kK rfl _ _ (w.heap.size + 1) (.int .i64 ((i : Int) + 1)) (.int .i64 0) rfl y2p) rfl ?_;unfold DocPSaid;rw [HR.out];exact ⟨_, rfl, hvY2, y2b hbY⟩
     exact zO
    exact zO
    -- END TREE6
   ·have hB0 : Below w2.heap.size w2 w2.drew := (zE _ _).drew
    refine wp_region_held_drew (S := (fun w' => w'.cell? ⟨w.heap.size, 0, none⟩ = some (.int .i64 i) ∧ w'.cell? ⟨w.heap.size, 1, none⟩ = some (.int .i64 q) ∧ w'.cell? ⟨b1, o1 + i * 4, none⟩ = some (.int .i64 l.quote) ∧ w'.cell? ⟨b1, o1 + i * 4 + 1, none⟩ = some (.slice la l.lists.length lc) ∧ w'.cell? ⟨b1, o1 + i * 4 + 2, none⟩ = some (.int .i64 l.kind) ∧ w'.cell? ⟨b1, o1 + i * 4 + 3, none⟩ = some (.slice ca l.cells.length cc))) zT (HS2.out _ (zW hb2 hB0)) (fun hHeld => ?_);obtain ⟨X0, hX0⟩ : ∃ X, w2.drew = X := ⟨_, rfl⟩;rw [hX0] at hB0 hHeld ⊢;have N0 := zA hB0;clear hX0 hB0;refine zP (i := 0) (v := ?_) zAu zT zT zT (fun _ _ _ h => h) (Or.inl ⟨by rfl, ?_⟩) jA ?_;rotate_left 1
    ·intro w hSw; (try dsimp only at hSw); go_simp; (first | done | with_reducible rfl)
    try simp only [zU, qI, qX, qY]
    refine zP (i := 1) (v := ?_) qT zT zT zT (fun _ _ _ h => h) (Or.inl ⟨by rfl, ?_⟩) jA ?_;rotate_left 1
    ·intro w hSw; (try dsimp only at hSw); go_simp; (first | done | with_reducible rfl)
    try simp only [zU, qI, qX, qY]
    refine zP (i := 2) (v := ?_) qT zT zT zT (fun _ _ _ h => h) (Or.inl ⟨by rfl, ?_⟩) jA ?_;rotate_left 1
    ·intro w hSw; (try dsimp only at hSw); go_simp; (first | done | with_reducible rfl)
    try simp only [zU, qI, qX, qY]
    refine zP (i := 3) (v := ?_) qT zT zT zT (fun _ _ _ h => h) (Or.inl ⟨by rfl, ?_⟩) jA ?_;rotate_left 1
    ·intro w hSw; (try dsimp only at hSw); go_simp; (first | done | with_reducible rfl)
    try simp only [zU, qI, qX, qY]
    refine zP (i := 4) (v := ?_) qT zT zT zT (fun _ _ _ h => h) (Or.inl ⟨by rfl, ?_⟩) jA ?_;rotate_left 1
    ·intro w hSw; (try dsimp only at hSw); go_simp; (first | done | with_reducible rfl)
    try simp only [zU, qI, qX, qY]
    refine zP (i := 5) (v := ?_) qT zT zT zT (fun _ _ _ h => h) (Or.inl ⟨by rfl, ?_⟩) jA ?_;rotate_left 1
    ·intro w hSw; (try dsimp only at hSw); go_simp; (first | done | with_reducible rfl)
    try simp only [zU, qI, qX, qY]
    refine zP (i := 6) (v := ?_) qT zT zT zT (fun _ _ _ h => h) (Or.inl ⟨by rfl, ?_⟩) jA ?_;rotate_left 1
    ·intro w hSw; (try dsimp only at hSw); go_simp; (first | done | with_reducible rfl)
    try simp only [zU, qI, qX, qY]
    -- TREE5
    refine zQ (rs := [7, 12, 13]) zT qE ?_;refine zN qT (fun K hK => ?_) ?_
    ·go_simp
     refine (HLS.out _ (zW hb2 N0.out)).mono ?_;rintro e X1 ⟨x1, x2, y1, y2, rfl, ha, hb, hc, hd, hst1⟩;obtain ⟨a1, c1, rfl⟩ := ha.slice;obtain ⟨a2, c2, rfl⟩ := hb.slice;obtain ⟨a3, c3, rfl⟩ := hc.slice;obtain ⟨a4, c4, rfl⟩ := hd.slice;have hu := N0.out.size;have t1_0 := zW N0.out hst1;have t1_1 := qG (qB _) ha (qM _ _) (S' := fun b => w2.heap.size ≤ b) (fun b h _ => zD hu h);have t1_2 := qG (qB _) hb (qM _ _) (S' := fun b => w2.heap.size ≤ b) (fun b h _ => zD hu h);have t1_3 := qG (qB _) hc (qM _ _) (S' := fun b => w2.heap.size ≤ b) (fun b h _ => zD hu h);have t1_4 := qG (qB _) hd (qM _ _) (S' := fun b => w2.heap.size ≤ b) (fun b h _ => zD hu h);have N1 := zA (zB t1_0 (zB t1_1 (zB t1_2 (zB t1_3 (t1_4)))));refine hK.out _ _ (HS2.out _ (zW hb2 N1.out.1)) (fun hHeld1 => ?_);clear hK K t1_0 t1_1 t1_2 t1_3 t1_4 hHeld N0 hst1;try simp only [zU, qI, qX, qY]
     clear ha hb hc hd hu;refine zP (i := 8) (v := ?_) qT zT zT zT (fun _ _ _ h => h) (Or.inl ⟨by rfl, ?_⟩) jA ?_;rotate_left 1
     ·intro w hSw; (try dsimp only at hSw); go_simp; (first | done | with_reducible rfl)
     try simp only [zU, qI, qX, qY]
     refine zP (i := 9) (v := ?_) qT zT zT zT (fun _ _ _ h => h) (Or.inl ⟨by rfl, ?_⟩) jA ?_;rotate_left 1
     ·intro w hSw; (try dsimp only at hSw); go_simp; (first | done | with_reducible rfl)
     try simp only [zU, qI, qX, qY]
     refine zP (i := 10) (v := ?_) qT zT zT zT (fun _ _ _ h => h) (Or.inl ⟨by rfl, ?_⟩) jA ?_;rotate_left 1
     ·intro w hSw; (try dsimp only at hSw); go_simp; (first | done | with_reducible rfl)
     try simp only [zU, qI, qX, qY]
     refine zP (i := 11) (v := ?_) qT zT zT zT (fun _ _ _ h => h) (Or.inl ⟨by rfl, ?_⟩) jA ?_;rotate_left 1
     ·intro w hSw; (try dsimp only at hSw); go_simp; (first | done | with_reducible rfl)
     try simp only [zU, qI, qX, qY]
     refine zQ (rs := [12, 13]) zT qE ?_;refine zN qT (fun K hK => ?_) ?_
     ·go_simp
      obtain ⟨X2, hX2⟩ : ∃ X, X1.alloc (.cells #[.int .i64 0, .slice none 0 0, .int .i64 0, .slice none 0 0] 47) = X := ⟨_, rfl⟩;rw [hX2];have hst2 : Below X1.heap.size X1 X2 := hX2 ▸ (zE _ _).alloc (zC _) _;have z2 : X2.heap[X1.heap.size]? = some (.cells #[.int .i64 0, .slice none 0 0, .int .i64 0, .slice none 0 0] 47) := hX2 ▸ qF _ _ rfl;clear hX2;have t2_0 := zW N1.out.1 hst2;have t2_1 := qH (qB _) N1.out.2.1 hst2;have t2_2 := qH (qB _) N1.out.2.2.1 hst2;have t2_3 := qH (qB _) N1.out.2.2.2.1 hst2;have t2_4 := qH (qB _) N1.out.2.2.2.2 hst2;have t2_5 := z2;have t2_6 := N1.out.1.size;have N2 := zA (zB t2_0 (zB t2_1 (zB t2_2 (zB t2_3 (zB t2_4 (zB t2_5 (t2_6)))))));refine hK.out _ _ (HS2.out _ (zW hb2 N2.out.1)) (fun hHeld2 => ?_);clear hK K t2_0 t2_1 t2_2 t2_3 t2_4 t2_5 t2_6 hHeld1 N1 hst2;try simp only [zU, qI, qX, qY]
      clear z2;refine zQ (rs := [13]) zT qE ?_;refine zN qT (fun K hK => ?_) ?_
      ·go_simp
       obtain ⟨X3, hX3⟩ : ∃ X, X2.alloc (.cells #[.int .i64 0, .slice none 0 0, .int .i64 0, .slice none 0 0] 47) = X := ⟨_, rfl⟩;rw [hX3];have hst3 : Below X2.heap.size X2 X3 := hX3 ▸ (zE _ _).alloc (zC _) _;have z3 : X3.heap[X2.heap.size]? = some (.cells #[.int .i64 0, .slice none 0 0, .int .i64 0, .slice none 0 0] 47) := hX3 ▸ qF _ _ rfl;clear hX3;have t3_0 := zW N2.out.1 hst3;have t3_1 := qH (qB _) N2.out.2.1 hst3;have t3_2 := qH (qB _) N2.out.2.2.1 hst3;have t3_3 := qH (qB _) N2.out.2.2.2.1 hst3;have t3_4 := qH (qB _) N2.out.2.2.2.2.1 hst3;have t3_5 := zX hst3 N2.out.2.2.2.2.2.1;have t3_6 := N2.out.2.2.2.2.2.2;have t3_7 := z3;have t3_8 := N2.out.1.size;have t3_9 := (zL.1 N2.out.2.2.2.2.2.1).1;have N3 := zA (zB t3_0 (zB t3_1 (zB t3_2 (zB t3_3 (zB t3_4 (zB t3_5 (zB t3_6 (zB t3_7 (zB t3_8 (t3_9))))))))));refine hK.out _ _ (HS2.out _ (zW hb2 N3.out.1)) (fun hHeld3 => ?_);clear hK K t3_0 t3_1 t3_2 t3_3 t3_4 t3_5 t3_6 t3_7 t3_8 t3_9 hHeld2 N2 hst3;try simp only [zU, qI, qX, qY]
       clear z3;have z4 := N3.out.2.2.2.2.2.1;have z5 := N3.out.2.2.2.2.2.2.2.1;have eB := N3.out.2.2.2.2.2.2.1;have eC := N3.out.2.2.2.2.2.2.2.2.1;have nBC : ¬ X1.heap.size = X2.heap.size := by have := N3.out.2.2.2.2.2.2.2.2.2; omega
       have nCB : ¬ X2.heap.size = X1.heap.size := fun e => nBC e.symm;have mB : w.heap.size ≠ X1.heap.size := by omega
       have nB : b1 ≠ X1.heap.size := by omega
       have mC : w.heap.size ≠ X2.heap.size := by omega
       have nC : b1 ≠ X2.heap.size := by omega
       obtain ⟨q4, f4⟩ := blk z4;refine zQ (rs := [14]) zT qE ?_;refine zN qT (fun K hK => ?_) zO;go_simp;obtain ⟨Y6, hY6, y6B, y6z, y6k, y6b⟩ := jX X3 (X1.heap.size) 47 (.int .i64 0) (.slice none 0 0) (.int .i64 0) (.slice none 0 0) (.int .i64 s1.quote) (.slice a1 s1.lists.length c1) (.int .i64 s1.kind) (.slice a2 s1.cells.length c2) z4;rw [hY6];have z5y := (y6k _ nCB).trans z5;refine hK.out _ _ (HS3.out X3 Y6 (zW hb2 N3.out.1) (y6k _ mB) (y6k _ nB)) (fun hHeld => ?_);have Z6 := zA (zB y6B (zB y6k y6b));obtain ⟨q5, f5⟩ := blk z5y;clear hK K hY6 q4 f4 y6B y6k y6b;try simp only [zU, qI, qX, qY]
       refine zQ (rs := [15]) zT qE ?_;refine zN qT (fun K hK => ?_) zO;go_simp;obtain ⟨Y7, hY7, y7B, y7z, y7k, y7b⟩ := jX Y6 (X2.heap.size) 47 (.int .i64 0) (.slice none 0 0) (.int .i64 0) (.slice none 0 0) (.int .i64 s2.quote) (.slice a3 s2.lists.length c3) (.int .i64 s2.kind) (.slice a4 s2.cells.length c4) z5y;rw [hY7];refine hK.out _ _ (HS3.out X3 Y7 (zW hb2 N3.out.1) ((y7k _ mC).trans (Z6.out.2.1 _ mB)) ((y7k _ nC).trans (Z6.out.2.1 _ nB))) (fun hHeld => ?_);clear hK K q5 f5;try simp only [zU, qI, qX, qY]
       refine zP (i := 16) (v := ?_) qT zT zT zT (fun _ _ _ h => h) (Or.inl ⟨by rfl, ?_⟩) jA ?_;rotate_left 1
       ·intro w hSw; (try dsimp only at hSw); go_simp; (first | done | with_reducible rfl)
       try simp only [zU, qI, qX, qY]
       refine wpAnyH_done zT ?_ _;have key : ∀ b : Nat, (∀ cs, X3.heap[b]? ≠ some (.cells cs 47)) → Y7.heap[b]? = X3.heap[b]? := fun b hno => (y7k b (fun e => by subst e; exact hno _ z5)).trans (Z6.out.2.1 b (fun e => by subst e; exact hno _ z4));exact ⟨X1.heap.size, X2.heap.size, a1, c1, a2, c2, a3, c3, a4, c4, _, _, _, _, _, _, _, _, _, _, _, _, _, _, _, _, _, _, _, _, _, _, _, _, _, _, _, _, _, _, _, _, _, _, _, _, _, _, _, _, rfl, eB, eC, nBC, (y7k _ nBC).trans Z6.out.1, y7B, qJ (jK _ _) qV N3.out.2.1 qC (fun b _ _ hno => key b hno) (fun b h _ => h), qJ (jK _ _) qV N3.out.2.2.1 qC (fun b _ _ hno => key b hno) (fun b h _ => h), qJ (jK _ _) qV N3.out.2.2.2.1 qC (fun b _ _ hno => key b hno) (fun b h _ => h), qJ (jK _ _) qV N3.out.2.2.2.2.1 qC (fun b _ _ hno => key b hno) (fun b h _ => h), y7b _ eC _ (Z6.out.2.2 _ eB _ N3.out.1)⟩
      exact zO
     refine zN qT (fun K hK => ?_) ?_
     ·go_simp
      obtain ⟨X2, hX2⟩ : ∃ X, X1.alloc (.cells #[.int .i64 0, .slice none 0 0, .int .i64 0, .slice none 0 0] 47) = X := ⟨_, rfl⟩;rw [hX2];have hst2 : Below X1.heap.size X1 X2 := hX2 ▸ (zE _ _).alloc (zC _) _;have z2 : X2.heap[X1.heap.size]? = some (.cells #[.int .i64 0, .slice none 0 0, .int .i64 0, .slice none 0 0] 47) := hX2 ▸ qF _ _ rfl;clear hX2;have t2_0 := zW N1.out.1 hst2;have t2_1 := qH (qB _) N1.out.2.1 hst2;have t2_2 := qH (qB _) N1.out.2.2.1 hst2;have t2_3 := qH (qB _) N1.out.2.2.2.1 hst2;have t2_4 := qH (qB _) N1.out.2.2.2.2 hst2;have t2_5 := z2;have t2_6 := N1.out.1.size;have N2 := zA (zB t2_0 (zB t2_1 (zB t2_2 (zB t2_3 (zB t2_4 (zB t2_5 (t2_6)))))));refine hK.out _ _ (HS2.out _ (zW hb2 N2.out.1)) (fun hHeld2 => ?_);clear hK K t2_0 t2_1 t2_2 t2_3 t2_4 t2_5 t2_6 hHeld1 N1 hst2;try simp only [zU, qI, qX, qY]
      clear z2;refine zQ (rs := [12]) zT qE ?_;refine zN qT (fun K hK => ?_) ?_
      ·go_simp
       obtain ⟨X3, hX3⟩ : ∃ X, X2.alloc (.cells #[.int .i64 0, .slice none 0 0, .int .i64 0, .slice none 0 0] 47) = X := ⟨_, rfl⟩;rw [hX3];have hst3 : Below X2.heap.size X2 X3 := hX3 ▸ (zE _ _).alloc (zC _) _;have z3 : X3.heap[X2.heap.size]? = some (.cells #[.int .i64 0, .slice none 0 0, .int .i64 0, .slice none 0 0] 47) := hX3 ▸ qF _ _ rfl;clear hX3;have t3_0 := zW N2.out.1 hst3;have t3_1 := qH (qB _) N2.out.2.1 hst3;have t3_2 := qH (qB _) N2.out.2.2.1 hst3;have t3_3 := qH (qB _) N2.out.2.2.2.1 hst3;have t3_4 := qH (qB _) N2.out.2.2.2.2.1 hst3;have t3_5 := zX hst3 N2.out.2.2.2.2.2.1;have t3_6 := N2.out.2.2.2.2.2.2;have t3_7 := z3;have t3_8 := N2.out.1.size;have t3_9 := (zL.1 N2.out.2.2.2.2.2.1).1;have N3 := zA (zB t3_0 (zB t3_1 (zB t3_2 (zB t3_3 (zB t3_4 (zB t3_5 (zB t3_6 (zB t3_7 (zB t3_8 (t3_9))))))))));refine hK.out _ _ (HS2.out _ (zW hb2 N3.out.1)) (fun hHeld3 => ?_);clear hK K t3_0 t3_1 t3_2 t3_3 t3_4 t3_5 t3_6 t3_7 t3_8 t3_9 hHeld2 N2 hst3;try simp only [zU, qI, qX, qY]
       clear z3;have z4 := N3.out.2.2.2.2.2.2.2.1;have z5 := N3.out.2.2.2.2.2.1;have eB := N3.out.2.2.2.2.2.2.2.2.1;have eC := N3.out.2.2.2.2.2.2.1;have nBC : ¬ X2.heap.size = X1.heap.size := by have := N3.out.2.2.2.2.2.2.2.2.2; omega
       have nCB : ¬ X1.heap.size = X2.heap.size := fun e => nBC e.symm;have mB : w.heap.size ≠ X2.heap.size := by omega
       have nB : b1 ≠ X2.heap.size := by omega
       have mC : w.heap.size ≠ X1.heap.size := by omega
       have nC : b1 ≠ X1.heap.size := by omega
       obtain ⟨q4, f4⟩ := blk z4;refine zQ (rs := [14]) zT qE ?_;refine zN qT (fun K hK => ?_) zO;go_simp;obtain ⟨Y6, hY6, y6B, y6z, y6k, y6b⟩ := jX X3 (X2.heap.size) 47 (.int .i64 0) (.slice none 0 0) (.int .i64 0) (.slice none 0 0) (.int .i64 s1.quote) (.slice a1 s1.lists.length c1) (.int .i64 s1.kind) (.slice a2 s1.cells.length c2) z4;rw [hY6];have z5y := (y6k _ nCB).trans z5;refine hK.out _ _ (HS3.out X3 Y6 (zW hb2 N3.out.1) (y6k _ mB) (y6k _ nB)) (fun hHeld => ?_);have Z6 := zA (zB y6B (zB y6k y6b));obtain ⟨q5, f5⟩ := blk z5y;clear hK K hY6 q4 f4 y6B y6k y6b;try simp only [zU, qI, qX, qY]
       refine zQ (rs := [15]) zT qE ?_;refine zN qT (fun K hK => ?_) zO;go_simp;obtain ⟨Y7, hY7, y7B, y7z, y7k, y7b⟩ := jX Y6 (X1.heap.size) 47 (.int .i64 0) (.slice none 0 0) (.int .i64 0) (.slice none 0 0) (.int .i64 s2.quote) (.slice a3 s2.lists.length c3) (.int .i64 s2.kind) (.slice a4 s2.cells.length c4) z5y;rw [hY7];refine hK.out _ _ (HS3.out X3 Y7 (zW hb2 N3.out.1) ((y7k _ mC).trans (Z6.out.2.1 _ mB)) ((y7k _ nC).trans (Z6.out.2.1 _ nB))) (fun hHeld => ?_);clear hK K q5 f5;try simp only [zU, qI, qX, qY]
       refine zP (i := 16) (v := ?_) qT zT zT zT (fun _ _ _ h => h) (Or.inl ⟨by rfl, ?_⟩) jA ?_;rotate_left 1
       ·intro w hSw; (try dsimp only at hSw); go_simp; (first | done | with_reducible rfl)
       try simp only [zU, qI, qX, qY]
       refine wpAnyH_done zT ?_ _;have key : ∀ b : Nat, (∀ cs, X3.heap[b]? ≠ some (.cells cs 47)) → Y7.heap[b]? = X3.heap[b]? := fun b hno => (y7k b (fun e => by subst e; exact hno _ z5)).trans (Z6.out.2.1 b (fun e => by subst e; exact hno _ z4));exact ⟨X2.heap.size, X1.heap.size, a1, c1, a2, c2, a3, c3, a4, c4, _, _, _, _, _, _, _, _, _, _, _, _, _, _, _, _, _, _, _, _, _, _, _, _, _, _, _, _, _, _, _, _, _, _, _, _, _, _, _, _, rfl, eB, eC, nBC, (y7k _ nBC).trans Z6.out.1, y7B, qJ (jK _ _) qV N3.out.2.1 qC (fun b _ _ hno => key b hno) (fun b h _ => h), qJ (jK _ _) qV N3.out.2.2.1 qC (fun b _ _ hno => key b hno) (fun b h _ => h), qJ (jK _ _) qV N3.out.2.2.2.1 qC (fun b _ _ hno => key b hno) (fun b h _ => h), qJ (jK _ _) qV N3.out.2.2.2.2.1 qC (fun b _ _ hno => key b hno) (fun b h _ => h), y7b _ eC _ (Z6.out.2.2 _ eB _ N3.out.1)⟩
      exact zO
     exact zO
    refine zN qT (fun K hK => ?_) ?_
    ·go_simp
     obtain ⟨X1, hX1⟩ : ∃ X, X0.alloc (.cells #[.int .i64 0, .slice none 0 0, .int .i64 0, .slice none 0 0] 47) = X := ⟨_, rfl⟩;rw [hX1];have hst1 : Below X0.heap.size X0 X1 := hX1 ▸ (zE _ _).alloc (zC _) _;have z1 : X1.heap[X0.heap.size]? = some (.cells #[.int .i64 0, .slice none 0 0, .int .i64 0, .slice none 0 0] 47) := hX1 ▸ qF _ _ rfl;clear hX1;have t1_0 := zW N0.out hst1;have t1_1 := z1;have t1_2 := N0.out.size;have N1 := zA (zB t1_0 (zB t1_1 (t1_2)));refine hK.out _ _ (HS2.out _ (zW hb2 N1.out.1)) (fun hHeld1 => ?_);clear hK K t1_0 t1_1 t1_2 hHeld N0 hst1;try simp only [zU, qI, qX, qY]
     clear z1;refine zQ (rs := [7, 13]) zT qE ?_;refine zN qT (fun K hK => ?_) ?_
     ·go_simp
      refine (HLS.out _ (zW hb2 N1.out.1)).mono ?_;rintro e X2 ⟨x1, x2, y1, y2, rfl, ha, hb, hc, hd, hst2⟩;obtain ⟨a1, c1, rfl⟩ := ha.slice;obtain ⟨a2, c2, rfl⟩ := hb.slice;obtain ⟨a3, c3, rfl⟩ := hc.slice;obtain ⟨a4, c4, rfl⟩ := hd.slice;have hu := N1.out.1.size;have t2_0 := zW N1.out.1 hst2;have t2_1 := zX hst2 N1.out.2.1;have t2_2 := N1.out.2.2;have t2_3 := qG (qB _) ha (qM _ _) (S' := fun b => w2.heap.size ≤ b) (fun b h _ => zD hu h);have t2_4 := qG (qB _) hb (qM _ _) (S' := fun b => w2.heap.size ≤ b) (fun b h _ => zD hu h);have t2_5 := qG (qB _) hc (qM _ _) (S' := fun b => w2.heap.size ≤ b) (fun b h _ => zD hu h);have t2_6 := qG (qB _) hd (qM _ _) (S' := fun b => w2.heap.size ≤ b) (fun b h _ => zD hu h);have N2 := zA (zB t2_0 (zB t2_1 (zB t2_2 (zB t2_3 (zB t2_4 (zB t2_5 (t2_6)))))));refine hK.out _ _ (HS2.out _ (zW hb2 N2.out.1)) (fun hHeld2 => ?_);clear hK K t2_0 t2_1 t2_2 t2_3 t2_4 t2_5 t2_6 hHeld1 N1 hst2;try simp only [zU, qI, qX, qY]
      clear ha hb hc hd hu;refine zP (i := 8) (v := ?_) qT zT zT zT (fun _ _ _ h => h) (Or.inl ⟨by rfl, ?_⟩) jA ?_;rotate_left 1
      ·intro w hSw; (try dsimp only at hSw); go_simp; (first | done | with_reducible rfl)
      try simp only [zU, qI, qX, qY]
      refine zP (i := 9) (v := ?_) qT zT zT zT (fun _ _ _ h => h) (Or.inl ⟨by rfl, ?_⟩) jA ?_;rotate_left 1
      ·intro w hSw; (try dsimp only at hSw); go_simp; (first | done | with_reducible rfl)
      try simp only [zU, qI, qX, qY]
      refine zP (i := 10) (v := ?_) qT zT zT zT (fun _ _ _ h => h) (Or.inl ⟨by rfl, ?_⟩) jA ?_;rotate_left 1
      ·intro w hSw; (try dsimp only at hSw); go_simp; (first | done | with_reducible rfl)
      try simp only [zU, qI, qX, qY]
      refine zP (i := 11) (v := ?_) qT zT zT zT (fun _ _ _ h => h) (Or.inl ⟨by rfl, ?_⟩) jA ?_;rotate_left 1
      ·intro w hSw; (try dsimp only at hSw); go_simp; (first | done | with_reducible rfl)
      try simp only [zU, qI, qX, qY]
      refine zQ (rs := [13]) zT qE ?_;refine zN qT (fun K hK => ?_) ?_
      ·go_simp
       obtain ⟨X3, hX3⟩ : ∃ X, X2.alloc (.cells #[.int .i64 0, .slice none 0 0, .int .i64 0, .slice none 0 0] 47) = X := ⟨_, rfl⟩;rw [hX3];have hst3 : Below X2.heap.size X2 X3 := hX3 ▸ (zE _ _).alloc (zC _) _;have z3 : X3.heap[X2.heap.size]? = some (.cells #[.int .i64 0, .slice none 0 0, .int .i64 0, .slice none 0 0] 47) := hX3 ▸ qF _ _ rfl;clear hX3;have t3_0 := zW N2.out.1 hst3;have t3_1 := zX hst3 N2.out.2.1;have t3_2 := N2.out.2.2.1;have t3_3 := qH (qB _) N2.out.2.2.2.1 hst3;have t3_4 := qH (qB _) N2.out.2.2.2.2.1 hst3;have t3_5 := qH (qB _) N2.out.2.2.2.2.2.1 hst3;have t3_6 := qH (qB _) N2.out.2.2.2.2.2.2 hst3;have t3_7 := z3;have t3_8 := N2.out.1.size;have t3_9 := (zL.1 N2.out.2.1).1;have N3 := zA (zB t3_0 (zB t3_1 (zB t3_2 (zB t3_3 (zB t3_4 (zB t3_5 (zB t3_6 (zB t3_7 (zB t3_8 (t3_9))))))))));refine hK.out _ _ (HS2.out _ (zW hb2 N3.out.1)) (fun hHeld3 => ?_);clear hK K t3_0 t3_1 t3_2 t3_3 t3_4 t3_5 t3_6 t3_7 t3_8 t3_9 hHeld2 N2 hst3;try simp only [zU, qI, qX, qY]
       clear z3;have z4 := N3.out.2.1;have z5 := N3.out.2.2.2.2.2.2.2.1;have eB := N3.out.2.2.1;have eC := N3.out.2.2.2.2.2.2.2.2.1;have nBC : ¬ X0.heap.size = X2.heap.size := by have := N3.out.2.2.2.2.2.2.2.2.2; omega
       have nCB : ¬ X2.heap.size = X0.heap.size := fun e => nBC e.symm;have mB : w.heap.size ≠ X0.heap.size := by omega
       have nB : b1 ≠ X0.heap.size := by omega
       have mC : w.heap.size ≠ X2.heap.size := by omega
       have nC : b1 ≠ X2.heap.size := by omega
       obtain ⟨q4, f4⟩ := blk z4;refine zQ (rs := [14]) zT qE ?_;refine zN qT (fun K hK => ?_) zO;go_simp;obtain ⟨Y6, hY6, y6B, y6z, y6k, y6b⟩ := jX X3 (X0.heap.size) 47 (.int .i64 0) (.slice none 0 0) (.int .i64 0) (.slice none 0 0) (.int .i64 s1.quote) (.slice a1 s1.lists.length c1) (.int .i64 s1.kind) (.slice a2 s1.cells.length c2) z4;rw [hY6];have z5y := (y6k _ nCB).trans z5;refine hK.out _ _ (HS3.out X3 Y6 (zW hb2 N3.out.1) (y6k _ mB) (y6k _ nB)) (fun hHeld => ?_);have Z6 := zA (zB y6B (zB y6k y6b));obtain ⟨q5, f5⟩ := blk z5y;clear hK K hY6 q4 f4 y6B y6k y6b;try simp only [zU, qI, qX, qY]
       refine zQ (rs := [15]) zT qE ?_;refine zN qT (fun K hK => ?_) zO;go_simp;obtain ⟨Y7, hY7, y7B, y7z, y7k, y7b⟩ := jX Y6 (X2.heap.size) 47 (.int .i64 0) (.slice none 0 0) (.int .i64 0) (.slice none 0 0) (.int .i64 s2.quote) (.slice a3 s2.lists.length c3) (.int .i64 s2.kind) (.slice a4 s2.cells.length c4) z5y;rw [hY7];refine hK.out _ _ (HS3.out X3 Y7 (zW hb2 N3.out.1) ((y7k _ mC).trans (Z6.out.2.1 _ mB)) ((y7k _ nC).trans (Z6.out.2.1 _ nB))) (fun hHeld => ?_);clear hK K q5 f5;try simp only [zU, qI, qX, qY]
       refine zP (i := 16) (v := ?_) qT zT zT zT (fun _ _ _ h => h) (Or.inl ⟨by rfl, ?_⟩) jA ?_;rotate_left 1
       ·intro w hSw; (try dsimp only at hSw); go_simp; (first | done | with_reducible rfl)
       try simp only [zU, qI, qX, qY]
       refine wpAnyH_done zT ?_ _;have key : ∀ b : Nat, (∀ cs, X3.heap[b]? ≠ some (.cells cs 47)) → Y7.heap[b]? = X3.heap[b]? := fun b hno => (y7k b (fun e => by subst e; exact hno _ z5)).trans (Z6.out.2.1 b (fun e => by subst e; exact hno _ z4));exact ⟨X0.heap.size, X2.heap.size, a1, c1, a2, c2, a3, c3, a4, c4, _, _, _, _, _, _, _, _, _, _, _, _, _, _, _, _, _, _, _, _, _, _, _, _, _, _, _, _, _, _, _, _, _, _, _, _, _, _, _, _, rfl, eB, eC, nBC, (y7k _ nBC).trans Z6.out.1, y7B, qJ (jK _ _) qV N3.out.2.2.2.1 qC (fun b _ _ hno => key b hno) (fun b h _ => h), qJ (jK _ _) qV N3.out.2.2.2.2.1 qC (fun b _ _ hno => key b hno) (fun b h _ => h), qJ (jK _ _) qV N3.out.2.2.2.2.2.1 qC (fun b _ _ hno => key b hno) (fun b h _ => h), qJ (jK _ _) qV N3.out.2.2.2.2.2.2.1 qC (fun b _ _ hno => key b hno) (fun b h _ => h), y7b _ eC _ (Z6.out.2.2 _ eB _ N3.out.1)⟩
      exact zO
     refine zN qT (fun K hK => ?_) ?_
     ·go_simp
      obtain ⟨X2, hX2⟩ : ∃ X, X1.alloc (.cells #[.int .i64 0, .slice none 0 0, .int .i64 0, .slice none 0 0] 47) = X := ⟨_, rfl⟩;rw [hX2];have hst2 : Below X1.heap.size X1 X2 := hX2 ▸ (zE _ _).alloc (zC _) _;have z2 : X2.heap[X1.heap.size]? = some (.cells #[.int .i64 0, .slice none 0 0, .int .i64 0, .slice none 0 0] 47) := hX2 ▸ qF _ _ rfl;clear hX2;have t2_0 := zW N1.out.1 hst2;have t2_1 := zX hst2 N1.out.2.1;have t2_2 := N1.out.2.2;have t2_3 := z2;have t2_4 := N1.out.1.size;have t2_5 := (zL.1 N1.out.2.1).1;have N2 := zA (zB t2_0 (zB t2_1 (zB t2_2 (zB t2_3 (zB t2_4 (t2_5))))));refine hK.out _ _ (HS2.out _ (zW hb2 N2.out.1)) (fun hHeld2 => ?_);clear hK K t2_0 t2_1 t2_2 t2_3 t2_4 t2_5 hHeld1 N1 hst2;try simp only [zU, qI, qX, qY]
      clear z2;refine zQ (rs := [7]) zT qE ?_;refine zN qT (fun K hK => ?_) ?_
      ·go_simp
       refine (HLS.out _ (zW hb2 N2.out.1)).mono ?_;rintro e X3 ⟨x1, x2, y1, y2, rfl, ha, hb, hc, hd, hst3⟩;obtain ⟨a1, c1, rfl⟩ := ha.slice;obtain ⟨a2, c2, rfl⟩ := hb.slice;obtain ⟨a3, c3, rfl⟩ := hc.slice;obtain ⟨a4, c4, rfl⟩ := hd.slice;have hu := N2.out.1.size;have t3_0 := zW N2.out.1 hst3;have t3_1 := zX hst3 N2.out.2.1;have t3_2 := N2.out.2.2.1;have t3_3 := zX hst3 N2.out.2.2.2.1;have t3_4 := N2.out.2.2.2.2.1;have t3_5 := N2.out.2.2.2.2.2;have t3_6 := qG (qB _) ha (qM _ _) (S' := fun b => w2.heap.size ≤ b) (fun b h _ => zD hu h);have t3_7 := qG (qB _) hb (qM _ _) (S' := fun b => w2.heap.size ≤ b) (fun b h _ => zD hu h);have t3_8 := qG (qB _) hc (qM _ _) (S' := fun b => w2.heap.size ≤ b) (fun b h _ => zD hu h);have t3_9 := qG (qB _) hd (qM _ _) (S' := fun b => w2.heap.size ≤ b) (fun b h _ => zD hu h);have N3 := zA (zB t3_0 (zB t3_1 (zB t3_2 (zB t3_3 (zB t3_4 (zB t3_5 (zB t3_6 (zB t3_7 (zB t3_8 (t3_9))))))))));refine hK.out _ _ (HS2.out _ (zW hb2 N3.out.1)) (fun hHeld3 => ?_);clear hK K t3_0 t3_1 t3_2 t3_3 t3_4 t3_5 t3_6 t3_7 t3_8 t3_9 hHeld2 N2 hst3;try simp only [zU, qI, qX, qY]
       clear ha hb hc hd hu;refine zP (i := 8) (v := ?_) qT zT zT zT (fun _ _ _ h => h) (Or.inl ⟨by rfl, ?_⟩) jA ?_;rotate_left 1
       ·intro w hSw; (try dsimp only at hSw); go_simp; (first | done | with_reducible rfl)
       try simp only [zU, qI, qX, qY]
       refine zP (i := 9) (v := ?_) qT zT zT zT (fun _ _ _ h => h) (Or.inl ⟨by rfl, ?_⟩) jA ?_;rotate_left 1
       ·intro w hSw; (try dsimp only at hSw); go_simp; (first | done | with_reducible rfl)
       try simp only [zU, qI, qX, qY]
       refine zP (i := 10) (v := ?_) qT zT zT zT (fun _ _ _ h => h) (Or.inl ⟨by rfl, ?_⟩) jA ?_;rotate_left 1
       ·intro w hSw; (try dsimp only at hSw); go_simp; (first | done | with_reducible rfl)
       try simp only [zU, qI, qX, qY]
       refine zP (i := 11) (v := ?_) qT zT zT zT (fun _ _ _ h => h) (Or.inl ⟨by rfl, ?_⟩) jA ?_;rotate_left 1
       ·intro w hSw; (try dsimp only at hSw); go_simp; (first | done | with_reducible rfl)
       try simp only [zU, qI, qX, qY]
       have z4 := N3.out.2.1;have z5 := N3.out.2.2.2.1;have eB := N3.out.2.2.1;have eC := N3.out.2.2.2.2.1;have nBC : ¬ X0.heap.size = X1.heap.size := by have := N3.out.2.2.2.2.2.1; omega
       have nCB : ¬ X1.heap.size = X0.heap.size := fun e => nBC e.symm;have mB : w.heap.size ≠ X0.heap.size := by omega
       have nB : b1 ≠ X0.heap.size := by omega
       have mC : w.heap.size ≠ X1.heap.size := by omega
       have nC : b1 ≠ X1.heap.size := by omega
       obtain ⟨q4, f4⟩ := blk z4;refine zQ (rs := [14]) zT qE ?_;refine zN qT (fun K hK => ?_) zO;go_simp;obtain ⟨Y6, hY6, y6B, y6z, y6k, y6b⟩ := jX X3 (X0.heap.size) 47 (.int .i64 0) (.slice none 0 0) (.int .i64 0) (.slice none 0 0) (.int .i64 s1.quote) (.slice a1 s1.lists.length c1) (.int .i64 s1.kind) (.slice a2 s1.cells.length c2) z4;rw [hY6];have z5y := (y6k _ nCB).trans z5;refine hK.out _ _ (HS3.out X3 Y6 (zW hb2 N3.out.1) (y6k _ mB) (y6k _ nB)) (fun hHeld => ?_);have Z6 := zA (zB y6B (zB y6k y6b));obtain ⟨q5, f5⟩ := blk z5y;clear hK K hY6 q4 f4 y6B y6k y6b;try simp only [zU, qI, qX, qY]
       refine zQ (rs := [15]) zT qE ?_;refine zN qT (fun K hK => ?_) zO;go_simp;obtain ⟨Y7, hY7, y7B, y7z, y7k, y7b⟩ := jX Y6 (X1.heap.size) 47 (.int .i64 0) (.slice none 0 0) (.int .i64 0) (.slice none 0 0) (.int .i64 s2.quote) (.slice a3 s2.lists.length c3) (.int .i64 s2.kind) (.slice a4 s2.cells.length c4) z5y;rw [hY7];refine hK.out _ _ (HS3.out X3 Y7 (zW hb2 N3.out.1) ((y7k _ mC).trans (Z6.out.2.1 _ mB)) ((y7k _ nC).trans (Z6.out.2.1 _ nB))) (fun hHeld => ?_);clear hK K q5 f5;try simp only [zU, qI, qX, qY]
       refine zP (i := 16) (v := ?_) qT zT zT zT (fun _ _ _ h => h) (Or.inl ⟨by rfl, ?_⟩) jA ?_;rotate_left 1
       ·intro w hSw; (try dsimp only at hSw); go_simp; (first | done | with_reducible rfl)
       try simp only [zU, qI, qX, qY]
       refine wpAnyH_done zT ?_ _;have key : ∀ b : Nat, (∀ cs, X3.heap[b]? ≠ some (.cells cs 47)) → Y7.heap[b]? = X3.heap[b]? := fun b hno => (y7k b (fun e => by subst e; exact hno _ z5)).trans (Z6.out.2.1 b (fun e => by subst e; exact hno _ z4));exact ⟨X0.heap.size, X1.heap.size, a1, c1, a2, c2, a3, c3, a4, c4, _, _, _, _, _, _, _, _, _, _, _, _, _, _, _, _, _, _, _, _, _, _, _, _, _, _, _, _, _, _, _, _, _, _, _, _, _, _, _, _, rfl, eB, eC, nBC, (y7k _ nBC).trans Z6.out.1, y7B, qJ (jK _ _) qV N3.out.2.2.2.2.2.2.1 qC (fun b _ _ hno => key b hno) (fun b h _ => h), qJ (jK _ _) qV N3.out.2.2.2.2.2.2.2.1 qC (fun b _ _ hno => key b hno) (fun b h _ => h), qJ (jK _ _) qV N3.out.2.2.2.2.2.2.2.2.1 qC (fun b _ _ hno => key b hno) (fun b h _ => h), qJ (jK _ _) qV N3.out.2.2.2.2.2.2.2.2.2 qC (fun b _ _ hno => key b hno) (fun b h _ => h), y7b _ eC _ (Z6.out.2.2 _ eB _ N3.out.1)⟩
      exact zO
     exact zO
    refine zN qT (fun K hK => ?_) ?_
    ·go_simp
     obtain ⟨X1, hX1⟩ : ∃ X, X0.alloc (.cells #[.int .i64 0, .slice none 0 0, .int .i64 0, .slice none 0 0] 47) = X := ⟨_, rfl⟩;rw [hX1];have hst1 : Below X0.heap.size X0 X1 := hX1 ▸ (zE _ _).alloc (zC _) _;have z1 : X1.heap[X0.heap.size]? = some (.cells #[.int .i64 0, .slice none 0 0, .int .i64 0, .slice none 0 0] 47) := hX1 ▸ qF _ _ rfl;clear hX1;have t1_0 := zW N0.out hst1;have t1_1 := z1;have t1_2 := N0.out.size;have N1 := zA (zB t1_0 (zB t1_1 (t1_2)));refine hK.out _ _ (HS2.out _ (zW hb2 N1.out.1)) (fun hHeld1 => ?_);clear hK K t1_0 t1_1 t1_2 hHeld N0 hst1;try simp only [zU, qI, qX, qY]
     clear z1;refine zQ (rs := [7, 12]) zT qE ?_;refine zN qT (fun K hK => ?_) ?_
     ·go_simp
      refine (HLS.out _ (zW hb2 N1.out.1)).mono ?_;rintro e X2 ⟨x1, x2, y1, y2, rfl, ha, hb, hc, hd, hst2⟩;obtain ⟨a1, c1, rfl⟩ := ha.slice;obtain ⟨a2, c2, rfl⟩ := hb.slice;obtain ⟨a3, c3, rfl⟩ := hc.slice;obtain ⟨a4, c4, rfl⟩ := hd.slice;have hu := N1.out.1.size;have t2_0 := zW N1.out.1 hst2;have t2_1 := zX hst2 N1.out.2.1;have t2_2 := N1.out.2.2;have t2_3 := qG (qB _) ha (qM _ _) (S' := fun b => w2.heap.size ≤ b) (fun b h _ => zD hu h);have t2_4 := qG (qB _) hb (qM _ _) (S' := fun b => w2.heap.size ≤ b) (fun b h _ => zD hu h);have t2_5 := qG (qB _) hc (qM _ _) (S' := fun b => w2.heap.size ≤ b) (fun b h _ => zD hu h);have t2_6 := qG (qB _) hd (qM _ _) (S' := fun b => w2.heap.size ≤ b) (fun b h _ => zD hu h);have N2 := zA (zB t2_0 (zB t2_1 (zB t2_2 (zB t2_3 (zB t2_4 (zB t2_5 (t2_6)))))));refine hK.out _ _ (HS2.out _ (zW hb2 N2.out.1)) (fun hHeld2 => ?_);clear hK K t2_0 t2_1 t2_2 t2_3 t2_4 t2_5 t2_6 hHeld1 N1 hst2;try simp only [zU, qI, qX, qY]
      clear ha hb hc hd hu;refine zP (i := 8) (v := ?_) qT zT zT zT (fun _ _ _ h => h) (Or.inl ⟨by rfl, ?_⟩) jA ?_;rotate_left 1
      ·intro w hSw; (try dsimp only at hSw); go_simp; (first | done | with_reducible rfl)
      try simp only [zU, qI, qX, qY]
      refine zP (i := 9) (v := ?_) qT zT zT zT (fun _ _ _ h => h) (Or.inl ⟨by rfl, ?_⟩) jA ?_;rotate_left 1
      ·intro w hSw; (try dsimp only at hSw); go_simp; (first | done | with_reducible rfl)
      try simp only [zU, qI, qX, qY]
      refine zP (i := 10) (v := ?_) qT zT zT zT (fun _ _ _ h => h) (Or.inl ⟨by rfl, ?_⟩) jA ?_;rotate_left 1
      ·intro w hSw; (try dsimp only at hSw); go_simp; (first | done | with_reducible rfl)
      try simp only [zU, qI, qX, qY]
      refine zP (i := 11) (v := ?_) qT zT zT zT (fun _ _ _ h => h) (Or.inl ⟨by rfl, ?_⟩) jA ?_;rotate_left 1
      ·intro w hSw; (try dsimp only at hSw); go_simp; (first | done | with_reducible rfl)
      try simp only [zU, qI, qX, qY]
      refine zQ (rs := [12]) zT qE ?_;refine zN qT (fun K hK => ?_) ?_
      ·go_simp
       obtain ⟨X3, hX3⟩ : ∃ X, X2.alloc (.cells #[.int .i64 0, .slice none 0 0, .int .i64 0, .slice none 0 0] 47) = X := ⟨_, rfl⟩;rw [hX3];have hst3 : Below X2.heap.size X2 X3 := hX3 ▸ (zE _ _).alloc (zC _) _;have z3 : X3.heap[X2.heap.size]? = some (.cells #[.int .i64 0, .slice none 0 0, .int .i64 0, .slice none 0 0] 47) := hX3 ▸ qF _ _ rfl;clear hX3;have t3_0 := zW N2.out.1 hst3;have t3_1 := zX hst3 N2.out.2.1;have t3_2 := N2.out.2.2.1;have t3_3 := qH (qB _) N2.out.2.2.2.1 hst3;have t3_4 := qH (qB _) N2.out.2.2.2.2.1 hst3;have t3_5 := qH (qB _) N2.out.2.2.2.2.2.1 hst3;have t3_6 := qH (qB _) N2.out.2.2.2.2.2.2 hst3;have t3_7 := z3;have t3_8 := N2.out.1.size;have t3_9 := (zL.1 N2.out.2.1).1;have N3 := zA (zB t3_0 (zB t3_1 (zB t3_2 (zB t3_3 (zB t3_4 (zB t3_5 (zB t3_6 (zB t3_7 (zB t3_8 (t3_9))))))))));refine hK.out _ _ (HS2.out _ (zW hb2 N3.out.1)) (fun hHeld3 => ?_);clear hK K t3_0 t3_1 t3_2 t3_3 t3_4 t3_5 t3_6 t3_7 t3_8 t3_9 hHeld2 N2 hst3;try simp only [zU, qI, qX, qY]
       clear z3;have z4 := N3.out.2.2.2.2.2.2.2.1;have z5 := N3.out.2.1;have eB := N3.out.2.2.2.2.2.2.2.2.1;have eC := N3.out.2.2.1;have nBC : ¬ X2.heap.size = X0.heap.size := by have := N3.out.2.2.2.2.2.2.2.2.2; omega
       have nCB : ¬ X0.heap.size = X2.heap.size := fun e => nBC e.symm;have mB : w.heap.size ≠ X2.heap.size := by omega
       have nB : b1 ≠ X2.heap.size := by omega
       have mC : w.heap.size ≠ X0.heap.size := by omega
       have nC : b1 ≠ X0.heap.size := by omega
       obtain ⟨q4, f4⟩ := blk z4;refine zQ (rs := [14]) zT qE ?_;refine zN qT (fun K hK => ?_) zO;go_simp;obtain ⟨Y6, hY6, y6B, y6z, y6k, y6b⟩ := jX X3 (X2.heap.size) 47 (.int .i64 0) (.slice none 0 0) (.int .i64 0) (.slice none 0 0) (.int .i64 s1.quote) (.slice a1 s1.lists.length c1) (.int .i64 s1.kind) (.slice a2 s1.cells.length c2) z4;rw [hY6];have z5y := (y6k _ nCB).trans z5;refine hK.out _ _ (HS3.out X3 Y6 (zW hb2 N3.out.1) (y6k _ mB) (y6k _ nB)) (fun hHeld => ?_);have Z6 := zA (zB y6B (zB y6k y6b));obtain ⟨q5, f5⟩ := blk z5y;clear hK K hY6 q4 f4 y6B y6k y6b;try simp only [zU, qI, qX, qY]
       refine zQ (rs := [15]) zT qE ?_;refine zN qT (fun K hK => ?_) zO;go_simp;obtain ⟨Y7, hY7, y7B, y7z, y7k, y7b⟩ := jX Y6 (X0.heap.size) 47 (.int .i64 0) (.slice none 0 0) (.int .i64 0) (.slice none 0 0) (.int .i64 s2.quote) (.slice a3 s2.lists.length c3) (.int .i64 s2.kind) (.slice a4 s2.cells.length c4) z5y;rw [hY7];refine hK.out _ _ (HS3.out X3 Y7 (zW hb2 N3.out.1) ((y7k _ mC).trans (Z6.out.2.1 _ mB)) ((y7k _ nC).trans (Z6.out.2.1 _ nB))) (fun hHeld => ?_);clear hK K q5 f5;try simp only [zU, qI, qX, qY]
       refine zP (i := 16) (v := ?_) qT zT zT zT (fun _ _ _ h => h) (Or.inl ⟨by rfl, ?_⟩) jA ?_;rotate_left 1
       ·intro w hSw; (try dsimp only at hSw); go_simp; (first | done | with_reducible rfl)
       try simp only [zU, qI, qX, qY]
       refine wpAnyH_done zT ?_ _;have key : ∀ b : Nat, (∀ cs, X3.heap[b]? ≠ some (.cells cs 47)) → Y7.heap[b]? = X3.heap[b]? := fun b hno => (y7k b (fun e => by subst e; exact hno _ z5)).trans (Z6.out.2.1 b (fun e => by subst e; exact hno _ z4));exact ⟨X2.heap.size, X0.heap.size, a1, c1, a2, c2, a3, c3, a4, c4, _, _, _, _, _, _, _, _, _, _, _, _, _, _, _, _, _, _, _, _, _, _, _, _, _, _, _, _, _, _, _, _, _, _, _, _, _, _, _, _, rfl, eB, eC, nBC, (y7k _ nBC).trans Z6.out.1, y7B, qJ (jK _ _) qV N3.out.2.2.2.1 qC (fun b _ _ hno => key b hno) (fun b h _ => h), qJ (jK _ _) qV N3.out.2.2.2.2.1 qC (fun b _ _ hno => key b hno) (fun b h _ => h), qJ (jK _ _) qV N3.out.2.2.2.2.2.1 qC (fun b _ _ hno => key b hno) (fun b h _ => h), qJ (jK _ _) qV N3.out.2.2.2.2.2.2.1 qC (fun b _ _ hno => key b hno) (fun b h _ => h), y7b _ eC _ (Z6.out.2.2 _ eB _ N3.out.1)⟩
      exact zO
     refine zN qT (fun K hK => ?_) ?_
     ·go_simp
      obtain ⟨X2, hX2⟩ : ∃ X, X1.alloc (.cells #[.int .i64 0, .slice none 0 0, .int .i64 0, .slice none 0 0] 47) = X := ⟨_, rfl⟩;rw [hX2];have hst2 : Below X1.heap.size X1 X2 := hX2 ▸ (zE _ _).alloc (zC _) _;have z2 : X2.heap[X1.heap.size]? = some (.cells #[.int .i64 0, .slice none 0 0, .int .i64 0, .slice none 0 0] 47) := hX2 ▸ qF _ _ rfl;clear hX2;have t2_0 := zW N1.out.1 hst2;have t2_1 := zX hst2 N1.out.2.1;have t2_2 := N1.out.2.2;have t2_3 := z2;have t2_4 := N1.out.1.size;have t2_5 := (zL.1 N1.out.2.1).1;have N2 := zA (zB t2_0 (zB t2_1 (zB t2_2 (zB t2_3 (zB t2_4 (t2_5))))));refine hK.out _ _ (HS2.out _ (zW hb2 N2.out.1)) (fun hHeld2 => ?_);clear hK K t2_0 t2_1 t2_2 t2_3 t2_4 t2_5 hHeld1 N1 hst2;try simp only [zU, qI, qX, qY]
      clear z2;refine zQ (rs := [7]) zT qE ?_;refine zN qT (fun K hK => ?_) ?_
      ·go_simp
       refine (HLS.out _ (zW hb2 N2.out.1)).mono ?_;rintro e X3 ⟨x1, x2, y1, y2, rfl, ha, hb, hc, hd, hst3⟩;obtain ⟨a1, c1, rfl⟩ := ha.slice;obtain ⟨a2, c2, rfl⟩ := hb.slice;obtain ⟨a3, c3, rfl⟩ := hc.slice;obtain ⟨a4, c4, rfl⟩ := hd.slice;have hu := N2.out.1.size;have t3_0 := zW N2.out.1 hst3;have t3_1 := zX hst3 N2.out.2.1;have t3_2 := N2.out.2.2.1;have t3_3 := zX hst3 N2.out.2.2.2.1;have t3_4 := N2.out.2.2.2.2.1;have t3_5 := N2.out.2.2.2.2.2;have t3_6 := qG (qB _) ha (qM _ _) (S' := fun b => w2.heap.size ≤ b) (fun b h _ => zD hu h);have t3_7 := qG (qB _) hb (qM _ _) (S' := fun b => w2.heap.size ≤ b) (fun b h _ => zD hu h);have t3_8 := qG (qB _) hc (qM _ _) (S' := fun b => w2.heap.size ≤ b) (fun b h _ => zD hu h);have t3_9 := qG (qB _) hd (qM _ _) (S' := fun b => w2.heap.size ≤ b) (fun b h _ => zD hu h);have N3 := zA (zB t3_0 (zB t3_1 (zB t3_2 (zB t3_3 (zB t3_4 (zB t3_5 (zB t3_6 (zB t3_7 (zB t3_8 (t3_9))))))))));refine hK.out _ _ (HS2.out _ (zW hb2 N3.out.1)) (fun hHeld3 => ?_);clear hK K t3_0 t3_1 t3_2 t3_3 t3_4 t3_5 t3_6 t3_7 t3_8 t3_9 hHeld2 N2 hst3;try simp only [zU, qI, qX, qY]
       clear ha hb hc hd hu;refine zP (i := 8) (v := ?_) qT zT zT zT (fun _ _ _ h => h) (Or.inl ⟨by rfl, ?_⟩) jA ?_;rotate_left 1
       ·intro w hSw; (try dsimp only at hSw); go_simp; (first | done | with_reducible rfl)
       try simp only [zU, qI, qX, qY]
       refine zP (i := 9) (v := ?_) qT zT zT zT (fun _ _ _ h => h) (Or.inl ⟨by rfl, ?_⟩) jA ?_;rotate_left 1
       ·intro w hSw; (try dsimp only at hSw); go_simp; (first | done | with_reducible rfl)
       try simp only [zU, qI, qX, qY]
       refine zP (i := 10) (v := ?_) qT zT zT zT (fun _ _ _ h => h) (Or.inl ⟨by rfl, ?_⟩) jA ?_;rotate_left 1
       ·intro w hSw; (try dsimp only at hSw); go_simp; (first | done | with_reducible rfl)
       try simp only [zU, qI, qX, qY]
       refine zP (i := 11) (v := ?_) qT zT zT zT (fun _ _ _ h => h) (Or.inl ⟨by rfl, ?_⟩) jA ?_;rotate_left 1
       ·intro w hSw; (try dsimp only at hSw); go_simp; (first | done | with_reducible rfl)
       try simp only [zU, qI, qX, qY]
       have z4 := N3.out.2.2.2.1;have z5 := N3.out.2.1;have eB := N3.out.2.2.2.2.1;have eC := N3.out.2.2.1;have nBC : ¬ X1.heap.size = X0.heap.size := by have := N3.out.2.2.2.2.2.1; omega
       have nCB : ¬ X0.heap.size = X1.heap.size := fun e => nBC e.symm;have mB : w.heap.size ≠ X1.heap.size := by omega
       have nB : b1 ≠ X1.heap.size := by omega
       have mC : w.heap.size ≠ X0.heap.size := by omega
       have nC : b1 ≠ X0.heap.size := by omega
       obtain ⟨q4, f4⟩ := blk z4;refine zQ (rs := [14]) zT qE ?_;refine zN qT (fun K hK => ?_) zO;go_simp;obtain ⟨Y6, hY6, y6B, y6z, y6k, y6b⟩ := jX X3 (X1.heap.size) 47 (.int .i64 0) (.slice none 0 0) (.int .i64 0) (.slice none 0 0) (.int .i64 s1.quote) (.slice a1 s1.lists.length c1) (.int .i64 s1.kind) (.slice a2 s1.cells.length c2) z4;rw [hY6];have z5y := (y6k _ nCB).trans z5;refine hK.out _ _ (HS3.out X3 Y6 (zW hb2 N3.out.1) (y6k _ mB) (y6k _ nB)) (fun hHeld => ?_);have Z6 := zA (zB y6B (zB y6k y6b));obtain ⟨q5, f5⟩ := blk z5y;clear hK K hY6 q4 f4 y6B y6k y6b;try simp only [zU, qI, qX, qY]
       refine zQ (rs := [15]) zT qE ?_;refine zN qT (fun K hK => ?_) zO;go_simp;obtain ⟨Y7, hY7, y7B, y7z, y7k, y7b⟩ := jX Y6 (X0.heap.size) 47 (.int .i64 0) (.slice none 0 0) (.int .i64 0) (.slice none 0 0) (.int .i64 s2.quote) (.slice a3 s2.lists.length c3) (.int .i64 s2.kind) (.slice a4 s2.cells.length c4) z5y;rw [hY7];refine hK.out _ _ (HS3.out X3 Y7 (zW hb2 N3.out.1) ((y7k _ mC).trans (Z6.out.2.1 _ mB)) ((y7k _ nC).trans (Z6.out.2.1 _ nB))) (fun hHeld => ?_);clear hK K q5 f5;try simp only [zU, qI, qX, qY]
       refine zP (i := 16) (v := ?_) qT zT zT zT (fun _ _ _ h => h) (Or.inl ⟨by rfl, ?_⟩) jA ?_;rotate_left 1
       ·intro w hSw; (try dsimp only at hSw); go_simp; (first | done | with_reducible rfl)
       try simp only [zU, qI, qX, qY]
       refine wpAnyH_done zT ?_ _;have key : ∀ b : Nat, (∀ cs, X3.heap[b]? ≠ some (.cells cs 47)) → Y7.heap[b]? = X3.heap[b]? := fun b hno => (y7k b (fun e => by subst e; exact hno _ z5)).trans (Z6.out.2.1 b (fun e => by subst e; exact hno _ z4));exact ⟨X1.heap.size, X0.heap.size, a1, c1, a2, c2, a3, c3, a4, c4, _, _, _, _, _, _, _, _, _, _, _, _, _, _, _, _, _, _, _, _, _, _, _, _, _, _, _, _, _, _, _, _, _, _, _, _, _, _, _, _, rfl, eB, eC, nBC, (y7k _ nBC).trans Z6.out.1, y7B, qJ (jK _ _) qV N3.out.2.2.2.2.2.2.1 qC (fun b _ _ hno => key b hno) (fun b h _ => h), qJ (jK _ _) qV N3.out.2.2.2.2.2.2.2.1 qC (fun b _ _ hno => key b hno) (fun b h _ => h), qJ (jK _ _) qV N3.out.2.2.2.2.2.2.2.2.1 qC (fun b _ _ hno => key b hno) (fun b h _ => h), qJ (jK _ _) qV N3.out.2.2.2.2.2.2.2.2.2 qC (fun b _ _ hno => key b hno) (fun b h _ => h), y7b _ eC _ (Z6.out.2.2 _ eB _ N3.out.1)⟩
      exact zO
     exact zO
    exact zO
    -- END TREE5
end Go.Proofs.YtjgeadoncanheaaGreatDoor
