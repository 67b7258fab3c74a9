/- The walk of the reference's Split of documents. -/
import Derived.Test.YtpndnbjpnajaaaaGreatDoorRefSplitK
import Derived.Test.YtpndnbjpnajaaaaGreatDoorDocSplitK
import Derived.Test.YtpndnbjpnajaaaaGreatDoorRefDoesK
set_option linter.unusedVariables false
set_option linter.unusedSimpArgs false
namespace Go.Proofs.YtpndnbjpnajaaaaGreatDoor
open Go.RowKit
open Go.Proofs.Qw
theorem own_ne {α : Type} {t : TypeId} {k : Nat} {R : Rd α} {w : World} {S : Nat → Prop} {v : Value} {xs : List α} (h : SliceR t k R true w S v xs) (hne : v = .slice none 0 0 ∨ xs ≠ []) {B : Nat} (hB : ¬ S B) : v.ownBlock ≠ some B := fun ej => by
 obtain ⟨a, c, rfl, _, _, hx⟩ := h
 rcases hx with ⟨rfl, hc0⟩ | ⟨b, o', rfl, hS, _, _, _⟩
 ·rcases hne with e | e
  ·cases e
   cases ej
  ·exact absurd rfl e
 ·have ej : some b = some B := ej
  cases ej
  exact hB hS
set_option maxRecDepth 100000 in
set_option maxHeartbeats 2000000 in
theorem refOwnNil_any (a : Option Addr) (c : Nat) (w : World) : Calls Tryz.prog 102 #[.slice a 0 c] w fun e w' => e = .returned (.slice none 0 0) ∧ w' = w := by
 go_enter Tryz.func102, Tryz.ntmps102
 go_wp2_with fail
 go_loopw [3, 4] (fun out i wr => out = .slice none 0 0 ∧ i = .int .i64 0 ∧ wr = w) (fun _ _ _ => 0)
 case atStart => exact ⟨rfl, rfl, rfl⟩
 case round =>
  obtain ⟨rfl, rfl, rfl⟩ := hrel
  go_wp2_with fail
  go_ret
  exact ⟨rfl, rfl⟩
theorem refOwnTake_any (a : Option Addr) (i c : Nat) (d : Doc) (w : World) (S : Nat → Prop) (h : LinsR w S (.slice a i c) (d.take i)) (hi : i ≤ d.length) (hf : Fits d) : Calls Tryz.prog 102 #[.slice a i c] w fun e w' => ∃ v', e = .returned v' ∧ DocR true w' (fun b => w.heap.size ≤ b) v' (d.take i) ∧ Below w.heap.size w w' ∧ (v' = .slice none 0 0 ∨ d.take i ≠ []) := by
 by_cases h0 : i = 0
 ·subst h0
  refine (refOwnNil_any a c w).mono ?_
  rintro e w' ⟨rfl, rfl⟩
  exact ⟨_, rfl, SliceR.nil _ _ _ _ _ _, Below.refl _ _, .inl rfl⟩
 ·refine (refOwnD_any _ _ w S h (fits_take hf i)).mono ?_
  rintro e w' ⟨v', rfl, hv, hb⟩
  exact ⟨v', rfl, hv, hb, .inr (fun e => by have := congrArg List.length e; rw [List.length_take, List.length_nil] at this; omega)⟩
set_option maxRecDepth 100000 in
set_option maxHeartbeats 8000000 in
theorem refDSplit_any (v : Value) (d : Doc) (p : Ps) (w : World) (S : Nat → Prop) (h : LinsR w S v d) (hs : Small d) (hf : Fits d) :
  Calls Tryz.prog 118 #[v, posV p] w (DocPSaid (splitD d p) w) := by
 obtain ⟨W1, hW1, hB, hz, k0, k1⟩ := two_pos w (.int .i64 p.line) (.int .i64 p.col) (.int .i64 0) (.int .i64 0)
 have HC1 := Lib.hid (refSpan_any v d p p W1 S (h.below (rdLin_stable _) hB) hs)
 have HB : Hid (∀ W, Below W1.heap.size W1 W → W.heap[w.heap.size]? = some (.cells #[.int .i64 p.line, .int .i64 p.col] 24) ∧ W.heap[w.heap.size + 1]? = some (.cells #[.int .i64 0, .int .i64 0] 24)) := Lib.hid fun W hW => ⟨heap_below hW k0, heap_below hW k1⟩
 have HP : Hid (∀ p : Ps, posV p = .agg #[.int .i64 p.line, .int .i64 p.col]) := Lib.hid fun _ => rfl
 have H1 := Lib.hid hB
 have HL := Lib.hid (h.below (rdLin_stable _) hB)
 have HSM := Lib.hid hs
 have HF := Lib.hid hf
 have hlen := hf.1
 have hs1 := hB.size
 obtain ⟨p1, f1⟩ := blk k0
 obtain ⟨p2, f2⟩ := blk k1
 obtain ⟨va, vc, rfl⟩ := h.slice
 clear h hs hf k0 k1 hB
 cases hsp : spanD d p p
 ·have HR : Hid (splitD d p = ([], ⟨0, 0⟩, 1)) := Lib.hid (by unfold splitD; rw [hsp]; rfl)
  rw [hsp] at HC1
  clear hsp
  rw [HP.out p] at HC1 ⊢
  go_enter Tryz.func118, Tryz.ntmps118
  go_wp2_with (go_at_call 174; refine HC1.out.mono ?_; rintro e w2 ⟨rfl, hb2⟩; have k1' := (HB.out _ hb2).2; obtain ⟨q2, g2⟩ := blk k1')
  refine bodyPost_ret (results_dpe rfl _ _ (w.heap.size + 1) (.int .i64 0) (.int .i64 0) rfl (by simp [heap_set, putIn, k1'])) rfl ?_
  unfold DocPSaid
  rw [HR.out]
  have hfin := H1.out.trans (hb2.mono hs1)
  exact ⟨_, rfl, SliceR.nil _ _ _ _ _ _, by (repeat' (first | (with_reducible exact Below.refl _ _) | (with_reducible assumption) | (with_reducible refine Below.alloc ?_ ?_ _) | (with_reducible refine Below.drew ?_) | (with_reducible refine drewN_below ?_) | (with_reducible refine Below.setCell ?_ ?_ _) | go_size))⟩
 ·by_cases h200 : d.length = 200
  ·have HR : Hid (splitD d p = ([], ⟨0, 0⟩, 10)) := Lib.hid (by unfold splitD; rw [hsp, if_pos rfl, if_pos h200])
   have hq : ((d.length : Int) == 200) = true := by simp; omega
   rw [hsp] at HC1
   clear hsp h200
   rw [HP.out p] at HC1 ⊢
   go_enter Tryz.func118, Tryz.ntmps118
   go_wp2_with (go_at_call 174; refine HC1.out.mono ?_; rintro e w2 ⟨rfl, hb2⟩; have k1' := (HB.out _ hb2).2; obtain ⟨q2, g2⟩ := blk k1')
   refine bodyPost_ret (results_dpe rfl _ _ (w.heap.size + 1) (.int .i64 0) (.int .i64 0) rfl (by simp [heap_set, putIn, k1'])) rfl ?_
   unfold DocPSaid
   rw [HR.out]
   have hfin := H1.out.trans (hb2.mono hs1)
   exact ⟨_, rfl, SliceR.nil _ _ _ _ _ _, by (repeat' (first | (with_reducible exact Below.refl _ _) | (with_reducible assumption) | (with_reducible refine Below.alloc ?_ ?_ _) | (with_reducible refine Below.drew ?_) | (with_reducible refine drewN_below ?_) | (with_reducible refine Below.setCell ?_ ?_ _) | go_size))⟩
  ·obtain ⟨hmd, i, _, q, _, l, _, rfl, hpe, hl, _, hq, _, _, _⟩ := span_at hsp
   have hil := (List.getElem?_eq_some_iff.1 hl).1
   have hml : mayL l = true := by
    unfold mayD at hmd
    simp only [Bool.and_eq_true, List.all_eq_true] at hmd
    exact hmd.2 l (List.mem_of_getElem? hl)
   obtain ⟨s1, hs1e⟩ : ∃ s, (splitL l q).1 = s := ⟨_, rfl⟩
   obtain ⟨s2, hs2e⟩ : ∃ s, (splitL l q).2 = s := ⟨_, rfl⟩
   have HR : Hid (splitD d ⟨i, q⟩ = (d.take i ++ [s1, s2] ++ d.drop (i + 1), ⟨(i : Int) + 1, 0⟩, 0)) := Lib.hid (by
    unfold splitD splitLD
    rw [hsp, if_pos rfl, if_neg h200]
    simp [List.getD, hl, hs1e, hs2e])
   have hq2 : ((d.length : Int) == 200) = false := by simp; omega
   have hfl := HF.out.2 l (List.mem_of_getElem? hl)
   have hhl : ∀ c ∈ l.cells, c.href.length ≤ 1000000 := HSM.out.2.2 l (List.mem_of_getElem? hl)
   rw [hsp] at HC1
   rw [HP.out] at HC1 ⊢
   obtain ⟨va', vc', hve, hvc, hvm, hx⟩ := lins_shape HL.out
   cases hve
   obtain ⟨b1, o1, la, lc, ca, cc, rfl, hAi⟩ := hx i l hl
   have HAI := Lib.hid hAi
   have HLS : Hid (∀ W, Below W1.heap.size W1 W → Calls Tryz.prog 189 #[linV l (.slice la l.lists.length lc) (.slice ca l.cells.length cc), .int .i64 q] W fun e w' => ∃ x1 x2 y1 y2, e = .returned (.tuple #[linV s1 x1 x2, linV s2 y1 y2, .int .i64 0]) ∧
     IntsR true w' (fun b => W.heap.size ≤ b) x1 s1.lists ∧ CelsR true w' (fun b => W.heap.size ≤ b) x2 s1.cells ∧ IntsR true w' (fun b => W.heap.size ≤ b) y1 s2.lists ∧ CelsR true w' (fun b => W.heap.size ≤ b) y2 s2.cells ∧ Below W.heap.size W w') := Lib.hid fun W hW => by
    have := refLineSplit_any l la ca lc cc q W S (hAi.below hW).listsR (hAi.below hW).cellsR hfl hhl hml hq
    rwa [hs1e, hs2e] at this
   obtain ⟨Y0, hY0, hdq⟩ := lins_from HL.out (show i + 1 ≤ d.length by omega)
   have HDQ := Lib.hid hdq
   have HO1 : Hid (∀ W, Below W1.heap.size W1 W → Calls Tryz.prog 102 #[.slice (some ⟨b1, o1, none⟩) i vc] W fun e w' => ∃ v', e = .returned v' ∧ DocR true w' (fun b => W.heap.size ≤ b) v' (d.take i) ∧ Below W.heap.size W w' ∧ (v' = .slice none 0 0 ∨ d.take i ≠ [])) := Lib.hid fun W hW => refOwnTake_any _ i vc d W S (SliceR.take (SliceR.below (rdLin_stable _) HL.out hW) (by omega)) (by omega) HF.out
   have HO2 : Hid (∀ W, Below W1.heap.size W1 W → Calls Tryz.prog 102 #[.slice Y0 (d.length - (i + 1)) (vc - (i + 1))] W fun e w' => ∃ v', e = .returned v' ∧ DocR true w' (fun b => W.heap.size ≤ b) v' (d.drop (i + 1)) ∧ Below W.heap.size W w') := Lib.hid fun W hW => refOwnD_any _ _ W S (SliceR.below (rdLin_stable _) hY0 hW) (fits_drop HF.out (i + 1))
   clear hdq hY0
   have HLL := Lib.hid hl
   unfold maxLen at hvm
   clear hx hAi hl hml hmd hsp h200 hs1e hs2e hfl hhl
   have i0 : (0 : Int) ≤ (i : Int) := Int.natCast_nonneg _
   have i1 : (i : Int) < (d.length : Int) := by omega
   have i2 : i ≤ vc := by omega
   have i3 : (i : Int) ≤ (vc : Int) := by omega
   go_enter Tryz.func118, Tryz.ntmps118
   go_wp2_with (go_at_call 174; refine HC1.out.mono ?_; rintro e w2 ⟨rfl, hb2⟩; have k0' := (HB.out _ hb2).1; have k1' := (HB.out _ hb2).2; obtain ⟨q1, g1⟩ := blk k0'; obtain ⟨q2, g2⟩ := blk k1')
   have hwW2 : Below w.heap.size w w2 := H1.out.trans (hb2.mono hs1)
   have hww2 := hwW2.size
   have hsp2 : w.heap.size + 2 ≤ w2.heap.size := by have := hb2.size; omega
   have hb1w : b1 < W1.heap.size := HAI.out.lt
   have hs12 := hb2.size
   have HPB : Hid (∀ X, Below w2.heap.size w2 X → X.heap[w.heap.size + 1]? = some (.cells #[.int .i64 0, .int .i64 0] 24)) := Lib.hid fun X hX => (HB.out X (below_from hb2 hX)).2
   clear p1 f1 p2 f2 hW1 q2 g2 q1 g1 k0' k1'
   have HS3 : Hid (∀ X Y : World, Below W1.heap.size W1 X → Y.heap[w.heap.size]? = X.heap[w.heap.size]? → Y.heap[b1]? = X.heap[b1]? → (fun w' => w'.cell? ⟨w.heap.size, 0, none⟩ = some (.int .i64 i) ∧ w'.cell? ⟨w.heap.size, 1, none⟩ = some (.int .i64 q) ∧ w'.cell? ⟨b1, o1 + i * 4, none⟩ = some (.int .i64 l.quote) ∧ w'.cell? ⟨b1, o1 + i * 4 + 1, none⟩ = some (.slice la l.lists.length lc) ∧ w'.cell? ⟨b1, o1 + i * 4 + 2, none⟩ = some (.int .i64 l.kind) ∧ w'.cell? ⟨b1, o1 + i * 4 + 3, none⟩ = some (.slice ca l.cells.length cc)) Y) := Lib.hid fun X Y hX hY hY1 => by
    obtain ⟨_, c0, c1, c2, c3, _, _⟩ := HAI.out.below hX
    have hp := (blk (hY.trans (HB.out X hX).1)).1
    exact ⟨hp 0, hp 1, (World.cell?_of_block hY1).trans c0, (World.cell?_of_block hY1).trans c1, (World.cell?_of_block hY1).trans c2, (World.cell?_of_block hY1).trans c3⟩
   have HS2 : Hid (∀ X : World, Below W1.heap.size W1 X → (fun w' => w'.cell? ⟨w.heap.size, 0, none⟩ = some (.int .i64 i) ∧ w'.cell? ⟨w.heap.size, 1, none⟩ = some (.int .i64 q) ∧ w'.cell? ⟨b1, o1 + i * 4, none⟩ = some (.int .i64 l.quote) ∧ w'.cell? ⟨b1, o1 + i * 4 + 1, none⟩ = some (.slice la l.lists.length lc) ∧ w'.cell? ⟨b1, o1 + i * 4 + 2, none⟩ = some (.int .i64 l.kind) ∧ w'.cell? ⟨b1, o1 + i * 4 + 3, none⟩ = some (.slice ca l.cells.length cc)) X) := Lib.hid fun X hX => HS3.out X X hX rfl rfl
   unfold linV at HLS
   refine Code.wp_mono (Q := EndsIn fun a' w' => ∃ (B C : Nat) (a1 : Option Addr) (c1 : Nat) (a2 : Option Addr) (c2 : Nat) (a3 : Option Addr) (c3 : Nat) (a4 : Option Addr) (c4 : Nat) (x9 x10 x11 x12 x13 x14 x15 x16 x17 x18 x19 x20 x21 x22 x23 x24 x25 x26 x27 x28 x29 x30 x31 x32 x33 x34 x35 x36 x37 x38 x39 x40 x41 x42 x43 x44 x45 x46 x47 x48 x49 x50 x51 x52 x53 : Value), a' = { tmps := #[.slice (some ⟨b1, o1, none⟩) d.length vc, .agg #[.int .i64 i, .int .i64 q], undef, .pointer (some ⟨w.heap.size, 0, none⟩), .slice none 0 0, .pointer (some ⟨w.heap.size + 1, 0, none⟩), .int .i64 0, .pointer (some ⟨B, 0, none⟩), .pointer (some ⟨C, 0, none⟩), x9, x10, x11, x12, x13, x14, x15, x16, x17, x18, x19, x20, x21, x22, x23, x24, x25, x26, x27, x28, x29, x30, x31, x32, x33, x34, x35, x36, x37, x38, x39, x40, x41, x42, x43, x44, x45, x46, x47, x48, x49, x50, x51, x52, x53], defers := [] } ∧
    w2.heap.size ≤ B ∧ w2.heap.size ≤ C ∧ ¬ B = C ∧ w'.heap[B]? = some (.cells #[.int .i64 s1.quote, .slice a1 s1.lists.length c1, .int .i64 s1.kind, .slice a2 s1.cells.length c2] 42) ∧ w'.heap[C]? = some (.cells #[.int .i64 s2.quote, .slice a3 s2.lists.length c3, .int .i64 s2.kind, .slice a4 s2.cells.length c4] 42) ∧
    IntsR true w' (fun b => w2.heap.size ≤ b) (.slice a1 s1.lists.length c1) s1.lists ∧ CelsR true w' (fun b => w2.heap.size ≤ b) (.slice a2 s1.cells.length c2) s1.cells ∧ IntsR true w' (fun b => w2.heap.size ≤ b) (.slice a3 s2.lists.length c3) s2.lists ∧ CelsR true w' (fun b => w2.heap.size ≤ b) (.slice a4 s2.cells.length c4) s2.cells ∧ Below w2.heap.size w2 w') ?_ ?_
   ·intro e a' w7 hends
    obtain ⟨rfl, B, C, a1, c1, a2, c2, a3, c3, a4, c4, x9, x10, x11, x12, x13, x14, x15, x16, x17, x18, x19, x20, x21, x22, x23, x24, x25, x26, x27, x28, x29, x30, x31, x32, x33, x34, x35, x36, x37, x38, x39, x40, x41, x42, x43, x44, x45, x46, x47, x48, x49, x50, x51, x52, x53, rfl, eB, eC, nBC, yB, yC, ia, ib, ic, id', hb27⟩ := endsIn_normal hends
    clear hends HLS HS2 HS3
    have hw27 := hb27.size
    have hW7 : Below W1.heap.size W1 w7 := below_from hb2 hb27
    have hBz := (Array.getElem?_eq_some_iff.1 yB).1
    have hCz := (Array.getElem?_eq_some_iff.1 yC).1
    have HIC : Hid (∀ X, Below w7.heap.size w7 X → IntsR true X (fun b => w2.heap.size ≤ b) (.slice a1 s1.lists.length c1) s1.lists ∧ CelsR true X (fun b => w2.heap.size ≤ b) (.slice a2 s1.cells.length c2) s1.cells ∧ IntsR true X (fun b => w2.heap.size ≤ b) (.slice a3 s2.lists.length c3) s2.lists ∧ CelsR true X (fun b => w2.heap.size ≤ b) (.slice a4 s2.cells.length c4) s2.cells) := Lib.hid fun X hX => ⟨ia.below (rdOf_stable _) hX, ib.below (rdOf_stable _) hX, ic.below (rdOf_stable _) hX, id'.below (rdOf_stable _) hX⟩
    have HT3 : Hid (∀ X Y : World, Below w7.heap.size w7 X → Y.heap[w.heap.size]? = X.heap[w.heap.size]? → Y.heap[B]? = X.heap[B]? → Y.heap[C]? = X.heap[C]? → (fun w' => w'.cell? ⟨w.heap.size, 0, none⟩ = some (.int .i64 i) ∧ w'.cell? ⟨w.heap.size, 1, none⟩ = some (.int .i64 q) ∧ w'.cell? ⟨B, 0, none⟩ = some (.int .i64 s1.quote) ∧ w'.cell? ⟨B, 1, none⟩ = some (.slice a1 s1.lists.length c1) ∧ w'.cell? ⟨B, 2, none⟩ = some (.int .i64 s1.kind) ∧ w'.cell? ⟨B, 3, none⟩ = some (.slice a2 s1.cells.length c2) ∧ w'.cell? ⟨C, 0, none⟩ = some (.int .i64 s2.quote) ∧ w'.cell? ⟨C, 1, none⟩ = some (.slice a3 s2.lists.length c3) ∧ w'.cell? ⟨C, 2, none⟩ = some (.int .i64 s2.kind) ∧ w'.cell? ⟨C, 3, none⟩ = some (.slice a4 s2.cells.length c4)) Y) := Lib.hid fun X Y hX hY hYB hYC => by
     have hp := (blk (hY.trans (HB.out X (below_from hW7 hX)).1)).1
     have hb := (blk (hYB.trans (heap_below hX yB))).1
     have hc := (blk (hYC.trans (heap_below hX yC))).1
     exact ⟨hp 0, hp 1, hb 0, hb 1, hb 2, hb 3, hc 0, hc 1, hc 2, hc 3⟩
    have HT2 : Hid (∀ X : World, Below w7.heap.size w7 X → (fun w' => w'.cell? ⟨w.heap.size, 0, none⟩ = some (.int .i64 i) ∧ w'.cell? ⟨w.heap.size, 1, none⟩ = some (.int .i64 q) ∧ w'.cell? ⟨B, 0, none⟩ = some (.int .i64 s1.quote) ∧ w'.cell? ⟨B, 1, none⟩ = some (.slice a1 s1.lists.length c1) ∧ w'.cell? ⟨B, 2, none⟩ = some (.int .i64 s1.kind) ∧ w'.cell? ⟨B, 3, none⟩ = some (.slice a2 s1.cells.length c2) ∧ w'.cell? ⟨C, 0, none⟩ = some (.int .i64 s2.quote) ∧ w'.cell? ⟨C, 1, none⟩ = some (.slice a3 s2.lists.length c3) ∧ w'.cell? ⟨C, 2, none⟩ = some (.int .i64 s2.kind) ∧ w'.cell? ⟨C, 3, none⟩ = some (.slice a4 s2.cells.length c4)) X) := Lib.hid fun X hX => HT3.out X X hX rfl rfl rfl
    have HS7 : Hid (∀ Z, Below W1.heap.size W1 Z → (fun w' => w'.cell? ⟨w.heap.size, 0, none⟩ = some (.int .i64 i) ∧ w'.cell? ⟨w.heap.size, 1, none⟩ = some (.int .i64 q)) Z) := Lib.hid fun Z hZ => (fun q => ⟨q 0, q 1⟩) (blk (HB.out Z hZ).1).1
    have hB0 : Below w7.heap.size w7 w7.drew := (Below.refl _ _).drew
    have w1e : IntKind.i64.wrap ((i : Int) + 1) = (i : Int) + 1 := IntWalk.i64_in _ (by omega)
    clear ia ib ic id' yB yC
    go_wp2_with fail
    refine wp_region_noPanic ?_
    refine wp_region_held_drew (S := (fun w' => w'.cell? ⟨w.heap.size, 0, none⟩ = some (.int .i64 i) ∧ w'.cell? ⟨w.heap.size, 1, none⟩ = some (.int .i64 q) ∧ w'.cell? ⟨B, 0, none⟩ = some (.int .i64 s1.quote) ∧ w'.cell? ⟨B, 1, none⟩ = some (.slice a1 s1.lists.length c1) ∧ w'.cell? ⟨B, 2, none⟩ = some (.int .i64 s1.kind) ∧ w'.cell? ⟨B, 3, none⟩ = some (.slice a2 s1.cells.length c2) ∧ w'.cell? ⟨C, 0, none⟩ = some (.int .i64 s2.quote) ∧ w'.cell? ⟨C, 1, none⟩ = some (.slice a3 s2.lists.length c3) ∧ w'.cell? ⟨C, 2, none⟩ = some (.int .i64 s2.kind) ∧ w'.cell? ⟨C, 3, none⟩ = some (.slice a4 s2.cells.length c4))) (by kernel_rfl) (HT2.out _ hB0) (fun hHeld => ?_)
    obtain ⟨X0, hX0⟩ : ∃ X, w7.drew = X := ⟨_, rfl⟩
    rw [hX0] at hB0 hHeld ⊢
    have N0 := Lib.hid hB0
    clear hX0 hB0
    refine wpAnyH_take (i := 0) (v := ?_) (by simp only [qA, qZ]; rfl) (by kernel_rfl) (by kernel_rfl) (by kernel_rfl) (fun _ _ _ h => h) (Or.inl ⟨by rfl, ?_⟩) (by assumption) ?_
    rotate_left 1
    ·intro w hSw; (try dsimp only at hSw); go_simp; (first | done | with_reducible rfl)
    try simp only [Act.put, qI, qX, qY]
    refine wpAnyH_take (i := 1) (v := ?_) (by simp only [qA, qS, qZ]; rfl) (by kernel_rfl) (by kernel_rfl) (by kernel_rfl) (fun _ _ _ h => h) (Or.inl ⟨by rfl, ?_⟩) (by assumption) ?_
    rotate_left 1
    ·intro w hSw; (try dsimp only at hSw); go_simp; (first | done | with_reducible rfl)
    try simp only [Act.put, qI, qX, qY]
    refine wpAnyH_take (i := 2) (v := ?_) (by simp only [qA, qS, qZ]; rfl) (by kernel_rfl) (by kernel_rfl) (by kernel_rfl) (fun _ _ _ h => h) (Or.inl ⟨by rfl, ?_⟩) (by assumption) ?_
    rotate_left 1
    ·intro w hSw; (try dsimp only at hSw); go_simp; (first | done | with_reducible rfl)
    try simp only [Act.put, qI, qX, qY]
    refine wpAnyH_take (i := 3) (v := ?_) (by simp only [qA, qS, qZ]; rfl) (by kernel_rfl) (by kernel_rfl) (by kernel_rfl) (fun _ _ _ h => h) (Or.inl ⟨by rfl, ?_⟩) (by assumption) ?_
    rotate_left 1
    ·intro w hSw; (try dsimp only at hSw); go_simp; (first | done | with_reducible rfl)
    try simp only [Act.put, qI, qX, qY]
    refine wpAnyH_take (i := 5) (v := ?_) (by simp only [qA, qS, qZ]; rfl) (by kernel_rfl) (by kernel_rfl) (by kernel_rfl) (fun _ _ _ h => h) (Or.inl ⟨by rfl, ?_⟩) (by assumption) ?_
    rotate_left 1
    ·intro w hSw; (try dsimp only at hSw); go_simp; (first | done | with_reducible rfl)
    try simp only [Act.put, qI, qX, qY]
    refine wpAnyH_take (i := 6) (v := ?_) (by simp only [qA, qS, qZ]; rfl) (by kernel_rfl) (by kernel_rfl) (by kernel_rfl) (fun _ _ _ h => h) (Or.inl ⟨by rfl, ?_⟩) (by assumption) ?_
    rotate_left 1
    ·intro w hSw; (try dsimp only at hSw); go_simp; (first | done | with_reducible rfl)
    try simp only [Act.put, qI, qX, qY]
    refine wpAnyH_ready (rs := [4, 7]) (by kernel_rfl) (by simp) ?_
    have hc0 := N0.out
    refine AllReadyH.cons (by simp only [qA, qS, qZ]; rfl) (fun K hK => ?_) ?_
    ·skip
     go_simp
     refine (HO1.out _ (below_from hW7 hc0)).mono ?_
     rintro e X1 ⟨v3, rfl, hv3, hst1, hne3⟩
     have hu := hc0.size
     have hc1 := below_from hc0 hst1
     have hown := SliceR.stable (rdLin_stable true) hv3 (Keeps.refl _ _) (S' := fun b => w7.heap.size ≤ b) (fun b h _ => Nat.le_trans hu h)
     clear hv3
     refine hK.out _ _ (HT2.out _ hc1) (fun hHeld => ?_)
     clear hK K
     try simp only [Act.put, qI, qX, qY]
     refine wpAnyH_ready (rs := [7]) (by kernel_rfl) (by simp) ?_
     refine AllReadyH.cons (by simp only [qA, qS, qZ]; rfl) (fun K hK => ?_) AllReadyH.nil
     go_simp
     obtain ⟨X2, hX2⟩ : ∃ X, X1.alloc (.cells #[.int .i64 s1.quote, .slice a1 s1.lists.length c1, .int .i64 s1.kind, .slice a2 s1.cells.length c2, .int .i64 s2.quote, .slice a3 s2.lists.length c3, .int .i64 s2.kind, .slice a4 s2.cells.length c4] 42) = X := ⟨_, rfl⟩
     rw [hX2]
     have hst2 : Below X1.heap.size X1 X2 := hX2 ▸ (Below.refl _ _).alloc (Nat.le_refl _) _
     have hg : X2.heap[X1.heap.size]? = some (.cells #[.int .i64 s1.quote, .slice a1 s1.lists.length c1, .int .i64 s1.kind, .slice a2 s1.cells.length c2, .int .i64 s2.quote, .slice a3 s2.lists.length c3, .int .i64 s2.kind, .slice a4 s2.cells.length c4] 42) := hX2 ▸ heap_new _ _ rfl
     have hGz := hc1.size
     have hc2 := below_from hc1 hst2
     clear hX2
     have hown := SliceR.below (rdLin_stable true) hown hst2
     refine hK.out _ _ (HT2.out _ hc2) (fun hHeld => ?_)
     clear hK K
     try simp only [Act.put, qI, qX, qY]
     have hIC := HIC.out _ hc2
     have hnew := doc_two (S := fun b => w2.heap.size ≤ b) hg hIC.1 hIC.2.1 hIC.2.2.1 hIC.2.2.2 (by show w2.heap.size ≤ X1.heap.size; omega)
     obtain ⟨news, hsrc, hnw⟩ := SliceR.src rowLine eltLine.pos eltLine.ones hnew
     have hown2 := SliceR.stable (rdLin_stable true) hown (Keeps.refl _ _) (S' := fun b => w2.heap.size ≤ b) (fun b h _ => Nat.le_trans hw27 h)
     have hoB : v3.ownBlock ≠ some B := own_ne hown hne3 (fun h => by have h : w7.heap.size ≤ B := h; omega)
     have hoC : v3.ownBlock ≠ some C := own_ne hown hne3 (fun h => by have h : w7.heap.size ≤ C := h; omega)
     have hzf := hc2.size
     have hl8 : (d.take i).length + ([s1, s2] : Doc).length ≤ 100000000 := by rw [List.length_take]; simp; omega
     have hl9 : (d.take i ++ [s1, s2]).length + (d.drop (i + 1)).length ≤ 100000000 := by rw [List.length_append, List.length_take, List.length_drop]; simp; omega
     refine wpAnyH_ready (rs := [8]) (by kernel_rfl) (by simp) ?_
     refine AllReadyH.cons (by simp only [qA, qS, qZ]; rfl) (fun K hK => ?_) AllReadyH.nil
     refine step_append_R (by rfl) _ _ 22 22 (by rfl) rowLine eltLine w2.heap.size v3 (.slice (some ⟨X1.heap.size, 0, none⟩) 2 2) (xs := d.take i) (ys := [s1, s2]) (news := news) (by rfl) (by rfl) hown2 (by omega) hsrc hnw hl8 ?_
     intro v9 w9 hv9 hb9 hG9 _
     have y9B : w9.heap[B]? = X2.heap[B]? := hG9.block B (by omega) (fun e => hoB e.symm)
     have y9C : w9.heap[C]? = X2.heap[C]? := hG9.block C (by omega) (fun e => hoC e.symm)
     have y9w : w9.heap[w.heap.size]? = X2.heap[w.heap.size]? := hb9.block _ (by omega)
     refine hK.out _ _ (HT3.out X2 w9 hc2 y9w y9B y9C) (fun hHeld => ?_)
     clear hK K
     try simp only [Act.put, qI, qX, qY]
     refine wpAnyH_take (i := 9) (v := ?_) (by simp only [qA, qS, qZ]; rfl) (by kernel_rfl) (by kernel_rfl) (by kernel_rfl) (fun _ _ _ h => h) (Or.inl ⟨by rfl, ?_⟩) (by assumption) ?_
     rotate_left 1
     ·intro w hSw; (try dsimp only at hSw); go_simp; (first | done | with_reducible rfl)
     try simp only [Act.put, qI, qX, qY]
     refine wpAnyH_done (by kernel_rfl) ?_ _
     refine NoPanic.normal ?_
     have hb29 : Below w2.heap.size w2 w9 := (below_from hb27 hc2).trans hb9
     have hy9 := below_from hb2 hb29
     have hz9 := hb29.size
     have HV9 := Lib.hid hv9
     clear hIC hnew hsrc hnw hown2 hown hoB hoC y9B y9C y9w hv9 hG9 hb9 hg hc1 hc2 hst1 hst2 hHeld hne3 HT2 HT3 HIC
     have w1e : IntKind.i64.wrap ((i : Int) + 1) = (i : Int) + 1 := IntWalk.i64_in _ (by omega)
     have hd2 : (i : Int) + 1 ≤ (d.length : Int) := by omega
     have hd3 : i + 1 ≤ d.length := by omega
     have hd4 : (0 : Int) ≤ (i : Int) + 1 := by omega
     rcases HDQ.out with ⟨hcv, hYe⟩ | ⟨hcv, hYe⟩
     ·have hcv2 := hcv.symm; subst hcv2; subst hYe; rw [Nat.sub_self, show d.length - (i + 1) = 0 by omega] at HO2
      go_wp2_with fail
      refine wp_region_noPanic ?_
      refine wp_region_held_drew (S := (fun w' => w'.cell? ⟨w.heap.size, 0, none⟩ = some (.int .i64 i) ∧ w'.cell? ⟨w.heap.size, 1, none⟩ = some (.int .i64 q))) (by kernel_rfl) (HS7.out _ hy9.drew) (fun hHeld => ?_)
      obtain ⟨Z0, hZ0⟩ : ∃ X, w9.drew = X := ⟨_, rfl⟩
      have hd9 : Below w9.heap.size w9 Z0 := hZ0 ▸ (Below.refl _ _).drew
      rw [hZ0] at hHeld ⊢
      have hyZ := below_from hy9 hd9
      have hbZ := below_from hb29 hd9
      clear hZ0
      refine wpAnyH_take (i := 0) (v := ?_) (by simp only [qA, qZ]; rfl) (by kernel_rfl) (by kernel_rfl) (by kernel_rfl) (fun _ _ _ h => h) (Or.inl ⟨by rfl, ?_⟩) (by assumption) ?_
      rotate_left 1
      ·intro w hSw; (try dsimp only at hSw); go_simp; (first | done | with_reducible rfl)
      try simp only [Act.put, qI, qX, qY]
      refine wpAnyH_take (i := 1) (v := ?_) (by simp only [qA, qS, qZ]; rfl) (by kernel_rfl) (by kernel_rfl) (by kernel_rfl) (fun _ _ _ h => h) (Or.inl ⟨by rfl, ?_⟩) (by assumption) ?_
      rotate_left 1
      ·intro w hSw; (try dsimp only at hSw); go_simp; (first | done | with_reducible rfl)
      try simp only [Act.put, qI, qX, qY]
      refine wpAnyH_take (i := 2) (v := ?_) (by simp only [qA, qS, qZ]; rfl) (by kernel_rfl) (by kernel_rfl) (by kernel_rfl) (fun _ _ _ h => h) (Or.inl ⟨by rfl, ?_⟩) (by assumption) ?_
      rotate_left 1
      ·intro w hSw; (try dsimp only at hSw); go_simp; (first | done | with_reducible rfl)
      try simp only [Act.put, qI, qX, qY]
      refine wpAnyH_take (i := 3) (v := ?_) (by simp only [qA, qS, qZ]; rfl) (by kernel_rfl) (by kernel_rfl) (by kernel_rfl) (fun _ _ _ h => h) (Or.inl ⟨by rfl, ?_⟩) (by assumption) ?_
      rotate_left 1
      ·intro w hSw; (try dsimp only at hSw); go_simp; (first | done | with_reducible rfl)
      try simp only [Act.put, qI, qX, qY]
      refine wpAnyH_take (i := 4) (v := ?_) (by simp only [qA, qS, qZ]; rfl) (by kernel_rfl) (by kernel_rfl) (by kernel_rfl) (fun _ _ _ h => h) (Or.inl ⟨by rfl, ?_⟩) (by assumption) ?_
      rotate_left 1
      ·intro w hSw; (try dsimp only at hSw); go_simp; (first | done | with_reducible rfl)
      try simp only [Act.put, qI, qX, qY]
      refine wpAnyH_take (i := 5) (v := ?_) (by simp only [qA, qS, qZ]; rfl) (by kernel_rfl) (by kernel_rfl) (by kernel_rfl) (fun _ _ _ h => h) (Or.inl ⟨by rfl, ?_⟩) (by assumption) ?_
      rotate_left 1
      ·intro w hSw; (try dsimp only at hSw); go_simp; (first | done | with_reducible rfl)
      try simp only [Act.put, qI, qX, qY]
      refine wpAnyH_take (i := 8) (v := ?_) (by simp only [qA, qS, qZ]; rfl) (by kernel_rfl) (by kernel_rfl) (by kernel_rfl) (fun _ _ _ h => h) (Or.inl ⟨by rfl, ?_⟩) (by assumption) ?_
      rotate_left 1
      ·intro w hSw; (try dsimp only at hSw); go_simp; (first | done | with_reducible rfl)
      try simp only [Act.put, qI, qX, qY]
      refine wpAnyH_take (i := 9) (v := ?_) (by simp only [qA, qS, qZ]; rfl) (by kernel_rfl) (by kernel_rfl) (by kernel_rfl) (fun _ _ _ h => h) (Or.inl ⟨by rfl, ?_⟩) (by assumption) ?_
      rotate_left 1
      ·intro w hSw; (try dsimp only at hSw); go_simp; (first | done | with_reducible rfl)
      try simp only [Act.put, qI, qX, qY]
      refine wpAnyH_take (i := 10) (v := ?_) (by simp only [qA, qS, qZ]; rfl) (by kernel_rfl) (by kernel_rfl) (by kernel_rfl) (fun _ _ _ h => h) (Or.inl ⟨by rfl, ?_⟩) (by assumption) ?_
      rotate_left 1
      ·intro w hSw; (try dsimp only at hSw); go_simp; (first | done | with_reducible rfl)
      try simp only [Act.put, qI, qX, qY]
      refine wpAnyH_take (i := 11) (v := ?_) (by simp only [qA, qS, qZ]; rfl) (by kernel_rfl) (by kernel_rfl) (by kernel_rfl) (fun _ _ _ h => h) (Or.inl ⟨by rfl, ?_⟩) (by assumption) ?_
      rotate_left 1
      ·intro w hSw; (try dsimp only at hSw); go_simp; (first | done | with_reducible rfl)
      try simp only [Act.put, qI, qX, qY]
      refine wpAnyH_ready (rs := [6]) (by kernel_rfl) (by simp) ?_
      refine AllReadyH.cons (by simp only [qA, qS, qZ]; rfl) (fun K hK => ?_) AllReadyH.nil
      go_simp
      refine (HO2.out _ hyZ).mono ?_
      rintro e wa ⟨vA, rfl, hvA, hbA⟩
      have hya := below_from hyZ hbA
      have hba := below_from hbZ hbA
      have hza := hba.size
      have hzZ := hbZ.size
      have hvA2 := SliceR.stable (rdLin_stable true) hvA (Keeps.refl _ _) (S' := fun b => w2.heap.size ≤ b) (fun b h _ => Nat.le_trans hzZ h)
      obtain ⟨newsA, hsA, hnA⟩ := SliceR.src rowLine eltLine.pos eltLine.ones hvA2
      have hv9a := SliceR.below (rdLin_stable true) HV9.out (below_from hd9 hbA)
      refine hK.out _ _ (HS7.out _ hya) (fun hHeld => ?_)
      clear hK K
      try simp only [Act.put, qI, qX, qY]
      refine wpAnyH_ready (rs := [7]) (by kernel_rfl) (by simp) ?_
      refine AllReadyH.cons (by simp only [qA, qS, qZ]; rfl) (fun K hK => ?_) AllReadyH.nil
      refine step_append_R (by rfl) _ _ 22 22 (by rfl) rowLine eltLine w2.heap.size v9 vA (xs := d.take i ++ [s1, s2]) (ys := d.drop (i + 1)) (news := newsA) (by rfl) (by rfl) hv9a hza hsA hnA hl9 ?_
      intro vB wB hvB hbB _ _
      have hbB2 := hba.trans hbB
      have hyB := below_from hb2 hbB2
      have HVB := Lib.hid hvB
      have y1 := HPB.out _ hbB2
      obtain ⟨q8, f8⟩ := blk y1
      have hSB := HS7.out _ hyB
      refine hK.out _ _ hSB (fun hHeld => ?_)
      clear hK K hvA hvA2 hsA hnA hv9a hvB hbB
      try simp only [Act.put, qI, qX, qY]
      refine wpAnyH_ready (rs := [12]) (by kernel_rfl) (by simp) ?_
      refine AllReadyH.cons (by simp only [qA, qS, qZ]; rfl) (fun K hK => ?_) AllReadyH.nil
      go_simp
      refine hK.out _ _ hSB (fun _ => ?_)
      clear hK K
      try simp only [Act.put, qI, qX, qY]
      refine wpAnyH_ready (rs := [13]) (by kernel_rfl) (by simp) ?_
      refine AllReadyH.cons (by simp only [qA, qS, qZ]; rfl) (fun K hK => ?_) AllReadyH.nil
      go_simp
      have e3 : w.heap.size + 1 ≠ w.heap.size := by omega
      have hSA : ∀ u0 u1, (fun w' => w'.cell? ⟨w.heap.size, 0, none⟩ = some (.int .i64 i) ∧ w'.cell? ⟨w.heap.size, 1, none⟩ = some (.int .i64 q)) ((wB.setCell ⟨w.heap.size + 1, 0, none⟩ u0).setCell ⟨w.heap.size + 1, 1, none⟩ u1) := fun u0 u1 => ⟨(setCell_block e3).trans ((setCell_block e3).trans hSB.1), (setCell_block e3).trans ((setCell_block e3).trans hSB.2)⟩
      refine hK.out _ _ (hSA _ _) (fun _ => ?_)
      clear hK K
      try simp only [Act.put, qI, qX, qY]
      refine wpAnyH_ready (rs := [14]) (by kernel_rfl) (by simp) ?_
      refine AllReadyH.cons (by simp only [qA, qS, qZ]; rfl) (fun K hK => ?_) AllReadyH.nil
      go_simp
      refine hK.out _ _ (hSA _ _) (fun _ => ?_)
      refine wpAnyH_done (by kernel_rfl) ?_ _
      refine NoPanic.normal ?_
      clear hK K hSA
      go_wp2_with fail
      refine bodyPost_ret (results_dpe rfl _ _ (w.heap.size + 1) (.int .i64 ((i : Int) + 1)) (.int .i64 0) rfl (by simp [heap_set, putIn, y1])) rfl ?_
      unfold DocPSaid
      rw [HR.out]
      have hfB : Below w.heap.size w wB := hwW2.trans (hbB2.mono hww2)
      exact ⟨_, rfl, SliceR.stable (rdLin_stable true) HVB.out (((Keeps.refl _ _).set (fun hh => by have hh : w2.heap.size ≤ w.heap.size + 1 := hh; omega) _).set (fun hh => by have hh : w2.heap.size ≤ w.heap.size + 1 := hh; omega) _) (fun b h _ => Nat.le_trans hww2 h), (hfB.setCell (by show w.heap.size ≤ w.heap.size + 1; omega) _).setCell (by show w.heap.size ≤ w.heap.size + 1; omega) _⟩
     ·subst hYe
      go_wp2_with fail
      refine wp_region_noPanic ?_
      refine wp_region_held_drew (S := (fun w' => w'.cell? ⟨w.heap.size, 0, none⟩ = some (.int .i64 i) ∧ w'.cell? ⟨w.heap.size, 1, none⟩ = some (.int .i64 q))) (by kernel_rfl) (HS7.out _ hy9.drew) (fun hHeld => ?_)
      obtain ⟨Z0, hZ0⟩ : ∃ X, w9.drew = X := ⟨_, rfl⟩
      have hd9 : Below w9.heap.size w9 Z0 := hZ0 ▸ (Below.refl _ _).drew
      rw [hZ0] at hHeld ⊢
      have hyZ := below_from hy9 hd9
      have hbZ := below_from hb29 hd9
      clear hZ0
      refine wpAnyH_take (i := 0) (v := ?_) (by simp only [qA, qZ]; rfl) (by kernel_rfl) (by kernel_rfl) (by kernel_rfl) (fun _ _ _ h => h) (Or.inl ⟨by rfl, ?_⟩) (by assumption) ?_
      rotate_left 1
      ·intro w hSw; (try dsimp only at hSw); go_simp; (first | done | with_reducible rfl)
      try simp only [Act.put, qI, qX, qY]
      refine wpAnyH_take (i := 1) (v := ?_) (by simp only [qA, qS, qZ]; rfl) (by kernel_rfl) (by kernel_rfl) (by kernel_rfl) (fun _ _ _ h => h) (Or.inl ⟨by rfl, ?_⟩) (by assumption) ?_
      rotate_left 1
      ·intro w hSw; (try dsimp only at hSw); go_simp; (first | done | with_reducible rfl)
      try simp only [Act.put, qI, qX, qY]
      refine wpAnyH_take (i := 2) (v := ?_) (by simp only [qA, qS, qZ]; rfl) (by kernel_rfl) (by kernel_rfl) (by kernel_rfl) (fun _ _ _ h => h) (Or.inl ⟨by rfl, ?_⟩) (by assumption) ?_
      rotate_left 1
      ·intro w hSw; (try dsimp only at hSw); go_simp; (first | done | with_reducible rfl)
      try simp only [Act.put, qI, qX, qY]
      refine wpAnyH_take (i := 3) (v := ?_) (by simp only [qA, qS, qZ]; rfl) (by kernel_rfl) (by kernel_rfl) (by kernel_rfl) (fun _ _ _ h => h) (Or.inl ⟨by rfl, ?_⟩) (by assumption) ?_
      rotate_left 1
      ·intro w hSw; (try dsimp only at hSw); go_simp; (first | done | with_reducible rfl)
      try simp only [Act.put, qI, qX, qY]
      refine wpAnyH_take (i := 4) (v := ?_) (by simp only [qA, qS, qZ]; rfl) (by kernel_rfl) (by kernel_rfl) (by kernel_rfl) (fun _ _ _ h => h) (Or.inl ⟨by rfl, ?_⟩) (by assumption) ?_
      rotate_left 1
      ·intro w hSw; (try dsimp only at hSw); go_simp; (first | done | with_reducible rfl)
      try simp only [Act.put, qI, qX, qY]
      refine wpAnyH_take (i := 5) (v := ?_) (by simp only [qA, qS, qZ]; rfl) (by kernel_rfl) (by kernel_rfl) (by kernel_rfl) (fun _ _ _ h => h) (Or.inl ⟨by rfl, ?_⟩) (by assumption) ?_
      rotate_left 1
      ·intro w hSw; (try dsimp only at hSw); go_simp; (first | done | with_reducible rfl)
      try simp only [Act.put, qI, qX, qY]
      refine wpAnyH_take (i := 8) (v := ?_) (by simp only [qA, qS, qZ]; rfl) (by kernel_rfl) (by kernel_rfl) (by kernel_rfl) (fun _ _ _ h => h) (Or.inl ⟨by rfl, ?_⟩) (by assumption) ?_
      rotate_left 1
      ·intro w hSw; (try dsimp only at hSw); go_simp; (first | done | with_reducible rfl)
      try simp only [Act.put, qI, qX, qY]
      refine wpAnyH_take (i := 9) (v := ?_) (by simp only [qA, qS, qZ]; rfl) (by kernel_rfl) (by kernel_rfl) (by kernel_rfl) (fun _ _ _ h => h) (Or.inl ⟨by rfl, ?_⟩) (by assumption) ?_
      rotate_left 1
      ·intro w hSw; (try dsimp only at hSw); go_simp; (first | done | with_reducible rfl)
      try simp only [Act.put, qI, qX, qY]
      refine wpAnyH_take (i := 10) (v := ?_) (by simp only [qA, qS, qZ]; rfl) (by kernel_rfl) (by kernel_rfl) (by kernel_rfl) (fun _ _ _ h => h) (Or.inl ⟨by rfl, ?_⟩) (by assumption) ?_
      rotate_left 1
      ·intro w hSw; (try dsimp only at hSw); go_simp; (first | done | with_reducible rfl)
      try simp only [Act.put, qI, qX, qY]
      refine wpAnyH_take (i := 11) (v := ?_) (by simp only [qA, qS, qZ]; rfl) (by kernel_rfl) (by kernel_rfl) (by kernel_rfl) (fun _ _ _ h => h) (Or.inl ⟨by rfl, ?_⟩) (by assumption) ?_
      rotate_left 1
      ·intro w hSw; (try dsimp only at hSw); go_simp; (first | done | with_reducible rfl)
      try simp only [Act.put, qI, qX, qY]
      refine wpAnyH_ready (rs := [6]) (by kernel_rfl) (by simp) ?_
      refine AllReadyH.cons (by simp only [qA, qS, qZ]; rfl) (fun K hK => ?_) AllReadyH.nil
      go_simp
      refine (HO2.out _ hyZ).mono ?_
      rintro e wa ⟨vA, rfl, hvA, hbA⟩
      have hya := below_from hyZ hbA
      have hba := below_from hbZ hbA
      have hza := hba.size
      have hzZ := hbZ.size
      have hvA2 := SliceR.stable (rdLin_stable true) hvA (Keeps.refl _ _) (S' := fun b => w2.heap.size ≤ b) (fun b h _ => Nat.le_trans hzZ h)
      obtain ⟨newsA, hsA, hnA⟩ := SliceR.src rowLine eltLine.pos eltLine.ones hvA2
      have hv9a := SliceR.below (rdLin_stable true) HV9.out (below_from hd9 hbA)
      refine hK.out _ _ (HS7.out _ hya) (fun hHeld => ?_)
      clear hK K
      try simp only [Act.put, qI, qX, qY]
      refine wpAnyH_ready (rs := [7]) (by kernel_rfl) (by simp) ?_
      refine AllReadyH.cons (by simp only [qA, qS, qZ]; rfl) (fun K hK => ?_) AllReadyH.nil
      refine step_append_R (by rfl) _ _ 22 22 (by rfl) rowLine eltLine w2.heap.size v9 vA (xs := d.take i ++ [s1, s2]) (ys := d.drop (i + 1)) (news := newsA) (by rfl) (by rfl) hv9a hza hsA hnA hl9 ?_
      intro vB wB hvB hbB _ _
      have hbB2 := hba.trans hbB
      have hyB := below_from hb2 hbB2
      have HVB := Lib.hid hvB
      have y1 := HPB.out _ hbB2
      obtain ⟨q8, f8⟩ := blk y1
      have hSB := HS7.out _ hyB
      refine hK.out _ _ hSB (fun hHeld => ?_)
      clear hK K hvA hvA2 hsA hnA hv9a hvB hbB
      try simp only [Act.put, qI, qX, qY]
      refine wpAnyH_ready (rs := [12]) (by kernel_rfl) (by simp) ?_
      refine AllReadyH.cons (by simp only [qA, qS, qZ]; rfl) (fun K hK => ?_) AllReadyH.nil
      go_simp
      refine hK.out _ _ hSB (fun _ => ?_)
      clear hK K
      try simp only [Act.put, qI, qX, qY]
      refine wpAnyH_ready (rs := [13]) (by kernel_rfl) (by simp) ?_
      refine AllReadyH.cons (by simp only [qA, qS, qZ]; rfl) (fun K hK => ?_) AllReadyH.nil
      go_simp
      have e3 : w.heap.size + 1 ≠ w.heap.size := by omega
      have hSA : ∀ u0 u1, (fun w' => w'.cell? ⟨w.heap.size, 0, none⟩ = some (.int .i64 i) ∧ w'.cell? ⟨w.heap.size, 1, none⟩ = some (.int .i64 q)) ((wB.setCell ⟨w.heap.size + 1, 0, none⟩ u0).setCell ⟨w.heap.size + 1, 1, none⟩ u1) := fun u0 u1 => ⟨(setCell_block e3).trans ((setCell_block e3).trans hSB.1), (setCell_block e3).trans ((setCell_block e3).trans hSB.2)⟩
      refine hK.out _ _ (hSA _ _) (fun _ => ?_)
      clear hK K
      try simp only [Act.put, qI, qX, qY]
      refine wpAnyH_ready (rs := [14]) (by kernel_rfl) (by simp) ?_
      refine AllReadyH.cons (by simp only [qA, qS, qZ]; rfl) (fun K hK => ?_) AllReadyH.nil
      go_simp
      refine hK.out _ _ (hSA _ _) (fun _ => ?_)
      refine wpAnyH_done (by kernel_rfl) ?_ _
      refine NoPanic.normal ?_
      clear hK K hSA
      go_wp2_with fail
      refine bodyPost_ret (results_dpe rfl _ _ (w.heap.size + 1) (.int .i64 ((i : Int) + 1)) (.int .i64 0) rfl (by simp [heap_set, putIn, y1])) rfl ?_
      unfold DocPSaid
      rw [HR.out]
      have hfB : Below w.heap.size w wB := hwW2.trans (hbB2.mono hww2)
      exact ⟨_, rfl, SliceR.stable (rdLin_stable true) HVB.out (((Keeps.refl _ _).set (fun hh => by have hh : w2.heap.size ≤ w.heap.size + 1 := hh; omega) _).set (fun hh => by have hh : w2.heap.size ≤ w.heap.size + 1 := hh; omega) _) (fun b h _ => Nat.le_trans hww2 h), (hfB.setCell (by show w.heap.size ≤ w.heap.size + 1; omega) _).setCell (by show w.heap.size ≤ w.heap.size + 1; omega) _⟩
    refine AllReadyH.cons (by simp only [qA, qS, qZ]; rfl) (fun K hK => ?_) AllReadyH.nil
    go_simp
    obtain ⟨X1, hX1⟩ : ∃ X, X0.alloc (.cells #[.int .i64 s1.quote, .slice a1 s1.lists.length c1, .int .i64 s1.kind, .slice a2 s1.cells.length c2, .int .i64 s2.quote, .slice a3 s2.lists.length c3, .int .i64 s2.kind, .slice a4 s2.cells.length c4] 42) = X := ⟨_, rfl⟩
    rw [hX1]
    have hst1 : Below X0.heap.size X0 X1 := hX1 ▸ (Below.refl _ _).alloc (Nat.le_refl _) _
    have hg : X1.heap[X0.heap.size]? = some (.cells #[.int .i64 s1.quote, .slice a1 s1.lists.length c1, .int .i64 s1.kind, .slice a2 s1.cells.length c2, .int .i64 s2.quote, .slice a3 s2.lists.length c3, .int .i64 s2.kind, .slice a4 s2.cells.length c4] 42) := hX1 ▸ heap_new _ _ rfl
    have hGz := hc0.size
    have hc1 := below_from hc0 hst1
    clear hX1
    refine hK.out _ _ (HT2.out _ hc1) (fun hHeld => ?_)
    clear hK K
    try simp only [Act.put, qI, qX, qY]
    refine wpAnyH_ready (rs := [4]) (by kernel_rfl) (by simp) ?_
    refine AllReadyH.cons (by simp only [qA, qS, qZ]; rfl) (fun K hK => ?_) AllReadyH.nil
    go_simp
    refine (HO1.out _ (below_from hW7 hc1)).mono ?_
    rintro e X2 ⟨v3, rfl, hv3, hst2, hne3⟩
    have hu := hc1.size
    have hc2 := below_from hc1 hst2
    have hown := SliceR.stable (rdLin_stable true) hv3 (Keeps.refl _ _) (S' := fun b => w7.heap.size ≤ b) (fun b h _ => Nat.le_trans hu h)
    clear hv3
    have hg := heap_below hst2 hg
    refine hK.out _ _ (HT2.out _ hc2) (fun hHeld => ?_)
    clear hK K
    try simp only [Act.put, qI, qX, qY]
    have hIC := HIC.out _ hc2
    have hnew := doc_two (S := fun b => w2.heap.size ≤ b) hg hIC.1 hIC.2.1 hIC.2.2.1 hIC.2.2.2 (by show w2.heap.size ≤ X0.heap.size; omega)
    obtain ⟨news, hsrc, hnw⟩ := SliceR.src rowLine eltLine.pos eltLine.ones hnew
    have hown2 := SliceR.stable (rdLin_stable true) hown (Keeps.refl _ _) (S' := fun b => w2.heap.size ≤ b) (fun b h _ => Nat.le_trans hw27 h)
    have hoB : v3.ownBlock ≠ some B := own_ne hown hne3 (fun h => by have h : w7.heap.size ≤ B := h; omega)
    have hoC : v3.ownBlock ≠ some C := own_ne hown hne3 (fun h => by have h : w7.heap.size ≤ C := h; omega)
    have hzf := hc2.size
    have hl8 : (d.take i).length + ([s1, s2] : Doc).length ≤ 100000000 := by rw [List.length_take]; simp; omega
    have hl9 : (d.take i ++ [s1, s2]).length + (d.drop (i + 1)).length ≤ 100000000 := by rw [List.length_append, List.length_take, List.length_drop]; simp; omega
    refine wpAnyH_ready (rs := [8]) (by kernel_rfl) (by simp) ?_
    refine AllReadyH.cons (by simp only [qA, qS, qZ]; rfl) (fun K hK => ?_) AllReadyH.nil
    refine step_append_R (by rfl) _ _ 22 22 (by rfl) rowLine eltLine w2.heap.size v3 (.slice (some ⟨X0.heap.size, 0, none⟩) 2 2) (xs := d.take i) (ys := [s1, s2]) (news := news) (by rfl) (by rfl) hown2 (by omega) hsrc hnw hl8 ?_
    intro v9 w9 hv9 hb9 hG9 _
    have y9B : w9.heap[B]? = X2.heap[B]? := hG9.block B (by omega) (fun e => hoB e.symm)
    have y9C : w9.heap[C]? = X2.heap[C]? := hG9.block C (by omega) (fun e => hoC e.symm)
    have y9w : w9.heap[w.heap.size]? = X2.heap[w.heap.size]? := hb9.block _ (by omega)
    refine hK.out _ _ (HT3.out X2 w9 hc2 y9w y9B y9C) (fun hHeld => ?_)
    clear hK K
    try simp only [Act.put, qI, qX, qY]
    refine wpAnyH_take (i := 9) (v := ?_) (by simp only [qA, qS, qZ]; rfl) (by kernel_rfl) (by kernel_rfl) (by kernel_rfl) (fun _ _ _ h => h) (Or.inl ⟨by rfl, ?_⟩) (by assumption) ?_
    rotate_left 1
    ·intro w hSw; (try dsimp only at hSw); go_simp; (first | done | with_reducible rfl)
    try simp only [Act.put, qI, qX, qY]
    refine wpAnyH_done (by kernel_rfl) ?_ _
    refine NoPanic.normal ?_
    have hb29 : Below w2.heap.size w2 w9 := (below_from hb27 hc2).trans hb9
    have hy9 := below_from hb2 hb29
    have hz9 := hb29.size
    have HV9 := Lib.hid hv9
    clear hIC hnew hsrc hnw hown2 hown hoB hoC y9B y9C y9w hv9 hG9 hb9 hg hc1 hc2 hst1 hst2 hHeld hne3 HT2 HT3 HIC
    have w1e : IntKind.i64.wrap ((i : Int) + 1) = (i : Int) + 1 := IntWalk.i64_in _ (by omega)
    have hd2 : (i : Int) + 1 ≤ (d.length : Int) := by omega
    have hd3 : i + 1 ≤ d.length := by omega
    have hd4 : (0 : Int) ≤ (i : Int) + 1 := by omega
    rcases HDQ.out with ⟨hcv, hYe⟩ | ⟨hcv, hYe⟩
    ·have hcv2 := hcv.symm; subst hcv2; subst hYe; rw [Nat.sub_self, show d.length - (i + 1) = 0 by omega] at HO2
     go_wp2_with fail
     refine wp_region_noPanic ?_
     refine wp_region_held_drew (S := (fun w' => w'.cell? ⟨w.heap.size, 0, none⟩ = some (.int .i64 i) ∧ w'.cell? ⟨w.heap.size, 1, none⟩ = some (.int .i64 q))) (by kernel_rfl) (HS7.out _ hy9.drew) (fun hHeld => ?_)
     obtain ⟨Z0, hZ0⟩ : ∃ X, w9.drew = X := ⟨_, rfl⟩
     have hd9 : Below w9.heap.size w9 Z0 := hZ0 ▸ (Below.refl _ _).drew
     rw [hZ0] at hHeld ⊢
     have hyZ := below_from hy9 hd9
     have hbZ := below_from hb29 hd9
     clear hZ0
     refine wpAnyH_take (i := 0) (v := ?_) (by simp only [qA, qZ]; rfl) (by kernel_rfl) (by kernel_rfl) (by kernel_rfl) (fun _ _ _ h => h) (Or.inl ⟨by rfl, ?_⟩) (by assumption) ?_
     rotate_left 1
     ·intro w hSw; (try dsimp only at hSw); go_simp; (first | done | with_reducible rfl)
     try simp only [Act.put, qI, qX, qY]
     refine wpAnyH_take (i := 1) (v := ?_) (by simp only [qA, qS, qZ]; rfl) (by kernel_rfl) (by kernel_rfl) (by kernel_rfl) (fun _ _ _ h => h) (Or.inl ⟨by rfl, ?_⟩) (by assumption) ?_
     rotate_left 1
     ·intro w hSw; (try dsimp only at hSw); go_simp; (first | done | with_reducible rfl)
     try simp only [Act.put, qI, qX, qY]
     refine wpAnyH_take (i := 2) (v := ?_) (by simp only [qA, qS, qZ]; rfl) (by kernel_rfl) (by kernel_rfl) (by kernel_rfl) (fun _ _ _ h => h) (Or.inl ⟨by rfl, ?_⟩) (by assumption) ?_
     rotate_left 1
     ·intro w hSw; (try dsimp only at hSw); go_simp; (first | done | with_reducible rfl)
     try simp only [Act.put, qI, qX, qY]
     refine wpAnyH_take (i := 3) (v := ?_) (by simp only [qA, qS, qZ]; rfl) (by kernel_rfl) (by kernel_rfl) (by kernel_rfl) (fun _ _ _ h => h) (Or.inl ⟨by rfl, ?_⟩) (by assumption) ?_
     rotate_left 1
     ·intro w hSw; (try dsimp only at hSw); go_simp; (first | done | with_reducible rfl)
     try simp only [Act.put, qI, qX, qY]
     refine wpAnyH_take (i := 4) (v := ?_) (by simp only [qA, qS, qZ]; rfl) (by kernel_rfl) (by kernel_rfl) (by kernel_rfl) (fun _ _ _ h => h) (Or.inl ⟨by rfl, ?_⟩) (by assumption) ?_
     rotate_left 1
     ·intro w hSw; (try dsimp only at hSw); go_simp; (first | done | with_reducible rfl)
     try simp only [Act.put, qI, qX, qY]
     refine wpAnyH_take (i := 5) (v := ?_) (by simp only [qA, qS, qZ]; rfl) (by kernel_rfl) (by kernel_rfl) (by kernel_rfl) (fun _ _ _ h => h) (Or.inl ⟨by rfl, ?_⟩) (by assumption) ?_
     rotate_left 1
     ·intro w hSw; (try dsimp only at hSw); go_simp; (first | done | with_reducible rfl)
     try simp only [Act.put, qI, qX, qY]
     refine wpAnyH_take (i := 8) (v := ?_) (by simp only [qA, qS, qZ]; rfl) (by kernel_rfl) (by kernel_rfl) (by kernel_rfl) (fun _ _ _ h => h) (Or.inl ⟨by rfl, ?_⟩) (by assumption) ?_
     rotate_left 1
     ·intro w hSw; (try dsimp only at hSw); go_simp; (first | done | with_reducible rfl)
     try simp only [Act.put, qI, qX, qY]
     refine wpAnyH_take (i := 9) (v := ?_) (by simp only [qA, qS, qZ]; rfl) (by kernel_rfl) (by kernel_rfl) (by kernel_rfl) (fun _ _ _ h => h) (Or.inl ⟨by rfl, ?_⟩) (by assumption) ?_
     rotate_left 1
     ·intro w hSw; (try dsimp only at hSw); go_simp; (first | done | with_reducible rfl)
     try simp only [Act.put, qI, qX, qY]
     refine wpAnyH_take (i := 10) (v := ?_) (by simp only [qA, qS, qZ]; rfl) (by kernel_rfl) (by kernel_rfl) (by kernel_rfl) (fun _ _ _ h => h) (Or.inl ⟨by rfl, ?_⟩) (by assumption) ?_
     rotate_left 1
     ·intro w hSw; (try dsimp only at hSw); go_simp; (first | done | with_reducible rfl)
     try simp only [Act.put, qI, qX, qY]
     refine wpAnyH_take (i := 11) (v := ?_) (by simp only [qA, qS, qZ]; rfl) (by kernel_rfl) (by kernel_rfl) (by kernel_rfl) (fun _ _ _ h => h) (Or.inl ⟨by rfl, ?_⟩) (by assumption) ?_
     rotate_left 1
     ·intro w hSw; (try dsimp only at hSw); go_simp; (first | done | with_reducible rfl)
     try simp only [Act.put, qI, qX, qY]
     refine wpAnyH_ready (rs := [6]) (by kernel_rfl) (by simp) ?_
     refine AllReadyH.cons (by simp only [qA, qS, qZ]; rfl) (fun K hK => ?_) AllReadyH.nil
     go_simp
     refine (HO2.out _ hyZ).mono ?_
     rintro e wa ⟨vA, rfl, hvA, hbA⟩
     have hya := below_from hyZ hbA
     have hba := below_from hbZ hbA
     have hza := hba.size
     have hzZ := hbZ.size
     have hvA2 := SliceR.stable (rdLin_stable true) hvA (Keeps.refl _ _) (S' := fun b => w2.heap.size ≤ b) (fun b h _ => Nat.le_trans hzZ h)
     obtain ⟨newsA, hsA, hnA⟩ := SliceR.src rowLine eltLine.pos eltLine.ones hvA2
     have hv9a := SliceR.below (rdLin_stable true) HV9.out (below_from hd9 hbA)
     refine hK.out _ _ (HS7.out _ hya) (fun hHeld => ?_)
     clear hK K
     try simp only [Act.put, qI, qX, qY]
     refine wpAnyH_ready (rs := [7]) (by kernel_rfl) (by simp) ?_
     refine AllReadyH.cons (by simp only [qA, qS, qZ]; rfl) (fun K hK => ?_) AllReadyH.nil
     refine step_append_R (by rfl) _ _ 22 22 (by rfl) rowLine eltLine w2.heap.size v9 vA (xs := d.take i ++ [s1, s2]) (ys := d.drop (i + 1)) (news := newsA) (by rfl) (by rfl) hv9a hza hsA hnA hl9 ?_
     intro vB wB hvB hbB _ _
     have hbB2 := hba.trans hbB
     have hyB := below_from hb2 hbB2
     have HVB := Lib.hid hvB
     have y1 := HPB.out _ hbB2
     obtain ⟨q8, f8⟩ := blk y1
     have hSB := HS7.out _ hyB
     refine hK.out _ _ hSB (fun hHeld => ?_)
     clear hK K hvA hvA2 hsA hnA hv9a hvB hbB
     try simp only [Act.put, qI, qX, qY]
     refine wpAnyH_ready (rs := [12]) (by kernel_rfl) (by simp) ?_
     refine AllReadyH.cons (by simp only [qA, qS, qZ]; rfl) (fun K hK => ?_) AllReadyH.nil
     go_simp
     refine hK.out _ _ hSB (fun _ => ?_)
     clear hK K
     try simp only [Act.put, qI, qX, qY]
     refine wpAnyH_ready (rs := [13]) (by kernel_rfl) (by simp) ?_
     refine AllReadyH.cons (by simp only [qA, qS, qZ]; rfl) (fun K hK => ?_) AllReadyH.nil
     go_simp
     have e3 : w.heap.size + 1 ≠ w.heap.size := by omega
     have hSA : ∀ u0 u1, (fun w' => w'.cell? ⟨w.heap.size, 0, none⟩ = some (.int .i64 i) ∧ w'.cell? ⟨w.heap.size, 1, none⟩ = some (.int .i64 q)) ((wB.setCell ⟨w.heap.size + 1, 0, none⟩ u0).setCell ⟨w.heap.size + 1, 1, none⟩ u1) := fun u0 u1 => ⟨(setCell_block e3).trans ((setCell_block e3).trans hSB.1), (setCell_block e3).trans ((setCell_block e3).trans hSB.2)⟩
     refine hK.out _ _ (hSA _ _) (fun _ => ?_)
     clear hK K
     try simp only [Act.put, qI, qX, qY]
     refine wpAnyH_ready (rs := [14]) (by kernel_rfl) (by simp) ?_
     refine AllReadyH.cons (by simp only [qA, qS, qZ]; rfl) (fun K hK => ?_) AllReadyH.nil
     go_simp
     refine hK.out _ _ (hSA _ _) (fun _ => ?_)
     refine wpAnyH_done (by kernel_rfl) ?_ _
     refine NoPanic.normal ?_
     clear hK K hSA
     go_wp2_with fail
     refine bodyPost_ret (results_dpe rfl _ _ (w.heap.size + 1) (.int .i64 ((i : Int) + 1)) (.int .i64 0) rfl (by simp [heap_set, putIn, y1])) rfl ?_
     unfold DocPSaid
     rw [HR.out]
     have hfB : Below w.heap.size w wB := hwW2.trans (hbB2.mono hww2)
     exact ⟨_, rfl, SliceR.stable (rdLin_stable true) HVB.out (((Keeps.refl _ _).set (fun hh => by have hh : w2.heap.size ≤ w.heap.size + 1 := hh; omega) _).set (fun hh => by have hh : w2.heap.size ≤ w.heap.size + 1 := hh; omega) _) (fun b h _ => Nat.le_trans hww2 h), (hfB.setCell (by show w.heap.size ≤ w.heap.size + 1; omega) _).setCell (by show w.heap.size ≤ w.heap.size + 1; omega) _⟩
    ·subst hYe
     go_wp2_with fail
     refine wp_region_noPanic ?_
     refine wp_region_held_drew (S := (fun w' => w'.cell? ⟨w.heap.size, 0, none⟩ = some (.int .i64 i) ∧ w'.cell? ⟨w.heap.size, 1, none⟩ = some (.int .i64 q))) (by kernel_rfl) (HS7.out _ hy9.drew) (fun hHeld => ?_)
     obtain ⟨Z0, hZ0⟩ : ∃ X, w9.drew = X := ⟨_, rfl⟩
     have hd9 : Below w9.heap.size w9 Z0 := hZ0 ▸ (Below.refl _ _).drew
     rw [hZ0] at hHeld ⊢
     have hyZ := below_from hy9 hd9
     have hbZ := below_from hb29 hd9
     clear hZ0
     refine wpAnyH_take (i := 0) (v := ?_) (by simp only [qA, qZ]; rfl) (by kernel_rfl) (by kernel_rfl) (by kernel_rfl) (fun _ _ _ h => h) (Or.inl ⟨by rfl, ?_⟩) (by assumption) ?_
     rotate_left 1
     ·intro w hSw; (try dsimp only at hSw); go_simp; (first | done | with_reducible rfl)
     try simp only [Act.put, qI, qX, qY]
     refine wpAnyH_take (i := 1) (v := ?_) (by simp only [qA, qS, qZ]; rfl) (by kernel_rfl) (by kernel_rfl) (by kernel_rfl) (fun _ _ _ h => h) (Or.inl ⟨by rfl, ?_⟩) (by assumption) ?_
     rotate_left 1
     ·intro w hSw; (try dsimp only at hSw); go_simp; (first | done | with_reducible rfl)
     try simp only [Act.put, qI, qX, qY]
     refine wpAnyH_take (i := 2) (v := ?_) (by simp only [qA, qS, qZ]; rfl) (by kernel_rfl) (by kernel_rfl) (by kernel_rfl) (fun _ _ _ h => h) (Or.inl ⟨by rfl, ?_⟩) (by assumption) ?_
     rotate_left 1
     ·intro w hSw; (try dsimp only at hSw); go_simp; (first | done | with_reducible rfl)
     try simp only [Act.put, qI, qX, qY]
     refine wpAnyH_take (i := 3) (v := ?_) (by simp only [qA, qS, qZ]; rfl) (by kernel_rfl) (by kernel_rfl) (by kernel_rfl) (fun _ _ _ h => h) (Or.inl ⟨by rfl, ?_⟩) (by assumption) ?_
     rotate_left 1
     ·intro w hSw; (try dsimp only at hSw); go_simp; (first | done | with_reducible rfl)
     try simp only [Act.put, qI, qX, qY]
     refine wpAnyH_take (i := 4) (v := ?_) (by simp only [qA, qS, qZ]; rfl) (by kernel_rfl) (by kernel_rfl) (by kernel_rfl) (fun _ _ _ h => h) (Or.inl ⟨by rfl, ?_⟩) (by assumption) ?_
     rotate_left 1
     ·intro w hSw; (try dsimp only at hSw); go_simp; (first | done | with_reducible rfl)
     try simp only [Act.put, qI, qX, qY]
     refine wpAnyH_take (i := 5) (v := ?_) (by simp only [qA, qS, qZ]; rfl) (by kernel_rfl) (by kernel_rfl) (by kernel_rfl) (fun _ _ _ h => h) (Or.inl ⟨by rfl, ?_⟩) (by assumption) ?_
     rotate_left 1
     ·intro w hSw; (try dsimp only at hSw); go_simp; (first | done | with_reducible rfl)
     try simp only [Act.put, qI, qX, qY]
     refine wpAnyH_take (i := 8) (v := ?_) (by simp only [qA, qS, qZ]; rfl) (by kernel_rfl) (by kernel_rfl) (by kernel_rfl) (fun _ _ _ h => h) (Or.inl ⟨by rfl, ?_⟩) (by assumption) ?_
     rotate_left 1
     ·intro w hSw; (try dsimp only at hSw); go_simp; (first | done | with_reducible rfl)
     try simp only [Act.put, qI, qX, qY]
     refine wpAnyH_take (i := 9) (v := ?_) (by simp only [qA, qS, qZ]; rfl) (by kernel_rfl) (by kernel_rfl) (by kernel_rfl) (fun _ _ _ h => h) (Or.inl ⟨by rfl, ?_⟩) (by assumption) ?_
     rotate_left 1
     ·intro w hSw; (try dsimp only at hSw); go_simp; (first | done | with_reducible rfl)
     try simp only [Act.put, qI, qX, qY]
     refine wpAnyH_take (i := 10) (v := ?_) (by simp only [qA, qS, qZ]; rfl) (by kernel_rfl) (by kernel_rfl) (by kernel_rfl) (fun _ _ _ h => h) (Or.inl ⟨by rfl, ?_⟩) (by assumption) ?_
     rotate_left 1
     ·intro w hSw; (try dsimp only at hSw); go_simp; (first | done | with_reducible rfl)
     try simp only [Act.put, qI, qX, qY]
     refine wpAnyH_take (i := 11) (v := ?_) (by simp only [qA, qS, qZ]; rfl) (by kernel_rfl) (by kernel_rfl) (by kernel_rfl) (fun _ _ _ h => h) (Or.inl ⟨by rfl, ?_⟩) (by assumption) ?_
     rotate_left 1
     ·intro w hSw; (try dsimp only at hSw); go_simp; (first | done | with_reducible rfl)
     try simp only [Act.put, qI, qX, qY]
     refine wpAnyH_ready (rs := [6]) (by kernel_rfl) (by simp) ?_
     refine AllReadyH.cons (by simp only [qA, qS, qZ]; rfl) (fun K hK => ?_) AllReadyH.nil
     go_simp
     refine (HO2.out _ hyZ).mono ?_
     rintro e wa ⟨vA, rfl, hvA, hbA⟩
     have hya := below_from hyZ hbA
     have hba := below_from hbZ hbA
     have hza := hba.size
     have hzZ := hbZ.size
     have hvA2 := SliceR.stable (rdLin_stable true) hvA (Keeps.refl _ _) (S' := fun b => w2.heap.size ≤ b) (fun b h _ => Nat.le_trans hzZ h)
     obtain ⟨newsA, hsA, hnA⟩ := SliceR.src rowLine eltLine.pos eltLine.ones hvA2
     have hv9a := SliceR.below (rdLin_stable true) HV9.out (below_from hd9 hbA)
     refine hK.out _ _ (HS7.out _ hya) (fun hHeld => ?_)
     clear hK K
     try simp only [Act.put, qI, qX, qY]
     refine wpAnyH_ready (rs := [7]) (by kernel_rfl) (by simp) ?_
     refine AllReadyH.cons (by simp only [qA, qS, qZ]; rfl) (fun K hK => ?_) AllReadyH.nil
     refine step_append_R (by rfl) _ _ 22 22 (by rfl) rowLine eltLine w2.heap.size v9 vA (xs := d.take i ++ [s1, s2]) (ys := d.drop (i + 1)) (news := newsA) (by rfl) (by rfl) hv9a hza hsA hnA hl9 ?_
     intro vB wB hvB hbB _ _
     have hbB2 := hba.trans hbB
     have hyB := below_from hb2 hbB2
     have HVB := Lib.hid hvB
     have y1 := HPB.out _ hbB2
     obtain ⟨q8, f8⟩ := blk y1
     have hSB := HS7.out _ hyB
     refine hK.out _ _ hSB (fun hHeld => ?_)
     clear hK K hvA hvA2 hsA hnA hv9a hvB hbB
     try simp only [Act.put, qI, qX, qY]
     refine wpAnyH_ready (rs := [12]) (by kernel_rfl) (by simp) ?_
     refine AllReadyH.cons (by simp only [qA, qS, qZ]; rfl) (fun K hK => ?_) AllReadyH.nil
     go_simp
     refine hK.out _ _ hSB (fun _ => ?_)
     clear hK K
     try simp only [Act.put, qI, qX, qY]
     refine wpAnyH_ready (rs := [13]) (by kernel_rfl) (by simp) ?_
     refine AllReadyH.cons (by simp only [qA, qS, qZ]; rfl) (fun K hK => ?_) AllReadyH.nil
     go_simp
     have e3 : w.heap.size + 1 ≠ w.heap.size := by omega
     have hSA : ∀ u0 u1, (fun w' => w'.cell? ⟨w.heap.size, 0, none⟩ = some (.int .i64 i) ∧ w'.cell? ⟨w.heap.size, 1, none⟩ = some (.int .i64 q)) ((wB.setCell ⟨w.heap.size + 1, 0, none⟩ u0).setCell ⟨w.heap.size + 1, 1, none⟩ u1) := fun u0 u1 => ⟨(setCell_block e3).trans ((setCell_block e3).trans hSB.1), (setCell_block e3).trans ((setCell_block e3).trans hSB.2)⟩
     refine hK.out _ _ (hSA _ _) (fun _ => ?_)
     clear hK K
     try simp only [Act.put, qI, qX, qY]
     refine wpAnyH_ready (rs := [14]) (by kernel_rfl) (by simp) ?_
     refine AllReadyH.cons (by simp only [qA, qS, qZ]; rfl) (fun K hK => ?_) AllReadyH.nil
     go_simp
     refine hK.out _ _ (hSA _ _) (fun _ => ?_)
     refine wpAnyH_done (by kernel_rfl) ?_ _
     refine NoPanic.normal ?_
     clear hK K hSA
     go_wp2_with fail
     refine bodyPost_ret (results_dpe rfl _ _ (w.heap.size + 1) (.int .i64 ((i : Int) + 1)) (.int .i64 0) rfl (by simp [heap_set, putIn, y1])) rfl ?_
     unfold DocPSaid
     rw [HR.out]
     have hfB : Below w.heap.size w wB := hwW2.trans (hbB2.mono hww2)
     exact ⟨_, rfl, SliceR.stable (rdLin_stable true) HVB.out (((Keeps.refl _ _).set (fun hh => by have hh : w2.heap.size ≤ w.heap.size + 1 := hh; omega) _).set (fun hh => by have hh : w2.heap.size ≤ w.heap.size + 1 := hh; omega) _) (fun b h _ => Nat.le_trans hww2 h), (hfB.setCell (by show w.heap.size ≤ w.heap.size + 1; omega) _).setCell (by show w.heap.size ≤ w.heap.size + 1; omega) _⟩
   ·have hB0 : Below w2.heap.size w2 w2.drew := (Below.refl _ _).drew
    refine wp_region_held_drew (S := (fun w' => w'.cell? ⟨w.heap.size, 0, none⟩ = some (.int .i64 i) ∧ w'.cell? ⟨w.heap.size, 1, none⟩ = some (.int .i64 q) ∧ w'.cell? ⟨b1, o1 + i * 4, none⟩ = some (.int .i64 l.quote) ∧ w'.cell? ⟨b1, o1 + i * 4 + 1, none⟩ = some (.slice la l.lists.length lc) ∧ w'.cell? ⟨b1, o1 + i * 4 + 2, none⟩ = some (.int .i64 l.kind) ∧ w'.cell? ⟨b1, o1 + i * 4 + 3, none⟩ = some (.slice ca l.cells.length cc))) (by kernel_rfl) (HS2.out _ (below_from hb2 hB0)) (fun hHeld => ?_)
    obtain ⟨X0, hX0⟩ : ∃ X, w2.drew = X := ⟨_, rfl⟩
    rw [hX0] at hB0 hHeld ⊢
    have N0 := Lib.hid hB0
    clear hX0 hB0
    refine wpAnyH_take (i := 0) (v := ?_) (by simp only [qA, qZ]; rfl) (by kernel_rfl) (by kernel_rfl) (by kernel_rfl) (fun _ _ _ h => h) (Or.inl ⟨by rfl, ?_⟩) (by assumption) ?_
    rotate_left 1
    ·intro w hSw; (try dsimp only at hSw); go_simp; (first | done | with_reducible rfl)
    try simp only [Act.put, qI, qX, qY]
    refine wpAnyH_take (i := 1) (v := ?_) (by simp only [qA, qS, qZ]; rfl) (by kernel_rfl) (by kernel_rfl) (by kernel_rfl) (fun _ _ _ h => h) (Or.inl ⟨by rfl, ?_⟩) (by assumption) ?_
    rotate_left 1
    ·intro w hSw; (try dsimp only at hSw); go_simp; (first | done | with_reducible rfl)
    try simp only [Act.put, qI, qX, qY]
    refine wpAnyH_take (i := 2) (v := ?_) (by simp only [qA, qS, qZ]; rfl) (by kernel_rfl) (by kernel_rfl) (by kernel_rfl) (fun _ _ _ h => h) (Or.inl ⟨by rfl, ?_⟩) (by assumption) ?_
    rotate_left 1
    ·intro w hSw; (try dsimp only at hSw); go_simp; (first | done | with_reducible rfl)
    try simp only [Act.put, qI, qX, qY]
    refine wpAnyH_take (i := 3) (v := ?_) (by simp only [qA, qS, qZ]; rfl) (by kernel_rfl) (by kernel_rfl) (by kernel_rfl) (fun _ _ _ h => h) (Or.inl ⟨by rfl, ?_⟩) (by assumption) ?_
    rotate_left 1
    ·intro w hSw; (try dsimp only at hSw); go_simp; (first | done | with_reducible rfl)
    try simp only [Act.put, qI, qX, qY]
    refine wpAnyH_take (i := 4) (v := ?_) (by simp only [qA, qS, qZ]; rfl) (by kernel_rfl) (by kernel_rfl) (by kernel_rfl) (fun _ _ _ h => h) (Or.inl ⟨by rfl, ?_⟩) (by assumption) ?_
    rotate_left 1
    ·intro w hSw; (try dsimp only at hSw); go_simp; (first | done | with_reducible rfl)
    try simp only [Act.put, qI, qX, qY]
    refine wpAnyH_take (i := 5) (v := ?_) (by simp only [qA, qS, qZ]; rfl) (by kernel_rfl) (by kernel_rfl) (by kernel_rfl) (fun _ _ _ h => h) (Or.inl ⟨by rfl, ?_⟩) (by assumption) ?_
    rotate_left 1
    ·intro w hSw; (try dsimp only at hSw); go_simp; (first | done | with_reducible rfl)
    try simp only [Act.put, qI, qX, qY]
    refine wpAnyH_take (i := 6) (v := ?_) (by simp only [qA, qS, qZ]; rfl) (by kernel_rfl) (by kernel_rfl) (by kernel_rfl) (fun _ _ _ h => h) (Or.inl ⟨by rfl, ?_⟩) (by assumption) ?_
    rotate_left 1
    ·intro w hSw; (try dsimp only at hSw); go_simp; (first | done | with_reducible rfl)
    try simp only [Act.put, qI, qX, qY]
    -- TREE5
    refine wpAnyH_ready (rs := [7, 12, 13]) (by kernel_rfl) (by simp) ?_
    refine AllReadyH.cons (by simp only [qA, qS, qZ]; rfl) (fun K hK => ?_) ?_
    ·go_simp
     refine (HLS.out _ (below_from hb2 N0.out)).mono ?_
     rintro e X1 ⟨x1, x2, y1, y2, rfl, ha, hb, hc, hd, hst1⟩
     obtain ⟨a1, c1, rfl⟩ := ha.slice
     obtain ⟨a2, c2, rfl⟩ := hb.slice
     obtain ⟨a3, c3, rfl⟩ := hc.slice
     obtain ⟨a4, c4, rfl⟩ := hd.slice
     have hu := N0.out.size
     have t1_0 := below_from N0.out hst1
     have t1_1 := SliceR.stable (rdOf_stable _) ha (Keeps.refl _ _) (S' := fun b => w2.heap.size ≤ b) (fun b h _ => Nat.le_trans hu h)
     have t1_2 := SliceR.stable (rdOf_stable _) hb (Keeps.refl _ _) (S' := fun b => w2.heap.size ≤ b) (fun b h _ => Nat.le_trans hu h)
     have t1_3 := SliceR.stable (rdOf_stable _) hc (Keeps.refl _ _) (S' := fun b => w2.heap.size ≤ b) (fun b h _ => Nat.le_trans hu h)
     have t1_4 := SliceR.stable (rdOf_stable _) hd (Keeps.refl _ _) (S' := fun b => w2.heap.size ≤ b) (fun b h _ => Nat.le_trans hu h)
     have N1 := Lib.hid (And.intro t1_0 (And.intro t1_1 (And.intro t1_2 (And.intro t1_3 (t1_4)))))
     refine hK.out _ _ (HS2.out _ (below_from hb2 N1.out.1)) (fun hHeld1 => ?_)
     clear hK K t1_0 t1_1 t1_2 t1_3 t1_4 hHeld N0 hst1
     try simp only [Act.put, qI, qX, qY]
     clear ha hb hc hd hu
     refine wpAnyH_take (i := 8) (v := ?_) (by simp only [qA, qS, qZ]; rfl) (by kernel_rfl) (by kernel_rfl) (by kernel_rfl) (fun _ _ _ h => h) (Or.inl ⟨by rfl, ?_⟩) (by assumption) ?_
     rotate_left 1
     ·intro w hSw; (try dsimp only at hSw); go_simp; (first | done | with_reducible rfl)
     try simp only [Act.put, qI, qX, qY]
     refine wpAnyH_take (i := 9) (v := ?_) (by simp only [qA, qS, qZ]; rfl) (by kernel_rfl) (by kernel_rfl) (by kernel_rfl) (fun _ _ _ h => h) (Or.inl ⟨by rfl, ?_⟩) (by assumption) ?_
     rotate_left 1
     ·intro w hSw; (try dsimp only at hSw); go_simp; (first | done | with_reducible rfl)
     try simp only [Act.put, qI, qX, qY]
     refine wpAnyH_take (i := 10) (v := ?_) (by simp only [qA, qS, qZ]; rfl) (by kernel_rfl) (by kernel_rfl) (by kernel_rfl) (fun _ _ _ h => h) (Or.inl ⟨by rfl, ?_⟩) (by assumption) ?_
     rotate_left 1
     ·intro w hSw; (try dsimp only at hSw); go_simp; (first | done | with_reducible rfl)
     try simp only [Act.put, qI, qX, qY]
     refine wpAnyH_take (i := 11) (v := ?_) (by simp only [qA, qS, qZ]; rfl) (by kernel_rfl) (by kernel_rfl) (by kernel_rfl) (fun _ _ _ h => h) (Or.inl ⟨by rfl, ?_⟩) (by assumption) ?_
     rotate_left 1
     ·intro w hSw; (try dsimp only at hSw); go_simp; (first | done | with_reducible rfl)
     try simp only [Act.put, qI, qX, qY]
     refine wpAnyH_ready (rs := [12, 13]) (by kernel_rfl) (by simp) ?_
     refine AllReadyH.cons (by simp only [qA, qS, qZ]; rfl) (fun K hK => ?_) ?_
     ·go_simp
      obtain ⟨X2, hX2⟩ : ∃ X, X1.alloc (.cells #[.int .i64 0, .slice none 0 0, .int .i64 0, .slice none 0 0] 42) = X := ⟨_, rfl⟩
      rw [hX2]
      have hst2 : Below X1.heap.size X1 X2 := hX2 ▸ (Below.refl _ _).alloc (Nat.le_refl _) _
      have z2 : X2.heap[X1.heap.size]? = some (.cells #[.int .i64 0, .slice none 0 0, .int .i64 0, .slice none 0 0] 42) := hX2 ▸ heap_new _ _ rfl
      clear hX2
      have t2_0 := below_from N1.out.1 hst2
      have t2_1 := SliceR.below (rdOf_stable _) N1.out.2.1 hst2
      have t2_2 := SliceR.below (rdOf_stable _) N1.out.2.2.1 hst2
      have t2_3 := SliceR.below (rdOf_stable _) N1.out.2.2.2.1 hst2
      have t2_4 := SliceR.below (rdOf_stable _) N1.out.2.2.2.2 hst2
      have t2_5 := z2
      have t2_6 := N1.out.1.size
      have N2 := Lib.hid (And.intro t2_0 (And.intro t2_1 (And.intro t2_2 (And.intro t2_3 (And.intro t2_4 (And.intro t2_5 (t2_6)))))))
      refine hK.out _ _ (HS2.out _ (below_from hb2 N2.out.1)) (fun hHeld2 => ?_)
      clear hK K t2_0 t2_1 t2_2 t2_3 t2_4 t2_5 t2_6 hHeld1 N1 hst2
      try simp only [Act.put, qI, qX, qY]
      clear z2
      refine wpAnyH_ready (rs := [13]) (by kernel_rfl) (by simp) ?_
      refine AllReadyH.cons (by simp only [qA, qS, qZ]; rfl) (fun K hK => ?_) ?_
      ·go_simp
       obtain ⟨X3, hX3⟩ : ∃ X, X2.alloc (.cells #[.int .i64 0, .slice none 0 0, .int .i64 0, .slice none 0 0] 42) = X := ⟨_, rfl⟩
       rw [hX3]
       have hst3 : Below X2.heap.size X2 X3 := hX3 ▸ (Below.refl _ _).alloc (Nat.le_refl _) _
       have z3 : X3.heap[X2.heap.size]? = some (.cells #[.int .i64 0, .slice none 0 0, .int .i64 0, .slice none 0 0] 42) := hX3 ▸ heap_new _ _ rfl
       clear hX3
       have t3_0 := below_from N2.out.1 hst3
       have t3_1 := SliceR.below (rdOf_stable _) N2.out.2.1 hst3
       have t3_2 := SliceR.below (rdOf_stable _) N2.out.2.2.1 hst3
       have t3_3 := SliceR.below (rdOf_stable _) N2.out.2.2.2.1 hst3
       have t3_4 := SliceR.below (rdOf_stable _) N2.out.2.2.2.2.1 hst3
       have t3_5 := heap_below hst3 N2.out.2.2.2.2.2.1
       have t3_6 := N2.out.2.2.2.2.2.2
       have t3_7 := z3
       have t3_8 := N2.out.1.size
       have t3_9 := (Array.getElem?_eq_some_iff.1 N2.out.2.2.2.2.2.1).1
       have N3 := Lib.hid (And.intro t3_0 (And.intro t3_1 (And.intro t3_2 (And.intro t3_3 (And.intro t3_4 (And.intro t3_5 (And.intro t3_6 (And.intro t3_7 (And.intro t3_8 (t3_9))))))))))
       refine hK.out _ _ (HS2.out _ (below_from hb2 N3.out.1)) (fun hHeld3 => ?_)
       clear hK K t3_0 t3_1 t3_2 t3_3 t3_4 t3_5 t3_6 t3_7 t3_8 t3_9 hHeld2 N2 hst3
       try simp only [Act.put, qI, qX, qY]
       clear z3
       have z4 := N3.out.2.2.2.2.2.1
       have z5 := N3.out.2.2.2.2.2.2.2.1
       have eB := N3.out.2.2.2.2.2.2.1
       have eC := N3.out.2.2.2.2.2.2.2.2.1
       have nBC : ¬ X1.heap.size = X2.heap.size := by have := N3.out.2.2.2.2.2.2.2.2.2; omega
       have nCB : ¬ X2.heap.size = X1.heap.size := fun e => nBC e.symm
       have mB : w.heap.size ≠ X1.heap.size := by omega
       have nB : b1 ≠ X1.heap.size := by omega
       have mC : w.heap.size ≠ X2.heap.size := by omega
       have nC : b1 ≠ X2.heap.size := by omega
       obtain ⟨q4, f4⟩ := blk z4
       refine wpAnyH_ready (rs := [14]) (by kernel_rfl) (by simp) ?_
       refine AllReadyH.cons (by simp only [qA, qS, qZ]; rfl) (fun K hK => ?_) AllReadyH.nil
       go_simp
       obtain ⟨Y6, hY6, y6B, y6z, y6k, y6b⟩ := set_four X3 (X1.heap.size) 42 (.int .i64 0) (.slice none 0 0) (.int .i64 0) (.slice none 0 0) (.int .i64 s1.quote) (.slice a1 s1.lists.length c1) (.int .i64 s1.kind) (.slice a2 s1.cells.length c2) z4
       rw [hY6]
       have z5y := (y6k _ nCB).trans z5
       refine hK.out _ _ (HS3.out X3 Y6 (below_from hb2 N3.out.1) (y6k _ mB) (y6k _ nB)) (fun hHeld => ?_)
       have Z6 := Lib.hid (And.intro y6B (And.intro y6k y6b))
       obtain ⟨q5, f5⟩ := blk z5y
       clear hK K hY6 q4 f4 y6B y6k y6b
       try simp only [Act.put, qI, qX, qY]
       refine wpAnyH_ready (rs := [15]) (by kernel_rfl) (by simp) ?_
       refine AllReadyH.cons (by simp only [qA, qS, qZ]; rfl) (fun K hK => ?_) AllReadyH.nil
       go_simp
       obtain ⟨Y7, hY7, y7B, y7z, y7k, y7b⟩ := set_four Y6 (X2.heap.size) 42 (.int .i64 0) (.slice none 0 0) (.int .i64 0) (.slice none 0 0) (.int .i64 s2.quote) (.slice a3 s2.lists.length c3) (.int .i64 s2.kind) (.slice a4 s2.cells.length c4) z5y
       rw [hY7]
       refine hK.out _ _ (HS3.out X3 Y7 (below_from hb2 N3.out.1) ((y7k _ mC).trans (Z6.out.2.1 _ mB)) ((y7k _ nC).trans (Z6.out.2.1 _ nB))) (fun hHeld => ?_)
       clear hK K q5 f5
       try simp only [Act.put, qI, qX, qY]
       refine wpAnyH_take (i := 16) (v := ?_) (by simp only [qA, qS, qZ]; rfl) (by kernel_rfl) (by kernel_rfl) (by kernel_rfl) (fun _ _ _ h => h) (Or.inl ⟨by rfl, ?_⟩) (by assumption) ?_
       rotate_left 1
       ·intro w hSw; (try dsimp only at hSw); go_simp; (first | done | with_reducible rfl)
       try simp only [Act.put, qI, qX, qY]
       refine wpAnyH_done (by kernel_rfl) ?_ _
       have key : ∀ b : Nat, (∀ cs, X3.heap[b]? ≠ some (.cells cs 42)) → Y7.heap[b]? = X3.heap[b]? := fun b hno => (y7k b (fun e => by subst e; exact hno _ z5)).trans (Z6.out.2.1 b (fun e => by subst e; exact hno _ z4))
       exact ⟨X1.heap.size, X2.heap.size, a1, c1, a2, c2, a3, c3, a4, c4, _, _, _, _, _, _, _, _, _, _, _, _, _, _, _, _, _, _, _, _, _, _, _, _, _, _, _, _, _, _, _, _, _, _, _, _, _, _, _, _, _, _, _, _, _, rfl, eB, eC, nBC, (y7k _ nBC).trans Z6.out.1, y7B, SliceR.tagged (tagged_of _ _) (by decide) N3.out.2.1 (by omega) (fun b _ _ hno => key b hno) (fun b h _ => h), SliceR.tagged (tagged_of _ _) (by decide) N3.out.2.2.1 (by omega) (fun b _ _ hno => key b hno) (fun b h _ => h), SliceR.tagged (tagged_of _ _) (by decide) N3.out.2.2.2.1 (by omega) (fun b _ _ hno => key b hno) (fun b h _ => h), SliceR.tagged (tagged_of _ _) (by decide) N3.out.2.2.2.2.1 (by omega) (fun b _ _ hno => key b hno) (fun b h _ => h), y7b _ eC _ (Z6.out.2.2 _ eB _ N3.out.1)⟩
      exact AllReadyH.nil
     refine AllReadyH.cons (by simp only [qA, qS, qZ]; rfl) (fun K hK => ?_) ?_
     ·go_simp
      obtain ⟨X2, hX2⟩ : ∃ X, X1.alloc (.cells #[.int .i64 0, .slice none 0 0, .int .i64 0, .slice none 0 0] 42) = X := ⟨_, rfl⟩
      rw [hX2]
      have hst2 : Below X1.heap.size X1 X2 := hX2 ▸ (Below.refl _ _).alloc (Nat.le_refl _) _
      have z2 : X2.heap[X1.heap.size]? = some (.cells #[.int .i64 0, .slice none 0 0, .int .i64 0, .slice none 0 0] 42) := hX2 ▸ heap_new _ _ rfl
      clear hX2
      have t2_0 := below_from N1.out.1 hst2
      have t2_1 := SliceR.below (rdOf_stable _) N1.out.2.1 hst2
      have t2_2 := SliceR.below (rdOf_stable _) N1.out.2.2.1 hst2
      have t2_3 := SliceR.below (rdOf_stable _) N1.out.2.2.2.1 hst2
      have t2_4 := SliceR.below (rdOf_stable _) N1.out.2.2.2.2 hst2
      have t2_5 := z2
      have t2_6 := N1.out.1.size
      have N2 := Lib.hid (And.intro t2_0 (And.intro t2_1 (And.intro t2_2 (And.intro t2_3 (And.intro t2_4 (And.intro t2_5 (t2_6)))))))
      refine hK.out _ _ (HS2.out _ (below_from hb2 N2.out.1)) (fun hHeld2 => ?_)
      clear hK K t2_0 t2_1 t2_2 t2_3 t2_4 t2_5 t2_6 hHeld1 N1 hst2
      try simp only [Act.put, qI, qX, qY]
      clear z2
      refine wpAnyH_ready (rs := [12]) (by kernel_rfl) (by simp) ?_
      refine AllReadyH.cons (by simp only [qA, qS, qZ]; rfl) (fun K hK => ?_) ?_
      ·go_simp
       obtain ⟨X3, hX3⟩ : ∃ X, X2.alloc (.cells #[.int .i64 0, .slice none 0 0, .int .i64 0, .slice none 0 0] 42) = X := ⟨_, rfl⟩
       rw [hX3]
       have hst3 : Below X2.heap.size X2 X3 := hX3 ▸ (Below.refl _ _).alloc (Nat.le_refl _) _
       have z3 : X3.heap[X2.heap.size]? = some (.cells #[.int .i64 0, .slice none 0 0, .int .i64 0, .slice none 0 0] 42) := hX3 ▸ heap_new _ _ rfl
       clear hX3
       have t3_0 := below_from N2.out.1 hst3
       have t3_1 := SliceR.below (rdOf_stable _) N2.out.2.1 hst3
       have t3_2 := SliceR.below (rdOf_stable _) N2.out.2.2.1 hst3
       have t3_3 := SliceR.below (rdOf_stable _) N2.out.2.2.2.1 hst3
       have t3_4 := SliceR.below (rdOf_stable _) N2.out.2.2.2.2.1 hst3
       have t3_5 := heap_below hst3 N2.out.2.2.2.2.2.1
       have t3_6 := N2.out.2.2.2.2.2.2
       have t3_7 := z3
       have t3_8 := N2.out.1.size
       have t3_9 := (Array.getElem?_eq_some_iff.1 N2.out.2.2.2.2.2.1).1
       have N3 := Lib.hid (And.intro t3_0 (And.intro t3_1 (And.intro t3_2 (And.intro t3_3 (And.intro t3_4 (And.intro t3_5 (And.intro t3_6 (And.intro t3_7 (And.intro t3_8 (t3_9))))))))))
       refine hK.out _ _ (HS2.out _ (below_from hb2 N3.out.1)) (fun hHeld3 => ?_)
       clear hK K t3_0 t3_1 t3_2 t3_3 t3_4 t3_5 t3_6 t3_7 t3_8 t3_9 hHeld2 N2 hst3
       try simp only [Act.put, qI, qX, qY]
       clear z3
       have z4 := N3.out.2.2.2.2.2.2.2.1
       have z5 := N3.out.2.2.2.2.2.1
       have eB := N3.out.2.2.2.2.2.2.2.2.1
       have eC := N3.out.2.2.2.2.2.2.1
       have nBC : ¬ X2.heap.size = X1.heap.size := by have := N3.out.2.2.2.2.2.2.2.2.2; omega
       have nCB : ¬ X1.heap.size = X2.heap.size := fun e => nBC e.symm
       have mB : w.heap.size ≠ X2.heap.size := by omega
       have nB : b1 ≠ X2.heap.size := by omega
       have mC : w.heap.size ≠ X1.heap.size := by omega
       have nC : b1 ≠ X1.heap.size := by omega
       obtain ⟨q4, f4⟩ := blk z4
       refine wpAnyH_ready (rs := [14]) (by kernel_rfl) (by simp) ?_
       refine AllReadyH.cons (by simp only [qA, qS, qZ]; rfl) (fun K hK => ?_) AllReadyH.nil
       go_simp
       obtain ⟨Y6, hY6, y6B, y6z, y6k, y6b⟩ := set_four X3 (X2.heap.size) 42 (.int .i64 0) (.slice none 0 0) (.int .i64 0) (.slice none 0 0) (.int .i64 s1.quote) (.slice a1 s1.lists.length c1) (.int .i64 s1.kind) (.slice a2 s1.cells.length c2) z4
       rw [hY6]
       have z5y := (y6k _ nCB).trans z5
       refine hK.out _ _ (HS3.out X3 Y6 (below_from hb2 N3.out.1) (y6k _ mB) (y6k _ nB)) (fun hHeld => ?_)
       have Z6 := Lib.hid (And.intro y6B (And.intro y6k y6b))
       obtain ⟨q5, f5⟩ := blk z5y
       clear hK K hY6 q4 f4 y6B y6k y6b
       try simp only [Act.put, qI, qX, qY]
       refine wpAnyH_ready (rs := [15]) (by kernel_rfl) (by simp) ?_
       refine AllReadyH.cons (by simp only [qA, qS, qZ]; rfl) (fun K hK => ?_) AllReadyH.nil
       go_simp
       obtain ⟨Y7, hY7, y7B, y7z, y7k, y7b⟩ := set_four Y6 (X1.heap.size) 42 (.int .i64 0) (.slice none 0 0) (.int .i64 0) (.slice none 0 0) (.int .i64 s2.quote) (.slice a3 s2.lists.length c3) (.int .i64 s2.kind) (.slice a4 s2.cells.length c4) z5y
       rw [hY7]
       refine hK.out _ _ (HS3.out X3 Y7 (below_from hb2 N3.out.1) ((y7k _ mC).trans (Z6.out.2.1 _ mB)) ((y7k _ nC).trans (Z6.out.2.1 _ nB))) (fun hHeld => ?_)
       clear hK K q5 f5
       try simp only [Act.put, qI, qX, qY]
       refine wpAnyH_take (i := 16) (v := ?_) (by simp only [qA, qS, qZ]; rfl) (by kernel_rfl) (by kernel_rfl) (by kernel_rfl) (fun _ _ _ h => h) (Or.inl ⟨by rfl, ?_⟩) (by assumption) ?_
       rotate_left 1
       ·intro w hSw; (try dsimp only at hSw); go_simp; (first | done | with_reducible rfl)
       try simp only [Act.put, qI, qX, qY]
       refine wpAnyH_done (by kernel_rfl) ?_ _
       have key : ∀ b : Nat, (∀ cs, X3.heap[b]? ≠ some (.cells cs 42)) → Y7.heap[b]? = X3.heap[b]? := fun b hno => (y7k b (fun e => by subst e; exact hno _ z5)).trans (Z6.out.2.1 b (fun e => by subst e; exact hno _ z4))
       exact ⟨X2.heap.size, X1.heap.size, a1, c1, a2, c2, a3, c3, a4, c4, _, _, _, _, _, _, _, _, _, _, _, _, _, _, _, _, _, _, _, _, _, _, _, _, _, _, _, _, _, _, _, _, _, _, _, _, _, _, _, _, _, _, _, _, _, rfl, eB, eC, nBC, (y7k _ nBC).trans Z6.out.1, y7B, SliceR.tagged (tagged_of _ _) (by decide) N3.out.2.1 (by omega) (fun b _ _ hno => key b hno) (fun b h _ => h), SliceR.tagged (tagged_of _ _) (by decide) N3.out.2.2.1 (by omega) (fun b _ _ hno => key b hno) (fun b h _ => h), SliceR.tagged (tagged_of _ _) (by decide) N3.out.2.2.2.1 (by omega) (fun b _ _ hno => key b hno) (fun b h _ => h), SliceR.tagged (tagged_of _ _) (by decide) N3.out.2.2.2.2.1 (by omega) (fun b _ _ hno => key b hno) (fun b h _ => h), y7b _ eC _ (Z6.out.2.2 _ eB _ N3.out.1)⟩
      exact AllReadyH.nil
     exact AllReadyH.nil
    refine AllReadyH.cons (by simp only [qA, qS, qZ]; rfl) (fun K hK => ?_) ?_
    ·go_simp
     obtain ⟨X1, hX1⟩ : ∃ X, X0.alloc (.cells #[.int .i64 0, .slice none 0 0, .int .i64 0, .slice none 0 0] 42) = X := ⟨_, rfl⟩
     rw [hX1]
     have hst1 : Below X0.heap.size X0 X1 := hX1 ▸ (Below.refl _ _).alloc (Nat.le_refl _) _
     have z1 : X1.heap[X0.heap.size]? = some (.cells #[.int .i64 0, .slice none 0 0, .int .i64 0, .slice none 0 0] 42) := hX1 ▸ heap_new _ _ rfl
     clear hX1
     have t1_0 := below_from N0.out hst1
     have t1_1 := z1
     have t1_2 := N0.out.size
     have N1 := Lib.hid (And.intro t1_0 (And.intro t1_1 (t1_2)))
     refine hK.out _ _ (HS2.out _ (below_from hb2 N1.out.1)) (fun hHeld1 => ?_)
     clear hK K t1_0 t1_1 t1_2 hHeld N0 hst1
     try simp only [Act.put, qI, qX, qY]
     clear z1
     refine wpAnyH_ready (rs := [7, 13]) (by kernel_rfl) (by simp) ?_
     refine AllReadyH.cons (by simp only [qA, qS, qZ]; rfl) (fun K hK => ?_) ?_
     ·go_simp
      refine (HLS.out _ (below_from hb2 N1.out.1)).mono ?_
      rintro e X2 ⟨x1, x2, y1, y2, rfl, ha, hb, hc, hd, hst2⟩
      obtain ⟨a1, c1, rfl⟩ := ha.slice
      obtain ⟨a2, c2, rfl⟩ := hb.slice
      obtain ⟨a3, c3, rfl⟩ := hc.slice
      obtain ⟨a4, c4, rfl⟩ := hd.slice
      have hu := N1.out.1.size
      have t2_0 := below_from N1.out.1 hst2
      have t2_1 := heap_below hst2 N1.out.2.1
      have t2_2 := N1.out.2.2
      have t2_3 := SliceR.stable (rdOf_stable _) ha (Keeps.refl _ _) (S' := fun b => w2.heap.size ≤ b) (fun b h _ => Nat.le_trans hu h)
      have t2_4 := SliceR.stable (rdOf_stable _) hb (Keeps.refl _ _) (S' := fun b => w2.heap.size ≤ b) (fun b h _ => Nat.le_trans hu h)
      have t2_5 := SliceR.stable (rdOf_stable _) hc (Keeps.refl _ _) (S' := fun b => w2.heap.size ≤ b) (fun b h _ => Nat.le_trans hu h)
      have t2_6 := SliceR.stable (rdOf_stable _) hd (Keeps.refl _ _) (S' := fun b => w2.heap.size ≤ b) (fun b h _ => Nat.le_trans hu h)
      have N2 := Lib.hid (And.intro t2_0 (And.intro t2_1 (And.intro t2_2 (And.intro t2_3 (And.intro t2_4 (And.intro t2_5 (t2_6)))))))
      refine hK.out _ _ (HS2.out _ (below_from hb2 N2.out.1)) (fun hHeld2 => ?_)
      clear hK K t2_0 t2_1 t2_2 t2_3 t2_4 t2_5 t2_6 hHeld1 N1 hst2
      try simp only [Act.put, qI, qX, qY]
      clear ha hb hc hd hu
      refine wpAnyH_take (i := 8) (v := ?_) (by simp only [qA, qS, qZ]; rfl) (by kernel_rfl) (by kernel_rfl) (by kernel_rfl) (fun _ _ _ h => h) (Or.inl ⟨by rfl, ?_⟩) (by assumption) ?_
      rotate_left 1
      ·intro w hSw; (try dsimp only at hSw); go_simp; (first | done | with_reducible rfl)
      try simp only [Act.put, qI, qX, qY]
      refine wpAnyH_take (i := 9) (v := ?_) (by simp only [qA, qS, qZ]; rfl) (by kernel_rfl) (by kernel_rfl) (by kernel_rfl) (fun _ _ _ h => h) (Or.inl ⟨by rfl, ?_⟩) (by assumption) ?_
      rotate_left 1
      ·intro w hSw; (try dsimp only at hSw); go_simp; (first | done | with_reducible rfl)
      try simp only [Act.put, qI, qX, qY]
      refine wpAnyH_take (i := 10) (v := ?_) (by simp only [qA, qS, qZ]; rfl) (by kernel_rfl) (by kernel_rfl) (by kernel_rfl) (fun _ _ _ h => h) (Or.inl ⟨by rfl, ?_⟩) (by assumption) ?_
      rotate_left 1
      ·intro w hSw; (try dsimp only at hSw); go_simp; (first | done | with_reducible rfl)
      try simp only [Act.put, qI, qX, qY]
      refine wpAnyH_take (i := 11) (v := ?_) (by simp only [qA, qS, qZ]; rfl) (by kernel_rfl) (by kernel_rfl) (by kernel_rfl) (fun _ _ _ h => h) (Or.inl ⟨by rfl, ?_⟩) (by assumption) ?_
      rotate_left 1
      ·intro w hSw; (try dsimp only at hSw); go_simp; (first | done | with_reducible rfl)
      try simp only [Act.put, qI, qX, qY]
      refine wpAnyH_ready (rs := [13]) (by kernel_rfl) (by simp) ?_
      refine AllReadyH.cons (by simp only [qA, qS, qZ]; rfl) (fun K hK => ?_) ?_
      ·go_simp
       obtain ⟨X3, hX3⟩ : ∃ X, X2.alloc (.cells #[.int .i64 0, .slice none 0 0, .int .i64 0, .slice none 0 0] 42) = X := ⟨_, rfl⟩
       rw [hX3]
       have hst3 : Below X2.heap.size X2 X3 := hX3 ▸ (Below.refl _ _).alloc (Nat.le_refl _) _
       have z3 : X3.heap[X2.heap.size]? = some (.cells #[.int .i64 0, .slice none 0 0, .int .i64 0, .slice none 0 0] 42) := hX3 ▸ heap_new _ _ rfl
       clear hX3
       have t3_0 := below_from N2.out.1 hst3
       have t3_1 := heap_below hst3 N2.out.2.1
       have t3_2 := N2.out.2.2.1
       have t3_3 := SliceR.below (rdOf_stable _) N2.out.2.2.2.1 hst3
       have t3_4 := SliceR.below (rdOf_stable _) N2.out.2.2.2.2.1 hst3
       have t3_5 := SliceR.below (rdOf_stable _) N2.out.2.2.2.2.2.1 hst3
       have t3_6 := SliceR.below (rdOf_stable _) N2.out.2.2.2.2.2.2 hst3
       have t3_7 := z3
       have t3_8 := N2.out.1.size
       have t3_9 := (Array.getElem?_eq_some_iff.1 N2.out.2.1).1
       have N3 := Lib.hid (And.intro t3_0 (And.intro t3_1 (And.intro t3_2 (And.intro t3_3 (And.intro t3_4 (And.intro t3_5 (And.intro t3_6 (And.intro t3_7 (And.intro t3_8 (t3_9))))))))))
       refine hK.out _ _ (HS2.out _ (below_from hb2 N3.out.1)) (fun hHeld3 => ?_)
       clear hK K t3_0 t3_1 t3_2 t3_3 t3_4 t3_5 t3_6 t3_7 t3_8 t3_9 hHeld2 N2 hst3
       try simp only [Act.put, qI, qX, qY]
       clear z3
       have z4 := N3.out.2.1
       have z5 := N3.out.2.2.2.2.2.2.2.1
       have eB := N3.out.2.2.1
       have eC := N3.out.2.2.2.2.2.2.2.2.1
       have nBC : ¬ X0.heap.size = X2.heap.size := by have := N3.out.2.2.2.2.2.2.2.2.2; omega
       have nCB : ¬ X2.heap.size = X0.heap.size := fun e => nBC e.symm
       have mB : w.heap.size ≠ X0.heap.size := by omega
       have nB : b1 ≠ X0.heap.size := by omega
       have mC : w.heap.size ≠ X2.heap.size := by omega
       have nC : b1 ≠ X2.heap.size := by omega
       obtain ⟨q4, f4⟩ := blk z4
       refine wpAnyH_ready (rs := [14]) (by kernel_rfl) (by simp) ?_
       refine AllReadyH.cons (by simp only [qA, qS, qZ]; rfl) (fun K hK => ?_) AllReadyH.nil
       go_simp
       obtain ⟨Y6, hY6, y6B, y6z, y6k, y6b⟩ := set_four X3 (X0.heap.size) 42 (.int .i64 0) (.slice none 0 0) (.int .i64 0) (.slice none 0 0) (.int .i64 s1.quote) (.slice a1 s1.lists.length c1) (.int .i64 s1.kind) (.slice a2 s1.cells.length c2) z4
       rw [hY6]
       have z5y := (y6k _ nCB).trans z5
       refine hK.out _ _ (HS3.out X3 Y6 (below_from hb2 N3.out.1) (y6k _ mB) (y6k _ nB)) (fun hHeld => ?_)
       have Z6 := Lib.hid (And.intro y6B (And.intro y6k y6b))
       obtain ⟨q5, f5⟩ := blk z5y
       clear hK K hY6 q4 f4 y6B y6k y6b
       try simp only [Act.put, qI, qX, qY]
       refine wpAnyH_ready (rs := [15]) (by kernel_rfl) (by simp) ?_
       refine AllReadyH.cons (by simp only [qA, qS, qZ]; rfl) (fun K hK => ?_) AllReadyH.nil
       go_simp
       obtain ⟨Y7, hY7, y7B, y7z, y7k, y7b⟩ := set_four Y6 (X2.heap.size) 42 (.int .i64 0) (.slice none 0 0) (.int .i64 0) (.slice none 0 0) (.int .i64 s2.quote) (.slice a3 s2.lists.length c3) (.int .i64 s2.kind) (.slice a4 s2.cells.length c4) z5y
       rw [hY7]
       refine hK.out _ _ (HS3.out X3 Y7 (below_from hb2 N3.out.1) ((y7k _ mC).trans (Z6.out.2.1 _ mB)) ((y7k _ nC).trans (Z6.out.2.1 _ nB))) (fun hHeld => ?_)
       clear hK K q5 f5
       try simp only [Act.put, qI, qX, qY]
       refine wpAnyH_take (i := 16) (v := ?_) (by simp only [qA, qS, qZ]; rfl) (by kernel_rfl) (by kernel_rfl) (by kernel_rfl) (fun _ _ _ h => h) (Or.inl ⟨by rfl, ?_⟩) (by assumption) ?_
       rotate_left 1
       ·intro w hSw; (try dsimp only at hSw); go_simp; (first | done | with_reducible rfl)
       try simp only [Act.put, qI, qX, qY]
       refine wpAnyH_done (by kernel_rfl) ?_ _
       have key : ∀ b : Nat, (∀ cs, X3.heap[b]? ≠ some (.cells cs 42)) → Y7.heap[b]? = X3.heap[b]? := fun b hno => (y7k b (fun e => by subst e; exact hno _ z5)).trans (Z6.out.2.1 b (fun e => by subst e; exact hno _ z4))
       exact ⟨X0.heap.size, X2.heap.size, a1, c1, a2, c2, a3, c3, a4, c4, _, _, _, _, _, _, _, _, _, _, _, _, _, _, _, _, _, _, _, _, _, _, _, _, _, _, _, _, _, _, _, _, _, _, _, _, _, _, _, _, _, _, _, _, _, rfl, eB, eC, nBC, (y7k _ nBC).trans Z6.out.1, y7B, SliceR.tagged (tagged_of _ _) (by decide) N3.out.2.2.2.1 (by omega) (fun b _ _ hno => key b hno) (fun b h _ => h), SliceR.tagged (tagged_of _ _) (by decide) N3.out.2.2.2.2.1 (by omega) (fun b _ _ hno => key b hno) (fun b h _ => h), SliceR.tagged (tagged_of _ _) (by decide) N3.out.2.2.2.2.2.1 (by omega) (fun b _ _ hno => key b hno) (fun b h _ => h), SliceR.tagged (tagged_of _ _) (by decide) N3.out.2.2.2.2.2.2.1 (by omega) (fun b _ _ hno => key b hno) (fun b h _ => h), y7b _ eC _ (Z6.out.2.2 _ eB _ N3.out.1)⟩
      exact AllReadyH.nil
     refine AllReadyH.cons (by simp only [qA, qS, qZ]; rfl) (fun K hK => ?_) ?_
     ·go_simp
      obtain ⟨X2, hX2⟩ : ∃ X, X1.alloc (.cells #[.int .i64 0, .slice none 0 0, .int .i64 0, .slice none 0 0] 42) = X := ⟨_, rfl⟩
      rw [hX2]
      have hst2 : Below X1.heap.size X1 X2 := hX2 ▸ (Below.refl _ _).alloc (Nat.le_refl _) _
      have z2 : X2.heap[X1.heap.size]? = some (.cells #[.int .i64 0, .slice none 0 0, .int .i64 0, .slice none 0 0] 42) := hX2 ▸ heap_new _ _ rfl
      clear hX2
      have t2_0 := below_from N1.out.1 hst2
      have t2_1 := heap_below hst2 N1.out.2.1
      have t2_2 := N1.out.2.2
      have t2_3 := z2
      have t2_4 := N1.out.1.size
      have t2_5 := (Array.getElem?_eq_some_iff.1 N1.out.2.1).1
      have N2 := Lib.hid (And.intro t2_0 (And.intro t2_1 (And.intro t2_2 (And.intro t2_3 (And.intro t2_4 (t2_5))))))
      refine hK.out _ _ (HS2.out _ (below_from hb2 N2.out.1)) (fun hHeld2 => ?_)
      clear hK K t2_0 t2_1 t2_2 t2_3 t2_4 t2_5 hHeld1 N1 hst2
      try simp only [Act.put, qI, qX, qY]
      clear z2
      refine wpAnyH_ready (rs := [7]) (by kernel_rfl) (by simp) ?_
      refine AllReadyH.cons (by simp only [qA, qS, qZ]; rfl) (fun K hK => ?_) ?_
      ·go_simp
       refine (HLS.out _ (below_from hb2 N2.out.1)).mono ?_
       rintro e X3 ⟨x1, x2, y1, y2, rfl, ha, hb, hc, hd, hst3⟩
       obtain ⟨a1, c1, rfl⟩ := ha.slice
       obtain ⟨a2, c2, rfl⟩ := hb.slice
       obtain ⟨a3, c3, rfl⟩ := hc.slice
       obtain ⟨a4, c4, rfl⟩ := hd.slice
       have hu := N2.out.1.size
       have t3_0 := below_from N2.out.1 hst3
       have t3_1 := heap_below hst3 N2.out.2.1
       have t3_2 := N2.out.2.2.1
       have t3_3 := heap_below hst3 N2.out.2.2.2.1
       have t3_4 := N2.out.2.2.2.2.1
       have t3_5 := N2.out.2.2.2.2.2
       have t3_6 := SliceR.stable (rdOf_stable _) ha (Keeps.refl _ _) (S' := fun b => w2.heap.size ≤ b) (fun b h _ => Nat.le_trans hu h)
       have t3_7 := SliceR.stable (rdOf_stable _) hb (Keeps.refl _ _) (S' := fun b => w2.heap.size ≤ b) (fun b h _ => Nat.le_trans hu h)
       have t3_8 := SliceR.stable (rdOf_stable _) hc (Keeps.refl _ _) (S' := fun b => w2.heap.size ≤ b) (fun b h _ => Nat.le_trans hu h)
       have t3_9 := SliceR.stable (rdOf_stable _) hd (Keeps.refl _ _) (S' := fun b => w2.heap.size ≤ b) (fun b h _ => Nat.le_trans hu h)
       have N3 := Lib.hid (And.intro t3_0 (And.intro t3_1 (And.intro t3_2 (And.intro t3_3 (And.intro t3_4 (And.intro t3_5 (And.intro t3_6 (And.intro t3_7 (And.intro t3_8 (t3_9))))))))))
       refine hK.out _ _ (HS2.out _ (below_from hb2 N3.out.1)) (fun hHeld3 => ?_)
       clear hK K t3_0 t3_1 t3_2 t3_3 t3_4 t3_5 t3_6 t3_7 t3_8 t3_9 hHeld2 N2 hst3
       try simp only [Act.put, qI, qX, qY]
       clear ha hb hc hd hu
       refine wpAnyH_take (i := 8) (v := ?_) (by simp only [qA, qS, qZ]; rfl) (by kernel_rfl) (by kernel_rfl) (by kernel_rfl) (fun _ _ _ h => h) (Or.inl ⟨by rfl, ?_⟩) (by assumption) ?_
       rotate_left 1
       ·intro w hSw; (try dsimp only at hSw); go_simp; (first | done | with_reducible rfl)
       try simp only [Act.put, qI, qX, qY]
       refine wpAnyH_take (i := 9) (v := ?_) (by simp only [qA, qS, qZ]; rfl) (by kernel_rfl) (by kernel_rfl) (by kernel_rfl) (fun _ _ _ h => h) (Or.inl ⟨by rfl, ?_⟩) (by assumption) ?_
       rotate_left 1
       ·intro w hSw; (try dsimp only at hSw); go_simp; (first | done | with_reducible rfl)
       try simp only [Act.put, qI, qX, qY]
       refine wpAnyH_take (i := 10) (v := ?_) (by simp only [qA, qS, qZ]; rfl) (by kernel_rfl) (by kernel_rfl) (by kernel_rfl) (fun _ _ _ h => h) (Or.inl ⟨by rfl, ?_⟩) (by assumption) ?_
       rotate_left 1
       ·intro w hSw; (try dsimp only at hSw); go_simp; (first | done | with_reducible rfl)
       try simp only [Act.put, qI, qX, qY]
       refine wpAnyH_take (i := 11) (v := ?_) (by simp only [qA, qS, qZ]; rfl) (by kernel_rfl) (by kernel_rfl) (by kernel_rfl) (fun _ _ _ h => h) (Or.inl ⟨by rfl, ?_⟩) (by assumption) ?_
       rotate_left 1
       ·intro w hSw; (try dsimp only at hSw); go_simp; (first | done | with_reducible rfl)
       try simp only [Act.put, qI, qX, qY]
       have z4 := N3.out.2.1
       have z5 := N3.out.2.2.2.1
       have eB := N3.out.2.2.1
       have eC := N3.out.2.2.2.2.1
       have nBC : ¬ X0.heap.size = X1.heap.size := by have := N3.out.2.2.2.2.2.1; omega
       have nCB : ¬ X1.heap.size = X0.heap.size := fun e => nBC e.symm
       have mB : w.heap.size ≠ X0.heap.size := by omega
       have nB : b1 ≠ X0.heap.size := by omega
       have mC : w.heap.size ≠ X1.heap.size := by omega
       have nC : b1 ≠ X1.heap.size := by omega
       obtain ⟨q4, f4⟩ := blk z4
       refine wpAnyH_ready (rs := [14]) (by kernel_rfl) (by simp) ?_
       refine AllReadyH.cons (by simp only [qA, qS, qZ]; rfl) (fun K hK => ?_) AllReadyH.nil
       go_simp
       obtain ⟨Y6, hY6, y6B, y6z, y6k, y6b⟩ := set_four X3 (X0.heap.size) 42 (.int .i64 0) (.slice none 0 0) (.int .i64 0) (.slice none 0 0) (.int .i64 s1.quote) (.slice a1 s1.lists.length c1) (.int .i64 s1.kind) (.slice a2 s1.cells.length c2) z4
       rw [hY6]
       have z5y := (y6k _ nCB).trans z5
       refine hK.out _ _ (HS3.out X3 Y6 (below_from hb2 N3.out.1) (y6k _ mB) (y6k _ nB)) (fun hHeld => ?_)
       have Z6 := Lib.hid (And.intro y6B (And.intro y6k y6b))
       obtain ⟨q5, f5⟩ := blk z5y
       clear hK K hY6 q4 f4 y6B y6k y6b
       try simp only [Act.put, qI, qX, qY]
       refine wpAnyH_ready (rs := [15]) (by kernel_rfl) (by simp) ?_
       refine AllReadyH.cons (by simp only [qA, qS, qZ]; rfl) (fun K hK => ?_) AllReadyH.nil
       go_simp
       obtain ⟨Y7, hY7, y7B, y7z, y7k, y7b⟩ := set_four Y6 (X1.heap.size) 42 (.int .i64 0) (.slice none 0 0) (.int .i64 0) (.slice none 0 0) (.int .i64 s2.quote) (.slice a3 s2.lists.length c3) (.int .i64 s2.kind) (.slice a4 s2.cells.length c4) z5y
       rw [hY7]
       refine hK.out _ _ (HS3.out X3 Y7 (below_from hb2 N3.out.1) ((y7k _ mC).trans (Z6.out.2.1 _ mB)) ((y7k _ nC).trans (Z6.out.2.1 _ nB))) (fun hHeld => ?_)
       clear hK K q5 f5
       try simp only [Act.put, qI, qX, qY]
       refine wpAnyH_take (i := 16) (v := ?_) (by simp only [qA, qS, qZ]; rfl) (by kernel_rfl) (by kernel_rfl) (by kernel_rfl) (fun _ _ _ h => h) (Or.inl ⟨by rfl, ?_⟩) (by assumption) ?_
       rotate_left 1
       ·intro w hSw; (try dsimp only at hSw); go_simp; (first | done | with_reducible rfl)
       try simp only [Act.put, qI, qX, qY]
       refine wpAnyH_done (by kernel_rfl) ?_ _
       have key : ∀ b : Nat, (∀ cs, X3.heap[b]? ≠ some (.cells cs 42)) → Y7.heap[b]? = X3.heap[b]? := fun b hno => (y7k b (fun e => by subst e; exact hno _ z5)).trans (Z6.out.2.1 b (fun e => by subst e; exact hno _ z4))
       exact ⟨X0.heap.size, X1.heap.size, a1, c1, a2, c2, a3, c3, a4, c4, _, _, _, _, _, _, _, _, _, _, _, _, _, _, _, _, _, _, _, _, _, _, _, _, _, _, _, _, _, _, _, _, _, _, _, _, _, _, _, _, _, _, _, _, _, rfl, eB, eC, nBC, (y7k _ nBC).trans Z6.out.1, y7B, SliceR.tagged (tagged_of _ _) (by decide) N3.out.2.2.2.2.2.2.1 (by omega) (fun b _ _ hno => key b hno) (fun b h _ => h), SliceR.tagged (tagged_of _ _) (by decide) N3.out.2.2.2.2.2.2.2.1 (by omega) (fun b _ _ hno => key b hno) (fun b h _ => h), SliceR.tagged (tagged_of _ _) (by decide) N3.out.2.2.2.2.2.2.2.2.1 (by omega) (fun b _ _ hno => key b hno) (fun b h _ => h), SliceR.tagged (tagged_of _ _) (by decide) N3.out.2.2.2.2.2.2.2.2.2 (by omega) (fun b _ _ hno => key b hno) (fun b h _ => h), y7b _ eC _ (Z6.out.2.2 _ eB _ N3.out.1)⟩
      exact AllReadyH.nil
     exact AllReadyH.nil
    refine AllReadyH.cons (by simp only [qA, qS, qZ]; rfl) (fun K hK => ?_) ?_
    ·go_simp
     obtain ⟨X1, hX1⟩ : ∃ X, X0.alloc (.cells #[.int .i64 0, .slice none 0 0, .int .i64 0, .slice none 0 0] 42) = X := ⟨_, rfl⟩
     rw [hX1]
     have hst1 : Below X0.heap.size X0 X1 := hX1 ▸ (Below.refl _ _).alloc (Nat.le_refl _) _
     have z1 : X1.heap[X0.heap.size]? = some (.cells #[.int .i64 0, .slice none 0 0, .int .i64 0, .slice none 0 0] 42) := hX1 ▸ heap_new _ _ rfl
     clear hX1
     have t1_0 := below_from N0.out hst1
     have t1_1 := z1
     have t1_2 := N0.out.size
     have N1 := Lib.hid (And.intro t1_0 (And.intro t1_1 (t1_2)))
     refine hK.out _ _ (HS2.out _ (below_from hb2 N1.out.1)) (fun hHeld1 => ?_)
     clear hK K t1_0 t1_1 t1_2 hHeld N0 hst1
     try simp only [Act.put, qI, qX, qY]
     clear z1
     refine wpAnyH_ready (rs := [7, 12]) (by kernel_rfl) (by simp) ?_
     refine AllReadyH.cons (by simp only [qA, qS, qZ]; rfl) (fun K hK => ?_) ?_
     ·go_simp
      refine (HLS.out _ (below_from hb2 N1.out.1)).mono ?_
      rintro e X2 ⟨x1, x2, y1, y2, rfl, ha, hb, hc, hd, hst2⟩
      obtain ⟨a1, c1, rfl⟩ := ha.slice
      obtain ⟨a2, c2, rfl⟩ := hb.slice
      obtain ⟨a3, c3, rfl⟩ := hc.slice
      obtain ⟨a4, c4, rfl⟩ := hd.slice
      have hu := N1.out.1.size
      have t2_0 := below_from N1.out.1 hst2
      have t2_1 := heap_below hst2 N1.out.2.1
      have t2_2 := N1.out.2.2
      have t2_3 := SliceR.stable (rdOf_stable _) ha (Keeps.refl _ _) (S' := fun b => w2.heap.size ≤ b) (fun b h _ => Nat.le_trans hu h)
      have t2_4 := SliceR.stable (rdOf_stable _) hb (Keeps.refl _ _) (S' := fun b => w2.heap.size ≤ b) (fun b h _ => Nat.le_trans hu h)
      have t2_5 := SliceR.stable (rdOf_stable _) hc (Keeps.refl _ _) (S' := fun b => w2.heap.size ≤ b) (fun b h _ => Nat.le_trans hu h)
      have t2_6 := SliceR.stable (rdOf_stable _) hd (Keeps.refl _ _) (S' := fun b => w2.heap.size ≤ b) (fun b h _ => Nat.le_trans hu h)
      have N2 := Lib.hid (And.intro t2_0 (And.intro t2_1 (And.intro t2_2 (And.intro t2_3 (And.intro t2_4 (And.intro t2_5 (t2_6)))))))
      refine hK.out _ _ (HS2.out _ (below_from hb2 N2.out.1)) (fun hHeld2 => ?_)
      clear hK K t2_0 t2_1 t2_2 t2_3 t2_4 t2_5 t2_6 hHeld1 N1 hst2
      try simp only [Act.put, qI, qX, qY]
      clear ha hb hc hd hu
      refine wpAnyH_take (i := 8) (v := ?_) (by simp only [qA, qS, qZ]; rfl) (by kernel_rfl) (by kernel_rfl) (by kernel_rfl) (fun _ _ _ h => h) (Or.inl ⟨by rfl, ?_⟩) (by assumption) ?_
      rotate_left 1
      ·intro w hSw; (try dsimp only at hSw); go_simp; (first | done | with_reducible rfl)
      try simp only [Act.put, qI, qX, qY]
      refine wpAnyH_take (i := 9) (v := ?_) (by simp only [qA, qS, qZ]; rfl) (by kernel_rfl) (by kernel_rfl) (by kernel_rfl) (fun _ _ _ h => h) (Or.inl ⟨by rfl, ?_⟩) (by assumption) ?_
      rotate_left 1
      ·intro w hSw; (try dsimp only at hSw); go_simp; (first | done | with_reducible rfl)
      try simp only [Act.put, qI, qX, qY]
      refine wpAnyH_take (i := 10) (v := ?_) (by simp only [qA, qS, qZ]; rfl) (by kernel_rfl) (by kernel_rfl) (by kernel_rfl) (fun _ _ _ h => h) (Or.inl ⟨by rfl, ?_⟩) (by assumption) ?_
      rotate_left 1
      ·intro w hSw; (try dsimp only at hSw); go_simp; (first | done | with_reducible rfl)
      try simp only [Act.put, qI, qX, qY]
      refine wpAnyH_take (i := 11) (v := ?_) (by simp only [qA, qS, qZ]; rfl) (by kernel_rfl) (by kernel_rfl) (by kernel_rfl) (fun _ _ _ h => h) (Or.inl ⟨by rfl, ?_⟩) (by assumption) ?_
      rotate_left 1
      ·intro w hSw; (try dsimp only at hSw); go_simp; (first | done | with_reducible rfl)
      try simp only [Act.put, qI, qX, qY]
      refine wpAnyH_ready (rs := [12]) (by kernel_rfl) (by simp) ?_
      refine AllReadyH.cons (by simp only [qA, qS, qZ]; rfl) (fun K hK => ?_) ?_
      ·go_simp
       obtain ⟨X3, hX3⟩ : ∃ X, X2.alloc (.cells #[.int .i64 0, .slice none 0 0, .int .i64 0, .slice none 0 0] 42) = X := ⟨_, rfl⟩
       rw [hX3]
       have hst3 : Below X2.heap.size X2 X3 := hX3 ▸ (Below.refl _ _).alloc (Nat.le_refl _) _
       have z3 : X3.heap[X2.heap.size]? = some (.cells #[.int .i64 0, .slice none 0 0, .int .i64 0, .slice none 0 0] 42) := hX3 ▸ heap_new _ _ rfl
       clear hX3
       have t3_0 := below_from N2.out.1 hst3
       have t3_1 := heap_below hst3 N2.out.2.1
       have t3_2 := N2.out.2.2.1
       have t3_3 := SliceR.below (rdOf_stable _) N2.out.2.2.2.1 hst3
       have t3_4 := SliceR.below (rdOf_stable _) N2.out.2.2.2.2.1 hst3
       have t3_5 := SliceR.below (rdOf_stable _) N2.out.2.2.2.2.2.1 hst3
       have t3_6 := SliceR.below (rdOf_stable _) N2.out.2.2.2.2.2.2 hst3
       have t3_7 := z3
       have t3_8 := N2.out.1.size
       have t3_9 := (Array.getElem?_eq_some_iff.1 N2.out.2.1).1
       have N3 := Lib.hid (And.intro t3_0 (And.intro t3_1 (And.intro t3_2 (And.intro t3_3 (And.intro t3_4 (And.intro t3_5 (And.intro t3_6 (And.intro t3_7 (And.intro t3_8 (t3_9))))))))))
       refine hK.out _ _ (HS2.out _ (below_from hb2 N3.out.1)) (fun hHeld3 => ?_)
       clear hK K t3_0 t3_1 t3_2 t3_3 t3_4 t3_5 t3_6 t3_7 t3_8 t3_9 hHeld2 N2 hst3
       try simp only [Act.put, qI, qX, qY]
       clear z3
       have z4 := N3.out.2.2.2.2.2.2.2.1
       have z5 := N3.out.2.1
       have eB := N3.out.2.2.2.2.2.2.2.2.1
       have eC := N3.out.2.2.1
       have nBC : ¬ X2.heap.size = X0.heap.size := by have := N3.out.2.2.2.2.2.2.2.2.2; omega
       have nCB : ¬ X0.heap.size = X2.heap.size := fun e => nBC e.symm
       have mB : w.heap.size ≠ X2.heap.size := by omega
       have nB : b1 ≠ X2.heap.size := by omega
       have mC : w.heap.size ≠ X0.heap.size := by omega
       have nC : b1 ≠ X0.heap.size := by omega
       obtain ⟨q4, f4⟩ := blk z4
       refine wpAnyH_ready (rs := [14]) (by kernel_rfl) (by simp) ?_
       refine AllReadyH.cons (by simp only [qA, qS, qZ]; rfl) (fun K hK => ?_) AllReadyH.nil
       go_simp
       obtain ⟨Y6, hY6, y6B, y6z, y6k, y6b⟩ := set_four X3 (X2.heap.size) 42 (.int .i64 0) (.slice none 0 0) (.int .i64 0) (.slice none 0 0) (.int .i64 s1.quote) (.slice a1 s1.lists.length c1) (.int .i64 s1.kind) (.slice a2 s1.cells.length c2) z4
       rw [hY6]
       have z5y := (y6k _ nCB).trans z5
       refine hK.out _ _ (HS3.out X3 Y6 (below_from hb2 N3.out.1) (y6k _ mB) (y6k _ nB)) (fun hHeld => ?_)
       have Z6 := Lib.hid (And.intro y6B (And.intro y6k y6b))
       obtain ⟨q5, f5⟩ := blk z5y
       clear hK K hY6 q4 f4 y6B y6k y6b
       try simp only [Act.put, qI, qX, qY]
       refine wpAnyH_ready (rs := [15]) (by kernel_rfl) (by simp) ?_
       refine AllReadyH.cons (by simp only [qA, qS, qZ]; rfl) (fun K hK => ?_) AllReadyH.nil
       go_simp
       obtain ⟨Y7, hY7, y7B, y7z, y7k, y7b⟩ := set_four Y6 (X0.heap.size) 42 (.int .i64 0) (.slice none 0 0) (.int .i64 0) (.slice none 0 0) (.int .i64 s2.quote) (.slice a3 s2.lists.length c3) (.int .i64 s2.kind) (.slice a4 s2.cells.length c4) z5y
       rw [hY7]
       refine hK.out _ _ (HS3.out X3 Y7 (below_from hb2 N3.out.1) ((y7k _ mC).trans (Z6.out.2.1 _ mB)) ((y7k _ nC).trans (Z6.out.2.1 _ nB))) (fun hHeld => ?_)
       clear hK K q5 f5
       try simp only [Act.put, qI, qX, qY]
       refine wpAnyH_take (i := 16) (v := ?_) (by simp only [qA, qS, qZ]; rfl) (by kernel_rfl) (by kernel_rfl) (by kernel_rfl) (fun _ _ _ h => h) (Or.inl ⟨by rfl, ?_⟩) (by assumption) ?_
       rotate_left 1
       ·intro w hSw; (try dsimp only at hSw); go_simp; (first | done | with_reducible rfl)
       try simp only [Act.put, qI, qX, qY]
       refine wpAnyH_done (by kernel_rfl) ?_ _
       have key : ∀ b : Nat, (∀ cs, X3.heap[b]? ≠ some (.cells cs 42)) → Y7.heap[b]? = X3.heap[b]? := fun b hno => (y7k b (fun e => by subst e; exact hno _ z5)).trans (Z6.out.2.1 b (fun e => by subst e; exact hno _ z4))
       exact ⟨X2.heap.size, X0.heap.size, a1, c1, a2, c2, a3, c3, a4, c4, _, _, _, _, _, _, _, _, _, _, _, _, _, _, _, _, _, _, _, _, _, _, _, _, _, _, _, _, _, _, _, _, _, _, _, _, _, _, _, _, _, _, _, _, _, rfl, eB, eC, nBC, (y7k _ nBC).trans Z6.out.1, y7B, SliceR.tagged (tagged_of _ _) (by decide) N3.out.2.2.2.1 (by omega) (fun b _ _ hno => key b hno) (fun b h _ => h), SliceR.tagged (tagged_of _ _) (by decide) N3.out.2.2.2.2.1 (by omega) (fun b _ _ hno => key b hno) (fun b h _ => h), SliceR.tagged (tagged_of _ _) (by decide) N3.out.2.2.2.2.2.1 (by omega) (fun b _ _ hno => key b hno) (fun b h _ => h), SliceR.tagged (tagged_of _ _) (by decide) N3.out.2.2.2.2.2.2.1 (by omega) (fun b _ _ hno => key b hno) (fun b h _ => h), y7b _ eC _ (Z6.out.2.2 _ eB _ N3.out.1)⟩
      exact AllReadyH.nil
     refine AllReadyH.cons (by simp only [qA, qS, qZ]; rfl) (fun K hK => ?_) ?_
     ·go_simp
      obtain ⟨X2, hX2⟩ : ∃ X, X1.alloc (.cells #[.int .i64 0, .slice none 0 0, .int .i64 0, .slice none 0 0] 42) = X := ⟨_, rfl⟩
      rw [hX2]
      have hst2 : Below X1.heap.size X1 X2 := hX2 ▸ (Below.refl _ _).alloc (Nat.le_refl _) _
      have z2 : X2.heap[X1.heap.size]? = some (.cells #[.int .i64 0, .slice none 0 0, .int .i64 0, .slice none 0 0] 42) := hX2 ▸ heap_new _ _ rfl
      clear hX2
      have t2_0 := below_from N1.out.1 hst2
      have t2_1 := heap_below hst2 N1.out.2.1
      have t2_2 := N1.out.2.2
      have t2_3 := z2
      have t2_4 := N1.out.1.size
      have t2_5 := (Array.getElem?_eq_some_iff.1 N1.out.2.1).1
      have N2 := Lib.hid (And.intro t2_0 (And.intro t2_1 (And.intro t2_2 (And.intro t2_3 (And.intro t2_4 (t2_5))))))
      refine hK.out _ _ (HS2.out _ (below_from hb2 N2.out.1)) (fun hHeld2 => ?_)
      clear hK K t2_0 t2_1 t2_2 t2_3 t2_4 t2_5 hHeld1 N1 hst2
      try simp only [Act.put, qI, qX, qY]
      clear z2
      refine wpAnyH_ready (rs := [7]) (by kernel_rfl) (by simp) ?_
      refine AllReadyH.cons (by simp only [qA, qS, qZ]; rfl) (fun K hK => ?_) ?_
      ·go_simp
       refine (HLS.out _ (below_from hb2 N2.out.1)).mono ?_
       rintro e X3 ⟨x1, x2, y1, y2, rfl, ha, hb, hc, hd, hst3⟩
       obtain ⟨a1, c1, rfl⟩ := ha.slice
       obtain ⟨a2, c2, rfl⟩ := hb.slice
       obtain ⟨a3, c3, rfl⟩ := hc.slice
       obtain ⟨a4, c4, rfl⟩ := hd.slice
       have hu := N2.out.1.size
       have t3_0 := below_from N2.out.1 hst3
       have t3_1 := heap_below hst3 N2.out.2.1
       have t3_2 := N2.out.2.2.1
       have t3_3 := heap_below hst3 N2.out.2.2.2.1
       have t3_4 := N2.out.2.2.2.2.1
       have t3_5 := N2.out.2.2.2.2.2
       have t3_6 := SliceR.stable (rdOf_stable _) ha (Keeps.refl _ _) (S' := fun b => w2.heap.size ≤ b) (fun b h _ => Nat.le_trans hu h)
       have t3_7 := SliceR.stable (rdOf_stable _) hb (Keeps.refl _ _) (S' := fun b => w2.heap.size ≤ b) (fun b h _ => Nat.le_trans hu h)
       have t3_8 := SliceR.stable (rdOf_stable _) hc (Keeps.refl _ _) (S' := fun b => w2.heap.size ≤ b) (fun b h _ => Nat.le_trans hu h)
       have t3_9 := SliceR.stable (rdOf_stable _) hd (Keeps.refl _ _) (S' := fun b => w2.heap.size ≤ b) (fun b h _ => Nat.le_trans hu h)
       have N3 := Lib.hid (And.intro t3_0 (And.intro t3_1 (And.intro t3_2 (And.intro t3_3 (And.intro t3_4 (And.intro t3_5 (And.intro t3_6 (And.intro t3_7 (And.intro t3_8 (t3_9))))))))))
       refine hK.out _ _ (HS2.out _ (below_from hb2 N3.out.1)) (fun hHeld3 => ?_)
       clear hK K t3_0 t3_1 t3_2 t3_3 t3_4 t3_5 t3_6 t3_7 t3_8 t3_9 hHeld2 N2 hst3
       try simp only [Act.put, qI, qX, qY]
       clear ha hb hc hd hu
       refine wpAnyH_take (i := 8) (v := ?_) (by simp only [qA, qS, qZ]; rfl) (by kernel_rfl) (by kernel_rfl) (by kernel_rfl) (fun _ _ _ h => h) (Or.inl ⟨by rfl, ?_⟩) (by assumption) ?_
       rotate_left 1
       ·intro w hSw; (try dsimp only at hSw); go_simp; (first | done | with_reducible rfl)
       try simp only [Act.put, qI, qX, qY]
       refine wpAnyH_take (i := 9) (v := ?_) (by simp only [qA, qS, qZ]; rfl) (by kernel_rfl) (by kernel_rfl) (by kernel_rfl) (fun _ _ _ h => h) (Or.inl ⟨by rfl, ?_⟩) (by assumption) ?_
       rotate_left 1
       ·intro w hSw; (try dsimp only at hSw); go_simp; (first | done | with_reducible rfl)
       try simp only [Act.put, qI, qX, qY]
       refine wpAnyH_take (i := 10) (v := ?_) (by simp only [qA, qS, qZ]; rfl) (by kernel_rfl) (by kernel_rfl) (by kernel_rfl) (fun _ _ _ h => h) (Or.inl ⟨by rfl, ?_⟩) (by assumption) ?_
       rotate_left 1
       ·intro w hSw; (try dsimp only at hSw); go_simp; (first | done | with_reducible rfl)
       try simp only [Act.put, qI, qX, qY]
       refine wpAnyH_take (i := 11) (v := ?_) (by simp only [qA, qS, qZ]; rfl) (by kernel_rfl) (by kernel_rfl) (by kernel_rfl) (fun _ _ _ h => h) (Or.inl ⟨by rfl, ?_⟩) (by assumption) ?_
       rotate_left 1
       ·intro w hSw; (try dsimp only at hSw); go_simp; (first | done | with_reducible rfl)
       try simp only [Act.put, qI, qX, qY]
       have z4 := N3.out.2.2.2.1
       have z5 := N3.out.2.1
       have eB := N3.out.2.2.2.2.1
       have eC := N3.out.2.2.1
       have nBC : ¬ X1.heap.size = X0.heap.size := by have := N3.out.2.2.2.2.2.1; omega
       have nCB : ¬ X0.heap.size = X1.heap.size := fun e => nBC e.symm
       have mB : w.heap.size ≠ X1.heap.size := by omega
       have nB : b1 ≠ X1.heap.size := by omega
       have mC : w.heap.size ≠ X0.heap.size := by omega
       have nC : b1 ≠ X0.heap.size := by omega
       obtain ⟨q4, f4⟩ := blk z4
       refine wpAnyH_ready (rs := [14]) (by kernel_rfl) (by simp) ?_
       refine AllReadyH.cons (by simp only [qA, qS, qZ]; rfl) (fun K hK => ?_) AllReadyH.nil
       go_simp
       obtain ⟨Y6, hY6, y6B, y6z, y6k, y6b⟩ := set_four X3 (X1.heap.size) 42 (.int .i64 0) (.slice none 0 0) (.int .i64 0) (.slice none 0 0) (.int .i64 s1.quote) (.slice a1 s1.lists.length c1) (.int .i64 s1.kind) (.slice a2 s1.cells.length c2) z4
       rw [hY6]
       have z5y := (y6k _ nCB).trans z5
       refine hK.out _ _ (HS3.out X3 Y6 (below_from hb2 N3.out.1) (y6k _ mB) (y6k _ nB)) (fun hHeld => ?_)
       have Z6 := Lib.hid (And.intro y6B (And.intro y6k y6b))
       obtain ⟨q5, f5⟩ := blk z5y
       clear hK K hY6 q4 f4 y6B y6k y6b
       try simp only [Act.put, qI, qX, qY]
       refine wpAnyH_ready (rs := [15]) (by kernel_rfl) (by simp) ?_
       refine AllReadyH.cons (by simp only [qA, qS, qZ]; rfl) (fun K hK => ?_) AllReadyH.nil
       go_simp
       obtain ⟨Y7, hY7, y7B, y7z, y7k, y7b⟩ := set_four Y6 (X0.heap.size) 42 (.int .i64 0) (.slice none 0 0) (.int .i64 0) (.slice none 0 0) (.int .i64 s2.quote) (.slice a3 s2.lists.length c3) (.int .i64 s2.kind) (.slice a4 s2.cells.length c4) z5y
       rw [hY7]
       refine hK.out _ _ (HS3.out X3 Y7 (below_from hb2 N3.out.1) ((y7k _ mC).trans (Z6.out.2.1 _ mB)) ((y7k _ nC).trans (Z6.out.2.1 _ nB))) (fun hHeld => ?_)
       clear hK K q5 f5
       try simp only [Act.put, qI, qX, qY]
       refine wpAnyH_take (i := 16) (v := ?_) (by simp only [qA, qS, qZ]; rfl) (by kernel_rfl) (by kernel_rfl) (by kernel_rfl) (fun _ _ _ h => h) (Or.inl ⟨by rfl, ?_⟩) (by assumption) ?_
       rotate_left 1
       ·intro w hSw; (try dsimp only at hSw); go_simp; (first | done | with_reducible rfl)
       try simp only [Act.put, qI, qX, qY]
       refine wpAnyH_done (by kernel_rfl) ?_ _
       have key : ∀ b : Nat, (∀ cs, X3.heap[b]? ≠ some (.cells cs 42)) → Y7.heap[b]? = X3.heap[b]? := fun b hno => (y7k b (fun e => by subst e; exact hno _ z5)).trans (Z6.out.2.1 b (fun e => by subst e; exact hno _ z4))
       exact ⟨X1.heap.size, X0.heap.size, a1, c1, a2, c2, a3, c3, a4, c4, _, _, _, _, _, _, _, _, _, _, _, _, _, _, _, _, _, _, _, _, _, _, _, _, _, _, _, _, _, _, _, _, _, _, _, _, _, _, _, _, _, _, _, _, _, rfl, eB, eC, nBC, (y7k _ nBC).trans Z6.out.1, y7B, SliceR.tagged (tagged_of _ _) (by decide) N3.out.2.2.2.2.2.2.1 (by omega) (fun b _ _ hno => key b hno) (fun b h _ => h), SliceR.tagged (tagged_of _ _) (by decide) N3.out.2.2.2.2.2.2.2.1 (by omega) (fun b _ _ hno => key b hno) (fun b h _ => h), SliceR.tagged (tagged_of _ _) (by decide) N3.out.2.2.2.2.2.2.2.2.1 (by omega) (fun b _ _ hno => key b hno) (fun b h _ => h), SliceR.tagged (tagged_of _ _) (by decide) N3.out.2.2.2.2.2.2.2.2.2 (by omega) (fun b _ _ hno => key b hno) (fun b h _ => h), y7b _ eC _ (Z6.out.2.2 _ eB _ N3.out.1)⟩
      exact AllReadyH.nil
     exact AllReadyH.nil
    exact AllReadyH.nil
end Go.Proofs.YtpndnbjpnajaaaaGreatDoor
