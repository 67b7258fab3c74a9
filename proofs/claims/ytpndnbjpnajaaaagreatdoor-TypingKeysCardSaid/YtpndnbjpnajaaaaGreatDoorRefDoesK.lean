/- The walk of the reference's Delete of documents. -/
import Derived.Test.YtpndnbjpnajaaaaGreatDoorDocPartK
import Derived.Test.YtpndnbjpnajaaaaGreatDoorCellsInsertK
import Derived.Test.YtpndnbjpnajaaaaGreatDoorReplaceK
import Derived.Test.YtpndnbjpnajaaaaGreatDoorKeyLawsK
import Derived.Test.YtpndnbjpnajaaaaGreatDoorSameK
set_option linter.unusedVariables false
set_option linter.unusedSimpArgs false
namespace Go.Proofs.YtpndnbjpnajaaaaGreatDoor
open Go.RowKit
open Go.Proofs.Qw
theorem lins_from {w : World} {S : Nat → Prop} {a : Option Addr} {n c p : Nat} {xs : Doc} (h : LinsR w S (.slice a n c) xs) (hp : p ≤ xs.length) :
  ∃ X, LinsR w S (.slice X (xs.length - p) (c - p)) (xs.drop p) ∧ ((c = p ∧ a = X) ∨ (¬ c = p ∧ a.map (·.add (p * 4)) = X)) := by
 obtain ⟨_, h2, h3⟩ := SliceR.len h
 have := SliceR.part h (i := p) (j := xs.length) (m := c) hp (Nat.le_refl _) h2 (Nat.le_refl _)
 rw [List.take_of_length_le (by rw [List.length_drop]; omega)] at this
 by_cases hcp : c = p
 ·exact ⟨a, by simpa only [sliced, if_pos hcp] using this, .inl ⟨hcp, rfl⟩⟩
 ·exact ⟨_, by simpa only [sliced, if_neg hcp] using this, .inr ⟨hcp, rfl⟩⟩
theorem fits_take {d : Doc} (h : Fits d) (i : Nat) : Fits (d.take i) := ⟨by rw [List.length_take]; have := h.1; omega, fun l hl => h.2 l (List.mem_of_mem_take hl)⟩
theorem fits_drop {d : Doc} (h : Fits d) (i : Nat) : Fits (d.drop i) := ⟨by rw [List.length_drop]; have := h.1; omega, fun l hl => h.2 l (List.mem_of_mem_drop hl)⟩
set_option maxRecDepth 100000 in
set_option maxHeartbeats 8000000 in
theorem refDDelete_any (v : Value) (d : Doc) (a b : Ps) (w : World) (S : Nat → Prop) (h : LinsR w S v d) (hs : Small d) (hf : Fits d) :
  Calls Tryz.prog 111 #[v, posV a, posV b] w (DocSaid (deleteD d a b) w) := by
 obtain ⟨W1, hW1, hB, hz, hA1, hA2⟩ := two_pos w (.int .i64 a.line) (.int .i64 a.col) (.int .i64 b.line) (.int .i64 b.col)
 have hs1 := hB.size
 have HC1 := Lib.hid (refSpan_any v d a b W1 S (h.below (rdLin_stable _) hB) hs)
 have HB : Hid (∀ W, Below W1.heap.size W1 W → W.heap[w.heap.size]? = some (.cells #[.int .i64 a.line, .int .i64 a.col] 24) ∧ W.heap[w.heap.size + 1]? = some (.cells #[.int .i64 b.line, .int .i64 b.col] 24)) := Lib.hid fun W hW => ⟨heap_below hW hA1, heap_below hW hA2⟩
 have HP : Hid (∀ p : Ps, posV p = .agg #[.int .i64 p.line, .int .i64 p.col]) := Lib.hid fun _ => rfl
 have H1 := Lib.hid hB
 have HL := Lib.hid h
 obtain ⟨p1, f1⟩ := blk hA1
 obtain ⟨p2, f2⟩ := blk hA2
 obtain ⟨va, vc, rfl⟩ := h.slice
 have HF := Lib.hid hf
 have hlen := hf.1
 clear h hs hf hA1 hA2 hB
 cases hsp : spanD d a b
 ·have HR : Hid (deleteD d a b = ([], 1)) := Lib.hid (by unfold deleteD; rw [hsp]; rfl)
  rw [hsp] at HC1
  clear hsp
  rw [HP.out a, HP.out b] at HC1 ⊢
  go_enter Tryz.func111, Tryz.ntmps111
  go_wp2_with (go_at_call 174; refine HC1.out.mono ?_; rintro e w2 ⟨rfl, hb2⟩)
  go_ret2
  unfold DocSaid
  rw [HR.out]
  exact ⟨_, rfl, SliceR.nil _ _ _ _ _ _, H1.out.trans (hb2.mono hs1)⟩
 obtain ⟨_, i, j, p, q, l, m, rfl, rfl, hl, hm, hp, hq, hij, _⟩ := span_at hsp
 have hil := (List.getElem?_eq_some_iff.1 hl).1
 have hjl := (List.getElem?_eq_some_iff.1 hm).1
 have HR : Hid (deleteD d ⟨i, p⟩ ⟨j, q⟩ = (d.take i ++ [{ l with cells := l.cells.take p ++ m.cells.drop q }] ++ d.drop (j + 1), 0)) := Lib.hid (by unfold deleteD; rw [hsp, if_pos rfl, deleteL_at hl hm])
 have hfl := HF.out.2 l (List.mem_of_getElem? hl)
 have hfm := HF.out.2 m (List.mem_of_getElem? hm)
 rw [hsp] at HC1
 clear hsp
 rw [HP.out, HP.out] at HC1 ⊢
 obtain ⟨va', vc', hve, hvc, hvm, hx⟩ := lins_shape HL.out
 cases hve
 obtain ⟨b1, o1, la, lc, ca, cc, rfl, hAi⟩ := hx i l hl
 obtain ⟨b1', o1', la2, lc2, ca2, cc2, hbe, hAj⟩ := hx j m hm
 cases hbe
 have hccl := hAi.cellsR.len
 have hcc2 := hAj.cellsR.len
 have HAI := Lib.hid hAi
 have HAJ := Lib.hid hAj
 have hb1z : b1 < w.heap.size := hAi.lt
 obtain ⟨X, hX, hcq⟩ := cels_from hAj.cellsR hq
 obtain ⟨Y, hY, hdq⟩ := lins_from HL.out (show j + 1 ≤ d.length by omega)
 have HO1 : Hid (∀ W, Below w.heap.size w W → Calls Tryz.prog 102 #[.slice (some ⟨b1, o1, none⟩) i vc] W fun e w' => ∃ v', e = .returned v' ∧ DocR true w' (fun b => W.heap.size ≤ b) v' (d.take i) ∧ Below W.heap.size W w') := Lib.hid fun W hW => refOwnD_any _ _ W S (SliceR.take (SliceR.below (rdLin_stable _) HL.out hW) (by omega)) (fits_take HF.out i)
 have HO2 : Hid (∀ W, Below w.heap.size w W → Calls Tryz.prog 102 #[.slice Y (d.length - (j + 1)) (vc - (j + 1))] W fun e w' => ∃ v', e = .returned v' ∧ DocR true w' (fun b => W.heap.size ≤ b) v' (d.drop (j + 1)) ∧ Below W.heap.size W w') := Lib.hid fun W hW => refOwnD_any _ _ W S (SliceR.below (rdLin_stable _) hY hW) (fits_drop HF.out (j + 1))
 have HFM : Hid (∀ W, Below w.heap.size w W → Calls Tryz.prog 182 #[linV l (.slice la l.lists.length lc) (.slice ca l.cells.length cc)] W fun e w' => ∃ a', e = .returned (linV l a' (.slice none 0 0)) ∧ IntsR true w' (fun b => W.heap.size ≤ b) a' l.lists ∧ Below W.heap.size W w') := Lib.hid fun W hW => refFrame_any l _ _ false false W S (hAi.below hW).listsR (hAi.below hW).cellsR hfl.1
 have HOW : Hid (∀ W, Below w.heap.size w W → Calls Tryz.prog 183 #[.slice ca p cc] W fun e w' => ∃ v', e = .returned v' ∧ CelsR true w' (fun b => W.heap.size ≤ b) v' (l.cells.take p) ∧ Below W.heap.size W w') := Lib.hid fun W hW => refOwnC_any _ _ false W S ((hAi.below hW).cellsR.take hp) (by rw [List.length_take]; omega)
 have HXX : Hid (∀ W, Below w.heap.size w W → Src Tryz.prog 3 40 (.slice X (m.cells.length - q) (cc2 - q)) (m.cells.drop q).length ((m.cells.drop q).flatMap encCel) W) := Lib.hid fun W hW => SliceR.src_flat rowCell eltCell (SliceR.below (rdOf_stable _) hX hW)
 have hl1 : (l.cells.take p).length + (m.cells.drop q).length ≤ 100000000 := by rw [List.length_take, List.length_drop]; omega
 have hl2 : (d.take i).length + 1 ≤ 100000000 := by rw [List.length_take]; omega
 obtain ⟨L1, hL1⟩ : ∃ L1, l.cells.take p ++ m.cells.drop q = L1 := ⟨_, rfl⟩
 rw [hL1] at HR
 have hl3 : (d.take i ++ [{ l with cells := L1 }]).length + (d.drop (j + 1)).length ≤ 100000000 := by rw [List.length_append, List.length_take, List.length_drop]; simp; omega
 have HLL := Lib.hid (And.intro hl1 (And.intro hl2 (And.intro hl3 hL1)))
 unfold maxLen at hvm hccl hcc2
 have i0 : (0 : Int) ≤ (i : Int) := Int.natCast_nonneg _
 have i1 : (i : Int) < (d.length : Int) := by omega
 have i2 : (i : Int) ≤ (vc : Int) := by omega
 have j0 : (0 : Int) ≤ (j : Int) := Int.natCast_nonneg _
 have j1 : (j : Int) < (d.length : Int) := by omega
 have j2 : (j : Int) ≤ 1000000 := by omega
 have u0 : (0 : Int) ≤ (p : Int) := Int.natCast_nonneg _
 have u1 : (p : Int) ≤ (cc : Int) := by omega
 have u2 : (0 : Int) ≤ (q : Int) := Int.natCast_nonneg _
 have u3 : (q : Int) ≤ (m.cells.length : Int) := by omega
 clear hx hAi hAj hl hm hX hY hl1 hl2 hl3 hL1 hfl hfm
 unfold linV at HFM
 rcases hcq with ⟨rfl, rfl⟩ | ⟨hcq, rfl⟩ <;> rcases hdq with ⟨rfl, hdq⟩ | ⟨hdq, rfl⟩
 ·rw [Nat.sub_self, show m.cells.length - cc2 = 0 by omega] at HXX; cases hdq; rw [Nat.sub_self, show d.length - (j + 1) = 0 by omega] at HO2
  go_enter Tryz.func111, Tryz.ntmps111
  go_wp2_with (first
   | (go_at_call 174; refine HC1.out.mono ?_; rintro e w2 ⟨rfl, hb2⟩; have hx2 := H1.out.trans (hb2.mono hs1); obtain ⟨q1, g1⟩ := blk (HB.out _ hb2).1; obtain ⟨q2, g2⟩ := blk (HB.out _ hb2).2)
   | (go_at_call 102; refine (HO1.out _ hx2).mono ?_; rintro e w3 ⟨v3, rfl, hv3, hb3⟩; have hy3 := below_from hb2 hb3; have hx3 := below_from hx2 hb3; have HV3 := Lib.hid (SliceR.bounded (rdLin_stable true) hv3); obtain ⟨q3, g3⟩ := blk (HB.out _ hy3).1; obtain ⟨q4, g4⟩ := blk (HB.out _ hy3).2; obtain ⟨_, c0, c1, c2, c3, _, _⟩ := HAI.out.below hx3; clear hv3)
   | (go_at_call 182; refine (HFM.out _ hx3).mono ?_; rintro e w4 ⟨a', rfl, ha4, hb4⟩; obtain ⟨a4, c4, rfl⟩ := ha4.slice; have HI4 := Lib.hid (SliceR.bounded (rdOf_stable _) ha4); clear ha4))
  obtain ⟨w5, hw5⟩ : ∃ X, w4.alloc (.cells #[.int .i64 l.quote, .slice a4 l.lists.length c4, .int .i64 l.kind, .slice none 0 0] 42) = X := ⟨_, rfl⟩
  rw [hw5]
  have hb45 : Below w4.heap.size w4 w5 := hw5 ▸ (Below.refl _ _).alloc (Nat.le_refl _) _
  have m5 : w5.heap[w4.heap.size]? = some (.cells #[.int .i64 l.quote, .slice a4 l.lists.length c4, .int .i64 l.kind, .slice none 0 0] 42) := hw5 ▸ heap_new _ _ rfl
  have hb35 : Below w3.heap.size w3 w5 := below_from hb4 hb45
  have hy5 := below_from hy3 hb35
  have hx5 := below_from hx3 hb35
  have hz12 := hb2.size
  have hz23 := hb3.size
  have hz34 := hb4.size
  have hz45 := hb45.size
  have e1 : w4.heap.size ≠ w.heap.size := by omega
  have e2 : w4.heap.size ≠ w.heap.size + 1 := by omega
  have e3 : w4.heap.size ≠ b1 := by omega
  have HS2 : Hid (∀ Z, Below W1.heap.size W1 Z → (fun w' => w'.cell? ⟨w.heap.size, 0, none⟩ = some (.int .i64 i) ∧ w'.cell? ⟨w.heap.size, 1, none⟩ = some (.int .i64 p) ∧ w'.cell? ⟨w.heap.size + 1, 0, none⟩ = some (.int .i64 j) ∧ w'.cell? ⟨w.heap.size + 1, 1, none⟩ = some (.int .i64 cc2) ∧ w'.cell? ⟨b1, o1 + i * 4 + 3, none⟩ = some (.slice ca l.cells.length cc) ∧ w'.cell? ⟨b1, o1 + j * 4 + 3, none⟩ = some (.slice ca2 m.cells.length cc2)) Z) := Lib.hid fun Z hZ => by
   have h1 := (blk (HB.out Z hZ).1).1
   have h2 := (blk (HB.out Z hZ).2).1
   exact ⟨h1 0, h1 1, h2 0, h2 1, (HAI.out.below (H1.out.trans (hZ.mono hs1))).cells, (HAJ.out.below (H1.out.trans (hZ.mono hs1))).cells⟩
  clear q1 g1 q2 g2 q3 g3 q4 g4 p1 f1 p2 f2 hW1 c0 c1 c2 c3 hw5
  refine wp_region_noPanic ?_
  refine wp_region_held_drew (S := (fun w' => w'.cell? ⟨w.heap.size, 0, none⟩ = some (.int .i64 i) ∧ w'.cell? ⟨w.heap.size, 1, none⟩ = some (.int .i64 p) ∧ w'.cell? ⟨w.heap.size + 1, 0, none⟩ = some (.int .i64 j) ∧ w'.cell? ⟨w.heap.size + 1, 1, none⟩ = some (.int .i64 cc2) ∧ w'.cell? ⟨b1, o1 + i * 4 + 3, none⟩ = some (.slice ca l.cells.length cc) ∧ w'.cell? ⟨b1, o1 + j * 4 + 3, none⟩ = some (.slice ca2 m.cells.length cc2))) (by kernel_rfl) (HS2.out _ hy5.drew) (fun hHeld => ?_)
  obtain ⟨X0, hX0⟩ : ∃ X, w5.drew = X := ⟨_, rfl⟩
  have hd5 : Below w5.heap.size w5 X0 := hX0 ▸ (Below.refl _ _).drew
  rw [hX0] at hHeld ⊢
  have hy6 := below_from hy5 hd5
  have hx6 := below_from hx5 hd5
  clear hX0
  refine wpAnyH_take (i := 0) (v := ?_) (by simp only [qA, qZ]; rfl) (by kernel_rfl) (by kernel_rfl) (by kernel_rfl) (fun _ _ _ h => h) (Or.inl ⟨by rfl, ?_⟩) (by assumption) ?_
  rotate_left 1
  ·intro w hSw; (try dsimp only at hSw); go_simp; (first | done | with_reducible rfl)
  try simp only [Act.put, qI, qX, qY]
  refine wpAnyH_take (i := 1) (v := ?_) (by simp only [qA, qS, qZ]; rfl) (by kernel_rfl) (by kernel_rfl) (by kernel_rfl) (fun _ _ _ h => h) (Or.inl ⟨by rfl, ?_⟩) (by assumption) ?_
  rotate_left 1
  ·intro w hSw; (try dsimp only at hSw); go_simp; (first | done | with_reducible rfl)
  try simp only [Act.put, qI, qX, qY]
  refine wpAnyH_take (i := 2) (v := ?_) (by simp only [qA, qS, qZ]; rfl) (by kernel_rfl) (by kernel_rfl) (by kernel_rfl) (fun _ _ _ h => h) (Or.inl ⟨by rfl, ?_⟩) (by assumption) ?_
  rotate_left 1
  ·intro w hSw; (try dsimp only at hSw); go_simp; (first | done | with_reducible rfl)
  try simp only [Act.put, qI, qX, qY]
  refine wpAnyH_take (i := 3) (v := ?_) (by simp only [qA, qS, qZ]; rfl) (by kernel_rfl) (by kernel_rfl) (by kernel_rfl) (fun _ _ _ h => h) (Or.inl ⟨by rfl, ?_⟩) (by assumption) ?_
  rotate_left 1
  ·intro w hSw; (try dsimp only at hSw); go_simp; (first | done | with_reducible rfl)
  try simp only [Act.put, qI, qX, qY]
  refine wpAnyH_take (i := 4) (v := ?_) (by simp only [qA, qS, qZ]; rfl) (by kernel_rfl) (by kernel_rfl) (by kernel_rfl) (fun _ _ _ h => h) (Or.inl ⟨by rfl, ?_⟩) (by assumption) ?_
  rotate_left 1
  ·intro w hSw; (try dsimp only at hSw); go_simp; (first | done | with_reducible rfl)
  try simp only [Act.put, qI, qX, qY]
  refine wpAnyH_take (i := 5) (v := ?_) (by simp only [qA, qS, qZ]; rfl) (by kernel_rfl) (by kernel_rfl) (by kernel_rfl) (fun _ _ _ h => h) (Or.inl ⟨by rfl, ?_⟩) (by assumption) ?_
  rotate_left 1
  ·intro w hSw; (try dsimp only at hSw); go_simp; (first | done | with_reducible rfl)
  try simp only [Act.put, qI, qX, qY]
  refine wpAnyH_take (i := 6) (v := ?_) (by simp only [qA, qS, qZ]; rfl) (by kernel_rfl) (by kernel_rfl) (by kernel_rfl) (fun _ _ _ h => h) (Or.inl ⟨by rfl, ?_⟩) (by assumption) ?_
  rotate_left 1
  ·intro w hSw; (try dsimp only at hSw); go_simp; (first | done | with_reducible rfl)
  try simp only [Act.put, qI, qX, qY]
  refine wpAnyH_take (i := 7) (v := ?_) (by simp only [qA, qS, qZ]; rfl) (by kernel_rfl) (by kernel_rfl) (by kernel_rfl) (fun _ _ _ h => h) (Or.inl ⟨by rfl, ?_⟩) (by assumption) ?_
  rotate_left 1
  ·intro w hSw; (try dsimp only at hSw); go_simp; (first | done | with_reducible rfl)
  try simp only [Act.put, qI, qX, qY]
  refine wpAnyH_take (i := 8) (v := ?_) (by simp only [qA, qS, qZ]; rfl) (by kernel_rfl) (by kernel_rfl) (by kernel_rfl) (fun _ _ _ h => h) (Or.inl ⟨by rfl, ?_⟩) (by assumption) ?_
  rotate_left 1
  ·intro w hSw; (try dsimp only at hSw); go_simp; (first | done | with_reducible rfl)
  try simp only [Act.put, qI, qX, qY]
  refine wpAnyH_take (i := 10) (v := ?_) (by simp only [qA, qS, qZ]; rfl) (by kernel_rfl) (by kernel_rfl) (by kernel_rfl) (fun _ _ _ h => h) (Or.inl ⟨by rfl, ?_⟩) (by assumption) ?_
  rotate_left 1
  ·intro w hSw; (try dsimp only at hSw); go_simp; (first | done | with_reducible rfl)
  try simp only [Act.put, qI, qX, qY]
  refine wpAnyH_take (i := 11) (v := ?_) (by simp only [qA, qS, qZ]; rfl) (by kernel_rfl) (by kernel_rfl) (by kernel_rfl) (fun _ _ _ h => h) (Or.inl ⟨by rfl, ?_⟩) (by assumption) ?_
  rotate_left 1
  ·intro w hSw; (try dsimp only at hSw); go_simp; (first | done | with_reducible rfl)
  try simp only [Act.put, qI, qX, qY]
  refine wpAnyH_take (i := 12) (v := ?_) (by simp only [qA, qS, qZ]; rfl) (by kernel_rfl) (by kernel_rfl) (by kernel_rfl) (fun _ _ _ h => h) (Or.inl ⟨by rfl, ?_⟩) (by assumption) ?_
  rotate_left 1
  ·intro w hSw; (try dsimp only at hSw); go_simp; (first | done | with_reducible rfl)
  try simp only [Act.put, qI, qX, qY]
  refine wpAnyH_take (i := 13) (v := ?_) (by simp only [qA, qS, qZ]; rfl) (by kernel_rfl) (by kernel_rfl) (by kernel_rfl) (fun _ _ _ h => h) (Or.inl ⟨by rfl, ?_⟩) (by assumption) ?_
  rotate_left 1
  ·intro w hSw; (try dsimp only at hSw); go_simp; (first | done | with_reducible rfl)
  try simp only [Act.put, qI, qX, qY]
  refine wpAnyH_take (i := 14) (v := ?_) (by simp only [qA, qS, qZ]; rfl) (by kernel_rfl) (by kernel_rfl) (by kernel_rfl) (fun _ _ _ h => h) (Or.inl ⟨by rfl, ?_⟩) (by assumption) ?_
  rotate_left 1
  ·intro w hSw; (try dsimp only at hSw); go_simp; (first | done | with_reducible rfl)
  try simp only [Act.put, qI, qX, qY]
  refine wpAnyH_take (i := 15) (v := ?_) (by simp only [qA, qS, qZ]; rfl) (by kernel_rfl) (by kernel_rfl) (by kernel_rfl) (fun _ _ _ h => h) (Or.inl ⟨by rfl, ?_⟩) (by assumption) ?_
  rotate_left 1
  ·intro w hSw; (try dsimp only at hSw); go_simp; (first | done | with_reducible rfl)
  try simp only [Act.put, qI, qX, qY]
  refine wpAnyH_take (i := 16) (v := ?_) (by simp only [qA, qS, qZ]; rfl) (by kernel_rfl) (by kernel_rfl) (by kernel_rfl) (fun _ _ _ h => h) (Or.inl ⟨by rfl, ?_⟩) (by assumption) ?_
  rotate_left 1
  ·intro w hSw; (try dsimp only at hSw); go_simp; (first | done | with_reducible rfl)
  try simp only [Act.put, qI, qX, qY]
  refine wpAnyH_take (i := 17) (v := ?_) (by simp only [qA, qS, qZ]; rfl) (by kernel_rfl) (by kernel_rfl) (by kernel_rfl) (fun _ _ _ h => h) (Or.inl ⟨by rfl, ?_⟩) (by assumption) ?_
  rotate_left 1
  ·intro w hSw; (try dsimp only at hSw); go_simp; (first | done | with_reducible rfl)
  try simp only [Act.put, qI, qX, qY]
  refine wpAnyH_take (i := 18) (v := ?_) (by simp only [qA, qS, qZ]; rfl) (by kernel_rfl) (by kernel_rfl) (by kernel_rfl) (fun _ _ _ h => h) (Or.inl ⟨by rfl, ?_⟩) (by assumption) ?_
  rotate_left 1
  ·intro w hSw; (try dsimp only at hSw); go_simp; (first | done | with_reducible rfl)
  try simp only [Act.put, qI, qX, qY]
  refine wpAnyH_ready (rs := [9]) (by kernel_rfl) (by simp) ?_
  refine AllReadyH.cons (by simp only [qA, qS, qZ]; rfl) (fun K hK => ?_) AllReadyH.nil
  go_simp
  refine (HOW.out _ hx6).mono ?_
  rintro e w6 ⟨v6, rfl, hv6, hb6⟩
  have hy7 := below_from hy6 hb6
  have hx7 := below_from hx6 hb6
  have hb36 : Below w3.heap.size w3 w6 := below_from hb35 (below_from hd5 hb6)
  have HV6 := Lib.hid hv6
  have hz6 := hb6.size
  refine hK.out _ _ (HS2.out _ hy7) (fun _ => ?_)
  clear hK K hv6 hHeld
  try simp only [Act.put, qI, qX, qY]
  refine wpAnyH_ready (rs := [19]) (by kernel_rfl) (by simp) ?_
  refine AllReadyH.cons (by simp only [qA, qS, qZ]; rfl) (fun K hK => ?_) AllReadyH.nil
  refine step_append_R (by rfl) _ _ 40 40 (by rfl) rowCell eltCell X0.heap.size v6 (.slice ca2 0 0) (xs := l.cells.take p) (ys := m.cells.drop cc2) (news := (m.cells.drop cc2).flatMap encCel) (by rfl) (by rfl) HV6.out hz6 (HXX.out _ hx7) (flatCell _ _ _) HLL.out.1 ?_
  intro v7 w7 hv7 hb7 _ _
  rw [HLL.out.2.2.2] at hv7
  obtain ⟨a7, n7, c7, hv7e⟩ := slice_any hv7
  subst hv7e
  have hb67 : Below X0.heap.size X0 w7 := hb6.trans hb7
  have hb57 : Below w5.heap.size w5 w7 := below_from hd5 hb67
  have hb37 : Below w3.heap.size w3 w7 := below_from hb35 hb57
  have hy8 := below_from hy5 hb57
  have hx8 := below_from hx5 hb57
  have m7 := heap_below hb57 m5
  obtain ⟨r7, s7⟩ := blk m7
  have HV7 := Lib.hid hv7
  have hS7 := HS2.out _ hy8
  refine hK.out _ _ hS7 (fun hHeld => ?_)
  clear hK K hv7 hb7
  try simp only [Act.put, qI, qX, qY]
  refine wpAnyH_take (i := 20) (v := ?_) (by simp only [qA, qS, qZ]; rfl) (by kernel_rfl) (by kernel_rfl) (by kernel_rfl) (fun _ _ _ h => h) (Or.inl ⟨by rfl, ?_⟩) (by assumption) ?_
  rotate_left 1
  ·intro w hSw; (try dsimp only at hSw); go_simp; (first | done | with_reducible rfl)
  try simp only [Act.put, qI, qX, qY]
  refine wpAnyH_ready (rs := [21]) (by kernel_rfl) (by simp) ?_
  refine AllReadyH.cons (by simp only [qA, qS, qZ]; rfl) (fun K hK => ?_) AllReadyH.nil
  go_simp
  have hS8 : (fun w' => w'.cell? ⟨w.heap.size, 0, none⟩ = some (.int .i64 i) ∧ w'.cell? ⟨w.heap.size, 1, none⟩ = some (.int .i64 p) ∧ w'.cell? ⟨w.heap.size + 1, 0, none⟩ = some (.int .i64 j) ∧ w'.cell? ⟨w.heap.size + 1, 1, none⟩ = some (.int .i64 cc2) ∧ w'.cell? ⟨b1, o1 + i * 4 + 3, none⟩ = some (.slice ca l.cells.length cc) ∧ w'.cell? ⟨b1, o1 + j * 4 + 3, none⟩ = some (.slice ca2 m.cells.length cc2)) (w7.setCell ⟨w4.heap.size, 3, none⟩ (.slice a7 n7 c7)) := ⟨(setCell_block e1).trans hS7.1, (setCell_block e1).trans hS7.2.1, (setCell_block e2).trans hS7.2.2.1, (setCell_block e2).trans hS7.2.2.2.1, (setCell_block e3).trans hS7.2.2.2.2.1, (setCell_block e3).trans hS7.2.2.2.2.2⟩
  refine hK.out _ _ hS8 (fun _ => ?_)
  refine wpAnyH_done (by kernel_rfl) ?_ _
  refine NoPanic.normal ?_
  clear hK K hHeld hS7
  have hzX := hd5.size
  have hz57 := hb57.size
  have hb47 : Below w4.heap.size w4 w7 := below_from hb45 hb57
  have hm5 := (Array.getElem?_eq_some_iff.1 m5).1
  have HD8 : Hid (∀ u ob, DocR true ((w7.setCell ⟨w4.heap.size, 3, none⟩ u).alloc ob) (fun b => w2.heap.size ≤ b) v3 (d.take i)) := Lib.hid fun u ob => HV3.out.stable (rdLin_stable true) (((Keeps.all hb37).set (fun hh => by have hh := hh.2; have hh : w4.heap.size < w3.heap.size := hh; omega) _).alloc _) (fun _ h _ => h.1)
  have HZ8 : Hid (∀ u ob, w2.heap.size ≤ ((w7.setCell ⟨w4.heap.size, 3, none⟩ u).alloc ob).heap.size) := Lib.hid fun u ob => by simp; omega
  have HY8 : Hid (∀ u ob, Below w2.heap.size w2 ((w7.setCell ⟨w4.heap.size, 3, none⟩ u).alloc ob)) := Lib.hid fun u ob => ((below_from hb3 hb37).setCell (by show w2.heap.size ≤ w4.heap.size; omega) _).alloc (by simp; omega) _
  have HN8 : Hid (∀ ob, NewsR 4 (rdLin true) ((w7.setCell ⟨w4.heap.size, 3, none⟩ (.slice a7 n7 c7)).alloc ob) (fun b => w2.heap.size ≤ b) [.int .i64 l.quote, .slice a4 l.lists.length c4, .int .i64 l.kind, .slice a7 n7 c7] [{ l with cells := L1 }]) := Lib.hid fun ob =>
   NewsR.one rfl ⟨_, _, rfl, HI4.out.stable (rdOf_stable _) (((Keeps.all hb47).set (fun hh => (Nat.lt_irrefl _) hh.2) _).alloc _) (fun b h _ => by have := h.1; omega), HV7.out.stable (rdOf_stable _) (((Keeps.refl _ _).set (fun hh => by have hh : X0.heap.size ≤ w4.heap.size := hh; omega) _).alloc _) (fun b h _ => by have h : X0.heap.size ≤ b := h; omega)⟩
  have HW2 := Lib.hid hx2
  clear hb37 hb57 hb47 hb67 hb36 hy8 hx8 hx7 hy7 hx6 hy6
  go_wp2_with (first
   | (at_builtin; refine wpList_append_R _ rfl _ _ 22 22 rfl rowLine eltLine w2.heap.size v3 _ (xs := d.take i) (ys := [{ l with cells := L1 }]) (news := [.int .i64 l.quote, .slice a4 l.lists.length c4, .int .i64 l.kind, .slice a7 n7 c7]) rfl rfl               (HD8.out _ _) (HZ8.out _ _) (src_at rowLine (w7.setCell ⟨w4.heap.size, 3, none⟩ (.slice a7 n7 c7)) _ rfl (oneV_line _ _ _ _ _ _ _) 1 (by simp)) (HN8.out _) HLL.out.2.1 ?_; intro v9 w9 hR9 hB9 _ _; have HR9 := Lib.hid hR9; have hb29 := (HY8.out _ _).trans hB9; have hy9 := below_from hb2 hb29; have hx9 := below_from HW2.out hb29; have hz9 := hb29.size; obtain ⟨t3, y3⟩ := blk (HB.out _ hy9).1; obtain ⟨t4, y4⟩ := blk (HB.out _ hy9).2; clear hR9 hB9)
   | (go_at_call 102; refine (HO2.out _ hx9).mono ?_; rintro e wa ⟨vA, rfl, hva, hba⟩; have hva2 := SliceR.stable (rdLin_stable true) hva (Keeps.refl _ _) (S' := fun b => w2.heap.size ≤ b) (fun b h _ => Nat.le_trans hz9 h); obtain ⟨newsA, hsA, hnA⟩ := SliceR.src rowLine eltLine.pos eltLine.ones hva2; have HRA := Lib.hid (SliceR.below (rdLin_stable true) HR9.out hba); have HSA := Lib.hid hsA; have HNA := Lib.hid hnA; have hb2a := below_from hb29 hba; have hza := hb2a.size; clear hva hba hva2 hsA hnA)
   | (at_builtin; refine wpList_append_R _ rfl _ _ 22 22 rfl rowLine eltLine w2.heap.size v9 vA (xs := d.take i ++ [{ l with cells := L1 }]) (ys := d.drop (j + 1)) (news := newsA) rfl rfl HRA.out hza HSA.out HNA.out HLL.out.2.2.1 ?_; intro vB wB hRB hBB _ _; have HRB := Lib.hid hRB; have HBB := Lib.hid (hb2a.trans hBB); clear hRB hBB))
  go_ret2
  unfold DocSaid
  rw [HR.out]
  exact ⟨_, rfl, SliceR.stable (rdLin_stable true) HRB.out (Keeps.refl _ _) (fun b h _ => Nat.le_trans HW2.out.size h), HW2.out.trans (HBB.out.mono HW2.out.size)⟩
 ·rw [Nat.sub_self, show m.cells.length - cc2 = 0 by omega] at HXX
  go_enter Tryz.func111, Tryz.ntmps111
  go_wp2_with (first
   | (go_at_call 174; refine HC1.out.mono ?_; rintro e w2 ⟨rfl, hb2⟩; have hx2 := H1.out.trans (hb2.mono hs1); obtain ⟨q1, g1⟩ := blk (HB.out _ hb2).1; obtain ⟨q2, g2⟩ := blk (HB.out _ hb2).2)
   | (go_at_call 102; refine (HO1.out _ hx2).mono ?_; rintro e w3 ⟨v3, rfl, hv3, hb3⟩; have hy3 := below_from hb2 hb3; have hx3 := below_from hx2 hb3; have HV3 := Lib.hid (SliceR.bounded (rdLin_stable true) hv3); obtain ⟨q3, g3⟩ := blk (HB.out _ hy3).1; obtain ⟨q4, g4⟩ := blk (HB.out _ hy3).2; obtain ⟨_, c0, c1, c2, c3, _, _⟩ := HAI.out.below hx3; clear hv3)
   | (go_at_call 182; refine (HFM.out _ hx3).mono ?_; rintro e w4 ⟨a', rfl, ha4, hb4⟩; obtain ⟨a4, c4, rfl⟩ := ha4.slice; have HI4 := Lib.hid (SliceR.bounded (rdOf_stable _) ha4); clear ha4))
  obtain ⟨w5, hw5⟩ : ∃ X, w4.alloc (.cells #[.int .i64 l.quote, .slice a4 l.lists.length c4, .int .i64 l.kind, .slice none 0 0] 42) = X := ⟨_, rfl⟩
  rw [hw5]
  have hb45 : Below w4.heap.size w4 w5 := hw5 ▸ (Below.refl _ _).alloc (Nat.le_refl _) _
  have m5 : w5.heap[w4.heap.size]? = some (.cells #[.int .i64 l.quote, .slice a4 l.lists.length c4, .int .i64 l.kind, .slice none 0 0] 42) := hw5 ▸ heap_new _ _ rfl
  have hb35 : Below w3.heap.size w3 w5 := below_from hb4 hb45
  have hy5 := below_from hy3 hb35
  have hx5 := below_from hx3 hb35
  have hz12 := hb2.size
  have hz23 := hb3.size
  have hz34 := hb4.size
  have hz45 := hb45.size
  have e1 : w4.heap.size ≠ w.heap.size := by omega
  have e2 : w4.heap.size ≠ w.heap.size + 1 := by omega
  have e3 : w4.heap.size ≠ b1 := by omega
  have HS2 : Hid (∀ Z, Below W1.heap.size W1 Z → (fun w' => w'.cell? ⟨w.heap.size, 0, none⟩ = some (.int .i64 i) ∧ w'.cell? ⟨w.heap.size, 1, none⟩ = some (.int .i64 p) ∧ w'.cell? ⟨w.heap.size + 1, 0, none⟩ = some (.int .i64 j) ∧ w'.cell? ⟨w.heap.size + 1, 1, none⟩ = some (.int .i64 cc2) ∧ w'.cell? ⟨b1, o1 + i * 4 + 3, none⟩ = some (.slice ca l.cells.length cc) ∧ w'.cell? ⟨b1, o1 + j * 4 + 3, none⟩ = some (.slice ca2 m.cells.length cc2)) Z) := Lib.hid fun Z hZ => by
   have h1 := (blk (HB.out Z hZ).1).1
   have h2 := (blk (HB.out Z hZ).2).1
   exact ⟨h1 0, h1 1, h2 0, h2 1, (HAI.out.below (H1.out.trans (hZ.mono hs1))).cells, (HAJ.out.below (H1.out.trans (hZ.mono hs1))).cells⟩
  clear q1 g1 q2 g2 q3 g3 q4 g4 p1 f1 p2 f2 hW1 c0 c1 c2 c3 hw5
  refine wp_region_noPanic ?_
  refine wp_region_held_drew (S := (fun w' => w'.cell? ⟨w.heap.size, 0, none⟩ = some (.int .i64 i) ∧ w'.cell? ⟨w.heap.size, 1, none⟩ = some (.int .i64 p) ∧ w'.cell? ⟨w.heap.size + 1, 0, none⟩ = some (.int .i64 j) ∧ w'.cell? ⟨w.heap.size + 1, 1, none⟩ = some (.int .i64 cc2) ∧ w'.cell? ⟨b1, o1 + i * 4 + 3, none⟩ = some (.slice ca l.cells.length cc) ∧ w'.cell? ⟨b1, o1 + j * 4 + 3, none⟩ = some (.slice ca2 m.cells.length cc2))) (by kernel_rfl) (HS2.out _ hy5.drew) (fun hHeld => ?_)
  obtain ⟨X0, hX0⟩ : ∃ X, w5.drew = X := ⟨_, rfl⟩
  have hd5 : Below w5.heap.size w5 X0 := hX0 ▸ (Below.refl _ _).drew
  rw [hX0] at hHeld ⊢
  have hy6 := below_from hy5 hd5
  have hx6 := below_from hx5 hd5
  clear hX0
  refine wpAnyH_take (i := 0) (v := ?_) (by simp only [qA, qZ]; rfl) (by kernel_rfl) (by kernel_rfl) (by kernel_rfl) (fun _ _ _ h => h) (Or.inl ⟨by rfl, ?_⟩) (by assumption) ?_
  rotate_left 1
  ·intro w hSw; (try dsimp only at hSw); go_simp; (first | done | with_reducible rfl)
  try simp only [Act.put, qI, qX, qY]
  refine wpAnyH_take (i := 1) (v := ?_) (by simp only [qA, qS, qZ]; rfl) (by kernel_rfl) (by kernel_rfl) (by kernel_rfl) (fun _ _ _ h => h) (Or.inl ⟨by rfl, ?_⟩) (by assumption) ?_
  rotate_left 1
  ·intro w hSw; (try dsimp only at hSw); go_simp; (first | done | with_reducible rfl)
  try simp only [Act.put, qI, qX, qY]
  refine wpAnyH_take (i := 2) (v := ?_) (by simp only [qA, qS, qZ]; rfl) (by kernel_rfl) (by kernel_rfl) (by kernel_rfl) (fun _ _ _ h => h) (Or.inl ⟨by rfl, ?_⟩) (by assumption) ?_
  rotate_left 1
  ·intro w hSw; (try dsimp only at hSw); go_simp; (first | done | with_reducible rfl)
  try simp only [Act.put, qI, qX, qY]
  refine wpAnyH_take (i := 3) (v := ?_) (by simp only [qA, qS, qZ]; rfl) (by kernel_rfl) (by kernel_rfl) (by kernel_rfl) (fun _ _ _ h => h) (Or.inl ⟨by rfl, ?_⟩) (by assumption) ?_
  rotate_left 1
  ·intro w hSw; (try dsimp only at hSw); go_simp; (first | done | with_reducible rfl)
  try simp only [Act.put, qI, qX, qY]
  refine wpAnyH_take (i := 4) (v := ?_) (by simp only [qA, qS, qZ]; rfl) (by kernel_rfl) (by kernel_rfl) (by kernel_rfl) (fun _ _ _ h => h) (Or.inl ⟨by rfl, ?_⟩) (by assumption) ?_
  rotate_left 1
  ·intro w hSw; (try dsimp only at hSw); go_simp; (first | done | with_reducible rfl)
  try simp only [Act.put, qI, qX, qY]
  refine wpAnyH_take (i := 5) (v := ?_) (by simp only [qA, qS, qZ]; rfl) (by kernel_rfl) (by kernel_rfl) (by kernel_rfl) (fun _ _ _ h => h) (Or.inl ⟨by rfl, ?_⟩) (by assumption) ?_
  rotate_left 1
  ·intro w hSw; (try dsimp only at hSw); go_simp; (first | done | with_reducible rfl)
  try simp only [Act.put, qI, qX, qY]
  refine wpAnyH_take (i := 6) (v := ?_) (by simp only [qA, qS, qZ]; rfl) (by kernel_rfl) (by kernel_rfl) (by kernel_rfl) (fun _ _ _ h => h) (Or.inl ⟨by rfl, ?_⟩) (by assumption) ?_
  rotate_left 1
  ·intro w hSw; (try dsimp only at hSw); go_simp; (first | done | with_reducible rfl)
  try simp only [Act.put, qI, qX, qY]
  refine wpAnyH_take (i := 7) (v := ?_) (by simp only [qA, qS, qZ]; rfl) (by kernel_rfl) (by kernel_rfl) (by kernel_rfl) (fun _ _ _ h => h) (Or.inl ⟨by rfl, ?_⟩) (by assumption) ?_
  rotate_left 1
  ·intro w hSw; (try dsimp only at hSw); go_simp; (first | done | with_reducible rfl)
  try simp only [Act.put, qI, qX, qY]
  refine wpAnyH_take (i := 8) (v := ?_) (by simp only [qA, qS, qZ]; rfl) (by kernel_rfl) (by kernel_rfl) (by kernel_rfl) (fun _ _ _ h => h) (Or.inl ⟨by rfl, ?_⟩) (by assumption) ?_
  rotate_left 1
  ·intro w hSw; (try dsimp only at hSw); go_simp; (first | done | with_reducible rfl)
  try simp only [Act.put, qI, qX, qY]
  refine wpAnyH_take (i := 10) (v := ?_) (by simp only [qA, qS, qZ]; rfl) (by kernel_rfl) (by kernel_rfl) (by kernel_rfl) (fun _ _ _ h => h) (Or.inl ⟨by rfl, ?_⟩) (by assumption) ?_
  rotate_left 1
  ·intro w hSw; (try dsimp only at hSw); go_simp; (first | done | with_reducible rfl)
  try simp only [Act.put, qI, qX, qY]
  refine wpAnyH_take (i := 11) (v := ?_) (by simp only [qA, qS, qZ]; rfl) (by kernel_rfl) (by kernel_rfl) (by kernel_rfl) (fun _ _ _ h => h) (Or.inl ⟨by rfl, ?_⟩) (by assumption) ?_
  rotate_left 1
  ·intro w hSw; (try dsimp only at hSw); go_simp; (first | done | with_reducible rfl)
  try simp only [Act.put, qI, qX, qY]
  refine wpAnyH_take (i := 12) (v := ?_) (by simp only [qA, qS, qZ]; rfl) (by kernel_rfl) (by kernel_rfl) (by kernel_rfl) (fun _ _ _ h => h) (Or.inl ⟨by rfl, ?_⟩) (by assumption) ?_
  rotate_left 1
  ·intro w hSw; (try dsimp only at hSw); go_simp; (first | done | with_reducible rfl)
  try simp only [Act.put, qI, qX, qY]
  refine wpAnyH_take (i := 13) (v := ?_) (by simp only [qA, qS, qZ]; rfl) (by kernel_rfl) (by kernel_rfl) (by kernel_rfl) (fun _ _ _ h => h) (Or.inl ⟨by rfl, ?_⟩) (by assumption) ?_
  rotate_left 1
  ·intro w hSw; (try dsimp only at hSw); go_simp; (first | done | with_reducible rfl)
  try simp only [Act.put, qI, qX, qY]
  refine wpAnyH_take (i := 14) (v := ?_) (by simp only [qA, qS, qZ]; rfl) (by kernel_rfl) (by kernel_rfl) (by kernel_rfl) (fun _ _ _ h => h) (Or.inl ⟨by rfl, ?_⟩) (by assumption) ?_
  rotate_left 1
  ·intro w hSw; (try dsimp only at hSw); go_simp; (first | done | with_reducible rfl)
  try simp only [Act.put, qI, qX, qY]
  refine wpAnyH_take (i := 15) (v := ?_) (by simp only [qA, qS, qZ]; rfl) (by kernel_rfl) (by kernel_rfl) (by kernel_rfl) (fun _ _ _ h => h) (Or.inl ⟨by rfl, ?_⟩) (by assumption) ?_
  rotate_left 1
  ·intro w hSw; (try dsimp only at hSw); go_simp; (first | done | with_reducible rfl)
  try simp only [Act.put, qI, qX, qY]
  refine wpAnyH_take (i := 16) (v := ?_) (by simp only [qA, qS, qZ]; rfl) (by kernel_rfl) (by kernel_rfl) (by kernel_rfl) (fun _ _ _ h => h) (Or.inl ⟨by rfl, ?_⟩) (by assumption) ?_
  rotate_left 1
  ·intro w hSw; (try dsimp only at hSw); go_simp; (first | done | with_reducible rfl)
  try simp only [Act.put, qI, qX, qY]
  refine wpAnyH_take (i := 17) (v := ?_) (by simp only [qA, qS, qZ]; rfl) (by kernel_rfl) (by kernel_rfl) (by kernel_rfl) (fun _ _ _ h => h) (Or.inl ⟨by rfl, ?_⟩) (by assumption) ?_
  rotate_left 1
  ·intro w hSw; (try dsimp only at hSw); go_simp; (first | done | with_reducible rfl)
  try simp only [Act.put, qI, qX, qY]
  refine wpAnyH_take (i := 18) (v := ?_) (by simp only [qA, qS, qZ]; rfl) (by kernel_rfl) (by kernel_rfl) (by kernel_rfl) (fun _ _ _ h => h) (Or.inl ⟨by rfl, ?_⟩) (by assumption) ?_
  rotate_left 1
  ·intro w hSw; (try dsimp only at hSw); go_simp; (first | done | with_reducible rfl)
  try simp only [Act.put, qI, qX, qY]
  refine wpAnyH_ready (rs := [9]) (by kernel_rfl) (by simp) ?_
  refine AllReadyH.cons (by simp only [qA, qS, qZ]; rfl) (fun K hK => ?_) AllReadyH.nil
  go_simp
  refine (HOW.out _ hx6).mono ?_
  rintro e w6 ⟨v6, rfl, hv6, hb6⟩
  have hy7 := below_from hy6 hb6
  have hx7 := below_from hx6 hb6
  have hb36 : Below w3.heap.size w3 w6 := below_from hb35 (below_from hd5 hb6)
  have HV6 := Lib.hid hv6
  have hz6 := hb6.size
  refine hK.out _ _ (HS2.out _ hy7) (fun _ => ?_)
  clear hK K hv6 hHeld
  try simp only [Act.put, qI, qX, qY]
  refine wpAnyH_ready (rs := [19]) (by kernel_rfl) (by simp) ?_
  refine AllReadyH.cons (by simp only [qA, qS, qZ]; rfl) (fun K hK => ?_) AllReadyH.nil
  refine step_append_R (by rfl) _ _ 40 40 (by rfl) rowCell eltCell X0.heap.size v6 (.slice ca2 0 0) (xs := l.cells.take p) (ys := m.cells.drop cc2) (news := (m.cells.drop cc2).flatMap encCel) (by rfl) (by rfl) HV6.out hz6 (HXX.out _ hx7) (flatCell _ _ _) HLL.out.1 ?_
  intro v7 w7 hv7 hb7 _ _
  rw [HLL.out.2.2.2] at hv7
  obtain ⟨a7, n7, c7, hv7e⟩ := slice_any hv7
  subst hv7e
  have hb67 : Below X0.heap.size X0 w7 := hb6.trans hb7
  have hb57 : Below w5.heap.size w5 w7 := below_from hd5 hb67
  have hb37 : Below w3.heap.size w3 w7 := below_from hb35 hb57
  have hy8 := below_from hy5 hb57
  have hx8 := below_from hx5 hb57
  have m7 := heap_below hb57 m5
  obtain ⟨r7, s7⟩ := blk m7
  have HV7 := Lib.hid hv7
  have hS7 := HS2.out _ hy8
  refine hK.out _ _ hS7 (fun hHeld => ?_)
  clear hK K hv7 hb7
  try simp only [Act.put, qI, qX, qY]
  refine wpAnyH_take (i := 20) (v := ?_) (by simp only [qA, qS, qZ]; rfl) (by kernel_rfl) (by kernel_rfl) (by kernel_rfl) (fun _ _ _ h => h) (Or.inl ⟨by rfl, ?_⟩) (by assumption) ?_
  rotate_left 1
  ·intro w hSw; (try dsimp only at hSw); go_simp; (first | done | with_reducible rfl)
  try simp only [Act.put, qI, qX, qY]
  refine wpAnyH_ready (rs := [21]) (by kernel_rfl) (by simp) ?_
  refine AllReadyH.cons (by simp only [qA, qS, qZ]; rfl) (fun K hK => ?_) AllReadyH.nil
  go_simp
  have hS8 : (fun w' => w'.cell? ⟨w.heap.size, 0, none⟩ = some (.int .i64 i) ∧ w'.cell? ⟨w.heap.size, 1, none⟩ = some (.int .i64 p) ∧ w'.cell? ⟨w.heap.size + 1, 0, none⟩ = some (.int .i64 j) ∧ w'.cell? ⟨w.heap.size + 1, 1, none⟩ = some (.int .i64 cc2) ∧ w'.cell? ⟨b1, o1 + i * 4 + 3, none⟩ = some (.slice ca l.cells.length cc) ∧ w'.cell? ⟨b1, o1 + j * 4 + 3, none⟩ = some (.slice ca2 m.cells.length cc2)) (w7.setCell ⟨w4.heap.size, 3, none⟩ (.slice a7 n7 c7)) := ⟨(setCell_block e1).trans hS7.1, (setCell_block e1).trans hS7.2.1, (setCell_block e2).trans hS7.2.2.1, (setCell_block e2).trans hS7.2.2.2.1, (setCell_block e3).trans hS7.2.2.2.2.1, (setCell_block e3).trans hS7.2.2.2.2.2⟩
  refine hK.out _ _ hS8 (fun _ => ?_)
  refine wpAnyH_done (by kernel_rfl) ?_ _
  refine NoPanic.normal ?_
  clear hK K hHeld hS7
  have hzX := hd5.size
  have hz57 := hb57.size
  have hb47 : Below w4.heap.size w4 w7 := below_from hb45 hb57
  have hm5 := (Array.getElem?_eq_some_iff.1 m5).1
  have HD8 : Hid (∀ u ob, DocR true ((w7.setCell ⟨w4.heap.size, 3, none⟩ u).alloc ob) (fun b => w2.heap.size ≤ b) v3 (d.take i)) := Lib.hid fun u ob => HV3.out.stable (rdLin_stable true) (((Keeps.all hb37).set (fun hh => by have hh := hh.2; have hh : w4.heap.size < w3.heap.size := hh; omega) _).alloc _) (fun _ h _ => h.1)
  have HZ8 : Hid (∀ u ob, w2.heap.size ≤ ((w7.setCell ⟨w4.heap.size, 3, none⟩ u).alloc ob).heap.size) := Lib.hid fun u ob => by simp; omega
  have HY8 : Hid (∀ u ob, Below w2.heap.size w2 ((w7.setCell ⟨w4.heap.size, 3, none⟩ u).alloc ob)) := Lib.hid fun u ob => ((below_from hb3 hb37).setCell (by show w2.heap.size ≤ w4.heap.size; omega) _).alloc (by simp; omega) _
  have HN8 : Hid (∀ ob, NewsR 4 (rdLin true) ((w7.setCell ⟨w4.heap.size, 3, none⟩ (.slice a7 n7 c7)).alloc ob) (fun b => w2.heap.size ≤ b) [.int .i64 l.quote, .slice a4 l.lists.length c4, .int .i64 l.kind, .slice a7 n7 c7] [{ l with cells := L1 }]) := Lib.hid fun ob =>
   NewsR.one rfl ⟨_, _, rfl, HI4.out.stable (rdOf_stable _) (((Keeps.all hb47).set (fun hh => (Nat.lt_irrefl _) hh.2) _).alloc _) (fun b h _ => by have := h.1; omega), HV7.out.stable (rdOf_stable _) (((Keeps.refl _ _).set (fun hh => by have hh : X0.heap.size ≤ w4.heap.size := hh; omega) _).alloc _) (fun b h _ => by have h : X0.heap.size ≤ b := h; omega)⟩
  have HW2 := Lib.hid hx2
  clear hb37 hb57 hb47 hb67 hb36 hy8 hx8 hx7 hy7 hx6 hy6
  go_wp2_with (first
   | (at_builtin; refine wpList_append_R _ rfl _ _ 22 22 rfl rowLine eltLine w2.heap.size v3 _ (xs := d.take i) (ys := [{ l with cells := L1 }]) (news := [.int .i64 l.quote, .slice a4 l.lists.length c4, .int .i64 l.kind, .slice a7 n7 c7]) rfl rfl               (HD8.out _ _) (HZ8.out _ _) (src_at rowLine (w7.setCell ⟨w4.heap.size, 3, none⟩ (.slice a7 n7 c7)) _ rfl (oneV_line _ _ _ _ _ _ _) 1 (by simp)) (HN8.out _) HLL.out.2.1 ?_; intro v9 w9 hR9 hB9 _ _; have HR9 := Lib.hid hR9; have hb29 := (HY8.out _ _).trans hB9; have hy9 := below_from hb2 hb29; have hx9 := below_from HW2.out hb29; have hz9 := hb29.size; obtain ⟨t3, y3⟩ := blk (HB.out _ hy9).1; obtain ⟨t4, y4⟩ := blk (HB.out _ hy9).2; clear hR9 hB9)
   | (go_at_call 102; refine (HO2.out _ hx9).mono ?_; rintro e wa ⟨vA, rfl, hva, hba⟩; have hva2 := SliceR.stable (rdLin_stable true) hva (Keeps.refl _ _) (S' := fun b => w2.heap.size ≤ b) (fun b h _ => Nat.le_trans hz9 h); obtain ⟨newsA, hsA, hnA⟩ := SliceR.src rowLine eltLine.pos eltLine.ones hva2; have HRA := Lib.hid (SliceR.below (rdLin_stable true) HR9.out hba); have HSA := Lib.hid hsA; have HNA := Lib.hid hnA; have hb2a := below_from hb29 hba; have hza := hb2a.size; clear hva hba hva2 hsA hnA)
   | (at_builtin; refine wpList_append_R _ rfl _ _ 22 22 rfl rowLine eltLine w2.heap.size v9 vA (xs := d.take i ++ [{ l with cells := L1 }]) (ys := d.drop (j + 1)) (news := newsA) rfl rfl HRA.out hza HSA.out HNA.out HLL.out.2.2.1 ?_; intro vB wB hRB hBB _ _; have HRB := Lib.hid hRB; have HBB := Lib.hid (hb2a.trans hBB); clear hRB hBB))
  go_ret2
  unfold DocSaid
  rw [HR.out]
  exact ⟨_, rfl, SliceR.stable (rdLin_stable true) HRB.out (Keeps.refl _ _) (fun b h _ => Nat.le_trans HW2.out.size h), HW2.out.trans (HBB.out.mono HW2.out.size)⟩
 ·cases hdq; rw [Nat.sub_self, show d.length - (j + 1) = 0 by omega] at HO2
  go_enter Tryz.func111, Tryz.ntmps111
  go_wp2_with (first
   | (go_at_call 174; refine HC1.out.mono ?_; rintro e w2 ⟨rfl, hb2⟩; have hx2 := H1.out.trans (hb2.mono hs1); obtain ⟨q1, g1⟩ := blk (HB.out _ hb2).1; obtain ⟨q2, g2⟩ := blk (HB.out _ hb2).2)
   | (go_at_call 102; refine (HO1.out _ hx2).mono ?_; rintro e w3 ⟨v3, rfl, hv3, hb3⟩; have hy3 := below_from hb2 hb3; have hx3 := below_from hx2 hb3; have HV3 := Lib.hid (SliceR.bounded (rdLin_stable true) hv3); obtain ⟨q3, g3⟩ := blk (HB.out _ hy3).1; obtain ⟨q4, g4⟩ := blk (HB.out _ hy3).2; obtain ⟨_, c0, c1, c2, c3, _, _⟩ := HAI.out.below hx3; clear hv3)
   | (go_at_call 182; refine (HFM.out _ hx3).mono ?_; rintro e w4 ⟨a', rfl, ha4, hb4⟩; obtain ⟨a4, c4, rfl⟩ := ha4.slice; have HI4 := Lib.hid (SliceR.bounded (rdOf_stable _) ha4); clear ha4))
  obtain ⟨w5, hw5⟩ : ∃ X, w4.alloc (.cells #[.int .i64 l.quote, .slice a4 l.lists.length c4, .int .i64 l.kind, .slice none 0 0] 42) = X := ⟨_, rfl⟩
  rw [hw5]
  have hb45 : Below w4.heap.size w4 w5 := hw5 ▸ (Below.refl _ _).alloc (Nat.le_refl _) _
  have m5 : w5.heap[w4.heap.size]? = some (.cells #[.int .i64 l.quote, .slice a4 l.lists.length c4, .int .i64 l.kind, .slice none 0 0] 42) := hw5 ▸ heap_new _ _ rfl
  have hb35 : Below w3.heap.size w3 w5 := below_from hb4 hb45
  have hy5 := below_from hy3 hb35
  have hx5 := below_from hx3 hb35
  have hz12 := hb2.size
  have hz23 := hb3.size
  have hz34 := hb4.size
  have hz45 := hb45.size
  have e1 : w4.heap.size ≠ w.heap.size := by omega
  have e2 : w4.heap.size ≠ w.heap.size + 1 := by omega
  have e3 : w4.heap.size ≠ b1 := by omega
  have HS2 : Hid (∀ Z, Below W1.heap.size W1 Z → (fun w' => w'.cell? ⟨w.heap.size, 0, none⟩ = some (.int .i64 i) ∧ w'.cell? ⟨w.heap.size, 1, none⟩ = some (.int .i64 p) ∧ w'.cell? ⟨w.heap.size + 1, 0, none⟩ = some (.int .i64 j) ∧ w'.cell? ⟨w.heap.size + 1, 1, none⟩ = some (.int .i64 q) ∧ w'.cell? ⟨b1, o1 + i * 4 + 3, none⟩ = some (.slice ca l.cells.length cc) ∧ w'.cell? ⟨b1, o1 + j * 4 + 3, none⟩ = some (.slice ca2 m.cells.length cc2)) Z) := Lib.hid fun Z hZ => by
   have h1 := (blk (HB.out Z hZ).1).1
   have h2 := (blk (HB.out Z hZ).2).1
   exact ⟨h1 0, h1 1, h2 0, h2 1, (HAI.out.below (H1.out.trans (hZ.mono hs1))).cells, (HAJ.out.below (H1.out.trans (hZ.mono hs1))).cells⟩
  clear q1 g1 q2 g2 q3 g3 q4 g4 p1 f1 p2 f2 hW1 c0 c1 c2 c3 hw5
  refine wp_region_noPanic ?_
  refine wp_region_held_drew (S := (fun w' => w'.cell? ⟨w.heap.size, 0, none⟩ = some (.int .i64 i) ∧ w'.cell? ⟨w.heap.size, 1, none⟩ = some (.int .i64 p) ∧ w'.cell? ⟨w.heap.size + 1, 0, none⟩ = some (.int .i64 j) ∧ w'.cell? ⟨w.heap.size + 1, 1, none⟩ = some (.int .i64 q) ∧ w'.cell? ⟨b1, o1 + i * 4 + 3, none⟩ = some (.slice ca l.cells.length cc) ∧ w'.cell? ⟨b1, o1 + j * 4 + 3, none⟩ = some (.slice ca2 m.cells.length cc2))) (by kernel_rfl) (HS2.out _ hy5.drew) (fun hHeld => ?_)
  obtain ⟨X0, hX0⟩ : ∃ X, w5.drew = X := ⟨_, rfl⟩
  have hd5 : Below w5.heap.size w5 X0 := hX0 ▸ (Below.refl _ _).drew
  rw [hX0] at hHeld ⊢
  have hy6 := below_from hy5 hd5
  have hx6 := below_from hx5 hd5
  clear hX0
  refine wpAnyH_take (i := 0) (v := ?_) (by simp only [qA, qZ]; rfl) (by kernel_rfl) (by kernel_rfl) (by kernel_rfl) (fun _ _ _ h => h) (Or.inl ⟨by rfl, ?_⟩) (by assumption) ?_
  rotate_left 1
  ·intro w hSw; (try dsimp only at hSw); go_simp; (first | done | with_reducible rfl)
  try simp only [Act.put, qI, qX, qY]
  refine wpAnyH_take (i := 1) (v := ?_) (by simp only [qA, qS, qZ]; rfl) (by kernel_rfl) (by kernel_rfl) (by kernel_rfl) (fun _ _ _ h => h) (Or.inl ⟨by rfl, ?_⟩) (by assumption) ?_
  rotate_left 1
  ·intro w hSw; (try dsimp only at hSw); go_simp; (first | done | with_reducible rfl)
  try simp only [Act.put, qI, qX, qY]
  refine wpAnyH_take (i := 2) (v := ?_) (by simp only [qA, qS, qZ]; rfl) (by kernel_rfl) (by kernel_rfl) (by kernel_rfl) (fun _ _ _ h => h) (Or.inl ⟨by rfl, ?_⟩) (by assumption) ?_
  rotate_left 1
  ·intro w hSw; (try dsimp only at hSw); go_simp; (first | done | with_reducible rfl)
  try simp only [Act.put, qI, qX, qY]
  refine wpAnyH_take (i := 3) (v := ?_) (by simp only [qA, qS, qZ]; rfl) (by kernel_rfl) (by kernel_rfl) (by kernel_rfl) (fun _ _ _ h => h) (Or.inl ⟨by rfl, ?_⟩) (by assumption) ?_
  rotate_left 1
  ·intro w hSw; (try dsimp only at hSw); go_simp; (first | done | with_reducible rfl)
  try simp only [Act.put, qI, qX, qY]
  refine wpAnyH_take (i := 4) (v := ?_) (by simp only [qA, qS, qZ]; rfl) (by kernel_rfl) (by kernel_rfl) (by kernel_rfl) (fun _ _ _ h => h) (Or.inl ⟨by rfl, ?_⟩) (by assumption) ?_
  rotate_left 1
  ·intro w hSw; (try dsimp only at hSw); go_simp; (first | done | with_reducible rfl)
  try simp only [Act.put, qI, qX, qY]
  refine wpAnyH_take (i := 5) (v := ?_) (by simp only [qA, qS, qZ]; rfl) (by kernel_rfl) (by kernel_rfl) (by kernel_rfl) (fun _ _ _ h => h) (Or.inl ⟨by rfl, ?_⟩) (by assumption) ?_
  rotate_left 1
  ·intro w hSw; (try dsimp only at hSw); go_simp; (first | done | with_reducible rfl)
  try simp only [Act.put, qI, qX, qY]
  refine wpAnyH_take (i := 6) (v := ?_) (by simp only [qA, qS, qZ]; rfl) (by kernel_rfl) (by kernel_rfl) (by kernel_rfl) (fun _ _ _ h => h) (Or.inl ⟨by rfl, ?_⟩) (by assumption) ?_
  rotate_left 1
  ·intro w hSw; (try dsimp only at hSw); go_simp; (first | done | with_reducible rfl)
  try simp only [Act.put, qI, qX, qY]
  refine wpAnyH_take (i := 7) (v := ?_) (by simp only [qA, qS, qZ]; rfl) (by kernel_rfl) (by kernel_rfl) (by kernel_rfl) (fun _ _ _ h => h) (Or.inl ⟨by rfl, ?_⟩) (by assumption) ?_
  rotate_left 1
  ·intro w hSw; (try dsimp only at hSw); go_simp; (first | done | with_reducible rfl)
  try simp only [Act.put, qI, qX, qY]
  refine wpAnyH_take (i := 8) (v := ?_) (by simp only [qA, qS, qZ]; rfl) (by kernel_rfl) (by kernel_rfl) (by kernel_rfl) (fun _ _ _ h => h) (Or.inl ⟨by rfl, ?_⟩) (by assumption) ?_
  rotate_left 1
  ·intro w hSw; (try dsimp only at hSw); go_simp; (first | done | with_reducible rfl)
  try simp only [Act.put, qI, qX, qY]
  refine wpAnyH_take (i := 10) (v := ?_) (by simp only [qA, qS, qZ]; rfl) (by kernel_rfl) (by kernel_rfl) (by kernel_rfl) (fun _ _ _ h => h) (Or.inl ⟨by rfl, ?_⟩) (by assumption) ?_
  rotate_left 1
  ·intro w hSw; (try dsimp only at hSw); go_simp; (first | done | with_reducible rfl)
  try simp only [Act.put, qI, qX, qY]
  refine wpAnyH_take (i := 11) (v := ?_) (by simp only [qA, qS, qZ]; rfl) (by kernel_rfl) (by kernel_rfl) (by kernel_rfl) (fun _ _ _ h => h) (Or.inl ⟨by rfl, ?_⟩) (by assumption) ?_
  rotate_left 1
  ·intro w hSw; (try dsimp only at hSw); go_simp; (first | done | with_reducible rfl)
  try simp only [Act.put, qI, qX, qY]
  refine wpAnyH_take (i := 12) (v := ?_) (by simp only [qA, qS, qZ]; rfl) (by kernel_rfl) (by kernel_rfl) (by kernel_rfl) (fun _ _ _ h => h) (Or.inl ⟨by rfl, ?_⟩) (by assumption) ?_
  rotate_left 1
  ·intro w hSw; (try dsimp only at hSw); go_simp; (first | done | with_reducible rfl)
  try simp only [Act.put, qI, qX, qY]
  refine wpAnyH_take (i := 13) (v := ?_) (by simp only [qA, qS, qZ]; rfl) (by kernel_rfl) (by kernel_rfl) (by kernel_rfl) (fun _ _ _ h => h) (Or.inl ⟨by rfl, ?_⟩) (by assumption) ?_
  rotate_left 1
  ·intro w hSw; (try dsimp only at hSw); go_simp; (first | done | with_reducible rfl)
  try simp only [Act.put, qI, qX, qY]
  refine wpAnyH_take (i := 14) (v := ?_) (by simp only [qA, qS, qZ]; rfl) (by kernel_rfl) (by kernel_rfl) (by kernel_rfl) (fun _ _ _ h => h) (Or.inl ⟨by rfl, ?_⟩) (by assumption) ?_
  rotate_left 1
  ·intro w hSw; (try dsimp only at hSw); go_simp; (first | done | with_reducible rfl)
  try simp only [Act.put, qI, qX, qY]
  refine wpAnyH_take (i := 15) (v := ?_) (by simp only [qA, qS, qZ]; rfl) (by kernel_rfl) (by kernel_rfl) (by kernel_rfl) (fun _ _ _ h => h) (Or.inl ⟨by rfl, ?_⟩) (by assumption) ?_
  rotate_left 1
  ·intro w hSw; (try dsimp only at hSw); go_simp; (first | done | with_reducible rfl)
  try simp only [Act.put, qI, qX, qY]
  refine wpAnyH_take (i := 16) (v := ?_) (by simp only [qA, qS, qZ]; rfl) (by kernel_rfl) (by kernel_rfl) (by kernel_rfl) (fun _ _ _ h => h) (Or.inl ⟨by rfl, ?_⟩) (by assumption) ?_
  rotate_left 1
  ·intro w hSw; (try dsimp only at hSw); go_simp; (first | done | with_reducible rfl)
  try simp only [Act.put, qI, qX, qY]
  refine wpAnyH_take (i := 17) (v := ?_) (by simp only [qA, qS, qZ]; rfl) (by kernel_rfl) (by kernel_rfl) (by kernel_rfl) (fun _ _ _ h => h) (Or.inl ⟨by rfl, ?_⟩) (by assumption) ?_
  rotate_left 1
  ·intro w hSw; (try dsimp only at hSw); go_simp; (first | done | with_reducible rfl)
  try simp only [Act.put, qI, qX, qY]
  refine wpAnyH_take (i := 18) (v := ?_) (by simp only [qA, qS, qZ]; rfl) (by kernel_rfl) (by kernel_rfl) (by kernel_rfl) (fun _ _ _ h => h) (Or.inl ⟨by rfl, ?_⟩) (by assumption) ?_
  rotate_left 1
  ·intro w hSw; (try dsimp only at hSw); go_simp; (first | done | with_reducible rfl)
  try simp only [Act.put, qI, qX, qY]
  refine wpAnyH_ready (rs := [9]) (by kernel_rfl) (by simp) ?_
  refine AllReadyH.cons (by simp only [qA, qS, qZ]; rfl) (fun K hK => ?_) AllReadyH.nil
  go_simp
  refine (HOW.out _ hx6).mono ?_
  rintro e w6 ⟨v6, rfl, hv6, hb6⟩
  have hy7 := below_from hy6 hb6
  have hx7 := below_from hx6 hb6
  have hb36 : Below w3.heap.size w3 w6 := below_from hb35 (below_from hd5 hb6)
  have HV6 := Lib.hid hv6
  have hz6 := hb6.size
  refine hK.out _ _ (HS2.out _ hy7) (fun _ => ?_)
  clear hK K hv6 hHeld
  try simp only [Act.put, qI, qX, qY]
  refine wpAnyH_ready (rs := [19]) (by kernel_rfl) (by simp) ?_
  refine AllReadyH.cons (by simp only [qA, qS, qZ]; rfl) (fun K hK => ?_) AllReadyH.nil
  refine step_append_R (by rfl) _ _ 40 40 (by rfl) rowCell eltCell X0.heap.size v6 (.slice (ca2.map (·.add (q * 3))) (m.cells.length - q) (cc2 - q)) (xs := l.cells.take p) (ys := m.cells.drop q) (news := (m.cells.drop q).flatMap encCel) (by rfl) (by rfl) HV6.out hz6 (HXX.out _ hx7) (flatCell _ _ _) HLL.out.1 ?_
  intro v7 w7 hv7 hb7 _ _
  rw [HLL.out.2.2.2] at hv7
  obtain ⟨a7, n7, c7, hv7e⟩ := slice_any hv7
  subst hv7e
  have hb67 : Below X0.heap.size X0 w7 := hb6.trans hb7
  have hb57 : Below w5.heap.size w5 w7 := below_from hd5 hb67
  have hb37 : Below w3.heap.size w3 w7 := below_from hb35 hb57
  have hy8 := below_from hy5 hb57
  have hx8 := below_from hx5 hb57
  have m7 := heap_below hb57 m5
  obtain ⟨r7, s7⟩ := blk m7
  have HV7 := Lib.hid hv7
  have hS7 := HS2.out _ hy8
  refine hK.out _ _ hS7 (fun hHeld => ?_)
  clear hK K hv7 hb7
  try simp only [Act.put, qI, qX, qY]
  refine wpAnyH_take (i := 20) (v := ?_) (by simp only [qA, qS, qZ]; rfl) (by kernel_rfl) (by kernel_rfl) (by kernel_rfl) (fun _ _ _ h => h) (Or.inl ⟨by rfl, ?_⟩) (by assumption) ?_
  rotate_left 1
  ·intro w hSw; (try dsimp only at hSw); go_simp; (first | done | with_reducible rfl)
  try simp only [Act.put, qI, qX, qY]
  refine wpAnyH_ready (rs := [21]) (by kernel_rfl) (by simp) ?_
  refine AllReadyH.cons (by simp only [qA, qS, qZ]; rfl) (fun K hK => ?_) AllReadyH.nil
  go_simp
  have hS8 : (fun w' => w'.cell? ⟨w.heap.size, 0, none⟩ = some (.int .i64 i) ∧ w'.cell? ⟨w.heap.size, 1, none⟩ = some (.int .i64 p) ∧ w'.cell? ⟨w.heap.size + 1, 0, none⟩ = some (.int .i64 j) ∧ w'.cell? ⟨w.heap.size + 1, 1, none⟩ = some (.int .i64 q) ∧ w'.cell? ⟨b1, o1 + i * 4 + 3, none⟩ = some (.slice ca l.cells.length cc) ∧ w'.cell? ⟨b1, o1 + j * 4 + 3, none⟩ = some (.slice ca2 m.cells.length cc2)) (w7.setCell ⟨w4.heap.size, 3, none⟩ (.slice a7 n7 c7)) := ⟨(setCell_block e1).trans hS7.1, (setCell_block e1).trans hS7.2.1, (setCell_block e2).trans hS7.2.2.1, (setCell_block e2).trans hS7.2.2.2.1, (setCell_block e3).trans hS7.2.2.2.2.1, (setCell_block e3).trans hS7.2.2.2.2.2⟩
  refine hK.out _ _ hS8 (fun _ => ?_)
  refine wpAnyH_done (by kernel_rfl) ?_ _
  refine NoPanic.normal ?_
  clear hK K hHeld hS7
  have hzX := hd5.size
  have hz57 := hb57.size
  have hb47 : Below w4.heap.size w4 w7 := below_from hb45 hb57
  have hm5 := (Array.getElem?_eq_some_iff.1 m5).1
  have HD8 : Hid (∀ u ob, DocR true ((w7.setCell ⟨w4.heap.size, 3, none⟩ u).alloc ob) (fun b => w2.heap.size ≤ b) v3 (d.take i)) := Lib.hid fun u ob => HV3.out.stable (rdLin_stable true) (((Keeps.all hb37).set (fun hh => by have hh := hh.2; have hh : w4.heap.size < w3.heap.size := hh; omega) _).alloc _) (fun _ h _ => h.1)
  have HZ8 : Hid (∀ u ob, w2.heap.size ≤ ((w7.setCell ⟨w4.heap.size, 3, none⟩ u).alloc ob).heap.size) := Lib.hid fun u ob => by simp; omega
  have HY8 : Hid (∀ u ob, Below w2.heap.size w2 ((w7.setCell ⟨w4.heap.size, 3, none⟩ u).alloc ob)) := Lib.hid fun u ob => ((below_from hb3 hb37).setCell (by show w2.heap.size ≤ w4.heap.size; omega) _).alloc (by simp; omega) _
  have HN8 : Hid (∀ ob, NewsR 4 (rdLin true) ((w7.setCell ⟨w4.heap.size, 3, none⟩ (.slice a7 n7 c7)).alloc ob) (fun b => w2.heap.size ≤ b) [.int .i64 l.quote, .slice a4 l.lists.length c4, .int .i64 l.kind, .slice a7 n7 c7] [{ l with cells := L1 }]) := Lib.hid fun ob =>
   NewsR.one rfl ⟨_, _, rfl, HI4.out.stable (rdOf_stable _) (((Keeps.all hb47).set (fun hh => (Nat.lt_irrefl _) hh.2) _).alloc _) (fun b h _ => by have := h.1; omega), HV7.out.stable (rdOf_stable _) (((Keeps.refl _ _).set (fun hh => by have hh : X0.heap.size ≤ w4.heap.size := hh; omega) _).alloc _) (fun b h _ => by have h : X0.heap.size ≤ b := h; omega)⟩
  have HW2 := Lib.hid hx2
  clear hb37 hb57 hb47 hb67 hb36 hy8 hx8 hx7 hy7 hx6 hy6
  go_wp2_with (first
   | (at_builtin; refine wpList_append_R _ rfl _ _ 22 22 rfl rowLine eltLine w2.heap.size v3 _ (xs := d.take i) (ys := [{ l with cells := L1 }]) (news := [.int .i64 l.quote, .slice a4 l.lists.length c4, .int .i64 l.kind, .slice a7 n7 c7]) rfl rfl               (HD8.out _ _) (HZ8.out _ _) (src_at rowLine (w7.setCell ⟨w4.heap.size, 3, none⟩ (.slice a7 n7 c7)) _ rfl (oneV_line _ _ _ _ _ _ _) 1 (by simp)) (HN8.out _) HLL.out.2.1 ?_; intro v9 w9 hR9 hB9 _ _; have HR9 := Lib.hid hR9; have hb29 := (HY8.out _ _).trans hB9; have hy9 := below_from hb2 hb29; have hx9 := below_from HW2.out hb29; have hz9 := hb29.size; obtain ⟨t3, y3⟩ := blk (HB.out _ hy9).1; obtain ⟨t4, y4⟩ := blk (HB.out _ hy9).2; clear hR9 hB9)
   | (go_at_call 102; refine (HO2.out _ hx9).mono ?_; rintro e wa ⟨vA, rfl, hva, hba⟩; have hva2 := SliceR.stable (rdLin_stable true) hva (Keeps.refl _ _) (S' := fun b => w2.heap.size ≤ b) (fun b h _ => Nat.le_trans hz9 h); obtain ⟨newsA, hsA, hnA⟩ := SliceR.src rowLine eltLine.pos eltLine.ones hva2; have HRA := Lib.hid (SliceR.below (rdLin_stable true) HR9.out hba); have HSA := Lib.hid hsA; have HNA := Lib.hid hnA; have hb2a := below_from hb29 hba; have hza := hb2a.size; clear hva hba hva2 hsA hnA)
   | (at_builtin; refine wpList_append_R _ rfl _ _ 22 22 rfl rowLine eltLine w2.heap.size v9 vA (xs := d.take i ++ [{ l with cells := L1 }]) (ys := d.drop (j + 1)) (news := newsA) rfl rfl HRA.out hza HSA.out HNA.out HLL.out.2.2.1 ?_; intro vB wB hRB hBB _ _; have HRB := Lib.hid hRB; have HBB := Lib.hid (hb2a.trans hBB); clear hRB hBB))
  go_ret2
  unfold DocSaid
  rw [HR.out]
  exact ⟨_, rfl, SliceR.stable (rdLin_stable true) HRB.out (Keeps.refl _ _) (fun b h _ => Nat.le_trans HW2.out.size h), HW2.out.trans (HBB.out.mono HW2.out.size)⟩
 ·skip
  go_enter Tryz.func111, Tryz.ntmps111
  go_wp2_with (first
   | (go_at_call 174; refine HC1.out.mono ?_; rintro e w2 ⟨rfl, hb2⟩; have hx2 := H1.out.trans (hb2.mono hs1); obtain ⟨q1, g1⟩ := blk (HB.out _ hb2).1; obtain ⟨q2, g2⟩ := blk (HB.out _ hb2).2)
   | (go_at_call 102; refine (HO1.out _ hx2).mono ?_; rintro e w3 ⟨v3, rfl, hv3, hb3⟩; have hy3 := below_from hb2 hb3; have hx3 := below_from hx2 hb3; have HV3 := Lib.hid (SliceR.bounded (rdLin_stable true) hv3); obtain ⟨q3, g3⟩ := blk (HB.out _ hy3).1; obtain ⟨q4, g4⟩ := blk (HB.out _ hy3).2; obtain ⟨_, c0, c1, c2, c3, _, _⟩ := HAI.out.below hx3; clear hv3)
   | (go_at_call 182; refine (HFM.out _ hx3).mono ?_; rintro e w4 ⟨a', rfl, ha4, hb4⟩; obtain ⟨a4, c4, rfl⟩ := ha4.slice; have HI4 := Lib.hid (SliceR.bounded (rdOf_stable _) ha4); clear ha4))
  obtain ⟨w5, hw5⟩ : ∃ X, w4.alloc (.cells #[.int .i64 l.quote, .slice a4 l.lists.length c4, .int .i64 l.kind, .slice none 0 0] 42) = X := ⟨_, rfl⟩
  rw [hw5]
  have hb45 : Below w4.heap.size w4 w5 := hw5 ▸ (Below.refl _ _).alloc (Nat.le_refl _) _
  have m5 : w5.heap[w4.heap.size]? = some (.cells #[.int .i64 l.quote, .slice a4 l.lists.length c4, .int .i64 l.kind, .slice none 0 0] 42) := hw5 ▸ heap_new _ _ rfl
  have hb35 : Below w3.heap.size w3 w5 := below_from hb4 hb45
  have hy5 := below_from hy3 hb35
  have hx5 := below_from hx3 hb35
  have hz12 := hb2.size
  have hz23 := hb3.size
  have hz34 := hb4.size
  have hz45 := hb45.size
  have e1 : w4.heap.size ≠ w.heap.size := by omega
  have e2 : w4.heap.size ≠ w.heap.size + 1 := by omega
  have e3 : w4.heap.size ≠ b1 := by omega
  have HS2 : Hid (∀ Z, Below W1.heap.size W1 Z → (fun w' => w'.cell? ⟨w.heap.size, 0, none⟩ = some (.int .i64 i) ∧ w'.cell? ⟨w.heap.size, 1, none⟩ = some (.int .i64 p) ∧ w'.cell? ⟨w.heap.size + 1, 0, none⟩ = some (.int .i64 j) ∧ w'.cell? ⟨w.heap.size + 1, 1, none⟩ = some (.int .i64 q) ∧ w'.cell? ⟨b1, o1 + i * 4 + 3, none⟩ = some (.slice ca l.cells.length cc) ∧ w'.cell? ⟨b1, o1 + j * 4 + 3, none⟩ = some (.slice ca2 m.cells.length cc2)) Z) := Lib.hid fun Z hZ => by
   have h1 := (blk (HB.out Z hZ).1).1
   have h2 := (blk (HB.out Z hZ).2).1
   exact ⟨h1 0, h1 1, h2 0, h2 1, (HAI.out.below (H1.out.trans (hZ.mono hs1))).cells, (HAJ.out.below (H1.out.trans (hZ.mono hs1))).cells⟩
  clear q1 g1 q2 g2 q3 g3 q4 g4 p1 f1 p2 f2 hW1 c0 c1 c2 c3 hw5
  refine wp_region_noPanic ?_
  refine wp_region_held_drew (S := (fun w' => w'.cell? ⟨w.heap.size, 0, none⟩ = some (.int .i64 i) ∧ w'.cell? ⟨w.heap.size, 1, none⟩ = some (.int .i64 p) ∧ w'.cell? ⟨w.heap.size + 1, 0, none⟩ = some (.int .i64 j) ∧ w'.cell? ⟨w.heap.size + 1, 1, none⟩ = some (.int .i64 q) ∧ w'.cell? ⟨b1, o1 + i * 4 + 3, none⟩ = some (.slice ca l.cells.length cc) ∧ w'.cell? ⟨b1, o1 + j * 4 + 3, none⟩ = some (.slice ca2 m.cells.length cc2))) (by kernel_rfl) (HS2.out _ hy5.drew) (fun hHeld => ?_)
  obtain ⟨X0, hX0⟩ : ∃ X, w5.drew = X := ⟨_, rfl⟩
  have hd5 : Below w5.heap.size w5 X0 := hX0 ▸ (Below.refl _ _).drew
  rw [hX0] at hHeld ⊢
  have hy6 := below_from hy5 hd5
  have hx6 := below_from hx5 hd5
  clear hX0
  refine wpAnyH_take (i := 0) (v := ?_) (by simp only [qA, qZ]; rfl) (by kernel_rfl) (by kernel_rfl) (by kernel_rfl) (fun _ _ _ h => h) (Or.inl ⟨by rfl, ?_⟩) (by assumption) ?_
  rotate_left 1
  ·intro w hSw; (try dsimp only at hSw); go_simp; (first | done | with_reducible rfl)
  try simp only [Act.put, qI, qX, qY]
  refine wpAnyH_take (i := 1) (v := ?_) (by simp only [qA, qS, qZ]; rfl) (by kernel_rfl) (by kernel_rfl) (by kernel_rfl) (fun _ _ _ h => h) (Or.inl ⟨by rfl, ?_⟩) (by assumption) ?_
  rotate_left 1
  ·intro w hSw; (try dsimp only at hSw); go_simp; (first | done | with_reducible rfl)
  try simp only [Act.put, qI, qX, qY]
  refine wpAnyH_take (i := 2) (v := ?_) (by simp only [qA, qS, qZ]; rfl) (by kernel_rfl) (by kernel_rfl) (by kernel_rfl) (fun _ _ _ h => h) (Or.inl ⟨by rfl, ?_⟩) (by assumption) ?_
  rotate_left 1
  ·intro w hSw; (try dsimp only at hSw); go_simp; (first | done | with_reducible rfl)
  try simp only [Act.put, qI, qX, qY]
  refine wpAnyH_take (i := 3) (v := ?_) (by simp only [qA, qS, qZ]; rfl) (by kernel_rfl) (by kernel_rfl) (by kernel_rfl) (fun _ _ _ h => h) (Or.inl ⟨by rfl, ?_⟩) (by assumption) ?_
  rotate_left 1
  ·intro w hSw; (try dsimp only at hSw); go_simp; (first | done | with_reducible rfl)
  try simp only [Act.put, qI, qX, qY]
  refine wpAnyH_take (i := 4) (v := ?_) (by simp only [qA, qS, qZ]; rfl) (by kernel_rfl) (by kernel_rfl) (by kernel_rfl) (fun _ _ _ h => h) (Or.inl ⟨by rfl, ?_⟩) (by assumption) ?_
  rotate_left 1
  ·intro w hSw; (try dsimp only at hSw); go_simp; (first | done | with_reducible rfl)
  try simp only [Act.put, qI, qX, qY]
  refine wpAnyH_take (i := 5) (v := ?_) (by simp only [qA, qS, qZ]; rfl) (by kernel_rfl) (by kernel_rfl) (by kernel_rfl) (fun _ _ _ h => h) (Or.inl ⟨by rfl, ?_⟩) (by assumption) ?_
  rotate_left 1
  ·intro w hSw; (try dsimp only at hSw); go_simp; (first | done | with_reducible rfl)
  try simp only [Act.put, qI, qX, qY]
  refine wpAnyH_take (i := 6) (v := ?_) (by simp only [qA, qS, qZ]; rfl) (by kernel_rfl) (by kernel_rfl) (by kernel_rfl) (fun _ _ _ h => h) (Or.inl ⟨by rfl, ?_⟩) (by assumption) ?_
  rotate_left 1
  ·intro w hSw; (try dsimp only at hSw); go_simp; (first | done | with_reducible rfl)
  try simp only [Act.put, qI, qX, qY]
  refine wpAnyH_take (i := 7) (v := ?_) (by simp only [qA, qS, qZ]; rfl) (by kernel_rfl) (by kernel_rfl) (by kernel_rfl) (fun _ _ _ h => h) (Or.inl ⟨by rfl, ?_⟩) (by assumption) ?_
  rotate_left 1
  ·intro w hSw; (try dsimp only at hSw); go_simp; (first | done | with_reducible rfl)
  try simp only [Act.put, qI, qX, qY]
  refine wpAnyH_take (i := 8) (v := ?_) (by simp only [qA, qS, qZ]; rfl) (by kernel_rfl) (by kernel_rfl) (by kernel_rfl) (fun _ _ _ h => h) (Or.inl ⟨by rfl, ?_⟩) (by assumption) ?_
  rotate_left 1
  ·intro w hSw; (try dsimp only at hSw); go_simp; (first | done | with_reducible rfl)
  try simp only [Act.put, qI, qX, qY]
  refine wpAnyH_take (i := 10) (v := ?_) (by simp only [qA, qS, qZ]; rfl) (by kernel_rfl) (by kernel_rfl) (by kernel_rfl) (fun _ _ _ h => h) (Or.inl ⟨by rfl, ?_⟩) (by assumption) ?_
  rotate_left 1
  ·intro w hSw; (try dsimp only at hSw); go_simp; (first | done | with_reducible rfl)
  try simp only [Act.put, qI, qX, qY]
  refine wpAnyH_take (i := 11) (v := ?_) (by simp only [qA, qS, qZ]; rfl) (by kernel_rfl) (by kernel_rfl) (by kernel_rfl) (fun _ _ _ h => h) (Or.inl ⟨by rfl, ?_⟩) (by assumption) ?_
  rotate_left 1
  ·intro w hSw; (try dsimp only at hSw); go_simp; (first | done | with_reducible rfl)
  try simp only [Act.put, qI, qX, qY]
  refine wpAnyH_take (i := 12) (v := ?_) (by simp only [qA, qS, qZ]; rfl) (by kernel_rfl) (by kernel_rfl) (by kernel_rfl) (fun _ _ _ h => h) (Or.inl ⟨by rfl, ?_⟩) (by assumption) ?_
  rotate_left 1
  ·intro w hSw; (try dsimp only at hSw); go_simp; (first | done | with_reducible rfl)
  try simp only [Act.put, qI, qX, qY]
  refine wpAnyH_take (i := 13) (v := ?_) (by simp only [qA, qS, qZ]; rfl) (by kernel_rfl) (by kernel_rfl) (by kernel_rfl) (fun _ _ _ h => h) (Or.inl ⟨by rfl, ?_⟩) (by assumption) ?_
  rotate_left 1
  ·intro w hSw; (try dsimp only at hSw); go_simp; (first | done | with_reducible rfl)
  try simp only [Act.put, qI, qX, qY]
  refine wpAnyH_take (i := 14) (v := ?_) (by simp only [qA, qS, qZ]; rfl) (by kernel_rfl) (by kernel_rfl) (by kernel_rfl) (fun _ _ _ h => h) (Or.inl ⟨by rfl, ?_⟩) (by assumption) ?_
  rotate_left 1
  ·intro w hSw; (try dsimp only at hSw); go_simp; (first | done | with_reducible rfl)
  try simp only [Act.put, qI, qX, qY]
  refine wpAnyH_take (i := 15) (v := ?_) (by simp only [qA, qS, qZ]; rfl) (by kernel_rfl) (by kernel_rfl) (by kernel_rfl) (fun _ _ _ h => h) (Or.inl ⟨by rfl, ?_⟩) (by assumption) ?_
  rotate_left 1
  ·intro w hSw; (try dsimp only at hSw); go_simp; (first | done | with_reducible rfl)
  try simp only [Act.put, qI, qX, qY]
  refine wpAnyH_take (i := 16) (v := ?_) (by simp only [qA, qS, qZ]; rfl) (by kernel_rfl) (by kernel_rfl) (by kernel_rfl) (fun _ _ _ h => h) (Or.inl ⟨by rfl, ?_⟩) (by assumption) ?_
  rotate_left 1
  ·intro w hSw; (try dsimp only at hSw); go_simp; (first | done | with_reducible rfl)
  try simp only [Act.put, qI, qX, qY]
  refine wpAnyH_take (i := 17) (v := ?_) (by simp only [qA, qS, qZ]; rfl) (by kernel_rfl) (by kernel_rfl) (by kernel_rfl) (fun _ _ _ h => h) (Or.inl ⟨by rfl, ?_⟩) (by assumption) ?_
  rotate_left 1
  ·intro w hSw; (try dsimp only at hSw); go_simp; (first | done | with_reducible rfl)
  try simp only [Act.put, qI, qX, qY]
  refine wpAnyH_take (i := 18) (v := ?_) (by simp only [qA, qS, qZ]; rfl) (by kernel_rfl) (by kernel_rfl) (by kernel_rfl) (fun _ _ _ h => h) (Or.inl ⟨by rfl, ?_⟩) (by assumption) ?_
  rotate_left 1
  ·intro w hSw; (try dsimp only at hSw); go_simp; (first | done | with_reducible rfl)
  try simp only [Act.put, qI, qX, qY]
  refine wpAnyH_ready (rs := [9]) (by kernel_rfl) (by simp) ?_
  refine AllReadyH.cons (by simp only [qA, qS, qZ]; rfl) (fun K hK => ?_) AllReadyH.nil
  go_simp
  refine (HOW.out _ hx6).mono ?_
  rintro e w6 ⟨v6, rfl, hv6, hb6⟩
  have hy7 := below_from hy6 hb6
  have hx7 := below_from hx6 hb6
  have hb36 : Below w3.heap.size w3 w6 := below_from hb35 (below_from hd5 hb6)
  have HV6 := Lib.hid hv6
  have hz6 := hb6.size
  refine hK.out _ _ (HS2.out _ hy7) (fun _ => ?_)
  clear hK K hv6 hHeld
  try simp only [Act.put, qI, qX, qY]
  refine wpAnyH_ready (rs := [19]) (by kernel_rfl) (by simp) ?_
  refine AllReadyH.cons (by simp only [qA, qS, qZ]; rfl) (fun K hK => ?_) AllReadyH.nil
  refine step_append_R (by rfl) _ _ 40 40 (by rfl) rowCell eltCell X0.heap.size v6 (.slice (ca2.map (·.add (q * 3))) (m.cells.length - q) (cc2 - q)) (xs := l.cells.take p) (ys := m.cells.drop q) (news := (m.cells.drop q).flatMap encCel) (by rfl) (by rfl) HV6.out hz6 (HXX.out _ hx7) (flatCell _ _ _) HLL.out.1 ?_
  intro v7 w7 hv7 hb7 _ _
  rw [HLL.out.2.2.2] at hv7
  obtain ⟨a7, n7, c7, hv7e⟩ := slice_any hv7
  subst hv7e
  have hb67 : Below X0.heap.size X0 w7 := hb6.trans hb7
  have hb57 : Below w5.heap.size w5 w7 := below_from hd5 hb67
  have hb37 : Below w3.heap.size w3 w7 := below_from hb35 hb57
  have hy8 := below_from hy5 hb57
  have hx8 := below_from hx5 hb57
  have m7 := heap_below hb57 m5
  obtain ⟨r7, s7⟩ := blk m7
  have HV7 := Lib.hid hv7
  have hS7 := HS2.out _ hy8
  refine hK.out _ _ hS7 (fun hHeld => ?_)
  clear hK K hv7 hb7
  try simp only [Act.put, qI, qX, qY]
  refine wpAnyH_take (i := 20) (v := ?_) (by simp only [qA, qS, qZ]; rfl) (by kernel_rfl) (by kernel_rfl) (by kernel_rfl) (fun _ _ _ h => h) (Or.inl ⟨by rfl, ?_⟩) (by assumption) ?_
  rotate_left 1
  ·intro w hSw; (try dsimp only at hSw); go_simp; (first | done | with_reducible rfl)
  try simp only [Act.put, qI, qX, qY]
  refine wpAnyH_ready (rs := [21]) (by kernel_rfl) (by simp) ?_
  refine AllReadyH.cons (by simp only [qA, qS, qZ]; rfl) (fun K hK => ?_) AllReadyH.nil
  go_simp
  have hS8 : (fun w' => w'.cell? ⟨w.heap.size, 0, none⟩ = some (.int .i64 i) ∧ w'.cell? ⟨w.heap.size, 1, none⟩ = some (.int .i64 p) ∧ w'.cell? ⟨w.heap.size + 1, 0, none⟩ = some (.int .i64 j) ∧ w'.cell? ⟨w.heap.size + 1, 1, none⟩ = some (.int .i64 q) ∧ w'.cell? ⟨b1, o1 + i * 4 + 3, none⟩ = some (.slice ca l.cells.length cc) ∧ w'.cell? ⟨b1, o1 + j * 4 + 3, none⟩ = some (.slice ca2 m.cells.length cc2)) (w7.setCell ⟨w4.heap.size, 3, none⟩ (.slice a7 n7 c7)) := ⟨(setCell_block e1).trans hS7.1, (setCell_block e1).trans hS7.2.1, (setCell_block e2).trans hS7.2.2.1, (setCell_block e2).trans hS7.2.2.2.1, (setCell_block e3).trans hS7.2.2.2.2.1, (setCell_block e3).trans hS7.2.2.2.2.2⟩
  refine hK.out _ _ hS8 (fun _ => ?_)
  refine wpAnyH_done (by kernel_rfl) ?_ _
  refine NoPanic.normal ?_
  clear hK K hHeld hS7
  have hzX := hd5.size
  have hz57 := hb57.size
  have hb47 : Below w4.heap.size w4 w7 := below_from hb45 hb57
  have hm5 := (Array.getElem?_eq_some_iff.1 m5).1
  have HD8 : Hid (∀ u ob, DocR true ((w7.setCell ⟨w4.heap.size, 3, none⟩ u).alloc ob) (fun b => w2.heap.size ≤ b) v3 (d.take i)) := Lib.hid fun u ob => HV3.out.stable (rdLin_stable true) (((Keeps.all hb37).set (fun hh => by have hh := hh.2; have hh : w4.heap.size < w3.heap.size := hh; omega) _).alloc _) (fun _ h _ => h.1)
  have HZ8 : Hid (∀ u ob, w2.heap.size ≤ ((w7.setCell ⟨w4.heap.size, 3, none⟩ u).alloc ob).heap.size) := Lib.hid fun u ob => by simp; omega
  have HY8 : Hid (∀ u ob, Below w2.heap.size w2 ((w7.setCell ⟨w4.heap.size, 3, none⟩ u).alloc ob)) := Lib.hid fun u ob => ((below_from hb3 hb37).setCell (by show w2.heap.size ≤ w4.heap.size; omega) _).alloc (by simp; omega) _
  have HN8 : Hid (∀ ob, NewsR 4 (rdLin true) ((w7.setCell ⟨w4.heap.size, 3, none⟩ (.slice a7 n7 c7)).alloc ob) (fun b => w2.heap.size ≤ b) [.int .i64 l.quote, .slice a4 l.lists.length c4, .int .i64 l.kind, .slice a7 n7 c7] [{ l with cells := L1 }]) := Lib.hid fun ob =>
   NewsR.one rfl ⟨_, _, rfl, HI4.out.stable (rdOf_stable _) (((Keeps.all hb47).set (fun hh => (Nat.lt_irrefl _) hh.2) _).alloc _) (fun b h _ => by have := h.1; omega), HV7.out.stable (rdOf_stable _) (((Keeps.refl _ _).set (fun hh => by have hh : X0.heap.size ≤ w4.heap.size := hh; omega) _).alloc _) (fun b h _ => by have h : X0.heap.size ≤ b := h; omega)⟩
  have HW2 := Lib.hid hx2
  clear hb37 hb57 hb47 hb67 hb36 hy8 hx8 hx7 hy7 hx6 hy6
  go_wp2_with (first
   | (at_builtin; refine wpList_append_R _ rfl _ _ 22 22 rfl rowLine eltLine w2.heap.size v3 _ (xs := d.take i) (ys := [{ l with cells := L1 }]) (news := [.int .i64 l.quote, .slice a4 l.lists.length c4, .int .i64 l.kind, .slice a7 n7 c7]) rfl rfl               (HD8.out _ _) (HZ8.out _ _) (src_at rowLine (w7.setCell ⟨w4.heap.size, 3, none⟩ (.slice a7 n7 c7)) _ rfl (oneV_line _ _ _ _ _ _ _) 1 (by simp)) (HN8.out _) HLL.out.2.1 ?_; intro v9 w9 hR9 hB9 _ _; have HR9 := Lib.hid hR9; have hb29 := (HY8.out _ _).trans hB9; have hy9 := below_from hb2 hb29; have hx9 := below_from HW2.out hb29; have hz9 := hb29.size; obtain ⟨t3, y3⟩ := blk (HB.out _ hy9).1; obtain ⟨t4, y4⟩ := blk (HB.out _ hy9).2; clear hR9 hB9)
   | (go_at_call 102; refine (HO2.out _ hx9).mono ?_; rintro e wa ⟨vA, rfl, hva, hba⟩; have hva2 := SliceR.stable (rdLin_stable true) hva (Keeps.refl _ _) (S' := fun b => w2.heap.size ≤ b) (fun b h _ => Nat.le_trans hz9 h); obtain ⟨newsA, hsA, hnA⟩ := SliceR.src rowLine eltLine.pos eltLine.ones hva2; have HRA := Lib.hid (SliceR.below (rdLin_stable true) HR9.out hba); have HSA := Lib.hid hsA; have HNA := Lib.hid hnA; have hb2a := below_from hb29 hba; have hza := hb2a.size; clear hva hba hva2 hsA hnA)
   | (at_builtin; refine wpList_append_R _ rfl _ _ 22 22 rfl rowLine eltLine w2.heap.size v9 vA (xs := d.take i ++ [{ l with cells := L1 }]) (ys := d.drop (j + 1)) (news := newsA) rfl rfl HRA.out hza HSA.out HNA.out HLL.out.2.2.1 ?_; intro vB wB hRB hBB _ _; have HRB := Lib.hid hRB; have HBB := Lib.hid (hb2a.trans hBB); clear hRB hBB))
  go_ret2
  unfold DocSaid
  rw [HR.out]
  exact ⟨_, rfl, SliceR.stable (rdLin_stable true) HRB.out (Keeps.refl _ _) (fun b h _ => Nat.le_trans HW2.out.size h), HW2.out.trans (HBB.out.mono HW2.out.size)⟩
end Go.Proofs.YtpndnbjpnajaaaaGreatDoor
namespace Go.Proofs.YtpndnbjpnajaaaaGreatDoor
open Go.RowKit
open Go.Proofs.Qw
set_option maxRecDepth 100000 in
set_option maxHeartbeats 4000000 in
theorem refStOwn_any (v : Value) (s : St) (w : World) (S : Nat → Prop) (h : LinsR w S v s.lines) (hf : Fits s.lines) :
  Calls Tryz.prog 33 #[stV v s] w fun e w' => ∃ v', e = .returned (stV v' s) ∧ DocR true w' (fun b => w.heap.size ≤ b) v' s.lines ∧ Below w.heap.size w w' := by
 obtain ⟨W1, hW1, hB, hz, k0, k1⟩ := st_two w v s
 have hs1 := hB.size
 have HC : Hid (∀ W, Below W1.heap.size W1 W → Calls Tryz.prog 102 #[v] W fun e w' => ∃ v', e = .returned v' ∧ DocR true w' (fun b => W.heap.size ≤ b) v' s.lines ∧ Below W.heap.size W w') := Lib.hid fun W hW => refOwnD_any v s.lines W S (h.below (rdLin_stable _) (hB.trans (hW.mono hs1))) hf
 have HB : Hid (∀ W, Below W1.heap.size W1 W → W.heap[w.heap.size]? = some (.cells #[v, .int .i64 s.anc.line, .int .i64 s.anc.col, .int .i64 s.foc.line, .int .i64 s.foc.col, .int .i64 s.on, .int .i64 s.off] 26) ∧ W.heap[w.heap.size + 1]? = some (.cells #[.slice none 0 0, .int .i64 0, .int .i64 0, .int .i64 0, .int .i64 0, .int .i64 0, .int .i64 0] 26)) := Lib.hid fun W hW => ⟨heap_below hW k0, heap_below hW k1⟩
 have H1 := Lib.hid hB
 have hb0 : Below W1.heap.size W1 W1.drew := (Below.refl _ _).drew
 obtain ⟨p0, f0⟩ := blk k0
 obtain ⟨va, vc, rfl⟩ := h.slice
 clear h hf k0 k1 hB
 go_enter Tryz.func33, Tryz.ntmps33
 go_wp2_with fail
 go_region_held3 (fun w' => w'.cell? ⟨w.heap.size, 0, none⟩ = some (.slice va s.lines.length vc) ∧ w'.cell? ⟨w.heap.size, 1, none⟩ = some (.int .i64 s.anc.line) ∧ w'.cell? ⟨w.heap.size, 2, none⟩ = some (.int .i64 s.anc.col) ∧ w'.cell? ⟨w.heap.size, 3, none⟩ = some (.int .i64 s.foc.line) ∧ w'.cell? ⟨w.heap.size, 4, none⟩ = some (.int .i64 s.foc.col) ∧ w'.cell? ⟨w.heap.size, 5, none⟩ = some (.int .i64 s.on) ∧ w'.cell? ⟨w.heap.size, 6, none⟩ = some (.int .i64 s.off)) (go_keep)
  ((go_at_call 102; refine (HC.out _ hb0).mono ?_; rintro e w2 ⟨v2, rfl, hv2, hb2'⟩; obtain ⟨a2, c2, rfl⟩ := hv2.slice; have hb2 := below_from hb0 hb2'; obtain ⟨q0, g0⟩ := blk (HB.out _ hb2).1; obtain ⟨q1, g1⟩ := blk (HB.out _ hb2).2; have HV := Lib.hid hv2; clear hv2))
 go_wp2_with fail
 refine bodyPost_ret (results_st rfl _ _ (w.heap.size + 1) (.slice a2 s.lines.length c2) (.int .i64 s.anc.line) (.int .i64 s.anc.col) (.int .i64 s.foc.line) (.int .i64 s.foc.col) (.int .i64 s.on) (.int .i64 s.off) rfl (by simp [heap_set, putIn, (HB.out _ hb2).2])) rfl ?_
 have hfin := H1.out.trans (hb2.mono hs1)
 have hv2 := HV.out
 exact ⟨_, rfl, (SliceR.stable (rdLin_stable _) hv2 (by (repeat' (first | (with_reducible exact Keeps.refl _ _) | (with_reducible refine Keeps.set ?_ ?_ _) | (with_reducible refine Keeps.alloc ?_ _) | (with_reducible refine Keeps.drew ?_) | (first | fail) | (simp; omega)))) (fun b h _ => (by have h' := h; (try simp at h'); omega))), by (repeat' (first | (with_reducible exact Below.refl _ _) | (with_reducible assumption) | (with_reducible refine Below.alloc ?_ ?_ _) | (with_reducible refine Below.drew ?_) | (with_reducible refine drewN_below ?_) | (with_reducible refine Below.setCell ?_ ?_ _) | go_size))⟩
end Go.Proofs.YtpndnbjpnajaaaaGreatDoor
namespace Go.Proofs.Qw
open Go.RowKit Go.Proofs.YtpndnbjpnajaaaaGreatDoor
theorem spanS_open (s : St) : ((spanS s).1 = (spanS s).2) ↔ s.anc = s.foc := by
 unfold spanS
 split
 ·exact eq_comm
 ·exact Iff.rfl
end Go.Proofs.Qw
