/- What the walks of package render share. -/
import Derived.Test.YtjpgffihafknlaaGreatDoorRenAlikeB
import Derived.Test.YtjpgffihafknlaaGreatDoorCharsTextB
set_option linter.unusedVariables false
set_option linter.unusedSimpArgs false
namespace Go.Proofs.YtjpgffihafknlaaGreatDoor
open Go.RowKit
open Go.Proofs.Qw
attribute [local go_sem] Oper.semAt_some
def PL {α : Type} {d : List α} (h : Nat) (F : List α → List Nod) (w : World) (Bo Z : Nat) (pre : List (PartX d)) (W : World) : Prop :=
 ∃ v, W.heap[Bo]? = some (.cells #[v] 23) ∧ RwX 25 4 (rdNod true h) W Z v (pre.flatMap fun y => F (cutP d y.1)) ∧ (v = .slice none 0 0 ∨ (pre.flatMap fun y => F (cutP d y.1)) ≠ []) ∧ Below w.heap.size w W ∧ Z ≤ W.heap.size
theorem pl_own {α : Type} {d : List α} {h : Nat} {F : List α → List Nod} {w : World} {Bo Z B : Nat} (hB : w.heap.size ≤ B) : OwnFrom B (PL (d := d) h F w Bo Z) := fun s X Y row ⟨v, h1, h2, h4, h5, h6⟩ hg hr =>
 ⟨v, blk_own B _ _ _ s X Y row h1 hg hr, rowx_own B Z h v (fun s : List (PartX d) => s.flatMap fun y => F (cutP d y.1)) s X Y row h2 hg hr, h4, ownFrom_below (Nat.le_refl _) hB s X Y row h5 hg hr, ownFrom_size B _ s X Y row h6 hg hr⟩
theorem cut_ne {α : Type} {d : List α} (x : PartX d) : cutP d x.1 ≠ [] := by
 obtain ⟨⟨i, j⟩, h1, h2⟩ := x
 intro e
 have : (cutP d (i, j)).length = j - i := by
  unfold cutP
  rw [List.length_take, List.length_drop]
  simp only at h1 h2 ⊢
  omega
 rw [e] at this
 simp at this h1
 omega
theorem flat_one {α β : Type} (f : α → β) : ∀ l : List α, (l.flatMap fun y => [f y]) = l.map f
 | [] => rfl
 | y :: l => by rw [List.flatMap_cons, flat_one f l]; rfl
theorem cut_len {α : Type} {d : List α} (x : PartX d) : (cutP d x.1).length ≤ d.length := by
 unfold cutP
 rw [List.length_take, List.length_drop]
 omega
theorem rowx_keeps {h : Nat} {w w' : World} {n : Nat} {v : Value} {xs : List Nod} (hr : RwX 25 4 (rdNod true h) w n v xs) (hne : v = .slice none 0 0 ∨ xs ≠ []) (hg : w.grownBy w' v.ownBlock) : KeepsOthers w w' := append_keeps (RwX.row (rdNod_stable _ _) hr) hne hg
theorem part_cels {w : World} {S : Nat → Prop} {va : Option Addr} {vc : Nat} {l : List Cel} (hv : CelsR false w S (.slice va l.length vc) l) (x : PartX l) : CelsR false w S (partV va vc 3 x.1) (cutP l x.1) := by
 obtain ⟨⟨i, j⟩, h1, h2⟩ := x
 obtain ⟨_, h3, _⟩ := hv.len
 exact hv.part (i := i) (j := j) (m := vc) (Nat.le_of_lt h1) h2 (Nat.le_trans h2 h3) (Nat.le_refl _)
theorem put_node {h : Nat} {w : World} {n b o c : Nat} {xs : List Nod} {z : Nod} (hr : RwX 25 4 (rdNod true h) w n (.slice (some ⟨b, o, none⟩) (xs.length + 1) c) (xs ++ [z])) (y : Nod) (x1 x2 : Value) (hx : rdNod true h w (fun b' => n ≤ b' ∧ b' ≠ b) [.int .i64 y.tag, x1, .string ⟨y.text.toArray⟩, x2] y) :
  ∃ W, (((w.setCell ⟨b, o + xs.length * 4, none⟩ (.int .i64 y.tag)).setCell ⟨b, o + xs.length * 4 + 1, none⟩ x1).setCell ⟨b, o + xs.length * 4 + 2, none⟩ (.string ⟨y.text.toArray⟩)).setCell ⟨b, o + xs.length * 4 + 3, none⟩ x2 = W ∧
   RwX 25 4 (rdNod true h) W n (.slice (some ⟨b, o, none⟩) (xs.length + 1) c) (xs ++ [y]) ∧ Below n w W ∧ (∀ d, d ≠ b → W.heap[d]? = w.heap[d]?) ∧ W.heap.size = w.heap.size ∧ KeepsOthers w W := by
 obtain ⟨h1, h2, h3, h4⟩ := RwX.putLast (eltNod h) hr hx
 exact ⟨_, rfl, h1, h2, h3, h4, (KeepsOthers.setCell _ _ _).trans ((KeepsOthers.setCell _ _ _).trans ((KeepsOthers.setCell _ _ _).trans (KeepsOthers.setCell _ _ _)))⟩
theorem rowx_block {h : Nat} {w : World} {n : Nat} {v : Value} {xs : List Nod} (hr : RwX 25 4 (rdNod true h) w n v xs) (hne : v = .slice none 0 0 ∨ xs ≠ []) : ∀ d, v.ownBlock = some d → d < w.heap.size := by
 intro d hd
 rcases hne with e | hne
 ·subst e; cases hd
 ·obtain ⟨a, c, rfl, _, _, ⟨e, _⟩ | ⟨b, o, rfl, hb, hz, _⟩⟩ := hr
  ·exact absurd e hne
  ·have hd : some b = some d := hd
   cases hd
   exact hz
theorem app_apart {C y : World} {N0 b o m c : Nat} {v : Value} (hga : C.grownBy y v.ownBlock) (hor : (Value.slice (some ⟨b, o, none⟩) m c).ownBlock = v.ownBlock ∨ (Value.slice (some ⟨b, o, none⟩) m c).ownBlock = some C.heap.size) (hown : ∀ d, v.ownBlock = some d → d < N0) :
  Keeps (fun d => N0 ≤ d) C y ∧ ∀ d, N0 ≤ d → d < C.heap.size → d ≠ b := by
 refine ⟨⟨hga.size, fun d hd hz => hga.block d hz (fun e => by have := hown d e.symm; omega)⟩, fun d h1 h2 e => ?_⟩
 subst e
 rcases hor with h | h
 ·have := hown d h.symm
  omega
 ·have h : some d = some C.heap.size := h
  cases h
  omega
theorem node_ready {h : Nat} {X C y : World} {N0 Z b : Nat} {a k : Value} {n : Nod} (ha : AttsR true X (fun d => N0 ≤ d) a n.attrs) (hk : NodsR true h X (fun d => N0 ≤ d) k n.kids) (hC : Below X.heap.size X C) (hK : Keeps (fun d => N0 ≤ d) C y) (hne : ∀ d, N0 ≤ d → d < C.heap.size → d ≠ b) (hZ : Z ≤ N0) :
  rdNod true (h + 1) y (fun d => Z ≤ d ∧ d ≠ b) [.int .i64 n.tag, a, .string ⟨n.text.toArray⟩, k] n := by
 have h1 : AttsR true C (fun d => N0 ≤ d ∧ d < C.heap.size) a n.attrs := (ha.stable (rdOf_stable _) (.all hC) (fun _ h hz => ⟨h, Nat.lt_of_lt_of_le hz hC.size⟩))
 have h2 : NodsR true h C (fun d => N0 ≤ d ∧ d < C.heap.size) k n.kids := (hk.stable (rdNod_stable _ _) (.all hC) (fun _ h hz => ⟨h, Nat.lt_of_lt_of_le hz hC.size⟩))
 have hK' : Keeps (fun d => N0 ≤ d ∧ d < C.heap.size) C y := ⟨hK.size, fun d hd hz => hK.block d hd.1 hz⟩
 exact ⟨a, k, rfl, h1.stable (rdOf_stable _) hK' (fun d hd _ => ⟨Nat.le_trans hZ hd.1, hne d hd.1 hd.2⟩), h2.stable (rdNod_stable _ _) hK' (fun d hd _ => ⟨Nat.le_trans hZ hd.1, hne d hd.1 hd.2⟩)⟩
theorem put_done {α : Type} {d : List α} {h : Nat} {F : List α → List Nod} {w : World} {Bo Z base : Nat} {pre : List (PartX d)} {x : PartX d} {W C y : World} {b o c : Nat} {xs : List Nod} {v0 v1 x1 x2 : Value} {n : Nod}
  (hb : Below w.heap.size w W) (hzW : Z ≤ W.heap.size) (hB1 : w.heap.size ≤ Bo) (hB2 : Bo < base) (hB3 : Bo < Z) (hwZ : w.heap.size ≤ Z) (hbC : Below W.heap.size W C) (hra : RwX 25 4 (rdNod true h) y Z (.slice (some ⟨b, o, none⟩) (xs.length + 1) c) (xs ++ [zeroN])) (hba : Below Z C y)
  (hga : C.grownBy y v0.ownBlock) (hr0 : RwX 25 4 (rdNod true h) C Z v0 xs) (hne : v0 = .slice none 0 0 ∨ xs ≠ []) (hbZ : Z ≤ b) (hnode : rdNod true h y (fun d => Z ≤ d ∧ d ≠ b) [.int .i64 n.tag, x1, .string ⟨n.text.toArray⟩, x2] n)
  (hob : y.heap[Bo]? = some (.cells #[v1] 23)) (hT : ((pre ++ [x]).flatMap fun y => F (cutP d y.1)) = xs ++ [n]) :
  let Y := ((((y.setCell ⟨b, o + xs.length * 4, none⟩ (.int .i64 n.tag)).setCell ⟨b, o + xs.length * 4 + 1, none⟩ x1).setCell ⟨b, o + xs.length * 4 + 2, none⟩ (.string ⟨n.text.toArray⟩)).setCell ⟨b, o + xs.length * 4 + 3, none⟩ x2).setCell ⟨Bo, 0, none⟩ (.slice (some ⟨b, o, none⟩) (xs.length + 1) c)
  (∀ B, KeepsFrom B W Y) ∧ Kb w.heap.size base Z W Y ∧ PL h F w Bo Z (pre ++ [x]) Y := by
 intro Y
 obtain ⟨W9, hW9, hrw9, hbw9, hoth9, hsz9, hko9⟩ := put_node hra n x1 x2 hnode
 have hY : Y = W9.setCell ⟨Bo, 0, none⟩ (.slice (some ⟨b, o, none⟩) (xs.length + 1) c) := by rw [← hW9]
 rw [hY]
 have hbn : b ≠ Bo := by omega
 have hob9 : W9.heap[Bo]? = some (.cells #[v1] 23) := (hoth9 Bo (Ne.symm hbn)).trans hob
 have hws := hb.size
 have hKb9 : Kb w.heap.size base Z y W9 := Kb.of_top hwZ (Nat.le_refl _) hbw9
 have hCs := hbC.size
 refine ⟨fun B => ((keeps_below hbC).from _).trans (((rowx_keeps hr0 hne hga).from _).trans ((hko9.from _).trans ((KeepsOthers.setCell _ _ _).from _))), (Kb.of_below hws hbC).t ((Kb.of_top hwZ (Nat.le_refl _) hba).t (hKb9.t (Kb.setCell _ hB1 (Or.inl hB2) _))), .slice (some ⟨b, o, none⟩) (xs.length + 1) c, ?_, ?_, .inr (by rw [hT]; simp), ?_, ?_⟩
 ·rw [heap_set, if_pos rfl, hob9]; rfl
 ·rw [hT]
  exact RwX.below (rdNod_stable _ _) hrw9 ((Keeps.refl _ _).set (by simp; omega) _)
 ·exact (((hb.trans (hbC.mono hws)).trans (hba.mono hwZ)).trans (hbw9.mono hwZ)).setCell hB1 _
 ·rw [World.size_setCell, hsz9]
  have := hba.size
  omega
theorem put_done2 {α : Type} {d : List α} {h : Nat} {F : List α → List Nod} {w : World} {Bo Z base : Nat} {pre : List (PartX d)} {x : PartX d} {W C y : World} {b o c : Nat} {xs : List Nod} {v0 v1 x1 x2 : Value} {n : Nod}
  (hb : Below w.heap.size w W) (hzW : Z ≤ W.heap.size) (hB1 : w.heap.size ≤ Bo) (hB2 : Bo < base) (hB3 : Bo < Z) (hwZ : w.heap.size ≤ Z) (hbC : Below W.heap.size W C) (hra : RwX 25 4 (rdNod true h) y Z (.slice (some ⟨b, o, none⟩) (xs.length + 1) c) (xs ++ [zeroN])) (hba : Below Z C y)
  (hga : C.grownBy y v0.ownBlock) (hr0 : RwX 25 4 (rdNod true h) C Z v0 xs) (hne : v0 = .slice none 0 0 ∨ xs ≠ []) (hbZ : Z ≤ b) (hnode : rdNod true h y (fun d => Z ≤ d ∧ d ≠ b) [.int .i64 n.tag, x1, .string ⟨n.text.toArray⟩, x2] n)
  (hob : y.heap[Bo]? = some (.cells #[v1] 23)) (hT : ((pre ++ [x]).flatMap fun y => F (cutP d y.1)) = xs ++ [n]) :
  let Y := ((((y.setCell ⟨Bo, 0, none⟩ (.slice (some ⟨b, o, none⟩) (xs.length + 1) c)).setCell ⟨b, o + xs.length * 4, none⟩ (.int .i64 n.tag)).setCell ⟨b, o + xs.length * 4 + 1, none⟩ x1).setCell ⟨b, o + xs.length * 4 + 2, none⟩ (.string ⟨n.text.toArray⟩)).setCell ⟨b, o + xs.length * 4 + 3, none⟩ x2
  (∀ B, KeepsFrom B W Y) ∧ Kb w.heap.size base Z W Y ∧ PL h F w Bo Z (pre ++ [x]) Y := by
 intro Y
 have hk : Keeps (fun b => Z ≤ b) y (y.setCell ⟨Bo, 0, none⟩ (.slice (some ⟨b, o, none⟩) (xs.length + 1) c)) := (Keeps.refl _ _).set (by simp; omega) _
 have hk2 : Keeps (fun d => Z ≤ d ∧ d ≠ b) y (y.setCell ⟨Bo, 0, none⟩ (.slice (some ⟨b, o, none⟩) (xs.length + 1) c)) := (Keeps.refl _ _).set (by simp; omega) _
 obtain ⟨W9, hW9, hrw9, hbw9, hoth9, hsz9, hko9⟩ := put_node (RwX.below (rdNod_stable _ _) hra hk) n x1 x2 ((rdNod_stable _ _).go _ _ _ _ _ _ hnode hk2 (fun _ h _ => h))
 have hY : Y = W9 := hW9
 rw [hY]
 have hbn : b ≠ Bo := by omega
 have hob9 : W9.heap[Bo]? = some (.cells #[.slice (some ⟨b, o, none⟩) (xs.length + 1) c] 23) := (hoth9 Bo (Ne.symm hbn)).trans (by rw [heap_set, if_pos rfl, hob]; rfl)
 have hws := hb.size
 have hKb9 : Kb w.heap.size base Z (y.setCell ⟨Bo, 0, none⟩ (.slice (some ⟨b, o, none⟩) (xs.length + 1) c)) W9 := Kb.of_top hwZ (Nat.le_refl _) hbw9
 have hCs := hbC.size
 refine ⟨fun B => ((keeps_below hbC).from _).trans (((rowx_keeps hr0 hne hga).from _).trans (((KeepsOthers.setCell _ _ _).from _).trans (hko9.from _))), (Kb.of_below hws hbC).t ((Kb.of_top hwZ (Nat.le_refl _) hba).t ((Kb.setCell _ hB1 (Or.inl hB2) _).t hKb9)), _, hob9, ?_, .inr (by rw [hT]; simp), ?_, ?_⟩
 ·rw [hT]
  exact hrw9
 ·exact (((hb.trans (hbC.mono hws)).trans (hba.mono hwZ)).setCell hB1 _).trans (hbw9.mono hwZ)
 ·rw [hsz9, World.size_setCell]
  have := hba.size
  omega
theorem put_row {α : Type} {d : List α} {h : Nat} {F : List α → List Nod} {w : World} {Bo Z base : Nat} {pre : List (PartX d)} {x : PartX d} {W C y : World} {xs G : List Nod} {v0 v1 va : Value}
  (hb : Below w.heap.size w W) (hzW : Z ≤ W.heap.size) (hB1 : w.heap.size ≤ Bo) (hB2 : Bo < base) (hB3 : Bo < Z) (hwZ : w.heap.size ≤ Z) (hbC : Below W.heap.size W C) (hra : RwX 25 4 (rdNod true h) y Z va (xs ++ G)) (hba : Below Z C y)
  (hga : C.grownBy y v0.ownBlock) (hr0 : RwX 25 4 (rdNod true h) C Z v0 xs) (hne : v0 = .slice none 0 0 ∨ xs ≠ []) (hG : G ≠ [])
  (hob : y.heap[Bo]? = some (.cells #[v1] 23)) (hT : ((pre ++ [x]).flatMap fun y => F (cutP d y.1)) = xs ++ G) :
  (∀ B, KeepsFrom B W (y.setCell ⟨Bo, 0, none⟩ va)) ∧ Kb w.heap.size base Z W (y.setCell ⟨Bo, 0, none⟩ va) ∧ PL h F w Bo Z (pre ++ [x]) (y.setCell ⟨Bo, 0, none⟩ va) := by
 have hws := hb.size
 have hCs := hbC.size
 refine ⟨fun B => ((keeps_below hbC).from _).trans (((rowx_keeps hr0 hne hga).from _).trans ((KeepsOthers.setCell _ _ _).from _)), (Kb.of_below hws hbC).t ((Kb.of_top hwZ (Nat.le_refl _) hba).t (Kb.setCell _ hB1 (Or.inl hB2) _)), va, ?_, ?_, .inr (by rw [hT]; simp [hG]), ?_, ?_⟩
 ·rw [heap_set, if_pos rfl, hob]; rfl
 ·rw [hT]
  exact RwX.below (rdNod_stable _ _) hra ((Keeps.refl _ _).set (by simp; omega) _)
 ·exact ((hb.trans (hbC.mono hws)).trans (hba.mono hwZ)).setCell hB1 _
 ·rw [World.size_setCell]
  have := hba.size
  omega
theorem nods_mono' {h h' : Nat} (hh : h ≤ h') {own : Bool} {w : World} {S : Nat → Prop} {v : Value} {l : List Nod} (hv : NodsR own h w S v l) : NodsR own h' w S v l := hv.imp fun _ _ _ g => rdNod_mono hh g
end Go.Proofs.YtjpgffihafknlaaGreatDoor
namespace Go.Proofs.YtjpgffihafknlaaGreatDoor
open Go.RowKit
open Go.Proofs.Qw
attribute [local go_sem] Oper.semAt_some
set_option maxRecDepth 200000 in
set_option maxHeartbeats 8000000 in
theorem leaves_any (v : Value) (l : List Cel) (w w0 : World) (S : Nat → Prop) (hv : CelsR false w0 S v l) (h0 : Below w0.heap.size w0 w) (hlen : l.length ≤ 100000) :
  Calls Tryz.prog 148 #[v] w fun e w' => ∃ v', e = .returned v' ∧ NodsR true 1 w' (fun b => w.heap.size ≤ b) v' (leavesN l) ∧ Below w.heap.size w w' := by
 have hw := SliceR.below (rdOf_stable _) hv h0
 obtain ⟨va, vc, rfl⟩ := hv.slice
 have HV := Lib.hid hw
 clear hv hw
 refine (callsIn_wide (n := 6)).1 ?_
 refine callsIn_of_wp_marks Tryz.func148 rfl trivial ?_ rfl
 simp only [Tryz.ntmps148, List.size_toArray, List.length_cons, List.length_nil, Nat.reduceAdd, Nat.reduceSub, Array.replicate_succ, Array.replicate_zero, List.push_toArray, List.append_toArray, List.nil_append, List.cons_append]
 have hwf : ∀ f, Fence.wide.fn f := fun _ => trivial
 have hwd : Fence.wide.depth = none := rfl
 gi_wp2_with (gi_at_call 133; refine (callsIn_wide.2 (partsC_any _ _ _ _ _ _)).mono ?_; rintro e w5 ⟨rfl, rfl⟩)
 obtain ⟨w6, hw6⟩ : ∃ w6, ((w.alloc (.cells #[.slice none 0 0] 23)).alloc (.cells #[.slice va l.length vc] 35)).alloc (.cells #[.func (.func 170) #[] #[]] 159) = w6 := ⟨_, rfl⟩
 rw [hw6]
 have hb6 : Below w.heap.size w w6 := hw6 ▸ (((Below.refl _ _).alloc (Nat.le_refl _) _).alloc (by simp) _).alloc (by simp; omega) _
 have hz6 : w6.heap.size = w.heap.size + 3 := by rw [← hw6]; simp
 have m0 : w6.heap[w.heap.size]? = some (.cells #[.slice none 0 0] 23) := hw6 ▸ heap_old _ _ (heap_old _ _ (heap_new _ _ rfl))
 have n0 : w6.heap[w.heap.size + 1]? = some (.cells #[.slice va l.length vc] 35) := hw6 ▸ heap_old _ _ (heap_new _ _ (by simp))
 have n1 : w6.heap[w.heap.size + 1 + 1]? = some (.cells #[.func (.func 170) #[] #[]] 159) := hw6 ▸ heap_new _ _ (by simp)
 have hPL : PL (d := l) 1 (fun p => [leafP p]) w w.heap.size w6.heap.size [] w6 := ⟨_, m0, RwX.nil _ _ _ _ _, .inl rfl, hb6, Nat.le_refl _⟩
 have N0 := Lib.hid (And.intro n0 n1)
 have hZB : w.heap.size < w6.heap.size := by omega
 have HZ6 := Lib.hid hz6
 have hB1 : w.heap.size ≤ w.heap.size := Nat.le_refl _
 have hB2 : w.heap.size < w.heap.size + 1 := Nat.lt_succ_self _
 have hB3 := hZB
 have hwZ := hb6.size
 clear hw6 m0 n0 n1 hz6
 refine rangeFunc_slotB rfl (by omega) (gf := 147) (lb := #[.pointer (some ⟨w.heap.size + 1, 0, none⟩), .pointer (some ⟨w.heap.size + 1 + 1, 0, none⟩)]) rfl trivial (enters_of Tryz.func147 (by kernel_rfl) rfl)
  (encs := partEnc (d := l) va vc 3) (n₀ := w.heap.size) (base := w.heap.size + 1) (top := w6.heap.size) (S := fun ys => ys.map (fun y => cutP l y.1) = partsBy textR l) (Sp := fun _ => True) (N := l.length) (w0 := w6) ?seq hb6.size (Below.refl _ _) (fun _ => rfl)
  (PL 1 (fun p => [leafP p]) w w.heap.size w6.heap.size) (pl_own hb6.size) hPL ?act ?assign ?body ?done
 case seq =>
  intro l' J Jx W hW hJ _ hY h0
  exact parts1_leaves 5 l' (w.heap.size + 1) (w.heap.size + 1 + 1) (w.heap.size + 1) w6.heap.size va vc l textR S J Jx w W HV.out (hb6.trans (hW.mono hb6.size)) (fun X _ x y => al_leaves x y X) ⟨by omega, by omega⟩ (by have := HZ6.out; omega) (heap_below hW N0.out.1) (heap_below hW N0.out.2) hlen hJ hY h0
 case assign =>
  intro l' pre x W K hI hK
  rw [show partEnc va vc 3 x = #[partV va vc 3 x.1] from rfl]
  gi_wp2
  exact hK
 case body =>
  intro l' pre x W hI hlt
  obtain ⟨v0, hD, hRW, hne, hb, hzW⟩ := hI
  have hpr := part_cels (HV.out.below (rdOf_stable _) hb) x
  have hpn := cut_ne x
  have hpz := cut_len x
  obtain ⟨P, hP⟩ : ∃ P, cutP l x.1 = P := ⟨_, rfl⟩
  have HT : Hid ((pre ++ [x]).flatMap (fun y => [leafP (cutP l y.1)]) = pre.flatMap (fun y => [leafP (cutP l y.1)]) ++ [leafP P]) := Lib.hid (by rw [List.flatMap_append]; simp [hP])
  rw [hP] at hpr hpn hpz
  obtain ⟨pa, pc, hpe, hpl, hpm, hpx⟩ := cels_shape hpr
  rw [hpe]
  obtain ⟨c, P', rfl⟩ : ∃ c P', P = c :: P' := by cases P with | nil => exact absurd rfl hpn | cons c P' => exact ⟨c, P', rfl⟩
  obtain ⟨bb, oo, e, hbz, c0, c1, c2⟩ := hpx 0 c rfl
  subst e
  simp only [Nat.zero_mul, Nat.add_zero] at c0 c1 c2
  have HPX := Lib.hid hpx
  obtain ⟨xs, hxs⟩ : ∃ xs, pre.flatMap (fun y : PartX l => [leafP (cutP l y.1)]) = xs := ⟨_, rfl⟩
  have hxl0 : xs.length = pre.length := by rw [← hxs, flat_one]; simp
  have hxl : xs.length + 1 ≤ 100000000 := by omega
  clear hxl0
  rw [hxs] at hRW hne HT
  have HRB := Lib.hid (rowx_block hRW hne)
  obtain ⟨sv, sc, hv0⟩ := hRW.slice
  subst hv0
  have HRW : Hid (∀ X, Below W.heap.size W X → RwX 25 4 (rdNod true 1) X w6.heap.size (.slice sv xs.length sc) xs) := Lib.hid fun X hX => RwX.below (rdNod_stable _ _) hRW (.all (by exact ⟨hX.os, hX.tape, hX.output, hX.size, fun b hz => hX.block b hz⟩))
  have HBO : Hid (∀ X, Below W.heap.size W X → X.heap[w.heap.size]? = some (.cells #[.slice sv xs.length sc] 23)) := Lib.hid fun X hX => heap_below hX hD
  have HNE := Lib.hid hne
  have HIN := Lib.hid (And.intro hb hzW)
  have HX9 := Lib.hid hxs
  obtain ⟨q0, g0⟩ := blk hD
  have i0 : (0 : Int) < (((c :: P').length : Nat) : Int) := by simp only [List.length_cons]; omega
  have hb0 : Below W.heap.size W W.drew := (Below.refl _ _).drew
  clear hpx hpr hP hpn hRW hne hxs
  by_cases h10 : c.r = 10
  ·have hq : (c.r == 10) = true := by simp [h10]
   have HE : Hid (∀ X, Below W.heap.size W X → Calls Tryz.prog 58 #[.int .i64 16, .slice none 0 0] X fun e X' => ∃ ka kc, e = .returned (.agg #[.int .i64 16, .slice none 0 0, .string ⟨#[]⟩, .slice ka 0 kc]) ∧ NodsR true 0 X' (fun b => X.heap.size ≤ b) (.slice ka 0 kc) [] ∧ Below X.heap.size X X') := Lib.hid fun X hX => by
    refine (elem_any 0 16 (.slice none 0 0) [] false X X (fun _ => True) (SliceR.nil _ _ _ _ _ _) (Below.refl _ _) (by simp) trivial).mono ?_
    rintro e X' ⟨k', h1, h2, h3⟩
    obtain ⟨ka, kc, rfl⟩ := h2.slice
    exact ⟨ka, kc, h1, h2, h3⟩
   replace HT : Hid ((pre ++ [x]).flatMap (fun y => [leafP (cutP l y.1)]) = xs ++ [brN]) := Lib.hid (by rw [HT.out, show leafP (c :: P') = brN from if_pos h10])
   gi_wp2_with fail
   refine wpIn_region_T (fun _ => True) (fun w' => w'.cell? ⟨w.heap.size, 0, none⟩ = some (.slice sv xs.length sc)) 7 (by kernel_rfl) (by kernel_rfl) (fun R hR => ?_)
   refine anyT_take (i := 0) (v := ?_) (by simp only [qA, qZ]; rfl) (by kernel_rfl) (by kernel_rfl) (by kernel_rfl) (by kernel_rfl) (fun _ _ _ h => h) (Or.inl ⟨by rfl, ?_⟩) ⟨trivial, by rw [(blk (HBO.out _ hb0)).1 0]; rfl⟩ ?_
   rotate_left 1
   ·intro w hSw; (try dsimp only at hSw); go_simp; (first | done | with_reducible rfl)
   try simp only [Act.put, qI, qX, qY]
   refine anyT_take (i := 2) (v := ?_) (by simp only [qA, qS, qZ]; rfl) (by kernel_rfl) (by kernel_rfl) (by kernel_rfl) (by kernel_rfl) (fun _ _ _ h => h) (Or.inl ⟨by rfl, ?_⟩) ⟨trivial, by rw [(blk (HBO.out _ hb0)).1 0]; rfl⟩ ?_
   rotate_left 1
   ·intro w hSw; (try dsimp only at hSw); go_simp; (first | done | with_reducible rfl)
   try simp only [Act.put, qI, qX, qY]
   refine anyT_ready (rs := [1, 3]) (by kernel_rfl) (by simp) ?_
   refine AllReadyT.cons (by simp only [qA, qS, qZ]; rfl) (fun K hK => ?_) ?_
   ·go_simp
    refine (HE.out _ hb0).mono ?_
    rintro e x1 ⟨ka, kc, rfl, hk1, hst1⟩
    have HK1 := Lib.hid hk1
    clear hk1
    have hb1 : Below W.heap.size W x1 := below_from hb0 hst1
    refine hK.out _ _ (trivial) (Or.inr (by rw [(blk (HBO.out _ hb1)).1 0]; rfl)) ?_
    clear hK K
    try simp only [Act.put, qI, qX, qY]
    refine anyT_ready (rs := [3]) (by kernel_rfl) (by simp) ?_
    refine AllReadyT.cons (by simp only [qA, qS, qZ]; rfl) (fun K hK => ?_) AllReadyT.nil
    go_simp
    obtain ⟨x2, hx2⟩ : ∃ X, (x1.alloc (.cells #[.int .i64 0, .slice none 0 0, .string ⟨#[]⟩, .slice none 0 0] 25)) = X := ⟨_, rfl⟩
    have hst2 : Below x1.heap.size x1 x2 := hx2 ▸ (Below.refl _ _).alloc (Nat.le_refl _) _
    have hz2 : x2.heap[x1.heap.size]? = some (.cells #[.int .i64 0, .slice none 0 0, .string ⟨#[]⟩, .slice none 0 0] 25) := hx2 ▸ heap_new _ _ rfl
    rw [hx2]
    clear hx2
    have hb2 : Below W.heap.size W x2 := below_from hb1 hst2
    refine hK.out _ _ (trivial) (Or.inr (by rw [(blk (HBO.out _ hb2)).1 0]; rfl)) ?_
    clear hK K
    try simp only [Act.put, qI, qX, qY]
    refine anyT_ready (rs := [4]) (by kernel_rfl) (by simp) ?_
    refine AllReadyT.cons (by simp only [qA, qS, qZ]; rfl) (fun K hK => ?_) AllReadyT.nil
    have hbs3 := hb2.size
    have HRX3 := HRW.out _ hb2
    (refine step_append_X (by rfl) _ _ 23 23 (by rfl) rowNod (eltNod 1) w6.heap.size (.slice sv xs.length sc) _ (xs := xs) (ys := [zeroN]) (news := [.int .i64 0, .slice none 0 0, .string ⟨#[]⟩, .slice none 0 0]) (by rfl) (by rfl) HRX3 (Nat.le_trans HIN.out.2 hb2.size) (src_node hz2 (oneV_node zeroN _ _ _ _ _ _) 1) (news_apart (rdNod_stable _ _) HRX3 (Nat.le_trans HIN.out.2 hb2.size) zero_news) hxl ?_)
    intro va3 y3 hra3 hba3 hga3 hor3
    obtain ⟨b3, o3, c3, la3, lc3, ka3, kc3, rfl, hbn3, hbl3, hbh3, hbf3, d0, d1, d2, d3, hcm3⟩ := rowx_last hra3
    have hap3 := app_apart hga3 hor3 HRB.out
    have HAP3 := Lib.hid (And.intro hap3 (And.intro hga3 hba3))
    clear hap3 hor3 hga3
    have HRA3 := Lib.hid hra3
    clear hra3
    have hob3 : y3.heap[w.heap.size]? = some (.cells #[.slice sv xs.length sc] 23) := (hba3.block _ (by have := hZB; have := hbs3; omega)).trans (HBO.out _ hb2)
    obtain ⟨qo3, fo3⟩ := blk hob3
    have ne3 : ¬ b3 = w.heap.size := by have := hZB; omega
    have nf3 : ¬ w.heap.size = b3 := by have := hZB; omega
    have i33 : (0 : Int) ≤ ((xs.length : Nat) : Int) := Int.natCast_nonneg _
    have i43 : ((xs.length : Nat) : Int) < ((xs.length : Nat) : Int) + 1 := by omega
    refine hK.out _ _ (trivial) (Or.inr (by rw [qo3 0]; rfl)) ?_
    clear hK K
    try simp only [Act.put, qI, qX, qY]
    refine anyT_takeA (i := 5) (v := ?_) (by simp only [qA, qS, qZ]; rfl) (by kernel_rfl) (by kernel_rfl) (by kernel_rfl) (by kernel_rfl) (fun _ _ _ h => h) (Or.inl ⟨by rfl, ?_⟩) (trivial) (Or.inr (by rw [qo3 0]; rfl)) ?_
    rotate_left 1
    ·intro w hSw; (try dsimp only at hSw); go_simp; (first | done | with_reducible rfl)
    try simp only [Act.put, qI, qX, qY]
    refine anyT_ready (rs := [6, 7]) (by kernel_rfl) (by simp) ?_
    refine AllReadyT.cons (by simp only [qA, qS, qZ]; rfl) (fun K hK => ?_) ?_
    ·go_simp
     refine hK.out _ _ (trivial) (Or.inr ((setCell_block ne3).trans ((setCell_block ne3).trans ((setCell_block ne3).trans ((setCell_block ne3).trans (by rw [qo3 0]; rfl)))))) ?_
     clear hK K
     try simp only [Act.put, qI, qX, qY]
     refine anyT_ready (rs := [7]) (by kernel_rfl) (by simp) ?_
     refine AllReadyT.cons (by simp only [qA, qS, qZ]; rfl) (fun K hK => ?_) AllReadyT.nil
     go_simp
     refine hK.out _ _ (trivial) (Or.inl (by kernel_rfl)) ?_
     clear hK K
     try simp only [Act.put, qI, qX, qY]
     refine anyT_done (by kernel_rfl) ?_ _
     refine hR.out _ _ ?_
     have hnode := node_ready (h := 0) (n := brN) (SliceR.nil _ _ _ _ _ _) (HK1.out.stable (rdNod_stable _ _) (Keeps.refl _ _) (fun d h _ => Nat.le_trans hb0.size h)) (below_from (Below.refl _ _) hst2) HAP3.out.1.1 HAP3.out.1.2 HIN.out.2
     have hfin := put_done (F := fun p => [leafP p]) HIN.out.1 HIN.out.2 hB1 hB2 hB3 hwZ hb2 HRA3.out HAP3.out.2.2 HAP3.out.2.1 HRX3 HNE.out hbn3 hnode hob3 HT.out
     gi_wp2_with fail
     exact ⟨hfin.1 _, hfin.2⟩
    refine AllReadyT.cons (by simp only [qA, qS, qZ]; rfl) (fun K hK => ?_) ?_
    ·go_simp
     refine hK.out _ _ (trivial) (Or.inl (by kernel_rfl)) ?_
     clear hK K
     try simp only [Act.put, qI, qX, qY]
     refine anyT_ready (rs := [6]) (by kernel_rfl) (by simp) ?_
     refine AllReadyT.cons (by simp only [qA, qS, qZ]; rfl) (fun K hK => ?_) AllReadyT.nil
     go_simp
     refine hK.out _ _ (trivial) (Or.inl (by kernel_rfl)) ?_
     clear hK K
     try simp only [Act.put, qI, qX, qY]
     refine anyT_done (by kernel_rfl) ?_ _
     refine hR.out _ _ ?_
     have hnode := node_ready (h := 0) (n := brN) (SliceR.nil _ _ _ _ _ _) (HK1.out.stable (rdNod_stable _ _) (Keeps.refl _ _) (fun d h _ => Nat.le_trans hb0.size h)) (below_from (Below.refl _ _) hst2) HAP3.out.1.1 HAP3.out.1.2 HIN.out.2
     have hfin := put_done2 (F := fun p => [leafP p]) HIN.out.1 HIN.out.2 hB1 hB2 hB3 hwZ hb2 HRA3.out HAP3.out.2.2 HAP3.out.2.1 HRX3 HNE.out hbn3 hnode hob3 HT.out
     gi_wp2_with fail
     exact ⟨hfin.1 _, hfin.2⟩
    exact AllReadyT.nil
   refine AllReadyT.cons (by simp only [qA, qS, qZ]; rfl) (fun K hK => ?_) ?_
   ·go_simp
    obtain ⟨x8, hx8⟩ : ∃ X, (W.alloc (.cells #[.int .i64 0, .slice none 0 0, .string ⟨#[]⟩, .slice none 0 0] 25)).drew = X := ⟨_, rfl⟩
    have hst8 : Below W.heap.size W x8 := hx8 ▸ ((Below.refl _ _).alloc (Nat.le_refl _) _).drew
    have hz8 : x8.heap[W.heap.size]? = some (.cells #[.int .i64 0, .slice none 0 0, .string ⟨#[]⟩, .slice none 0 0] 25) := hx8 ▸ (show ((W.alloc (.cells #[.int .i64 0, .slice none 0 0, .string ⟨#[]⟩, .slice none 0 0] 25)).drew).heap[W.heap.size]? = _ from heap_new _ _ rfl)
    rw [hx8]
    clear hx8
    have hb8 : Below W.heap.size W x8 := hst8
    refine hK.out _ _ (trivial) (Or.inr (by rw [(blk (HBO.out _ hb8)).1 0]; rfl)) ?_
    clear hK K
    try simp only [Act.put, qI, qX, qY]
    refine anyT_ready (rs := [1]) (by kernel_rfl) (by simp) ?_
    refine AllReadyT.cons (by simp only [qA, qS, qZ]; rfl) (fun K hK => ?_) AllReadyT.nil
    go_simp
    refine (HE.out _ hb8).mono ?_
    rintro e x9 ⟨ka, kc, rfl, hk9, hst9⟩
    have HK9 := Lib.hid hk9
    clear hk9
    have hb9 : Below W.heap.size W x9 := below_from hb8 hst9
    have hz9 := heap_below hst9 hz8
    refine hK.out _ _ (trivial) (Or.inr (by rw [(blk (HBO.out _ hb9)).1 0]; rfl)) ?_
    clear hK K
    try simp only [Act.put, qI, qX, qY]
    refine anyT_ready (rs := [4]) (by kernel_rfl) (by simp) ?_
    refine AllReadyT.cons (by simp only [qA, qS, qZ]; rfl) (fun K hK => ?_) AllReadyT.nil
    have hbs10 := hb9.size
    have HRX10 := HRW.out _ hb9
    (refine step_append_X (by rfl) _ _ 23 23 (by rfl) rowNod (eltNod 1) w6.heap.size (.slice sv xs.length sc) _ (xs := xs) (ys := [zeroN]) (news := [.int .i64 0, .slice none 0 0, .string ⟨#[]⟩, .slice none 0 0]) (by rfl) (by rfl) HRX10 (Nat.le_trans HIN.out.2 hb9.size) (src_node hz9 (oneV_node zeroN _ _ _ _ _ _) 1) (news_apart (rdNod_stable _ _) HRX10 (Nat.le_trans HIN.out.2 hb9.size) zero_news) hxl ?_)
    intro va10 y10 hra10 hba10 hga10 hor10
    obtain ⟨b10, o10, c10, la10, lc10, ka10, kc10, rfl, hbn10, hbl10, hbh10, hbf10, d0, d1, d2, d3, hcm10⟩ := rowx_last hra10
    have hap10 := app_apart hga10 hor10 HRB.out
    have HAP10 := Lib.hid (And.intro hap10 (And.intro hga10 hba10))
    clear hap10 hor10 hga10
    have HRA10 := Lib.hid hra10
    clear hra10
    have hob10 : y10.heap[w.heap.size]? = some (.cells #[.slice sv xs.length sc] 23) := (hba10.block _ (by have := hZB; have := hbs10; omega)).trans (HBO.out _ hb9)
    obtain ⟨qo10, fo10⟩ := blk hob10
    have ne10 : ¬ b10 = w.heap.size := by have := hZB; omega
    have nf10 : ¬ w.heap.size = b10 := by have := hZB; omega
    have i310 : (0 : Int) ≤ ((xs.length : Nat) : Int) := Int.natCast_nonneg _
    have i410 : ((xs.length : Nat) : Int) < ((xs.length : Nat) : Int) + 1 := by omega
    refine hK.out _ _ (trivial) (Or.inr (by rw [qo10 0]; rfl)) ?_
    clear hK K
    try simp only [Act.put, qI, qX, qY]
    refine anyT_takeA (i := 5) (v := ?_) (by simp only [qA, qS, qZ]; rfl) (by kernel_rfl) (by kernel_rfl) (by kernel_rfl) (by kernel_rfl) (fun _ _ _ h => h) (Or.inl ⟨by rfl, ?_⟩) (trivial) (Or.inr (by rw [qo10 0]; rfl)) ?_
    rotate_left 1
    ·intro w hSw; (try dsimp only at hSw); go_simp; (first | done | with_reducible rfl)
    try simp only [Act.put, qI, qX, qY]
    refine anyT_ready (rs := [6, 7]) (by kernel_rfl) (by simp) ?_
    refine AllReadyT.cons (by simp only [qA, qS, qZ]; rfl) (fun K hK => ?_) ?_
    ·go_simp
     refine hK.out _ _ (trivial) (Or.inr ((setCell_block ne10).trans ((setCell_block ne10).trans ((setCell_block ne10).trans ((setCell_block ne10).trans (by rw [qo10 0]; rfl)))))) ?_
     clear hK K
     try simp only [Act.put, qI, qX, qY]
     refine anyT_ready (rs := [7]) (by kernel_rfl) (by simp) ?_
     refine AllReadyT.cons (by simp only [qA, qS, qZ]; rfl) (fun K hK => ?_) AllReadyT.nil
     go_simp
     refine hK.out _ _ (trivial) (Or.inl (by kernel_rfl)) ?_
     clear hK K
     try simp only [Act.put, qI, qX, qY]
     refine anyT_done (by kernel_rfl) ?_ _
     refine hR.out _ _ ?_
     have hnode := node_ready (h := 0) (n := brN) (SliceR.nil _ _ _ _ _ _) (HK9.out.stable (rdNod_stable _ _) (Keeps.refl _ _) (fun d h _ => Nat.le_trans hb8.size h)) (Below.refl _ _) HAP10.out.1.1 HAP10.out.1.2 HIN.out.2
     have hfin := put_done (F := fun p => [leafP p]) HIN.out.1 HIN.out.2 hB1 hB2 hB3 hwZ hb9 HRA10.out HAP10.out.2.2 HAP10.out.2.1 HRX10 HNE.out hbn10 hnode hob10 HT.out
     gi_wp2_with fail
     exact ⟨hfin.1 _, hfin.2⟩
    refine AllReadyT.cons (by simp only [qA, qS, qZ]; rfl) (fun K hK => ?_) ?_
    ·go_simp
     refine hK.out _ _ (trivial) (Or.inl (by kernel_rfl)) ?_
     clear hK K
     try simp only [Act.put, qI, qX, qY]
     refine anyT_ready (rs := [6]) (by kernel_rfl) (by simp) ?_
     refine AllReadyT.cons (by simp only [qA, qS, qZ]; rfl) (fun K hK => ?_) AllReadyT.nil
     go_simp
     refine hK.out _ _ (trivial) (Or.inl (by kernel_rfl)) ?_
     clear hK K
     try simp only [Act.put, qI, qX, qY]
     refine anyT_done (by kernel_rfl) ?_ _
     refine hR.out _ _ ?_
     have hnode := node_ready (h := 0) (n := brN) (SliceR.nil _ _ _ _ _ _) (HK9.out.stable (rdNod_stable _ _) (Keeps.refl _ _) (fun d h _ => Nat.le_trans hb8.size h)) (Below.refl _ _) HAP10.out.1.1 HAP10.out.1.2 HIN.out.2
     have hfin := put_done2 (F := fun p => [leafP p]) HIN.out.1 HIN.out.2 hB1 hB2 hB3 hwZ hb9 HRA10.out HAP10.out.2.2 HAP10.out.2.1 HRX10 HNE.out hbn10 hnode hob10 HT.out
     gi_wp2_with fail
     exact ⟨hfin.1 _, hfin.2⟩
    exact AllReadyT.nil
   exact AllReadyT.nil
  ·have hq : (c.r == 10) = false := by simp [h10]
   replace HT : Hid ((pre ++ [x]).flatMap (fun y => [leafP (cutP l y.1)]) = xs ++ [txtN ((c :: P').map (·.r))]) := Lib.hid (by rw [HT.out, show leafP (c :: P') = txtN ((c :: P').map (·.r)) from if_neg h10])
   obtain ⟨P, hP⟩ : ∃ P, c :: P' = P := ⟨_, rfl⟩
   rw [hP] at HT HPX hpl hpz i0 ⊢
   clear hP h10
   unfold maxLen at hpm
   gi_wp2_with fail
   gi_loopw [5, 7, 24] (fun s _ i wr => ∃ (k : Nat) (sv5 : Value), k ≤ P.length ∧ i = .int .i64 k ∧ s = sv5 ∧ Hid (RunesR true wr (fun b => W.heap.size ≤ b) sv5 ((P.take k).map (·.r))) ∧ Hid (Below W.heap.size W wr)) (fun _ _ i _ => P.length - (intOf i).toNat)
   case atStart => exact ⟨0, _, Nat.zero_le _, rfl, rfl, Lib.hid (SliceR.nil _ _ _ _ _ _), Lib.hid (Below.refl _ _)⟩
   case round =>
    obtain ⟨k, sv5, hk, rfl, rfl, HS, HBr⟩ := hrel
    obtain ⟨sa5, sc5, he5⟩ := HS.out.slice
    subst he5
    by_cases hlt2 : k < P.length
    ·obtain ⟨y, hy, _⟩ := getOf P k hlt2
     obtain ⟨b2, o2, e2, hz2, d0, d1, d2⟩ := HPX.out k y hy
     cases e2
     have d0 := (HBr.out.cell (p := ⟨bb, oo + k * 3, none⟩) hz2).trans d0
     have d1 := (HBr.out.cell (p := ⟨bb, oo + k * 3 + 1, none⟩) hz2).trans d1
     have d2 := (HBr.out.cell (p := ⟨bb, oo + k * 3 + 2, none⟩) hz2).trans d2
     have j0 : (0 : Int) ≤ (k : Int) := Int.natCast_nonneg _
     have j1 : (k : Int) < (P.length : Int) := by omega
     have HT2 := Lib.hid (by rw [take_some hy, List.map_append]; rfl : (P.take (k + 1)).map (·.r) = (P.take k).map (·.r) ++ [y.r])
     have hrs := HBr.out.size
     have HRS := Lib.hid hrs
     have hrl : ((P.take k).map (·.r)).length + 1 ≤ 100000000 := by rw [List.length_map, List.length_take]; omega
     have HSX : Hid (∀ X, Below wr.heap.size wr X → RunesR true X (fun b => W.heap.size ≤ b) (.slice sa5 ((P.take k).map (·.r)).length sc5) ((P.take k).map (·.r))) := Lib.hid fun X hX => HS.out.stable (rdOf_stable _) (.all hX) (fun _ h _ => h)
     have hwl : bb < wr.heap.size := by omega
     generalize hrr : (P.take k).map (·.r) = rr at *
     clear hy hrr
     gi_wp2_with (gi_at_builtin; go_must (refine wpListIn_append_R _ rfl _ _ 90 90 rfl rowRn eltRn W.heap.size (.slice sa5 rr.length sc5) _ (xs := rr) (ys := [y.r]) (news := [.int .i32 y.r]) rfl rfl (HSX.out _ (by go_grown)) (by simp; omega) (src_rn _ _ 1 (by simp)) (NewsR.one rfl rfl) hrl ?_); intro v' w8 hR8 hB8 _ _; rw [← HT2.out] at hR8; have HR8 := Lib.hid hR8; have HB8 := Lib.hid hB8; clear hR8 hB8)
     go_roundw
     case rel =>
      refine ⟨k + 1, _, hlt2, by go_num, rfl, HR8, Lib.hid (Below.trans (below_from HBr.out ?_) HB8.out)⟩
      go_grown
     case measure => simp [intOf]; omega
    ·have hkP : k = P.length := by omega
     rw [hkP, List.take_length] at HS
     rw [hkP, List.take_length]
     clear hkP hlt2
     generalize hrr : P.map (·.r) = rr at *
     clear hrr
     have HTx : Hid (∀ X, Below wr.heap.size wr X → Calls Tryz.prog 172 #[.slice sa5 rr.length sc5] X fun e X' => e = .returned (.string ⟨(txtL rr).toArray⟩) ∧ Below X.heap.size X X') := Lib.hid fun X hX => by
      have := textOf_any _ rr X _ ((HS.out.read (fun _ _ g => g)).below (rdOf_stable _) hX)
      rw [show runesBytes rr = ⟨(txtL rr).toArray⟩ by unfold txtL; rw [← runesBytes_eq]] at this
      exact this
     have HTn : Hid (∀ X, Calls Tryz.prog 171 #[.string ⟨(txtL rr).toArray⟩] X fun e X' => e = .returned (.agg #[.int .i64 0, .slice none 0 0, .string ⟨(txtL rr).toArray⟩, .slice none 0 0]) ∧ Below X.heap.size X X') := Lib.hid fun X => text_node (txtL rr) X
     have hb0 : Below W.heap.size W wr.drew := HBr.out.drew
     have hr0 : Below wr.heap.size wr wr.drew := (Below.refl _ _).drew
     have q0 := (blk (HBO.out _ HBr.out)).1
     have g0 := (blk (HBO.out _ HBr.out)).2
     gi_wp2_with fail
     refine wpIn_region_T (fun _ => True) (fun w' => w'.cell? ⟨w.heap.size, 0, none⟩ = some (.slice sv xs.length sc)) 9 (by kernel_rfl) (by kernel_rfl) (fun R hR => ?_)
     refine anyT_take (i := 0) (v := ?_) (by simp only [qA, qZ]; rfl) (by kernel_rfl) (by kernel_rfl) (by kernel_rfl) (by kernel_rfl) (fun _ _ _ h => h) (Or.inl ⟨by rfl, ?_⟩) ⟨trivial, by rw [(blk (HBO.out _ hb0)).1 0]; rfl⟩ ?_
     rotate_left 1
     ·intro w hSw; (try dsimp only at hSw); go_simp; (first | done | with_reducible rfl)
     try simp only [Act.put, qI, qX, qY]
     refine anyT_takeA (i := 1) (v := ?_) (by simp only [qA, qS, qZ]; rfl) (by kernel_rfl) (by kernel_rfl) (by kernel_rfl) (by kernel_rfl) (fun _ _ _ h => h) (Or.inl ⟨by rfl, ?_⟩) (trivial) (Or.inr (by rw [(blk (HBO.out _ hb0)).1 0]; rfl)) ?_
     rotate_left 1
     ·intro w hSw; (try dsimp only at hSw); go_simp; (first | done | with_reducible rfl)
     try simp only [Act.put, qI, qX, qY]
     refine anyT_take (i := 4) (v := ?_) (by simp only [qA, qS, qZ]; rfl) (by kernel_rfl) (by kernel_rfl) (by kernel_rfl) (by kernel_rfl) (fun _ _ _ h => h) (Or.inl ⟨by rfl, ?_⟩) ⟨trivial, by rw [(blk (HBO.out _ hb0)).1 0]; rfl⟩ ?_
     rotate_left 1
     ·intro w hSw; (try dsimp only at hSw); go_simp; (first | done | with_reducible rfl)
     try simp only [Act.put, qI, qX, qY]
     refine anyT_ready (rs := [2, 5]) (by kernel_rfl) (by simp) ?_
     refine AllReadyT.cons (by simp only [qA, qS, qZ]; rfl) (fun K hK => ?_) ?_
     ·go_simp
      refine (HTx.out _ hr0).mono ?_
      rintro e x1 ⟨rfl, hst1⟩
      have hb1 : Below W.heap.size W x1 := below_from hb0 hst1
      have hr1 : Below wr.heap.size wr x1 := below_from hr0 hst1
      refine hK.out _ _ (trivial) (Or.inr (by rw [(blk (HBO.out _ hb1)).1 0]; rfl)) ?_
      clear hK K
      try simp only [Act.put, qI, qX, qY]
      refine anyT_ready (rs := [3, 5]) (by kernel_rfl) (by simp) ?_
      refine AllReadyT.cons (by simp only [qA, qS, qZ]; rfl) (fun K hK => ?_) ?_
      ·go_simp
       refine (HTn.out _).mono ?_
       rintro e x2 ⟨rfl, hst2⟩
       have hb2 : Below W.heap.size W x2 := below_from hb1 hst2
       have hr2 : Below wr.heap.size wr x2 := below_from hr1 hst2
       refine hK.out _ _ (trivial) (Or.inr (by rw [(blk (HBO.out _ hb2)).1 0]; rfl)) ?_
       clear hK K
       try simp only [Act.put, qI, qX, qY]
       refine anyT_ready (rs := [5]) (by kernel_rfl) (by simp) ?_
       refine AllReadyT.cons (by simp only [qA, qS, qZ]; rfl) (fun K hK => ?_) AllReadyT.nil
       go_simp
       obtain ⟨x3, hx3⟩ : ∃ X, (x2.alloc (.cells #[.int .i64 0, .slice none 0 0, .string ⟨#[]⟩, .slice none 0 0] 25)) = X := ⟨_, rfl⟩
       have hst3 : Below x2.heap.size x2 x3 := hx3 ▸ (Below.refl _ _).alloc (Nat.le_refl _) _
       have hz3 : x3.heap[x2.heap.size]? = some (.cells #[.int .i64 0, .slice none 0 0, .string ⟨#[]⟩, .slice none 0 0] 25) := hx3 ▸ heap_new _ _ rfl
       rw [hx3]
       clear hx3
       have hb3 : Below W.heap.size W x3 := below_from hb2 hst3
       have hr3 : Below wr.heap.size wr x3 := below_from hr2 hst3
       refine hK.out _ _ (trivial) (Or.inr (by rw [(blk (HBO.out _ hb3)).1 0]; rfl)) ?_
       clear hK K
       try simp only [Act.put, qI, qX, qY]
       refine anyT_ready (rs := [6]) (by kernel_rfl) (by simp) ?_
       refine AllReadyT.cons (by simp only [qA, qS, qZ]; rfl) (fun K hK => ?_) AllReadyT.nil
       have hbs4 := hb3.size
       have HRX4 := HRW.out _ hb3
       (refine step_append_X (by rfl) _ _ 23 23 (by rfl) rowNod (eltNod 1) w6.heap.size (.slice sv xs.length sc) _ (xs := xs) (ys := [zeroN]) (news := [.int .i64 0, .slice none 0 0, .string ⟨#[]⟩, .slice none 0 0]) (by rfl) (by rfl) HRX4 (Nat.le_trans HIN.out.2 hb3.size) (src_node hz3 (oneV_node zeroN _ _ _ _ _ _) 1) (news_apart (rdNod_stable _ _) HRX4 (Nat.le_trans HIN.out.2 hb3.size) zero_news) hxl ?_)
       intro va4 y4 hra4 hba4 hga4 hor4
       obtain ⟨b4, o4, c4, la4, lc4, ka4, kc4, rfl, hbn4, hbl4, hbh4, hbf4, d0, d1, d2, d3, hcm4⟩ := rowx_last hra4
       have hap4 := app_apart hga4 hor4 HRB.out
       have HAP4 := Lib.hid (And.intro hap4 (And.intro hga4 hba4))
       clear hap4 hor4 hga4
       have HRA4 := Lib.hid hra4
       clear hra4
       have hob4 : y4.heap[w.heap.size]? = some (.cells #[.slice sv xs.length sc] 23) := (hba4.block _ (by have := hZB; have := hbs4; omega)).trans (HBO.out _ hb3)
       obtain ⟨qo4, fo4⟩ := blk hob4
       have ne4 : ¬ b4 = w.heap.size := by have := hZB; omega
       have nf4 : ¬ w.heap.size = b4 := by have := hZB; omega
       have i34 : (0 : Int) ≤ ((xs.length : Nat) : Int) := Int.natCast_nonneg _
       have i44 : ((xs.length : Nat) : Int) < ((xs.length : Nat) : Int) + 1 := by omega
       refine hK.out _ _ (trivial) (Or.inr (by rw [qo4 0]; rfl)) ?_
       clear hK K
       try simp only [Act.put, qI, qX, qY]
       refine anyT_takeA (i := 7) (v := ?_) (by simp only [qA, qS, qZ]; rfl) (by kernel_rfl) (by kernel_rfl) (by kernel_rfl) (by kernel_rfl) (fun _ _ _ h => h) (Or.inl ⟨by rfl, ?_⟩) (trivial) (Or.inr (by rw [qo4 0]; rfl)) ?_
       rotate_left 1
       ·intro w hSw; (try dsimp only at hSw); go_simp; (first | done | with_reducible rfl)
       try simp only [Act.put, qI, qX, qY]
       refine anyT_ready (rs := [8, 9]) (by kernel_rfl) (by simp) ?_
       refine AllReadyT.cons (by simp only [qA, qS, qZ]; rfl) (fun K hK => ?_) ?_
       ·go_simp
        refine hK.out _ _ (trivial) (Or.inr ((setCell_block ne4).trans ((setCell_block ne4).trans ((setCell_block ne4).trans ((setCell_block ne4).trans (by rw [qo4 0]; rfl)))))) ?_
        clear hK K
        try simp only [Act.put, qI, qX, qY]
        refine anyT_ready (rs := [9]) (by kernel_rfl) (by simp) ?_
        refine AllReadyT.cons (by simp only [qA, qS, qZ]; rfl) (fun K hK => ?_) AllReadyT.nil
        go_simp
        refine hK.out _ _ (trivial) (Or.inl (by kernel_rfl)) ?_
        clear hK K
        try simp only [Act.put, qI, qX, qY]
        refine anyT_done (by kernel_rfl) ?_ _
        refine hR.out _ _ ?_
        have hnode := node_ready (h := 0) (n := txtN rr) (SliceR.nil _ _ _ _ _ _) (SliceR.nil _ _ _ _ _ _) (below_from (Below.refl _ _) hst3) HAP4.out.1.1 HAP4.out.1.2 HIN.out.2
        have hfin := put_done (F := fun p => [leafP p]) HIN.out.1 HIN.out.2 hB1 hB2 hB3 hwZ hb3 HRA4.out HAP4.out.2.2 HAP4.out.2.1 HRX4 HNE.out hbn4 hnode hob4 HT.out
        gi_wp2_with fail
        exact ⟨hfin.1 _, hfin.2⟩
       refine AllReadyT.cons (by simp only [qA, qS, qZ]; rfl) (fun K hK => ?_) ?_
       ·go_simp
        refine hK.out _ _ (trivial) (Or.inl (by kernel_rfl)) ?_
        clear hK K
        try simp only [Act.put, qI, qX, qY]
        refine anyT_ready (rs := [8]) (by kernel_rfl) (by simp) ?_
        refine AllReadyT.cons (by simp only [qA, qS, qZ]; rfl) (fun K hK => ?_) AllReadyT.nil
        go_simp
        refine hK.out _ _ (trivial) (Or.inl (by kernel_rfl)) ?_
        clear hK K
        try simp only [Act.put, qI, qX, qY]
        refine anyT_done (by kernel_rfl) ?_ _
        refine hR.out _ _ ?_
        have hnode := node_ready (h := 0) (n := txtN rr) (SliceR.nil _ _ _ _ _ _) (SliceR.nil _ _ _ _ _ _) (below_from (Below.refl _ _) hst3) HAP4.out.1.1 HAP4.out.1.2 HIN.out.2
        have hfin := put_done2 (F := fun p => [leafP p]) HIN.out.1 HIN.out.2 hB1 hB2 hB3 hwZ hb3 HRA4.out HAP4.out.2.2 HAP4.out.2.1 HRX4 HNE.out hbn4 hnode hob4 HT.out
        gi_wp2_with fail
        exact ⟨hfin.1 _, hfin.2⟩
       exact AllReadyT.nil
      refine AllReadyT.cons (by simp only [qA, qS, qZ]; rfl) (fun K hK => ?_) ?_
      ·go_simp
       obtain ⟨x9, hx9⟩ : ∃ X, (x1.alloc (.cells #[.int .i64 0, .slice none 0 0, .string ⟨#[]⟩, .slice none 0 0] 25)) = X := ⟨_, rfl⟩
       have hst9 : Below x1.heap.size x1 x9 := hx9 ▸ (Below.refl _ _).alloc (Nat.le_refl _) _
       have hz9 : x9.heap[x1.heap.size]? = some (.cells #[.int .i64 0, .slice none 0 0, .string ⟨#[]⟩, .slice none 0 0] 25) := hx9 ▸ heap_new _ _ rfl
       rw [hx9]
       clear hx9
       have hb9 : Below W.heap.size W x9 := below_from hb1 hst9
       have hr9 : Below wr.heap.size wr x9 := below_from hr1 hst9
       refine hK.out _ _ (trivial) (Or.inr (by rw [(blk (HBO.out _ hb9)).1 0]; rfl)) ?_
       clear hK K
       try simp only [Act.put, qI, qX, qY]
       refine anyT_ready (rs := [3]) (by kernel_rfl) (by simp) ?_
       refine AllReadyT.cons (by simp only [qA, qS, qZ]; rfl) (fun K hK => ?_) AllReadyT.nil
       go_simp
       refine (HTn.out _).mono ?_
       rintro e x10 ⟨rfl, hst10⟩
       have hb10 : Below W.heap.size W x10 := below_from hb9 hst10
       have hr10 : Below wr.heap.size wr x10 := below_from hr9 hst10
       have hz10 := heap_below hst10 hz9
       refine hK.out _ _ (trivial) (Or.inr (by rw [(blk (HBO.out _ hb10)).1 0]; rfl)) ?_
       clear hK K
       try simp only [Act.put, qI, qX, qY]
       refine anyT_ready (rs := [6]) (by kernel_rfl) (by simp) ?_
       refine AllReadyT.cons (by simp only [qA, qS, qZ]; rfl) (fun K hK => ?_) AllReadyT.nil
       have hbs11 := hb10.size
       have HRX11 := HRW.out _ hb10
       (refine step_append_X (by rfl) _ _ 23 23 (by rfl) rowNod (eltNod 1) w6.heap.size (.slice sv xs.length sc) _ (xs := xs) (ys := [zeroN]) (news := [.int .i64 0, .slice none 0 0, .string ⟨#[]⟩, .slice none 0 0]) (by rfl) (by rfl) HRX11 (Nat.le_trans HIN.out.2 hb10.size) (src_node hz10 (oneV_node zeroN _ _ _ _ _ _) 1) (news_apart (rdNod_stable _ _) HRX11 (Nat.le_trans HIN.out.2 hb10.size) zero_news) hxl ?_)
       intro va11 y11 hra11 hba11 hga11 hor11
       obtain ⟨b11, o11, c11, la11, lc11, ka11, kc11, rfl, hbn11, hbl11, hbh11, hbf11, d0, d1, d2, d3, hcm11⟩ := rowx_last hra11
       have hap11 := app_apart hga11 hor11 HRB.out
       have HAP11 := Lib.hid (And.intro hap11 (And.intro hga11 hba11))
       clear hap11 hor11 hga11
       have HRA11 := Lib.hid hra11
       clear hra11
       have hob11 : y11.heap[w.heap.size]? = some (.cells #[.slice sv xs.length sc] 23) := (hba11.block _ (by have := hZB; have := hbs11; omega)).trans (HBO.out _ hb10)
       obtain ⟨qo11, fo11⟩ := blk hob11
       have ne11 : ¬ b11 = w.heap.size := by have := hZB; omega
       have nf11 : ¬ w.heap.size = b11 := by have := hZB; omega
       have i311 : (0 : Int) ≤ ((xs.length : Nat) : Int) := Int.natCast_nonneg _
       have i411 : ((xs.length : Nat) : Int) < ((xs.length : Nat) : Int) + 1 := by omega
       refine hK.out _ _ (trivial) (Or.inr (by rw [qo11 0]; rfl)) ?_
       clear hK K
       try simp only [Act.put, qI, qX, qY]
       refine anyT_takeA (i := 7) (v := ?_) (by simp only [qA, qS, qZ]; rfl) (by kernel_rfl) (by kernel_rfl) (by kernel_rfl) (by kernel_rfl) (fun _ _ _ h => h) (Or.inl ⟨by rfl, ?_⟩) (trivial) (Or.inr (by rw [qo11 0]; rfl)) ?_
       rotate_left 1
       ·intro w hSw; (try dsimp only at hSw); go_simp; (first | done | with_reducible rfl)
       try simp only [Act.put, qI, qX, qY]
       refine anyT_ready (rs := [8, 9]) (by kernel_rfl) (by simp) ?_
       refine AllReadyT.cons (by simp only [qA, qS, qZ]; rfl) (fun K hK => ?_) ?_
       ·go_simp
        refine hK.out _ _ (trivial) (Or.inr ((setCell_block ne11).trans ((setCell_block ne11).trans ((setCell_block ne11).trans ((setCell_block ne11).trans (by rw [qo11 0]; rfl)))))) ?_
        clear hK K
        try simp only [Act.put, qI, qX, qY]
        refine anyT_ready (rs := [9]) (by kernel_rfl) (by simp) ?_
        refine AllReadyT.cons (by simp only [qA, qS, qZ]; rfl) (fun K hK => ?_) AllReadyT.nil
        go_simp
        refine hK.out _ _ (trivial) (Or.inl (by kernel_rfl)) ?_
        clear hK K
        try simp only [Act.put, qI, qX, qY]
        refine anyT_done (by kernel_rfl) ?_ _
        refine hR.out _ _ ?_
        have hnode := node_ready (h := 0) (n := txtN rr) (SliceR.nil _ _ _ _ _ _) (SliceR.nil _ _ _ _ _ _) (Below.refl _ _) HAP11.out.1.1 HAP11.out.1.2 HIN.out.2
        have hfin := put_done (F := fun p => [leafP p]) HIN.out.1 HIN.out.2 hB1 hB2 hB3 hwZ hb10 HRA11.out HAP11.out.2.2 HAP11.out.2.1 HRX11 HNE.out hbn11 hnode hob11 HT.out
        gi_wp2_with fail
        exact ⟨hfin.1 _, hfin.2⟩
       refine AllReadyT.cons (by simp only [qA, qS, qZ]; rfl) (fun K hK => ?_) ?_
       ·go_simp
        refine hK.out _ _ (trivial) (Or.inl (by kernel_rfl)) ?_
        clear hK K
        try simp only [Act.put, qI, qX, qY]
        refine anyT_ready (rs := [8]) (by kernel_rfl) (by simp) ?_
        refine AllReadyT.cons (by simp only [qA, qS, qZ]; rfl) (fun K hK => ?_) AllReadyT.nil
        go_simp
        refine hK.out _ _ (trivial) (Or.inl (by kernel_rfl)) ?_
        clear hK K
        try simp only [Act.put, qI, qX, qY]
        refine anyT_done (by kernel_rfl) ?_ _
        refine hR.out _ _ ?_
        have hnode := node_ready (h := 0) (n := txtN rr) (SliceR.nil _ _ _ _ _ _) (SliceR.nil _ _ _ _ _ _) (Below.refl _ _) HAP11.out.1.1 HAP11.out.1.2 HIN.out.2
        have hfin := put_done2 (F := fun p => [leafP p]) HIN.out.1 HIN.out.2 hB1 hB2 hB3 hwZ hb10 HRA11.out HAP11.out.2.2 HAP11.out.2.1 HRX11 HNE.out hbn11 hnode hob11 HT.out
        gi_wp2_with fail
        exact ⟨hfin.1 _, hfin.2⟩
       exact AllReadyT.nil
      exact AllReadyT.nil
     refine AllReadyT.cons (by simp only [qA, qS, qZ]; rfl) (fun K hK => ?_) ?_
     ·go_simp
      obtain ⟨x16, hx16⟩ : ∃ X, (wr.alloc (.cells #[.int .i64 0, .slice none 0 0, .string ⟨#[]⟩, .slice none 0 0] 25)).drew = X := ⟨_, rfl⟩
      have hst16 : Below wr.heap.size wr x16 := hx16 ▸ ((Below.refl _ _).alloc (Nat.le_refl _) _).drew
      have hz16 : x16.heap[wr.heap.size]? = some (.cells #[.int .i64 0, .slice none 0 0, .string ⟨#[]⟩, .slice none 0 0] 25) := hx16 ▸ (show ((wr.alloc (.cells #[.int .i64 0, .slice none 0 0, .string ⟨#[]⟩, .slice none 0 0] 25)).drew).heap[wr.heap.size]? = _ from heap_new _ _ rfl)
      rw [hx16]
      clear hx16
      have hb16 : Below W.heap.size W x16 := below_from HBr.out hst16
      have hr16 : Below wr.heap.size wr x16 := hst16
      refine hK.out _ _ (trivial) (Or.inr (by rw [(blk (HBO.out _ hb16)).1 0]; rfl)) ?_
      clear hK K
      try simp only [Act.put, qI, qX, qY]
      refine anyT_ready (rs := [2]) (by kernel_rfl) (by simp) ?_
      refine AllReadyT.cons (by simp only [qA, qS, qZ]; rfl) (fun K hK => ?_) AllReadyT.nil
      go_simp
      refine (HTx.out _ hr16).mono ?_
      rintro e x17 ⟨rfl, hst17⟩
      have hb17 : Below W.heap.size W x17 := below_from hb16 hst17
      have hr17 : Below wr.heap.size wr x17 := below_from hr16 hst17
      have hz17 := heap_below hst17 hz16
      refine hK.out _ _ (trivial) (Or.inr (by rw [(blk (HBO.out _ hb17)).1 0]; rfl)) ?_
      clear hK K
      try simp only [Act.put, qI, qX, qY]
      refine anyT_ready (rs := [3]) (by kernel_rfl) (by simp) ?_
      refine AllReadyT.cons (by simp only [qA, qS, qZ]; rfl) (fun K hK => ?_) AllReadyT.nil
      go_simp
      refine (HTn.out _).mono ?_
      rintro e x18 ⟨rfl, hst18⟩
      have hb18 : Below W.heap.size W x18 := below_from hb17 hst18
      have hr18 : Below wr.heap.size wr x18 := below_from hr17 hst18
      have hz18 := heap_below hst18 hz17
      refine hK.out _ _ (trivial) (Or.inr (by rw [(blk (HBO.out _ hb18)).1 0]; rfl)) ?_
      clear hK K
      try simp only [Act.put, qI, qX, qY]
      refine anyT_ready (rs := [6]) (by kernel_rfl) (by simp) ?_
      refine AllReadyT.cons (by simp only [qA, qS, qZ]; rfl) (fun K hK => ?_) AllReadyT.nil
      have hbs19 := hb18.size
      have HRX19 := HRW.out _ hb18
      (refine step_append_X (by rfl) _ _ 23 23 (by rfl) rowNod (eltNod 1) w6.heap.size (.slice sv xs.length sc) _ (xs := xs) (ys := [zeroN]) (news := [.int .i64 0, .slice none 0 0, .string ⟨#[]⟩, .slice none 0 0]) (by rfl) (by rfl) HRX19 (Nat.le_trans HIN.out.2 hb18.size) (src_node hz18 (oneV_node zeroN _ _ _ _ _ _) 1) (news_apart (rdNod_stable _ _) HRX19 (Nat.le_trans HIN.out.2 hb18.size) zero_news) hxl ?_)
      intro va19 y19 hra19 hba19 hga19 hor19
      obtain ⟨b19, o19, c19, la19, lc19, ka19, kc19, rfl, hbn19, hbl19, hbh19, hbf19, d0, d1, d2, d3, hcm19⟩ := rowx_last hra19
      have hap19 := app_apart hga19 hor19 HRB.out
      have HAP19 := Lib.hid (And.intro hap19 (And.intro hga19 hba19))
      clear hap19 hor19 hga19
      have HRA19 := Lib.hid hra19
      clear hra19
      have hob19 : y19.heap[w.heap.size]? = some (.cells #[.slice sv xs.length sc] 23) := (hba19.block _ (by have := hZB; have := hbs19; omega)).trans (HBO.out _ hb18)
      obtain ⟨qo19, fo19⟩ := blk hob19
      have ne19 : ¬ b19 = w.heap.size := by have := hZB; omega
      have nf19 : ¬ w.heap.size = b19 := by have := hZB; omega
      have i319 : (0 : Int) ≤ ((xs.length : Nat) : Int) := Int.natCast_nonneg _
      have i419 : ((xs.length : Nat) : Int) < ((xs.length : Nat) : Int) + 1 := by omega
      refine hK.out _ _ (trivial) (Or.inr (by rw [qo19 0]; rfl)) ?_
      clear hK K
      try simp only [Act.put, qI, qX, qY]
      refine anyT_takeA (i := 7) (v := ?_) (by simp only [qA, qS, qZ]; rfl) (by kernel_rfl) (by kernel_rfl) (by kernel_rfl) (by kernel_rfl) (fun _ _ _ h => h) (Or.inl ⟨by rfl, ?_⟩) (trivial) (Or.inr (by rw [qo19 0]; rfl)) ?_
      rotate_left 1
      ·intro w hSw; (try dsimp only at hSw); go_simp; (first | done | with_reducible rfl)
      try simp only [Act.put, qI, qX, qY]
      refine anyT_ready (rs := [8, 9]) (by kernel_rfl) (by simp) ?_
      refine AllReadyT.cons (by simp only [qA, qS, qZ]; rfl) (fun K hK => ?_) ?_
      ·go_simp
       refine hK.out _ _ (trivial) (Or.inr ((setCell_block ne19).trans ((setCell_block ne19).trans ((setCell_block ne19).trans ((setCell_block ne19).trans (by rw [qo19 0]; rfl)))))) ?_
       clear hK K
       try simp only [Act.put, qI, qX, qY]
       refine anyT_ready (rs := [9]) (by kernel_rfl) (by simp) ?_
       refine AllReadyT.cons (by simp only [qA, qS, qZ]; rfl) (fun K hK => ?_) AllReadyT.nil
       go_simp
       refine hK.out _ _ (trivial) (Or.inl (by kernel_rfl)) ?_
       clear hK K
       try simp only [Act.put, qI, qX, qY]
       refine anyT_done (by kernel_rfl) ?_ _
       refine hR.out _ _ ?_
       have hnode := node_ready (h := 0) (n := txtN rr) (SliceR.nil _ _ _ _ _ _) (SliceR.nil _ _ _ _ _ _) (Below.refl _ _) HAP19.out.1.1 HAP19.out.1.2 HIN.out.2
       have hfin := put_done (F := fun p => [leafP p]) HIN.out.1 HIN.out.2 hB1 hB2 hB3 hwZ hb18 HRA19.out HAP19.out.2.2 HAP19.out.2.1 HRX19 HNE.out hbn19 hnode hob19 HT.out
       gi_wp2_with fail
       exact ⟨hfin.1 _, hfin.2⟩
      refine AllReadyT.cons (by simp only [qA, qS, qZ]; rfl) (fun K hK => ?_) ?_
      ·go_simp
       refine hK.out _ _ (trivial) (Or.inl (by kernel_rfl)) ?_
       clear hK K
       try simp only [Act.put, qI, qX, qY]
       refine anyT_ready (rs := [8]) (by kernel_rfl) (by simp) ?_
       refine AllReadyT.cons (by simp only [qA, qS, qZ]; rfl) (fun K hK => ?_) AllReadyT.nil
       go_simp
       refine hK.out _ _ (trivial) (Or.inl (by kernel_rfl)) ?_
       clear hK K
       try simp only [Act.put, qI, qX, qY]
       refine anyT_done (by kernel_rfl) ?_ _
       refine hR.out _ _ ?_
       have hnode := node_ready (h := 0) (n := txtN rr) (SliceR.nil _ _ _ _ _ _) (SliceR.nil _ _ _ _ _ _) (Below.refl _ _) HAP19.out.1.1 HAP19.out.1.2 HIN.out.2
       have hfin := put_done2 (F := fun p => [leafP p]) HIN.out.1 HIN.out.2 hB1 hB2 hB3 hwZ hb18 HRA19.out HAP19.out.2.2 HAP19.out.2.1 HRX19 HNE.out hbn19 hnode hob19 HT.out
       gi_wp2_with fail
       exact ⟨hfin.1 _, hfin.2⟩
      exact AllReadyT.nil
     exact AllReadyT.nil
 case done =>
  rintro D ys W hD hys ⟨v9, t0, hR, hne, hb, hz⟩ hK
  have e : (ys.flatMap fun y : PartX l => [leafP (cutP l y.1)]) = leavesN l := by
   rw [flat_one]
   unfold leavesN
   rw [← hys, List.map_map]
   rfl
  rw [e] at hR
  have hrow := RwX.row (rdNod_stable _ _) ((rowx_own D w6.heap.size 1 v9 (fun _ : Unit => leavesN l)).putObj (s := ()) (.deferred none) hR (Nat.le_refl _) hK rfl)
  obtain ⟨s0, s0f⟩ := blk t0
  obtain ⟨va9, c9, rfl⟩ := hR.slice
  have HROW := Lib.hid hrow
  have HB9 := Lib.hid hb
  have HK9 := Lib.hid hK
  clear hR hb hK hne hrow e
  generalize (leavesN l).length = n9 at *
  gi_wp2_with fail
  refine ⟨by simp, .inl ⟨_, _, rfl, run_takeDeferred HK9.out, ?_⟩⟩
  refine ⟨.slice va9 n9 c9, by simp [results, Tryz.results148, go_sem], ?_⟩
  exact ⟨_, rfl, SliceR.stable (rdNod_stable _ _) HROW.out (Keeps.refl _ _) (fun b h _ => Nat.le_trans hb6.size h), HB9.out.trans (belowK_b (w := w) (Nat.le_refl _) W D _ _ (by omega) HK9.out rfl rfl)⟩
end Go.Proofs.YtjpgffihafknlaaGreatDoor
namespace Go.Proofs.Qw
open Go.RowKit Go.Proofs.YtjpgffihafknlaaGreatDoor
theorem fitK_of : ∀ {l : List Nod}, (∀ n ∈ l, FitN n) → FitK l
 | [], _ => trivial
 | k :: ks, h => ⟨h k (by simp), fitK_of fun n hn => h n (by simp [hn])⟩
theorem flat_le {α β : Type} (f : α → List β) (g : α → Nat) : ∀ l : List α, (∀ x ∈ l, (f x).length ≤ g x) → (l.flatMap f).length ≤ (l.map g).sum
 | [], _ => by simp
 | x :: l, h => by
  rw [List.flatMap_cons, List.length_append, List.map_cons, List.sum_cons]
  have h1 := h x (by simp)
  have h2 := flat_le f g l (fun y hy => h y (by simp [hy]))
  omega
theorem flat_le_all {α β : Type} (f : α → List β) (B : Nat) (l : List α) (h : ∀ x, (f x).length ≤ B) : (l.flatMap f).length ≤ l.length * B := by
 have h1 := flat_le f (fun _ => B) l (fun x _ => h x)
 have h2 : (l.map (fun _ => B)).sum = l.length * B := by
  clear h1 h
  induction l with
  | nil => simp
  | cons x l ih => rw [List.map_cons, List.sum_cons, ih, List.length_cons, Nat.succ_mul]; omega
 omega
theorem parts_sum {α : Type} (r : α → α → Bool) (l : List α) : ((partsBy r l).map List.length).sum = l.length := by
 have h := congrArg List.length (parts_flat r l.length l (Nat.le_refl _))
 rw [List.length_flatten] at h
 exact h
theorem part_len {α : Type} {r : α → α → Bool} {l p : List α} (hp : p ∈ partsBy r l) : p.length ≤ l.length := by
 have h := parts_sum r l
 have : ∀ (ps : List (List α)), p ∈ ps → p.length ≤ (ps.map List.length).sum := by
  intro ps
  induction ps with
  | nil => intro h; cases h
  | cons q ps ih =>
   intro h
   rw [List.map_cons, List.sum_cons]
   rcases List.mem_cons.1 h with rfl | h
   ·omega
   ·have := ih h; omega
 have := this _ hp
 omega
theorem gr_len : ∀ (ks : List (Cel → Option Wr)) (l : List Cel), (gr ks l).length ≤ l.length
 | [], l => by
  unfold gr leavesN
  rw [List.length_map]
  have h := parts_sum textR l
  have hne := parts_ne textR l.length l (Nat.le_refl _)
  have : ∀ ps : List (List Cel), (∀ p ∈ ps, p ≠ []) → ps.length ≤ (ps.map List.length).sum := by
   intro ps
   induction ps with
   | nil => intro _; simp
   | cons q ps ih =>
    intro h
    rw [List.map_cons, List.sum_cons, List.length_cons]
    have h1 := ih (fun p hp => h p (by simp [hp]))
    have h2 := List.length_pos_iff.2 (h q (by simp))
    omega
  have := this _ hne
  omega
 | k :: ks, l => by
  unfold gr
  have h := parts_sum (fun a b => decide (k a = k b)) l
  have h1 := flat_le (fun p : List Cel => wrapO (k (p.headD default)) (gr ks p)) List.length (partsBy (fun a b => decide (k a = k b)) l) (fun p hp => by
   have hne := parts_ne _ l.length l (Nat.le_refl _) p hp
   have hpos := List.length_pos_iff.2 hne
   cases k (p.headD default) with
   | none => exact gr_len ks p
   | some w => simp only [wrapO, List.length_singleton]; omega)
  omega
theorem leaf_fit (p : List Cel) : FitN (leafP p) := by
 unfold leafP
 split
 ·exact ⟨by simp, by simp, trivial⟩
 ·exact ⟨by simp, by simp, trivial⟩
theorem gr_fit : ∀ (ks : List (Cel → Option Wr)) (l : List Cel), l.length ≤ 1000000 → (∀ k ∈ ks, ∀ c w, k c = some w → w.2.length ≤ 1000000) → FitK (gr ks l)
 | [], l, _, _ => by
  unfold gr leavesN
  exact fitK_of fun n hn => by
   obtain ⟨p, _, rfl⟩ := List.mem_map.1 hn
   exact leaf_fit p
 | k :: ks, l, hl, hk => by
  unfold gr
  refine fitK_of fun n hn => ?_
  obtain ⟨p, hp, hn⟩ := List.mem_flatMap.1 hn
  have hpl := part_len hp
  have ih := gr_fit ks p (by omega) (fun k' hk' => hk k' (by simp [hk']))
  cases hw : k (p.headD default) with
  | none =>
   rw [hw] at hn
   exact fit_mem ih hn
  | some w =>
   rw [hw] at hn
   have hn : n = .mk w.1 w.2 [] (gr ks p) := by simpa [wrapO] using hn
   subst hn
   have := gr_len ks p
   exact ⟨hk k (by simp) _ _ hw, by omega, ih⟩
theorem bitsK_fit (n : Nat) : ∀ k ∈ bitsK n, ∀ c w, k c = some w → w.2.length ≤ 1000000 := by
 induction n with
 | zero => intro k hk; cases hk
 | succ n ih =>
  intro k hk c w hw
  rcases List.mem_cons.1 hk with rfl | hk
  ·unfold lvBit at hw
   split at hw
   ·cases hw
   ·cases hw; simp
  ·exact ih k hk c w hw
theorem href_fit (c : Cel) (w : Wr) (h : lvHref c = some w) : w.2.length ≤ 1000000 := by
 unfold lvHref hrefA at h
 split at h
 ·cases h
 ·cases h; simp
theorem rowK_fit : ∀ k ∈ rowK, ∀ c w, k c = some w → w.2.length ≤ 1000000 := by
 intro k hk c w hw
 rcases List.mem_cons.1 hk with rfl | hk
 ·exact href_fit c w hw
 ·exact bitsK_fit 4 k hk c w hw
theorem wrapO_len (w : Option Wr) {ns : List Nod} {p : List Cel} (hp : p ≠ []) (h : ns.length ≤ p.length) : (wrapO w ns).length ≤ p.length := by
 cases w with
 | none => exact h
 | some w => exact List.length_pos_iff.2 hp
end Go.Proofs.Qw
namespace Go.Proofs.YtjpgffihafknlaaGreatDoor
open Go.RowKit
open Go.Proofs.Qw
attribute [local go_sem] Oper.semAt_some
set_option maxRecDepth 200000 in
set_option maxHeartbeats 8000000 in
theorem row_of (HSt : ∀ (v : Value) (l : List Cel) (w w0 : World) (S : Nat → Prop), CelsR false w0 S v l → Below w0.heap.size w0 w → l.length ≤ 6000 →
  Calls Tryz.prog 136 #[v, .int .i64 1] w fun e w' => ∃ v', e = .returned v' ∧ NodsR true 21 w' (fun b => w.heap.size ≤ b) v' (gr (bitsK 4) l) ∧ Below w.heap.size w w')
  (v : Value) (l : List Cel) (w w0 : World) (S : Nat → Prop) (hv : CelsR false w0 S v l) (h0 : Below w0.heap.size w0 w) (hlen : l.length ≤ 6000) :
  Calls Tryz.prog 120 #[v] w fun e w' => ∃ v', e = .returned v' ∧ NodsR true 26 w' (fun b => w.heap.size ≤ b) v' (gr rowK l) ∧ Below w.heap.size w w' := by
 have hw := SliceR.below (rdOf_stable _) hv h0
 obtain ⟨va, vc, rfl⟩ := hv.slice
 have HV := Lib.hid hw
 have HSt := Lib.hid HSt
 clear hv hw
 refine (callsIn_wide (n := 6)).1 ?_
 refine callsIn_of_wp_marks Tryz.func120 rfl trivial ?_ rfl
 simp only [Tryz.ntmps120, List.size_toArray, List.length_cons, List.length_nil, Nat.reduceAdd, Nat.reduceSub, Array.replicate_succ, Array.replicate_zero, List.push_toArray, List.append_toArray, List.nil_append, List.cons_append]
 have hwf : ∀ f, Fence.wide.fn f := fun _ => trivial
 have hwd : Fence.wide.depth = none := rfl
 gi_wp2_with (gi_at_call 133; refine (callsIn_wide.2 (partsC_any _ _ _ _ _ _)).mono ?_; rintro e w5 ⟨rfl, rfl⟩)
 obtain ⟨w6, hw6⟩ : ∃ w6, ((w.alloc (.cells #[.slice none 0 0] 23)).alloc (.cells #[.slice va l.length vc] 35)).alloc (.cells #[.func (.func 134) #[] #[]] 159) = w6 := ⟨_, rfl⟩
 rw [hw6]
 have hb6 : Below w.heap.size w w6 := hw6 ▸ (((Below.refl _ _).alloc (Nat.le_refl _) _).alloc (by simp) _).alloc (by simp; omega) _
 have hz6 : w6.heap.size = w.heap.size + 3 := by rw [← hw6]; simp
 have m0 : w6.heap[w.heap.size]? = some (.cells #[.slice none 0 0] 23) := hw6 ▸ heap_old _ _ (heap_old _ _ (heap_new _ _ rfl))
 have n0 : w6.heap[w.heap.size + 1]? = some (.cells #[.slice va l.length vc] 35) := hw6 ▸ heap_old _ _ (heap_new _ _ (by simp))
 have n1 : w6.heap[w.heap.size + 1 + 1]? = some (.cells #[.func (.func 134) #[] #[]] 159) := hw6 ▸ heap_new _ _ (by simp)
 have hPL : PL (d := l) 26 (fun p => wrapO (lvHref (p.headD default)) (gr (bitsK 4) p)) w w.heap.size w6.heap.size [] w6 := ⟨_, m0, RwX.nil _ _ _ _ _, .inl rfl, hb6, Nat.le_refl _⟩
 have N0 := Lib.hid (And.intro n0 n1)
 have hZB : w.heap.size < w6.heap.size := by omega
 have HZ6 := Lib.hid hz6
 have hB1 : w.heap.size ≤ w.heap.size := Nat.le_refl _
 have hB2 : w.heap.size < w.heap.size + 1 := Nat.lt_succ_self _
 have hB3 := hZB
 have hwZ := hb6.size
 have hww : w.heap.size ≤ w.heap.size := Nat.le_refl _
 have HBW := Lib.hid (Below.refl w.heap.size w)
 clear hw6 m0 n0 n1 hz6
 refine rangeFunc_slotB rfl (by omega) (gf := 147) (lb := #[.pointer (some ⟨w.heap.size + 1, 0, none⟩), .pointer (some ⟨w.heap.size + 1 + 1, 0, none⟩)]) rfl trivial (enters_of Tryz.func147 (by kernel_rfl) rfl)
  (encs := partEnc (d := l) va vc 3) (n₀ := w.heap.size) (base := w.heap.size + 1) (top := w6.heap.size) (S := fun ys => ys.map (fun y => cutP l y.1) = partsBy hrefR l) (Sp := fun _ => True) (N := l.length) (w0 := w6) ?seq hb6.size (Below.refl _ _) (fun _ => rfl)
  (PL 26 (fun p => wrapO (lvHref (p.headD default)) (gr (bitsK 4) p)) w w.heap.size w6.heap.size) (pl_own hb6.size) hPL ?act ?assign ?body ?done
 case seq =>
  intro l' J Jx W hW hJ _ hY h0
  exact parts1_row 5 l' (w.heap.size + 1) (w.heap.size + 1 + 1) (w.heap.size + 1) w6.heap.size va vc l hrefR S J Jx w W HV.out (hb6.trans (hW.mono hb6.size)) (fun X _ x y => al_row x y X) ⟨by omega, by omega⟩ (by have := HZ6.out; omega) (heap_below hW N0.out.1) (heap_below hW N0.out.2) (by omega) hJ hY h0
 case assign =>
  intro l' pre x W K hI hK
  rw [show partEnc va vc 3 x = #[partV va vc 3 x.1] from rfl]
  gi_wp2
  exact hK
 case body =>
  intro l' pre x W hI hlt
  obtain ⟨v0, hD, hRW, hne, hb, hzW⟩ := hI
  have hpr := part_cels HV.out x
  have hpn := cut_ne x
  have hpz := cut_len x
  obtain ⟨P, hP⟩ : ∃ P, cutP l x.1 = P := ⟨_, rfl⟩
  have HT : Hid ((pre ++ [x]).flatMap (fun y => (fun p : List Cel => wrapO (lvHref (p.headD default)) (gr (bitsK 4) p)) (cutP l y.1)) = pre.flatMap (fun y => (fun p : List Cel => wrapO (lvHref (p.headD default)) (gr (bitsK 4) p)) (cutP l y.1)) ++ (fun p : List Cel => wrapO (lvHref (p.headD default)) (gr (bitsK 4) p)) P) := Lib.hid (by rw [List.flatMap_append, ← hP]; simp)
  rw [hP] at hpr hpn hpz
  obtain ⟨pa, pc, hpe, hpl, hpm, hpx⟩ := cels_shape hpr
  rw [hpe]
  rw [hpe] at hpr
  obtain ⟨c, P', rfl⟩ : ∃ c P', P = c :: P' := by cases P with | nil => exact absurd rfl hpn | cons c P' => exact ⟨c, P', rfl⟩
  obtain ⟨bb, oo, e, hbz, c0, c1, c2⟩ := hpx 0 c rfl
  subst e
  simp only [Nat.zero_mul, Nat.add_zero] at c0 c1 c2
  obtain ⟨xs, hxs⟩ : ∃ xs, pre.flatMap (fun y : PartX l => (fun p : List Cel => wrapO (lvHref (p.headD default)) (gr (bitsK 4) p)) (cutP l y.1)) = xs := ⟨_, rfl⟩
  have hxl0 : xs.length ≤ pre.length * 6000 := by
   rw [← hxs]
   exact flat_le_all _ 6000 pre (fun y => Nat.le_trans ((fun y => wrapO_len _ (cut_ne y) (gr_len _ _)) y) (Nat.le_trans (cut_len y) hlen))
  have hxl1 : pre.length * 6000 ≤ 6000 * 6000 := Nat.mul_le_mul_right _ (by omega)
  have hxl2 : xs.length ≤ 36000000 := by omega
  clear hxl1
  rw [hxs] at hRW hne HT
  have HRB := Lib.hid (rowx_block hRW hne)
  obtain ⟨sv, sc, hv0⟩ := hRW.slice
  subst hv0
  have HRW : Hid (∀ X, Below W.heap.size W X → RwX 25 4 (rdNod true 26) X w6.heap.size (.slice sv xs.length sc) xs) := Lib.hid fun X hX => RwX.below (rdNod_stable _ _) hRW (.all (by exact ⟨hX.os, hX.tape, hX.output, hX.size, fun b hz => hX.block b hz⟩))
  have HBO : Hid (∀ X, Below W.heap.size W X → X.heap[w.heap.size]? = some (.cells #[.slice sv xs.length sc] 23)) := Lib.hid fun X hX => heap_below hX hD
  have HNE := Lib.hid hne
  have HIN := Lib.hid (And.intro hb hzW)
  have HPR := Lib.hid hpr
  obtain ⟨q0, g0⟩ := blk hD
  have i0 : (0 : Int) < (((c :: P').length : Nat) : Int) := by simp only [List.length_cons]; omega
  have hb0 : Below W.heap.size W W.drew := (Below.refl _ _).drew
  clear hpx hP hpn hRW hne hxs hxl0 hpr
  have HT : Hid ((pre ++ [x]).flatMap (fun y => wrapO (lvHref ((cutP l y.1).headD default)) (gr (bitsK 4) (cutP l y.1))) = xs ++ wrapO (lvHref c) (gr (bitsK 4) (c :: P'))) := HT
  have hgl := gr_len (bitsK 4) (c :: P')
  have hwl := wrapO_len (lvHref c) (p := c :: P') (by simp) hgl
  have HGN : Hid (wrapO (lvHref c) (gr (bitsK 4) (c :: P')) ≠ []) := Lib.hid (wrapO_ne (gr_ne _ (by simp)))
  have hgf := gr_fit (bitsK 4) (c :: P') (by omega) (bitsK_fit 4)
  have HS : Hid (∀ X, Below W.heap.size W X → Calls Tryz.prog 136 #[.slice (some ⟨bb, oo, none⟩) (c :: P').length pc, .int .i64 1] X fun e X' => ∃ sa sc, e = .returned (.slice sa (gr (bitsK 4) (c :: P')).length sc) ∧ NodsR true 21 X' (fun b => X.heap.size ≤ b) (.slice sa (gr (bitsK 4) (c :: P')).length sc) (gr (bitsK 4) (c :: P')) ∧ Below X.heap.size X X') := Lib.hid fun X hX => by
   refine (HSt.out _ _ X w S HPR.out (hb.trans (hX.mono hb.size)) (by omega)).mono ?_
   rintro e X' ⟨v', h1, h2, h3⟩
   obtain ⟨sa, sc, rfl⟩ := h2.slice
   exact ⟨sa, sc, h1, h2, h3⟩
  have HWr : Hid (∀ X X0 sa sc, NodsR true 21 X (fun b => X0 ≤ b) (.slice sa (gr (bitsK 4) (c :: P')).length sc) (gr (bitsK 4) (c :: P')) → Calls Tryz.prog 135 #[.int .i64 0, .string ⟨c.href.toArray⟩, .slice sa (gr (bitsK 4) (c :: P')).length sc] X fun e X' => ∃ sa sc, e = .returned (.slice sa (wrapO (lvHref c) (gr (bitsK 4) (c :: P'))).length sc) ∧ NodsR true 26 X' (fun b => X.heap.size ≤ b) (.slice sa (wrapO (lvHref c) (gr (bitsK 4) (c :: P'))).length sc) (wrapO (lvHref c) (gr (bitsK 4) (c :: P'))) ∧ Below X.heap.size X X') := Lib.hid fun X X0 sa sc hk => by
   refine (wrap_high 21 0 c.href _ _ true X X _ hk (Below.refl _ _) (by omega) hgf).mono ?_
   rintro e X' ⟨v', h', h1, h2, h3, h4⟩
   rw [wrap_href] at h2
   have h2 := nods_mono' h4 h2
   obtain ⟨sa, sc, rfl⟩ := h2.slice
   exact ⟨sa, sc, h1, h2, h3⟩
  have hxl : xs.length + (wrapO (lvHref c) (gr (bitsK 4) (c :: P'))).length ≤ 100000000 := by omega
  have HAA : Hid (∀ X, Below w.heap.size w X → X.cell? ⟨bb, oo + 2, none⟩ = some (.string ⟨c.href.toArray⟩)) := Lib.hid fun X hX => (hX.cell (p := ⟨bb, oo + 2, none⟩) hbz).trans c2
  have HAX : Hid (∀ X, Below W.heap.size W X → X.cell? ⟨bb, oo + 2, none⟩ = some (.string ⟨c.href.toArray⟩)) := Lib.hid fun X hX => HAA.out X (hb.trans (hX.mono hb.size))
  have HAY : Hid (∀ X, Below W.heap.size W X → ∀ Y, X.cell? ⟨bb, oo + 2, none⟩ = some (.string ⟨c.href.toArray⟩) → Below w6.heap.size X Y → Y.cell? ⟨bb, oo + 2, none⟩ = some (.string ⟨c.href.toArray⟩)) := Lib.hid fun X hX Y h hY => (hY.cell (p := ⟨bb, oo + 2, none⟩) (by show bb < w6.heap.size; omega)).trans h
  have hbo : w.heap.size ≠ bb := by omega
  generalize gr (bitsK 4) (c :: P') = G0 at *
  generalize hGG : wrapO (lvHref c) G0 = G at *
  clear hgl hwl hgf hGG hb HV
  gi_wp2_with fail
  refine wpIn_region_T (fun w' => w'.cell? ⟨bb, oo + 2, none⟩ = some (.string ⟨c.href.toArray⟩)) (fun w' => w'.cell? ⟨w.heap.size, 0, none⟩ = some (.slice sv xs.length sc)) 9 (by kernel_rfl) (by kernel_rfl) (fun R hR => ?_)
  refine anyT_takeA (i := 1) (v := ?_) (by simp only [qA, qS, qZ]; rfl) (by kernel_rfl) (by kernel_rfl) (by kernel_rfl) (by kernel_rfl) (fun _ _ _ h => h) (Or.inl ⟨by rfl, ?_⟩) (HAX.out _ hb0) (Or.inr (by rw [(blk (HBO.out _ hb0)).1 0]; rfl)) ?_
  rotate_left 1
  ·intro w hSw; (try dsimp only at hSw); go_simp; (first | done | with_reducible rfl)
  try simp only [Act.put, qI, qX, qY]
  refine anyT_takeA (i := 2) (v := ?_) (by simp only [qA, qS, qZ]; rfl) (by kernel_rfl) (by kernel_rfl) (by kernel_rfl) (by kernel_rfl) (fun _ _ _ h => h) (Or.inl ⟨by rfl, ?_⟩) (HAX.out _ hb0) (Or.inr (by rw [(blk (HBO.out _ hb0)).1 0]; rfl)) ?_
  rotate_left 1
  ·intro w hSw; (try dsimp only at hSw); go_simp; (first | done | with_reducible rfl)
  try simp only [Act.put, qI, qX, qY]
  refine anyT_takeA (i := 3) (v := ?_) (by simp only [qA, qS, qZ]; rfl) (by kernel_rfl) (by kernel_rfl) (by kernel_rfl) (by kernel_rfl) (fun _ _ _ h => h) (Or.inl ⟨by rfl, ?_⟩) (HAX.out _ hb0) (Or.inr (by rw [(blk (HBO.out _ hb0)).1 0]; rfl)) ?_
  rotate_left 1
  ·intro w hSw; (try dsimp only at hSw); go_simp; (first | done | with_reducible rfl)
  try simp only [Act.put, qI, qX, qY]
  refine anyT_takeA (i := 4) (v := ?_) (by simp only [qA, qS, qZ]; rfl) (by kernel_rfl) (by kernel_rfl) (by kernel_rfl) (by kernel_rfl) (fun _ _ _ h => h) (Or.inl ⟨by rfl, ?_⟩) (HAX.out _ hb0) (Or.inr (by rw [(blk (HBO.out _ hb0)).1 0]; rfl)) ?_
  rotate_left 1
  ·intro w hSw; (try dsimp only at hSw); go_simp; (first | done | with_reducible rfl)
  try simp only [Act.put, qI, qX, qY]
  refine anyT_takeA (i := 5) (v := ?_) (by simp only [qA, qS, qZ]; rfl) (by kernel_rfl) (by kernel_rfl) (by kernel_rfl) (by kernel_rfl) (fun _ _ _ h => h) (Or.inl ⟨by rfl, ?_⟩) (HAX.out _ hb0) (Or.inr (by rw [(blk (HBO.out _ hb0)).1 0]; rfl)) ?_
  rotate_left 1
  ·intro w hSw; (try dsimp only at hSw); go_simp; (first | done | with_reducible rfl)
  try simp only [Act.put, qI, qX, qY]
  refine anyT_take (i := 0) (v := ?_) (by simp only [qA, qZ]; rfl) (by kernel_rfl) (by kernel_rfl) (by kernel_rfl) (by kernel_rfl) (fun _ _ _ h => h) (Or.inl ⟨by rfl, ?_⟩) ⟨HAX.out _ hb0, by rw [(blk (HBO.out _ hb0)).1 0]; rfl⟩ ?_
  rotate_left 1
  ·intro w hSw; (try dsimp only at hSw); go_simp; (first | done | with_reducible rfl)
  try simp only [Act.put, qI, qX, qY]
  refine anyT_ready (rs := [6]) (by kernel_rfl) (by simp) ?_
  refine AllReadyT.cons (by simp only [qA, qS, qZ]; rfl) (fun K hK => ?_) AllReadyT.nil
  go_simp
  refine (HS.out _ hb0).mono ?_
  rintro e x1 ⟨sa1, sc1, rfl, hk1, hst1⟩
  have HK1 := Lib.hid hk1
  clear hk1
  have hb1 : Below W.heap.size W x1 := below_from hb0 hst1
  refine hK.out _ _ (HAX.out _ hb1) (Or.inr (by rw [(blk (HBO.out _ hb1)).1 0]; rfl)) ?_
  clear hK K
  try simp only [Act.put, qI, qX, qY]
  refine anyT_ready (rs := [7]) (by kernel_rfl) (by simp) ?_
  refine AllReadyT.cons (by simp only [qA, qS, qZ]; rfl) (fun K hK => ?_) AllReadyT.nil
  go_simp
  refine (HWr.out _ _ _ _ HK1.out).mono ?_
  rintro e x2 ⟨sa2, sc2, rfl, hk2, hst2⟩
  have HK2 := Lib.hid hk2
  clear hk2
  have hb2 : Below W.heap.size W x2 := below_from hb1 hst2
  refine hK.out _ _ (HAX.out _ hb2) (Or.inr (by rw [(blk (HBO.out _ hb2)).1 0]; rfl)) ?_
  clear hK K
  try simp only [Act.put, qI, qX, qY]
  refine anyT_ready (rs := [8]) (by kernel_rfl) (by simp) ?_
  refine AllReadyT.cons (by simp only [qA, qS, qZ]; rfl) (fun K hK => ?_) AllReadyT.nil
  have hbs3 := hb2.size
  have HRX3 := HRW.out _ hb2
  have HRY3 := HRW.out _ hb1
  have hsz3 : w6.heap.size ≤ x2.heap.size := Nat.le_trans HIN.out.2 hb2.size
  have hsy3 : w6.heap.size ≤ x1.heap.size := Nat.le_trans HIN.out.2 hb1.size
  obtain ⟨news3, hsrc3, hnews3⟩ := SliceR.src (P := Tryz.prog) (st := 23) rowNod (eltNod 26).pos (eltNod 26).ones HK2.out
  (refine step_append_X (by rfl) _ _ 23 23 (by rfl) rowNod (eltNod 26) w6.heap.size (.slice sv xs.length sc) _ (xs := xs) (ys := G) (news := news3) (by rfl) (by rfl) HRX3 hsz3 hsrc3 (news_apart (rdNod_stable _ _) HRY3 hsy3 hnews3) hxl ?_)
  intro va3 y3 hra3 hba3 hga3 _
  obtain ⟨wa3, wn3, wc3, hwe3⟩ : ∃ a n c, va3 = .slice a n c := by obtain ⟨a, c, e⟩ := hra3.slice; exact ⟨a, _, c, e⟩
  subst hwe3
  have HRA3 := Lib.hid hra3
  have HGA3 := Lib.hid hga3
  clear hra3 hga3 hsrc3 hnews3
  have hob3 : y3.heap[w.heap.size]? = some (.cells #[.slice sv xs.length sc] 23) := (hba3.block _ (by have := hZB; have := hbs3; omega)).trans (HBO.out _ hb2)
  obtain ⟨qo3, fo3⟩ := blk hob3
  have ha3 := HAY.out _ hb2 y3 (HAX.out _ hb2) hba3
  refine hK.out _ _ (ha3) (Or.inr (by rw [qo3 0]; rfl)) ?_
  clear hK K
  try simp only [Act.put, qI, qX, qY]
  refine anyT_ready (rs := [9]) (by kernel_rfl) (by simp) ?_
  refine AllReadyT.cons (by simp only [qA, qS, qZ]; rfl) (fun K hK => ?_) AllReadyT.nil
  go_simp
  refine hK.out _ _ ((setCell_block hbo).trans ha3) (Or.inl (by kernel_rfl)) ?_
  clear hK K
  try simp only [Act.put, qI, qX, qY]
  refine anyT_done (by kernel_rfl) ?_ _
  refine hR.out _ _ ?_
  have hfin := put_row (F := fun p => wrapO (lvHref (p.headD default)) (gr (bitsK 4) p)) HIN.out.1 HIN.out.2 hB1 hB2 hB3 hwZ hb2 HRA3.out hba3 HGA3.out HRX3 HNE.out HGN.out hob3 HT.out
  gi_wp2_with fail
  exact ⟨hfin.1 _, hfin.2⟩
 case done =>
  rintro D ys W hD hys ⟨v9, t0, hR, hne, hb, hz⟩ hK
  have e : (ys.flatMap fun y : PartX l => (fun p : List Cel => wrapO (lvHref (p.headD default)) (gr (bitsK 4) p)) (cutP l y.1)) = gr rowK l := by
   rw [gr_href, ← hys, List.flatMap_map]
  rw [e] at hR
  have hrow := RwX.row (rdNod_stable _ _) ((rowx_own D w6.heap.size 26 v9 (fun _ : Unit => gr rowK l)).putObj (s := ()) (.deferred none) hR (Nat.le_refl _) hK rfl)
  obtain ⟨s0, s0f⟩ := blk t0
  obtain ⟨va9, c9, rfl⟩ := hR.slice
  have HROW := Lib.hid hrow
  have HB9 := Lib.hid hb
  have HK9 := Lib.hid hK
  clear hR hb hK hne hrow e
  generalize (gr rowK l).length = n9 at *
  gi_wp2_with fail
  refine ⟨by simp, .inl ⟨_, _, rfl, run_takeDeferred HK9.out, ?_⟩⟩
  refine ⟨.slice va9 n9 c9, by simp [results, Tryz.results120, go_sem], ?_⟩
  refine ⟨_, rfl, SliceR.stable (rdNod_stable _ _) HROW.out (Keeps.refl _ _) (fun b h _ => Nat.le_trans (Nat.le_trans hww hwZ) h), ?_⟩
  exact HBW.out.trans ((HB9.out.trans (belowK_b (w := w) (Nat.le_refl _) W D _ _ (by omega) HK9.out rfl rfl)).mono hww)
end Go.Proofs.YtjpgffihafknlaaGreatDoor
