/- Rows of numbers as arguments of a law. -/
import Derived.Test.YtpndnbjpnajaaaaGreatDoorOpenMoreU
import Derived.Test.YtpndnbjpnajaaaaGreatDoorCellsInsertU
import Derived.Test.YtpndnbjpnajaaaaGreatDoorStyBitsU
import Derived.Test.YtpndnbjpnajaaaaGreatDoorStyStaysU
import Derived.Test.YtpndnbjpnajaaaaGreatDoorStIsU
import Derived.Test.YtpndnbjpnajaaaaGreatDoorRefTargetU
set_option linter.unusedVariables false
set_option linter.unusedSimpArgs false
namespace Go.Proofs.YtpndnbjpnajaaaaGreatDoor
open Go.ChangeShapes Go.WideShapes Go.ChangeAt Go.RowKit
open Go.Proofs.Qw Go.Deep
section
variable {H : Type} {enc : TypeId × Value → H} {w : World} {base : Nat} {held : Bool}
theorem open_ints {v : Value} {d : DataW H} {ps : List MemPlace} (hv : ∃ a n c, v = .slice a n c) (h : DataW.Trod enc Tryz.prog w base (fun _ => true) held 39 v d ps) : ∃ x : List Int, IntsR false w (fun _ => True) v x := by
 obtain ⟨fuel, hf⟩ := h
 obtain ⟨v', xs, e, hs, _⟩ := open_row (t0 := 3) (k := 1) (R := rdOf encInt) (fun _ _ => True) Tryz.underlying39 (by kernel_rfl) Nat.one_pos hf (fun n cs y h => by
  obtain ⟨z, rfl, _, _⟩ := DataW.trod_int Tryz.underlying3 h
  exact ⟨z, rfl, trivial⟩)
 have : v = v' := by
  obtain ⟨a, n, c, rfl⟩ := hv
  have e : [Value.slice a n c] = [v'] := e
  cases e
  rfl
 exact ⟨xs, this ▸ hs⟩
end
end Go.Proofs.YtpndnbjpnajaaaaGreatDoor
namespace Go.Proofs.YtpndnbjpnajaaaaGreatDoor
open Go.RowKit
open Go.Proofs.Qw
attribute [local go_sem] Oper.semAt_some
theorem results_doc_e {fn : Func} {p u : Tmp} (h : fn.results = #[.cell p 22, .cell u 34]) (tmps : Array Value) (w : World) (a b : Addr) (x : Value) (y : Int) (hx : ∃ c n k, x = .slice c n k) (hp : tmps.getD p undef = .pointer (some a)) (hu : tmps.getD u undef = .pointer (some b)) (h1 : w.cell? a = some x) (h2 : w.cell? b = some (.int .i64 y)) :
  (results fn tmps).run Tryz.prog w = .ok (.tuple #[x, .int .i64 y]) w := by
 obtain ⟨c, n, k, rfl⟩ := hx
 simp only [results, h]
 simp at hp hu
 simp [go_sem, hp, hu, h1, h2]
def UI (w6 : World) (pre : List Cel) (W : World) : Prop := (∀ c ∈ pre, c.href = []) ∧ Below w6.heap.size w6 W ∧ w6.heap.size ≤ W.heap.size
theorem ui_own (w6 : World) : OwnFrom w6.heap.size (UI w6) := fun s X Y row ⟨h1, h2, h3⟩ hg hr => ⟨h1, ownFrom_below (Nat.le_refl _) (Nat.le_refl _) s X Y row h2 hg hr, ownFrom_size _ _ s X Y row h3 hg hr⟩
def UX (R : Doc × Int) (w : World) (Z : Nat) (c : Code) (pre : List Cel) (W : World) : Prop :=
 c = .ret ∧ (∃ z ∈ pre, z.href ≠ []) ∧ ∃ v, W.heap[w.heap.size + 3]? = some (.cells #[v] 22) ∧ W.heap[w.heap.size + 4]? = some (.cells #[.int .i64 R.2] 34) ∧ DocR true W (fun b => Z ≤ b) v R.1 ∧ Below w.heap.size w W
theorem ux_own {R : Doc × Int} {w : World} {Z B : Nat} (hB : w.heap.size ≤ B) (c : Code) : OwnFrom B (UX R w Z c) := fun s X Y row ⟨h0, h1, v, h2, h3, h4, h5⟩ hg hr =>
 ⟨h0, h1, v, blk_own B _ _ _ s X Y row h2 hg hr, blk_own B _ _ _ s X Y row h3 hg hr, doc_own (β := Unit) B _ _ (fun _ => R.1) () X Y row h4 hg hr, ownFrom_below (Nat.le_refl _) hB s X Y row h5 hg hr⟩
set_option maxRecDepth 200000 in
set_option maxHeartbeats 4000000 in
theorem styUnlink1_any (Bs : Nat) (v : Value) (s : St) (P Q : Ps) (w : World) (S : Nat → Prop) (h : LinsR w S v s.lines) (he : EnvT w) (hs : Small s.lines) (hf : Fits s.lines) (hm : isD s.lines s.anc = true) (hBs : w.heap[Bs]? = some (.cells #[v, .int .i64 s.anc.line, .int .i64 s.anc.col, .int .i64 s.foc.line, .int .i64 s.foc.col, .int .i64 s.on, .int .i64 s.off] 26)) :
  Calls Tryz.prog 107 #[v, posV P, posV Q, .pointer (some ⟨Bs, 0, none⟩)] w (DocSaid (unlinkL s) w) := by
 obtain ⟨W1, hW1⟩ : ∃ W1, ((((w.alloc (.cells #[v] 22)).alloc (.cells #[.int .i64 P.line, .int .i64 P.col] 24)).alloc (.cells #[.int .i64 Q.line, .int .i64 Q.col] 24)).alloc (.cells #[.slice none 0 0] 22)).alloc (.cells #[.int .i64 0] 34) = W1 := ⟨_, rfl⟩
 have hB : Below w.heap.size w W1 := hW1 ▸ below2 (below3 (Below.refl _ _) _ _ _) _ _
 have hz : w.heap.size + 5 = W1.heap.size := by rw [← hW1]; simp
 have k0 : W1.heap[w.heap.size]? = some (.cells #[v] 22) := hW1 ▸ heap_old _ _ (heap_old _ _ (heap_old _ _ (heap_old _ _ (heap_new _ _ rfl))))
 have k1 : W1.heap[w.heap.size + 1]? = some (.cells #[.int .i64 P.line, .int .i64 P.col] 24) := hW1 ▸ heap_old _ _ (heap_old _ _ (heap_old _ _ (heap_new _ _ (by simp))))
 have k3 : W1.heap[w.heap.size + 3]? = some (.cells #[.slice none 0 0] 22) := hW1 ▸ heap_old _ _ (heap_new _ _ (by simp))
 have k4 : W1.heap[w.heap.size + 4]? = some (.cells #[.int .i64 0] 34) := hW1 ▸ heap_new _ _ (by simp)
 have kS := heap_below hB hBs
 have HB : Hid (∀ W, Below W1.heap.size W1 W → W.heap[Bs]? = some (.cells #[v, .int .i64 s.anc.line, .int .i64 s.anc.col, .int .i64 s.foc.line, .int .i64 s.foc.col, .int .i64 s.on, .int .i64 s.off] 26) ∧ W.heap[w.heap.size]? = some (.cells #[v] 22) ∧ W.heap[w.heap.size + 1]? = some (.cells #[.int .i64 P.line, .int .i64 P.col] 24) ∧ W.heap[w.heap.size + 3]? = some (.cells #[.slice none 0 0] 22) ∧ W.heap[w.heap.size + 4]? = some (.cells #[.int .i64 0] 34)) := Lib.hid fun W hW => ⟨heap_below hW kS, heap_below hW k0, heap_below hW k1, heap_below hW k3, heap_below hW k4⟩
 have hs1 := hB.size
 have hBw := (Array.getElem?_eq_some_iff.1 hBs).1
 have H1 := Lib.hid hB
 have hw0 : Below W1.heap.size W1 W1 := Below.refl _ _
 have HV : Hid (∀ W, Below W1.heap.size W1 W → LinsR W S v s.lines) := Lib.hid fun W hW => h.below (rdLin_stable _) (hB.trans (hW.mono hs1))
 have HE : Hid (∀ W, Below W1.heap.size W1 W → EnvT W) := Lib.hid fun W hW => (he.below hB).below hW
 have HR : Hid (unlinkL s = if (cellsD s.lines (handS s).1 (handS s).2).any (fun c => decide (c.href ≠ [])) = true then linkD [] s.lines (handS s).1 (handS s).2 else ([], 7)) := Lib.hid rfl
 have HVF := Lib.hid (And.intro hs hf)
 have HVw := Lib.hid (And.intro h he)
 have HH : Hid (∀ W, Below W1.heap.size W1 W → Calls Tryz.prog 84 #[stV v s] W fun e w' => e = .returned (.tuple #[.agg #[.int .i64 (handS s).1.line, .int .i64 (handS s).1.col], .agg #[.int .i64 (handS s).2.line, .int .i64 (handS s).2.col]]) ∧ Below W.heap.size W w') := Lib.hid fun W hW => styHand_any v s W S (HV.out W hW) hf hm
 obtain ⟨A, B, hAB⟩ : ∃ A B, handS s = (A, B) := ⟨_, _, rfl⟩
 rw [hAB] at HH HR
 simp only at HH HR
 have HLk : Hid (∀ W, Below W1.heap.size W1 W → Calls Tryz.prog 100 #[v, posV A, posV B, .string ⟨#[]⟩] W (DocSaid (linkD [] s.lines A B) W)) := Lib.hid fun W hW => docLink_any v s.lines A B [] W S (HV.out W hW) (HE.out W hW) hs hf (by simp)
 have HP : Hid (∀ p : Ps, posV p = .agg #[.int .i64 p.line, .int .i64 p.col]) := Lib.hid fun _ => rfl
 rw [HP.out, HP.out] at HLk ⊢
 have HL : Hid ((cellsD s.lines A B).length ≤ 100000) := Lib.hid (Nat.le_trans (cellsD_size _ _ _) hs.1)
 obtain ⟨X, er, hX⟩ : ∃ X er, linkD [] s.lines A B = (X, er) := ⟨_, _, rfl⟩
 rw [hX] at HLk HR
 obtain ⟨p0, f0⟩ := blk k0
 obtain ⟨p1, f1⟩ := blk k3
 obtain ⟨p2, f2⟩ := blk k4
 obtain ⟨p3, f3⟩ := blk kS
 obtain ⟨va, vc, rfl⟩ := h.slice
 clear h he hs hf hm hAB hX k0 k1 k3 k4 kS hBs hB
 refine (callsIn_wide (n := 6)).1 ?_
 refine callsIn_of_wp_marks Tryz.func107 rfl trivial ?_ rfl
 simp only [Tryz.ntmps107, List.size_toArray, List.length_cons, List.length_nil, Nat.reduceAdd, Nat.reduceSub, Array.replicate_succ, Array.replicate_zero, List.push_toArray, List.append_toArray, List.nil_append, List.cons_append]
 have hwf : ∀ f, Fence.wide.fn f := fun _ => trivial
 have hwd : Fence.wide.depth = none := rfl
 gi_wp2_with (first
  | (gi_at_call 84; refine (callsIn_wide.2 (HH.out _ hw0)).mono ?_; rintro e w2 ⟨rfl, hst2⟩; have hb2 := below_from hw0 hst2; obtain ⟨q0, g0⟩ := blk (HB.out _ hb2).2.1; have hz2 := hb2.size; have r0 := on2 (HB.out _ hb2).2.1)
  | (gi_at_call 77; refine (callsIn_wide.2 (selected_any _ _ _ A B _)).mono ?_; rintro e w5 ⟨rfl, rfl⟩))
 obtain ⟨w6, hw6⟩ : ∃ w6, ((((w2.alloc (.cells #[.int .i64 A.line, .int .i64 A.col] 24)).alloc (.cells #[.int .i64 B.line, .int .i64 B.col] 24)).alloc (.cells #[.slice va s.lines.length vc] 22)).alloc (.cells #[.int .i64 A.line, .int .i64 A.col] 24)).alloc (.cells #[.int .i64 B.line, .int .i64 B.col] 24) = w6 := ⟨_, rfl⟩
 rw [hw6]
 have hb26 : Below w2.heap.size w2 w6 := hw6 ▸ below3 (below2 (Below.refl _ _) _ _) _ _ _
 have hz6 : w6.heap.size = w2.heap.size + 5 := by rw [← hw6]; simp
 have m0 : w6.heap[w2.heap.size]? = some (.cells #[.int .i64 A.line, .int .i64 A.col] 24) := hw6 ▸ heap_old _ _ (heap_old _ _ (heap_old _ _ (heap_old _ _ (heap_new _ _ rfl))))
 have m1 : w6.heap[w2.heap.size + 1]? = some (.cells #[.int .i64 B.line, .int .i64 B.col] 24) := hw6 ▸ heap_old _ _ (heap_old _ _ (heap_old _ _ (heap_new _ _ (by simp))))
 have m2 : w6.heap[w2.heap.size + 1 + 1]? = some (.cells #[.slice va s.lines.length vc] 22) := hw6 ▸ heap_old _ _ (heap_old _ _ (heap_new _ _ (by simp)))
 have m3 : w6.heap[w2.heap.size + 1 + 1 + 1]? = some (.cells #[.int .i64 A.line, .int .i64 A.col] 24) := hw6 ▸ heap_old _ _ (heap_new _ _ (by simp))
 have m4 : w6.heap[w2.heap.size + 1 + 1 + 2]? = some (.cells #[.int .i64 B.line, .int .i64 B.col] 24) := hw6 ▸ heap_new _ _ (by simp)
 have hb6 := below_from hb2 hb26
 have hbw : Below w.heap.size w w6 := H1.out.trans (hb6.mono hs1)
 have N0 := Lib.hid (And.intro m0 (And.intro m1 (And.intro m2 (And.intro m3 m4))))
 have hUI : UI w6 [] w6 := ⟨fun _ h => (by cases h), Below.refl _ _, Nat.le_refl _⟩
 clear hw6 m0 m1 m2 m3 m4 q0 g0 r0 p0 f0 p1 f1 p2 f2 p3 f3 hW1
 refine rangeFunc_boxD rfl (by omega) (gf := 148) (lb := #[.pointer (some ⟨w2.heap.size + 1 + 1, 0, none⟩), .pointer (some ⟨w2.heap.size + 1 + 1 + 1, 0, none⟩), .pointer (some ⟨w2.heap.size + 1 + 1 + 2, 0, none⟩)]) rfl trivial (enters_of Tryz.func148 (by kernel_rfl) rfl)
  (encs := fun c : Cel => #[celV c]) (n₀ := w.heap.size) (base := w6.heap.size) (Bs := w.heap.size + 1) (S := fun ys => ys = cellsD s.lines A B) (Sp := fun pre => pre <+: cellsD s.lines A B) (N := 200000) (w0 := w6) ?seq (by omega) (by omega) (Below.refl _ _) (fun _ => rfl)
  (UI w6) (UX (X, er) w w2.heap.size) (ui_own w6) (ux_own (by omega)) hUI (fun _ _ h => h.2.2)
  (fun x => #[.int .i32 x.r, .int .i64 x.bits, .string ⟨x.href.toArray⟩]) 44 ?act ?assign ?body ?done ?stop
 case seq =>
  intro l J Jx W hW hJ _ hY h0
  have hzW := hW.size
  have hb1 := below_from hb6 hW
  exact selected1_in 5 l (w2.heap.size + 1 + 1) (w2.heap.size + 1 + 1 + 1) (w2.heap.size + 1 + 1 + 2) w6.heap.size (w.heap.size + 1) (.slice va s.lines.length vc) s.lines A B S J Jx w W HVw.out.1 HVw.out.2 HVF.out.1 HVF.out.2 (hbw.trans (hW.mono hbw.size)) hW.size (heap_below hW N0.out.2.2.1) (heap_below hW N0.out.2.2.2.1) (heap_below hW N0.out.2.2.2.2) (by omega)
   (by unfold ownAt; rw [cell_of_heap (HB.out W hb1).2.2.1]; rfl) hJ hY h0
 case assign =>
  intro l pre x W K Bx hBx hI hK
  unfold celV
  gi_wp2
  rw [← hBx]
  exact hK
 case body =>
  intro l pre x Bx W hI hBx hbx hlt
  obtain ⟨hal, hb, hzW⟩ := hI
  have hbW := below_from hb6 hb
  obtain ⟨sx, sxf⟩ := blk hbx
  obtain ⟨s0, s0f⟩ := blk (HB.out _ hbW).2.1
  obtain ⟨s1, s1f⟩ := blk (heap_below hb N0.out.1)
  obtain ⟨s2, s2f⟩ := blk (heap_below hb N0.out.2.1)
  have HA := Lib.hid (And.intro hal (And.intro hb (And.intro hzW hbW)))
  clear hal hb
  by_cases hx : x.href = []
  ·have HX := Lib.hid hx
   have hq : x.href.isEmpty = true := by simpa using hx
   clear hx
   gi_wp2_with fail
   exact ⟨KeepsFrom.refl _ _, Kd.of_below (by have := hbw.size; omega) (by omega) (Below.refl _ _), fun c hc => (by rcases List.mem_append.1 hc with h | h; exact HA.out.1 c h; rw [List.mem_singleton.1 h]; exact HX.out), HA.out.2.1, HA.out.2.2.1⟩
  ·have HX := Lib.hid hx
   have hq : x.href.isEmpty = false := by simpa using hx
   clear hx
   gi_wp2_with (gi_at_call 100; refine (callsIn_wide.2 (HLk.out _ HA.out.2.2.2)).mono ?_; intro e w7 hsaid; obtain ⟨v7, rfl, hv7, hb7⟩ := hsaid; obtain ⟨a7, c7, rfl⟩ := hv7.slice; have HV7 := Lib.hid hv7; clear hv7; have hx7 := below_from HA.out.2.2.2 hb7; obtain ⟨t3, t3f⟩ := blk (HB.out _ hx7).2.2.2.1; obtain ⟨t4, t4f⟩ := blk (HB.out _ hx7).2.2.2.2)
   refine ⟨((keeps_below hb7).from _).trans (((KeepsOthers.setCell _ _ _).trans (KeepsOthers.setCell _ _ _)).from _), rfl, ⟨x, by simp, HX.out⟩, .slice a7 X.length c7, ?_, ?_, ?_, ?_⟩
   ·rw [heap_set, if_neg (by simp), heap_set, if_pos rfl, (HB.out _ hx7).2.2.2.1]; rfl
   ·rw [heap_set, if_pos rfl, heap_set, if_neg (by simp), (HB.out _ hx7).2.2.2.2]; rfl
   ·have hv7 := HV7.out
    have hw7 := hb7.size
    exact (SliceR.stable (rdLin_stable _) hv7 (by (repeat' (first | (with_reducible exact Keeps.refl _ _) | (with_reducible refine Keeps.set ?_ ?_ _) | (with_reducible refine Keeps.alloc ?_ _) | (with_reducible refine Keeps.drew ?_) | (first | fail) | (simp; omega)))) (fun b h _ => (by have h' := h; (try simp at h'); omega)))
   ·exact ((H1.out.trans (hx7.mono hs1)).setCell (by show w.heap.size ≤ w.heap.size + 3; omega) _).setCell (by show w.heap.size ≤ w.heap.size + 4; omega) _
 case done =>
  rintro D ys W hD hys ⟨hal, hb, hzW⟩ hK
  subst hys
  have hbW := below_from hb6 hb
  obtain ⟨t3, t3f⟩ := blk (HB.out _ hbW).2.2.2.1
  obtain ⟨t4, t4f⟩ := blk (HB.out _ hbW).2.2.2.2
  have HR : Hid (unlinkL s = ([], 7)) := Lib.hid (HR.out.trans (if_neg (by
   rw [List.any_eq_true]
   rintro ⟨c, hc, hc2⟩
   exact absurd (hal c hc) (by simpa using hc2))))
  have HB9 := Lib.hid hbW
  have HK9 := Lib.hid hK
  clear hal hb hK
  gi_wp2_with fail
  have r1 : ((W.setCell ⟨w.heap.size + 1 + 1 + 1, 0, none⟩ (.slice none 0 0)).setCell ⟨w.heap.size + 1 + 1 + 1 + 1, 0, none⟩ (.int .i64 7)).cell? ⟨w.heap.size + 1 + 1 + 1, 0, none⟩ = some (.slice none 0 0) := (setCell_block (by omega)).trans (setCell_same (t3 0))
  have r2 : ((W.setCell ⟨w.heap.size + 1 + 1 + 1, 0, none⟩ (.slice none 0 0)).setCell ⟨w.heap.size + 1 + 1 + 1 + 1, 0, none⟩ (.int .i64 7)).cell? ⟨w.heap.size + 1 + 1 + 1 + 1, 0, none⟩ = some (.int .i64 7) := setCell_same ((setCell_block (by omega)).trans (t4 0))
  have hK2 : ((W.setCell ⟨w.heap.size + 1 + 1 + 1, 0, none⟩ (.slice none 0 0)).setCell ⟨w.heap.size + 1 + 1 + 1 + 1, 0, none⟩ (.int .i64 7)).heap[D]? = some (.deferred (some [])) := by rw [heap_set, if_neg (by show ¬ w.heap.size + 1 + 1 + 1 + 1 = D; omega), heap_set, if_neg (by show ¬ w.heap.size + 1 + 1 + 1 = D; omega)]; exact HK9.out
  have hbE : Below w.heap.size w ((W.setCell ⟨w.heap.size + 1 + 1 + 1, 0, none⟩ (.slice none 0 0)).setCell ⟨w.heap.size + 1 + 1 + 1 + 1, 0, none⟩ (.int .i64 7)) := ((H1.out.trans (HB9.out.mono hs1)).setCell (by show w.heap.size ≤ w.heap.size + 1 + 1 + 1; omega) _).setCell (by show w.heap.size ≤ w.heap.size + 1 + 1 + 1 + 1; omega) _
  refine ⟨by simp, .inl ⟨_, _, rfl, run_takeDeferred hK2, ?_⟩⟩
  refine ⟨_, results_doc_e rfl _ _ ⟨w.heap.size + 1 + 1 + 1, 0, none⟩ ⟨w.heap.size + 1 + 1 + 1 + 1, 0, none⟩ (.slice none 0 0) 7 ⟨_, _, _, rfl⟩ rfl rfl ((World.cell?_of_block (World.putObj_heap_other (by simp; omega))).trans r1) ((World.cell?_of_block (World.putObj_heap_other (by simp; omega))).trans r2), ?_⟩
  unfold DocSaid
  rw [HR.out]
  exact ⟨_, rfl, SliceR.nil _ _ _ _ _ _, hbE.trans (belowK_b (w := w) (Nat.le_refl _) _ D _ _ (by omega) hK2 rfl rfl)⟩
 case stop =>
  rintro D c pre W hD hpre ⟨rfl, ⟨z, hz1, hz2⟩, v9, h3, h4, h5, h6⟩ hK
  have HR : Hid (unlinkL s = (X, er)) := Lib.hid (HR.out.trans (if_pos (by
   rw [List.any_eq_true]
   exact ⟨z, hpre.subset hz1, by simpa using hz2⟩)))
  obtain ⟨t3, t3f⟩ := blk h3
  obtain ⟨t4, t4f⟩ := blk h4
  obtain ⟨a9, c9, rfl⟩ := h5.slice
  have HV9 := Lib.hid h5
  have HB9 := Lib.hid h6
  have HK9 := Lib.hid hK
  clear h3 h4 h5 h6 hK hpre hz1 hz2
  gi_wp2_with fail
  refine ⟨by simp, .inl ⟨_, _, rfl, run_takeDeferred HK9.out, ?_⟩⟩
  refine ⟨_, results_doc_e rfl _ _ ⟨w.heap.size + 1 + 1 + 1, 0, none⟩ ⟨w.heap.size + 1 + 1 + 1 + 1, 0, none⟩ (.slice a9 X.length c9) er ⟨_, _, _, rfl⟩ rfl rfl ((World.cell?_of_block (World.putObj_heap_other (by simp; omega))).trans (t3 0)) ((World.cell?_of_block (World.putObj_heap_other (by simp; omega))).trans (t4 0)), ?_⟩
  unfold DocSaid
  rw [HR.out]
  exact ⟨_, rfl, SliceR.stable (rdLin_stable true) ((doc_own (β := Unit) D _ _ (fun _ => X)).putObj (s := ()) _ HV9.out (Nat.le_refl _) HK9.out rfl) (Keeps.refl _ _) (fun b h _ => Nat.le_trans (by omega) h), HB9.out.trans (belowK_b (w := w) (Nat.le_refl _) W D _ _ (by omega) HK9.out rfl rfl)⟩
set_option maxRecDepth 100000 in
set_option maxHeartbeats 2000000 in
theorem styUnlink_any (v : Value) (s : St) (w : World) (S : Nat → Prop) (h : LinsR w S v s.lines) (he : EnvT w) (hs : Small s.lines) (hf : Fits s.lines) :
  Calls Tryz.prog 37 #[stV v s] w (StSaid (changedS s (unlinkL s)) w) := by
 obtain ⟨W1, hW1, hB, hz, k0, k2⟩ := st_two w v s
 have HB : Hid (∀ W, Below W1.heap.size W1 W → W.heap[w.heap.size]? = some (.cells #[v, .int .i64 s.anc.line, .int .i64 s.anc.col, .int .i64 s.foc.line, .int .i64 s.foc.col, .int .i64 s.on, .int .i64 s.off] 26) ∧ W.heap[w.heap.size + 1]? = some (.cells #[.slice none 0 0, .int .i64 0, .int .i64 0, .int .i64 0, .int .i64 0, .int .i64 0, .int .i64 0] 26)) := Lib.hid fun W hW => ⟨heap_below hW k0, heap_below hW k2⟩
 have hs1 := hB.size
 have H1 := Lib.hid hB
 have HC := Lib.hid (styChanged_any v s 107 #[.pointer (some ⟨w.heap.size, 0, none⟩)] (unlinkL s) W1 S (h.below (rdLin_stable _) hB) (he.below hB) hs (enters_of Tryz.func107 (by kernel_rfl) rfl)
  (fun hm W hW => styUnlink1_any w.heap.size v s (spanS s).1 (spanS s).2 W S (h.below (rdLin_stable _) (hB.trans (hW.mono hs1))) ((he.below hB).below hW) hs hf (mayS_at hm).2.1 (heap_below hW k0)))
 obtain ⟨X, hX⟩ : ∃ X, changedS s (unlinkL s) = X := ⟨_, rfl⟩
 rw [hX] at HC ⊢
 obtain ⟨p0, f0⟩ := blk k0
 obtain ⟨p2, f2⟩ := blk k2
 obtain ⟨va, vc, rfl⟩ := h.slice
 clear h he hs hf hX k0 k2 hB
 go_enter Tryz.func37, Tryz.ntmps37
 go_wp2_with (go_at_call 95; refine HC.out.mono ?_; intro e w2 hsaid; obtain ⟨v2, rfl, hv2, hb2⟩ := hsaid; obtain ⟨a2, c2, rfl⟩ := hv2.slice; have HV2 := Lib.hid hv2; clear hv2; obtain ⟨q2, g2⟩ := blk (HB.out _ hb2).2)
 refine bodyPost_ret (results_st_e rfl _ _ (w.heap.size + 1) (.slice a2 X.1.lines.length c2) (.int .i64 X.1.anc.line) (.int .i64 X.1.anc.col) (.int .i64 X.1.foc.line) (.int .i64 X.1.foc.col) (.int .i64 X.1.on) (.int .i64 X.1.off) (.int .i64 X.2) rfl rfl (by simp [heap_set, putIn, (HB.out _ hb2).2])) rfl ?_
 have hfin := H1.out.trans (hb2.mono hs1)
 have hv2 := HV2.out
 exact ⟨_, rfl, (SliceR.stable (rdLin_stable _) hv2 (by (repeat' (first | (with_reducible exact Keeps.refl _ _) | (with_reducible refine Keeps.set ?_ ?_ _) | (with_reducible refine Keeps.alloc ?_ _) | (with_reducible refine Keeps.drew ?_) | (first | fail) | (simp; omega)))) (fun b h _ => (by have h' := h; (try simp at h'); omega))), by (repeat' (first | (with_reducible exact Below.refl _ _) | (with_reducible assumption) | (with_reducible refine Below.alloc ?_ ?_ _) | (with_reducible refine Below.drew ?_) | (with_reducible refine drewN_below ?_) | (with_reducible refine Below.setCell ?_ ?_ _) | go_size))⟩
end Go.Proofs.YtpndnbjpnajaaaaGreatDoor
namespace Go.Proofs.Qw
open Go.RowKit Go.Proofs.YtpndnbjpnajaaaaGreatDoor
def exL (b c : Int) (h k : List UInt8) : Doc := [⟨0, [], 0, [⟨97, b, h⟩, ⟨98, c, k⟩]⟩]
def exA : St := ⟨exL 0 1 [] [], ⟨0, 0⟩, ⟨0, 2⟩, 0, 0⟩
def exB : St := ⟨exL 1 1 [] [], ⟨0, 0⟩, ⟨0, 2⟩, 0, 0⟩
def exC : St := ⟨exL 0 0 [] [], ⟨0, 0⟩, ⟨0, 2⟩, 0, 0⟩
def exX : List UInt8 := [120]
def exD : St := ⟨exL 0 1 exX exX, ⟨0, 0⟩, ⟨0, 2⟩, 0, 0⟩
def exE : St := ⟨exL 0 1 [] [], ⟨0, 2⟩, ⟨0, 2⟩, 0, 0⟩
def exF : St := ⟨exL 0 1 [] [], ⟨0, 2⟩, ⟨0, 2⟩, 0, 1⟩
theorem exA_tog : toggleS exA 1 = (exB, 0) := by decide +kernel
theorem exB_tog : toggleS exB 1 = (exC, 0) := by decide +kernel
theorem exA_link : changedS exA (linkL exA [120]) = (exD, 0) := by decide +kernel
theorem exA_off : changedS exA (linkL exA [32, 120]) = (noS, 1) := by decide +kernel
theorem exE_tog : toggleS exE 1 = (exF, 0) := by decide +kernel
theorem exD_href : hrefS exD = [120] := by decide +kernel
theorem exE_bits : bitsS exE = 1 := by decide +kernel
theorem exF_bits : bitsS exF = 0 := by decide +kernel
end Go.Proofs.Qw
namespace Go.Proofs.YtpndnbjpnajaaaaGreatDoor
open Go.RowKit
open Go.Proofs.Qw
theorem on1f {w : World} {B : Nat} {cs : Array Value} {t : TypeId} (h : w.heap[B]? = some (.cells cs t)) : ∀ X k, (w.alloc X).frozen? ⟨B, k, none⟩ = false := fun X _ => frozen_of_heap (heap_old _ X h)
theorem exL_small (b c : Int) {h k : List UInt8} (h1 : h.length ≤ 10) (h2 : k.length ≤ 10) : Small (exL b c h k) ∧ Fits (exL b c h k) := by
 refine ⟨⟨by simp [sizeD, exL], by simp [exL], fun l hl x hx => ?_⟩, by simp [exL], fun l hl => ?_⟩
 ·simp only [exL, List.mem_singleton] at hl
  subst hl
  simp only [List.mem_cons, List.mem_nil_iff, or_false] at hx
  rcases hx with rfl | rfl
  ·show h.length ≤ _; omega
  ·show k.length ≤ _; omega
 ·simp only [exL, List.mem_singleton] at hl
  subst hl
  simp
theorem exL_at {w : World} {S : Nat → Prop} {v : Value} {b c : Int} {h k : List UInt8} (hv : DocR true w S v (exL b c h k)) :
  ∃ p o n la lc p2 o2 n2, v = .slice (some ⟨p, o, none⟩) 1 n ∧ p < w.heap.size ∧ p2 < w.heap.size ∧ w.cell? ⟨p, o + 1, none⟩ = some (.slice la 0 lc) ∧ w.cell? ⟨p, o + 3, none⟩ = some (.slice (some ⟨p2, o2, none⟩) 2 n2) ∧ w.cell? ⟨p2, o2 + 1, none⟩ = some (.int .i64 b) ∧ w.cell? ⟨p2, o2 + 3 + 1, none⟩ = some (.int .i64 c) ∧ n ≤ maxLen ∧ n2 ≤ maxLen ∧ 1 ≤ n ∧ 2 ≤ n2 := by
 obtain ⟨p, o, n, la, lc, ca, cc, rfl, hc, hm, hA, _, hC, _⟩ := docOwn_at hv (i := 0) (l := ⟨0, [], 0, [⟨97, b, h⟩, ⟨98, c, k⟩]⟩) rfl
 rw [Nat.zero_mul, Nat.add_zero] at hA
 obtain ⟨hlt, _, a1, _, a3, _, _⟩ := hA
 obtain ⟨a, n2, he, hn2, hm2, hx⟩ := cels_shape (SliceR.read (fun _ _ h => h) hC)
 cases he
 obtain ⟨p2, o2, rfl, hz2, _, c1, _⟩ := hx 0 _ rfl
 obtain ⟨p3, o3, he3, _, _, d1, _⟩ := hx 1 _ rfl
 cases he3
 rw [Nat.zero_mul, Nat.add_zero] at c1
 rw [Nat.one_mul] at d1
 exact ⟨p, o, n, la, lc, p2, o2, _, rfl, hlt, hz2, a1, a3, c1, d1, hm, hm2, hc, hn2⟩
set_option maxRecDepth 100000 in
set_option maxHeartbeats 4000000 in
theorem awake24_any (w : World) (he : EnvT w) : Calls Tryz.prog 18 #[] w fun e w' => e = .returned (.bool true) ∧ Below w.heap.size w w' := by
 obtain ⟨W1, hW1⟩ : ∃ W1, ((w.alloc (.cells #[.int .i32 97, .int .i64 0, .string ⟨#[]⟩, .int .i32 98, .int .i64 1, .string ⟨#[]⟩] 44)).alloc (.cells #[.int .i64 0, .slice none 0 0, .int .i64 0, .slice (some ⟨w.heap.size, 0, none⟩) 2 2] 42)).alloc (.cells #[.slice (some ⟨w.heap.size + 1, 0, none⟩) 1 1, .int .i64 0, .int .i64 0, .int .i64 0, .int .i64 2, .int .i64 0, .int .i64 0] 26) = W1 := ⟨_, rfl⟩
 have hB : Below w.heap.size w W1 := hW1 ▸ below3 (Below.refl _ _) _ _ _
 have hz : w.heap.size + 3 = W1.heap.size := by rw [← hW1]; simp
 have k0 : W1.heap[w.heap.size]? = some (.cells #[.int .i32 97, .int .i64 0, .string ⟨#[]⟩, .int .i32 98, .int .i64 1, .string ⟨#[]⟩] 44) := hW1 ▸ heap_old _ _ (heap_old _ _ (heap_new _ _ rfl))
 have k1 : W1.heap[w.heap.size + 1]? = some (.cells #[.int .i64 0, .slice none 0 0, .int .i64 0, .slice (some ⟨w.heap.size, 0, none⟩) 2 2] 42) := hW1 ▸ heap_old _ _ (heap_new _ _ (by simp))
 have k2 : W1.heap[w.heap.size + 1 + 1]? = some (.cells #[.slice (some ⟨w.heap.size + 1, 0, none⟩) 1 1, .int .i64 0, .int .i64 0, .int .i64 0, .int .i64 2, .int .i64 0, .int .i64 0] 26) := hW1 ▸ heap_new _ _ (by simp)
 have hd0 : LinsR W1 (fun b => b < w.heap.size + 2) (.slice (some ⟨w.heap.size + 1, 0, none⟩) 1 1) (exL 0 1 [] []) := by
  refine ⟨_, 1, rfl, Nat.le_refl _, by decide, .inr ⟨w.heap.size + 1, 0, rfl, (by show w.heap.size + 1 < w.heap.size + 2; omega), by omega, fun h => (by cases h), fun i x hx => ?_⟩⟩
  match i, hx with
  | 0, hx =>
   cases hx
   exact ⟨[.int .i64 0, .slice none 0 0, .int .i64 0, .slice (some ⟨w.heap.size, 0, none⟩) 2 2], rfl, ⟨.slice none 0 0, _, rfl, SliceR.nil _ _ _ _ _ _, slice_blk (enc := encCel) (fun _ => rfl) [⟨97, 0, []⟩, ⟨98, 1, []⟩] k0 (by show w.heap.size < w.heap.size + 2; omega) (by decide)⟩, fun j u hu => by
    rw [cell_of_heap k1, Nat.zero_mul, Nat.zero_add]
    simpa using hu⟩
 have hs1 := hB.size
 have HE : Hid (∀ W, Below w.heap.size w W → EnvT W) := Lib.hid fun W hW => he.below hW
 have HB1 := Lib.hid hB
 have HD1 := Lib.hid hd0
 have HK1 := Lib.hid k2
 have HS1 : Hid (w.heap.size + 3 ≤ W1.heap.size) := Lib.hid (by omega)
 have HW1 := Lib.hid hW1
 clear he hd0 k0 k1 k2 hB hW1
 go_enter Tryz.func18, Tryz.ntmps18
 go_wp2_with fail
 rw [HW1.out]
 have HC2 : Hid (Calls Tryz.prog 29 #[.agg #[.slice (some ⟨w.heap.size + 1, 0, none⟩) 1 1, .int .i64 0, .int .i64 0, .int .i64 0, .int .i64 2, .int .i64 0, .int .i64 0], .int .i64 1] W1 (StSaid ((⟨exL 1 1 [] [], ⟨0, 0⟩, ⟨0, 2⟩, 0, 0⟩, 0)) W1)) := Lib.hid (by
  have := styToggle_any (.slice (some ⟨w.heap.size + 1, 0, none⟩) 1 1) exA 1 W1 _ HD1.out (HE.out _ HB1.out) (exL_small _ _ (by decide) (by decide)).1 (exL_small _ _ (by decide) (by decide)).2
  rw [exA_tog] at this
  exact this)
 refine HC2.out.mono ?_
 intro e w2 hsaid
 obtain ⟨v2, rfl, hv2, hst2⟩ := hsaid
 obtain ⟨x2, y2, hve2⟩ := hv2.slice
 rw [show (exL 1 1 [] []).length = 1 from rfl] at hve2
 subst hve2
 have HB20 : Hid (Below w.heap.size w w2) := Lib.hid (below_from HB1.out hst2)
 have HK20 := Lib.hid (heap_below hst2 HK1.out)
 have HD20 := Lib.hid (HD1.out.below (rdLin_stable _) hst2)
 have HS20 := Lib.hid (Nat.le_trans HS1.out hst2.size)
 have HR2_20 := Lib.hid hv2
 have HT2 := Lib.hid hst2
 clear hv2 hst2
 obtain ⟨q2, g2⟩ := blk HK20.out
 have r2 := on1 HK20.out
 have u2 := on1f HK20.out
 have e2 : ¬ w2.heap.size = w.heap.size + 1 + 1 := by have := HS20.out; omega
 go_wp2_with fail
 obtain ⟨m2, hm2⟩ : ∃ m2, w2.alloc (.cells #[.slice x2 1 y2, .int .i64 0, .int .i64 0, .int .i64 0, .int .i64 2, .int .i64 0, .int .i64 0] 26) = m2 := ⟨_, rfl⟩
 rw [hm2]
 have hbm2 : Below w2.heap.size w2 m2 := hm2 ▸ below1 (Below.refl _ _) _
 have HN2_2 : Hid (m2.heap[w2.heap.size]? = some (.cells #[.slice x2 1 y2, .int .i64 0, .int .i64 0, .int .i64 0, .int .i64 2, .int .i64 0, .int .i64 0] 26)) := Lib.hid (hm2 ▸ heap_new _ _ rfl)
 have HB2 := Lib.hid (below_from HB20.out hbm2)
 have HK2 := Lib.hid (heap_below hbm2 HK20.out)
 have HD2 := Lib.hid (HD20.out.below (rdLin_stable _) hbm2)
 have HS2 := Lib.hid (Nat.le_trans HS20.out hbm2.size)
 have HR2_2 := Lib.hid (HR2_20.out.below hbm2)
 clear hbm2 hm2 q2 g2 r2 u2 e2
 have HC3 : Hid (Calls Tryz.prog 29 #[.agg #[.slice x2 1 y2, .int .i64 0, .int .i64 0, .int .i64 0, .int .i64 2, .int .i64 0, .int .i64 0], .int .i64 1] m2 (StSaid ((⟨exL 0 0 [] [], ⟨0, 0⟩, ⟨0, 2⟩, 0, 0⟩, 0)) m2)) := Lib.hid (by
  have := styToggle_any _ exB 1 m2 _ HR2_2.out.read (HE.out _ HB2.out) (exL_small _ _ (by decide) (by decide)).1 (exL_small _ _ (by decide) (by decide)).2
  rw [exB_tog] at this
  exact this)
 refine HC3.out.mono ?_
 intro e w3 hsaid
 obtain ⟨v3, rfl, hv3, hst3⟩ := hsaid
 obtain ⟨x3, y3, hve3⟩ := hv3.slice
 rw [show (exL 0 0 [] []).length = 1 from rfl] at hve3
 subst hve3
 have HB30 : Hid (Below w.heap.size w w3) := Lib.hid (below_from HB2.out hst3)
 have HK30 := Lib.hid (heap_below hst3 HK2.out)
 have HD30 := Lib.hid (HD2.out.below (rdLin_stable _) hst3)
 have HS30 := Lib.hid (Nat.le_trans HS2.out hst3.size)
 have HR3_30 := Lib.hid hv3
 have HR2_30 := Lib.hid (HR2_2.out.below hst3)
 have HN2_30 := Lib.hid (heap_below hst3 HN2_2.out)
 have HT3 := Lib.hid hst3
 clear hv3 hst3
 obtain ⟨q3, g3⟩ := blk HK30.out
 have r3 := on1 HK30.out
 have u3 := on1f HK30.out
 have e3 : ¬ w3.heap.size = w.heap.size + 1 + 1 := by have := HS30.out; omega
 go_wp2_with fail
 obtain ⟨m3, hm3⟩ : ∃ m3, w3.alloc (.cells #[.slice x3 1 y3, .int .i64 0, .int .i64 0, .int .i64 0, .int .i64 2, .int .i64 0, .int .i64 0] 26) = m3 := ⟨_, rfl⟩
 rw [hm3]
 have hbm3 : Below w3.heap.size w3 m3 := hm3 ▸ below1 (Below.refl _ _) _
 have HN3_3 : Hid (m3.heap[w3.heap.size]? = some (.cells #[.slice x3 1 y3, .int .i64 0, .int .i64 0, .int .i64 0, .int .i64 2, .int .i64 0, .int .i64 0] 26)) := Lib.hid (hm3 ▸ heap_new _ _ rfl)
 have HB3 := Lib.hid (below_from HB30.out hbm3)
 have HK3 := Lib.hid (heap_below hbm3 HK30.out)
 have HD3 := Lib.hid (HD30.out.below (rdLin_stable _) hbm3)
 have HS3 := Lib.hid (Nat.le_trans HS30.out hbm3.size)
 have HR3_3 := Lib.hid (HR3_30.out.below hbm3)
 have HR2_3 := Lib.hid (HR2_30.out.below hbm3)
 have HN2_3 := Lib.hid (heap_below hbm3 HN2_30.out)
 clear hbm3 hm3 q3 g3 r3 u3 e3
 have HC4 : Hid (Calls Tryz.prog 30 #[.agg #[.slice (some ⟨w.heap.size + 1, 0, none⟩) 1 1, .int .i64 0, .int .i64 0, .int .i64 0, .int .i64 2, .int .i64 0, .int .i64 0], .string ⟨#[120]⟩] m3 (StSaid ((⟨exL 0 1 exX exX, ⟨0, 0⟩, ⟨0, 2⟩, 0, 0⟩, 0)) m3)) := Lib.hid (by
  have := styLink_any (.slice (some ⟨w.heap.size + 1, 0, none⟩) 1 1) exA [120] m3 _ HD3.out (HE.out _ HB3.out) (exL_small _ _ (by decide) (by decide)).1 (exL_small _ _ (by decide) (by decide)).2 (by decide)
  rw [exA_link] at this
  exact this)
 refine HC4.out.mono ?_
 intro e w4 hsaid
 obtain ⟨v4, rfl, hv4, hst4⟩ := hsaid
 obtain ⟨x4, y4, hve4⟩ := hv4.slice
 rw [show (exL 0 1 exX exX).length = 1 from rfl] at hve4
 subst hve4
 have HB40 : Hid (Below w.heap.size w w4) := Lib.hid (below_from HB3.out hst4)
 have HK40 := Lib.hid (heap_below hst4 HK3.out)
 have HD40 := Lib.hid (HD3.out.below (rdLin_stable _) hst4)
 have HS40 := Lib.hid (Nat.le_trans HS3.out hst4.size)
 have HR4_40 := Lib.hid hv4
 have HR2_40 := Lib.hid (HR2_3.out.below hst4)
 have HN2_40 := Lib.hid (heap_below hst4 HN2_3.out)
 have HR3_40 := Lib.hid (HR3_3.out.below hst4)
 have HN3_40 := Lib.hid (heap_below hst4 HN3_3.out)
 have HT4 := Lib.hid hst4
 clear hv4 hst4
 obtain ⟨q4, g4⟩ := blk HK40.out
 have r4 := on1 HK40.out
 have u4 := on1f HK40.out
 have e4 : ¬ w4.heap.size = w.heap.size + 1 + 1 := by have := HS40.out; omega
 go_wp2_with fail
 obtain ⟨m4, hm4⟩ : ∃ m4, w4.alloc (.cells #[.slice x4 1 y4, .int .i64 0, .int .i64 0, .int .i64 0, .int .i64 2, .int .i64 0, .int .i64 0] 26) = m4 := ⟨_, rfl⟩
 rw [hm4]
 have hbm4 : Below w4.heap.size w4 m4 := hm4 ▸ below1 (Below.refl _ _) _
 have HN4_4 : Hid (m4.heap[w4.heap.size]? = some (.cells #[.slice x4 1 y4, .int .i64 0, .int .i64 0, .int .i64 0, .int .i64 2, .int .i64 0, .int .i64 0] 26)) := Lib.hid (hm4 ▸ heap_new _ _ rfl)
 have HB4 := Lib.hid (below_from HB40.out hbm4)
 have HK4 := Lib.hid (heap_below hbm4 HK40.out)
 have HD4 := Lib.hid (HD40.out.below (rdLin_stable _) hbm4)
 have HS4 := Lib.hid (Nat.le_trans HS40.out hbm4.size)
 have HR4_4 := Lib.hid (HR4_40.out.below hbm4)
 have HR2_4 := Lib.hid (HR2_40.out.below hbm4)
 have HN2_4 := Lib.hid (heap_below hbm4 HN2_40.out)
 have HR3_4 := Lib.hid (HR3_40.out.below hbm4)
 have HN3_4 := Lib.hid (heap_below hbm4 HN3_40.out)
 clear hbm4 hm4 q4 g4 r4 u4 e4
 have HC5 : Hid (Calls Tryz.prog 30 #[.agg #[.slice (some ⟨w.heap.size + 1, 0, none⟩) 1 1, .int .i64 0, .int .i64 0, .int .i64 0, .int .i64 2, .int .i64 0, .int .i64 0], .string ⟨#[32, 120]⟩] m4 (StSaid ((⟨[], ⟨0, 0⟩, ⟨0, 0⟩, 0, 0⟩, 1)) m4)) := Lib.hid (by
  have := styLink_any (.slice (some ⟨w.heap.size + 1, 0, none⟩) 1 1) exA [32, 120] m4 _ HD4.out (HE.out _ HB4.out) (exL_small _ _ (by decide) (by decide)).1 (exL_small _ _ (by decide) (by decide)).2 (by decide)
  rw [exA_off] at this
  exact this)
 refine HC5.out.mono ?_
 intro e w5 hsaid
 obtain ⟨v5, rfl, hv5, hst5⟩ := hsaid
 obtain ⟨x5, y5, hve5⟩ := hv5.slice
 rw [show (([] : Doc)).length = 0 from rfl] at hve5
 subst hve5
 have HB50 : Hid (Below w.heap.size w w5) := Lib.hid (below_from HB4.out hst5)
 have HK50 := Lib.hid (heap_below hst5 HK4.out)
 have HD50 := Lib.hid (HD4.out.below (rdLin_stable _) hst5)
 have HS50 := Lib.hid (Nat.le_trans HS4.out hst5.size)
 have HR5_50 := Lib.hid hv5
 have HR2_50 := Lib.hid (HR2_4.out.below hst5)
 have HN2_50 := Lib.hid (heap_below hst5 HN2_4.out)
 have HR3_50 := Lib.hid (HR3_4.out.below hst5)
 have HN3_50 := Lib.hid (heap_below hst5 HN3_4.out)
 have HR4_50 := Lib.hid (HR4_4.out.below hst5)
 have HN4_50 := Lib.hid (heap_below hst5 HN4_4.out)
 have HT5 := Lib.hid hst5
 clear hv5 hst5
 obtain ⟨q5, g5⟩ := blk HK50.out
 have r5 := on1 HK50.out
 have u5 := on1f HK50.out
 have e5 : ¬ w5.heap.size = w.heap.size + 1 + 1 := by have := HS50.out; omega
 go_wp2_with fail
 obtain ⟨m5, hm5⟩ : ∃ m5, w5.alloc (.cells #[.slice x5 0 y5, .int .i64 0, .int .i64 0, .int .i64 0, .int .i64 0, .int .i64 0, .int .i64 0] 26) = m5 := ⟨_, rfl⟩
 rw [hm5]
 have hbm5 : Below w5.heap.size w5 m5 := hm5 ▸ below1 (Below.refl _ _) _
 have HN5_5 : Hid (m5.heap[w5.heap.size]? = some (.cells #[.slice x5 0 y5, .int .i64 0, .int .i64 0, .int .i64 0, .int .i64 0, .int .i64 0, .int .i64 0] 26)) := Lib.hid (hm5 ▸ heap_new _ _ rfl)
 have HB5 := Lib.hid (below_from HB50.out hbm5)
 have HK5 := Lib.hid (heap_below hbm5 HK50.out)
 have HD5 := Lib.hid (HD50.out.below (rdLin_stable _) hbm5)
 have HS5 := Lib.hid (Nat.le_trans HS50.out hbm5.size)
 have HR5_5 := Lib.hid (HR5_50.out.below hbm5)
 have HR2_5 := Lib.hid (HR2_50.out.below hbm5)
 have HN2_5 := Lib.hid (heap_below hbm5 HN2_50.out)
 have HR3_5 := Lib.hid (HR3_50.out.below hbm5)
 have HN3_5 := Lib.hid (heap_below hbm5 HN3_50.out)
 have HR4_5 := Lib.hid (HR4_50.out.below hbm5)
 have HN4_5 := Lib.hid (heap_below hbm5 HN4_50.out)
 clear hbm5 hm5 q5 g5 r5 u5 e5
 obtain ⟨m6, hm6⟩ : ∃ m6, (m5.setCell ⟨w.heap.size + 1 + 1, 1, none⟩ (.int .i64 0)).setCell ⟨w.heap.size + 1 + 1, 2, none⟩ (.int .i64 2) = m6 := ⟨_, rfl⟩
 rw [hm6]
 have o6 : ∀ k, k ≠ w.heap.size + 1 + 1 → m6.heap[k]? = m5.heap[k]? := fun k hk => by rw [← hm6, heap_set, if_neg (Ne.symm hk), heap_set, if_neg (Ne.symm hk)]
 have z6 : m6.heap.size = m5.heap.size := by rw [← hm6]; simp
 have HB6 : Hid (Below w.heap.size w m6) := Lib.hid (hm6 ▸ (HB5.out.setCell (by show w.heap.size ≤ w.heap.size + 1 + 1; omega) _).setCell (by show w.heap.size ≤ w.heap.size + 1 + 1; omega) _)
 have HK6 : Hid (m6.heap[w.heap.size + 1 + 1]? = some (.cells #[.slice (some ⟨w.heap.size + 1, 0, none⟩) 1 1, .int .i64 0, .int .i64 2, .int .i64 0, .int .i64 2, .int .i64 0, .int .i64 0] 26)) := Lib.hid (by rw [← hm6, heap_set, if_pos rfl, heap_set, if_pos rfl, HK5.out]; rfl)
 have HD6 := Lib.hid (SliceR.stable (rdLin_stable false) HD5.out ⟨by omega, fun b hb _ => o6 b (by have hb : b < w.heap.size + 2 := hb; omega)⟩ (fun b h _ => h))
 have HS6 : Hid (w.heap.size + 3 ≤ m6.heap.size) := Lib.hid (by have := HS5.out; omega)
 have HR2_6 : Hid (DocR true m6 (fun b => W1.heap.size ≤ b) (.slice x2 1 y2) (exL 1 1 [] [])) := Lib.hid (SliceR.stable (rdLin_stable true) HR2_5.out ⟨by omega, fun b hb _ => o6 b (by have hb : W1.heap.size ≤ b := hb; have := HS1.out; omega)⟩ (fun b h _ => h))
 have HN2_6 := Lib.hid ((o6 w2.heap.size (by have := HS20.out; omega)).trans HN2_5.out)
 have HR3_6 : Hid (DocR true m6 (fun b => m2.heap.size ≤ b) (.slice x3 1 y3) (exL 0 0 [] [])) := Lib.hid (SliceR.stable (rdLin_stable true) HR3_5.out ⟨by omega, fun b hb _ => o6 b (by have hb : m2.heap.size ≤ b := hb; have := HS2.out; omega)⟩ (fun b h _ => h))
 have HN3_6 := Lib.hid ((o6 w3.heap.size (by have := HS30.out; omega)).trans HN3_5.out)
 have HR4_6 : Hid (DocR true m6 (fun b => m3.heap.size ≤ b) (.slice x4 1 y4) (exL 0 1 exX exX)) := Lib.hid (SliceR.stable (rdLin_stable true) HR4_5.out ⟨by omega, fun b hb _ => o6 b (by have hb : m3.heap.size ≤ b := hb; have := HS3.out; omega)⟩ (fun b h _ => h))
 have HN4_6 := Lib.hid ((o6 w4.heap.size (by have := HS40.out; omega)).trans HN4_5.out)
 clear hm6 o6 z6
 have HC7 : Hid (Calls Tryz.prog 29 #[.agg #[.slice (some ⟨w.heap.size + 1, 0, none⟩) 1 1, .int .i64 0, .int .i64 2, .int .i64 0, .int .i64 2, .int .i64 0, .int .i64 0], .int .i64 1] m6 (StSaid ((⟨exL 0 1 [] [], ⟨0, 2⟩, ⟨0, 2⟩, 0, 1⟩, 0)) m6)) := Lib.hid (by
  have := styToggle_any (.slice (some ⟨w.heap.size + 1, 0, none⟩) 1 1) exE 1 m6 _ HD6.out (HE.out _ HB6.out) (exL_small _ _ (by decide) (by decide)).1 (exL_small _ _ (by decide) (by decide)).2
  rw [exE_tog] at this
  exact this)
 refine HC7.out.mono ?_
 intro e w7 hsaid
 obtain ⟨v7, rfl, hv7, hst7⟩ := hsaid
 obtain ⟨x7, y7, hve7⟩ := hv7.slice
 rw [show (exL 0 1 [] []).length = 1 from rfl] at hve7
 subst hve7
 have HB70 : Hid (Below w.heap.size w w7) := Lib.hid (below_from HB6.out hst7)
 have HK70 := Lib.hid (heap_below hst7 HK6.out)
 have HD70 := Lib.hid (HD6.out.below (rdLin_stable _) hst7)
 have HS70 := Lib.hid (Nat.le_trans HS6.out hst7.size)
 have HR7_70 := Lib.hid hv7
 have HR2_70 := Lib.hid (HR2_6.out.below hst7)
 have HN2_70 := Lib.hid (heap_below hst7 HN2_6.out)
 have HR3_70 := Lib.hid (HR3_6.out.below hst7)
 have HN3_70 := Lib.hid (heap_below hst7 HN3_6.out)
 have HR4_70 := Lib.hid (HR4_6.out.below hst7)
 have HN4_70 := Lib.hid (heap_below hst7 HN4_6.out)
 have HT7 := Lib.hid hst7
 clear hv7 hst7
 obtain ⟨q7, g7⟩ := blk HK70.out
 have r7 := on1 HK70.out
 have u7 := on1f HK70.out
 have e7 : ¬ w7.heap.size = w.heap.size + 1 + 1 := by have := HS70.out; omega
 go_upto_region 8 with fail
 obtain ⟨m7, hm7⟩ : ∃ m7, w7.alloc (.cells #[.slice x7 1 y7, .int .i64 0, .int .i64 2, .int .i64 0, .int .i64 2, .int .i64 0, .int .i64 1] 26) = m7 := ⟨_, rfl⟩
 rw [hm7]
 have hbm7 : Below w7.heap.size w7 m7 := hm7 ▸ below1 (Below.refl _ _) _
 have HN7_7 : Hid (m7.heap[w7.heap.size]? = some (.cells #[.slice x7 1 y7, .int .i64 0, .int .i64 2, .int .i64 0, .int .i64 2, .int .i64 0, .int .i64 1] 26)) := Lib.hid (hm7 ▸ heap_new _ _ rfl)
 have HB7 := Lib.hid (below_from HB70.out hbm7)
 have HK7 := Lib.hid (heap_below hbm7 HK70.out)
 have HD7 := Lib.hid (HD70.out.below (rdLin_stable _) hbm7)
 have HS7 := Lib.hid (Nat.le_trans HS70.out hbm7.size)
 have HR7_7 := Lib.hid (HR7_70.out.below hbm7)
 have HR2_7 := Lib.hid (HR2_70.out.below hbm7)
 have HN2_7 := Lib.hid (heap_below hbm7 HN2_70.out)
 have HR3_7 := Lib.hid (HR3_70.out.below hbm7)
 have HN3_7 := Lib.hid (heap_below hbm7 HN3_70.out)
 have HR4_7 := Lib.hid (HR4_70.out.below hbm7)
 have HN4_7 := Lib.hid (heap_below hbm7 HN4_70.out)
 clear hbm7 hm7 q7 g7 r7 u7 e7
 have H7 := Below.refl m7.heap.size m7
 have HHr : Hid (Calls Tryz.prog 25 #[.agg #[.slice x4 1 y4, .int .i64 0, .int .i64 0, .int .i64 0, .int .i64 2, .int .i64 0, .int .i64 0]] m7 fun e w' => e = .returned (.string ⟨#[120]⟩) ∧ Below m7.heap.size m7 w') := Lib.hid (by
  have := styHref_any _ exD m7 _ HR4_7.out.read (HE.out _ HB7.out) (exL_small _ _ (by decide) (by decide)).1 (exL_small _ _ (by decide) (by decide)).2
  rw [exD_href] at this
  exact this)
 have HBe : Hid (∀ W, Below m7.heap.size m7 W → Calls Tryz.prog 19 #[.agg #[.slice (some ⟨w.heap.size + 1, 0, none⟩) 1 1, .int .i64 0, .int .i64 2, .int .i64 0, .int .i64 2, .int .i64 0, .int .i64 0]] W fun e w' => e = .returned (.int .i64 1) ∧ Below W.heap.size W w') := Lib.hid fun W hW => by
  have := styBits_any (.slice (some ⟨w.heap.size + 1, 0, none⟩) 1 1) exE W _ (HD7.out.below (rdLin_stable _) hW) (HE.out _ (below_from HB7.out hW)) (exL_small _ _ (by decide) (by decide)).1 (exL_small _ _ (by decide) (by decide)).2
  rw [exE_bits] at this
  exact this
 have HBf : Hid (∀ W, Below m7.heap.size m7 W → Calls Tryz.prog 19 #[.agg #[.slice x7 1 y7, .int .i64 0, .int .i64 2, .int .i64 0, .int .i64 2, .int .i64 0, .int .i64 1]] W fun e w' => e = .returned (.int .i64 0) ∧ Below W.heap.size W w') := Lib.hid fun W hW => by
  have := styBits_any _ exF W _ ((HR7_7.out.read).below (rdLin_stable _) hW) (HE.out _ (below_from HB7.out hW)) (exL_small _ _ (by decide) (by decide)).1 (exL_small _ _ (by decide) (by decide)).2
  rw [exF_bits] at this
  exact this
 have HX2 := Lib.hid (exL_at HR2_7.out)
 have HX3 := Lib.hid (exL_at HR3_7.out)
 obtain ⟨q2, g2⟩ := blk HN2_7.out
 obtain ⟨q3, g3⟩ := blk HN3_7.out
 obtain ⟨q4, g4⟩ := blk HN4_7.out
 obtain ⟨q7, g7⟩ := blk HN7_7.out
 obtain ⟨p2, o2, n2, la2, lc2, p3, o3, n3, he2, _, _, _, a2, b2, _, hn2, hn3, hn4, hn5⟩ := HX2.out
 cases he2
 obtain ⟨p4, o4, n6, la4, lc4, p5, o5, n7, he4, _, _, _, a4, _, b5, hn6, hn7, hn8, hn9⟩ := HX3.out
 cases he4
 unfold maxLen at hn2 hn3 hn6 hn7
 clear HX2 HX3
 go_wp2_with fail
 with_reducible refine HHr.out.mono ?_
 rintro e w8 ⟨rfl, hb8⟩
 obtain ⟨s1, t1⟩ := blk (heap_below hb8 HK7.out)
 obtain ⟨s2, t2⟩ := blk (heap_below hb8 HN7_7.out)
 go_wp2_with fail
 with_reducible refine (HBe.out _ hb8).mono ?_
 rintro e w9 ⟨rfl, hst9⟩
 have hb9 := below_from hb8 hst9
 obtain ⟨s3, t3⟩ := blk (heap_below hb9 HN7_7.out)
 go_wp2_with fail
 with_reducible refine (HBf.out _ hb9).mono ?_
 rintro e w10 ⟨rfl, hst10⟩
 have hb10 := below_from hb9 hst10
 go_wp2_with fail
 go_ret
 exact ⟨rfl, below_from HB7.out hb10⟩
end Go.Proofs.YtpndnbjpnajaaaaGreatDoor
namespace Go.Proofs.Qw
open Go.RowKit Go.Proofs.YtpndnbjpnajaaaaGreatDoor
def ThinV (u u' : Value) : Prop := u' = u ∨ (∃ x, u = .int .i64 x ∧ u' = .int .i64 0) ∨ (∃ s, u = .string s ∧ u' = .string ⟨#[]⟩)
theorem ThinV.refl (u : Value) : ThinV u u := .inl rfl
theorem ThinV.trans {a b c : Value} (h : ThinV a b) (k : ThinV b c) : ThinV a c := by
 rcases h with rfl | ⟨x, rfl, rfl⟩ | ⟨s, rfl, rfl⟩
 ·exact k
 ·rcases k with rfl | ⟨y, hy, rfl⟩ | ⟨s, hs, _⟩
  ·exact .inr (.inl ⟨x, rfl, rfl⟩)
  ·exact .inr (.inl ⟨x, rfl, rfl⟩)
  ·cases hs
 ·rcases k with rfl | ⟨y, hy, _⟩ | ⟨s', hs, rfl⟩
  ·exact .inr (.inr ⟨s, rfl, rfl⟩)
  ·cases hy
  ·exact .inr (.inr ⟨s, rfl, rfl⟩)
def Thin (w wr : World) : Prop := wr.heap.size = w.heap.size ∧ ∀ b : Nat, wr.heap[b]? = w.heap[b]? ∨ ∃ cs cs' : Array Value, w.heap[b]? = some (.cells cs 44) ∧ wr.heap[b]? = some (.cells cs' 44) ∧ cs'.size = cs.size ∧ ∀ (j : Nat) (u : Value), cs[j]? = some u → ∃ u' : Value, cs'[j]? = some u' ∧ ThinV u u'
theorem Thin.refl (w : World) : Thin w w := ⟨rfl, fun _ => .inl rfl⟩
theorem Thin.trans {a b c : World} (h : Thin a b) (k : Thin b c) : Thin a c := by
 refine ⟨k.1.trans h.1, fun n => ?_⟩
 rcases h.2 n with h1 | ⟨cs, cs', h1, h2, h3, h4⟩
 ·rcases k.2 n with k1 | ⟨ds, ds', k1, k2, k3, k4⟩
  ·exact .inl (k1.trans h1)
  ·exact .inr ⟨ds, ds', h1 ▸ k1, k2, k3, k4⟩
 ·rcases k.2 n with k1 | ⟨ds, ds', k1, k2, k3, k4⟩
  ·exact .inr ⟨cs, cs', h1, k1.trans h2, h3, h4⟩
  ·rw [h2] at k1
   cases k1
   refine .inr ⟨cs, ds', h1, k2, k3.trans h3, fun j u hj => ?_⟩
   obtain ⟨u', g1, g2⟩ := h4 j u hj
   obtain ⟨u2, g3, g4⟩ := k4 j u' g1
   exact ⟨u2, g3, g2.trans g4⟩
theorem Thin.set {w : World} {b off : Nat} {cs : Array Value} (hb : w.heap[b]? = some (.cells cs 44)) {u u' : Value} (hu : w.cell? ⟨b, off, none⟩ = some u) (h : ThinV u u') : Thin w (w.setCell ⟨b, off, none⟩ u') := by
 refine ⟨by simp, fun n => ?_⟩
 by_cases e : b = n
 ·subst e
  refine .inr ⟨cs, cs.setIfInBounds off u', hb, by rw [heap_set, if_pos rfl, hb]; rfl, by simp, fun j v hj => ?_⟩
  rw [cell_of_heap hb] at hu
  by_cases ej : off = j
  ·subst ej
   rw [hu] at hj
   cases hj
   have := (Array.getElem?_eq_some_iff.1 hu).1
   exact ⟨u', by rw [Array.getElem?_setIfInBounds, if_pos rfl, if_pos this], h⟩
  ·exact ⟨v, by rw [Array.getElem?_setIfInBounds, if_neg ej]; exact hj, .refl _⟩
 ·exact .inl (by rw [heap_set, if_neg e])
theorem Thin.cell {w wr : World} (h : Thin w wr) {b off : Nat} {u : Value} (hu : w.cell? ⟨b, off, none⟩ = some u) : ∃ u', wr.cell? ⟨b, off, none⟩ = some u' ∧ ThinV u u' := by
 rcases h.2 b with h1 | ⟨cs, cs', h1, h2, _, h4⟩
 ·exact ⟨u, by rw [World.cell?_of_block (w := w) h1]; exact hu, .refl _⟩
 ·rw [cell_of_heap h1] at hu
  obtain ⟨u', g1, g2⟩ := h4 off u hu
  exact ⟨u', by rw [cell_of_heap h2]; exact g1, g2⟩
theorem Thin.nought {w wr : World} (h : Thin w wr) {b off : Nat} (hu : w.cell? ⟨b, off, none⟩ = some (.int .i64 0)) : wr.cell? ⟨b, off, none⟩ = some (.int .i64 0) := by
 obtain ⟨u, h1, rfl | ⟨x, _, rfl⟩ | ⟨s, hs, _⟩⟩ := h.cell hu
 ·exact h1
 ·exact h1
 ·cases hs
theorem Thin.bare {w wr : World} (h : Thin w wr) {b off : Nat} (hu : w.cell? ⟨b, off, none⟩ = some (.string ⟨#[]⟩)) : wr.cell? ⟨b, off, none⟩ = some (.string ⟨#[]⟩) := by
 obtain ⟨u, h1, rfl | ⟨x, hx, _⟩ | ⟨s, hs, rfl⟩⟩ := h.cell hu
 ·exact h1
 ·cases hx
 ·exact h1
theorem Thin.rune {w wr : World} (h : Thin w wr) {b off : Nat} {r : Int} (hu : w.cell? ⟨b, off, none⟩ = some (.int .i32 r)) : wr.cell? ⟨b, off, none⟩ = some (.int .i32 r) := by
 obtain ⟨u, h1, rfl | ⟨x, hx, _⟩ | ⟨s, hs, _⟩⟩ := h.cell hu
 ·exact h1
 ·cases hx
 ·cases hs
theorem Thin.other {w wr : World} (h : Thin w wr) {b : Nat} {cs : Array Value} {t : TypeId} (hb : w.heap[b]? = some (.cells cs t)) (ht : t ≠ 44) : wr.heap[b]? = w.heap[b]? := by
 rcases h.2 b with h1 | ⟨cs', _, h1, _⟩
 ·exact h1
 ·rw [hb] at h1
  cases h1
  exact absurd rfl ht
theorem Thin.block {w wr : World} (h : Thin w wr) {b : Nat} {cs : Array Value} (hb : w.heap[b]? = some (.cells cs 44)) : ∃ cs' : Array Value, wr.heap[b]? = some (.cells cs' 44) ∧ cs'.size = cs.size := by
 rcases h.2 b with h1 | ⟨ds, ds', h1, h2, h3, _⟩
 ·exact ⟨cs, h1.trans hb, rfl⟩
 ·rw [hb] at h1
  cases h1
  exact ⟨ds', h2, h3⟩
def Bare (wr : World) (v : Value) (k : Nat) : Prop := ∀ b o n c, v = .slice (some ⟨b, o, none⟩) n c → ∀ j, j < k → wr.cell? ⟨b, o + j * 3 + 1, none⟩ = some (.int .i64 0) ∧ wr.cell? ⟨b, o + j * 3 + 2, none⟩ = some (.string ⟨#[]⟩)
theorem Bare.zero (wr : World) (v : Value) : Bare wr v 0 := fun _ _ _ _ _ _ h => absurd h (Nat.not_lt_zero _)
theorem Bare.thin {w wr : World} {v : Value} {k : Nat} (h : Bare w v k) (ht : Thin w wr) : Bare wr v k := fun b o n c e j hj => ⟨ht.nought (h b o n c e j hj).1, ht.bare (h b o n c e j hj).2⟩
theorem Bare.next {wr : World} {b o n c k : Nat} (h : Bare wr (.slice (some ⟨b, o, none⟩) n c) k) (h1 : wr.cell? ⟨b, o + k * 3 + 1, none⟩ = some (.int .i64 0)) (h2 : wr.cell? ⟨b, o + k * 3 + 2, none⟩ = some (.string ⟨#[]⟩)) : Bare wr (.slice (some ⟨b, o, none⟩) n c) (k + 1) := by
 intro b' o' n' c' e j hj
 cases e
 by_cases hk : j < k
 ·exact h _ _ _ _ rfl j hk
 ·obtain rfl : j = k := by omega
  exact ⟨h1, h2⟩
def BareD (w wr : World) (v : Value) (i : Nat) : Prop := ∀ b o n c, v = .slice (some ⟨b, o, none⟩) n c → ∀ j, j < i → ∀ ca len cc, w.cell? ⟨b, o + j * 4 + 3, none⟩ = some (.slice ca len cc) → Bare wr (.slice ca len cc) len
theorem BareD.zero (w wr : World) (v : Value) : BareD w wr v 0 := fun _ _ _ _ _ _ h => absurd h (Nat.not_lt_zero _)
theorem BareD.thin {w wr wr' : World} {v : Value} {i : Nat} (h : BareD w wr v i) (ht : Thin wr wr') : BareD w wr' v i := fun b o n c e j hj ca len cc hc => (h b o n c e j hj ca len cc hc).thin ht
theorem BareD.next {w wr : World} {b o n c i : Nat} (h : BareD w wr (.slice (some ⟨b, o, none⟩) n c) i) {ca : Option Addr} {len cc : Nat} (hc : w.cell? ⟨b, o + i * 4 + 3, none⟩ = some (.slice ca len cc)) (hb : Bare wr (.slice ca len cc) len) : BareD w wr (.slice (some ⟨b, o, none⟩) n c) (i + 1) := by
 intro b' o' n' c' e j hj ca' len' cc' hc'
 cases e
 by_cases hk : j < i
 ·exact h _ _ _ _ rfl j hk ca' len' cc' hc'
 ·obtain rfl : j = i := by omega
  rw [hc] at hc'
  cases hc'
  exact hb
theorem cels_bare {w wr : World} {S : Nat → Prop} {v : Value} {l : List Cel} (h : CelsR true w S v l) (ht : Thin w wr) (hb : Bare wr v l.length) : CelsR false wr S v (l.map stripC) := by
 obtain ⟨a, c, rfl, hc, hm, ⟨rfl, _⟩ | ⟨b, o, rfl, hs, hz, _, he⟩⟩ := h
 ·exact ⟨a, c, rfl, hc, hm, .inl ⟨rfl, fun h => by cases h⟩⟩
 ·refine ⟨_, c, by simp, by simpa using hc, hm, .inr ⟨b, o, rfl, hs, by rw [ht.1]; exact hz, (fun h => by cases h), fun i x hx => ?_⟩⟩
  rw [List.getElem?_map] at hx
  obtain ⟨y, hy, rfl⟩ := Option.map_eq_some_iff.1 hx
  obtain ⟨vs, h1, h2, h3⟩ := he i y hy
  have hi := (List.getElem?_eq_some_iff.1 hy).1
  obtain ⟨z1, z2⟩ := hb b o l.length c rfl i hi
  have h2 : vs = encCel y := h2
  subst h2
  refine ⟨encCel (stripC y), rfl, rfl, fun j u hu => ?_⟩
  match j, hu with
  | 0, hu => cases hu; exact ht.rune (h3 0 _ rfl)
  | 1, hu => cases hu; exact z1
  | 2, hu => cases hu; exact z2
theorem ints_thin {w wr : World} {S : Nat → Prop} {v : Value} {l : List Int} (h : IntsR true w S v l) (ht : Thin w wr) : IntsR false wr S v l := by
 obtain ⟨a, c, rfl, hc, hm, ⟨rfl, _⟩ | ⟨b, o, rfl, hs, hz, ho, he⟩⟩ := h
 ·exact ⟨a, c, rfl, hc, hm, .inl ⟨rfl, fun h => by cases h⟩⟩
 ·obtain ⟨cs, g1, _⟩ := ho rfl
  have hk := ht.other g1 (by decide)
  refine ⟨_, c, rfl, hc, hm, .inr ⟨b, o, rfl, hs, by rw [ht.1]; exact hz, (fun h => by cases h), fun i x hx => ?_⟩⟩
  obtain ⟨vs, h1, h2, h3⟩ := he i x hx
  exact ⟨vs, h1, h2, fun j u hu => by rw [World.cell?_of_block (w := w) hk]; exact h3 j u hu⟩
theorem doc_bare {w wr : World} {S : Nat → Prop} {v : Value} {d : Doc} (h : DocR true w S v d) (ht : Thin w wr) (hb : BareD w wr v d.length) : LinsR wr S v (stripD d) := by
 obtain ⟨a, c, rfl, hc, hm, ⟨rfl, _⟩ | ⟨b, o, rfl, hs, hz, ho, he⟩⟩ := h
 ·exact ⟨a, c, rfl, hc, hm, .inl ⟨rfl, fun h => by cases h⟩⟩
 ·obtain ⟨cs, g1, _⟩ := ho rfl
  have hk := ht.other g1 (by decide)
  refine ⟨_, c, by simp [stripD], by simpa [stripD] using hc, hm, .inr ⟨b, o, rfl, hs, by rw [ht.1]; exact hz, (fun h => by cases h), fun i x hx => ?_⟩⟩
  unfold stripD at hx
  rw [List.getElem?_map] at hx
  obtain ⟨l, hl, rfl⟩ := Option.map_eq_some_iff.1 hx
  obtain ⟨vs, h1, ⟨p, q, rfl, hp, hq⟩, h3⟩ := he i l hl
  have hi := (List.getElem?_eq_some_iff.1 hl).1
  obtain ⟨ca, cc, rfl⟩ := hq.slice
  exact ⟨_, rfl, ⟨p, _, rfl, ints_thin hp ht, by
   have h9 := cels_bare hq ht (hb b o d.length c rfl i hi ca l.cells.length cc (h3 3 _ rfl))
   exact h9⟩, fun j u hu => by rw [World.cell?_of_block (w := w) hk]; exact h3 j u hu⟩
theorem Thin.drew {w wr : World} (h : Thin w wr) : Thin w wr.drew := h
theorem put_cel {w wr : World} (h : Thin w wr) {b off : Nat} {cs : Array Value} (hb : w.heap[b]? = some (.cells cs 44)) {r x : Int} {t : ByteArray} (h0 : w.cell? ⟨b, off, none⟩ = some (.int .i32 r)) (h1 : w.cell? ⟨b, off + 1, none⟩ = some (.int .i64 x)) (h2 : w.cell? ⟨b, off + 2, none⟩ = some (.string t)) :
  ∃ W, ((wr.setCell ⟨b, off, none⟩ (.int .i32 r)).setCell ⟨b, off + 1, none⟩ (.int .i64 0)).setCell ⟨b, off + 2, none⟩ (.string ⟨#[]⟩) = W ∧ Thin w W ∧ Thin wr W ∧ W.cell? ⟨b, off + 1, none⟩ = some (.int .i64 0) ∧ W.cell? ⟨b, off + 2, none⟩ = some (.string ⟨#[]⟩) ∧ ∀ m, m ≤ b → Below m wr W := by
 obtain ⟨cs', hb', hsz⟩ := h.block hb
 have g0 := h.rune h0
 obtain ⟨u1, g1, k1⟩ := h.cell h1
 obtain ⟨u2, g2, k2⟩ := h.cell h2
 have k1' : ThinV u1 (.int .i64 0) := by
  rcases k1 with rfl | ⟨_, _, rfl⟩ | ⟨_, e, _⟩
  ·exact .inr (.inl ⟨_, rfl, rfl⟩)
  ·exact .refl _
  ·cases e
 have k2' : ThinV u2 (.string ⟨#[]⟩) := by
  rcases k2 with rfl | ⟨_, e, _⟩ | ⟨_, _, rfl⟩
  ·exact .inr (.inr ⟨_, rfl, rfl⟩)
  ·cases e
  ·exact .refl _
 have hc : ∀ k, wr.cell? ⟨b, k, none⟩ = cs'[k]? := fun k => cell_of_heap hb'
 rw [hc] at g0 g1 g2
 obtain ⟨l0, _⟩ := Array.getElem?_eq_some_iff.1 g0
 obtain ⟨l1, _⟩ := Array.getElem?_eq_some_iff.1 g1
 obtain ⟨l2, _⟩ := Array.getElem?_eq_some_iff.1 g2
 obtain ⟨W, hW⟩ : ∃ W, ((wr.setCell ⟨b, off, none⟩ (.int .i32 r)).setCell ⟨b, off + 1, none⟩ (.int .i64 0)).setCell ⟨b, off + 2, none⟩ (.string ⟨#[]⟩) = W := ⟨_, rfl⟩
 have hWb : W.heap[b]? = some (.cells (((cs'.setIfInBounds off (.int .i32 r)).setIfInBounds (off + 1) (.int .i64 0)).setIfInBounds (off + 2) (.string ⟨#[]⟩)) 44) := by
  rw [← hW, heap_set, if_pos rfl, heap_set, if_pos rfl, heap_set, if_pos rfl, hb']
  rfl
 have hT : Thin wr W := by
  refine ⟨by rw [← hW]; simp, fun n => ?_⟩
  by_cases e : b = n
  ·subst e
   refine .inr ⟨cs', _, hb', hWb, by simp, fun j v hj => ?_⟩
   simp only [Array.getElem?_setIfInBounds]
   by_cases j2 : off + 2 = j
   ·subst j2
    rw [g2] at hj
    cases hj
    exact ⟨_, by rw [if_pos rfl, if_pos (by simpa using l2)], k2'⟩
   ·by_cases j1 : off + 1 = j
    ·subst j1
     rw [g1] at hj
     cases hj
     exact ⟨_, by rw [if_neg j2, if_pos rfl, if_pos (by simpa using l1)], k1'⟩
    ·by_cases j0 : off = j
     ·subst j0
      rw [g0] at hj
      cases hj
      exact ⟨_, by rw [if_neg j2, if_neg j1, if_pos rfl, if_pos (by simpa using l0)], .refl _⟩
     ·exact ⟨v, by rw [if_neg j2, if_neg j1, if_neg j0]; exact hj, .refl _⟩
  ·exact .inl (by rw [← hW, heap_set, if_neg e, heap_set, if_neg e, heap_set, if_neg e])
 refine ⟨W, hW, h.trans hT, hT, ?_, ?_, fun m hm => ?_⟩
 ·rw [cell_of_heap hWb]
  rw [Array.getElem?_setIfInBounds, if_neg (by omega), Array.getElem?_setIfInBounds, if_pos rfl, if_pos (by simpa using l1)]
 ·rw [cell_of_heap hWb]
  rw [Array.getElem?_setIfInBounds, if_pos rfl, if_pos (by simpa using l2)]
 ·rw [← hW]
  exact (((Below.refl _ _).setCell hm _).setCell hm _).setCell hm _
end Go.Proofs.Qw
namespace Go.Proofs.YtpndnbjpnajaaaaGreatDoor
open Go.RowKit
open Go.Proofs.Qw
attribute [local go_sem] Oper.semAt_some
set_option maxRecDepth 100000 in
set_option maxHeartbeats 8000000 in
theorem alike_any (v m : Value) (d g : Doc) (w : World) (S T : Nat → Prop) (h : LinsR w S v d) (h' : LinsR w T m g) (hf : Fits d) (hf' : Fits g) :
  Calls Tryz.prog 42 #[v, m] w fun e w' => e = .returned (.bool (decide (stripD d = stripD g))) ∧ Below w.heap.size w w' := by
 have HO1 : Hid (∀ W, Below w.heap.size w W → Calls Tryz.prog 102 #[v] W fun e w' => ∃ v', e = .returned v' ∧ DocR true w' (fun b => W.heap.size ≤ b) v' d ∧ Below W.heap.size W w') := Lib.hid fun W hW => refOwnD_any v d W S (h.below (rdLin_stable _) hW) hf
 have HO2 : Hid (∀ W, Below w.heap.size w W → Calls Tryz.prog 102 #[m] W fun e w' => ∃ v', e = .returned v' ∧ DocR true w' (fun b => W.heap.size ≤ b) v' g ∧ Below W.heap.size W w') := Lib.hid fun W hW => refOwnD_any m g W T (h'.below (rdLin_stable _) hW) hf'
 have hw0 : Below w.heap.size w w := Below.refl _ _
 obtain ⟨va, vc, rfl⟩ := h.slice
 obtain ⟨ma, mc, rfl⟩ := h'.slice
 clear h h' hf hf'
 by_cases hlen : d.length = g.length
 ·obtain ⟨R, hR⟩ : ∃ R, decide (stripD d = stripD g) = R := ⟨_, rfl⟩
  have HR := Lib.hid hR
  rw [hR]
  clear hR
  have hl1 : ((d.length : Int) == (g.length : Int)) = true := by rw [hlen]; exact beq_self_eq_true _
  have HLn := Lib.hid hlen
  clear hlen
  go_enter Tryz.func42, Tryz.ntmps42
  go_upto_region 4 with (first
   | (go_at_call 102; (with_reducible refine (HO1.out _ hw0).mono ?_); rintro e w2 ⟨v2, rfl, hv2, hst2⟩; have HV2 := Lib.hid hv2; clear hv2)
   | (go_at_call 102; (with_reducible refine (HO2.out _ hst2).mono ?_); rintro e w3 ⟨v3, rfl, hv3, hst3⟩; have HV3 := Lib.hid hv3; clear hv3))
  have hb3 : Below w.heap.size w w3 := below_from hst2 hst3
  have HX3 : Hid (DocR true w3 (fun b => w.heap.size ≤ b) v2 d) := Lib.hid (SliceR.below (rdLin_stable true) HV2.out hst3)
  have HY3 : Hid (DocR true w3 (fun b => w.heap.size ≤ b) v3 g) := Lib.hid (SliceR.stable (rdLin_stable true) HV3.out (Keeps.refl _ _) (fun b h _ => Nat.le_trans hst2.size h))
  clear HV2 HV3
  obtain ⟨a2, c2, rfl, hc2, hm2, hx2⟩ := docOwn_shape HX3.out
  obtain ⟨a3, c3, rfl, hc3, hm3, hx3⟩ := docOwn_shape HY3.out
  have HX := Lib.hid hx2
  have HY := Lib.hid hx3
  clear hx2 hx3
  unfold maxLen at hm2 hm3
  have HB := Lib.hid hb3
  go_wp2_with fail
  go_loopw [7, 8, 9] (fun i _ _ wr => ∃ k : Nat, k ≤ d.length ∧ i = .int .i64 k ∧ Hid (Thin w3 wr) ∧ Hid (Below w.heap.size w3 wr) ∧ Hid (BareD w3 wr (.slice a2 d.length c2) k) ∧ Hid (BareD w3 wr (.slice a3 g.length c3) k)) (fun i _ _ _ => d.length - (intOf i).toNat)
  case atStart => exact ⟨0, Nat.zero_le _, rfl, Lib.hid (Thin.refl _), Lib.hid (Below.refl _ _), Lib.hid (BareD.zero _ _ _), Lib.hid (BareD.zero _ _ _)⟩
  case round =>
   obtain ⟨k, hk, rfl, HT, HBl, HD1, HD2⟩ := hrel
   have k0 : (0 : Int) ≤ (k : Int) := Int.natCast_nonneg _
   by_cases hlt : k < d.length
   ·obtain ⟨l, hl, _⟩ := getOf d k hlt
    obtain ⟨l2, hl2, _⟩ := getOf g k (by have := HLn.out; omega)
    obtain ⟨b1, o1, cs1, la1, lc1, ca1, cc1, rfl, hS1, hg1, _, _, e1, _, hC1⟩ := HX.out k l hl
    obtain ⟨b2, o2, cs2, la2, lc2, ca2, cc2, rfl, hS2, hg2, _, _, e2, _, hC2⟩ := HY.out k l2 hl2
    have H3 : Hid (∀ W, Thin w3 W → W.cell? ⟨b1, o1 + k * 4 + 3, none⟩ = some (.slice ca1 l.cells.length cc1) ∧ W.cell? ⟨b2, o2 + k * 4 + 3, none⟩ = some (.slice ca2 l2.cells.length cc2)) := Lib.hid fun W hW => ⟨by rw [World.cell?_of_block (w := w3) (hW.other hg1 (by decide)), cell_of_heap hg1]; exact e1, by rw [World.cell?_of_block (w := w3) (hW.other hg2 (by decide)), cell_of_heap hg2]; exact e2⟩
    have HC1 := Lib.hid hC1
    have HC2 := Lib.hid hC2
    have H4 := Lib.hid (H3.out _ (Thin.refl w3))
    have hcl1 := hC1.len
    have hcl2 := hC2.len
    unfold maxLen at hcl1 hcl2
    have i1 : (k : Int) < (d.length : Int) := by omega
    have i2 : (k : Int) < (g.length : Int) := by have := HLn.out; omega
    obtain ⟨q1, q2⟩ := H3.out _ HT.out
    clear hl hl2 hg1 hg2 e1 e2 hC1 hC2 hS1 hS2
    go_wp2_with fail
    go_loopw [8] (fun j wi => ∃ q : Nat, q ≤ l.cells.length ∧ j = .int .i64 q ∧ Hid (Thin w3 wi) ∧ Hid (Below w.heap.size w3 wi) ∧ Hid (BareD w3 wi (.slice (some ⟨b1, o1, none⟩) d.length c2) k) ∧ Hid (BareD w3 wi (.slice (some ⟨b2, o2, none⟩) g.length c3) k) ∧ Hid (Bare wi (.slice ca1 l.cells.length cc1) q)) (fun j _ => l.cells.length - (intOf j).toNat)
    case atStart => exact ⟨0, Nat.zero_le _, rfl, HT, HBl, HD1, HD2, Lib.hid (Bare.zero _ _)⟩
    case round =>
     clear q1 q2 HT HBl HD1 HD2
     obtain ⟨q, hq, rfl, HT, HBl, HD1, HD2, HBa⟩ := hrel
     obtain ⟨q1, q2⟩ := H3.out _ HT.out
     have q0 : (0 : Int) ≤ (q : Int) := Int.natCast_nonneg _
     by_cases hlt2 : q < l.cells.length
     ·obtain ⟨ce, hce⟩ : ∃ ce, l.cells[q]? = some ce := ⟨_, List.getElem?_eq_getElem hlt2⟩
      obtain ⟨_, _, e', _, _, hx9⟩ := SliceR.shape_own HC1.out
      cases e'
      obtain ⟨b9, o9, vs9, cs9, rfl, hz9, hs9, g9, _, _, e9, r9⟩ := hx9 q ce hce
      have e9 : vs9 = encCel ce := e9
      subst e9
      have h0 := r9 0 _ rfl
      have h1 := r9 1 _ rfl
      have h2 := r9 2 _ rfl
      rw [Nat.add_zero] at h0
      obtain ⟨cs', hb', _⟩ := HT.out.block g9
      have fr9 := fun k => frozen_of_heap (k := k) hb'
      have u0 := HT.out.rune h0
      obtain ⟨x1, u1, _⟩ := HT.out.cell h1
      obtain ⟨x2, u2, _⟩ := HT.out.cell h2
      have hs9' : w.heap.size ≤ b9 := hs9
      obtain ⟨W, hW, hT1, hT2, z1, z2, hbl⟩ := put_cel (wr := wr) HT.out g9 h0 h1 h2
      have hTd : Thin wr W.drew := hT2.drew
      have z1 : W.drew.cell? _ = _ := z1
      have z2 : W.drew.cell? _ = _ := z2
      have HR := Lib.hid (And.intro hT1.drew (And.intro (HBl.out.trans (hbl _ hs9')).drew (And.intro (HD1.out.thin hTd) (And.intro (HD2.out.thin hTd) ((HBa.out.thin hTd).next z1 z2)))))
      have HW := Lib.hid hW
      have i3 : (q : Int) < (l.cells.length : Int) := by omega
      clear hce hx9 r9 g9 h0 h1 h2 hb' hs9 hs9' hT1 hT2 hTd z1 z2 hbl hW HT HBl HD1 HD2 HBa
      go_wp2_with fail
      go_region
      rw [HW.out]
      go_wp2_with fail
      go_roundw
      case rel => exact ⟨q + 1, hlt2, by go_num, Lib.hid HR.out.1, Lib.hid HR.out.2.1, Lib.hid HR.out.2.2.1, Lib.hid HR.out.2.2.2.1, Lib.hid HR.out.2.2.2.2⟩
      case measure => simp [intOf]; omega
     ·obtain rfl : q = l.cells.length := by omega
      have HD1' := Lib.hid (HD1.out.next H4.out.1 HBa.out)
      go_wp2_with fail
      go_loopw [9] (fun j wi => ∃ q : Nat, q ≤ l2.cells.length ∧ j = .int .i64 q ∧ Hid (Thin w3 wi) ∧ Hid (Below w.heap.size w3 wi) ∧ Hid (BareD w3 wi (.slice (some ⟨b1, o1, none⟩) d.length c2) (k + 1)) ∧ Hid (BareD w3 wi (.slice (some ⟨b2, o2, none⟩) g.length c3) k) ∧ Hid (Bare wi (.slice ca2 l2.cells.length cc2) q)) (fun j _ => l2.cells.length - (intOf j).toNat)
      case atStart => exact ⟨0, Nat.zero_le _, rfl, HT, HBl, HD1', HD2, Lib.hid (Bare.zero _ _)⟩
      case round =>
       clear q1 q2 HT HBl HD1 HD1' HD2 HBa
       obtain ⟨q, hq, rfl, HT, HBl, HD1, HD2, HBa⟩ := hrel
       obtain ⟨q1, q2⟩ := H3.out _ HT.out
       have q0 : (0 : Int) ≤ (q : Int) := Int.natCast_nonneg _
       by_cases hlt2 : q < l2.cells.length
       ·obtain ⟨ce, hce⟩ : ∃ ce, l2.cells[q]? = some ce := ⟨_, List.getElem?_eq_getElem hlt2⟩
        obtain ⟨_, _, e', _, _, hx9⟩ := SliceR.shape_own HC2.out
        cases e'
        obtain ⟨b9, o9, vs9, cs9, rfl, hz9, hs9, g9, _, _, e9, r9⟩ := hx9 q ce hce
        have e9 : vs9 = encCel ce := e9
        subst e9
        have h0 := r9 0 _ rfl
        have h1 := r9 1 _ rfl
        have h2 := r9 2 _ rfl
        rw [Nat.add_zero] at h0
        obtain ⟨cs', hb', _⟩ := HT.out.block g9
        have fr9 := fun k => frozen_of_heap (k := k) hb'
        have u0 := HT.out.rune h0
        obtain ⟨x1, u1, _⟩ := HT.out.cell h1
        obtain ⟨x2, u2, _⟩ := HT.out.cell h2
        have hs9' : w.heap.size ≤ b9 := hs9
        obtain ⟨W, hW, hT1, hT2, z1, z2, hbl⟩ := put_cel (wr := wr) HT.out g9 h0 h1 h2
        have hTd : Thin wr W.drew := hT2.drew
        have z1 : W.drew.cell? _ = _ := z1
        have z2 : W.drew.cell? _ = _ := z2
        have HR := Lib.hid (And.intro hT1.drew (And.intro (HBl.out.trans (hbl _ hs9')).drew (And.intro (HD1.out.thin hTd) (And.intro (HD2.out.thin hTd) ((HBa.out.thin hTd).next z1 z2)))))
        have HW := Lib.hid hW
        have i3 : (q : Int) < (l2.cells.length : Int) := by omega
        clear hce hx9 r9 g9 h0 h1 h2 hb' hs9 hs9' hT1 hT2 hTd z1 z2 hbl hW HT HBl HD1 HD2 HBa
        go_wp2_with fail
        go_region
        rw [HW.out]
        go_wp2_with fail
        go_roundw
        case rel => exact ⟨q + 1, hlt2, by go_num, Lib.hid HR.out.1, Lib.hid HR.out.2.1, Lib.hid HR.out.2.2.1, Lib.hid HR.out.2.2.2.1, Lib.hid HR.out.2.2.2.2⟩
        case measure => simp [intOf]; omega
       ·obtain rfl : q = l2.cells.length := by omega
        have HD2' := Lib.hid (HD2.out.next H4.out.2 HBa.out)
        go_wp2_with fail
        go_roundw
        case rel => exact ⟨k + 1, hlt, by go_num, HT, HBl, HD1, HD2'⟩
        case measure => simp [intOf]; omega
   ·obtain rfl : k = d.length := by omega
    have HS : Hid (Calls Tryz.prog 65 #[.slice a2 d.length c2, .slice a3 g.length c3] wr fun e w' => e = .returned (.bool R) ∧ Below wr.heap.size wr w') := Lib.hid (by
     have h1 := doc_bare HX3.out HT.out HD1.out
     have h2 := doc_bare HY3.out HT.out (by have := HD2.out; rw [HLn.out] at this; exact this)
     have := refSame_any _ _ (stripD d) (stripD g) wr _ _ h1 h2
     rw [HR.out] at this
     exact this)
    go_wp2_with (go_at_call 65; refine HS.out.mono ?_; rintro e w5 ⟨rfl, hst5⟩)
    go_ret
    exact ⟨rfl, HB.out.trans (HBl.out.trans (hst5.mono (by have := HBl.out.size; have := HB.out.size; omega)))⟩
 ·have hR : decide (stripD d = stripD g) = false := decide_eq_false (fun e => hlen (by have := congrArg List.length e; simpa [stripD] using this))
  rw [hR]
  have hl1 : ((d.length : Int) == (g.length : Int)) = false := beq_false_of_ne (by omega)
  clear hR hlen
  go_enter Tryz.func42, Tryz.ntmps42
  go_wp2_with fail
  go_ret
  exact ⟨rfl, hw0⟩
end Go.Proofs.YtpndnbjpnajaaaaGreatDoor
