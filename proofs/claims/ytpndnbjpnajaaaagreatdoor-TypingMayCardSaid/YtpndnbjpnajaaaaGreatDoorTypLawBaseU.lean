/- Typing: the closure of Back; typing.Back. -/
import Derived.Test.YtpndnbjpnajaaaaGreatDoorKeys2U
import Derived.Test.YtpndnbjpnajaaaaGreatDoorStIsU
import Derived.Test.YtpndnbjpnajaaaaGreatDoorCellsInsertU
set_option linter.unusedVariables false
set_option linter.unusedSimpArgs false
namespace Go.Proofs.YtpndnbjpnajaaaaGreatDoor
open Go.RowKit
open Go.Proofs.Qw
attribute [local go_sem] Oper.semAt_some
theorem turn_uni {w w' : World} {r : Option Lin} {e : Ending} (h : TurnSaid w r e w') : ∃ q a1 n1 c1 k a2 n2 c2 er, e = .returned (.tuple #[.agg #[.int .i64 q, .slice a1 n1 c1, .int .i64 k, .slice a2 n2 c2], .int .i64 er]) ∧ (er == (0 : Int)) = r.isSome ∧
  (∀ l', r = some l' → q = l'.quote ∧ k = l'.kind ∧ IntsR true w' (fun b => w.heap.size ≤ b) (.slice a1 n1 c1) l'.lists ∧ CelsR true w' (fun b => w.heap.size ≤ b) (.slice a2 n2 c2) l'.cells) ∧ Below w.heap.size w w' := by
 obtain ⟨h1, h2, h3⟩ := h
 cases r with
 | none => exact ⟨0, none, 0, 0, 0, none, 0, 0, 7, h2 rfl, rfl, fun l' h => (by cases h), h3⟩
 | some l' =>
  obtain ⟨a', b', he, ha, hb⟩ := h1 _ rfl
  obtain ⟨a1, c1, rfl⟩ := ha.slice
  obtain ⟨a2, c2, rfl⟩ := hb.slice
  exact ⟨_, _, _, _, _, _, _, _, 0, he, rfl, fun l'' h => (by cases h; exact ⟨rfl, rfl, ha, hb⟩), h3⟩
set_option maxRecDepth 100000 in
set_option maxHeartbeats 8000000 in
theorem back1_any (Bs : Nat) (v : Value) (s : St) (n : Nat) (a : Option Addr) (c : Nat) (w : World) (hst : w.heap[Bs]? = some (.cells #[v, .int .i64 s.anc.line, .int .i64 s.anc.col, .int .i64 s.foc.line, .int .i64 s.foc.col, .int .i64 s.on, .int .i64 s.off] 26)) (h : DocR true w (fun b => n ≤ b) (.slice a (outS s).length c) (outS s)) (hn : n ≤ w.heap.size) (he : EnvT w) (hm : mayS s = true) (hv : ∃ va vn vc, v = .slice va vn vc) (hBn : Bs < n) :
  Calls Tryz.prog 119 #[.slice a (outS s).length c, posV (spanS s).1, .pointer (some ⟨Bs, 0, none⟩)] w (DocPB n (backK s) w) := by
 obtain ⟨hM, _, hA, _, _⟩ := out_facts hm
 have hs := (may_small hM).1
 have hf := (may_small hM).2
 have hR : backK s = if s.anc = s.foc then putK (outS s) (spanS s).1 (if (spanS s).1.col = 0 then freeL (lineAt (outS s) (spanS s).1) else none)
   (if (stepD (outS s) (spanS s).1 (-1)).2 = true then cutK (outS s) (stepD (outS s) (spanS s).1 (-1)).1 (spanS s).1 (stepD (outS s) (spanS s).1 (-1)).1 else ([], (spanS s).1, 7)) else (outS s, (spanS s).1, 0) := rfl
 obtain ⟨O, hO⟩ : ∃ O, outS s = O := ⟨_, rfl⟩
 obtain ⟨A, hAA⟩ : ∃ A, (spanS s).1 = A := ⟨_, rfl⟩
 rw [hO] at h hM hs hf hR hA ⊢
 rw [hAA] at hR hA ⊢
 obtain ⟨i, p, l, rfl, hl, hp, hml, hla⟩ := may_at hM hA
 rw [hla] at hR
 obtain ⟨q, t, hqt⟩ : ∃ q t, stepD O ⟨i, p⟩ (-1) = (q, t) := ⟨_, _, rfl⟩
 rw [hqt] at hR
 simp only at hR
 obtain ⟨W1, hW1, hB, hz, k0, k1⟩ := two_pos w (.int .i64 i) (.int .i64 p) (.int .i64 0) (.int .i64 0)
 have hs1 := hB.size
 have kt := heap_below hB hst
 obtain ⟨b, o, la, lc, ca, cc, rfl, hb0, hbz, hAt, hfr, cs, hcs⟩ := own_line (h.below hB) hl
 have hfl := hf.2 l (mem_of_at hl)
 have hsl := hs.2.2 l (mem_of_at hl)
 have hil := (List.getElem?_eq_some_iff.1 hl).1
 have hlen := (h.below hB).len
 have HB : Hid (∀ W, Below W1.heap.size W1 W → W.heap[w.heap.size]? = some (.cells #[.int .i64 (⟨i, p⟩ : Ps).line, .int .i64 (⟨i, p⟩ : Ps).col] 24) ∧ W.heap[w.heap.size + 1]? = some (.cells #[.int .i64 0, .int .i64 0] 24) ∧ W.heap[Bs]? = some (.cells #[v, .int .i64 s.anc.line, .int .i64 s.anc.col, .int .i64 s.foc.line, .int .i64 s.foc.col, .int .i64 s.on, .int .i64 s.off] 26)) := Lib.hid fun W hW => ⟨heap_below hW k0, heap_below hW k1, heap_below hW kt⟩
 have hw0 : Below W1.heap.size W1 W1 := Below.refl _ _
 have HFr : Hid (∀ W, Below W1.heap.size W1 W → Calls Tryz.prog 120 #[.agg #[.int .i64 l.quote, .slice la l.lists.length lc, .int .i64 l.kind, .slice ca l.cells.length cc]] W (TurnSaid W (freeL l))) := Lib.hid fun W hW => lineFree_any l la ca lc cc W W1 (fun b => n ≤ b) hAt.listsR hAt.cellsR hW ((he.below hB).below hW) hfl hsl hml
 have HS : Hid (∀ W, Below W1.heap.size W1 W → Calls Tryz.prog 121 #[.slice (some ⟨b, o, none⟩) O.length c, .agg #[.int .i64 i, .int .i64 p], .int .i64 (-1)] W fun e w' => e = .returned (.tuple #[.agg #[.int .i64 q.line, .int .i64 q.col], .bool t]) ∧ Below W.heap.size W w') := Lib.hid fun W hW => by
  have := step_any _ O ⟨i, p⟩ (-1) W w (fun b => n ≤ b) h.read (hB.trans (hW.mono hs1)) hs.1 hs.2.1 (by decide)
  rw [hqt] at this
  exact this
 have HD : Hid (∀ W, Below W1.heap.size W1 W → Calls Tryz.prog 122 #[.slice (some ⟨b, o, none⟩) O.length c, .agg #[.int .i64 q.line, .int .i64 q.col], .agg #[.int .i64 i, .int .i64 p]] W (DocSaid (deleteD O q ⟨i, p⟩) W)) := Lib.hid fun W hW => docDelete_any _ O q ⟨i, p⟩ W (fun b => n ≤ b) (h.below (hB.trans (hW.mono hs1))).read ((he.below hB).below hW) hs hf
 have HP : Hid (∀ p : Ps, posV p = .agg #[.int .i64 p.line, .int .i64 p.col]) := Lib.hid fun _ => rfl
 rw [HP.out]
 have HO := Lib.hid h
 have H1 := Lib.hid hB
 have HN := Lib.hid hn
 have HL := Lib.hid hl
 have HAt := Lib.hid hAt
 have HCS := Lib.hid hcs
 have HR := Lib.hid hR
 have hAc := hAt
 obtain ⟨_, c0, c1, c2, c3, _, _⟩ := hAt
 have i0 : (0 : Int) ≤ (i : Int) := Int.natCast_nonneg _
 have i1 : (i : Int) < (O.length : Int) := by omega
 have n1 : ¬ b = w.heap.size := fun e => by rw [e] at hcs; rw [k0] at hcs; cases hcs
 have n2 : ¬ b = w.heap.size + 1 := fun e => by rw [e] at hcs; rw [k1] at hcs; cases hcs
 have HBN := Lib.hid hb0
 have HNb := Lib.hid (And.intro n1 n2)
 have hg := guardPos
 have hq := fun (w : World) => run_neq_pos s.anc s.foc w
 obtain ⟨p0, f0⟩ := blk k0
 obtain ⟨va, vn, vc, rfl⟩ := hv
 obtain ⟨ro, hro⟩ : ∃ r, freeL l = r := ⟨_, rfl⟩
 rw [hro] at HFr HR
 unfold maxLen at hlen
 have hpz : (((p : Nat) : Int) == 0) = decide (p = 0) := by
  by_cases hp0 : p = 0
  ·subst hp0; rfl
  ·rw [decide_eq_false hp0]; simpa using hp0
 by_cases hc : s.anc = s.foc
 ·rw [if_pos hc] at HR
  rw [decide_eq_true hc] at hq
  have hcase : (p = 0 ∧ ∃ l', ro = some l') ∨ (Hid (putK O ⟨i, p⟩ (if (⟨i, p⟩ : Ps).col = 0 then ro else none) (if t = true then cutK O q ⟨i, p⟩ q else ([], ⟨i, p⟩, 7)) = (if t = true then cutK O q ⟨i, p⟩ q else ([], ⟨i, p⟩, 7))) ∧ ((p = 0 ∧ ro = none) ∨ p ≠ 0)) := by
   by_cases hp0 : p = 0
   ·cases ro with
    | none => exact .inr ⟨Lib.hid (by rw [ite_self]; rfl), .inl ⟨hp0, rfl⟩⟩
    | some l' => exact .inl ⟨hp0, l', rfl⟩
   ·exact .inr ⟨Lib.hid (by rw [if_neg (by simp only; omega)]; rfl), .inr hp0⟩
  rcases hcase with ⟨hp0, l', rfl⟩ | ⟨HPK, hcase⟩
  ·have HR1 : Hid (backK s = (O.set i l', ⟨i, p⟩, 0)) := Lib.hid (by rw [HR.out, if_pos (show ((p : Nat) : Int) = 0 by omega)]; rfl)
   rw [decide_eq_true hp0] at hpz
   clear h hB k0 k1 kt hst hn he hs hf hM hA hl hla hro hcs hAc hfr hR hqt hm hc hO hAA HR hp0 HD
   go_enter Tryz.func119, Tryz.ntmps119
   go_wp2_with (first
    | (go_at_call 120; refine (HFr.out _ hw0).mono ?_; rintro e w3 hsaid; obtain ⟨fq, fa1, fn1, fc1, fk, fa2, fn2, fc2, fe, rfl, hfe, HFS, hst3⟩ := turn_uni hsaid; have HFS := Lib.hid HFS; clear hsaid; have hb3 := below_from hw0 hst3; have z3 := hb3.size; obtain ⟨t0, u0⟩ := blk1 (HB.out _ hb3).1; (try simp only [Option.isSome_none, Option.isSome_some] at hfe))
    | (go_at_call 121; refine (HS.out _ (hb3.alloc hb3.size _)).mono ?_; rintro e w5 ⟨rfl, hst5⟩; have hb5 := below_from (hb3.alloc hb3.size _) hst5; have m5 := heap_below hst5 (heap_new w3 _ rfl); have r5 := on1 m5; have z5 := hst5.size; obtain ⟨t2, u2⟩ := blk1 (HB.out _ hb5).1; obtain ⟨t3, u3⟩ := blk1 (HB.out _ hb5).2.1; obtain ⟨t4, u4⟩ := blk1 (HB.out _ hb5).2.2; have zz5 := hb5.size; have n5 : ¬ b = w5.heap.size := (by omega); have n6 : ¬ w5.heap.size = b := (by omega); have n7 : ¬ w.heap.size = b := (fun e => n1 e.symm); have n8 : ¬ w.heap.size + 1 = b := (fun e => n2 e.symm); have n9 : b < w5.heap.size := (by omega); have g4 := fun k => (blk (heap_below hb5 HCS.out)).2 k; have y1 : ¬ w5.heap.size = w.heap.size + 1 := (by omega); have y2 : ¬ w.heap.size + 1 = w5.heap.size := (by omega); obtain ⟨_, d0, d1, d2, d3, _, _⟩ := HAt.out.below hb5; have e0 := cell_on d0; have e1 := cell_on d1; have e2 := cell_on d2; have e3 := cell_on d3; have g3 := fun X k => (blk1 (heap_below hb5 HCS.out)).2 X k))
   obtain ⟨rfl, rfl, hi3, hc3⟩ := HFS.out _ rfl
   have hb35 : Below w3.heap.size w3 w5 := ((Below.refl _ _).alloc (Nat.le_refl _) _).trans (hst5.mono (by simp))
   have hO5 : DocR true w5 (fun b => n ≤ b ∧ ¬ b = w.heap.size + 1) (.slice (some ⟨b, o, none⟩) O.length c) O := SliceR.stable (rdLin_stable true) (SliceR.bounded (rdLin_stable true) HO.out) (Keeps.all (H1.out.trans (hb5.mono hs1))) (fun b h _ => ⟨h.1, fun e => by have := h.2; omega⟩)
   have hi5 := SliceR.stable (S' := fun b => n ≤ b ∧ ¬ b = w.heap.size + 1) (rdOf_stable _) (SliceR.below (rdOf_stable _) hi3 hb35) (Keeps.refl _ _) (fun b h _ => by have h' : W1.heap.size ≤ b := h; have := HN.out; exact ⟨by omega, by omega⟩)
   have hc5 := SliceR.stable (S' := fun b => n ≤ b ∧ ¬ b = w.heap.size + 1) (rdOf_stable _) (SliceR.below (rdOf_stable _) hc3 hb35) (Keeps.refl _ _) (fun b h _ => by have h' : W1.heap.size ≤ b := h; have := HN.out; exact ⟨by omega, by omega⟩)
   have hl5 := hi5.len.1
   have hl6 := hc5.len.1
   obtain ⟨W5, hW5, hD5, hk5, hz5, hb5'⟩ := put_line hO5 HL.out l' (.slice fa1 fn1 fc1) (.slice fa2 fn2 fc2) hi5 hc5
   rw [hW5]
   have j0 := (hk5 w.heap.size (fun e => HNb.out.1 e.symm)).trans (HB.out _ hb5).1
   have j1 := (hk5 (w.heap.size + 1) (fun e => HNb.out.2 e.symm)).trans (HB.out _ hb5).2.1
   have HJ := Lib.hid (And.intro j1 (And.intro hD5 (And.intro (hb5' n HBN.out) hz5)))
   clear hk5 hD5 hb5' hW5 hO5 d0 d1 d2 d3 e0 e1 e2 e3 g3 g4 t0 u0 t2 u2 t3 u3 t4 u4 hz5 hi5 hc5 hi3 hc3 hl5 hl6
   obtain ⟨p5, f5⟩ := blk1 j0
   obtain ⟨p6, f6⟩ := blk1 j1
   go_region
   go_wp2_with fail
   refine bodyPost_ret (results_dpe rfl _ _ (w.heap.size + 1) (.int .i64 i) (.int .i64 p) rfl (by rw [drew_heap]; simp [heap_set, putIn, heap_old _ _ HJ.out.1])) rfl ?_
   rw [HR1.out]
   have hD5 := HJ.out.2.1
   have hn5 : n ≤ w.heap.size := HN.out
   have hfin : Below n w W5 := ((H1.out.trans (hb5.mono hs1)).mono hn5).trans HJ.out.2.2.1
   have hzz := hfin.size
   refine ⟨_, rfl, ?_, ?_⟩
   ·show DocR true _ _ (.slice (some ⟨b, o, none⟩) O.length c) (O.set i l')
    exact SliceR.stable (rdLin_stable true) hD5 (by (repeat' (first | (with_reducible exact Keeps.refl _ _) | (with_reducible refine Keeps.set ?_ ?_ _) | (with_reducible refine Keeps.alloc ?_ _) | (with_reducible refine Keeps.drew ?_) | (first | (simp; done)) | (simp; omega)))) (fun b h _ => h.1)
   ·(repeat' (first | (with_reducible exact Below.refl _ _) | (with_reducible assumption) | (with_reducible refine Below.alloc ?_ ?_ _) | (with_reducible refine Below.drew ?_) | (with_reducible refine drewN_below ?_) | (with_reducible refine Below.setCell ?_ ?_ _) | go_size))
  ·have HR1 : Hid (backK s = if t = true then cutK O q ⟨i, p⟩ q else ([], ⟨i, p⟩, 7)) := Lib.hid (HR.out.trans HPK.out)
   have HX : Hid (cutK O q ⟨i, p⟩ q = ((deleteD O q ⟨i, p⟩).1, q, (deleteD O q ⟨i, p⟩).2)) := Lib.hid rfl
   obtain ⟨D, er, hD⟩ : ∃ D er, deleteD O q ⟨i, p⟩ = (D, er) := ⟨_, _, rfl⟩
   rw [hD] at HX HD
   clear h hB k0 k1 kt hst hn he hs hf hM hA hl hla hro hcs hAc hfr hR hqt hm hc hO hAA HR HPK hD
   rcases hcase with ⟨hp0, rfl⟩ | hp0
   ·rw [decide_eq_true hp0] at hpz
    clear hp0
    cases t
    ·have HR2 := Lib.hid (HR1.out.trans (if_neg (by decide)))
     clear HR1 HD HX
     go_enter Tryz.func119, Tryz.ntmps119
     go_wp2_with (first
      | (go_at_call 120; refine (HFr.out _ hw0).mono ?_; rintro e w3 hsaid; obtain ⟨fq, fa1, fn1, fc1, fk, fa2, fn2, fc2, fe, rfl, hfe, HFS, hst3⟩ := turn_uni hsaid; have HFS := Lib.hid HFS; clear hsaid; have hb3 := below_from hw0 hst3; have z3 := hb3.size; obtain ⟨t0, u0⟩ := blk1 (HB.out _ hb3).1; (try simp only [Option.isSome_none, Option.isSome_some] at hfe))
      | (go_at_call 121; refine (HS.out _ (hb3.alloc hb3.size _)).mono ?_; rintro e w5 ⟨rfl, hst5⟩; have hb5 := below_from (hb3.alloc hb3.size _) hst5; have m5 := heap_below hst5 (heap_new w3 _ rfl); have r5 := on1 m5; have z5 := hst5.size; obtain ⟨t2, u2⟩ := blk1 (HB.out _ hb5).1; obtain ⟨t3, u3⟩ := blk1 (HB.out _ hb5).2.1; obtain ⟨t4, u4⟩ := blk1 (HB.out _ hb5).2.2; have zz5 := hb5.size; have n5 : ¬ b = w5.heap.size := (by omega); have n6 : ¬ w5.heap.size = b := (by omega); have n7 : ¬ w.heap.size = b := (fun e => n1 e.symm); have n8 : ¬ w.heap.size + 1 = b := (fun e => n2 e.symm); have n9 : b < w5.heap.size := (by omega); have g4 := fun k => (blk (heap_below hb5 HCS.out)).2 k; have y1 : ¬ w5.heap.size = w.heap.size + 1 := (by omega); have y2 : ¬ w.heap.size + 1 = w5.heap.size := (by omega); obtain ⟨_, d0, d1, d2, d3, _, _⟩ := HAt.out.below hb5; have e0 := cell_on d0; have e1 := cell_on d1; have e2 := cell_on d2; have e3 := cell_on d3; have g3 := fun X k => (blk1 (heap_below hb5 HCS.out)).2 X k))
     go_region
     go_wp2_with fail
     have hfin := H1.out.trans (hb5.mono hs1)
     refine bodyPost_ret (results_dpe rfl _ _ (w.heap.size + 1) (.int .i64 i) (.int .i64 p) rfl (by rw [drew_heap]; simp [heap_set, putIn, heap_old _ _ (HB.out _ hb5).2.1])) rfl ?_
     exact DocPB.err HR2.out (by (repeat' (first | (with_reducible exact Below.refl _ _) | (with_reducible assumption) | (with_reducible refine Below.alloc ?_ ?_ _) | (with_reducible refine Below.drew ?_) | (with_reducible refine drewN_below ?_) | (with_reducible refine Below.setCell ?_ ?_ _) | go_size))) HN.out
    ·have HR2 := Lib.hid (HR1.out.trans (if_pos rfl))
     clear HR1
     go_enter Tryz.func119, Tryz.ntmps119
     go_wp2_with (first
      | (go_at_call 120; refine (HFr.out _ hw0).mono ?_; rintro e w3 hsaid; obtain ⟨fq, fa1, fn1, fc1, fk, fa2, fn2, fc2, fe, rfl, hfe, HFS, hst3⟩ := turn_uni hsaid; have HFS := Lib.hid HFS; clear hsaid; have hb3 := below_from hw0 hst3; have z3 := hb3.size; obtain ⟨t0, u0⟩ := blk1 (HB.out _ hb3).1; (try simp only [Option.isSome_none, Option.isSome_some] at hfe))
      | (go_at_call 121; refine (HS.out _ (hb3.alloc hb3.size _)).mono ?_; rintro e w5 ⟨rfl, hst5⟩; have hb5 := below_from (hb3.alloc hb3.size _) hst5; have m5 := heap_below hst5 (heap_new w3 _ rfl); have r5 := on1 m5; have z5 := hst5.size; obtain ⟨t2, u2⟩ := blk1 (HB.out _ hb5).1; obtain ⟨t3, u3⟩ := blk1 (HB.out _ hb5).2.1; obtain ⟨t4, u4⟩ := blk1 (HB.out _ hb5).2.2; have zz5 := hb5.size; have n5 : ¬ b = w5.heap.size := (by omega); have n6 : ¬ w5.heap.size = b := (by omega); have n7 : ¬ w.heap.size = b := (fun e => n1 e.symm); have n8 : ¬ w.heap.size + 1 = b := (fun e => n2 e.symm); have n9 : b < w5.heap.size := (by omega); have g4 := fun k => (blk (heap_below hb5 HCS.out)).2 k; have y1 : ¬ w5.heap.size = w.heap.size + 1 := (by omega); have y2 : ¬ w.heap.size + 1 = w5.heap.size := (by omega); obtain ⟨_, d0, d1, d2, d3, _, _⟩ := HAt.out.below hb5; have e0 := cell_on d0; have e1 := cell_on d1; have e2 := cell_on d2; have e3 := cell_on d3; have g3 := fun X k => (blk1 (heap_below hb5 HCS.out)).2 X k)
      | (go_at_call 122; refine (HD.out _ (hb5.alloc hb5.size _)).mono ?_; intro e w6 hsaid; obtain ⟨v6, rfl, hv6, hst6⟩ := hsaid; have hb6 := below_from (hb5.alloc hb5.size _) hst6; have HV6 := Lib.hid hv6; clear hv6; obtain ⟨q0, s0⟩ := blk (HB.out _ hb6).1; obtain ⟨q1, s1⟩ := blk (HB.out _ hb6).2.1; have m6 := heap_below hst6 (heap_new w5 _ rfl); obtain ⟨q2, s2⟩ := blk m6))
     go_region
     go_wp2_with fail
     have hfin := H1.out.trans (hb6.mono hs1)
     refine bodyPost_ret (results_dpe rfl _ _ (w.heap.size + 1) (.int .i64 q.line) (.int .i64 q.col) rfl (by rw [drew_heap]; simp [heap_set, putIn, (HB.out _ hb6).2.1])) rfl ?_
     rw [HR2.out, HX.out]
     have hv6 := HV6.out
     have hn4 : n ≤ w.heap.size := HN.out
     refine ⟨_, rfl, (SliceR.stable (rdLin_stable _) hv6 (by (repeat' (first | (with_reducible exact Keeps.refl _ _) | (with_reducible refine Keeps.set ?_ ?_ _) | (with_reducible refine Keeps.alloc ?_ _) | (with_reducible refine Keeps.drew ?_) | (first | fail) | (simp; omega)))) (fun b h _ => (by have h' := h; (try simp at h'); omega))), ?_⟩
     refine Below.mono ?_ HN.out
     (repeat' (first | (with_reducible exact Below.refl _ _) | (with_reducible assumption) | (with_reducible refine Below.alloc ?_ ?_ _) | (with_reducible refine Below.drew ?_) | (with_reducible refine drewN_below ?_) | (with_reducible refine Below.setCell ?_ ?_ _) | go_size))
   ·rw [decide_eq_false hp0] at hpz
    clear hp0
    cases t
    ·have HR2 := Lib.hid (HR1.out.trans (if_neg (by decide)))
     clear HR1 HD HX
     go_enter Tryz.func119, Tryz.ntmps119
     go_wp2_with (first
      | (go_at_call 120; refine (HFr.out _ hw0).mono ?_; rintro e w3 hsaid; obtain ⟨fq, fa1, fn1, fc1, fk, fa2, fn2, fc2, fe, rfl, hfe, HFS, hst3⟩ := turn_uni hsaid; have HFS := Lib.hid HFS; clear hsaid; have hb3 := below_from hw0 hst3; have z3 := hb3.size; obtain ⟨t0, u0⟩ := blk1 (HB.out _ hb3).1; (try simp only [Option.isSome_none, Option.isSome_some] at hfe))
      | (go_at_call 121; refine (HS.out _ (hb3.alloc hb3.size _)).mono ?_; rintro e w5 ⟨rfl, hst5⟩; have hb5 := below_from (hb3.alloc hb3.size _) hst5; have m5 := heap_below hst5 (heap_new w3 _ rfl); have r5 := on1 m5; have z5 := hst5.size; obtain ⟨t2, u2⟩ := blk1 (HB.out _ hb5).1; obtain ⟨t3, u3⟩ := blk1 (HB.out _ hb5).2.1; obtain ⟨t4, u4⟩ := blk1 (HB.out _ hb5).2.2; have zz5 := hb5.size; have n5 : ¬ b = w5.heap.size := (by omega); have n6 : ¬ w5.heap.size = b := (by omega); have n7 : ¬ w.heap.size = b := (fun e => n1 e.symm); have n8 : ¬ w.heap.size + 1 = b := (fun e => n2 e.symm); have n9 : b < w5.heap.size := (by omega); have g4 := fun k => (blk (heap_below hb5 HCS.out)).2 k; have y1 : ¬ w5.heap.size = w.heap.size + 1 := (by omega); have y2 : ¬ w.heap.size + 1 = w5.heap.size := (by omega); obtain ⟨_, d0, d1, d2, d3, _, _⟩ := HAt.out.below hb5; have e0 := cell_on d0; have e1 := cell_on d1; have e2 := cell_on d2; have e3 := cell_on d3; have g3 := fun X k => (blk1 (heap_below hb5 HCS.out)).2 X k))
     go_region
     go_wp2_with fail
     have hfin := H1.out.trans (hb5.mono hs1)
     refine bodyPost_ret (results_dpe rfl _ _ (w.heap.size + 1) (.int .i64 i) (.int .i64 p) rfl (by rw [drew_heap]; simp [heap_set, putIn, heap_old _ _ (HB.out _ hb5).2.1])) rfl ?_
     exact DocPB.err HR2.out (by (repeat' (first | (with_reducible exact Below.refl _ _) | (with_reducible assumption) | (with_reducible refine Below.alloc ?_ ?_ _) | (with_reducible refine Below.drew ?_) | (with_reducible refine drewN_below ?_) | (with_reducible refine Below.setCell ?_ ?_ _) | go_size))) HN.out
    ·have HR2 := Lib.hid (HR1.out.trans (if_pos rfl))
     clear HR1
     go_enter Tryz.func119, Tryz.ntmps119
     go_wp2_with (first
      | (go_at_call 120; refine (HFr.out _ hw0).mono ?_; rintro e w3 hsaid; obtain ⟨fq, fa1, fn1, fc1, fk, fa2, fn2, fc2, fe, rfl, hfe, HFS, hst3⟩ := turn_uni hsaid; have HFS := Lib.hid HFS; clear hsaid; have hb3 := below_from hw0 hst3; have z3 := hb3.size; obtain ⟨t0, u0⟩ := blk1 (HB.out _ hb3).1; (try simp only [Option.isSome_none, Option.isSome_some] at hfe))
      | (go_at_call 121; refine (HS.out _ (hb3.alloc hb3.size _)).mono ?_; rintro e w5 ⟨rfl, hst5⟩; have hb5 := below_from (hb3.alloc hb3.size _) hst5; have m5 := heap_below hst5 (heap_new w3 _ rfl); have r5 := on1 m5; have z5 := hst5.size; obtain ⟨t2, u2⟩ := blk1 (HB.out _ hb5).1; obtain ⟨t3, u3⟩ := blk1 (HB.out _ hb5).2.1; obtain ⟨t4, u4⟩ := blk1 (HB.out _ hb5).2.2; have zz5 := hb5.size; have n5 : ¬ b = w5.heap.size := (by omega); have n6 : ¬ w5.heap.size = b := (by omega); have n7 : ¬ w.heap.size = b := (fun e => n1 e.symm); have n8 : ¬ w.heap.size + 1 = b := (fun e => n2 e.symm); have n9 : b < w5.heap.size := (by omega); have g4 := fun k => (blk (heap_below hb5 HCS.out)).2 k; have y1 : ¬ w5.heap.size = w.heap.size + 1 := (by omega); have y2 : ¬ w.heap.size + 1 = w5.heap.size := (by omega); obtain ⟨_, d0, d1, d2, d3, _, _⟩ := HAt.out.below hb5; have e0 := cell_on d0; have e1 := cell_on d1; have e2 := cell_on d2; have e3 := cell_on d3; have g3 := fun X k => (blk1 (heap_below hb5 HCS.out)).2 X k)
      | (go_at_call 122; refine (HD.out _ (hb5.alloc hb5.size _)).mono ?_; intro e w6 hsaid; obtain ⟨v6, rfl, hv6, hst6⟩ := hsaid; have hb6 := below_from (hb5.alloc hb5.size _) hst6; have HV6 := Lib.hid hv6; clear hv6; obtain ⟨q0, s0⟩ := blk (HB.out _ hb6).1; obtain ⟨q1, s1⟩ := blk (HB.out _ hb6).2.1; have m6 := heap_below hst6 (heap_new w5 _ rfl); obtain ⟨q2, s2⟩ := blk m6))
     go_region
     go_wp2_with fail
     have hfin := H1.out.trans (hb6.mono hs1)
     refine bodyPost_ret (results_dpe rfl _ _ (w.heap.size + 1) (.int .i64 q.line) (.int .i64 q.col) rfl (by rw [drew_heap]; simp [heap_set, putIn, (HB.out _ hb6).2.1])) rfl ?_
     rw [HR2.out, HX.out]
     have hv6 := HV6.out
     have hn4 : n ≤ w.heap.size := HN.out
     refine ⟨_, rfl, (SliceR.stable (rdLin_stable _) hv6 (by (repeat' (first | (with_reducible exact Keeps.refl _ _) | (with_reducible refine Keeps.set ?_ ?_ _) | (with_reducible refine Keeps.alloc ?_ _) | (with_reducible refine Keeps.drew ?_) | (first | fail) | (simp; omega)))) (fun b h _ => (by have h' := h; (try simp at h'); omega))), ?_⟩
     refine Below.mono ?_ HN.out
     (repeat' (first | (with_reducible exact Below.refl _ _) | (with_reducible assumption) | (with_reducible refine Below.alloc ?_ ?_ _) | (with_reducible refine Below.drew ?_) | (with_reducible refine drewN_below ?_) | (with_reducible refine Below.setCell ?_ ?_ _) | go_size))
 ·rw [if_neg hc] at HR
  rw [decide_eq_false hc] at hq
  clear h hB k0 k1 kt hst hn he hs hf hM hA hl hla hro hcs hAc hfr hR hqt hm hc hO hAA HD
  go_enter Tryz.func119, Tryz.ntmps119
  go_wp2_with (first
   | (go_at_call 120; refine (HFr.out _ hw0).mono ?_; rintro e w3 hsaid; obtain ⟨fq, fa1, fn1, fc1, fk, fa2, fn2, fc2, fe, rfl, hfe, HFS, hst3⟩ := turn_uni hsaid; have HFS := Lib.hid HFS; clear hsaid; have hb3 := below_from hw0 hst3; have z3 := hb3.size; obtain ⟨t0, u0⟩ := blk1 (HB.out _ hb3).1; (try simp only [Option.isSome_none, Option.isSome_some] at hfe))
   | (go_at_call 121; refine (HS.out _ (hb3.alloc hb3.size _)).mono ?_; rintro e w5 ⟨rfl, hst5⟩; have hb5 := below_from (hb3.alloc hb3.size _) hst5; have m5 := heap_below hst5 (heap_new w3 _ rfl); have r5 := on1 m5; have z5 := hst5.size; obtain ⟨t2, u2⟩ := blk1 (HB.out _ hb5).1; obtain ⟨t3, u3⟩ := blk1 (HB.out _ hb5).2.1; obtain ⟨t4, u4⟩ := blk1 (HB.out _ hb5).2.2; have zz5 := hb5.size; have n5 : ¬ b = w5.heap.size := (by omega); have n6 : ¬ w5.heap.size = b := (by omega); have n7 : ¬ w.heap.size = b := (fun e => n1 e.symm); have n8 : ¬ w.heap.size + 1 = b := (fun e => n2 e.symm); have n9 : b < w5.heap.size := (by omega); have g4 := fun k => (blk (heap_below hb5 HCS.out)).2 k; have y1 : ¬ w5.heap.size = w.heap.size + 1 := (by omega); have y2 : ¬ w.heap.size + 1 = w5.heap.size := (by omega); obtain ⟨_, d0, d1, d2, d3, _, _⟩ := HAt.out.below hb5; have e0 := cell_on d0; have e1 := cell_on d1; have e2 := cell_on d2; have e3 := cell_on d3; have g3 := fun X k => (blk1 (heap_below hb5 HCS.out)).2 X k))
  go_region
  go_wp2_with fail
  have hfin := H1.out.trans (hb5.mono hs1)
  refine bodyPost_ret (results_dpe rfl _ _ (w.heap.size + 1) (.int .i64 i) (.int .i64 p) rfl (by rw [drew_heap]; simp [heap_set, putIn, heap_old _ _ (HB.out _ hb5).2.1])) rfl ?_
  exact DocPB.same HR.out HO.out (by (repeat' (first | (with_reducible exact Below.refl _ _) | (with_reducible assumption) | (with_reducible refine Below.alloc ?_ ?_ _) | (with_reducible refine Below.drew ?_) | (with_reducible refine drewN_below ?_) | (with_reducible refine Below.setCell ?_ ?_ _) | go_size))) HN.out
set_option maxRecDepth 100000 in
set_option maxHeartbeats 2000000 in
theorem typBack_any (v : Value) (s : St) (w : World) (S : Nat → Prop) (h : LinsR w S v s.lines) (he : EnvT w) (hs : Small s.lines) (hf : Fits s.lines) :
  Calls Tryz.prog 50 #[stV v s] w (StSaid (keyS s (backK s)) w) := by
 obtain ⟨W1, hW1, hB, hz, k0, k1⟩ := st_two w v s
 have HB : Hid (∀ W, Below W1.heap.size W1 W → W.heap[w.heap.size]? = some (.cells #[v, .int .i64 s.anc.line, .int .i64 s.anc.col, .int .i64 s.foc.line, .int .i64 s.foc.col, .int .i64 s.on, .int .i64 s.off] 26) ∧ W.heap[w.heap.size + 1]? = some (.cells #[.slice none 0 0, .int .i64 0, .int .i64 0, .int .i64 0, .int .i64 0, .int .i64 0, .int .i64 0] 26)) := Lib.hid fun W hW => ⟨heap_below hW k0, heap_below hW k1⟩
 have hs1 := hB.size
 have H1 := Lib.hid hB
 obtain ⟨va, vc, rfl⟩ := h.slice
 have HC := Lib.hid (emptied_any _ s 119 #[.pointer (some ⟨w.heap.size, 0, none⟩)] (backK s) W1 S (h.below (rdLin_stable _) hB) (he.below hB) hs hf (enters_of Tryz.func119 (by kernel_rfl) rfl)
  (fun hm n W a c hW h1 h2 h3 => back1_any w.heap.size _ s n a c W (heap_below hW k0) h3 h2 ((he.below hB).below hW) hm ⟨_, _, _, rfl⟩ (by omega)))
 obtain ⟨X, hX⟩ : ∃ X, keyS s (backK s) = X := ⟨_, rfl⟩
 rw [hX] at HC ⊢
 obtain ⟨p0, f0⟩ := blk k0
 obtain ⟨p1, f1⟩ := blk k1
 clear h he hs hf hX k0 k1 hB
 go_enter Tryz.func50, Tryz.ntmps50
 go_wp2_with (go_at_call 109; refine HC.out.mono ?_; intro e w2 hsaid; obtain ⟨v2, rfl, hv2, hb2⟩ := hsaid; obtain ⟨a2, c2, rfl⟩ := hv2.slice; have HV2 := Lib.hid hv2; clear hv2; obtain ⟨q2, g2⟩ := blk (HB.out _ hb2).2)
 refine bodyPost_ret (results_st_e rfl _ _ (w.heap.size + 1) (.slice a2 X.1.lines.length c2) (.int .i64 X.1.anc.line) (.int .i64 X.1.anc.col) (.int .i64 X.1.foc.line) (.int .i64 X.1.foc.col) (.int .i64 X.1.on) (.int .i64 X.1.off) (.int .i64 X.2) rfl rfl (by simp [heap_set, putIn, (HB.out _ hb2).2])) rfl ?_
 have hfin := H1.out.trans (hb2.mono hs1)
 have hv2 := HV2.out
 exact ⟨_, rfl, (SliceR.stable (rdLin_stable _) hv2 (by (repeat' (first | (with_reducible exact Keeps.refl _ _) | (with_reducible refine Keeps.set ?_ ?_ _) | (with_reducible refine Keeps.alloc ?_ _) | (with_reducible refine Keeps.drew ?_) | (first | fail) | (simp; omega)))) (fun b h _ => (by have h' := h; (try simp at h'); omega))), by (repeat' (first | (with_reducible exact Below.refl _ _) | (with_reducible assumption) | (with_reducible refine Below.alloc ?_ ?_ _) | (with_reducible refine Below.drew ?_) | (with_reducible refine drewN_below ?_) | (with_reducible refine Below.setCell ?_ ?_ _) | go_size))⟩
end Go.Proofs.YtpndnbjpnajaaaaGreatDoor
namespace Go.Proofs.YtpndnbjpnajaaaaGreatDoor
open Go.RowKit
open Go.Proofs.Qw
attribute [local go_sem] Oper.semAt_some
theorem on1g {w : World} {B : Nat} {cs : Array Value} {t : TypeId} (h : w.heap[B]? = some (.cells cs t)) : ∀ X k, (w.alloc X).frozen? ⟨B, k, none⟩ = false := fun X _ => frozen_of_heap (heap_old _ X h)
set_option maxRecDepth 100000 in
set_option maxHeartbeats 8000000 in
theorem awake23_any (w : World) (he : EnvT w) : Calls Tryz.prog 44 #[] w fun e w' => e = .returned (.bool true) ∧ Below w.heap.size w w' := by
 obtain ⟨W1, hW1⟩ : ∃ W1, (((w.alloc (.cells #[.int .i32 97, .int .i64 0, .string ⟨#[]⟩, .int .i32 98, .int .i64 0, .string ⟨#[]⟩] 44)).alloc (.cells #[.int .i64 0] 3)).alloc (.cells #[.int .i64 0, .slice none 0 0, .int .i64 0, .slice (some ⟨w.heap.size, 0, none⟩) 2 2, .int .i64 0, .slice (some ⟨w.heap.size + 1, 0, none⟩) 1 1, .int .i64 0, .slice none 0 0] 42)).alloc (.cells #[.slice (some ⟨w.heap.size + 1 + 1, 0, none⟩) 2 2, .int .i64 0, .int .i64 1, .int .i64 0, .int .i64 1, .int .i64 0, .int .i64 0] 26) = W1 := ⟨_, rfl⟩
 have hB : Below w.heap.size w W1 := hW1 ▸ below1 (below3 (Below.refl _ _) _ _ _) _
 have hz : w.heap.size + 4 = W1.heap.size := by rw [← hW1]; simp
 have k0 : W1.heap[w.heap.size]? = some (.cells #[.int .i32 97, .int .i64 0, .string ⟨#[]⟩, .int .i32 98, .int .i64 0, .string ⟨#[]⟩] 44) := hW1 ▸ heap_old _ _ (heap_old _ _ (heap_old _ _ (heap_new _ _ rfl)))
 have k1 : W1.heap[w.heap.size + 1]? = some (.cells #[.int .i64 0] 3) := hW1 ▸ heap_old _ _ (heap_old _ _ (heap_new _ _ (by simp)))
 have k2 : W1.heap[w.heap.size + 1 + 1]? = some (.cells #[.int .i64 0, .slice none 0 0, .int .i64 0, .slice (some ⟨w.heap.size, 0, none⟩) 2 2, .int .i64 0, .slice (some ⟨w.heap.size + 1, 0, none⟩) 1 1, .int .i64 0, .slice none 0 0] 42) := hW1 ▸ heap_old _ _ (heap_new _ _ (by simp))
 have k3 : W1.heap[w.heap.size + 1 + 1 + 1]? = some (.cells #[.slice (some ⟨w.heap.size + 1 + 1, 0, none⟩) 2 2, .int .i64 0, .int .i64 1, .int .i64 0, .int .i64 1, .int .i64 0, .int .i64 0] 26) := hW1 ▸ heap_new _ _ (by simp)
 have hd0 : LinsR W1 (fun b => b < w.heap.size + 3) (.slice (some ⟨w.heap.size + 1 + 1, 0, none⟩) 2 2) exT0 := by
  refine ⟨_, 2, rfl, Nat.le_refl _, by decide, .inr ⟨w.heap.size + 1 + 1, 0, rfl, (by show w.heap.size + 1 + 1 < w.heap.size + 3; omega), by omega, fun h => (by cases h), fun i x hx => ?_⟩⟩
  match i, hx with
  | 0, hx =>
   cases hx
   exact ⟨[.int .i64 0, .slice none 0 0, .int .i64 0, .slice (some ⟨w.heap.size, 0, none⟩) 2 2], rfl, ⟨.slice none 0 0, _, rfl, SliceR.nil _ _ _ _ _ _, slice_blk (enc := encCel) (fun _ => rfl) [exRc 97, exRc 98] k0 (by show w.heap.size < w.heap.size + 3; omega) (by decide)⟩, fun j u hu => by
    rw [cell_of_heap k2, Nat.zero_mul, Nat.zero_add]
    match j, hu with
    | 0, hu => exact hu
    | 1, hu => exact hu
    | 2, hu => exact hu
    | 3, hu => exact hu⟩
  | 1, hx =>
   cases hx
   exact ⟨[.int .i64 0, .slice (some ⟨w.heap.size + 1, 0, none⟩) 1 1, .int .i64 0, .slice none 0 0], rfl, ⟨_, .slice none 0 0, rfl, slice_blk (enc := encInt) (fun _ => rfl) [0] k1 (by show w.heap.size + 1 < w.heap.size + 3; omega) (by decide), SliceR.nil _ _ _ _ _ _⟩, fun j u hu => by
    rw [cell_of_heap k2]
    match j, hu with
    | 0, hu => exact hu
    | 1, hu => exact hu
    | 2, hu => exact hu
    | 3, hu => exact hu⟩
 have hs1 := hB.size
 have HE : Hid (∀ W, Below w.heap.size w W → EnvT W) := Lib.hid fun W hW => he.below hW
 have HB1 := Lib.hid hB
 have HD1 := Lib.hid hd0
 have HK1 := Lib.hid k3
 have HS1 : Hid (w.heap.size + 4 ≤ W1.heap.size) := Lib.hid (by omega)
 have HW1 := Lib.hid hW1
 have hsm0 := may_small ex0_may
 have hsma := may_small exa_may
 clear he hd0 k0 k1 k2 k3 hB hW1
 go_enter Tryz.func44, Tryz.ntmps44
 go_wp2_with fail
 rw [HW1.out]
 have HC2 : Hid (Calls Tryz.prog 54 #[.agg #[.slice (some ⟨w.heap.size + 1 + 1, 0, none⟩) 2 2, .int .i64 0, .int .i64 1, .int .i64 0, .int .i64 1, .int .i64 0, .int .i64 0], .string ⟨#[120, 121]⟩] W1 (StSaid ((⟨exTa, ⟨0, 3⟩, ⟨0, 3⟩, 0, 0⟩, 0)) W1)) := Lib.hid (by
  have := typText_any (.slice (some ⟨w.heap.size + 1 + 1, 0, none⟩) 2 2) exS1 ⟨#[120, 121]⟩ W1 _ HD1.out (HE.out _ HB1.out) hsm0.1 hsm0.2 (by decide)
  rw [ex_text] at this
  exact this)
 refine HC2.out.mono ?_
 intro e w2 hsaid
 obtain ⟨v2, rfl, hv2, hst2⟩ := hsaid
 obtain ⟨x2, y2, hve2⟩ := hv2.slice
 have hve2 : v2 = .slice x2 2 y2 := hve2
 subst hve2
 have HB20 : Hid (Below w.heap.size w w2) := Lib.hid (below_from HB1.out hst2)
 have HK20 := Lib.hid (heap_below hst2 HK1.out)
 have HD20 := Lib.hid (HD1.out.below (rdLin_stable _) hst2)
 have HS20 := Lib.hid (Nat.le_trans HS1.out hst2.size)
 have HR2_20 := Lib.hid hv2
 clear hv2
 obtain ⟨q2, g2⟩ := blk HK20.out
 have r2 := on1 HK20.out
 have u2 := on1g HK20.out
 have e2 : ¬ w2.heap.size = w.heap.size + 1 + 1 + 1 := by have := HS20.out; omega
 go_upto_region 3 with fail
 obtain ⟨m2, hm2⟩ : ∃ m2, w2.alloc (.cells #[.slice x2 2 y2, .int .i64 0, .int .i64 3, .int .i64 0, .int .i64 3, .int .i64 0, .int .i64 0] 26) = m2 := ⟨_, rfl⟩
 rw [hm2]
 have hbm2 : Below w2.heap.size w2 m2 := hm2 ▸ below1 (Below.refl _ _) _
 have HN2_2 : Hid (m2.heap[w2.heap.size]? = some (.cells #[.slice x2 2 y2, .int .i64 0, .int .i64 3, .int .i64 0, .int .i64 3, .int .i64 0, .int .i64 0] 26)) := Lib.hid (hm2 ▸ heap_new _ _ rfl)
 have HB2 := Lib.hid (below_from HB20.out hbm2)
 have HK2 := Lib.hid (heap_below hbm2 HK20.out)
 have HD2 := Lib.hid (HD20.out.below (rdLin_stable _) hbm2)
 have HS2 := Lib.hid (Nat.le_trans HS20.out hbm2.size)
 have HR2_2 := Lib.hid (HR2_20.out.below hbm2)
 clear hbm2 hm2 q2 g2 r2 u2 e2 hst2
 obtain ⟨j2, l2⟩ := blk HN2_2.out
 go_wp2_with fail
 have HC3 : Hid (Calls Tryz.prog 50 #[.agg #[.slice x2 2 y2, .int .i64 0, .int .i64 3, .int .i64 0, .int .i64 3, .int .i64 0, .int .i64 0]] m2 (StSaid ((⟨exTb, ⟨0, 2⟩, ⟨0, 2⟩, 0, 0⟩, 0)) m2)) := Lib.hid (by
  have := typBack_any _ exSa m2 _ HR2_2.out.read (HE.out _ HB2.out) hsma.1 hsma.2
  rw [ex_back] at this
  exact this)
 refine HC3.out.mono ?_
 intro e w3 hsaid
 obtain ⟨v3, rfl, hv3, hst3⟩ := hsaid
 obtain ⟨x3, y3, hve3⟩ := hv3.slice
 have hve3 : v3 = .slice x3 2 y3 := hve3
 subst hve3
 have HB30 : Hid (Below w.heap.size w w3) := Lib.hid (below_from HB2.out hst3)
 have HK30 := Lib.hid (heap_below hst3 HK2.out)
 have HD30 := Lib.hid (HD2.out.below (rdLin_stable _) hst3)
 have HS30 := Lib.hid (Nat.le_trans HS2.out hst3.size)
 have HR3_30 := Lib.hid hv3
 have HR2_30 := Lib.hid (HR2_2.out.below hst3)
 have HN2_30 := Lib.hid (heap_below hst3 HN2_2.out)
 clear hv3
 obtain ⟨q3, g3⟩ := blk HK30.out
 have r3 := on1 HK30.out
 have u3 := on1g HK30.out
 have e3 : ¬ w3.heap.size = w.heap.size + 1 + 1 + 1 := by have := HS30.out; omega
 go_upto_region 4 with fail
 obtain ⟨m3, hm3⟩ : ∃ m3, w3.alloc (.cells #[.slice x3 2 y3, .int .i64 0, .int .i64 2, .int .i64 0, .int .i64 2, .int .i64 0, .int .i64 0] 26) = m3 := ⟨_, rfl⟩
 rw [hm3]
 have hbm3 : Below w3.heap.size w3 m3 := hm3 ▸ below1 (Below.refl _ _) _
 have HN3_3 : Hid (m3.heap[w3.heap.size]? = some (.cells #[.slice x3 2 y3, .int .i64 0, .int .i64 2, .int .i64 0, .int .i64 2, .int .i64 0, .int .i64 0] 26)) := Lib.hid (hm3 ▸ heap_new _ _ rfl)
 have HB3 := Lib.hid (below_from HB30.out hbm3)
 have HK3 := Lib.hid (heap_below hbm3 HK30.out)
 have HD3 := Lib.hid (HD30.out.below (rdLin_stable _) hbm3)
 have HS3 := Lib.hid (Nat.le_trans HS30.out hbm3.size)
 have HR3_3 := Lib.hid (HR3_30.out.below hbm3)
 have HR2_3 := Lib.hid (HR2_30.out.below hbm3)
 have HN2_3 := Lib.hid (heap_below hbm3 HN2_30.out)
 clear hbm3 hm3 q3 g3 r3 u3 e3 hst3
 clear j2 l2
 obtain ⟨j3, l3⟩ := blk HK3.out
 go_wp2_with fail
 have HC4 : Hid (Calls Tryz.prog 48 #[.agg #[.slice (some ⟨w.heap.size + 1 + 1, 0, none⟩) 2 2, .int .i64 0, .int .i64 1, .int .i64 0, .int .i64 1, .int .i64 0, .int .i64 0]] m3 (StSaid ((⟨exTc, ⟨1, 0⟩, ⟨1, 0⟩, 0, 0⟩, 0)) m3)) := Lib.hid (by
  have := typParagraph_any (.slice (some ⟨w.heap.size + 1 + 1, 0, none⟩) 2 2) exS1 m3 _ HD3.out (HE.out _ HB3.out) hsm0.1 hsm0.2
  rw [ex_para] at this
  exact this)
 refine HC4.out.mono ?_
 intro e w4 hsaid
 obtain ⟨v4, rfl, hv4, hst4⟩ := hsaid
 obtain ⟨x4, y4, hve4⟩ := hv4.slice
 have hve4 : v4 = .slice x4 3 y4 := hve4
 subst hve4
 have HB40 : Hid (Below w.heap.size w w4) := Lib.hid (below_from HB3.out hst4)
 have HK40 := Lib.hid (heap_below hst4 HK3.out)
 have HD40 := Lib.hid (HD3.out.below (rdLin_stable _) hst4)
 have HS40 := Lib.hid (Nat.le_trans HS3.out hst4.size)
 have HR4_40 := Lib.hid hv4
 have HR2_40 := Lib.hid (HR2_3.out.below hst4)
 have HN2_40 := Lib.hid (heap_below hst4 HN2_3.out)
 have HR3_40 := Lib.hid (HR3_3.out.below hst4)
 have HN3_40 := Lib.hid (heap_below hst4 HN3_3.out)
 clear hv4
 obtain ⟨q4, g4⟩ := blk HK40.out
 have r4 := on1 HK40.out
 have u4 := on1g HK40.out
 have e4 : ¬ w4.heap.size = w.heap.size + 1 + 1 + 1 := by have := HS40.out; omega
 go_upto_region 5 with fail
 obtain ⟨m4, hm4⟩ : ∃ m4, w4.alloc (.cells #[.slice x4 3 y4, .int .i64 1, .int .i64 0, .int .i64 1, .int .i64 0, .int .i64 0, .int .i64 0] 26) = m4 := ⟨_, rfl⟩
 rw [hm4]
 have hbm4 : Below w4.heap.size w4 m4 := hm4 ▸ below1 (Below.refl _ _) _
 have HN4_4 : Hid (m4.heap[w4.heap.size]? = some (.cells #[.slice x4 3 y4, .int .i64 1, .int .i64 0, .int .i64 1, .int .i64 0, .int .i64 0, .int .i64 0] 26)) := Lib.hid (hm4 ▸ heap_new _ _ rfl)
 have HB4 := Lib.hid (below_from HB40.out hbm4)
 have HK4 := Lib.hid (heap_below hbm4 HK40.out)
 have HD4 := Lib.hid (HD40.out.below (rdLin_stable _) hbm4)
 have HS4 := Lib.hid (Nat.le_trans HS40.out hbm4.size)
 have HR4_4 := Lib.hid (HR4_40.out.below hbm4)
 have HR2_4 := Lib.hid (HR2_40.out.below hbm4)
 have HN2_4 := Lib.hid (heap_below hbm4 HN2_40.out)
 have HR3_4 := Lib.hid (HR3_40.out.below hbm4)
 have HN3_4 := Lib.hid (heap_below hbm4 HN3_40.out)
 clear hbm4 hm4 q4 g4 r4 u4 e4 hst4
 clear j3 l3
 obtain ⟨j4, l4⟩ := blk HK4.out
 go_upto_region 6 with fail
 obtain ⟨m5, hm5⟩ : ∃ m5, ((m4).setCell ⟨w.heap.size + 1 + 1 + 1, 3, none⟩ (.int .i64 1)).setCell ⟨w.heap.size + 1 + 1 + 1, 4, none⟩ (.int .i64 0) = m5 := ⟨_, rfl⟩
 rw [hm5]
 have o5 : ∀ k, k ≠ w.heap.size + 1 + 1 + 1 → m5.heap[k]? = m4.heap[k]? := fun k hk => by rw [← hm5, heap_set, if_neg (Ne.symm hk), heap_set, if_neg (Ne.symm hk)]
 have z5 : m5.heap.size = m4.heap.size := by rw [← hm5]; simp
 have HB5 : Hid (Below w.heap.size w m5) := Lib.hid (hm5 ▸ (HB4.out.setCell (by show w.heap.size ≤ w.heap.size + 1 + 1 + 1; omega) _).setCell (by show w.heap.size ≤ w.heap.size + 1 + 1 + 1; omega) _)
 have HK5 : Hid (m5.heap[w.heap.size + 1 + 1 + 1]? = some (.cells #[.slice (some ⟨w.heap.size + 1 + 1, 0, none⟩) 2 2, .int .i64 0, .int .i64 1, .int .i64 1, .int .i64 0, .int .i64 0, .int .i64 0] 26)) := Lib.hid (by rw [← hm5, heap_set, if_pos rfl, heap_set, if_pos rfl, HK4.out]; rfl)
 have HD5 := Lib.hid (SliceR.stable (rdLin_stable false) HD4.out ⟨by omega, fun b hb _ => o5 b (by have hb : b < w.heap.size + 3 := hb; omega)⟩ (fun b h _ => h))
 have HS5 : Hid (w.heap.size + 4 ≤ m5.heap.size) := Lib.hid (by have := HS4.out; omega)
 have HR2_5 : Hid (DocR true m5 (fun b => W1.heap.size ≤ b) (.slice x2 2 y2) (exTa)) := Lib.hid (SliceR.stable (rdLin_stable true) HR2_4.out ⟨by omega, fun b hb _ => o5 b (by have hb : W1.heap.size ≤ b := hb; have := HS1.out; omega)⟩ (fun b h _ => h))
 have HN2_5 := Lib.hid ((o5 w2.heap.size (by have := HS20.out; omega)).trans HN2_4.out)
 have HR3_5 : Hid (DocR true m5 (fun b => m2.heap.size ≤ b) (.slice x3 2 y3) (exTb)) := Lib.hid (SliceR.stable (rdLin_stable true) HR3_4.out ⟨by omega, fun b hb _ => o5 b (by have hb : m2.heap.size ≤ b := hb; have := HS2.out; omega)⟩ (fun b h _ => h))
 have HN3_5 := Lib.hid ((o5 w3.heap.size (by have := HS30.out; omega)).trans HN3_4.out)
 have HR4_5 : Hid (DocR true m5 (fun b => m3.heap.size ≤ b) (.slice x4 3 y4) (exTc)) := Lib.hid (SliceR.stable (rdLin_stable true) HR4_4.out ⟨by omega, fun b hb _ => o5 b (by have hb : m3.heap.size ≤ b := hb; have := HS3.out; omega)⟩ (fun b h _ => h))
 have HN4_5 := Lib.hid ((o5 w4.heap.size (by have := HS40.out; omega)).trans HN4_4.out)
 clear hm5 o5 z5
 clear j4 l4
 obtain ⟨j5, l5⟩ := blk HK5.out
 go_wp2_with fail
 have HC6 : Hid (Calls Tryz.prog 45 #[.agg #[.slice (some ⟨w.heap.size + 1 + 1, 0, none⟩) 2 2, .int .i64 0, .int .i64 1, .int .i64 1, .int .i64 0, .int .i64 0, .int .i64 0]] m5 (StSaid ((⟨exTd, ⟨0, 1⟩, ⟨0, 1⟩, 0, 0⟩, 0)) m5)) := Lib.hid (by
  have := typErase_any (.slice (some ⟨w.heap.size + 1 + 1, 0, none⟩) 2 2) exS2 m5 _ HD5.out (HE.out _ HB5.out) hsm0.1 hsm0.2
  rw [ex_erase] at this
  exact this)
 refine HC6.out.mono ?_
 intro e w6 hsaid
 obtain ⟨v6, rfl, hv6, hst6⟩ := hsaid
 obtain ⟨x6, y6, hve6⟩ := hv6.slice
 have hve6 : v6 = .slice x6 1 y6 := hve6
 subst hve6
 have HB60 : Hid (Below w.heap.size w w6) := Lib.hid (below_from HB5.out hst6)
 have HK60 := Lib.hid (heap_below hst6 HK5.out)
 have HD60 := Lib.hid (HD5.out.below (rdLin_stable _) hst6)
 have HS60 := Lib.hid (Nat.le_trans HS5.out hst6.size)
 have HR6_60 := Lib.hid hv6
 have HR2_60 := Lib.hid (HR2_5.out.below hst6)
 have HN2_60 := Lib.hid (heap_below hst6 HN2_5.out)
 have HR3_60 := Lib.hid (HR3_5.out.below hst6)
 have HN3_60 := Lib.hid (heap_below hst6 HN3_5.out)
 have HR4_60 := Lib.hid (HR4_5.out.below hst6)
 have HN4_60 := Lib.hid (heap_below hst6 HN4_5.out)
 clear hv6
 obtain ⟨q6, g6⟩ := blk HK60.out
 have r6 := on1 HK60.out
 have u6 := on1g HK60.out
 have e6 : ¬ w6.heap.size = w.heap.size + 1 + 1 + 1 := by have := HS60.out; omega
 go_upto_region 7 with fail
 obtain ⟨m6, hm6⟩ : ∃ m6, w6.alloc (.cells #[.slice x6 1 y6, .int .i64 0, .int .i64 1, .int .i64 0, .int .i64 1, .int .i64 0, .int .i64 0] 26) = m6 := ⟨_, rfl⟩
 rw [hm6]
 have hbm6 : Below w6.heap.size w6 m6 := hm6 ▸ below1 (Below.refl _ _) _
 have HN6_6 : Hid (m6.heap[w6.heap.size]? = some (.cells #[.slice x6 1 y6, .int .i64 0, .int .i64 1, .int .i64 0, .int .i64 1, .int .i64 0, .int .i64 0] 26)) := Lib.hid (hm6 ▸ heap_new _ _ rfl)
 have HB6 := Lib.hid (below_from HB60.out hbm6)
 have HK6 := Lib.hid (heap_below hbm6 HK60.out)
 have HD6 := Lib.hid (HD60.out.below (rdLin_stable _) hbm6)
 have HS6 := Lib.hid (Nat.le_trans HS60.out hbm6.size)
 have HR6_6 := Lib.hid (HR6_60.out.below hbm6)
 have HR2_6 := Lib.hid (HR2_60.out.below hbm6)
 have HN2_6 := Lib.hid (heap_below hbm6 HN2_60.out)
 have HR3_6 := Lib.hid (HR3_60.out.below hbm6)
 have HN3_6 := Lib.hid (heap_below hbm6 HN3_60.out)
 have HR4_6 := Lib.hid (HR4_60.out.below hbm6)
 have HN4_6 := Lib.hid (heap_below hbm6 HN4_60.out)
 clear hbm6 hm6 q6 g6 r6 u6 e6 hst6
 clear j5 l5
 obtain ⟨j6, l6⟩ := blk HK6.out
 go_upto_region 8 with fail
 obtain ⟨m7, hm7⟩ : ∃ m7, ((m6).setCell ⟨w.heap.size + 1 + 1 + 1, 1, none⟩ (.int .i64 1)).setCell ⟨w.heap.size + 1 + 1 + 1, 2, none⟩ (.int .i64 0) = m7 := ⟨_, rfl⟩
 rw [hm7]
 have o7 : ∀ k, k ≠ w.heap.size + 1 + 1 + 1 → m7.heap[k]? = m6.heap[k]? := fun k hk => by rw [← hm7, heap_set, if_neg (Ne.symm hk), heap_set, if_neg (Ne.symm hk)]
 have z7 : m7.heap.size = m6.heap.size := by rw [← hm7]; simp
 have HB7 : Hid (Below w.heap.size w m7) := Lib.hid (hm7 ▸ (HB6.out.setCell (by show w.heap.size ≤ w.heap.size + 1 + 1 + 1; omega) _).setCell (by show w.heap.size ≤ w.heap.size + 1 + 1 + 1; omega) _)
 have HK7 : Hid (m7.heap[w.heap.size + 1 + 1 + 1]? = some (.cells #[.slice (some ⟨w.heap.size + 1 + 1, 0, none⟩) 2 2, .int .i64 1, .int .i64 0, .int .i64 1, .int .i64 0, .int .i64 0, .int .i64 0] 26)) := Lib.hid (by rw [← hm7, heap_set, if_pos rfl, heap_set, if_pos rfl, HK6.out]; rfl)
 have HD7 := Lib.hid (SliceR.stable (rdLin_stable false) HD6.out ⟨by omega, fun b hb _ => o7 b (by have hb : b < w.heap.size + 3 := hb; omega)⟩ (fun b h _ => h))
 have HS7 : Hid (w.heap.size + 4 ≤ m7.heap.size) := Lib.hid (by have := HS6.out; omega)
 have HR2_7 : Hid (DocR true m7 (fun b => W1.heap.size ≤ b) (.slice x2 2 y2) (exTa)) := Lib.hid (SliceR.stable (rdLin_stable true) HR2_6.out ⟨by omega, fun b hb _ => o7 b (by have hb : W1.heap.size ≤ b := hb; have := HS1.out; omega)⟩ (fun b h _ => h))
 have HN2_7 := Lib.hid ((o7 w2.heap.size (by have := HS20.out; omega)).trans HN2_6.out)
 have HR3_7 : Hid (DocR true m7 (fun b => m2.heap.size ≤ b) (.slice x3 2 y3) (exTb)) := Lib.hid (SliceR.stable (rdLin_stable true) HR3_6.out ⟨by omega, fun b hb _ => o7 b (by have hb : m2.heap.size ≤ b := hb; have := HS2.out; omega)⟩ (fun b h _ => h))
 have HN3_7 := Lib.hid ((o7 w3.heap.size (by have := HS30.out; omega)).trans HN3_6.out)
 have HR4_7 : Hid (DocR true m7 (fun b => m3.heap.size ≤ b) (.slice x4 3 y4) (exTc)) := Lib.hid (SliceR.stable (rdLin_stable true) HR4_6.out ⟨by omega, fun b hb _ => o7 b (by have hb : m3.heap.size ≤ b := hb; have := HS3.out; omega)⟩ (fun b h _ => h))
 have HN4_7 := Lib.hid ((o7 w4.heap.size (by have := HS40.out; omega)).trans HN4_6.out)
 have HR6_7 : Hid (DocR true m7 (fun b => m5.heap.size ≤ b) (.slice x6 1 y6) (exTd)) := Lib.hid (SliceR.stable (rdLin_stable true) HR6_6.out ⟨by omega, fun b hb _ => o7 b (by have hb : m5.heap.size ≤ b := hb; have := HS5.out; omega)⟩ (fun b h _ => h))
 have HN6_7 := Lib.hid ((o7 w6.heap.size (by have := HS60.out; omega)).trans HN6_6.out)
 clear hm7 o7 z7
 clear j6 l6
 obtain ⟨j7, l7⟩ := blk HK7.out
 go_wp2_with fail
 have HC8 : Hid (Calls Tryz.prog 48 #[.agg #[.slice (some ⟨w.heap.size + 1 + 1, 0, none⟩) 2 2, .int .i64 1, .int .i64 0, .int .i64 1, .int .i64 0, .int .i64 0, .int .i64 0]] m7 (StSaid ((⟨exTp, ⟨1, 0⟩, ⟨1, 0⟩, 0, 0⟩, 0)) m7)) := Lib.hid (by
  have := typParagraph_any (.slice (some ⟨w.heap.size + 1 + 1, 0, none⟩) 2 2) exS3 m7 _ HD7.out (HE.out _ HB7.out) hsm0.1 hsm0.2
  rw [ex_out] at this
  exact this)
 refine HC8.out.mono ?_
 intro e w8 hsaid
 obtain ⟨v8, rfl, hv8, hst8⟩ := hsaid
 obtain ⟨x8, y8, hve8⟩ := hv8.slice
 have hve8 : v8 = .slice x8 2 y8 := hve8
 subst hve8
 have HB80 : Hid (Below w.heap.size w w8) := Lib.hid (below_from HB7.out hst8)
 have HK80 := Lib.hid (heap_below hst8 HK7.out)
 have HD80 := Lib.hid (HD7.out.below (rdLin_stable _) hst8)
 have HS80 := Lib.hid (Nat.le_trans HS7.out hst8.size)
 have HR8_80 := Lib.hid hv8
 have HR2_80 := Lib.hid (HR2_7.out.below hst8)
 have HN2_80 := Lib.hid (heap_below hst8 HN2_7.out)
 have HR3_80 := Lib.hid (HR3_7.out.below hst8)
 have HN3_80 := Lib.hid (heap_below hst8 HN3_7.out)
 have HR4_80 := Lib.hid (HR4_7.out.below hst8)
 have HN4_80 := Lib.hid (heap_below hst8 HN4_7.out)
 have HR6_80 := Lib.hid (HR6_7.out.below hst8)
 have HN6_80 := Lib.hid (heap_below hst8 HN6_7.out)
 clear hv8
 obtain ⟨q8, g8⟩ := blk HK80.out
 have r8 := on1 HK80.out
 have u8 := on1g HK80.out
 have e8 : ¬ w8.heap.size = w.heap.size + 1 + 1 + 1 := by have := HS80.out; omega
 go_upto_region 9 with fail
 obtain ⟨m8, hm8⟩ : ∃ m8, w8.alloc (.cells #[.slice x8 2 y8, .int .i64 1, .int .i64 0, .int .i64 1, .int .i64 0, .int .i64 0, .int .i64 0] 26) = m8 := ⟨_, rfl⟩
 rw [hm8]
 have hbm8 : Below w8.heap.size w8 m8 := hm8 ▸ below1 (Below.refl _ _) _
 have HN8_8 : Hid (m8.heap[w8.heap.size]? = some (.cells #[.slice x8 2 y8, .int .i64 1, .int .i64 0, .int .i64 1, .int .i64 0, .int .i64 0, .int .i64 0] 26)) := Lib.hid (hm8 ▸ heap_new _ _ rfl)
 have HB8 := Lib.hid (below_from HB80.out hbm8)
 have HK8 := Lib.hid (heap_below hbm8 HK80.out)
 have HD8 := Lib.hid (HD80.out.below (rdLin_stable _) hbm8)
 have HS8 := Lib.hid (Nat.le_trans HS80.out hbm8.size)
 have HR8_8 := Lib.hid (HR8_80.out.below hbm8)
 have HR2_8 := Lib.hid (HR2_80.out.below hbm8)
 have HN2_8 := Lib.hid (heap_below hbm8 HN2_80.out)
 have HR3_8 := Lib.hid (HR3_80.out.below hbm8)
 have HN3_8 := Lib.hid (heap_below hbm8 HN3_80.out)
 have HR4_8 := Lib.hid (HR4_80.out.below hbm8)
 have HN4_8 := Lib.hid (heap_below hbm8 HN4_80.out)
 have HR6_8 := Lib.hid (HR6_80.out.below hbm8)
 have HN6_8 := Lib.hid (heap_below hbm8 HN6_80.out)
 clear hbm8 hm8 q8 g8 r8 u8 e8 hst8
 clear j7 l7
 obtain ⟨j8, l8⟩ := blk HK8.out
 go_wp2_with fail
 have HC9 : Hid (Calls Tryz.prog 52 #[.agg #[.slice (some ⟨w.heap.size + 1 + 1, 0, none⟩) 2 2, .int .i64 1, .int .i64 0, .int .i64 1, .int .i64 0, .int .i64 0, .int .i64 0]] m8 (StSaid ((⟨[], ⟨0, 0⟩, ⟨0, 0⟩, 0, 0⟩, 7)) m8)) := Lib.hid (by
  have := typForth_any (.slice (some ⟨w.heap.size + 1 + 1, 0, none⟩) 2 2) exS3 m8 _ HD8.out (HE.out _ HB8.out) hsm0.1 hsm0.2
  rw [ex_forth] at this
  exact this)
 refine HC9.out.mono ?_
 intro e w9 hsaid
 obtain ⟨v9, rfl, hv9, hst9⟩ := hsaid
 obtain ⟨x9, y9, hve9⟩ := hv9.slice
 have hve9 : v9 = .slice x9 0 y9 := hve9
 subst hve9
 have HB90 : Hid (Below w.heap.size w w9) := Lib.hid (below_from HB8.out hst9)
 have HK90 := Lib.hid (heap_below hst9 HK8.out)
 have HD90 := Lib.hid (HD8.out.below (rdLin_stable _) hst9)
 have HS90 := Lib.hid (Nat.le_trans HS8.out hst9.size)
 have HR9_90 := Lib.hid hv9
 have HR2_90 := Lib.hid (HR2_8.out.below hst9)
 have HN2_90 := Lib.hid (heap_below hst9 HN2_8.out)
 have HR3_90 := Lib.hid (HR3_8.out.below hst9)
 have HN3_90 := Lib.hid (heap_below hst9 HN3_8.out)
 have HR4_90 := Lib.hid (HR4_8.out.below hst9)
 have HN4_90 := Lib.hid (heap_below hst9 HN4_8.out)
 have HR6_90 := Lib.hid (HR6_8.out.below hst9)
 have HN6_90 := Lib.hid (heap_below hst9 HN6_8.out)
 have HR8_90 := Lib.hid (HR8_8.out.below hst9)
 have HN8_90 := Lib.hid (heap_below hst9 HN8_8.out)
 clear hv9
 obtain ⟨q9, g9⟩ := blk HK90.out
 have r9 := on1 HK90.out
 have u9 := on1g HK90.out
 have e9 : ¬ w9.heap.size = w.heap.size + 1 + 1 + 1 := by have := HS90.out; omega
 go_upto_region 10 with fail
 obtain ⟨m9, hm9⟩ : ∃ m9, w9.alloc (.cells #[.slice x9 0 y9, .int .i64 0, .int .i64 0, .int .i64 0, .int .i64 0, .int .i64 0, .int .i64 0] 26) = m9 := ⟨_, rfl⟩
 rw [hm9]
 have hbm9 : Below w9.heap.size w9 m9 := hm9 ▸ below1 (Below.refl _ _) _
 have HN9_9 : Hid (m9.heap[w9.heap.size]? = some (.cells #[.slice x9 0 y9, .int .i64 0, .int .i64 0, .int .i64 0, .int .i64 0, .int .i64 0, .int .i64 0] 26)) := Lib.hid (hm9 ▸ heap_new _ _ rfl)
 have HB9 := Lib.hid (below_from HB90.out hbm9)
 have HK9 := Lib.hid (heap_below hbm9 HK90.out)
 have HD9 := Lib.hid (HD90.out.below (rdLin_stable _) hbm9)
 have HS9 := Lib.hid (Nat.le_trans HS90.out hbm9.size)
 have HR9_9 := Lib.hid (HR9_90.out.below hbm9)
 have HR2_9 := Lib.hid (HR2_90.out.below hbm9)
 have HN2_9 := Lib.hid (heap_below hbm9 HN2_90.out)
 have HR3_9 := Lib.hid (HR3_90.out.below hbm9)
 have HN3_9 := Lib.hid (heap_below hbm9 HN3_90.out)
 have HR4_9 := Lib.hid (HR4_90.out.below hbm9)
 have HN4_9 := Lib.hid (heap_below hbm9 HN4_90.out)
 have HR6_9 := Lib.hid (HR6_90.out.below hbm9)
 have HN6_9 := Lib.hid (heap_below hbm9 HN6_90.out)
 have HR8_9 := Lib.hid (HR8_90.out.below hbm9)
 have HN8_9 := Lib.hid (heap_below hbm9 HN8_90.out)
 clear hbm9 hm9 q9 g9 r9 u9 e9 hst9
 clear j8 l8
 obtain ⟨q2, g2⟩ := blk HN2_9.out
 obtain ⟨q3, g3⟩ := blk HN3_9.out
 obtain ⟨q4, g4⟩ := blk HN4_9.out
 obtain ⟨q6, g6⟩ := blk HN6_9.out
 obtain ⟨q8, g8⟩ := blk HN8_9.out
 obtain ⟨a', c', ee, h2, h3, hx2⟩ := lins_shape HR2_9.out.read
 have ee : Value.slice x2 2 y2 = .slice a' 2 c' := ee
 injection ee with e1 e2 e3
 subst e1 e3
 obtain ⟨b2, o2, la2, lc2, ca2, cc2, hb2, hA2⟩ := hx2 0 ⟨0, [], 0, [exRc 97, exRc 120, exRc 121, exRc 98]⟩ rfl
 subst hb2
 obtain ⟨_, _, _, _, d3, _, _⟩ := hA2
 rw [Nat.zero_mul, Nat.add_zero] at d3
 simp only [List.length_cons, List.length_nil, Nat.zero_add, Nat.reduceAdd] at d3
 obtain ⟨a8', c8', ee8, h28, h38, hx8⟩ := lins_shape HR8_9.out.read
 have ee8 : Value.slice x8 2 y8 = .slice a8' 2 c8' := ee8
 injection ee8 with e1 e2 e3
 subst e1 e3
 obtain ⟨b8, o8, la8, lc8, ca8, cc8, hb8, hA8⟩ := hx8 1 ⟨0, [], 0, []⟩ rfl
 subst hb8
 obtain ⟨_, _, d8, _, _, _, _⟩ := hA8
 rw [Nat.one_mul] at d8
 simp only [List.length_nil] at d8
 have h2 : 2 ≤ y2 := h2
 have h28 : 2 ≤ y8 := h28
 unfold maxLen at h3 h38
 have hg := guardPos
 have hq := fun (w : World) => run_eql_pos ⟨1, 0⟩ ⟨1, 0⟩ w
 rw [decide_eq_true rfl] at hq
 clear hx2 hx8 e2 hsm0 hsma
 go_wp2_with fail
 go_ret
 exact ⟨rfl, HB9.out⟩
end Go.Proofs.YtpndnbjpnajaaaaGreatDoor
namespace Go.Proofs.YtpndnbjpnajaaaaGreatDoor
open Go.RowKit
open Go.Proofs.Qw
attribute [local go_sem] Oper.semAt_some
theorem long23_any (v : Value) (s : St) (w : World) (S : Nat → Prop) (h : LinsR w S v s.lines) (hs : Sane s.lines) :
  Calls Tryz.prog 43 #[stV v s] w (LongSaid s.lines w) := by
 obtain ⟨W1, hW1, hB, hz, k0⟩ := one_st w v s
 have HC := Lib.hid (refLong_any v s.lines W1 S (h.below (rdLin_stable _) hB) hs)
 have H1 := Lib.hid hB
 have hs1 := hB.size
 obtain ⟨p0, f0⟩ := blk k0
 obtain ⟨va, vc, rfl⟩ := h.slice
 clear h hs k0 hB
 go_enter Tryz.func43, Tryz.ntmps43
 go_wp2_with (go_at_call 74; refine HC.out.mono ?_; rintro e w1 ⟨r, rfl, hr, hb⟩)
 go_ret
 exact ⟨r, rfl, hr, H1.out.trans (hb.mono hs1)⟩
end Go.Proofs.YtpndnbjpnajaaaaGreatDoor
