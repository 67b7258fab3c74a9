/- The walks of doc.Part, cells.Part. -/
import Derived.Test.YtfoiaoopbkcpoaaGreatDoorPartBase
import Derived.Test.YtfoiaoopbkcpoaaGreatDoorDocEach
import Derived.Test.YtfoiaoopbkcpoaaGreatDoorLineSplit
import Derived.Test.YtfoiaoopbkcpoaaGreatDoorRefPart
namespace Go.Proofs.YtfoiaoopbkcpoaaGreatDoor
open Go.RowKit
open Go.Proofs.Qw
attribute [local go_sem] Oper.semAt_some
set_option maxRecDepth 100000 in
set_option maxHeartbeats 2000000 in
theorem cellsPart_any (ca : Option Addr) (cc : Nat) (cs : List Cel) (xf xt : Nat) (w w0 : World) (S : Nat → Prop) (h : CelsR false w0 S (.slice ca cs.length cc) cs) (h0 : Below w0.heap.size w0 w) (h1 : xf ≤ xt) (h2 : xt ≤ cs.length) (hs : cs.length ≤ 1000000) :
    Calls Tryz.prog 95 #[.slice ca cs.length cc, .int .i64 xf, .int .i64 xt] w (CellsSaid ((cs.drop xf).take (xt - xf)) 0 w) := by
  have hw : CelsR false w S (.slice ca cs.length cc) cs := SliceR.below (rdOf_stable _) h h0
  have HC1 := Lib.hid (cellsSpan_any _ cs xf xt w S false hw)
  have hsp : spanC cs.length xf xt = true := by unfold spanC; simp; omega
  rw [hsp] at HC1
  obtain ⟨_, hccl, hccm⟩ := hw.len
  obtain ⟨row, hrow⟩ : ∃ row, (cs.drop xf).take (xt - xf) = row := ⟨_, rfl⟩
  have hrl : row.length = xt - xf := by rw [← hrow, List.length_take, List.length_drop]; omega
  have hh : CelsR false w S (sliced ca xf xt cc 3) row := by
    rw [← hrow]
    exact hw.part (i := xf) (j := xt) (m := cc) h1 h2 (by omega) (Nat.le_refl _)
  rw [hrow]
  have HC2 := Lib.hid (cloneCell_any _ row false w w S hh (Below.refl _ _) (by omega))
  unfold sliced at HC2
  unfold maxLen at hccm
  have u0 : (0 : Int) ≤ (xf : Int) := Int.natCast_nonneg _
  have u1 : (xf : Int) ≤ (xt : Int) := by omega
  have u2 : (xt : Int) ≤ (cc : Int) := by omega
  clear h hw hsp hrow hrl hh
  by_cases hcq : cc = xf
  · subst hcq
    have hee : xt = cc := by omega
    subst hee
    rw [if_pos rfl, Nat.sub_self] at HC2
    go_enter Tryz.func95, Tryz.ntmps95
    go_wp2_with (first | (go_at_call 126; refine HC1.out.mono ?_; rintro e w2 ⟨rfl, rfl⟩) | (go_at_call 106; refine HC2.out.mono ?_; rintro e w3 ⟨v3, rfl, hv3, hb3⟩; obtain ⟨a3, c3, rfl⟩ := hv3.slice; have HV := Lib.hid hv3; have HB := Lib.hid hb3; clear hv3 hb3))
    go_ret2
    exact ⟨_, rfl, HV.out, HB.out⟩
  · rw [if_neg hcq] at HC2
    go_enter Tryz.func95, Tryz.ntmps95
    go_wp2_with (first | (go_at_call 126; refine HC1.out.mono ?_; rintro e w2 ⟨rfl, rfl⟩) | (go_at_call 106; refine HC2.out.mono ?_; rintro e w3 ⟨v3, rfl, hv3, hb3⟩; obtain ⟨a3, c3, rfl⟩ := hv3.slice; have HV := Lib.hid hv3; have HB := Lib.hid hb3; clear hv3 hb3))
    go_ret2
    exact ⟨_, rfl, HV.out, HB.out⟩
theorem slice_any {α : Type} {t : TypeId} {k : Nat} {R : Rd α} {own : Bool} {w : World} {S : Nat → Prop} {v : Value} {xs : List α} (h : SliceR t k R own w S v xs) : ∃ a n c, v = .slice a n c := by
  obtain ⟨a, c, e⟩ := h.slice
  exact ⟨a, _, c, e⟩
def PI (d : Doc) (dv : Value) (w : World) (Bo Z : Nat) (pre : List (RowX d)) (W : World) : Prop :=
  ∃ v, W.heap[Bo]? = some (.cells #[v] 22) ∧ DocR true W (fun b => Z ≤ b) v (pre.map fun y => partOf d y.1) ∧ W.heap[w.heap.size]? = some (.cells #[dv] 22) ∧ (v = .slice none 0 0 ∨ (pre.map fun y => partOf d y.1) ≠ []) ∧ Below w.heap.size w W ∧ Z ≤ W.heap.size
theorem pi_own {d : Doc} {dv : Value} {w : World} {Bo Z B : Nat} (hB : w.heap.size ≤ B) : OwnFrom B (PI d dv w Bo Z) := fun s X Y row ⟨v, h1, h2, h3, h4, h5, h6⟩ hg hr =>
  ⟨v, blk_own B _ _ _ s X Y row h1 hg hr, doc_own B _ v (fun s : List (RowX d) => s.map fun y => partOf d y.1) s X Y row h2 hg hr, blk_own B _ _ _ s X Y row h3 hg hr, h4, ownFrom_below (Nat.le_refl _) hB s X Y row h5 hg hr, ownFrom_size B _ s X Y row h6 hg hr⟩

set_option maxRecDepth 200000 in
set_option maxHeartbeats 4000000 in
theorem docPart_any (v : Value) (d : Doc) (a b : Ps) (w : World) (S : Nat → Prop) (h : LinsR w S v d) (he : EnvT w) (hs : Small d) (hf : Fits d) :
    Calls Tryz.prog 51 #[v, posV a, posV b] w (DocSaid (partD d a b) w) := by
  obtain ⟨W1, hW1⟩ : ∃ W1, ((w.alloc (.cells #[v] 22)).alloc (.cells #[.int .i64 a.line, .int .i64 a.col] 24)).alloc (.cells #[.int .i64 b.line, .int .i64 b.col] 24) = W1 := ⟨_, rfl⟩
  have hB : Below w.heap.size w W1 := hW1 ▸ (((Below.refl _ _).alloc (Nat.le_refl _) _).alloc (by simp) _).alloc (by simp; omega) _
  have hz : w.heap.size + 3 = W1.heap.size := by rw [← hW1]; simp
  have k0 : W1.heap[w.heap.size]? = some (.cells #[v] 22) := hW1 ▸ heap_old _ _ (heap_old _ _ (heap_new _ _ rfl))
  have k1 : W1.heap[w.heap.size + 1]? = some (.cells #[.int .i64 a.line, .int .i64 a.col] 24) := hW1 ▸ heap_old _ _ (heap_new _ _ (by simp))
  have k2 : W1.heap[w.heap.size + 1 + 1]? = some (.cells #[.int .i64 b.line, .int .i64 b.col] 24) := hW1 ▸ heap_new _ _ (by simp)
  have HC1 := Lib.hid (docSpan_any v d a b W1 S (h.below (rdLin_stable _) hB) (he.below hB) hs)
  have HB : Hid (∀ W, Below W1.heap.size W1 W → W.heap[w.heap.size]? = some (.cells #[v] 22) ∧ W.heap[w.heap.size + 1]? = some (.cells #[.int .i64 a.line, .int .i64 a.col] 24) ∧ W.heap[w.heap.size + 1 + 1]? = some (.cells #[.int .i64 b.line, .int .i64 b.col] 24)) := Lib.hid fun W hW => ⟨heap_below hW k0, heap_below hW k1, heap_below hW k2⟩
  have HP : Hid (∀ p : Ps, posV p = .agg #[.int .i64 p.line, .int .i64 p.col]) := Lib.hid fun _ => rfl
  have H1 := Lib.hid hB
  have HL := Lib.hid h
  have HF := Lib.hid hf
  have HS := Lib.hid hs
  have hlen := hf.1
  have hs1 := hB.size
  obtain ⟨p0, f0⟩ := blk k0
  obtain ⟨p1, f1⟩ := blk k1
  obtain ⟨p2, f2⟩ := blk k2
  obtain ⟨va, vc, rfl⟩ := h.slice
  clear h he hs hf k0 k1 k2 hB
  cases hsp : spanD d a b
  · have HR : Hid (partD d a b = ([], 1)) := Lib.hid (by unfold partD; rw [hsp]; rfl)
    rw [hsp] at HC1
    clear hsp
    rw [HP.out a, HP.out b] at HC1 ⊢
    go_enter Tryz.func51, Tryz.ntmps51
    go_wp2_with (go_at_call 90; refine HC1.out.mono ?_; rintro e w2 ⟨rfl, hb2⟩)
    go_ret2
    unfold DocSaid
    rw [HR.out]
    exact ⟨_, rfl, SliceR.nil _ _ _ _ _ _, H1.out.trans (hb2.mono hs1)⟩
  obtain ⟨_, i, j, p, q, l, m, rfl, rfl, hl, hm, hp, hq, hij, hpq⟩ := span_at hsp
  have hjl := (List.getElem?_eq_some_iff.1 hm).1
  have HR : Hid (partD d ⟨i, p⟩ ⟨j, q⟩ = ((rowsTo d i p j q (j + 1)).map (partOf d), 0)) := Lib.hid (by unfold partD; rw [hsp, if_pos rfl]; rfl)
  have HOK : Hid (∀ k, i ≤ k → k ≤ j → RowOk d (rowB d i p j q k)) := Lib.hid fun k h1 h2 => rowB_ok hl hm hp hq hpq h1 h2
  rw [hsp] at HC1
  clear hsp hl hm hp hq hpq
  rw [HP.out, HP.out] at HC1 ⊢
  refine (callsIn_wide (n := 6)).1 ?_
  refine callsIn_of_wp_marks Tryz.func51 rfl trivial ?_ rfl
  simp only [Tryz.ntmps51, List.size_toArray, List.length_cons, List.length_nil, Nat.reduceAdd, Nat.reduceSub, Array.replicate_succ, Array.replicate_zero, List.push_toArray, List.append_toArray, List.nil_append, List.cons_append]
  have hwf : ∀ f, Fence.wide.fn f := fun _ => trivial
  have hwd : Fence.wide.depth = none := rfl
  gi_wp2_with (first
    | (gi_at_call 90; refine (callsIn_wide.2 HC1.out).mono ?_; rintro e w2 ⟨rfl, hb2⟩; obtain ⟨q0, g0⟩ := blk (HB.out _ hb2).1; obtain ⟨q1, g1⟩ := blk (HB.out _ hb2).2.1; obtain ⟨q2, g2⟩ := blk (HB.out _ hb2).2.2; have r0 := cell_on (q0 0); have r1 := cell_on (q1 0); have r2 := cell_on (q1 1); have r3 := cell_on (q2 0); have r4 := cell_on (q2 1))
    | (gi_at_call 93; refine (callsIn_wide.2 (between_any _ _ _ _ _ _ _ _)).mono ?_; rintro e w5 ⟨rfl, rfl⟩))
  have hx2 : Below w.heap.size w w2 := H1.out.trans (hb2.mono hs1)
  have hz2 := hb2.size
  obtain ⟨w6, hw6⟩ : ∃ w6, (((w2.alloc (.cells #[.slice none 0 0] 22)).alloc (.cells #[.slice va d.length vc] 22)).alloc (.cells #[.int .i64 i, .int .i64 p] 24)).alloc (.cells #[.int .i64 j, .int .i64 q] 24) = w6 := ⟨_, rfl⟩
  rw [hw6]
  obtain ⟨t0, t1, t2⟩ := HB.out _ hb2
  have hb26 : Below w2.heap.size w2 w6 := hw6 ▸ ((((Below.refl _ _).alloc (Nat.le_refl _) _).alloc (by simp) _).alloc (by simp; omega) _).alloc (by simp; omega) _
  have hz6 : w6.heap.size = w2.heap.size + 4 := by rw [← hw6]; simp
  have m0 : w6.heap[w2.heap.size]? = some (.cells #[.slice none 0 0] 22) := hw6 ▸ heap_old _ _ (heap_old _ _ (heap_old _ _ (heap_new _ _ rfl)))
  have n0 : w6.heap[w2.heap.size + 1]? = some (.cells #[.slice va d.length vc] 22) := hw6 ▸ heap_old _ _ (heap_old _ _ (heap_new _ _ (by simp)))
  have n1 : w6.heap[w2.heap.size + 1 + 1]? = some (.cells #[.int .i64 i, .int .i64 p] 24) := hw6 ▸ heap_old _ _ (heap_new _ _ (by simp))
  have n2 : w6.heap[w2.heap.size + 1 + 2]? = some (.cells #[.int .i64 j, .int .i64 q] 24) := hw6 ▸ heap_new _ _ (by simp)
  have hb6 : Below w.heap.size w w6 := hx2.trans (hb26.mono (by omega))
  have hPI : PI d (.slice va d.length vc) w w2.heap.size w6.heap.size [] w6 := ⟨_, m0, SliceR.nil _ _ _ _ _ _, heap_below hb26 t0, .inl rfl, hb6, Nat.le_refl _⟩
  clear hw6 q0 q1 q2 g0 g1 g2 p0 f0 p1 p2 f1 f2 t0 t1 t2 r0 r1 r2 r3 r4 hW1 m0
  have N0 := Lib.hid (And.intro n0 (And.intro n1 n2))
  clear n0 n1 n2
  refine rangeFunc_boxB rfl (by omega) (gf := 125) (lb := #[.pointer (some ⟨w2.heap.size + 1 + 1, 0, none⟩), .pointer (some ⟨w2.heap.size + 1 + 2, 0, none⟩), .pointer (some ⟨w2.heap.size + 1, 0, none⟩)]) rfl trivial (enters_of Tryz.func125 (by kernel_rfl) rfl)
    (encs := rowEnc (d := d)) (n₀ := w.heap.size) (base := w2.heap.size + 1) (top := w6.heap.size) (S := fun ys => ys.map (·.1) = rowsTo d i p j q (j + 1)) (Sp := fun _ => True) (N := 200000) (w0 := w6) ?seq (by omega) (Below.refl _ _) (fun _ => rfl)
    (PI d (.slice va d.length vc) w w2.heap.size w6.heap.size) (fun _ _ _ => False) (pi_own (by omega)) (fun _ _ _ _ _ hs _ _ => hs) hPI (fun _ _ ⟨_, _, _, _, _, _, h⟩ => h)
    (fun x => #[.int .i64 x.1.2.1, .int .i64 x.1.2.2]) 96 ?act ?assign ?body ?done ?stop
  case seq =>
    intro l J Jx W hW hJ _ hY h0
    exact between1_inB 5 l (w2.heap.size + 1) (w2.heap.size + 1 + 1) (w2.heap.size + 1 + 2) (w2.heap.size + 1) w6.heap.size (.slice va d.length vc) d i p j q S J Jx w W HL.out (hb6.trans (hW.mono hb6.size)) ⟨by omega, by omega, by omega⟩ ⟨by omega, by omega, by omega⟩ (heap_below hW N0.out.1) (heap_below hW N0.out.2.1) (heap_below hW N0.out.2.2) hij hjl HOK.out HS.out.2.1 hJ hY h0
  case assign =>
    intro l pre x W K Bx hBx hI hK
    gi_wp2
    rw [← hBx]
    exact hK
  case body =>
    intro l pre x Bx W hI hBx hbx hlt
    obtain ⟨v0, t0, hD, td, hne, hb, hz⟩ := hI
    obtain ⟨ln, hln, hft, htl⟩ := x.2
    obtain ⟨xi, exi⟩ : ∃ z, x.1.1 = z := ⟨_, rfl⟩
    obtain ⟨xf, exf⟩ : ∃ z, x.1.2.1 = z := ⟨_, rfl⟩
    obtain ⟨xt, ext⟩ : ∃ z, x.1.2.2 = z := ⟨_, rfl⟩
    have hpo := partOf_at hln
    obtain ⟨row, hrow⟩ : ∃ row, (ln.cells.drop xf).take (xt - xf) = row := ⟨_, rfl⟩
    rw [exf, ext, hrow] at hpo
    have HT : Hid ((pre ++ [x]).map (fun y => partOf d y.1) = pre.map (fun y => partOf d y.1) ++ [{ ln with cells := row }]) := Lib.hid (by rw [List.map_append, List.map_singleton, hpo])
    rw [exi] at hln
    rw [exf, ext] at hft hbx
    rw [ext] at htl
    rw [exi, exf, ext]
    clear exi exf ext hpo
    have hil := (List.getElem?_eq_some_iff.1 hln).1
    have hfl := HF.out.2 ln (List.mem_of_getElem? hln)
    obtain ⟨va', vc', hve, hvc, hvm, hx⟩ := lins_shape HL.out
    cases hve
    obtain ⟨b1, o1, la, lc, ca, cc, rfl, hAk⟩ := hx xi ln hln
    have HFM : Hid (∀ W', Below W.heap.size W W' → Calls Tryz.prog 94 #[linV ln (.slice la ln.lists.length lc) (.slice ca ln.cells.length cc)] W' fun e w' => ∃ a', e = .returned (linV ln a' (.slice none 0 0)) ∧ IntsR true w' (fun b => W'.heap.size ≤ b) a' ln.lists ∧ Below W'.heap.size W' w') := Lib.hid fun W' hW => lineFrame_any ln _ _ false false W' w S hAk.listsR hAk.cellsR (below_from hb hW) hfl
    have HCP : Hid (∀ W', Below W.heap.size W W' → Calls Tryz.prog 95 #[.slice ca ln.cells.length cc, .int .i64 xf, .int .i64 xt] W' (CellsSaid row 0 W')) := Lib.hid fun W' hW => by
      have := cellsPart_any ca cc ln.cells xf xt W' w S hAk.cellsR (below_from hb hW) hft htl hfl.2
      rwa [hrow] at this
    have hlt1 := hAk.lt
    have hbz := hb.size
    obtain ⟨hz4, c0, c1, c2, c3, _, _⟩ := hAk.below hb
    obtain ⟨s0, s0f⟩ := blk t0
    obtain ⟨sd, sdf⟩ := blk td
    obtain ⟨sx, sxf⟩ := blk hbx
    unfold maxLen at hvm
    have i0 : (0 : Int) ≤ (xi : Int) := Int.natCast_nonneg _
    have i1 : (xi : Int) < (d.length : Int) := by omega
    have hw0 : Below W.heap.size W W := Below.refl _ _
    have HA := Lib.hid (And.intro t0 (And.intro td hbx))
    have HD := Lib.hid (SliceR.bounded (rdLin_stable true) hD)
    have HNE := Lib.hid hne
    have HIN := Lib.hid (And.intro hb hz)
    have HC3 := Lib.hid c3
    have hbxl := (Array.getElem?_eq_some_iff.1 hbx).1
    clear hD hrow hln hfl hft htl hx hAk t0 td hbx hne hvc
    unfold linV at HFM
    gi_wp2_with (gi_at_call 94; refine (callsIn_wide.2 (HFM.out _ hw0)).mono ?_; rintro e w4 ⟨a', rfl, ha4, hb4⟩; obtain ⟨a4, c4, rfl⟩ := ha4.slice; have HI4 := Lib.hid (SliceR.bounded (rdOf_stable _) ha4); clear ha4)
    obtain ⟨w5, hw5⟩ : ∃ X, w4.alloc (.cells #[.int .i64 ln.quote, .slice a4 ln.lists.length c4, .int .i64 ln.kind, .slice none 0 0] 55) = X := ⟨_, rfl⟩
    rw [hw5]
    have hb45 : Below w4.heap.size w4 w5 := hw5 ▸ (Below.refl _ _).alloc (Nat.le_refl _) _
    have m5 : w5.heap[w4.heap.size]? = some (.cells #[.int .i64 ln.quote, .slice a4 ln.lists.length c4, .int .i64 ln.kind, .slice none 0 0] 55) := hw5 ▸ heap_new _ _ rfl
    have hzW4 := hb4.size
    have hb5 : Below W.heap.size W w5 := below_from hb4 hb45
    have hd5 : Below W.heap.size W w5.drew := hb5.drew
    have HC5 := Lib.hid (HCP.out w5.drew hd5)
    obtain ⟨u0, u0f⟩ := blk (heap_below hb5 HA.out.2.1)
    obtain ⟨ux, uxf⟩ := blk (heap_below hb5 HA.out.2.2)
    have u3 : w5.cell? ⟨b1, o1 + xi * 4 + 3, none⟩ = some (.slice ca ln.cells.length cc) := (hb5.cell (p := ⟨b1, o1 + xi * 4 + 3, none⟩) hz4).trans HC3.out
    have e1 : w4.heap.size ≠ w.heap.size := by omega
    have e2 : w4.heap.size ≠ b1 := by omega
    have e3 : w4.heap.size ≠ Bx := by omega
    clear s0 s0f sd sdf sx sxf c0 c1 c2 c3 hw5 HFM HCP
    refine wpIn_region_heldR (by kernel_rfl) (by kernel_rfl) (S := fun w' => w'.cell? ⟨w.heap.size, 0, none⟩ = some (.slice (some ⟨b1, o1, none⟩) d.length vc) ∧ w'.cell? ⟨b1, o1 + xi * 4 + 3, none⟩ = some (.slice ca ln.cells.length cc) ∧ w'.cell? ⟨Bx, 0, none⟩ = some (.int .i64 xf) ∧ w'.cell? ⟨Bx, 1, none⟩ = some (.int .i64 xt)) ⟨u0 0, u3, ux 0, ux 1⟩ (fun R hR hHeld => ?_)
    refine wpAnyH_take (i := 0) (v := ?_) (by simp only [List.getElem?_toArray, List.getElem?_cons_zero]; rfl) (by kernel_rfl) (by kernel_rfl) (by kernel_rfl) (fun _ _ _ h => h) (Or.inl ⟨by rfl, ?_⟩) (by assumption) ?_
    rotate_left 1
    · intro w hSw; (try dsimp only at hSw); go_simp; (first | done | with_reducible rfl)
    try simp only [Act.put, List.setIfInBounds_toArray, List.set_cons_zero, List.set_cons_succ]
    refine wpAnyH_take (i := 1) (v := ?_) (by simp only [List.getElem?_toArray, List.getElem?_cons_succ, List.getElem?_cons_zero]; rfl) (by kernel_rfl) (by kernel_rfl) (by kernel_rfl) (fun _ _ _ h => h) (Or.inl ⟨by rfl, ?_⟩) (by assumption) ?_
    rotate_left 1
    · intro w hSw; (try dsimp only at hSw); go_simp; (first | done | with_reducible rfl)
    try simp only [Act.put, List.setIfInBounds_toArray, List.set_cons_zero, List.set_cons_succ]
    refine wpAnyH_take (i := 2) (v := ?_) (by simp only [List.getElem?_toArray, List.getElem?_cons_succ, List.getElem?_cons_zero]; rfl) (by kernel_rfl) (by kernel_rfl) (by kernel_rfl) (fun _ _ _ h => h) (Or.inl ⟨by rfl, ?_⟩) (by assumption) ?_
    rotate_left 1
    · intro w hSw; (try dsimp only at hSw); go_simp; (first | done | with_reducible rfl)
    try simp only [Act.put, List.setIfInBounds_toArray, List.set_cons_zero, List.set_cons_succ]
    refine wpAnyH_take (i := 3) (v := ?_) (by simp only [List.getElem?_toArray, List.getElem?_cons_succ, List.getElem?_cons_zero]; rfl) (by kernel_rfl) (by kernel_rfl) (by kernel_rfl) (fun _ _ _ h => h) (Or.inl ⟨by rfl, ?_⟩) (by assumption) ?_
    rotate_left 1
    · intro w hSw; (try dsimp only at hSw); go_simp; (first | done | with_reducible rfl)
    try simp only [Act.put, List.setIfInBounds_toArray, List.set_cons_zero, List.set_cons_succ]
    refine wpAnyH_take (i := 4) (v := ?_) (by simp only [List.getElem?_toArray, List.getElem?_cons_succ, List.getElem?_cons_zero]; rfl) (by kernel_rfl) (by kernel_rfl) (by kernel_rfl) (fun _ _ _ h => h) (Or.inl ⟨by rfl, ?_⟩) (by assumption) ?_
    rotate_left 1
    · intro w hSw; (try dsimp only at hSw); go_simp; (first | done | with_reducible rfl)
    try simp only [Act.put, List.setIfInBounds_toArray, List.set_cons_zero, List.set_cons_succ]
    refine wpAnyH_take (i := 5) (v := ?_) (by simp only [List.getElem?_toArray, List.getElem?_cons_succ, List.getElem?_cons_zero]; rfl) (by kernel_rfl) (by kernel_rfl) (by kernel_rfl) (fun _ _ _ h => h) (Or.inl ⟨by rfl, ?_⟩) (by assumption) ?_
    rotate_left 1
    · intro w hSw; (try dsimp only at hSw); go_simp; (first | done | with_reducible rfl)
    try simp only [Act.put, List.setIfInBounds_toArray, List.set_cons_zero, List.set_cons_succ]
    refine wpAnyH_take (i := 6) (v := ?_) (by simp only [List.getElem?_toArray, List.getElem?_cons_succ, List.getElem?_cons_zero]; rfl) (by kernel_rfl) (by kernel_rfl) (by kernel_rfl) (fun _ _ _ h => h) (Or.inl ⟨by rfl, ?_⟩) (by assumption) ?_
    rotate_left 1
    · intro w hSw; (try dsimp only at hSw); go_simp; (first | done | with_reducible rfl)
    try simp only [Act.put, List.setIfInBounds_toArray, List.set_cons_zero, List.set_cons_succ]
    refine wpAnyH_take (i := 7) (v := ?_) (by simp only [List.getElem?_toArray, List.getElem?_cons_succ, List.getElem?_cons_zero]; rfl) (by kernel_rfl) (by kernel_rfl) (by kernel_rfl) (fun _ _ _ h => h) (Or.inl ⟨by rfl, ?_⟩) (by assumption) ?_
    rotate_left 1
    · intro w hSw; (try dsimp only at hSw); go_simp; (first | done | with_reducible rfl)
    try simp only [Act.put, List.setIfInBounds_toArray, List.set_cons_zero, List.set_cons_succ]
    refine wpAnyH_take (i := 8) (v := ?_) (by simp only [List.getElem?_toArray, List.getElem?_cons_succ, List.getElem?_cons_zero]; rfl) (by kernel_rfl) (by kernel_rfl) (by kernel_rfl) (fun _ _ _ h => h) (Or.inl ⟨by rfl, ?_⟩) (by assumption) ?_
    rotate_left 1
    · intro w hSw; (try dsimp only at hSw); go_simp; (first | done | with_reducible rfl)
    try simp only [Act.put, List.setIfInBounds_toArray, List.set_cons_zero, List.set_cons_succ]
    refine wpAnyH_ready (rs := [9]) (by kernel_rfl) (by simp) ?_
    refine AllReadyH.cons (by simp only [List.getElem?_toArray, List.getElem?_cons_succ, List.getElem?_cons_zero]; rfl) (fun K hK => ?_) AllReadyH.nil
    go_simp
    refine HC5.out.mono ?_
    intro e w6' hsaid
    obtain ⟨v6, rfl, hv6, hb6'⟩ := hsaid
    have hb56 : Below w5.heap.size w5 w6' := ((Below.refl _ _).drew).trans hb6'
    obtain ⟨a6, c6, rfl⟩ := hv6.slice
    have HV6 : Hid (CelsR true w6' (fun b => w5.heap.size ≤ b) (.slice a6 row.length c6) row) := Lib.hid (SliceR.stable (rdOf_stable _) hv6 (Keeps.refl _ _) (fun b hb' _ => hb'))
    have hbW6 : Below W.heap.size W w6' := below_from hb5 hb56
    have hb46 : Below w4.heap.size w4 w6' := below_from hb45 hb56
    have m6 := heap_below hb56 m5
    obtain ⟨y0, y0f⟩ := blk (heap_below hbW6 HA.out.2.1)
    obtain ⟨yx, yxf⟩ := blk (heap_below hbW6 HA.out.2.2)
    obtain ⟨r6, s6⟩ := blk m6
    have y3 : w6'.cell? ⟨b1, o1 + xi * 4 + 3, none⟩ = some (.slice ca ln.cells.length cc) := (hbW6.cell (p := ⟨b1, o1 + xi * 4 + 3, none⟩) hz4).trans HC3.out
    have hS6 : w6'.cell? ⟨w.heap.size, 0, none⟩ = some (.slice (some ⟨b1, o1, none⟩) d.length vc) ∧ w6'.cell? ⟨b1, o1 + xi * 4 + 3, none⟩ = some (.slice ca ln.cells.length cc) ∧ w6'.cell? ⟨Bx, 0, none⟩ = some (.int .i64 xf) ∧ w6'.cell? ⟨Bx, 1, none⟩ = some (.int .i64 xt) := ⟨y0 0, y3, yx 0, yx 1⟩
    clear hv6 hb6' u0 u0f ux uxf u3
    refine hK.out _ _ hS6 (fun hHeld => ?_)
    clear hK K
    try simp only [Act.put, List.setIfInBounds_toArray, List.set_cons_zero, List.set_cons_succ]
    refine wpAnyH_take (i := 10) (v := ?_) (by simp only [List.getElem?_toArray, List.getElem?_cons_succ, List.getElem?_cons_zero]; rfl) (by kernel_rfl) (by kernel_rfl) (by kernel_rfl) (fun _ _ _ h => h) (Or.inl ⟨by rfl, ?_⟩) (by assumption) ?_
    rotate_left 1
    · intro w hSw; (try dsimp only at hSw); go_simp; (first | done | with_reducible rfl)
    try simp only [Act.put, List.setIfInBounds_toArray, List.set_cons_zero, List.set_cons_succ]
    refine wpAnyH_take (i := 11) (v := ?_) (by simp only [List.getElem?_toArray, List.getElem?_cons_succ, List.getElem?_cons_zero]; rfl) (by kernel_rfl) (by kernel_rfl) (by kernel_rfl) (fun _ _ _ h => h) (Or.inl ⟨by rfl, ?_⟩) (by assumption) ?_
    rotate_left 1
    · intro w hSw; (try dsimp only at hSw); go_simp; (first | done | with_reducible rfl)
    try simp only [Act.put, List.setIfInBounds_toArray, List.set_cons_zero, List.set_cons_succ]
    refine wpAnyH_take (i := 12) (v := ?_) (by simp only [List.getElem?_toArray, List.getElem?_cons_succ, List.getElem?_cons_zero]; rfl) (by kernel_rfl) (by kernel_rfl) (by kernel_rfl) (fun _ _ _ h => h) (Or.inl ⟨by rfl, ?_⟩) (by assumption) ?_
    rotate_left 1
    · intro w hSw; (try dsimp only at hSw); go_simp; (first | done | with_reducible rfl)
    try simp only [Act.put, List.setIfInBounds_toArray, List.set_cons_zero, List.set_cons_succ]
    refine wpAnyH_take (i := 13) (v := ?_) (by simp only [List.getElem?_toArray, List.getElem?_cons_succ, List.getElem?_cons_zero]; rfl) (by kernel_rfl) (by kernel_rfl) (by kernel_rfl) (fun _ _ _ h => h) (Or.inl ⟨by rfl, ?_⟩) (by assumption) ?_
    rotate_left 1
    · intro w hSw; (try dsimp only at hSw); go_simp; (first | done | with_reducible rfl)
    try simp only [Act.put, List.setIfInBounds_toArray, List.set_cons_zero, List.set_cons_succ]
    refine wpAnyH_ready (rs := [14]) (by kernel_rfl) (by simp) ?_
    refine AllReadyH.cons (by simp only [List.getElem?_toArray, List.getElem?_cons_succ, List.getElem?_cons_zero]; rfl) (fun K hK => ?_) AllReadyH.nil
    go_simp
    have hS7 : (w6'.setCell ⟨w4.heap.size, 3, none⟩ (.slice a6 row.length c6)).cell? ⟨w.heap.size, 0, none⟩ = some (.slice (some ⟨b1, o1, none⟩) d.length vc) ∧ (w6'.setCell ⟨w4.heap.size, 3, none⟩ (.slice a6 row.length c6)).cell? ⟨b1, o1 + xi * 4 + 3, none⟩ = some (.slice ca ln.cells.length cc) ∧ (w6'.setCell ⟨w4.heap.size, 3, none⟩ (.slice a6 row.length c6)).cell? ⟨Bx, 0, none⟩ = some (.int .i64 xf) ∧ (w6'.setCell ⟨w4.heap.size, 3, none⟩ (.slice a6 row.length c6)).cell? ⟨Bx, 1, none⟩ = some (.int .i64 xt) :=
      ⟨(setCell_block e1).trans hS6.1, (setCell_block e2).trans hS6.2.1, (setCell_block e3).trans hS6.2.2.1, (setCell_block e3).trans hS6.2.2.2⟩
    refine hK.out _ _ hS7 (fun _ => ?_)
    refine wpAnyH_done (by kernel_rfl) ?_ _
    refine hR.out _ _ ?_
    clear hK K hS6 hS7 y0 y0f yx yxf y3
    have hz45 := hb45.size
    have hz56 := hb56.size
    obtain ⟨z0, z0f⟩ := blk (heap_below hbW6 HA.out.1)
    have e4 : ¬ w4.heap.size = w2.heap.size := by omega
    have e5 : w4.heap.size ≠ w2.heap.size := e4
    have hw2Z : w2.heap.size < w6.heap.size := by omega
    have hb7 : ∀ u ob, Below W.heap.size W ((w6'.setCell ⟨w4.heap.size, 3, none⟩ u).alloc ob) := fun u ob => (hbW6.setCell (by show W.heap.size ≤ w4.heap.size; omega) _).alloc (by simp; omega) _
    have HB7 := Lib.hid hb7
    have HD7 : Hid (∀ u ob, DocR true ((w6'.setCell ⟨w4.heap.size, 3, none⟩ u).alloc ob) (fun b => w6.heap.size ≤ b) v0 (pre.map fun y => partOf d y.1)) := Lib.hid fun u ob => HD.out.stable (rdLin_stable true) (.all (hb7 u ob)) (fun _ h _ => h.1)
    have HM7 : Hid (∀ u ob, ((w6'.setCell ⟨w4.heap.size, 3, none⟩ u).alloc ob).heap[w2.heap.size]? = some (.cells #[v0] 22)) := Lib.hid fun u ob => heap_below (hb7 u ob) HA.out.1
    have hzz7 : ∀ u ob, w6.heap.size ≤ ((w6'.setCell ⟨w4.heap.size, 3, none⟩ u).alloc ob).heap.size := fun u ob => Nat.le_trans HIN.out.2 (hb7 u ob).size
    have HZ7 := Lib.hid hzz7
    have hl7 : (pre.map fun y => partOf d y.1).length + 1 ≤ 100000000 := by rw [List.length_map]; omega
    have HN7 : Hid (∀ ob, NewsR 4 (rdLin true) ((w6'.setCell ⟨w4.heap.size, 3, none⟩ (.slice a6 row.length c6)).alloc ob) (fun b => w6.heap.size ≤ b) [.int .i64 ln.quote, .slice a4 ln.lists.length c4, .int .i64 ln.kind, .slice a6 row.length c6] [{ ln with cells := row }]) := Lib.hid fun ob =>
      NewsR.one rfl ⟨_, _, rfl, HI4.out.stable (rdOf_stable _) (((Keeps.all hb46).set (fun hh => (Nat.lt_irrefl _) hh.2) _).alloc _) (fun b h _ => Nat.le_trans HIN.out.2 h.1), HV6.out.stable (rdOf_stable _) (((Keeps.refl _ _).set (fun hh => by have hh : w5.heap.size ≤ w4.heap.size := hh; have := (Array.getElem?_eq_some_iff.1 m5).1; omega) _).alloc _) (fun b h _ => by have h : w5.heap.size ≤ b := h; have := HIN.out.2; omega)⟩
    clear hb7 hzz7
    gi_wp2_with (gi_at_builtin; go_must (refine wpListIn_append_R _ rfl _ _ 22 22 rfl rowLine eltLine w6.heap.size v0 _ (xs := pre.map (fun y : RowX d => partOf d y.1)) (ys := [{ ln with cells := row }]) (news := [.int .i64 ln.quote, .slice a4 ln.lists.length c4, .int .i64 ln.kind, .slice a6 row.length c6]) rfl rfl (HD7.out _ _) (HZ7.out _ _) (src_at rowLine (w6'.setCell ⟨w4.heap.size, 3, none⟩ (.slice a6 row.length c6)) _ rfl (oneV_line _ _ _ _ _ _ _) 1 (by simp)) (HN7.out _) hl7 ?_); intro v' w8 hR8 hB8 hG8 _; rw [← HT.out] at hR8; obtain ⟨a8, n8, c8, hv8⟩ := slice_any hR8; subst hv8; have HR8 := Lib.hid hR8; have HB8 := Lib.hid hB8; have HG8 := Lib.hid hG8; have m8 := (hB8.block _ hw2Z).trans (HM7.out _ _); obtain ⟨r8, s8⟩ := blk m8; clear hR8 hB8 hG8)
    have h1 := HD7.out (.slice a6 row.length c6) (.cells #[.int .i64 ln.quote, .slice a4 ln.lists.length c4, .int .i64 ln.kind, .slice a6 row.length c6] 55)
    have hb7 := HB7.out (.slice a6 row.length c6) (.cells #[.int .i64 ln.quote, .slice a4 ln.lists.length c4, .int .i64 ln.kind, .slice a6 row.length c6] 55)
    have hwW := HIN.out.1.size
    have hz8 := HB8.out.size
    have hz7 := HZ7.out (.slice a6 row.length c6) (.cells #[.int .i64 ln.quote, .slice a4 ln.lists.length c4, .int .i64 ln.kind, .slice a6 row.length c6] 55)
    have hd8 := (HB8.out.block w.heap.size (by omega)).trans (heap_below hb7 HA.out.2.1)
    refine ⟨((keeps_below hb7).from _).trans (((append_keeps h1 HNE.out HG8.out).from _).trans ((KeepsOthers.setCell _ _ _).from _)), (Kb.of_below hwW hb7).t ((Kb.of_top hb6.size (Nat.le_refl _) HB8.out).t (Kb.setCell _ hx2.size (Or.inl (Nat.lt_succ_self _)) _)), _, ?_, SliceR.stable (rdLin_stable true) HR8.out ((Keeps.refl _ _).set (fun hh => by have hh : w6.heap.size ≤ w2.heap.size := hh; omega) _) (fun _ h _ => h), ?_, .inr (by rw [HT.out]; simp), ?_, ?_⟩
    · rw [heap_set, if_pos rfl, m8]; rfl
    · rw [heap_set, if_neg (by omega)]; exact hd8
    · exact ((below_from HIN.out.1 hb7).trans (HB8.out.mono hb6.size)).setCell (by show w.heap.size ≤ w2.heap.size; exact hx2.size) _
    · simp only [World.size_setCell]; omega
  case done =>
    rintro D ys W hD hys ⟨v9, t0, hDoc, td, hne, hb, hz⟩ hK
    obtain ⟨s0, s0f⟩ := blk t0
    rw [show (ys.map fun y => partOf d y.1) = (rowsTo d i p j q (j + 1)).map (partOf d) by rw [← hys, List.map_map]; rfl] at hDoc
    obtain ⟨va9, c9, rfl⟩ := hDoc.slice
    have HDOC := Lib.hid hDoc
    have HB9 := Lib.hid hb
    have HK9 := Lib.hid hK
    clear hDoc hb hK td hne
    generalize ((rowsTo d i p j q (j + 1)).map (partOf d)).length = n9 at *
    gi_wp2_with fail
    refine ⟨by simp, .inl ⟨_, _, rfl, run_takeDeferred HK9.out, ?_⟩⟩
    refine ⟨.tuple #[.slice va9 n9 c9, .int .i64 0], by simp [results, Tryz.results51, go_sem], ?_⟩
    unfold DocSaid
    rw [HR.out]
    exact ⟨_, rfl, SliceR.stable (rdLin_stable true) ((doc_own (β := Unit) D _ _ (fun _ => (rowsTo d i p j q (j + 1)).map (partOf d))).putObj (s := ()) _ HDOC.out (Nat.le_refl _) HK9.out rfl) (Keeps.refl _ _) (fun b h _ => Nat.le_trans hb6.size h), HB9.out.trans (belowK_b (w := w) (Nat.le_refl _) W D _ _ (by omega) HK9.out rfl rfl)⟩
  case stop =>
    rintro D c pre W _ _ h _
    exact h.elim
end Go.Proofs.YtfoiaoopbkcpoaaGreatDoor
