/- The walks of the reference's Set, Link of documents. -/
import Derived.Test.YtfoiaoopbkcpoaaGreatDoorRefPart
import Derived.Test.YtfoiaoopbkcpoaaGreatDoorRefCells
import Derived.Test.YtfoiaoopbkcpoaaGreatDoorRefOwn
import Derived.Test.YtfoiaoopbkcpoaaGreatDoorDocSet
namespace Go.Proofs.Qw
open Go.RowKit Go.Proofs.YtfoiaoopbkcpoaaGreatDoor
theorem setRows_before (C : List Cel → Nat → Nat → List Cel) (d : Doc) (i p j q : Nat) : ∀ (n m : Nat), i + n ≤ m → (setRows C d (rowsTo d i p j q (i + n)))[m]? = d[m]?
  | 0, m, _ => by rw [Nat.add_zero, rowsTo_nil]; rfl
  | n + 1, m, h => by
    have ih := setRows_before C d i p j q n m (by omega)
    rw [show i + (n + 1) = i + n + 1 by omega, rowsTo_step d (by omega), setRows_snoc]
    unfold setRow
    rw [List.getElem?_set_ne (by show ¬ i + n = m; omega)]
    exact ih
theorem setRows_step (C : List Cel → Nat → Nat → List Cel) {d : Doc} {i p j q k : Nat} {l : Lin} (h : i ≤ k) (hl : d[k]? = some l) :
    (setRows C d (rowsTo d i p j q k))[k]? = some l ∧ setRows C d (rowsTo d i p j q (k + 1)) = (setRows C d (rowsTo d i p j q k)).set k { l with cells := C l.cells (rowB d i p j q k).2.1 (rowB d i p j q k).2.2 } := by
  have hb := setRows_before C d i p j q (k - i) k (by omega)
  rw [show i + (k - i) = k by omega, hl] at hb
  refine ⟨hb, ?_⟩
  rw [rowsTo_step d h, setRows_snoc, setRow_at (x := rowB d i p j q k) hb]
  rfl
end Go.Proofs.Qw
namespace Go.Proofs.YtfoiaoopbkcpoaaGreatDoor
open Go.RowKit
open Go.Proofs.Qw
theorem linkRC_ok {hr : List UInt8} {cs : List Cel} {i j : Nat} (hl : linkF hr = true) (hij : i ≤ j) (hj : j ≤ cs.length) : linkRC hr cs i j = (mapIn (setHref hr) i j cs, 0) := by
  unfold linkRC spanC
  rw [hl, if_pos (by simp; omega)]
  simp
set_option maxRecDepth 100000 in
set_option maxHeartbeats 8000000 in
theorem refDSet_any (v : Value) (d : Doc) (a b : Ps) (s c : Int) (w : World) (S : Nat → Prop) (h : LinsR w S v d) (hs : Small d) (hf : Fits d)  :
    Calls Tryz.prog 35 #[v, posV a, posV b, .int .i64 s, .int .i64 c] w (DocSaid (setD s c d a b) w) := by
  obtain ⟨W1, hW1, hB, hz, hA1, hA2⟩ := two_pos w (.int .i64 a.line) (.int .i64 a.col) (.int .i64 b.line) (.int .i64 b.col)
  have hv := h.below (rdLin_stable _) hB
  have HC1 := Lib.hid (refSpan_any v d a b W1 S hv hs)
  have HCT : Hid (∀ W, Below W1.heap.size W1 W → Calls Tryz.prog 73 #[v, posV a, posV b] W fun e w' => e = .returned (.int .i64 (cellsD d a b).length) ∧ Below W.heap.size W w') := Lib.hid fun W hW => refCount_any v d a b W S (hv.below (rdLin_stable _) hW) hs hf
  have HO : Hid (∀ W, Below W1.heap.size W1 W → Calls Tryz.prog 12 #[v] W fun e w' => ∃ v', e = .returned v' ∧ DocR true w' (fun b => W.heap.size ≤ b) v' d ∧ Below W.heap.size W w') := Lib.hid fun W hW => refOwnD_any v d W S (hv.below (rdLin_stable _) hW) hf
  have HB : Hid (∀ W, Below W1.heap.size W1 W → W.heap[w.heap.size]? = some (.cells #[.int .i64 a.line, .int .i64 a.col] 24) ∧ W.heap[w.heap.size + 1]? = some (.cells #[.int .i64 b.line, .int .i64 b.col] 24)) := Lib.hid fun W hW => ⟨heap_below hW hA1, heap_below hW hA2⟩
  have HP : Hid (∀ p : Ps, posV p = .agg #[.int .i64 p.line, .int .i64 p.col]) := Lib.hid fun _ => rfl
  have H1 := Lib.hid hB
  have HL := Lib.hid hv
  have HF := Lib.hid hf
  have hlen := hf.1
  have hs1 := hB.size
  have hw1 : Below W1.heap.size W1 W1 := Below.refl _ _
  obtain ⟨p1, f1⟩ := blk hA1
  obtain ⟨p2, f2⟩ := blk hA2
  obtain ⟨va, vc, rfl⟩ := h.slice
  clear h hs hf hA1 hA2 hB hv
  cases hsp : spanD d a b
  · have HR : Hid (setD s c d a b = ([], 1)) := Lib.hid (by first | (unfold setD eachD; rw [hsp]; rfl) | (unfold linkD eachD; rw [hsp]; simp))
    rw [hsp] at HC1
    clear hsp
    rw [HP.out a, HP.out b] at HC1 ⊢
    go_enter Tryz.func35, Tryz.ntmps35
    go_wp2_with (go_at_call 72; refine HC1.out.mono ?_; rintro e w2 ⟨rfl, hb2⟩)
    go_ret2
    unfold DocSaid
    rw [HR.out]
    exact ⟨_, rfl, SliceR.nil _ _ _ _ _ _, H1.out.trans (hb2.mono hs1)⟩
  have HLL := Lib.hid trivial
  obtain ⟨lk, hlk⟩ : ∃ lk : Bool, true = lk := ⟨_, rfl⟩
  rw [hsp] at HC1
  cases lk
  · try exact absurd hlk (by decide)
    all_goals
      have HR : Hid (setD s c d a b = ([], 1)) := Lib.hid (by unfold linkD; rw [hlk]; rfl)
      rw [hlk] at HLL
      clear hsp hlk
      rw [HP.out a, HP.out b] at HC1 ⊢
      go_enter Tryz.func35, Tryz.ntmps35
      go_wp2_with (first | (go_at_call 72; refine HC1.out.mono ?_; rintro e w2 ⟨rfl, hb2⟩) | (go_at_call 79; refine (HLL.out _).mono ?_; rintro e w8 ⟨rfl, hb8⟩; have hx8 := below_from hb2 hb8))
      go_ret2
      unfold DocSaid
      rw [HR.out]
      exact ⟨_, rfl, SliceR.nil _ _ _ _ _ _, H1.out.trans (hx8.mono hs1)⟩
  by_cases hc : cellsD d a b = []
  · have HR : Hid (setD s c d a b = ([], 7)) := Lib.hid (by unfold setD eachD; rw [if_pos hsp]; rw [if_pos hc])
    rw [hc] at HCT
    try rw [hlk] at HLL
    clear hsp hlk hc
    rw [HP.out a, HP.out b] at HC1 HCT ⊢
    go_enter Tryz.func35, Tryz.ntmps35
    go_wp2_with (first | (go_at_call 72; refine HC1.out.mono ?_; rintro e w2 ⟨rfl, hb2⟩; obtain ⟨q1, g1⟩ := blk (HB.out _ hb2).1; obtain ⟨q2, g2⟩ := blk (HB.out _ hb2).2) | fail | (go_at_call 73; refine (HCT.out _ (by assumption)).mono ?_; rintro e w3 ⟨rfl, hb3⟩; have hx3 : Below W1.heap.size W1 w3 := below_from (by assumption) hb3))
    go_ret2
    unfold DocSaid
    rw [HR.out]
    exact ⟨_, rfl, SliceR.nil _ _ _ _ _ _, H1.out.trans (hx3.mono hs1)⟩
  obtain ⟨nn, hnn⟩ : ∃ nn, (cellsD d a b).length = nn := ⟨_, rfl⟩
  have hn0 : (((nn : Nat) : Int) == 0) = false := by
    have : 0 < (cellsD d a b).length := List.length_pos_iff.2 hc
    simp; omega
  rw [hnn] at HCT
  obtain ⟨_, i, j, p, q, l, m, rfl, rfl, hl, hm, hp, hq, hij, hpq⟩ := span_at hsp
  have hjl := (List.getElem?_eq_some_iff.1 hm).1
  obtain ⟨C, hC⟩ : ∃ C : List Cel → Nat → Nat → List Cel, (fun cs i j => mapIn (setBits s c) i j cs) = C := ⟨_, rfl⟩
  have HR : Hid (setD s c d ⟨i, p⟩ ⟨j, q⟩ = (setRows C d (rowsTo d i p j q (j + 1)), 0)) := Lib.hid (by unfold setD eachD; rw [if_pos hsp]; rw [if_neg hc, hC]; rfl)
  have HOK : Hid (∀ k, i ≤ k → k ≤ j → RowOk d (rowB d i p j q k)) := Lib.hid fun k h1 h2 => rowB_ok hl hm hp hq hpq h1 h2
  try rw [hlk] at HLL
  have HLK := Lib.hid hlk
  clear hsp hl hm hp hq hpq hc hnn hlk
  rw [HP.out, HP.out] at HC1 HCT ⊢
  have HFR : Hid (∀ k W, k < d.length → Below W1.heap.size W1 W → Calls Tryz.prog 74 #[.slice va d.length vc, .agg #[.int .i64 i, .int .i64 p], .agg #[.int .i64 j, .int .i64 q], .int .i64 k] W fun e w' => e = .returned (.tuple #[.int .i64 (rowB d i p j q k).2.1, .int .i64 (rowB d i p j q k).2.2]) ∧ Below W.heap.size W w') := Lib.hid fun k W hk hW => refFrom_any _ d i p j q k W S (HL.out.below (rdLin_stable _) hW) hk
  go_enter Tryz.func35, Tryz.ntmps35
  go_wp2_with (first | (go_at_call 72; refine HC1.out.mono ?_; rintro e w2 ⟨rfl, hb2⟩; obtain ⟨q1, g1⟩ := blk (HB.out _ hb2).1; obtain ⟨q2, g2⟩ := blk (HB.out _ hb2).2) | fail | (go_at_call 73; refine (HCT.out _ (by assumption)).mono ?_; rintro e w3 ⟨rfl, hb3⟩; have hx3 : Below W1.heap.size W1 w3 := below_from (by assumption) hb3) | (go_at_call 12; refine (HO.out _ hx3).mono ?_; rintro e w4 ⟨v4, rfl, hv4, hb4⟩; obtain ⟨a4, c4, rfl⟩ := hv4.slice; have hx4 := below_from hx3 hb4; obtain ⟨q5, g5⟩ := blk (HB.out _ hx4).1; obtain ⟨q6, g6⟩ := blk (HB.out _ hx4).2))
  have hz3 := hx3.size
  have HV4 := Lib.hid (SliceR.stable (rdLin_stable true) hv4 (Keeps.refl _ _) (S' := fun b => W1.heap.size ≤ b) (fun b h _ => Nat.le_trans hz3 h))
  have hX4 := Lib.hid hx4
  have hc4 := hv4.len.2
  unfold maxLen at hc4
  clear hv4 hb4 hx3 hb3 hb2 p1 f1 p2 f2 q1 g1 q2 g2 q5 g5 q6 g6 hW1 hw1 HC1 HCT HO
  go_loopw [13] (fun z wr => ∃ k : Nat, i ≤ k ∧ k ≤ j + 1 ∧ z = .int .i64 k ∧ Hid (DocR true wr (fun b => W1.heap.size ≤ b) (.slice a4 d.length c4) (setRows C d (rowsTo d i p j q k))) ∧ Below W1.heap.size W1 wr) (fun z _ => j + 1 - (intOf z).toNat)
  case atStart => exact ⟨i, Nat.le_refl _, by omega, rfl, Lib.hid (by rw [rowsTo_nil]; exact HV4.out), hX4.out⟩
  case round =>
    obtain ⟨k, hk1, hk2, rfl, HOO, hb⟩ := hrel
    obtain ⟨p1, f1⟩ := blk (HB.out _ hb).1
    obtain ⟨p2, f2⟩ := blk (HB.out _ hb).2
    by_cases hlt : k ≤ j
    · obtain ⟨ln, hln, _⟩ := getOf d k (by omega)
      have hfl := HF.out.2 ln (List.mem_of_getElem? hln)
      obtain ⟨ln', hln', hft, htl⟩ := HOK.out k hk1 hlt
      have hln' : d[k]? = some ln' := hln'
      rw [hln] at hln'
      cases hln'
      have hst := setRows_step C (p := p) (j := j) (q := q) hk1 hln
      have HFK := Lib.hid (fun W hW => HFR.out k W (by omega) hW)
      obtain ⟨xf, hxf⟩ : ∃ z, (rowB d i p j q k).2.1 = z := ⟨_, rfl⟩
      obtain ⟨xt, hxt⟩ : ∃ z, (rowB d i p j q k).2.2 = z := ⟨_, rfl⟩
      rw [hxf, hxt] at HFK hft hst
      rw [hxt] at htl
      have HST := Lib.hid hst
      obtain ⟨va', vc', hve, hvc, hvm, hx⟩ := lins_shape HL.out
      cases hve
      obtain ⟨b1, o1, la, lc, ca, cc, rfl, hAk⟩ := hx k ln hln
      have HAK := Lib.hid hAk
      have hh : ∀ W, Below W1.heap.size W1 W → CelsR false W S (.slice ca ln.cells.length cc) ln.cells := fun W hW => (hAk.below hW).cellsR
      have HSET : Hid (∀ W, Below W1.heap.size W1 W → Calls Tryz.prog 75 #[.slice ca ln.cells.length cc, .int .i64 xf, .int .i64 xt, .int .i64 s, .int .i64 c] W (CellsSaid (C ln.cells xf xt) 0 W)) := Lib.hid fun W hW => by
        have hlk := HLK.out
        have := refCSet_any _ ln.cells xf xt s c W S false (hh W hW) hfl.2
        rw [eachC_ok hft htl] at this
        rw [← hC]
        exact this
      have hdk : k < d.length := by omega
      obtain ⟨b4, o4, cs4, he4, hsb, hg4, _⟩ := SliceR.cellAt HOO.out (i := k) (by have := HOO.out.len.1; omega)
      cases he4
      have hsb : W1.heap.size ≤ b4 := hsb
      obtain ⟨b4', o4', c4', la4, lc4, ca4, cc4, hve4, _, _, hA4, _, _, _⟩ := docOwn_at HOO.out hst.1
      rw [← HOO.out.len.1] at hve4
      cases hve4
      obtain ⟨hz4, _, _, _, k3, _, _⟩ := hA4
      have HG4 := Lib.hid (And.intro hg4 k3)
      unfold maxLen at hvm
      have i0 : (0 : Int) ≤ (k : Int) := Int.natCast_nonneg _
      have i1 : (k : Int) < (d.length : Int) := by omega
      clear hx hAk hln hxf hxt hfl hft htl hst hg4 k3 hh
      go_wp2_with (first
        | (go_at_call 74; refine (HFK.out _ hb).mono ?_; rintro e w5 ⟨rfl, hb5⟩; have hx5 := below_from hb hb5; obtain ⟨_, c0, c1, c2, c3, _, _⟩ := HAK.out.below hx5)
        | (go_at_call 75; refine (HSET.out _ hx5).mono ?_; intro e w6 hsaid; obtain ⟨v6, rfl, hv6, hb6⟩ := hsaid; obtain ⟨a6, c6, rfl⟩ := hv6.slice; have hx6 := below_from hx5 hb6; have hbr : Below wr.heap.size wr w6 := below_from hb5 hb6; have y4 := (hbr.cell (p := ⟨b4, o4 + k * 4 + 3, none⟩) hz4).trans HG4.out.2; have y4f := frozen_of_heap (k := o4 + k * 4 + 3) (heap_below hbr HG4.out.1); have HV6 := Lib.hid hv6; clear hv6))
      have hz5 := hx5.size
      have hv6' : CelsR true w6 (fun b => W1.heap.size ≤ b) (.slice a6 (C ln.cells xf xt).length c6) (C ln.cells xf xt) := SliceR.stable (rdOf_stable _) HV6.out (Keeps.refl _ _) (fun b h _ => Nat.le_trans hz5 h)
      have h6 := SliceR.set1 eltLine.tag (SliceR.below (rdLin_stable true) HOO.out hbr) HST.out.1 (j := 3) (x' := { ln with cells := C ln.cells xf xt }) (by decide) (.slice a6 (C ln.cells xf xt).length c6) (by
        rintro vs _ ⟨p', q', rfl, hp', hq'⟩
        exact ⟨p', _, rfl, hp', hv6'⟩)
      have H6 := Lib.hid h6
      clear h6 hv6'
      go_roundw
      case rel => exact ⟨k + 1, by omega, by omega, by go_num, Lib.hid (by rw [HST.out.2]; exact H6.out), hx6.setCell hsb _⟩
      case measure => simp [intOf]; omega
    · obtain rfl : k = j + 1 := by omega
      have HBB := Lib.hid hb
      clear hb
      go_wp2_with fail
      go_ret2
      unfold DocSaid
      rw [HR.out]
      exact ⟨_, rfl, SliceR.stable (rdLin_stable true) HOO.out (Keeps.refl _ _) (fun b h _ => Nat.le_trans hs1 h), H1.out.trans (HBB.out.mono hs1)⟩
set_option maxRecDepth 100000 in
set_option maxHeartbeats 8000000 in
theorem refDLink_any (v : Value) (d : Doc) (a b : Ps) (hr : List UInt8) (w : World) (S : Nat → Prop) (h : LinsR w S v d) (hs : Small d) (hf : Fits d) (hh0 : hr.length ≤ 1000000) :
    Calls Tryz.prog 37 #[v, posV a, posV b, .string ⟨hr.toArray⟩] w (DocSaid (linkD hr d a b) w) := by
  obtain ⟨W1, hW1, hB, hz, hA1, hA2⟩ := two_pos w (.int .i64 a.line) (.int .i64 a.col) (.int .i64 b.line) (.int .i64 b.col)
  have hv := h.below (rdLin_stable _) hB
  have HC1 := Lib.hid (refSpan_any v d a b W1 S hv hs)
  have HCT : Hid (∀ W, Below W1.heap.size W1 W → Calls Tryz.prog 73 #[v, posV a, posV b] W fun e w' => e = .returned (.int .i64 (cellsD d a b).length) ∧ Below W.heap.size W w') := Lib.hid fun W hW => refCount_any v d a b W S (hv.below (rdLin_stable _) hW) hs hf
  have HO : Hid (∀ W, Below W1.heap.size W1 W → Calls Tryz.prog 12 #[v] W fun e w' => ∃ v', e = .returned v' ∧ DocR true w' (fun b => W.heap.size ≤ b) v' d ∧ Below W.heap.size W w') := Lib.hid fun W hW => refOwnD_any v d W S (hv.below (rdLin_stable _) hW) hf
  have HB : Hid (∀ W, Below W1.heap.size W1 W → W.heap[w.heap.size]? = some (.cells #[.int .i64 a.line, .int .i64 a.col] 24) ∧ W.heap[w.heap.size + 1]? = some (.cells #[.int .i64 b.line, .int .i64 b.col] 24)) := Lib.hid fun W hW => ⟨heap_below hW hA1, heap_below hW hA2⟩
  have HP : Hid (∀ p : Ps, posV p = .agg #[.int .i64 p.line, .int .i64 p.col]) := Lib.hid fun _ => rfl
  have H1 := Lib.hid hB
  have HL := Lib.hid hv
  have HF := Lib.hid hf
  have hlen := hf.1
  have hs1 := hB.size
  have hw1 : Below W1.heap.size W1 W1 := Below.refl _ _
  obtain ⟨p1, f1⟩ := blk hA1
  obtain ⟨p2, f2⟩ := blk hA2
  obtain ⟨va, vc, rfl⟩ := h.slice
  clear h hs hf hA1 hA2 hB hv
  cases hsp : spanD d a b
  · have HR : Hid (linkD hr d a b = ([], 1)) := Lib.hid (by first | (unfold setD eachD; rw [hsp]; rfl) | (unfold linkD eachD; rw [hsp]; simp))
    rw [hsp] at HC1
    clear hsp
    rw [HP.out a, HP.out b] at HC1 ⊢
    go_enter Tryz.func37, Tryz.ntmps37
    go_wp2_with (go_at_call 72; refine HC1.out.mono ?_; rintro e w2 ⟨rfl, hb2⟩)
    go_ret2
    unfold DocSaid
    rw [HR.out]
    exact ⟨_, rfl, SliceR.nil _ _ _ _ _ _, H1.out.trans (hb2.mono hs1)⟩
  have HLL := Lib.hid (fun W => refLink_any ⟨hr.toArray⟩ W (by show hr.toArray.size ≤ _; simpa using hh0) : ∀ W, Calls Tryz.prog 79 #[.string ⟨hr.toArray⟩] W fun e w' => e = .returned (.bool (linkF hr)) ∧ Below W.heap.size W w')
  obtain ⟨lk, hlk⟩ : ∃ lk : Bool, linkF hr = lk := ⟨_, rfl⟩
  rw [hsp] at HC1
  cases lk
  · try exact absurd hlk (by decide)
    all_goals
      have HR : Hid (linkD hr d a b = ([], 1)) := Lib.hid (by unfold linkD; rw [hlk]; rfl)
      rw [hlk] at HLL
      clear hsp hlk
      rw [HP.out a, HP.out b] at HC1 ⊢
      go_enter Tryz.func37, Tryz.ntmps37
      go_wp2_with (first | (go_at_call 72; refine HC1.out.mono ?_; rintro e w2 ⟨rfl, hb2⟩) | (go_at_call 79; refine (HLL.out _).mono ?_; rintro e w8 ⟨rfl, hb8⟩; have hx8 := below_from hb2 hb8))
      go_ret2
      unfold DocSaid
      rw [HR.out]
      exact ⟨_, rfl, SliceR.nil _ _ _ _ _ _, H1.out.trans (hx8.mono hs1)⟩
  by_cases hc : cellsD d a b = []
  · have HR : Hid (linkD hr d a b = ([], 7)) := Lib.hid (by unfold linkD eachD; rw [if_pos hlk, if_pos hsp]; rw [if_pos hc])
    rw [hc] at HCT
    try rw [hlk] at HLL
    clear hsp hlk hc
    rw [HP.out a, HP.out b] at HC1 HCT ⊢
    go_enter Tryz.func37, Tryz.ntmps37
    go_wp2_with (first | (go_at_call 72; refine HC1.out.mono ?_; rintro e w2 ⟨rfl, hb2⟩; obtain ⟨q1, g1⟩ := blk (HB.out _ hb2).1; obtain ⟨q2, g2⟩ := blk (HB.out _ hb2).2) | (go_at_call 79; refine (HLL.out _).mono ?_; rintro e w8 ⟨rfl, hb8⟩; have hx8 := below_from hb2 hb8; obtain ⟨u1, v1⟩ := blk (HB.out _ hx8).1; obtain ⟨u2, v2⟩ := blk (HB.out _ hx8).2) | (go_at_call 73; refine (HCT.out _ (by assumption)).mono ?_; rintro e w3 ⟨rfl, hb3⟩; have hx3 : Below W1.heap.size W1 w3 := below_from (by assumption) hb3))
    go_ret2
    unfold DocSaid
    rw [HR.out]
    exact ⟨_, rfl, SliceR.nil _ _ _ _ _ _, H1.out.trans (hx3.mono hs1)⟩
  obtain ⟨nn, hnn⟩ : ∃ nn, (cellsD d a b).length = nn := ⟨_, rfl⟩
  have hn0 : (((nn : Nat) : Int) == 0) = false := by
    have : 0 < (cellsD d a b).length := List.length_pos_iff.2 hc
    simp; omega
  rw [hnn] at HCT
  obtain ⟨_, i, j, p, q, l, m, rfl, rfl, hl, hm, hp, hq, hij, hpq⟩ := span_at hsp
  have hjl := (List.getElem?_eq_some_iff.1 hm).1
  obtain ⟨C, hC⟩ : ∃ C : List Cel → Nat → Nat → List Cel, (fun cs i j => mapIn (setHref hr) i j cs) = C := ⟨_, rfl⟩
  have HR : Hid (linkD hr d ⟨i, p⟩ ⟨j, q⟩ = (setRows C d (rowsTo d i p j q (j + 1)), 0)) := Lib.hid (by unfold linkD eachD; rw [if_pos hlk, if_pos hsp]; rw [if_neg hc, hC]; rfl)
  have HOK : Hid (∀ k, i ≤ k → k ≤ j → RowOk d (rowB d i p j q k)) := Lib.hid fun k h1 h2 => rowB_ok hl hm hp hq hpq h1 h2
  try rw [hlk] at HLL
  have HLK := Lib.hid hlk
  clear hsp hl hm hp hq hpq hc hnn hlk
  rw [HP.out, HP.out] at HC1 HCT ⊢
  have HFR : Hid (∀ k W, k < d.length → Below W1.heap.size W1 W → Calls Tryz.prog 74 #[.slice va d.length vc, .agg #[.int .i64 i, .int .i64 p], .agg #[.int .i64 j, .int .i64 q], .int .i64 k] W fun e w' => e = .returned (.tuple #[.int .i64 (rowB d i p j q k).2.1, .int .i64 (rowB d i p j q k).2.2]) ∧ Below W.heap.size W w') := Lib.hid fun k W hk hW => refFrom_any _ d i p j q k W S (HL.out.below (rdLin_stable _) hW) hk
  go_enter Tryz.func37, Tryz.ntmps37
  go_wp2_with (first | (go_at_call 72; refine HC1.out.mono ?_; rintro e w2 ⟨rfl, hb2⟩; obtain ⟨q1, g1⟩ := blk (HB.out _ hb2).1; obtain ⟨q2, g2⟩ := blk (HB.out _ hb2).2) | (go_at_call 79; refine (HLL.out _).mono ?_; rintro e w8 ⟨rfl, hb8⟩; have hx8 := below_from hb2 hb8; obtain ⟨u1, v1⟩ := blk (HB.out _ hx8).1; obtain ⟨u2, v2⟩ := blk (HB.out _ hx8).2) | (go_at_call 73; refine (HCT.out _ (by assumption)).mono ?_; rintro e w3 ⟨rfl, hb3⟩; have hx3 : Below W1.heap.size W1 w3 := below_from (by assumption) hb3) | (go_at_call 12; refine (HO.out _ hx3).mono ?_; rintro e w4 ⟨v4, rfl, hv4, hb4⟩; obtain ⟨a4, c4, rfl⟩ := hv4.slice; have hx4 := below_from hx3 hb4; obtain ⟨q5, g5⟩ := blk (HB.out _ hx4).1; obtain ⟨q6, g6⟩ := blk (HB.out _ hx4).2))
  have hz3 := hx3.size
  have HV4 := Lib.hid (SliceR.stable (rdLin_stable true) hv4 (Keeps.refl _ _) (S' := fun b => W1.heap.size ≤ b) (fun b h _ => Nat.le_trans hz3 h))
  have hX4 := Lib.hid hx4
  have hc4 := hv4.len.2
  unfold maxLen at hc4
  clear hv4 hb4 hx3 hb3 hb2 p1 f1 p2 f2 q1 g1 q2 g2 q5 g5 q6 g6 hW1 hw1 HC1 HCT HO
  go_loopw [11] (fun z wr => ∃ k : Nat, i ≤ k ∧ k ≤ j + 1 ∧ z = .int .i64 k ∧ Hid (DocR true wr (fun b => W1.heap.size ≤ b) (.slice a4 d.length c4) (setRows C d (rowsTo d i p j q k))) ∧ Below W1.heap.size W1 wr) (fun z _ => j + 1 - (intOf z).toNat)
  case atStart => exact ⟨i, Nat.le_refl _, by omega, rfl, Lib.hid (by rw [rowsTo_nil]; exact HV4.out), hX4.out⟩
  case round =>
    obtain ⟨k, hk1, hk2, rfl, HOO, hb⟩ := hrel
    obtain ⟨p1, f1⟩ := blk (HB.out _ hb).1
    obtain ⟨p2, f2⟩ := blk (HB.out _ hb).2
    by_cases hlt : k ≤ j
    · obtain ⟨ln, hln, _⟩ := getOf d k (by omega)
      have hfl := HF.out.2 ln (List.mem_of_getElem? hln)
      obtain ⟨ln', hln', hft, htl⟩ := HOK.out k hk1 hlt
      have hln' : d[k]? = some ln' := hln'
      rw [hln] at hln'
      cases hln'
      have hst := setRows_step C (p := p) (j := j) (q := q) hk1 hln
      have HFK := Lib.hid (fun W hW => HFR.out k W (by omega) hW)
      obtain ⟨xf, hxf⟩ : ∃ z, (rowB d i p j q k).2.1 = z := ⟨_, rfl⟩
      obtain ⟨xt, hxt⟩ : ∃ z, (rowB d i p j q k).2.2 = z := ⟨_, rfl⟩
      rw [hxf, hxt] at HFK hft hst
      rw [hxt] at htl
      have HST := Lib.hid hst
      obtain ⟨va', vc', hve, hvc, hvm, hx⟩ := lins_shape HL.out
      cases hve
      obtain ⟨b1, o1, la, lc, ca, cc, rfl, hAk⟩ := hx k ln hln
      have HAK := Lib.hid hAk
      have hh : ∀ W, Below W1.heap.size W1 W → CelsR false W S (.slice ca ln.cells.length cc) ln.cells := fun W hW => (hAk.below hW).cellsR
      have HSET : Hid (∀ W, Below W1.heap.size W1 W → Calls Tryz.prog 80 #[.slice ca ln.cells.length cc, .int .i64 xf, .int .i64 xt, .string ⟨hr.toArray⟩] W (CellsSaid (C ln.cells xf xt) 0 W)) := Lib.hid fun W hW => by
        have hlk := HLK.out
        have := refCLinks_any _ ln.cells xf xt hr W S false (hh W hW) hfl.2 hh0
        rw [linkRC_ok hlk hft htl] at this
        rw [← hC]
        exact this
      have hdk : k < d.length := by omega
      obtain ⟨b4, o4, cs4, he4, hsb, hg4, _⟩ := SliceR.cellAt HOO.out (i := k) (by have := HOO.out.len.1; omega)
      cases he4
      have hsb : W1.heap.size ≤ b4 := hsb
      obtain ⟨b4', o4', c4', la4, lc4, ca4, cc4, hve4, _, _, hA4, _, _, _⟩ := docOwn_at HOO.out hst.1
      rw [← HOO.out.len.1] at hve4
      cases hve4
      obtain ⟨hz4, _, _, _, k3, _, _⟩ := hA4
      have HG4 := Lib.hid (And.intro hg4 k3)
      unfold maxLen at hvm
      have i0 : (0 : Int) ≤ (k : Int) := Int.natCast_nonneg _
      have i1 : (k : Int) < (d.length : Int) := by omega
      clear hx hAk hln hxf hxt hfl hft htl hst hg4 k3 hh
      go_wp2_with (first
        | (go_at_call 74; refine (HFK.out _ hb).mono ?_; rintro e w5 ⟨rfl, hb5⟩; have hx5 := below_from hb hb5; obtain ⟨_, c0, c1, c2, c3, _, _⟩ := HAK.out.below hx5)
        | (go_at_call 80; refine (HSET.out _ hx5).mono ?_; intro e w6 hsaid; obtain ⟨v6, rfl, hv6, hb6⟩ := hsaid; obtain ⟨a6, c6, rfl⟩ := hv6.slice; have hx6 := below_from hx5 hb6; have hbr : Below wr.heap.size wr w6 := below_from hb5 hb6; have y4 := (hbr.cell (p := ⟨b4, o4 + k * 4 + 3, none⟩) hz4).trans HG4.out.2; have y4f := frozen_of_heap (k := o4 + k * 4 + 3) (heap_below hbr HG4.out.1); have HV6 := Lib.hid hv6; clear hv6))
      have hz5 := hx5.size
      have hv6' : CelsR true w6 (fun b => W1.heap.size ≤ b) (.slice a6 (C ln.cells xf xt).length c6) (C ln.cells xf xt) := SliceR.stable (rdOf_stable _) HV6.out (Keeps.refl _ _) (fun b h _ => Nat.le_trans hz5 h)
      have h6 := SliceR.set1 eltLine.tag (SliceR.below (rdLin_stable true) HOO.out hbr) HST.out.1 (j := 3) (x' := { ln with cells := C ln.cells xf xt }) (by decide) (.slice a6 (C ln.cells xf xt).length c6) (by
        rintro vs _ ⟨p', q', rfl, hp', hq'⟩
        exact ⟨p', _, rfl, hp', hv6'⟩)
      have H6 := Lib.hid h6
      clear h6 hv6'
      go_roundw
      case rel => exact ⟨k + 1, by omega, by omega, by go_num, Lib.hid (by rw [HST.out.2]; exact H6.out), hx6.setCell hsb _⟩
      case measure => simp [intOf]; omega
    · obtain rfl : k = j + 1 := by omega
      have HBB := Lib.hid hb
      clear hb
      go_wp2_with fail
      go_ret2
      unfold DocSaid
      rw [HR.out]
      exact ⟨_, rfl, SliceR.stable (rdLin_stable true) HOO.out (Keeps.refl _ _) (fun b h _ => Nat.le_trans hs1 h), H1.out.trans (HBB.out.mono hs1)⟩
end Go.Proofs.YtfoiaoopbkcpoaaGreatDoor
