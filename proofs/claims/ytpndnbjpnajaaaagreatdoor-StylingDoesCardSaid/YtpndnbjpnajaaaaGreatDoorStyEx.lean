/- The walks of the reference's Set, Link of documents. -/
import Derived.Test.YtpndnbjpnajaaaaGreatDoorRefPart
import Derived.Test.YtpndnbjpnajaaaaGreatDoorStRefOwn
import Derived.Test.YtpndnbjpnajaaaaGreatDoorRefMay
import Derived.Test.YtpndnbjpnajaaaaGreatDoorRefChars
import Derived.Deep.RegionHeld3
import Derived.Deep.DrawnRows
import Derived.Lib.AppendZeros
import Derived.Test.YtpndnbjpnajaaaaGreatDoorLawPos
import Derived.Test.YtpndnbjpnajaaaaGreatDoorCells
import Derived.IntWalk
import Derived.Test.YtpndnbjpnajaaaaGreatDoorStyToggle
namespace Go.Proofs.Qw
open Go.RowKit Go.Proofs.YtpndnbjpnajaaaaGreatDoor
theorem setRows_before (C : List Cel → Nat → Nat → List Cel) (d : Doc) (i p j q : Nat) : ∀ (n m : Nat), i + n ≤ m → (setRows C d (rowsTo d i p j q (i + n)))[m]? = d[m]?
  | 0, m, _ => by rw [Nat.add_zero, rowsTo_nil]; rfl
  | n + 1, m, h => by
    have ih := setRows_before C d i p j q n m (by omega)
    rw [show i + (n + 1) = i + n + 1 by omega, rowsTo_step d (by omega), setRows_snoc]
    unfold setRow
    rw [List.getElem?_set_ne (by show ¬ i + n = m; omega)]
    exact ih
theorem setRows_step (C : List Cel → Nat → Nat → List Cel) {d : Doc} {i p j q k : Nat} {l : Lin} (h : i ≤ k) (hl : d[k]? = some l) :
    (setRows C d (rowsTo d i p j q k))[k]? = some l ∧ setRows C d (rowsTo d i p j q (k + 1)) = (setRows C d (rowsTo d i p j q k)).set k { l with cells := C l.cells (rowB d i p j q k).2.1 (rowB d i p j q k).2.2 } := by
  have hb := setRows_before C d i p j q (k - i) k (by omega)
  rw [show i + (k - i) = k by omega, hl] at hb
  refine ⟨hb, ?_⟩
  rw [rowsTo_step d h, setRows_snoc, setRow_at (x := rowB d i p j q k) hb]
  rfl
end Go.Proofs.Qw
namespace Go.Proofs.YtpndnbjpnajaaaaGreatDoor
open Go.RowKit
open Go.Proofs.Qw
theorem linkRC_ok {hr : List UInt8} {cs : List Cel} {i j : Nat} (hl : linkF hr = true) (hij : i ≤ j) (hj : j ≤ cs.length) : linkRC hr cs i j = (mapIn (setHref hr) i j cs, 0) := by
  unfold linkRC spanC
  rw [hl, if_pos (by simp; omega)]
  simp
set_option maxRecDepth 100000 in
set_option maxHeartbeats 8000000 in
theorem refDSet_any (v : Value) (d : Doc) (a b : Ps) (s c : Int) (w : World) (S : Nat → Prop) (h : LinsR w S v d) (hs : Small d) (hf : Fits d)  :
    Calls Tryz.prog 103 #[v, posV a, posV b, .int .i64 s, .int .i64 c] w (DocSaid (setD s c d a b) w) := by
  obtain ⟨W1, hW1, hB, hz, hA1, hA2⟩ := two_pos w (.int .i64 a.line) (.int .i64 a.col) (.int .i64 b.line) (.int .i64 b.col)
  have hv := h.below (rdLin_stable _) hB
  have HC1 := Lib.hid (refSpan_any v d a b W1 S hv hs)
  have HCT : Hid (∀ W, Below W1.heap.size W1 W → Calls Tryz.prog 175 #[v, posV a, posV b] W fun e w' => e = .returned (.int .i64 (cellsD d a b).length) ∧ Below W.heap.size W w') := Lib.hid fun W hW => refCount_any v d a b W S (hv.below (rdLin_stable _) hW) hs hf
  have HO : Hid (∀ W, Below W1.heap.size W1 W → Calls Tryz.prog 102 #[v] W fun e w' => ∃ v', e = .returned v' ∧ DocR true w' (fun b => W.heap.size ≤ b) v' d ∧ Below W.heap.size W w') := Lib.hid fun W hW => refOwnD_any v d W S (hv.below (rdLin_stable _) hW) hf
  have HB : Hid (∀ W, Below W1.heap.size W1 W → W.heap[w.heap.size]? = some (.cells #[.int .i64 a.line, .int .i64 a.col] 24) ∧ W.heap[w.heap.size + 1]? = some (.cells #[.int .i64 b.line, .int .i64 b.col] 24)) := Lib.hid fun W hW => ⟨heap_below hW hA1, heap_below hW hA2⟩
  have HP : Hid (∀ p : Ps, posV p = .agg #[.int .i64 p.line, .int .i64 p.col]) := Lib.hid fun _ => rfl
  have H1 := Lib.hid hB
  have HL := Lib.hid hv
  have HF := Lib.hid hf
  have hlen := hf.1
  have hs1 := hB.size
  have hw1 : Below W1.heap.size W1 W1 := Below.refl _ _
  obtain ⟨p1, f1⟩ := blk hA1
  obtain ⟨p2, f2⟩ := blk hA2
  obtain ⟨va, vc, rfl⟩ := h.slice
  clear h hs hf hA1 hA2 hB hv
  cases hsp : spanD d a b
  · have HR : Hid (setD s c d a b = ([], 1)) := Lib.hid (by first | (unfold setD eachD; rw [hsp]; rfl) | (unfold linkD eachD; rw [hsp]; simp))
    rw [hsp] at HC1
    clear hsp
    rw [HP.out a, HP.out b] at HC1 ⊢
    go_enter Tryz.func103, Tryz.ntmps103
    go_wp2_with (go_at_call 174; refine HC1.out.mono ?_; rintro e w2 ⟨rfl, hb2⟩)
    go_ret2
    unfold DocSaid
    rw [HR.out]
    exact ⟨_, rfl, SliceR.nil _ _ _ _ _ _, H1.out.trans (hb2.mono hs1)⟩
  have HLL := Lib.hid trivial
  obtain ⟨lk, hlk⟩ : ∃ lk : Bool, true = lk := ⟨_, rfl⟩
  rw [hsp] at HC1
  cases lk
  · try exact absurd hlk (by decide)
    all_goals
      have HR : Hid (setD s c d a b = ([], 1)) := Lib.hid (by unfold linkD; rw [hlk]; rfl)
      rw [hlk] at HLL
      clear hsp hlk
      rw [HP.out a, HP.out b] at HC1 ⊢
      go_enter Tryz.func103, Tryz.ntmps103
      go_wp2_with (first | (go_at_call 174; refine HC1.out.mono ?_; rintro e w2 ⟨rfl, hb2⟩) | (go_at_call 179; refine (HLL.out _).mono ?_; rintro e w8 ⟨rfl, hb8⟩; have hx8 := below_from hb2 hb8))
      go_ret2
      unfold DocSaid
      rw [HR.out]
      exact ⟨_, rfl, SliceR.nil _ _ _ _ _ _, H1.out.trans (hx8.mono hs1)⟩
  by_cases hc : cellsD d a b = []
  · have HR : Hid (setD s c d a b = ([], 7)) := Lib.hid (by unfold setD eachD; rw [if_pos hsp]; rw [if_pos hc])
    rw [hc] at HCT
    try rw [hlk] at HLL
    clear hsp hlk hc
    rw [HP.out a, HP.out b] at HC1 HCT ⊢
    go_enter Tryz.func103, Tryz.ntmps103
    go_wp2_with (first | (go_at_call 174; refine HC1.out.mono ?_; rintro e w2 ⟨rfl, hb2⟩; obtain ⟨q1, g1⟩ := blk (HB.out _ hb2).1; obtain ⟨q2, g2⟩ := blk (HB.out _ hb2).2) | fail | (go_at_call 175; refine (HCT.out _ (by assumption)).mono ?_; rintro e w3 ⟨rfl, hb3⟩; have hx3 : Below W1.heap.size W1 w3 := below_from (by assumption) hb3))
    go_ret2
    unfold DocSaid
    rw [HR.out]
    exact ⟨_, rfl, SliceR.nil _ _ _ _ _ _, H1.out.trans (hx3.mono hs1)⟩
  obtain ⟨nn, hnn⟩ : ∃ nn, (cellsD d a b).length = nn := ⟨_, rfl⟩
  have hn0 : (((nn : Nat) : Int) == 0) = false := by
    have : 0 < (cellsD d a b).length := List.length_pos_iff.2 hc
    simp; omega
  rw [hnn] at HCT
  obtain ⟨_, i, j, p, q, l, m, rfl, rfl, hl, hm, hp, hq, hij, hpq⟩ := span_at hsp
  have hjl := (List.getElem?_eq_some_iff.1 hm).1
  obtain ⟨C, hC⟩ : ∃ C : List Cel → Nat → Nat → List Cel, (fun cs i j => mapIn (setBits s c) i j cs) = C := ⟨_, rfl⟩
  have HR : Hid (setD s c d ⟨i, p⟩ ⟨j, q⟩ = (setRows C d (rowsTo d i p j q (j + 1)), 0)) := Lib.hid (by unfold setD eachD; rw [if_pos hsp]; rw [if_neg hc, hC]; rfl)
  have HOK : Hid (∀ k, i ≤ k → k ≤ j → RowOk d (rowB d i p j q k)) := Lib.hid fun k h1 h2 => rowB_ok hl hm hp hq hpq h1 h2
  try rw [hlk] at HLL
  have HLK := Lib.hid hlk
  clear hsp hl hm hp hq hpq hc hnn hlk
  rw [HP.out, HP.out] at HC1 HCT ⊢
  have HFR : Hid (∀ k W, k < d.length → Below W1.heap.size W1 W → Calls Tryz.prog 176 #[.slice va d.length vc, .agg #[.int .i64 i, .int .i64 p], .agg #[.int .i64 j, .int .i64 q], .int .i64 k] W fun e w' => e = .returned (.tuple #[.int .i64 (rowB d i p j q k).2.1, .int .i64 (rowB d i p j q k).2.2]) ∧ Below W.heap.size W w') := Lib.hid fun k W hk hW => refFrom_any _ d i p j q k W S (HL.out.below (rdLin_stable _) hW) hk
  go_enter Tryz.func103, Tryz.ntmps103
  go_wp2_with (first | (go_at_call 174; refine HC1.out.mono ?_; rintro e w2 ⟨rfl, hb2⟩; obtain ⟨q1, g1⟩ := blk (HB.out _ hb2).1; obtain ⟨q2, g2⟩ := blk (HB.out _ hb2).2) | fail | (go_at_call 175; refine (HCT.out _ (by assumption)).mono ?_; rintro e w3 ⟨rfl, hb3⟩; have hx3 : Below W1.heap.size W1 w3 := below_from (by assumption) hb3) | (go_at_call 102; refine (HO.out _ hx3).mono ?_; rintro e w4 ⟨v4, rfl, hv4, hb4⟩; obtain ⟨a4, c4, rfl⟩ := hv4.slice; have hx4 := below_from hx3 hb4; obtain ⟨q5, g5⟩ := blk (HB.out _ hx4).1; obtain ⟨q6, g6⟩ := blk (HB.out _ hx4).2))
  have hz3 := hx3.size
  have HV4 := Lib.hid (SliceR.stable (rdLin_stable true) hv4 (Keeps.refl _ _) (S' := fun b => W1.heap.size ≤ b) (fun b h _ => Nat.le_trans hz3 h))
  have hX4 := Lib.hid hx4
  have hc4 := hv4.len.2
  unfold maxLen at hc4
  clear hv4 hb4 hx3 hb3 hb2 p1 f1 p2 f2 q1 g1 q2 g2 q5 g5 q6 g6 hW1 hw1 HC1 HCT HO
  go_loopw [13] (fun z wr => ∃ k : Nat, i ≤ k ∧ k ≤ j + 1 ∧ z = .int .i64 k ∧ Hid (DocR true wr (fun b => W1.heap.size ≤ b) (.slice a4 d.length c4) (setRows C d (rowsTo d i p j q k))) ∧ Below W1.heap.size W1 wr) (fun z _ => j + 1 - (intOf z).toNat)
  case atStart => exact ⟨i, Nat.le_refl _, by omega, rfl, Lib.hid (by rw [rowsTo_nil]; exact HV4.out), hX4.out⟩
  case round =>
    obtain ⟨k, hk1, hk2, rfl, HOO, hb⟩ := hrel
    obtain ⟨p1, f1⟩ := blk (HB.out _ hb).1
    obtain ⟨p2, f2⟩ := blk (HB.out _ hb).2
    by_cases hlt : k ≤ j
    · obtain ⟨ln, hln, _⟩ := getOf d k (by omega)
      have hfl := HF.out.2 ln (List.mem_of_getElem? hln)
      obtain ⟨ln', hln', hft, htl⟩ := HOK.out k hk1 hlt
      have hln' : d[k]? = some ln' := hln'
      rw [hln] at hln'
      cases hln'
      have hst := setRows_step C (p := p) (j := j) (q := q) hk1 hln
      have HFK := Lib.hid (fun W hW => HFR.out k W (by omega) hW)
      obtain ⟨xf, hxf⟩ : ∃ z, (rowB d i p j q k).2.1 = z := ⟨_, rfl⟩
      obtain ⟨xt, hxt⟩ : ∃ z, (rowB d i p j q k).2.2 = z := ⟨_, rfl⟩
      rw [hxf, hxt] at HFK hft hst
      rw [hxt] at htl
      have HST := Lib.hid hst
      obtain ⟨va', vc', hve, hvc, hvm, hx⟩ := lins_shape HL.out
      cases hve
      obtain ⟨b1, o1, la, lc, ca, cc, rfl, hAk⟩ := hx k ln hln
      have HAK := Lib.hid hAk
      have hh : ∀ W, Below W1.heap.size W1 W → CelsR false W S (.slice ca ln.cells.length cc) ln.cells := fun W hW => (hAk.below hW).cellsR
      have HSET : Hid (∀ W, Below W1.heap.size W1 W → Calls Tryz.prog 177 #[.slice ca ln.cells.length cc, .int .i64 xf, .int .i64 xt, .int .i64 s, .int .i64 c] W (CellsSaid (C ln.cells xf xt) 0 W)) := Lib.hid fun W hW => by
        have hlk := HLK.out
        have := refCSet_any _ ln.cells xf xt s c W S false (hh W hW) hfl.2
        rw [eachC_ok hft htl] at this
        rw [← hC]
        exact this
      have hdk : k < d.length := by omega
      obtain ⟨b4, o4, cs4, he4, hsb, hg4, _⟩ := SliceR.cellAt HOO.out (i := k) (by have := HOO.out.len.1; omega)
      cases he4
      have hsb : W1.heap.size ≤ b4 := hsb
      obtain ⟨b4', o4', c4', la4, lc4, ca4, cc4, hve4, _, _, hA4, _, _, _⟩ := docOwn_at HOO.out hst.1
      rw [← HOO.out.len.1] at hve4
      cases hve4
      obtain ⟨hz4, _, _, _, k3, _, _⟩ := hA4
      have HG4 := Lib.hid (And.intro hg4 k3)
      unfold maxLen at hvm
      have i0 : (0 : Int) ≤ (k : Int) := Int.natCast_nonneg _
      have i1 : (k : Int) < (d.length : Int) := by omega
      clear hx hAk hln hxf hxt hfl hft htl hst hg4 k3 hh
      go_wp2_with (first
        | (go_at_call 176; refine (HFK.out _ hb).mono ?_; rintro e w5 ⟨rfl, hb5⟩; have hx5 := below_from hb hb5; obtain ⟨_, c0, c1, c2, c3, _, _⟩ := HAK.out.below hx5)
        | (go_at_call 177; refine (HSET.out _ hx5).mono ?_; intro e w6 hsaid; obtain ⟨v6, rfl, hv6, hb6⟩ := hsaid; obtain ⟨a6, c6, rfl⟩ := hv6.slice; have hx6 := below_from hx5 hb6; have hbr : Below wr.heap.size wr w6 := below_from hb5 hb6; have y4 := (hbr.cell (p := ⟨b4, o4 + k * 4 + 3, none⟩) hz4).trans HG4.out.2; have y4f := frozen_of_heap (k := o4 + k * 4 + 3) (heap_below hbr HG4.out.1); have HV6 := Lib.hid hv6; clear hv6))
      have hz5 := hx5.size
      have hv6' : CelsR true w6 (fun b => W1.heap.size ≤ b) (.slice a6 (C ln.cells xf xt).length c6) (C ln.cells xf xt) := SliceR.stable (rdOf_stable _) HV6.out (Keeps.refl _ _) (fun b h _ => Nat.le_trans hz5 h)
      have h6 := SliceR.set1 eltLine.tag (SliceR.below (rdLin_stable true) HOO.out hbr) HST.out.1 (j := 3) (x' := { ln with cells := C ln.cells xf xt }) (by decide) (.slice a6 (C ln.cells xf xt).length c6) (by
        rintro vs _ ⟨p', q', rfl, hp', hq'⟩
        exact ⟨p', _, rfl, hp', hv6'⟩)
      have H6 := Lib.hid h6
      clear h6 hv6'
      go_roundw
      case rel => exact ⟨k + 1, by omega, by omega, by go_num, Lib.hid (by rw [HST.out.2]; exact H6.out), hx6.setCell hsb _⟩
      case measure => simp [intOf]; omega
    · obtain rfl : k = j + 1 := by omega
      have HBB := Lib.hid hb
      clear hb
      go_wp2_with fail
      go_ret2
      unfold DocSaid
      rw [HR.out]
      exact ⟨_, rfl, SliceR.stable (rdLin_stable true) HOO.out (Keeps.refl _ _) (fun b h _ => Nat.le_trans hs1 h), H1.out.trans (HBB.out.mono hs1)⟩
set_option maxRecDepth 100000 in
set_option maxHeartbeats 8000000 in
theorem refDLink_any (v : Value) (d : Doc) (a b : Ps) (hr : List UInt8) (w : World) (S : Nat → Prop) (h : LinsR w S v d) (hs : Small d) (hf : Fits d) (hh0 : hr.length ≤ 1000000) :
    Calls Tryz.prog 106 #[v, posV a, posV b, .string ⟨hr.toArray⟩] w (DocSaid (linkD hr d a b) w) := by
  obtain ⟨W1, hW1, hB, hz, hA1, hA2⟩ := two_pos w (.int .i64 a.line) (.int .i64 a.col) (.int .i64 b.line) (.int .i64 b.col)
  have hv := h.below (rdLin_stable _) hB
  have HC1 := Lib.hid (refSpan_any v d a b W1 S hv hs)
  have HCT : Hid (∀ W, Below W1.heap.size W1 W → Calls Tryz.prog 175 #[v, posV a, posV b] W fun e w' => e = .returned (.int .i64 (cellsD d a b).length) ∧ Below W.heap.size W w') := Lib.hid fun W hW => refCount_any v d a b W S (hv.below (rdLin_stable _) hW) hs hf
  have HO : Hid (∀ W, Below W1.heap.size W1 W → Calls Tryz.prog 102 #[v] W fun e w' => ∃ v', e = .returned v' ∧ DocR true w' (fun b => W.heap.size ≤ b) v' d ∧ Below W.heap.size W w') := Lib.hid fun W hW => refOwnD_any v d W S (hv.below (rdLin_stable _) hW) hf
  have HB : Hid (∀ W, Below W1.heap.size W1 W → W.heap[w.heap.size]? = some (.cells #[.int .i64 a.line, .int .i64 a.col] 24) ∧ W.heap[w.heap.size + 1]? = some (.cells #[.int .i64 b.line, .int .i64 b.col] 24)) := Lib.hid fun W hW => ⟨heap_below hW hA1, heap_below hW hA2⟩
  have HP : Hid (∀ p : Ps, posV p = .agg #[.int .i64 p.line, .int .i64 p.col]) := Lib.hid fun _ => rfl
  have H1 := Lib.hid hB
  have HL := Lib.hid hv
  have HF := Lib.hid hf
  have hlen := hf.1
  have hs1 := hB.size
  have hw1 : Below W1.heap.size W1 W1 := Below.refl _ _
  obtain ⟨p1, f1⟩ := blk hA1
  obtain ⟨p2, f2⟩ := blk hA2
  obtain ⟨va, vc, rfl⟩ := h.slice
  clear h hs hf hA1 hA2 hB hv
  cases hsp : spanD d a b
  · have HR : Hid (linkD hr d a b = ([], 1)) := Lib.hid (by first | (unfold setD eachD; rw [hsp]; rfl) | (unfold linkD eachD; rw [hsp]; simp))
    rw [hsp] at HC1
    clear hsp
    rw [HP.out a, HP.out b] at HC1 ⊢
    go_enter Tryz.func106, Tryz.ntmps106
    go_wp2_with (go_at_call 174; refine HC1.out.mono ?_; rintro e w2 ⟨rfl, hb2⟩)
    go_ret2
    unfold DocSaid
    rw [HR.out]
    exact ⟨_, rfl, SliceR.nil _ _ _ _ _ _, H1.out.trans (hb2.mono hs1)⟩
  have HLL := Lib.hid (fun W => refLink_any ⟨hr.toArray⟩ W (by show hr.toArray.size ≤ _; simpa using hh0) : ∀ W, Calls Tryz.prog 179 #[.string ⟨hr.toArray⟩] W fun e w' => e = .returned (.bool (linkF hr)) ∧ Below W.heap.size W w')
  obtain ⟨lk, hlk⟩ : ∃ lk : Bool, linkF hr = lk := ⟨_, rfl⟩
  rw [hsp] at HC1
  cases lk
  · try exact absurd hlk (by decide)
    all_goals
      have HR : Hid (linkD hr d a b = ([], 1)) := Lib.hid (by unfold linkD; rw [hlk]; rfl)
      rw [hlk] at HLL
      clear hsp hlk
      rw [HP.out a, HP.out b] at HC1 ⊢
      go_enter Tryz.func106, Tryz.ntmps106
      go_wp2_with (first | (go_at_call 174; refine HC1.out.mono ?_; rintro e w2 ⟨rfl, hb2⟩) | (go_at_call 179; refine (HLL.out _).mono ?_; rintro e w8 ⟨rfl, hb8⟩; have hx8 := below_from hb2 hb8))
      go_ret2
      unfold DocSaid
      rw [HR.out]
      exact ⟨_, rfl, SliceR.nil _ _ _ _ _ _, H1.out.trans (hx8.mono hs1)⟩
  by_cases hc : cellsD d a b = []
  · have HR : Hid (linkD hr d a b = ([], 7)) := Lib.hid (by unfold linkD eachD; rw [if_pos hlk, if_pos hsp]; rw [if_pos hc])
    rw [hc] at HCT
    try rw [hlk] at HLL
    clear hsp hlk hc
    rw [HP.out a, HP.out b] at HC1 HCT ⊢
    go_enter Tryz.func106, Tryz.ntmps106
    go_wp2_with (first | (go_at_call 174; refine HC1.out.mono ?_; rintro e w2 ⟨rfl, hb2⟩; obtain ⟨q1, g1⟩ := blk (HB.out _ hb2).1; obtain ⟨q2, g2⟩ := blk (HB.out _ hb2).2) | (go_at_call 179; refine (HLL.out _).mono ?_; rintro e w8 ⟨rfl, hb8⟩; have hx8 := below_from hb2 hb8; obtain ⟨u1, v1⟩ := blk (HB.out _ hx8).1; obtain ⟨u2, v2⟩ := blk (HB.out _ hx8).2) | (go_at_call 175; refine (HCT.out _ (by assumption)).mono ?_; rintro e w3 ⟨rfl, hb3⟩; have hx3 : Below W1.heap.size W1 w3 := below_from (by assumption) hb3))
    go_ret2
    unfold DocSaid
    rw [HR.out]
    exact ⟨_, rfl, SliceR.nil _ _ _ _ _ _, H1.out.trans (hx3.mono hs1)⟩
  obtain ⟨nn, hnn⟩ : ∃ nn, (cellsD d a b).length = nn := ⟨_, rfl⟩
  have hn0 : (((nn : Nat) : Int) == 0) = false := by
    have : 0 < (cellsD d a b).length := List.length_pos_iff.2 hc
    simp; omega
  rw [hnn] at HCT
  obtain ⟨_, i, j, p, q, l, m, rfl, rfl, hl, hm, hp, hq, hij, hpq⟩ := span_at hsp
  have hjl := (List.getElem?_eq_some_iff.1 hm).1
  obtain ⟨C, hC⟩ : ∃ C : List Cel → Nat → Nat → List Cel, (fun cs i j => mapIn (setHref hr) i j cs) = C := ⟨_, rfl⟩
  have HR : Hid (linkD hr d ⟨i, p⟩ ⟨j, q⟩ = (setRows C d (rowsTo d i p j q (j + 1)), 0)) := Lib.hid (by unfold linkD eachD; rw [if_pos hlk, if_pos hsp]; rw [if_neg hc, hC]; rfl)
  have HOK : Hid (∀ k, i ≤ k → k ≤ j → RowOk d (rowB d i p j q k)) := Lib.hid fun k h1 h2 => rowB_ok hl hm hp hq hpq h1 h2
  try rw [hlk] at HLL
  have HLK := Lib.hid hlk
  clear hsp hl hm hp hq hpq hc hnn hlk
  rw [HP.out, HP.out] at HC1 HCT ⊢
  have HFR : Hid (∀ k W, k < d.length → Below W1.heap.size W1 W → Calls Tryz.prog 176 #[.slice va d.length vc, .agg #[.int .i64 i, .int .i64 p], .agg #[.int .i64 j, .int .i64 q], .int .i64 k] W fun e w' => e = .returned (.tuple #[.int .i64 (rowB d i p j q k).2.1, .int .i64 (rowB d i p j q k).2.2]) ∧ Below W.heap.size W w') := Lib.hid fun k W hk hW => refFrom_any _ d i p j q k W S (HL.out.below (rdLin_stable _) hW) hk
  go_enter Tryz.func106, Tryz.ntmps106
  go_wp2_with (first | (go_at_call 174; refine HC1.out.mono ?_; rintro e w2 ⟨rfl, hb2⟩; obtain ⟨q1, g1⟩ := blk (HB.out _ hb2).1; obtain ⟨q2, g2⟩ := blk (HB.out _ hb2).2) | (go_at_call 179; refine (HLL.out _).mono ?_; rintro e w8 ⟨rfl, hb8⟩; have hx8 := below_from hb2 hb8; obtain ⟨u1, v1⟩ := blk (HB.out _ hx8).1; obtain ⟨u2, v2⟩ := blk (HB.out _ hx8).2) | (go_at_call 175; refine (HCT.out _ (by assumption)).mono ?_; rintro e w3 ⟨rfl, hb3⟩; have hx3 : Below W1.heap.size W1 w3 := below_from (by assumption) hb3) | (go_at_call 102; refine (HO.out _ hx3).mono ?_; rintro e w4 ⟨v4, rfl, hv4, hb4⟩; obtain ⟨a4, c4, rfl⟩ := hv4.slice; have hx4 := below_from hx3 hb4; obtain ⟨q5, g5⟩ := blk (HB.out _ hx4).1; obtain ⟨q6, g6⟩ := blk (HB.out _ hx4).2))
  have hz3 := hx3.size
  have HV4 := Lib.hid (SliceR.stable (rdLin_stable true) hv4 (Keeps.refl _ _) (S' := fun b => W1.heap.size ≤ b) (fun b h _ => Nat.le_trans hz3 h))
  have hX4 := Lib.hid hx4
  have hc4 := hv4.len.2
  unfold maxLen at hc4
  clear hv4 hb4 hx3 hb3 hb2 p1 f1 p2 f2 q1 g1 q2 g2 q5 g5 q6 g6 hW1 hw1 HC1 HCT HO
  go_loopw [11] (fun z wr => ∃ k : Nat, i ≤ k ∧ k ≤ j + 1 ∧ z = .int .i64 k ∧ Hid (DocR true wr (fun b => W1.heap.size ≤ b) (.slice a4 d.length c4) (setRows C d (rowsTo d i p j q k))) ∧ Below W1.heap.size W1 wr) (fun z _ => j + 1 - (intOf z).toNat)
  case atStart => exact ⟨i, Nat.le_refl _, by omega, rfl, Lib.hid (by rw [rowsTo_nil]; exact HV4.out), hX4.out⟩
  case round =>
    obtain ⟨k, hk1, hk2, rfl, HOO, hb⟩ := hrel
    obtain ⟨p1, f1⟩ := blk (HB.out _ hb).1
    obtain ⟨p2, f2⟩ := blk (HB.out _ hb).2
    by_cases hlt : k ≤ j
    · obtain ⟨ln, hln, _⟩ := getOf d k (by omega)
      have hfl := HF.out.2 ln (List.mem_of_getElem? hln)
      obtain ⟨ln', hln', hft, htl⟩ := HOK.out k hk1 hlt
      have hln' : d[k]? = some ln' := hln'
      rw [hln] at hln'
      cases hln'
      have hst := setRows_step C (p := p) (j := j) (q := q) hk1 hln
      have HFK := Lib.hid (fun W hW => HFR.out k W (by omega) hW)
      obtain ⟨xf, hxf⟩ : ∃ z, (rowB d i p j q k).2.1 = z := ⟨_, rfl⟩
      obtain ⟨xt, hxt⟩ : ∃ z, (rowB d i p j q k).2.2 = z := ⟨_, rfl⟩
      rw [hxf, hxt] at HFK hft hst
      rw [hxt] at htl
      have HST := Lib.hid hst
      obtain ⟨va', vc', hve, hvc, hvm, hx⟩ := lins_shape HL.out
      cases hve
      obtain ⟨b1, o1, la, lc, ca, cc, rfl, hAk⟩ := hx k ln hln
      have HAK := Lib.hid hAk
      have hh : ∀ W, Below W1.heap.size W1 W → CelsR false W S (.slice ca ln.cells.length cc) ln.cells := fun W hW => (hAk.below hW).cellsR
      have HSET : Hid (∀ W, Below W1.heap.size W1 W → Calls Tryz.prog 180 #[.slice ca ln.cells.length cc, .int .i64 xf, .int .i64 xt, .string ⟨hr.toArray⟩] W (CellsSaid (C ln.cells xf xt) 0 W)) := Lib.hid fun W hW => by
        have hlk := HLK.out
        have := refCLinks_any _ ln.cells xf xt hr W S false (hh W hW) hfl.2 hh0
        rw [linkRC_ok hlk hft htl] at this
        rw [← hC]
        exact this
      have hdk : k < d.length := by omega
      obtain ⟨b4, o4, cs4, he4, hsb, hg4, _⟩ := SliceR.cellAt HOO.out (i := k) (by have := HOO.out.len.1; omega)
      cases he4
      have hsb : W1.heap.size ≤ b4 := hsb
      obtain ⟨b4', o4', c4', la4, lc4, ca4, cc4, hve4, _, _, hA4, _, _, _⟩ := docOwn_at HOO.out hst.1
      rw [← HOO.out.len.1] at hve4
      cases hve4
      obtain ⟨hz4, _, _, _, k3, _, _⟩ := hA4
      have HG4 := Lib.hid (And.intro hg4 k3)
      unfold maxLen at hvm
      have i0 : (0 : Int) ≤ (k : Int) := Int.natCast_nonneg _
      have i1 : (k : Int) < (d.length : Int) := by omega
      clear hx hAk hln hxf hxt hfl hft htl hst hg4 k3 hh
      go_wp2_with (first
        | (go_at_call 176; refine (HFK.out _ hb).mono ?_; rintro e w5 ⟨rfl, hb5⟩; have hx5 := below_from hb hb5; obtain ⟨_, c0, c1, c2, c3, _, _⟩ := HAK.out.below hx5)
        | (go_at_call 180; refine (HSET.out _ hx5).mono ?_; intro e w6 hsaid; obtain ⟨v6, rfl, hv6, hb6⟩ := hsaid; obtain ⟨a6, c6, rfl⟩ := hv6.slice; have hx6 := below_from hx5 hb6; have hbr : Below wr.heap.size wr w6 := below_from hb5 hb6; have y4 := (hbr.cell (p := ⟨b4, o4 + k * 4 + 3, none⟩) hz4).trans HG4.out.2; have y4f := frozen_of_heap (k := o4 + k * 4 + 3) (heap_below hbr HG4.out.1); have HV6 := Lib.hid hv6; clear hv6))
      have hz5 := hx5.size
      have hv6' : CelsR true w6 (fun b => W1.heap.size ≤ b) (.slice a6 (C ln.cells xf xt).length c6) (C ln.cells xf xt) := SliceR.stable (rdOf_stable _) HV6.out (Keeps.refl _ _) (fun b h _ => Nat.le_trans hz5 h)
      have h6 := SliceR.set1 eltLine.tag (SliceR.below (rdLin_stable true) HOO.out hbr) HST.out.1 (j := 3) (x' := { ln with cells := C ln.cells xf xt }) (by decide) (.slice a6 (C ln.cells xf xt).length c6) (by
        rintro vs _ ⟨p', q', rfl, hp', hq'⟩
        exact ⟨p', _, rfl, hp', hv6'⟩)
      have H6 := Lib.hid h6
      clear h6 hv6'
      go_roundw
      case rel => exact ⟨k + 1, by omega, by omega, by go_num, Lib.hid (by rw [HST.out.2]; exact H6.out), hx6.setCell hsb _⟩
      case measure => simp [intOf]; omega
    · obtain rfl : k = j + 1 := by omega
      have HBB := Lib.hid hb
      clear hb
      go_wp2_with fail
      go_ret2
      unfold DocSaid
      rw [HR.out]
      exact ⟨_, rfl, SliceR.stable (rdLin_stable true) HOO.out (Keeps.refl _ _) (fun b h _ => Nat.le_trans hs1 h), H1.out.trans (HBB.out.mono hs1)⟩
end Go.Proofs.YtpndnbjpnajaaaaGreatDoor
namespace Go.Proofs.Qw
open Go.RowKit Go.Proofs.YtpndnbjpnajaaaaGreatDoor
def flat (d : Doc) : List Cel := d.flatMap (·.cells)
theorem flatc_len (d : Doc) : (flat d).length = sizeD d := by unfold flat sizeD; rw [List.length_flatMap]
theorem mayL_has {l : Lin} (h : mayL l = true) : mayCs l.cells = true := by
  unfold mayL at h
  simp only [Bool.and_eq_true] at h
  exact h.2
theorem mayD_iff {d : Doc} : mayD d = true ↔ 1 ≤ d.length ∧ d.length ≤ 200 ∧ (flat d).length ≤ 4000 ∧ ∀ l ∈ d, mayL l = true := by
  unfold mayD
  simp only [Bool.and_eq_true, decide_eq_true_eq, List.all_eq_true, flatc_len]
  exact ⟨fun ⟨⟨⟨a, b⟩, c⟩, e⟩ => ⟨a, b, c, e⟩, fun ⟨a, b, c, e⟩ => ⟨⟨⟨a, b⟩, c⟩, e⟩⟩
theorem mem_of_at {d : Doc} {i : Nat} {l : Lin} (h : d[i]? = some l) : l ∈ d := List.mem_of_getElem? h
end Go.Proofs.Qw
namespace Go.Proofs.Qw
open Go.RowKit Go.Proofs.YtpndnbjpnajaaaaGreatDoor
theorem bits_fin (x s c : Int) (hx : 0 ≤ x ∧ x ≤ 15) (hs : 0 ≤ s ∧ s ≤ 15) (hc : 0 ≤ c ∧ c ≤ 15) :
    bits .and .i64 s 15 = s ∧ (0 ≤ bits .or .i64 (bits .andNot .i64 x c) s ∧ bits .or .i64 (bits .andNot .i64 x c) s ≤ 15) ∧ bits .and .i64 (bits .or .i64 (bits .andNot .i64 x c) s) s = s ∧ bits .and .i64 (bits .or .i64 (bits .andNot .i64 x c) s) (bits .andNot .i64 c s) = 0 := by
  obtain ⟨x, rfl⟩ := Int.eq_ofNat_of_zero_le hx.1
  obtain ⟨s, rfl⟩ := Int.eq_ofNat_of_zero_le hs.1
  obtain ⟨c, rfl⟩ := Int.eq_ofNat_of_zero_le hc.1
  have H : ∀ x s c : Fin 16, bits .and .i64 (s.val : Int) 15 = s.val ∧ (0 ≤ bits .or .i64 (bits .andNot .i64 (x.val : Int) c.val) s.val ∧ bits .or .i64 (bits .andNot .i64 (x.val : Int) c.val) s.val ≤ 15) ∧ bits .and .i64 (bits .or .i64 (bits .andNot .i64 (x.val : Int) c.val) s.val) s.val = s.val ∧ bits .and .i64 (bits .or .i64 (bits .andNot .i64 (x.val : Int) c.val) s.val) (bits .andNot .i64 (c.val : Int) s.val) = 0 := by decide +kernel
  exact H ⟨x, by omega⟩ ⟨s, by omega⟩ ⟨c, by omega⟩
end Go.Proofs.Qw
namespace Go.Proofs.Qw
open Go.RowKit Go.Proofs.YtpndnbjpnajaaaaGreatDoor
def stripC (c : Cel) : Cel := ⟨c.r, 0, []⟩
def stripL (l : Lin) : Lin := { l with cells := l.cells.map stripC }
def stripD (d : Doc) : Doc := d.map stripL
structure Stays (s t : St) : Prop where
  may : mayS t = true
  anc : t.anc = s.anc
  foc : t.foc = s.foc
  strip : stripD t.lines = stripD s.lines
theorem Stays.refl {s : St} (h : mayS s = true) : Stays s s := ⟨h, rfl, rfl, rfl⟩
theorem Stays.trans {s t u : St} (h : Stays s t) (k : Stays t u) : Stays s u := ⟨k.may, k.anc.trans h.anc, k.foc.trans h.foc, k.strip.trans h.strip⟩
theorem may_range {x : Int} (hx : -9223372036854775808 ≤ x ∧ x ≤ 9223372036854775807) (h : bits .andNot .i64 x 15 = 0) : 0 ≤ x ∧ x ≤ 15 := by
  have := bits_small x hx
  rw [h] at this
  simpa using this.symm
end Go.Proofs.Qw
namespace Go.Proofs.Qw
open Go.RowKit Go.Proofs.YtpndnbjpnajaaaaGreatDoor
theorem spanS_open (s : St) : ((spanS s).1 = (spanS s).2) ↔ s.anc = s.foc := by
  unfold spanS
  split
  · exact eq_comm
  · exact Iff.rfl
end Go.Proofs.Qw
namespace Go.Proofs.YtpndnbjpnajaaaaGreatDoor
open Go.RowKit
open Go.Proofs.Qw
attribute [local go_sem] Oper.semAt_some
set_option maxRecDepth 100000 in
set_option maxHeartbeats 4000000 in
theorem refStHand_any (v : Value) (s : St) (w : World) (S : Nat → Prop) (h : LinsR w S v s.lines) (hf : Fits s.lines) (hm : isD s.lines s.anc = true) :
    Calls Tryz.prog 88 #[stV v s] w fun e w' => e = .returned (.tuple #[.agg #[.int .i64 (handS s).1.line, .int .i64 (handS s).1.col], .agg #[.int .i64 (handS s).2.line, .int .i64 (handS s).2.col]]) ∧ Below w.heap.size w w' := by
  obtain ⟨W1, hW1, hB, hz, k0, k1, k2⟩ := st_pos2 w v s
  have HB : Hid (∀ W, Below W1.heap.size W1 W → W.heap[w.heap.size]? = some (.cells #[v, .int .i64 s.anc.line, .int .i64 s.anc.col, .int .i64 s.foc.line, .int .i64 s.foc.col, .int .i64 s.on, .int .i64 s.off] 26) ∧ W.heap[w.heap.size + 1]? = some (.cells #[.int .i64 0, .int .i64 0] 24) ∧ W.heap[w.heap.size + 2]? = some (.cells #[.int .i64 0, .int .i64 0] 24)) := Lib.hid fun W hW => ⟨heap_below hW k0, heap_below hW k1, heap_below hW k2⟩
  have hs1 := hB.size
  have H1 := Lib.hid hB
  have hw0 : Below W1.heap.size W1 W1 := Below.refl _ _
  have HV : Hid (∀ W, Below W1.heap.size W1 W → LinsR W S v s.lines) := Lib.hid fun W hW => h.below (rdLin_stable _) (hB.trans (hW.mono hs1))
  have HSp : Hid (∀ W, Below W1.heap.size W1 W → Calls Tryz.prog 69 #[stV v s] W fun e w' => e = .returned (.tuple #[.agg #[.int .i64 (spanS s).1.line, .int .i64 (spanS s).1.col], .agg #[.int .i64 (spanS s).2.line, .int .i64 (spanS s).2.col]]) ∧ Below W.heap.size W w') := Lib.hid fun W _ => refStSpan_any v s W
  have HR : Hid (handS s = if s.anc = s.foc then (⟨s.anc.line, ((withinF (cellsAt s) s.anc.col.toNat).1 : Int)⟩, ⟨s.anc.line, ((withinF (cellsAt s) s.anc.col.toNat).2 : Int)⟩) else spanS s) := Lib.hid rfl
  have hg := guardPos
  have hq0 := fun (w : World) => run_neq_pos (spanS s).1 (spanS s).2 w
  by_cases hc : s.anc = s.foc
  · have HQ0 := Lib.hid (HR.out.trans (if_pos hc))
    clear HR hq0
    rw [spanS_closed hc] at HSp
    obtain ⟨i, n, l, hi, hn, hl, hcl, hnn, hnl⟩ := place_at hm
    have hc1 : (withinF (cellsAt s) s.anc.col.toNat) = withinF l.cells n := by unfold cellsAt; rw [hcl, hnn]
    obtain ⟨x, y, hxy⟩ : ∃ x y, withinF l.cells n = (x, y) := ⟨_, _, rfl⟩
    rw [hc1, hxy] at HQ0
    have HQ := Lib.hid HQ0.out
    clear HQ0
    have HXY := Lib.hid hxy
    have hfl := (hf.2 l (List.mem_of_getElem? hl)).2
    have hil := (List.getElem?_eq_some_iff.1 hl).1
    obtain ⟨va, vc, rfl, hvc, hvm, hx⟩ := lins_shape h
    obtain ⟨b, o, la, lc, ca, cc, rfl, hAt⟩ := hx i l hl
    have HAT : Hid (∀ W, Below W1.heap.size W1 W → LinAt W S b (o + i * 4) l la lc ca cc) := Lib.hid fun W hW => hAt.below (hB.trans (hW.mono hs1))
    unfold maxLen at hvm
    have i0 : (0 : Int) ≤ (i : Int) := Int.natCast_nonneg _
    have i1 : (i : Int) < (s.lines.length : Int) := by omega
    obtain ⟨H, hH⟩ : ∃ H, handS s = H := ⟨_, rfl⟩
    rw [hH] at HQ ⊢
    clear hH
    obtain ⟨p0, f0⟩ := blk k0
    obtain ⟨lines, anc, foc, on, off⟩ := s
    obtain ⟨al, ac⟩ := anc
    simp only at hi hn hc
    subst hi hn hc
    have hq : ∀ w : World, (binOp .neq 24 (.agg #[.int .i64 i, .int .i64 n]) (.agg #[.int .i64 i, .int .i64 n])).run Tryz.prog w = .ok (.bool false) w := fun w => by
      have := run_neq_pos ⟨i, n⟩ ⟨i, n⟩ w
      simpa using this
    clear h hf hm hcl hnn hc1 hxy hl hx hAt k0 k1 k2 hB
    go_enter Tryz.func88, Tryz.ntmps88
    go_wp2_with ((go_at_call 69; refine (HSp.out _ hw0).mono ?_; rintro e w2 ⟨rfl, hst2⟩; have hb2 := below_from hw0 hst2; obtain ⟨q0, g0⟩ := blk (HB.out _ hb2).1))
    obtain ⟨w3, hw3⟩ : ∃ w3, (w2.alloc (.cells #[.int .i64 i, .int .i64 n] 24)).alloc (.cells #[.int .i64 i, .int .i64 n] 24) = w3 := ⟨_, rfl⟩
    rw [hw3]
    have hb23 : Below w2.heap.size w2 w3 := hw3 ▸ ((Below.refl _ _).alloc (Nat.le_refl _) _).alloc (by simp) _
    have n3 : w3.heap[w2.heap.size]? = some (.cells #[.int .i64 i, .int .i64 n] 24) := hw3 ▸ heap_old _ _ (heap_new _ _ rfl)
    have hb3 := below_from hb2 hb23
    have HB3 : Hid (∀ W, Below w3.heap.size w3 W → W.heap[w2.heap.size]? = some (.cells #[.int .i64 i, .int .i64 n] 24)) := Lib.hid fun W hW => heap_below hW n3
    have HWi : Hid (∀ W, Below w3.heap.size w3 W → Calls Tryz.prog 156 #[.slice ca l.cells.length cc, .int .i64 n] W fun e w' => e = .returned (.tuple #[.int .i64 x, .int .i64 y]) ∧ Below W.heap.size W w') := Lib.hid fun W hW => by
      have := refWithin_any _ l.cells n W S (HAT.out W (below_from hb3 hW)).cellsR hnl hfl
      rw [HXY.out] at this
      exact this
    clear n3 q0 g0 p0 f0 hw3 hq
    refine wp_region_grew w3.heap.size (by kernel_rfl) (by kernel_rfl) ?_
    refine BigFrame.wpQuiet_want (by kernel_rfl) (fun K hK => ?_)
    refine quiet_val ?_ (fun W hW => ?_) (hK _ ?_)
    rotate_left 1
    · skip
      go_simp
      try rfl
    clear hK
    clear K
    try simp only [Act.put, List.setIfInBounds_toArray, List.set_cons_zero, List.set_cons_succ]
    refine BigFrame.wpQuiet_want (by kernel_rfl) (fun K hK => ?_)
    refine quiet_val ?_ (fun W hW => ?_) (hK _ ?_)
    rotate_left 1
    · skip
      obtain ⟨p0, f0⟩ := blk (HB.out _ (below_from hb3 hW)).1
      obtain ⟨p3, f3⟩ := blk (HB3.out _ hW)
      obtain ⟨_, _, _, _, c3, _, _⟩ := HAT.out _ (below_from hb3 hW)
      go_simp
      try rfl
    clear hK
    clear K
    try simp only [Act.put, List.setIfInBounds_toArray, List.set_cons_zero, List.set_cons_succ]
    refine BigFrame.wpQuiet_want (by kernel_rfl) (fun K hK => ?_)
    refine quiet_val ?_ (fun W hW => ?_) (hK _ ?_)
    rotate_left 1
    · skip
      go_simp
      try rfl
    clear hK
    clear K
    try simp only [Act.put, List.setIfInBounds_toArray, List.set_cons_zero, List.set_cons_succ]
    refine BigFrame.wpQuiet_want (by kernel_rfl) (fun K hK => ?_)
    refine quiet_val ?_ (fun W hW => ?_) (hK _ ?_)
    rotate_left 1
    · skip
      obtain ⟨p0, f0⟩ := blk (HB.out _ (below_from hb3 hW)).1
      obtain ⟨p3, f3⟩ := blk (HB3.out _ hW)
      obtain ⟨_, _, _, _, c3, _, _⟩ := HAT.out _ (below_from hb3 hW)
      go_simp
      try rfl
    clear hK
    clear K
    try simp only [Act.put, List.setIfInBounds_toArray, List.set_cons_zero, List.set_cons_succ]
    refine BigFrame.wpQuiet_want (by kernel_rfl) (fun K hK => ?_)
    refine quiet_val ?_ (fun W hW => ?_) (hK _ ?_)
    rotate_left 1
    · skip
      go_simp
      try rfl
    clear hK
    clear K
    try simp only [Act.put, List.setIfInBounds_toArray, List.set_cons_zero, List.set_cons_succ]
    refine BigFrame.wpQuiet_want (by kernel_rfl) (fun K hK => ?_)
    refine quiet_val ?_ (fun W hW => ?_) (hK _ ?_)
    rotate_left 1
    · skip
      go_simp
      try rfl
    clear hK
    clear K
    try simp only [Act.put, List.setIfInBounds_toArray, List.set_cons_zero, List.set_cons_succ]
    refine BigFrame.wpQuiet_want (by kernel_rfl) (fun K hK => ?_)
    refine quiet_val ?_ (fun W hW => ?_) (hK _ ?_)
    rotate_left 1
    · skip
      obtain ⟨p0, f0⟩ := blk (HB.out _ (below_from hb3 hW)).1
      obtain ⟨p3, f3⟩ := blk (HB3.out _ hW)
      obtain ⟨_, _, _, _, c3, _, _⟩ := HAT.out _ (below_from hb3 hW)
      go_simp
      try rfl
    clear hK
    clear K
    try simp only [Act.put, List.setIfInBounds_toArray, List.set_cons_zero, List.set_cons_succ]
    refine BigFrame.wpQuiet_want (by kernel_rfl) (fun K hK => ?_)
    refine quiet_val ?_ (fun W hW => ?_) (hK _ ?_)
    rotate_left 1
    · skip
      go_simp
      try rfl
    clear hK
    clear K
    try simp only [Act.put, List.setIfInBounds_toArray, List.set_cons_zero, List.set_cons_succ]
    refine BigFrame.wpQuiet_want (by kernel_rfl) (fun K hK => ?_)
    refine quiet_val ?_ (fun W hW => ?_) (hK _ ?_)
    rotate_left 1
    · skip
      obtain ⟨p0, f0⟩ := blk (HB.out _ (below_from hb3 hW)).1
      obtain ⟨p3, f3⟩ := blk (HB3.out _ hW)
      obtain ⟨_, _, _, _, c3, _, _⟩ := HAT.out _ (below_from hb3 hW)
      go_simp
      try rfl
    clear hK
    clear K
    try simp only [Act.put, List.setIfInBounds_toArray, List.set_cons_zero, List.set_cons_succ]
    refine BigFrame.wpQuiet_want (by kernel_rfl) (fun K hK => ?_)
    refine quiet_calls (f := ?_) (args := ?_) ?_ (fun W hW => ?_) (fun W hW => ?_) (hK _ ?_)
    rotate_left 3
    · go_simp
      constructor <;> rfl
    · refine (HWi.out _ hW).mono ?_
      rintro e W2 ⟨rfl, hbW⟩
      refine ⟨?_, below_from hW hbW⟩
      rfl
    clear hK
    clear K
    try simp only [Act.put, List.setIfInBounds_toArray, List.set_cons_zero, List.set_cons_succ]
    refine BigFrame.wpQuiet_want (by kernel_rfl) (fun K hK => ?_)
    refine quiet_val ?_ (fun W hW => ?_) (hK _ ?_)
    rotate_left 1
    · skip
      go_simp
      try rfl
    clear hK
    clear K
    try simp only [Act.put, List.setIfInBounds_toArray, List.set_cons_zero, List.set_cons_succ]
    refine BigFrame.wpQuiet_want (by kernel_rfl) (fun K hK => ?_)
    refine quiet_val ?_ (fun W hW => ?_) (hK _ ?_)
    rotate_left 1
    · skip
      go_simp
      try rfl
    clear hK
    clear K
    try simp only [Act.put, List.setIfInBounds_toArray, List.set_cons_zero, List.set_cons_succ]
    refine BigFrame.wpQuiet_want (by kernel_rfl) (fun K hK => ?_)
    refine quiet_val ?_ (fun W hW => ?_) (hK _ ?_)
    rotate_left 1
    · skip
      go_simp
      try rfl
    clear hK
    clear K
    try simp only [Act.put, List.setIfInBounds_toArray, List.set_cons_zero, List.set_cons_succ]
    refine BigFrame.wpQuiet_want (by kernel_rfl) (fun K hK => ?_)
    refine quiet_val ?_ (fun W hW => ?_) (hK _ ?_)
    rotate_left 1
    · skip
      go_simp
      try rfl
    clear hK
    clear K
    try simp only [Act.put, List.setIfInBounds_toArray, List.set_cons_zero, List.set_cons_succ]
    refine BigFrame.wpQuiet_want (by kernel_rfl) (fun K hK => ?_)
    refine quiet_val ?_ (fun W hW => ?_) (hK _ ?_)
    rotate_left 1
    · skip
      go_simp
      try rfl
    clear hK
    clear K
    try simp only [Act.put, List.setIfInBounds_toArray, List.set_cons_zero, List.set_cons_succ]
    refine wpQuiet_nil (fun X6 hstX6 => ?_)
    have hcX6 := below_from hb3 hstX6
    obtain ⟨p3, f3⟩ := blk (HB3.out _ hstX6)
    obtain ⟨p1, f1⟩ := blk (HB.out _ hcX6).2.1
    obtain ⟨p2, f2⟩ := blk (HB.out _ hcX6).2.2
    go_wp2_with fail
    have hs2 := hb2.size
    have e1 : ¬ w.heap.size + 1 = w2.heap.size := by omega
    have e2 : ¬ w2.heap.size = w.heap.size + 1 := by omega
    have e3 : ¬ w.heap.size + 1 + 1 = w2.heap.size := by omega
    have e4 : ¬ w2.heap.size = w.heap.size + 1 + 1 := by omega
    go_region
    go_wp2_with fail
    refine bodyPost_ret (results_two_pos rfl _ _ (w.heap.size + 1) (w.heap.size + 2) (.int .i64 i) (.int .i64 x) (.int .i64 i) (.int .i64 y) rfl rfl (by rw [drew_heap]; simp [heap_set, putIn, (HB.out _ hcX6).2.1]) (by rw [drew_heap]; simp [heap_set, putIn, (HB.out _ hcX6).2.2])) rfl ?_
    have hfin := H1.out.trans (hcX6.mono hs1)
    rw [HQ.out]
    exact ⟨rfl, by (repeat' (first | (with_reducible exact Below.refl _ _) | (with_reducible assumption) | (with_reducible refine Below.alloc ?_ ?_ _) | (with_reducible refine Below.drew ?_) | (with_reducible refine drewN_below ?_) | (with_reducible refine Below.setCell ?_ ?_ _) | go_size))⟩
  · have HQ0 := Lib.hid (HR.out.trans (if_neg hc))
    obtain ⟨A, B, hAB⟩ : ∃ A B, spanS s = (A, B) := ⟨_, _, rfl⟩
    have hne : ¬ (spanS s).1 = (spanS s).2 := fun e => hc ((spanS_open s).1 e)
    rw [hAB] at HSp HQ0 hq0 hne
    simp only at HSp hq0 hne
    rw [decide_eq_false hne] at hq0
    have hq : ∀ w : World, (binOp .neq 24 (.agg #[.int .i64 A.line, .int .i64 A.col]) (.agg #[.int .i64 B.line, .int .i64 B.col])).run Tryz.prog w = .ok (.bool true) w := hq0
    obtain ⟨p0, f0⟩ := blk k0
    obtain ⟨p1, f1⟩ := blk k1
    obtain ⟨p2, f2⟩ := blk k2
    obtain ⟨va, vc, rfl⟩ := h.slice
    clear h hf hm hc hAB hne hq0 HR k0 k1 k2 hB HV
    go_enter Tryz.func88, Tryz.ntmps88
    go_wp2_with ((go_at_call 69; refine (HSp.out _ hw0).mono ?_; rintro e w2 ⟨rfl, hst2⟩; have hb2 := below_from hw0 hst2; obtain ⟨q0, g0⟩ := blk (HB.out _ hb2).1; obtain ⟨q1, g1⟩ := blk (HB.out _ hb2).2.1; obtain ⟨q2, g2⟩ := blk (HB.out _ hb2).2.2))
    have hs2 := hb2.size
    have e1 : ¬ w.heap.size + 1 = w2.heap.size := by omega
    have e2 : ¬ w2.heap.size = w.heap.size + 1 := by omega
    have e3 : ¬ w.heap.size + 1 + 1 = w2.heap.size := by omega
    have e4 : ¬ w2.heap.size = w.heap.size + 1 + 1 := by omega
    obtain ⟨w3, hw3⟩ : ∃ w3, (w2.alloc (.cells #[.int .i64 A.line, .int .i64 A.col] 24)).alloc (.cells #[.int .i64 B.line, .int .i64 B.col] 24) = w3 := ⟨_, rfl⟩
    rw [hw3]
    have hb23 : Below w2.heap.size w2 w3 := hw3 ▸ below2 (Below.refl _ _) _ _
    have hb3 := below_from hb2 hb23
    have n3 : w3.heap[w2.heap.size]? = some (.cells #[.int .i64 A.line, .int .i64 A.col] 24) := hw3 ▸ heap_old _ _ (heap_new _ _ rfl)
    have n4 : w3.heap[w2.heap.size + 1]? = some (.cells #[.int .i64 B.line, .int .i64 B.col] 24) := hw3 ▸ heap_new _ _ (by simp)
    clear q0 g0 q1 g1 q2 g2 p0 f0 p1 f1 p2 f2 hw3
    obtain ⟨p1, f1⟩ := blk (HB.out _ hb3).2.1
    obtain ⟨p2, f2⟩ := blk (HB.out _ hb3).2.2
    obtain ⟨p3, f3⟩ := blk n3
    obtain ⟨p4, f4⟩ := blk n4
    have e5 : ¬ w.heap.size + 1 = w2.heap.size + 1 := by omega
    have e6 : ¬ w2.heap.size + 1 = w.heap.size + 1 := by omega
    have e7 : ¬ w.heap.size + 1 + 1 = w2.heap.size + 1 := by omega
    have e8 : ¬ w2.heap.size + 1 = w.heap.size + 1 + 1 := by omega
    go_region
    go_wp2_with fail
    refine bodyPost_ret (results_two_pos rfl _ _ (w.heap.size + 1) (w.heap.size + 2) (.int .i64 A.line) (.int .i64 A.col) (.int .i64 B.line) (.int .i64 B.col) rfl rfl (by rw [drew_heap]; simp [heap_set, putIn, (HB.out _ hb3).2.1]) (by rw [drew_heap]; simp [heap_set, putIn, (HB.out _ hb3).2.2])) rfl ?_
    have hfin := H1.out.trans (hb3.mono hs1)
    rw [HQ0.out]
    exact ⟨rfl, by (repeat' (first | (with_reducible exact Below.refl _ _) | (with_reducible assumption) | (with_reducible refine Below.alloc ?_ ?_ _) | (with_reducible refine Below.drew ?_) | (with_reducible refine drewN_below ?_) | (with_reducible refine Below.setCell ?_ ?_ _) | go_size))⟩
set_option maxRecDepth 100000 in
set_option maxHeartbeats 4000000 in
theorem refStays_ok (v : Value) (s : St) (a : Option Addr) (n c : Nat) (w : World) :
    Calls Tryz.prog 104 #[stV v s, .slice a n c, .int .i64 0] w fun e w' => e = .returned (.tuple #[.agg #[.slice a n c, .int .i64 s.anc.line, .int .i64 s.anc.col, .int .i64 s.foc.line, .int .i64 s.foc.col, .int .i64 0, .int .i64 0], .int .i64 0]) ∧ Below w.heap.size w w' := by
  obtain ⟨W1, hW1, hB, hz, k0, k1⟩ := st_two w v s
  obtain ⟨p0, f0⟩ := blk k0
  obtain ⟨p1, f1⟩ := blk k1
  have H1 := Lib.hid hB
  have HK := Lib.hid k1
  clear k0 k1 hB
  go_enter Tryz.func104, Tryz.ntmps104
  go_wp2_with fail
  refine bodyPost_ret (results_st_e rfl _ _ (w.heap.size + 1) (.slice a n c) (.int .i64 s.anc.line) (.int .i64 s.anc.col) (.int .i64 s.foc.line) (.int .i64 s.foc.col) (.int .i64 0) (.int .i64 0) (.int .i64 0) rfl rfl (by simp [heap_set, putIn, HK.out])) rfl ?_
  have hfin := H1.out
  exact ⟨rfl, by (repeat' (first | (with_reducible exact Below.refl _ _) | (with_reducible assumption) | (with_reducible refine Below.alloc ?_ ?_ _) | (with_reducible refine Below.drew ?_) | (with_reducible refine drewN_below ?_) | (with_reducible refine Below.setCell ?_ ?_ _) | go_size))⟩
set_option maxRecDepth 100000 in
set_option maxHeartbeats 4000000 in
theorem refStays_off (v : Value) (s : St) (a : Option Addr) (n c : Nat) (er : Int) (h0 : er ≠ 0) (w : World) :
    Calls Tryz.prog 104 #[stV v s, .slice a n c, .int .i64 er] w fun e w' => e = .returned (.tuple #[.agg #[.slice none 0 0, .int .i64 0, .int .i64 0, .int .i64 0, .int .i64 0, .int .i64 0, .int .i64 0], .int .i64 er]) ∧ Below w.heap.size w w' := by
  obtain ⟨W1, hW1, hB, hz, k0, k1⟩ := st_two w v s
  obtain ⟨p0, f0⟩ := blk k0
  obtain ⟨p1, f1⟩ := blk k1
  have H1 := Lib.hid hB
  have HK := Lib.hid k1
  clear k0 k1 hB
  have hne : (er != 0) = true := by simpa using h0
  clear h0
  go_enter Tryz.func104, Tryz.ntmps104
  go_wp2_with fail
  refine bodyPost_ret (results_st_e rfl _ _ (w.heap.size + 1) (.slice none 0 0) (.int .i64 0) (.int .i64 0) (.int .i64 0) (.int .i64 0) (.int .i64 0) (.int .i64 0) (.int .i64 er) rfl rfl (by simp [heap_set, putIn, HK.out])) rfl ?_
  have hfin := H1.out
  exact ⟨rfl, by (repeat' (first | (with_reducible exact Below.refl _ _) | (with_reducible assumption) | (with_reducible refine Below.alloc ?_ ?_ _) | (with_reducible refine Below.drew ?_) | (with_reducible refine drewN_below ?_) | (with_reducible refine Below.setCell ?_ ?_ _) | go_size))⟩
theorem refStays_any (v u : Value) (s : St) (X : Doc × Int) (n : Nat) (w : World) (h : DocR true w (fun b => n ≤ b) u X.1) :
    Calls Tryz.prog 104 #[stV v s, u, .int .i64 X.2] w fun e w' => ∃ v', e = .returned (.tuple #[stV v' (staysS s X).1, .int .i64 (staysS s X).2]) ∧ DocR true w' (fun b => n ≤ b) v' (staysS s X).1.lines ∧ Below w.heap.size w w' := by
  obtain ⟨D, er⟩ := X
  obtain ⟨a, c, rfl⟩ := h.slice
  by_cases h0 : er = 0
  · subst h0
    refine (refStays_ok v s a D.length c w).mono ?_
    rintro e w' ⟨rfl, hb⟩
    exact ⟨_, rfl, SliceR.below (rdLin_stable true) h hb, hb⟩
  · refine (refStays_off v s a D.length c er h0 w).mono ?_
    rintro e w' ⟨rfl, hb⟩
    have : staysS s (D, er) = (noS, er) := if_neg h0
    rw [this]
    exact ⟨_, rfl, SliceR.nil _ _ _ _ _ _, hb⟩
end Go.Proofs.YtpndnbjpnajaaaaGreatDoor
namespace Go.Proofs.Qw
open Go.RowKit Go.Proofs.YtpndnbjpnajaaaaGreatDoor
theorem and_or_range (x o n : Int) (hx : 0 ≤ x ∧ x ≤ 15) (ho : 0 ≤ o ∧ o ≤ 15) (hn : 0 ≤ n ∧ n ≤ 15) : 0 ≤ bits .or .i64 (bits .andNot .i64 x o) n ∧ bits .or .i64 (bits .andNot .i64 x o) n ≤ 15 :=
  (bits_fin x n o hx hn ho).2.1
theorem around_range {l : List Cel} (h : ∀ c ∈ l, 0 ≤ c.bits ∧ c.bits ≤ 15) (k : Nat) : 0 ≤ (aroundF l k).1 ∧ (aroundF l k).1 ≤ 15 := by
  have hg : ∀ i, 0 ≤ (l.getD i default).bits ∧ (l.getD i default).bits ≤ 15 := by
    intro i
    by_cases hi : i < l.length
    · obtain ⟨x, hx, _⟩ := getOf l i hi
      rw [List.getD, hx]
      exact h x (List.mem_of_getElem? hx)
    · rw [List.getD, List.getElem?_eq_none (by omega)]
      decide
  unfold aroundF
  simp only
  split
  · exact hg _
  · split
    · exact hg _
    · decide
theorem line_bits {d : Doc} (h : mayD d = true) (i : Nat) : ∀ c ∈ (d.getD i default).cells, 0 ≤ c.bits ∧ c.bits ≤ 15 := by
  intro c hc
  by_cases hk : i < d.length
  · obtain ⟨l, hl, _⟩ := getOf d i hk
    rw [List.getD, hl] at hc
    have h2 := mayL_has ((mayD_iff.1 h).2.2.2 l (mem_of_at hl))
    unfold mayCs at h2
    have := List.all_eq_true.1 h2 c hc
    simp only [mayC, Bool.and_eq_true, decide_eq_true_eq] at this
    exact ⟨this.1.1.2, this.1.2⟩
  · rw [List.getD, List.getElem?_eq_none (by omega)] at hc
    cases hc
theorem bitsS_range {s : St} (hm : mayS s = true) (ho : -9223372036854775808 ≤ s.on ∧ s.on ≤ 9223372036854775807) (hof : -9223372036854775808 ≤ s.off ∧ s.off ≤ 9223372036854775807) (hc : s.anc = s.foc) : 0 ≤ bitsS s ∧ bitsS s ≤ 15 := by
  obtain ⟨h1, _, _, h4, h5, _⟩ := mayS_at hm
  unfold bitsS
  rw [if_pos hm, if_pos hc]
  exact and_or_range _ _ _ (around_range (line_bits h1 _) _) (may_range hof h5) (may_range ho h4)
theorem togC_eq {s : St} {t : Int} (hm : mayS s = true) (ho : -9223372036854775808 ≤ s.on ∧ s.on ≤ 9223372036854775807) (hof : -9223372036854775808 ≤ s.off ∧ s.off ≤ 9223372036854775807) (hc : s.anc = s.foc) (ht : four t = true) :
    togC s t = if (bits .and .i64 (bitsS s) t == t) = true then ⟨s.lines, s.anc, s.foc, bits .andNot .i64 s.on t, bits .or .i64 s.off t⟩ else ⟨s.lines, s.anc, s.foc, bits .or .i64 s.on t, bits .andNot .i64 s.off t⟩ := by
  obtain ⟨_, _, _, h4, h5, _⟩ := mayS_at hm
  have h := tog_closed s.on s.off (bitsS s) t (may_range ho h4) (may_range hof h5) (bitsS_range hm ho hof hc) ht
  have e1 := congrArg Prod.fst h
  have e2 := congrArg Prod.snd h
  simp only at e1 e2
  unfold togC
  rw [e1, e2]
  split <;> rfl
theorem togD_eq {s : St} {t : Int} (hm : mayS s = true) (hc : ¬ s.anc = s.foc) (ht : four t = true) :
    togD s t = if (bits .and .i64 (bitsS s) t == t) = true then setD 0 t s.lines (spanS s).1 (spanS s).2 else setD t 0 s.lines (spanS s).1 (spanS s).2 := by
  have h1 : bitsS s = bitsL (selS s) := by unfold bitsS; rw [if_pos hm, if_neg hc]
  rw [h1, bits_all (l := selS s) ht (fun c hc => cells_bits (mayS_at hm).1 c hc)]
  rfl
end Go.Proofs.Qw
namespace Go.Proofs.YtpndnbjpnajaaaaGreatDoor
open Go.RowKit
open Go.Proofs.Qw
attribute [local go_sem] Oper.semAt_some
set_option maxRecDepth 100000 in
set_option maxHeartbeats 4000000 in
theorem refStToggle_any (v : Value) (s : St) (t : Int) (w : World) (S : Nat → Prop) (h : LinsR w S v s.lines) (hs : Small s.lines) (hf : Fits s.lines) (ho : -9223372036854775808 ≤ s.on ∧ s.on ≤ 9223372036854775807) (hof : -9223372036854775808 ≤ s.off ∧ s.off ≤ 9223372036854775807) :
    Calls Tryz.prog 34 #[stV v s, .int .i64 t] w (StSaid (toggleS s t) w) := by
  obtain ⟨W1, hW1, hB, hz, k0, k1⟩ := st_two w v s
  have HB : Hid (∀ W, Below W1.heap.size W1 W → W.heap[w.heap.size]? = some (.cells #[v, .int .i64 s.anc.line, .int .i64 s.anc.col, .int .i64 s.foc.line, .int .i64 s.foc.col, .int .i64 s.on, .int .i64 s.off] 26) ∧ W.heap[w.heap.size + 1]? = some (.cells #[.slice none 0 0, .int .i64 0, .int .i64 0, .int .i64 0, .int .i64 0, .int .i64 0, .int .i64 0] 26)) := Lib.hid fun W hW => ⟨heap_below hW k0, heap_below hW k1⟩
  have hs1 := hB.size
  have H1 := Lib.hid hB
  have hw0 : Below W1.heap.size W1 W1 := Below.refl _ _
  have HV : Hid (∀ W, Below W1.heap.size W1 W → LinsR W S v s.lines) := Lib.hid fun W hW => h.below (rdLin_stable _) (hB.trans (hW.mono hs1))
  have HM : Hid (∀ W, Below W1.heap.size W1 W → Calls Tryz.prog 70 #[stV v s] W fun e w' => e = .returned (.bool (mayS s)) ∧ Below W.heap.size W w') := Lib.hid fun W hW => refStMay_any v s W S (HV.out W hW) hs ho hof
  have HSp : Hid (∀ W, Below W1.heap.size W1 W → Calls Tryz.prog 69 #[stV v s] W fun e w' => e = .returned (.tuple #[.agg #[.int .i64 (spanS s).1.line, .int .i64 (spanS s).1.col], .agg #[.int .i64 (spanS s).2.line, .int .i64 (spanS s).2.col]]) ∧ Below W.heap.size W w') := Lib.hid fun W _ => refStSpan_any v s W
  have HOw : Hid (∀ W, Below W1.heap.size W1 W → Calls Tryz.prog 33 #[stV v s] W fun e w' => ∃ v', e = .returned (stV v' s) ∧ DocR true w' (fun b => W.heap.size ≤ b) v' s.lines ∧ Below W.heap.size W w') := Lib.hid fun W hW => refStOwn_any v s W S (HV.out W hW) hf
  have HBi : Hid (∀ W, Below W1.heap.size W1 W → Calls Tryz.prog 20 #[stV v s] W fun e w' => e = .returned (.int .i64 (bitsS s)) ∧ Below W.heap.size W w') := Lib.hid fun W hW => refStBits_any v s W S (HV.out W hW) hs hf ho hof
  have HS0 : Hid (∀ (x y : Int) (A B : Ps) W, Below W1.heap.size W1 W → Calls Tryz.prog 103 #[v, .agg #[.int .i64 A.line, .int .i64 A.col], .agg #[.int .i64 B.line, .int .i64 B.col], .int .i64 x, .int .i64 y] W (DocSaid (setD x y s.lines A B) W)) := Lib.hid fun x y A B W hW => refDSet_any v s.lines A B x y W S (HV.out W hW) hs hf
  have HR : Hid (toggleS s t = if mayS s = true ∧ four t = true then (if s.anc = s.foc then (togC s t, 0) else staysS s (togD s t)) else (noS, 1)) := Lib.hid rfl
  have HTC := Lib.hid (fun hm hc ht => togC_eq (s := s) (t := t) hm ho hof hc ht)
  have HTD := Lib.hid (fun hm hc ht => togD_eq (s := s) (t := t) hm hc ht)
  have hg := guardPos
  have hq := fun (w : World) => run_eql_pos s.anc s.foc w
  have hcase : (mayS s = false) ∨ (mayS s = true ∧ four t = false ∧ (t != 1) = true ∧ (t != 2) = true ∧ (t != 4) = true ∧ (t != 8) = true) ∨ (mayS s = true ∧ four t = true ∧ (t = 1 ∨ t = 2 ∨ t = 4 ∨ t = 8)) := by
    cases hm : mayS s
    · exact .inl rfl
    · cases hf : four t
      · refine .inr (.inl ⟨rfl, rfl, ?_⟩)
        simp only [four, Bool.or_eq_false_iff, decide_eq_false_iff_not] at hf
        simp only [bne_iff_ne, ne_eq]
        exact ⟨hf.1, hf.2.1, hf.2.2.1, hf.2.2.2⟩
      · exact .inr (.inr ⟨rfl, rfl, four_cases hf⟩)
  have HC := Lib.hid hcase
  obtain ⟨G, hG⟩ : ∃ G, (mayS s && four t) = G := ⟨_, rfl⟩
  have HG := Lib.hid hG
  obtain ⟨p0, f0⟩ := blk k0
  obtain ⟨va, vc, rfl⟩ := h.slice
  clear h hs hf ho hof hcase hG k0 k1 hB
  go_enter Tryz.func34, Tryz.ntmps34
  go_upto_region 1 with fail
  go_cut [31] from 13 to 31 (fun r wx => r = .bool (!G) ∧ Below W1.heap.size W1 wx)
  case first =>
    rcases HC.out with hm | ⟨hm, hf, n1, n2, n3, n4⟩ | ⟨hm, hf, ht⟩
    · have hG := HG.out
      rw [hm, Bool.false_and] at hG
      rw [hm] at HM
      subst hG
      clear hm HC HTC HTD HG
      go_wp2_with ((go_at_call 70; refine (HM.out _ hw0).mono ?_; rintro e w2 ⟨rfl, hst2⟩; have hb2 := below_from hw0 hst2; skip))
      go_meet
      case rel => exact ⟨rfl, hb2⟩
    · have hG := HG.out
      rw [hm, hf] at hG
      rw [hm] at HM
      subst hG
      clear hm hf HC HTC HTD HG
      go_wp2_with ((go_at_call 70; refine (HM.out _ hw0).mono ?_; rintro e w2 ⟨rfl, hst2⟩; have hb2 := below_from hw0 hst2; skip))
      go_meet
      case rel => exact ⟨rfl, hb2⟩
    · have hG := HG.out
      rw [hm, hf] at hG
      rw [hm] at HM
      subst hG
      clear hm hf HC HTC HTD HG
      rcases ht with rfl | rfl | rfl | rfl
      all_goals
        go_wp2_with ((go_at_call 70; refine (HM.out _ hw0).mono ?_; rintro e w2 ⟨rfl, hst2⟩; have hb2 := below_from hw0 hst2; skip))
        go_meet
        case rel => exact ⟨rfl, hb2⟩
  case rest =>
  obtain ⟨rfl, hbc⟩ := hcut
  clear p0 f0
  obtain ⟨p0, f0⟩ := blk (HB.out _ hbc).1
  obtain ⟨p1, f1⟩ := blk (HB.out _ hbc).2
  have hG := HG.out
  clear HG
  cases G
  · have HR2 : Hid (toggleS s t = (noS, 1)) := Lib.hid (HR.out.trans (if_neg (by rw [← Bool.and_eq_true, hG]; simp)))
    clear HR HC hG HTC HTD
    go_wp2_with fail
    refine bodyPost_ret (results_st_e rfl _ _ (w.heap.size + 1) (.slice none 0 0) (.int .i64 0) (.int .i64 0) (.int .i64 0) (.int .i64 0) (.int .i64 0) (.int .i64 0) (.int .i64 1) rfl rfl (by simp [heap_set, putIn, (HB.out _ hbc).2])) rfl ?_
    unfold StSaid
    rw [HR2.out]
    have hfin := H1.out.trans (hbc.mono hs1)
    exact ⟨_, rfl, SliceR.nil _ _ _ _ _ _, by (repeat' (first | (with_reducible exact Below.refl _ _) | (with_reducible assumption) | (with_reducible refine Below.alloc ?_ ?_ _) | (with_reducible refine Below.drew ?_) | (with_reducible refine drewN_below ?_) | (with_reducible refine Below.setCell ?_ ?_ _) | go_size))⟩
  · obtain ⟨hm, hft⟩ := Bool.and_eq_true_iff.1 hG
    have HR1 := Lib.hid (HR.out.trans (if_pos ⟨hm, hft⟩))
    obtain ⟨b, hb⟩ : ∃ b, (bits .and .i64 (bitsS s) t == t) = b := ⟨_, rfl⟩
    by_cases hc : s.anc = s.foc
    · have HT := Lib.hid (HTC.out hm hc hft)
      have HR2 := Lib.hid (HR1.out.trans (if_pos hc))
      rw [hb] at HT
      rw [HT.out] at HR2
      rw [decide_eq_true hc] at hq
      obtain ⟨r, hr⟩ : ∃ r, bitsS s = r := ⟨_, rfl⟩
      rw [hr] at HBi hb
      clear HR HR1 HT HC HTC HTD hG hm hft hc hr
      cases b
      · have HR3 : Hid (toggleS s t = (⟨s.lines, s.anc, s.foc, bits .or .i64 s.on t, bits .andNot .i64 s.off t⟩, 0)) := Lib.hid HR2.out
        clear HR2
        go_wp2_with (first
          | (go_at_call 33; refine (HOw.out _ hbc).mono ?_; rintro e w4 ⟨v4, rfl, hv4, hst4⟩; obtain ⟨a4, c4, rfl⟩ := hv4.slice; have hb4 := below_from hbc hst4; have HV4 := Lib.hid hv4; clear hv4; obtain ⟨q4, g4⟩ := blk (HB.out _ hb4).1; have hz4 := hb4.size; have e4 : ¬ w4.heap.size = w.heap.size := (by omega); have r4 := on1 (HB.out _ hb4).1; have HX4 : Hid (∀ X, Below W1.heap.size W1 (w4.alloc X)) := Lib.hid fun X => hb4.trans (below1 (Below.refl _ _) X |>.mono hz4))
          | (go_at_call 20; refine (HBi.out _ (HX4.out _)).mono ?_; rintro e w5 ⟨rfl, hst5⟩; have hb5 := below_from (HX4.out _) hst5; obtain ⟨q5, g5⟩ := blk (HB.out _ hb5).1; obtain ⟨q6, g6⟩ := blk (HB.out _ hb5).2; have n5 := heap_below hst5 (heap_new w4 (.cells #[.slice a4 s.lines.length c4, .int .i64 s.anc.line, .int .i64 s.anc.col, .int .i64 s.foc.line, .int .i64 s.foc.col, .int .i64 s.on, .int .i64 s.off] 26) rfl); obtain ⟨q7, g7⟩ := blk n5))
        have e45 : ¬ w4.heap.size = w.heap.size + 1 := by omega
        refine bodyPost_ret (results_st_e rfl _ _ (w.heap.size + 1) (.slice a4 s.lines.length c4) (.int .i64 s.anc.line) (.int .i64 s.anc.col) (.int .i64 s.foc.line) (.int .i64 s.foc.col) (.int .i64 (bits .or .i64 s.on t)) (.int .i64 (bits .andNot .i64 s.off t)) (.int .i64 0) rfl rfl (by simp [heap_set, putIn, (HB.out _ hb5).2, e45])) rfl ?_
        unfold StSaid
        rw [HR3.out]
        have hfin := H1.out.trans (hb5.mono hs1)
        have hv5 := SliceR.stable (rdLin_stable true) HV4.out (.all (below_from (below1 (Below.refl _ _) _) hst5)) (S' := fun b => wc.heap.size ≤ b ∧ b < w4.heap.size) (fun b hb hz => ⟨hb, hz⟩)
        have hzc := hbc.size
        exact ⟨_, rfl, (SliceR.stable (rdLin_stable _) hv5 (by (repeat' (first | (with_reducible exact Keeps.refl _ _) | (with_reducible refine Keeps.set ?_ ?_ _) | (with_reducible refine Keeps.alloc ?_ _) | (with_reducible refine Keeps.drew ?_) | (first | (first | (simp; done) | (simp; omega))) | (simp; omega)))) (fun b h _ => (by have h' := h; (try simp at h'); omega))), by (repeat' (first | (with_reducible exact Below.refl _ _) | (with_reducible assumption) | (with_reducible refine Below.alloc ?_ ?_ _) | (with_reducible refine Below.drew ?_) | (with_reducible refine drewN_below ?_) | (with_reducible refine Below.setCell ?_ ?_ _) | go_size))⟩
      · have HR3 : Hid (toggleS s t = (⟨s.lines, s.anc, s.foc, bits .andNot .i64 s.on t, bits .or .i64 s.off t⟩, 0)) := Lib.hid HR2.out
        clear HR2
        go_wp2_with (first
          | (go_at_call 33; refine (HOw.out _ hbc).mono ?_; rintro e w4 ⟨v4, rfl, hv4, hst4⟩; obtain ⟨a4, c4, rfl⟩ := hv4.slice; have hb4 := below_from hbc hst4; have HV4 := Lib.hid hv4; clear hv4; obtain ⟨q4, g4⟩ := blk (HB.out _ hb4).1; have hz4 := hb4.size; have e4 : ¬ w4.heap.size = w.heap.size := (by omega); have r4 := on1 (HB.out _ hb4).1; have HX4 : Hid (∀ X, Below W1.heap.size W1 (w4.alloc X)) := Lib.hid fun X => hb4.trans (below1 (Below.refl _ _) X |>.mono hz4))
          | (go_at_call 20; refine (HBi.out _ (HX4.out _)).mono ?_; rintro e w5 ⟨rfl, hst5⟩; have hb5 := below_from (HX4.out _) hst5; obtain ⟨q5, g5⟩ := blk (HB.out _ hb5).1; obtain ⟨q6, g6⟩ := blk (HB.out _ hb5).2; have n5 := heap_below hst5 (heap_new w4 (.cells #[.slice a4 s.lines.length c4, .int .i64 s.anc.line, .int .i64 s.anc.col, .int .i64 s.foc.line, .int .i64 s.foc.col, .int .i64 s.on, .int .i64 s.off] 26) rfl); obtain ⟨q7, g7⟩ := blk n5))
        have e45 : ¬ w4.heap.size = w.heap.size + 1 := by omega
        refine bodyPost_ret (results_st_e rfl _ _ (w.heap.size + 1) (.slice a4 s.lines.length c4) (.int .i64 s.anc.line) (.int .i64 s.anc.col) (.int .i64 s.foc.line) (.int .i64 s.foc.col) (.int .i64 (bits .andNot .i64 s.on t)) (.int .i64 (bits .or .i64 s.off t)) (.int .i64 0) rfl rfl (by simp [heap_set, putIn, (HB.out _ hb5).2, e45])) rfl ?_
        unfold StSaid
        rw [HR3.out]
        have hfin := H1.out.trans (hb5.mono hs1)
        have hv5 := SliceR.stable (rdLin_stable true) HV4.out (.all (below_from (below1 (Below.refl _ _) _) hst5)) (S' := fun b => wc.heap.size ≤ b ∧ b < w4.heap.size) (fun b hb hz => ⟨hb, hz⟩)
        have hzc := hbc.size
        exact ⟨_, rfl, (SliceR.stable (rdLin_stable _) hv5 (by (repeat' (first | (with_reducible exact Keeps.refl _ _) | (with_reducible refine Keeps.set ?_ ?_ _) | (with_reducible refine Keeps.alloc ?_ _) | (with_reducible refine Keeps.drew ?_) | (first | (first | (simp; done) | (simp; omega))) | (simp; omega)))) (fun b h _ => (by have h' := h; (try simp at h'); omega))), by (repeat' (first | (with_reducible exact Below.refl _ _) | (with_reducible assumption) | (with_reducible refine Below.alloc ?_ ?_ _) | (with_reducible refine Below.drew ?_) | (with_reducible refine drewN_below ?_) | (with_reducible refine Below.setCell ?_ ?_ _) | go_size))⟩
    · have HT := Lib.hid (HTD.out hm hc hft)
      have HR2 := Lib.hid (HR1.out.trans (if_neg hc))
      rw [hb] at HT
      rw [HT.out] at HR2
      rw [decide_eq_false hc] at hq
      obtain ⟨A, B, hAB⟩ : ∃ A B, spanS s = (A, B) := ⟨_, _, rfl⟩
      rw [hAB] at HSp HR2
      simp only at HSp HR2
      obtain ⟨r, hr⟩ : ∃ r, bitsS s = r := ⟨_, rfl⟩
      rw [hr] at HBi hb
      clear HR HR1 HT HC HTC HTD hG hm hft hc hr hAB
      cases b
      · obtain ⟨D, er, hD⟩ : ∃ D er, setD t 0 s.lines A B = (D, er) := ⟨_, _, rfl⟩
        have HS1 := Lib.hid (HS0.out t 0 A B)
        rw [hD] at HS1
        have HR3 : Hid (toggleS s t = staysS s (D, er)) := Lib.hid (HR2.out.trans (by rw [if_neg (by simp), hD]))
        obtain ⟨Y, hY⟩ : ∃ Y, staysS s (D, er) = Y := ⟨_, rfl⟩
        rw [hY] at HR3
        have HY := Lib.hid hY
        clear hD HR2 hY HS0
        go_wp2_with (first
          | (go_at_call 69; refine (HSp.out _ hbc).mono ?_; rintro e w3 ⟨rfl, hst3⟩; have hb3 := below_from hbc hst3; obtain ⟨q1, g1⟩ := blk (HB.out _ hb3).1; have hz3 := hb3.size; have e3 : ¬ w3.heap.size = w.heap.size := (by omega); have r1 := on2 (HB.out _ hb3).1; have HX3 : Hid (∀ X Y, Below W1.heap.size W1 ((w3.alloc X).alloc Y)) := Lib.hid fun X Y => hb3.trans (below2 (Below.refl _ _) X Y |>.mono hz3))
          | (go_at_call 20; refine (HBi.out _ (HX3.out _ _)).mono ?_; rintro e w5 ⟨rfl, hst5⟩; have hb5 := below_from (HX3.out _ _) hst5; obtain ⟨q5, g5⟩ := blk (HB.out _ hb5).1; have hz5 := hb5.size; have n5 := heap_below hst5 (heap_old _ (.cells #[.int .i64 B.line, .int .i64 B.col] 24) (heap_new w3 (.cells #[.int .i64 A.line, .int .i64 A.col] 24) rfl)); have n6 := heap_below hst5 (heap_new (w3.alloc (.cells #[.int .i64 A.line, .int .i64 A.col] 24)) (.cells #[.int .i64 B.line, .int .i64 B.col] 24) (B := w3.heap.size + 1) (by simp)); obtain ⟨q6, g6⟩ := blk n5; obtain ⟨q3, g3⟩ := blk n6)
          | (go_at_call 103; refine (HS1.out _ hb5).mono ?_; intro e w7 hsaid; obtain ⟨v7, rfl, hv7, hst7⟩ := hsaid; obtain ⟨a7, c7, rfl⟩ := hv7.slice; have hb7 := below_from hb5 hst7; have HV7 : Hid (DocR true w7 (fun b => w.heap.size + 2 ≤ b) (.slice a7 D.length c7) D) := Lib.hid (SliceR.stable (rdLin_stable true) hv7 (Keeps.refl _ _) (fun b h _ => (by have h' := h; (try simp at h'); omega))); clear hv7; obtain ⟨q7, g7⟩ := blk (HB.out _ hb7).1; obtain ⟨q9, g9⟩ := blk (HB.out _ hb7).2)
          | (go_at_call 104; refine (refStays_any _ _ s (D, er) (w.heap.size + 2) _ HV7.out).mono ?_; rintro e w8 ⟨v8, rfl, hv8, hst8⟩; rw [HY.out] at hv8 ⊢; obtain ⟨a8, c8, rfl⟩ := hv8.slice; have hb8 := below_from hb7 hst8; have HV8 := Lib.hid hv8; clear hv8; obtain ⟨q8, g8⟩ := blk (HB.out _ hb8).2))
        refine bodyPost_ret (results_st_e rfl _ _ (w.heap.size + 1) (.slice a8 Y.1.lines.length c8) (.int .i64 Y.1.anc.line) (.int .i64 Y.1.anc.col) (.int .i64 Y.1.foc.line) (.int .i64 Y.1.foc.col) (.int .i64 Y.1.on) (.int .i64 Y.1.off) (.int .i64 Y.2) rfl rfl (by simp [heap_set, putIn, (HB.out _ hb8).2])) rfl ?_
        unfold StSaid
        rw [HR3.out]
        have hfin := H1.out.trans (hb8.mono hs1)
        have hv8 := HV8.out
        exact ⟨_, rfl, (SliceR.stable (rdLin_stable _) hv8 (by (repeat' (first | (with_reducible exact Keeps.refl _ _) | (with_reducible refine Keeps.set ?_ ?_ _) | (with_reducible refine Keeps.alloc ?_ _) | (with_reducible refine Keeps.drew ?_) | (first | (simp; done)) | (simp; omega)))) (fun b h _ => (by have h' := h; (try simp at h'); omega))), by (repeat' (first | (with_reducible exact Below.refl _ _) | (with_reducible assumption) | (with_reducible refine Below.alloc ?_ ?_ _) | (with_reducible refine Below.drew ?_) | (with_reducible refine drewN_below ?_) | (with_reducible refine Below.setCell ?_ ?_ _) | go_size))⟩
      · obtain ⟨D, er, hD⟩ : ∃ D er, setD 0 t s.lines A B = (D, er) := ⟨_, _, rfl⟩
        have HS1 := Lib.hid (HS0.out 0 t A B)
        rw [hD] at HS1
        have HR3 : Hid (toggleS s t = staysS s (D, er)) := Lib.hid (HR2.out.trans (by rw [if_pos rfl, hD]))
        obtain ⟨Y, hY⟩ : ∃ Y, staysS s (D, er) = Y := ⟨_, rfl⟩
        rw [hY] at HR3
        have HY := Lib.hid hY
        clear hD HR2 hY HS0
        go_wp2_with (first
          | (go_at_call 69; refine (HSp.out _ hbc).mono ?_; rintro e w3 ⟨rfl, hst3⟩; have hb3 := below_from hbc hst3; obtain ⟨q1, g1⟩ := blk (HB.out _ hb3).1; have hz3 := hb3.size; have e3 : ¬ w3.heap.size = w.heap.size := (by omega); have r1 := on2 (HB.out _ hb3).1; have HX3 : Hid (∀ X Y, Below W1.heap.size W1 ((w3.alloc X).alloc Y)) := Lib.hid fun X Y => hb3.trans (below2 (Below.refl _ _) X Y |>.mono hz3))
          | (go_at_call 20; refine (HBi.out _ (HX3.out _ _)).mono ?_; rintro e w5 ⟨rfl, hst5⟩; have hb5 := below_from (HX3.out _ _) hst5; obtain ⟨q5, g5⟩ := blk (HB.out _ hb5).1; have hz5 := hb5.size; have n5 := heap_below hst5 (heap_old _ (.cells #[.int .i64 B.line, .int .i64 B.col] 24) (heap_new w3 (.cells #[.int .i64 A.line, .int .i64 A.col] 24) rfl)); have n6 := heap_below hst5 (heap_new (w3.alloc (.cells #[.int .i64 A.line, .int .i64 A.col] 24)) (.cells #[.int .i64 B.line, .int .i64 B.col] 24) (B := w3.heap.size + 1) (by simp)); obtain ⟨q6, g6⟩ := blk n5; obtain ⟨q3, g3⟩ := blk n6)
          | (go_at_call 103; refine (HS1.out _ hb5).mono ?_; intro e w7 hsaid; obtain ⟨v7, rfl, hv7, hst7⟩ := hsaid; obtain ⟨a7, c7, rfl⟩ := hv7.slice; have hb7 := below_from hb5 hst7; have HV7 : Hid (DocR true w7 (fun b => w.heap.size + 2 ≤ b) (.slice a7 D.length c7) D) := Lib.hid (SliceR.stable (rdLin_stable true) hv7 (Keeps.refl _ _) (fun b h _ => (by have h' := h; (try simp at h'); omega))); clear hv7; obtain ⟨q7, g7⟩ := blk (HB.out _ hb7).1; obtain ⟨q9, g9⟩ := blk (HB.out _ hb7).2)
          | (go_at_call 104; refine (refStays_any _ _ s (D, er) (w.heap.size + 2) _ HV7.out).mono ?_; rintro e w8 ⟨v8, rfl, hv8, hst8⟩; rw [HY.out] at hv8 ⊢; obtain ⟨a8, c8, rfl⟩ := hv8.slice; have hb8 := below_from hb7 hst8; have HV8 := Lib.hid hv8; clear hv8; obtain ⟨q8, g8⟩ := blk (HB.out _ hb8).2))
        refine bodyPost_ret (results_st_e rfl _ _ (w.heap.size + 1) (.slice a8 Y.1.lines.length c8) (.int .i64 Y.1.anc.line) (.int .i64 Y.1.anc.col) (.int .i64 Y.1.foc.line) (.int .i64 Y.1.foc.col) (.int .i64 Y.1.on) (.int .i64 Y.1.off) (.int .i64 Y.2) rfl rfl (by simp [heap_set, putIn, (HB.out _ hb8).2])) rfl ?_
        unfold StSaid
        rw [HR3.out]
        have hfin := H1.out.trans (hb8.mono hs1)
        have hv8 := HV8.out
        exact ⟨_, rfl, (SliceR.stable (rdLin_stable _) hv8 (by (repeat' (first | (with_reducible exact Keeps.refl _ _) | (with_reducible refine Keeps.set ?_ ?_ _) | (with_reducible refine Keeps.alloc ?_ _) | (with_reducible refine Keeps.drew ?_) | (first | (simp; done)) | (simp; omega)))) (fun b h _ => (by have h' := h; (try simp at h'); omega))), by (repeat' (first | (with_reducible exact Below.refl _ _) | (with_reducible assumption) | (with_reducible refine Below.alloc ?_ ?_ _) | (with_reducible refine Below.drew ?_) | (with_reducible refine drewN_below ?_) | (with_reducible refine Below.setCell ?_ ?_ _) | go_size))⟩
set_option maxRecDepth 100000 in
set_option maxHeartbeats 4000000 in
theorem refStLink_any (v : Value) (s : St) (hr : List UInt8) (w : World) (S : Nat → Prop) (h : LinsR w S v s.lines) (hs : Small s.lines) (hf : Fits s.lines) (ho : -9223372036854775808 ≤ s.on ∧ s.on ≤ 9223372036854775807) (hof : -9223372036854775808 ≤ s.off ∧ s.off ≤ 9223372036854775807) (hh : hr.length ≤ 1000000) :
    Calls Tryz.prog 36 #[stV v s, .string ⟨hr.toArray⟩] w (StSaid (changedS s (linkL s hr)) w) := by
  obtain ⟨W1, hW1, hB, hz, k0, k1⟩ := st_two w v s
  have HB : Hid (∀ W, Below W1.heap.size W1 W → W.heap[w.heap.size]? = some (.cells #[v, .int .i64 s.anc.line, .int .i64 s.anc.col, .int .i64 s.foc.line, .int .i64 s.foc.col, .int .i64 s.on, .int .i64 s.off] 26) ∧ W.heap[w.heap.size + 1]? = some (.cells #[.slice none 0 0, .int .i64 0, .int .i64 0, .int .i64 0, .int .i64 0, .int .i64 0, .int .i64 0] 26)) := Lib.hid fun W hW => ⟨heap_below hW k0, heap_below hW k1⟩
  have hs1 := hB.size
  have H1 := Lib.hid hB
  have hw0 : Below W1.heap.size W1 W1 := Below.refl _ _
  have HV : Hid (∀ W, Below W1.heap.size W1 W → LinsR W S v s.lines) := Lib.hid fun W hW => h.below (rdLin_stable _) (hB.trans (hW.mono hs1))
  have HM : Hid (∀ W, Below W1.heap.size W1 W → Calls Tryz.prog 70 #[stV v s] W fun e w' => e = .returned (.bool (mayS s)) ∧ Below W.heap.size W w') := Lib.hid fun W hW => refStMay_any v s W S (HV.out W hW) hs ho hof
  have HSp : Hid (∀ W, Below W1.heap.size W1 W → Calls Tryz.prog 69 #[stV v s] W fun e w' => e = .returned (.tuple #[.agg #[.int .i64 (spanS s).1.line, .int .i64 (spanS s).1.col], .agg #[.int .i64 (spanS s).2.line, .int .i64 (spanS s).2.col]]) ∧ Below W.heap.size W w') := Lib.hid fun W _ => refStSpan_any v s W
  have HT : Hid (∀ W, Calls Tryz.prog 105 #[.string ⟨hr.toArray⟩] W fun e w' => e = .returned (.bool (targetF hr)) ∧ Below W.heap.size W w') := Lib.hid fun W => refTarget_any ⟨hr.toArray⟩ W (by show hr.toArray.size ≤ _; simpa using hh)
  have HS0 : Hid (∀ (A B : Ps) W, Below W1.heap.size W1 W → Calls Tryz.prog 106 #[v, .agg #[.int .i64 A.line, .int .i64 A.col], .agg #[.int .i64 B.line, .int .i64 B.col], .string ⟨hr.toArray⟩] W (DocSaid (linkD hr s.lines A B) W)) := Lib.hid fun A B W hW => refDLink_any v s.lines A B hr W S (HV.out W hW) hs hf hh
  have HR : Hid (changedS s (linkL s hr) = if mayS s = true then staysS s (if targetF hr = true then linkD hr s.lines (spanS s).1 (spanS s).2 else ([], 1)) else (noS, 1)) := Lib.hid rfl
  obtain ⟨Z, hZ⟩ : ∃ Z, changedS s (linkL s hr) = Z := ⟨_, rfl⟩
  rw [hZ] at HR ⊢
  obtain ⟨p0, f0⟩ := blk k0
  obtain ⟨p1, f1⟩ := blk k1
  obtain ⟨va, vc, rfl⟩ := h.slice
  obtain ⟨A, B, hAB⟩ : ∃ A B, spanS s = (A, B) := ⟨_, _, rfl⟩
  rw [hAB] at HSp HR
  simp only at HSp HR
  generalize targetF hr = tg at *
  generalize mayS s = m at *
  clear h hs hf ho hof hh hZ hAB k0 k1 hB
  cases m
  · have HR2 : Hid (Z = (noS, 1)) := Lib.hid (HR.out.trans (if_neg (by simp)))
    clear HR HS0
    go_enter Tryz.func36, Tryz.ntmps36
    go_wp2_with ((go_at_call 70; refine (HM.out _ hw0).mono ?_; rintro e w2 ⟨rfl, hst2⟩; have hb2 := below_from hw0 hst2; obtain ⟨q9, g9⟩ := blk (HB.out _ hb2).2))
    refine bodyPost_ret (results_st_e rfl _ _ (w.heap.size + 1) (.slice none 0 0) (.int .i64 0) (.int .i64 0) (.int .i64 0) (.int .i64 0) (.int .i64 0) (.int .i64 0) (.int .i64 1) rfl rfl (by simp [heap_set, putIn, (HB.out _ hb2).2])) rfl ?_
    unfold StSaid
    rw [HR2.out]
    have hfin := H1.out.trans (hb2.mono hs1)
    exact ⟨_, rfl, SliceR.nil _ _ _ _ _ _, by (repeat' (first | (with_reducible exact Below.refl _ _) | (with_reducible assumption) | (with_reducible refine Below.alloc ?_ ?_ _) | (with_reducible refine Below.drew ?_) | (with_reducible refine drewN_below ?_) | (with_reducible refine Below.setCell ?_ ?_ _) | go_size))⟩
  · have HR1 := Lib.hid (HR.out.trans (if_pos rfl))
    clear HR
    cases tg
    · have HR2 : Hid (Z = (noS, 1)) := Lib.hid (HR1.out.trans (by rw [if_neg (by simp)]; rfl))
      clear HR1 HS0
      go_enter Tryz.func36, Tryz.ntmps36
      go_wp2_with (first | (go_at_call 70; refine (HM.out _ hw0).mono ?_; rintro e w2 ⟨rfl, hst2⟩; have hb2 := below_from hw0 hst2; skip) | (go_at_call 105; refine (HT.out _).mono ?_; rintro e w4 ⟨rfl, hst4⟩; have hb4 := below_from hb2 hst4; obtain ⟨q9, g9⟩ := blk (HB.out _ hb4).2))
      refine bodyPost_ret (results_st_e rfl _ _ (w.heap.size + 1) (.slice none 0 0) (.int .i64 0) (.int .i64 0) (.int .i64 0) (.int .i64 0) (.int .i64 0) (.int .i64 0) (.int .i64 1) rfl rfl (by simp [heap_set, putIn, (HB.out _ hb4).2])) rfl ?_
      unfold StSaid
      rw [HR2.out]
      have hfin := H1.out.trans (hb4.mono hs1)
      exact ⟨_, rfl, SliceR.nil _ _ _ _ _ _, by (repeat' (first | (with_reducible exact Below.refl _ _) | (with_reducible assumption) | (with_reducible refine Below.alloc ?_ ?_ _) | (with_reducible refine Below.drew ?_) | (with_reducible refine drewN_below ?_) | (with_reducible refine Below.setCell ?_ ?_ _) | go_size))⟩
    · obtain ⟨D, er, hD⟩ : ∃ D er, linkD hr s.lines A B = (D, er) := ⟨_, _, rfl⟩
      have HS1 := Lib.hid (HS0.out A B)
      rw [hD] at HS1
      have HR3 : Hid (Z = staysS s (D, er)) := Lib.hid (HR1.out.trans (by rw [if_pos rfl, hD]))
      obtain ⟨Y, hY⟩ : ∃ Y, staysS s (D, er) = Y := ⟨_, rfl⟩
      rw [hY] at HR3
      have HY := Lib.hid hY
      clear hD HR1 hY HS0
      go_enter Tryz.func36, Tryz.ntmps36
      go_wp2_with (first
        | (go_at_call 70; refine (HM.out _ hw0).mono ?_; rintro e w2 ⟨rfl, hst2⟩; have hb2 := below_from hw0 hst2; skip)
        | (go_at_call 105; refine (HT.out _).mono ?_; rintro e w4 ⟨rfl, hst4⟩; have hb4 := below_from hb2 hst4; obtain ⟨q4, g4⟩ := blk (HB.out _ hb4).1)
        | (go_at_call 69; refine (HSp.out _ hb4).mono ?_; rintro e w3 ⟨rfl, hst3⟩; have hb3 := below_from hb4 hst3; obtain ⟨q1, g1⟩ := blk (HB.out _ hb3).1; have hz3 := hb3.size; have e3 : ¬ w3.heap.size = w.heap.size := (by omega); have r1 := on2 (HB.out _ hb3).1; have HX3 : Hid (∀ X Y, Below W1.heap.size W1 ((w3.alloc X).alloc Y)) := Lib.hid fun X Y => hb3.trans (below2 (Below.refl _ _) X Y |>.mono hz3))
        | (go_at_call 106; refine (HS1.out _ (HX3.out _ _)).mono ?_; intro e w7 hsaid; obtain ⟨v7, rfl, hv7, hst7⟩ := hsaid; obtain ⟨a7, c7, rfl⟩ := hv7.slice; have hb7 := below_from (HX3.out _ _) hst7; have HV7 : Hid (DocR true w7 (fun b => w.heap.size + 2 ≤ b) (.slice a7 D.length c7) D) := Lib.hid (SliceR.stable (rdLin_stable true) hv7 (Keeps.refl _ _) (fun b h _ => (by have h' := h; (try simp at h'); omega))); clear hv7; obtain ⟨q7, g7⟩ := blk (HB.out _ hb7).1; obtain ⟨q9, g9⟩ := blk (HB.out _ hb7).2)
        | (go_at_call 104; refine (refStays_any _ _ s (D, er) (w.heap.size + 2) _ HV7.out).mono ?_; rintro e w8 ⟨v8, rfl, hv8, hst8⟩; rw [HY.out] at hv8 ⊢; obtain ⟨a8, c8, rfl⟩ := hv8.slice; have hb8 := below_from hb7 hst8; have HV8 := Lib.hid hv8; clear hv8; obtain ⟨q8, g8⟩ := blk (HB.out _ hb8).2))
      refine bodyPost_ret (results_st_e rfl _ _ (w.heap.size + 1) (.slice a8 Y.1.lines.length c8) (.int .i64 Y.1.anc.line) (.int .i64 Y.1.anc.col) (.int .i64 Y.1.foc.line) (.int .i64 Y.1.foc.col) (.int .i64 Y.1.on) (.int .i64 Y.1.off) (.int .i64 Y.2) rfl rfl (by simp [heap_set, putIn, (HB.out _ hb8).2])) rfl ?_
      unfold StSaid
      rw [HR3.out]
      have hfin := H1.out.trans (hb8.mono hs1)
      have hv8 := HV8.out
      exact ⟨_, rfl, (SliceR.stable (rdLin_stable _) hv8 (by (repeat' (first | (with_reducible exact Keeps.refl _ _) | (with_reducible refine Keeps.set ?_ ?_ _) | (with_reducible refine Keeps.alloc ?_ _) | (with_reducible refine Keeps.drew ?_) | (first | (simp; done)) | (simp; omega)))) (fun b h _ => (by have h' := h; (try simp at h'); omega))), by (repeat' (first | (with_reducible exact Below.refl _ _) | (with_reducible assumption) | (with_reducible refine Below.alloc ?_ ?_ _) | (with_reducible refine Below.drew ?_) | (with_reducible refine drewN_below ?_) | (with_reducible refine Below.setCell ?_ ?_ _) | go_size))⟩
set_option maxRecDepth 100000 in
set_option maxHeartbeats 4000000 in
theorem refStPlain_any (v : Value) (s : St) (w : World) (S : Nat → Prop) (h : LinsR w S v s.lines) (hs : Small s.lines) (hf : Fits s.lines) (ho : -9223372036854775808 ≤ s.on ∧ s.on ≤ 9223372036854775807) (hof : -9223372036854775808 ≤ s.off ∧ s.off ≤ 9223372036854775807) :
    Calls Tryz.prog 39 #[stV v s] w (StSaid (changedS s (plainL s)) w) := by
  obtain ⟨W1, hW1, hB, hz, k0, k1⟩ := st_two w v s
  have HB : Hid (∀ W, Below W1.heap.size W1 W → W.heap[w.heap.size]? = some (.cells #[v, .int .i64 s.anc.line, .int .i64 s.anc.col, .int .i64 s.foc.line, .int .i64 s.foc.col, .int .i64 s.on, .int .i64 s.off] 26) ∧ W.heap[w.heap.size + 1]? = some (.cells #[.slice none 0 0, .int .i64 0, .int .i64 0, .int .i64 0, .int .i64 0, .int .i64 0, .int .i64 0] 26)) := Lib.hid fun W hW => ⟨heap_below hW k0, heap_below hW k1⟩
  have hs1 := hB.size
  have H1 := Lib.hid hB
  have hw0 : Below W1.heap.size W1 W1 := Below.refl _ _
  have HV : Hid (∀ W, Below W1.heap.size W1 W → LinsR W S v s.lines) := Lib.hid fun W hW => h.below (rdLin_stable _) (hB.trans (hW.mono hs1))
  have HM : Hid (∀ W, Below W1.heap.size W1 W → Calls Tryz.prog 70 #[stV v s] W fun e w' => e = .returned (.bool (mayS s)) ∧ Below W.heap.size W w') := Lib.hid fun W hW => refStMay_any v s W S (HV.out W hW) hs ho hof
  have HSp : Hid (∀ W, Below W1.heap.size W1 W → Calls Tryz.prog 69 #[stV v s] W fun e w' => e = .returned (.tuple #[.agg #[.int .i64 (spanS s).1.line, .int .i64 (spanS s).1.col], .agg #[.int .i64 (spanS s).2.line, .int .i64 (spanS s).2.col]]) ∧ Below W.heap.size W w') := Lib.hid fun W _ => refStSpan_any v s W
  have HRo : Hid (∀ W, Below W1.heap.size W1 W → Calls Tryz.prog 79 #[stV v s] W fun e w' => ∃ v', e = .returned v' ∧ CelsR true w' (fun b => W.heap.size ≤ b) v' (selS s) ∧ Below W.heap.size W w') := Lib.hid fun W hW => refStRow_any v s W S (HV.out W hW) hs hf
  have HL : Hid ((selS s).length ≤ 100000) := Lib.hid (Nat.le_trans (cellsD_size _ _ _) hs.1)
  have HS0 : Hid (∀ (A B : Ps) W, Below W1.heap.size W1 W → Calls Tryz.prog 103 #[v, .agg #[.int .i64 A.line, .int .i64 A.col], .agg #[.int .i64 B.line, .int .i64 B.col], .int .i64 0, .int .i64 15] W (DocSaid (setD 0 15 s.lines A B) W)) := Lib.hid fun A B W hW => refDSet_any v s.lines A B 0 15 W S (HV.out W hW) hs hf
  have HR : Hid (changedS s (plainL s) = if mayS s = true then staysS s (if someL (selS s) 15 = true then setD 0 15 s.lines (spanS s).1 (spanS s).2 else ([], 7)) else (noS, 1)) := Lib.hid rfl
  obtain ⟨Z, hZ⟩ : ∃ Z, changedS s (plainL s) = Z := ⟨_, rfl⟩
  rw [hZ] at HR ⊢
  obtain ⟨L, hL⟩ : ∃ L, selS s = L := ⟨_, rfl⟩
  rw [hL] at HR HRo HL
  have HQ : Hid (∀ (a : Option Addr) (c : Nat) (W : World), CelsR false W (fun _ => True) (.slice a L.length c) L → Calls Tryz.prog 82 #[.slice a L.length c, .int .i64 0, .int .i64 L.length, .int .i64 15] W fun e w' => e = .returned (.bool (someL L 15)) ∧ w' = W) := Lib.hid fun a c W hv => refCSome_any _ L 15 W _ hv
  obtain ⟨p0, f0⟩ := blk k0
  obtain ⟨p1, f1⟩ := blk k1
  obtain ⟨va, vc, rfl⟩ := h.slice
  obtain ⟨A, B, hAB⟩ : ∃ A B, spanS s = (A, B) := ⟨_, _, rfl⟩
  rw [hAB] at HSp HR
  simp only at HSp HR
  generalize someL L 15 = tg at *
  generalize mayS s = m at *
  clear h hs hf ho hof hZ hAB hL k0 k1 hB
  cases m
  · have HR2 : Hid (Z = (noS, 1)) := Lib.hid (HR.out.trans (if_neg (by simp)))
    clear HR HS0
    go_enter Tryz.func39, Tryz.ntmps39
    go_wp2_with ((go_at_call 70; refine (HM.out _ hw0).mono ?_; rintro e w2 ⟨rfl, hst2⟩; have hb2 := below_from hw0 hst2; obtain ⟨q9, g9⟩ := blk (HB.out _ hb2).2))
    refine bodyPost_ret (results_st_e rfl _ _ (w.heap.size + 1) (.slice none 0 0) (.int .i64 0) (.int .i64 0) (.int .i64 0) (.int .i64 0) (.int .i64 0) (.int .i64 0) (.int .i64 1) rfl rfl (by simp [heap_set, putIn, (HB.out _ hb2).2])) rfl ?_
    unfold StSaid
    rw [HR2.out]
    have hfin := H1.out.trans (hb2.mono hs1)
    exact ⟨_, rfl, SliceR.nil _ _ _ _ _ _, by (repeat' (first | (with_reducible exact Below.refl _ _) | (with_reducible assumption) | (with_reducible refine Below.alloc ?_ ?_ _) | (with_reducible refine Below.drew ?_) | (with_reducible refine drewN_below ?_) | (with_reducible refine Below.setCell ?_ ?_ _) | go_size))⟩
  · have HR1 := Lib.hid (HR.out.trans (if_pos rfl))
    clear HR
    cases tg
    · have HR2 : Hid (Z = (noS, 7)) := Lib.hid (HR1.out.trans (by rw [if_neg (by simp)]; rfl))
      clear HR1 HS0
      go_enter Tryz.func39, Tryz.ntmps39
      go_wp2_with (first | (go_at_call 70; refine (HM.out _ hw0).mono ?_; rintro e w2 ⟨rfl, hst2⟩; have hb2 := below_from hw0 hst2; obtain ⟨q0, g0⟩ := blk (HB.out _ hb2).1) | (go_at_call 79; refine (HRo.out _ hb2).mono ?_; rintro e w4 ⟨v4, rfl, hv4, hst4⟩; have hb4 := below_from hb2 hst4; obtain ⟨a4, c4, rfl⟩ := hv4.slice; have HV4 : Hid (CelsR false w4 (fun _ => True) (.slice a4 L.length c4) L) := Lib.hid (SliceR.stable (rdOf_stable _) (SliceR.read (fun _ _ h => h) hv4) (Keeps.refl _ _) (fun _ _ _ => trivial)); clear hv4; obtain ⟨q4, g4⟩ := blk (HB.out _ hb4).1; obtain ⟨q5, g5⟩ := blk (HB.out _ hb4).2) | (go_at_call 82; refine (HQ.out _ _ _ HV4.out).mono ?_; rintro e w5 ⟨rfl, rfl⟩))
      refine bodyPost_ret (results_st_e rfl _ _ (w.heap.size + 1) (.slice none 0 0) (.int .i64 0) (.int .i64 0) (.int .i64 0) (.int .i64 0) (.int .i64 0) (.int .i64 0) (.int .i64 7) rfl rfl (by simp [heap_set, putIn, (HB.out _ hb4).2])) rfl ?_
      unfold StSaid
      rw [HR2.out]
      have hfin := H1.out.trans (hb4.mono hs1)
      exact ⟨_, rfl, SliceR.nil _ _ _ _ _ _, by (repeat' (first | (with_reducible exact Below.refl _ _) | (with_reducible assumption) | (with_reducible refine Below.alloc ?_ ?_ _) | (with_reducible refine Below.drew ?_) | (with_reducible refine drewN_below ?_) | (with_reducible refine Below.setCell ?_ ?_ _) | go_size))⟩
    · obtain ⟨D, er, hD⟩ : ∃ D er, setD 0 15 s.lines A B = (D, er) := ⟨_, _, rfl⟩
      have HS1 := Lib.hid (HS0.out A B)
      rw [hD] at HS1
      have HR3 : Hid (Z = staysS s (D, er)) := Lib.hid (HR1.out.trans (by rw [if_pos rfl, hD]))
      obtain ⟨Y, hY⟩ : ∃ Y, staysS s (D, er) = Y := ⟨_, rfl⟩
      rw [hY] at HR3
      have HY := Lib.hid hY
      clear hD HR1 hY HS0
      go_enter Tryz.func39, Tryz.ntmps39
      go_wp2_with (first
        | (go_at_call 70; refine (HM.out _ hw0).mono ?_; rintro e w2 ⟨rfl, hst2⟩; have hb2 := below_from hw0 hst2; obtain ⟨q0, g0⟩ := blk (HB.out _ hb2).1)
        | (go_at_call 79; refine (HRo.out _ hb2).mono ?_; rintro e w4 ⟨v4, rfl, hv4, hst4⟩; have hb4 := below_from hb2 hst4; obtain ⟨a4, c4, rfl⟩ := hv4.slice; have HV4 : Hid (CelsR false w4 (fun _ => True) (.slice a4 L.length c4) L) := Lib.hid (SliceR.stable (rdOf_stable _) (SliceR.read (fun _ _ h => h) hv4) (Keeps.refl _ _) (fun _ _ _ => trivial)); clear hv4; obtain ⟨q4, g4⟩ := blk (HB.out _ hb4).1; obtain ⟨q5, g5⟩ := blk (HB.out _ hb4).2) | (go_at_call 82; refine (HQ.out _ _ _ HV4.out).mono ?_; rintro e w5 ⟨rfl, rfl⟩)
        | (go_at_call 69; refine (HSp.out _ hb4).mono ?_; rintro e w3 ⟨rfl, hst3⟩; have hb3 := below_from hb4 hst3; obtain ⟨q1, g1⟩ := blk (HB.out _ hb3).1; have hz3 := hb3.size; have e3 : ¬ w3.heap.size = w.heap.size := (by omega); have r1 := on2 (HB.out _ hb3).1; have HX3 : Hid (∀ X Y, Below W1.heap.size W1 ((w3.alloc X).alloc Y)) := Lib.hid fun X Y => hb3.trans (below2 (Below.refl _ _) X Y |>.mono hz3))
        | (go_at_call 103; refine (HS1.out _ (HX3.out _ _)).mono ?_; intro e w7 hsaid; obtain ⟨v7, rfl, hv7, hst7⟩ := hsaid; obtain ⟨a7, c7, rfl⟩ := hv7.slice; have hb7 := below_from (HX3.out _ _) hst7; have HV7 : Hid (DocR true w7 (fun b => w.heap.size + 2 ≤ b) (.slice a7 D.length c7) D) := Lib.hid (SliceR.stable (rdLin_stable true) hv7 (Keeps.refl _ _) (fun b h _ => (by have h' := h; (try simp at h'); omega))); clear hv7; obtain ⟨q7, g7⟩ := blk (HB.out _ hb7).1; obtain ⟨q9, g9⟩ := blk (HB.out _ hb7).2)
        | (go_at_call 104; refine (refStays_any _ _ s (D, er) (w.heap.size + 2) _ HV7.out).mono ?_; rintro e w8 ⟨v8, rfl, hv8, hst8⟩; rw [HY.out] at hv8 ⊢; obtain ⟨a8, c8, rfl⟩ := hv8.slice; have hb8 := below_from hb7 hst8; have HV8 := Lib.hid hv8; clear hv8; obtain ⟨q8, g8⟩ := blk (HB.out _ hb8).2))
      refine bodyPost_ret (results_st_e rfl _ _ (w.heap.size + 1) (.slice a8 Y.1.lines.length c8) (.int .i64 Y.1.anc.line) (.int .i64 Y.1.anc.col) (.int .i64 Y.1.foc.line) (.int .i64 Y.1.foc.col) (.int .i64 Y.1.on) (.int .i64 Y.1.off) (.int .i64 Y.2) rfl rfl (by simp [heap_set, putIn, (HB.out _ hb8).2])) rfl ?_
      unfold StSaid
      rw [HR3.out]
      have hfin := H1.out.trans (hb8.mono hs1)
      have hv8 := HV8.out
      exact ⟨_, rfl, (SliceR.stable (rdLin_stable _) hv8 (by (repeat' (first | (with_reducible exact Keeps.refl _ _) | (with_reducible refine Keeps.set ?_ ?_ _) | (with_reducible refine Keeps.alloc ?_ _) | (with_reducible refine Keeps.drew ?_) | (first | (simp; done)) | (simp; omega)))) (fun b h _ => (by have h' := h; (try simp at h'); omega))), by (repeat' (first | (with_reducible exact Below.refl _ _) | (with_reducible assumption) | (with_reducible refine Below.alloc ?_ ?_ _) | (with_reducible refine Below.drew ?_) | (with_reducible refine drewN_below ?_) | (with_reducible refine Below.setCell ?_ ?_ _) | go_size))⟩
set_option maxRecDepth 100000 in
set_option maxHeartbeats 4000000 in
theorem refStUnlink_any (v : Value) (s : St) (w : World) (S : Nat → Prop) (h : LinsR w S v s.lines) (hs : Small s.lines) (hf : Fits s.lines) (ho : -9223372036854775808 ≤ s.on ∧ s.on ≤ 9223372036854775807) (hof : -9223372036854775808 ≤ s.off ∧ s.off ≤ 9223372036854775807) :
    Calls Tryz.prog 38 #[stV v s] w (StSaid (changedS s (unlinkL s)) w) := by
  obtain ⟨W1, hW1, hB, hz, k0, k1⟩ := st_two w v s
  have HB : Hid (∀ W, Below W1.heap.size W1 W → W.heap[w.heap.size]? = some (.cells #[v, .int .i64 s.anc.line, .int .i64 s.anc.col, .int .i64 s.foc.line, .int .i64 s.foc.col, .int .i64 s.on, .int .i64 s.off] 26) ∧ W.heap[w.heap.size + 1]? = some (.cells #[.slice none 0 0, .int .i64 0, .int .i64 0, .int .i64 0, .int .i64 0, .int .i64 0, .int .i64 0] 26)) := Lib.hid fun W hW => ⟨heap_below hW k0, heap_below hW k1⟩
  have hs1 := hB.size
  have H1 := Lib.hid hB
  have hw0 : Below W1.heap.size W1 W1 := Below.refl _ _
  have HV : Hid (∀ W, Below W1.heap.size W1 W → LinsR W S v s.lines) := Lib.hid fun W hW => h.below (rdLin_stable _) (hB.trans (hW.mono hs1))
  have HM : Hid (∀ W, Below W1.heap.size W1 W → Calls Tryz.prog 70 #[stV v s] W fun e w' => e = .returned (.bool (mayS s)) ∧ Below W.heap.size W w') := Lib.hid fun W hW => refStMay_any v s W S (HV.out W hW) hs ho hof
  have HSp : Hid (∀ W, Below W1.heap.size W1 W → Calls Tryz.prog 69 #[stV v s] W fun e w' => e = .returned (.tuple #[.agg #[.int .i64 (spanS s).1.line, .int .i64 (spanS s).1.col], .agg #[.int .i64 (spanS s).2.line, .int .i64 (spanS s).2.col]]) ∧ Below W.heap.size W w') := Lib.hid fun W _ => refStSpan_any v s W
  have HH : Hid (mayS s = true → ∀ W, Below W1.heap.size W1 W → Calls Tryz.prog 88 #[stV v s] W fun e w' => e = .returned (.tuple #[.agg #[.int .i64 (handS s).1.line, .int .i64 (handS s).1.col], .agg #[.int .i64 (handS s).2.line, .int .i64 (handS s).2.col]]) ∧ Below W.heap.size W w') := Lib.hid fun hm W hW => refStHand_any v s W S (HV.out W hW) hf (mayS_at hm).2.1
  have HS0 : Hid (∀ (A B : Ps) W, Below W1.heap.size W1 W → Calls Tryz.prog 106 #[v, .agg #[.int .i64 A.line, .int .i64 A.col], .agg #[.int .i64 B.line, .int .i64 B.col], .string ⟨#[]⟩] W (DocSaid (linkD [] s.lines A B) W)) := Lib.hid fun A B W hW => refDLink_any v s.lines A B [] W S (HV.out W hW) hs hf (by simp)
  have HC0 : Hid (∀ (A B : Ps) W, Below W1.heap.size W1 W → Calls Tryz.prog 89 #[v, .agg #[.int .i64 A.line, .int .i64 A.col], .agg #[.int .i64 B.line, .int .i64 B.col]] W fun e w' => ∃ v', e = .returned v' ∧ CelsR true w' (fun b => W.heap.size ≤ b) v' (cellsD s.lines A B) ∧ Below W.heap.size W w') := Lib.hid fun A B W hW => refCells_any v s.lines A B W S (HV.out W hW) hs hf
  have HL : Hid (∀ A B : Ps, (cellsD s.lines A B).length ≤ 100000) := Lib.hid fun A B => Nat.le_trans (cellsD_size _ _ _) hs.1
  have HR : Hid (changedS s (unlinkL s) = if mayS s = true then staysS s (if (cellsD s.lines (handS s).1 (handS s).2).any (fun c => decide (c.href ≠ [])) = true then linkD [] s.lines (handS s).1 (handS s).2 else ([], 7)) else (noS, 1)) := Lib.hid rfl
  obtain ⟨Z, hZ⟩ : ∃ Z, changedS s (unlinkL s) = Z := ⟨_, rfl⟩
  rw [hZ] at HR ⊢
  obtain ⟨p0, f0⟩ := blk k0
  obtain ⟨p1, f1⟩ := blk k1
  obtain ⟨va, vc, rfl⟩ := h.slice
  obtain ⟨A, B, hAB⟩ : ∃ A B, handS s = (A, B) := ⟨_, _, rfl⟩
  rw [hAB] at HH HR
  simp only at HH HR
  generalize mayS s = m at *
  clear h hs hf ho hof hZ hAB k0 k1 hB
  cases m
  · have HR2 : Hid (Z = (noS, 1)) := Lib.hid (HR.out.trans (if_neg (by simp)))
    clear HR HS0 HH
    go_enter Tryz.func38, Tryz.ntmps38
    go_wp2_with ((go_at_call 70; refine (HM.out _ hw0).mono ?_; rintro e w2 ⟨rfl, hst2⟩; have hb2 := below_from hw0 hst2; obtain ⟨q9, g9⟩ := blk (HB.out _ hb2).2))
    refine bodyPost_ret (results_st_e rfl _ _ (w.heap.size + 1) (.slice none 0 0) (.int .i64 0) (.int .i64 0) (.int .i64 0) (.int .i64 0) (.int .i64 0) (.int .i64 0) (.int .i64 1) rfl rfl (by simp [heap_set, putIn, (HB.out _ hb2).2])) rfl ?_
    unfold StSaid
    rw [HR2.out]
    have hfin := H1.out.trans (hb2.mono hs1)
    exact ⟨_, rfl, SliceR.nil _ _ _ _ _ _, by (repeat' (first | (with_reducible exact Below.refl _ _) | (with_reducible assumption) | (with_reducible refine Below.alloc ?_ ?_ _) | (with_reducible refine Below.drew ?_) | (with_reducible refine drewN_below ?_) | (with_reducible refine Below.setCell ?_ ?_ _) | go_size))⟩
  · have HR1 := Lib.hid (HR.out.trans (if_pos rfl))
    have HH2 := Lib.hid (HH.out rfl)
    have HC := Lib.hid (HC0.out A B)
    have HL2 := Lib.hid (HL.out A B)
    clear HH HL
    obtain ⟨D, er, hD⟩ : ∃ D er, linkD [] s.lines A B = (D, er) := ⟨_, _, rfl⟩
    have HS1 := Lib.hid (HS0.out A B)
    rw [hD] at HS1 HR1
    obtain ⟨Y, hY⟩ : ∃ Y, staysS s (D, er) = Y := ⟨_, rfl⟩
    have HY := Lib.hid hY
    obtain ⟨L, hL⟩ : ∃ L, cellsD s.lines A B = L := ⟨_, rfl⟩
    rw [hL] at HC HL2 HR1
    clear hD hY hL HR HS0 HC0 HSp
    go_enter Tryz.func38, Tryz.ntmps38
    go_wp2_with (first
      | (go_at_call 70; refine (HM.out _ hw0).mono ?_; rintro e w2 ⟨rfl, hst2⟩; have hb2 := below_from hw0 hst2; obtain ⟨q0, g0⟩ := blk (HB.out _ hb2).1)
      | (go_at_call 88; refine (HH2.out _ hb2).mono ?_; rintro e w3 ⟨rfl, hst3⟩; have hb3 := below_from hb2 hst3; obtain ⟨q1, g1⟩ := blk (HB.out _ hb3).1; have hz3 := hb3.size; have e3 : ¬ w3.heap.size = w.heap.size := (by omega); have r1 := on2 (HB.out _ hb3).1; have HX3 : Hid (∀ X Y, Below W1.heap.size W1 ((w3.alloc X).alloc Y)) := Lib.hid fun X Y => hb3.trans (below2 (Below.refl _ _) X Y |>.mono hz3))
      | (go_at_call 89; refine (HC.out _ (HX3.out _ _)).mono ?_; rintro e w4 ⟨v4, rfl, hv4, hst4⟩; have hb4 := below_from (HX3.out _ _) hst4; obtain ⟨a4, c4, rfl, hc4, hm4, hx4⟩ := cels_shape (SliceR.read (fun _ _ h => h) hv4); have HX4 := Lib.hid hx4; clear hv4 hx4; have n5 := heap_below hst4 (heap_old _ (.cells #[.int .i64 B.line, .int .i64 B.col] 24) (heap_new w3 (.cells #[.int .i64 A.line, .int .i64 A.col] 24) rfl)); have n6 := heap_below hst4 (heap_new (w3.alloc (.cells #[.int .i64 A.line, .int .i64 A.col] 24)) (.cells #[.int .i64 B.line, .int .i64 B.col] 24) (B := w3.heap.size + 1) (by simp)); obtain ⟨q4, g4⟩ := blk (HB.out _ hb4).1; obtain ⟨q5, g5⟩ := blk (HB.out _ hb4).2; obtain ⟨q6, g6⟩ := blk n5; obtain ⟨q7, g7⟩ := blk n6))
    unfold maxLen at hm4
    have HLL := HL2.out
    go_loopw [7, 8] (fun a i wr => ∃ k : Nat, k ≤ L.length ∧ i = .int .i64 k ∧ a = .bool ((L.take k).any fun c => decide (c.href ≠ [])) ∧ w4 = wr) (fun _ i _ => L.length - (intOf i).toNat)
    case atStart => exact ⟨0, Nat.zero_le _, rfl, rfl, rfl⟩
    case round =>
      obtain ⟨k, hk, rfl, rfl, rfl⟩ := hrel
      by_cases hlt : k < L.length
      · obtain ⟨x, hx, hd⟩ := getOf L k hlt
        obtain ⟨b, o, rfl, hz', c0, c1, c2⟩ := HX4.out k x hx
        have HT : Hid (((L.take (k + 1)).any fun c => decide (c.href ≠ [])) = (((L.take k).any fun c => decide (c.href ≠ [])) || !x.href.isEmpty)) := Lib.hid (by
          rw [take_some hx, List.any_append, List.any_cons, List.any_nil, Bool.or_false]
          congr 1
          cases x.href <;> rfl)
        obtain ⟨q, hq⟩ : ∃ q, ((L.take k).any fun c => decide (c.href ≠ [])) = q := ⟨_, rfl⟩
        rw [hq] at HT ⊢
        clear hx hd c0 c1 hq
        obtain ⟨z, hz⟩ : ∃ z, x.href.isEmpty = z := ⟨_, rfl⟩
        rw [hz] at HT
        cases q
        all_goals
          cases z
          all_goals
            go_wp2_with fail
            go_roundw
            case rel => exact ⟨k + 1, hlt, by go_num, by rw [HT.out]; rfl, by simp⟩
            case measure => simp [intOf]; omega
      · obtain rfl : k = L.length := by omega
        rw [List.take_length]
        obtain ⟨q, hq⟩ : ∃ q, (L.any fun c => decide (c.href ≠ [])) = q := ⟨_, rfl⟩
        rw [hq] at HR1 ⊢
        clear hq
        cases q
        · have HR2 : Hid (Z = (noS, 7)) := Lib.hid (HR1.out.trans (by rw [if_neg (by simp)]; rfl))
          clear HR1
          go_wp2_with fail
          refine bodyPost_ret (results_st_e rfl _ _ (w.heap.size + 1) (.slice none 0 0) (.int .i64 0) (.int .i64 0) (.int .i64 0) (.int .i64 0) (.int .i64 0) (.int .i64 0) (.int .i64 7) rfl rfl (by simp [heap_set, putIn, (HB.out _ hb4).2])) rfl ?_
          unfold StSaid
          rw [HR2.out]
          have hfin := H1.out.trans (hb4.mono hs1)
          exact ⟨_, rfl, SliceR.nil _ _ _ _ _ _, by (repeat' (first | (with_reducible exact Below.refl _ _) | (with_reducible assumption) | (with_reducible refine Below.alloc ?_ ?_ _) | (with_reducible refine Below.drew ?_) | (with_reducible refine drewN_below ?_) | (with_reducible refine Below.setCell ?_ ?_ _) | go_size))⟩
        · have HR3 : Hid (Z = Y) := Lib.hid (HR1.out.trans (by rw [if_pos rfl]; exact HY.out))
          clear HR1
          have hz4 := hb4.size
          go_wp2_with (first
            | (go_at_call 106; refine (HS1.out _ hb4).mono ?_; intro e w7 hsaid; obtain ⟨v7, rfl, hv7, hst7⟩ := hsaid; obtain ⟨a7, c7, rfl⟩ := hv7.slice; have hb7 := below_from hb4 hst7; have HV7 : Hid (DocR true w7 (fun b => w.heap.size + 2 ≤ b) (.slice a7 D.length c7) D) := Lib.hid (SliceR.stable (rdLin_stable true) hv7 (Keeps.refl _ _) (fun b h _ => (by have h' := h; (try simp at h'); omega))); clear hv7; obtain ⟨q8, g8⟩ := blk (HB.out _ hb7).1; obtain ⟨q10, g10⟩ := blk (HB.out _ hb7).2)
            | (go_at_call 104; refine (refStays_any _ _ s (D, er) (w.heap.size + 2) _ HV7.out).mono ?_; rintro e w8 ⟨v8, rfl, hv8, hst8⟩; rw [HY.out] at hv8 ⊢; obtain ⟨a8, c8, rfl⟩ := hv8.slice; have hb8 := below_from hb7 hst8; have HV8 := Lib.hid hv8; clear hv8; obtain ⟨q11, g11⟩ := blk (HB.out _ hb8).2))
          refine bodyPost_ret (results_st_e rfl _ _ (w.heap.size + 1) (.slice a8 Y.1.lines.length c8) (.int .i64 Y.1.anc.line) (.int .i64 Y.1.anc.col) (.int .i64 Y.1.foc.line) (.int .i64 Y.1.foc.col) (.int .i64 Y.1.on) (.int .i64 Y.1.off) (.int .i64 Y.2) rfl rfl (by simp [heap_set, putIn, (HB.out _ hb8).2])) rfl ?_
          unfold StSaid
          rw [HR3.out]
          have hfin := H1.out.trans (hb8.mono hs1)
          have hv8 := HV8.out
          exact ⟨_, rfl, (SliceR.stable (rdLin_stable _) hv8 (by (repeat' (first | (with_reducible exact Keeps.refl _ _) | (with_reducible refine Keeps.set ?_ ?_ _) | (with_reducible refine Keeps.alloc ?_ _) | (with_reducible refine Keeps.drew ?_) | (first | (simp; done)) | (simp; omega)))) (fun b h _ => (by have h' := h; (try simp at h'); omega))), by (repeat' (first | (with_reducible exact Below.refl _ _) | (with_reducible assumption) | (with_reducible refine Below.alloc ?_ ?_ _) | (with_reducible refine Below.drew ?_) | (with_reducible refine drewN_below ?_) | (with_reducible refine Below.setCell ?_ ?_ _) | go_size))⟩
end Go.Proofs.YtpndnbjpnajaaaaGreatDoor
namespace Go.Proofs.Qw
open Go.RowKit Go.Proofs.YtpndnbjpnajaaaaGreatDoor
def exL (b c : Int) (h k : List UInt8) : Doc := [⟨0, [], 0, [⟨97, b, h⟩, ⟨98, c, k⟩]⟩]
def exA : St := ⟨exL 0 1 [] [], ⟨0, 0⟩, ⟨0, 2⟩, 0, 0⟩
def exB : St := ⟨exL 1 1 [] [], ⟨0, 0⟩, ⟨0, 2⟩, 0, 0⟩
def exC : St := ⟨exL 0 0 [] [], ⟨0, 0⟩, ⟨0, 2⟩, 0, 0⟩
def exX : List UInt8 := [120]
def exD : St := ⟨exL 0 1 exX exX, ⟨0, 0⟩, ⟨0, 2⟩, 0, 0⟩
def exE : St := ⟨exL 0 1 [] [], ⟨0, 2⟩, ⟨0, 2⟩, 0, 0⟩
def exF : St := ⟨exL 0 1 [] [], ⟨0, 2⟩, ⟨0, 2⟩, 0, 1⟩
theorem exA_tog : toggleS exA 1 = (exB, 0) := by decide +kernel
theorem exB_tog : toggleS exB 1 = (exC, 0) := by decide +kernel
theorem exA_link : changedS exA (linkL exA [120]) = (exD, 0) := by decide +kernel
theorem exA_off : changedS exA (linkL exA [32, 120]) = (noS, 1) := by decide +kernel
theorem exE_tog : toggleS exE 1 = (exF, 0) := by decide +kernel
theorem exD_href : hrefS exD = [120] := by decide +kernel
theorem exE_bits : bitsS exE = 1 := by decide +kernel
theorem exF_bits : bitsS exF = 0 := by decide +kernel
end Go.Proofs.Qw
