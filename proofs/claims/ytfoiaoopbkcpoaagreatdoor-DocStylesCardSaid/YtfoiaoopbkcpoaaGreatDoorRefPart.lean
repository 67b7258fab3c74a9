/- The walks of the reference's Span, From, Part, Count, Cells. -/
import Derived.Test.YtfoiaoopbkcpoaaGreatDoorRefMay
import Derived.Test.YtfoiaoopbkcpoaaGreatDoorRefOwn
import Derived.Test.YtfoiaoopbkcpoaaGreatDoorRefPlace
import Derived.Test.YtfoiaoopbkcpoaaGreatDoorDocEach
namespace Go.Proofs.YtfoiaoopbkcpoaaGreatDoor
open Go.RowKit
open Go.Proofs.Qw
set_option maxHeartbeats 1000000 in
theorem refSpan_any (v : Value) (d : Doc) (a b : Ps) (w : World) (S : Nat → Prop) (h : LinsR w S v d) (hs : Small d) :
    Calls Tryz.prog 72 #[v, posV a, posV b] w fun e w' => e = .returned (.bool (spanD d a b)) ∧ Below w.heap.size w w' := by
  obtain ⟨W1, hW1, hB, hz, hA1, hA2⟩ := two_pos w (.int .i64 a.line) (.int .i64 a.col) (.int .i64 b.line) (.int .i64 b.col)
  have hs1 := hB.size
  have hv := h.below (rdLin_stable _) hB
  have HC1 := Lib.hid (refMay_any v d W1 S hv hs)
  have HC2 : Hid (∀ p W, Below W1.heap.size W1 W → Calls Tryz.prog 20 #[v, posV p] W fun e w' => e = .returned (.bool (isD d p)) ∧ Below W.heap.size W w') := Lib.hid fun p W hW => refIs_any v d p W S (hv.below (rdLin_stable _) hW)
  have HC3 : Hid (∀ W, Calls Tryz.prog 24 #[posV a, posV b] W fun e w' => e = .returned (.int .i64 (cmpP a b)) ∧ Below W.heap.size W w') := Lib.hid fun W => refCmp_any a b W
  have HB : Hid (∀ W, Below W1.heap.size W1 W → W.heap[w.heap.size]? = some (.cells #[.int .i64 a.line, .int .i64 a.col] 24) ∧ W.heap[w.heap.size + 1]? = some (.cells #[.int .i64 b.line, .int .i64 b.col] 24)) := Lib.hid fun W hW => ⟨heap_below hW hA1, heap_below hW hA2⟩
  have HE : Hid (spanD d a b = (mayD d && (isD d a && (isD d b && decide (cmpP a b ≤ 0))))) := Lib.hid (by unfold spanD; rw [Bool.and_assoc, Bool.and_assoc])
  have HP : Hid (∀ p : Ps, posV p = .agg #[.int .i64 p.line, .int .i64 p.col]) := Lib.hid fun _ => rfl
  have H1 := Lib.hid hB
  obtain ⟨va, vc, rfl⟩ := h.slice
  clear h hs hz hA1 hA2 hB hv
  rw [HP.out a, HP.out b]
  generalize spanD d a b = r at *
  generalize mayD d = x at *
  generalize cmpP a b = u at *
  go_enter Tryz.func72, Tryz.ntmps72
  go_wp2_with (first
    | (go_at_call 14; refine HC1.out.mono ?_; rintro e w2 ⟨rfl, hb2⟩; obtain ⟨p3, f3⟩ := blk (HB.out _ hb2).1; obtain ⟨p4, f4⟩ := blk (HB.out _ hb2).2; cases x)
    | (go_at_call 20; refine (HC2.out _ _ (by assumption)).mono ?_; rintro e w3 ⟨rfl, hb3⟩; have hx3 : Below W1.heap.size W1 w3 := below_from (by assumption) hb3; clear hb3; obtain ⟨p5, f5⟩ := blk (HB.out _ hx3).1; obtain ⟨p6, f6⟩ := blk (HB.out _ hx3).2)
    | (go_at_call 24; refine (HC3.out _).mono ?_; rintro e w5 ⟨rfl, hb5⟩; have hx5 : Below W1.heap.size W1 w5 := below_from (by assumption) hb5; clear hb5))
  all_goals
    go_ret
    refine ⟨?_, H1.out.trans (Below.mono (by assumption) hs1)⟩
    rw [HE.out]
    refine congrArg Ending.returned (congrArg Value.bool ?_)
    clear HE HC1 HC2 HC3 HB HP H1
    simp (config := { failIfUnchanged := false }) [*]

set_option maxRecDepth 100000 in
set_option maxHeartbeats 2000000 in
theorem refFrom_any (v : Value) (d : Doc) (i p j q k : Nat) (w : World) (S : Nat → Prop) (h : LinsR w S v d) (hk : k < d.length) :
    Calls Tryz.prog 74 #[v, posV ⟨i, p⟩, posV ⟨j, q⟩, .int .i64 k] w fun e w' => e = .returned (.tuple #[.int .i64 (rowB d i p j q k).2.1, .int .i64 (rowB d i p j q k).2.2]) ∧ Below w.heap.size w w' := by
  obtain ⟨l, hl, _⟩ := getOf d k hk
  obtain ⟨W1, hW1, hB, hz, hA1, hA2⟩ := two_pos w (.int .i64 i) (.int .i64 p) (.int .i64 j) (.int .i64 q)
  have HB : Hid (∀ W, Below W1.heap.size W1 W → W.heap[w.heap.size]? = some (.cells #[.int .i64 i, .int .i64 p] 24) ∧ W.heap[w.heap.size + 1]? = some (.cells #[.int .i64 j, .int .i64 q] 24)) := Lib.hid fun W hW => ⟨heap_below hW hA1, heap_below hW hA2⟩
  have HR := Lib.hid (rowB_len d (i := i) (p := p) (j := j) (q := q) hl)
  have HP : Hid (∀ p : Ps, posV p = .agg #[.int .i64 p.line, .int .i64 p.col]) := Lib.hid fun _ => rfl
  have H1 := Lib.hid hB
  have hs1 := hB.size
  obtain ⟨va, vc, rfl, hvc, hvm, hx⟩ := lins_shape (h.below (rdLin_stable _) hB)
  obtain ⟨b, o, la, lc, ca, cc, rfl, hA⟩ := hx k l hl
  obtain ⟨_, _, _, _, c3, _, _⟩ := hA
  unfold maxLen at hvm
  have i0 : (0 : Int) ≤ (k : Int) := Int.natCast_nonneg _
  have i1 : (k : Int) < (d.length : Int) := by omega
  obtain ⟨p1, f1⟩ := blk hA1
  obtain ⟨p2, f2⟩ := blk hA2
  clear hx h hl hA1 hA2 hB
  rw [HP.out, HP.out]
  rcases (show k = i ∧ k = j ∨ k = i ∧ ¬ k = j ∨ ¬ k = i ∧ k = j ∨ ¬ k = i ∧ ¬ k = j by omega) with ⟨e1, e2⟩ | ⟨e1, e2⟩ | ⟨e1, e2⟩ | ⟨e1, e2⟩
  · have HR2 : Hid (rowB d i p j q k = (k, _, _)) := Lib.hid (HR.out.trans (by rw [if_pos e1, if_pos e2]))
    have hq1 : ((k : Int) == (i : Int)) = true := by simp; omega
    have hq2 : ((k : Int) == (j : Int)) = true := by simp; omega
    clear e1 e2 HR
    go_enter Tryz.func74, Tryz.ntmps74
    go_wp2_with fail
    go_quiet (fail)
    have hk1 : Below W1.heap.size W1 (W1.drewN nq) := drewN_below (Below.refl _ _)
    obtain ⟨W2, hW2⟩ : ∃ W2, W1.drewN nq = W2 := ⟨_, rfl⟩
    rw [hW2] at hk1 ⊢
    clear p1 f1 p2 f2
    obtain ⟨p1, f1⟩ := blk (HB.out _ hk1).1
    obtain ⟨p2, f2⟩ := blk (HB.out _ hk1).2
    go_wp2_with fail
    go_ret2
    rw [HR2.out]
    exact ⟨rfl, H1.out.trans (hk1.mono hs1)⟩
  · have HR2 : Hid (rowB d i p j q k = (k, _, _)) := Lib.hid (HR.out.trans (by rw [if_pos e1, if_neg e2]))
    have hq1 : ((k : Int) == (i : Int)) = true := by simp; omega
    have hq2 : ((k : Int) == (j : Int)) = false := by simp; omega
    clear e1 e2 HR
    go_enter Tryz.func74, Tryz.ntmps74
    go_wp2_with fail
    go_quiet (fail)
    have hk1 : Below W1.heap.size W1 (W1.drewN nq) := drewN_below (Below.refl _ _)
    obtain ⟨W2, hW2⟩ : ∃ W2, W1.drewN nq = W2 := ⟨_, rfl⟩
    rw [hW2] at hk1 ⊢
    clear p1 f1 p2 f2
    obtain ⟨p1, f1⟩ := blk (HB.out _ hk1).1
    obtain ⟨p2, f2⟩ := blk (HB.out _ hk1).2
    go_wp2_with fail
    go_ret2
    rw [HR2.out]
    exact ⟨rfl, H1.out.trans (hk1.mono hs1)⟩
  · have HR2 : Hid (rowB d i p j q k = (k, _, _)) := Lib.hid (HR.out.trans (by rw [if_neg e1, if_pos e2]))
    have hq1 : ((k : Int) == (i : Int)) = false := by simp; omega
    have hq2 : ((k : Int) == (j : Int)) = true := by simp; omega
    clear e1 e2 HR
    go_enter Tryz.func74, Tryz.ntmps74
    go_wp2_with fail
    go_quiet (fail)
    have hk1 : Below W1.heap.size W1 (W1.drewN nq) := drewN_below (Below.refl _ _)
    obtain ⟨W2, hW2⟩ : ∃ W2, W1.drewN nq = W2 := ⟨_, rfl⟩
    rw [hW2] at hk1 ⊢
    clear p1 f1 p2 f2
    obtain ⟨p1, f1⟩ := blk (HB.out _ hk1).1
    obtain ⟨p2, f2⟩ := blk (HB.out _ hk1).2
    go_wp2_with fail
    go_ret2
    rw [HR2.out]
    exact ⟨rfl, H1.out.trans (hk1.mono hs1)⟩
  · have HR2 : Hid (rowB d i p j q k = (k, _, _)) := Lib.hid (HR.out.trans (by rw [if_neg e1, if_neg e2]))
    have hq1 : ((k : Int) == (i : Int)) = false := by simp; omega
    have hq2 : ((k : Int) == (j : Int)) = false := by simp; omega
    clear e1 e2 HR
    go_enter Tryz.func74, Tryz.ntmps74
    go_wp2_with fail
    go_quiet (fail)
    have hk1 : Below W1.heap.size W1 (W1.drewN nq) := drewN_below (Below.refl _ _)
    obtain ⟨W2, hW2⟩ : ∃ W2, W1.drewN nq = W2 := ⟨_, rfl⟩
    rw [hW2] at hk1 ⊢
    clear p1 f1 p2 f2
    obtain ⟨p1, f1⟩ := blk (HB.out _ hk1).1
    obtain ⟨p2, f2⟩ := blk (HB.out _ hk1).2
    go_wp2_with fail
    go_ret2
    rw [HR2.out]
    exact ⟨rfl, H1.out.trans (hk1.mono hs1)⟩

theorem src_at {P : Program} {st t : TypeId} {k : Nat} (hT : RowT P st t k) (w : World) (l : List Value) (hl : l.length = k) (h1 : ∀ u ∈ l, u.oneCell' = true) (c : Nat) {B : Nat} (hB : B = w.heap.size) : Src P k st (.slice (some ⟨B, 0, none⟩) 1 c) 1 l (w.alloc (.cells l.toArray t)) := hB ▸ src_one hT w l hl h1 c
/-- A part of a line, with its frame; the lines between two places. -/
def partOf (d : Doc) (x : Nat × Nat × Nat) : Lin := { (d.getD x.1 default) with cells := cellsB d x }
def partD (d : Doc) (a b : Ps) : Doc × Int := if spanD d a b = true then ((rowsTo d a.line.toNat a.col.toNat b.line.toNat b.col.toNat (b.line.toNat + 1)).map (partOf d), 0) else ([], 1)
theorem partOf_at {d : Doc} {x : Nat × Nat × Nat} {l : Lin} (h : d[x.1]? = some l) : partOf d x = { l with cells := (l.cells.drop x.2.1).take (x.2.2 - x.2.1) } := by
  unfold partOf
  rw [cellsB_at h]
  simp [List.getD, h]
theorem sizeD_parts (d : Doc) : ∀ xs : List (Nat × Nat × Nat), sizeD (xs.map (partOf d)) = (cellsL d xs).length
  | [] => rfl
  | x :: xs => by
    have ih := sizeD_parts d xs
    simp only [sizeD, List.map_cons, List.sum_cons, cellsL, List.flatMap_cons, List.length_append] at ih ⊢
    rw [ih]
    rfl
theorem flat_parts (d : Doc) (xs : List (Nat × Nat × Nat)) : (xs.map (partOf d)).flatMap (·.cells) = cellsL d xs := by
  unfold cellsL
  rw [List.flatMap_map]
  rfl

set_option maxRecDepth 100000 in
set_option maxHeartbeats 8000000 in
theorem refPart_any (v : Value) (d : Doc) (a b : Ps) (w : World) (S : Nat → Prop) (h : LinsR w S v d) (hs : Small d) (hf : Fits d) :
    Calls Tryz.prog 52 #[v, posV a, posV b] w (DocSaid (partD d a b) w) := by
  obtain ⟨W1, hW1, hB, hz, hA1, hA2⟩ := two_pos w (.int .i64 a.line) (.int .i64 a.col) (.int .i64 b.line) (.int .i64 b.col)
  have hv := h.below (rdLin_stable _) hB
  have HC1 := Lib.hid (refSpan_any v d a b W1 S hv hs)
  have HB : Hid (∀ W, Below W1.heap.size W1 W → W.heap[w.heap.size]? = some (.cells #[.int .i64 a.line, .int .i64 a.col] 24) ∧ W.heap[w.heap.size + 1]? = some (.cells #[.int .i64 b.line, .int .i64 b.col] 24)) := Lib.hid fun W hW => ⟨heap_below hW hA1, heap_below hW hA2⟩
  have HP : Hid (∀ p : Ps, posV p = .agg #[.int .i64 p.line, .int .i64 p.col]) := Lib.hid fun _ => rfl
  have H1 := Lib.hid hB
  have HL := Lib.hid hv
  have HF := Lib.hid hf
  have hlen := hf.1
  have hs1 := hB.size
  obtain ⟨p1, f1⟩ := blk hA1
  obtain ⟨p2, f2⟩ := blk hA2
  obtain ⟨va, vc, rfl⟩ := h.slice
  clear h hs hf hA1 hA2 hB hv
  cases hsp : spanD d a b
  · have HR : Hid (partD d a b = ([], 1)) := Lib.hid (by unfold partD; rw [hsp]; rfl)
    rw [hsp] at HC1
    clear hsp
    rw [HP.out a, HP.out b] at HC1 ⊢
    go_enter Tryz.func52, Tryz.ntmps52
    go_wp2_with (go_at_call 72; refine HC1.out.mono ?_; rintro e w2 ⟨rfl, hb2⟩)
    go_ret2
    unfold DocSaid
    rw [HR.out]
    exact ⟨_, rfl, SliceR.nil _ _ _ _ _ _, H1.out.trans (hb2.mono hs1)⟩
  obtain ⟨_, i, j, p, q, l, m, rfl, rfl, hl, hm, hp, hq, hij, hpq⟩ := span_at hsp
  have hjl := (List.getElem?_eq_some_iff.1 hm).1
  have HR : Hid (partD d ⟨i, p⟩ ⟨j, q⟩ = ((rowsTo d i p j q (j + 1)).map (partOf d), 0)) := Lib.hid (by unfold partD; rw [hsp, if_pos rfl]; rfl)
  have HOK : Hid (∀ k, i ≤ k → k ≤ j → RowOk d (rowB d i p j q k)) := Lib.hid fun k h1 h2 => rowB_ok hl hm hp hq hpq h1 h2
  rw [hsp] at HC1
  clear hsp hl hm hp hq hpq
  rw [HP.out, HP.out] at HC1 ⊢
  have HFR : Hid (∀ k W, k < d.length → Below W1.heap.size W1 W → Calls Tryz.prog 74 #[.slice va d.length vc, .agg #[.int .i64 i, .int .i64 p], .agg #[.int .i64 j, .int .i64 q], .int .i64 k] W fun e w' => e = .returned (.tuple #[.int .i64 (rowB d i p j q k).2.1, .int .i64 (rowB d i p j q k).2.2]) ∧ Below W.heap.size W w') := Lib.hid fun k W hk hW => refFrom_any _ d i p j q k W S (HL.out.below (rdLin_stable _) hW) hk
  go_enter Tryz.func52, Tryz.ntmps52
  go_wp2_with (go_at_call 72; refine HC1.out.mono ?_; rintro e w2 ⟨rfl, hb2⟩; obtain ⟨q1, g1⟩ := blk (HB.out _ hb2).1; obtain ⟨q2, g2⟩ := blk (HB.out _ hb2).2)
  clear p1 f1 p2 f2 q1 g1 q2 g2 hW1
  go_loopw [8, 9] (fun out z wr => ∃ k : Nat, i ≤ k ∧ k ≤ j + 1 ∧ z = .int .i64 k ∧ Hid (DocR true wr (fun b => W1.heap.size ≤ b) out ((rowsTo d i p j q k).map (partOf d))) ∧ Below W1.heap.size W1 wr) (fun _ z _ => j + 1 - (intOf z).toNat)
  case atStart => exact ⟨i, Nat.le_refl _, by omega, rfl, Lib.hid (by rw [rowsTo_nil]; exact SliceR.nil _ _ _ _ _ _), hb2⟩
  case round =>
    obtain ⟨k, hk1, hk2, rfl, HO, hb⟩ := hrel
    obtain ⟨p1, f1⟩ := blk (HB.out _ hb).1
    obtain ⟨p2, f2⟩ := blk (HB.out _ hb).2
    by_cases hlt : k ≤ j
    · obtain ⟨ln, hln, _⟩ := getOf d k (by omega)
      have hfl := HF.out.2 ln (List.mem_of_getElem? hln)
      obtain ⟨ln', hln', hft, htl⟩ := HOK.out k hk1 hlt
      have hln' : d[k]? = some ln' := hln'
      rw [hln] at hln'
      cases hln'
      have HT : Hid ((rowsTo d i p j q (k + 1)).map (partOf d) = (rowsTo d i p j q k).map (partOf d) ++ [{ ln with cells := (ln.cells.drop (rowB d i p j q k).2.1).take ((rowB d i p j q k).2.2 - (rowB d i p j q k).2.1) }]) := Lib.hid (by
        rw [rowsTo_step d hk1, List.map_append, List.map_singleton, partOf_at (x := rowB d i p j q k) hln])
      have HFK := Lib.hid (fun W hW => HFR.out k W (by omega) hW)
      obtain ⟨xf, hxf⟩ : ∃ z, (rowB d i p j q k).2.1 = z := ⟨_, rfl⟩
      obtain ⟨xt, hxt⟩ : ∃ z, (rowB d i p j q k).2.2 = z := ⟨_, rfl⟩
      rw [hxf, hxt] at HFK HT hft
      rw [hxt] at htl
      obtain ⟨va', vc', hve, hvc, hvm, hx⟩ := lins_shape HL.out
      cases hve
      obtain ⟨b1, o1, la, lc, ca, cc, rfl, hAk⟩ := hx k ln hln
      have HAK := Lib.hid hAk
      have hccl := hAk.cellsR.len
      obtain ⟨row, hrow⟩ : ∃ row, (ln.cells.drop xf).take (xt - xf) = row := ⟨_, rfl⟩
      have hrl : row.length = xt - xf := by rw [← hrow, List.length_take, List.length_drop]; omega
      rw [hrow] at HT
      have HFM : Hid (∀ W, Below W1.heap.size W1 W → Calls Tryz.prog 45 #[linV ln (.slice la ln.lists.length lc) (.slice ca ln.cells.length cc)] W fun e w' => ∃ a', e = .returned (linV ln a' (.slice none 0 0)) ∧ IntsR true w' (fun b => W.heap.size ≤ b) a' ln.lists ∧ Below W.heap.size W w') := Lib.hid fun W hW => refFrame_any ln _ _ false false W S (hAk.below hW).listsR (hAk.below hW).cellsR hfl.1
      have hpair : ∃ X, Hid (∀ W', Below W1.heap.size W1 W' → Calls Tryz.prog 50 #[.slice X (xt - xf) (cc - xf)] W' fun e w' => ∃ v', e = .returned v' ∧ CelsR true w' (fun b => W'.heap.size ≤ b) v' row ∧ Below W'.heap.size W' w') ∧ ((cc = xf ∧ ca = X) ∨ (¬ cc = xf ∧ ca.map (·.add (xf * 3)) = X)) := by
        have hh : ∀ W', Below W1.heap.size W1 W' → CelsR false W' S (sliced ca xf xt cc 3) row := fun W' hW => by
          rw [← hrow]
          exact (hAk.below hW).cellsR.part (i := xf) (j := xt) (m := cc) hft htl (by omega) (Nat.le_refl _)
        by_cases hcq : cc = xf
        · exact ⟨ca, Lib.hid fun W hW => refOwnC_any _ row false W S (by have := hh W hW; simpa only [sliced, if_pos hcq] using this) (by omega), .inl ⟨hcq, rfl⟩⟩
        · exact ⟨_, Lib.hid fun W hW => refOwnC_any _ row false W S (by have := hh W hW; simpa only [sliced, if_neg hcq] using this) (by omega), .inr ⟨hcq, rfl⟩⟩
      obtain ⟨X, HOW, hcq⟩ := hpair
      unfold maxLen at hvm hccl
      have i0 : (0 : Int) ≤ (k : Int) := Int.natCast_nonneg _
      have i1 : (k : Int) < (d.length : Int) := by omega
      have u0 : (0 : Int) ≤ (xf : Int) := Int.natCast_nonneg _
      have u1 : (xf : Int) ≤ (xt : Int) := by omega
      have u2 : (xt : Int) ≤ (cc : Int) := by omega
      have hlr : ((rowsTo d i p j q k).map (partOf d)).length ≤ 1000000 := by simp [rowsTo]; omega
      have hwb := hb.size
      have HO2 := Lib.hid (SliceR.bounded (rdLin_stable true) HO.out)
      clear hx hAk hln hln' hrow hxf hxt hfl hft htl HFR HO hrl
      unfold linV at HFM
      rcases hcq with ⟨hcq, hX⟩ | ⟨hcq, hX⟩
      · subst hcq ; subst hX ; have hee : xt = cc := (by omega) ; subst hee ; rw [Nat.sub_self] at HOW
        go_wp2_with (first
          | (go_at_call 74; refine (HFK.out _ hb).mono ?_; rintro e w3 ⟨rfl, hb3⟩; have hx3 := below_from hb hb3; obtain ⟨_, c0, c1, c2, c3, _, _⟩ := HAK.out.below hx3)
          | (go_at_call 45; refine (HFM.out _ hx3).mono ?_; rintro e w4 ⟨a', rfl, ha4, hb4⟩; obtain ⟨a4, c4, rfl⟩ := ha4.slice; have hx4 := below_from hx3 hb4; obtain ⟨_, _, _, _, d3, _, _⟩ := HAK.out.below hx4; have d3a := cell_on d3; have hz34 := hb3.size; have hz44 := hb4.size; have HI4 := Lib.hid (SliceR.bounded (rdOf_stable _) ha4); clear ha4)
          | (go_at_call 50; refine (HOW.out _ (hx4.alloc hx4.size _)).mono ?_; rintro e w6 ⟨v6, rfl, hv6, hb6⟩; obtain ⟨a6, c6, rfl⟩ := hv6.slice; have m6 := heap_below hb6 (heap_new _ _ rfl); obtain ⟨r6, s6⟩ := blk m6; have hx6 := below_from (hx4.alloc hx4.size _) hb6; have hb46 : Below w4.heap.size w4 w6 := below_from ((Below.refl _ _).alloc (Nat.le_refl _) _) hb6; have hbr6 : Below wr.heap.size wr w6 := below_from hb3 (below_from hb4 hb46); have hz6 := hx6.size; have HV6 := Lib.hid hv6; clear hv6)
          | (at_builtin; refine wpList_append_R _ rfl _ _ 22 22 rfl rowLine eltLine W1.heap.size _ _ (xs := (rowsTo d i p j q k).map (partOf d)) (ys := [{ ln with cells := row }]) (news := [.int .i64 ln.quote, .slice a4 ln.lists.length c4, .int .i64 ln.kind, .slice a6 row.length c6]) rfl rfl (HO2.out.stable (rdLin_stable _) (((Keeps.all hbr6).set (fun hh => (Nat.not_lt.2 (Nat.le_trans hz34 hz44)) hh.2) _).alloc _) (fun _ h _ => h.1)) (by simp; omega) (src_at rowLine (w6.setCell ⟨w4.heap.size, 3, none⟩ (.slice a6 row.length c6)) _ rfl (oneV_line _ _ _ _ _ _ _) 1 (by simp)) (NewsR.one rfl ⟨_, _, rfl, HI4.out.stable (rdOf_stable _) (((Keeps.all hb46).set (fun hh => (Nat.lt_irrefl _) hh.2) _).alloc _) (fun b h _ => Nat.le_trans (Nat.le_trans hwb hz34) h.1), HV6.out.stable (rdOf_stable _) (((Keeps.refl _ _).set (by simp) _).alloc _) (fun b h _ => by have h' := h; simp at h'; omega)⟩) (by simp [rowsTo]; omega) ?_; intro v' w7 hR hB7 _ _; rw [← HT.out] at hR; have HR7 := Lib.hid hR; have HB7 := Lib.hid hB7; clear hR hB7))
        go_roundw
        case rel => exact ⟨k + 1, by omega, by omega, by go_num, Lib.hid HR7.out, ((hx6.setCell (by show W1.heap.size ≤ w4.heap.size; omega) _).alloc (by simp; omega) _).trans HB7.out⟩
        case measure => simp [intOf]; omega
      · subst hX
        go_wp2_with (first
          | (go_at_call 74; refine (HFK.out _ hb).mono ?_; rintro e w3 ⟨rfl, hb3⟩; have hx3 := below_from hb hb3; obtain ⟨_, c0, c1, c2, c3, _, _⟩ := HAK.out.below hx3)
          | (go_at_call 45; refine (HFM.out _ hx3).mono ?_; rintro e w4 ⟨a', rfl, ha4, hb4⟩; obtain ⟨a4, c4, rfl⟩ := ha4.slice; have hx4 := below_from hx3 hb4; obtain ⟨_, _, _, _, d3, _, _⟩ := HAK.out.below hx4; have d3a := cell_on d3; have hz34 := hb3.size; have hz44 := hb4.size; have HI4 := Lib.hid (SliceR.bounded (rdOf_stable _) ha4); clear ha4)
          | (go_at_call 50; refine (HOW.out _ (hx4.alloc hx4.size _)).mono ?_; rintro e w6 ⟨v6, rfl, hv6, hb6⟩; obtain ⟨a6, c6, rfl⟩ := hv6.slice; have m6 := heap_below hb6 (heap_new _ _ rfl); obtain ⟨r6, s6⟩ := blk m6; have hx6 := below_from (hx4.alloc hx4.size _) hb6; have hb46 : Below w4.heap.size w4 w6 := below_from ((Below.refl _ _).alloc (Nat.le_refl _) _) hb6; have hbr6 : Below wr.heap.size wr w6 := below_from hb3 (below_from hb4 hb46); have hz6 := hx6.size; have HV6 := Lib.hid hv6; clear hv6)
          | (at_builtin; refine wpList_append_R _ rfl _ _ 22 22 rfl rowLine eltLine W1.heap.size _ _ (xs := (rowsTo d i p j q k).map (partOf d)) (ys := [{ ln with cells := row }]) (news := [.int .i64 ln.quote, .slice a4 ln.lists.length c4, .int .i64 ln.kind, .slice a6 row.length c6]) rfl rfl (HO2.out.stable (rdLin_stable _) (((Keeps.all hbr6).set (fun hh => (Nat.not_lt.2 (Nat.le_trans hz34 hz44)) hh.2) _).alloc _) (fun _ h _ => h.1)) (by simp; omega) (src_at rowLine (w6.setCell ⟨w4.heap.size, 3, none⟩ (.slice a6 row.length c6)) _ rfl (oneV_line _ _ _ _ _ _ _) 1 (by simp)) (NewsR.one rfl ⟨_, _, rfl, HI4.out.stable (rdOf_stable _) (((Keeps.all hb46).set (fun hh => (Nat.lt_irrefl _) hh.2) _).alloc _) (fun b h _ => Nat.le_trans (Nat.le_trans hwb hz34) h.1), HV6.out.stable (rdOf_stable _) (((Keeps.refl _ _).set (by simp) _).alloc _) (fun b h _ => by have h' := h; simp at h'; omega)⟩) (by simp [rowsTo]; omega) ?_; intro v' w7 hR hB7 _ _; rw [← HT.out] at hR; have HR7 := Lib.hid hR; have HB7 := Lib.hid hB7; clear hR hB7))
        go_roundw
        case rel => exact ⟨k + 1, by omega, by omega, by go_num, Lib.hid HR7.out, ((hx6.setCell (by show W1.heap.size ≤ w4.heap.size; omega) _).alloc (by simp; omega) _).trans HB7.out⟩
        case measure => simp [intOf]; omega
    · obtain rfl : k = j + 1 := by omega
      have HBB := Lib.hid hb
      clear hb
      go_wp2_with fail
      go_ret2
      unfold DocSaid
      rw [HR.out]
      exact ⟨_, rfl, SliceR.stable (rdLin_stable true) HO.out (Keeps.refl _ _) (fun b h _ => Nat.le_trans hs1 h), H1.out.trans (HBB.out.mono hs1)⟩

theorem cellsL_size (d : Doc) (i p j q : Nat) : ∀ n : Nat, i + n ≤ d.length → (cellsL d (rowsTo d i p j q (i + n))).length ≤ sizeD (d.take (i + n))
  | 0, _ => by rw [Nat.add_zero, rowsTo_nil]; simp [cellsL]
  | n + 1, h => by
    have ih := cellsL_size d i p j q n (by omega)
    obtain ⟨l, hl, _⟩ := getOf d (i + n) (by omega)
    have hs := sizeD_step hl
    rw [show i + (n + 1) = i + n + 1 by omega, rowsTo_step d (by omega), cellsL_snoc, List.length_append]
    have : (cellsB d (rowB d i p j q (i + n))).length ≤ l.cells.length := by
      rw [cellsB_at (x := rowB d i p j q (i + n)) hl, List.length_take, List.length_drop]
      omega
    omega
theorem cellsD_size (d : Doc) (a b : Ps) : (cellsD d a b).length ≤ sizeD d := by
  unfold cellsD
  split
  · rename_i h
    obtain ⟨_, i, j, p, q, l, m, rfl, rfl, hl, hm, _, _, hij, _⟩ := span_at h
    have hjl := (List.getElem?_eq_some_iff.1 hm).1
    have := cellsL_size d i p j q (j + 1 - i) (by omega)
    rw [show i + (j + 1 - i) = j + 1 by omega] at this
    exact Nat.le_trans this (sizeD_le d _)
  · simp
theorem partD_size (d : Doc) (a b : Ps) : sizeD (partD d a b).1 = (cellsD d a b).length := by
  unfold partD cellsD
  split
  · exact sizeD_parts d _
  · rfl
theorem partD_flat (d : Doc) (a b : Ps) : (partD d a b).1.flatMap (·.cells) = cellsD d a b := by
  unfold partD cellsD
  split
  · exact flat_parts d _
  · rfl

set_option maxRecDepth 100000 in
set_option maxHeartbeats 2000000 in
theorem refCount_any (v : Value) (d : Doc) (a b : Ps) (w : World) (S : Nat → Prop) (h : LinsR w S v d) (hs : Small d) (hf : Fits d) :
    Calls Tryz.prog 73 #[v, posV a, posV b] w fun e w' => e = .returned (.int .i64 (cellsD d a b).length) ∧ Below w.heap.size w w' := by
  obtain ⟨W1, hW1, hB, hz, hA1, hA2⟩ := two_pos w (.int .i64 a.line) (.int .i64 a.col) (.int .i64 b.line) (.int .i64 b.col)
  have HC := Lib.hid (refPart_any v d a b W1 S (h.below (rdLin_stable _) hB) hs hf)
  have HP : Hid (∀ p : Ps, posV p = .agg #[.int .i64 p.line, .int .i64 p.col]) := Lib.hid fun _ => rfl
  have HN := Lib.hid (partD_size d a b)
  have HM : Hid (sizeD (partD d a b).1 ≤ 100000) := Lib.hid (by rw [partD_size]; exact Nat.le_trans (cellsD_size d a b) hs.1)
  have H1 := Lib.hid hB
  have hs1 := hB.size
  obtain ⟨p1, f1⟩ := blk hA1
  obtain ⟨p2, f2⟩ := blk hA2
  obtain ⟨va, vc, rfl⟩ := h.slice
  generalize partD d a b = r at *
  clear h hs hf hA1 hA2 hB
  rw [HP.out a, HP.out b] at HC ⊢
  go_enter Tryz.func73, Tryz.ntmps73
  go_wp2_with (go_at_call 52; refine HC.out.mono ?_; intro e w2 hsaid; obtain ⟨v2, rfl, hv2, hb2⟩ := hsaid; have HSZ := Lib.hid (refSize_any v2 r.1 w2 _ hv2.read HM.out); obtain ⟨a2, c2, rfl⟩ := hv2.slice; clear hv2)
  refine HSZ.out.mono ?_
  rintro e w3 ⟨rfl, hb3⟩
  go_wp2_with fail
  go_ret
  rw [HN.out]
  exact ⟨rfl, H1.out.trans ((below_from hb2 hb3).mono hs1)⟩

set_option maxRecDepth 100000 in
set_option maxHeartbeats 4000000 in
theorem refCells_any (v : Value) (d : Doc) (a b : Ps) (w : World) (S : Nat → Prop) (h : LinsR w S v d) (hs : Small d) (hf : Fits d) :
    Calls Tryz.prog 38 #[v, posV a, posV b] w fun e w' => ∃ v', e = .returned v' ∧ CelsR true w' (fun b => w.heap.size ≤ b) v' (cellsD d a b) ∧ Below w.heap.size w w' := by
  obtain ⟨W1, hW1, hB, hz, hA1, hA2⟩ := two_pos w (.int .i64 a.line) (.int .i64 a.col) (.int .i64 b.line) (.int .i64 b.col)
  have HC := Lib.hid (refPart_any v d a b W1 S (h.below (rdLin_stable _) hB) hs hf)
  have HP : Hid (∀ p : Ps, posV p = .agg #[.int .i64 p.line, .int .i64 p.col]) := Lib.hid fun _ => rfl
  have HN := Lib.hid (partD_flat d a b)
  have HM : Hid (sizeD (partD d a b).1 ≤ 100000) := Lib.hid (by rw [partD_size]; exact Nat.le_trans (cellsD_size d a b) hs.1)
  have H1 := Lib.hid hB
  have hs1 := hB.size
  obtain ⟨p1, f1⟩ := blk hA1
  obtain ⟨p2, f2⟩ := blk hA2
  obtain ⟨va, vc, rfl⟩ := h.slice
  generalize partD d a b = r at *
  clear h hs hf hA1 hA2 hB
  rw [HP.out a, HP.out b] at HC ⊢
  obtain ⟨x, err⟩ := r
  go_enter Tryz.func38, Tryz.ntmps38
  go_wp2_with (go_at_call 52; refine HC.out.mono ?_; intro e w2 hsaid; obtain ⟨v2, rfl, hv2, hb2⟩ := hsaid; obtain ⟨a2, c2, rfl, hc2, hm2, hx2⟩ := lins_shape hv2.read; have HX := Lib.hid hx2; clear hv2 hx2)
  have hw2 : Below w.heap.size w w2 := H1.out.trans (hb2.mono hs1)
  have HW2 := Lib.hid hw2
  unfold maxLen at hm2
  clear p1 f1 p2 f2 hW1 hw2
  go_loopw [9, 10] (fun out z wr => ∃ k : Nat, k ≤ x.length ∧ z = .int .i64 k ∧ Hid (CelsR true wr (fun b => w2.heap.size ≤ b) out ((x.take k).flatMap (·.cells))) ∧ Below w2.heap.size w2 wr) (fun _ z _ => x.length - (intOf z).toNat)
  case atStart => exact ⟨0, Nat.zero_le _, rfl, Lib.hid (SliceR.nil _ _ _ _ _ _), Below.refl _ _⟩
  case round =>
    obtain ⟨k, hk, rfl, HO, hb⟩ := hrel
    by_cases hlt : k < x.length
    · obtain ⟨ln, hln, _⟩ := getOf x k hlt
      obtain ⟨b1, o1, la, lc, ca, cc, rfl, hAk⟩ := HX.out k ln hln
      obtain ⟨_, _, _, _, c3, _, _⟩ := hAk.below hb
      have HS := Lib.hid (SliceR.src_flat rowCell eltCell (hAk.below hb).cellsR)
      have HT : Hid ((x.take (k + 1)).flatMap (·.cells) = (x.take k).flatMap (·.cells) ++ ln.cells) := Lib.hid (by rw [take_some hln, List.flatMap_append]; simp)
      have HFL : Hid (((x.take k).flatMap (·.cells)).length + ln.cells.length ≤ 100000000) := Lib.hid (by
        have h1 : ((x.take (k + 1)).flatMap (·.cells)).length = sizeD (x.take (k + 1)) := by unfold sizeD; rw [List.length_flatMap]
        rw [HT.out, List.length_append] at h1
        have h2 := sizeD_le x (k + 1)
        have h3 := HM.out
        have h3 : sizeD x ≤ 100000 := h3
        omega)
      have i0 : (0 : Int) ≤ (k : Int) := Int.natCast_nonneg _
      have i1 : (k : Int) < (x.length : Int) := by omega
      have hbs := hb.size
      clear hAk hln
      go_wp2_with (at_builtin; refine wpList_append_R _ rfl _ _ 46 46 rfl rowCell eltCell w2.heap.size _ _ (xs := (x.take k).flatMap (fun y : Lin => y.cells)) (ys := ln.cells) (news := ln.cells.flatMap encCel) rfl rfl HO.out hbs HS.out (flatCell _ _ _) HFL.out ?_; intro v' w1 hR hB' _ _; rw [← HT.out] at hR; have HR := Lib.hid hR; have HB' := Lib.hid hB'; clear hR hB')
      go_roundw
      case rel => exact ⟨k + 1, hlt, by go_num, Lib.hid HR.out, hb.trans HB'.out⟩
      case measure => simp [intOf]; omega
    · obtain rfl : k = x.length := by omega
      have HT : Hid ((x.take x.length).flatMap (·.cells) = cellsD d a b) := Lib.hid (by rw [List.take_length]; exact HN.out)
      have HB := Lib.hid hb
      clear hb
      go_wp2_with fail
      go_ret
      have h9 := HO.out
      rw [HT.out] at h9
      exact ⟨_, rfl, SliceR.stable (rdOf_stable _) h9 (Keeps.refl _ _) (fun b h _ => Nat.le_trans HW2.out.size h), below_from HW2.out HB.out⟩
end Go.Proofs.YtfoiaoopbkcpoaaGreatDoor
