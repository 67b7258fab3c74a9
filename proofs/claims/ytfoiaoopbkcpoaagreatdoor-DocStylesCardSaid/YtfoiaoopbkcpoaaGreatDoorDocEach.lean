/- The walk of doc.each: the cells between two places are changed, line by line. -/
import Derived.Test.YtfoiaoopbkcpoaaGreatDoorTells
import Derived.Test.YtfoiaoopbkcpoaaGreatDoorCells
import Derived.Test.YtfoiaoopbkcpoaaGreatDoorBase
import Derived.Test.YtfoiaoopbkcpoaaGreatDoorReplace
namespace Go.Proofs.Qw
open Go.RowKit Go.Proofs.YtfoiaoopbkcpoaaGreatDoor
/-- A row's part is changed. -/
def setRow (C : List Cel → Nat → Nat → List Cel) (D : Doc) (x : Nat × Nat × Nat) : Doc := D.set x.1 { (D.getD x.1 default) with cells := C (D.getD x.1 default).cells x.2.1 x.2.2 }
def setRows (C : List Cel → Nat → Nat → List Cel) (D : Doc) (xs : List (Nat × Nat × Nat)) : Doc := xs.foldl (setRow C) D
theorem setRows_snoc (C : List Cel → Nat → Nat → List Cel) (D : Doc) (xs : List (Nat × Nat × Nat)) (x : Nat × Nat × Nat) : setRows C D (xs ++ [x]) = setRow C (setRows C D xs) x := by simp [setRows]
/-- As long as before, line by line. -/
def Alike (D E : Doc) : Prop := D.length = E.length ∧ ∀ (k : Nat) (l : Lin), D[k]? = some l → ∃ m, E[k]? = some m ∧ m.cells.length = l.cells.length
theorem Alike.refl (D : Doc) : Alike D D := ⟨rfl, fun _ l h => ⟨l, h, rfl⟩⟩
theorem Alike.trans {D E F : Doc} (h : Alike D E) (k : Alike E F) : Alike D F := ⟨h.1.trans k.1, fun i l hl => by
  obtain ⟨m, h1, h2⟩ := h.2 i l hl
  obtain ⟨n, h3, h4⟩ := k.2 i m h1
  exact ⟨n, h3, h4.trans h2⟩⟩
theorem setRow_at {C : List Cel → Nat → Nat → List Cel} {D : Doc} {x : Nat × Nat × Nat} {l : Lin} (h : D[x.1]? = some l) : setRow C D x = D.set x.1 { l with cells := C l.cells x.2.1 x.2.2 } := by
  unfold setRow
  simp [List.getD, h]
theorem setRow_alike {C : List Cel → Nat → Nat → List Cel} (hC : ∀ c i j, (C c i j).length = c.length) (D : Doc) (x : Nat × Nat × Nat) : Alike D (setRow C D x) := by
  refine ⟨by simp [setRow], fun k l hl => ?_⟩
  by_cases e : x.1 = k
  · subst e
    rw [setRow_at hl]
    refine ⟨_, List.getElem?_set_self (List.getElem?_eq_some_iff.1 hl).1, hC _ _ _⟩
  · refine ⟨l, ?_, rfl⟩
    unfold setRow
    rw [List.getElem?_set_ne e]
    exact hl
theorem setRows_alike {C : List Cel → Nat → Nat → List Cel} (hC : ∀ c i j, (C c i j).length = c.length) : ∀ (xs : List (Nat × Nat × Nat)) (D : Doc), Alike D (setRows C D xs)
  | [], D => Alike.refl D
  | x :: xs, D => (setRow_alike hC D x).trans (setRows_alike hC xs (setRow C D x))
theorem SliceR.avoidO {α : Type} {s : TypeId} {k : Nat} {enc : α → List Value} {w : World} {S : Nat → Prop} {v : Value} {xs : List α} (h : SliceR s k (rdOf enc) true w S v xs) {b : Nat} {o : Obj} (hb : w.heap[b]? = some o) (ho : o.isCells = false) : SliceR s k (rdOf enc) true w (fun d => S d ∧ d ≠ b) v xs := by
  obtain ⟨a, c, e, hc, hm, hx⟩ := h
  refine ⟨a, c, e, hc, hm, ?_⟩
  rcases hx with h1 | ⟨d, o', e, hd, hz, hf, he⟩
  · exact .inl h1
  · obtain ⟨cs2, g1, g2⟩ := hf rfl
    exact .inr ⟨d, o', e, ⟨hd, fun e2 => by subst e2; rw [hb] at g1; cases g1; cases ho⟩, hz, hf, he⟩
theorem DocR.avoidO {w : World} {S : Nat → Prop} {v : Value} {xs : List Lin} (h : DocR true w S v xs) {b : Nat} {o : Obj} (hb : w.heap[b]? = some o) (ho : o.isCells = false) : DocR true w (fun d => S d ∧ d ≠ b) v xs := by
  obtain ⟨a, c', e, hc, hm, hx⟩ := h
  refine ⟨a, c', e, hc, hm, ?_⟩
  rcases hx with h1 | ⟨d, o', e2, hd, hz, hf, he⟩
  · exact .inl h1
  · obtain ⟨cs2, g1, g2⟩ := hf rfl
    refine .inr ⟨d, o', e2, ⟨hd, fun e3 => by subst e3; rw [hb] at g1; cases g1; cases ho⟩, hz, hf, fun i x hi => ?_⟩
    obtain ⟨vs, r1, ⟨p, q, r2, r3, r4⟩, r5⟩ := he i x hi
    exact ⟨vs, r1, ⟨p, q, r2, r3.avoidO hb ho, r4.avoidO hb ho⟩, r5⟩
/-- A document of one's own is kept by what makes new blocks, and turns such as are no cells. -/
theorem doc_own {β : Type} (B : Nat) (S : Nat → Prop) (v : Value) (f : β → Doc) : OwnFrom B (fun (s : β) (W : World) => DocR true W S v (f s)) := fun s X Y row hs hg hr => by
  cases row with
  | none => exact SliceR.stable (rdLin_stable true) hs ⟨hg.size, fun b _ hz => hg.block b hz (by simp)⟩ (fun _ h _ => h)
  | some k =>
    obtain ⟨_, o, ho, hc⟩ := hr k rfl
    exact SliceR.stable (rdLin_stable true) (hs.avoidO ho hc) ⟨hg.size, fun b hb hz => hg.block b hz (by intro e; cases e; exact hb.2 rfl)⟩ (fun _ h _ => h.1)
end Go.Proofs.Qw
namespace Go.Proofs.YtfoiaoopbkcpoaaGreatDoor
open Go.RowKit
open Go.Proofs.Qw
attribute [local go_sem] Oper.semAt_some

/-- What each answers. -/
def eachD (C : List Cel → Nat → Nat → List Cel) (d : Doc) (a b : Ps) : Doc × Int :=
  if spanD d a b = true then (if cellsD d a b = [] then ([], 7) else (setRows C d (rowsTo d a.line.toNat a.col.toNat b.line.toNat b.col.toNat (b.line.toNat + 1)), 0)) else ([], 1)
def EI (C : List Cel → Nat → Nat → List Cel) (d : Doc) (v fv : Value) (w : World) (Bo n : Nat) (pre : List (RowX d)) (W : World) : Prop :=
  W.heap[Bo]? = some (.cells #[v] 22) ∧ W.heap[w.heap.size + 2]? = some (.cells #[fv] 79) ∧ DocR true W (fun b => w.heap.size ≤ b) v (setRows C d (pre.map (·.1))) ∧ Below w.heap.size w W ∧ n ≤ W.heap.size
theorem ei_own {C : List Cel → Nat → Nat → List Cel} {d : Doc} {v fv : Value} {w : World} {Bo n B : Nat} (hB : w.heap.size ≤ B) : OwnFrom B (EI C d v fv w Bo n) :=
  OwnFrom.and (blk_own _ _ _ _) (OwnFrom.and (blk_own _ _ _ _) (OwnFrom.and (doc_own _ _ _ _) (OwnFrom.and (ownFrom_below (Nat.le_refl _) hB) (ownFrom_size _ _))))
theorem three_blocks (w : World) (a b c d e : Value) (t : TypeId) : ∃ W1, ((w.alloc (.cells #[a, b] 24)).alloc (.cells #[c, d] 24)).alloc (.cells #[e] t) = W1 ∧ Below w.heap.size w W1 ∧ w.heap.size + 3 = W1.heap.size ∧
    W1.heap[w.heap.size]? = some (.cells #[a, b] 24) ∧ W1.heap[w.heap.size + 1]? = some (.cells #[c, d] 24) ∧ W1.heap[w.heap.size + 2]? = some (.cells #[e] t) :=
  ⟨_, rfl, (((Below.refl _ _).alloc (Nat.le_refl _) _).alloc (by simp) _).alloc (by simp; omega) _, by simp, heap_old _ _ (heap_old _ _ (heap_new _ _ rfl)), heap_old _ _ (heap_new _ _ (by simp)), heap_new _ _ (by simp)⟩

/-- A cell that there is stays behind an alloc. -/
theorem cell_on {w : World} {p : Addr} {u : Value} (h : w.cell? p = some u) : ∀ ob, (w.alloc ob).cell? p = some u := fun _ => (World.cell?_alloc_lt _ _ _ (World.block_lt_of_cell? w p h)).trans h
/-- Where a span is none, or has no cells. -/
theorem docEach_off (v : Value) (d : Doc) (a b : Ps) (g : Nat) (lb : Array Value) (C : List Cel → Nat → Nat → List Cel) (w : World) (S : Nat → Prop) (h : LinsR w S v d) (he : EnvT w) (hs : Small d) (hc : cellsD d a b = []) :
    Calls Tryz.prog 69 #[v, posV a, posV b, .func (.func g) #[] lb] w (DocSaid (eachD C d a b) w) := by
  obtain ⟨W1, hW1, hB, hz, k0, k1, k2⟩ := three_blocks w (.int .i64 a.line) (.int .i64 a.col) (.int .i64 b.line) (.int .i64 b.col) (.func (.func g) #[] lb) 79
  have HC1 := Lib.hid (docSpan_any v d a b W1 S (h.below (rdLin_stable _) hB) (he.below hB) hs)
  have HC2 : Hid (∀ W, Below W1.heap.size W1 W → Calls Tryz.prog 43 #[v, posV a, posV b] W fun e w' => e = .returned (.int .i64 0) ∧ Below W.heap.size W w') := Lib.hid fun W hW => by
    have := docCount_any v d a b W S ((h.below (rdLin_stable _) hB).below (rdLin_stable _) hW) ((he.below hB).below hW) hs
    rw [hc] at this
    exact this
  have HB : Hid (∀ W, Below W1.heap.size W1 W → W.heap[w.heap.size]? = some (.cells #[.int .i64 a.line, .int .i64 a.col] 24) ∧ W.heap[w.heap.size + 1]? = some (.cells #[.int .i64 b.line, .int .i64 b.col] 24)) := Lib.hid fun W hW => ⟨heap_below hW k0, heap_below hW k1⟩
  have HP : Hid (∀ p : Ps, posV p = .agg #[.int .i64 p.line, .int .i64 p.col]) := Lib.hid fun _ => rfl
  have HR : Hid (eachD C d a b = if spanD d a b = true then ([], 7) else ([], 1)) := Lib.hid (by unfold eachD; rw [if_pos hc])
  have H1 := Lib.hid hB
  have hs1 := hB.size
  obtain ⟨p1, f1⟩ := blk k0
  obtain ⟨p2, f2⟩ := blk k1
  obtain ⟨va, vc, rfl⟩ := h.slice
  generalize spanD d a b = sp at *
  clear h he hs hc k0 k1 k2 hB
  rw [HP.out a, HP.out b] at HC1 HC2 ⊢
  cases sp
  · have HR := Lib.hid HR.out
    go_enter Tryz.func69, Tryz.ntmps69
    go_wp2_with (go_at_call 90; refine HC1.out.mono ?_; rintro e w2 ⟨rfl, hb2⟩)
    go_ret2
    unfold DocSaid
    rw [HR.out]
    exact ⟨_, rfl, SliceR.nil _ _ _ _ _ _, H1.out.trans (hb2.mono hs1)⟩
  · have HR := Lib.hid HR.out
    go_enter Tryz.func69, Tryz.ntmps69
    go_wp2_with (first | (go_at_call 90; refine HC1.out.mono ?_; rintro e w2 ⟨rfl, hb2⟩; obtain ⟨q1, g1⟩ := blk (HB.out _ hb2).1; obtain ⟨q2, g2⟩ := blk (HB.out _ hb2).2) | (go_at_call 43; refine (HC2.out _ hb2).mono ?_; rintro e w3 ⟨rfl, hb3⟩))
    go_ret2
    unfold DocSaid
    rw [HR.out]
    exact ⟨_, rfl, SliceR.nil _ _ _ _ _ _, H1.out.trans ((below_from hb2 hb3).mono hs1)⟩

set_option maxRecDepth 200000 in
set_option maxHeartbeats 4000000 in
theorem docEach_ok (v : Value) (d : Doc) (a b : Ps) (g : Nat) (lb : Array Value) (C : List Cel → Nat → Nat → List Cel) (w : World) (S : Nat → Prop) (h : LinsR w S v d) (he : EnvT w) (hs : Small d) (hf : Fits d) (hC : ∀ c i j, (C c i j).length = c.length) (hc : cellsD d a b ≠ [])
    (eg : ∀ args w, (callFunc g args).run Tryz.prog w = .ok (.enter g args) w)
    (hg : ∀ W v cs (i j : Nat), Below w.heap.size w W → CelsR true W (fun b => w.heap.size ≤ b) v cs → i ≤ j → j ≤ cs.length → cs.length ≤ 1000000 → Calls Tryz.prog g (#[v, .int .i64 i, .int .i64 j] ++ lb) W (CellsSaid (C cs i j) 0 W)) :
    Calls Tryz.prog 69 #[v, posV a, posV b, .func (.func g) #[] lb] w (DocSaid (eachD C d a b) w) := by
  obtain ⟨W1, hW1, hB, hz, k0, k1, k2⟩ := three_blocks w (.int .i64 a.line) (.int .i64 a.col) (.int .i64 b.line) (.int .i64 b.col) (.func (.func g) #[] lb) 79
  have hsp : spanD d a b = true := by
    cases hh : spanD d a b
    · exact absurd (by unfold cellsD; rw [hh]; rfl) hc
    · rfl
  have HC1 := Lib.hid (docSpan_any v d a b W1 S (h.below (rdLin_stable _) hB) (he.below hB) hs)
  rw [hsp] at HC1
  obtain ⟨nn, hnn⟩ : ∃ nn, (cellsD d a b).length = nn := ⟨_, rfl⟩
  have hn0 : (((nn : Nat) : Int) == 0) = false := by
    have : 0 < (cellsD d a b).length := List.length_pos_iff.2 hc
    simp; omega
  have HC2 : Hid (∀ W, Below W1.heap.size W1 W → Calls Tryz.prog 43 #[v, posV a, posV b] W fun e w' => e = .returned (.int .i64 nn) ∧ Below W.heap.size W w') := Lib.hid fun W hW => by
    have := docCount_any v d a b W S ((h.below (rdLin_stable _) hB).below (rdLin_stable _) hW) ((he.below hB).below hW) hs
    rw [hnn] at this
    exact this
  have HO : Hid (∀ W, Below W1.heap.size W1 W → Calls Tryz.prog 32 #[v] W fun e w' => ∃ v', e = .returned v' ∧ DocR true w' (fun b => W.heap.size ≤ b) v' d ∧ Below W.heap.size W w') := Lib.hid fun W hW => docOwn_any v d W W1 S (h.below (rdLin_stable _) hB) hW hf
  have HB : Hid (∀ W, Below W1.heap.size W1 W → W.heap[w.heap.size]? = some (.cells #[.int .i64 a.line, .int .i64 a.col] 24) ∧ W.heap[w.heap.size + 1]? = some (.cells #[.int .i64 b.line, .int .i64 b.col] 24) ∧ W.heap[w.heap.size + 2]? = some (.cells #[.func (.func g) #[] lb] 79)) := Lib.hid fun W hW => ⟨heap_below hW k0, heap_below hW k1, heap_below hW k2⟩
  have HP : Hid (∀ p : Ps, posV p = .agg #[.int .i64 p.line, .int .i64 p.col]) := Lib.hid fun _ => rfl
  have H1 := Lib.hid hB
  have HL := Lib.hid h
  have HG := Lib.hid hg
  have HCL := Lib.hid hC
  have HS := Lib.hid hs
  have HF := Lib.hid hf
  have hs1 := hB.size
  obtain ⟨p1, f1⟩ := blk k0
  obtain ⟨p2, f2⟩ := blk k1
  obtain ⟨va, vc, rfl⟩ := h.slice
  obtain ⟨_, i, j, p, q, l, m, rfl, rfl, hl, hm, hp, hq, hij, hpq⟩ := span_at hsp
  have hjl := (List.getElem?_eq_some_iff.1 hm).1
  have HR : Hid (eachD C d ⟨i, p⟩ ⟨j, q⟩ = (setRows C d (rowsTo d i p j q (j + 1)), 0)) := Lib.hid (by unfold eachD; rw [if_pos hsp, if_neg hc]; rfl)
  have HOK : Hid (∀ k, i ≤ k → k ≤ j → RowOk d (rowB d i p j q k)) := Lib.hid fun k h1 h2 => rowB_ok hl hm hp hq hpq h1 h2
  clear h he hs hg hC hf hc hnn hsp hl hm hp hq hpq k0 k1 k2 hB
  rw [HP.out, HP.out] at HC1 HC2 ⊢
  refine (callsIn_wide (n := 6)).1 ?_
  refine callsIn_of_wp_marks Tryz.func69 rfl trivial ?_ rfl
  simp only [Tryz.ntmps69, List.size_toArray, List.length_cons, List.length_nil, Nat.reduceAdd, Nat.reduceSub, Array.replicate_succ, Array.replicate_zero, List.push_toArray, List.append_toArray, List.nil_append, List.cons_append]
  have hwf : ∀ f, Fence.wide.fn f := fun _ => trivial
  have hwd : Fence.wide.depth = none := rfl
  gi_wp2_with (first
    | (gi_at_call 90; refine (callsIn_wide.2 HC1.out).mono ?_; rintro e w2 ⟨rfl, hb2⟩; obtain ⟨q1, g1⟩ := blk (HB.out _ hb2).1; obtain ⟨q2, g2⟩ := blk (HB.out _ hb2).2.1)
    | (gi_at_call 43; refine (callsIn_wide.2 (HC2.out _ hb2)).mono ?_; rintro e w3 ⟨rfl, hb3⟩; have hx3 := below_from hb2 hb3; obtain ⟨q3, g3⟩ := blk (HB.out _ hx3).1; obtain ⟨q4, g4⟩ := blk (HB.out _ hx3).2.1)
    | (gi_at_call 32; refine (callsIn_wide.2 (HO.out _ hx3)).mono ?_; rintro e w4 ⟨v4, rfl, hv4, hb4⟩; obtain ⟨va4, c4, rfl⟩ := hv4.slice; have hx4 := below_from hx3 hb4; obtain ⟨q5, g5⟩ := blk (HB.out _ hx4).1; obtain ⟨q6, g6⟩ := blk (HB.out _ hx4).2.1; have hs4 := hx4.size; have na4 : ¬ w4.heap.size = w.heap.size := (by omega); have r1 := cell_on (q5 0); have r2 := cell_on (q5 1); have r3 := cell_on (q6 0); have r4 := cell_on (q6 1))
    | (gi_at_call 93; refine (callsIn_wide.2 (between_any _ _ _ _ _ _ _ _)).mono ?_; rintro e w5 ⟨rfl, rfl⟩))
  have hx4z := hx4.size
  have hw4 : Below w.heap.size w w4 := H1.out.trans (hx4.mono hs1)
  have HV4 := Lib.hid hv4
  have hz32 := hx3.size
  obtain ⟨w6, hw6⟩ : ∃ w6, (((w4.alloc (.cells #[.slice va4 d.length c4] 22)).alloc (.cells #[.slice va d.length vc] 22)).alloc (.cells #[.int .i64 i, .int .i64 p] 24)).alloc (.cells #[.int .i64 j, .int .i64 q] 24) = w6 := ⟨_, rfl⟩
  rw [hw6]
  obtain ⟨t0, t1, t2⟩ := HB.out _ hx4
  have hb46 : Below w4.heap.size w4 w6 := hw6 ▸ ((((Below.refl _ _).alloc (Nat.le_refl _) _).alloc (by simp) _).alloc (by simp; omega) _).alloc (by simp; omega) _
  have hz6 : w6.heap.size = w4.heap.size + 4 := by rw [← hw6]; simp
  have m0 : w6.heap[w4.heap.size]? = some (.cells #[.slice va4 d.length c4] 22) := hw6 ▸ heap_old _ _ (heap_old _ _ (heap_old _ _ (heap_new _ _ rfl)))
  have n0 : w6.heap[w4.heap.size + 1]? = some (.cells #[.slice va d.length vc] 22) := hw6 ▸ heap_old _ _ (heap_old _ _ (heap_new _ _ (by simp)))
  have n1 : w6.heap[w4.heap.size + 1 + 1]? = some (.cells #[.int .i64 i, .int .i64 p] 24) := hw6 ▸ heap_old _ _ (heap_new _ _ (by simp))
  have n2 : w6.heap[w4.heap.size + 1 + 2]? = some (.cells #[.int .i64 j, .int .i64 q] 24) := hw6 ▸ heap_new _ _ (by simp)
  have hb6 : Below w.heap.size w w6 := hw4.trans (hb46.mono (by omega))
  have hEI : EI C d (.slice va4 d.length c4) (.func (.func g) #[] lb) w w4.heap.size w6.heap.size [] w6 := ⟨m0, heap_below hb46 t2, SliceR.stable (rdLin_stable true) HV4.out (.all hb46) (fun b hb _ => (by have hb : w3.heap.size ≤ b := hb; omega)), hb6, Nat.le_refl _⟩
  clear hw6 q1 q2 q3 q4 q5 q6 g1 g2 g3 g4 g5 g6 p1 p2 f1 f2 t0 t1 t2 r1 r2 r3 r4 hW1 m0 hv4
  have N0 := Lib.hid (And.intro n0 (And.intro n1 n2))
  clear n0 n1 n2
  refine rangeFunc_box rfl (by omega) (gf := 125) (lb := #[.pointer (some ⟨w4.heap.size + 1 + 1, 0, none⟩), .pointer (some ⟨w4.heap.size + 1 + 2, 0, none⟩), .pointer (some ⟨w4.heap.size + 1, 0, none⟩)]) rfl trivial (enters_of Tryz.func125 (by kernel_rfl) rfl)
    (encs := rowEnc (d := d)) (n₀ := w.heap.size) (base := w4.heap.size + 1) (S := fun ys => ys.map (·.1) = rowsTo d i p j q (j + 1)) (Sp := fun _ => True) (N := 200000) (w0 := w6) ?seq (by omega) (Below.refl _ _) (fun _ => rfl)
    (EI C d (.slice va4 d.length c4) (.func (.func g) #[] lb) w w4.heap.size w6.heap.size) (fun _ _ _ => False) (ei_own (by omega)) (fun _ _ _ _ _ hs _ _ => hs) hEI (fun _ _ h => h.2.2.2.2)
    (fun x => #[.int .i64 x.1.2.1, .int .i64 x.1.2.2]) 96 ?act ?assign ?body ?done ?stop
  case seq =>
    intro l J Jx W hW hJ _ hY h0
    exact between1_in 5 l (w4.heap.size + 1) (w4.heap.size + 1 + 1) (w4.heap.size + 1 + 2) (w4.heap.size + 1) (.slice va d.length vc) d i p j q S J Jx w W HL.out (hb6.trans (hW.mono hb6.size)) ⟨by omega, by omega, by omega⟩ (heap_below hW N0.out.1) (heap_below hW N0.out.2.1) (heap_below hW N0.out.2.2) hij hjl HOK.out HS.out.2.1 hJ hY h0
  case assign =>
    intro l pre x W K Bx hBx hI hK
    gi_wp2
    rw [← hBx]
    exact hK
  case body =>
    intro l pre x Bx W hI hBx hbx hlt
    obtain ⟨t0, t2, hD, hb, hz⟩ := hI
    obtain ⟨ln, hln, hft, htl⟩ := x.2
    obtain ⟨xi, exi⟩ : ∃ z, x.1.1 = z := ⟨_, rfl⟩
    obtain ⟨xf, exf⟩ : ∃ z, x.1.2.1 = z := ⟨_, rfl⟩
    obtain ⟨xt, ext⟩ : ∃ z, x.1.2.2 = z := ⟨_, rfl⟩
    have hal := setRows_alike HCL.out (pre.map (·.1)) d
    obtain ⟨D, hDe⟩ : ∃ D, setRows C d (pre.map (·.1)) = D := ⟨_, rfl⟩
    have HSN : Hid (setRows C d ((pre ++ [x]).map (·.1)) = setRow C D x.1) := Lib.hid (by rw [List.map_append, List.map_singleton, setRows_snoc, hDe])
    rw [hDe] at hD hal
    rw [exi] at hln
    rw [exf, ext] at hft hbx
    rw [ext] at htl
    obtain ⟨m, hm, hml⟩ := hal.2 xi ln hln
    have HRW := Lib.hid (setRow_at (C := C) (D := D) (x := x.1) (by rw [exi]; exact hm))
    rw [exi, exf, ext] at HRW
    rw [exi, exf, ext]
    clear exi exf ext hDe
    have hil := (List.getElem?_eq_some_iff.1 hln).1
    have hmc : m.cells.length ≤ 1000000 := by rw [hml]; exact (HF.out.2 ln (List.mem_of_getElem? hln)).2
    obtain ⟨b4, o4, c4', la, lc, ca, cc, hve, hc4, hm4, hA4, hI4, hC4, hS4⟩ := docOwn_at hD hm
    rw [← hal.1] at hve
    cases hve
    obtain ⟨b4', o4', cs4, hbe, _, hg4, hgz⟩ := SliceR.cellAt hD (i := xi) (by rw [← hal.1]; exact hil)
    cases hbe
    obtain ⟨hz4, _, _, _, k3, _, _⟩ := hA4
    obtain ⟨s0, s0f⟩ := blk t0
    obtain ⟨s2, s2f⟩ := blk t2
    obtain ⟨sx, sxf⟩ := blk hbx
    unfold maxLen at hm4
    have i0 : (0 : Int) ≤ (xi : Int) := Int.natCast_nonneg _
    have i1 : (xi : Int) < (d.length : Int) := by omega
    gi_wp2_with fail
    have hd0 : Below W.heap.size W W.drew := (Below.refl _ _).drew
    have HCC := Lib.hid (HG.out W.drew (.slice ca m.cells.length cc) m.cells xf xt hb.drew (SliceR.below (rdOf_stable _) hC4 hd0) hft (by rw [hml]; exact htl) hmc)
    have e1 : b4 ≠ w4.heap.size := fun e => by subst e; rw [t0] at hg4; cases hg4
    have e2 : b4 ≠ w.heap.size + 1 + 1 := fun e => by subst e; rw [show W.heap[w.heap.size + 1 + 1]? = _ from t2] at hg4; cases hg4
    have e3 : b4 ≠ Bx := fun e => by subst e; rw [hbx] at hg4; cases hg4
    have HT := Lib.hid (And.intro t0 (And.intro t2 (And.intro hbx hg4)))
    have HD := Lib.hid hD
    have HM := Lib.hid (And.intro hm hml)
    have HI4 := Lib.hid hI4
    have HIN := Lib.hid (And.intro hb hz)
    clear hD hm hml hI4 hC4 hmc t0 t2 hbx hg4 hal
    refine wpIn_region_heldR (by kernel_rfl) (by kernel_rfl) (S := fun w' => w'.cell? ⟨w4.heap.size, 0, none⟩ = some (.slice (some ⟨b4, o4, none⟩) d.length c4) ∧ w'.cell? ⟨w.heap.size + 1 + 1, 0, none⟩ = some (.func (.func g) #[] lb) ∧ w'.cell? ⟨Bx, 0, none⟩ = some (.int .i64 xf) ∧ w'.cell? ⟨Bx, 1, none⟩ = some (.int .i64 xt)) ⟨s0 0, s2 0, sx 0, sx 1⟩ (fun R hR hHeld => ?_)
    refine wpAnyH_take (i := 0) (v := ?_) (by simp only [List.getElem?_toArray, List.getElem?_cons_zero]; rfl) (by kernel_rfl) (by kernel_rfl) (by kernel_rfl) (fun _ _ _ h => h) (Or.inl ⟨by rfl, ?_⟩) (by assumption) ?_
    rotate_left 1
    · intro w hSw; (try dsimp only at hSw); go_simp; (first | done | with_reducible rfl)
    try simp only [Act.put, List.setIfInBounds_toArray, List.set_cons_zero, List.set_cons_succ]
    refine wpAnyH_take (i := 1) (v := ?_) (by simp only [List.getElem?_toArray, List.getElem?_cons_succ, List.getElem?_cons_zero]; rfl) (by kernel_rfl) (by kernel_rfl) (by kernel_rfl) (fun _ _ _ h => h) (Or.inl ⟨by rfl, ?_⟩) (by assumption) ?_
    rotate_left 1
    · intro w hSw; (try dsimp only at hSw); go_simp; (first | done | with_reducible rfl)
    try simp only [Act.put, List.setIfInBounds_toArray, List.set_cons_zero, List.set_cons_succ]
    refine wpAnyH_take (i := 2) (v := ?_) (by simp only [List.getElem?_toArray, List.getElem?_cons_succ, List.getElem?_cons_zero]; rfl) (by kernel_rfl) (by kernel_rfl) (by kernel_rfl) (fun _ _ _ h => h) (Or.inl ⟨by rfl, ?_⟩) (by assumption) ?_
    rotate_left 1
    · intro w hSw; (try dsimp only at hSw); go_simp; (first | done | with_reducible rfl)
    try simp only [Act.put, List.setIfInBounds_toArray, List.set_cons_zero, List.set_cons_succ]
    refine wpAnyH_take (i := 3) (v := ?_) (by simp only [List.getElem?_toArray, List.getElem?_cons_succ, List.getElem?_cons_zero]; rfl) (by kernel_rfl) (by kernel_rfl) (by kernel_rfl) (fun _ _ _ h => h) (Or.inl ⟨by rfl, ?_⟩) (by assumption) ?_
    rotate_left 1
    · intro w hSw; (try dsimp only at hSw); go_simp; (first | done | with_reducible rfl)
    try simp only [Act.put, List.setIfInBounds_toArray, List.set_cons_zero, List.set_cons_succ]
    refine wpAnyH_take (i := 4) (v := ?_) (by simp only [List.getElem?_toArray, List.getElem?_cons_succ, List.getElem?_cons_zero]; rfl) (by kernel_rfl) (by kernel_rfl) (by kernel_rfl) (fun _ _ _ h => h) (Or.inl ⟨by rfl, ?_⟩) (by assumption) ?_
    rotate_left 1
    · intro w hSw; (try dsimp only at hSw); go_simp; (first | done | with_reducible rfl)
    try simp only [Act.put, List.setIfInBounds_toArray, List.set_cons_zero, List.set_cons_succ]
    refine wpAnyH_take (i := 5) (v := ?_) (by simp only [List.getElem?_toArray, List.getElem?_cons_succ, List.getElem?_cons_zero]; rfl) (by kernel_rfl) (by kernel_rfl) (by kernel_rfl) (fun _ _ _ h => h) (Or.inl ⟨by rfl, ?_⟩) (by assumption) ?_
    rotate_left 1
    · intro w hSw; (try dsimp only at hSw); go_simp; (first | done | with_reducible rfl)
    try simp only [Act.put, List.setIfInBounds_toArray, List.set_cons_zero, List.set_cons_succ]
    refine wpAnyH_take (i := 6) (v := ?_) (by simp only [List.getElem?_toArray, List.getElem?_cons_succ, List.getElem?_cons_zero]; rfl) (by kernel_rfl) (by kernel_rfl) (by kernel_rfl) (fun _ _ _ h => h) (Or.inl ⟨by rfl, ?_⟩) (by assumption) ?_
    rotate_left 1
    · intro w hSw; (try dsimp only at hSw); go_simp; (first | done | with_reducible rfl)
    try simp only [Act.put, List.setIfInBounds_toArray, List.set_cons_zero, List.set_cons_succ]
    refine wpAnyH_take (i := 8) (v := ?_) (by simp only [List.getElem?_toArray, List.getElem?_cons_succ, List.getElem?_cons_zero]; rfl) (by kernel_rfl) (by kernel_rfl) (by kernel_rfl) (fun _ _ _ h => h) (Or.inl ⟨by rfl, ?_⟩) (by assumption) ?_
    rotate_left 1
    · intro w hSw; (try dsimp only at hSw); go_simp; (first | done | with_reducible rfl)
    try simp only [Act.put, List.setIfInBounds_toArray, List.set_cons_zero, List.set_cons_succ]
    refine wpAnyH_take (i := 9) (v := ?_) (by simp only [List.getElem?_toArray, List.getElem?_cons_succ, List.getElem?_cons_zero]; rfl) (by kernel_rfl) (by kernel_rfl) (by kernel_rfl) (fun _ _ _ h => h) (Or.inl ⟨by rfl, ?_⟩) (by assumption) ?_
    rotate_left 1
    · intro w hSw; (try dsimp only at hSw); go_simp; (first | done | with_reducible rfl)
    try simp only [Act.put, List.setIfInBounds_toArray, List.set_cons_zero, List.set_cons_succ]
    refine wpAnyH_take (i := 10) (v := ?_) (by simp only [List.getElem?_toArray, List.getElem?_cons_succ, List.getElem?_cons_zero]; rfl) (by kernel_rfl) (by kernel_rfl) (by kernel_rfl) (fun _ _ _ h => h) (Or.inl ⟨by rfl, ?_⟩) (by assumption) ?_
    rotate_left 1
    · intro w hSw; (try dsimp only at hSw); go_simp; (first | done | with_reducible rfl)
    try simp only [Act.put, List.setIfInBounds_toArray, List.set_cons_zero, List.set_cons_succ]
    refine wpAnyH_take (i := 11) (v := ?_) (by simp only [List.getElem?_toArray, List.getElem?_cons_succ, List.getElem?_cons_zero]; rfl) (by kernel_rfl) (by kernel_rfl) (by kernel_rfl) (fun _ _ _ h => h) (Or.inl ⟨by rfl, ?_⟩) (by assumption) ?_
    rotate_left 1
    · intro w hSw; (try dsimp only at hSw); go_simp; (first | done | with_reducible rfl)
    try simp only [Act.put, List.setIfInBounds_toArray, List.set_cons_zero, List.set_cons_succ]
    refine wpAnyH_ready (rs := [7]) (by kernel_rfl) (by simp) ?_
    refine AllReadyH.cons (by simp only [List.getElem?_toArray, List.getElem?_cons_succ, List.getElem?_cons_zero]; rfl) (fun K hK => ?_) AllReadyH.nil
    go_simp
    refine hK.out _ _ ⟨s0 0, s2 0, sx 0, sx 1⟩ (fun _ => ?_)
    clear hK K
    try simp only [Act.put, List.setIfInBounds_toArray, List.set_cons_zero, List.set_cons_succ]
    refine wpAnyH_ready (rs := [12]) (by kernel_rfl) (by simp) ?_
    refine AllReadyH.cons (by simp only [List.getElem?_toArray, List.getElem?_cons_succ, List.getElem?_cons_zero]; rfl) (fun K hK => ?_) AllReadyH.nil
    go_simp
    refine HCC.out.mono ?_
    intro e w5 hsaid
    obtain ⟨v5, rfl, hv5, hb5⟩ := hsaid
    have hb5 : Below W.heap.size W w5 := hd0.trans hb5
    obtain ⟨a5, c5, rfl⟩ := hv5.slice
    obtain ⟨y0, y0f⟩ := blk (heap_below hb5 HT.out.1)
    obtain ⟨y2, y2f⟩ := blk (heap_below hb5 HT.out.2.1)
    obtain ⟨yx, yxf⟩ := blk (heap_below hb5 HT.out.2.2.1)
    have hS5 : w5.cell? ⟨w4.heap.size, 0, none⟩ = some (.slice (some ⟨b4, o4, none⟩) d.length c4) ∧ w5.cell? ⟨w.heap.size + 1 + 1, 0, none⟩ = some (.func (.func g) #[] lb) ∧ w5.cell? ⟨Bx, 0, none⟩ = some (.int .i64 xf) ∧ w5.cell? ⟨Bx, 1, none⟩ = some (.int .i64 xt) := ⟨y0 0, y2 0, yx 0, yx 1⟩
    have y4 : w5.cell? ⟨b4, o4 + xi * 4 + 3, none⟩ = some (.slice ca m.cells.length cc) := (hb5.cell (p := ⟨b4, o4 + xi * 4 + 3, none⟩) hz4).trans k3
    have y4f : w5.frozen? ⟨b4, o4 + xi * 4 + 3, none⟩ = false := frozen_of_heap (heap_below hb5 HT.out.2.2.2)
    refine hK.out _ _ hS5 (fun hHeld => ?_)
    clear hK K
    try simp only [Act.put, List.setIfInBounds_toArray, List.set_cons_zero, List.set_cons_succ]
    refine wpAnyH_take (i := 13) (v := ?_) (by simp only [List.getElem?_toArray, List.getElem?_cons_succ, List.getElem?_cons_zero]; rfl) (by kernel_rfl) (by kernel_rfl) (by kernel_rfl) (fun _ _ _ h => h) (Or.inl ⟨by rfl, ?_⟩) (by assumption) ?_
    rotate_left 1
    · intro w hSw; (try dsimp only at hSw); go_simp; (first | done | with_reducible rfl)
    try simp only [Act.put, List.setIfInBounds_toArray, List.set_cons_zero, List.set_cons_succ]
    refine wpAnyH_take (i := 14) (v := ?_) (by simp only [List.getElem?_toArray, List.getElem?_cons_succ, List.getElem?_cons_zero]; rfl) (by kernel_rfl) (by kernel_rfl) (by kernel_rfl) (fun _ _ _ h => h) (Or.inl ⟨by rfl, ?_⟩) (by assumption) ?_
    rotate_left 1
    · intro w hSw; (try dsimp only at hSw); go_simp; (first | done | with_reducible rfl)
    try simp only [Act.put, List.setIfInBounds_toArray, List.set_cons_zero, List.set_cons_succ]
    refine wpAnyH_take (i := 15) (v := ?_) (by simp only [List.getElem?_toArray, List.getElem?_cons_succ, List.getElem?_cons_zero]; rfl) (by kernel_rfl) (by kernel_rfl) (by kernel_rfl) (fun _ _ _ h => h) (Or.inl ⟨by rfl, ?_⟩) (by assumption) ?_
    rotate_left 1
    · intro w hSw; (try dsimp only at hSw); go_simp; (first | done | with_reducible rfl)
    try simp only [Act.put, List.setIfInBounds_toArray, List.set_cons_zero, List.set_cons_succ]
    refine wpAnyH_take (i := 16) (v := ?_) (by simp only [List.getElem?_toArray, List.getElem?_cons_succ, List.getElem?_cons_zero]; rfl) (by kernel_rfl) (by kernel_rfl) (by kernel_rfl) (fun _ _ _ h => h) (Or.inl ⟨by rfl, ?_⟩) (by assumption) ?_
    rotate_left 1
    · intro w hSw; (try dsimp only at hSw); go_simp; (first | done | with_reducible rfl)
    try simp only [Act.put, List.setIfInBounds_toArray, List.set_cons_zero, List.set_cons_succ]
    refine wpAnyH_take (i := 17) (v := ?_) (by simp only [List.getElem?_toArray, List.getElem?_cons_succ, List.getElem?_cons_zero]; rfl) (by kernel_rfl) (by kernel_rfl) (by kernel_rfl) (fun _ _ _ h => h) (Or.inl ⟨by rfl, ?_⟩) (by assumption) ?_
    rotate_left 1
    · intro w hSw; (try dsimp only at hSw); go_simp; (first | done | with_reducible rfl)
    try simp only [Act.put, List.setIfInBounds_toArray, List.set_cons_zero, List.set_cons_succ]
    refine wpAnyH_ready (rs := [18]) (by kernel_rfl) (by simp) ?_
    refine AllReadyH.cons (by simp only [List.getElem?_toArray, List.getElem?_cons_succ, List.getElem?_cons_zero]; rfl) (fun K hK => ?_) AllReadyH.nil
    go_simp
    obtain ⟨b4', o4', cs6, hbe6, _, hg6, _⟩ := SliceR.cellAt HV4.out (i := xi) hil
    cases hbe6
    have hb4w : b4 < w4.heap.size := (Array.getElem?_eq_some_iff.1 hg6).1
    have hS6 : (w5.setCell ⟨b4, o4 + xi * 4 + 3, none⟩ (.slice a5 (C m.cells xf xt).length c5)).cell? ⟨w4.heap.size, 0, none⟩ = some (.slice (some ⟨b4, o4, none⟩) d.length c4) ∧ (w5.setCell ⟨b4, o4 + xi * 4 + 3, none⟩ (.slice a5 (C m.cells xf xt).length c5)).cell? ⟨w.heap.size + 1 + 1, 0, none⟩ = some (.func (.func g) #[] lb) ∧ (w5.setCell ⟨b4, o4 + xi * 4 + 3, none⟩ (.slice a5 (C m.cells xf xt).length c5)).cell? ⟨Bx, 0, none⟩ = some (.int .i64 xf) ∧ (w5.setCell ⟨b4, o4 + xi * 4 + 3, none⟩ (.slice a5 (C m.cells xf xt).length c5)).cell? ⟨Bx, 1, none⟩ = some (.int .i64 xt) :=
      ⟨(setCell_block e1).trans hS5.1, (setCell_block e2).trans hS5.2.1, (setCell_block e3).trans hS5.2.2.1, (setCell_block e3).trans hS5.2.2.2⟩
    refine hK.out _ _ hS6 (fun _ => ?_)
    refine wpAnyH_done (by kernel_rfl) ?_ _
    refine hR.out _ _ ?_
    gi_wp2_with fail
    have h5 := SliceR.below (rdLin_stable true) HD.out hb5
    have hv5' : CelsR true w5 (fun b => w.heap.size ≤ b) (.slice a5 (C m.cells xf xt).length c5) (C m.cells xf xt) := SliceR.stable (rdOf_stable _) hv5 (Keeps.refl _ _) (fun b hb' _ => by
      have hb' : W.heap.size ≤ b := hb'
      have := HIN.out.1.size
      omega)
    have h6 := SliceR.set1 eltLine.tag h5 HM.out.1 (j := 3) (x' := { m with cells := C m.cells xf xt }) (by decide) (.slice a5 (C m.cells xf xt).length c5) (by
      rintro vs _ ⟨p', q', rfl, hp', hq'⟩
      exact ⟨p', _, rfl, hp', hv5'⟩)
    have hbw5 := below_from HIN.out.1 hb5
    refine ⟨((keeps_below hb5).from _).trans ((KeepsOthers.setCell _ _ _).from _), (Kp.of_below HIN.out.1.size hb5).t (Kp.setCell _ hS4 (by omega) _), ?_, ?_, ?_, hbw5.setCell hS4 _, ?_⟩
    · rw [heap_set, if_neg e1]; exact heap_below hb5 HT.out.1
    · rw [heap_set, if_neg e2]; exact heap_below hb5 HT.out.2.1
    · rw [HSN.out, HRW.out]; exact h6
    · have := hb5.size; have := HIN.out.2; simp; omega
  case done =>
    rintro D ys W hD hys ⟨t0, t2, hDoc, hb, hz⟩ hK
    obtain ⟨s0, s0f⟩ := blk t0
    rw [hys] at hDoc
    have HDOC := Lib.hid hDoc
    have HB9 := Lib.hid hb
    have HK9 := Lib.hid hK
    clear hDoc t2 hb hK
    gi_wp2_with fail
    refine ⟨by simp, .inl ⟨_, _, rfl, run_takeDeferred HK9.out, ?_⟩⟩
    refine ⟨.tuple #[.slice va4 d.length c4, .int .i64 0], by simp [results, Tryz.results69, go_sem], ?_⟩
    unfold DocSaid
    rw [HR.out]
    exact ⟨_, rfl, (doc_own (β := Unit) D _ _ (fun _ => setRows C d (rowsTo d i p j q (j + 1)))).putObj (s := ()) _ HDOC.out (Nat.le_refl _) HK9.out rfl, HB9.out.trans (belowK_b (w := w) (Nat.le_refl _) W D _ _ (by omega) HK9.out rfl rfl)⟩
  case stop =>
    rintro D c pre W _ _ h _
    exact h.elim

/-- A document in which the cells between two places are changed. -/
theorem docEach_any (v : Value) (d : Doc) (a b : Ps) (g : Nat) (lb : Array Value) (C : List Cel → Nat → Nat → List Cel) (w : World) (S : Nat → Prop) (h : LinsR w S v d) (he : EnvT w) (hs : Small d) (hf : Fits d) (hC : ∀ c i j, (C c i j).length = c.length)
    (eg : ∀ args w, (callFunc g args).run Tryz.prog w = .ok (.enter g args) w)
    (hg : ∀ W v cs (i j : Nat), Below w.heap.size w W → CelsR true W (fun b => w.heap.size ≤ b) v cs → i ≤ j → j ≤ cs.length → cs.length ≤ 1000000 → Calls Tryz.prog g (#[v, .int .i64 i, .int .i64 j] ++ lb) W (CellsSaid (C cs i j) 0 W)) :
    Calls Tryz.prog 69 #[v, posV a, posV b, .func (.func g) #[] lb] w (DocSaid (eachD C d a b) w) := by
  by_cases hc : cellsD d a b = []
  · exact docEach_off v d a b g lb C w S h he hs hc
  · exact docEach_ok v d a b g lb C w S h he hs hf hC hc eg hg
end Go.Proofs.YtfoiaoopbkcpoaaGreatDoor
