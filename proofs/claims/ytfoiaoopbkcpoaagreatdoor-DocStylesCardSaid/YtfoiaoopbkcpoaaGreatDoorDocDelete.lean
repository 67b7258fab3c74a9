/- The walks of doc.May, doc.span, doc.Delete. -/
import Derived.Test.YtfoiaoopbkcpoaaGreatDoorMay
import Derived.Test.YtfoiaoopbkcpoaaGreatDoorDocPos
import Derived.Test.YtfoiaoopbkcpoaaGreatDoorReplace
import Derived.Test.YtfoiaoopbkcpoaaGreatDoorOwn
import Derived.Deep.RegionHeld3
import Derived.Deep.DrawnRows
namespace Go.Proofs.YtfoiaoopbkcpoaaGreatDoor
open Go.RowKit
open Go.Proofs.Qw

set_option maxHeartbeats 1000000 in
theorem docMay1_any (l : Lin) (b o : Nat) (la ca : Option Addr) (lc cc : Nat) (w w0 : World) (S : Nat → Prop) (hA : LinAt w0 S b o l la lc ca cc)
    (he : EnvT w) (h0 : Below w0.heap.size w0 w) (hs : ∀ c ∈ l.cells, c.href.length ≤ 1000000) :
    Calls Tryz.prog 61 #[.agg #[.int .i64 l.quote, .slice la l.lists.length lc, .int .i64 l.kind, .slice ca l.cells.length cc]] w fun e w' => e = .returned (.bool (!mayL l)) ∧ Below w.heap.size w w' := by
  obtain ⟨W1, hW1⟩ : ∃ W1, w.alloc (.cells #[.int .i64 l.quote, .slice la l.lists.length lc, .int .i64 l.kind, .slice ca l.cells.length cc] 55) = W1 := ⟨_, rfl⟩
  have hB : Below w.heap.size w W1 := hW1 ▸ (Below.refl _ _).alloc (Nat.le_refl _) _
  have k0 : W1.cell? ⟨w.heap.size, 0, none⟩ = some (.int .i64 l.quote) := hW1 ▸ cell_new _ _ _ 0
  have k1 : W1.cell? ⟨w.heap.size, 1, none⟩ = some (.slice la l.lists.length lc) := hW1 ▸ cell_new _ _ _ 1
  have k2 : W1.cell? ⟨w.heap.size, 2, none⟩ = some (.int .i64 l.kind) := hW1 ▸ cell_new _ _ _ 2
  have k3 : W1.cell? ⟨w.heap.size, 3, none⟩ = some (.slice ca l.cells.length cc) := hW1 ▸ cell_new _ _ _ 3
  have HC := Lib.hid (lineMay_any l la ca lc cc W1 w0 S hA.listsR hA.cellsR (he.below hB) (below_from h0 hB) hs)
  generalize mayL l = r at *
  clear hA
  go_enter Tryz.func61, Tryz.ntmps61
  go_wp2_with (go_at_call 62; refine HC.out.mono ?_; rintro e w1 ⟨rfl, hb1⟩)
  go_ret
  exact ⟨rfl, hB.trans (hb1.mono hB.size)⟩

set_option maxHeartbeats 1000000 in
theorem docMay_any (v : Value) (d : Doc) (w w0 : World) (S : Nat → Prop) (h : LinsR w0 S v d) (he : EnvT w) (h0 : Below w0.heap.size w0 w) (hs : Small d) :
    Calls Tryz.prog 13 #[v] w fun e w' => e = .returned (.bool (mayD d)) ∧ Below w.heap.size w w' := by
  have HC1 := Lib.hid (size_any v d w w0 S h h0 hs.1)
  have HC2 : Hid (∀ W, EnvT W → Below w0.heap.size w0 W → Calls Tryz.prog 60 #[v, .func (.func 61) #[] #[]] W fun e w' => e = .returned (.bool (d.any fun l => !mayL l)) ∧ Below W.heap.size W w') := Lib.hid fun W h1 h2 =>
    containsLine_any v d (fun l => !mayL l) 61 #[] (enters_of Tryz.func61 (by kernel_rfl) rfl) W w0 S h h1 h2 (fun i l W' b o la lc ca cc hi hA h1 h2 _ => docMay1_any l b o la ca lc cc W' w0 S hA h1 h2 (hs.2.2 l (List.mem_of_getElem? hi)))
  have HE : Hid (mayD d = (decide (1 ≤ (d.length : Int)) && (decide ((d.length : Int) ≤ 200) && (decide ((sizeD d : Int) ≤ 4000) && !(d.any fun l => !mayL l))))) := Lib.hid (by
    unfold mayD
    rw [List.any_eq_not_all_not, Bool.not_not, Bool.and_assoc, Bool.and_assoc]
    rw [show decide (1 ≤ d.length) = decide (1 ≤ (d.length : Int)) from decide_eq_decide.2 (by omega), show decide (d.length ≤ 200) = decide ((d.length : Int) ≤ 200) from decide_eq_decide.2 (by omega), show decide (sizeD d ≤ 4000) = decide ((sizeD d : Int) ≤ 4000) from decide_eq_decide.2 (by omega)]
    simp)
  obtain ⟨a, c, rfl⟩ := h.slice
  generalize (d.any fun l => !mayL l) = x at *
  generalize mayD d = r at *
  generalize sizeD d = z at *
  clear h
  go_enter Tryz.func13, Tryz.ntmps13
  go_wp2_with (first | (go_at_call 15; refine HC1.out.mono ?_; rintro e w1 ⟨rfl, hb1⟩; have he1 := he.below hb1; have hw1 := below_from h0 hb1) | (go_at_call 60; refine (HC2.out _ (by assumption) (by assumption)).mono ?_; rintro e w2 ⟨rfl, hb2⟩; have hb4 := Below.trans hb1 (hb2.mono (Below.size hb1))))
  all_goals
    go_ret
    refine ⟨?_, by first | assumption | exact Below.refl _ _⟩
    rw [HE.out]
    refine congrArg Ending.returned (congrArg Value.bool ?_)
    clear HE HC1 HC2
    simp (config := { failIfUnchanged := false }) [*]
  all_goals try omega
end Go.Proofs.YtfoiaoopbkcpoaaGreatDoor
namespace Go.Proofs.YtfoiaoopbkcpoaaGreatDoor
open Go.RowKit
open Go.Proofs.Qw

/-- May a document, and two places in it, be? -/
def spanD (d : Doc) (a b : Ps) : Bool := mayD d && isD d a && isD d b && decide (cmpP a b ≤ 0)
/-- Two places in blocks, as a callee lays its arguments. -/
theorem two_pos (w : World) (a b c d : Value) : ∃ W1, (w.alloc (.cells #[a, b] 24)).alloc (.cells #[c, d] 24) = W1 ∧ Below w.heap.size w W1 ∧ w.heap.size + 2 = W1.heap.size ∧
    W1.heap[w.heap.size]? = some (.cells #[a, b] 24) ∧ W1.heap[w.heap.size + 1]? = some (.cells #[c, d] 24) :=
  ⟨_, rfl, ((Below.refl _ _).alloc (Nat.le_refl _) _).alloc (by simp) _, by simp, heap_old _ _ (heap_new _ _ rfl), heap_new _ _ (by simp)⟩
set_option maxRecDepth 100000 in
set_option maxHeartbeats 4000000 in
theorem docSpan_any (v : Value) (d : Doc) (a b : Ps) (w : World) (S : Nat → Prop) (h : LinsR w S v d) (he : EnvT w) (hs : Small d) :
    Calls Tryz.prog 90 #[v, posV a, posV b] w fun e w' => e = .returned (.bool (spanD d a b)) ∧ Below w.heap.size w w' := by
  obtain ⟨W1, hW1, hB, hz, hA1, hA2⟩ := two_pos w (.int .i64 a.line) (.int .i64 a.col) (.int .i64 b.line) (.int .i64 b.col)
  have hs1 := hB.size
  have HC1 := Lib.hid (docMay_any v d W1 w S h (he.below hB) hB hs)
  have HC2 : Hid (∀ p W, Below W1.heap.size W1 W → Calls Tryz.prog 19 #[v, posV p] W fun e w' => e = .returned (.bool (isD d p)) ∧ Below W.heap.size W w') := Lib.hid fun p W hW => is_any v d p W w S h (hB.trans (hW.mono hs1))
  have HC3 : Hid (∀ W, Calls Tryz.prog 23 #[posV a, posV b] W fun e w' => e = .returned (.int .i64 (cmpP a b)) ∧ Below W.heap.size W w') := Lib.hid fun W => cmp_any a b W
  have HB : Hid (∀ W, Below W1.heap.size W1 W → W.heap[w.heap.size]? = some (.cells #[.int .i64 a.line, .int .i64 a.col] 24) ∧ W.heap[w.heap.size + 1]? = some (.cells #[.int .i64 b.line, .int .i64 b.col] 24)) := Lib.hid fun W hW => ⟨heap_below hW hA1, heap_below hW hA2⟩
  have HE : Hid (spanD d a b = (mayD d && (isD d a && (isD d b && decide (cmpP a b ≤ 0))))) := Lib.hid (by unfold spanD; rw [Bool.and_assoc, Bool.and_assoc])
  have HP : Hid (∀ p : Ps, posV p = .agg #[.int .i64 p.line, .int .i64 p.col]) := Lib.hid fun _ => rfl
  have H1 := Lib.hid hB
  obtain ⟨va, vc, rfl⟩ := h.slice
  clear h he hs hz hA1 hA2 hB
  rw [HP.out a, HP.out b]
  generalize spanD d a b = r at *
  generalize mayD d = x at *
  generalize cmpP a b = u at *
  go_enter Tryz.func90, Tryz.ntmps90
  go_wp2_with (first
    | (go_at_call 13; refine HC1.out.mono ?_; rintro e w2 ⟨rfl, hb2⟩; obtain ⟨p3, f3⟩ := blk (HB.out _ hb2).1; obtain ⟨p4, f4⟩ := blk (HB.out _ hb2).2; cases x)
    | (go_at_call 19; refine (HC2.out _ _ (by assumption)).mono ?_; rintro e w3 ⟨rfl, hb3⟩; have hx3 : Below W1.heap.size W1 w3 := below_from (by assumption) hb3; clear hb3; obtain ⟨p5, f5⟩ := blk (HB.out _ hx3).1; obtain ⟨p6, f6⟩ := blk (HB.out _ hx3).2)
    | (go_at_call 23; refine (HC3.out _).mono ?_; rintro e w5 ⟨rfl, hb5⟩; have hx5 : Below W1.heap.size W1 w5 := below_from (by assumption) hb5; clear hb5))
  all_goals
    go_ret
    refine ⟨?_, H1.out.trans (Below.mono (by assumption) hs1)⟩
    rw [HE.out]
    refine congrArg Ending.returned (congrArg Value.bool ?_)
    clear HE HC1 HC2 HC3 HB HP H1
    simp (config := { failIfUnchanged := false }) [*]
end Go.Proofs.YtfoiaoopbkcpoaaGreatDoor
namespace Go.Proofs.YtfoiaoopbkcpoaaGreatDoor
open Go.RowKit
open Go.Proofs.Qw
attribute [local go_sem ↓] Go.wp_at_zero Go.wp_at_succ

/-- What is left without what stands between two places. -/
def deleteL (d : Doc) (a b : Ps) : Doc :=
  d.take a.line.toNat ++ [{ (d.getD a.line.toNat default) with cells := (d.getD a.line.toNat default).cells.take a.col.toNat ++ (d.getD b.line.toNat default).cells.drop b.col.toNat }] ++ d.drop (b.line.toNat + 1)
def deleteD (d : Doc) (a b : Ps) : Doc × Int := if spanD d a b = true then (deleteL d a b, 0) else ([], 1)
/-- What a span tells of its places. -/
theorem span_at {d : Doc} {a b : Ps} (h : spanD d a b = true) : mayD d = true ∧ ∃ (i j p q : Nat) (l m : Lin), a = ⟨i, p⟩ ∧ b = ⟨j, q⟩ ∧ d[i]? = some l ∧ d[j]? = some m ∧ p ≤ l.cells.length ∧ q ≤ m.cells.length ∧ i ≤ j ∧ (i = j → p ≤ q) := by
  unfold spanD at h
  simp only [Bool.and_eq_true, decide_eq_true_eq] at h
  obtain ⟨⟨⟨h1, h2⟩, h3⟩, h4⟩ := h
  obtain ⟨ai, ap⟩ := a
  obtain ⟨bj, bq⟩ := b
  have key : ∀ x y : Int, isD d ⟨x, y⟩ = true → ∃ (i p : Nat) (l : Lin), x = i ∧ y = p ∧ d[i]? = some l ∧ p ≤ l.cells.length := by
    intro x y hx
    by_cases hi : 0 ≤ x ∧ x < d.length
    · obtain ⟨i, rfl⟩ := Int.eq_ofNat_of_zero_le hi.1
      obtain ⟨l, hl, _⟩ := getOf d i (by omega)
      rw [isD_at hl] at hx
      simp only [Bool.and_eq_true, decide_eq_true_eq] at hx
      obtain ⟨p, rfl⟩ := Int.eq_ofNat_of_zero_le hx.1
      exact ⟨i, p, l, rfl, rfl, hl, by omega⟩
    · rw [isD_off hi] at hx
      cases hx
  obtain ⟨i, p, l, rfl, rfl, hl, hp⟩ := key _ _ h2
  obtain ⟨j, q, m, rfl, rfl, hm, hq⟩ := key _ _ h3
  refine ⟨h1, i, j, p, q, l, m, rfl, rfl, hl, hm, hp, hq, ?_, ?_⟩
  · unfold cmpP cmpI at h4
    simp only at h4
    by_cases e : (i : Int) < j
    · omega
    · by_cases e2 : (j : Int) < i
      · simp [e, e2] at h4
      · omega
  · intro e
    subst e
    unfold cmpP cmpI at h4
    simp at h4
    split at h4
    · omega
    · split at h4
      · omega
      · omega

theorem deleteL_at {d : Doc} {i j p q : Nat} {l m : Lin} (hl : d[i]? = some l) (hm : d[j]? = some m) : deleteL d ⟨i, p⟩ ⟨j, q⟩ = d.take i ++ [{ l with cells := l.cells.take p ++ m.cells.drop q }] ++ d.drop (j + 1) := by
  unfold deleteL
  simp [List.getD, hl, hm]

theorem docOwn_at {w : World} {S : Nat → Prop} {v : Value} {d : List Lin} (h : DocR true w S v d) {i : Nat} {l : Lin} (hl : d[i]? = some l) : ∃ b o c la lc ca cc, v = .slice (some ⟨b, o, none⟩) d.length c ∧ d.length ≤ c ∧ c ≤ maxLen ∧ LinAt w S b (o + i * 4) l la lc ca cc ∧
    IntsR true w S (.slice la l.lists.length lc) l.lists ∧ CelsR true w S (.slice ca l.cells.length cc) l.cells ∧ S b := by
  obtain ⟨a, c, rfl, hc, hm, hx⟩ := SliceR.shape_own h
  obtain ⟨b, o, vs, cs, rfl, hz, hb, g1, g2, _, ⟨x, y, rfl, h1, h2⟩, he⟩ := hx i l hl
  obtain ⟨la, lc, rfl⟩ := h1.slice
  obtain ⟨ca, cc, rfl⟩ := h2.slice
  exact ⟨b, o, c, la, lc, ca, cc, rfl, hc, hm, ⟨hz, he 0 _ rfl, he 1 _ rfl, he 2 _ rfl, he 3 _ rfl, h1.read fun _ _ h => h, h2.read fun _ _ h => h⟩, h1, h2, hb⟩
/-- One line in a block of its own. -/
theorem doc_one {W : World} {S : Nat → Prop} {l : Lin} {a b : Value} (hI : IntsR true W S a l.lists) (hC : CelsR true W S b l.cells) (hS : S W.heap.size) : DocR true (W.alloc (.cells #[.int .i64 l.quote, a, .int .i64 l.kind, b] 55)) S (.slice (some ⟨W.heap.size, 0, none⟩) 1 1) [l] := by
  have hk : Below W.heap.size W (W.alloc (.cells #[.int .i64 l.quote, a, .int .i64 l.kind, b] 55)) := (Below.refl _ _).alloc (Nat.le_refl _) _
  refine ⟨_, 1, rfl, by simp, by decide, .inr ⟨W.heap.size, 0, rfl, hS, by simp, fun _ => ⟨_, heap_new _ _ rfl, by simp⟩, fun i x hx => ?_⟩⟩
  match i, hx with
  | 0, hx =>
    cases hx
    exact ⟨_, rfl, ⟨a, b, rfl, hI.below (rdOf_stable _) hk, hC.below (rdOf_stable _) hk⟩, fun j u hu => by
      rw [cell_of_heap (heap_new _ _ rfl), Nat.zero_mul, Nat.zero_add]
      simpa using hu⟩
/-- What Delete answers. -/
def DocSaid (x : Doc × Int) (w : World) (e : Ending) (w' : World) : Prop := ∃ v', e = .returned (.tuple #[v', .int .i64 x.2]) ∧ DocR true w' (fun b => w.heap.size ≤ b) v' x.1 ∧ Below w.heap.size w w'

set_option maxRecDepth 100000 in
set_option maxHeartbeats 8000000 in
theorem docDelete_any (v : Value) (d : Doc) (a b : Ps) (w : World) (S : Nat → Prop) (h : LinsR w S v d) (he : EnvT w) (hs : Small d) (hf : Fits d) :
    Calls Tryz.prog 49 #[v, posV a, posV b] w (DocSaid (deleteD d a b) w) := by
  obtain ⟨W1, hW1, hB, hz, hA1, hA2⟩ := two_pos w (.int .i64 a.line) (.int .i64 a.col) (.int .i64 b.line) (.int .i64 b.col)
  have hs1 := hB.size
  have HC1 := Lib.hid (docSpan_any v d a b W1 S (h.below (rdLin_stable _) hB) (he.below hB) hs)
  have HB : Hid (∀ W, Below W1.heap.size W1 W → W.heap[w.heap.size]? = some (.cells #[.int .i64 a.line, .int .i64 a.col] 24) ∧ W.heap[w.heap.size + 1]? = some (.cells #[.int .i64 b.line, .int .i64 b.col] 24)) := Lib.hid fun W hW => ⟨heap_below hW hA1, heap_below hW hA2⟩
  have HP : Hid (∀ p : Ps, posV p = .agg #[.int .i64 p.line, .int .i64 p.col]) := Lib.hid fun _ => rfl
  have H1 := Lib.hid hB
  have HL := Lib.hid (h.below (rdLin_stable _) hB)
  obtain ⟨p1, f1⟩ := blk hA1
  obtain ⟨p2, f2⟩ := blk hA2
  obtain ⟨va, vc, rfl⟩ := h.slice
  have HF := Lib.hid hf
  have hlen := hf.1
  clear h he hs hf hA1 hA2 hB
  cases hsp : spanD d a b
  · have HR : Hid (deleteD d a b = ([], 1)) := Lib.hid (by unfold deleteD; rw [hsp]; rfl)
    rw [hsp] at HC1
    clear hsp
    rw [HP.out a, HP.out b] at HC1 ⊢
    go_enter Tryz.func49, Tryz.ntmps49
    go_wp2_with (go_at_call 90; refine HC1.out.mono ?_; rintro e w2 ⟨rfl, hb2⟩)
    go_ret2
    unfold DocSaid
    rw [HR.out]
    exact ⟨_, rfl, SliceR.nil _ _ _ _ _ _, H1.out.trans (hb2.mono hs1)⟩
  · obtain ⟨_, i, j, p, q, l, m, rfl, rfl, hl, hm, hp, hq, hij, _⟩ := span_at hsp
    have hil := (List.getElem?_eq_some_iff.1 hl).1
    have hjl := (List.getElem?_eq_some_iff.1 hm).1
    have HR : Hid (deleteD d ⟨i, p⟩ ⟨j, q⟩ = (d.take i ++ [{ l with cells := l.cells.take p ++ m.cells.drop q }] ++ d.drop (j + 1), 0)) := Lib.hid (by unfold deleteD; rw [hsp, if_pos rfl, deleteL_at hl hm])
    have hfl := HF.out.2 l (List.mem_of_getElem? hl)
    have hfm := HF.out.2 m (List.mem_of_getElem? hm)
    rw [hsp] at HC1
    clear hsp
    rw [HP.out, HP.out] at HC1 ⊢
    obtain ⟨va', vc', hve, hvc, hvm, hx⟩ := lins_shape HL.out
    cases hve
    obtain ⟨b1, o1, la, lc, ca, cc, rfl, hAi⟩ := hx i l hl
    obtain ⟨b1', o1', la2, lc2, ca2, cc2, hbe, hAj⟩ := hx j m hm
    cases hbe
    have hccl := hAi.cellsR.len
    have hcc2 := hAj.cellsR.len
    have HAI := Lib.hid hAi
    have HAJ := Lib.hid hAj
    have HLL := Lib.hid (And.intro hl hm)
    have HO : Hid (∀ W, Below W1.heap.size W1 W → Calls Tryz.prog 32 #[.slice (some ⟨b1, o1, none⟩) d.length vc] W fun e w' => ∃ v', e = .returned v' ∧ DocR true w' (fun b => W.heap.size ≤ b) v' d ∧ Below W.heap.size W w') := Lib.hid fun W hW => docOwn_any _ d W W1 S HL.out hW HF.out
    unfold maxLen at hvm hccl hcc2
    clear hx hAi hAj hl hm
    have i0 : (0 : Int) ≤ (i : Int) := Int.natCast_nonneg _
    have i1 : (i : Int) < (d.length : Int) := by omega
    have j0 : (0 : Int) ≤ (j : Int) := Int.natCast_nonneg _
    have j1 : (j : Int) < (d.length : Int) := by omega
    go_enter Tryz.func49, Tryz.ntmps49
    go_wp2_with (first
      | (go_at_call 90; refine HC1.out.mono ?_; rintro e w2 ⟨rfl, hb2⟩)
      | (go_at_call 32; refine (HO.out _ hb2).mono ?_; rintro e w3 ⟨v3, rfl, hv3, hb3⟩; obtain ⟨b3, o3, c3, la3, lc3, ca3, cc3, rfl, hc3, hm3, hA3, hI3, hC3, hS3⟩ := docOwn_at (SliceR.bounded (rdLin_stable true) hv3) HLL.out.1; have hx31 : Below W1.heap.size W1 w3 := below_from hb2 hb3; obtain ⟨p3, f3⟩ := blk (HB.out _ hx31).1; obtain ⟨p4, f4⟩ := blk (HB.out _ hx31).2; obtain ⟨hz3, g0, g1, g2, g3, _, _⟩ := hA3; have HV3 := Lib.hid (SliceR.bounded (rdLin_stable true) hv3); have HI3 := Lib.hid hI3; clear hv3 hI3 hC3; unfold maxLen at hm3))
    obtain ⟨W4, hW4⟩ : ∃ W4, w3.alloc (.cells #[.int .i64 l.quote, .slice la3 l.lists.length lc3, .int .i64 l.kind, .slice ca3 l.cells.length cc3] 55) = W4 := ⟨_, rfl⟩
    rw [hW4]
    have hx41 : Below W1.heap.size W1 W4 := hW4 ▸ hx31.alloc hx31.size _
    have hL4 : W4.heap[w3.heap.size]? = some (.cells #[.int .i64 l.quote, .slice la3 l.lists.length lc3, .int .i64 l.kind, .slice ca3 l.cells.length cc3] 55) := hW4 ▸ heap_new _ _ rfl
    have hz4 : w3.heap.size + 1 = W4.heap.size := by rw [← hW4]; simp
    have HL4 : Hid (∀ W, Below W4.heap.size W4 W → W.heap[w3.heap.size]? = some (.cells #[.int .i64 l.quote, .slice la3 l.lists.length lc3, .int .i64 l.kind, .slice ca3 l.cells.length cc3] 55)) := Lib.hid fun W hW => heap_below hW hL4
    obtain ⟨p5, f5⟩ := blk (HB.out _ hx41).1
    obtain ⟨p6, f6⟩ := blk (HB.out _ hx41).2
    obtain ⟨hzb, _, _, _, k3, _, _⟩ := HAI.out.below hx41
    obtain ⟨_, _, _, _, m3, _, _⟩ := HAJ.out.below hx41
    have hb1z : b1 < W1.heap.size := HAI.out.lt
    have h13 := hx31.size
    have n1 : ¬ w3.heap.size = b1 := by omega
    have n2 : ¬ w3.heap.size = w.heap.size := by omega
    have n3 : ¬ w3.heap.size = w.heap.size + 1 := by omega
    have u0 : (0 : Int) ≤ (p : Int) := Int.natCast_nonneg _
    have u1 : (p : Int) ≤ (cc : Int) := by omega
    have u2 : (0 : Int) ≤ (q : Int) := Int.natCast_nonneg _
    have u3 : (q : Int) ≤ (m.cells.length : Int) := by omega
    have hHC : ∀ (s2 : Value) W, Below W1.heap.size W1 W → CelsR false W S s2 (m.cells.drop q) → ∀ g, W.heap[g]? = some (.cells #[.slice ca p cc, s2] 46) → Calls Tryz.prog 91 #[.slice (some ⟨g, 0, none⟩) 2 2] W fun e w' => ∃ v', e = .returned v' ∧ CelsR true w' (fun b => W.heap.size ≤ b) v' (l.cells.take p ++ m.cells.drop q) ∧ Below W.heap.size W w' := by
      intro s2 W hW hR g hg
      have h1 := (HAI.out.below hW).cellsR.take (i := p) (by omega)
      have := concatCell_any g 2 #[.slice ca p cc, s2] [l.cells.take p, m.cells.drop q] W S hg (fun k xs hk => by
        match k, hk with
        | 0, hk => cases hk; exact ⟨_, rfl, h1⟩
        | 1, hk => cases hk; exact ⟨_, rfl, hR⟩) (by simp [lens]; omega) (by simp) rfl
      simpa using this
    have HC := Lib.hid hHC
    have s14 := hx41.size
    have hBd : ∀ X, Below W1.heap.size W1 (W4.alloc X).drew := fun X => (hx41.alloc s14 X).drew
    clear hHC hL4 hfl hfm g0 g1 g2 g3
    have hpair : (∃ X, Hid (∀ W, Below W1.heap.size W1 W → CelsR false W S (.slice X (m.cells.length - q) (cc2 - q)) (m.cells.drop q)) ∧ ((q = cc2 ∧ ca2 = X) ∨ (¬ cc2 = q ∧ ca2.map (·.add (q * 3)) = X))) := by
      have hh : ∀ W, Below W1.heap.size W1 W → CelsR false W S (sliced ca2 q m.cells.length cc2 3) (m.cells.drop q) := fun W hW => by
        have := (HAJ.out.below hW).cellsR.part (i := q) (j := m.cells.length) (m := cc2) hq (Nat.le_refl _) (by omega) (Nat.le_refl _)
        rwa [List.take_of_length_le (by rw [List.length_drop]; omega)] at this
      by_cases hcq : cc2 = q
      · exact ⟨ca2, fun W hW => by have := hh W hW; simpa only [sliced, if_pos hcq] using this, .inl ⟨hcq.symm, rfl⟩⟩
      · exact ⟨_, fun W hW => by have := hh W hW; simpa only [sliced, if_neg hcq] using this, .inr ⟨hcq, rfl⟩⟩
    obtain ⟨X, HP2, hcq⟩ := hpair
    rcases hcq with ⟨rfl, rfl⟩ | ⟨hcq, rfl⟩
    · rw [Nat.sub_self, show m.cells.length - q = 0 by omega] at HP2
      go_region_held3 (fun w' => w'.cell? ⟨w.heap.size, 0, none⟩ = some (.int .i64 i) ∧ w'.cell? ⟨w.heap.size, 1, none⟩ = some (.int .i64 p) ∧ w'.cell? ⟨w.heap.size + 1, 0, none⟩ = some (.int .i64 j) ∧ w'.cell? ⟨w.heap.size + 1, 1, none⟩ = some (.int .i64 q) ∧ w'.cell? ⟨b1, o1 + i * 4 + 3, none⟩ = some (.slice ca l.cells.length cc) ∧ w'.cell? ⟨b1, o1 + j * 4 + 3, none⟩ = some (.slice ca2 m.cells.length q)) (go_keep)
        ((go_at_call 91; refine (HC.out _ _ (hBd _) (HP2.out _ (hBd _)) _ (heap_new _ _ rfl)).mono ?_; rintro e w5 ⟨v5, rfl, hv5, hb5⟩; obtain ⟨a5, c5, hv5e⟩ := hv5.slice; subst hv5e; have hx54 : Below W4.heap.size W4 w5 := below_from (((Below.refl _ _).alloc (Nat.le_refl _) _).drew) hb5; have hx51 := below_from hx41 hx54; obtain ⟨p7, f7⟩ := blk (HB.out _ hx51).1; obtain ⟨p8, f8⟩ := blk (HB.out _ hx51).2; obtain ⟨p9, f9⟩ := blk (HL4.out _ hx54); obtain ⟨_, _, _, _, k5, _, _⟩ := HAI.out.below hx51; obtain ⟨_, _, _, _, m5, _, _⟩ := HAJ.out.below hx51))
      go_wp2_with fail
      have hl5 : (l.cells.take p ++ m.cells.drop q).length = p := by rw [List.length_append, List.length_take, List.length_drop]; omega
      rw [hl5] at hv5
      have hS3' : w2.heap.size ≤ b3 ∧ b3 < w3.heap.size := hS3
      have hK : Keeps (fun b => w2.heap.size ≤ b ∧ b < w3.heap.size) w3 w5 := ((show Keeps (fun b => w2.heap.size ≤ b ∧ b < w3.heap.size) w3 W4 from hW4 ▸ (Keeps.refl _ _).alloc _)).on hx54
      have hK6 := hK.set (p := ⟨w3.heap.size, 3, none⟩) (by simp) (.slice a5 p c5)
      have hw2 := hb2.size
      have hw3 := hb3.size
      have hw5 := hx54.size
      have hD6 := SliceR.stable (rdLin_stable true) HV3.out (hK6.alloc (.cells #[.int .i64 l.quote, .slice la3 l.lists.length lc3, .int .i64 l.kind, .slice a5 p c5] 55)) (S' := fun b => w.heap.size ≤ b) (fun b h _ => by have := h.1; omega)
      have hI6 := SliceR.stable (rdOf_stable _) HI3.out hK6 (S' := fun b => w.heap.size ≤ b) (fun b h _ => by have := h.1; omega)
      have hC6 := SliceR.stable (rdOf_stable _) hv5 ((Keeps.refl _ _).set (p := ⟨w3.heap.size, 3, none⟩) (by simp; omega) (.slice a5 p c5)) (S' := fun b => w.heap.size ≤ b) (fun b h _ => by have h' : W4.heap.size + 1 ≤ b := (by simpa using h); omega)
      have hone := doc_one (l := { l with cells := l.cells.take p ++ m.cells.drop q }) hI6 hC6 (by simp; omega)
      have hC7 := replace_one b3 o3 d.length c3 _ 0 1 d { l with cells := l.cells.take p ++ m.cells.drop q } i (j + 1) w.heap.size _ hD6 hone (by simp; omega) (by omega) (by omega) hlen
      rw [show ((j + 1 : Nat) : Int) = (j : Int) + 1 by omega] at hC7
      simp only [World.size_setCell] at hC7
      have HC7 := Lib.hid hC7
      clear hC7 hone hD6 hI6 hC6 hK6 hK
      with_reducible refine HC7.out.mono ?_
      rintro e w7 ⟨v7, rfl, hv7, hb7⟩
      go_wp2_with fail
      go_ret2
      unfold DocSaid
      rw [HR.out]
      exact ⟨_, rfl, hv7, ((((H1.out.trans (hx51.mono hs1)).setCell (by simp; omega) _).alloc (by simp; omega) _)).trans hb7⟩
    · go_region_held3 (fun w' => w'.cell? ⟨w.heap.size, 0, none⟩ = some (.int .i64 i) ∧ w'.cell? ⟨w.heap.size, 1, none⟩ = some (.int .i64 p) ∧ w'.cell? ⟨w.heap.size + 1, 0, none⟩ = some (.int .i64 j) ∧ w'.cell? ⟨w.heap.size + 1, 1, none⟩ = some (.int .i64 q) ∧ w'.cell? ⟨b1, o1 + i * 4 + 3, none⟩ = some (.slice ca l.cells.length cc) ∧ w'.cell? ⟨b1, o1 + j * 4 + 3, none⟩ = some (.slice ca2 m.cells.length cc2)) (go_keep)
        ((go_at_call 91; refine (HC.out _ _ (hBd _) (HP2.out _ (hBd _)) _ (heap_new _ _ rfl)).mono ?_; rintro e w5 ⟨v5, rfl, hv5, hb5⟩; obtain ⟨a5, c5, hv5e⟩ := hv5.slice; subst hv5e; have hx54 : Below W4.heap.size W4 w5 := below_from (((Below.refl _ _).alloc (Nat.le_refl _) _).drew) hb5; have hx51 := below_from hx41 hx54; obtain ⟨p7, f7⟩ := blk (HB.out _ hx51).1; obtain ⟨p8, f8⟩ := blk (HB.out _ hx51).2; obtain ⟨p9, f9⟩ := blk (HL4.out _ hx54); obtain ⟨_, _, _, _, k5, _, _⟩ := HAI.out.below hx51; obtain ⟨_, _, _, _, m5, _, _⟩ := HAJ.out.below hx51))
      go_wp2_with fail
      have hl5 : (l.cells.take p ++ m.cells.drop q).length = p + (m.cells.length - q) := by rw [List.length_append, List.length_take, List.length_drop]; omega
      rw [hl5] at hv5
      have hS3' : w2.heap.size ≤ b3 ∧ b3 < w3.heap.size := hS3
      have hK : Keeps (fun b => w2.heap.size ≤ b ∧ b < w3.heap.size) w3 w5 := ((show Keeps (fun b => w2.heap.size ≤ b ∧ b < w3.heap.size) w3 W4 from hW4 ▸ (Keeps.refl _ _).alloc _)).on hx54
      have hK6 := hK.set (p := ⟨w3.heap.size, 3, none⟩) (by simp) (.slice a5 (p + (m.cells.length - q)) c5)
      have hw2 := hb2.size
      have hw3 := hb3.size
      have hw5 := hx54.size
      have hD6 := SliceR.stable (rdLin_stable true) HV3.out (hK6.alloc (.cells #[.int .i64 l.quote, .slice la3 l.lists.length lc3, .int .i64 l.kind, .slice a5 (p + (m.cells.length - q)) c5] 55)) (S' := fun b => w.heap.size ≤ b) (fun b h _ => by have := h.1; omega)
      have hI6 := SliceR.stable (rdOf_stable _) HI3.out hK6 (S' := fun b => w.heap.size ≤ b) (fun b h _ => by have := h.1; omega)
      have hC6 := SliceR.stable (rdOf_stable _) hv5 ((Keeps.refl _ _).set (p := ⟨w3.heap.size, 3, none⟩) (by simp; omega) (.slice a5 (p + (m.cells.length - q)) c5)) (S' := fun b => w.heap.size ≤ b) (fun b h _ => by have h' : W4.heap.size + 1 ≤ b := (by simpa using h); omega)
      have hone := doc_one (l := { l with cells := l.cells.take p ++ m.cells.drop q }) hI6 hC6 (by simp; omega)
      have hC7 := replace_one b3 o3 d.length c3 _ 0 1 d { l with cells := l.cells.take p ++ m.cells.drop q } i (j + 1) w.heap.size _ hD6 hone (by simp; omega) (by omega) (by omega) hlen
      rw [show ((j + 1 : Nat) : Int) = (j : Int) + 1 by omega] at hC7
      simp only [World.size_setCell] at hC7
      have HC7 := Lib.hid hC7
      clear hC7 hone hD6 hI6 hC6 hK6 hK
      with_reducible refine HC7.out.mono ?_
      rintro e w7 ⟨v7, rfl, hv7, hb7⟩
      go_wp2_with fail
      go_ret2
      unfold DocSaid
      rw [HR.out]
      exact ⟨_, rfl, hv7, ((((H1.out.trans (hx51.mono hs1)).setCell (by simp; omega) _).alloc (by simp; omega) _)).trans hb7⟩
end Go.Proofs.YtfoiaoopbkcpoaaGreatDoor
