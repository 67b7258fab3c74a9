/- The walks of doc.May, doc.span, doc.Delete. -/
import Derived.Test.YtpndnbjpnajaaaaGreatDoorRefTarget
import Derived.Test.YtpndnbjpnajaaaaGreatDoorReplace
import Derived.Deep.RegionHeld3
import Derived.Deep.DrawnRows
import Derived.Test.YtpndnbjpnajaaaaGreatDoorAttrWalk
import Derived.Shelf.AbstractIn
import Derived.StillTailTactics
set_option linter.unusedVariables false
set_option linter.unusedSimpArgs false
namespace Go.Proofs.YtpndnbjpnajaaaaGreatDoor
open Go.RowKit
open Go.Proofs.Qw
set_option maxHeartbeats 1000000 in
theorem docMay1_any (l : Lin) (b o : Nat) (la ca : Option Addr) (lc cc : Nat) (w w0 : World) (S : Nat → Prop) (hA : LinAt w0 S b o l la lc ca cc)
    (he : EnvT w) (h0 : Below w0.heap.size w0 w) (hs : ∀ c ∈ l.cells, c.href.length ≤ 1000000) :
    Calls Tryz.prog 159 #[.agg #[.int .i64 l.quote, .slice la l.lists.length lc, .int .i64 l.kind, .slice ca l.cells.length cc]] w fun e w' => e = .returned (.bool (!mayL l)) ∧ Below w.heap.size w w' := by
  obtain ⟨W1, hW1⟩ : ∃ W1, w.alloc (.cells #[.int .i64 l.quote, .slice la l.lists.length lc, .int .i64 l.kind, .slice ca l.cells.length cc] 42) = W1 := ⟨_, rfl⟩
  have hB : Below w.heap.size w W1 := hW1 ▸ (Below.refl _ _).alloc (Nat.le_refl _) _
  have k0 : W1.cell? ⟨w.heap.size, 0, none⟩ = some (.int .i64 l.quote) := hW1 ▸ cell_new _ _ _ 0
  have k1 : W1.cell? ⟨w.heap.size, 1, none⟩ = some (.slice la l.lists.length lc) := hW1 ▸ cell_new _ _ _ 1
  have k2 : W1.cell? ⟨w.heap.size, 2, none⟩ = some (.int .i64 l.kind) := hW1 ▸ cell_new _ _ _ 2
  have k3 : W1.cell? ⟨w.heap.size, 3, none⟩ = some (.slice ca l.cells.length cc) := hW1 ▸ cell_new _ _ _ 3
  have HC := Lib.hid (lineMay_any l la ca lc cc W1 w0 S hA.listsR hA.cellsR (he.below hB) (below_from h0 hB) hs)
  generalize mayL l = r at *
  clear hA
  go_enter Tryz.func159, Tryz.ntmps159
  go_wp2_with (go_at_call 160; refine HC.out.mono ?_; rintro e w1 ⟨rfl, hb1⟩)
  go_ret
  exact ⟨rfl, hB.trans (hb1.mono hB.size)⟩
set_option maxHeartbeats 1000000 in
theorem docMay_any (v : Value) (d : Doc) (w w0 : World) (S : Nat → Prop) (h : LinsR w0 S v d) (he : EnvT w) (h0 : Below w0.heap.size w0 w) (hs : Small d) :
    Calls Tryz.prog 90 #[v] w fun e w' => e = .returned (.bool (mayD d)) ∧ Below w.heap.size w w' := by
  have HC1 := Lib.hid (size_any v d w w0 S h h0 hs.1)
  have HC2 : Hid (∀ W, EnvT W → Below w0.heap.size w0 W → Calls Tryz.prog 158 #[v, .func (.func 159) #[] #[]] W fun e w' => e = .returned (.bool (d.any fun l => !mayL l)) ∧ Below W.heap.size W w') := Lib.hid fun W h1 h2 =>
    containsLine_any v d (fun l => !mayL l) 159 #[] (enters_of Tryz.func159 (by kernel_rfl) rfl) W w0 S h h1 h2 (fun i l W' b o la lc ca cc hi hA h1 h2 _ => docMay1_any l b o la ca lc cc W' w0 S hA h1 h2 (hs.2.2 l (List.mem_of_getElem? hi)))
  have HE : Hid (mayD d = (decide (1 ≤ (d.length : Int)) && (decide ((d.length : Int) ≤ 200) && (decide ((sizeD d : Int) ≤ 4000) && !(d.any fun l => !mayL l))))) := Lib.hid (by
    unfold mayD
    rw [List.any_eq_not_all_not, Bool.not_not, Bool.and_assoc, Bool.and_assoc]
    rw [show decide (1 ≤ d.length) = decide (1 ≤ (d.length : Int)) from decide_eq_decide.2 (by omega), show decide (d.length ≤ 200) = decide ((d.length : Int) ≤ 200) from decide_eq_decide.2 (by omega), show decide (sizeD d ≤ 4000) = decide ((sizeD d : Int) ≤ 4000) from decide_eq_decide.2 (by omega)]
    simp)
  obtain ⟨a, c, rfl⟩ := h.slice
  generalize (d.any fun l => !mayL l) = x at *
  generalize mayD d = r at *
  generalize sizeD d = z at *
  clear h
  go_enter Tryz.func90, Tryz.ntmps90
  go_wp2_with (first | (go_at_call 141; refine HC1.out.mono ?_; rintro e w1 ⟨rfl, hb1⟩; have he1 := he.below hb1; have hw1 := below_from h0 hb1) | (go_at_call 158; refine (HC2.out _ (by assumption) (by assumption)).mono ?_; rintro e w2 ⟨rfl, hb2⟩; have hb4 := Below.trans hb1 (hb2.mono (Below.size hb1))))
  all_goals
    go_ret
    refine ⟨?_, by first | assumption | exact Below.refl _ _⟩
    rw [HE.out]
    refine congrArg Ending.returned (congrArg Value.bool ?_)
    clear HE HC1 HC2
    simp (config := { failIfUnchanged := false }) [*]
  all_goals try omega
end Go.Proofs.YtpndnbjpnajaaaaGreatDoor
namespace Go.Proofs.YtpndnbjpnajaaaaGreatDoor
open Go.RowKit
open Go.Proofs.Qw
def spanD (d : Doc) (a b : Ps) : Bool := mayD d && isD d a && isD d b && decide (cmpP a b ≤ 0)
theorem two_pos (w : World) (a b c d : Value) : ∃ W1, (w.alloc (.cells #[a, b] 24)).alloc (.cells #[c, d] 24) = W1 ∧ Below w.heap.size w W1 ∧ w.heap.size + 2 = W1.heap.size ∧
    W1.heap[w.heap.size]? = some (.cells #[a, b] 24) ∧ W1.heap[w.heap.size + 1]? = some (.cells #[c, d] 24) :=
  ⟨_, rfl, ((Below.refl _ _).alloc (Nat.le_refl _) _).alloc (by simp) _, by simp, heap_old _ _ (heap_new _ _ rfl), heap_new _ _ (by simp)⟩
set_option maxRecDepth 100000 in
set_option maxHeartbeats 4000000 in
theorem docSpan_any (v : Value) (d : Doc) (a b : Ps) (w : World) (S : Nat → Prop) (h : LinsR w S v d) (he : EnvT w) (hs : Small d) :
    Calls Tryz.prog 133 #[v, posV a, posV b] w fun e w' => e = .returned (.bool (spanD d a b)) ∧ Below w.heap.size w w' := by
  obtain ⟨W1, hW1, hB, hz, hA1, hA2⟩ := two_pos w (.int .i64 a.line) (.int .i64 a.col) (.int .i64 b.line) (.int .i64 b.col)
  have hs1 := hB.size
  have HC1 := Lib.hid (docMay_any v d W1 w S h (he.below hB) hB hs)
  have HC2 : Hid (∀ p W, Below W1.heap.size W1 W → Calls Tryz.prog 91 #[v, posV p] W fun e w' => e = .returned (.bool (isD d p)) ∧ Below W.heap.size W w') := Lib.hid fun p W hW => is_any v d p W w S h (hB.trans (hW.mono hs1))
  have HC3 : Hid (∀ W, Calls Tryz.prog 92 #[posV a, posV b] W fun e w' => e = .returned (.int .i64 (cmpP a b)) ∧ Below W.heap.size W w') := Lib.hid fun W => cmp_any a b W
  have HB : Hid (∀ W, Below W1.heap.size W1 W → W.heap[w.heap.size]? = some (.cells #[.int .i64 a.line, .int .i64 a.col] 24) ∧ W.heap[w.heap.size + 1]? = some (.cells #[.int .i64 b.line, .int .i64 b.col] 24)) := Lib.hid fun W hW => ⟨heap_below hW hA1, heap_below hW hA2⟩
  have HE : Hid (spanD d a b = (mayD d && (isD d a && (isD d b && decide (cmpP a b ≤ 0))))) := Lib.hid (by unfold spanD; rw [Bool.and_assoc, Bool.and_assoc])
  have HP : Hid (∀ p : Ps, posV p = .agg #[.int .i64 p.line, .int .i64 p.col]) := Lib.hid fun _ => rfl
  have H1 := Lib.hid hB
  obtain ⟨va, vc, rfl⟩ := h.slice
  clear h he hs hz hA1 hA2 hB
  rw [HP.out a, HP.out b]
  generalize spanD d a b = r at *
  generalize mayD d = x at *
  generalize cmpP a b = u at *
  go_enter Tryz.func133, Tryz.ntmps133
  go_wp2_with (first
    | (go_at_call 90; refine HC1.out.mono ?_; rintro e w2 ⟨rfl, hb2⟩; obtain ⟨p3, f3⟩ := blk (HB.out _ hb2).1; obtain ⟨p4, f4⟩ := blk (HB.out _ hb2).2; cases x)
    | (go_at_call 91; refine (HC2.out _ _ (by assumption)).mono ?_; rintro e w3 ⟨rfl, hb3⟩; have hx3 : Below W1.heap.size W1 w3 := below_from (by assumption) hb3; clear hb3; obtain ⟨p5, f5⟩ := blk (HB.out _ hx3).1; obtain ⟨p6, f6⟩ := blk (HB.out _ hx3).2)
    | (go_at_call 92; refine (HC3.out _).mono ?_; rintro e w5 ⟨rfl, hb5⟩; have hx5 : Below W1.heap.size W1 w5 := below_from (by assumption) hb5; clear hb5))
  all_goals
    go_ret
    refine ⟨?_, H1.out.trans (Below.mono (by assumption) hs1)⟩
    rw [HE.out]
    refine congrArg Ending.returned (congrArg Value.bool ?_)
    clear HE HC1 HC2 HC3 HB HP H1
    simp (config := { failIfUnchanged := false }) [*]
end Go.Proofs.YtpndnbjpnajaaaaGreatDoor
namespace Go.Proofs.YtpndnbjpnajaaaaGreatDoor
open Go.RowKit
open Go.Proofs.Qw
attribute [local go_sem ↓] Go.wp_at_zero Go.wp_at_succ
def deleteL (d : Doc) (a b : Ps) : Doc :=
  d.take a.line.toNat ++ [{ (d.getD a.line.toNat default) with cells := (d.getD a.line.toNat default).cells.take a.col.toNat ++ (d.getD b.line.toNat default).cells.drop b.col.toNat }] ++ d.drop (b.line.toNat + 1)
def deleteD (d : Doc) (a b : Ps) : Doc × Int := if spanD d a b = true then (deleteL d a b, 0) else ([], 1)
theorem span_at {d : Doc} {a b : Ps} (h : spanD d a b = true) : mayD d = true ∧ ∃ (i j p q : Nat) (l m : Lin), a = ⟨i, p⟩ ∧ b = ⟨j, q⟩ ∧ d[i]? = some l ∧ d[j]? = some m ∧ p ≤ l.cells.length ∧ q ≤ m.cells.length ∧ i ≤ j ∧ (i = j → p ≤ q) := by
  unfold spanD at h
  simp only [Bool.and_eq_true, decide_eq_true_eq] at h
  obtain ⟨⟨⟨h1, h2⟩, h3⟩, h4⟩ := h
  obtain ⟨ai, ap⟩ := a
  obtain ⟨bj, bq⟩ := b
  have key : ∀ x y : Int, isD d ⟨x, y⟩ = true → ∃ (i p : Nat) (l : Lin), x = i ∧ y = p ∧ d[i]? = some l ∧ p ≤ l.cells.length := by
    intro x y hx
    by_cases hi : 0 ≤ x ∧ x < d.length
    · obtain ⟨i, rfl⟩ := Int.eq_ofNat_of_zero_le hi.1
      obtain ⟨l, hl, _⟩ := getOf d i (by omega)
      rw [isD_at hl] at hx
      simp only [Bool.and_eq_true, decide_eq_true_eq] at hx
      obtain ⟨p, rfl⟩ := Int.eq_ofNat_of_zero_le hx.1
      exact ⟨i, p, l, rfl, rfl, hl, by omega⟩
    · rw [isD_off hi] at hx
      cases hx
  obtain ⟨i, p, l, rfl, rfl, hl, hp⟩ := key _ _ h2
  obtain ⟨j, q, m, rfl, rfl, hm, hq⟩ := key _ _ h3
  refine ⟨h1, i, j, p, q, l, m, rfl, rfl, hl, hm, hp, hq, ?_, ?_⟩
  · unfold cmpP cmpI at h4
    simp only at h4
    by_cases e : (i : Int) < j
    · omega
    · by_cases e2 : (j : Int) < i
      · simp [e, e2] at h4
      · omega
  · intro e
    subst e
    unfold cmpP cmpI at h4
    simp at h4
    split at h4
    · omega
    · split at h4
      · omega
      · omega
theorem deleteL_at {d : Doc} {i j p q : Nat} {l m : Lin} (hl : d[i]? = some l) (hm : d[j]? = some m) : deleteL d ⟨i, p⟩ ⟨j, q⟩ = d.take i ++ [{ l with cells := l.cells.take p ++ m.cells.drop q }] ++ d.drop (j + 1) := by
  unfold deleteL
  simp [List.getD, hl, hm]
theorem docOwn_at {w : World} {S : Nat → Prop} {v : Value} {d : List Lin} (h : DocR true w S v d) {i : Nat} {l : Lin} (hl : d[i]? = some l) : ∃ b o c la lc ca cc, v = .slice (some ⟨b, o, none⟩) d.length c ∧ d.length ≤ c ∧ c ≤ maxLen ∧ LinAt w S b (o + i * 4) l la lc ca cc ∧
    IntsR true w S (.slice la l.lists.length lc) l.lists ∧ CelsR true w S (.slice ca l.cells.length cc) l.cells ∧ S b := by
  obtain ⟨a, c, rfl, hc, hm, hx⟩ := SliceR.shape_own h
  obtain ⟨b, o, vs, cs, rfl, hz, hb, g1, g2, _, ⟨x, y, rfl, h1, h2⟩, he⟩ := hx i l hl
  obtain ⟨la, lc, rfl⟩ := h1.slice
  obtain ⟨ca, cc, rfl⟩ := h2.slice
  exact ⟨b, o, c, la, lc, ca, cc, rfl, hc, hm, ⟨hz, he 0 _ rfl, he 1 _ rfl, he 2 _ rfl, he 3 _ rfl, h1.read fun _ _ h => h, h2.read fun _ _ h => h⟩, h1, h2, hb⟩
theorem doc_one {W : World} {S : Nat → Prop} {l : Lin} {a b : Value} (hI : IntsR true W S a l.lists) (hC : CelsR true W S b l.cells) (hS : S W.heap.size) : DocR true (W.alloc (.cells #[.int .i64 l.quote, a, .int .i64 l.kind, b] 42)) S (.slice (some ⟨W.heap.size, 0, none⟩) 1 1) [l] := by
  have hk : Below W.heap.size W (W.alloc (.cells #[.int .i64 l.quote, a, .int .i64 l.kind, b] 42)) := (Below.refl _ _).alloc (Nat.le_refl _) _
  refine ⟨_, 1, rfl, by simp, by decide, .inr ⟨W.heap.size, 0, rfl, hS, by simp, fun _ => ⟨_, heap_new _ _ rfl, by simp⟩, fun i x hx => ?_⟩⟩
  match i, hx with
  | 0, hx =>
    cases hx
    exact ⟨_, rfl, ⟨a, b, rfl, hI.below (rdOf_stable _) hk, hC.below (rdOf_stable _) hk⟩, fun j u hu => by
      rw [cell_of_heap (heap_new _ _ rfl), Nat.zero_mul, Nat.zero_add]
      simpa using hu⟩
def DocSaid (x : Doc × Int) (w : World) (e : Ending) (w' : World) : Prop := ∃ v', e = .returned (.tuple #[v', .int .i64 x.2]) ∧ DocR true w' (fun b => w.heap.size ≤ b) v' x.1 ∧ Below w.heap.size w w'
set_option maxRecDepth 100000 in
set_option maxHeartbeats 8000000 in
theorem docDelete_any (v : Value) (d : Doc) (a b : Ps) (w : World) (S : Nat → Prop) (h : LinsR w S v d) (he : EnvT w) (hs : Small d) (hf : Fits d) :
    Calls Tryz.prog 122 #[v, posV a, posV b] w (DocSaid (deleteD d a b) w) := by
  obtain ⟨W1, hW1, hB, hz, hA1, hA2⟩ := two_pos w (.int .i64 a.line) (.int .i64 a.col) (.int .i64 b.line) (.int .i64 b.col)
  have hs1 := hB.size
  have HC1 := Lib.hid (docSpan_any v d a b W1 S (h.below (rdLin_stable _) hB) (he.below hB) hs)
  have HB : Hid (∀ W, Below W1.heap.size W1 W → W.heap[w.heap.size]? = some (.cells #[.int .i64 a.line, .int .i64 a.col] 24) ∧ W.heap[w.heap.size + 1]? = some (.cells #[.int .i64 b.line, .int .i64 b.col] 24)) := Lib.hid fun W hW => ⟨heap_below hW hA1, heap_below hW hA2⟩
  have HP : Hid (∀ p : Ps, posV p = .agg #[.int .i64 p.line, .int .i64 p.col]) := Lib.hid fun _ => rfl
  have H1 := Lib.hid hB
  have HL := Lib.hid (h.below (rdLin_stable _) hB)
  obtain ⟨p1, f1⟩ := blk hA1
  obtain ⟨p2, f2⟩ := blk hA2
  obtain ⟨va, vc, rfl⟩ := h.slice
  have HF := Lib.hid hf
  have hlen := hf.1
  clear h he hs hf hA1 hA2 hB
  cases hsp : spanD d a b
  · have HR : Hid (deleteD d a b = ([], 1)) := Lib.hid (by unfold deleteD; rw [hsp]; rfl)
    rw [hsp] at HC1
    clear hsp
    rw [HP.out a, HP.out b] at HC1 ⊢
    go_enter Tryz.func122, Tryz.ntmps122
    go_wp2_with (go_at_call 133; refine HC1.out.mono ?_; rintro e w2 ⟨rfl, hb2⟩)
    go_ret2
    unfold DocSaid
    rw [HR.out]
    exact ⟨_, rfl, SliceR.nil _ _ _ _ _ _, H1.out.trans (hb2.mono hs1)⟩
  · obtain ⟨_, i, j, p, q, l, m, rfl, rfl, hl, hm, hp, hq, hij, _⟩ := span_at hsp
    have hil := (List.getElem?_eq_some_iff.1 hl).1
    have hjl := (List.getElem?_eq_some_iff.1 hm).1
    have HR : Hid (deleteD d ⟨i, p⟩ ⟨j, q⟩ = (d.take i ++ [{ l with cells := l.cells.take p ++ m.cells.drop q }] ++ d.drop (j + 1), 0)) := Lib.hid (by unfold deleteD; rw [hsp, if_pos rfl, deleteL_at hl hm])
    have hfl := HF.out.2 l (List.mem_of_getElem? hl)
    have hfm := HF.out.2 m (List.mem_of_getElem? hm)
    rw [hsp] at HC1
    clear hsp
    rw [HP.out, HP.out] at HC1 ⊢
    obtain ⟨va', vc', hve, hvc, hvm, hx⟩ := lins_shape HL.out
    cases hve
    obtain ⟨b1, o1, la, lc, ca, cc, rfl, hAi⟩ := hx i l hl
    obtain ⟨b1', o1', la2, lc2, ca2, cc2, hbe, hAj⟩ := hx j m hm
    cases hbe
    have hccl := hAi.cellsR.len
    have hcc2 := hAj.cellsR.len
    have HAI := Lib.hid hAi
    have HAJ := Lib.hid hAj
    have HLL := Lib.hid (And.intro hl hm)
    have HO : Hid (∀ W, Below W1.heap.size W1 W → Calls Tryz.prog 108 #[.slice (some ⟨b1, o1, none⟩) d.length vc] W fun e w' => ∃ v', e = .returned v' ∧ DocR true w' (fun b => W.heap.size ≤ b) v' d ∧ Below W.heap.size W w') := Lib.hid fun W hW => docOwn_any _ d W W1 S HL.out hW HF.out
    unfold maxLen at hvm hccl hcc2
    clear hx hAi hAj hl hm
    have i0 : (0 : Int) ≤ (i : Int) := Int.natCast_nonneg _
    have i1 : (i : Int) < (d.length : Int) := by omega
    have j0 : (0 : Int) ≤ (j : Int) := Int.natCast_nonneg _
    have j1 : (j : Int) < (d.length : Int) := by omega
    go_enter Tryz.func122, Tryz.ntmps122
    go_wp2_with (first
      | (go_at_call 133; refine HC1.out.mono ?_; rintro e w2 ⟨rfl, hb2⟩)
      | (go_at_call 108; refine (HO.out _ hb2).mono ?_; rintro e w3 ⟨v3, rfl, hv3, hb3⟩; obtain ⟨b3, o3, c3, la3, lc3, ca3, cc3, rfl, hc3, hm3, hA3, hI3, hC3, hS3⟩ := docOwn_at (SliceR.bounded (rdLin_stable true) hv3) HLL.out.1; have hx31 : Below W1.heap.size W1 w3 := below_from hb2 hb3; obtain ⟨p3, f3⟩ := blk (HB.out _ hx31).1; obtain ⟨p4, f4⟩ := blk (HB.out _ hx31).2; obtain ⟨hz3, g0, g1, g2, g3, _, _⟩ := hA3; have HV3 := Lib.hid (SliceR.bounded (rdLin_stable true) hv3); have HI3 := Lib.hid hI3; clear hv3 hI3 hC3; unfold maxLen at hm3))
    obtain ⟨W4, hW4⟩ : ∃ W4, w3.alloc (.cells #[.int .i64 l.quote, .slice la3 l.lists.length lc3, .int .i64 l.kind, .slice ca3 l.cells.length cc3] 42) = W4 := ⟨_, rfl⟩
    rw [hW4]
    have hx41 : Below W1.heap.size W1 W4 := hW4 ▸ hx31.alloc hx31.size _
    have hL4 : W4.heap[w3.heap.size]? = some (.cells #[.int .i64 l.quote, .slice la3 l.lists.length lc3, .int .i64 l.kind, .slice ca3 l.cells.length cc3] 42) := hW4 ▸ heap_new _ _ rfl
    have hz4 : w3.heap.size + 1 = W4.heap.size := by rw [← hW4]; simp
    have HL4 : Hid (∀ W, Below W4.heap.size W4 W → W.heap[w3.heap.size]? = some (.cells #[.int .i64 l.quote, .slice la3 l.lists.length lc3, .int .i64 l.kind, .slice ca3 l.cells.length cc3] 42)) := Lib.hid fun W hW => heap_below hW hL4
    obtain ⟨p5, f5⟩ := blk (HB.out _ hx41).1
    obtain ⟨p6, f6⟩ := blk (HB.out _ hx41).2
    obtain ⟨hzb, _, _, _, k3, _, _⟩ := HAI.out.below hx41
    obtain ⟨_, _, _, _, m3, _, _⟩ := HAJ.out.below hx41
    have hb1z : b1 < W1.heap.size := HAI.out.lt
    have h13 := hx31.size
    have n1 : ¬ w3.heap.size = b1 := by omega
    have n2 : ¬ w3.heap.size = w.heap.size := by omega
    have n3 : ¬ w3.heap.size = w.heap.size + 1 := by omega
    have u0 : (0 : Int) ≤ (p : Int) := Int.natCast_nonneg _
    have u1 : (p : Int) ≤ (cc : Int) := by omega
    have u2 : (0 : Int) ≤ (q : Int) := Int.natCast_nonneg _
    have u3 : (q : Int) ≤ (m.cells.length : Int) := by omega
    have hHC : ∀ (s2 : Value) W, Below W1.heap.size W1 W → CelsR false W S s2 (m.cells.drop q) → ∀ g, W.heap[g]? = some (.cells #[.slice ca p cc, s2] 40) → Calls Tryz.prog 193 #[.slice (some ⟨g, 0, none⟩) 2 2] W fun e w' => ∃ v', e = .returned v' ∧ CelsR true w' (fun b => W.heap.size ≤ b) v' (l.cells.take p ++ m.cells.drop q) ∧ Below W.heap.size W w' := by
      intro s2 W hW hR g hg
      have h1 := (HAI.out.below hW).cellsR.take (i := p) (by omega)
      have := concatCell_any g 2 #[.slice ca p cc, s2] [l.cells.take p, m.cells.drop q] W S hg (fun k xs hk => by
        match k, hk with
        | 0, hk => cases hk; exact ⟨_, rfl, h1⟩
        | 1, hk => cases hk; exact ⟨_, rfl, hR⟩) (by simp [lens]; omega) (by simp) rfl
      simpa using this
    have HC := Lib.hid hHC
    have s14 := hx41.size
    have hBd : ∀ X, Below W1.heap.size W1 (W4.alloc X).drew := fun X => (hx41.alloc s14 X).drew
    clear hHC hL4 hfl hfm g0 g1 g2 g3
    have hpair : (∃ X, Hid (∀ W, Below W1.heap.size W1 W → CelsR false W S (.slice X (m.cells.length - q) (cc2 - q)) (m.cells.drop q)) ∧ ((q = cc2 ∧ ca2 = X) ∨ (¬ cc2 = q ∧ ca2.map (·.add (q * 3)) = X))) := by
      have hh : ∀ W, Below W1.heap.size W1 W → CelsR false W S (sliced ca2 q m.cells.length cc2 3) (m.cells.drop q) := fun W hW => by
        have := (HAJ.out.below hW).cellsR.part (i := q) (j := m.cells.length) (m := cc2) hq (Nat.le_refl _) (by omega) (Nat.le_refl _)
        rwa [List.take_of_length_le (by rw [List.length_drop]; omega)] at this
      by_cases hcq : cc2 = q
      · exact ⟨ca2, fun W hW => by have := hh W hW; simpa only [sliced, if_pos hcq] using this, .inl ⟨hcq.symm, rfl⟩⟩
      · exact ⟨_, fun W hW => by have := hh W hW; simpa only [sliced, if_neg hcq] using this, .inr ⟨hcq, rfl⟩⟩
    obtain ⟨X, HP2, hcq⟩ := hpair
    rcases hcq with ⟨rfl, rfl⟩ | ⟨hcq, rfl⟩
    · rw [Nat.sub_self, show m.cells.length - q = 0 by omega] at HP2
      go_region_held3 (fun w' => w'.cell? ⟨w.heap.size, 0, none⟩ = some (.int .i64 i) ∧ w'.cell? ⟨w.heap.size, 1, none⟩ = some (.int .i64 p) ∧ w'.cell? ⟨w.heap.size + 1, 0, none⟩ = some (.int .i64 j) ∧ w'.cell? ⟨w.heap.size + 1, 1, none⟩ = some (.int .i64 q) ∧ w'.cell? ⟨b1, o1 + i * 4 + 3, none⟩ = some (.slice ca l.cells.length cc) ∧ w'.cell? ⟨b1, o1 + j * 4 + 3, none⟩ = some (.slice ca2 m.cells.length q)) (go_keep)
        ((go_at_call 193; refine (HC.out _ _ (hBd _) (HP2.out _ (hBd _)) _ (heap_new _ _ rfl)).mono ?_; rintro e w5 ⟨v5, rfl, hv5, hb5⟩; obtain ⟨a5, c5, hv5e⟩ := hv5.slice; subst hv5e; have hx54 : Below W4.heap.size W4 w5 := below_from (((Below.refl _ _).alloc (Nat.le_refl _) _).drew) hb5; have hx51 := below_from hx41 hx54; obtain ⟨p7, f7⟩ := blk (HB.out _ hx51).1; obtain ⟨p8, f8⟩ := blk (HB.out _ hx51).2; obtain ⟨p9, f9⟩ := blk (HL4.out _ hx54); obtain ⟨_, _, _, _, k5, _, _⟩ := HAI.out.below hx51; obtain ⟨_, _, _, _, m5, _, _⟩ := HAJ.out.below hx51))
      go_wp2_with fail
      have hl5 : (l.cells.take p ++ m.cells.drop q).length = p := by rw [List.length_append, List.length_take, List.length_drop]; omega
      rw [hl5] at hv5
      have hS3' : w2.heap.size ≤ b3 ∧ b3 < w3.heap.size := hS3
      have hK : Keeps (fun b => w2.heap.size ≤ b ∧ b < w3.heap.size) w3 w5 := ((show Keeps (fun b => w2.heap.size ≤ b ∧ b < w3.heap.size) w3 W4 from hW4 ▸ (Keeps.refl _ _).alloc _)).on hx54
      have hK6 := hK.set (p := ⟨w3.heap.size, 3, none⟩) (by simp) (.slice a5 p c5)
      have hw2 := hb2.size
      have hw3 := hb3.size
      have hw5 := hx54.size
      have hD6 := SliceR.stable (rdLin_stable true) HV3.out (hK6.alloc (.cells #[.int .i64 l.quote, .slice la3 l.lists.length lc3, .int .i64 l.kind, .slice a5 p c5] 42)) (S' := fun b => w.heap.size ≤ b) (fun b h _ => by have := h.1; omega)
      have hI6 := SliceR.stable (rdOf_stable _) HI3.out hK6 (S' := fun b => w.heap.size ≤ b) (fun b h _ => by have := h.1; omega)
      have hC6 := SliceR.stable (rdOf_stable _) hv5 ((Keeps.refl _ _).set (p := ⟨w3.heap.size, 3, none⟩) (by simp; omega) (.slice a5 p c5)) (S' := fun b => w.heap.size ≤ b) (fun b h _ => by have h' : W4.heap.size + 1 ≤ b := (by simpa using h); omega)
      have hone := doc_one (l := { l with cells := l.cells.take p ++ m.cells.drop q }) hI6 hC6 (by simp; omega)
      have hC7 := replace_one b3 o3 d.length c3 _ 0 1 d { l with cells := l.cells.take p ++ m.cells.drop q } i (j + 1) w.heap.size _ hD6 hone (by simp; omega) (by omega) (by omega) hlen
      rw [show ((j + 1 : Nat) : Int) = (j : Int) + 1 by omega] at hC7
      simp only [World.size_setCell] at hC7
      have HC7 := Lib.hid hC7
      clear hC7 hone hD6 hI6 hC6 hK6 hK
      with_reducible refine HC7.out.mono ?_
      rintro e w7 ⟨v7, rfl, hv7, hb7⟩
      go_wp2_with fail
      go_ret2
      unfold DocSaid
      rw [HR.out]
      exact ⟨_, rfl, hv7, ((((H1.out.trans (hx51.mono hs1)).setCell (by simp; omega) _).alloc (by simp; omega) _)).trans hb7⟩
    · go_region_held3 (fun w' => w'.cell? ⟨w.heap.size, 0, none⟩ = some (.int .i64 i) ∧ w'.cell? ⟨w.heap.size, 1, none⟩ = some (.int .i64 p) ∧ w'.cell? ⟨w.heap.size + 1, 0, none⟩ = some (.int .i64 j) ∧ w'.cell? ⟨w.heap.size + 1, 1, none⟩ = some (.int .i64 q) ∧ w'.cell? ⟨b1, o1 + i * 4 + 3, none⟩ = some (.slice ca l.cells.length cc) ∧ w'.cell? ⟨b1, o1 + j * 4 + 3, none⟩ = some (.slice ca2 m.cells.length cc2)) (go_keep)
        ((go_at_call 193; refine (HC.out _ _ (hBd _) (HP2.out _ (hBd _)) _ (heap_new _ _ rfl)).mono ?_; rintro e w5 ⟨v5, rfl, hv5, hb5⟩; obtain ⟨a5, c5, hv5e⟩ := hv5.slice; subst hv5e; have hx54 : Below W4.heap.size W4 w5 := below_from (((Below.refl _ _).alloc (Nat.le_refl _) _).drew) hb5; have hx51 := below_from hx41 hx54; obtain ⟨p7, f7⟩ := blk (HB.out _ hx51).1; obtain ⟨p8, f8⟩ := blk (HB.out _ hx51).2; obtain ⟨p9, f9⟩ := blk (HL4.out _ hx54); obtain ⟨_, _, _, _, k5, _, _⟩ := HAI.out.below hx51; obtain ⟨_, _, _, _, m5, _, _⟩ := HAJ.out.below hx51))
      go_wp2_with fail
      have hl5 : (l.cells.take p ++ m.cells.drop q).length = p + (m.cells.length - q) := by rw [List.length_append, List.length_take, List.length_drop]; omega
      rw [hl5] at hv5
      have hS3' : w2.heap.size ≤ b3 ∧ b3 < w3.heap.size := hS3
      have hK : Keeps (fun b => w2.heap.size ≤ b ∧ b < w3.heap.size) w3 w5 := ((show Keeps (fun b => w2.heap.size ≤ b ∧ b < w3.heap.size) w3 W4 from hW4 ▸ (Keeps.refl _ _).alloc _)).on hx54
      have hK6 := hK.set (p := ⟨w3.heap.size, 3, none⟩) (by simp) (.slice a5 (p + (m.cells.length - q)) c5)
      have hw2 := hb2.size
      have hw3 := hb3.size
      have hw5 := hx54.size
      have hD6 := SliceR.stable (rdLin_stable true) HV3.out (hK6.alloc (.cells #[.int .i64 l.quote, .slice la3 l.lists.length lc3, .int .i64 l.kind, .slice a5 (p + (m.cells.length - q)) c5] 42)) (S' := fun b => w.heap.size ≤ b) (fun b h _ => by have := h.1; omega)
      have hI6 := SliceR.stable (rdOf_stable _) HI3.out hK6 (S' := fun b => w.heap.size ≤ b) (fun b h _ => by have := h.1; omega)
      have hC6 := SliceR.stable (rdOf_stable _) hv5 ((Keeps.refl _ _).set (p := ⟨w3.heap.size, 3, none⟩) (by simp; omega) (.slice a5 (p + (m.cells.length - q)) c5)) (S' := fun b => w.heap.size ≤ b) (fun b h _ => by have h' : W4.heap.size + 1 ≤ b := (by simpa using h); omega)
      have hone := doc_one (l := { l with cells := l.cells.take p ++ m.cells.drop q }) hI6 hC6 (by simp; omega)
      have hC7 := replace_one b3 o3 d.length c3 _ 0 1 d { l with cells := l.cells.take p ++ m.cells.drop q } i (j + 1) w.heap.size _ hD6 hone (by simp; omega) (by omega) (by omega) hlen
      rw [show ((j + 1 : Nat) : Int) = (j : Int) + 1 by omega] at hC7
      simp only [World.size_setCell] at hC7
      have HC7 := Lib.hid hC7
      clear hC7 hone hD6 hI6 hC6 hK6 hK
      with_reducible refine HC7.out.mono ?_
      rintro e w7 ⟨v7, rfl, hv7, hb7⟩
      go_wp2_with fail
      go_ret2
      unfold DocSaid
      rw [HR.out]
      exact ⟨_, rfl, hv7, ((((H1.out.trans (hx51.mono hs1)).setCell (by simp; omega) _).alloc (by simp; omega) _)).trans hb7⟩
end Go.Proofs.YtpndnbjpnajaaaaGreatDoor
namespace Go.Proofs.Qw
open Go.RowKit Go.Proofs.YtpndnbjpnajaaaaGreatDoor
def rowB (d : Doc) (i p j q k : Nat) : Nat × Nat × Nat := (k, if k = i then p else 0, if k = j then q else (d.getD k default).cells.length)
def rowsTo (d : Doc) (i p j q k : Nat) : List (Nat × Nat × Nat) := (List.range (k - i)).map fun n => rowB d i p j q (i + n)
def RowOk (d : Doc) (x : Nat × Nat × Nat) : Prop := ∃ l, d[x.1]? = some l ∧ x.2.1 ≤ x.2.2 ∧ x.2.2 ≤ l.cells.length
abbrev RowX (d : Doc) := { x : Nat × Nat × Nat // RowOk d x }
abbrev rowEnc {d : Doc} (x : RowX d) : Array Value := #[.int .i64 x.1.1, .agg #[.int .i64 x.1.2.1, .int .i64 x.1.2.2]]
theorem rowsTo_nil (d : Doc) (i p j q : Nat) : rowsTo d i p j q i = [] := by simp [rowsTo]
theorem rowsTo_step (d : Doc) {i p j q k : Nat} (h : i ≤ k) : rowsTo d i p j q (k + 1) = rowsTo d i p j q k ++ [rowB d i p j q k] := by
  unfold rowsTo
  rw [show k + 1 - i = (k - i) + 1 by omega, List.range_succ, List.map_append]
  congr 1
  rw [List.map_singleton, show i + (k - i) = k by omega]
theorem rowB_len (d : Doc) {i p j q k : Nat} {l : Lin} (hl : d[k]? = some l) : rowB d i p j q k = (k, if k = i then p else 0, if k = j then q else l.cells.length) := by
  unfold rowB; simp [List.getD, hl]
theorem rowB_ok {d : Doc} {i p j q k : Nat} {l m : Lin} (hl : d[i]? = some l) (hm : d[j]? = some m) (hp : p ≤ l.cells.length) (hq : q ≤ m.cells.length) (hpq : i = j → p ≤ q) (hk1 : i ≤ k) (hk2 : k ≤ j) : RowOk d (rowB d i p j q k) := by
  obtain ⟨x, hx, _⟩ := getOf d k (by have := (List.getElem?_eq_some_iff.1 hm).1; omega)
  refine ⟨x, by simpa [rowB] using hx, ?_⟩
  rw [rowB_len d hx]
  dsimp only
  by_cases h1 : k = i
  · subst h1
    rw [hl] at hx
    cases hx
    by_cases h2 : k = j
    · subst h2
      rw [hl] at hm
      cases hm
      simp only [if_pos]
      exact ⟨hpq rfl, hq⟩
    · simp only [if_pos, if_neg h2]
      exact ⟨hp, Nat.le_refl _⟩
  · by_cases h2 : k = j
    · subst h2
      rw [hm] at hx
      cases hx
      simp only [if_pos, if_neg h1]
      exact ⟨Nat.zero_le _, hq⟩
    · simp only [if_neg h1, if_neg h2]
      exact ⟨Nat.zero_le _, Nat.le_refl _⟩
end Go.Proofs.Qw
namespace Go.Proofs.YtpndnbjpnajaaaaGreatDoor
open Go.RowKit
open Go.Proofs.Qw
set_option maxHeartbeats 400000 in
theorem between_any (va : Option Addr) (vn vc : Nat) (a1 a2 b1 b2 : Int) (w : World) :
    Calls Tryz.prog 134 #[.slice va vn vc, .agg #[.int .i64 a1, .int .i64 a2], .agg #[.int .i64 b1, .int .i64 b2]] w fun e w' => e = .returned (.func (.func 199) #[] #[.pointer (some ⟨w.heap.size + 1, 0, none⟩), .pointer (some ⟨w.heap.size + 2, 0, none⟩), .pointer (some ⟨w.heap.size, 0, none⟩)]) ∧
      w' = ((w.alloc (.cells #[.slice va vn vc] 22)).alloc (.cells #[.int .i64 a1, .int .i64 a2] 24)).alloc (.cells #[.int .i64 b1, .int .i64 b2] 24) := by
  go_enter Tryz.func134, Tryz.ntmps134
  go_wp2_with fail
  go_ret
  exact ⟨rfl, rfl⟩
attribute [local go_sem] Oper.semAt_some
set_option maxRecDepth 200000 in
set_option maxHeartbeats 4000000 in
theorem between1_in (n l Bd Ba Bb base : Nat) (v : Value) (d : Doc) (i p j q : Nat) (S : Nat → Prop) (J Jx : List (RowX d) → World → Prop) (w0 W : World) (hv : LinsR w0 S v d) (hb0 : Below w0.heap.size w0 W)
    (hbase : base ≤ Bd ∧ base ≤ Ba ∧ base ≤ Bb) (hD : W.heap[Bd]? = some (.cells #[v] 22)) (hA : W.heap[Ba]? = some (.cells #[.int .i64 i, .int .i64 p] 24)) (hB : W.heap[Bb]? = some (.cells #[.int .i64 j, .int .i64 q] 24))
    (hij : i ≤ j) (hj : j < d.length) (hok : ∀ k, i ≤ k → k ≤ j → RowOk d (rowB d i p j q k)) (hlen : d.length ≤ 100000) (hJ : AbidesFrom W.heap.size J)
    (hY : ∀ (pre : List (RowX d)) (x : RowX d) W, J pre W → pre.length < 200000 → YieldAt Fence.wide (n - 1) Tryz.prog l (rowEnc x) W fun e W' =>
      (e = .returned (.bool true) ∧ J (pre ++ [x]) W' ∧ Kp w0.heap.size base W W') ∨ (e = .returned (.bool false) ∧ Jx (pre ++ [x]) W'))
    (h0 : J [] W) :
    CallsIn Fence.wide n Tryz.prog 199 #[.func (.yield l) #[] #[], .pointer (some ⟨Ba, 0, none⟩), .pointer (some ⟨Bb, 0, none⟩), .pointer (some ⟨Bd, 0, none⟩)] W fun e W' => (∃ v, e = .returned v) ∧
      ((∃ ys : List (RowX d), ys.map (·.1) = rowsTo d i p j q (j + 1) ∧ J ys W') ∨ (∃ pre, True ∧ Jx pre W')) := by
  refine callsIn_of_wp Tryz.func199 rfl trivial ?_ rfl
  simp only [Tryz.ntmps199, List.size_toArray, List.length_cons, List.length_nil, Nat.reduceAdd, Nat.reduceSub, Array.replicate_succ, Array.replicate_zero, List.push_toArray, List.append_toArray, List.nil_append, List.cons_append]
  have hwf : ∀ f, Fence.wide.fn f := fun _ => trivial
  have hwd : Fence.wide.depth = none := rfl
  obtain ⟨va, vc, rfl, hvc, hvm, hx⟩ := lins_shape hv
  have HX := Lib.hid hx
  have HY := Lib.hid hY
  have HOK := Lib.hid hok
  have HJA := Lib.hid hJ
  have HBK := Lib.hid (And.intro hD (And.intro hA hB))
  obtain ⟨p1, f1⟩ := blk hD
  obtain ⟨p2, f2⟩ := blk hA
  obtain ⟨p3, f3⟩ := blk hB
  unfold maxLen at hvm
  clear hx hv hY hok hJ hD hA hB
  gi_wp2_with fail
  clear p1 f1 p2 f2 p3 f3
  gi_loopw [5, 6, 7] (fun z _ _ wr => ∃ (k : Nat) (pre : List (RowX d)), i ≤ k ∧ k ≤ j + 1 ∧ pre.length ≤ k ∧ z = .int .i64 k ∧ Hid (pre.map (·.1) = rowsTo d i p j q k) ∧ J pre wr ∧ Below w0.heap.size w0 wr ∧ Hid (wr.heap[Bd]? = some (.cells #[.slice va d.length vc] 22) ∧ wr.heap[Ba]? = some (.cells #[.int .i64 i, .int .i64 p] 24) ∧ wr.heap[Bb]? = some (.cells #[.int .i64 j, .int .i64 q] 24)) ∧ W.heap.size ≤ wr.heap.size)
    (fun z _ _ _ => j + 1 - (intOf z).toNat)
  case atStart => exact ⟨i, [], Nat.le_refl _, by omega, Nat.zero_le _, rfl, Lib.hid (rowsTo_nil ..).symm, h0, hb0, HBK, Nat.le_refl _⟩
  case round =>
    obtain ⟨k, pre, hk1, hk2, hpl, rfl, HP, hJs, hb1, HBL, hz1⟩ := hrel
    obtain ⟨p1, f1⟩ := blk HBL.out.1
    obtain ⟨p2, f2⟩ := blk HBL.out.2.1
    obtain ⟨p3, f3⟩ := blk HBL.out.2.2
    by_cases hlt : k ≤ j
    · obtain ⟨l0, hl0, _⟩ := getOf d k (by omega)
      obtain ⟨b, o, la, lc, ca, cc, rfl, hAk⟩ := HX.out k l0 hl0
      obtain ⟨_, c0, c1, c2, c3, _, _⟩ := hAk.below hb1
      have HL0 := Lib.hid (rowB_len d (i := i) (p := p) (j := j) (q := q) hl0)
      have hd1 : Below wr.heap.size wr wr.drew := (Below.refl _ _).drew
      have HD1 := Lib.hid hd1
      have HJ1 := Lib.hid (abides_below (X := wr) (Y := wr.drew) HJA.out hJs hd1)
      have i0 : (0 : Int) ≤ (k : Int) := Int.natCast_nonneg _
      have i1 : (k : Int) < (d.length : Int) := by omega
      have hNext : ∀ w7, J (pre ++ [⟨rowB d i p j q k, HOK.out k hk1 hlt⟩]) w7 → Kp w0.heap.size base wr.drew w7 → ∃ (k' : Nat) (pre : List (RowX d)), i ≤ k' ∧ k' ≤ j + 1 ∧ pre.length ≤ k' ∧ k' = k + 1 ∧ Hid (pre.map (·.1) = rowsTo d i p j q k') ∧ J pre w7 ∧ Below w0.heap.size w0 w7 ∧ Hid (w7.heap[Bd]? = some (.cells #[.slice (some ⟨b, o, none⟩) d.length vc] 22) ∧ w7.heap[Ba]? = some (.cells #[.int .i64 i, .int .i64 p] 24) ∧ w7.heap[Bb]? = some (.cells #[.int .i64 j, .int .i64 q] 24)) ∧ W.heap.size ≤ w7.heap.size := by
        intro w7 hj7 hk7
        refine ⟨k + 1, _, by omega, by omega, by simp; omega, rfl, Lib.hid ?_, hj7, (below_from hb1 HD1.out).trans hk7.below, Lib.hid ⟨hk7.cells _ _ hbase.1 HBL.out.1 rfl, hk7.cells _ _ hbase.2.1 HBL.out.2.1 rfl, hk7.cells _ _ hbase.2.2 HBL.out.2.2 rfl⟩, Nat.le_trans hz1 hk7.below.size⟩
        rw [rowsTo_step d hk1, List.map_append, HP.out]
        rfl
      have HNX := Lib.hid hNext
      have hYY := HY.out pre ⟨rowB d i p j q k, HOK.out k hk1 hlt⟩ wr.drew HJ1.out (by omega)
      have hrow : rowEnc (⟨rowB d i p j q k, HOK.out k hk1 hlt⟩ : RowX d) = #[.int .i64 k, .agg #[.int .i64 ((if k = i then p else 0 : Nat) : Int), .int .i64 ((if k = j then q else l0.cells.length : Nat) : Int)]] := by unfold rowEnc; simp only [HL0.out]
      rw [hrow] at hYY
      clear hAk hl0 hNext hJs HJ1 HL0 hrow
      rcases (show k = i ∧ k = j ∨ k = i ∧ ¬ k = j ∨ ¬ k = i ∧ k = j ∨ ¬ k = i ∧ ¬ k = j by omega) with ⟨e1, e2⟩ | ⟨e1, e2⟩ | ⟨e1, e2⟩ | ⟨e1, e2⟩
      · rw [if_pos e1, if_pos e2] at hYY
        have hq1 : ((k : Int) == (i : Int)) = true := by simp; omega
        have hq2 : ((k : Int) == (j : Int)) = true := by simp; omega
        have hq3 : decide ((k : Int) ≤ (j : Int)) = true := by simp; omega
        try rw [show ((0 : Nat) : Int) = 0 from rfl] at hYY
        obtain ⟨fn, tmps, assign, body, hy, hR⟩ := hYY
        clear e1 e2
        gi_wp2_with fail
        gi_region
        gi_wp2_with fail
        refine hR.mono ?_
        rintro e w7 (⟨rfl, hJ7, hk7⟩ | ⟨rfl, hJx7⟩)
        · gi_wp2_with fail
          obtain ⟨k', pre', g1, g2, g3, e3, g4, g5, g6, g7, g8⟩ := HNX.out w7 hJ7 hk7
          go_roundw
          case rel => exact ⟨k', pre', g1, g2, g3, by rw [e3]; go_num, g4, g5, g6, g7, g8⟩
          case measure => simp [intOf]; omega
        · gi_wp2_with fail
          refine bodyPost_ret (results_none rfl _ _ _) rfl ?_
          exact ⟨⟨_, rfl⟩, .inr ⟨_, trivial, hJx7⟩⟩
      · rw [if_pos e1, if_neg e2] at hYY
        have hq1 : ((k : Int) == (i : Int)) = true := by simp; omega
        have hq2 : ((k : Int) == (j : Int)) = false := by simp; omega
        have hq3 : decide ((k : Int) ≤ (j : Int)) = true := by simp; omega
        try rw [show ((0 : Nat) : Int) = 0 from rfl] at hYY
        obtain ⟨fn, tmps, assign, body, hy, hR⟩ := hYY
        clear e1 e2
        gi_wp2_with fail
        gi_region
        gi_wp2_with fail
        refine hR.mono ?_
        rintro e w7 (⟨rfl, hJ7, hk7⟩ | ⟨rfl, hJx7⟩)
        · gi_wp2_with fail
          obtain ⟨k', pre', g1, g2, g3, e3, g4, g5, g6, g7, g8⟩ := HNX.out w7 hJ7 hk7
          go_roundw
          case rel => exact ⟨k', pre', g1, g2, g3, by rw [e3]; go_num, g4, g5, g6, g7, g8⟩
          case measure => simp [intOf]; omega
        · gi_wp2_with fail
          refine bodyPost_ret (results_none rfl _ _ _) rfl ?_
          exact ⟨⟨_, rfl⟩, .inr ⟨_, trivial, hJx7⟩⟩
      · rw [if_neg e1, if_pos e2] at hYY
        have hq1 : ((k : Int) == (i : Int)) = false := by simp; omega
        have hq2 : ((k : Int) == (j : Int)) = true := by simp; omega
        have hq3 : decide ((k : Int) ≤ (j : Int)) = true := by simp; omega
        try rw [show ((0 : Nat) : Int) = 0 from rfl] at hYY
        obtain ⟨fn, tmps, assign, body, hy, hR⟩ := hYY
        clear e1 e2
        gi_wp2_with fail
        gi_region
        gi_wp2_with fail
        refine hR.mono ?_
        rintro e w7 (⟨rfl, hJ7, hk7⟩ | ⟨rfl, hJx7⟩)
        · gi_wp2_with fail
          obtain ⟨k', pre', g1, g2, g3, e3, g4, g5, g6, g7, g8⟩ := HNX.out w7 hJ7 hk7
          go_roundw
          case rel => exact ⟨k', pre', g1, g2, g3, by rw [e3]; go_num, g4, g5, g6, g7, g8⟩
          case measure => simp [intOf]; omega
        · gi_wp2_with fail
          refine bodyPost_ret (results_none rfl _ _ _) rfl ?_
          exact ⟨⟨_, rfl⟩, .inr ⟨_, trivial, hJx7⟩⟩
      · rw [if_neg e1, if_neg e2] at hYY
        have hq1 : ((k : Int) == (i : Int)) = false := by simp; omega
        have hq2 : ((k : Int) == (j : Int)) = false := by simp; omega
        have hq3 : decide ((k : Int) ≤ (j : Int)) = true := by simp; omega
        try rw [show ((0 : Nat) : Int) = 0 from rfl] at hYY
        obtain ⟨fn, tmps, assign, body, hy, hR⟩ := hYY
        clear e1 e2
        gi_wp2_with fail
        gi_region
        gi_wp2_with fail
        refine hR.mono ?_
        rintro e w7 (⟨rfl, hJ7, hk7⟩ | ⟨rfl, hJx7⟩)
        · gi_wp2_with fail
          obtain ⟨k', pre', g1, g2, g3, e3, g4, g5, g6, g7, g8⟩ := HNX.out w7 hJ7 hk7
          go_roundw
          case rel => exact ⟨k', pre', g1, g2, g3, by rw [e3]; go_num, g4, g5, g6, g7, g8⟩
          case measure => simp [intOf]; omega
        · gi_wp2_with fail
          refine bodyPost_ret (results_none rfl _ _ _) rfl ?_
          exact ⟨⟨_, rfl⟩, .inr ⟨_, trivial, hJx7⟩⟩
    · obtain rfl : k = j + 1 := by omega
      gi_wp2_with fail
      go_end0
      exact ⟨⟨_, rfl⟩, .inl ⟨pre, HP.out, hJs⟩⟩
end Go.Proofs.YtpndnbjpnajaaaaGreatDoor
namespace Go.Proofs.Qw
open Go.RowKit Go.Proofs.YtpndnbjpnajaaaaGreatDoor
def cellsB (d : Doc) (x : Nat × Nat × Nat) : List Cel := ((d.getD x.1 default).cells.drop x.2.1).take (x.2.2 - x.2.1)
def cellsL (d : Doc) (l : List (Nat × Nat × Nat)) : List Cel := l.flatMap (cellsB d)
def cellsD (d : Doc) (a b : Ps) : List Cel := if spanD d a b = true then cellsL d (rowsTo d a.line.toNat a.col.toNat b.line.toNat b.col.toNat (b.line.toNat + 1)) else []
theorem cellsL_snoc (d : Doc) (l : List (Nat × Nat × Nat)) (x : Nat × Nat × Nat) : cellsL d (l ++ [x]) = cellsL d l ++ cellsB d x := by simp [cellsL]
theorem cellsB_at {d : Doc} {x : Nat × Nat × Nat} {l : Lin} (h : d[x.1]? = some l) : cellsB d x = (l.cells.drop x.2.1).take (x.2.2 - x.2.1) := by simp [cellsB, List.getD, h]
theorem cellsB_le {d : Doc} (hs : sizeD d ≤ 100000) (x : Nat × Nat × Nat) : (cellsB d x).length ≤ 100000 := by
  unfold cellsB
  rw [List.length_take, List.length_drop]
  by_cases hx : x.1 < d.length
  · obtain ⟨l, hl, _⟩ := getOf d x.1 hx
    have := cells_le hl
    simp only [List.getD, hl, Option.getD_some]
    omega
  · rw [List.getD, List.getElem?_eq_none (by omega)]
    have : (Option.getD (none : Option Lin) default).cells.length = 0 := rfl
    omega
theorem cellsL_le {d : Doc} (hs : sizeD d ≤ 100000) : ∀ l : List (Nat × Nat × Nat), (cellsL d l).length ≤ l.length * 100000
  | [] => by simp [cellsL]
  | x :: l => by
    have h1 := cellsB_le hs x
    have h2 := cellsL_le hs l
    have : cellsL d (x :: l) = cellsB d x ++ cellsL d l := by simp [cellsL]
    rw [this, List.length_append, List.length_cons, Nat.succ_mul]
    omega
theorem blk_own {β : Type} (B k : Nat) (cs : Array Value) (t : TypeId) : OwnFrom B (fun (_ : β) (W : World) => W.heap[k]? = some (.cells cs t)) := fun _ X _ _ hs hg hr =>
  (hg.block k (Array.getElem?_eq_some_iff.1 hs).1 (fun e => by obtain ⟨_, o, ho, hc⟩ := hr k e.symm; rw [hs] at ho; cases ho; cases hc)).trans hs
end Go.Proofs.Qw
namespace Go.Proofs.YtpndnbjpnajaaaaGreatDoor
open Go.RowKit
open Go.Proofs.Qw
attribute [local go_sem] Oper.semAt_some
theorem results_ints2 {fn : Func} {p u : Tmp} (h : fn.results = #[.cell p 3, .cell u 3]) (tmps : Array Value) (w : World) (a b : Addr) (x y : Int) (hp : tmps.getD p undef = .pointer (some a)) (hu : tmps.getD u undef = .pointer (some b)) (h1 : w.cell? a = some (.int .i64 x)) (h2 : w.cell? b = some (.int .i64 y)) :
    (results fn tmps).run Tryz.prog w = .ok (.tuple #[.int .i64 x, .int .i64 y]) w := by
  simp only [results, h]
  simp at hp hu
  simp [go_sem, hp, hu, h1, h2]
def TI (d : Doc) (so : Cel → Bool) (v fv : Value) (w : World) (n : Nat) (pre : List (RowX d)) (W : World) : Prop :=
  Boxed W (w.heap.size + 4) 3 (.int .i64 (cellsL d (pre.map (·.1))).length) ∧ Boxed W (w.heap.size + 5) 3 (.int .i64 ((cellsL d (pre.map (·.1))).countP so)) ∧
    W.heap[w.heap.size]? = some (.cells #[v] 22) ∧ W.heap[w.heap.size + 3]? = some (.cells #[fv] 79) ∧ Below w.heap.size w W ∧ n ≤ W.heap.size
theorem ti_own {d : Doc} {so : Cel → Bool} {v fv : Value} {w : World} {n B : Nat} (hB : w.heap.size ≤ B) : OwnFrom B (TI d so v fv w n) :=
  OwnFrom.and (Own.from (boxed_own _ _ (fun pre : List (RowX d) => .int .i64 (cellsL d (pre.map (·.1))).length)) _) (OwnFrom.and (Own.from (boxed_own _ _ (fun pre : List (RowX d) => .int .i64 ((cellsL d (pre.map (·.1))).countP so))) _)
    (OwnFrom.and (blk_own _ _ _ _) (OwnFrom.and (blk_own _ _ _ _) (OwnFrom.and (ownFrom_below (Nat.le_refl _) hB) (ownFrom_size _ _)))))
set_option maxRecDepth 200000 in
set_option maxHeartbeats 4000000 in
theorem tells_any (v : Value) (d : Doc) (a b : Ps) (g : Nat) (lb : Array Value) (so : Cel → Bool) (w : World) (S : Nat → Prop) (h : LinsR w S v d) (he : EnvT w) (hs : Small d)
    (eg : ∀ args w, (callFunc g args).run Tryz.prog w = .ok (.enter g args) w)
    (hg : ∀ W x, Below w.heap.size w W → Calls Tryz.prog g (#[celV x] ++ lb) W fun e w' => e = .returned (.bool (so x)) ∧ Below W.heap.size W w') :
    Calls Tryz.prog 145 #[v, posV a, posV b, .func (.func g) #[] lb] w fun e w' => e = .returned (.tuple #[.int .i64 (cellsD d a b).length, .int .i64 ((cellsD d a b).countP so)]) ∧ Below w.heap.size w w' := by
  obtain ⟨va, vc, rfl⟩ := h.slice
  obtain ⟨W1, hW1⟩ : ∃ W1, (((((w.alloc (.cells #[.slice va d.length vc] 22)).alloc (.cells #[.int .i64 a.line, .int .i64 a.col] 24)).alloc (.cells #[.int .i64 b.line, .int .i64 b.col] 24)).alloc (.cells #[.func (.func g) #[] lb] 79)).alloc (.cells #[.int .i64 0] 3)).alloc (.cells #[.int .i64 0] 3) = W1 := ⟨_, rfl⟩
  have hB : Below w.heap.size w W1 := hW1 ▸ ((((((Below.refl _ _).alloc (Nat.le_refl _) _).alloc (by simp) _).alloc (by simp; omega) _).alloc (by simp; omega) _).alloc (by simp; omega) _).alloc (by simp; omega) _
  have hz : W1.heap.size = w.heap.size + 6 := by rw [← hW1]; simp
  have k0 : W1.heap[w.heap.size]? = some (.cells #[.slice va d.length vc] 22) := hW1 ▸ heap_old _ _ (heap_old _ _ (heap_old _ _ (heap_old _ _ (heap_old _ _ (heap_new _ _ rfl)))))
  have k1 : W1.heap[w.heap.size + 1]? = some (.cells #[.int .i64 a.line, .int .i64 a.col] 24) := hW1 ▸ heap_old _ _ (heap_old _ _ (heap_old _ _ (heap_old _ _ (heap_new _ _ (by simp)))))
  have k2 : W1.heap[w.heap.size + 2]? = some (.cells #[.int .i64 b.line, .int .i64 b.col] 24) := hW1 ▸ heap_old _ _ (heap_old _ _ (heap_old _ _ (heap_new _ _ (by simp))))
  have k3 : W1.heap[w.heap.size + 3]? = some (.cells #[.func (.func g) #[] lb] 79) := hW1 ▸ heap_old _ _ (heap_old _ _ (heap_new _ _ (by simp)))
  have k4 : W1.heap[w.heap.size + 4]? = some (.cells #[.int .i64 0] 3) := hW1 ▸ heap_old _ _ (heap_new _ _ (by simp))
  have k5 : W1.heap[w.heap.size + 5]? = some (.cells #[.int .i64 0] 3) := hW1 ▸ heap_new _ _ (by simp)
  have HC1 := Lib.hid (docSpan_any _ d a b W1 S (h.below (rdLin_stable _) hB) (he.below hB) hs)
  have HK : Hid (∀ W, Below W1.heap.size W1 W → W.heap[w.heap.size]? = some (.cells #[.slice va d.length vc] 22) ∧ W.heap[w.heap.size + 1]? = some (.cells #[.int .i64 a.line, .int .i64 a.col] 24) ∧ W.heap[w.heap.size + 2]? = some (.cells #[.int .i64 b.line, .int .i64 b.col] 24) ∧
    W.heap[w.heap.size + 3]? = some (.cells #[.func (.func g) #[] lb] 79) ∧ W.heap[w.heap.size + 4]? = some (.cells #[.int .i64 0] 3) ∧ W.heap[w.heap.size + 5]? = some (.cells #[.int .i64 0] 3)) := Lib.hid fun W hW => ⟨heap_below hW k0, heap_below hW k1, heap_below hW k2, heap_below hW k3, heap_below hW k4, heap_below hW k5⟩
  have HP : Hid (∀ p : Ps, posV p = .agg #[.int .i64 p.line, .int .i64 p.col]) := Lib.hid fun _ => rfl
  have H1 := Lib.hid hB
  have HL := Lib.hid h
  have HG := Lib.hid hg
  have HS := Lib.hid hs
  have hs1 := hB.size
  obtain ⟨p0, f0⟩ := blk k0
  obtain ⟨p1, f1⟩ := blk k1
  obtain ⟨p2, f2⟩ := blk k2
  obtain ⟨p3, f3⟩ := blk k3
  obtain ⟨p4, f4⟩ := blk k4
  obtain ⟨p5, f5⟩ := blk k5
  clear h he hs hg k0 k1 k2 k3 k4 k5 hB
  cases hsp : spanD d a b
  · have HR : Hid (cellsD d a b = []) := Lib.hid (by unfold cellsD; rw [hsp]; rfl)
    rw [hsp] at HC1
    clear hsp
    rw [HP.out a, HP.out b] at HC1 ⊢
    go_enter Tryz.func145, Tryz.ntmps145
    go_wp2_with (go_at_call 133; refine HC1.out.mono ?_; rintro e w2 ⟨rfl, hb2⟩; obtain ⟨q4, g4⟩ := blk (HK.out _ hb2).2.2.2.2.1; obtain ⟨q5, g5⟩ := blk (HK.out _ hb2).2.2.2.2.2)
    refine bodyPost_ret (results_ints2 rfl _ _ ⟨w.heap.size + 1 + 1 + 1 + 1, 0, none⟩ ⟨w.heap.size + 1 + 1 + 1 + 1 + 1, 0, none⟩ 0 0 rfl rfl ((setCell_block (by omega)).trans (setCell_same (q4 0))) (setCell_same ((setCell_block (by omega)).trans (q5 0)))) rfl ?_
    rw [HR.out]
    exact ⟨rfl, ((H1.out.trans (hb2.mono hs1)).setCell (by simp; omega) _).setCell (by simp; omega) _⟩
  · obtain ⟨_, i, j, p, q, l, m, rfl, rfl, hl, hm, hp, hq, hij, hpq⟩ := span_at hsp
    have hjl := (List.getElem?_eq_some_iff.1 hm).1
    have HR : Hid (cellsD d ⟨i, p⟩ ⟨j, q⟩ = cellsL d (rowsTo d i p j q (j + 1))) := Lib.hid (by unfold cellsD; rw [hsp, if_pos rfl]; rfl)
    have HOK : Hid (∀ k, i ≤ k → k ≤ j → RowOk d (rowB d i p j q k)) := Lib.hid fun k h1 h2 => rowB_ok hl hm hp hq hpq h1 h2
    rw [hsp] at HC1
    clear hsp hl hm hp hq hpq
    rw [HP.out, HP.out] at HC1 ⊢
    refine (callsIn_wide (n := 6)).1 ?_
    refine callsIn_of_wp_marks Tryz.func145 rfl trivial ?_ rfl
    simp only [Tryz.ntmps145, List.size_toArray, List.length_cons, List.length_nil, Nat.reduceAdd, Nat.reduceSub, Array.replicate_succ, Array.replicate_zero, List.push_toArray, List.append_toArray, List.nil_append, List.cons_append]
    have hwf : ∀ f, Fence.wide.fn f := fun _ => trivial
    have hwd : Fence.wide.depth = none := rfl
    gi_wp2_with (first
      | (gi_at_call 133; refine (callsIn_wide.2 HC1.out).mono ?_; rintro e w2 ⟨rfl, hb2⟩; obtain ⟨q0, g0⟩ := blk (HK.out _ hb2).1; obtain ⟨q1, g1⟩ := blk (HK.out _ hb2).2.1; obtain ⟨q2, g2⟩ := blk (HK.out _ hb2).2.2.1)
      | (gi_at_call 134; refine (callsIn_wide.2 (between_any _ _ _ _ _ _ _ _)).mono ?_; rintro e w3 ⟨rfl, rfl⟩))
    obtain ⟨w3, hw3⟩ : ∃ w3, ((w2.alloc (.cells #[.slice va d.length vc] 22)).alloc (.cells #[.int .i64 i, .int .i64 p] 24)).alloc (.cells #[.int .i64 j, .int .i64 q] 24) = w3 := ⟨_, rfl⟩
    rw [hw3]
    obtain ⟨t0, t1, t2, t3, t4, t5⟩ := HK.out _ hb2
    have hw2 := hb2.size
    have hb23 : Below w2.heap.size w2 w3 := hw3 ▸ (((Below.refl _ _).alloc (Nat.le_refl _) _).alloc (by simp) _).alloc (by simp; omega) _
    have hz3 : w3.heap.size = w2.heap.size + 3 := by rw [← hw3]; simp
    have n0 : w3.heap[w2.heap.size]? = some (.cells #[.slice va d.length vc] 22) := hw3 ▸ heap_old _ _ (heap_old _ _ (heap_new _ _ rfl))
    have n1 : w3.heap[w2.heap.size + 1]? = some (.cells #[.int .i64 i, .int .i64 p] 24) := hw3 ▸ heap_old _ _ (heap_new _ _ (by simp))
    have n2 : w3.heap[w2.heap.size + 2]? = some (.cells #[.int .i64 j, .int .i64 q] 24) := hw3 ▸ heap_new _ _ (by simp)
    have hb3 : Below w.heap.size w w3 := H1.out.trans ((below_from hb2 hb23).mono hs1)
    have hTI : TI d so (.slice va d.length vc) (.func (.func g) #[] lb) w w3.heap.size [] w3 := ⟨heap_below hb23 t4, heap_below hb23 t5, heap_below hb23 t0, heap_below hb23 t3, hb3, Nat.le_refl _⟩
    clear hw3 q0 q1 q2 g0 g1 g2 p0 p1 p2 p3 p4 p5 f0 f1 f2 f3 f4 f5 t0 t1 t2 t3 t4 t5 hW1
    have N0 := Lib.hid (And.intro n0 (And.intro n1 n2))
    clear n0 n1 n2
    refine rangeFunc_box rfl (by omega) (gf := 199) (lb := #[.pointer (some ⟨w2.heap.size + 1, 0, none⟩), .pointer (some ⟨w2.heap.size + 2, 0, none⟩), .pointer (some ⟨w2.heap.size, 0, none⟩)]) rfl trivial (enters_of Tryz.func199 (by kernel_rfl) rfl)
      (encs := rowEnc (d := d)) (n₀ := w.heap.size) (base := w2.heap.size) (S := fun ys => ys.map (·.1) = rowsTo d i p j q (j + 1)) (Sp := fun _ => True) (N := 200000) (w0 := w3) ?seq (by omega) (Below.refl _ _) (fun _ => rfl)
      (TI d so (.slice va d.length vc) (.func (.func g) #[] lb) w w3.heap.size) (fun _ _ _ => False) (ti_own (by omega)) (fun _ _ _ _ _ hs _ _ => hs) hTI (fun _ _ h => h.2.2.2.2.2)
      (fun x => #[.int .i64 x.1.2.1, .int .i64 x.1.2.2]) 108 ?act ?assign ?body ?done ?stop
    case seq =>
      intro l J Jx W hW hJ _ hY h0
      exact between1_in 5 l w2.heap.size (w2.heap.size + 1) (w2.heap.size + 2) w2.heap.size (.slice va d.length vc) d i p j q S J Jx w W HL.out (hb3.trans (hW.mono hb3.size)) ⟨by omega, by omega, by omega⟩ (heap_below hW N0.out.1) (heap_below hW N0.out.2.1) (heap_below hW N0.out.2.2) hij hjl HOK.out HS.out.2.1 hJ hY h0
    case assign =>
      intro l pre x W K Bx hBx hI hK
      gi_wp2
      rw [← hBx]
      exact hK
    case body =>
      intro l pre x Bx W hI hBx hbx hlt
      have HI := Lib.hid hI
      obtain ⟨b4, b5, t0, t3, hb, hz⟩ := hI
      obtain ⟨ln, hln, hft, htl⟩ := x.2
      have hci := cellsB_at hln
      obtain ⟨xi, exi⟩ : ∃ z, x.1.1 = z := ⟨_, rfl⟩
      obtain ⟨xf, exf⟩ : ∃ z, x.1.2.1 = z := ⟨_, rfl⟩
      obtain ⟨xt, ext⟩ : ∃ z, x.1.2.2 = z := ⟨_, rfl⟩
      rw [exf, ext] at hci hft hbx
      rw [exi] at hln
      rw [ext] at htl
      rw [exi, exf, ext]
      have HCI := Lib.hid hci
      clear exi exf ext hci
      have HLN := Lib.hid hln
      have hil := (List.getElem?_eq_some_iff.1 hln).1
      obtain ⟨va', vc', hve, hvc, hvm, hx⟩ := lins_shape HL.out
      cases hve
      obtain ⟨bb, o, la, lc, ca, cc, rfl, hAk⟩ := hx xi ln hln
      obtain ⟨_, _, _, _, c3, _, _⟩ := hAk.below hb
      have hcr := hAk.cellsR
      have hccl := hcr.len
      have HCR := Lib.hid hcr
      have HBB := Lib.hid (And.intro b4 (And.intro b5 (And.intro t0 t3)))
      obtain ⟨p0, f0⟩ := blk t0
      obtain ⟨p6, f6⟩ := blk hbx
      unfold maxLen at hvm hccl
      clear hln hx hAk hcr b4 b5 t0 t3 hbx
      have i0 : (0 : Int) ≤ (xi : Int) := Int.natCast_nonneg _
      have i1 : (xi : Int) < (d.length : Int) := by omega
      have u0 : (0 : Int) ≤ (xf : Int) := Int.natCast_nonneg _
      have u1 : (xf : Int) ≤ (xt : Int) := by omega
      have u2 : (xt : Int) ≤ (cc : Int) := by omega
      have hA1 := cellsL_le HS.out.1 (pre.map (·.1))
      rw [List.length_map] at hA1
      obtain ⟨A, hA⟩ : ∃ A, (cellsL d (pre.map (·.1))).length = A := ⟨_, rfl⟩
      obtain ⟨C, hC⟩ : ∃ C, (cellsL d (pre.map (·.1))).countP so = C := ⟨_, rfl⟩
      have hCA : C ≤ A := by rw [← hA, ← hC]; exact List.countP_le_length
      have hA2 : A ≤ 20000000000 := by omega
      obtain ⟨row, hrow⟩ : ∃ row, cellsB d x.1 = row := ⟨_, rfl⟩
      have HSN : Hid ((cellsL d ((pre ++ [x]).map (·.1))).length = A + row.length ∧ (cellsL d ((pre ++ [x]).map (·.1))).countP so = C + row.countP so) := Lib.hid (by rw [List.map_append, List.map_singleton, cellsL_snoc, hrow, List.length_append, List.countP_append, hA, hC]; exact ⟨rfl, rfl⟩)
      have hn1 : row.length ≤ 100000 := hrow ▸ cellsB_le HS.out.1 x.1
      have hrl : row.length = xt - xf := by rw [← hrow, HCI.out, List.length_take, List.length_drop]; omega
      have hpair : ∃ X, Hid (∀ W', Below w.heap.size w W' → CelsR false W' S (.slice X (xt - xf) (cc - xf)) row) ∧ ((cc = xf ∧ ca = X) ∨ (¬ cc = xf ∧ ca.map (·.add (xf * 3)) = X)) := by
        have hh : ∀ W', Below w.heap.size w W' → CelsR false W' S (sliced ca xf xt cc 3) row := fun W' hW => by
          rw [← hrow, HCI.out]
          exact (SliceR.below (rdOf_stable _) HCR.out hW).part (i := xf) (j := xt) (m := cc) hft htl (by omega) (Nat.le_refl _)
        by_cases hcq : cc = xf
        · exact ⟨ca, fun W hW => by have := hh W hW; simpa only [sliced, if_pos hcq] using this, .inl ⟨hcq, rfl⟩⟩
        · exact ⟨_, fun W hW => by have := hh W hW; simpa only [sliced, if_neg hcq] using this, .inr ⟨hcq, rfl⟩⟩
      rw [hA, hC] at HBB
      obtain ⟨X, HP2, hcq⟩ := hpair
      have hbz := hb.size
      have HGG : Hid (∀ W x, Below w.heap.size w W → Calls Tryz.prog g (#[.agg #[.int .i32 x.r, .int .i64 x.bits, .string ⟨x.href.toArray⟩]] ++ lb) W fun e w' => e = .returned (.bool (so x)) ∧ Below W.heap.size W w') := HG
      clear hA hC hrow HI HCR HCI HG HL
      obtain ⟨nl, hnl⟩ : ∃ nl, xt - xf = nl := ⟨_, rfl⟩
      rw [hnl] at HP2 hrl
      rcases hcq with ⟨hcq, hX⟩ | ⟨hcq, hX⟩
      · subst hcq ; obtain rfl : xt = cc := (by omega) ; obtain rfl : nl = 0 := (by omega)
        gi_wp2_with fail
        refine wpIn_region_quietR (by kernel_rfl) (by kernel_rfl) (by kernel_rfl) ?_
        repeat (quiet_step_in (fail))
        refine wpQuietIn_nil ?_
        intro _ hw'
        obtain ⟨nq, rfl⟩ := hw'
        gi_wp2_with fail
        gi_loopw [36, 13] (fun z _ wr => ∃ m : Nat, m ≤ 0 ∧ z = .int .i64 m ∧ Hid (Boxed wr (w.heap.size + 4) 3 (.int .i64 ((A + m : Nat) : Int)) ∧ Boxed wr (w.heap.size + 5) 3 (.int .i64 ((C + (row.take m).countP so : Nat) : Int)) ∧ wr.heap[w.heap.size]? = some (.cells #[.slice (some ⟨bb, o, none⟩) d.length vc] 22) ∧ wr.heap[w.heap.size + 3]? = some (.cells #[.func (.func g) #[] lb] 79)) ∧ Hid (KeepsFrom w3.heap.size W wr ∧ Kp w.heap.size w2.heap.size W wr ∧ Below w.heap.size w wr)) (fun z _ _ => 0 - (intOf z).toNat)
        case atStart => exact ⟨0, Nat.zero_le _, rfl, HBB, Lib.hid ⟨((keeps_below (drewN_below (Below.refl _ _))).from _), Kp.of_below hbz (drewN_below (Below.refl _ _)), drewN_below hb⟩⟩
        case round =>
          obtain ⟨m, hm, rfl, HBX, HKK⟩ := hrel
          obtain ⟨q3, g3⟩ := blk HBX.out.2.2.2
          obtain ⟨q4, g4⟩ := blk HBX.out.1
          obtain ⟨q5, g5⟩ := blk HBX.out.2.1
          have hzr : w.heap.size + 6 ≤ wr.heap.size := by have := HKK.out.1.size; omega
          obtain ⟨cm, hcm⟩ : ∃ cm, (row.take m).countP so = cm := ⟨_, rfl⟩
          have hcm5 : cm ≤ 100000 := by rw [← hcm]; exact Nat.le_trans List.countP_le_length (by rw [List.length_take]; omega)
          rw [hcm] at HBX
          by_cases hlt2 : m < 0
          · exact absurd hlt2 (Nat.not_lt_zero _)
            all_goals
              obtain ⟨c, hc, _⟩ := getOf row m (by omega)
              have q3a : ∀ ob, (wr.alloc ob).cell? ⟨w.heap.size + 1 + 1 + 1, 0, none⟩ = some (.func (.func g) #[] lb) := fun ob => (World.cell?_of_block (heap_alloc_old _ _ (by show w.heap.size + 1 + 1 + 1 < _; omega))).trans (q3 0)
              have q4a : ∀ ob, (wr.alloc ob).cell? ⟨w.heap.size + 1 + 1 + 1 + 1, 0, none⟩ = some (.int .i64 ((A + m : Nat) : Int)) := fun ob => (World.cell?_of_block (heap_alloc_old _ _ (by show w.heap.size + 1 + 1 + 1 + 1 < _; omega))).trans (q4 0)
              have g4a : ∀ ob, (wr.alloc ob).frozen? ⟨w.heap.size + 1 + 1 + 1 + 1, 0, none⟩ = false := fun ob => frozen_of_heap ((heap_alloc_old _ _ (by show w.heap.size + 1 + 1 + 1 + 1 < _; omega)).trans HBX.out.1)
              have ne4 : ¬ w.heap.size + 1 + 1 + 1 + 1 = wr.heap.size := by omega
              have ne4' : ¬ wr.heap.size = w.heap.size + 1 + 1 + 1 + 1 := by omega
              obtain ⟨X', c', hXe, _, _, hcx⟩ := cels_shape (HP2.out wr HKK.out.2.2)
              cases hXe
              obtain ⟨bc, oc, rfl, hzc, k0, k1, k2⟩ := hcx m c hc
              obtain ⟨sb, hsb⟩ : ∃ sb, so c = sb := ⟨_, rfl⟩
              have HCL : Hid (∀ W, Below w.heap.size w W → Calls Tryz.prog g (#[.agg #[.int .i32 c.r, .int .i64 c.bits, .string ⟨c.href.toArray⟩]] ++ lb) W fun e w' => e = .returned (.bool sb) ∧ Below W.heap.size W w') := Lib.hid (by intro W hW; have := HGG.out W c hW; rwa [hsb] at this)
              have j0 : (0 : Int) ≤ (m : Int) := Int.natCast_nonneg _
              clear hcx
              gi_wp2_with fail
              obtain ⟨w4, hw4⟩ : ∃ w4, ((wr.alloc (.cells #[.int .i32 c.r, .int .i64 c.bits, .string ⟨c.href.toArray⟩] 44)).setCell ⟨w.heap.size + 1 + 1 + 1 + 1, 0, none⟩ (.int .i64 ((A : Int) + (m : Int) + 1))) = w4 := ⟨_, rfl⟩
              rw [hw4]
              have hk4 : KeepsFrom w3.heap.size W w4 ∧ Kp w.heap.size w2.heap.size W w4 ∧ Below w.heap.size w w4 := hw4 ▸ ⟨HKK.out.1.trans (((KeepsOthers.alloc _ _).trans (KeepsOthers.setCell _ _ _)).from _), HKK.out.2.1.t ((Kp.of_below (by omega) ((Below.refl _ _).alloc (Nat.le_refl _) _)).t (Kp.setCell _ (by omega) (by omega) _)), (HKK.out.2.2.alloc (by omega) _).setCell (by show w.heap.size ≤ w.heap.size + 1 + 1 + 1 + 1; omega) _⟩
              have e4 : w4.heap[w.heap.size + 4]? = some (.cells #[.int .i64 ((A : Int) + (m : Int) + 1)] 3) := by
                rw [← hw4, heap_set, if_pos rfl, heap_alloc_old _ _ (by omega), show wr.heap[w.heap.size + 4]? = _ from HBX.out.1]; rfl
              have e5 : w4.heap[w.heap.size + 5]? = some (.cells #[.int .i64 ((C + cm : Nat) : Int)] 3) := by
                rw [← hw4, heap_set, if_neg (by show ¬ w.heap.size + 1 + 1 + 1 + 1 = _; omega), heap_alloc_old _ _ (by omega)]; exact HBX.out.2.1
              have e0 : w4.heap[w.heap.size]? = some (.cells #[.slice (some ⟨bb, o, none⟩) d.length vc] 22) := by
                rw [← hw4, heap_set, if_neg (by show ¬ w.heap.size + 1 + 1 + 1 + 1 = _; omega), heap_alloc_old _ _ (by omega)]; exact HBX.out.2.2.1
              have e3 : w4.heap[w.heap.size + 3]? = some (.cells #[.func (.func g) #[] lb] 79) := by
                rw [← hw4, heap_set, if_neg (by show ¬ w.heap.size + 1 + 1 + 1 + 1 = _; omega), heap_alloc_old _ _ (by omega)]; exact HBX.out.2.2.2
              refine (CallsIn.inRound l (callsIn_wide.2 (HCL.out _ hk4.2.2))).mono ?_
              rintro e w5 ⟨rfl, hb5⟩
              have hk5 : KeepsFrom w3.heap.size W w5 ∧ Kp w.heap.size w2.heap.size W w5 ∧ Below w.heap.size w w5 := ⟨hk4.1.trans ((keeps_below hb5).from _), hk4.2.1.t (Kp.of_below hk4.2.2.size hb5), below_from hk4.2.2 hb5⟩
              have y4 := heap_below hb5 e4
              have y5 := heap_below hb5 e5
              have y0 := heap_below hb5 e0
              have y3 := heap_below hb5 e3
              have hcs : (row.take (m + 1)).countP so = cm + (if sb = true then 1 else 0) := by
                rw [take_some hc, List.countP_append, hcm, List.countP_singleton, hsb]
              have HK5 := Lib.hid hk5
              have HY := Lib.hid (And.intro y4 (And.intro y5 (And.intro y0 y3)))
              have HCS := Lib.hid hcs
              have q5a : w5.cell? ⟨w.heap.size + 1 + 1 + 1 + 1 + 1, 0, none⟩ = some (.int .i64 ((C + cm : Nat) : Int)) := cell_of_heap y5
              have g5a : w5.frozen? ⟨w.heap.size + 1 + 1 + 1 + 1 + 1, 0, none⟩ = false := frozen_of_heap y5
              clear hw4 hk4 hk5 e0 e3 e4 e5 y0 y3 y4 y5 hb5 q3 g3 q4 g4 q5 g5 q3a q4a g4a hc hcs hsb k0 k1 k2 hzc
              cases sb
              · gi_wp2_with fail
                go_roundw
                case rel =>
                  refine ⟨m + 1, by omega, by go_num, Lib.hid ⟨?_, ?_, HY.out.2.2.1, HY.out.2.2.2⟩, HK5⟩
                  · rw [show ((A + (m + 1) : Nat) : Int) = (A : Int) + (m : Int) + 1 by omega]; exact HY.out.1
                  · rw [HCS.out]; exact HY.out.2.1
                case measure => simp [intOf]; omega
              · gi_wp2_with fail
                go_roundw
                case rel =>
                  refine ⟨m + 1, by omega, by go_num, Lib.hid ⟨?_, ?_, ?_, ?_⟩, Lib.hid ⟨HK5.out.1.trans ((KeepsOthers.setCell _ _ _).from _), HK5.out.2.1.t (Kp.setCell _ (by omega) (by omega) _), HK5.out.2.2.setCell (by show w.heap.size ≤ w.heap.size + 1 + 1 + 1 + 1 + 1; omega) _⟩⟩
                  · unfold Boxed
                    rw [heap_set, if_neg (by show ¬ w.heap.size + 1 + 1 + 1 + 1 + 1 = _; omega), show ((A + (m + 1) : Nat) : Int) = (A : Int) + (m : Int) + 1 by omega]; exact HY.out.1
                  · unfold Boxed
                    rw [HCS.out, heap_set, if_pos rfl, HY.out.2.1]
                    simp [putIn]
                    omega
                  · rw [heap_set, if_neg (by show ¬ w.heap.size + 1 + 1 + 1 + 1 + 1 = _; omega)]; exact HY.out.2.2.1
                  · rw [heap_set, if_neg (by show ¬ w.heap.size + 1 + 1 + 1 + 1 + 1 = _; omega)]; exact HY.out.2.2.2
                case measure => simp [intOf]; omega
          · obtain rfl : m = 0 := by omega
            gi_wp2_with fail
            have ht : row.take 0 = row := List.take_of_length_le (by omega)
            rw [← hcm, ht] at HBX
            exact ⟨HKK.out.1, HKK.out.2.1, by rw [HSN.out.1, show row.length = 0 by omega]; exact HBX.out.1, by rw [HSN.out.2]; exact HBX.out.2.1, HBX.out.2.2.1, HBX.out.2.2.2, HKK.out.2.2, by have := HKK.out.1.size; omega⟩
      · skip
        gi_wp2_with fail
        refine wpIn_region_quietR (by kernel_rfl) (by kernel_rfl) (by kernel_rfl) ?_
        repeat (quiet_step_in (fail))
        refine wpQuietIn_nil ?_
        intro _ hw'
        obtain ⟨nq, rfl⟩ := hw'
        gi_wp2_with fail
        gi_loopw [36, 13] (fun z _ wr => ∃ m : Nat, m ≤ nl ∧ z = .int .i64 m ∧ Hid (Boxed wr (w.heap.size + 4) 3 (.int .i64 ((A + m : Nat) : Int)) ∧ Boxed wr (w.heap.size + 5) 3 (.int .i64 ((C + (row.take m).countP so : Nat) : Int)) ∧ wr.heap[w.heap.size]? = some (.cells #[.slice (some ⟨bb, o, none⟩) d.length vc] 22) ∧ wr.heap[w.heap.size + 3]? = some (.cells #[.func (.func g) #[] lb] 79)) ∧ Hid (KeepsFrom w3.heap.size W wr ∧ Kp w.heap.size w2.heap.size W wr ∧ Below w.heap.size w wr)) (fun z _ _ => nl - (intOf z).toNat)
        case atStart => exact ⟨0, Nat.zero_le _, rfl, HBB, Lib.hid ⟨((keeps_below (drewN_below (Below.refl _ _))).from _), Kp.of_below hbz (drewN_below (Below.refl _ _)), drewN_below hb⟩⟩
        case round =>
          obtain ⟨m, hm, rfl, HBX, HKK⟩ := hrel
          obtain ⟨q3, g3⟩ := blk HBX.out.2.2.2
          obtain ⟨q4, g4⟩ := blk HBX.out.1
          obtain ⟨q5, g5⟩ := blk HBX.out.2.1
          have hzr : w.heap.size + 6 ≤ wr.heap.size := by have := HKK.out.1.size; omega
          obtain ⟨cm, hcm⟩ : ∃ cm, (row.take m).countP so = cm := ⟨_, rfl⟩
          have hcm5 : cm ≤ 100000 := by rw [← hcm]; exact Nat.le_trans List.countP_le_length (by rw [List.length_take]; omega)
          rw [hcm] at HBX
          by_cases hlt2 : m < nl
          · skip
            all_goals
              obtain ⟨c, hc, _⟩ := getOf row m (by omega)
              have q3a : ∀ ob, (wr.alloc ob).cell? ⟨w.heap.size + 1 + 1 + 1, 0, none⟩ = some (.func (.func g) #[] lb) := fun ob => (World.cell?_of_block (heap_alloc_old _ _ (by show w.heap.size + 1 + 1 + 1 < _; omega))).trans (q3 0)
              have q4a : ∀ ob, (wr.alloc ob).cell? ⟨w.heap.size + 1 + 1 + 1 + 1, 0, none⟩ = some (.int .i64 ((A + m : Nat) : Int)) := fun ob => (World.cell?_of_block (heap_alloc_old _ _ (by show w.heap.size + 1 + 1 + 1 + 1 < _; omega))).trans (q4 0)
              have g4a : ∀ ob, (wr.alloc ob).frozen? ⟨w.heap.size + 1 + 1 + 1 + 1, 0, none⟩ = false := fun ob => frozen_of_heap ((heap_alloc_old _ _ (by show w.heap.size + 1 + 1 + 1 + 1 < _; omega)).trans HBX.out.1)
              have ne4 : ¬ w.heap.size + 1 + 1 + 1 + 1 = wr.heap.size := by omega
              have ne4' : ¬ wr.heap.size = w.heap.size + 1 + 1 + 1 + 1 := by omega
              obtain ⟨X', c', hXe, _, _, hcx⟩ := cels_shape (HP2.out wr HKK.out.2.2)
              cases hXe
              obtain ⟨bc, oc, rfl, hzc, k0, k1, k2⟩ := hcx m c hc
              obtain ⟨sb, hsb⟩ : ∃ sb, so c = sb := ⟨_, rfl⟩
              have HCL : Hid (∀ W, Below w.heap.size w W → Calls Tryz.prog g (#[.agg #[.int .i32 c.r, .int .i64 c.bits, .string ⟨c.href.toArray⟩]] ++ lb) W fun e w' => e = .returned (.bool sb) ∧ Below W.heap.size W w') := Lib.hid (by intro W hW; have := HGG.out W c hW; rwa [hsb] at this)
              have j0 : (0 : Int) ≤ (m : Int) := Int.natCast_nonneg _
              clear hcx
              gi_wp2_with fail
              obtain ⟨w4, hw4⟩ : ∃ w4, ((wr.alloc (.cells #[.int .i32 c.r, .int .i64 c.bits, .string ⟨c.href.toArray⟩] 44)).setCell ⟨w.heap.size + 1 + 1 + 1 + 1, 0, none⟩ (.int .i64 ((A : Int) + (m : Int) + 1))) = w4 := ⟨_, rfl⟩
              rw [hw4]
              have hk4 : KeepsFrom w3.heap.size W w4 ∧ Kp w.heap.size w2.heap.size W w4 ∧ Below w.heap.size w w4 := hw4 ▸ ⟨HKK.out.1.trans (((KeepsOthers.alloc _ _).trans (KeepsOthers.setCell _ _ _)).from _), HKK.out.2.1.t ((Kp.of_below (by omega) ((Below.refl _ _).alloc (Nat.le_refl _) _)).t (Kp.setCell _ (by omega) (by omega) _)), (HKK.out.2.2.alloc (by omega) _).setCell (by show w.heap.size ≤ w.heap.size + 1 + 1 + 1 + 1; omega) _⟩
              have e4 : w4.heap[w.heap.size + 4]? = some (.cells #[.int .i64 ((A : Int) + (m : Int) + 1)] 3) := by
                rw [← hw4, heap_set, if_pos rfl, heap_alloc_old _ _ (by omega), show wr.heap[w.heap.size + 4]? = _ from HBX.out.1]; rfl
              have e5 : w4.heap[w.heap.size + 5]? = some (.cells #[.int .i64 ((C + cm : Nat) : Int)] 3) := by
                rw [← hw4, heap_set, if_neg (by show ¬ w.heap.size + 1 + 1 + 1 + 1 = _; omega), heap_alloc_old _ _ (by omega)]; exact HBX.out.2.1
              have e0 : w4.heap[w.heap.size]? = some (.cells #[.slice (some ⟨bb, o, none⟩) d.length vc] 22) := by
                rw [← hw4, heap_set, if_neg (by show ¬ w.heap.size + 1 + 1 + 1 + 1 = _; omega), heap_alloc_old _ _ (by omega)]; exact HBX.out.2.2.1
              have e3 : w4.heap[w.heap.size + 3]? = some (.cells #[.func (.func g) #[] lb] 79) := by
                rw [← hw4, heap_set, if_neg (by show ¬ w.heap.size + 1 + 1 + 1 + 1 = _; omega), heap_alloc_old _ _ (by omega)]; exact HBX.out.2.2.2
              refine (CallsIn.inRound l (callsIn_wide.2 (HCL.out _ hk4.2.2))).mono ?_
              rintro e w5 ⟨rfl, hb5⟩
              have hk5 : KeepsFrom w3.heap.size W w5 ∧ Kp w.heap.size w2.heap.size W w5 ∧ Below w.heap.size w w5 := ⟨hk4.1.trans ((keeps_below hb5).from _), hk4.2.1.t (Kp.of_below hk4.2.2.size hb5), below_from hk4.2.2 hb5⟩
              have y4 := heap_below hb5 e4
              have y5 := heap_below hb5 e5
              have y0 := heap_below hb5 e0
              have y3 := heap_below hb5 e3
              have hcs : (row.take (m + 1)).countP so = cm + (if sb = true then 1 else 0) := by
                rw [take_some hc, List.countP_append, hcm, List.countP_singleton, hsb]
              have HK5 := Lib.hid hk5
              have HY := Lib.hid (And.intro y4 (And.intro y5 (And.intro y0 y3)))
              have HCS := Lib.hid hcs
              have q5a : w5.cell? ⟨w.heap.size + 1 + 1 + 1 + 1 + 1, 0, none⟩ = some (.int .i64 ((C + cm : Nat) : Int)) := cell_of_heap y5
              have g5a : w5.frozen? ⟨w.heap.size + 1 + 1 + 1 + 1 + 1, 0, none⟩ = false := frozen_of_heap y5
              clear hw4 hk4 hk5 e0 e3 e4 e5 y0 y3 y4 y5 hb5 q3 g3 q4 g4 q5 g5 q3a q4a g4a hc hcs hsb k0 k1 k2 hzc
              cases sb
              · gi_wp2_with fail
                go_roundw
                case rel =>
                  refine ⟨m + 1, by omega, by go_num, Lib.hid ⟨?_, ?_, HY.out.2.2.1, HY.out.2.2.2⟩, HK5⟩
                  · rw [show ((A + (m + 1) : Nat) : Int) = (A : Int) + (m : Int) + 1 by omega]; exact HY.out.1
                  · rw [HCS.out]; exact HY.out.2.1
                case measure => simp [intOf]; omega
              · gi_wp2_with fail
                go_roundw
                case rel =>
                  refine ⟨m + 1, by omega, by go_num, Lib.hid ⟨?_, ?_, ?_, ?_⟩, Lib.hid ⟨HK5.out.1.trans ((KeepsOthers.setCell _ _ _).from _), HK5.out.2.1.t (Kp.setCell _ (by omega) (by omega) _), HK5.out.2.2.setCell (by show w.heap.size ≤ w.heap.size + 1 + 1 + 1 + 1 + 1; omega) _⟩⟩
                  · unfold Boxed
                    rw [heap_set, if_neg (by show ¬ w.heap.size + 1 + 1 + 1 + 1 + 1 = _; omega), show ((A + (m + 1) : Nat) : Int) = (A : Int) + (m : Int) + 1 by omega]; exact HY.out.1
                  · unfold Boxed
                    rw [HCS.out, heap_set, if_pos rfl, HY.out.2.1]
                    simp [putIn]
                    omega
                  · rw [heap_set, if_neg (by show ¬ w.heap.size + 1 + 1 + 1 + 1 + 1 = _; omega)]; exact HY.out.2.2.1
                  · rw [heap_set, if_neg (by show ¬ w.heap.size + 1 + 1 + 1 + 1 + 1 = _; omega)]; exact HY.out.2.2.2
                case measure => simp [intOf]; omega
          · obtain rfl : m = nl := by omega
            gi_wp2_with fail
            have ht : row.take m = row := List.take_of_length_le (by omega)
            rw [← hcm, ht] at HBX
            exact ⟨HKK.out.1, HKK.out.2.1, by rw [HSN.out.1, show row.length = m by omega]; exact HBX.out.1, by rw [HSN.out.2]; exact HBX.out.2.1, HBX.out.2.2.1, HBX.out.2.2.2, HKK.out.2.2, by have := HKK.out.1.size; omega⟩
    case done =>
      rintro D ys W hD hys ⟨b4, b5, t0, t3, hb, hz⟩ hK
      have q4 : W.cell? ⟨w.heap.size + 1 + 1 + 1 + 1, 0, none⟩ = some (.int .i64 (cellsL d (ys.map (·.1))).length) := b4.cell
      have q5 : W.cell? ⟨w.heap.size + 1 + 1 + 1 + 1 + 1, 0, none⟩ = some (.int .i64 ((cellsL d (ys.map (·.1))).countP so)) := b5.cell
      have g4 : W.frozen? ⟨w.heap.size + 1 + 1 + 1 + 1, 0, none⟩ = false := b4.frozen
      have g5 : W.frozen? ⟨w.heap.size + 1 + 1 + 1 + 1 + 1, 0, none⟩ = false := b5.frozen
      rw [hys] at q4 q5
      rw [← HR.out] at q4 q5
      obtain ⟨n1, hn1⟩ : ∃ n1, (cellsD d ⟨i, p⟩ ⟨j, q⟩).length = n1 := ⟨_, rfl⟩
      obtain ⟨n2, hn2⟩ : ∃ n2, (cellsD d ⟨i, p⟩ ⟨j, q⟩).countP so = n2 := ⟨_, rfl⟩
      rw [hn1] at q4
      rw [hn2] at q5
      gi_wp2
      gi_region
      gi_wp2
      obtain ⟨W9, hW9⟩ : ∃ W9, ((W.setCell ⟨w.heap.size + 1 + 1 + 1 + 1, 0, none⟩ (.int .i64 n1)).setCell ⟨w.heap.size + 1 + 1 + 1 + 1 + 1, 0, none⟩ (.int .i64 n2)).drew = W9 := ⟨_, rfl⟩
      have z0 : w3.heap.size = w3.heap.size := rfl
      have hK2 : W9.heap[D]? = some (.deferred (some [])) := by
        rw [← hW9]
        show ((W.setCell _ _).setCell _ _).heap[D]? = _
        rw [Below.heap_setCell _ _ _ _ (by simp; omega), Below.heap_setCell _ _ _ _ (by simp; omega)]
        exact hK
      have r1 : W9.cell? ⟨w.heap.size + 1 + 1 + 1 + 1, 0, none⟩ = some (.int .i64 n1) := hW9 ▸ (setCell_block (by omega)).trans (setCell_same q4)
      have r2 : W9.cell? ⟨w.heap.size + 1 + 1 + 1 + 1 + 1, 0, none⟩ = some (.int .i64 n2) := hW9 ▸ setCell_same ((setCell_block (by omega)).trans q5)
      have hB9 : Below w.heap.size w W9 := hW9 ▸ ((hb.setCell (by show w.heap.size ≤ w.heap.size + 1 + 1 + 1 + 1; omega) _).setCell (by show w.heap.size ≤ w.heap.size + 1 + 1 + 1 + 1 + 1; omega) _).drew
      rw [hW9]
      refine ⟨by simp, .inl ⟨_, _, rfl, run_takeDeferred hK2, ?_⟩⟩
      refine ⟨_, results_ints2 rfl _ _ ⟨w.heap.size + 1 + 1 + 1 + 1, 0, none⟩ ⟨w.heap.size + 1 + 1 + 1 + 1 + 1, 0, none⟩ n1 n2 rfl rfl ((World.cell?_of_block (World.putObj_heap_other (by simp; omega))).trans r1) ((World.cell?_of_block (World.putObj_heap_other (by simp; omega))).trans r2), by rw [hn1, hn2], hB9.trans (belowK_b (w := w) (Nat.le_refl _) W9 D _ _ (by omega) hK2 rfl rfl)⟩
    case stop =>
      rintro D c pre W _ _ h _
      exact h.elim
end Go.Proofs.YtpndnbjpnajaaaaGreatDoor
namespace Go.Proofs.YtpndnbjpnajaaaaGreatDoor
open Go.RowKit
open Go.Proofs.Qw
theorem count1_any (x : Cel) (w : World) : Calls Tryz.prog 146 #[celV x] w fun e w' => e = .returned (.bool false) ∧ Below w.heap.size w w' := by
  unfold celV
  go_enter Tryz.func146, Tryz.ntmps146
  go_wp2_with fail
  go_ret
  exact ⟨rfl, (Below.refl _ _).alloc (Nat.le_refl _) _⟩
theorem all1_any (B : Nat) (b : Int) (x : Cel) (w : World) (h : w.heap[B]? = some (.cells #[.int .i64 b] 3)) :
    Calls Tryz.prog 151 #[celV x, .pointer (some ⟨B, 0, none⟩)] w fun e w' => e = .returned (.bool (bits .and .i64 x.bits b == b)) ∧ Below w.heap.size w w' := by
  have hlt := (Array.getElem?_eq_some_iff.1 h).1
  obtain ⟨p, f⟩ := blk h
  have p2 : ∀ ob, (w.alloc ob).cell? ⟨B, 0, none⟩ = some (.int .i64 b) := fun ob => (World.cell?_of_block (heap_alloc_old _ _ hlt)).trans (p 0)
  have ne : ¬ B = w.heap.size := by omega
  unfold celV
  go_enter Tryz.func151, Tryz.ntmps151
  go_wp2_with fail
  go_ret
  exact ⟨rfl, (Below.refl _ _).alloc (Nat.le_refl _) _⟩
theorem some1_any (B : Nat) (b : Int) (x : Cel) (w : World) (h : w.heap[B]? = some (.cells #[.int .i64 b] 3)) :
    Calls Tryz.prog 150 #[celV x, .pointer (some ⟨B, 0, none⟩)] w fun e w' => e = .returned (.bool (bits .and .i64 x.bits b != 0)) ∧ Below w.heap.size w w' := by
  have hlt := (Array.getElem?_eq_some_iff.1 h).1
  obtain ⟨p, f⟩ := blk h
  have p2 : ∀ ob, (w.alloc ob).cell? ⟨B, 0, none⟩ = some (.int .i64 b) := fun ob => (World.cell?_of_block (heap_alloc_old _ _ hlt)).trans (p 0)
  have ne : ¬ B = w.heap.size := by omega
  unfold celV
  go_enter Tryz.func150, Tryz.ntmps150
  go_wp2_with fail
  go_ret
  exact ⟨rfl, (Below.refl _ _).alloc (Nat.le_refl _) _⟩
set_option maxRecDepth 100000 in
set_option maxHeartbeats 1000000 in
theorem docCount_any (v : Value) (d : Doc) (a b : Ps) (w : World) (S : Nat → Prop) (h : LinsR w S v d) (he : EnvT w) (hs : Small d) :
    Calls Tryz.prog 73 #[v, posV a, posV b] w fun e w' => e = .returned (.int .i64 (cellsD d a b).length) ∧ Below w.heap.size w w' := by
  obtain ⟨W1, hW1, hB, hz, hA1, hA2⟩ := two_pos w (.int .i64 a.line) (.int .i64 a.col) (.int .i64 b.line) (.int .i64 b.col)
  have HC := Lib.hid (tells_any v d a b 146 #[] (fun _ => false) W1 S (h.below (rdLin_stable _) hB) (he.below hB) hs (enters_of Tryz.func146 (by kernel_rfl) rfl) (fun W x _ => by simpa using count1_any x W))
  have HP : Hid (∀ p : Ps, posV p = .agg #[.int .i64 p.line, .int .i64 p.col]) := Lib.hid fun _ => rfl
  have H1 := Lib.hid hB
  have hs1 := hB.size
  obtain ⟨p1, f1⟩ := blk hA1
  obtain ⟨p2, f2⟩ := blk hA2
  obtain ⟨va, vc, rfl⟩ := h.slice
  clear h he hs hA1 hA2 hB
  generalize (cellsD d a b).length = n at *
  generalize (cellsD d a b).countP (fun _ => false) = m at *
  rw [HP.out a, HP.out b] at HC ⊢
  go_enter Tryz.func73, Tryz.ntmps73
  go_wp2_with (go_at_call 145; refine HC.out.mono ?_; rintro e w2 ⟨rfl, hb2⟩)
  go_ret
  exact ⟨rfl, H1.out.trans (hb2.mono hs1)⟩
theorem two_pos1 (w : World) (a b c d e : Value) : ∃ W1, ((w.alloc (.cells #[a, b] 24)).alloc (.cells #[c, d] 24)).alloc (.cells #[e] 3) = W1 ∧ Below w.heap.size w W1 ∧ w.heap.size + 3 = W1.heap.size ∧
    W1.heap[w.heap.size]? = some (.cells #[a, b] 24) ∧ W1.heap[w.heap.size + 1]? = some (.cells #[c, d] 24) ∧ W1.heap[w.heap.size + 2]? = some (.cells #[e] 3) :=
  ⟨_, rfl, (((Below.refl _ _).alloc (Nat.le_refl _) _).alloc (by simp) _).alloc (by simp; omega) _, by simp, heap_old _ _ (heap_old _ _ (heap_new _ _ rfl)), heap_old _ _ (heap_new _ _ (by simp)), heap_new _ _ (by simp)⟩
set_option maxRecDepth 100000 in
set_option maxHeartbeats 1000000 in
theorem docAll_any (v : Value) (d : Doc) (a b : Ps) (t : Int) (w : World) (S : Nat → Prop) (SOF : Cel → Bool) (hso : SOF = (fun x => bits .and .i64 x.bits t == t)) (h : LinsR w S v d) (he : EnvT w) (hs : Small d) :
    Calls Tryz.prog 81 #[v, posV a, posV b, .int .i64 t] w fun e w' => e = .returned (.bool (decide (0 < (cellsD d a b).length) && decide ((cellsD d a b).countP SOF = (cellsD d a b).length))) ∧ Below w.heap.size w w' := by
  obtain ⟨W1, hW1, hB, hz, hA1, hA2, hA3⟩ := two_pos1 w (.int .i64 a.line) (.int .i64 a.col) (.int .i64 b.line) (.int .i64 b.col) (.int .i64 t)
  have HC := Lib.hid (tells_any v d a b 151 #[.pointer (some ⟨w.heap.size + 2, 0, none⟩)] SOF W1 S (h.below (rdLin_stable _) hB) (he.below hB) hs (enters_of Tryz.func151 (by kernel_rfl) rfl) (fun W x hW => by subst hso; simpa using all1_any _ t x W (heap_below hW hA3)))
  have HP : Hid (∀ p : Ps, posV p = .agg #[.int .i64 p.line, .int .i64 p.col]) := Lib.hid fun _ => rfl
  have H1 := Lib.hid hB
  have hs1 := hB.size
  obtain ⟨p1, f1⟩ := blk hA1
  obtain ⟨p2, f2⟩ := blk hA2
  obtain ⟨va, vc, rfl⟩ := h.slice
  clear h he hs hA1 hA2 hA3 hB hso
  generalize (cellsD d a b).length = n at *
  generalize (cellsD d a b).countP SOF = m at *
  rw [HP.out a, HP.out b] at HC ⊢
  go_enter Tryz.func81, Tryz.ntmps81
  go_wp2_with (go_at_call 145; refine HC.out.mono ?_; rintro e w2 ⟨rfl, hb2⟩)
  all_goals
    go_ret
    refine ⟨?_, H1.out.trans (hb2.mono hs1)⟩
    first
      | rfl
      | (show Ending.returned (Value.bool _) = Ending.returned (Value.bool _)
         refine congrArg (fun b => Ending.returned (Value.bool b)) ?_
         rw [Bool.eq_iff_iff]
         simp only [beq_iff_eq, Bool.and_eq_true, decide_eq_true_eq, Bool.false_eq_true, false_iff, not_and]
         omega)
set_option maxRecDepth 100000 in
set_option maxHeartbeats 1000000 in
theorem docSome_any (v : Value) (d : Doc) (a b : Ps) (t : Int) (w : World) (S : Nat → Prop) (SOF : Cel → Bool) (hso : SOF = (fun x => bits .and .i64 x.bits t != 0)) (h : LinsR w S v d) (he : EnvT w) (hs : Small d) :
    Calls Tryz.prog 80 #[v, posV a, posV b, .int .i64 t] w fun e w' => e = .returned (.bool (decide (0 < (cellsD d a b).countP SOF))) ∧ Below w.heap.size w w' := by
  obtain ⟨W1, hW1, hB, hz, hA1, hA2, hA3⟩ := two_pos1 w (.int .i64 a.line) (.int .i64 a.col) (.int .i64 b.line) (.int .i64 b.col) (.int .i64 t)
  have HC := Lib.hid (tells_any v d a b 150 #[.pointer (some ⟨w.heap.size + 2, 0, none⟩)] SOF W1 S (h.below (rdLin_stable _) hB) (he.below hB) hs (enters_of Tryz.func150 (by kernel_rfl) rfl) (fun W x hW => by subst hso; simpa using some1_any _ t x W (heap_below hW hA3)))
  have HP : Hid (∀ p : Ps, posV p = .agg #[.int .i64 p.line, .int .i64 p.col]) := Lib.hid fun _ => rfl
  have H1 := Lib.hid hB
  have hs1 := hB.size
  obtain ⟨p1, f1⟩ := blk hA1
  obtain ⟨p2, f2⟩ := blk hA2
  obtain ⟨va, vc, rfl⟩ := h.slice
  clear h he hs hA1 hA2 hA3 hB hso
  generalize (cellsD d a b).length = n at *
  generalize (cellsD d a b).countP SOF = m at *
  rw [HP.out a, HP.out b] at HC ⊢
  go_enter Tryz.func80, Tryz.ntmps80
  go_wp2_with (go_at_call 145; refine HC.out.mono ?_; rintro e w2 ⟨rfl, hb2⟩)
  all_goals
    go_ret
    refine ⟨?_, H1.out.trans (hb2.mono hs1)⟩
    first
      | rfl
      | (show Ending.returned (Value.bool _) = Ending.returned (Value.bool _)
         refine congrArg (fun b => Ending.returned (Value.bool b)) ?_
         rw [Bool.eq_iff_iff]
         simp only [beq_iff_eq, Bool.and_eq_true, decide_eq_true_eq, Bool.false_eq_true, false_iff, not_and]
         omega)
end Go.Proofs.YtpndnbjpnajaaaaGreatDoor
namespace Go.Proofs.YtpndnbjpnajaaaaGreatDoor
open Go.RowKit
open Go.Proofs.Qw
attribute [local go_sem ↓] Go.wp_at_zero Go.wp_at_succ
set_option maxHeartbeats 400000 in
theorem over_any (a b c : Int) (w : World) :
    Calls Tryz.prog 214 #[.int .i64 a, .int .i64 b, .int .i64 c] w fun e w' => e = .returned (.int .i64 (bits .or .i64 (bits .andNot .i64 a c) b)) ∧ w = w' := by
  go_enter Tryz.func214, Tryz.ntmps214
  go_wp2
  go_ret
  exact ⟨rfl, rfl⟩
def setBits (s c : Int) (x : Cel) : Cel := { x with bits := bits .or .i64 (bits .andNot .i64 x.bits (bits .and .i64 c 15)) (bits .and .i64 s 15) }
def setHref (h : List UInt8) (x : Cel) : Cel := { x with href := h }
set_option maxRecDepth 100000 in
set_option maxHeartbeats 2000000 in
theorem cellSet1_any (B o b1 b2 : Nat) (s c : Int) (x : Cel) (w : World) (_h0 : w.cell? ⟨B, o, none⟩ = some (.int .i32 x.r)) (h1 : w.cell? ⟨B, o + 1, none⟩ = some (.int .i64 x.bits)) (hf : w.frozen? ⟨B, o + 1, none⟩ = false)
    (hs : w.cell? ⟨b1, 0, none⟩ = some (.int .i64 s)) (hc : w.cell? ⟨b2, 0, none⟩ = some (.int .i64 c)) :
    Calls Tryz.prog 213 #[.pointer (some ⟨B, o, none⟩), .pointer (some ⟨b1, 0, none⟩), .pointer (some ⟨b2, 0, none⟩)] w fun e w' => (∃ u, e = .returned u) ∧ ∃ n, w' = (w.setCell ⟨B, o + 1, none⟩ (.int .i64 (setBits s c x).bits)).drewN n := by
  go_enter Tryz.func213, Tryz.ntmps213
  go_wp2_with fail
  go_still_tail 12, (by kernel_rfl)
  still_call ((over_any _ _ _ _).mono fun _ _ h => ⟨h.1, h.2.symm⟩)
  repeat still_step
  try refine wpStill_nil ?_
  change wpList _ _ _ _ _ w.drew
  go_wp2_with fail
  go_returns
  exact ⟨⟨_, rfl⟩, 1, rfl⟩
set_option maxRecDepth 100000 in
set_option maxHeartbeats 2000000 in
theorem cellLink1_any (B o b1 : Nat) (h : List UInt8) (x : Cel) (w : World) (h2 : w.cell? ⟨B, o + 2, none⟩ = some (.string ⟨x.href.toArray⟩)) (hf : w.frozen? ⟨B, o + 2, none⟩ = false) (hs : w.cell? ⟨b1, 0, none⟩ = some (.string ⟨h.toArray⟩)) :
    Calls Tryz.prog 227 #[.pointer (some ⟨B, o, none⟩), .pointer (some ⟨b1, 0, none⟩)] w fun e w' => (∃ u, e = .returned u) ∧ ∃ n, w' = (w.setCell ⟨B, o + 2, none⟩ (.string ⟨(setHref h x).href.toArray⟩)).drewN n := by
  go_enter Tryz.func227, Tryz.ntmps227
  go_wp2_with fail
  go_returns
  first | exact ⟨⟨_, rfl⟩, 0, rfl⟩ | exact ⟨⟨_, rfl⟩, 1, rfl⟩
def spanC (n : Nat) (i j : Int) : Bool := decide (0 ≤ i) && (decide (i ≤ j) && decide (j ≤ n))
set_option maxHeartbeats 1000000 in
theorem cellsSpan_any (v : Value) (d : List Cel) (i j : Int) (w : World) (S : Nat → Prop) (own : Bool) (h : CelsR own w S v d) :
    Calls Tryz.prog 200 #[v, .int .i64 i, .int .i64 j] w fun e w' => e = .returned (.bool (spanC d.length i j)) ∧ w' = w := by
  obtain ⟨a, c, rfl⟩ := h.slice
  clear h
  have HS : Hid (spanC d.length i j = (decide (0 ≤ i) && (decide (i ≤ j) && decide (j ≤ (d.length : Int))))) := Lib.hid rfl
  go_enter Tryz.func200, Tryz.ntmps200
  go_wp2_with fail
  all_goals
    go_ret
    refine ⟨?_, rfl⟩
    rw [HS.out]
    refine congrArg Ending.returned (congrArg Value.bool ?_)
    clear HS
    simp (config := { failIfUnchanged := false }) [*]
  all_goals try omega
end Go.Proofs.YtpndnbjpnajaaaaGreatDoor
namespace Go.Proofs.Qw
def mapIn {α : Type} (F : α → α) (i k : Nat) (d : List α) : List α := d.mapIdx fun q x => if i ≤ q ∧ q < k then F x else x
theorem mapIn_get {α : Type} (F : α → α) (i k : Nat) (d : List α) (q : Nat) : (mapIn F i k d)[q]? = (d[q]?).map fun x => if i ≤ q ∧ q < k then F x else x := by
  unfold mapIn; rw [List.getElem?_mapIdx]
theorem mapIn_length {α : Type} (F : α → α) (i k : Nat) (d : List α) : (mapIn F i k d).length = d.length := by unfold mapIn; simp
theorem mapIn_none {α : Type} (F : α → α) (i : Nat) (d : List α) : mapIn F i i d = d := by
  apply List.ext_getElem?
  intro q
  rw [mapIn_get]
  cases d[q]? with
  | none => rfl
  | some x => simp only [Option.map_some]; rw [if_neg (by omega)]
theorem mapIn_step {α : Type} (F : α → α) {i k : Nat} {d : List α} {x : α} (hik : i ≤ k) (hx : d[k]? = some x) : (mapIn F i k d).set k (F x) = mapIn F i (k + 1) d := by
  apply List.ext_getElem?
  intro q
  have hk := (List.getElem?_eq_some_iff.1 hx).1
  by_cases e : k = q
  · subst e
    rw [List.getElem?_set_self (by rw [mapIn_length]; exact hk), mapIn_get, hx]
    simp [hik]
  · rw [List.getElem?_set_ne e, mapIn_get, mapIn_get]
    cases d[q]? with
    | none => rfl
    | some y =>
      simp only [Option.map_some]
      by_cases h : i ≤ q ∧ q < k
      · rw [if_pos h, if_pos ⟨h.1, by omega⟩]
      · rw [if_neg h, if_neg (by omega)]
theorem mapIn_at {α : Type} (F : α → α) {i k : Nat} {d : List α} {x : α} (hx : d[k]? = some x) : (mapIn F i k d)[k]? = some x := by
  rw [mapIn_get, hx]; simp
end Go.Proofs.Qw
namespace Go.Proofs.YtpndnbjpnajaaaaGreatDoor
open Go.RowKit
open Go.Proofs.Qw
def CellsSaid (d : List Cel) (err : Int) (w : World) (e : Ending) (w' : World) : Prop := ∃ v', e = .returned (.tuple #[v', .int .i64 err]) ∧ CelsR true w' (fun b => w.heap.size ≤ b) v' d ∧ Below w.heap.size w w'
def eachC (F : Cel → Cel) (d : List Cel) (i j : Int) : List Cel × Int := if spanC d.length i j = true then (mapIn F i.toNat j.toNat d, 0) else ([], 1)
set_option maxRecDepth 100000 in
set_option maxHeartbeats 4000000 in
theorem cellsEach_any (v : Value) (d : List Cel) (i j : Int) (g : Nat) (lb : Array Value) (F : Cel → Cel) (f : Nat) (val : Cel → Value) (w : World) (S : Nat → Prop) (own : Bool) (h : CelsR own w S v d) (hs : d.length ≤ 1000000)
    (eg : ∀ args w, (callFunc g args).run Tryz.prog w = .ok (.enter g args) w) (hf : f < 3) (hF : ∀ x, encCel (F x) = (encCel x).set f (val x))
    (hg : ∀ W B o x, Below w.heap.size w W → w.heap.size ≤ B → (∀ p u, (encCel x)[p]? = some u → W.cell? ⟨B, o + p, none⟩ = some u ∧ W.frozen? ⟨B, o + p, none⟩ = false) → Calls Tryz.prog g (#[.pointer (some ⟨B, o, none⟩)] ++ lb) W fun e w' => (∃ u, e = .returned u) ∧ ∃ n, w' = (W.setCell ⟨B, o + f, none⟩ (val x)).drewN n) :
    Calls Tryz.prog 212 #[v, .int .i64 i, .int .i64 j, .func (.func g) #[] lb] w (CellsSaid (eachC F d i j).1 (eachC F d i j).2 w) := by
  have HC1 := Lib.hid (cellsSpan_any v d i j w S own h)
  have HC2 := Lib.hid (cloneCell_any v d own w w S h (Below.refl _ _) hs)
  have HG := Lib.hid hg
  obtain ⟨a, c, rfl⟩ := h.slice
  clear h hg
  cases hsp : spanC d.length i j
  · have HR : Hid (eachC F d i j = ([], 1)) := Lib.hid (by unfold eachC; rw [hsp]; rfl)
    rw [hsp] at HC1
    clear hsp
    go_enter Tryz.func212, Tryz.ntmps212
    go_wp2_with (go_at_call 200; refine HC1.out.mono ?_; rintro e w2 ⟨rfl, rfl⟩)
    go_ret2
    unfold CellsSaid
    rw [HR.out]
    exact ⟨_, rfl, SliceR.nil _ _ _ _ _ _, Below.refl _ _⟩
  · have hsp2 := hsp
    unfold spanC at hsp2
    simp only [Bool.and_eq_true, decide_eq_true_eq] at hsp2
    obtain ⟨i, rfl⟩ := Int.eq_ofNat_of_zero_le hsp2.1
    obtain ⟨j, rfl⟩ := Int.eq_ofNat_of_zero_le (show 0 ≤ j by omega)
    have hij : i ≤ j := by omega
    have hjd : j ≤ d.length := by omega
    have HR : Hid (eachC F d i j = (mapIn F i j d, 0)) := Lib.hid (by unfold eachC; rw [hsp]; rfl)
    rw [hsp] at HC1
    clear hsp hsp2
    go_enter Tryz.func212, Tryz.ntmps212
    go_wp2_with (first | (go_at_call 200; refine HC1.out.mono ?_; rintro e w2 ⟨rfl, rfl⟩) | (go_at_call 201; refine HC2.out.mono ?_; rintro e w3 ⟨v3, rfl, hv3, hb3⟩; obtain ⟨a3, c3, rfl⟩ := hv3.slice))
    have HV := Lib.hid hv3
    have HB := Lib.hid hb3
    have hcm := hv3.len.2
    unfold maxLen at hcm
    clear hv3 hb3
    go_loopw [11] (fun q wr => ∃ k : Nat, i ≤ k ∧ k ≤ j ∧ q = .int .i64 k ∧ CelsR true wr (fun b => w2.heap.size ≤ b) (.slice a3 d.length c3) (mapIn F i k d) ∧ Below w2.heap.size w2 wr) (fun q _ => j - (intOf q).toNat)
    case atStart => exact ⟨i, Nat.le_refl _, hij, rfl, by rw [mapIn_none]; exact HV.out, HB.out⟩
    case round =>
      obtain ⟨k, hk1, hk2, rfl, hO, hb⟩ := hrel
      by_cases hlt : k < j
      · obtain ⟨x, hx, _⟩ := getOf d k (by omega)
        have hxk := mapIn_at F (i := i) hx
        obtain ⟨b, o, cs, rfl, hbb, hgg, hsz⟩ := hO.cellAt (i := k) (by rw [mapIn_length]; omega)
        have hbb : w2.heap.size ≤ b := hbb
        have hcells : ∀ p u, (encCel x)[p]? = some u → wr.cell? ⟨b, o + k * 3 + p, none⟩ = some u ∧ wr.frozen? ⟨b, o + k * 3 + p, none⟩ = false := by
          obtain ⟨a', c', he, _, _, hxx⟩ := hO.shape
          injection he with he1 _ _
          subst he1
          obtain ⟨b', o', vs, he2, _, _, _, hvs, hcc⟩ := hxx k x hxk
          cases he2
          cases hvs
          exact fun p u hu => ⟨hcc p u hu, frozen_of_heap hgg⟩
        have HC := Lib.hid (HG.out wr b (o + k * 3) x hb hbb hcells)
        have HS := Lib.hid (SliceR.set1 eltCell.tag hO hxk hf (val x) (x' := F x) (fun vs _ h => by rw [show vs = encCel x from h]; exact (hF x).symm))
        have HM := Lib.hid (mapIn_step F hk1 hx)
        have i0 : (0 : Int) ≤ (k : Int) := Int.natCast_nonneg _
        have i1 : (k : Int) < (d.length : Int) := by omega
        clear hO hx hxk hgg hcells
        go_wp2_with (go_at_fn g; refine HC.out.mono ?_; rintro e w4 ⟨⟨u, rfl⟩, nn, rfl⟩)
        go_roundw
        case rel => exact ⟨k + 1, by omega, hlt, by go_num, SliceR.below (rdOf_stable _) (by rw [← HM.out]; exact HS.out) (drewN_below (Below.refl _ _)), drewN_below (hb.setCell hbb _)⟩
        case measure => simp [intOf]; omega
      · obtain rfl : k = j := by omega
        have HO := Lib.hid hO
        have HBB := Lib.hid hb
        clear hO hb
        go_wp2_with fail
        go_ret2
        unfold CellsSaid
        rw [HR.out]
        exact ⟨_, rfl, HO.out, HBB.out⟩
theorem CellsSaid.from {d : List Cel} {err : Int} {w W : World} {e : Ending} {w' : World} (h : CellsSaid d err W e w') (hb : Below w.heap.size w W) : CellsSaid d err w e w' := by
  obtain ⟨v', h1, h2, h3⟩ := h
  exact ⟨v', h1, SliceR.stable (rdOf_stable _) h2 (Keeps.refl _ _) (fun b h _ => Nat.le_trans hb.size h), below_from hb h3⟩
set_option maxRecDepth 100000 in
set_option maxHeartbeats 4000000 in
theorem cellsSet_any (v : Value) (d : List Cel) (i j s c : Int) (w : World) (S : Nat → Prop) (own : Bool) (h : CelsR own w S v d) (hs : d.length ≤ 1000000) :
    Calls Tryz.prog 166 #[v, .int .i64 i, .int .i64 j, .int .i64 s, .int .i64 c] w (CellsSaid (eachC (setBits s c) d i j).1 (eachC (setBits s c) d i j).2 w) := by
  obtain ⟨W1, hW1⟩ : ∃ W1, (w.alloc (.cells #[.int .i64 s] 3)).alloc (.cells #[.int .i64 c] 3) = W1 := ⟨_, rfl⟩
  have hB : Below w.heap.size w W1 := hW1 ▸ ((Below.refl _ _).alloc (Nat.le_refl _) _).alloc (by simp) _
  have hz : w.heap.size + 2 = W1.heap.size := by rw [← hW1]; simp
  have hA1 : W1.heap[w.heap.size]? = some (.cells #[.int .i64 s] 3) := hW1 ▸ heap_old _ _ (heap_new _ _ rfl)
  have hA2 : W1.heap[w.heap.size + 1]? = some (.cells #[.int .i64 c] 3) := hW1 ▸ heap_new _ _ (by simp)
  have HC := Lib.hid (cellsEach_any v d i j 213 #[.pointer (some ⟨w.heap.size, 0, none⟩), .pointer (some ⟨w.heap.size + 1, 0, none⟩)] (setBits s c) 1 (fun x => .int .i64 (setBits s c x).bits) W1 S own (h.below (rdOf_stable _) hB) hs
    (enters_of Tryz.func213 (by kernel_rfl) rfl) (by decide) (fun x => rfl)
    (fun W B o x hW hBB hx => cellSet1_any B o w.heap.size (w.heap.size + 1) s c x W (by have := (hx 0 _ rfl).1; exact this) (hx 1 _ rfl).1 (hx 1 _ rfl).2 (cell_of_heap (heap_below hW hA1)) (cell_of_heap (heap_below hW hA2))))
  have H1 := Lib.hid hB
  obtain ⟨a, cc, rfl⟩ := h.slice
  generalize eachC (setBits s c) d i j = r at *
  clear h hA1 hA2 hB hz
  go_enter Tryz.func166, Tryz.ntmps166
  go_wp2_with (go_at_call 212; refine HC.out.mono ?_; intro e w2 hsaid; have hsaid := CellsSaid.from hsaid H1.out; obtain ⟨v', rfl, hv', hb'⟩ := hsaid)
  go_ret2
  exact ⟨_, rfl, hv', hb'⟩
set_option maxRecDepth 100000 in
set_option maxHeartbeats 4000000 in
theorem cellsEachLink_any (v : Value) (d : List Cel) (i j : Int) (hr : List UInt8) (b1 : Nat) (w : World) (S : Nat → Prop) (own : Bool) (h : CelsR own w S v d) (hs : d.length ≤ 1000000) (hA : w.heap[b1]? = some (.cells #[.string ⟨hr.toArray⟩] 9)) :
    Calls Tryz.prog 212 #[v, .int .i64 i, .int .i64 j, .func (.func 227) #[] #[.pointer (some ⟨b1, 0, none⟩)]] w (CellsSaid (eachC (setHref hr) d i j).1 (eachC (setHref hr) d i j).2 w) :=
  cellsEach_any v d i j 227 #[.pointer (some ⟨b1, 0, none⟩)] (setHref hr) 2 (fun x => .string ⟨(setHref hr x).href.toArray⟩) w S own h hs
    (enters_of Tryz.func227 (by kernel_rfl) rfl) (by decide) (fun x => rfl)
    (fun W B o x hW hBB hx => cellLink1_any B o b1 hr x W (hx 2 _ rfl).1 (hx 2 _ rfl).2 (cell_of_heap (heap_below hW hA)))
end Go.Proofs.YtpndnbjpnajaaaaGreatDoor
namespace Go.Proofs.YtpndnbjpnajaaaaGreatDoor
open Go.RowKit
open Go.Proofs.Qw
def linkC (hr : List UInt8) (d : List Cel) (i j : Int) : List Cel × Int := if linkF hr = true then eachC (setHref hr) d i j else ([], 1)
set_option maxRecDepth 100000 in
set_option maxHeartbeats 2000000 in
theorem cellsLink_any (v : Value) (d : List Cel) (i j : Int) (hr : List UInt8) (w : World) (S : Nat → Prop) (own : Bool) (h : CelsR own w S v d) (hs : d.length ≤ 1000000) (he : EnvT w) (hh : hr.length ≤ 1000000) :
    Calls Tryz.prog 172 #[v, .int .i64 i, .int .i64 j, .string ⟨hr.toArray⟩] w (CellsSaid (linkC hr d i j).1 (linkC hr d i j).2 w) := by
  obtain ⟨W1, hW1⟩ : ∃ W1, w.alloc (.cells #[.string ⟨hr.toArray⟩] 9) = W1 := ⟨_, rfl⟩
  have hB : Below w.heap.size w W1 := hW1 ▸ (Below.refl _ _).alloc (Nat.le_refl _) _
  have hA : W1.heap[w.heap.size]? = some (.cells #[.string ⟨hr.toArray⟩] 9) := hW1 ▸ heap_new _ _ rfl
  have HC1 : Hid (Calls Tryz.prog 226 #[.string ⟨hr.toArray⟩] W1 fun e w' => e = .returned (.bool (linkF hr)) ∧ Below W1.heap.size W1 w') := Lib.hid (link_any ⟨hr.toArray⟩ W1 (he.below hB) (by show hr.toArray.size ≤ _; simpa using hh))
  have HC : Hid (∀ W, Below W1.heap.size W1 W → Calls Tryz.prog 212 #[v, .int .i64 i, .int .i64 j, .func (.func 227) #[] #[.pointer (some ⟨w.heap.size, 0, none⟩)]] W (CellsSaid (eachC (setHref hr) d i j).1 (eachC (setHref hr) d i j).2 W)) :=
    Lib.hid fun W hW => cellsEachLink_any v d i j hr w.heap.size W S own ((h.below (rdOf_stable _) hB).below (rdOf_stable _) hW) hs (heap_below hW hA)
  have HL : Hid (linkC hr d i j = if linkF hr = true then eachC (setHref hr) d i j else ([], 1)) := Lib.hid rfl
  have H1 := Lib.hid hB
  have hs1 := hB.size
  obtain ⟨a, cc, rfl⟩ := h.slice
  obtain ⟨p, f⟩ := blk hA
  generalize eachC (setHref hr) d i j = r at *
  generalize linkF hr = lk at *
  clear h he hs hh hA hB
  cases lk
  · have HR : Hid (linkC hr d i j = ([], 1)) := Lib.hid HL.out
    clear HL
    go_enter Tryz.func172, Tryz.ntmps172
    go_wp2_with (go_at_call 226; refine HC1.out.mono ?_; rintro e w2 ⟨rfl, hb2⟩)
    go_ret2
    unfold CellsSaid
    rw [HR.out]
    exact ⟨_, rfl, SliceR.nil _ _ _ _ _ _, H1.out.trans (hb2.mono hs1)⟩
  · have HR : Hid (linkC hr d i j = r) := Lib.hid HL.out
    clear HL
    go_enter Tryz.func172, Tryz.ntmps172
    go_wp2_with (first | (go_at_call 226; refine HC1.out.mono ?_; rintro e w2 ⟨rfl, hb2⟩) | (go_at_call 212; refine (HC.out _ hb2).mono ?_; intro e w3 hsaid; have hsaid := CellsSaid.from hsaid (H1.out.trans (hb2.mono hs1)); obtain ⟨v', rfl, hv', hb'⟩ := hsaid))
    go_ret2
    rw [HR.out]
    exact ⟨_, rfl, hv', hb'⟩
end Go.Proofs.YtpndnbjpnajaaaaGreatDoor
