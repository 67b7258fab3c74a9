/- The walk of the reference's Split of a line. -/
import Derived.Test.YtpndnbjpnajaaaaGreatDoorDocPartK
import Derived.Test.YtpndnbjpnajaaaaGreatDoorRefDoesK
import Derived.Test.YtpndnbjpnajaaaaGreatDoorReplaceK
set_option linter.unusedVariables false
set_option linter.unusedSimpArgs false
namespace Go.Proofs.YtpndnbjpnajaaaaGreatDoor
open Go.RowKit
open Go.Proofs.Qw
set_option maxRecDepth 100000 in
set_option maxHeartbeats 8000000 in
theorem refLineSplit_any (l : Lin) (la ca : Option Addr) (lc cc p : Nat) (w : World) (S : Nat → Prop) (hL : IntsR false w S (.slice la l.lists.length lc) l.lists) (hC : CelsR false w S (.slice ca l.cells.length cc) l.cells)
  (hs : l.lists.length ≤ 1000000 ∧ l.cells.length ≤ 1000000) (hh : ∀ c ∈ l.cells, c.href.length ≤ 1000000) (hm : mayL l = true) (hp : p ≤ l.cells.length) :
  Calls Tryz.prog 189 #[linV l (.slice la l.lists.length lc) (.slice ca l.cells.length cc), .int .i64 p] w fun e w' => ∃ x1 x2 y1 y2, e = .returned (.tuple #[linV (splitL l p).1 x1 x2, linV (splitL l p).2 y1 y2, .int .i64 0]) ∧
   IntsR true w' (fun b => w.heap.size ≤ b) x1 (splitL l p).1.lists ∧ CelsR true w' (fun b => w.heap.size ≤ b) x2 (splitL l p).1.cells ∧ IntsR true w' (fun b => w.heap.size ≤ b) y1 (splitL l p).2.lists ∧ CelsR true w' (fun b => w.heap.size ≤ b) y2 (splitL l p).2.cells ∧ Below w.heap.size w w' := by
 obtain ⟨W1, hW1⟩ : ∃ W1, ((w.alloc (.cells #[.int .i64 l.quote, .slice la l.lists.length lc, .int .i64 l.kind, .slice ca l.cells.length cc] 42)).alloc (.cells #[.int .i64 0, .slice none 0 0, .int .i64 0, .slice none 0 0] 42)).alloc (.cells #[.int .i64 0, .slice none 0 0, .int .i64 0, .slice none 0 0] 42) = W1 := ⟨_, rfl⟩
 have hB : Below w.heap.size w W1 := hW1 ▸ (((Below.refl _ _).alloc (Nat.le_refl _) _).alloc (by simp) _).alloc (by simp; omega) _
 have hz : w.heap.size + 3 = W1.heap.size := by rw [← hW1]; simp
 have hA0 : W1.heap[w.heap.size]? = some (.cells #[.int .i64 l.quote, .slice la l.lists.length lc, .int .i64 l.kind, .slice ca l.cells.length cc] 42) := hW1 ▸ heap_old _ _ (heap_old _ _ (heap_new _ _ rfl))
 have hA1 : W1.heap[w.heap.size + 1]? = some (.cells #[.int .i64 0, .slice none 0 0, .int .i64 0, .slice none 0 0] 42) := hW1 ▸ heap_old _ _ (heap_new _ _ (by simp))
 have hA2 : W1.heap[w.heap.size + 2]? = some (.cells #[.int .i64 0, .slice none 0 0, .int .i64 0, .slice none 0 0] 42) := hW1 ▸ heap_new _ _ (by simp)
 have HM := Lib.hid (refLineMay_any l _ _ W1 S (SliceR.below (rdOf_stable _) hL hB) (SliceR.below (rdOf_stable _) hC hB) hh)
 rw [hm] at HM
 have HF : Hid (∀ W, Below w.heap.size w W → Calls Tryz.prog 182 #[linV l (.slice la l.lists.length lc) (.slice ca l.cells.length cc)] W fun e w' => ∃ a', e = .returned (linV l a' (.slice none 0 0)) ∧ IntsR true w' (fun b => W.heap.size ≤ b) a' l.lists ∧ Below W.heap.size W w') := Lib.hid fun W hW => refFrame_any l _ _ false false W S (SliceR.below (rdOf_stable _) hL hW) (SliceR.below (rdOf_stable _) hC hW) hs.1
 obtain ⟨X, hX, hcq⟩ := cels_from hC hp
 have HW1 : Hid (∀ W, Below w.heap.size w W → Calls Tryz.prog 183 #[.slice ca p cc] W fun e w' => ∃ v', e = .returned v' ∧ CelsR true w' (fun b => W.heap.size ≤ b) v' (l.cells.take p) ∧ Below W.heap.size W w') := Lib.hid fun W hW => refOwnC_any _ _ false W S ((SliceR.below (rdOf_stable _) hC hW).take hp) (by rw [List.length_take]; omega)
 have HW2 : Hid (∀ W, Below w.heap.size w W → Calls Tryz.prog 183 #[.slice X (l.cells.length - p) (cc - p)] W fun e w' => ∃ v', e = .returned v' ∧ CelsR true w' (fun b => W.heap.size ≤ b) v' (l.cells.drop p) ∧ Below W.heap.size W w') := Lib.hid fun W hW => refOwnC_any _ _ false W S (SliceR.below (rdOf_stable _) hX hW) (by rw [List.length_drop]; omega)
 have hs1 := hB.size
 have HB : Hid (∀ W, Below W1.heap.size W1 W → W.heap[w.heap.size]? = some (.cells #[.int .i64 l.quote, .slice la l.lists.length lc, .int .i64 l.kind, .slice ca l.cells.length cc] 42) ∧ W.heap[w.heap.size + 1]? = some (.cells #[.int .i64 0, .slice none 0 0, .int .i64 0, .slice none 0 0] 42) ∧ W.heap[w.heap.size + 2]? = some (.cells #[.int .i64 0, .slice none 0 0, .int .i64 0, .slice none 0 0] 42)) := Lib.hid fun W hW => ⟨heap_below hW hA0, heap_below hW hA1, heap_below hW hA2⟩
 have H1 := Lib.hid hB
 obtain ⟨p0, f0⟩ := blk hA0
 obtain ⟨p1, f1⟩ := blk hA1
 obtain ⟨p2, f2⟩ := blk hA2
 have hccl := hC.len
 unfold maxLen at hccl
 clear hL hC hs hh hm hB hX
 have u0 : (0 : Int) ≤ (p : Int) := Int.natCast_nonneg _
 have u1 : (p : Int) ≤ (l.cells.length : Int) := by omega
 have u2 : (p : Int) ≤ (cc : Int) := by omega
 unfold linV at HF HM ⊢
 go_enter Tryz.func189, Tryz.ntmps189
 go_wp2_with (go_at_call 139; refine HM.out.mono ?_; rintro e w2 ⟨rfl, hb2⟩; obtain ⟨hA3, hA4, hA5⟩ := HB.out _ hb2; obtain ⟨q0, g0⟩ := blk hA3; obtain ⟨q1, g1⟩ := blk hA4; obtain ⟨q2, g2⟩ := blk hA5)
 have hx2 : Below w.heap.size w w2 := H1.out.trans (hb2.mono hs1)
 have hy2 : Below w2.heap.size w2 w2 := Below.refl _ _
 have hsx2 := hx2.size
 have hsp2 : w.heap.size + 3 ≤ w2.heap.size := by have := hb2.size; omega
 have na2 : ¬ w2.heap.size = w.heap.size := by omega
 have nb2 : ¬ w2.heap.size + 1 = w.heap.size := by omega
 have HB2 : Hid (∀ W, Below w2.heap.size w2 W → W.heap[w.heap.size]? = some (.cells #[.int .i64 l.quote, .slice la l.lists.length lc, .int .i64 l.kind, .slice ca l.cells.length cc] 42)) := Lib.hid fun W hW => heap_below hW hA3
 clear p0 f0 p1 f1 p2 f2 hA0 hA1 hA2 HB HM q1 g1 q2 g2 hW1
 refine Code.wp_mono (Q := EndsIn fun a' w' => ∃ (B C : Nat) (a1 : Option Addr) (c1 : Nat) (a3 : Option Addr) (c3 : Nat) (x9 x10 x11 x12 x13 x14 x15 x16 x17 x18 x19 x20 x21 x22 x23 x24 x25 x26 x27 x28 x29 x30 x31 x32 x33 x34 x35 x36 x37 x38 x39 x40 x41 x42 x43 x44 x45 x46 x47 x48 : Value), a' = { tmps := #[.agg #[.int .i64 l.quote, .slice la l.lists.length lc, .int .i64 l.kind, .slice ca l.cells.length cc], .int .i64 p, .pointer (some ⟨w.heap.size, 0, none⟩), undef, .pointer (some ⟨w.heap.size + 1, 0, none⟩), .pointer (some ⟨w.heap.size + 1 + 1, 0, none⟩), .int .i64 0, .pointer (some ⟨B, 0, none⟩), .pointer (some ⟨C, 0, none⟩), x9, x10, x11, x12, x13, x14, x15, x16, x17, x18, x19, x20, x21, x22, x23, x24, x25, x26, x27, x28, x29, x30, x31, x32, x33, x34, x35, x36, x37, x38, x39, x40, x41, x42, x43, x44, x45, x46, x47, x48], defers := [] } ∧
  w2.heap.size ≤ B ∧ w2.heap.size ≤ C ∧ B ≠ C ∧ w'.heap[B]? = some (.cells #[.int .i64 l.quote, .slice a1 l.lists.length c1, .int .i64 l.kind, .slice none 0 0] 42) ∧ w'.heap[C]? = some (.cells #[.int .i64 l.quote, .slice a3 l.lists.length c3, .int .i64 l.kind, .slice none 0 0] 42) ∧
  IntsR true w' (fun b => w2.heap.size ≤ b) (.slice a1 l.lists.length c1) l.lists ∧ IntsR true w' (fun b => w2.heap.size ≤ b) (.slice a3 l.lists.length c3) l.lists ∧ Below w2.heap.size w2 w') ?_ ?_
 ·intro e a' w' hends
  obtain ⟨rfl, B, C, a1, c1, a3, c3, x9, x10, x11, x12, x13, x14, x15, x16, x17, x18, x19, x20, x21, x22, x23, x24, x25, x26, x27, x28, x29, x30, x31, x32, x33, x34, x35, x36, x37, x38, x39, x40, x41, x42, x43, x44, x45, x46, x47, x48, rfl, hB2, hC2, hne, hA6, hA7, hi1, hi2, hb3⟩ := endsIn_normal hends
  obtain ⟨r6, s6⟩ := blk hA6
  obtain ⟨r7, s7⟩ := blk hA7
  have hl' := HB2.out _ hb3
  obtain ⟨r5, s5⟩ := blk hl'
  have hx' : Below w.heap.size w w' := hx2.trans (hb3.mono hsx2)
  have hne1 : ¬ B = C := hne
  have hne2 : ¬ C = B := fun e => hne e.symm
  have nB : ¬ B = w.heap.size := by omega
  have nC : ¬ C = w.heap.size := by omega
  have m1 : w.heap.size + 1 ≠ B := by omega
  have m2 : w.heap.size + 2 ≠ B := by omega
  have m3 : w.heap.size + 1 ≠ C := by omega
  have m4 : w.heap.size + 2 ≠ C := by omega
  have hsz' := hb3.size
  have HI := Lib.hid (And.intro hi1 hi2)
  have HA45 := Lib.hid (And.intro hA4 hA5)
  clear hi1 hi2 HF hA3 hA4 hA5 q0 g0
  rcases (show (cc = p ∧ ca = X ∧ l.cells.length = p) ∨ (¬ cc = p ∧ ca.map (·.add (p * 3)) = X ∧ l.cells.length = p) ∨ (¬ cc = p ∧ ca.map (·.add (p * 3)) = X ∧ p < l.cells.length) by
   rcases hcq with ⟨h1, h2⟩ | ⟨h1, h2⟩
   ·exact .inl ⟨h1, h2, by omega⟩
   ·by_cases h3 : l.cells.length = p
    ·exact .inr (.inl ⟨h1, h2, h3⟩)
    ·exact .inr (.inr ⟨h1, h2, by omega⟩)) with ⟨hcp, hXe, hlp⟩ | ⟨hcp, hXe, hlp⟩ | ⟨hcp, hXe, hlp⟩
  ·have hcp2 := hcp.symm; subst hcp2; subst hXe; rw [Nat.sub_self, show l.cells.length - p = 0 by omega] at HW2
   clear hcq
   have hq : ((p : Int) == (l.cells.length : Int)) = true := by simp; omega
   have hsp : splitL l p = ({ l with cells := l.cells.take p }, { l with kind := 0, cells := [] }) := by unfold splitL; rw [if_pos (by omega)]
   have HSP := Lib.hid hsp
   clear hsp
   go_wp2_with (first
    | (go_at_call 183; refine (HW1.out _ hx').mono ?_; rintro e w6 ⟨v6, rfl, hv6, hb6⟩; obtain ⟨a6, n6, c6, hv6e⟩ := slice_any hv6; subst hv6e; have HV6 := Lib.hid hv6; have m6B := heap_below hb6 hA6; have m6C := heap_below hb6 hA7; have m6l := heap_below hb6 hl'; obtain ⟨t6, x6⟩ := blk m6B; obtain ⟨t7, x7⟩ := blk m6C; obtain ⟨t5, x5⟩ := blk m6l; have hx6 := below_from hx' hb6; have hy6 := below_from hb3 hb6; have HU6 : Hid (∀ u, Below w.heap.size w (w6.setCell ⟨B, 3, none⟩ u) ∧ Below w2.heap.size w2 (w6.setCell ⟨B, 3, none⟩ u)) := Lib.hid fun u => ⟨hx6.setCell (Nat.le_trans hsx2 hB2) _, hy6.setCell hB2 _⟩; have HM6 : Hid (∀ u, (w6.setCell ⟨B, 3, none⟩ u).heap[B]? = some (.cells #[.int .i64 l.quote, .slice a1 l.lists.length c1, .int .i64 l.kind, u] 42) ∧ (w6.setCell ⟨B, 3, none⟩ u).heap[C]? = some (.cells #[.int .i64 l.quote, .slice a3 l.lists.length c3, .int .i64 l.kind, .slice none 0 0] 42) ∧ (w6.setCell ⟨B, 3, none⟩ u).heap[w.heap.size]? = some (.cells #[.int .i64 l.quote, .slice la l.lists.length lc, .int .i64 l.kind, .slice ca l.cells.length p] 42)) := Lib.hid fun u => ⟨by rw [heap_set, if_pos rfl, m6B]; rfl, by rw [heap_set, if_neg hne1]; exact m6C, by rw [heap_set, if_neg nB]; exact m6l⟩; clear hv6)
    | (go_at_call 183; refine (HW2.out _ (HU6.out _).1).mono ?_; rintro e w7 ⟨v7, rfl, hv7, hb7⟩; obtain ⟨a7, n7, c7, hv7e⟩ := slice_any hv7; subst hv7e; have HV7 := Lib.hid hv7; have m7B := heap_below hb7 (HM6.out _).1; have m7C := heap_below hb7 (HM6.out _).2.1; have m7l := heap_below hb7 (HM6.out _).2.2; obtain ⟨y6, z6⟩ := blk m7B; obtain ⟨y7, z7⟩ := blk m7C; obtain ⟨y5, z5⟩ := blk m7l; have HY7 := Lib.hid (below_from (HU6.out _).2 hb7); clear hv7))
   with_reducible refine wp_named ?_
   intro Y hY
   have e1 : Y.heap[B]? = some (.cells #[.int .i64 l.quote, .slice a1 l.lists.length c1, .int .i64 l.kind, .slice a6 n6 c6] 42) := by rw [← hY]; simp [heap_set, hne2, m7B]
   have e2 : Y.heap[C]? = some (.cells #[.int .i64 l.quote, .slice a3 l.lists.length c3, (.int .i64 0), .slice a7 n7 c7] 42) := by rw [← hY]; simp [heap_set, putIn, m7C]
   have hYK : ∀ b, b ≠ C → Y.heap[b]? = w7.heap[b]? := fun b h1 => by rw [← hY]; simp [heap_set, Ne.symm h1]
   have hYZ : Y.heap.size = w7.heap.size := by rw [← hY]; simp
   have hYB : Below w2.heap.size w2 Y := by
    have hq1 := HY7.out
    rw [← hY]
    (repeat' (first | (with_reducible exact Below.refl _ _) | (with_reducible assumption) | (with_reducible refine Below.alloc ?_ ?_ _) | (with_reducible refine Below.drew ?_) | (with_reducible refine drewN_below ?_) | (with_reducible refine Below.setCell ?_ ?_ _) | go_size))
   have e3 : Y.heap[w.heap.size + 1]? = some (Obj.cells #[.int .i64 0, .slice none 0 0, .int .i64 0, .slice none 0 0] 42) := heap_below hYB HA45.out.1
   have e4 : Y.heap[w.heap.size + 2]? = some (Obj.cells #[.int .i64 0, .slice none 0 0, .int .i64 0, .slice none 0 0] 42) := heap_below hYB HA45.out.2
   have hz6 := hb6.size
   have hz7 : w6.heap.size ≤ w7.heap.size := by have := hb7.size; simpa using this
   have k6 : ∀ b, b ≠ B → b ≠ C → b < w6.heap.size → Y.heap[b]? = w6.heap[b]? := fun b h1 h2 hz => (hYK b h2).trans ((hb7.block b (by simpa using hz)).trans (by rw [heap_set, if_neg (Ne.symm h1)]))
   have key6 : ∀ b, b < w'.heap.size → (∀ cs, w'.heap[b]? ≠ some (.cells cs 42)) → Y.heap[b]? = w'.heap[b]? := fun b hz hno => (k6 b (fun e => by subst e; exact hno _ hA6) (fun e => by subst e; exact hno _ hA7) (by omega)).trans (hb6.block b hz)
   have key6b : ∀ b, b < w6.heap.size → (∀ cs, w6.heap[b]? ≠ some (.cells cs 42)) → Y.heap[b]? = w6.heap[b]? := fun b hz hno => k6 b (fun e => by subst e; exact hno _ m6B) (fun e => by subst e; exact hno _ m6C) hz
   have key7 : ∀ b : Nat, (∀ cs, w7.heap[b]? ≠ some (.cells cs 42)) → Y.heap[b]? = w7.heap[b]? := fun b hno => hYK b (fun e => by subst e; exact hno _ m7C)
   have g1 : IntsR true Y (fun b => w2.heap.size ≤ b) (.slice a1 l.lists.length c1) l.lists := SliceR.tagged (tagged_of _ _) (by decide) HI.out.1 (by omega) (fun b _ hz hno => key6 b hz hno) (fun b h _ => h)
   have g3 : IntsR true Y (fun b => w2.heap.size ≤ b) (.slice a3 l.lists.length c3) l.lists := SliceR.tagged (tagged_of _ _) (by decide) HI.out.2 (by omega) (fun b _ hz hno => key6 b hz hno) (fun b h _ => h)
   have g2 : CelsR true Y (fun b => w2.heap.size ≤ b) (.slice a6 n6 c6) (l.cells.take p) := SliceR.tagged (tagged_of _ _) (by decide) HV6.out (by omega) (fun b _ hz hno => key6b b hz hno) (fun b h _ => by have h : w'.heap.size ≤ b := h; omega)
   have g4' : CelsR true Y (fun b => w2.heap.size ≤ b) (.slice a7 n7 c7) (l.cells.drop p) := SliceR.tagged (tagged_of _ _) (by decide) HV7.out (by omega) (fun b _ _ hno => key7 b hno) (fun b h _ => by have h : (w6.setCell ⟨B, 3, none⟩ (.slice a6 n6 c6)).heap.size ≤ b := h; simp at h; omega)
   have g4 : CelsR true Y (fun b => w2.heap.size ≤ b) (.slice a7 n7 c7) ({ l with kind := 0, cells := [] } : Lin).cells := by
    rw [show l.cells.drop p = [] from List.drop_of_length_le (by omega)] at g4'
    exact g4'
   have HG := Lib.hid (And.intro g1 (And.intro g2 (And.intro g3 g4)))
   have HYB := Lib.hid (hx2.trans (hYB.mono hsx2))
   obtain ⟨v1, f1⟩ := blk e1
   obtain ⟨v2, f2⟩ := blk e2
   obtain ⟨v3, f3⟩ := blk e3
   obtain ⟨v4, f4⟩ := blk e4
   clear hY hYK hYB k6 key6 key6b key7 g1 g2 g3 g4 g4' hA6 hA7 hl' r5 s5 r6 s6 r7 s7 t5 x5 t6 x6 t7 x7 y5 z5 y6 z6 y7 z7 m6B m6C m6l m7B m7C m7l
   go_region_held3 (fun w' => w'.cell? ⟨B, 0, none⟩ = some (.int .i64 l.quote) ∧ w'.cell? ⟨B, 1, none⟩ = some (.slice a1 l.lists.length c1) ∧ w'.cell? ⟨B, 2, none⟩ = some (.int .i64 l.kind) ∧ w'.cell? ⟨B, 3, none⟩ = some (.slice a6 n6 c6) ∧ w'.cell? ⟨C, 0, none⟩ = some (.int .i64 l.quote) ∧ w'.cell? ⟨C, 1, none⟩ = some (.slice a3 l.lists.length c3) ∧ w'.cell? ⟨C, 2, none⟩ = some (.int .i64 0) ∧ w'.cell? ⟨C, 3, none⟩ = some (.slice a7 n7 c7)) (go_keep) (fail)
   go_wp2_with fail
   refine bodyPost_ret (results_lines2 rfl _ _ (w.heap.size + 1) (w.heap.size + 1 + 1) (.int .i64 l.quote) (.slice a1 l.lists.length c1) (.int .i64 l.kind) (.slice a6 n6 c6) (.int .i64 l.quote) (.slice a3 l.lists.length c3) (.int .i64 0) (.slice a7 n7 c7) rfl rfl ?_ ?_) rfl ?_
   ·simp [drew_heap, heap_set, putIn, e3]
   ·simp [drew_heap, heap_set, putIn, e4]
   rw [HSP.out]
   have g1 := HG.out.1
   have g2 := HG.out.2.1
   have g3 := HG.out.2.2.1
   have g4 := HG.out.2.2.2
   have hYB := HYB.out
   exact ⟨_, _, _, _, rfl, (SliceR.stable (rdOf_stable _) g1 (by (repeat' (first | (with_reducible exact Keeps.refl _ _) | (with_reducible refine Keeps.set ?_ ?_ _) | (with_reducible refine Keeps.alloc ?_ _) | (with_reducible refine Keeps.drew ?_) | (first | fail) | (simp; omega)))) (fun b h _ => (by have h' := h; (try simp at h'); omega))), (SliceR.stable (rdOf_stable _) g2 (by (repeat' (first | (with_reducible exact Keeps.refl _ _) | (with_reducible refine Keeps.set ?_ ?_ _) | (with_reducible refine Keeps.alloc ?_ _) | (with_reducible refine Keeps.drew ?_) | (first | fail) | (simp; omega)))) (fun b h _ => (by have h' := h; (try simp at h'); omega))), (SliceR.stable (rdOf_stable _) g3 (by (repeat' (first | (with_reducible exact Keeps.refl _ _) | (with_reducible refine Keeps.set ?_ ?_ _) | (with_reducible refine Keeps.alloc ?_ _) | (with_reducible refine Keeps.drew ?_) | (first | fail) | (simp; omega)))) (fun b h _ => (by have h' := h; (try simp at h'); omega))), (SliceR.stable (rdOf_stable _) g4 (by (repeat' (first | (with_reducible exact Keeps.refl _ _) | (with_reducible refine Keeps.set ?_ ?_ _) | (with_reducible refine Keeps.alloc ?_ _) | (with_reducible refine Keeps.drew ?_) | (first | fail) | (simp; omega)))) (fun b h _ => (by have h' := h; (try simp at h'); omega))), by (repeat' (first | (with_reducible exact Below.refl _ _) | (with_reducible assumption) | (with_reducible refine Below.alloc ?_ ?_ _) | (with_reducible refine Below.drew ?_) | (with_reducible refine drewN_below ?_) | (with_reducible refine Below.setCell ?_ ?_ _) | go_size))⟩
  ·subst hXe; rw [show l.cells.length - p = 0 by omega] at HW2
   clear hcq
   have hq : ((p : Int) == (l.cells.length : Int)) = true := by simp; omega
   have hsp : splitL l p = ({ l with cells := l.cells.take p }, { l with kind := 0, cells := [] }) := by unfold splitL; rw [if_pos (by omega)]
   have HSP := Lib.hid hsp
   clear hsp
   go_wp2_with (first
    | (go_at_call 183; refine (HW1.out _ hx').mono ?_; rintro e w6 ⟨v6, rfl, hv6, hb6⟩; obtain ⟨a6, n6, c6, hv6e⟩ := slice_any hv6; subst hv6e; have HV6 := Lib.hid hv6; have m6B := heap_below hb6 hA6; have m6C := heap_below hb6 hA7; have m6l := heap_below hb6 hl'; obtain ⟨t6, x6⟩ := blk m6B; obtain ⟨t7, x7⟩ := blk m6C; obtain ⟨t5, x5⟩ := blk m6l; have hx6 := below_from hx' hb6; have hy6 := below_from hb3 hb6; have HU6 : Hid (∀ u, Below w.heap.size w (w6.setCell ⟨B, 3, none⟩ u) ∧ Below w2.heap.size w2 (w6.setCell ⟨B, 3, none⟩ u)) := Lib.hid fun u => ⟨hx6.setCell (Nat.le_trans hsx2 hB2) _, hy6.setCell hB2 _⟩; have HM6 : Hid (∀ u, (w6.setCell ⟨B, 3, none⟩ u).heap[B]? = some (.cells #[.int .i64 l.quote, .slice a1 l.lists.length c1, .int .i64 l.kind, u] 42) ∧ (w6.setCell ⟨B, 3, none⟩ u).heap[C]? = some (.cells #[.int .i64 l.quote, .slice a3 l.lists.length c3, .int .i64 l.kind, .slice none 0 0] 42) ∧ (w6.setCell ⟨B, 3, none⟩ u).heap[w.heap.size]? = some (.cells #[.int .i64 l.quote, .slice la l.lists.length lc, .int .i64 l.kind, .slice ca l.cells.length cc] 42)) := Lib.hid fun u => ⟨by rw [heap_set, if_pos rfl, m6B]; rfl, by rw [heap_set, if_neg hne1]; exact m6C, by rw [heap_set, if_neg nB]; exact m6l⟩; clear hv6)
    | (go_at_call 183; refine (HW2.out _ (HU6.out _).1).mono ?_; rintro e w7 ⟨v7, rfl, hv7, hb7⟩; obtain ⟨a7, n7, c7, hv7e⟩ := slice_any hv7; subst hv7e; have HV7 := Lib.hid hv7; have m7B := heap_below hb7 (HM6.out _).1; have m7C := heap_below hb7 (HM6.out _).2.1; have m7l := heap_below hb7 (HM6.out _).2.2; obtain ⟨y6, z6⟩ := blk m7B; obtain ⟨y7, z7⟩ := blk m7C; obtain ⟨y5, z5⟩ := blk m7l; have HY7 := Lib.hid (below_from (HU6.out _).2 hb7); clear hv7))
   with_reducible refine wp_named ?_
   intro Y hY
   have e1 : Y.heap[B]? = some (.cells #[.int .i64 l.quote, .slice a1 l.lists.length c1, .int .i64 l.kind, .slice a6 n6 c6] 42) := by rw [← hY]; simp [heap_set, hne2, m7B]
   have e2 : Y.heap[C]? = some (.cells #[.int .i64 l.quote, .slice a3 l.lists.length c3, (.int .i64 0), .slice a7 n7 c7] 42) := by rw [← hY]; simp [heap_set, putIn, m7C]
   have hYK : ∀ b, b ≠ C → Y.heap[b]? = w7.heap[b]? := fun b h1 => by rw [← hY]; simp [heap_set, Ne.symm h1]
   have hYZ : Y.heap.size = w7.heap.size := by rw [← hY]; simp
   have hYB : Below w2.heap.size w2 Y := by
    have hq1 := HY7.out
    rw [← hY]
    (repeat' (first | (with_reducible exact Below.refl _ _) | (with_reducible assumption) | (with_reducible refine Below.alloc ?_ ?_ _) | (with_reducible refine Below.drew ?_) | (with_reducible refine drewN_below ?_) | (with_reducible refine Below.setCell ?_ ?_ _) | go_size))
   have e3 : Y.heap[w.heap.size + 1]? = some (Obj.cells #[.int .i64 0, .slice none 0 0, .int .i64 0, .slice none 0 0] 42) := heap_below hYB HA45.out.1
   have e4 : Y.heap[w.heap.size + 2]? = some (Obj.cells #[.int .i64 0, .slice none 0 0, .int .i64 0, .slice none 0 0] 42) := heap_below hYB HA45.out.2
   have hz6 := hb6.size
   have hz7 : w6.heap.size ≤ w7.heap.size := by have := hb7.size; simpa using this
   have k6 : ∀ b, b ≠ B → b ≠ C → b < w6.heap.size → Y.heap[b]? = w6.heap[b]? := fun b h1 h2 hz => (hYK b h2).trans ((hb7.block b (by simpa using hz)).trans (by rw [heap_set, if_neg (Ne.symm h1)]))
   have key6 : ∀ b, b < w'.heap.size → (∀ cs, w'.heap[b]? ≠ some (.cells cs 42)) → Y.heap[b]? = w'.heap[b]? := fun b hz hno => (k6 b (fun e => by subst e; exact hno _ hA6) (fun e => by subst e; exact hno _ hA7) (by omega)).trans (hb6.block b hz)
   have key6b : ∀ b, b < w6.heap.size → (∀ cs, w6.heap[b]? ≠ some (.cells cs 42)) → Y.heap[b]? = w6.heap[b]? := fun b hz hno => k6 b (fun e => by subst e; exact hno _ m6B) (fun e => by subst e; exact hno _ m6C) hz
   have key7 : ∀ b : Nat, (∀ cs, w7.heap[b]? ≠ some (.cells cs 42)) → Y.heap[b]? = w7.heap[b]? := fun b hno => hYK b (fun e => by subst e; exact hno _ m7C)
   have g1 : IntsR true Y (fun b => w2.heap.size ≤ b) (.slice a1 l.lists.length c1) l.lists := SliceR.tagged (tagged_of _ _) (by decide) HI.out.1 (by omega) (fun b _ hz hno => key6 b hz hno) (fun b h _ => h)
   have g3 : IntsR true Y (fun b => w2.heap.size ≤ b) (.slice a3 l.lists.length c3) l.lists := SliceR.tagged (tagged_of _ _) (by decide) HI.out.2 (by omega) (fun b _ hz hno => key6 b hz hno) (fun b h _ => h)
   have g2 : CelsR true Y (fun b => w2.heap.size ≤ b) (.slice a6 n6 c6) (l.cells.take p) := SliceR.tagged (tagged_of _ _) (by decide) HV6.out (by omega) (fun b _ hz hno => key6b b hz hno) (fun b h _ => by have h : w'.heap.size ≤ b := h; omega)
   have g4' : CelsR true Y (fun b => w2.heap.size ≤ b) (.slice a7 n7 c7) (l.cells.drop p) := SliceR.tagged (tagged_of _ _) (by decide) HV7.out (by omega) (fun b _ _ hno => key7 b hno) (fun b h _ => by have h : (w6.setCell ⟨B, 3, none⟩ (.slice a6 n6 c6)).heap.size ≤ b := h; simp at h; omega)
   have g4 : CelsR true Y (fun b => w2.heap.size ≤ b) (.slice a7 n7 c7) ({ l with kind := 0, cells := [] } : Lin).cells := by
    rw [show l.cells.drop p = [] from List.drop_of_length_le (by omega)] at g4'
    exact g4'
   have HG := Lib.hid (And.intro g1 (And.intro g2 (And.intro g3 g4)))
   have HYB := Lib.hid (hx2.trans (hYB.mono hsx2))
   obtain ⟨v1, f1⟩ := blk e1
   obtain ⟨v2, f2⟩ := blk e2
   obtain ⟨v3, f3⟩ := blk e3
   obtain ⟨v4, f4⟩ := blk e4
   clear hY hYK hYB k6 key6 key6b key7 g1 g2 g3 g4 g4' hA6 hA7 hl' r5 s5 r6 s6 r7 s7 t5 x5 t6 x6 t7 x7 y5 z5 y6 z6 y7 z7 m6B m6C m6l m7B m7C m7l
   go_region_held3 (fun w' => w'.cell? ⟨B, 0, none⟩ = some (.int .i64 l.quote) ∧ w'.cell? ⟨B, 1, none⟩ = some (.slice a1 l.lists.length c1) ∧ w'.cell? ⟨B, 2, none⟩ = some (.int .i64 l.kind) ∧ w'.cell? ⟨B, 3, none⟩ = some (.slice a6 n6 c6) ∧ w'.cell? ⟨C, 0, none⟩ = some (.int .i64 l.quote) ∧ w'.cell? ⟨C, 1, none⟩ = some (.slice a3 l.lists.length c3) ∧ w'.cell? ⟨C, 2, none⟩ = some (.int .i64 0) ∧ w'.cell? ⟨C, 3, none⟩ = some (.slice a7 n7 c7)) (go_keep) (fail)
   go_wp2_with fail
   refine bodyPost_ret (results_lines2 rfl _ _ (w.heap.size + 1) (w.heap.size + 1 + 1) (.int .i64 l.quote) (.slice a1 l.lists.length c1) (.int .i64 l.kind) (.slice a6 n6 c6) (.int .i64 l.quote) (.slice a3 l.lists.length c3) (.int .i64 0) (.slice a7 n7 c7) rfl rfl ?_ ?_) rfl ?_
   ·simp [drew_heap, heap_set, putIn, e3]
   ·simp [drew_heap, heap_set, putIn, e4]
   rw [HSP.out]
   have g1 := HG.out.1
   have g2 := HG.out.2.1
   have g3 := HG.out.2.2.1
   have g4 := HG.out.2.2.2
   have hYB := HYB.out
   exact ⟨_, _, _, _, rfl, (SliceR.stable (rdOf_stable _) g1 (by (repeat' (first | (with_reducible exact Keeps.refl _ _) | (with_reducible refine Keeps.set ?_ ?_ _) | (with_reducible refine Keeps.alloc ?_ _) | (with_reducible refine Keeps.drew ?_) | (first | fail) | (simp; omega)))) (fun b h _ => (by have h' := h; (try simp at h'); omega))), (SliceR.stable (rdOf_stable _) g2 (by (repeat' (first | (with_reducible exact Keeps.refl _ _) | (with_reducible refine Keeps.set ?_ ?_ _) | (with_reducible refine Keeps.alloc ?_ _) | (with_reducible refine Keeps.drew ?_) | (first | fail) | (simp; omega)))) (fun b h _ => (by have h' := h; (try simp at h'); omega))), (SliceR.stable (rdOf_stable _) g3 (by (repeat' (first | (with_reducible exact Keeps.refl _ _) | (with_reducible refine Keeps.set ?_ ?_ _) | (with_reducible refine Keeps.alloc ?_ _) | (with_reducible refine Keeps.drew ?_) | (first | fail) | (simp; omega)))) (fun b h _ => (by have h' := h; (try simp at h'); omega))), (SliceR.stable (rdOf_stable _) g4 (by (repeat' (first | (with_reducible exact Keeps.refl _ _) | (with_reducible refine Keeps.set ?_ ?_ _) | (with_reducible refine Keeps.alloc ?_ _) | (with_reducible refine Keeps.drew ?_) | (first | fail) | (simp; omega)))) (fun b h _ => (by have h' := h; (try simp at h'); omega))), by (repeat' (first | (with_reducible exact Below.refl _ _) | (with_reducible assumption) | (with_reducible refine Below.alloc ?_ ?_ _) | (with_reducible refine Below.drew ?_) | (with_reducible refine drewN_below ?_) | (with_reducible refine Below.setCell ?_ ?_ _) | go_size))⟩
  ·subst hXe
   clear hcq
   have hq : ((p : Int) == (l.cells.length : Int)) = false := by simp; omega
   have hsp : splitL l p = ({ l with cells := l.cells.take p }, { l with cells := l.cells.drop p }) := by unfold splitL; rw [if_neg (by omega)]
   have HSP := Lib.hid hsp
   clear hsp
   go_wp2_with (first
    | (go_at_call 183; refine (HW1.out _ hx').mono ?_; rintro e w6 ⟨v6, rfl, hv6, hb6⟩; obtain ⟨a6, n6, c6, hv6e⟩ := slice_any hv6; subst hv6e; have HV6 := Lib.hid hv6; have m6B := heap_below hb6 hA6; have m6C := heap_below hb6 hA7; have m6l := heap_below hb6 hl'; obtain ⟨t6, x6⟩ := blk m6B; obtain ⟨t7, x7⟩ := blk m6C; obtain ⟨t5, x5⟩ := blk m6l; have hx6 := below_from hx' hb6; have hy6 := below_from hb3 hb6; have HU6 : Hid (∀ u, Below w.heap.size w (w6.setCell ⟨B, 3, none⟩ u) ∧ Below w2.heap.size w2 (w6.setCell ⟨B, 3, none⟩ u)) := Lib.hid fun u => ⟨hx6.setCell (Nat.le_trans hsx2 hB2) _, hy6.setCell hB2 _⟩; have HM6 : Hid (∀ u, (w6.setCell ⟨B, 3, none⟩ u).heap[B]? = some (.cells #[.int .i64 l.quote, .slice a1 l.lists.length c1, .int .i64 l.kind, u] 42) ∧ (w6.setCell ⟨B, 3, none⟩ u).heap[C]? = some (.cells #[.int .i64 l.quote, .slice a3 l.lists.length c3, .int .i64 l.kind, .slice none 0 0] 42) ∧ (w6.setCell ⟨B, 3, none⟩ u).heap[w.heap.size]? = some (.cells #[.int .i64 l.quote, .slice la l.lists.length lc, .int .i64 l.kind, .slice ca l.cells.length cc] 42)) := Lib.hid fun u => ⟨by rw [heap_set, if_pos rfl, m6B]; rfl, by rw [heap_set, if_neg hne1]; exact m6C, by rw [heap_set, if_neg nB]; exact m6l⟩; clear hv6)
    | (go_at_call 183; refine (HW2.out _ (HU6.out _).1).mono ?_; rintro e w7 ⟨v7, rfl, hv7, hb7⟩; obtain ⟨a7, n7, c7, hv7e⟩ := slice_any hv7; subst hv7e; have HV7 := Lib.hid hv7; have m7B := heap_below hb7 (HM6.out _).1; have m7C := heap_below hb7 (HM6.out _).2.1; have m7l := heap_below hb7 (HM6.out _).2.2; obtain ⟨y6, z6⟩ := blk m7B; obtain ⟨y7, z7⟩ := blk m7C; obtain ⟨y5, z5⟩ := blk m7l; have HY7 := Lib.hid (below_from (HU6.out _).2 hb7); clear hv7))
   with_reducible refine wp_named ?_
   intro Y hY
   have e1 : Y.heap[B]? = some (.cells #[.int .i64 l.quote, .slice a1 l.lists.length c1, .int .i64 l.kind, .slice a6 n6 c6] 42) := by rw [← hY]; simp [heap_set, hne2, m7B]
   have e2 : Y.heap[C]? = some (.cells #[.int .i64 l.quote, .slice a3 l.lists.length c3, (.int .i64 l.kind), .slice a7 n7 c7] 42) := by rw [← hY]; simp [heap_set, putIn, m7C]
   have hYK : ∀ b, b ≠ C → Y.heap[b]? = w7.heap[b]? := fun b h1 => by rw [← hY]; simp [heap_set, Ne.symm h1]
   have hYZ : Y.heap.size = w7.heap.size := by rw [← hY]; simp
   have hYB : Below w2.heap.size w2 Y := by
    have hq1 := HY7.out
    rw [← hY]
    (repeat' (first | (with_reducible exact Below.refl _ _) | (with_reducible assumption) | (with_reducible refine Below.alloc ?_ ?_ _) | (with_reducible refine Below.drew ?_) | (with_reducible refine drewN_below ?_) | (with_reducible refine Below.setCell ?_ ?_ _) | go_size))
   have e3 : Y.heap[w.heap.size + 1]? = some (Obj.cells #[.int .i64 0, .slice none 0 0, .int .i64 0, .slice none 0 0] 42) := heap_below hYB HA45.out.1
   have e4 : Y.heap[w.heap.size + 2]? = some (Obj.cells #[.int .i64 0, .slice none 0 0, .int .i64 0, .slice none 0 0] 42) := heap_below hYB HA45.out.2
   have hz6 := hb6.size
   have hz7 : w6.heap.size ≤ w7.heap.size := by have := hb7.size; simpa using this
   have k6 : ∀ b, b ≠ B → b ≠ C → b < w6.heap.size → Y.heap[b]? = w6.heap[b]? := fun b h1 h2 hz => (hYK b h2).trans ((hb7.block b (by simpa using hz)).trans (by rw [heap_set, if_neg (Ne.symm h1)]))
   have key6 : ∀ b, b < w'.heap.size → (∀ cs, w'.heap[b]? ≠ some (.cells cs 42)) → Y.heap[b]? = w'.heap[b]? := fun b hz hno => (k6 b (fun e => by subst e; exact hno _ hA6) (fun e => by subst e; exact hno _ hA7) (by omega)).trans (hb6.block b hz)
   have key6b : ∀ b, b < w6.heap.size → (∀ cs, w6.heap[b]? ≠ some (.cells cs 42)) → Y.heap[b]? = w6.heap[b]? := fun b hz hno => k6 b (fun e => by subst e; exact hno _ m6B) (fun e => by subst e; exact hno _ m6C) hz
   have key7 : ∀ b : Nat, (∀ cs, w7.heap[b]? ≠ some (.cells cs 42)) → Y.heap[b]? = w7.heap[b]? := fun b hno => hYK b (fun e => by subst e; exact hno _ m7C)
   have g1 : IntsR true Y (fun b => w2.heap.size ≤ b) (.slice a1 l.lists.length c1) l.lists := SliceR.tagged (tagged_of _ _) (by decide) HI.out.1 (by omega) (fun b _ hz hno => key6 b hz hno) (fun b h _ => h)
   have g3 : IntsR true Y (fun b => w2.heap.size ≤ b) (.slice a3 l.lists.length c3) l.lists := SliceR.tagged (tagged_of _ _) (by decide) HI.out.2 (by omega) (fun b _ hz hno => key6 b hz hno) (fun b h _ => h)
   have g2 : CelsR true Y (fun b => w2.heap.size ≤ b) (.slice a6 n6 c6) (l.cells.take p) := SliceR.tagged (tagged_of _ _) (by decide) HV6.out (by omega) (fun b _ hz hno => key6b b hz hno) (fun b h _ => by have h : w'.heap.size ≤ b := h; omega)
   have g4' : CelsR true Y (fun b => w2.heap.size ≤ b) (.slice a7 n7 c7) (l.cells.drop p) := SliceR.tagged (tagged_of _ _) (by decide) HV7.out (by omega) (fun b _ _ hno => key7 b hno) (fun b h _ => by have h : (w6.setCell ⟨B, 3, none⟩ (.slice a6 n6 c6)).heap.size ≤ b := h; simp at h; omega)
   have g4 : CelsR true Y (fun b => w2.heap.size ≤ b) (.slice a7 n7 c7) ({ l with cells := l.cells.drop p } : Lin).cells := g4'
   have HG := Lib.hid (And.intro g1 (And.intro g2 (And.intro g3 g4)))
   have HYB := Lib.hid (hx2.trans (hYB.mono hsx2))
   obtain ⟨v1, f1⟩ := blk e1
   obtain ⟨v2, f2⟩ := blk e2
   obtain ⟨v3, f3⟩ := blk e3
   obtain ⟨v4, f4⟩ := blk e4
   clear hY hYK hYB k6 key6 key6b key7 g1 g2 g3 g4 g4' hA6 hA7 hl' r5 s5 r6 s6 r7 s7 t5 x5 t6 x6 t7 x7 y5 z5 y6 z6 y7 z7 m6B m6C m6l m7B m7C m7l
   go_region_held3 (fun w' => w'.cell? ⟨B, 0, none⟩ = some (.int .i64 l.quote) ∧ w'.cell? ⟨B, 1, none⟩ = some (.slice a1 l.lists.length c1) ∧ w'.cell? ⟨B, 2, none⟩ = some (.int .i64 l.kind) ∧ w'.cell? ⟨B, 3, none⟩ = some (.slice a6 n6 c6) ∧ w'.cell? ⟨C, 0, none⟩ = some (.int .i64 l.quote) ∧ w'.cell? ⟨C, 1, none⟩ = some (.slice a3 l.lists.length c3) ∧ w'.cell? ⟨C, 2, none⟩ = some (.int .i64 l.kind) ∧ w'.cell? ⟨C, 3, none⟩ = some (.slice a7 n7 c7)) (go_keep) (fail)
   go_wp2_with fail
   refine bodyPost_ret (results_lines2 rfl _ _ (w.heap.size + 1) (w.heap.size + 1 + 1) (.int .i64 l.quote) (.slice a1 l.lists.length c1) (.int .i64 l.kind) (.slice a6 n6 c6) (.int .i64 l.quote) (.slice a3 l.lists.length c3) (.int .i64 l.kind) (.slice a7 n7 c7) rfl rfl ?_ ?_) rfl ?_
   ·simp [drew_heap, heap_set, putIn, e3]
   ·simp [drew_heap, heap_set, putIn, e4]
   rw [HSP.out]
   have g1 := HG.out.1
   have g2 := HG.out.2.1
   have g3 := HG.out.2.2.1
   have g4 := HG.out.2.2.2
   have hYB := HYB.out
   exact ⟨_, _, _, _, rfl, (SliceR.stable (rdOf_stable _) g1 (by (repeat' (first | (with_reducible exact Keeps.refl _ _) | (with_reducible refine Keeps.set ?_ ?_ _) | (with_reducible refine Keeps.alloc ?_ _) | (with_reducible refine Keeps.drew ?_) | (first | fail) | (simp; omega)))) (fun b h _ => (by have h' := h; (try simp at h'); omega))), (SliceR.stable (rdOf_stable _) g2 (by (repeat' (first | (with_reducible exact Keeps.refl _ _) | (with_reducible refine Keeps.set ?_ ?_ _) | (with_reducible refine Keeps.alloc ?_ _) | (with_reducible refine Keeps.drew ?_) | (first | fail) | (simp; omega)))) (fun b h _ => (by have h' := h; (try simp at h'); omega))), (SliceR.stable (rdOf_stable _) g3 (by (repeat' (first | (with_reducible exact Keeps.refl _ _) | (with_reducible refine Keeps.set ?_ ?_ _) | (with_reducible refine Keeps.alloc ?_ _) | (with_reducible refine Keeps.drew ?_) | (first | fail) | (simp; omega)))) (fun b h _ => (by have h' := h; (try simp at h'); omega))), (SliceR.stable (rdOf_stable _) g4 (by (repeat' (first | (with_reducible exact Keeps.refl _ _) | (with_reducible refine Keeps.set ?_ ?_ _) | (with_reducible refine Keeps.alloc ?_ _) | (with_reducible refine Keeps.drew ?_) | (first | fail) | (simp; omega)))) (fun b h _ => (by have h' := h; (try simp at h'); omega))), by (repeat' (first | (with_reducible exact Below.refl _ _) | (with_reducible assumption) | (with_reducible refine Below.alloc ?_ ?_ _) | (with_reducible refine Below.drew ?_) | (with_reducible refine drewN_below ?_) | (with_reducible refine Below.setCell ?_ ?_ _) | go_size))⟩
 have HS3 : Hid (∀ X Y : World, Below w2.heap.size w2 X → Y.heap[w.heap.size]? = X.heap[w.heap.size]? → (fun w' => w'.cell? ⟨w.heap.size, 0, none⟩ = some (.int .i64 l.quote) ∧ w'.cell? ⟨w.heap.size, 1, none⟩ = some (.slice la l.lists.length lc) ∧ w'.cell? ⟨w.heap.size, 2, none⟩ = some (.int .i64 l.kind) ∧ w'.cell? ⟨w.heap.size, 3, none⟩ = some (.slice ca l.cells.length cc)) Y) := Lib.hid fun X Y hX hY => (fun q => ⟨q 0, q 1, q 2, q 3⟩) (blk (hY.trans (HB2.out X hX))).1
 have HS2 : Hid (∀ X : World, Below w2.heap.size w2 X → (fun w' => w'.cell? ⟨w.heap.size, 0, none⟩ = some (.int .i64 l.quote) ∧ w'.cell? ⟨w.heap.size, 1, none⟩ = some (.slice la l.lists.length lc) ∧ w'.cell? ⟨w.heap.size, 2, none⟩ = some (.int .i64 l.kind) ∧ w'.cell? ⟨w.heap.size, 3, none⟩ = some (.slice ca l.cells.length cc)) X) := Lib.hid fun X hX => HS3.out X X hX rfl
 clear q0 g0
 have hB0 : Below w2.heap.size w2 w2.drew := hy2.drew
 refine wp_region_held_drew (S := (fun w' => w'.cell? ⟨w.heap.size, 0, none⟩ = some (.int .i64 l.quote) ∧ w'.cell? ⟨w.heap.size, 1, none⟩ = some (.slice la l.lists.length lc) ∧ w'.cell? ⟨w.heap.size, 2, none⟩ = some (.int .i64 l.kind) ∧ w'.cell? ⟨w.heap.size, 3, none⟩ = some (.slice ca l.cells.length cc))) (by kernel_rfl) (HS2.out _ hB0) (fun hHeld => ?_)
 obtain ⟨X0, hX0⟩ : ∃ X, w2.drew = X := ⟨_, rfl⟩
 rw [hX0] at hB0 hHeld ⊢
 have N0 := Lib.hid hB0
 clear hX0 hB0
 refine wpAnyH_take (i := 0) (v := ?_) (by simp only [qA, qZ]; rfl) (by kernel_rfl) (by kernel_rfl) (by kernel_rfl) (fun _ _ _ h => h) (Or.inl ⟨by rfl, ?_⟩) (by assumption) ?_
 rotate_left 1
 ·intro w hSw; (try dsimp only at hSw); go_simp; (first | done | with_reducible rfl)
 try simp only [Act.put, qI, qX, qY]
 refine wpAnyH_take (i := 2) (v := ?_) (by simp only [qA, qS, qZ]; rfl) (by kernel_rfl) (by kernel_rfl) (by kernel_rfl) (fun _ _ _ h => h) (Or.inl ⟨by rfl, ?_⟩) (by assumption) ?_
 rotate_left 1
 ·intro w hSw; (try dsimp only at hSw); go_simp; (first | done | with_reducible rfl)
 try simp only [Act.put, qI, qX, qY]
 refine wpAnyH_ready (rs := [1, 4, 5]) (by kernel_rfl) (by simp) ?_
 refine AllReadyH.cons (by simp only [qA, qS, qZ]; rfl) (fun K hK => ?_) ?_
 ·go_simp
  refine (HF.out _ (hx2.trans (N0.out.mono hsx2))).mono ?_
  rintro e X1 ⟨a'', rfl, ha, hst1⟩
  obtain ⟨a1, c1, rfl⟩ := ha.slice
  have hu := N0.out.size
  have t1_0 := below_from N0.out hst1
  have t1_1 := SliceR.stable (rdOf_stable _) ha (Keeps.refl _ _) (S' := fun b => w2.heap.size ≤ b) (fun b h _ => Nat.le_trans hu h)
  have N1 := Lib.hid (And.intro t1_0 (t1_1))
  refine hK.out _ _ (HS2.out _ N1.out.1) (fun hHeld1 => ?_)
  clear hK K t1_0 t1_1 hHeld N0 hst1
  try simp only [Act.put, qI, qX, qY]
  clear ha hu
  refine wpAnyH_ready (rs := [3, 4, 5]) (by kernel_rfl) (by simp) ?_
  refine AllReadyH.cons (by simp only [qA, qS, qZ]; rfl) (fun K hK => ?_) ?_
  ·go_simp
   refine (HF.out _ (hx2.trans (N1.out.1.mono hsx2))).mono ?_
   rintro e X2 ⟨a'', rfl, hc, hst2⟩
   obtain ⟨a3, c3, rfl⟩ := hc.slice
   have hu := N1.out.1.size
   have t2_0 := below_from N1.out.1 hst2
   have t2_1 := SliceR.below (rdOf_stable _) N1.out.2 hst2
   have t2_2 := SliceR.stable (rdOf_stable _) hc (Keeps.refl _ _) (S' := fun b => w2.heap.size ≤ b) (fun b h _ => Nat.le_trans hu h)
   have N2 := Lib.hid (And.intro t2_0 (And.intro t2_1 (t2_2)))
   refine hK.out _ _ (HS2.out _ N2.out.1) (fun hHeld2 => ?_)
   clear hK K t2_0 t2_1 t2_2 hHeld1 N1 hst2
   try simp only [Act.put, qI, qX, qY]
   clear hc hu
   refine wpAnyH_ready (rs := [4, 5]) (by kernel_rfl) (by simp) ?_
   refine AllReadyH.cons (by simp only [qA, qS, qZ]; rfl) (fun K hK => ?_) ?_
   ·go_simp
    obtain ⟨X3, hX3⟩ : ∃ X, X2.alloc (.cells #[.int .i64 0, .slice none 0 0, .int .i64 0, .slice none 0 0] 42) = X := ⟨_, rfl⟩
    rw [hX3]
    have hst3 : Below X2.heap.size X2 X3 := hX3 ▸ (Below.refl _ _).alloc (Nat.le_refl _) _
    have z3 : X3.heap[X2.heap.size]? = some (.cells #[.int .i64 0, .slice none 0 0, .int .i64 0, .slice none 0 0] 42) := hX3 ▸ heap_new _ _ rfl
    clear hX3
    have t3_0 := below_from N2.out.1 hst3
    have t3_1 := SliceR.below (rdOf_stable _) N2.out.2.1 hst3
    have t3_2 := SliceR.below (rdOf_stable _) N2.out.2.2 hst3
    have t3_3 := z3
    have t3_4 := N2.out.1.size
    have N3 := Lib.hid (And.intro t3_0 (And.intro t3_1 (And.intro t3_2 (And.intro t3_3 (t3_4)))))
    refine hK.out _ _ (HS2.out _ N3.out.1) (fun hHeld3 => ?_)
    clear hK K t3_0 t3_1 t3_2 t3_3 t3_4 hHeld2 N2 hst3
    try simp only [Act.put, qI, qX, qY]
    clear z3
    refine wpAnyH_ready (rs := [5]) (by kernel_rfl) (by simp) ?_
    refine AllReadyH.cons (by simp only [qA, qS, qZ]; rfl) (fun K hK => ?_) ?_
    ·go_simp
     obtain ⟨X4, hX4⟩ : ∃ X, X3.alloc (.cells #[.int .i64 0, .slice none 0 0, .int .i64 0, .slice none 0 0] 42) = X := ⟨_, rfl⟩
     rw [hX4]
     have hst4 : Below X3.heap.size X3 X4 := hX4 ▸ (Below.refl _ _).alloc (Nat.le_refl _) _
     have z4 : X4.heap[X3.heap.size]? = some (.cells #[.int .i64 0, .slice none 0 0, .int .i64 0, .slice none 0 0] 42) := hX4 ▸ heap_new _ _ rfl
     clear hX4
     have t4_0 := below_from N3.out.1 hst4
     have t4_1 := SliceR.below (rdOf_stable _) N3.out.2.1 hst4
     have t4_2 := SliceR.below (rdOf_stable _) N3.out.2.2.1 hst4
     have t4_3 := heap_below hst4 N3.out.2.2.2.1
     have t4_4 := N3.out.2.2.2.2
     have t4_5 := z4
     have t4_6 := N3.out.1.size
     have t4_7 := (Array.getElem?_eq_some_iff.1 N3.out.2.2.2.1).1
     have N4 := Lib.hid (And.intro t4_0 (And.intro t4_1 (And.intro t4_2 (And.intro t4_3 (And.intro t4_4 (And.intro t4_5 (And.intro t4_6 (t4_7))))))))
     refine hK.out _ _ (HS2.out _ N4.out.1) (fun hHeld4 => ?_)
     clear hK K t4_0 t4_1 t4_2 t4_3 t4_4 t4_5 t4_6 t4_7 hHeld3 N3 hst4
     try simp only [Act.put, qI, qX, qY]
     clear z4
     have z4 := N4.out.2.2.2.1
     have z5 := N4.out.2.2.2.2.2.1
     have eB := N4.out.2.2.2.2.1
     have eC := N4.out.2.2.2.2.2.2.1
     have nBC : ¬ X2.heap.size = X3.heap.size := by have := N4.out.2.2.2.2.2.2.2; omega
     have nCB : ¬ X3.heap.size = X2.heap.size := fun e => nBC e.symm
     have mB : ¬ X2.heap.size = w.heap.size := by omega
     have mC : ¬ X3.heap.size = w.heap.size := by omega
     obtain ⟨c4, f4⟩ := blk z4
     refine wpAnyH_ready (rs := [6]) (by kernel_rfl) (by simp) ?_
     refine AllReadyH.cons (by simp only [qA, qS, qZ]; rfl) (fun K hK => ?_) AllReadyH.nil
     go_simp
     obtain ⟨Y6, hY6, y6B, y6z, y6k, y6b⟩ := set_four X4 (X2.heap.size) 42 (.int .i64 0) (.slice none 0 0) (.int .i64 0) (.slice none 0 0) (.int .i64 l.quote) (.slice a1 l.lists.length c1) (.int .i64 l.kind) (.slice none 0 0) z4
     rw [hY6]
     have z5y := (y6k _ nCB).trans z5
     refine hK.out _ _ (HS3.out X4 Y6 N4.out.1 (y6k _ (fun e => mB e.symm))) (fun hHeld => ?_)
     have Z6 := Lib.hid (And.intro y6B (And.intro y6k y6b))
     obtain ⟨c5, f5⟩ := blk z5y
     clear hK K hY6 c4 f4 y6B y6k y6b
     try simp only [Act.put, qI, qX, qY]
     refine wpAnyH_ready (rs := [7]) (by kernel_rfl) (by simp) ?_
     refine AllReadyH.cons (by simp only [qA, qS, qZ]; rfl) (fun K hK => ?_) AllReadyH.nil
     go_simp
     obtain ⟨Y7, hY7, y7B, y7z, y7k, y7b⟩ := set_four Y6 (X3.heap.size) 42 (.int .i64 0) (.slice none 0 0) (.int .i64 0) (.slice none 0 0) (.int .i64 l.quote) (.slice a3 l.lists.length c3) (.int .i64 l.kind) (.slice none 0 0) z5y
     rw [hY7]
     refine hK.out _ _ (HS3.out X4 Y7 N4.out.1 ((y7k _ (fun e => mC e.symm)).trans (Z6.out.2.1 _ (fun e => mB e.symm)))) (fun hHeld => ?_)
     refine wpAnyH_done (by kernel_rfl) ?_ _
     have key : ∀ b : Nat, (∀ cs, X4.heap[b]? ≠ some (.cells cs 42)) → Y7.heap[b]? = X4.heap[b]? := fun b hno => (y7k b (fun e => by subst e; exact hno _ z5)).trans (Z6.out.2.1 b (fun e => by subst e; exact hno _ z4))
     exact ⟨X2.heap.size, X3.heap.size, a1, c1, a3, c3, _, _, _, _, _, _, _, _, _, _, _, _, _, _, _, _, _, _, _, _, _, _, _, _, _, _, _, _, _, _, _, _, _, _, _, _, _, _, _, _, rfl, eB, eC, nBC, (y7k _ nBC).trans Z6.out.1, y7B, SliceR.tagged (tagged_of _ _) (by decide) N4.out.2.1 (by omega) (fun b _ _ hno => key b hno) (fun b h _ => h), SliceR.tagged (tagged_of _ _) (by decide) N4.out.2.2.1 (by omega) (fun b _ _ hno => key b hno) (fun b h _ => h), y7b _ eC _ (Z6.out.2.2 _ eB _ N4.out.1)⟩
    exact AllReadyH.nil
   refine AllReadyH.cons (by simp only [qA, qS, qZ]; rfl) (fun K hK => ?_) ?_
   ·go_simp
    obtain ⟨X3, hX3⟩ : ∃ X, X2.alloc (.cells #[.int .i64 0, .slice none 0 0, .int .i64 0, .slice none 0 0] 42) = X := ⟨_, rfl⟩
    rw [hX3]
    have hst3 : Below X2.heap.size X2 X3 := hX3 ▸ (Below.refl _ _).alloc (Nat.le_refl _) _
    have z3 : X3.heap[X2.heap.size]? = some (.cells #[.int .i64 0, .slice none 0 0, .int .i64 0, .slice none 0 0] 42) := hX3 ▸ heap_new _ _ rfl
    clear hX3
    have t3_0 := below_from N2.out.1 hst3
    have t3_1 := SliceR.below (rdOf_stable _) N2.out.2.1 hst3
    have t3_2 := SliceR.below (rdOf_stable _) N2.out.2.2 hst3
    have t3_3 := z3
    have t3_4 := N2.out.1.size
    have N3 := Lib.hid (And.intro t3_0 (And.intro t3_1 (And.intro t3_2 (And.intro t3_3 (t3_4)))))
    refine hK.out _ _ (HS2.out _ N3.out.1) (fun hHeld3 => ?_)
    clear hK K t3_0 t3_1 t3_2 t3_3 t3_4 hHeld2 N2 hst3
    try simp only [Act.put, qI, qX, qY]
    clear z3
    refine wpAnyH_ready (rs := [4]) (by kernel_rfl) (by simp) ?_
    refine AllReadyH.cons (by simp only [qA, qS, qZ]; rfl) (fun K hK => ?_) ?_
    ·go_simp
     obtain ⟨X4, hX4⟩ : ∃ X, X3.alloc (.cells #[.int .i64 0, .slice none 0 0, .int .i64 0, .slice none 0 0] 42) = X := ⟨_, rfl⟩
     rw [hX4]
     have hst4 : Below X3.heap.size X3 X4 := hX4 ▸ (Below.refl _ _).alloc (Nat.le_refl _) _
     have z4 : X4.heap[X3.heap.size]? = some (.cells #[.int .i64 0, .slice none 0 0, .int .i64 0, .slice none 0 0] 42) := hX4 ▸ heap_new _ _ rfl
     clear hX4
     have t4_0 := below_from N3.out.1 hst4
     have t4_1 := SliceR.below (rdOf_stable _) N3.out.2.1 hst4
     have t4_2 := SliceR.below (rdOf_stable _) N3.out.2.2.1 hst4
     have t4_3 := heap_below hst4 N3.out.2.2.2.1
     have t4_4 := N3.out.2.2.2.2
     have t4_5 := z4
     have t4_6 := N3.out.1.size
     have t4_7 := (Array.getElem?_eq_some_iff.1 N3.out.2.2.2.1).1
     have N4 := Lib.hid (And.intro t4_0 (And.intro t4_1 (And.intro t4_2 (And.intro t4_3 (And.intro t4_4 (And.intro t4_5 (And.intro t4_6 (t4_7))))))))
     refine hK.out _ _ (HS2.out _ N4.out.1) (fun hHeld4 => ?_)
     clear hK K t4_0 t4_1 t4_2 t4_3 t4_4 t4_5 t4_6 t4_7 hHeld3 N3 hst4
     try simp only [Act.put, qI, qX, qY]
     clear z4
     have z4 := N4.out.2.2.2.2.2.1
     have z5 := N4.out.2.2.2.1
     have eB := N4.out.2.2.2.2.2.2.1
     have eC := N4.out.2.2.2.2.1
     have nBC : ¬ X3.heap.size = X2.heap.size := by have := N4.out.2.2.2.2.2.2.2; omega
     have nCB : ¬ X2.heap.size = X3.heap.size := fun e => nBC e.symm
     have mB : ¬ X3.heap.size = w.heap.size := by omega
     have mC : ¬ X2.heap.size = w.heap.size := by omega
     obtain ⟨c4, f4⟩ := blk z4
     refine wpAnyH_ready (rs := [6]) (by kernel_rfl) (by simp) ?_
     refine AllReadyH.cons (by simp only [qA, qS, qZ]; rfl) (fun K hK => ?_) AllReadyH.nil
     go_simp
     obtain ⟨Y6, hY6, y6B, y6z, y6k, y6b⟩ := set_four X4 (X3.heap.size) 42 (.int .i64 0) (.slice none 0 0) (.int .i64 0) (.slice none 0 0) (.int .i64 l.quote) (.slice a1 l.lists.length c1) (.int .i64 l.kind) (.slice none 0 0) z4
     rw [hY6]
     have z5y := (y6k _ nCB).trans z5
     refine hK.out _ _ (HS3.out X4 Y6 N4.out.1 (y6k _ (fun e => mB e.symm))) (fun hHeld => ?_)
     have Z6 := Lib.hid (And.intro y6B (And.intro y6k y6b))
     obtain ⟨c5, f5⟩ := blk z5y
     clear hK K hY6 c4 f4 y6B y6k y6b
     try simp only [Act.put, qI, qX, qY]
     refine wpAnyH_ready (rs := [7]) (by kernel_rfl) (by simp) ?_
     refine AllReadyH.cons (by simp only [qA, qS, qZ]; rfl) (fun K hK => ?_) AllReadyH.nil
     go_simp
     obtain ⟨Y7, hY7, y7B, y7z, y7k, y7b⟩ := set_four Y6 (X2.heap.size) 42 (.int .i64 0) (.slice none 0 0) (.int .i64 0) (.slice none 0 0) (.int .i64 l.quote) (.slice a3 l.lists.length c3) (.int .i64 l.kind) (.slice none 0 0) z5y
     rw [hY7]
     refine hK.out _ _ (HS3.out X4 Y7 N4.out.1 ((y7k _ (fun e => mC e.symm)).trans (Z6.out.2.1 _ (fun e => mB e.symm)))) (fun hHeld => ?_)
     refine wpAnyH_done (by kernel_rfl) ?_ _
     have key : ∀ b : Nat, (∀ cs, X4.heap[b]? ≠ some (.cells cs 42)) → Y7.heap[b]? = X4.heap[b]? := fun b hno => (y7k b (fun e => by subst e; exact hno _ z5)).trans (Z6.out.2.1 b (fun e => by subst e; exact hno _ z4))
     exact ⟨X3.heap.size, X2.heap.size, a1, c1, a3, c3, _, _, _, _, _, _, _, _, _, _, _, _, _, _, _, _, _, _, _, _, _, _, _, _, _, _, _, _, _, _, _, _, _, _, _, _, _, _, _, _, rfl, eB, eC, nBC, (y7k _ nBC).trans Z6.out.1, y7B, SliceR.tagged (tagged_of _ _) (by decide) N4.out.2.1 (by omega) (fun b _ _ hno => key b hno) (fun b h _ => h), SliceR.tagged (tagged_of _ _) (by decide) N4.out.2.2.1 (by omega) (fun b _ _ hno => key b hno) (fun b h _ => h), y7b _ eC _ (Z6.out.2.2 _ eB _ N4.out.1)⟩
    exact AllReadyH.nil
   exact AllReadyH.nil
  refine AllReadyH.cons (by simp only [qA, qS, qZ]; rfl) (fun K hK => ?_) ?_
  ·go_simp
   obtain ⟨X2, hX2⟩ : ∃ X, X1.alloc (.cells #[.int .i64 0, .slice none 0 0, .int .i64 0, .slice none 0 0] 42) = X := ⟨_, rfl⟩
   rw [hX2]
   have hst2 : Below X1.heap.size X1 X2 := hX2 ▸ (Below.refl _ _).alloc (Nat.le_refl _) _
   have z2 : X2.heap[X1.heap.size]? = some (.cells #[.int .i64 0, .slice none 0 0, .int .i64 0, .slice none 0 0] 42) := hX2 ▸ heap_new _ _ rfl
   clear hX2
   have t2_0 := below_from N1.out.1 hst2
   have t2_1 := SliceR.below (rdOf_stable _) N1.out.2 hst2
   have t2_2 := z2
   have t2_3 := N1.out.1.size
   have N2 := Lib.hid (And.intro t2_0 (And.intro t2_1 (And.intro t2_2 (t2_3))))
   refine hK.out _ _ (HS2.out _ N2.out.1) (fun hHeld2 => ?_)
   clear hK K t2_0 t2_1 t2_2 t2_3 hHeld1 N1 hst2
   try simp only [Act.put, qI, qX, qY]
   clear z2
   refine wpAnyH_ready (rs := [3, 5]) (by kernel_rfl) (by simp) ?_
   refine AllReadyH.cons (by simp only [qA, qS, qZ]; rfl) (fun K hK => ?_) ?_
   ·go_simp
    refine (HF.out _ (hx2.trans (N2.out.1.mono hsx2))).mono ?_
    rintro e X3 ⟨a'', rfl, hc, hst3⟩
    obtain ⟨a3, c3, rfl⟩ := hc.slice
    have hu := N2.out.1.size
    have t3_0 := below_from N2.out.1 hst3
    have t3_1 := SliceR.below (rdOf_stable _) N2.out.2.1 hst3
    have t3_2 := heap_below hst3 N2.out.2.2.1
    have t3_3 := N2.out.2.2.2
    have t3_4 := SliceR.stable (rdOf_stable _) hc (Keeps.refl _ _) (S' := fun b => w2.heap.size ≤ b) (fun b h _ => Nat.le_trans hu h)
    have N3 := Lib.hid (And.intro t3_0 (And.intro t3_1 (And.intro t3_2 (And.intro t3_3 (t3_4)))))
    refine hK.out _ _ (HS2.out _ N3.out.1) (fun hHeld3 => ?_)
    clear hK K t3_0 t3_1 t3_2 t3_3 t3_4 hHeld2 N2 hst3
    try simp only [Act.put, qI, qX, qY]
    clear hc hu
    refine wpAnyH_ready (rs := [5]) (by kernel_rfl) (by simp) ?_
    refine AllReadyH.cons (by simp only [qA, qS, qZ]; rfl) (fun K hK => ?_) ?_
    ·go_simp
     obtain ⟨X4, hX4⟩ : ∃ X, X3.alloc (.cells #[.int .i64 0, .slice none 0 0, .int .i64 0, .slice none 0 0] 42) = X := ⟨_, rfl⟩
     rw [hX4]
     have hst4 : Below X3.heap.size X3 X4 := hX4 ▸ (Below.refl _ _).alloc (Nat.le_refl _) _
     have z4 : X4.heap[X3.heap.size]? = some (.cells #[.int .i64 0, .slice none 0 0, .int .i64 0, .slice none 0 0] 42) := hX4 ▸ heap_new _ _ rfl
     clear hX4
     have t4_0 := below_from N3.out.1 hst4
     have t4_1 := SliceR.below (rdOf_stable _) N3.out.2.1 hst4
     have t4_2 := heap_below hst4 N3.out.2.2.1
     have t4_3 := N3.out.2.2.2.1
     have t4_4 := SliceR.below (rdOf_stable _) N3.out.2.2.2.2 hst4
     have t4_5 := z4
     have t4_6 := N3.out.1.size
     have t4_7 := (Array.getElem?_eq_some_iff.1 N3.out.2.2.1).1
     have N4 := Lib.hid (And.intro t4_0 (And.intro t4_1 (And.intro t4_2 (And.intro t4_3 (And.intro t4_4 (And.intro t4_5 (And.intro t4_6 (t4_7))))))))
     refine hK.out _ _ (HS2.out _ N4.out.1) (fun hHeld4 => ?_)
     clear hK K t4_0 t4_1 t4_2 t4_3 t4_4 t4_5 t4_6 t4_7 hHeld3 N3 hst4
     try simp only [Act.put, qI, qX, qY]
     clear z4
     have z4 := N4.out.2.2.1
     have z5 := N4.out.2.2.2.2.2.1
     have eB := N4.out.2.2.2.1
     have eC := N4.out.2.2.2.2.2.2.1
     have nBC : ¬ X1.heap.size = X3.heap.size := by have := N4.out.2.2.2.2.2.2.2; omega
     have nCB : ¬ X3.heap.size = X1.heap.size := fun e => nBC e.symm
     have mB : ¬ X1.heap.size = w.heap.size := by omega
     have mC : ¬ X3.heap.size = w.heap.size := by omega
     obtain ⟨c4, f4⟩ := blk z4
     refine wpAnyH_ready (rs := [6]) (by kernel_rfl) (by simp) ?_
     refine AllReadyH.cons (by simp only [qA, qS, qZ]; rfl) (fun K hK => ?_) AllReadyH.nil
     go_simp
     obtain ⟨Y6, hY6, y6B, y6z, y6k, y6b⟩ := set_four X4 (X1.heap.size) 42 (.int .i64 0) (.slice none 0 0) (.int .i64 0) (.slice none 0 0) (.int .i64 l.quote) (.slice a1 l.lists.length c1) (.int .i64 l.kind) (.slice none 0 0) z4
     rw [hY6]
     have z5y := (y6k _ nCB).trans z5
     refine hK.out _ _ (HS3.out X4 Y6 N4.out.1 (y6k _ (fun e => mB e.symm))) (fun hHeld => ?_)
     have Z6 := Lib.hid (And.intro y6B (And.intro y6k y6b))
     obtain ⟨c5, f5⟩ := blk z5y
     clear hK K hY6 c4 f4 y6B y6k y6b
     try simp only [Act.put, qI, qX, qY]
     refine wpAnyH_ready (rs := [7]) (by kernel_rfl) (by simp) ?_
     refine AllReadyH.cons (by simp only [qA, qS, qZ]; rfl) (fun K hK => ?_) AllReadyH.nil
     go_simp
     obtain ⟨Y7, hY7, y7B, y7z, y7k, y7b⟩ := set_four Y6 (X3.heap.size) 42 (.int .i64 0) (.slice none 0 0) (.int .i64 0) (.slice none 0 0) (.int .i64 l.quote) (.slice a3 l.lists.length c3) (.int .i64 l.kind) (.slice none 0 0) z5y
     rw [hY7]
     refine hK.out _ _ (HS3.out X4 Y7 N4.out.1 ((y7k _ (fun e => mC e.symm)).trans (Z6.out.2.1 _ (fun e => mB e.symm)))) (fun hHeld => ?_)
     refine wpAnyH_done (by kernel_rfl) ?_ _
     have key : ∀ b : Nat, (∀ cs, X4.heap[b]? ≠ some (.cells cs 42)) → Y7.heap[b]? = X4.heap[b]? := fun b hno => (y7k b (fun e => by subst e; exact hno _ z5)).trans (Z6.out.2.1 b (fun e => by subst e; exact hno _ z4))
     exact ⟨X1.heap.size, X3.heap.size, a1, c1, a3, c3, _, _, _, _, _, _, _, _, _, _, _, _, _, _, _, _, _, _, _, _, _, _, _, _, _, _, _, _, _, _, _, _, _, _, _, _, _, _, _, _, rfl, eB, eC, nBC, (y7k _ nBC).trans Z6.out.1, y7B, SliceR.tagged (tagged_of _ _) (by decide) N4.out.2.1 (by omega) (fun b _ _ hno => key b hno) (fun b h _ => h), SliceR.tagged (tagged_of _ _) (by decide) N4.out.2.2.2.2.1 (by omega) (fun b _ _ hno => key b hno) (fun b h _ => h), y7b _ eC _ (Z6.out.2.2 _ eB _ N4.out.1)⟩
    exact AllReadyH.nil
   refine AllReadyH.cons (by simp only [qA, qS, qZ]; rfl) (fun K hK => ?_) ?_
   ·go_simp
    obtain ⟨X3, hX3⟩ : ∃ X, X2.alloc (.cells #[.int .i64 0, .slice none 0 0, .int .i64 0, .slice none 0 0] 42) = X := ⟨_, rfl⟩
    rw [hX3]
    have hst3 : Below X2.heap.size X2 X3 := hX3 ▸ (Below.refl _ _).alloc (Nat.le_refl _) _
    have z3 : X3.heap[X2.heap.size]? = some (.cells #[.int .i64 0, .slice none 0 0, .int .i64 0, .slice none 0 0] 42) := hX3 ▸ heap_new _ _ rfl
    clear hX3
    have t3_0 := below_from N2.out.1 hst3
    have t3_1 := SliceR.below (rdOf_stable _) N2.out.2.1 hst3
    have t3_2 := heap_below hst3 N2.out.2.2.1
    have t3_3 := N2.out.2.2.2
    have t3_4 := z3
    have t3_5 := N2.out.1.size
    have t3_6 := (Array.getElem?_eq_some_iff.1 N2.out.2.2.1).1
    have N3 := Lib.hid (And.intro t3_0 (And.intro t3_1 (And.intro t3_2 (And.intro t3_3 (And.intro t3_4 (And.intro t3_5 (t3_6)))))))
    refine hK.out _ _ (HS2.out _ N3.out.1) (fun hHeld3 => ?_)
    clear hK K t3_0 t3_1 t3_2 t3_3 t3_4 t3_5 t3_6 hHeld2 N2 hst3
    try simp only [Act.put, qI, qX, qY]
    clear z3
    refine wpAnyH_ready (rs := [3]) (by kernel_rfl) (by simp) ?_
    refine AllReadyH.cons (by simp only [qA, qS, qZ]; rfl) (fun K hK => ?_) ?_
    ·go_simp
     refine (HF.out _ (hx2.trans (N3.out.1.mono hsx2))).mono ?_
     rintro e X4 ⟨a'', rfl, hc, hst4⟩
     obtain ⟨a3, c3, rfl⟩ := hc.slice
     have hu := N3.out.1.size
     have t4_0 := below_from N3.out.1 hst4
     have t4_1 := SliceR.below (rdOf_stable _) N3.out.2.1 hst4
     have t4_2 := heap_below hst4 N3.out.2.2.1
     have t4_3 := N3.out.2.2.2.1
     have t4_4 := heap_below hst4 N3.out.2.2.2.2.1
     have t4_5 := N3.out.2.2.2.2.2.1
     have t4_6 := N3.out.2.2.2.2.2.2
     have t4_7 := SliceR.stable (rdOf_stable _) hc (Keeps.refl _ _) (S' := fun b => w2.heap.size ≤ b) (fun b h _ => Nat.le_trans hu h)
     have N4 := Lib.hid (And.intro t4_0 (And.intro t4_1 (And.intro t4_2 (And.intro t4_3 (And.intro t4_4 (And.intro t4_5 (And.intro t4_6 (t4_7))))))))
     refine hK.out _ _ (HS2.out _ N4.out.1) (fun hHeld4 => ?_)
     clear hK K t4_0 t4_1 t4_2 t4_3 t4_4 t4_5 t4_6 t4_7 hHeld3 N3 hst4
     try simp only [Act.put, qI, qX, qY]
     clear hc hu
     have z4 := N4.out.2.2.1
     have z5 := N4.out.2.2.2.2.1
     have eB := N4.out.2.2.2.1
     have eC := N4.out.2.2.2.2.2.1
     have nBC : ¬ X1.heap.size = X2.heap.size := by have := N4.out.2.2.2.2.2.2.1; omega
     have nCB : ¬ X2.heap.size = X1.heap.size := fun e => nBC e.symm
     have mB : ¬ X1.heap.size = w.heap.size := by omega
     have mC : ¬ X2.heap.size = w.heap.size := by omega
     obtain ⟨c4, f4⟩ := blk z4
     refine wpAnyH_ready (rs := [6]) (by kernel_rfl) (by simp) ?_
     refine AllReadyH.cons (by simp only [qA, qS, qZ]; rfl) (fun K hK => ?_) AllReadyH.nil
     go_simp
     obtain ⟨Y6, hY6, y6B, y6z, y6k, y6b⟩ := set_four X4 (X1.heap.size) 42 (.int .i64 0) (.slice none 0 0) (.int .i64 0) (.slice none 0 0) (.int .i64 l.quote) (.slice a1 l.lists.length c1) (.int .i64 l.kind) (.slice none 0 0) z4
     rw [hY6]
     have z5y := (y6k _ nCB).trans z5
     refine hK.out _ _ (HS3.out X4 Y6 N4.out.1 (y6k _ (fun e => mB e.symm))) (fun hHeld => ?_)
     have Z6 := Lib.hid (And.intro y6B (And.intro y6k y6b))
     obtain ⟨c5, f5⟩ := blk z5y
     clear hK K hY6 c4 f4 y6B y6k y6b
     try simp only [Act.put, qI, qX, qY]
     refine wpAnyH_ready (rs := [7]) (by kernel_rfl) (by simp) ?_
     refine AllReadyH.cons (by simp only [qA, qS, qZ]; rfl) (fun K hK => ?_) AllReadyH.nil
     go_simp
     obtain ⟨Y7, hY7, y7B, y7z, y7k, y7b⟩ := set_four Y6 (X2.heap.size) 42 (.int .i64 0) (.slice none 0 0) (.int .i64 0) (.slice none 0 0) (.int .i64 l.quote) (.slice a3 l.lists.length c3) (.int .i64 l.kind) (.slice none 0 0) z5y
     rw [hY7]
     refine hK.out _ _ (HS3.out X4 Y7 N4.out.1 ((y7k _ (fun e => mC e.symm)).trans (Z6.out.2.1 _ (fun e => mB e.symm)))) (fun hHeld => ?_)
     refine wpAnyH_done (by kernel_rfl) ?_ _
     have key : ∀ b : Nat, (∀ cs, X4.heap[b]? ≠ some (.cells cs 42)) → Y7.heap[b]? = X4.heap[b]? := fun b hno => (y7k b (fun e => by subst e; exact hno _ z5)).trans (Z6.out.2.1 b (fun e => by subst e; exact hno _ z4))
     exact ⟨X1.heap.size, X2.heap.size, a1, c1, a3, c3, _, _, _, _, _, _, _, _, _, _, _, _, _, _, _, _, _, _, _, _, _, _, _, _, _, _, _, _, _, _, _, _, _, _, _, _, _, _, _, _, rfl, eB, eC, nBC, (y7k _ nBC).trans Z6.out.1, y7B, SliceR.tagged (tagged_of _ _) (by decide) N4.out.2.1 (by omega) (fun b _ _ hno => key b hno) (fun b h _ => h), SliceR.tagged (tagged_of _ _) (by decide) N4.out.2.2.2.2.2.2.2 (by omega) (fun b _ _ hno => key b hno) (fun b h _ => h), y7b _ eC _ (Z6.out.2.2 _ eB _ N4.out.1)⟩
    exact AllReadyH.nil
   exact AllReadyH.nil
  refine AllReadyH.cons (by simp only [qA, qS, qZ]; rfl) (fun K hK => ?_) ?_
  ·go_simp
   obtain ⟨X2, hX2⟩ : ∃ X, X1.alloc (.cells #[.int .i64 0, .slice none 0 0, .int .i64 0, .slice none 0 0] 42) = X := ⟨_, rfl⟩
   rw [hX2]
   have hst2 : Below X1.heap.size X1 X2 := hX2 ▸ (Below.refl _ _).alloc (Nat.le_refl _) _
   have z2 : X2.heap[X1.heap.size]? = some (.cells #[.int .i64 0, .slice none 0 0, .int .i64 0, .slice none 0 0] 42) := hX2 ▸ heap_new _ _ rfl
   clear hX2
   have t2_0 := below_from N1.out.1 hst2
   have t2_1 := SliceR.below (rdOf_stable _) N1.out.2 hst2
   have t2_2 := z2
   have t2_3 := N1.out.1.size
   have N2 := Lib.hid (And.intro t2_0 (And.intro t2_1 (And.intro t2_2 (t2_3))))
   refine hK.out _ _ (HS2.out _ N2.out.1) (fun hHeld2 => ?_)
   clear hK K t2_0 t2_1 t2_2 t2_3 hHeld1 N1 hst2
   try simp only [Act.put, qI, qX, qY]
   clear z2
   refine wpAnyH_ready (rs := [3, 4]) (by kernel_rfl) (by simp) ?_
   refine AllReadyH.cons (by simp only [qA, qS, qZ]; rfl) (fun K hK => ?_) ?_
   ·go_simp
    refine (HF.out _ (hx2.trans (N2.out.1.mono hsx2))).mono ?_
    rintro e X3 ⟨a'', rfl, hc, hst3⟩
    obtain ⟨a3, c3, rfl⟩ := hc.slice
    have hu := N2.out.1.size
    have t3_0 := below_from N2.out.1 hst3
    have t3_1 := SliceR.below (rdOf_stable _) N2.out.2.1 hst3
    have t3_2 := heap_below hst3 N2.out.2.2.1
    have t3_3 := N2.out.2.2.2
    have t3_4 := SliceR.stable (rdOf_stable _) hc (Keeps.refl _ _) (S' := fun b => w2.heap.size ≤ b) (fun b h _ => Nat.le_trans hu h)
    have N3 := Lib.hid (And.intro t3_0 (And.intro t3_1 (And.intro t3_2 (And.intro t3_3 (t3_4)))))
    refine hK.out _ _ (HS2.out _ N3.out.1) (fun hHeld3 => ?_)
    clear hK K t3_0 t3_1 t3_2 t3_3 t3_4 hHeld2 N2 hst3
    try simp only [Act.put, qI, qX, qY]
    clear hc hu
    refine wpAnyH_ready (rs := [4]) (by kernel_rfl) (by simp) ?_
    refine AllReadyH.cons (by simp only [qA, qS, qZ]; rfl) (fun K hK => ?_) ?_
    ·go_simp
     obtain ⟨X4, hX4⟩ : ∃ X, X3.alloc (.cells #[.int .i64 0, .slice none 0 0, .int .i64 0, .slice none 0 0] 42) = X := ⟨_, rfl⟩
     rw [hX4]
     have hst4 : Below X3.heap.size X3 X4 := hX4 ▸ (Below.refl _ _).alloc (Nat.le_refl _) _
     have z4 : X4.heap[X3.heap.size]? = some (.cells #[.int .i64 0, .slice none 0 0, .int .i64 0, .slice none 0 0] 42) := hX4 ▸ heap_new _ _ rfl
     clear hX4
     have t4_0 := below_from N3.out.1 hst4
     have t4_1 := SliceR.below (rdOf_stable _) N3.out.2.1 hst4
     have t4_2 := heap_below hst4 N3.out.2.2.1
     have t4_3 := N3.out.2.2.2.1
     have t4_4 := SliceR.below (rdOf_stable _) N3.out.2.2.2.2 hst4
     have t4_5 := z4
     have t4_6 := N3.out.1.size
     have t4_7 := (Array.getElem?_eq_some_iff.1 N3.out.2.2.1).1
     have N4 := Lib.hid (And.intro t4_0 (And.intro t4_1 (And.intro t4_2 (And.intro t4_3 (And.intro t4_4 (And.intro t4_5 (And.intro t4_6 (t4_7))))))))
     refine hK.out _ _ (HS2.out _ N4.out.1) (fun hHeld4 => ?_)
     clear hK K t4_0 t4_1 t4_2 t4_3 t4_4 t4_5 t4_6 t4_7 hHeld3 N3 hst4
     try simp only [Act.put, qI, qX, qY]
     clear z4
     have z4 := N4.out.2.2.2.2.2.1
     have z5 := N4.out.2.2.1
     have eB := N4.out.2.2.2.2.2.2.1
     have eC := N4.out.2.2.2.1
     have nBC : ¬ X3.heap.size = X1.heap.size := by have := N4.out.2.2.2.2.2.2.2; omega
     have nCB : ¬ X1.heap.size = X3.heap.size := fun e => nBC e.symm
     have mB : ¬ X3.heap.size = w.heap.size := by omega
     have mC : ¬ X1.heap.size = w.heap.size := by omega
     obtain ⟨c4, f4⟩ := blk z4
     refine wpAnyH_ready (rs := [6]) (by kernel_rfl) (by simp) ?_
     refine AllReadyH.cons (by simp only [qA, qS, qZ]; rfl) (fun K hK => ?_) AllReadyH.nil
     go_simp
     obtain ⟨Y6, hY6, y6B, y6z, y6k, y6b⟩ := set_four X4 (X3.heap.size) 42 (.int .i64 0) (.slice none 0 0) (.int .i64 0) (.slice none 0 0) (.int .i64 l.quote) (.slice a1 l.lists.length c1) (.int .i64 l.kind) (.slice none 0 0) z4
     rw [hY6]
     have z5y := (y6k _ nCB).trans z5
     refine hK.out _ _ (HS3.out X4 Y6 N4.out.1 (y6k _ (fun e => mB e.symm))) (fun hHeld => ?_)
     have Z6 := Lib.hid (And.intro y6B (And.intro y6k y6b))
     obtain ⟨c5, f5⟩ := blk z5y
     clear hK K hY6 c4 f4 y6B y6k y6b
     try simp only [Act.put, qI, qX, qY]
     refine wpAnyH_ready (rs := [7]) (by kernel_rfl) (by simp) ?_
     refine AllReadyH.cons (by simp only [qA, qS, qZ]; rfl) (fun K hK => ?_) AllReadyH.nil
     go_simp
     obtain ⟨Y7, hY7, y7B, y7z, y7k, y7b⟩ := set_four Y6 (X1.heap.size) 42 (.int .i64 0) (.slice none 0 0) (.int .i64 0) (.slice none 0 0) (.int .i64 l.quote) (.slice a3 l.lists.length c3) (.int .i64 l.kind) (.slice none 0 0) z5y
     rw [hY7]
     refine hK.out _ _ (HS3.out X4 Y7 N4.out.1 ((y7k _ (fun e => mC e.symm)).trans (Z6.out.2.1 _ (fun e => mB e.symm)))) (fun hHeld => ?_)
     refine wpAnyH_done (by kernel_rfl) ?_ _
     have key : ∀ b : Nat, (∀ cs, X4.heap[b]? ≠ some (.cells cs 42)) → Y7.heap[b]? = X4.heap[b]? := fun b hno => (y7k b (fun e => by subst e; exact hno _ z5)).trans (Z6.out.2.1 b (fun e => by subst e; exact hno _ z4))
     exact ⟨X3.heap.size, X1.heap.size, a1, c1, a3, c3, _, _, _, _, _, _, _, _, _, _, _, _, _, _, _, _, _, _, _, _, _, _, _, _, _, _, _, _, _, _, _, _, _, _, _, _, _, _, _, _, rfl, eB, eC, nBC, (y7k _ nBC).trans Z6.out.1, y7B, SliceR.tagged (tagged_of _ _) (by decide) N4.out.2.1 (by omega) (fun b _ _ hno => key b hno) (fun b h _ => h), SliceR.tagged (tagged_of _ _) (by decide) N4.out.2.2.2.2.1 (by omega) (fun b _ _ hno => key b hno) (fun b h _ => h), y7b _ eC _ (Z6.out.2.2 _ eB _ N4.out.1)⟩
    exact AllReadyH.nil
   refine AllReadyH.cons (by simp only [qA, qS, qZ]; rfl) (fun K hK => ?_) ?_
   ·go_simp
    obtain ⟨X3, hX3⟩ : ∃ X, X2.alloc (.cells #[.int .i64 0, .slice none 0 0, .int .i64 0, .slice none 0 0] 42) = X := ⟨_, rfl⟩
    rw [hX3]
    have hst3 : Below X2.heap.size X2 X3 := hX3 ▸ (Below.refl _ _).alloc (Nat.le_refl _) _
    have z3 : X3.heap[X2.heap.size]? = some (.cells #[.int .i64 0, .slice none 0 0, .int .i64 0, .slice none 0 0] 42) := hX3 ▸ heap_new _ _ rfl
    clear hX3
    have t3_0 := below_from N2.out.1 hst3
    have t3_1 := SliceR.below (rdOf_stable _) N2.out.2.1 hst3
    have t3_2 := heap_below hst3 N2.out.2.2.1
    have t3_3 := N2.out.2.2.2
    have t3_4 := z3
    have t3_5 := N2.out.1.size
    have t3_6 := (Array.getElem?_eq_some_iff.1 N2.out.2.2.1).1
    have N3 := Lib.hid (And.intro t3_0 (And.intro t3_1 (And.intro t3_2 (And.intro t3_3 (And.intro t3_4 (And.intro t3_5 (t3_6)))))))
    refine hK.out _ _ (HS2.out _ N3.out.1) (fun hHeld3 => ?_)
    clear hK K t3_0 t3_1 t3_2 t3_3 t3_4 t3_5 t3_6 hHeld2 N2 hst3
    try simp only [Act.put, qI, qX, qY]
    clear z3
    refine wpAnyH_ready (rs := [3]) (by kernel_rfl) (by simp) ?_
    refine AllReadyH.cons (by simp only [qA, qS, qZ]; rfl) (fun K hK => ?_) ?_
    ·go_simp
     refine (HF.out _ (hx2.trans (N3.out.1.mono hsx2))).mono ?_
     rintro e X4 ⟨a'', rfl, hc, hst4⟩
     obtain ⟨a3, c3, rfl⟩ := hc.slice
     have hu := N3.out.1.size
     have t4_0 := below_from N3.out.1 hst4
     have t4_1 := SliceR.below (rdOf_stable _) N3.out.2.1 hst4
     have t4_2 := heap_below hst4 N3.out.2.2.1
     have t4_3 := N3.out.2.2.2.1
     have t4_4 := heap_below hst4 N3.out.2.2.2.2.1
     have t4_5 := N3.out.2.2.2.2.2.1
     have t4_6 := N3.out.2.2.2.2.2.2
     have t4_7 := SliceR.stable (rdOf_stable _) hc (Keeps.refl _ _) (S' := fun b => w2.heap.size ≤ b) (fun b h _ => Nat.le_trans hu h)
     have N4 := Lib.hid (And.intro t4_0 (And.intro t4_1 (And.intro t4_2 (And.intro t4_3 (And.intro t4_4 (And.intro t4_5 (And.intro t4_6 (t4_7))))))))
     refine hK.out _ _ (HS2.out _ N4.out.1) (fun hHeld4 => ?_)
     clear hK K t4_0 t4_1 t4_2 t4_3 t4_4 t4_5 t4_6 t4_7 hHeld3 N3 hst4
     try simp only [Act.put, qI, qX, qY]
     clear hc hu
     have z4 := N4.out.2.2.2.2.1
     have z5 := N4.out.2.2.1
     have eB := N4.out.2.2.2.2.2.1
     have eC := N4.out.2.2.2.1
     have nBC : ¬ X2.heap.size = X1.heap.size := by have := N4.out.2.2.2.2.2.2.1; omega
     have nCB : ¬ X1.heap.size = X2.heap.size := fun e => nBC e.symm
     have mB : ¬ X2.heap.size = w.heap.size := by omega
     have mC : ¬ X1.heap.size = w.heap.size := by omega
     obtain ⟨c4, f4⟩ := blk z4
     refine wpAnyH_ready (rs := [6]) (by kernel_rfl) (by simp) ?_
     refine AllReadyH.cons (by simp only [qA, qS, qZ]; rfl) (fun K hK => ?_) AllReadyH.nil
     go_simp
     obtain ⟨Y6, hY6, y6B, y6z, y6k, y6b⟩ := set_four X4 (X2.heap.size) 42 (.int .i64 0) (.slice none 0 0) (.int .i64 0) (.slice none 0 0) (.int .i64 l.quote) (.slice a1 l.lists.length c1) (.int .i64 l.kind) (.slice none 0 0) z4
     rw [hY6]
     have z5y := (y6k _ nCB).trans z5
     refine hK.out _ _ (HS3.out X4 Y6 N4.out.1 (y6k _ (fun e => mB e.symm))) (fun hHeld => ?_)
     have Z6 := Lib.hid (And.intro y6B (And.intro y6k y6b))
     obtain ⟨c5, f5⟩ := blk z5y
     clear hK K hY6 c4 f4 y6B y6k y6b
     try simp only [Act.put, qI, qX, qY]
     refine wpAnyH_ready (rs := [7]) (by kernel_rfl) (by simp) ?_
     refine AllReadyH.cons (by simp only [qA, qS, qZ]; rfl) (fun K hK => ?_) AllReadyH.nil
     go_simp
     obtain ⟨Y7, hY7, y7B, y7z, y7k, y7b⟩ := set_four Y6 (X1.heap.size) 42 (.int .i64 0) (.slice none 0 0) (.int .i64 0) (.slice none 0 0) (.int .i64 l.quote) (.slice a3 l.lists.length c3) (.int .i64 l.kind) (.slice none 0 0) z5y
     rw [hY7]
     refine hK.out _ _ (HS3.out X4 Y7 N4.out.1 ((y7k _ (fun e => mC e.symm)).trans (Z6.out.2.1 _ (fun e => mB e.symm)))) (fun hHeld => ?_)
     refine wpAnyH_done (by kernel_rfl) ?_ _
     have key : ∀ b : Nat, (∀ cs, X4.heap[b]? ≠ some (.cells cs 42)) → Y7.heap[b]? = X4.heap[b]? := fun b hno => (y7k b (fun e => by subst e; exact hno _ z5)).trans (Z6.out.2.1 b (fun e => by subst e; exact hno _ z4))
     exact ⟨X2.heap.size, X1.heap.size, a1, c1, a3, c3, _, _, _, _, _, _, _, _, _, _, _, _, _, _, _, _, _, _, _, _, _, _, _, _, _, _, _, _, _, _, _, _, _, _, _, _, _, _, _, _, rfl, eB, eC, nBC, (y7k _ nBC).trans Z6.out.1, y7B, SliceR.tagged (tagged_of _ _) (by decide) N4.out.2.1 (by omega) (fun b _ _ hno => key b hno) (fun b h _ => h), SliceR.tagged (tagged_of _ _) (by decide) N4.out.2.2.2.2.2.2.2 (by omega) (fun b _ _ hno => key b hno) (fun b h _ => h), y7b _ eC _ (Z6.out.2.2 _ eB _ N4.out.1)⟩
    exact AllReadyH.nil
   exact AllReadyH.nil
  exact AllReadyH.nil
 refine AllReadyH.cons (by simp only [qA, qS, qZ]; rfl) (fun K hK => ?_) ?_
 ·go_simp
  obtain ⟨X1, hX1⟩ : ∃ X, X0.alloc (.cells #[.int .i64 0, .slice none 0 0, .int .i64 0, .slice none 0 0] 42) = X := ⟨_, rfl⟩
  rw [hX1]
  have hst1 : Below X0.heap.size X0 X1 := hX1 ▸ (Below.refl _ _).alloc (Nat.le_refl _) _
  have z1 : X1.heap[X0.heap.size]? = some (.cells #[.int .i64 0, .slice none 0 0, .int .i64 0, .slice none 0 0] 42) := hX1 ▸ heap_new _ _ rfl
  clear hX1
  have t1_0 := below_from N0.out hst1
  have t1_1 := z1
  have t1_2 := N0.out.size
  have N1 := Lib.hid (And.intro t1_0 (And.intro t1_1 (t1_2)))
  refine hK.out _ _ (HS2.out _ N1.out.1) (fun hHeld1 => ?_)
  clear hK K t1_0 t1_1 t1_2 hHeld N0 hst1
  try simp only [Act.put, qI, qX, qY]
  clear z1
  refine wpAnyH_ready (rs := [1, 5]) (by kernel_rfl) (by simp) ?_
  refine AllReadyH.cons (by simp only [qA, qS, qZ]; rfl) (fun K hK => ?_) ?_
  ·go_simp
   refine (HF.out _ (hx2.trans (N1.out.1.mono hsx2))).mono ?_
   rintro e X2 ⟨a'', rfl, ha, hst2⟩
   obtain ⟨a1, c1, rfl⟩ := ha.slice
   have hu := N1.out.1.size
   have t2_0 := below_from N1.out.1 hst2
   have t2_1 := heap_below hst2 N1.out.2.1
   have t2_2 := N1.out.2.2
   have t2_3 := SliceR.stable (rdOf_stable _) ha (Keeps.refl _ _) (S' := fun b => w2.heap.size ≤ b) (fun b h _ => Nat.le_trans hu h)
   have N2 := Lib.hid (And.intro t2_0 (And.intro t2_1 (And.intro t2_2 (t2_3))))
   refine hK.out _ _ (HS2.out _ N2.out.1) (fun hHeld2 => ?_)
   clear hK K t2_0 t2_1 t2_2 t2_3 hHeld1 N1 hst2
   try simp only [Act.put, qI, qX, qY]
   clear ha hu
   refine wpAnyH_ready (rs := [3, 5]) (by kernel_rfl) (by simp) ?_
   refine AllReadyH.cons (by simp only [qA, qS, qZ]; rfl) (fun K hK => ?_) ?_
   ·go_simp
    refine (HF.out _ (hx2.trans (N2.out.1.mono hsx2))).mono ?_
    rintro e X3 ⟨a'', rfl, hc, hst3⟩
    obtain ⟨a3, c3, rfl⟩ := hc.slice
    have hu := N2.out.1.size
    have t3_0 := below_from N2.out.1 hst3
    have t3_1 := heap_below hst3 N2.out.2.1
    have t3_2 := N2.out.2.2.1
    have t3_3 := SliceR.below (rdOf_stable _) N2.out.2.2.2 hst3
    have t3_4 := SliceR.stable (rdOf_stable _) hc (Keeps.refl _ _) (S' := fun b => w2.heap.size ≤ b) (fun b h _ => Nat.le_trans hu h)
    have N3 := Lib.hid (And.intro t3_0 (And.intro t3_1 (And.intro t3_2 (And.intro t3_3 (t3_4)))))
    refine hK.out _ _ (HS2.out _ N3.out.1) (fun hHeld3 => ?_)
    clear hK K t3_0 t3_1 t3_2 t3_3 t3_4 hHeld2 N2 hst3
    try simp only [Act.put, qI, qX, qY]
    clear hc hu
    refine wpAnyH_ready (rs := [5]) (by kernel_rfl) (by simp) ?_
    refine AllReadyH.cons (by simp only [qA, qS, qZ]; rfl) (fun K hK => ?_) ?_
    ·go_simp
     obtain ⟨X4, hX4⟩ : ∃ X, X3.alloc (.cells #[.int .i64 0, .slice none 0 0, .int .i64 0, .slice none 0 0] 42) = X := ⟨_, rfl⟩
     rw [hX4]
     have hst4 : Below X3.heap.size X3 X4 := hX4 ▸ (Below.refl _ _).alloc (Nat.le_refl _) _
     have z4 : X4.heap[X3.heap.size]? = some (.cells #[.int .i64 0, .slice none 0 0, .int .i64 0, .slice none 0 0] 42) := hX4 ▸ heap_new _ _ rfl
     clear hX4
     have t4_0 := below_from N3.out.1 hst4
     have t4_1 := heap_below hst4 N3.out.2.1
     have t4_2 := N3.out.2.2.1
     have t4_3 := SliceR.below (rdOf_stable _) N3.out.2.2.2.1 hst4
     have t4_4 := SliceR.below (rdOf_stable _) N3.out.2.2.2.2 hst4
     have t4_5 := z4
     have t4_6 := N3.out.1.size
     have t4_7 := (Array.getElem?_eq_some_iff.1 N3.out.2.1).1
     have N4 := Lib.hid (And.intro t4_0 (And.intro t4_1 (And.intro t4_2 (And.intro t4_3 (And.intro t4_4 (And.intro t4_5 (And.intro t4_6 (t4_7))))))))
     refine hK.out _ _ (HS2.out _ N4.out.1) (fun hHeld4 => ?_)
     clear hK K t4_0 t4_1 t4_2 t4_3 t4_4 t4_5 t4_6 t4_7 hHeld3 N3 hst4
     try simp only [Act.put, qI, qX, qY]
     clear z4
     have z4 := N4.out.2.1
     have z5 := N4.out.2.2.2.2.2.1
     have eB := N4.out.2.2.1
     have eC := N4.out.2.2.2.2.2.2.1
     have nBC : ¬ X0.heap.size = X3.heap.size := by have := N4.out.2.2.2.2.2.2.2; omega
     have nCB : ¬ X3.heap.size = X0.heap.size := fun e => nBC e.symm
     have mB : ¬ X0.heap.size = w.heap.size := by omega
     have mC : ¬ X3.heap.size = w.heap.size := by omega
     obtain ⟨c4, f4⟩ := blk z4
     refine wpAnyH_ready (rs := [6]) (by kernel_rfl) (by simp) ?_
     refine AllReadyH.cons (by simp only [qA, qS, qZ]; rfl) (fun K hK => ?_) AllReadyH.nil
     go_simp
     obtain ⟨Y6, hY6, y6B, y6z, y6k, y6b⟩ := set_four X4 (X0.heap.size) 42 (.int .i64 0) (.slice none 0 0) (.int .i64 0) (.slice none 0 0) (.int .i64 l.quote) (.slice a1 l.lists.length c1) (.int .i64 l.kind) (.slice none 0 0) z4
     rw [hY6]
     have z5y := (y6k _ nCB).trans z5
     refine hK.out _ _ (HS3.out X4 Y6 N4.out.1 (y6k _ (fun e => mB e.symm))) (fun hHeld => ?_)
     have Z6 := Lib.hid (And.intro y6B (And.intro y6k y6b))
     obtain ⟨c5, f5⟩ := blk z5y
     clear hK K hY6 c4 f4 y6B y6k y6b
     try simp only [Act.put, qI, qX, qY]
     refine wpAnyH_ready (rs := [7]) (by kernel_rfl) (by simp) ?_
     refine AllReadyH.cons (by simp only [qA, qS, qZ]; rfl) (fun K hK => ?_) AllReadyH.nil
     go_simp
     obtain ⟨Y7, hY7, y7B, y7z, y7k, y7b⟩ := set_four Y6 (X3.heap.size) 42 (.int .i64 0) (.slice none 0 0) (.int .i64 0) (.slice none 0 0) (.int .i64 l.quote) (.slice a3 l.lists.length c3) (.int .i64 l.kind) (.slice none 0 0) z5y
     rw [hY7]
     refine hK.out _ _ (HS3.out X4 Y7 N4.out.1 ((y7k _ (fun e => mC e.symm)).trans (Z6.out.2.1 _ (fun e => mB e.symm)))) (fun hHeld => ?_)
     refine wpAnyH_done (by kernel_rfl) ?_ _
     have key : ∀ b : Nat, (∀ cs, X4.heap[b]? ≠ some (.cells cs 42)) → Y7.heap[b]? = X4.heap[b]? := fun b hno => (y7k b (fun e => by subst e; exact hno _ z5)).trans (Z6.out.2.1 b (fun e => by subst e; exact hno _ z4))
     exact ⟨X0.heap.size, X3.heap.size, a1, c1, a3, c3, _, _, _, _, _, _, _, _, _, _, _, _, _, _, _, _, _, _, _, _, _, _, _, _, _, _, _, _, _, _, _, _, _, _, _, _, _, _, _, _, rfl, eB, eC, nBC, (y7k _ nBC).trans Z6.out.1, y7B, SliceR.tagged (tagged_of _ _) (by decide) N4.out.2.2.2.1 (by omega) (fun b _ _ hno => key b hno) (fun b h _ => h), SliceR.tagged (tagged_of _ _) (by decide) N4.out.2.2.2.2.1 (by omega) (fun b _ _ hno => key b hno) (fun b h _ => h), y7b _ eC _ (Z6.out.2.2 _ eB _ N4.out.1)⟩
    exact AllReadyH.nil
   refine AllReadyH.cons (by simp only [qA, qS, qZ]; rfl) (fun K hK => ?_) ?_
   ·go_simp
    obtain ⟨X3, hX3⟩ : ∃ X, X2.alloc (.cells #[.int .i64 0, .slice none 0 0, .int .i64 0, .slice none 0 0] 42) = X := ⟨_, rfl⟩
    rw [hX3]
    have hst3 : Below X2.heap.size X2 X3 := hX3 ▸ (Below.refl _ _).alloc (Nat.le_refl _) _
    have z3 : X3.heap[X2.heap.size]? = some (.cells #[.int .i64 0, .slice none 0 0, .int .i64 0, .slice none 0 0] 42) := hX3 ▸ heap_new _ _ rfl
    clear hX3
    have t3_0 := below_from N2.out.1 hst3
    have t3_1 := heap_below hst3 N2.out.2.1
    have t3_2 := N2.out.2.2.1
    have t3_3 := SliceR.below (rdOf_stable _) N2.out.2.2.2 hst3
    have t3_4 := z3
    have t3_5 := N2.out.1.size
    have t3_6 := (Array.getElem?_eq_some_iff.1 N2.out.2.1).1
    have N3 := Lib.hid (And.intro t3_0 (And.intro t3_1 (And.intro t3_2 (And.intro t3_3 (And.intro t3_4 (And.intro t3_5 (t3_6)))))))
    refine hK.out _ _ (HS2.out _ N3.out.1) (fun hHeld3 => ?_)
    clear hK K t3_0 t3_1 t3_2 t3_3 t3_4 t3_5 t3_6 hHeld2 N2 hst3
    try simp only [Act.put, qI, qX, qY]
    clear z3
    refine wpAnyH_ready (rs := [3]) (by kernel_rfl) (by simp) ?_
    refine AllReadyH.cons (by simp only [qA, qS, qZ]; rfl) (fun K hK => ?_) ?_
    ·go_simp
     refine (HF.out _ (hx2.trans (N3.out.1.mono hsx2))).mono ?_
     rintro e X4 ⟨a'', rfl, hc, hst4⟩
     obtain ⟨a3, c3, rfl⟩ := hc.slice
     have hu := N3.out.1.size
     have t4_0 := below_from N3.out.1 hst4
     have t4_1 := heap_below hst4 N3.out.2.1
     have t4_2 := N3.out.2.2.1
     have t4_3 := SliceR.below (rdOf_stable _) N3.out.2.2.2.1 hst4
     have t4_4 := heap_below hst4 N3.out.2.2.2.2.1
     have t4_5 := N3.out.2.2.2.2.2.1
     have t4_6 := N3.out.2.2.2.2.2.2
     have t4_7 := SliceR.stable (rdOf_stable _) hc (Keeps.refl _ _) (S' := fun b => w2.heap.size ≤ b) (fun b h _ => Nat.le_trans hu h)
     have N4 := Lib.hid (And.intro t4_0 (And.intro t4_1 (And.intro t4_2 (And.intro t4_3 (And.intro t4_4 (And.intro t4_5 (And.intro t4_6 (t4_7))))))))
     refine hK.out _ _ (HS2.out _ N4.out.1) (fun hHeld4 => ?_)
     clear hK K t4_0 t4_1 t4_2 t4_3 t4_4 t4_5 t4_6 t4_7 hHeld3 N3 hst4
     try simp only [Act.put, qI, qX, qY]
     clear hc hu
     have z4 := N4.out.2.1
     have z5 := N4.out.2.2.2.2.1
     have eB := N4.out.2.2.1
     have eC := N4.out.2.2.2.2.2.1
     have nBC : ¬ X0.heap.size = X2.heap.size := by have := N4.out.2.2.2.2.2.2.1; omega
     have nCB : ¬ X2.heap.size = X0.heap.size := fun e => nBC e.symm
     have mB : ¬ X0.heap.size = w.heap.size := by omega
     have mC : ¬ X2.heap.size = w.heap.size := by omega
     obtain ⟨c4, f4⟩ := blk z4
     refine wpAnyH_ready (rs := [6]) (by kernel_rfl) (by simp) ?_
     refine AllReadyH.cons (by simp only [qA, qS, qZ]; rfl) (fun K hK => ?_) AllReadyH.nil
     go_simp
     obtain ⟨Y6, hY6, y6B, y6z, y6k, y6b⟩ := set_four X4 (X0.heap.size) 42 (.int .i64 0) (.slice none 0 0) (.int .i64 0) (.slice none 0 0) (.int .i64 l.quote) (.slice a1 l.lists.length c1) (.int .i64 l.kind) (.slice none 0 0) z4
     rw [hY6]
     have z5y := (y6k _ nCB).trans z5
     refine hK.out _ _ (HS3.out X4 Y6 N4.out.1 (y6k _ (fun e => mB e.symm))) (fun hHeld => ?_)
     have Z6 := Lib.hid (And.intro y6B (And.intro y6k y6b))
     obtain ⟨c5, f5⟩ := blk z5y
     clear hK K hY6 c4 f4 y6B y6k y6b
     try simp only [Act.put, qI, qX, qY]
     refine wpAnyH_ready (rs := [7]) (by kernel_rfl) (by simp) ?_
     refine AllReadyH.cons (by simp only [qA, qS, qZ]; rfl) (fun K hK => ?_) AllReadyH.nil
     go_simp
     obtain ⟨Y7, hY7, y7B, y7z, y7k, y7b⟩ := set_four Y6 (X2.heap.size) 42 (.int .i64 0) (.slice none 0 0) (.int .i64 0) (.slice none 0 0) (.int .i64 l.quote) (.slice a3 l.lists.length c3) (.int .i64 l.kind) (.slice none 0 0) z5y
     rw [hY7]
     refine hK.out _ _ (HS3.out X4 Y7 N4.out.1 ((y7k _ (fun e => mC e.symm)).trans (Z6.out.2.1 _ (fun e => mB e.symm)))) (fun hHeld => ?_)
     refine wpAnyH_done (by kernel_rfl) ?_ _
     have key : ∀ b : Nat, (∀ cs, X4.heap[b]? ≠ some (.cells cs 42)) → Y7.heap[b]? = X4.heap[b]? := fun b hno => (y7k b (fun e => by subst e; exact hno _ z5)).trans (Z6.out.2.1 b (fun e => by subst e; exact hno _ z4))
     exact ⟨X0.heap.size, X2.heap.size, a1, c1, a3, c3, _, _, _, _, _, _, _, _, _, _, _, _, _, _, _, _, _, _, _, _, _, _, _, _, _, _, _, _, _, _, _, _, _, _, _, _, _, _, _, _, rfl, eB, eC, nBC, (y7k _ nBC).trans Z6.out.1, y7B, SliceR.tagged (tagged_of _ _) (by decide) N4.out.2.2.2.1 (by omega) (fun b _ _ hno => key b hno) (fun b h _ => h), SliceR.tagged (tagged_of _ _) (by decide) N4.out.2.2.2.2.2.2.2 (by omega) (fun b _ _ hno => key b hno) (fun b h _ => h), y7b _ eC _ (Z6.out.2.2 _ eB _ N4.out.1)⟩
    exact AllReadyH.nil
   exact AllReadyH.nil
  refine AllReadyH.cons (by simp only [qA, qS, qZ]; rfl) (fun K hK => ?_) ?_
  ·go_simp
   obtain ⟨X2, hX2⟩ : ∃ X, X1.alloc (.cells #[.int .i64 0, .slice none 0 0, .int .i64 0, .slice none 0 0] 42) = X := ⟨_, rfl⟩
   rw [hX2]
   have hst2 : Below X1.heap.size X1 X2 := hX2 ▸ (Below.refl _ _).alloc (Nat.le_refl _) _
   have z2 : X2.heap[X1.heap.size]? = some (.cells #[.int .i64 0, .slice none 0 0, .int .i64 0, .slice none 0 0] 42) := hX2 ▸ heap_new _ _ rfl
   clear hX2
   have t2_0 := below_from N1.out.1 hst2
   have t2_1 := heap_below hst2 N1.out.2.1
   have t2_2 := N1.out.2.2
   have t2_3 := z2
   have t2_4 := N1.out.1.size
   have t2_5 := (Array.getElem?_eq_some_iff.1 N1.out.2.1).1
   have N2 := Lib.hid (And.intro t2_0 (And.intro t2_1 (And.intro t2_2 (And.intro t2_3 (And.intro t2_4 (t2_5))))))
   refine hK.out _ _ (HS2.out _ N2.out.1) (fun hHeld2 => ?_)
   clear hK K t2_0 t2_1 t2_2 t2_3 t2_4 t2_5 hHeld1 N1 hst2
   try simp only [Act.put, qI, qX, qY]
   clear z2
   refine wpAnyH_ready (rs := [1]) (by kernel_rfl) (by simp) ?_
   refine AllReadyH.cons (by simp only [qA, qS, qZ]; rfl) (fun K hK => ?_) ?_
   ·go_simp
    refine (HF.out _ (hx2.trans (N2.out.1.mono hsx2))).mono ?_
    rintro e X3 ⟨a'', rfl, ha, hst3⟩
    obtain ⟨a1, c1, rfl⟩ := ha.slice
    have hu := N2.out.1.size
    have t3_0 := below_from N2.out.1 hst3
    have t3_1 := heap_below hst3 N2.out.2.1
    have t3_2 := N2.out.2.2.1
    have t3_3 := heap_below hst3 N2.out.2.2.2.1
    have t3_4 := N2.out.2.2.2.2.1
    have t3_5 := N2.out.2.2.2.2.2
    have t3_6 := SliceR.stable (rdOf_stable _) ha (Keeps.refl _ _) (S' := fun b => w2.heap.size ≤ b) (fun b h _ => Nat.le_trans hu h)
    have N3 := Lib.hid (And.intro t3_0 (And.intro t3_1 (And.intro t3_2 (And.intro t3_3 (And.intro t3_4 (And.intro t3_5 (t3_6)))))))
    refine hK.out _ _ (HS2.out _ N3.out.1) (fun hHeld3 => ?_)
    clear hK K t3_0 t3_1 t3_2 t3_3 t3_4 t3_5 t3_6 hHeld2 N2 hst3
    try simp only [Act.put, qI, qX, qY]
    clear ha hu
    refine wpAnyH_ready (rs := [3]) (by kernel_rfl) (by simp) ?_
    refine AllReadyH.cons (by simp only [qA, qS, qZ]; rfl) (fun K hK => ?_) ?_
    ·go_simp
     refine (HF.out _ (hx2.trans (N3.out.1.mono hsx2))).mono ?_
     rintro e X4 ⟨a'', rfl, hc, hst4⟩
     obtain ⟨a3, c3, rfl⟩ := hc.slice
     have hu := N3.out.1.size
     have t4_0 := below_from N3.out.1 hst4
     have t4_1 := heap_below hst4 N3.out.2.1
     have t4_2 := N3.out.2.2.1
     have t4_3 := heap_below hst4 N3.out.2.2.2.1
     have t4_4 := N3.out.2.2.2.2.1
     have t4_5 := N3.out.2.2.2.2.2.1
     have t4_6 := SliceR.below (rdOf_stable _) N3.out.2.2.2.2.2.2 hst4
     have t4_7 := SliceR.stable (rdOf_stable _) hc (Keeps.refl _ _) (S' := fun b => w2.heap.size ≤ b) (fun b h _ => Nat.le_trans hu h)
     have N4 := Lib.hid (And.intro t4_0 (And.intro t4_1 (And.intro t4_2 (And.intro t4_3 (And.intro t4_4 (And.intro t4_5 (And.intro t4_6 (t4_7))))))))
     refine hK.out _ _ (HS2.out _ N4.out.1) (fun hHeld4 => ?_)
     clear hK K t4_0 t4_1 t4_2 t4_3 t4_4 t4_5 t4_6 t4_7 hHeld3 N3 hst4
     try simp only [Act.put, qI, qX, qY]
     clear hc hu
     have z4 := N4.out.2.1
     have z5 := N4.out.2.2.2.1
     have eB := N4.out.2.2.1
     have eC := N4.out.2.2.2.2.1
     have nBC : ¬ X0.heap.size = X1.heap.size := by have := N4.out.2.2.2.2.2.1; omega
     have nCB : ¬ X1.heap.size = X0.heap.size := fun e => nBC e.symm
     have mB : ¬ X0.heap.size = w.heap.size := by omega
     have mC : ¬ X1.heap.size = w.heap.size := by omega
     obtain ⟨c4, f4⟩ := blk z4
     refine wpAnyH_ready (rs := [6]) (by kernel_rfl) (by simp) ?_
     refine AllReadyH.cons (by simp only [qA, qS, qZ]; rfl) (fun K hK => ?_) AllReadyH.nil
     go_simp
     obtain ⟨Y6, hY6, y6B, y6z, y6k, y6b⟩ := set_four X4 (X0.heap.size) 42 (.int .i64 0) (.slice none 0 0) (.int .i64 0) (.slice none 0 0) (.int .i64 l.quote) (.slice a1 l.lists.length c1) (.int .i64 l.kind) (.slice none 0 0) z4
     rw [hY6]
     have z5y := (y6k _ nCB).trans z5
     refine hK.out _ _ (HS3.out X4 Y6 N4.out.1 (y6k _ (fun e => mB e.symm))) (fun hHeld => ?_)
     have Z6 := Lib.hid (And.intro y6B (And.intro y6k y6b))
     obtain ⟨c5, f5⟩ := blk z5y
     clear hK K hY6 c4 f4 y6B y6k y6b
     try simp only [Act.put, qI, qX, qY]
     refine wpAnyH_ready (rs := [7]) (by kernel_rfl) (by simp) ?_
     refine AllReadyH.cons (by simp only [qA, qS, qZ]; rfl) (fun K hK => ?_) AllReadyH.nil
     go_simp
     obtain ⟨Y7, hY7, y7B, y7z, y7k, y7b⟩ := set_four Y6 (X1.heap.size) 42 (.int .i64 0) (.slice none 0 0) (.int .i64 0) (.slice none 0 0) (.int .i64 l.quote) (.slice a3 l.lists.length c3) (.int .i64 l.kind) (.slice none 0 0) z5y
     rw [hY7]
     refine hK.out _ _ (HS3.out X4 Y7 N4.out.1 ((y7k _ (fun e => mC e.symm)).trans (Z6.out.2.1 _ (fun e => mB e.symm)))) (fun hHeld => ?_)
     refine wpAnyH_done (by kernel_rfl) ?_ _
     have key : ∀ b : Nat, (∀ cs, X4.heap[b]? ≠ some (.cells cs 42)) → Y7.heap[b]? = X4.heap[b]? := fun b hno => (y7k b (fun e => by subst e; exact hno _ z5)).trans (Z6.out.2.1 b (fun e => by subst e; exact hno _ z4))
     exact ⟨X0.heap.size, X1.heap.size, a1, c1, a3, c3, _, _, _, _, _, _, _, _, _, _, _, _, _, _, _, _, _, _, _, _, _, _, _, _, _, _, _, _, _, _, _, _, _, _, _, _, _, _, _, _, rfl, eB, eC, nBC, (y7k _ nBC).trans Z6.out.1, y7B, SliceR.tagged (tagged_of _ _) (by decide) N4.out.2.2.2.2.2.2.1 (by omega) (fun b _ _ hno => key b hno) (fun b h _ => h), SliceR.tagged (tagged_of _ _) (by decide) N4.out.2.2.2.2.2.2.2 (by omega) (fun b _ _ hno => key b hno) (fun b h _ => h), y7b _ eC _ (Z6.out.2.2 _ eB _ N4.out.1)⟩
    exact AllReadyH.nil
   exact AllReadyH.nil
  exact AllReadyH.nil
 refine AllReadyH.cons (by simp only [qA, qS, qZ]; rfl) (fun K hK => ?_) ?_
 ·go_simp
  obtain ⟨X1, hX1⟩ : ∃ X, X0.alloc (.cells #[.int .i64 0, .slice none 0 0, .int .i64 0, .slice none 0 0] 42) = X := ⟨_, rfl⟩
  rw [hX1]
  have hst1 : Below X0.heap.size X0 X1 := hX1 ▸ (Below.refl _ _).alloc (Nat.le_refl _) _
  have z1 : X1.heap[X0.heap.size]? = some (.cells #[.int .i64 0, .slice none 0 0, .int .i64 0, .slice none 0 0] 42) := hX1 ▸ heap_new _ _ rfl
  clear hX1
  have t1_0 := below_from N0.out hst1
  have t1_1 := z1
  have t1_2 := N0.out.size
  have N1 := Lib.hid (And.intro t1_0 (And.intro t1_1 (t1_2)))
  refine hK.out _ _ (HS2.out _ N1.out.1) (fun hHeld1 => ?_)
  clear hK K t1_0 t1_1 t1_2 hHeld N0 hst1
  try simp only [Act.put, qI, qX, qY]
  clear z1
  refine wpAnyH_ready (rs := [1, 4]) (by kernel_rfl) (by simp) ?_
  refine AllReadyH.cons (by simp only [qA, qS, qZ]; rfl) (fun K hK => ?_) ?_
  ·go_simp
   refine (HF.out _ (hx2.trans (N1.out.1.mono hsx2))).mono ?_
   rintro e X2 ⟨a'', rfl, ha, hst2⟩
   obtain ⟨a1, c1, rfl⟩ := ha.slice
   have hu := N1.out.1.size
   have t2_0 := below_from N1.out.1 hst2
   have t2_1 := heap_below hst2 N1.out.2.1
   have t2_2 := N1.out.2.2
   have t2_3 := SliceR.stable (rdOf_stable _) ha (Keeps.refl _ _) (S' := fun b => w2.heap.size ≤ b) (fun b h _ => Nat.le_trans hu h)
   have N2 := Lib.hid (And.intro t2_0 (And.intro t2_1 (And.intro t2_2 (t2_3))))
   refine hK.out _ _ (HS2.out _ N2.out.1) (fun hHeld2 => ?_)
   clear hK K t2_0 t2_1 t2_2 t2_3 hHeld1 N1 hst2
   try simp only [Act.put, qI, qX, qY]
   clear ha hu
   refine wpAnyH_ready (rs := [3, 4]) (by kernel_rfl) (by simp) ?_
   refine AllReadyH.cons (by simp only [qA, qS, qZ]; rfl) (fun K hK => ?_) ?_
   ·go_simp
    refine (HF.out _ (hx2.trans (N2.out.1.mono hsx2))).mono ?_
    rintro e X3 ⟨a'', rfl, hc, hst3⟩
    obtain ⟨a3, c3, rfl⟩ := hc.slice
    have hu := N2.out.1.size
    have t3_0 := below_from N2.out.1 hst3
    have t3_1 := heap_below hst3 N2.out.2.1
    have t3_2 := N2.out.2.2.1
    have t3_3 := SliceR.below (rdOf_stable _) N2.out.2.2.2 hst3
    have t3_4 := SliceR.stable (rdOf_stable _) hc (Keeps.refl _ _) (S' := fun b => w2.heap.size ≤ b) (fun b h _ => Nat.le_trans hu h)
    have N3 := Lib.hid (And.intro t3_0 (And.intro t3_1 (And.intro t3_2 (And.intro t3_3 (t3_4)))))
    refine hK.out _ _ (HS2.out _ N3.out.1) (fun hHeld3 => ?_)
    clear hK K t3_0 t3_1 t3_2 t3_3 t3_4 hHeld2 N2 hst3
    try simp only [Act.put, qI, qX, qY]
    clear hc hu
    refine wpAnyH_ready (rs := [4]) (by kernel_rfl) (by simp) ?_
    refine AllReadyH.cons (by simp only [qA, qS, qZ]; rfl) (fun K hK => ?_) ?_
    ·go_simp
     obtain ⟨X4, hX4⟩ : ∃ X, X3.alloc (.cells #[.int .i64 0, .slice none 0 0, .int .i64 0, .slice none 0 0] 42) = X := ⟨_, rfl⟩
     rw [hX4]
     have hst4 : Below X3.heap.size X3 X4 := hX4 ▸ (Below.refl _ _).alloc (Nat.le_refl _) _
     have z4 : X4.heap[X3.heap.size]? = some (.cells #[.int .i64 0, .slice none 0 0, .int .i64 0, .slice none 0 0] 42) := hX4 ▸ heap_new _ _ rfl
     clear hX4
     have t4_0 := below_from N3.out.1 hst4
     have t4_1 := heap_below hst4 N3.out.2.1
     have t4_2 := N3.out.2.2.1
     have t4_3 := SliceR.below (rdOf_stable _) N3.out.2.2.2.1 hst4
     have t4_4 := SliceR.below (rdOf_stable _) N3.out.2.2.2.2 hst4
     have t4_5 := z4
     have t4_6 := N3.out.1.size
     have t4_7 := (Array.getElem?_eq_some_iff.1 N3.out.2.1).1
     have N4 := Lib.hid (And.intro t4_0 (And.intro t4_1 (And.intro t4_2 (And.intro t4_3 (And.intro t4_4 (And.intro t4_5 (And.intro t4_6 (t4_7))))))))
     refine hK.out _ _ (HS2.out _ N4.out.1) (fun hHeld4 => ?_)
     clear hK K t4_0 t4_1 t4_2 t4_3 t4_4 t4_5 t4_6 t4_7 hHeld3 N3 hst4
     try simp only [Act.put, qI, qX, qY]
     clear z4
     have z4 := N4.out.2.2.2.2.2.1
     have z5 := N4.out.2.1
     have eB := N4.out.2.2.2.2.2.2.1
     have eC := N4.out.2.2.1
     have nBC : ¬ X3.heap.size = X0.heap.size := by have := N4.out.2.2.2.2.2.2.2; omega
     have nCB : ¬ X0.heap.size = X3.heap.size := fun e => nBC e.symm
     have mB : ¬ X3.heap.size = w.heap.size := by omega
     have mC : ¬ X0.heap.size = w.heap.size := by omega
     obtain ⟨c4, f4⟩ := blk z4
     refine wpAnyH_ready (rs := [6]) (by kernel_rfl) (by simp) ?_
     refine AllReadyH.cons (by simp only [qA, qS, qZ]; rfl) (fun K hK => ?_) AllReadyH.nil
     go_simp
     obtain ⟨Y6, hY6, y6B, y6z, y6k, y6b⟩ := set_four X4 (X3.heap.size) 42 (.int .i64 0) (.slice none 0 0) (.int .i64 0) (.slice none 0 0) (.int .i64 l.quote) (.slice a1 l.lists.length c1) (.int .i64 l.kind) (.slice none 0 0) z4
     rw [hY6]
     have z5y := (y6k _ nCB).trans z5
     refine hK.out _ _ (HS3.out X4 Y6 N4.out.1 (y6k _ (fun e => mB e.symm))) (fun hHeld => ?_)
     have Z6 := Lib.hid (And.intro y6B (And.intro y6k y6b))
     obtain ⟨c5, f5⟩ := blk z5y
     clear hK K hY6 c4 f4 y6B y6k y6b
     try simp only [Act.put, qI, qX, qY]
     refine wpAnyH_ready (rs := [7]) (by kernel_rfl) (by simp) ?_
     refine AllReadyH.cons (by simp only [qA, qS, qZ]; rfl) (fun K hK => ?_) AllReadyH.nil
     go_simp
     obtain ⟨Y7, hY7, y7B, y7z, y7k, y7b⟩ := set_four Y6 (X0.heap.size) 42 (.int .i64 0) (.slice none 0 0) (.int .i64 0) (.slice none 0 0) (.int .i64 l.quote) (.slice a3 l.lists.length c3) (.int .i64 l.kind) (.slice none 0 0) z5y
     rw [hY7]
     refine hK.out _ _ (HS3.out X4 Y7 N4.out.1 ((y7k _ (fun e => mC e.symm)).trans (Z6.out.2.1 _ (fun e => mB e.symm)))) (fun hHeld => ?_)
     refine wpAnyH_done (by kernel_rfl) ?_ _
     have key : ∀ b : Nat, (∀ cs, X4.heap[b]? ≠ some (.cells cs 42)) → Y7.heap[b]? = X4.heap[b]? := fun b hno => (y7k b (fun e => by subst e; exact hno _ z5)).trans (Z6.out.2.1 b (fun e => by subst e; exact hno _ z4))
     exact ⟨X3.heap.size, X0.heap.size, a1, c1, a3, c3, _, _, _, _, _, _, _, _, _, _, _, _, _, _, _, _, _, _, _, _, _, _, _, _, _, _, _, _, _, _, _, _, _, _, _, _, _, _, _, _, rfl, eB, eC, nBC, (y7k _ nBC).trans Z6.out.1, y7B, SliceR.tagged (tagged_of _ _) (by decide) N4.out.2.2.2.1 (by omega) (fun b _ _ hno => key b hno) (fun b h _ => h), SliceR.tagged (tagged_of _ _) (by decide) N4.out.2.2.2.2.1 (by omega) (fun b _ _ hno => key b hno) (fun b h _ => h), y7b _ eC _ (Z6.out.2.2 _ eB _ N4.out.1)⟩
    exact AllReadyH.nil
   refine AllReadyH.cons (by simp only [qA, qS, qZ]; rfl) (fun K hK => ?_) ?_
   ·go_simp
    obtain ⟨X3, hX3⟩ : ∃ X, X2.alloc (.cells #[.int .i64 0, .slice none 0 0, .int .i64 0, .slice none 0 0] 42) = X := ⟨_, rfl⟩
    rw [hX3]
    have hst3 : Below X2.heap.size X2 X3 := hX3 ▸ (Below.refl _ _).alloc (Nat.le_refl _) _
    have z3 : X3.heap[X2.heap.size]? = some (.cells #[.int .i64 0, .slice none 0 0, .int .i64 0, .slice none 0 0] 42) := hX3 ▸ heap_new _ _ rfl
    clear hX3
    have t3_0 := below_from N2.out.1 hst3
    have t3_1 := heap_below hst3 N2.out.2.1
    have t3_2 := N2.out.2.2.1
    have t3_3 := SliceR.below (rdOf_stable _) N2.out.2.2.2 hst3
    have t3_4 := z3
    have t3_5 := N2.out.1.size
    have t3_6 := (Array.getElem?_eq_some_iff.1 N2.out.2.1).1
    have N3 := Lib.hid (And.intro t3_0 (And.intro t3_1 (And.intro t3_2 (And.intro t3_3 (And.intro t3_4 (And.intro t3_5 (t3_6)))))))
    refine hK.out _ _ (HS2.out _ N3.out.1) (fun hHeld3 => ?_)
    clear hK K t3_0 t3_1 t3_2 t3_3 t3_4 t3_5 t3_6 hHeld2 N2 hst3
    try simp only [Act.put, qI, qX, qY]
    clear z3
    refine wpAnyH_ready (rs := [3]) (by kernel_rfl) (by simp) ?_
    refine AllReadyH.cons (by simp only [qA, qS, qZ]; rfl) (fun K hK => ?_) ?_
    ·go_simp
     refine (HF.out _ (hx2.trans (N3.out.1.mono hsx2))).mono ?_
     rintro e X4 ⟨a'', rfl, hc, hst4⟩
     obtain ⟨a3, c3, rfl⟩ := hc.slice
     have hu := N3.out.1.size
     have t4_0 := below_from N3.out.1 hst4
     have t4_1 := heap_below hst4 N3.out.2.1
     have t4_2 := N3.out.2.2.1
     have t4_3 := SliceR.below (rdOf_stable _) N3.out.2.2.2.1 hst4
     have t4_4 := heap_below hst4 N3.out.2.2.2.2.1
     have t4_5 := N3.out.2.2.2.2.2.1
     have t4_6 := N3.out.2.2.2.2.2.2
     have t4_7 := SliceR.stable (rdOf_stable _) hc (Keeps.refl _ _) (S' := fun b => w2.heap.size ≤ b) (fun b h _ => Nat.le_trans hu h)
     have N4 := Lib.hid (And.intro t4_0 (And.intro t4_1 (And.intro t4_2 (And.intro t4_3 (And.intro t4_4 (And.intro t4_5 (And.intro t4_6 (t4_7))))))))
     refine hK.out _ _ (HS2.out _ N4.out.1) (fun hHeld4 => ?_)
     clear hK K t4_0 t4_1 t4_2 t4_3 t4_4 t4_5 t4_6 t4_7 hHeld3 N3 hst4
     try simp only [Act.put, qI, qX, qY]
     clear hc hu
     have z4 := N4.out.2.2.2.2.1
     have z5 := N4.out.2.1
     have eB := N4.out.2.2.2.2.2.1
     have eC := N4.out.2.2.1
     have nBC : ¬ X2.heap.size = X0.heap.size := by have := N4.out.2.2.2.2.2.2.1; omega
     have nCB : ¬ X0.heap.size = X2.heap.size := fun e => nBC e.symm
     have mB : ¬ X2.heap.size = w.heap.size := by omega
     have mC : ¬ X0.heap.size = w.heap.size := by omega
     obtain ⟨c4, f4⟩ := blk z4
     refine wpAnyH_ready (rs := [6]) (by kernel_rfl) (by simp) ?_
     refine AllReadyH.cons (by simp only [qA, qS, qZ]; rfl) (fun K hK => ?_) AllReadyH.nil
     go_simp
     obtain ⟨Y6, hY6, y6B, y6z, y6k, y6b⟩ := set_four X4 (X2.heap.size) 42 (.int .i64 0) (.slice none 0 0) (.int .i64 0) (.slice none 0 0) (.int .i64 l.quote) (.slice a1 l.lists.length c1) (.int .i64 l.kind) (.slice none 0 0) z4
     rw [hY6]
     have z5y := (y6k _ nCB).trans z5
     refine hK.out _ _ (HS3.out X4 Y6 N4.out.1 (y6k _ (fun e => mB e.symm))) (fun hHeld => ?_)
     have Z6 := Lib.hid (And.intro y6B (And.intro y6k y6b))
     obtain ⟨c5, f5⟩ := blk z5y
     clear hK K hY6 c4 f4 y6B y6k y6b
     try simp only [Act.put, qI, qX, qY]
     refine wpAnyH_ready (rs := [7]) (by kernel_rfl) (by simp) ?_
     refine AllReadyH.cons (by simp only [qA, qS, qZ]; rfl) (fun K hK => ?_) AllReadyH.nil
     go_simp
     obtain ⟨Y7, hY7, y7B, y7z, y7k, y7b⟩ := set_four Y6 (X0.heap.size) 42 (.int .i64 0) (.slice none 0 0) (.int .i64 0) (.slice none 0 0) (.int .i64 l.quote) (.slice a3 l.lists.length c3) (.int .i64 l.kind) (.slice none 0 0) z5y
     rw [hY7]
     refine hK.out _ _ (HS3.out X4 Y7 N4.out.1 ((y7k _ (fun e => mC e.symm)).trans (Z6.out.2.1 _ (fun e => mB e.symm)))) (fun hHeld => ?_)
     refine wpAnyH_done (by kernel_rfl) ?_ _
     have key : ∀ b : Nat, (∀ cs, X4.heap[b]? ≠ some (.cells cs 42)) → Y7.heap[b]? = X4.heap[b]? := fun b hno => (y7k b (fun e => by subst e; exact hno _ z5)).trans (Z6.out.2.1 b (fun e => by subst e; exact hno _ z4))
     exact ⟨X2.heap.size, X0.heap.size, a1, c1, a3, c3, _, _, _, _, _, _, _, _, _, _, _, _, _, _, _, _, _, _, _, _, _, _, _, _, _, _, _, _, _, _, _, _, _, _, _, _, _, _, _, _, rfl, eB, eC, nBC, (y7k _ nBC).trans Z6.out.1, y7B, SliceR.tagged (tagged_of _ _) (by decide) N4.out.2.2.2.1 (by omega) (fun b _ _ hno => key b hno) (fun b h _ => h), SliceR.tagged (tagged_of _ _) (by decide) N4.out.2.2.2.2.2.2.2 (by omega) (fun b _ _ hno => key b hno) (fun b h _ => h), y7b _ eC _ (Z6.out.2.2 _ eB _ N4.out.1)⟩
    exact AllReadyH.nil
   exact AllReadyH.nil
  refine AllReadyH.cons (by simp only [qA, qS, qZ]; rfl) (fun K hK => ?_) ?_
  ·go_simp
   obtain ⟨X2, hX2⟩ : ∃ X, X1.alloc (.cells #[.int .i64 0, .slice none 0 0, .int .i64 0, .slice none 0 0] 42) = X := ⟨_, rfl⟩
   rw [hX2]
   have hst2 : Below X1.heap.size X1 X2 := hX2 ▸ (Below.refl _ _).alloc (Nat.le_refl _) _
   have z2 : X2.heap[X1.heap.size]? = some (.cells #[.int .i64 0, .slice none 0 0, .int .i64 0, .slice none 0 0] 42) := hX2 ▸ heap_new _ _ rfl
   clear hX2
   have t2_0 := below_from N1.out.1 hst2
   have t2_1 := heap_below hst2 N1.out.2.1
   have t2_2 := N1.out.2.2
   have t2_3 := z2
   have t2_4 := N1.out.1.size
   have t2_5 := (Array.getElem?_eq_some_iff.1 N1.out.2.1).1
   have N2 := Lib.hid (And.intro t2_0 (And.intro t2_1 (And.intro t2_2 (And.intro t2_3 (And.intro t2_4 (t2_5))))))
   refine hK.out _ _ (HS2.out _ N2.out.1) (fun hHeld2 => ?_)
   clear hK K t2_0 t2_1 t2_2 t2_3 t2_4 t2_5 hHeld1 N1 hst2
   try simp only [Act.put, qI, qX, qY]
   clear z2
   refine wpAnyH_ready (rs := [1]) (by kernel_rfl) (by simp) ?_
   refine AllReadyH.cons (by simp only [qA, qS, qZ]; rfl) (fun K hK => ?_) ?_
   ·go_simp
    refine (HF.out _ (hx2.trans (N2.out.1.mono hsx2))).mono ?_
    rintro e X3 ⟨a'', rfl, ha, hst3⟩
    obtain ⟨a1, c1, rfl⟩ := ha.slice
    have hu := N2.out.1.size
    have t3_0 := below_from N2.out.1 hst3
    have t3_1 := heap_below hst3 N2.out.2.1
    have t3_2 := N2.out.2.2.1
    have t3_3 := heap_below hst3 N2.out.2.2.2.1
    have t3_4 := N2.out.2.2.2.2.1
    have t3_5 := N2.out.2.2.2.2.2
    have t3_6 := SliceR.stable (rdOf_stable _) ha (Keeps.refl _ _) (S' := fun b => w2.heap.size ≤ b) (fun b h _ => Nat.le_trans hu h)
    have N3 := Lib.hid (And.intro t3_0 (And.intro t3_1 (And.intro t3_2 (And.intro t3_3 (And.intro t3_4 (And.intro t3_5 (t3_6)))))))
    refine hK.out _ _ (HS2.out _ N3.out.1) (fun hHeld3 => ?_)
    clear hK K t3_0 t3_1 t3_2 t3_3 t3_4 t3_5 t3_6 hHeld2 N2 hst3
    try simp only [Act.put, qI, qX, qY]
    clear ha hu
    refine wpAnyH_ready (rs := [3]) (by kernel_rfl) (by simp) ?_
    refine AllReadyH.cons (by simp only [qA, qS, qZ]; rfl) (fun K hK => ?_) ?_
    ·go_simp
     refine (HF.out _ (hx2.trans (N3.out.1.mono hsx2))).mono ?_
     rintro e X4 ⟨a'', rfl, hc, hst4⟩
     obtain ⟨a3, c3, rfl⟩ := hc.slice
     have hu := N3.out.1.size
     have t4_0 := below_from N3.out.1 hst4
     have t4_1 := heap_below hst4 N3.out.2.1
     have t4_2 := N3.out.2.2.1
     have t4_3 := heap_below hst4 N3.out.2.2.2.1
     have t4_4 := N3.out.2.2.2.2.1
     have t4_5 := N3.out.2.2.2.2.2.1
     have t4_6 := SliceR.below (rdOf_stable _) N3.out.2.2.2.2.2.2 hst4
     have t4_7 := SliceR.stable (rdOf_stable _) hc (Keeps.refl _ _) (S' := fun b => w2.heap.size ≤ b) (fun b h _ => Nat.le_trans hu h)
     have N4 := Lib.hid (And.intro t4_0 (And.intro t4_1 (And.intro t4_2 (And.intro t4_3 (And.intro t4_4 (And.intro t4_5 (And.intro t4_6 (t4_7))))))))
     refine hK.out _ _ (HS2.out _ N4.out.1) (fun hHeld4 => ?_)
     clear hK K t4_0 t4_1 t4_2 t4_3 t4_4 t4_5 t4_6 t4_7 hHeld3 N3 hst4
     try simp only [Act.put, qI, qX, qY]
     clear hc hu
     have z4 := N4.out.2.2.2.1
     have z5 := N4.out.2.1
     have eB := N4.out.2.2.2.2.1
     have eC := N4.out.2.2.1
     have nBC : ¬ X1.heap.size = X0.heap.size := by have := N4.out.2.2.2.2.2.1; omega
     have nCB : ¬ X0.heap.size = X1.heap.size := fun e => nBC e.symm
     have mB : ¬ X1.heap.size = w.heap.size := by omega
     have mC : ¬ X0.heap.size = w.heap.size := by omega
     obtain ⟨c4, f4⟩ := blk z4
     refine wpAnyH_ready (rs := [6]) (by kernel_rfl) (by simp) ?_
     refine AllReadyH.cons (by simp only [qA, qS, qZ]; rfl) (fun K hK => ?_) AllReadyH.nil
     go_simp
     obtain ⟨Y6, hY6, y6B, y6z, y6k, y6b⟩ := set_four X4 (X1.heap.size) 42 (.int .i64 0) (.slice none 0 0) (.int .i64 0) (.slice none 0 0) (.int .i64 l.quote) (.slice a1 l.lists.length c1) (.int .i64 l.kind) (.slice none 0 0) z4
     rw [hY6]
     have z5y := (y6k _ nCB).trans z5
     refine hK.out _ _ (HS3.out X4 Y6 N4.out.1 (y6k _ (fun e => mB e.symm))) (fun hHeld => ?_)
     have Z6 := Lib.hid (And.intro y6B (And.intro y6k y6b))
     obtain ⟨c5, f5⟩ := blk z5y
     clear hK K hY6 c4 f4 y6B y6k y6b
     try simp only [Act.put, qI, qX, qY]
     refine wpAnyH_ready (rs := [7]) (by kernel_rfl) (by simp) ?_
     refine AllReadyH.cons (by simp only [qA, qS, qZ]; rfl) (fun K hK => ?_) AllReadyH.nil
     go_simp
     obtain ⟨Y7, hY7, y7B, y7z, y7k, y7b⟩ := set_four Y6 (X0.heap.size) 42 (.int .i64 0) (.slice none 0 0) (.int .i64 0) (.slice none 0 0) (.int .i64 l.quote) (.slice a3 l.lists.length c3) (.int .i64 l.kind) (.slice none 0 0) z5y
     rw [hY7]
     refine hK.out _ _ (HS3.out X4 Y7 N4.out.1 ((y7k _ (fun e => mC e.symm)).trans (Z6.out.2.1 _ (fun e => mB e.symm)))) (fun hHeld => ?_)
     refine wpAnyH_done (by kernel_rfl) ?_ _
     have key : ∀ b : Nat, (∀ cs, X4.heap[b]? ≠ some (.cells cs 42)) → Y7.heap[b]? = X4.heap[b]? := fun b hno => (y7k b (fun e => by subst e; exact hno _ z5)).trans (Z6.out.2.1 b (fun e => by subst e; exact hno _ z4))
     exact ⟨X1.heap.size, X0.heap.size, a1, c1, a3, c3, _, _, _, _, _, _, _, _, _, _, _, _, _, _, _, _, _, _, _, _, _, _, _, _, _, _, _, _, _, _, _, _, _, _, _, _, _, _, _, _, rfl, eB, eC, nBC, (y7k _ nBC).trans Z6.out.1, y7B, SliceR.tagged (tagged_of _ _) (by decide) N4.out.2.2.2.2.2.2.1 (by omega) (fun b _ _ hno => key b hno) (fun b h _ => h), SliceR.tagged (tagged_of _ _) (by decide) N4.out.2.2.2.2.2.2.2 (by omega) (fun b _ _ hno => key b hno) (fun b h _ => h), y7b _ eC _ (Z6.out.2.2 _ eB _ N4.out.1)⟩
    exact AllReadyH.nil
   exact AllReadyH.nil
  exact AllReadyH.nil
 exact AllReadyH.nil
end Go.Proofs.YtpndnbjpnajaaaaGreatDoor
