/- The walks of the reference's Outdent, Free of a line. -/
import Derived.Test.YtpndnbjpnajaaaaGreatDoorCellsInsertK
import Derived.Test.YtpndnbjpnajaaaaGreatDoorReplaceK
import Derived.Test.YtpndnbjpnajaaaaGreatDoorRefDoesK
import Derived.Test.YtpndnbjpnajaaaaGreatDoorKeyLawsK
set_option linter.unusedVariables false
set_option linter.unusedSimpArgs false
namespace Go.Proofs.YtpndnbjpnajaaaaGreatDoor
open Go.RowKit
open Go.Proofs.Qw
attribute [local go_sem] Oper.semAt_some
theorem belowT {w W : World} (h : Below w.heap.size w W) (X Y : Obj) : Below w.heap.size w ((W.alloc X).alloc Y) := (h.alloc h.size X).alloc (Nat.le_trans h.size (by simp)) Y
set_option maxRecDepth 100000 in
set_option maxHeartbeats 4000000 in
theorem refOutdent_any (l : Lin) (la ca : Option Addr) (lc cc : Nat) (w : World) (S : Nat → Prop) (hL : IntsR false w S (.slice la l.lists.length lc) l.lists) (hC : CelsR false w S (.slice ca l.cells.length cc) l.cells)
  (hs : l.lists.length ≤ 1000000 ∧ l.cells.length ≤ 1000000) (hh : ∀ c ∈ l.cells, c.href.length ≤ 1000000) (hm : mayL l = true) :
  Calls Tryz.prog 117 #[linV l (.slice la l.lists.length lc) (.slice ca l.cells.length cc)] w (TurnSaid w (outdentL l)) := by
 obtain ⟨hq0, hq6, hl6, hk0, hk3, _⟩ := mayL_facts hm
 obtain ⟨W1, hW1, hB, hz, hA1, hA2⟩ := two_lines w (.int .i64 l.quote) (.slice la l.lists.length lc) (.int .i64 l.kind) (.slice ca l.cells.length cc) (.int .i64 0) (.slice none 0 0) (.int .i64 0) (.slice none 0 0)
 have HM := Lib.hid (refLineMay_any l _ _ W1 S (SliceR.below (rdOf_stable _) hL hB) (SliceR.below (rdOf_stable _) hC hB) hh)
 rw [hm] at HM
 have HO : Hid (∀ W, Below w.heap.size w W → Calls Tryz.prog 173 #[linV l (.slice la l.lists.length lc) (.slice ca l.cells.length cc)] W fun e w' => ∃ a' b', e = .returned (linV l a' b') ∧ IntsR true w' (fun b => W.heap.size ≤ b) a' l.lists ∧ CelsR true w' (fun b => W.heap.size ≤ b) b' l.cells ∧ Below W.heap.size W w') := Lib.hid fun W hW => refOwnL_any l _ _ false false W S (SliceR.below (rdOf_stable _) hL hW) (SliceR.below (rdOf_stable _) hC hW) hs
 have hs1 := hB.size
 have HB0 : Hid (∀ W, Below W1.heap.size W1 W → W.heap[w.heap.size]? = some (.cells #[.int .i64 l.quote, .slice la l.lists.length lc, .int .i64 l.kind, .slice ca l.cells.length cc] 42) ∧ W.heap[w.heap.size + 1]? = some (.cells #[.int .i64 0, .slice none 0 0, .int .i64 0, .slice none 0 0] 42)) := Lib.hid fun W hW => ⟨heap_below hW hA1, heap_below hW hA2⟩
 have H1 := Lib.hid hB
 have HL := Lib.hid hL
 have hll := hL.len
 unfold maxLen at hll
 obtain ⟨p1, f1⟩ := blk hA1
 obtain ⟨p2, f2⟩ := blk hA2
 clear hL hC hs hB hm
 unfold linV at HM HO ⊢
 rcases (show (∃ n, l.lists.length = n + 1) ∨ (l.lists.length = 0 ∧ 0 < l.quote) ∨ (l.lists.length = 0 ∧ l.quote = 0) by
  rcases Nat.eq_zero_or_pos l.lists.length with h | h
  ·rcases (show 0 < l.quote ∨ l.quote = 0 by omega) with k | k
   ·exact .inr (.inl ⟨h, k⟩)
   ·exact .inr (.inr ⟨h, k⟩)
  ·exact .inl ⟨l.lists.length - 1, by omega⟩) with ⟨n, hn⟩ | ⟨hn, hq⟩ | ⟨hn, hq⟩
 ·have HR : Hid (outdentL l = some { l with lists := l.lists.take n }) := Lib.hid (by unfold outdentL; rw [if_pos (by intro e; rw [e] at hn; cases hn), List.dropLast_eq_take, hn, Nat.add_sub_cancel])
  rw [HR.out]
  have HN := Lib.hid hn
  rw [hn] at hW1 hA1 hll p1 hl6 HO HM HB0 HL ⊢
  clear hn
  have htn : (l.lists.take n).length = n := by rw [List.length_take, HN.out]; omega
  have HSR : Hid (∀ W, Below w.heap.size w W → Src Tryz.prog 1 39 (.slice la n lc) (l.lists.take n).length ((l.lists.take n).flatMap encInt) W) := Lib.hid fun W hW => SliceR.src_flat rowInt eltInt (SliceR.take (SliceR.below (rdOf_stable _) HL.out hW) (i := n) (by have := HN.out; omega))
  have HLN : Hid ((l.lists.take n).length ≤ 100000000) := Lib.hid (by omega)
  have HTN := Lib.hid htn
  obtain ⟨a0, c0, he0, hc0, hm0, hx0⟩ := ints_shape HL.out
  injection he0 with he1 he2 he3
  subst he1 he3
  obtain ⟨x0, hx1, _⟩ := getOf l.lists n (by have := HN.out; omega)
  obtain ⟨b0, o0, rfl, hz0, c1⟩ := hx0 n x0 hx1
  clear hx0 hc0 hm0 hz0 c1 htn he2
  have hl0 : (((n + 1 : Nat) : Int) == 0) = false := by simp; omega
  have hl1 : (0 : Int) < ((n + 1 : Nat) : Int) := by omega
  have e1 : IntKind.i64.wrap (((n + 1 : Nat) : Int) - 1) = (n : Int) := by rw [show (((n + 1 : Nat) : Int) - 1) = (n : Int) by omega]; exact IntWalk.i64_in _ (by omega)
  have n0 : (0 : Int) ≤ (n : Int) := Int.natCast_nonneg _
  have n1 : (n : Int) ≤ lc := by omega
  have n2 : n ≤ lc := by omega
  have n3 : ((n : Int)).toNat = n := Int.toNat_natCast _
  go_enter Tryz.func117, Tryz.ntmps117
  go_wp2_with (first
   | (go_at_call 139; refine HM.out.mono ?_; rintro e w2 ⟨rfl, hb2⟩; obtain ⟨hA3, hA4⟩ := HB0.out _ hb2; obtain ⟨q0, g0⟩ := blk hA3; obtain ⟨q1, g1⟩ := blk hA4; clear p1 f1 p2 f2; have z2 : w.heap.size + 2 ≤ w2.heap.size := (by have := hb2.size; omega))
   | (go_at_call 173; refine (HO.out _ (below_from H1.out hb2)).mono ?_; rintro e w3 ⟨a1', b1', rfl, ha', hb', hb3⟩; obtain ⟨a1, c1, rfl⟩ := ha'.slice; obtain ⟨a2, c2, rfl⟩ := hb'.slice; obtain ⟨hA5, hA6⟩ := HB0.out _ (below_from hb2 hb3); obtain ⟨p3, f3⟩ := blk hA5; obtain ⟨p4, f4⟩ := blk hA6; have z3 : w.heap.size + 2 ≤ w3.heap.size := (by have := hb2.size; have := hb3.size; omega); have m1 : ¬ w3.heap.size = w.heap.size := (by omega); have m2 : ¬ w3.heap.size = w.heap.size + 1 := (by omega); have m3 : ¬ w.heap.size = w3.heap.size := (by omega); have m4 : ¬ w.heap.size + 1 = w3.heap.size := (by omega); have m5 : w.heap.size < w3.heap.size := (by omega); have m6 : w.heap.size + 1 < w3.heap.size := (by omega); have hb13 := below_from hb2 hb3; have HAB := Lib.hid (And.intro ha' hb'); clear q0 g0 q1 g1 ha' hb')
   | (at_builtin; refine wpList_append_R _ rfl _ _ 39 39 rfl rowInt eltInt (w3.heap.size + 1) _ _ (xs := []) (ys := l.lists.take n) (news := (l.lists.take n).flatMap encInt) rfl rfl (SliceR.empty _ _ _ _ _ _ _) (by simp) (HSR.out _ (belowT (H1.out.trans (hb13.mono hs1)) _ _)) (flatInt _ _ _) (by rw [List.length_nil, Nat.zero_add]; exact HLN.out) ?_; intro v5 w5 hR hB5 _ _; obtain ⟨a5, c5, hv5⟩ := hR.slice; rw [List.nil_append] at hR hv5; rw [HTN.out] at hv5; subst hv5; have HR5 := Lib.hid hR; have j5 := (hB5.block w3.heap.size (Nat.lt_succ_self _)).trans (heap_old _ _ (heap_new _ _ rfl)); have j6 := (hB5.block w.heap.size (by omega)).trans (heap_old _ _ (heap_old _ _ hA5)); have j7 := (hB5.block (w.heap.size + 1) (by omega)).trans (heap_old _ _ (heap_old _ _ hA6)); obtain ⟨t5, u5⟩ := blk j5; obtain ⟨t7, u7⟩ := blk j7; have HB5 := Lib.hid hB5; clear hR hB5))
  refine bodyPost_ret (results_lineE rfl _ _ (w.heap.size + 1) (.int .i64 l.quote) (.slice a5 n c5) (.int .i64 l.kind) (.slice a2 l.cells.length c2) rfl (by simp [heap_set, putIn, j7, m2])) rfl ?_
  have hx3 : Below w.heap.size w w3 := H1.out.trans (hb13.mono hs1)
  have hx5 : Below w.heap.size w w5 := (belowT hx3 _ _).trans (HB5.out.mono (by omega))
  refine ⟨fun l'' h => ?_, fun h => (by cases h), ?_⟩
  ·cases h
   have hr5 := HR5.out
   have hc2 : CelsR true w5 (fun b => w.heap.size + 2 ≤ b ∧ b < w3.heap.size) (.slice a2 l.cells.length c2) l.cells :=
    SliceR.stable (rdOf_stable _) (SliceR.bounded (rdOf_stable _) HAB.out.2) ((((Keeps.refl _ w3).alloc _).alloc _).trans ⟨HB5.out.size, fun b hb hz => HB5.out.block b (Nat.lt_succ_of_lt hb.2)⟩) (fun b h _ => ⟨Nat.le_trans z2 h.1, h.2⟩)
   refine ⟨_, _, rfl, ?_, ?_⟩
   ·exact SliceR.stable (rdOf_stable _) hr5 (by (repeat' (first | (with_reducible exact Keeps.refl _ _) | (with_reducible refine Keeps.set ?_ ?_ _) | (with_reducible refine Keeps.alloc ?_ _) | (with_reducible refine Keeps.drew ?_) | (first | (simp; done)) | (simp; omega)))) (fun b h _ => (by have h' : w3.heap.size + 1 ≤ b := h; omega))
   ·exact SliceR.stable (rdOf_stable _) hc2 (by (repeat' (first | (with_reducible exact Keeps.refl _ _) | (with_reducible refine Keeps.set ?_ ?_ _) | (with_reducible refine Keeps.alloc ?_ _) | (with_reducible refine Keeps.drew ?_) | (first | (simp; done)) | (simp; omega)))) (fun b h _ => Nat.le_trans (by omega) h.1)
  ·(repeat' (first | (with_reducible exact Below.refl _ _) | (with_reducible assumption) | (with_reducible refine Below.alloc ?_ ?_ _) | (with_reducible refine Below.drew ?_) | (with_reducible refine drewN_below ?_) | (with_reducible refine Below.setCell ?_ ?_ _) | go_size))
 ·have HR : Hid (outdentL l = some { l with quote := l.quote - 1 }) := Lib.hid (by unfold outdentL; rw [if_neg (by simp [List.length_eq_zero_iff.1 hn]), if_pos hq])
  rw [HR.out]
  have HN := Lib.hid hn
  have hl0 : (((l.lists.length : Nat) : Int) == 0) = true := by simp [hn]
  have hl1 : ¬ (0 : Int) < ((l.lists.length : Nat) : Int) := by omega
  have hl2 : ¬ 0 < l.lists.length := by omega
  have hq1 : (l.quote == 0) = false := by simp; omega
  have e1 : IntKind.i64.wrap (l.quote - 1) = l.quote - 1 := IntWalk.i64_in _ (by omega)
  clear hq
  clear hn
  go_enter Tryz.func117, Tryz.ntmps117
  go_wp2_with (first
   | (go_at_call 139; refine HM.out.mono ?_; rintro e w2 ⟨rfl, hb2⟩; obtain ⟨hA3, hA4⟩ := HB0.out _ hb2; obtain ⟨q0, g0⟩ := blk hA3; obtain ⟨q1, g1⟩ := blk hA4; clear p1 f1 p2 f2; have z2 : w.heap.size + 2 ≤ w2.heap.size := (by have := hb2.size; omega))
   | (go_at_call 173; refine (HO.out _ (below_from H1.out hb2)).mono ?_; rintro e w3 ⟨a1', b1', rfl, ha', hb', hb3⟩; obtain ⟨a1, c1, rfl⟩ := ha'.slice; obtain ⟨a2, c2, rfl⟩ := hb'.slice; obtain ⟨hA5, hA6⟩ := HB0.out _ (below_from hb2 hb3); obtain ⟨p3, f3⟩ := blk hA5; obtain ⟨p4, f4⟩ := blk hA6; have z3 : w.heap.size + 2 ≤ w3.heap.size := (by have := hb2.size; have := hb3.size; omega); have m1 : ¬ w3.heap.size = w.heap.size := (by omega); have m2 : ¬ w3.heap.size = w.heap.size + 1 := (by omega); have m3 : ¬ w.heap.size = w3.heap.size := (by omega); have m4 : ¬ w.heap.size + 1 = w3.heap.size := (by omega); have m5 : w.heap.size < w3.heap.size := (by omega); have m6 : w.heap.size + 1 < w3.heap.size := (by omega); have hb13 := below_from hb2 hb3; have HAB := Lib.hid (And.intro ha' hb'); clear q0 g0 q1 g1 ha' hb'))
  refine bodyPost_ret (results_lineE rfl _ _ (w.heap.size + 1) (.int .i64 (l.quote - 1)) (.slice a1 l.lists.length c1) (.int .i64 l.kind) (.slice a2 l.cells.length c2) rfl (heap_old _ _ (by simp [heap_set, putIn, hA6]))) rfl ?_
  have hx3 : Below w.heap.size w w3 := H1.out.trans (hb13.mono hs1)
  refine ⟨fun l'' h => ?_, fun h => (by cases h), ?_⟩
  ·cases h
   have hi2 := SliceR.stable (S' := fun b => w.heap.size + 2 ≤ b ∧ b < w3.heap.size) (rdOf_stable _) (SliceR.bounded (rdOf_stable _) HAB.out.1) (Keeps.refl _ _) (fun b h _ => ⟨Nat.le_trans z2 h.1, h.2⟩)
   have hc2 := SliceR.stable (S' := fun b => w.heap.size + 2 ≤ b ∧ b < w3.heap.size) (rdOf_stable _) (SliceR.bounded (rdOf_stable _) HAB.out.2) (Keeps.refl _ _) (fun b h _ => ⟨Nat.le_trans z2 h.1, h.2⟩)
   refine ⟨_, _, rfl, ?_, ?_⟩
   ·exact SliceR.stable (rdOf_stable _) hi2 (by (repeat' (first | (with_reducible exact Keeps.refl _ _) | (with_reducible refine Keeps.set ?_ ?_ _) | (with_reducible refine Keeps.alloc ?_ _) | (with_reducible refine Keeps.drew ?_) | (first | (simp; done)) | (simp; omega)))) (fun b h _ => Nat.le_trans (by omega) h.1)
   ·exact SliceR.stable (rdOf_stable _) hc2 (by (repeat' (first | (with_reducible exact Keeps.refl _ _) | (with_reducible refine Keeps.set ?_ ?_ _) | (with_reducible refine Keeps.alloc ?_ _) | (with_reducible refine Keeps.drew ?_) | (first | (simp; done)) | (simp; omega)))) (fun b h _ => Nat.le_trans (by omega) h.1)
  ·(repeat' (first | (with_reducible exact Below.refl _ _) | (with_reducible assumption) | (with_reducible refine Below.alloc ?_ ?_ _) | (with_reducible refine Below.drew ?_) | (with_reducible refine drewN_below ?_) | (with_reducible refine Below.setCell ?_ ?_ _) | go_size))
 ·have HR : Hid (outdentL l = none) := Lib.hid (by unfold outdentL; rw [if_neg (by simp [List.length_eq_zero_iff.1 hn]), if_neg (by omega)])
  rw [HR.out]
  have HN := Lib.hid hn
  have hl0 : (((l.lists.length : Nat) : Int) == 0) = true := by simp [hn]
  have hl1 : ¬ (0 : Int) < ((l.lists.length : Nat) : Int) := by omega
  have hl2 : ¬ 0 < l.lists.length := by omega
  have hq1 : (l.quote == 0) = true := by simp [hq]
  have HQ := Lib.hid hq
  clear hq
  clear hn
  go_enter Tryz.func117, Tryz.ntmps117
  go_wp2_with (first
   | (go_at_call 139; refine HM.out.mono ?_; rintro e w2 ⟨rfl, hb2⟩; obtain ⟨hA3, hA4⟩ := HB0.out _ hb2; obtain ⟨q0, g0⟩ := blk hA3; obtain ⟨q1, g1⟩ := blk hA4; clear p1 f1 p2 f2; have z2 : w.heap.size + 2 ≤ w2.heap.size := (by have := hb2.size; omega))
   | (go_at_call 173; refine (HO.out _ (below_from H1.out hb2)).mono ?_; rintro e w3 ⟨a1', b1', rfl, ha', hb', hb3⟩; obtain ⟨a1, c1, rfl⟩ := ha'.slice; obtain ⟨a2, c2, rfl⟩ := hb'.slice; obtain ⟨hA5, hA6⟩ := HB0.out _ (below_from hb2 hb3); obtain ⟨p3, f3⟩ := blk hA5; obtain ⟨p4, f4⟩ := blk hA6; have z3 : w.heap.size + 2 ≤ w3.heap.size := (by have := hb2.size; have := hb3.size; omega); have m1 : ¬ w3.heap.size = w.heap.size := (by omega); have m2 : ¬ w3.heap.size = w.heap.size + 1 := (by omega); have m3 : ¬ w.heap.size = w3.heap.size := (by omega); have m4 : ¬ w.heap.size + 1 = w3.heap.size := (by omega); have m5 : w.heap.size < w3.heap.size := (by omega); have m6 : w.heap.size + 1 < w3.heap.size := (by omega); have hb13 := below_from hb2 hb3; have HAB := Lib.hid (And.intro ha' hb'); clear q0 g0 q1 g1 ha' hb'))
  refine bodyPost_ret (results_lineE rfl _ _ (w.heap.size + 1) (.int .i64 0) (.slice none 0 0) (.int .i64 0) (.slice none 0 0) rfl (heap_old _ _ (by simp [heap_set, putIn, hA6]))) rfl ?_
  have hx3 : Below w.heap.size w w3 := H1.out.trans (hb13.mono hs1)
  refine ⟨fun l'' h => (by cases h), fun _ => rfl, ?_⟩
  (repeat' (first | (with_reducible exact Below.refl _ _) | (with_reducible assumption) | (with_reducible refine Below.alloc ?_ ?_ _) | (with_reducible refine Below.drew ?_) | (with_reducible refine drewN_below ?_) | (with_reducible refine Below.setCell ?_ ?_ _) | go_size))
set_option maxRecDepth 100000 in
set_option maxHeartbeats 4000000 in
theorem refFree_any (l : Lin) (la ca : Option Addr) (lc cc : Nat) (w : World) (S : Nat → Prop) (hL : IntsR false w S (.slice la l.lists.length lc) l.lists) (hC : CelsR false w S (.slice ca l.cells.length cc) l.cells)
  (hs : l.lists.length ≤ 1000000 ∧ l.cells.length ≤ 1000000) (hh : ∀ c ∈ l.cells, c.href.length ≤ 1000000) (hm : mayL l = true) :
  Calls Tryz.prog 123 #[linV l (.slice la l.lists.length lc) (.slice ca l.cells.length cc)] w (TurnSaid w (freeL l)) := by
 obtain ⟨hq0, hq6, hl6, hk0, hk3, _⟩ := mayL_facts hm
 obtain ⟨W1, hW1, hB, hz, hA1, hA2⟩ := two_lines w (.int .i64 l.quote) (.slice la l.lists.length lc) (.int .i64 l.kind) (.slice ca l.cells.length cc) (.int .i64 0) (.slice none 0 0) (.int .i64 0) (.slice none 0 0)
 have HM := Lib.hid (refLineMay_any l _ _ W1 S (SliceR.below (rdOf_stable _) hL hB) (SliceR.below (rdOf_stable _) hC hB) hh)
 rw [hm] at HM
 have HO : Hid (∀ W, Below w.heap.size w W → Calls Tryz.prog 173 #[linV l (.slice la l.lists.length lc) (.slice ca l.cells.length cc)] W fun e w' => ∃ a' b', e = .returned (linV l a' b') ∧ IntsR true w' (fun b => W.heap.size ≤ b) a' l.lists ∧ CelsR true w' (fun b => W.heap.size ≤ b) b' l.cells ∧ Below W.heap.size W w') := Lib.hid fun W hW => refOwnL_any l _ _ false false W S (SliceR.below (rdOf_stable _) hL hW) (SliceR.below (rdOf_stable _) hC hW) hs
 have hs1 := hB.size
 have HB0 : Hid (∀ W, Below W1.heap.size W1 W → W.heap[w.heap.size]? = some (.cells #[.int .i64 l.quote, .slice la l.lists.length lc, .int .i64 l.kind, .slice ca l.cells.length cc] 42) ∧ W.heap[w.heap.size + 1]? = some (.cells #[.int .i64 0, .slice none 0 0, .int .i64 0, .slice none 0 0] 42)) := Lib.hid fun W hW => ⟨heap_below hW hA1, heap_below hW hA2⟩
 have H1 := Lib.hid hB
 have HL := Lib.hid hL
 have hll := hL.len
 unfold maxLen at hll
 obtain ⟨p1, f1⟩ := blk hA1
 obtain ⟨p2, f2⟩ := blk hA2
 have HD : Hid (∀ W, Below w.heap.size w W → Calls Tryz.prog 117 #[linV l (.slice la l.lists.length lc) (.slice ca l.cells.length cc)] W (TurnSaid W (outdentL l))) := Lib.hid fun W hW => refOutdent_any l la ca lc cc W S (SliceR.below (rdOf_stable _) hL hW) (SliceR.below (rdOf_stable _) hC hW) hs hh hm
 clear hL hC hs hB hm
 simp only [linV] at HM HO HD ⊢
 rcases (show (l.lists.length = 0 ∧ 0 < l.kind) ∨ (l.lists.length ≠ 0) ∨ (l.lists.length = 0 ∧ l.kind = 0) by omega) with ⟨hn, hk⟩ | hn | ⟨hn, hk⟩
 ·have HR : Hid (freeL l = some { l with kind := 0 }) := Lib.hid (by unfold freeL; rw [if_neg (by simp [List.length_eq_zero_iff.1 hn]), if_pos hk])
  rw [HR.out]
  have HN := Lib.hid hn
  have hl0 : (((l.lists.length : Nat) : Int) == 0) = true := by simp [hn]
  clear hn
  go_enter Tryz.func123, Tryz.ntmps123
  go_wp2_with (first
   | (go_at_call 139; refine HM.out.mono ?_; rintro e w2 ⟨rfl, hb2⟩; obtain ⟨hA3, hA4⟩ := HB0.out _ hb2; obtain ⟨q0, g0⟩ := blk hA3; obtain ⟨q1, g1⟩ := blk hA4; clear p1 f1 p2 f2; have z2 : w.heap.size + 2 ≤ w2.heap.size := (by have := hb2.size; omega))
   | (go_at_call 173; refine (HO.out _ (below_from H1.out hb2)).mono ?_; rintro e w3 ⟨a1', b1', rfl, ha', hb', hb3⟩; obtain ⟨a1, c1, rfl⟩ := ha'.slice; obtain ⟨a2, c2, rfl⟩ := hb'.slice; obtain ⟨hA5, hA6⟩ := HB0.out _ (below_from hb2 hb3); obtain ⟨p3, f3⟩ := blk hA5; obtain ⟨p4, f4⟩ := blk hA6; have z3 : w.heap.size + 2 ≤ w3.heap.size := (by have := hb2.size; have := hb3.size; omega); have m1 : ¬ w3.heap.size = w.heap.size := (by omega); have m2 : ¬ w3.heap.size = w.heap.size + 1 := (by omega); have m3 : ¬ w.heap.size = w3.heap.size := (by omega); have m4 : ¬ w.heap.size + 1 = w3.heap.size := (by omega); have m5 : w.heap.size < w3.heap.size := (by omega); have m6 : w.heap.size + 1 < w3.heap.size := (by omega); have hb13 := below_from hb2 hb3; have HAB := Lib.hid (And.intro ha' hb'); clear q0 g0 q1 g1 ha' hb'))
  refine bodyPost_ret (results_lineE rfl _ _ (w.heap.size + 1) (.int .i64 l.quote) (.slice a1 l.lists.length c1) (.int .i64 0) (.slice a2 l.cells.length c2) rfl (heap_old _ _ (by simp [heap_set, putIn, hA6]))) rfl ?_
  have hx3 : Below w.heap.size w w3 := H1.out.trans (hb13.mono hs1)
  refine ⟨fun l'' h => ?_, fun h => (by cases h), ?_⟩
  ·cases h
   have hi2 := SliceR.stable (S' := fun b => w.heap.size + 2 ≤ b ∧ b < w3.heap.size) (rdOf_stable _) (SliceR.bounded (rdOf_stable _) HAB.out.1) (Keeps.refl _ _) (fun b h _ => ⟨Nat.le_trans z2 h.1, h.2⟩)
   have hc2 := SliceR.stable (S' := fun b => w.heap.size + 2 ≤ b ∧ b < w3.heap.size) (rdOf_stable _) (SliceR.bounded (rdOf_stable _) HAB.out.2) (Keeps.refl _ _) (fun b h _ => ⟨Nat.le_trans z2 h.1, h.2⟩)
   refine ⟨_, _, rfl, ?_, ?_⟩
   ·exact SliceR.stable (rdOf_stable _) hi2 (by (repeat' (first | (with_reducible exact Keeps.refl _ _) | (with_reducible refine Keeps.set ?_ ?_ _) | (with_reducible refine Keeps.alloc ?_ _) | (with_reducible refine Keeps.drew ?_) | (first | (simp; done)) | (simp; omega)))) (fun b h _ => Nat.le_trans (by omega) h.1)
   ·exact SliceR.stable (rdOf_stable _) hc2 (by (repeat' (first | (with_reducible exact Keeps.refl _ _) | (with_reducible refine Keeps.set ?_ ?_ _) | (with_reducible refine Keeps.alloc ?_ _) | (with_reducible refine Keeps.drew ?_) | (first | (simp; done)) | (simp; omega)))) (fun b h _ => Nat.le_trans (by omega) h.1)
  ·(repeat' (first | (with_reducible exact Below.refl _ _) | (with_reducible assumption) | (with_reducible refine Below.alloc ?_ ?_ _) | (with_reducible refine Below.drew ?_) | (with_reducible refine drewN_below ?_) | (with_reducible refine Below.setCell ?_ ?_ _) | go_size))
 ·have HR : Hid (freeL l = outdentL l) := Lib.hid (by
   unfold freeL outdentL; by_cases hc : l.lists ≠ []
   ·rw [if_pos hc, if_pos hc]
   ·exact absurd (by rw [Decidable.not_not.1 hc]; rfl) hn)
  rw [HR.out]
  have HN := Lib.hid hn
  have hl0 : (((l.lists.length : Nat) : Int) == 0) = false := beq_false_of_ne (by omega)
  clear hn
  cases ho : outdentL l with
  | none =>
   have HT := Lib.hid ho
   clear ho
   go_enter Tryz.func123, Tryz.ntmps123
   go_wp2_with (first
    | (go_at_call 139; refine HM.out.mono ?_; rintro e w2 ⟨rfl, hb2⟩; obtain ⟨hA3, hA4⟩ := HB0.out _ hb2; obtain ⟨q0, g0⟩ := blk hA3; obtain ⟨q1, g1⟩ := blk hA4; clear p1 f1 p2 f2; have z2 : w.heap.size + 2 ≤ w2.heap.size := (by have := hb2.size; omega))
    | (go_at_call 117; refine (HD.out _ (below_from H1.out hb2)).mono ?_; rintro e w3 ⟨h1, h2, hb3⟩; rw [HT.out] at h1 h2; obtain rfl := h2 rfl; clear h1 h2; obtain ⟨hA5, hA6⟩ := HB0.out _ (below_from hb2 hb3); obtain ⟨p3, f3⟩ := blk hA5; obtain ⟨p4, f4⟩ := blk hA6; have z3 : w.heap.size + 2 ≤ w3.heap.size := (by have := hb2.size; have := hb3.size; omega); have hb13 := below_from hb2 hb3; clear q0 g0 q1 g1))
   refine bodyPost_ret (results_lineE rfl _ _ (w.heap.size + 1) (.int .i64 0) (.slice none 0 0) (.int .i64 0) (.slice none 0 0) rfl (by simp [heap_set, putIn, hA6])) rfl ?_
   have hx3 : Below w.heap.size w w3 := H1.out.trans (hb13.mono hs1)
   refine ⟨fun l'' h => (by cases h), fun _ => rfl, ?_⟩
   (repeat' (first | (with_reducible exact Below.refl _ _) | (with_reducible assumption) | (with_reducible refine Below.alloc ?_ ?_ _) | (with_reducible refine Below.drew ?_) | (with_reducible refine drewN_below ?_) | (with_reducible refine Below.setCell ?_ ?_ _) | go_size))
  | some l' =>
   have HT := Lib.hid ho
   clear ho
   go_enter Tryz.func123, Tryz.ntmps123
   go_wp2_with (first
    | (go_at_call 139; refine HM.out.mono ?_; rintro e w2 ⟨rfl, hb2⟩; obtain ⟨hA3, hA4⟩ := HB0.out _ hb2; obtain ⟨q0, g0⟩ := blk hA3; obtain ⟨q1, g1⟩ := blk hA4; clear p1 f1 p2 f2; have z2 : w.heap.size + 2 ≤ w2.heap.size := (by have := hb2.size; omega))
    | (go_at_call 117; refine (HD.out _ (below_from H1.out hb2)).mono ?_; rintro e w3 ⟨h1, h2, hb3⟩; rw [HT.out] at h1 h2; obtain ⟨a1', b1', he, ha', hb'⟩ := h1 l' rfl; simp only [linV] at he; subst he; obtain ⟨a1, c1, rfl⟩ := ha'.slice; obtain ⟨a2, c2, rfl⟩ := hb'.slice; have HAB := Lib.hid (And.intro ha' hb'); clear ha' hb'; clear h1 h2; obtain ⟨hA5, hA6⟩ := HB0.out _ (below_from hb2 hb3); obtain ⟨p3, f3⟩ := blk hA5; obtain ⟨p4, f4⟩ := blk hA6; have z3 : w.heap.size + 2 ≤ w3.heap.size := (by have := hb2.size; have := hb3.size; omega); have hb13 := below_from hb2 hb3; clear q0 g0 q1 g1))
   refine bodyPost_ret (results_lineE rfl _ _ (w.heap.size + 1) (.int .i64 l'.quote) (.slice a1 l'.lists.length c1) (.int .i64 l'.kind) (.slice a2 l'.cells.length c2) rfl (by simp [heap_set, putIn, hA6])) rfl ?_
   have hx3 : Below w.heap.size w w3 := H1.out.trans (hb13.mono hs1)
   refine ⟨fun l'' h => ?_, fun h => (by cases h), ?_⟩
   ·cases h
    have hi2 := SliceR.stable (S' := fun b => w.heap.size + 2 ≤ b ∧ b < w3.heap.size) (rdOf_stable _) (SliceR.bounded (rdOf_stable _) HAB.out.1) (Keeps.refl _ _) (fun b h _ => ⟨Nat.le_trans z2 h.1, h.2⟩)
    have hc2 := SliceR.stable (S' := fun b => w.heap.size + 2 ≤ b ∧ b < w3.heap.size) (rdOf_stable _) (SliceR.bounded (rdOf_stable _) HAB.out.2) (Keeps.refl _ _) (fun b h _ => ⟨Nat.le_trans z2 h.1, h.2⟩)
    refine ⟨_, _, rfl, ?_, ?_⟩
    ·exact SliceR.stable (rdOf_stable _) hi2 (by (repeat' (first | (with_reducible exact Keeps.refl _ _) | (with_reducible refine Keeps.set ?_ ?_ _) | (with_reducible refine Keeps.alloc ?_ _) | (with_reducible refine Keeps.drew ?_) | (first | (simp; done)) | (simp; omega)))) (fun b h _ => Nat.le_trans (by omega) h.1)
    ·exact SliceR.stable (rdOf_stable _) hc2 (by (repeat' (first | (with_reducible exact Keeps.refl _ _) | (with_reducible refine Keeps.set ?_ ?_ _) | (with_reducible refine Keeps.alloc ?_ _) | (with_reducible refine Keeps.drew ?_) | (first | (simp; done)) | (simp; omega)))) (fun b h _ => Nat.le_trans (by omega) h.1)
   ·(repeat' (first | (with_reducible exact Below.refl _ _) | (with_reducible assumption) | (with_reducible refine Below.alloc ?_ ?_ _) | (with_reducible refine Below.drew ?_) | (with_reducible refine drewN_below ?_) | (with_reducible refine Below.setCell ?_ ?_ _) | go_size))
 ·have HR : Hid (freeL l = outdentL l) := Lib.hid (by
   have hz := List.length_eq_zero_iff.1 hn
   unfold freeL outdentL; rw [if_neg (not_not_intro hz), if_neg (not_not_intro hz), if_neg (by omega)])
  rw [HR.out]
  have HN := Lib.hid hn
  have hl0 : (((l.lists.length : Nat) : Int) == 0) = true := by simp [hn]
  have hk1 : ¬ (0 : Int) < l.kind := by omega
  have HK := Lib.hid hk
  clear hk
  clear hn
  cases ho : outdentL l with
  | none =>
   have HT := Lib.hid ho
   clear ho
   go_enter Tryz.func123, Tryz.ntmps123
   go_wp2_with (first
    | (go_at_call 139; refine HM.out.mono ?_; rintro e w2 ⟨rfl, hb2⟩; obtain ⟨hA3, hA4⟩ := HB0.out _ hb2; obtain ⟨q0, g0⟩ := blk hA3; obtain ⟨q1, g1⟩ := blk hA4; clear p1 f1 p2 f2; have z2 : w.heap.size + 2 ≤ w2.heap.size := (by have := hb2.size; omega))
    | (go_at_call 117; refine (HD.out _ (below_from H1.out hb2)).mono ?_; rintro e w3 ⟨h1, h2, hb3⟩; rw [HT.out] at h1 h2; obtain rfl := h2 rfl; clear h1 h2; obtain ⟨hA5, hA6⟩ := HB0.out _ (below_from hb2 hb3); obtain ⟨p3, f3⟩ := blk hA5; obtain ⟨p4, f4⟩ := blk hA6; have z3 : w.heap.size + 2 ≤ w3.heap.size := (by have := hb2.size; have := hb3.size; omega); have hb13 := below_from hb2 hb3; clear q0 g0 q1 g1))
   refine bodyPost_ret (results_lineE rfl _ _ (w.heap.size + 1) (.int .i64 0) (.slice none 0 0) (.int .i64 0) (.slice none 0 0) rfl (by simp [heap_set, putIn, hA6])) rfl ?_
   have hx3 : Below w.heap.size w w3 := H1.out.trans (hb13.mono hs1)
   refine ⟨fun l'' h => (by cases h), fun _ => rfl, ?_⟩
   (repeat' (first | (with_reducible exact Below.refl _ _) | (with_reducible assumption) | (with_reducible refine Below.alloc ?_ ?_ _) | (with_reducible refine Below.drew ?_) | (with_reducible refine drewN_below ?_) | (with_reducible refine Below.setCell ?_ ?_ _) | go_size))
  | some l' =>
   have HT := Lib.hid ho
   clear ho
   go_enter Tryz.func123, Tryz.ntmps123
   go_wp2_with (first
    | (go_at_call 139; refine HM.out.mono ?_; rintro e w2 ⟨rfl, hb2⟩; obtain ⟨hA3, hA4⟩ := HB0.out _ hb2; obtain ⟨q0, g0⟩ := blk hA3; obtain ⟨q1, g1⟩ := blk hA4; clear p1 f1 p2 f2; have z2 : w.heap.size + 2 ≤ w2.heap.size := (by have := hb2.size; omega))
    | (go_at_call 117; refine (HD.out _ (below_from H1.out hb2)).mono ?_; rintro e w3 ⟨h1, h2, hb3⟩; rw [HT.out] at h1 h2; obtain ⟨a1', b1', he, ha', hb'⟩ := h1 l' rfl; simp only [linV] at he; subst he; obtain ⟨a1, c1, rfl⟩ := ha'.slice; obtain ⟨a2, c2, rfl⟩ := hb'.slice; have HAB := Lib.hid (And.intro ha' hb'); clear ha' hb'; clear h1 h2; obtain ⟨hA5, hA6⟩ := HB0.out _ (below_from hb2 hb3); obtain ⟨p3, f3⟩ := blk hA5; obtain ⟨p4, f4⟩ := blk hA6; have z3 : w.heap.size + 2 ≤ w3.heap.size := (by have := hb2.size; have := hb3.size; omega); have hb13 := below_from hb2 hb3; clear q0 g0 q1 g1))
   refine bodyPost_ret (results_lineE rfl _ _ (w.heap.size + 1) (.int .i64 l'.quote) (.slice a1 l'.lists.length c1) (.int .i64 l'.kind) (.slice a2 l'.cells.length c2) rfl (by simp [heap_set, putIn, hA6])) rfl ?_
   have hx3 : Below w.heap.size w w3 := H1.out.trans (hb13.mono hs1)
   refine ⟨fun l'' h => ?_, fun h => (by cases h), ?_⟩
   ·cases h
    have hi2 := SliceR.stable (S' := fun b => w.heap.size + 2 ≤ b ∧ b < w3.heap.size) (rdOf_stable _) (SliceR.bounded (rdOf_stable _) HAB.out.1) (Keeps.refl _ _) (fun b h _ => ⟨Nat.le_trans z2 h.1, h.2⟩)
    have hc2 := SliceR.stable (S' := fun b => w.heap.size + 2 ≤ b ∧ b < w3.heap.size) (rdOf_stable _) (SliceR.bounded (rdOf_stable _) HAB.out.2) (Keeps.refl _ _) (fun b h _ => ⟨Nat.le_trans z2 h.1, h.2⟩)
    refine ⟨_, _, rfl, ?_, ?_⟩
    ·exact SliceR.stable (rdOf_stable _) hi2 (by (repeat' (first | (with_reducible exact Keeps.refl _ _) | (with_reducible refine Keeps.set ?_ ?_ _) | (with_reducible refine Keeps.alloc ?_ _) | (with_reducible refine Keeps.drew ?_) | (first | (simp; done)) | (simp; omega)))) (fun b h _ => Nat.le_trans (by omega) h.1)
    ·exact SliceR.stable (rdOf_stable _) hc2 (by (repeat' (first | (with_reducible exact Keeps.refl _ _) | (with_reducible refine Keeps.set ?_ ?_ _) | (with_reducible refine Keeps.alloc ?_ _) | (with_reducible refine Keeps.drew ?_) | (first | (simp; done)) | (simp; omega)))) (fun b h _ => Nat.le_trans (by omega) h.1)
   ·(repeat' (first | (with_reducible exact Below.refl _ _) | (with_reducible assumption) | (with_reducible refine Below.alloc ?_ ?_ _) | (with_reducible refine Below.drew ?_) | (with_reducible refine drewN_below ?_) | (with_reducible refine Below.setCell ?_ ?_ _) | go_size))
end Go.Proofs.YtpndnbjpnajaaaaGreatDoor
namespace Go.Proofs.YtpndnbjpnajaaaaGreatDoor
open Go.RowKit
open Go.Proofs.Qw
attribute [local go_sem] Oper.semAt_some
set_option maxRecDepth 100000 in
set_option maxHeartbeats 4000000 in
theorem refErase_any (v : Value) (s : St) (w : World) (S : Nat → Prop) (h : LinsR w S v s.lines) (hs : Small s.lines) (hf : Fits s.lines) (ho : -9223372036854775808 ≤ s.on ∧ s.on ≤ 9223372036854775807) (hof : -9223372036854775808 ≤ s.off ∧ s.off ≤ 9223372036854775807) :
  Calls Tryz.prog 46 #[stV v s] w (StSaid (keyS s (eraseK s)) w) := by
 obtain ⟨W1, hW1, hB, hz, k0, k1⟩ := st_two w v s
 have HB : Hid (∀ W, Below W1.heap.size W1 W → W.heap[w.heap.size]? = some (.cells #[v, .int .i64 s.anc.line, .int .i64 s.anc.col, .int .i64 s.foc.line, .int .i64 s.foc.col, .int .i64 s.on, .int .i64 s.off] 26) ∧ W.heap[w.heap.size + 1]? = some (.cells #[.slice none 0 0, .int .i64 0, .int .i64 0, .int .i64 0, .int .i64 0, .int .i64 0, .int .i64 0] 26)) := Lib.hid fun W hW => ⟨heap_below hW k0, heap_below hW k1⟩
 have hs1 := hB.size
 have H1 := Lib.hid hB
 have hw0 : Below W1.heap.size W1 W1 := Below.refl _ _
 have HV : Hid (∀ W, Below W1.heap.size W1 W → LinsR W S v s.lines) := Lib.hid fun W hW => h.below (rdLin_stable _) (hB.trans (hW.mono hs1))
 have HM : Hid (∀ W, Below W1.heap.size W1 W → Calls Tryz.prog 70 #[stV v s] W fun e w' => e = .returned (.bool (mayS s)) ∧ Below W.heap.size W w') := Lib.hid fun W hW => refStMay_any v s W S (HV.out W hW) hs ho hof
 obtain ⟨A, B, hAB⟩ : ∃ A B, spanS s = (A, B) := ⟨_, _, rfl⟩
 have hA : (spanS s).1 = A := by rw [hAB]
 have hBB : (spanS s).2 = B := by rw [hAB]
 have HSp : Hid (∀ W, Below W1.heap.size W1 W → Calls Tryz.prog 69 #[stV v s] W fun e w' => e = .returned (.tuple #[.agg #[.int .i64 A.line, .int .i64 A.col], .agg #[.int .i64 B.line, .int .i64 B.col]]) ∧ Below W.heap.size W w') := Lib.hid fun W _ => by have := refStSpan_any v s W; rw [hA, hBB] at this; exact this
 have HD0 : Hid (∀ W, Below W1.heap.size W1 W → Calls Tryz.prog 111 #[v, .agg #[.int .i64 A.line, .int .i64 A.col], .agg #[.int .i64 B.line, .int .i64 B.col]] W (DocSaid (deleteD s.lines A B) W)) := Lib.hid fun W hW => refDDelete_any v s.lines A B W S (HV.out W hW) hs hf
 obtain ⟨O, hO⟩ : ∃ O, outS s = O := ⟨_, rfl⟩
 have HCl : Hid (∀ v' n W, DocR true W (fun b => n ≤ b) v' O → Fits O → Calls Tryz.prog 112 #[v', .agg #[.int .i64 A.line, .int .i64 A.col]] W fun e w' => ∃ u, e = .returned (.agg #[u, .int .i64 A.line, .int .i64 A.col, .int .i64 A.line, .int .i64 A.col, .int .i64 0, .int .i64 0]) ∧ DocR true w' (fun b => W.heap.size ≤ b) u O ∧ Below W.heap.size W w') := Lib.hid fun v' n W hv hF => refClosed_any v' O A W _ hv.read hF
 have hg := guardPos
 have hq := fun (w : World) => run_eql_pos A B w
 obtain ⟨p0, f0⟩ := blk k0
 obtain ⟨p1, f1⟩ := blk k1
 obtain ⟨va, vc, rfl⟩ := h.slice
 have HR : Hid (keyS s (eraseK s) = if mayS s = true then endS (if s.anc = s.foc then ([], A, 7) else (O, A, 0)) else (noS, 1)) := Lib.hid (by rw [← hA, ← hO]; rfl)
 have HO : Hid (mayS s = true → deleteD s.lines A B = (O, 0) ∧ Fits O) := Lib.hid (by intro hm; have := out_facts hm; rw [hO, hA, hBB] at this; exact ⟨this.2.2.2.1, (may_small this.1).2⟩)
 have HE : Hid (A = B ↔ s.anc = s.foc) := Lib.hid (by rw [← hA, ← hBB]; exact spanS_open s)
 clear h hs hf ho hof k0 k1 hB hAB hA hBB hO
 cases hm : mayS s
 ·rw [hm] at HM HR
  have HR2 : Hid (keyS s (eraseK s) = (noS, 1)) := Lib.hid (HR.out.trans (if_neg (by simp)))
  clear HR hm HO
  go_enter Tryz.func46, Tryz.ntmps46
  go_wp2_with (go_at_call 70; refine (HM.out _ hw0).mono ?_; rintro e w2 ⟨rfl, hst2⟩; have hb2 := below_from hw0 hst2; obtain ⟨q0, g0⟩ := blk (HB.out _ hb2).1; obtain ⟨q1, g1⟩ := blk (HB.out _ hb2).2)
  refine bodyPost_ret (results_st_e rfl _ _ (w.heap.size + 1) (.slice none 0 0) (.int .i64 0) (.int .i64 0) (.int .i64 0) (.int .i64 0) (.int .i64 0) (.int .i64 0) (.int .i64 1) rfl rfl (by simp [heap_set, putIn, (HB.out _ hb2).2])) rfl ?_
  unfold StSaid
  rw [HR2.out]
  have hfin := H1.out.trans (hb2.mono hs1)
  exact ⟨_, rfl, SliceR.nil _ _ _ _ _ _, by (repeat' (first | (with_reducible exact Below.refl _ _) | (with_reducible assumption) | (with_reducible refine Below.alloc ?_ ?_ _) | (with_reducible refine Below.drew ?_) | (with_reducible refine drewN_below ?_) | (with_reducible refine Below.setCell ?_ ?_ _) | go_size))⟩
 obtain ⟨hdel, hF⟩ := HO.out hm
 have HF := Lib.hid hF
 rw [hm] at HM HR
 clear HO hm hF
 by_cases hc : A = B
 ·rw [decide_eq_true hc] at hq
  have HR2 : Hid (keyS s (eraseK s) = (noS, 7)) := Lib.hid (HR.out.trans (by rw [if_pos rfl, if_pos (HE.out.1 hc)]; rfl))
  clear HR HE hc hdel
  go_enter Tryz.func46, Tryz.ntmps46
  go_upto_region 4 with (first
   | (go_at_call 70; refine (HM.out _ hw0).mono ?_; rintro e w2 ⟨rfl, hst2⟩; have hb2 := below_from hw0 hst2; obtain ⟨q0, g0⟩ := blk (HB.out _ hb2).1; obtain ⟨q1, g1⟩ := blk (HB.out _ hb2).2)
   | (go_at_call 69; refine (HSp.out _ hb2).mono ?_; rintro e w3 ⟨rfl, hst3⟩; have hb3 := below_from hb2 hst3; have hz3 := hb3.size))
  obtain ⟨W4, hW4⟩ : ∃ W4, (w3.alloc (.cells #[.int .i64 A.line, .int .i64 A.col] 24)).alloc (.cells #[.int .i64 B.line, .int .i64 B.col] 24) = W4 := ⟨_, rfl⟩
  have HX : Hid (Below W1.heap.size W1 W4) := Lib.hid (hW4 ▸ hb3.trans ((below2 (Below.refl _ _) _ _).mono hz3))
  have J2 : Hid (W4.heap[w3.heap.size]? = some (.cells #[.int .i64 A.line, .int .i64 A.col] 24)) := Lib.hid (hW4 ▸ heap_old _ _ (heap_new _ _ rfl))
  have J3 : Hid (W4.heap[w3.heap.size + 1]? = some (.cells #[.int .i64 B.line, .int .i64 B.col] 24)) := Lib.hid (hW4 ▸ heap_new _ _ (by simp))
  rw [hW4]
  clear hW4 q0 g0 q1 g1
  obtain ⟨j0, i0⟩ := blk (HB.out _ HX.out).1
  obtain ⟨j1, i1⟩ := blk (HB.out _ HX.out).2
  obtain ⟨j2, i2⟩ := blk J2.out
  obtain ⟨j3, i3⟩ := blk J3.out
  go_wp2_with fail
  refine bodyPost_ret (results_st_e rfl _ _ (w.heap.size + 1) (.slice none 0 0) (.int .i64 0) (.int .i64 0) (.int .i64 0) (.int .i64 0) (.int .i64 0) (.int .i64 0) (.int .i64 7) rfl rfl (by simp [heap_set, putIn, (HB.out _ HX.out).2])) rfl ?_
  unfold StSaid
  rw [HR2.out]
  have hfin := H1.out.trans (HX.out.mono hs1)
  exact ⟨_, rfl, SliceR.nil _ _ _ _ _ _, by (repeat' (first | (with_reducible exact Below.refl _ _) | (with_reducible assumption) | (with_reducible refine Below.alloc ?_ ?_ _) | (with_reducible refine Below.drew ?_) | (with_reducible refine drewN_below ?_) | (with_reducible refine Below.setCell ?_ ?_ _) | go_size))⟩
 ·rw [decide_eq_false hc] at hq
  have HR2 : Hid (keyS s (eraseK s) = (closedS O A, 0)) := Lib.hid (HR.out.trans (by rw [if_pos rfl, if_neg (fun e => hc (HE.out.2 e))]; rfl))
  have HD : Hid (∀ W, Below W1.heap.size W1 W → Calls Tryz.prog 111 #[.slice va s.lines.length vc, .agg #[.int .i64 A.line, .int .i64 A.col], .agg #[.int .i64 B.line, .int .i64 B.col]] W fun e w' => ∃ u, e = .returned (.tuple #[u, .int .i64 0]) ∧ DocR true w' (fun b => W.heap.size ≤ b) u O ∧ Below W.heap.size W w') := Lib.hid fun W hW => by have := HD0.out W hW; rw [hdel] at this; exact this
  clear HR HE hc hdel HD0
  go_enter Tryz.func46, Tryz.ntmps46
  go_upto_region 4 with (first
   | (go_at_call 70; refine (HM.out _ hw0).mono ?_; rintro e w2 ⟨rfl, hst2⟩; have hb2 := below_from hw0 hst2; obtain ⟨q0, g0⟩ := blk (HB.out _ hb2).1; obtain ⟨q1, g1⟩ := blk (HB.out _ hb2).2)
   | (go_at_call 69; refine (HSp.out _ hb2).mono ?_; rintro e w3 ⟨rfl, hst3⟩; have hb3 := below_from hb2 hst3; have hz3 := hb3.size))
  obtain ⟨W4, hW4⟩ : ∃ W4, (w3.alloc (.cells #[.int .i64 A.line, .int .i64 A.col] 24)).alloc (.cells #[.int .i64 B.line, .int .i64 B.col] 24) = W4 := ⟨_, rfl⟩
  have HX : Hid (Below W1.heap.size W1 W4) := Lib.hid (hW4 ▸ hb3.trans ((below2 (Below.refl _ _) _ _).mono hz3))
  have J2 : Hid (W4.heap[w3.heap.size]? = some (.cells #[.int .i64 A.line, .int .i64 A.col] 24)) := Lib.hid (hW4 ▸ heap_old _ _ (heap_new _ _ rfl))
  have J3 : Hid (W4.heap[w3.heap.size + 1]? = some (.cells #[.int .i64 B.line, .int .i64 B.col] 24)) := Lib.hid (hW4 ▸ heap_new _ _ (by simp))
  rw [hW4]
  clear hW4 q0 g0 q1 g1
  obtain ⟨j0, i0⟩ := blk (HB.out _ HX.out).1
  obtain ⟨j1, i1⟩ := blk (HB.out _ HX.out).2
  obtain ⟨j2, i2⟩ := blk J2.out
  obtain ⟨j3, i3⟩ := blk J3.out
  go_wp2_with (first
   | (go_at_call 111; refine (HD.out _ HX.out).mono ?_; rintro e w7 ⟨v7, rfl, hv7, hst7⟩; obtain ⟨a7, c7, rfl⟩ := hv7.slice; have hb7 := below_from HX.out hst7; obtain ⟨q8, g8⟩ := blk (heap_below hst7 J2.out); have hz7 := hst7.size; have HV7 := Lib.hid hv7; clear hv7; obtain ⟨q7, g7⟩ := blk (HB.out _ hb7).1; obtain ⟨q9, g9⟩ := blk (HB.out _ hb7).2)
   | (go_at_call 112; refine (HCl.out _ _ _ HV7.out HF.out).mono ?_; rintro e w8 ⟨v8, rfl, hv8, hst8⟩; obtain ⟨a8, c8, rfl⟩ := hv8.slice; have hb8 := below_from hb7 hst8; have HV8 := Lib.hid hv8; clear hv8; obtain ⟨q6, g6⟩ := blk (HB.out _ hb8).2))
  refine bodyPost_ret (results_st_e rfl _ _ (w.heap.size + 1) (.slice a8 O.length c8) (.int .i64 A.line) (.int .i64 A.col) (.int .i64 A.line) (.int .i64 A.col) (.int .i64 0) (.int .i64 0) (.int .i64 0) rfl rfl (by simp [heap_set, putIn, (HB.out _ hb8).2])) rfl ?_
  unfold StSaid
  rw [HR2.out]
  have hfin := H1.out.trans (hb8.mono hs1)
  have hv8 := HV8.out
  have z4 := HX.out.size
  exact ⟨_, rfl, (SliceR.stable (rdLin_stable _) hv8 (by (repeat' (first | (with_reducible exact Keeps.refl _ _) | (with_reducible refine Keeps.set ?_ ?_ _) | (with_reducible refine Keeps.alloc ?_ _) | (with_reducible refine Keeps.drew ?_) | (first | fail) | (simp; omega)))) (fun b h _ => (by have h' := h; (try simp at h'); omega))), by (repeat' (first | (with_reducible exact Below.refl _ _) | (with_reducible assumption) | (with_reducible refine Below.alloc ?_ ?_ _) | (with_reducible refine Below.drew ?_) | (with_reducible refine drewN_below ?_) | (with_reducible refine Below.setCell ?_ ?_ _) | go_size))⟩
theorem results_vp {fn : Func} {t p : Tmp} (h : fn.results = #[.tmp t, .cell p 24]) (tmps : Array Value) (w : World) (B : Nat) (a b : Value) (hp : tmps.getD p undef = .pointer (some ⟨B, 0, none⟩)) (hB : w.heap[B]? = some (.cells #[a, b] 24)) :
  (results fn tmps).run Tryz.prog w = .ok (.tuple #[tmps.getD t undef, .agg #[a, b]]) w := by
 have hp' : tmps[p]?.getD undef = .pointer (some ⟨B, 0, none⟩) := by simpa using hp
 have h1 := run_loadVar_row (P := Tryz.prog) w B 24 24 _ _ _ hB Tryz.underlying24 rfl (by kernel_rfl)
 simp [results, h, hp', asAddr, h1]
set_option maxRecDepth 100000 in
set_option maxHeartbeats 4000000 in
theorem refEmpty_any (v : Value) (s : St) (w : World) (S : Nat → Prop) (h : LinsR w S v s.lines) (hs : Small s.lines) (hf : Fits s.lines) (hm : mayS s = true) :
  Calls Tryz.prog 116 #[stV v s] w fun e w' => ∃ v', e = .returned (.tuple #[v', .agg #[.int .i64 (spanS s).1.line, .int .i64 (spanS s).1.col]]) ∧ DocR true w' (fun b => w.heap.size ≤ b) v' (outS s) ∧ Below w.heap.size w w' := by
 obtain ⟨W1, hW1⟩ : ∃ W1, (w.alloc (.cells #[v, .int .i64 s.anc.line, .int .i64 s.anc.col, .int .i64 s.foc.line, .int .i64 s.foc.col, .int .i64 s.on, .int .i64 s.off] 26)).alloc (.cells #[.int .i64 0, .int .i64 0] 24) = W1 := ⟨_, rfl⟩
 have hB : Below w.heap.size w W1 := hW1 ▸ below2 (Below.refl _ _) _ _
 have hz : w.heap.size + 2 = W1.heap.size := by rw [← hW1]; simp
 have k0 : W1.heap[w.heap.size]? = some (.cells #[v, .int .i64 s.anc.line, .int .i64 s.anc.col, .int .i64 s.foc.line, .int .i64 s.foc.col, .int .i64 s.on, .int .i64 s.off] 26) := hW1 ▸ heap_old _ _ (heap_new _ _ rfl)
 have k1 : W1.heap[w.heap.size + 1]? = some (.cells #[.int .i64 0, .int .i64 0] 24) := hW1 ▸ heap_new _ _ (by simp)
 have HB : Hid (∀ W, Below W1.heap.size W1 W → W.heap[w.heap.size]? = some (.cells #[v, .int .i64 s.anc.line, .int .i64 s.anc.col, .int .i64 s.foc.line, .int .i64 s.foc.col, .int .i64 s.on, .int .i64 s.off] 26) ∧ W.heap[w.heap.size + 1]? = some (.cells #[.int .i64 0, .int .i64 0] 24)) := Lib.hid fun W hW => ⟨heap_below hW k0, heap_below hW k1⟩
 have hs1 := hB.size
 have H1 := Lib.hid hB
 have hw0 : Below W1.heap.size W1 W1 := Below.refl _ _
 have HV : Hid (∀ W, Below W1.heap.size W1 W → LinsR W S v s.lines) := Lib.hid fun W hW => h.below (rdLin_stable _) (hB.trans (hW.mono hs1))
 have hdel := (out_facts hm).2.2.2.1
 obtain ⟨A, B, hAB⟩ : ∃ A B, spanS s = (A, B) := ⟨_, _, rfl⟩
 have hA : (spanS s).1 = A := by rw [hAB]
 have hBB : (spanS s).2 = B := by rw [hAB]
 obtain ⟨O, hO⟩ : ∃ O, outS s = O := ⟨_, rfl⟩
 rw [hA, hBB, hO] at hdel
 rw [hA, hO]
 have HSp : Hid (∀ W, Below W1.heap.size W1 W → Calls Tryz.prog 69 #[stV v s] W fun e w' => e = .returned (.tuple #[.agg #[.int .i64 A.line, .int .i64 A.col], .agg #[.int .i64 B.line, .int .i64 B.col]]) ∧ Below W.heap.size W w') := Lib.hid fun W _ => by have := refStSpan_any v s W; rw [hA, hBB] at this; exact this
 have HD : Hid (∀ W, Below W1.heap.size W1 W → Calls Tryz.prog 111 #[v, .agg #[.int .i64 A.line, .int .i64 A.col], .agg #[.int .i64 B.line, .int .i64 B.col]] W fun e w' => ∃ u, e = .returned (.tuple #[u, .int .i64 0]) ∧ DocR true w' (fun b => W.heap.size ≤ b) u O ∧ Below W.heap.size W w') := Lib.hid fun W hW => by have := refDDelete_any v s.lines A B W S (HV.out W hW) hs hf; rw [hdel] at this; exact this
 have hg := guardPos
 obtain ⟨p0, f0⟩ := blk k0
 obtain ⟨p1, f1⟩ := blk k1
 obtain ⟨va, vc, rfl⟩ := h.slice
 clear h hs hf k0 k1 hB hAB hA hBB hO hm hdel
 go_enter Tryz.func116, Tryz.ntmps116
 go_upto_region 2 with (go_at_call 69; refine (HSp.out _ hw0).mono ?_; rintro e w3 ⟨rfl, hst3⟩; have hb3 := below_from hw0 hst3; have hz3 := hb3.size)
 obtain ⟨W4, hW4⟩ : ∃ W4, (w3.alloc (.cells #[.int .i64 A.line, .int .i64 A.col] 24)).alloc (.cells #[.int .i64 B.line, .int .i64 B.col] 24) = W4 := ⟨_, rfl⟩
 have HX : Hid (Below W1.heap.size W1 W4) := Lib.hid (hW4 ▸ hb3.trans ((below2 (Below.refl _ _) _ _).mono hz3))
 have J2 : Hid (W4.heap[w3.heap.size]? = some (.cells #[.int .i64 A.line, .int .i64 A.col] 24)) := Lib.hid (hW4 ▸ heap_old _ _ (heap_new _ _ rfl))
 have J3 : Hid (W4.heap[w3.heap.size + 1]? = some (.cells #[.int .i64 B.line, .int .i64 B.col] 24)) := Lib.hid (hW4 ▸ heap_new _ _ (by simp))
 rw [hW4]
 clear hW4
 obtain ⟨j0, i0⟩ := blk (HB.out _ HX.out).1
 obtain ⟨j1, i1⟩ := blk (HB.out _ HX.out).2
 obtain ⟨j2, i2⟩ := blk J2.out
 obtain ⟨j3, i3⟩ := blk J3.out
 go_wp2_with (go_at_call 111; refine (HD.out _ HX.out).mono ?_; rintro e w7 ⟨v7, rfl, hv7, hst7⟩; obtain ⟨a7, c7, rfl⟩ := hv7.slice; have hb7 := below_from HX.out hst7; obtain ⟨q8, g8⟩ := blk (heap_below hst7 J2.out); have hz7 := hst7.size; have HV7 := Lib.hid hv7; clear hv7; obtain ⟨q7, g7⟩ := blk (HB.out _ hb7).1; obtain ⟨q9, g9⟩ := blk (HB.out _ hb7).2)
 go_region
 go_wp2_with fail
 have hfin := H1.out.trans (hb7.mono hs1)
 have hv7 := HV7.out
 have z4 := HX.out.size
 refine bodyPost_ret (results_vp rfl _ _ (w.heap.size + 1) (.int .i64 A.line) (.int .i64 A.col) rfl (by rw [drew_heap]; simp [heap_set, putIn, (HB.out _ hb7).2])) rfl ?_
 exact ⟨_, rfl, (SliceR.stable (rdLin_stable _) hv7 (by (repeat' (first | (with_reducible exact Keeps.refl _ _) | (with_reducible refine Keeps.set ?_ ?_ _) | (with_reducible refine Keeps.alloc ?_ _) | (with_reducible refine Keeps.drew ?_) | (first | fail) | (simp; omega)))) (fun b h _ => (by have h' := h; (try simp at h'); omega))), by (repeat' (first | (with_reducible exact Below.refl _ _) | (with_reducible assumption) | (with_reducible refine Below.alloc ?_ ?_ _) | (with_reducible refine Below.drew ?_) | (with_reducible refine drewN_below ?_) | (with_reducible refine Below.setCell ?_ ?_ _) | go_size))⟩
theorem cut_may {d : Doc} {a b : Ps} (hsp : spanD d a b = true) : deleteD d a b = (deleteL d a b, 0) ∧ Fits (deleteL d a b) := by
 refine ⟨by unfold deleteD; rw [if_pos hsp], ?_⟩
 obtain ⟨hM, i, j, p, q, l, m, ha, hb, hl, hm, hp, hq, hij, hpq⟩ := span_at hsp
 rw [ha, hb]
 exact (may_small (delete_may hM hl hm hp hq hij hpq)).2
theorem forth_key {s : St} {i j : Nat} {l : Lin} (hm : mayS s = true) (hc : s.anc = s.foc) (hfoc : s.foc = ⟨i, j⟩) (hl : s.lines[i]? = some l) (hj : j ≤ l.cells.length) :
  (j < l.cells.length → spanD s.lines ⟨i, j⟩ ⟨i, (j : Int) + 1⟩ = true ∧ keyS s (forthK s) = (closedS (deleteL s.lines ⟨i, j⟩ ⟨i, (j : Int) + 1⟩) ⟨i, j⟩, 0)) ∧
  (j = l.cells.length → i + 1 < s.lines.length → spanD s.lines ⟨i, j⟩ ⟨(i : Int) + 1, 0⟩ = true ∧ keyS s (forthK s) = (closedS (deleteL s.lines ⟨i, j⟩ ⟨(i : Int) + 1, 0⟩) ⟨i, j⟩, 0)) ∧
  (j = l.cells.length → ¬ i + 1 < s.lines.length → keyS s (forthK s) = (noS, 7)) := by
 have hM := (mayS_at hm).1
 have hco := out_closed hm hc
 have hst := step_forth hl hj
 have hk : keyS s (forthK s) = endS (if (stepD s.lines ⟨i, j⟩ 1).2 = true then cutK s.lines ⟨i, j⟩ (stepD s.lines ⟨i, j⟩ 1).1 ⟨i, j⟩ else ([], ⟨i, j⟩, 7)) := by
  unfold keyS forthK
  rw [if_pos hm, if_pos hc, hco.1, hco.2.1, hfoc]
 refine ⟨fun h1 => ?_, fun h1 h2 => ?_, fun h1 h2 => ?_⟩
 ·have hsp : spanD s.lines ⟨i, j⟩ ⟨i, (j : Int) + 1⟩ = true := span_mk (q := j + 1) hM hl hl hj h1 (Nat.le_refl _) (fun _ => Nat.le_succ _)
  refine ⟨hsp, ?_⟩
  rw [if_pos h1] at hst
  rw [hk, hst, if_pos rfl]
  unfold endS cutK
  rw [(cut_may hsp).1]
  rfl
 ·have hl2 : s.lines[i + 1]? = some s.lines[i + 1] := List.getElem?_eq_getElem h2
  have hsp : spanD s.lines ⟨i, j⟩ ⟨(i : Int) + 1, 0⟩ = true := span_mk (j := i + 1) (q := 0) hM hl hl2 hj (Nat.zero_le _) (Nat.le_succ _) (fun e => absurd e (by omega))
  refine ⟨hsp, ?_⟩
  rw [if_neg (by omega), if_pos h2] at hst
  rw [hk, hst, if_pos rfl]
  unfold endS cutK
  rw [(cut_may hsp).1]
  rfl
 ·rw [if_neg (by omega), if_neg h2] at hst
  rw [hk, hst]
  rfl
set_option maxRecDepth 100000 in
set_option maxHeartbeats 4000000 in
theorem refForth_any (v : Value) (s : St) (w : World) (S : Nat → Prop) (h : LinsR w S v s.lines) (hs : Small s.lines) (hf : Fits s.lines) (ho : -9223372036854775808 ≤ s.on ∧ s.on ≤ 9223372036854775807) (hof : -9223372036854775808 ≤ s.off ∧ s.off ≤ 9223372036854775807) :
  Calls Tryz.prog 53 #[stV v s] w (StSaid (keyS s (forthK s)) w) := by
 obtain ⟨W1, hW1, hB, hz, k0, k1⟩ := st_two w v s
 have HB : Hid (∀ W, Below W1.heap.size W1 W → W.heap[w.heap.size]? = some (.cells #[v, .int .i64 s.anc.line, .int .i64 s.anc.col, .int .i64 s.foc.line, .int .i64 s.foc.col, .int .i64 s.on, .int .i64 s.off] 26) ∧ W.heap[w.heap.size + 1]? = some (.cells #[.slice none 0 0, .int .i64 0, .int .i64 0, .int .i64 0, .int .i64 0, .int .i64 0, .int .i64 0] 26)) := Lib.hid fun W hW => ⟨heap_below hW k0, heap_below hW k1⟩
 have hs1 := hB.size
 have H1 := Lib.hid hB
 have hw0 : Below W1.heap.size W1 W1 := Below.refl _ _
 have HV : Hid (∀ W, Below W1.heap.size W1 W → LinsR W S v s.lines) := Lib.hid fun W hW => h.below (rdLin_stable _) (hB.trans (hW.mono hs1))
 have HM : Hid (∀ W, Below W1.heap.size W1 W → Calls Tryz.prog 70 #[stV v s] W fun e w' => e = .returned (.bool (mayS s)) ∧ Below W.heap.size W w') := Lib.hid fun W hW => refStMay_any v s W S (HV.out W hW) hs ho hof
 have HEr0 : Hid (∀ W, Below W1.heap.size W1 W → Calls Tryz.prog 46 #[stV v s] W (StSaid (keyS s (eraseK s)) W)) := Lib.hid fun W hW => refErase_any v s W S (HV.out W hW) hs hf ho hof
 have hg := guardPos
 have hq := fun (w : World) => run_neq_pos s.anc s.foc w
 cases hm : mayS s
 ·rw [hm] at HM
  have HR2 : Hid (keyS s (forthK s) = (noS, 1)) := Lib.hid (by unfold keyS; rw [hm]; exact if_neg (by simp))
  obtain ⟨p0, f0⟩ := blk k0
  obtain ⟨p1, f1⟩ := blk k1
  obtain ⟨va, vc, rfl⟩ := h.slice
  clear h hs hf ho hof k0 k1 hB hm HEr0
  go_enter Tryz.func53, Tryz.ntmps53
  go_wp2_with (go_at_call 70; refine (HM.out _ hw0).mono ?_; rintro e w2 ⟨rfl, hst2⟩; have hb2 := below_from hw0 hst2; obtain ⟨q0, g0⟩ := blk (HB.out _ hb2).1; obtain ⟨q1, g1⟩ := blk (HB.out _ hb2).2)
  refine bodyPost_ret (results_st_e rfl _ _ (w.heap.size + 1) (.slice none 0 0) (.int .i64 0) (.int .i64 0) (.int .i64 0) (.int .i64 0) (.int .i64 0) (.int .i64 0) (.int .i64 1) rfl rfl (by simp [heap_set, putIn, (HB.out _ hb2).2])) rfl ?_
  unfold StSaid
  rw [HR2.out]
  have hfin := H1.out.trans (hb2.mono hs1)
  exact ⟨_, rfl, SliceR.nil _ _ _ _ _ _, by (repeat' (first | (with_reducible exact Below.refl _ _) | (with_reducible assumption) | (with_reducible refine Below.alloc ?_ ?_ _) | (with_reducible refine Below.drew ?_) | (with_reducible refine drewN_below ?_) | (with_reducible refine Below.setCell ?_ ?_ _) | go_size))⟩
 by_cases hc : s.anc = s.foc
 ·rw [decide_eq_true hc] at hq
  have hac := out_closed hm hc
  obtain ⟨i, j, l, hfoc, hl, hj⟩ := isD_nat hac.2.2
  obtain ⟨F1, F2, F3⟩ := forth_key hm hc hfoc hl hj
  obtain ⟨va, vc, rfl, hvc, hvm, hx⟩ := lins_shape h
  obtain ⟨b, o, la, lc, ca, cc, rfl, hAt⟩ := hx i l hl
  have HAT : Hid (∀ W, Below W1.heap.size W1 W → LinAt W S b (o + i * 4) l la lc ca cc) := Lib.hid fun W hW => hAt.below (hB.trans (hW.mono hs1))
  have HD0 : Hid (∀ Q W, spanD s.lines ⟨i, j⟩ Q = true → Below W1.heap.size W1 W → Calls Tryz.prog 111 #[.slice (some ⟨b, o, none⟩) s.lines.length vc, .agg #[.int .i64 i, .int .i64 j], .agg #[.int .i64 Q.line, .int .i64 Q.col]] W fun e w' => ∃ u, e = .returned (.tuple #[u, .int .i64 0]) ∧ DocR true w' (fun b => W.heap.size ≤ b) u (deleteL s.lines ⟨i, j⟩ Q) ∧ Below W.heap.size W w') := Lib.hid fun Q W hsp hW => by have := refDDelete_any _ s.lines ⟨i, j⟩ Q W S (HV.out W hW) hs hf; rw [(cut_may hsp).1] at this; exact this
  have HCl0 : Hid (∀ Q v' n W, spanD s.lines ⟨i, j⟩ Q = true → DocR true W (fun b => n ≤ b) v' (deleteL s.lines ⟨i, j⟩ Q) → Calls Tryz.prog 112 #[v', .agg #[.int .i64 i, .int .i64 j]] W fun e w' => ∃ u, e = .returned (.agg #[u, .int .i64 i, .int .i64 j, .int .i64 i, .int .i64 j, .int .i64 0, .int .i64 0]) ∧ DocR true w' (fun b => W.heap.size ≤ b) u (deleteL s.lines ⟨i, j⟩ Q) ∧ Below W.heap.size W w') := Lib.hid fun Q v' n W hsp hv => refClosed_any v' _ ⟨i, j⟩ W _ hv.read (cut_may hsp).2
  have hil := (List.getElem?_eq_some_iff.1 hl).1
  have hll := (HAT.out _ hw0).cellsR.len
  unfold maxLen at hvm hll
  have hfl := hf.2 l (List.mem_of_getElem? hl)
  have i0 : (0 : Int) ≤ (i : Int) := Int.natCast_nonneg _
  have i1 : (i : Int) < (s.lines.length : Int) := by omega
  have e1 : IntKind.i64.wrap ((j : Int) + 1) = (j : Int) + 1 := IntWalk.i64_in _ (by omega)
  have e2 : IntKind.i64.wrap ((s.lines.length : Int) - 1) = (s.lines.length : Int) - 1 := IntWalk.i64_in _ (by omega)
  have e3 : IntKind.i64.wrap ((i : Int) + 1) = (i : Int) + 1 := IntWalk.i64_in _ (by omega)
  rw [hm] at HM
  generalize keyS s (forthK s) = X at F1 F2 F3 ⊢
  obtain ⟨lines, anc, foc, on, off⟩ := s
  simp only at hc hfoc hl hil hq HV HM HB HD0 HCl0 HAT hvc hvm i1 e2 F1 F2 F3 k0
  subst hfoc hc
  simp only [Bool.not_true] at hq HB k0 HM F1 F2 F3
  obtain ⟨p0, f0⟩ := blk k0
  obtain ⟨p1, f1⟩ := blk k1
  have HV := 0
  rcases Nat.lt_or_ge j l.cells.length with hjl | hjl
  ·obtain ⟨hsp, hX⟩ := F1 hjl
   have HR2 : Hid (X = (closedS (deleteL lines ⟨i, j⟩ ⟨i, (j : Int) + 1⟩) ⟨i, j⟩, 0)) := Lib.hid hX
   have HD : Hid _ := Lib.hid fun W => HD0.out ⟨i, (j : Int) + 1⟩ W hsp
   have HCl : Hid _ := Lib.hid fun v' n W => HCl0.out ⟨i, (j : Int) + 1⟩ v' n W hsp
   generalize deleteL lines ⟨i, j⟩ ⟨i, (j : Int) + 1⟩ = D at HD HCl HR2
   have z1 : ((j : Int) == (l.cells.length : Int)) = false := beq_false_of_ne (by omega)
   clear h hs hf ho hof k0 k1 hB hm HEr0 hac hl hj F1 F2 F3 hx hAt hX hsp hjl HD0 HCl0 hvc hil
   go_enter Tryz.func53, Tryz.ntmps53
   go_upto_region 7 with (go_at_call 70; refine (HM.out _ hw0).mono ?_; rintro e w2 ⟨rfl, hst2⟩; have hb2 := below_from hw0 hst2; obtain ⟨q0, g0⟩ := blk (HB.out _ hb2).1; obtain ⟨q1, g1⟩ := blk (HB.out _ hb2).2)
   obtain ⟨W4, hW4⟩ : ∃ W4, (w2.alloc (.cells #[.int .i64 i, .int .i64 j] 24)).alloc (.cells #[.int .i64 i, .int .i64 ((j : Int) + 1)] 24) = W4 := ⟨_, rfl⟩
   have hz2 := hb2.size
   have HX : Hid (Below W1.heap.size W1 W4) := Lib.hid (hW4 ▸ hb2.trans ((below2 (Below.refl _ _) _ _).mono hz2))
   have J2 : Hid (W4.heap[w2.heap.size]? = some (.cells #[.int .i64 i, .int .i64 j] 24)) := Lib.hid (hW4 ▸ heap_old _ _ (heap_new _ _ rfl))
   have J3 : Hid (W4.heap[w2.heap.size + 1]? = some (.cells #[.int .i64 i, .int .i64 ((j : Int) + 1)] 24)) := Lib.hid (hW4 ▸ heap_new _ _ (by simp))
   have hz4 : w2.heap.size + 2 = W4.heap.size := (by rw [← hW4]; simp)
   rw [hW4]
   clear hW4 q0 g0 q1 g1 p0 f0 p1 f1
   obtain ⟨j0, i0'⟩ := blk (HB.out _ HX.out).1
   obtain ⟨j1, i1'⟩ := blk (HB.out _ HX.out).2
   obtain ⟨j2, i2⟩ := blk J2.out
   obtain ⟨j3, i3⟩ := blk J3.out
   obtain ⟨_, _, _, _, c3, _, _⟩ := HAT.out _ HX.out
   clear hz4
   have HXD : Hid (∀ n, Below W1.heap.size W1 (W4.drewN n)) := Lib.hid fun n => drewN_below HX.out
   have J2D : Hid (∀ n, (W4.drewN n).heap[w2.heap.size]? = some (.cells #[.int .i64 i, .int .i64 j] 24)) := Lib.hid fun _ => J2.out
   go_quiet (fail)
   go_wp2_with (first
    | (go_at_call 111; refine (HD.out _ (HXD.out _)).mono ?_; rintro e w7 ⟨v7, rfl, hv7, hst7⟩; obtain ⟨a7, c7, rfl⟩ := hv7.slice; have hb7 := below_from (HXD.out _) hst7; obtain ⟨q8, g8⟩ := blk (heap_below hst7 (J2D.out _)); have hz7 : W4.heap.size ≤ w7.heap.size := hst7.size; have HV7 := Lib.hid hv7; clear hv7; obtain ⟨q7, g7⟩ := blk (HB.out _ hb7).1; obtain ⟨q9, g9⟩ := blk (HB.out _ hb7).2)
    | (go_at_call 112; refine (HCl.out _ _ _ HV7.out).mono ?_; rintro e w8 ⟨v8, rfl, hv8, hst8⟩; obtain ⟨a8, c8, rfl⟩ := hv8.slice; have hb8 := below_from hb7 hst8; have HV8 := Lib.hid hv8; clear hv8; obtain ⟨q6, g6⟩ := blk (HB.out _ hb8).2))
   refine bodyPost_ret (results_st_e rfl _ _ (w.heap.size + 1) (.slice a8 D.length c8) (.int .i64 i) (.int .i64 j) (.int .i64 i) (.int .i64 j) (.int .i64 0) (.int .i64 0) (.int .i64 0) rfl rfl (by simp [heap_set, putIn, (HB.out _ hb8).2])) rfl ?_
   unfold StSaid
   rw [HR2.out]
   have hfin := H1.out.trans (hb8.mono hs1)
   have hv8 := HV8.out
   have z4 := HX.out.size
   exact ⟨_, rfl, (SliceR.stable (rdLin_stable _) hv8 (by (repeat' (first | (with_reducible exact Keeps.refl _ _) | (with_reducible refine Keeps.set ?_ ?_ _) | (with_reducible refine Keeps.alloc ?_ _) | (with_reducible refine Keeps.drew ?_) | (first | fail) | (simp; omega)))) (fun b h _ => (by have h' := h; (try simp at h'); omega))), by (repeat' (first | (with_reducible exact Below.refl _ _) | (with_reducible assumption) | (with_reducible refine Below.alloc ?_ ?_ _) | (with_reducible refine Below.drew ?_) | (with_reducible refine drewN_below ?_) | (with_reducible refine Below.setCell ?_ ?_ _) | go_size))⟩
  ·obtain rfl : j = l.cells.length := Nat.le_antisymm hj hjl
   by_cases hin : i + 1 < lines.length
   ·obtain ⟨hsp, hX⟩ := F2 rfl hin
    have z1 : ((l.cells.length : Int) == (l.cells.length : Int)) = true := beq_self_eq_true _
    have z2 : ((i : Int) == (lines.length : Int) - 1) = false := beq_false_of_ne (by omega)
    have HR2 : Hid (X = (closedS (deleteL lines ⟨i, l.cells.length⟩ ⟨(i : Int) + 1, 0⟩) ⟨i, l.cells.length⟩, 0)) := Lib.hid hX
    have HD : Hid _ := Lib.hid fun W => HD0.out ⟨(i : Int) + 1, 0⟩ W hsp
    have HCl : Hid _ := Lib.hid fun v' n W => HCl0.out ⟨(i : Int) + 1, 0⟩ v' n W hsp
    generalize deleteL lines ⟨i, l.cells.length⟩ ⟨(i : Int) + 1, 0⟩ = D at HD HCl HR2
    clear h hs hf ho hof k0 k1 hB hm HEr0 hac hl hj F1 F3 F2 hx hAt hjl hX hsp HD0 HCl0 hvc hil hin
    go_enter Tryz.func53, Tryz.ntmps53
    go_upto_region 7 with (go_at_call 70; refine (HM.out _ hw0).mono ?_; rintro e w2 ⟨rfl, hst2⟩; have hb2 := below_from hw0 hst2; obtain ⟨q0, g0⟩ := blk (HB.out _ hb2).1; obtain ⟨q1, g1⟩ := blk (HB.out _ hb2).2)
    obtain ⟨W4, hW4⟩ : ∃ W4, (w2.alloc (.cells #[.int .i64 i, .int .i64 l.cells.length] 24)).alloc (.cells #[.int .i64 i, .int .i64 ((l.cells.length : Int) + 1)] 24) = W4 := ⟨_, rfl⟩
    have hz2 := hb2.size
    have HX : Hid (Below W1.heap.size W1 W4) := Lib.hid (hW4 ▸ hb2.trans ((below2 (Below.refl _ _) _ _).mono hz2))
    have J2 : Hid (W4.heap[w2.heap.size]? = some (.cells #[.int .i64 i, .int .i64 l.cells.length] 24)) := Lib.hid (hW4 ▸ heap_old _ _ (heap_new _ _ rfl))
    have J3 : Hid (W4.heap[w2.heap.size + 1]? = some (.cells #[.int .i64 i, .int .i64 ((l.cells.length : Int) + 1)] 24)) := Lib.hid (hW4 ▸ heap_new _ _ (by simp))
    have hz4 : w2.heap.size + 2 = W4.heap.size := (by rw [← hW4]; simp)
    rw [hW4]
    clear hW4 q0 g0 q1 g1 p0 f0 p1 f1
    obtain ⟨j0, i0'⟩ := blk (HB.out _ HX.out).1
    obtain ⟨j1, i1'⟩ := blk (HB.out _ HX.out).2
    obtain ⟨j2, i2⟩ := blk J2.out
    obtain ⟨j3, i3⟩ := blk J3.out
    obtain ⟨_, _, _, _, c3, _, _⟩ := HAT.out _ HX.out
    clear hz4
    go_quiet (fail)
    go_upto_region 11 with fail
    obtain ⟨W5, hW5⟩ : ∃ W5, ((W4.drewN nq).setCell ⟨w2.heap.size + 1, 0, none⟩ (.int .i64 ((i : Int) + 1))).setCell ⟨w2.heap.size + 1, 1, none⟩ (.int .i64 0) = W5 := ⟨_, rfl⟩
    have hd4 : Below W1.heap.size W1 (W4.drewN nq) := drewN_below HX.out
    have HX5 : Hid (Below W1.heap.size W1 W5) := Lib.hid (hW5 ▸ (by (repeat' (first | (with_reducible exact Below.refl _ _) | (with_reducible assumption) | (with_reducible refine Below.alloc ?_ ?_ _) | (with_reducible refine Below.drew ?_) | (with_reducible refine drewN_below ?_) | (with_reducible refine Below.setCell ?_ ?_ _) | go_size))))
    have K2 : Hid (W5.heap[w2.heap.size]? = some (.cells #[.int .i64 i, .int .i64 l.cells.length] 24)) := Lib.hid (by rw [← hW5]; simp [heap_set, putIn, show ∀ n, (W4.drewN n).heap = W4.heap from fun _ => rfl, J2.out])
    have K3 : Hid (W5.heap[w2.heap.size + 1]? = some (.cells #[.int .i64 ((i : Int) + 1), .int .i64 0] 24)) := Lib.hid (by rw [← hW5]; simp [heap_set, putIn, show ∀ n, (W4.drewN n).heap = W4.heap from fun _ => rfl, J3.out])
    rw [hW5]
    have hz5 := HX5.out.size
    clear hW5 hd4 j0 i0' j1 i1' j2 i2 j3 i3
    obtain ⟨j0, i0'⟩ := blk (HB.out _ HX5.out).1
    obtain ⟨j1, i1'⟩ := blk (HB.out _ HX5.out).2
    obtain ⟨j2, i2⟩ := blk K2.out
    obtain ⟨j3, i3⟩ := blk K3.out
    go_wp2_with (first
     | (go_at_call 111; refine (HD.out _ HX5.out).mono ?_; rintro e w7 ⟨v7, rfl, hv7, hst7⟩; obtain ⟨a7, c7, rfl⟩ := hv7.slice; have hb7 := below_from HX5.out hst7; obtain ⟨q8, g8⟩ := blk (heap_below hst7 K2.out); have hz7 : W5.heap.size ≤ w7.heap.size := hst7.size; have HV7 := Lib.hid hv7; clear hv7; obtain ⟨q7, g7⟩ := blk (HB.out _ hb7).1; obtain ⟨q9, g9⟩ := blk (HB.out _ hb7).2)
     | (go_at_call 112; refine (HCl.out _ _ _ HV7.out).mono ?_; rintro e w8 ⟨v8, rfl, hv8, hst8⟩; obtain ⟨a8, c8, rfl⟩ := hv8.slice; have hb8 := below_from hb7 hst8; have HV8 := Lib.hid hv8; clear hv8; obtain ⟨q6, g6⟩ := blk (HB.out _ hb8).2))
    refine bodyPost_ret (results_st_e rfl _ _ (w.heap.size + 1) (.slice a8 D.length c8) (.int .i64 i) (.int .i64 l.cells.length) (.int .i64 i) (.int .i64 l.cells.length) (.int .i64 0) (.int .i64 0) (.int .i64 0) rfl rfl (by simp [heap_set, putIn, (HB.out _ hb8).2])) rfl ?_
    unfold StSaid
    rw [HR2.out]
    have hfin := H1.out.trans (hb8.mono hs1)
    have hv8 := HV8.out
    have z4 := HX5.out.size
    exact ⟨_, rfl, (SliceR.stable (rdLin_stable _) hv8 (by (repeat' (first | (with_reducible exact Keeps.refl _ _) | (with_reducible refine Keeps.set ?_ ?_ _) | (with_reducible refine Keeps.alloc ?_ _) | (with_reducible refine Keeps.drew ?_) | (first | fail) | (simp; omega)))) (fun b h _ => (by have h' := h; (try simp at h'); omega))), by (repeat' (first | (with_reducible exact Below.refl _ _) | (with_reducible assumption) | (with_reducible refine Below.alloc ?_ ?_ _) | (with_reducible refine Below.drew ?_) | (with_reducible refine drewN_below ?_) | (with_reducible refine Below.setCell ?_ ?_ _) | go_size))⟩
   ·have z1 : ((l.cells.length : Int) == (l.cells.length : Int)) = true := beq_self_eq_true _
    have z2 : ((i : Int) == (lines.length : Int) - 1) = true := beq_iff_eq.2 (by omega)
    have HR2 : Hid (X = (noS, 7)) := Lib.hid (F3 rfl hin)
    clear h hs hf ho hof k0 k1 hB hm HEr0 hac hl hj F1 F2 F3 hx hAt hjl HD0 HCl0 hvc hil hin
    go_enter Tryz.func53, Tryz.ntmps53
    go_upto_region 7 with (go_at_call 70; refine (HM.out _ hw0).mono ?_; rintro e w2 ⟨rfl, hst2⟩; have hb2 := below_from hw0 hst2; obtain ⟨q0, g0⟩ := blk (HB.out _ hb2).1; obtain ⟨q1, g1⟩ := blk (HB.out _ hb2).2)
    obtain ⟨W4, hW4⟩ : ∃ W4, (w2.alloc (.cells #[.int .i64 i, .int .i64 l.cells.length] 24)).alloc (.cells #[.int .i64 i, .int .i64 ((l.cells.length : Int) + 1)] 24) = W4 := ⟨_, rfl⟩
    have hz2 := hb2.size
    have HX : Hid (Below W1.heap.size W1 W4) := Lib.hid (hW4 ▸ hb2.trans ((below2 (Below.refl _ _) _ _).mono hz2))
    have J2 : Hid (W4.heap[w2.heap.size]? = some (.cells #[.int .i64 i, .int .i64 l.cells.length] 24)) := Lib.hid (hW4 ▸ heap_old _ _ (heap_new _ _ rfl))
    have J3 : Hid (W4.heap[w2.heap.size + 1]? = some (.cells #[.int .i64 i, .int .i64 ((l.cells.length : Int) + 1)] 24)) := Lib.hid (hW4 ▸ heap_new _ _ (by simp))
    have hz4 : w2.heap.size + 2 = W4.heap.size := (by rw [← hW4]; simp)
    rw [hW4]
    clear hW4 q0 g0 q1 g1 p0 f0 p1 f1
    obtain ⟨j0, i0'⟩ := blk (HB.out _ HX.out).1
    obtain ⟨j1, i1'⟩ := blk (HB.out _ HX.out).2
    obtain ⟨j2, i2⟩ := blk J2.out
    obtain ⟨j3, i3⟩ := blk J3.out
    obtain ⟨_, _, _, _, c3, _, _⟩ := HAT.out _ HX.out
    clear hz4
    go_quiet (fail)
    go_wp2_with fail
    refine bodyPost_ret (results_st_e rfl _ _ (w.heap.size + 1) (.slice none 0 0) (.int .i64 0) (.int .i64 0) (.int .i64 0) (.int .i64 0) (.int .i64 0) (.int .i64 0) (.int .i64 7) rfl rfl (by simp [heap_set, putIn, show ∀ n, (W4.drewN n).heap = W4.heap from fun _ => rfl, (HB.out _ HX.out).2])) rfl ?_
    unfold StSaid
    rw [HR2.out]
    have hfin := H1.out.trans (HX.out.mono hs1)
    exact ⟨_, rfl, SliceR.nil _ _ _ _ _ _, by (repeat' (first | (with_reducible exact Below.refl _ _) | (with_reducible assumption) | (with_reducible refine Below.alloc ?_ ?_ _) | (with_reducible refine Below.drew ?_) | (with_reducible refine drewN_below ?_) | (with_reducible refine Below.setCell ?_ ?_ _) | go_size))⟩
 ·rw [decide_eq_false hc] at hq
  have hX : keyS s (forthK s) = keyS s (eraseK s) := by unfold forthK eraseK; rw [if_neg hc, if_neg hc]
  rw [hX]
  obtain ⟨X, hX2⟩ : ∃ X, keyS s (eraseK s) = X := ⟨_, rfl⟩
  rw [hX2] at HEr0 ⊢
  rw [hm] at HM
  have HEr : Hid (∀ W, Below W1.heap.size W1 W → Calls Tryz.prog 46 #[stV v s] W (StSaid X W)) := HEr0
  obtain ⟨p0, f0⟩ := blk k0
  obtain ⟨p1, f1⟩ := blk k1
  obtain ⟨va, vc, rfl⟩ := h.slice
  clear h hs hf ho hof k0 k1 hB hm HEr0 hX hX2 hc
  go_enter Tryz.func53, Tryz.ntmps53
  go_wp2_with (first
   | (go_at_call 70; refine (HM.out _ hw0).mono ?_; rintro e w2 ⟨rfl, hst2⟩; have hb2 := below_from hw0 hst2; obtain ⟨q0, g0⟩ := blk (HB.out _ hb2).1; obtain ⟨q1, g1⟩ := blk (HB.out _ hb2).2)
   | (go_at_call 46; refine (HEr.out _ hb2).mono ?_; rintro e w8 ⟨v8, rfl, hv8, hst8⟩; obtain ⟨a8, c8, rfl⟩ := hv8.slice; have hb8 := below_from hb2 hst8; have HV8 := Lib.hid hv8; clear hv8; obtain ⟨q6, g6⟩ := blk (HB.out _ hb8).2; have z2 := hb2.size))
  refine bodyPost_ret (results_st_e rfl _ _ (w.heap.size + 1) (.slice a8 X.1.lines.length c8) (.int .i64 X.1.anc.line) (.int .i64 X.1.anc.col) (.int .i64 X.1.foc.line) (.int .i64 X.1.foc.col) (.int .i64 X.1.on) (.int .i64 X.1.off) (.int .i64 X.2) rfl rfl (by simp [heap_set, putIn, (HB.out _ hb8).2])) rfl ?_
  have hfin := H1.out.trans (hb8.mono hs1)
  have hv8 := HV8.out
  exact ⟨_, rfl, (SliceR.stable (rdLin_stable _) hv8 (by (repeat' (first | (with_reducible exact Keeps.refl _ _) | (with_reducible refine Keeps.set ?_ ?_ _) | (with_reducible refine Keeps.alloc ?_ _) | (with_reducible refine Keeps.drew ?_) | (first | fail) | (simp; omega)))) (fun b h _ => (by have h' := h; (try simp at h'); omega))), by (repeat' (first | (with_reducible exact Below.refl _ _) | (with_reducible assumption) | (with_reducible refine Below.alloc ?_ ?_ _) | (with_reducible refine Below.drew ?_) | (with_reducible refine drewN_below ?_) | (with_reducible refine Below.setCell ?_ ?_ _) | go_size))⟩
end Go.Proofs.YtpndnbjpnajaaaaGreatDoor
