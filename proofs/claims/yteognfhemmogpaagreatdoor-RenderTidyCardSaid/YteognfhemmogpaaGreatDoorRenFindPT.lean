/- The walks of tags.of, tags.Class. -/
import Derived.Test.YteognfhemmogpaaGreatDoorTagTabT
import Derived.Test.YteognfhemmogpaaGreatDoorRenAlikeT
import Derived.Test.YteognfhemmogpaaGreatDoorMayT
import Derived.Test.YteognfhemmogpaaGreatDoorShelf
set_option linter.unusedVariables false
set_option linter.unusedSimpArgs false
namespace Go.Proofs.YteognfhemmogpaaGreatDoor
open Go.RowKit
open Go.Proofs.Qw
attribute [local go_sem] Oper.semAt_some
set_option maxRecDepth 100000
set_option maxHeartbeats 4000000
theorem results_tagrow {fn : Func} {p : Tmp} (h : fn.results = #[.cell p 101]) (tmps : Array Value) (w : World) (B : Nat) (x y : Value) (hp : tmps.getD p undef = .pointer (some ⟨B, 0, none⟩)) (hg : w.heap[B]? = some (.cells #[x, y] 101)) :
  (results fn tmps).run Tryz.prog w = .ok (.agg #[x, y]) w :=
 results_cell_row h tmps w B _ _ _ _ hp hg Tryz.underlying101 rfl (by kernel_rfl)
def OfSaid (c : Int) (w : World) (e : Ending) (w' : World) : Prop := (∃ s, e = .returned (.agg #[s, .int .i64 c])) ∧ Below w.heap.size w w'
theorem tagsOf_0 (w : World) : Calls Tryz.prog 61 #[.int .i64 0] w (OfSaid 1 w) := by
 obtain ⟨W1, hW1, hB, hz, hB1⟩ : ∃ W1, w.alloc (.cells #[.slice none 0 0, .int .i64 0] 101) = W1 ∧ Below w.heap.size w W1 ∧ w.heap.size + 1 = W1.heap.size ∧ W1.heap[w.heap.size]? = some (.cells #[.slice none 0 0, .int .i64 0] 101) :=
  ⟨_, rfl, (Below.refl _ _).alloc (Nat.le_refl _) _, by simp, heap_new _ _ rfl⟩
 have H1 := Lib.hid hB1
 have HB := Lib.hid hB
 clear hB hB1
 go_enter Tryz.func61, Tryz.ntmps61
 go_wp2_with (go_at_call 76; refine (tagTab_ok _).mono ?_; rintro e w2 ⟨⟨B1, B2, B3, B4, B5, B6, B7, B8, B9, B10, B11, B12, B13, B14, B15, B16, rfl⟩, hb2⟩; have hB2 := heap_below hb2 H1.out; obtain ⟨q1, g1⟩ := blk hB2; have hix : ∀ X, Sem.run Tryz.prog (Instr.index 119 (.agg (tagV B1 B2 B3 B4 B5 B6 B7 B8 B9 B10 B11 B12 B13 B14 B15 B16)) (.int .i64 0)) X = .ok (.agg #[.slice none 0 0, .int .i64 1]) X := fun X => by kernel_rfl)
 refine bodyPost_ret (results_tagrow rfl _ _ w.heap.size (.slice none 0 0) (.int .i64 1) rfl (by simp [heap_set, putIn, hB2])) rfl ?_
 refine ⟨⟨_, rfl⟩, ?_⟩
 exact (((HB.out.trans (hb2.mono (by omega))).setCell (Nat.le_refl _) _).setCell (Nat.le_refl _) _)
theorem tagsOf_1 (w : World) : Calls Tryz.prog 61 #[.int .i64 1] w (OfSaid 2 w) := by
 obtain ⟨W1, hW1, hB, hz, hB1⟩ : ∃ W1, w.alloc (.cells #[.slice none 0 0, .int .i64 0] 101) = W1 ∧ Below w.heap.size w W1 ∧ w.heap.size + 1 = W1.heap.size ∧ W1.heap[w.heap.size]? = some (.cells #[.slice none 0 0, .int .i64 0] 101) :=
  ⟨_, rfl, (Below.refl _ _).alloc (Nat.le_refl _) _, by simp, heap_new _ _ rfl⟩
 have H1 := Lib.hid hB1
 have HB := Lib.hid hB
 clear hB hB1
 go_enter Tryz.func61, Tryz.ntmps61
 go_wp2_with (go_at_call 76; refine (tagTab_ok _).mono ?_; rintro e w2 ⟨⟨B1, B2, B3, B4, B5, B6, B7, B8, B9, B10, B11, B12, B13, B14, B15, B16, rfl⟩, hb2⟩; have hB2 := heap_below hb2 H1.out; obtain ⟨q1, g1⟩ := blk hB2; have hix : ∀ X, Sem.run Tryz.prog (Instr.index 119 (.agg (tagV B1 B2 B3 B4 B5 B6 B7 B8 B9 B10 B11 B12 B13 B14 B15 B16)) (.int .i64 1)) X = .ok (.agg #[.slice (some ⟨B1, 0, none⟩) 1 1, .int .i64 2]) X := fun X => by kernel_rfl)
 refine bodyPost_ret (results_tagrow rfl _ _ w.heap.size (.slice (some ⟨B1, 0, none⟩) 1 1) (.int .i64 2) rfl (by simp [heap_set, putIn, hB2])) rfl ?_
 refine ⟨⟨_, rfl⟩, ?_⟩
 exact (((HB.out.trans (hb2.mono (by omega))).setCell (Nat.le_refl _) _).setCell (Nat.le_refl _) _)
theorem tagsOf_2 (w : World) : Calls Tryz.prog 61 #[.int .i64 2] w (OfSaid 3 w) := by
 obtain ⟨W1, hW1, hB, hz, hB1⟩ : ∃ W1, w.alloc (.cells #[.slice none 0 0, .int .i64 0] 101) = W1 ∧ Below w.heap.size w W1 ∧ w.heap.size + 1 = W1.heap.size ∧ W1.heap[w.heap.size]? = some (.cells #[.slice none 0 0, .int .i64 0] 101) :=
  ⟨_, rfl, (Below.refl _ _).alloc (Nat.le_refl _) _, by simp, heap_new _ _ rfl⟩
 have H1 := Lib.hid hB1
 have HB := Lib.hid hB
 clear hB hB1
 go_enter Tryz.func61, Tryz.ntmps61
 go_wp2_with (go_at_call 76; refine (tagTab_ok _).mono ?_; rintro e w2 ⟨⟨B1, B2, B3, B4, B5, B6, B7, B8, B9, B10, B11, B12, B13, B14, B15, B16, rfl⟩, hb2⟩; have hB2 := heap_below hb2 H1.out; obtain ⟨q1, g1⟩ := blk hB2; have hix : ∀ X, Sem.run Tryz.prog (Instr.index 119 (.agg (tagV B1 B2 B3 B4 B5 B6 B7 B8 B9 B10 B11 B12 B13 B14 B15 B16)) (.int .i64 2)) X = .ok (.agg #[.slice (some ⟨B2, 0, none⟩) 1 1, .int .i64 3]) X := fun X => by kernel_rfl)
 refine bodyPost_ret (results_tagrow rfl _ _ w.heap.size (.slice (some ⟨B2, 0, none⟩) 1 1) (.int .i64 3) rfl (by simp [heap_set, putIn, hB2])) rfl ?_
 refine ⟨⟨_, rfl⟩, ?_⟩
 exact (((HB.out.trans (hb2.mono (by omega))).setCell (Nat.le_refl _) _).setCell (Nat.le_refl _) _)
theorem tagsOf_3 (w : World) : Calls Tryz.prog 61 #[.int .i64 3] w (OfSaid 3 w) := by
 obtain ⟨W1, hW1, hB, hz, hB1⟩ : ∃ W1, w.alloc (.cells #[.slice none 0 0, .int .i64 0] 101) = W1 ∧ Below w.heap.size w W1 ∧ w.heap.size + 1 = W1.heap.size ∧ W1.heap[w.heap.size]? = some (.cells #[.slice none 0 0, .int .i64 0] 101) :=
  ⟨_, rfl, (Below.refl _ _).alloc (Nat.le_refl _) _, by simp, heap_new _ _ rfl⟩
 have H1 := Lib.hid hB1
 have HB := Lib.hid hB
 clear hB hB1
 go_enter Tryz.func61, Tryz.ntmps61
 go_wp2_with (go_at_call 76; refine (tagTab_ok _).mono ?_; rintro e w2 ⟨⟨B1, B2, B3, B4, B5, B6, B7, B8, B9, B10, B11, B12, B13, B14, B15, B16, rfl⟩, hb2⟩; have hB2 := heap_below hb2 H1.out; obtain ⟨q1, g1⟩ := blk hB2; have hix : ∀ X, Sem.run Tryz.prog (Instr.index 119 (.agg (tagV B1 B2 B3 B4 B5 B6 B7 B8 B9 B10 B11 B12 B13 B14 B15 B16)) (.int .i64 3)) X = .ok (.agg #[.slice (some ⟨B3, 0, none⟩) 1 1, .int .i64 3]) X := fun X => by kernel_rfl)
 refine bodyPost_ret (results_tagrow rfl _ _ w.heap.size (.slice (some ⟨B3, 0, none⟩) 1 1) (.int .i64 3) rfl (by simp [heap_set, putIn, hB2])) rfl ?_
 refine ⟨⟨_, rfl⟩, ?_⟩
 exact (((HB.out.trans (hb2.mono (by omega))).setCell (Nat.le_refl _) _).setCell (Nat.le_refl _) _)
theorem tagsOf_4 (w : World) : Calls Tryz.prog 61 #[.int .i64 4] w (OfSaid 3 w) := by
 obtain ⟨W1, hW1, hB, hz, hB1⟩ : ∃ W1, w.alloc (.cells #[.slice none 0 0, .int .i64 0] 101) = W1 ∧ Below w.heap.size w W1 ∧ w.heap.size + 1 = W1.heap.size ∧ W1.heap[w.heap.size]? = some (.cells #[.slice none 0 0, .int .i64 0] 101) :=
  ⟨_, rfl, (Below.refl _ _).alloc (Nat.le_refl _) _, by simp, heap_new _ _ rfl⟩
 have H1 := Lib.hid hB1
 have HB := Lib.hid hB
 clear hB hB1
 go_enter Tryz.func61, Tryz.ntmps61
 go_wp2_with (go_at_call 76; refine (tagTab_ok _).mono ?_; rintro e w2 ⟨⟨B1, B2, B3, B4, B5, B6, B7, B8, B9, B10, B11, B12, B13, B14, B15, B16, rfl⟩, hb2⟩; have hB2 := heap_below hb2 H1.out; obtain ⟨q1, g1⟩ := blk hB2; have hix : ∀ X, Sem.run Tryz.prog (Instr.index 119 (.agg (tagV B1 B2 B3 B4 B5 B6 B7 B8 B9 B10 B11 B12 B13 B14 B15 B16)) (.int .i64 4)) X = .ok (.agg #[.slice (some ⟨B4, 0, none⟩) 1 1, .int .i64 3]) X := fun X => by kernel_rfl)
 refine bodyPost_ret (results_tagrow rfl _ _ w.heap.size (.slice (some ⟨B4, 0, none⟩) 1 1) (.int .i64 3) rfl (by simp [heap_set, putIn, hB2])) rfl ?_
 refine ⟨⟨_, rfl⟩, ?_⟩
 exact (((HB.out.trans (hb2.mono (by omega))).setCell (Nat.le_refl _) _).setCell (Nat.le_refl _) _)
theorem tagsOf_5 (w : World) : Calls Tryz.prog 61 #[.int .i64 5] w (OfSaid 3 w) := by
 obtain ⟨W1, hW1, hB, hz, hB1⟩ : ∃ W1, w.alloc (.cells #[.slice none 0 0, .int .i64 0] 101) = W1 ∧ Below w.heap.size w W1 ∧ w.heap.size + 1 = W1.heap.size ∧ W1.heap[w.heap.size]? = some (.cells #[.slice none 0 0, .int .i64 0] 101) :=
  ⟨_, rfl, (Below.refl _ _).alloc (Nat.le_refl _) _, by simp, heap_new _ _ rfl⟩
 have H1 := Lib.hid hB1
 have HB := Lib.hid hB
 clear hB hB1
 go_enter Tryz.func61, Tryz.ntmps61
 go_wp2_with (go_at_call 76; refine (tagTab_ok _).mono ?_; rintro e w2 ⟨⟨B1, B2, B3, B4, B5, B6, B7, B8, B9, B10, B11, B12, B13, B14, B15, B16, rfl⟩, hb2⟩; have hB2 := heap_below hb2 H1.out; obtain ⟨q1, g1⟩ := blk hB2; have hix : ∀ X, Sem.run Tryz.prog (Instr.index 119 (.agg (tagV B1 B2 B3 B4 B5 B6 B7 B8 B9 B10 B11 B12 B13 B14 B15 B16)) (.int .i64 5)) X = .ok (.agg #[.slice (some ⟨B5, 0, none⟩) 1 1, .int .i64 3]) X := fun X => by kernel_rfl)
 refine bodyPost_ret (results_tagrow rfl _ _ w.heap.size (.slice (some ⟨B5, 0, none⟩) 1 1) (.int .i64 3) rfl (by simp [heap_set, putIn, hB2])) rfl ?_
 refine ⟨⟨_, rfl⟩, ?_⟩
 exact (((HB.out.trans (hb2.mono (by omega))).setCell (Nat.le_refl _) _).setCell (Nat.le_refl _) _)
theorem tagsOf_6 (w : World) : Calls Tryz.prog 61 #[.int .i64 6] w (OfSaid 2 w) := by
 obtain ⟨W1, hW1, hB, hz, hB1⟩ : ∃ W1, w.alloc (.cells #[.slice none 0 0, .int .i64 0] 101) = W1 ∧ Below w.heap.size w W1 ∧ w.heap.size + 1 = W1.heap.size ∧ W1.heap[w.heap.size]? = some (.cells #[.slice none 0 0, .int .i64 0] 101) :=
  ⟨_, rfl, (Below.refl _ _).alloc (Nat.le_refl _) _, by simp, heap_new _ _ rfl⟩
 have H1 := Lib.hid hB1
 have HB := Lib.hid hB
 clear hB hB1
 go_enter Tryz.func61, Tryz.ntmps61
 go_wp2_with (go_at_call 76; refine (tagTab_ok _).mono ?_; rintro e w2 ⟨⟨B1, B2, B3, B4, B5, B6, B7, B8, B9, B10, B11, B12, B13, B14, B15, B16, rfl⟩, hb2⟩; have hB2 := heap_below hb2 H1.out; obtain ⟨q1, g1⟩ := blk hB2; have hix : ∀ X, Sem.run Tryz.prog (Instr.index 119 (.agg (tagV B1 B2 B3 B4 B5 B6 B7 B8 B9 B10 B11 B12 B13 B14 B15 B16)) (.int .i64 6)) X = .ok (.agg #[.slice (some ⟨B6, 0, none⟩) 1 1, .int .i64 2]) X := fun X => by kernel_rfl)
 refine bodyPost_ret (results_tagrow rfl _ _ w.heap.size (.slice (some ⟨B6, 0, none⟩) 1 1) (.int .i64 2) rfl (by simp [heap_set, putIn, hB2])) rfl ?_
 refine ⟨⟨_, rfl⟩, ?_⟩
 exact (((HB.out.trans (hb2.mono (by omega))).setCell (Nat.le_refl _) _).setCell (Nat.le_refl _) _)
theorem tagsOf_7 (w : World) : Calls Tryz.prog 61 #[.int .i64 7] w (OfSaid 2 w) := by
 obtain ⟨W1, hW1, hB, hz, hB1⟩ : ∃ W1, w.alloc (.cells #[.slice none 0 0, .int .i64 0] 101) = W1 ∧ Below w.heap.size w W1 ∧ w.heap.size + 1 = W1.heap.size ∧ W1.heap[w.heap.size]? = some (.cells #[.slice none 0 0, .int .i64 0] 101) :=
  ⟨_, rfl, (Below.refl _ _).alloc (Nat.le_refl _) _, by simp, heap_new _ _ rfl⟩
 have H1 := Lib.hid hB1
 have HB := Lib.hid hB
 clear hB hB1
 go_enter Tryz.func61, Tryz.ntmps61
 go_wp2_with (go_at_call 76; refine (tagTab_ok _).mono ?_; rintro e w2 ⟨⟨B1, B2, B3, B4, B5, B6, B7, B8, B9, B10, B11, B12, B13, B14, B15, B16, rfl⟩, hb2⟩; have hB2 := heap_below hb2 H1.out; obtain ⟨q1, g1⟩ := blk hB2; have hix : ∀ X, Sem.run Tryz.prog (Instr.index 119 (.agg (tagV B1 B2 B3 B4 B5 B6 B7 B8 B9 B10 B11 B12 B13 B14 B15 B16)) (.int .i64 7)) X = .ok (.agg #[.slice (some ⟨B7, 0, none⟩) 1 1, .int .i64 2]) X := fun X => by kernel_rfl)
 refine bodyPost_ret (results_tagrow rfl _ _ w.heap.size (.slice (some ⟨B7, 0, none⟩) 1 1) (.int .i64 2) rfl (by simp [heap_set, putIn, hB2])) rfl ?_
 refine ⟨⟨_, rfl⟩, ?_⟩
 exact (((HB.out.trans (hb2.mono (by omega))).setCell (Nat.le_refl _) _).setCell (Nat.le_refl _) _)
theorem tagsOf_8 (w : World) : Calls Tryz.prog 61 #[.int .i64 8] w (OfSaid 2 w) := by
 obtain ⟨W1, hW1, hB, hz, hB1⟩ : ∃ W1, w.alloc (.cells #[.slice none 0 0, .int .i64 0] 101) = W1 ∧ Below w.heap.size w W1 ∧ w.heap.size + 1 = W1.heap.size ∧ W1.heap[w.heap.size]? = some (.cells #[.slice none 0 0, .int .i64 0] 101) :=
  ⟨_, rfl, (Below.refl _ _).alloc (Nat.le_refl _) _, by simp, heap_new _ _ rfl⟩
 have H1 := Lib.hid hB1
 have HB := Lib.hid hB
 clear hB hB1
 go_enter Tryz.func61, Tryz.ntmps61
 go_wp2_with (go_at_call 76; refine (tagTab_ok _).mono ?_; rintro e w2 ⟨⟨B1, B2, B3, B4, B5, B6, B7, B8, B9, B10, B11, B12, B13, B14, B15, B16, rfl⟩, hb2⟩; have hB2 := heap_below hb2 H1.out; obtain ⟨q1, g1⟩ := blk hB2; have hix : ∀ X, Sem.run Tryz.prog (Instr.index 119 (.agg (tagV B1 B2 B3 B4 B5 B6 B7 B8 B9 B10 B11 B12 B13 B14 B15 B16)) (.int .i64 8)) X = .ok (.agg #[.slice (some ⟨B8, 0, none⟩) 1 1, .int .i64 2]) X := fun X => by kernel_rfl)
 refine bodyPost_ret (results_tagrow rfl _ _ w.heap.size (.slice (some ⟨B8, 0, none⟩) 1 1) (.int .i64 2) rfl (by simp [heap_set, putIn, hB2])) rfl ?_
 refine ⟨⟨_, rfl⟩, ?_⟩
 exact (((HB.out.trans (hb2.mono (by omega))).setCell (Nat.le_refl _) _).setCell (Nat.le_refl _) _)
theorem tagsOf_9 (w : World) : Calls Tryz.prog 61 #[.int .i64 9] w (OfSaid 3 w) := by
 obtain ⟨W1, hW1, hB, hz, hB1⟩ : ∃ W1, w.alloc (.cells #[.slice none 0 0, .int .i64 0] 101) = W1 ∧ Below w.heap.size w W1 ∧ w.heap.size + 1 = W1.heap.size ∧ W1.heap[w.heap.size]? = some (.cells #[.slice none 0 0, .int .i64 0] 101) :=
  ⟨_, rfl, (Below.refl _ _).alloc (Nat.le_refl _) _, by simp, heap_new _ _ rfl⟩
 have H1 := Lib.hid hB1
 have HB := Lib.hid hB
 clear hB hB1
 go_enter Tryz.func61, Tryz.ntmps61
 go_wp2_with (go_at_call 76; refine (tagTab_ok _).mono ?_; rintro e w2 ⟨⟨B1, B2, B3, B4, B5, B6, B7, B8, B9, B10, B11, B12, B13, B14, B15, B16, rfl⟩, hb2⟩; have hB2 := heap_below hb2 H1.out; obtain ⟨q1, g1⟩ := blk hB2; have hix : ∀ X, Sem.run Tryz.prog (Instr.index 119 (.agg (tagV B1 B2 B3 B4 B5 B6 B7 B8 B9 B10 B11 B12 B13 B14 B15 B16)) (.int .i64 9)) X = .ok (.agg #[.slice (some ⟨B9, 0, none⟩) 1 1, .int .i64 3]) X := fun X => by kernel_rfl)
 refine bodyPost_ret (results_tagrow rfl _ _ w.heap.size (.slice (some ⟨B9, 0, none⟩) 1 1) (.int .i64 3) rfl (by simp [heap_set, putIn, hB2])) rfl ?_
 refine ⟨⟨_, rfl⟩, ?_⟩
 exact (((HB.out.trans (hb2.mono (by omega))).setCell (Nat.le_refl _) _).setCell (Nat.le_refl _) _)
theorem tagsOf_10 (w : World) : Calls Tryz.prog 61 #[.int .i64 10] w (OfSaid 4 w) := by
 obtain ⟨W1, hW1, hB, hz, hB1⟩ : ∃ W1, w.alloc (.cells #[.slice none 0 0, .int .i64 0] 101) = W1 ∧ Below w.heap.size w W1 ∧ w.heap.size + 1 = W1.heap.size ∧ W1.heap[w.heap.size]? = some (.cells #[.slice none 0 0, .int .i64 0] 101) :=
  ⟨_, rfl, (Below.refl _ _).alloc (Nat.le_refl _) _, by simp, heap_new _ _ rfl⟩
 have H1 := Lib.hid hB1
 have HB := Lib.hid hB
 clear hB hB1
 go_enter Tryz.func61, Tryz.ntmps61
 go_wp2_with (go_at_call 76; refine (tagTab_ok _).mono ?_; rintro e w2 ⟨⟨B1, B2, B3, B4, B5, B6, B7, B8, B9, B10, B11, B12, B13, B14, B15, B16, rfl⟩, hb2⟩; have hB2 := heap_below hb2 H1.out; obtain ⟨q1, g1⟩ := blk hB2; have hix : ∀ X, Sem.run Tryz.prog (Instr.index 119 (.agg (tagV B1 B2 B3 B4 B5 B6 B7 B8 B9 B10 B11 B12 B13 B14 B15 B16)) (.int .i64 10)) X = .ok (.agg #[.slice (some ⟨B10, 0, none⟩) 1 1, .int .i64 4]) X := fun X => by kernel_rfl)
 refine bodyPost_ret (results_tagrow rfl _ _ w.heap.size (.slice (some ⟨B10, 0, none⟩) 1 1) (.int .i64 4) rfl (by simp [heap_set, putIn, hB2])) rfl ?_
 refine ⟨⟨_, rfl⟩, ?_⟩
 exact (((HB.out.trans (hb2.mono (by omega))).setCell (Nat.le_refl _) _).setCell (Nat.le_refl _) _)
theorem tagsOf_11 (w : World) : Calls Tryz.prog 61 #[.int .i64 11] w (OfSaid 4 w) := by
 obtain ⟨W1, hW1, hB, hz, hB1⟩ : ∃ W1, w.alloc (.cells #[.slice none 0 0, .int .i64 0] 101) = W1 ∧ Below w.heap.size w W1 ∧ w.heap.size + 1 = W1.heap.size ∧ W1.heap[w.heap.size]? = some (.cells #[.slice none 0 0, .int .i64 0] 101) :=
  ⟨_, rfl, (Below.refl _ _).alloc (Nat.le_refl _) _, by simp, heap_new _ _ rfl⟩
 have H1 := Lib.hid hB1
 have HB := Lib.hid hB
 clear hB hB1
 go_enter Tryz.func61, Tryz.ntmps61
 go_wp2_with (go_at_call 76; refine (tagTab_ok _).mono ?_; rintro e w2 ⟨⟨B1, B2, B3, B4, B5, B6, B7, B8, B9, B10, B11, B12, B13, B14, B15, B16, rfl⟩, hb2⟩; have hB2 := heap_below hb2 H1.out; obtain ⟨q1, g1⟩ := blk hB2; have hix : ∀ X, Sem.run Tryz.prog (Instr.index 119 (.agg (tagV B1 B2 B3 B4 B5 B6 B7 B8 B9 B10 B11 B12 B13 B14 B15 B16)) (.int .i64 11)) X = .ok (.agg #[.slice (some ⟨B11, 0, none⟩) 2 2, .int .i64 4]) X := fun X => by kernel_rfl)
 refine bodyPost_ret (results_tagrow rfl _ _ w.heap.size (.slice (some ⟨B11, 0, none⟩) 2 2) (.int .i64 4) rfl (by simp [heap_set, putIn, hB2])) rfl ?_
 refine ⟨⟨_, rfl⟩, ?_⟩
 exact (((HB.out.trans (hb2.mono (by omega))).setCell (Nat.le_refl _) _).setCell (Nat.le_refl _) _)
theorem tagsOf_12 (w : World) : Calls Tryz.prog 61 #[.int .i64 12] w (OfSaid 4 w) := by
 obtain ⟨W1, hW1, hB, hz, hB1⟩ : ∃ W1, w.alloc (.cells #[.slice none 0 0, .int .i64 0] 101) = W1 ∧ Below w.heap.size w W1 ∧ w.heap.size + 1 = W1.heap.size ∧ W1.heap[w.heap.size]? = some (.cells #[.slice none 0 0, .int .i64 0] 101) :=
  ⟨_, rfl, (Below.refl _ _).alloc (Nat.le_refl _) _, by simp, heap_new _ _ rfl⟩
 have H1 := Lib.hid hB1
 have HB := Lib.hid hB
 clear hB hB1
 go_enter Tryz.func61, Tryz.ntmps61
 go_wp2_with (go_at_call 76; refine (tagTab_ok _).mono ?_; rintro e w2 ⟨⟨B1, B2, B3, B4, B5, B6, B7, B8, B9, B10, B11, B12, B13, B14, B15, B16, rfl⟩, hb2⟩; have hB2 := heap_below hb2 H1.out; obtain ⟨q1, g1⟩ := blk hB2; have hix : ∀ X, Sem.run Tryz.prog (Instr.index 119 (.agg (tagV B1 B2 B3 B4 B5 B6 B7 B8 B9 B10 B11 B12 B13 B14 B15 B16)) (.int .i64 12)) X = .ok (.agg #[.slice (some ⟨B12, 0, none⟩) 2 2, .int .i64 4]) X := fun X => by kernel_rfl)
 refine bodyPost_ret (results_tagrow rfl _ _ w.heap.size (.slice (some ⟨B12, 0, none⟩) 2 2) (.int .i64 4) rfl (by simp [heap_set, putIn, hB2])) rfl ?_
 refine ⟨⟨_, rfl⟩, ?_⟩
 exact (((HB.out.trans (hb2.mono (by omega))).setCell (Nat.le_refl _) _).setCell (Nat.le_refl _) _)
theorem tagsOf_13 (w : World) : Calls Tryz.prog 61 #[.int .i64 13] w (OfSaid 4 w) := by
 obtain ⟨W1, hW1, hB, hz, hB1⟩ : ∃ W1, w.alloc (.cells #[.slice none 0 0, .int .i64 0] 101) = W1 ∧ Below w.heap.size w W1 ∧ w.heap.size + 1 = W1.heap.size ∧ W1.heap[w.heap.size]? = some (.cells #[.slice none 0 0, .int .i64 0] 101) :=
  ⟨_, rfl, (Below.refl _ _).alloc (Nat.le_refl _) _, by simp, heap_new _ _ rfl⟩
 have H1 := Lib.hid hB1
 have HB := Lib.hid hB
 clear hB hB1
 go_enter Tryz.func61, Tryz.ntmps61
 go_wp2_with (go_at_call 76; refine (tagTab_ok _).mono ?_; rintro e w2 ⟨⟨B1, B2, B3, B4, B5, B6, B7, B8, B9, B10, B11, B12, B13, B14, B15, B16, rfl⟩, hb2⟩; have hB2 := heap_below hb2 H1.out; obtain ⟨q1, g1⟩ := blk hB2; have hix : ∀ X, Sem.run Tryz.prog (Instr.index 119 (.agg (tagV B1 B2 B3 B4 B5 B6 B7 B8 B9 B10 B11 B12 B13 B14 B15 B16)) (.int .i64 13)) X = .ok (.agg #[.slice (some ⟨B13, 0, none⟩) 2 2, .int .i64 4]) X := fun X => by kernel_rfl)
 refine bodyPost_ret (results_tagrow rfl _ _ w.heap.size (.slice (some ⟨B13, 0, none⟩) 2 2) (.int .i64 4) rfl (by simp [heap_set, putIn, hB2])) rfl ?_
 refine ⟨⟨_, rfl⟩, ?_⟩
 exact (((HB.out.trans (hb2.mono (by omega))).setCell (Nat.le_refl _) _).setCell (Nat.le_refl _) _)
theorem tagsOf_14 (w : World) : Calls Tryz.prog 61 #[.int .i64 14] w (OfSaid 4 w) := by
 obtain ⟨W1, hW1, hB, hz, hB1⟩ : ∃ W1, w.alloc (.cells #[.slice none 0 0, .int .i64 0] 101) = W1 ∧ Below w.heap.size w W1 ∧ w.heap.size + 1 = W1.heap.size ∧ W1.heap[w.heap.size]? = some (.cells #[.slice none 0 0, .int .i64 0] 101) :=
  ⟨_, rfl, (Below.refl _ _).alloc (Nat.le_refl _) _, by simp, heap_new _ _ rfl⟩
 have H1 := Lib.hid hB1
 have HB := Lib.hid hB
 clear hB hB1
 go_enter Tryz.func61, Tryz.ntmps61
 go_wp2_with (go_at_call 76; refine (tagTab_ok _).mono ?_; rintro e w2 ⟨⟨B1, B2, B3, B4, B5, B6, B7, B8, B9, B10, B11, B12, B13, B14, B15, B16, rfl⟩, hb2⟩; have hB2 := heap_below hb2 H1.out; obtain ⟨q1, g1⟩ := blk hB2; have hix : ∀ X, Sem.run Tryz.prog (Instr.index 119 (.agg (tagV B1 B2 B3 B4 B5 B6 B7 B8 B9 B10 B11 B12 B13 B14 B15 B16)) (.int .i64 14)) X = .ok (.agg #[.slice (some ⟨B14, 0, none⟩) 3 3, .int .i64 4]) X := fun X => by kernel_rfl)
 refine bodyPost_ret (results_tagrow rfl _ _ w.heap.size (.slice (some ⟨B14, 0, none⟩) 3 3) (.int .i64 4) rfl (by simp [heap_set, putIn, hB2])) rfl ?_
 refine ⟨⟨_, rfl⟩, ?_⟩
 exact (((HB.out.trans (hb2.mono (by omega))).setCell (Nat.le_refl _) _).setCell (Nat.le_refl _) _)
theorem tagsOf_15 (w : World) : Calls Tryz.prog 61 #[.int .i64 15] w (OfSaid 4 w) := by
 obtain ⟨W1, hW1, hB, hz, hB1⟩ : ∃ W1, w.alloc (.cells #[.slice none 0 0, .int .i64 0] 101) = W1 ∧ Below w.heap.size w W1 ∧ w.heap.size + 1 = W1.heap.size ∧ W1.heap[w.heap.size]? = some (.cells #[.slice none 0 0, .int .i64 0] 101) :=
  ⟨_, rfl, (Below.refl _ _).alloc (Nat.le_refl _) _, by simp, heap_new _ _ rfl⟩
 have H1 := Lib.hid hB1
 have HB := Lib.hid hB
 clear hB hB1
 go_enter Tryz.func61, Tryz.ntmps61
 go_wp2_with (go_at_call 76; refine (tagTab_ok _).mono ?_; rintro e w2 ⟨⟨B1, B2, B3, B4, B5, B6, B7, B8, B9, B10, B11, B12, B13, B14, B15, B16, rfl⟩, hb2⟩; have hB2 := heap_below hb2 H1.out; obtain ⟨q1, g1⟩ := blk hB2; have hix : ∀ X, Sem.run Tryz.prog (Instr.index 119 (.agg (tagV B1 B2 B3 B4 B5 B6 B7 B8 B9 B10 B11 B12 B13 B14 B15 B16)) (.int .i64 15)) X = .ok (.agg #[.slice (some ⟨B15, 0, none⟩) 1 1, .int .i64 4]) X := fun X => by kernel_rfl)
 refine bodyPost_ret (results_tagrow rfl _ _ w.heap.size (.slice (some ⟨B15, 0, none⟩) 1 1) (.int .i64 4) rfl (by simp [heap_set, putIn, hB2])) rfl ?_
 refine ⟨⟨_, rfl⟩, ?_⟩
 exact (((HB.out.trans (hb2.mono (by omega))).setCell (Nat.le_refl _) _).setCell (Nat.le_refl _) _)
theorem tagsOf_16 (w : World) : Calls Tryz.prog 61 #[.int .i64 16] w (OfSaid 5 w) := by
 obtain ⟨W1, hW1, hB, hz, hB1⟩ : ∃ W1, w.alloc (.cells #[.slice none 0 0, .int .i64 0] 101) = W1 ∧ Below w.heap.size w W1 ∧ w.heap.size + 1 = W1.heap.size ∧ W1.heap[w.heap.size]? = some (.cells #[.slice none 0 0, .int .i64 0] 101) :=
  ⟨_, rfl, (Below.refl _ _).alloc (Nat.le_refl _) _, by simp, heap_new _ _ rfl⟩
 have H1 := Lib.hid hB1
 have HB := Lib.hid hB
 clear hB hB1
 go_enter Tryz.func61, Tryz.ntmps61
 go_wp2_with (go_at_call 76; refine (tagTab_ok _).mono ?_; rintro e w2 ⟨⟨B1, B2, B3, B4, B5, B6, B7, B8, B9, B10, B11, B12, B13, B14, B15, B16, rfl⟩, hb2⟩; have hB2 := heap_below hb2 H1.out; obtain ⟨q1, g1⟩ := blk hB2; have hix : ∀ X, Sem.run Tryz.prog (Instr.index 119 (.agg (tagV B1 B2 B3 B4 B5 B6 B7 B8 B9 B10 B11 B12 B13 B14 B15 B16)) (.int .i64 16)) X = .ok (.agg #[.slice (some ⟨B16, 0, none⟩) 1 1, .int .i64 5]) X := fun X => by kernel_rfl)
 refine bodyPost_ret (results_tagrow rfl _ _ w.heap.size (.slice (some ⟨B16, 0, none⟩) 1 1) (.int .i64 5) rfl (by simp [heap_set, putIn, hB2])) rfl ?_
 refine ⟨⟨_, rfl⟩, ?_⟩
 exact (((HB.out.trans (hb2.mono (by omega))).setCell (Nat.le_refl _) _).setCell (Nat.le_refl _) _)
theorem tagsOf_out (t : Int) (ht : t < 0 ∨ 16 < t) (w : World) : Calls Tryz.prog 61 #[.int .i64 t] w (OfSaid 0 w) := by
 obtain ⟨W1, hW1, hB, hz, hB1⟩ : ∃ W1, w.alloc (.cells #[.slice none 0 0, .int .i64 0] 101) = W1 ∧ Below w.heap.size w W1 ∧ w.heap.size + 1 = W1.heap.size ∧ W1.heap[w.heap.size]? = some (.cells #[.slice none 0 0, .int .i64 0] 101) :=
  ⟨_, rfl, (Below.refl _ _).alloc (Nat.le_refl _) _, by simp, heap_new _ _ rfl⟩
 have H1 := Lib.hid hB1
 have HB := Lib.hid hB
 obtain ⟨p1, f1⟩ := blk hB1
 clear hB
 rcases ht with ht | ht
 ·have hd1 : decide (t < 0) = true := decide_eq_true ht
  go_enter Tryz.func61, Tryz.ntmps61
  go_wp2_with fail
  refine bodyPost_ret (results_tagrow rfl _ _ w.heap.size (.slice none 0 0) (.int .i64 0) rfl (by simp [heap_set, putIn, hB1])) rfl ?_
  refine ⟨⟨_, rfl⟩, ?_⟩
  exact ((HB.out.setCell (Nat.le_refl _) _).setCell (Nat.le_refl _) _)
 ·have hd1 : decide (t < 0) = false := decide_eq_false (by omega)
  have hd2 : decide (16 < t) = true := decide_eq_true ht
  go_enter Tryz.func61, Tryz.ntmps61
  go_wp2_with fail
  refine bodyPost_ret (results_tagrow rfl _ _ w.heap.size (.slice none 0 0) (.int .i64 0) rfl (by simp [heap_set, putIn, hB1])) rfl ?_
  refine ⟨⟨_, rfl⟩, ?_⟩
  exact ((HB.out.setCell (Nat.le_refl _) _).setCell (Nat.le_refl _) _)
theorem tagsOf_any (t : Int) (w : World) : Calls Tryz.prog 61 #[.int .i64 t] w (OfSaid (tagC t) w) := by
 by_cases ht : t < 0 ∨ 16 < t
 ·rw [show tagC t = 0 by unfold tagC; rw [if_pos ht]]
  exact tagsOf_out t ht w
 ·have h : t = 0 ∨ t = 1 ∨ t = 2 ∨ t = 3 ∨ t = 4 ∨ t = 5 ∨ t = 6 ∨ t = 7 ∨ t = 8 ∨ t = 9 ∨ t = 10 ∨ t = 11 ∨ t = 12 ∨ t = 13 ∨ t = 14 ∨ t = 15 ∨ t = 16 := by omega
  rcases h with rfl | rfl | rfl | rfl | rfl | rfl | rfl | rfl | rfl | rfl | rfl | rfl | rfl | rfl | rfl | rfl | rfl
  ·exact tagsOf_0 w
  ·exact tagsOf_1 w
  ·exact tagsOf_2 w
  ·exact tagsOf_3 w
  ·exact tagsOf_4 w
  ·exact tagsOf_5 w
  ·exact tagsOf_6 w
  ·exact tagsOf_7 w
  ·exact tagsOf_8 w
  ·exact tagsOf_9 w
  ·exact tagsOf_10 w
  ·exact tagsOf_11 w
  ·exact tagsOf_12 w
  ·exact tagsOf_13 w
  ·exact tagsOf_14 w
  ·exact tagsOf_15 w
  ·exact tagsOf_16 w
theorem tagsClass_any (t : Int) (w : World) : Calls Tryz.prog 37 #[.int .i64 t] w fun e w' => e = .returned (.int .i64 (tagC t)) ∧ Below w.heap.size w w' := by
 have HC := Lib.hid (tagsOf_any t w)
 generalize tagC t = c at *
 go_enter Tryz.func37, Tryz.ntmps37
 go_wp2_with (go_at_call 61; refine HC.out.mono ?_; rintro e w1 ⟨⟨s, rfl⟩, hb1⟩; have hfld : ∀ X, Sem.run Tryz.prog (Instr.field 101 (.agg #[s, .int .i64 c]) 1) X = .ok (.int .i64 c) X := fun X => by kernel_rfl)
 go_ret
 exact ⟨by first | rfl | simp, hb1⟩
end Go.Proofs.YteognfhemmogpaaGreatDoor
namespace Go.Proofs.Qw
open Go.RowKit
def LinOk (l : Lin) : Prop := 0 ≤ l.quote ∧ l.quote ≤ 6 ∧ l.lists.length ≤ 6 ∧ 0 ≤ l.kind ∧ l.kind ≤ 3 ∧ (l.lists = [] ∨ l.kind = 0) ∧ (∀ k ∈ l.lists, k = 0 ∨ k = 1) ∧ ∀ c ∈ l.cells, CelOk c
def hostN (d : List Lin) : Nod := .mk 1 [] [] (hostL (lineN (gr rowK)) 13 0 d)
end Go.Proofs.Qw
namespace Go.Proofs.Qw
open Go.RowKit
def mayT (p k : Int) : Bool :=
 if tagC p = 2 then (if p = 7 ∨ p = 8 then decide (k = 7 ∨ k = 8 ∨ k = 9) else if k = 1 ∨ k = 9 then false else decide (tagC k = 2 ∨ tagC k = 3))
 else if tagC p = 4 then (if p = 10 ∧ k = 10 then false else decide (tagC k = 4 ∨ tagC k = 5 ∨ tagC k = 1))
 else if tagC p = 3 then decide (tagC k = 4 ∨ tagC k = 5 ∨ tagC k = 1) else false
def sideOk (a b : Nod) : Bool := !(decide (a.tag = b.tag) && (decide (tagC b.tag = 1) || decide (tagC b.tag = 2) || (decide (tagC b.tag = 4) && decide (a.attrs = b.attrs))))
def sides : List Nod → Bool
 | a :: b :: l => sideOk a b && sides (b :: l)
 | _ => true
mutual
def tidyN : Nod → Int → Bool
 | .mk t _ _ ks, m => decide ((if t = 10 then m + 1 else m) ≤ 1) && tidyK t ks (if t = 10 then m + 1 else m) && sides ks
def tidyK : Int → List Nod → Int → Bool
 | _, [], _ => true
 | t, k :: ks, m => mayT t k.tag && !(decide (k.tag = 0) && decide (k.text = [])) && tidyN k m && tidyK t ks m
end
theorem tidyK_of {t m : Int} : ∀ {ks : List Nod}, (∀ k ∈ ks, mayT t k.tag = true ∧ (k.tag = 0 → k.text ≠ []) ∧ tidyN k m = true) → tidyK t ks m = true
 | [], _ => by rw [tidyK]
 | k :: ks, h => by
  obtain ⟨h1, h2, h3⟩ := h k (by simp)
  rw [tidyK, h1, h3, tidyK_of fun x hx => h x (by simp [hx])]
  by_cases h0 : k.tag = 0
  ·simp [h2 h0]
  ·simp [h0]
theorem tidyN_of {t m : Int} {ats : List Att} {x : List UInt8} {ks : List Nod} (ht : t ≠ 10 ∨ m ≤ 0) (hm : m ≤ 1) (hk : ∀ k ∈ ks, mayT t k.tag = true ∧ (k.tag = 0 → k.text ≠ []) ∧ tidyN k (if t = 10 then m + 1 else m) = true) (hs : sides ks = true) : tidyN (.mk t ats x ks) m = true := by
 rw [tidyN, tidyK_of hk, hs]
 simp only [Bool.and_true, decide_eq_true_eq]
 split <;> omega
theorem sides_app : ∀ {a b : List Nod}, sides a = true → sides b = true → (∀ x y, a.getLast? = some x → b.head? = some y → sideOk x y = true) → sides (a ++ b) = true
 | [], b, _, hb, _ => hb
 | [x], [], _, _, _ => rfl
 | [x], y :: b, _, hb, h => by
  show (sideOk x y && sides (y :: b)) = true
  rw [h x y rfl rfl, hb]
  rfl
 | x :: z :: a, b, ha, hb, h => by
  have ha : (sideOk x z && sides (z :: a)) = true := ha
  rw [Bool.and_eq_true] at ha
  show (sideOk x z && sides ((z :: a) ++ b)) = true
  rw [ha.1, sides_app ha.2 hb fun u v hu hv => h u v (by rw [List.getLast?_cons_cons]; exact hu) hv]
  rfl
def Chn {α : Type} (R : α → α → Prop) : List α → Prop
 | a :: b :: l => R a b ∧ Chn R (b :: l)
 | _ => True
theorem parts_chain {α : Type} [Inhabited α] (r : α → α → Bool) : ∀ (n : Nat) (l : List α), l.length ≤ n → Chn (fun p q => r (p.headD default) (q.headD default) = false) (partsBy r l)
 | 0, l, hl => by
  have : l = [] := List.length_eq_zero_iff.1 (by omega)
  subst this
  rw [parts_nil]; trivial
 | n + 1, [], _ => by rw [parts_nil]; trivial
 | n + 1, a :: l, hl => by
  rw [parts_cons]
  have ih := parts_chain r n (l.dropWhile (r a)) (by have := (List.dropWhile_suffix (l := l) (r a)).length_le; simp at hl; omega)
  cases hd : l.dropWhile (r a) with
  | nil => rw [parts_nil]; trivial
  | cons b m =>
   rw [hd] at ih
   rw [parts_cons] at ih ⊢
   refine ⟨?_, ih⟩
   simp only [List.headD_cons]
   have := List.head_dropWhile_not (p := r a) (l := l) (by rw [hd]; simp)
   simp only [hd, List.head_cons] at this
   simpa using this
theorem flat_sides {α : Type} (F : α → List Nod) (R : α → α → Prop) : ∀ (ps : List α), Chn R ps → (∀ p ∈ ps, F p ≠ [] ∧ sides (F p) = true) → (∀ p ∈ ps, ∀ q ∈ ps, R p q → ∀ x y, (F p).getLast? = some x → (F q).head? = some y → sideOk x y = true) → sides (ps.flatMap F) = true
 | [], _, _, _ => rfl
 | [p], _, h, _ => by
  rw [List.flatMap_cons, List.flatMap_nil, List.append_nil]
  exact (h p (by simp)).2
 | p :: q :: ps, hc, h, hj => by
  rw [List.flatMap_cons]
  refine sides_app (h p (by simp)).2 (flat_sides F R (q :: ps) hc.2 (fun x hx => h x (by simp at hx ⊢; exact .inr hx)) (fun x hx y hy => hj x (by simp at hx ⊢; exact .inr hx) y (by simp at hy ⊢; exact .inr hy))) fun x y hx hy => ?_
  refine hj p (by simp) q (by simp) hc.1 x y hx ?_
  rw [List.flatMap_cons] at hy
  cases hq : F q with
  | nil => exact absurd hq (h q (by simp)).1
  | cons z zs => rw [hq] at hy; exact hy
def RowN (n : Nat) (k : Nod) : Prop := (k.tag = 0 ∧ k.text ≠ []) ∨ k.tag = 16 ∨ (15 - (n : Int) ≤ k.tag ∧ k.tag ≤ 14)
theorem rowN_may {n : Nat} (hn : n ≤ 4) {k : Nod} (h : RowN n k) {t : Int} (ht : tagC t = 3 ∨ (tagC t = 4)) (hx : k.tag ≠ 10 ∨ t ≠ 10) : mayT t k.tag = true ∧ (k.tag = 0 → k.text ≠ []) := by
 have hc : tagC k.tag = 4 ∨ tagC k.tag = 5 ∨ tagC k.tag = 1 := by
  rcases h with h | h | h
  ·rw [h.1]; exact .inr (.inr (by decide))
  ·rw [h]; exact .inr (.inl (by decide))
  ·left
   exact tag_in ⟨by omega, h.2⟩
 refine ⟨?_, fun h0 => ?_⟩
 ·unfold mayT
  rcases ht with ht | ht
  ·rw [if_neg (by omega), if_neg (by omega), if_pos ht]
   exact decide_eq_true hc
  ·rw [if_neg (by omega), if_pos ht, if_neg (by omega)]
   exact decide_eq_true hc
 ·rcases h with h | h | h
  ·exact h.2
  ·omega
  ·omega
theorem side_tags {x y : Nod} (h : x.tag ≠ y.tag) : sideOk x y = true := by
 unfold sideOk
 rw [decide_eq_false h]
 rfl
theorem txtL_ne {l : List Int} (h : l ≠ []) : txtL l ≠ [] := by
 cases l with
 | nil => exact absurd rfl h
 | cons c l =>
  unfold txtL
  rw [List.flatMap_cons]
  have := encode_pos c
  intro e
  have h2 := (List.append_eq_nil_iff.1 e).1
  rw [h2] at this
  simp at this
theorem leaf_tidy (p : List Cel) (hp : p ≠ []) : RowN 0 (leafP p) ∧ ∀ m ≤ 1, tidyN (leafP p) m = true := by
 unfold leafP
 split
 ·exact ⟨.inr (.inl rfl), fun m hm => tidyN_of (.inl (by decide)) hm (by simp) rfl⟩
 ·refine ⟨.inl ⟨rfl, ?_⟩, fun m hm => tidyN_of (.inl (by decide)) hm (by simp) rfl⟩
  exact txtL_ne (by simpa using hp)
theorem rowN_mono {n : Nat} {k : Nod} (h : RowN n k) : RowN (n + 1) k := by
 rcases h with h | h | h
 ·exact .inl h
 ·exact .inr (.inl h)
 ·exact .inr (.inr ⟨by omega, h.2⟩)
theorem bits_tidy : ∀ (n : Nat), n ≤ 4 → ∀ l : List Cel, l ≠ [] → (∀ k ∈ gr (bitsK n) l, RowN n k ∧ ∀ m ≤ 1, tidyN k m = true) ∧ sides (gr (bitsK n) l) = true
 | 0, _, l, hl => by
  unfold bitsK gr leavesN
  refine ⟨fun k hk => ?_, ?_⟩
  ·obtain ⟨p, hp, rfl⟩ := List.mem_map.1 hk
   exact leaf_tidy p (parts_ne textR _ l (Nat.le_refl _) p hp)
  ·have e : (partsBy textR l).map leafP = (partsBy textR l).flatMap (fun p => [leafP p]) := by induction partsBy textR l with | nil => rfl | cons a m ih => rw [List.map_cons, List.flatMap_cons, ih]; rfl
   rw [e]
   refine flat_sides (fun p => [leafP p]) _ _ (parts_chain textR _ l (Nat.le_refl _)) (fun p _ => ⟨by simp, rfl⟩) ?_
   intro p _ q _ hr x y hx hy
   simp only [List.getLast?_singleton, List.head?_cons, Option.some.injEq] at hx hy
   subst hx hy
   unfold textR at hr
   simp only [Bool.and_eq_false_iff, decide_eq_false_iff_not, ne_eq, Decidable.not_not] at hr
   unfold leafP
   rcases hr with hr | hr
   ·rw [if_pos hr]
    split
    ·decide
    ·exact side_tags (by show (16 : Int) ≠ 0; decide)
   ·rw [if_pos hr]
    split
    ·decide
    ·exact side_tags (by show (0 : Int) ≠ 16; decide)
 | n + 1, hn, l, hl => by
  have e : gr (bitsK (n + 1)) l = (partsBy (fun a b => decide (lvBit (3 - n) a = lvBit (3 - n) b)) l).flatMap fun p => wrapO (lvBit (3 - n) (p.headD default)) (gr (bitsK n) p) := by rw [bitsK, gr]
  rw [e]
  have hp : ∀ p ∈ partsBy (fun a b => decide (lvBit (3 - n) a = lvBit (3 - n) b)) l, p ≠ [] := parts_ne _ _ l (Nat.le_refl _)
  have hw : ∀ c w, lvBit (3 - n) c = some w → w = (14 - (n : Int), []) := fun c w h => by
   unfold lvBit at h
   split at h
   ·cases h
   ·injection h with h
    rw [← h]
    congr 1
    omega
  have one : ∀ p, p ≠ [] → (∀ k ∈ wrapO (lvBit (3 - n) (p.headD default)) (gr (bitsK n) p), RowN (n + 1) k ∧ ∀ m ≤ 1, tidyN k m = true) ∧ sides (wrapO (lvBit (3 - n) (p.headD default)) (gr (bitsK n) p)) = true := by
   intro p hp
   obtain ⟨h1, h2⟩ := bits_tidy n (by omega) p hp
   cases hk : lvBit (3 - n) (p.headD default) with
   | none => exact ⟨fun k hk => ⟨rowN_mono (h1 k hk).1, (h1 k hk).2⟩, h2⟩
   | some w =>
    rw [hw _ _ hk]
    refine ⟨fun k hk => ?_, rfl⟩
    rw [show wrapO (some (14 - (n : Int), [])) (gr (bitsK n) p) = [Nod.mk (14 - (n : Int)) [] [] (gr (bitsK n) p)] from rfl, List.mem_singleton] at hk
    subst hk
    refine ⟨.inr (.inr ⟨by simp only [Nod.tag]; omega, by simp only [Nod.tag]; omega⟩), fun m hm => ?_⟩
    refine tidyN_of (.inl (by omega)) hm (fun k hk => ?_) h2
    have := rowN_may (by omega) (h1 k hk).1 (t := 14 - (n : Int)) (.inr (tag_in ⟨by omega, by omega⟩)) (.inr (by omega))
    rw [if_neg (by omega)]
    exact ⟨this.1, this.2, (h1 k hk).2 m hm⟩
  refine ⟨fun k hk => ?_, ?_⟩
  ·obtain ⟨p, hpp, hk⟩ := List.mem_flatMap.1 hk
   exact (one p (hp p hpp)).1 k hk
  ·refine flat_sides _ _ _ (parts_chain _ _ l (Nat.le_refl _)) (fun p hpp => ⟨wrapO_ne (gr_ne _ (hp p hpp)), (one p (hp p hpp)).2⟩) ?_
   intro p hpp q hqq hr x y hx hy
   simp only [decide_eq_false_iff_not] at hr
   have hx' := List.mem_of_getLast? hx
   have hy' := List.mem_of_head? hy
   refine side_tags ?_
   have low : ∀ p, p ≠ [] → ∀ k ∈ gr (bitsK n) p, k.tag ≠ 14 - (n : Int) := fun p hp k hk => by
    rcases ((bits_tidy n (by omega) p hp).1 k hk).1 with h | h | h <;> omega
   cases hkp : lvBit (3 - n) (p.headD default) with
   | none =>
    cases hkq : lvBit (3 - n) (q.headD default) with
    | none => exact absurd (hkp.trans hkq.symm) hr
    | some w =>
     rw [hkp] at hx'
     rw [hkq, hw _ _ hkq] at hy'
     rw [show wrapO (some (14 - (n : Int), [])) (gr (bitsK n) q) = [Nod.mk (14 - (n : Int)) [] [] (gr (bitsK n) q)] from rfl, List.mem_singleton] at hy'
     subst hy'
     exact low p (hp p hpp) x hx'
   | some w =>
    cases hkq : lvBit (3 - n) (q.headD default) with
    | none =>
     rw [hkq] at hy'
     rw [hkp, hw _ _ hkp] at hx'
     rw [show wrapO (some (14 - (n : Int), [])) (gr (bitsK n) p) = [Nod.mk (14 - (n : Int)) [] [] (gr (bitsK n) p)] from rfl, List.mem_singleton] at hx'
     subst hx'
     exact Ne.symm (low q (hp q hqq) y hy')
    | some w' => exact absurd (by rw [hkp, hkq, hw _ _ hkp, hw _ _ hkq]) hr
theorem row_tidy (l : List Cel) : (∀ k ∈ gr rowK l, RowN 5 k ∧ tidyN k 0 = true) ∧ sides (gr rowK l) = true := by
 have e : gr rowK l = (partsBy (fun a b => decide (lvHref a = lvHref b)) l).flatMap fun p => wrapO (lvHref (p.headD default)) (gr (bitsK 4) p) := by
  unfold rowK
  rw [gr]
  rfl
 rw [e]
 have hp : ∀ p ∈ partsBy (fun a b => decide (lvHref a = lvHref b)) l, p ≠ [] := parts_ne _ _ l (Nat.le_refl _)
 have hw : ∀ c w, lvHref c = some w → w = (10, hrefA c.href) := fun c w h => by
  unfold lvHref at h
  split at h
  ·cases h
  ·injection h with h; exact h.symm
 have one : ∀ p, p ≠ [] → (∀ k ∈ wrapO (lvHref (p.headD default)) (gr (bitsK 4) p), RowN 5 k ∧ tidyN k 0 = true) ∧ sides (wrapO (lvHref (p.headD default)) (gr (bitsK 4) p)) = true := by
  intro p hp
  obtain ⟨h1, h2⟩ := bits_tidy 4 (by omega) p hp
  cases hk : lvHref (p.headD default) with
  | none => exact ⟨fun k hk => ⟨rowN_mono (h1 k hk).1, (h1 k hk).2 0 (by decide)⟩, h2⟩
  | some w =>
   rw [hw _ _ hk]
   refine ⟨fun k hk => ?_, rfl⟩
   rw [show wrapO (some (10, hrefA (p.headD default).href)) (gr (bitsK 4) p) = [Nod.mk 10 (hrefA (p.headD default).href) [] (gr (bitsK 4) p)] from rfl, List.mem_singleton] at hk
   subst hk
   refine ⟨.inr (.inr ⟨by simp only [Nod.tag]; omega, by simp only [Nod.tag]; omega⟩), ?_⟩
   refine tidyN_of (.inr (by decide)) (by decide) (fun k hk => ?_) h2
   have hk1 := (h1 k hk).1
   have := rowN_may (by omega) hk1 (t := 10) (.inr (by decide)) (.inl (by rcases hk1 with h | h | h <;> omega))
   rw [if_pos rfl]
   exact ⟨this.1, this.2, (h1 k hk).2 _ (by decide)⟩
 refine ⟨fun k hk => ?_, ?_⟩
 ·obtain ⟨p, hpp, hk⟩ := List.mem_flatMap.1 hk
  exact (one p (hp p hpp)).1 k hk
 ·refine flat_sides _ _ _ (parts_chain _ _ l (Nat.le_refl _)) (fun p hpp => ⟨wrapO_ne (gr_ne _ (hp p hpp)), (one p (hp p hpp)).2⟩) ?_
  intro p hpp q hqq hr x y hx hy
  simp only [decide_eq_false_iff_not] at hr
  have hx' := List.mem_of_getLast? hx
  have hy' := List.mem_of_head? hy
  have low : ∀ p, p ≠ [] → ∀ k ∈ gr (bitsK 4) p, k.tag ≠ 10 := fun p hp k hk => by
   rcases ((bits_tidy 4 (by omega) p hp).1 k hk).1 with h | h | h <;> omega
  have ex : ∀ h p, wrapO (some (10, hrefA h)) (gr (bitsK 4) p) = [Nod.mk 10 (hrefA h) [] (gr (bitsK 4) p)] := fun _ _ => rfl
  cases hkp : lvHref (p.headD default) with
  | none =>
   cases hkq : lvHref (q.headD default) with
   | none => exact absurd (hkp.trans hkq.symm) hr
   | some w =>
    rw [hkp] at hx'
    rw [hkq, hw _ _ hkq, ex, List.mem_singleton] at hy'
    subst hy'
    exact side_tags (low p (hp p hpp) x hx')
  | some w =>
   cases hkq : lvHref (q.headD default) with
   | none =>
    rw [hkq] at hy'
    rw [hkp, hw _ _ hkp, ex, List.mem_singleton] at hx'
    subst hx'
    exact side_tags (Ne.symm (low q (hp q hqq) y hy'))
   | some w' =>
    have e1 := hw _ _ hkp
    have e2 := hw _ _ hkq
    rw [hkp, e1, ex, List.mem_singleton] at hx'
    rw [hkq, e2, ex, List.mem_singleton] at hy'
    have hne : hrefA (p.headD default).href ≠ hrefA (q.headD default).href := fun e => hr (by rw [hkp, hkq, e1, e2, e])
    subst hx' hy'
    unfold sideOk
    have e4 : decide (Nod.attrs (.mk 10 (hrefA (p.headD default).href) [] (gr (bitsK 4) p)) = Nod.attrs (.mk 10 (hrefA (q.headD default).href) [] (gr (bitsK 4) q))) = false := decide_eq_false hne
    have e5 : decide (tagC (Nod.mk 10 (hrefA (q.headD default).href) [] (gr (bitsK 4) q)).tag = 1) = false := decide_eq_false (show ¬ tagC 10 = 1 by decide)
    have e6 : decide (tagC (Nod.mk 10 (hrefA (q.headD default).href) [] (gr (bitsK 4) q)).tag = 2) = false := decide_eq_false (show ¬ tagC 10 = 2 by decide)
    rw [e4, e5, e6]
    simp
theorem row_may {k : Nod} (h : RowN 5 k) {t : Int} (ht : tagC t = 3) : mayT t k.tag = true ∧ (k.tag = 0 → k.text ≠ []) := by
 have hc : tagC k.tag = 4 ∨ tagC k.tag = 5 ∨ tagC k.tag = 1 := by
  rcases h with h | h | h
  ·rw [h.1]; exact .inr (.inr (by decide))
  ·rw [h]; exact .inr (.inl (by decide))
  ·left
   exact tag_in ⟨by omega, h.2⟩
 refine ⟨?_, fun h0 => ?_⟩
 ·unfold mayT
  rw [if_neg (by omega), if_neg (by omega), if_pos ht]
  exact decide_eq_true hc
 ·rcases h with h | h | h
  ·exact h.2
  ·omega
  ·omega
theorem line_tag {l : Lin} (h : LinOk l) : tagC (lineN (gr rowK) l).tag = 3 ∧ ((lineN (gr rowK) l).tag = 9 ↔ l.lists ≠ []) ∧ (lineN (gr rowK) l).tag ≠ 1 := by
 obtain ⟨_, _, _, h4, h5, _⟩ := h
 unfold lineN
 simp only [Nod.tag]
 by_cases hl : l.lists ≠ []
 ·rw [if_pos hl]
  exact ⟨by decide, ⟨fun _ => hl, fun _ => rfl⟩, by decide⟩
 ·rw [if_neg hl]
  refine ⟨?_, ⟨fun e => by omega, fun e => absurd e hl⟩, by omega⟩
  unfold tagC
  rw [if_neg (by omega), if_neg (by omega), if_neg (by omega), if_pos (by omega)]
theorem line_tidy {l : Lin} (h : LinOk l) : tidyN (lineN (gr rowK) l) 0 = true := by
 obtain ⟨h1, h2⟩ := row_tidy l.cells
 have ht := (line_tag h).1
 unfold lineN at ht ⊢
 simp only [Nod.tag] at ht
 have hne : (if l.lists ≠ [] then (9 : Int) else l.kind + 2) ≠ 10 := fun e => by rw [e] at ht; exact absurd ht (by decide)
 refine tidyN_of (.inl hne) (by decide) (fun k hk => ?_) h2
 rw [if_neg hne]
 have := row_may (h1 k hk).1 ht
 exact ⟨this.1, this.2, (h1 k hk).2⟩
def Prv (lv : Nat) (l : Lin) (pt : Int) : Prop := (lv = 0 ∧ pt = 1) ∨ (0 < lv ∧ (wayL l)[lv - 1]? = some pt)
theorem way_at {l : Lin} (hl : LinOk l) {j : Nat} {t : Int} (h : (wayL l)[j]? = some t) : (j < l.quote.toNat ∧ t = 6) ∨ (l.quote.toNat ≤ j ∧ (t = 7 ∨ t = 8)) := by
 obtain ⟨h0, h1, _⟩ := hl
 have hm : min l.quote.toNat 6 = l.quote.toNat := by omega
 unfold wayL at h
 rw [hm] at h
 by_cases hj : j < l.quote.toNat
 ·rw [List.getElem?_append_left (by simpa using hj), List.getElem?_replicate] at h
  rw [if_pos hj] at h
  cases h
  exact .inl ⟨hj, rfl⟩
 ·rw [List.getElem?_append_right (by simp; omega), List.getElem?_map] at h
  rw [Option.map_eq_some_iff] at h
  obtain ⟨k, _, rfl⟩ := h
  exact .inr ⟨by omega, by split; exact .inl rfl; exact .inr rfl⟩
theorem way_len {l : Lin} (hl : LinOk l) : (wayL l).length = l.quote.toNat + l.lists.length := by
 obtain ⟨h0, h1, _⟩ := hl
 unfold wayL
 rw [List.length_append, List.length_replicate, List.length_map]
 omega
theorem step_get {lv : Nat} {l : Lin} (h : stepL lv l ≠ 0) : (wayL l)[lv]? = some (stepL lv l) := by
 have := (stepL_some h).1
 unfold stepL
 rw [List.getD_eq_getElem?_getD, List.getElem?_eq_getElem this]
 rfl
theorem hosts_tidy : ∀ (n lv : Nat) (d : List Lin) (pt : Int), (∀ l ∈ d, LinOk l ∧ (wayL l).length < lv + n ∧ Prv lv l pt) →
  (∀ k ∈ hostL (lineN (gr rowK)) n lv d, mayT pt k.tag = true ∧ k.tag ≠ 0 ∧ tidyN k 0 = true) ∧ sides (hostL (lineN (gr rowK)) n lv d) = true
 | 0, lv, d, pt, h => by
  have : d = [] := by
   cases d with
   | nil => rfl
   | cons l d =>
    obtain ⟨h1, h2, h3⟩ := h l (by simp)
    rcases h3 with h3 | h3
    ·omega
    ·have := (List.getElem?_eq_some_iff.1 h3.2).1
     omega
  subst this
  exact ⟨by simp [hostL], rfl⟩
 | n + 1, lv, d, pt, h => by
  rw [hostL]
  have hp : ∀ p ∈ partsBy (stepR lv) d, p ≠ [] := parts_ne _ _ d (Nat.le_refl _)
  have hsub : ∀ p ∈ partsBy (stepR lv) d, ∀ x ∈ p, x ∈ d := fun p hp x hx => parts_sub _ _ hp hx
  have hall : ∀ p ∈ partsBy (stepR lv) d, ∀ x ∈ p, stepL lv x = stepL lv (p.headD default) := step_all _ d (Nat.le_refl _)
  have hhead : ∀ p ∈ partsBy (stepR lv) d, p.headD default ∈ p := fun p hpp => by
   cases p with
   | nil => exact absurd rfl (hp _ hpp)
   | cons a l => simp
  -- boxes
  have box : ∀ p ∈ partsBy (stepR lv) d, stepL lv (p.headD default) ≠ 0 → (stepL lv (p.headD default) = 6 ∨ stepL lv (p.headD default) = 7 ∨ stepL lv (p.headD default) = 8) ∧ mayT pt (stepL lv (p.headD default)) = true := by
   intro p hpp hs
   obtain ⟨g1, g2, g3⟩ := h _ (hsub p hpp _ (hhead p hpp))
   have hw := way_at g1 (step_get hs)
   refine ⟨by omega, ?_⟩
   rcases g3 with ⟨rfl, rfl⟩ | ⟨g3, g4⟩
   ·rcases hw with ⟨_, hw⟩ | ⟨_, hw | hw⟩ <;> rw [hw] <;> decide
   ·have hw2 := way_at g1 g4
    rcases hw with ⟨q1, hw⟩ | ⟨q1, hw | hw⟩ <;> rcases hw2 with ⟨q2, hw2⟩ | ⟨q2, hw2 | hw2⟩ <;> rw [hw, hw2] <;> first | decide | (exfalso; omega)
  have leaf : ∀ p ∈ partsBy (stepR lv) d, stepL lv (p.headD default) = 0 → mayT pt (lineN (gr rowK) (p.headD default)).tag = true := by
   intro p hpp hs
   obtain ⟨g1, g2, g3⟩ := h _ (hsub p hpp _ (hhead p hpp))
   have hlen : (wayL (p.headD default)).length ≤ lv := by
    have := stepL_none hs
    have := congrArg List.length this
    rw [List.length_drop, List.length_nil] at this
    omega
   have hwl := way_len g1
   obtain ⟨t1, t2, t3⟩ := line_tag g1
   by_cases hli : (p.headD default).lists ≠ []
   ·have e9 := t2.2 hli
    rw [e9]
    have hpos : 0 < (p.headD default).lists.length := List.length_pos_iff.2 hli
    rcases g3 with ⟨g3, _⟩ | ⟨g3, g4⟩
    ·omega
    ·have := (List.getElem?_eq_some_iff.1 g4).1
     rcases way_at g1 g4 with ⟨q2, hw2⟩ | ⟨q2, hw2 | hw2⟩
     ·omega
     ·rw [hw2]; decide
     ·rw [hw2]; decide
   ·have hn9 : (lineN (gr rowK) (p.headD default)).tag ≠ 9 := fun e => hli (t2.1 e)
    have hz : (p.headD default).lists.length = 0 := by simpa using hli
    have hpt : pt = 1 ∨ pt = 6 := by
     rcases g3 with ⟨_, g3⟩ | ⟨g3, g4⟩
     ·exact .inl g3
     ·have := (List.getElem?_eq_some_iff.1 g4).1
      rcases way_at g1 g4 with ⟨q2, hw2⟩ | ⟨q2, hw2⟩
      ·exact .inr hw2
      ·omega
    unfold mayT
    rw [if_pos (by rcases hpt with rfl | rfl <;> decide), if_neg (by omega), if_neg (by omega)]
    exact decide_eq_true (.inr t1)
  have one : ∀ p ∈ partsBy (stepR lv) d, ∀ k ∈ (if stepL lv (p.headD default) ≠ 0 then [Nod.mk (stepL lv (p.headD default)) [] [] (hostL (lineN (gr rowK)) n (lv + 1) p)] else [lineN (gr rowK) (p.headD default)]), mayT pt k.tag = true ∧ k.tag ≠ 0 ∧ tidyN k 0 = true := by
   intro p hpp k hk
   by_cases hs : stepL lv (p.headD default) ≠ 0
   ·rw [if_pos hs, List.mem_singleton] at hk
    subst hk
    obtain ⟨b1, b2⟩ := box p hpp hs
    obtain ⟨r1, r2⟩ := hosts_tidy n (lv + 1) p (stepL lv (p.headD default)) (fun l hl => by
     obtain ⟨g1, g2, _⟩ := h l (hsub p hpp l hl)
     refine ⟨g1, by omega, .inr ⟨by omega, ?_⟩⟩
     have := hall p hpp l hl
     rw [Nat.add_sub_cancel, ← this]
     exact step_get (this ▸ hs))
    refine ⟨b2, hs, tidyN_of (.inl (by omega)) (by decide) (fun k hk => ?_) r2⟩
    rw [if_neg (by omega)]
    exact ⟨(r1 k hk).1, fun e => absurd e (r1 k hk).2.1, (r1 k hk).2.2⟩
   ·rw [if_neg hs, List.mem_singleton] at hk
    subst hk
    have hs0 : stepL lv (p.headD default) = 0 := by simpa using hs
    have g1 := (h _ (hsub p hpp _ (hhead p hpp))).1
    refine ⟨leaf p hpp hs0, fun e => ?_, line_tidy g1⟩
    have := (line_tag g1).1
    rw [e] at this
    exact absurd this (by decide)
  refine ⟨fun k hk => ?_, ?_⟩
  ·obtain ⟨p, hpp, hk⟩ := List.mem_flatMap.1 hk
   exact one p hpp k hk
  ·refine flat_sides _ _ _ (parts_chain _ _ d (Nat.le_refl _)) (fun p hpp => ⟨by split <;> simp, by split <;> rfl⟩) ?_
   intro p hpp q hqq hr x y hx hy
   by_cases hs : stepL lv (p.headD default) ≠ 0
   ·rw [if_pos hs] at hx
    simp only [List.getLast?_singleton, Option.some.injEq] at hx
    subst hx
    by_cases hs2 : stepL lv (q.headD default) ≠ 0
    ·rw [if_pos hs2] at hy
     simp only [List.head?_cons, Option.some.injEq] at hy
     subst hy
     refine side_tags fun e => ?_
     simp only [Nod.tag] at e
     unfold stepR at hr
     rw [decide_eq_true hs, decide_eq_true e] at hr
     cases hr
    ·rw [if_neg hs2] at hy
     simp only [List.head?_cons, Option.some.injEq] at hy
     subst hy
     refine side_tags fun e => ?_
     have t1 := (line_tag (h _ (hsub q hqq _ (hhead q hqq))).1).1
     rw [← e] at t1
     simp only [Nod.tag] at t1
     rcases (box p hpp hs).1 with b | b | b <;> rw [b] at t1 <;> exact absurd t1 (by decide)
   ·rw [if_neg hs] at hx
    simp only [List.getLast?_singleton, Option.some.injEq] at hx
    subst hx
    have t1 := (line_tag (h _ (hsub p hpp _ (hhead p hpp))).1).1
    unfold sideOk
    by_cases e : (lineN (gr rowK) (p.headD default)).tag = y.tag
    ·rw [← e, t1]
     simp
    ·rw [decide_eq_false e]
     rfl
theorem ok_of_may {d : List Lin} (h : mayD d = true) : d ≠ [] ∧ ∀ l ∈ d, LinOk l := by
 unfold mayD at h
 simp only [Bool.and_eq_true, decide_eq_true_eq, List.all_eq_true] at h
 obtain ⟨⟨⟨h1, _⟩, _⟩, h2⟩ := h
 refine ⟨by rintro rfl; simp at h1, fun l hl => ?_⟩
 have := h2 l hl
 unfold mayL mayCs at this
 simp only [Bool.and_eq_true, Bool.or_eq_true, decide_eq_true_eq, List.all_eq_true] at this
 obtain ⟨⟨⟨⟨⟨⟨⟨g1, g2⟩, g3⟩, g4⟩, g5⟩, g6⟩, g7⟩, g8⟩ := this
 refine ⟨g1, g2, g3, g4, g5, g6, g7, fun c hc => ?_⟩
 have := g8 c hc
 unfold mayC linkF at this
 simp only [Bool.and_eq_true, Bool.or_eq_true, decide_eq_true_eq] at this
 exact ⟨this.1.1.1, this.1.1.2, this.1.2, this.2⟩
theorem host_tidy {d : List Lin} (h : mayD d = true) : tidyN (hostN d) 0 = true ∧ (hostN d).tag = 1 ∧ (hostN d).kids ≠ [] := by
 obtain ⟨hne, hok⟩ := ok_of_may h
 unfold hostN
 obtain ⟨r1, r2⟩ := hosts_tidy 13 0 d 1 (fun l hl => by
  refine ⟨hok l hl, ?_, .inl ⟨rfl, rfl⟩⟩
  have := way_len (hok l hl)
  have h1 := (hok l hl).1
  have h2 := (hok l hl).2.1
  have h3 := (hok l hl).2.2.1
  omega)
 refine ⟨tidyN_of (.inl (by decide)) (by decide) (fun k hk => ?_) r2, rfl, hostL_ne _ _ _ hne⟩
 rw [if_neg (by decide)]
 exact ⟨(r1 k hk).1, fun e => absurd e (r1 k hk).2.1, (r1 k hk).2.2⟩
end Go.Proofs.Qw
namespace Go.Proofs.YteognfhemmogpaaGreatDoor
open Go.RowKit
open Go.Proofs.Qw
attribute [local go_sem] Oper.semAt_some
set_option maxRecDepth 100000
set_option maxHeartbeats 4000000
theorem tagsMay_any (p k : Int) (w : World) : Calls Tryz.prog 36 #[.int .i64 p, .int .i64 k] w fun e w' => e = .returned (.bool (mayT p k)) ∧ Below w.heap.size w w' := by
 have HC := Lib.hid (fun t X => tagsClass_any t X)
 have HM : Hid (mayT p k = (if tagC p = 2 then (if p = 7 ∨ p = 8 then decide (k = 7 ∨ k = 8 ∨ k = 9) else if k = 1 ∨ k = 9 then false else decide (tagC k = 2 ∨ tagC k = 3))
 else if tagC p = 4 then (if p = 10 ∧ k = 10 then false else decide (tagC k = 4 ∨ tagC k = 5 ∨ tagC k = 1))
 else if tagC p = 3 then decide (tagC k = 4 ∨ tagC k = 5 ∨ tagC k = 1) else false)) := Lib.hid rfl
 obtain ⟨b, hb⟩ : ∃ b, mayT p k = b := ⟨_, rfl⟩
 rw [hb] at HM ⊢
 clear hb
 have HCp : Hid (∀ X, Calls Tryz.prog 37 #[.int .i64 p] X fun e w' => e = .returned (.int .i64 (tagC p)) ∧ Below X.heap.size X w') := Lib.hid fun X => HC.out p X
 have HCk : Hid (∀ X, Calls Tryz.prog 37 #[.int .i64 k] X fun e w' => e = .returned (.int .i64 (tagC k)) ∧ Below X.heap.size X w') := Lib.hid fun X => HC.out k X
 clear HC
 generalize tagC p = cp at *
 generalize tagC k = ck at *
 go_enter Tryz.func36, Tryz.ntmps36
 go_upto_region 2 with (go_at_call 37; refine (HCk.out _).mono ?_; rintro e w2 ⟨rfl, hb2⟩)
 go_upto_region 3 with (go_at_call 37; refine (HCp.out _).mono ?_; rintro e w3 ⟨rfl, hb3⟩)
 have hb23 := hb2.trans (hb3.mono hb2.size)
 clear hb2 hb3 HCp HCk
 go_wp2_with fail
 all_goals
  go_ret
  refine ⟨congrArg (fun x => Ending.returned (.bool x)) ?_, hb23⟩
  rw [HM.out, Bool.eq_iff_iff]
  clear HM hb23
  try simp only [beq_iff_eq, beq_eq_false_iff_ne, ne_eq, Bool.not_eq_true] at *
  repeat' split
  all_goals first
   | (exfalso; omega)
   | (simp only [Bool.or_eq_true, Bool.and_eq_true, beq_iff_eq, decide_eq_true_eq, Bool.false_eq_true, Bool.true_eq_false, iff_true, true_iff, false_iff, iff_false, or_true, true_or, or_false, false_or]; done)
   | (simp only [Bool.or_eq_true, Bool.and_eq_true, beq_iff_eq, decide_eq_true_eq, Bool.false_eq_true, Bool.true_eq_false, iff_true, true_iff, false_iff, iff_false, or_true, true_or, or_false, false_or]; omega)
end Go.Proofs.YteognfhemmogpaaGreatDoor
namespace Go.Proofs.Qw
open Go.RowKit
theorem runesGo_count (s : ByteArray) : ∀ (f pos : Nat), (runesGo s f pos).length = Lib.runeCountFrom s f pos
 | 0, _ => rfl
 | f + 1, pos => by
  unfold runesGo Lib.runeCountFrom
  split
  ·rw [List.length_cons, runesGo_count s f, Nat.add_comm]
  ·rfl
theorem runesB_count (s : ByteArray) : (runesB s).length = Lib.runeCount s := runesGo_count s _ _
end Go.Proofs.Qw
namespace Go.Proofs.YteognfhemmogpaaGreatDoor
open Go.RowKit
open Go.Proofs.Qw
attribute [local go_sem] Oper.semAt_some
theorem charsCount_any (s : ByteArray) (w : World) (hs : s.size ≤ 1000000000) :
  Calls Tryz.prog 56 #[.string s] w fun e w' => e = .returned (.int .i64 (runesB s).length) ∧ Below w.heap.size w w' := by
 have HC := Lib.hid (Tryz.utf8_RuneCountInString s w (by omega))
 rw [runesB_count]
 go_enter Tryz.func56, Tryz.ntmps56
 go_wp2_with (go_at_call 73; refine HC.out.mono ?_; rintro e w1 ⟨rfl, pos, rfl⟩)
 go_ret
 refine ⟨by first | rfl | simp, (Below.refl _ _).alloc (Nat.le_refl _) _⟩
end Go.Proofs.YteognfhemmogpaaGreatDoor
namespace Go.Proofs.YteognfhemmogpaaGreatDoor
open Go.RowKit
open Go.Proofs.Qw
structure But (B : Nat) (w w' : World) : Prop where
 os : w'.os = w.os
 tape : w'.tape = w.tape
 output : w'.output = w.output
 keeps : Keeps (fun b => b ≠ B) w w'
theorem But.refl (B : Nat) (w : World) : But B w w := ⟨rfl, rfl, rfl, Keeps.refl _ _⟩
theorem But.of {B : Nat} {w w' : World} (h : Below w.heap.size w w') : But B w w' := ⟨h.os, h.tape, h.output, Keeps.all h⟩
theorem But.trans {B : Nat} {a b c : World} (h : But B a b) (k : But B b c) : But B a c := ⟨k.os.trans h.os, k.tape.trans h.tape, k.output.trans h.output, h.keeps.trans k.keeps⟩
theorem But.size {B : Nat} {a b : World} (h : But B a b) : a.heap.size ≤ b.heap.size := h.keeps.size
theorem But.set {B : Nat} {a w : World} (h : But B a w) (o : Nat) (v : Value) : But B a (w.setCell ⟨B, o, none⟩ v) := h.trans ⟨rfl, rfl, rfl, (Keeps.refl _ _).set (by simp) v⟩
theorem But.alloc {B : Nat} {a w : World} (h : But B a w) (o : Obj) : But B a (w.alloc o) := h.trans (.of ((Below.refl _ _).alloc (Nat.le_refl _) _))
theorem But.below {B n : Nat} {w w' : World} (h : But B w w') (hn : n ≤ w.heap.size) (hB : n ≤ B) : Below n w w' := ⟨h.os, h.tape, h.output, h.size, fun k hk => h.keeps.block k (by show k ≠ B; omega) (by omega)⟩
theorem But.to {B : Nat} {w w' : World} {S : Nat → Prop} (h : But B w w') (hS : ∀ b, S b → b ≠ B) : Keeps S w w' := ⟨h.size, fun b hb hz => h.keeps.block b (hS b hb) hz⟩
theorem But.heap {B b : Nat} {w w' : World} {o : Obj} (h : But B w w') (hb : b ≠ B) (e : w.heap[b]? = some o) : w'.heap[b]? = some o := by
 have hz : b < w.heap.size := by
  rw [Array.getElem?_eq_some_iff] at e
  exact e.1
 exact (h.keeps.block b hb hz).trans e
def FinAt (B : Nat) (x y : Int) (w : World) : Prop := w.heap[B]? = some (.cells #[.int .i64 x, .int .i64 y] 63)
theorem FinAt.below {B : Nat} {x y : Int} {w w' : World} (h : FinAt B x y w) (hb : Below w.heap.size w w') : FinAt B x y w' := heap_below hb h
theorem nods_but {h B : Nat} {own : Bool} {w w' : World} {S : Nat → Prop} {v : Value} {l : List Nod} (hv : NodsR own h w S v l) (hS : ∀ b, S b → b ≠ B) (hb : But B w w') : NodsR own h w' S v l := hv.stable (rdNod_stable _ _) (hb.to hS) (fun _ h _ => h)
end Go.Proofs.YteognfhemmogpaaGreatDoor
namespace Go.Proofs.Qw
open Go.RowKit
mutual
def findN : Nod → List Int → Nat → (List Int × Nod) ⊕ Nat
 | .mk _ _ _ ks, p, i => findK ks 0 p i
def findK : List Nod → Nat → List Int → Nat → (List Int × Nod) ⊕ Nat
 | [], _, _, i => .inr i
 | k :: ks, j, p, i =>
  if tagC k.tag = 3 then (match i with | 0 => .inl (p ++ [(j : Int)], k) | i + 1 => findK ks (j + 1) p i)
  else match findN k (p ++ [(j : Int)]) i with
   | .inl r => .inl r
   | .inr i => findK ks (j + 1) p i
end
mutual
def leafF : Nod → List Int → Int → (List Int × Int) ⊕ Int
 | .mk _ _ _ ks, p, c => leafK ks 0 p c
def leafK : List Nod → Nat → List Int → Int → (List Int × Int) ⊕ Int
 | [], _, _, c => .inr c
 | k :: ks, j, p, c =>
  if k.tag = 16 then (if c = 1 then .inl (p, (j : Int) + 1) else leafK ks (j + 1) p (c - 1))
  else if k.tag ≠ 0 then (match leafF k (p ++ [(j : Int)]) c with
   | .inl r => .inl r
   | .inr c => leafK ks (j + 1) p c)
  else if c ≤ ((runesB ⟨k.text.toArray⟩).length : Int) then .inl (p ++ [(j : Int)], c) else leafK ks (j + 1) p (c - ((runesB ⟨k.text.toArray⟩).length : Int))
end
theorem findK_cons (k : Nod) (ks : List Nod) (j : Nat) (p : List Int) (i : Nat) : findK (k :: ks) j p i = if tagC k.tag = 3 then (match i with | 0 => .inl (p ++ [(j : Int)], k) | i + 1 => findK ks (j + 1) p i) else match findN k (p ++ [(j : Int)]) i with | .inl r => .inl r | .inr i => findK ks (j + 1) p i := by rw [findK.eq_def]
theorem findK_nil (j : Nat) (p : List Int) (i : Nat) : findK [] j p i = .inr i := by rw [findK.eq_def]
theorem findN_kids (n : Nod) (p : List Int) (i : Nat) : findN n p i = findK n.kids 0 p i := by cases n; rw [findN]; rfl
theorem leafF_kids (n : Nod) (p : List Int) (c : Int) : leafF n p c = leafK n.kids 0 p c := by cases n; rw [leafF]; rfl
def lastPath : Nat → Nat → List Nod → List Int
 | 0, _, _ => []
 | n + 1, j, l => (((j + l.length : Nat) : Int) - 1) :: lastPath n 0 (l.getLastD default).kids
theorem parts_take {α : Type} (r : α → α → Bool) : ∀ (n : Nat) (l : List α) (i : Nat), l.length ≤ n → i < l.length →
  ∃ ps q rest m, partsBy r l = ps ++ q :: rest ∧ m < q.length ∧ (ps.flatten).length + m = i ∧ partsBy r (l.take (i + 1)) = ps ++ [q.take (m + 1)]
 | 0, l, i, hl, hi => by omega
 | n + 1, [], i, _, hi => by simp at hi
 | n + 1, a :: l, i, hl, hi => by
  have htd := List.takeWhile_append_dropWhile (p := r a) (l := l)
  by_cases hc : i < (a :: l.takeWhile (r a)).length
  ·refine ⟨[], a :: l.takeWhile (r a), partsBy r (l.dropWhile (r a)), i, by rw [parts_cons]; rfl, hc, by simp, ?_⟩
   rw [List.take_succ_cons, parts_cons]
   have hi' : i ≤ (l.takeWhile (r a)).length := by simp at hc; omega
   have e : l.take i = (l.takeWhile (r a)).take i := by
    conv => lhs; rw [← htd]
    rw [List.take_append_of_le_length hi']
   have hall : ∀ x ∈ (l.takeWhile (r a)).take i, r a x = true := fun x hx => by
    have := List.all_takeWhile (l := l) (p := r a)
    rw [List.all_eq_true] at this
    exact this x (List.mem_of_mem_take hx)
   have e1 : ((l.takeWhile (r a)).take i).takeWhile (r a) = (l.takeWhile (r a)).take i := by have := takeWhile_all (p := r a) [] hall; simpa using this
   have e2 : ((l.takeWhile (r a)).take i).dropWhile (r a) = [] := by have := dropWhile_all (p := r a) [] hall; simpa using this
   rw [e, e1, e2, parts_nil, List.take_succ_cons]
   rfl
  ·have hlen : (l.takeWhile (r a)).length + (l.dropWhile (r a)).length = l.length := by rw [← List.length_append, htd]
   simp at hc hi
   obtain ⟨ps, q, rest, m, h1, h2, h3, h4⟩ := parts_take r n (l.dropWhile (r a)) (i - 1 - (l.takeWhile (r a)).length) (by have := (List.dropWhile_suffix (l := l) (r a)).length_le; simp at hl; omega) (by omega)
   refine ⟨(a :: l.takeWhile (r a)) :: ps, q, rest, m, by rw [parts_cons, h1]; rfl, h2, ?_, ?_⟩
   ·simp only [List.flatten_cons, List.length_append, List.length_cons]
    omega
   ·rw [List.take_succ_cons, parts_cons]
    have e : l.take i = l.takeWhile (r a) ++ (l.dropWhile (r a)).take (i - (l.takeWhile (r a)).length) := by
     conv => lhs; rw [← htd]
     rw [List.take_append, List.take_of_length_le (by omega)]
    have hall : ∀ x ∈ l.takeWhile (r a), r a x = true := fun x hx => by
     have := List.all_takeWhile (l := l) (p := r a)
     rw [List.all_eq_true] at this
     exact this x hx
    have hstop : ((l.dropWhile (r a)).take (i - (l.takeWhile (r a)).length)).takeWhile (r a) = [] ∧ ((l.dropWhile (r a)).take (i - (l.takeWhile (r a)).length)).dropWhile (r a) = (l.dropWhile (r a)).take (i - (l.takeWhile (r a)).length) := by
     cases hd : l.dropWhile (r a) with
     | nil => simp
     | cons b t =>
      have hb := List.head_dropWhile_not (p := r a) (l := l) (by rw [hd]; simp)
      simp only [hd, List.head_cons] at hb
      cases hk : i - (l.takeWhile (r a)).length with
      | zero => simp
      | succ k => rw [List.take_succ_cons]; exact ⟨List.takeWhile_cons_of_neg (by simpa using hb), List.dropWhile_cons_of_neg (by simpa using hb)⟩
    rw [e, takeWhile_all _ hall, dropWhile_all _ hall, hstop.1, hstop.2, List.append_nil]
    rw [show i - (l.takeWhile (r a)).length = i - 1 - (l.takeWhile (r a)).length + 1 by omega, h4]
    rfl
theorem parts_ahead {α : Type} (r : α → α → Bool) : ∀ (ps rest : List (List α)) (l : List α), partsBy r l = ps ++ rest → partsBy r ps.flatten = ps
 | [], _, _, _ => parts_nil _
 | a :: ps, rest, [], h => by rw [parts_nil] at h; cases h
 | a :: ps, rest, x :: l, h => by
  rw [parts_cons, List.cons_append] at h
  injection h with h1 h2
  have ih := parts_ahead r ps rest _ h2
  rw [List.flatten_cons, ← h1, List.cons_append, parts_cons]
  have hall : ∀ y ∈ l.takeWhile (r x), r x y = true := fun y hy => by
   have := List.all_takeWhile (l := l) (p := r x)
   rw [List.all_eq_true] at this
   exact this y hy
  have hst : ps.flatten.takeWhile (r x) = [] ∧ ps.flatten.dropWhile (r x) = ps.flatten := by
   have hfl := parts_flat r _ (l.dropWhile (r x)) (Nat.le_refl _)
   rw [h2, List.flatten_append] at hfl
   cases hd : ps.flatten with
   | nil => simp
   | cons b t =>
    have hdd : l.dropWhile (r x) = b :: (t ++ rest.flatten) := by rw [← hfl, hd]; rfl
    have hb := List.head_dropWhile_not (p := r x) (l := l) (by rw [hdd]; simp)
    simp only [hdd, List.head_cons] at hb
    exact ⟨List.takeWhile_cons_of_neg (by simpa using hb), List.dropWhile_cons_of_neg (by simpa using hb)⟩
  rw [takeWhile_all _ hall, dropWhile_all _ hall, hst.1, hst.2, ih, List.append_nil]
theorem find_over : ∀ (n lv : Nat) (d : List Lin) (j : Nat) (p : List Int) (i : Nat) (more : List Nod), (∀ l ∈ d, LinOk l ∧ (wayL l).length < lv + n) →
  findK (hostL (lineN (gr rowK)) n lv d ++ more) j p (i + d.length) = findK more (j + (hostL (lineN (gr rowK)) n lv d).length) p i
 | 0, lv, d, j, p, i, more, h => by
  rw [hostL]
  induction d generalizing j with
  | nil => simp
  | cons l d ih =>
   have ht := (line_tag (h l (by simp)).1).1
   rw [List.map_cons, List.cons_append, findK_cons, if_pos ht]
   have := ih (j + 1) (fun x hx => h x (by simp [hx]))
   rw [show i + (l :: d).length = (i + d.length) + 1 by simp; omega]
   simp only
   rw [this]
   congr 1
   simp
   omega
 | n + 1, lv, d, j, p, i, more, h => by
  rw [hostL]
  have hfl := parts_flat (stepR lv) _ d (Nat.le_refl _)
  have hsub : ∀ q ∈ partsBy (stepR lv) d, ∀ x ∈ q, x ∈ d := fun q hq x hx => parts_sub _ _ hq hx
  have hne : ∀ q ∈ partsBy (stepR lv) d, q ≠ [] := parts_ne _ _ d (Nat.le_refl _)
  have hone : ∀ q ∈ partsBy (stepR lv) d, stepL lv (q.headD default) = 0 → q.length = 1 := by
   have : ∀ (n : Nat) (l : List Lin), l.length ≤ n → ∀ q ∈ partsBy (stepR lv) l, stepL lv (q.headD default) = 0 → q.length = 1 := by
    intro n
    induction n with
    | zero => intro l hl; have : l = [] := List.length_eq_zero_iff.1 (by omega); subst this; rw [parts_nil]; simp
    | succ n ih =>
     intro l hl q hq hs
     cases l with
     | nil => rw [parts_nil] at hq; cases hq
     | cons a l =>
      rw [parts_cons] at hq
      rcases List.mem_cons.1 hq with rfl | hq
      ·simp only [List.headD_cons] at hs
       have : l.takeWhile (stepR lv a) = [] := by
        cases l with
        | nil => rfl
        | cons b l => rw [List.takeWhile_cons_of_neg]; unfold stepR; simp [hs]
       rw [this]
       rfl
      ·exact ih _ (by have := (List.dropWhile_suffix (l := l) (stepR lv a)).length_le; simp at hl; omega) q hq hs
   exact this _ d (Nat.le_refl _)
  have key : ∀ (ps : List (List Lin)) (j i : Nat), (∀ q ∈ ps, q ∈ partsBy (stepR lv) d) →
    findK (ps.flatMap (fun p => if stepL lv (p.headD default) ≠ 0 then [.mk (stepL lv (p.headD default)) [] [] (hostL (lineN (gr rowK)) n (lv + 1) p)] else [lineN (gr rowK) (p.headD default)]) ++ more) j p (i + ps.flatten.length) = findK more (j + (ps.flatMap (fun p => if stepL lv (p.headD default) ≠ 0 then [Nod.mk (stepL lv (p.headD default)) [] [] (hostL (lineN (gr rowK)) n (lv + 1) p)] else [lineN (gr rowK) (p.headD default)])).length) p i := by
   intro ps
   induction ps with
   | nil => intro j i _; simp
   | cons q ps ih =>
    intro j i hq
    have hq0 := hq q (by simp)
    have hhead : q.headD default ∈ q := by
     cases q with
     | nil => exact absurd rfl (hne _ hq0)
     | cons a l => simp
    obtain ⟨g1, g2⟩ := h _ (hsub q hq0 _ hhead)
    rw [List.flatMap_cons, List.append_assoc]
    have ih' := ih (j + 1) i (fun x hx => hq x (by simp [hx]))
    by_cases hs : stepL lv (q.headD default) ≠ 0
    ·rw [if_pos hs, List.singleton_append, findK_cons]
     have hw := way_at g1 (step_get hs)
     have ht : ¬ tagC (Nod.mk (stepL lv (q.headD default)) [] [] (hostL (lineN (gr rowK)) n (lv + 1) q)).tag = 3 := by
      simp only [Nod.tag]
      rcases hw with ⟨_, hw⟩ | ⟨_, hw | hw⟩ <;> rw [hw] <;> decide
     rw [if_neg ht, findN_kids]
     simp only [Nod.kids]
     have := find_over n (lv + 1) q 0 (p ++ [(j : Int)]) (i + ps.flatten.length) [] (fun l hl => by
      obtain ⟨a1, a2⟩ := h l (hsub q hq0 l hl)
      exact ⟨a1, by omega⟩)
     rw [List.append_nil] at this
     rw [show i + (q :: ps).flatten.length = i + ps.flatten.length + q.length by simp; omega, this, findK_nil]
     simp only
     rw [ih']
     congr 1
     simp
     omega
    ·have hs0 : stepL lv (q.headD default) = 0 := by simpa using hs
     have ht := (line_tag g1).1
     rw [if_neg hs, List.singleton_append, findK_cons, if_pos ht]
     rw [show i + (q :: ps).flatten.length = (i + ps.flatten.length) + 1 by simp [hone q hq0 hs0]; omega]
     simp only
     rw [ih']
     congr 1
     simp
     omega
  have := key (partsBy (stepR lv) d) j i (fun q hq => hq)
  rw [hfl] at this
  exact this
theorem find_line : ∀ (n lv : Nat) (d : List Lin) (j : Nat) (p : List Int) (i : Nat) (more : List Nod), (∀ l ∈ d, LinOk l ∧ (wayL l).length < lv + n ∧ lv ≤ (wayL l).length) → ∀ l, d[i]? = some l →
  findK (hostL (lineN (gr rowK)) n lv d ++ more) j p i = .inl (p ++ lastPath ((wayL l).length - lv + 1) j (hostL (lineN (gr rowK)) n lv (d.take (i + 1))), lineN (gr rowK) l)
 | 0, lv, d, j, p, i, more, h, l, hl => by
  exfalso
  obtain ⟨_, h2, h3⟩ := h l (List.mem_of_getElem? hl)
  omega
 | n + 1, lv, d, j, p, i, more, h, l, hl => by
  have hi : i < d.length := (List.getElem?_eq_some_iff.1 hl).1
  obtain ⟨ps, q, rest, m, e1, hm, hpm, e2⟩ := parts_take (stepR lv) _ d i (Nat.le_refl _) hi
  have hq : q ∈ partsBy (stepR lv) d := by rw [e1]; simp
  have hsub : ∀ q ∈ partsBy (stepR lv) d, ∀ x ∈ q, x ∈ d := fun q hq x hx => parts_sub _ _ hq hx
  have hql : q[m]? = some l := by
   have hfl := parts_flat (stepR lv) _ d (Nat.le_refl _)
   rw [e1, List.flatten_append, List.flatten_cons] at hfl
   rw [← hfl, List.getElem?_append_right (by omega), List.getElem?_append_left (by omega)] at hl
   rw [show i - ps.flatten.length = m by omega] at hl
   exact hl
  have hhead : q.headD default ∈ q := by
   cases q with
   | nil => simp at hm
   | cons a l => simp
  have hall := step_all _ d (Nat.le_refl _) q hq
  have hqt : q.take (m + 1) ≠ [] ∧ (q.take (m + 1)).headD default = q.headD default := by
   cases q with
   | nil => simp at hm
   | cons a l => simp
  have hF : ∀ d' : List Lin, hostL (lineN (gr rowK)) (n + 1) lv d' = (partsBy (stepR lv) d').flatMap fun p => if stepL lv (p.headD default) ≠ 0 then [.mk (stepL lv (p.headD default)) [] [] (hostL (lineN (gr rowK)) n (lv + 1) p)] else [lineN (gr rowK) (p.headD default)] := fun d' => by rw [hostL]
  -- the parts ahead
  have hahead : ∃ d0 : List Lin, partsBy (stepR lv) d0 = ps ∧ d0 = ps.flatten ∧ (∀ x ∈ d0, x ∈ d) := by
   refine ⟨ps.flatten, ?_, rfl, fun x hx => ?_⟩
   ·exact parts_ahead (stepR lv) ps (q :: rest) d e1
   ·obtain ⟨q', hq', hx'⟩ := List.mem_flatten.1 hx
    exact hsub q' (by rw [e1]; simp [hq']) x hx'
  obtain ⟨d0, g1, g2, g3⟩ := hahead
  have hover := find_over (n + 1) lv d0 j p m ((q :: rest).flatMap (fun p => if stepL lv (p.headD default) ≠ 0 then [.mk (stepL lv (p.headD default)) [] [] (hostL (lineN (gr rowK)) n (lv + 1) p)] else [lineN (gr rowK) (p.headD default)]) ++ more) (fun l hl => ⟨(h l (g3 l hl)).1, (h l (g3 l hl)).2.1⟩)
  rw [hF, e1, List.flatMap_append, List.append_assoc]
  rw [hF, g1] at hover
  rw [show m + d0.length = i by rw [g2]; omega] at hover
  rw [hover, hF, e2, List.flatMap_append]
  generalize hP : (ps.flatMap fun p => if stepL lv (p.headD default) ≠ 0 then [Nod.mk (stepL lv (p.headD default)) [] [] (hostL (lineN (gr rowK)) n (lv + 1) p)] else [lineN (gr rowK) (p.headD default)]) = P
  rw [List.flatMap_cons, List.flatMap_cons, List.flatMap_nil, List.append_nil, hqt.2, List.append_assoc]
  obtain ⟨k1, k2, k3⟩ := h l (List.mem_of_getElem? hl)
  have hsl := hall l (List.mem_of_getElem? hql)
  by_cases hs : stepL lv (q.headD default) ≠ 0
  ·rw [if_pos hs, if_pos hs, List.singleton_append, findK_cons]
   have hsl' : stepL lv l ≠ 0 := hsl ▸ hs
   have hw := way_at k1 (step_get hsl')
   have hlt := (stepL_some hsl').1
   have ht : ¬ tagC (Nod.mk (stepL lv (q.headD default)) [] [] (hostL (lineN (gr rowK)) n (lv + 1) q)).tag = 3 := by
    simp only [Nod.tag]
    rw [← hsl]
    rcases hw with ⟨_, hw⟩ | ⟨_, hw | hw⟩ <;> rw [hw] <;> decide
   rw [if_neg ht, findN_kids]
   simp only [Nod.kids]
   have ih := find_line n (lv + 1) q 0 (p ++ [((j + P.length : Nat) : Int)]) m [] (fun x hx => by
    obtain ⟨a1, a2, _⟩ := h x (hsub q hq x hx)
    have hx' := hall x hx
    exact ⟨a1, by omega, (stepL_some (hx' ▸ hs)).1⟩) l hql
   rw [List.append_nil] at ih
   rw [ih]
   simp only
   congr 2
   rw [List.append_assoc]
   congr 1
   have e5 : ∀ (k : Nat) (N : Nod), lastPath (k + 1) j (P ++ [N]) = ((j + P.length : Nat) : Int) :: lastPath k 0 N.kids := fun k N => by
    rw [lastPath, List.length_append, List.length_singleton, List.getLastD_concat]
    congr 1
    omega
   rw [show (wayL l).length - lv + 1 = ((wayL l).length - (lv + 1) + 1) + 1 by omega, e5]
   rfl
  ·have hs0 : stepL lv (q.headD default) = 0 := by simpa using hs
   have hone : q.length = 1 ∧ q.headD default = l := by
    cases q with
    | nil => simp at hm
    | cons a t =>
     have hax : (a :: t) ∈ partsBy (stepR lv) d := hq
     have : t = [] := by
      have hr : ∀ (n : Nat) (l : List Lin), l.length ≤ n → ∀ q ∈ partsBy (stepR lv) l, stepL lv (q.headD default) = 0 → q.length = 1 := by
       intro n
       induction n with
       | zero => intro l hl; have : l = [] := List.length_eq_zero_iff.1 (by omega); subst this; rw [parts_nil]; simp
       | succ n ih =>
        intro l hl q hq hs
        cases l with
        | nil => rw [parts_nil] at hq; cases hq
        | cons a l =>
         rw [parts_cons] at hq
         rcases List.mem_cons.1 hq with rfl | hq
         ·simp only [List.headD_cons] at hs
          have : l.takeWhile (stepR lv a) = [] := by
           cases l with
           | nil => rfl
           | cons b l => rw [List.takeWhile_cons_of_neg]; unfold stepR; simp [hs]
          rw [this]
          rfl
         ·exact ih _ (by have := (List.dropWhile_suffix (l := l) (stepR lv a)).length_le; simp at hl; omega) q hq hs
      have := hr _ d (Nat.le_refl _) _ hax hs0
      simp at this
      exact this
     subst this
     simp at hm
     subst hm
     exact ⟨rfl, by simpa using hql⟩
   have ht := (line_tag k1).1
   have hm0 : m = 0 := by omega
   rw [if_neg hs, if_neg hs, hone.2, List.singleton_append, findK_cons, if_pos ht, hm0]
   simp only
   have hsl0 : stepL lv l = 0 := hsl.trans hs0
   have hwl : (wayL l).length = lv := by
    have := stepL_none hsl0
    have := congrArg List.length this
    rw [List.length_drop, List.length_nil] at this
    omega
   rw [hwl, Nat.sub_self, lastPath, lastPath]
   congr 3
   simp
   omega
theorem host_line {d : List Lin} (hd : ∀ l ∈ d, LinOk l) {i : Nat} {l : Lin} (hl : d[i]? = some l) : findN (hostN d) [] i = .inl (lastPath ((wayL l).length + 1) 0 (hostL (lineN (gr rowK)) 13 0 (d.take (i + 1))), lineN (gr rowK) l) := by
 unfold hostN
 rw [findN_kids]
 have := find_line 13 0 d 0 [] i [] (fun l hl => by
  have := way_len (hd l hl)
  have h1 := (hd l hl).1
  have h2 := (hd l hl).2.1
  have h3 := (hd l hl).2.2.1
  exact ⟨hd l hl, by omega, Nat.zero_le _⟩) l hl
 rw [List.append_nil] at this
 exact this
theorem leafK_cons (k : Nod) (ks : List Nod) (j : Nat) (p : List Int) (c : Int) : leafK (k :: ks) j p c = if k.tag = 16 then (if c = 1 then .inl (p, (j : Int) + 1) else leafK ks (j + 1) p (c - 1)) else if k.tag ≠ 0 then (match leafF k (p ++ [(j : Int)]) c with | .inl r => .inl r | .inr c => leafK ks (j + 1) p c) else if c ≤ ((runesB ⟨k.text.toArray⟩).length : Int) then .inl (p ++ [(j : Int)], c) else leafK ks (j + 1) p (c - ((runesB ⟨k.text.toArray⟩).length : Int)) := by rw [leafK.eq_def]
theorem leafK_nil (j : Nat) (p : List Int) (c : Int) : leafK [] j p c = .inr c := by rw [leafK.eq_def]
def pointN (d : List Lin) (q : Ps) : List Int × Int :=
 match findN (hostN d) [] q.line.toNat with
 | .inl (p, n) => if q.col = 0 then (p, 0) else (match leafF n p q.col with | .inl r => r | .inr _ => ([], 0))
 | .inr _ => ([], 0)
end Go.Proofs.Qw
namespace Go.Proofs.Qw
open Go.RowKit
theorem drop_at {α : Type} {ks : List α} {k : Nat} {x : α} (h : ks[k]? = some x) : ks.drop k = x :: ks.drop (k + 1) := by
 obtain ⟨hk, rfl⟩ := List.getElem?_eq_some_iff.1 h
 exact List.drop_eq_getElem_cons hk
theorem line_hit {ks : List Nod} {k : Nat} {x : Nod} (h : ks[k]? = some x) (p : List Int) (ht : tagC x.tag = 3) : findK (ks.drop k) k p 0 = .inl (p ++ [(k : Int)], x) := by
 rw [drop_at h, findK_cons, if_pos ht]
theorem line_skip {ks : List Nod} {k : Nat} {x : Nod} (h : ks[k]? = some x) (p : List Int) (i : Nat) (ht : tagC x.tag = 3) : findK (ks.drop k) k p (i + 1) = findK (ks.drop (k + 1)) (k + 1) p i := by
 rw [drop_at h, findK_cons, if_pos ht]
theorem line_in {ks : List Nod} {k : Nat} {x : Nod} (h : ks[k]? = some x) (p : List Int) (i : Nat) {r : List Int × Nod} (ht : tagC x.tag ≠ 3) (hr : findN x (p ++ [(k : Int)]) i = .inl r) : findK (ks.drop k) k p i = .inl r := by
 rw [drop_at h, findK_cons, if_neg ht, hr]
theorem line_past {ks : List Nod} {k : Nat} {x : Nod} (h : ks[k]? = some x) (p : List Int) (i i2 : Nat) (ht : tagC x.tag ≠ 3) (hr : findN x (p ++ [(k : Int)]) i = .inr i2) : findK (ks.drop k) k p i = findK (ks.drop (k + 1)) (k + 1) p i2 := by
 rw [drop_at h, findK_cons, if_neg ht, hr]
theorem line_end (ks : List Nod) (p : List Int) (i : Nat) : findK (ks.drop ks.length) ks.length p i = .inr i := by rw [List.drop_length, findK_nil]
theorem leaf_brk {ks : List Nod} {k : Nat} {x : Nod} (h : ks[k]? = some x) (p : List Int) (ht : x.tag = 16) : leafK (ks.drop k) k p 1 = .inl (p, (k : Int) + 1) := by
 rw [drop_at h, leafK_cons, if_pos ht, if_pos rfl]
theorem leaf_brk2 {ks : List Nod} {k : Nat} {x : Nod} (h : ks[k]? = some x) (p : List Int) (c : Int) (ht : x.tag = 16) (hc : c ≠ 1) : leafK (ks.drop k) k p c = leafK (ks.drop (k + 1)) (k + 1) p (c - 1) := by
 rw [drop_at h, leafK_cons, if_pos ht, if_neg hc]
theorem leaf_in {ks : List Nod} {k : Nat} {x : Nod} (h : ks[k]? = some x) (p : List Int) (c : Int) {r : List Int × Int} (ht : x.tag ≠ 16) (h0 : x.tag ≠ 0) (hr : leafF x (p ++ [(k : Int)]) c = .inl r) : leafK (ks.drop k) k p c = .inl r := by
 rw [drop_at h, leafK_cons, if_neg ht, if_pos h0, hr]
theorem leaf_past {ks : List Nod} {k : Nat} {x : Nod} (h : ks[k]? = some x) (p : List Int) (c c2 : Int) (ht : x.tag ≠ 16) (h0 : x.tag ≠ 0) (hr : leafF x (p ++ [(k : Int)]) c = .inr c2) : leafK (ks.drop k) k p c = leafK (ks.drop (k + 1)) (k + 1) p c2 := by
 rw [drop_at h, leafK_cons, if_neg ht, if_pos h0, hr]
theorem leaf_text {ks : List Nod} {k : Nat} {x : Nod} (h : ks[k]? = some x) (p : List Int) (c : Int) (ht : x.tag = 0) (hc : c ≤ ((runesB ⟨x.text.toArray⟩).length : Int)) : leafK (ks.drop k) k p c = .inl (p ++ [(k : Int)], c) := by
 rw [drop_at h, leafK_cons, if_neg (by rw [ht]; decide), if_neg (fun e => e ht), if_pos hc]
theorem leaf_text2 {ks : List Nod} {k : Nat} {x : Nod} (h : ks[k]? = some x) (p : List Int) (c : Int) (ht : x.tag = 0) (hc : ¬ c ≤ ((runesB ⟨x.text.toArray⟩).length : Int)) : leafK (ks.drop k) k p c = leafK (ks.drop (k + 1)) (k + 1) p (c - ((runesB ⟨x.text.toArray⟩).length : Int)) := by
 rw [drop_at h, leafK_cons, if_neg (by rw [ht]; decide), if_neg (fun e => e ht), if_neg hc]
theorem leaf_end (ks : List Nod) (p : List Int) (c : Int) : leafK (ks.drop ks.length) ks.length p c = .inr c := by rw [List.drop_length, leafK.eq_def]
end Go.Proofs.Qw
