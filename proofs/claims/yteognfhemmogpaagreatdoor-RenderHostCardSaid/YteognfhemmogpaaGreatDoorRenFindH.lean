/- The walks of tags.of, tags.Class. -/
import Derived.Test.YteognfhemmogpaaGreatDoorTagTabH
import Derived.Test.YteognfhemmogpaaGreatDoorHeldTH
import Derived.Test.YteognfhemmogpaaGreatDoorDocPosH
import Derived.Test.YteognfhemmogpaaGreatDoorShelf
import Derived.Test.YteognfhemmogpaaGreatDoorRfPutH
set_option linter.unusedVariables false
set_option linter.unusedSimpArgs false
namespace Go.Proofs.YteognfhemmogpaaGreatDoor
open Go.RowKit
open Go.Proofs.Qw
attribute [local go_sem] Oper.semAt_some
set_option maxRecDepth 100000
set_option maxHeartbeats 4000000
theorem results_tagrow {fn : Func} {p : Tmp} (h : fn.results = #[.cell p 101]) (tmps : Array Value) (w : World) (B : Nat) (x y : Value) (hp : tmps.getD p undef = .pointer (some ⟨B, 0, none⟩)) (hg : w.heap[B]? = some (.cells #[x, y] 101)) :
  (results fn tmps).run Tryz.prog w = .ok (.agg #[x, y]) w :=
 results_cell_row h tmps w B _ _ _ _ hp hg Tryz.underlying101 rfl (by kernel_rfl)
def OfSaid (c : Int) (w : World) (e : Ending) (w' : World) : Prop := (∃ s, e = .returned (.agg #[s, .int .i64 c])) ∧ Below w.heap.size w w'
theorem tagsOf_0 (w : World) : Calls Tryz.prog 61 #[.int .i64 0] w (OfSaid 1 w) := by
 obtain ⟨W1, hW1, hB, hz, hB1⟩ : ∃ W1, w.alloc (.cells #[.slice none 0 0, .int .i64 0] 101) = W1 ∧ Below w.heap.size w W1 ∧ w.heap.size + 1 = W1.heap.size ∧ W1.heap[w.heap.size]? = some (.cells #[.slice none 0 0, .int .i64 0] 101) :=
  ⟨_, rfl, (Below.refl _ _).alloc (Nat.le_refl _) _, by simp, heap_new _ _ rfl⟩
 have H1 := Lib.hid hB1
 have HB := Lib.hid hB
 clear hB hB1
 go_enter Tryz.func61, Tryz.ntmps61
 go_wp2_with (go_at_call 76; refine (tagTab_ok _).mono ?_; rintro e w2 ⟨⟨B1, B2, B3, B4, B5, B6, B7, B8, B9, B10, B11, B12, B13, B14, B15, B16, rfl⟩, hb2⟩; have hB2 := heap_below hb2 H1.out; obtain ⟨q1, g1⟩ := blk hB2; have hix : ∀ X, Sem.run Tryz.prog (Instr.index 119 (.agg (tagV B1 B2 B3 B4 B5 B6 B7 B8 B9 B10 B11 B12 B13 B14 B15 B16)) (.int .i64 0)) X = .ok (.agg #[.slice none 0 0, .int .i64 1]) X := fun X => by kernel_rfl)
 refine bodyPost_ret (results_tagrow rfl _ _ w.heap.size (.slice none 0 0) (.int .i64 1) rfl (by simp [heap_set, putIn, hB2])) rfl ?_
 refine ⟨⟨_, rfl⟩, ?_⟩
 exact (((HB.out.trans (hb2.mono (by omega))).setCell (Nat.le_refl _) _).setCell (Nat.le_refl _) _)
theorem tagsOf_1 (w : World) : Calls Tryz.prog 61 #[.int .i64 1] w (OfSaid 2 w) := by
 obtain ⟨W1, hW1, hB, hz, hB1⟩ : ∃ W1, w.alloc (.cells #[.slice none 0 0, .int .i64 0] 101) = W1 ∧ Below w.heap.size w W1 ∧ w.heap.size + 1 = W1.heap.size ∧ W1.heap[w.heap.size]? = some (.cells #[.slice none 0 0, .int .i64 0] 101) :=
  ⟨_, rfl, (Below.refl _ _).alloc (Nat.le_refl _) _, by simp, heap_new _ _ rfl⟩
 have H1 := Lib.hid hB1
 have HB := Lib.hid hB
 clear hB hB1
 go_enter Tryz.func61, Tryz.ntmps61
 go_wp2_with (go_at_call 76; refine (tagTab_ok _).mono ?_; rintro e w2 ⟨⟨B1, B2, B3, B4, B5, B6, B7, B8, B9, B10, B11, B12, B13, B14, B15, B16, rfl⟩, hb2⟩; have hB2 := heap_below hb2 H1.out; obtain ⟨q1, g1⟩ := blk hB2; have hix : ∀ X, Sem.run Tryz.prog (Instr.index 119 (.agg (tagV B1 B2 B3 B4 B5 B6 B7 B8 B9 B10 B11 B12 B13 B14 B15 B16)) (.int .i64 1)) X = .ok (.agg #[.slice (some ⟨B1, 0, none⟩) 1 1, .int .i64 2]) X := fun X => by kernel_rfl)
 refine bodyPost_ret (results_tagrow rfl _ _ w.heap.size (.slice (some ⟨B1, 0, none⟩) 1 1) (.int .i64 2) rfl (by simp [heap_set, putIn, hB2])) rfl ?_
 refine ⟨⟨_, rfl⟩, ?_⟩
 exact (((HB.out.trans (hb2.mono (by omega))).setCell (Nat.le_refl _) _).setCell (Nat.le_refl _) _)
theorem tagsOf_2 (w : World) : Calls Tryz.prog 61 #[.int .i64 2] w (OfSaid 3 w) := by
 obtain ⟨W1, hW1, hB, hz, hB1⟩ : ∃ W1, w.alloc (.cells #[.slice none 0 0, .int .i64 0] 101) = W1 ∧ Below w.heap.size w W1 ∧ w.heap.size + 1 = W1.heap.size ∧ W1.heap[w.heap.size]? = some (.cells #[.slice none 0 0, .int .i64 0] 101) :=
  ⟨_, rfl, (Below.refl _ _).alloc (Nat.le_refl _) _, by simp, heap_new _ _ rfl⟩
 have H1 := Lib.hid hB1
 have HB := Lib.hid hB
 clear hB hB1
 go_enter Tryz.func61, Tryz.ntmps61
 go_wp2_with (go_at_call 76; refine (tagTab_ok _).mono ?_; rintro e w2 ⟨⟨B1, B2, B3, B4, B5, B6, B7, B8, B9, B10, B11, B12, B13, B14, B15, B16, rfl⟩, hb2⟩; have hB2 := heap_below hb2 H1.out; obtain ⟨q1, g1⟩ := blk hB2; have hix : ∀ X, Sem.run Tryz.prog (Instr.index 119 (.agg (tagV B1 B2 B3 B4 B5 B6 B7 B8 B9 B10 B11 B12 B13 B14 B15 B16)) (.int .i64 2)) X = .ok (.agg #[.slice (some ⟨B2, 0, none⟩) 1 1, .int .i64 3]) X := fun X => by kernel_rfl)
 refine bodyPost_ret (results_tagrow rfl _ _ w.heap.size (.slice (some ⟨B2, 0, none⟩) 1 1) (.int .i64 3) rfl (by simp [heap_set, putIn, hB2])) rfl ?_
 refine ⟨⟨_, rfl⟩, ?_⟩
 exact (((HB.out.trans (hb2.mono (by omega))).setCell (Nat.le_refl _) _).setCell (Nat.le_refl _) _)
theorem tagsOf_3 (w : World) : Calls Tryz.prog 61 #[.int .i64 3] w (OfSaid 3 w) := by
 obtain ⟨W1, hW1, hB, hz, hB1⟩ : ∃ W1, w.alloc (.cells #[.slice none 0 0, .int .i64 0] 101) = W1 ∧ Below w.heap.size w W1 ∧ w.heap.size + 1 = W1.heap.size ∧ W1.heap[w.heap.size]? = some (.cells #[.slice none 0 0, .int .i64 0] 101) :=
  ⟨_, rfl, (Below.refl _ _).alloc (Nat.le_refl _) _, by simp, heap_new _ _ rfl⟩
 have H1 := Lib.hid hB1
 have HB := Lib.hid hB
 clear hB hB1
 go_enter Tryz.func61, Tryz.ntmps61
 go_wp2_with (go_at_call 76; refine (tagTab_ok _).mono ?_; rintro e w2 ⟨⟨B1, B2, B3, B4, B5, B6, B7, B8, B9, B10, B11, B12, B13, B14, B15, B16, rfl⟩, hb2⟩; have hB2 := heap_below hb2 H1.out; obtain ⟨q1, g1⟩ := blk hB2; have hix : ∀ X, Sem.run Tryz.prog (Instr.index 119 (.agg (tagV B1 B2 B3 B4 B5 B6 B7 B8 B9 B10 B11 B12 B13 B14 B15 B16)) (.int .i64 3)) X = .ok (.agg #[.slice (some ⟨B3, 0, none⟩) 1 1, .int .i64 3]) X := fun X => by kernel_rfl)
 refine bodyPost_ret (results_tagrow rfl _ _ w.heap.size (.slice (some ⟨B3, 0, none⟩) 1 1) (.int .i64 3) rfl (by simp [heap_set, putIn, hB2])) rfl ?_
 refine ⟨⟨_, rfl⟩, ?_⟩
 exact (((HB.out.trans (hb2.mono (by omega))).setCell (Nat.le_refl _) _).setCell (Nat.le_refl _) _)
theorem tagsOf_4 (w : World) : Calls Tryz.prog 61 #[.int .i64 4] w (OfSaid 3 w) := by
 obtain ⟨W1, hW1, hB, hz, hB1⟩ : ∃ W1, w.alloc (.cells #[.slice none 0 0, .int .i64 0] 101) = W1 ∧ Below w.heap.size w W1 ∧ w.heap.size + 1 = W1.heap.size ∧ W1.heap[w.heap.size]? = some (.cells #[.slice none 0 0, .int .i64 0] 101) :=
  ⟨_, rfl, (Below.refl _ _).alloc (Nat.le_refl _) _, by simp, heap_new _ _ rfl⟩
 have H1 := Lib.hid hB1
 have HB := Lib.hid hB
 clear hB hB1
 go_enter Tryz.func61, Tryz.ntmps61
 go_wp2_with (go_at_call 76; refine (tagTab_ok _).mono ?_; rintro e w2 ⟨⟨B1, B2, B3, B4, B5, B6, B7, B8, B9, B10, B11, B12, B13, B14, B15, B16, rfl⟩, hb2⟩; have hB2 := heap_below hb2 H1.out; obtain ⟨q1, g1⟩ := blk hB2; have hix : ∀ X, Sem.run Tryz.prog (Instr.index 119 (.agg (tagV B1 B2 B3 B4 B5 B6 B7 B8 B9 B10 B11 B12 B13 B14 B15 B16)) (.int .i64 4)) X = .ok (.agg #[.slice (some ⟨B4, 0, none⟩) 1 1, .int .i64 3]) X := fun X => by kernel_rfl)
 refine bodyPost_ret (results_tagrow rfl _ _ w.heap.size (.slice (some ⟨B4, 0, none⟩) 1 1) (.int .i64 3) rfl (by simp [heap_set, putIn, hB2])) rfl ?_
 refine ⟨⟨_, rfl⟩, ?_⟩
 exact (((HB.out.trans (hb2.mono (by omega))).setCell (Nat.le_refl _) _).setCell (Nat.le_refl _) _)
theorem tagsOf_5 (w : World) : Calls Tryz.prog 61 #[.int .i64 5] w (OfSaid 3 w) := by
 obtain ⟨W1, hW1, hB, hz, hB1⟩ : ∃ W1, w.alloc (.cells #[.slice none 0 0, .int .i64 0] 101) = W1 ∧ Below w.heap.size w W1 ∧ w.heap.size + 1 = W1.heap.size ∧ W1.heap[w.heap.size]? = some (.cells #[.slice none 0 0, .int .i64 0] 101) :=
  ⟨_, rfl, (Below.refl _ _).alloc (Nat.le_refl _) _, by simp, heap_new _ _ rfl⟩
 have H1 := Lib.hid hB1
 have HB := Lib.hid hB
 clear hB hB1
 go_enter Tryz.func61, Tryz.ntmps61
 go_wp2_with (go_at_call 76; refine (tagTab_ok _).mono ?_; rintro e w2 ⟨⟨B1, B2, B3, B4, B5, B6, B7, B8, B9, B10, B11, B12, B13, B14, B15, B16, rfl⟩, hb2⟩; have hB2 := heap_below hb2 H1.out; obtain ⟨q1, g1⟩ := blk hB2; have hix : ∀ X, Sem.run Tryz.prog (Instr.index 119 (.agg (tagV B1 B2 B3 B4 B5 B6 B7 B8 B9 B10 B11 B12 B13 B14 B15 B16)) (.int .i64 5)) X = .ok (.agg #[.slice (some ⟨B5, 0, none⟩) 1 1, .int .i64 3]) X := fun X => by kernel_rfl)
 refine bodyPost_ret (results_tagrow rfl _ _ w.heap.size (.slice (some ⟨B5, 0, none⟩) 1 1) (.int .i64 3) rfl (by simp [heap_set, putIn, hB2])) rfl ?_
 refine ⟨⟨_, rfl⟩, ?_⟩
 exact (((HB.out.trans (hb2.mono (by omega))).setCell (Nat.le_refl _) _).setCell (Nat.le_refl _) _)
theorem tagsOf_6 (w : World) : Calls Tryz.prog 61 #[.int .i64 6] w (OfSaid 2 w) := by
 obtain ⟨W1, hW1, hB, hz, hB1⟩ : ∃ W1, w.alloc (.cells #[.slice none 0 0, .int .i64 0] 101) = W1 ∧ Below w.heap.size w W1 ∧ w.heap.size + 1 = W1.heap.size ∧ W1.heap[w.heap.size]? = some (.cells #[.slice none 0 0, .int .i64 0] 101) :=
  ⟨_, rfl, (Below.refl _ _).alloc (Nat.le_refl _) _, by simp, heap_new _ _ rfl⟩
 have H1 := Lib.hid hB1
 have HB := Lib.hid hB
 clear hB hB1
 go_enter Tryz.func61, Tryz.ntmps61
 go_wp2_with (go_at_call 76; refine (tagTab_ok _).mono ?_; rintro e w2 ⟨⟨B1, B2, B3, B4, B5, B6, B7, B8, B9, B10, B11, B12, B13, B14, B15, B16, rfl⟩, hb2⟩; have hB2 := heap_below hb2 H1.out; obtain ⟨q1, g1⟩ := blk hB2; have hix : ∀ X, Sem.run Tryz.prog (Instr.index 119 (.agg (tagV B1 B2 B3 B4 B5 B6 B7 B8 B9 B10 B11 B12 B13 B14 B15 B16)) (.int .i64 6)) X = .ok (.agg #[.slice (some ⟨B6, 0, none⟩) 1 1, .int .i64 2]) X := fun X => by kernel_rfl)
 refine bodyPost_ret (results_tagrow rfl _ _ w.heap.size (.slice (some ⟨B6, 0, none⟩) 1 1) (.int .i64 2) rfl (by simp [heap_set, putIn, hB2])) rfl ?_
 refine ⟨⟨_, rfl⟩, ?_⟩
 exact (((HB.out.trans (hb2.mono (by omega))).setCell (Nat.le_refl _) _).setCell (Nat.le_refl _) _)
theorem tagsOf_7 (w : World) : Calls Tryz.prog 61 #[.int .i64 7] w (OfSaid 2 w) := by
 obtain ⟨W1, hW1, hB, hz, hB1⟩ : ∃ W1, w.alloc (.cells #[.slice none 0 0, .int .i64 0] 101) = W1 ∧ Below w.heap.size w W1 ∧ w.heap.size + 1 = W1.heap.size ∧ W1.heap[w.heap.size]? = some (.cells #[.slice none 0 0, .int .i64 0] 101) :=
  ⟨_, rfl, (Below.refl _ _).alloc (Nat.le_refl _) _, by simp, heap_new _ _ rfl⟩
 have H1 := Lib.hid hB1
 have HB := Lib.hid hB
 clear hB hB1
 go_enter Tryz.func61, Tryz.ntmps61
 go_wp2_with (go_at_call 76; refine (tagTab_ok _).mono ?_; rintro e w2 ⟨⟨B1, B2, B3, B4, B5, B6, B7, B8, B9, B10, B11, B12, B13, B14, B15, B16, rfl⟩, hb2⟩; have hB2 := heap_below hb2 H1.out; obtain ⟨q1, g1⟩ := blk hB2; have hix : ∀ X, Sem.run Tryz.prog (Instr.index 119 (.agg (tagV B1 B2 B3 B4 B5 B6 B7 B8 B9 B10 B11 B12 B13 B14 B15 B16)) (.int .i64 7)) X = .ok (.agg #[.slice (some ⟨B7, 0, none⟩) 1 1, .int .i64 2]) X := fun X => by kernel_rfl)
 refine bodyPost_ret (results_tagrow rfl _ _ w.heap.size (.slice (some ⟨B7, 0, none⟩) 1 1) (.int .i64 2) rfl (by simp [heap_set, putIn, hB2])) rfl ?_
 refine ⟨⟨_, rfl⟩, ?_⟩
 exact (((HB.out.trans (hb2.mono (by omega))).setCell (Nat.le_refl _) _).setCell (Nat.le_refl _) _)
theorem tagsOf_8 (w : World) : Calls Tryz.prog 61 #[.int .i64 8] w (OfSaid 2 w) := by
 obtain ⟨W1, hW1, hB, hz, hB1⟩ : ∃ W1, w.alloc (.cells #[.slice none 0 0, .int .i64 0] 101) = W1 ∧ Below w.heap.size w W1 ∧ w.heap.size + 1 = W1.heap.size ∧ W1.heap[w.heap.size]? = some (.cells #[.slice none 0 0, .int .i64 0] 101) :=
  ⟨_, rfl, (Below.refl _ _).alloc (Nat.le_refl _) _, by simp, heap_new _ _ rfl⟩
 have H1 := Lib.hid hB1
 have HB := Lib.hid hB
 clear hB hB1
 go_enter Tryz.func61, Tryz.ntmps61
 go_wp2_with (go_at_call 76; refine (tagTab_ok _).mono ?_; rintro e w2 ⟨⟨B1, B2, B3, B4, B5, B6, B7, B8, B9, B10, B11, B12, B13, B14, B15, B16, rfl⟩, hb2⟩; have hB2 := heap_below hb2 H1.out; obtain ⟨q1, g1⟩ := blk hB2; have hix : ∀ X, Sem.run Tryz.prog (Instr.index 119 (.agg (tagV B1 B2 B3 B4 B5 B6 B7 B8 B9 B10 B11 B12 B13 B14 B15 B16)) (.int .i64 8)) X = .ok (.agg #[.slice (some ⟨B8, 0, none⟩) 1 1, .int .i64 2]) X := fun X => by kernel_rfl)
 refine bodyPost_ret (results_tagrow rfl _ _ w.heap.size (.slice (some ⟨B8, 0, none⟩) 1 1) (.int .i64 2) rfl (by simp [heap_set, putIn, hB2])) rfl ?_
 refine ⟨⟨_, rfl⟩, ?_⟩
 exact (((HB.out.trans (hb2.mono (by omega))).setCell (Nat.le_refl _) _).setCell (Nat.le_refl _) _)
theorem tagsOf_9 (w : World) : Calls Tryz.prog 61 #[.int .i64 9] w (OfSaid 3 w) := by
 obtain ⟨W1, hW1, hB, hz, hB1⟩ : ∃ W1, w.alloc (.cells #[.slice none 0 0, .int .i64 0] 101) = W1 ∧ Below w.heap.size w W1 ∧ w.heap.size + 1 = W1.heap.size ∧ W1.heap[w.heap.size]? = some (.cells #[.slice none 0 0, .int .i64 0] 101) :=
  ⟨_, rfl, (Below.refl _ _).alloc (Nat.le_refl _) _, by simp, heap_new _ _ rfl⟩
 have H1 := Lib.hid hB1
 have HB := Lib.hid hB
 clear hB hB1
 go_enter Tryz.func61, Tryz.ntmps61
 go_wp2_with (go_at_call 76; refine (tagTab_ok _).mono ?_; rintro e w2 ⟨⟨B1, B2, B3, B4, B5, B6, B7, B8, B9, B10, B11, B12, B13, B14, B15, B16, rfl⟩, hb2⟩; have hB2 := heap_below hb2 H1.out; obtain ⟨q1, g1⟩ := blk hB2; have hix : ∀ X, Sem.run Tryz.prog (Instr.index 119 (.agg (tagV B1 B2 B3 B4 B5 B6 B7 B8 B9 B10 B11 B12 B13 B14 B15 B16)) (.int .i64 9)) X = .ok (.agg #[.slice (some ⟨B9, 0, none⟩) 1 1, .int .i64 3]) X := fun X => by kernel_rfl)
 refine bodyPost_ret (results_tagrow rfl _ _ w.heap.size (.slice (some ⟨B9, 0, none⟩) 1 1) (.int .i64 3) rfl (by simp [heap_set, putIn, hB2])) rfl ?_
 refine ⟨⟨_, rfl⟩, ?_⟩
 exact (((HB.out.trans (hb2.mono (by omega))).setCell (Nat.le_refl _) _).setCell (Nat.le_refl _) _)
theorem tagsOf_10 (w : World) : Calls Tryz.prog 61 #[.int .i64 10] w (OfSaid 4 w) := by
 obtain ⟨W1, hW1, hB, hz, hB1⟩ : ∃ W1, w.alloc (.cells #[.slice none 0 0, .int .i64 0] 101) = W1 ∧ Below w.heap.size w W1 ∧ w.heap.size + 1 = W1.heap.size ∧ W1.heap[w.heap.size]? = some (.cells #[.slice none 0 0, .int .i64 0] 101) :=
  ⟨_, rfl, (Below.refl _ _).alloc (Nat.le_refl _) _, by simp, heap_new _ _ rfl⟩
 have H1 := Lib.hid hB1
 have HB := Lib.hid hB
 clear hB hB1
 go_enter Tryz.func61, Tryz.ntmps61
 go_wp2_with (go_at_call 76; refine (tagTab_ok _).mono ?_; rintro e w2 ⟨⟨B1, B2, B3, B4, B5, B6, B7, B8, B9, B10, B11, B12, B13, B14, B15, B16, rfl⟩, hb2⟩; have hB2 := heap_below hb2 H1.out; obtain ⟨q1, g1⟩ := blk hB2; have hix : ∀ X, Sem.run Tryz.prog (Instr.index 119 (.agg (tagV B1 B2 B3 B4 B5 B6 B7 B8 B9 B10 B11 B12 B13 B14 B15 B16)) (.int .i64 10)) X = .ok (.agg #[.slice (some ⟨B10, 0, none⟩) 1 1, .int .i64 4]) X := fun X => by kernel_rfl)
 refine bodyPost_ret (results_tagrow rfl _ _ w.heap.size (.slice (some ⟨B10, 0, none⟩) 1 1) (.int .i64 4) rfl (by simp [heap_set, putIn, hB2])) rfl ?_
 refine ⟨⟨_, rfl⟩, ?_⟩
 exact (((HB.out.trans (hb2.mono (by omega))).setCell (Nat.le_refl _) _).setCell (Nat.le_refl _) _)
theorem tagsOf_11 (w : World) : Calls Tryz.prog 61 #[.int .i64 11] w (OfSaid 4 w) := by
 obtain ⟨W1, hW1, hB, hz, hB1⟩ : ∃ W1, w.alloc (.cells #[.slice none 0 0, .int .i64 0] 101) = W1 ∧ Below w.heap.size w W1 ∧ w.heap.size + 1 = W1.heap.size ∧ W1.heap[w.heap.size]? = some (.cells #[.slice none 0 0, .int .i64 0] 101) :=
  ⟨_, rfl, (Below.refl _ _).alloc (Nat.le_refl _) _, by simp, heap_new _ _ rfl⟩
 have H1 := Lib.hid hB1
 have HB := Lib.hid hB
 clear hB hB1
 go_enter Tryz.func61, Tryz.ntmps61
 go_wp2_with (go_at_call 76; refine (tagTab_ok _).mono ?_; rintro e w2 ⟨⟨B1, B2, B3, B4, B5, B6, B7, B8, B9, B10, B11, B12, B13, B14, B15, B16, rfl⟩, hb2⟩; have hB2 := heap_below hb2 H1.out; obtain ⟨q1, g1⟩ := blk hB2; have hix : ∀ X, Sem.run Tryz.prog (Instr.index 119 (.agg (tagV B1 B2 B3 B4 B5 B6 B7 B8 B9 B10 B11 B12 B13 B14 B15 B16)) (.int .i64 11)) X = .ok (.agg #[.slice (some ⟨B11, 0, none⟩) 2 2, .int .i64 4]) X := fun X => by kernel_rfl)
 refine bodyPost_ret (results_tagrow rfl _ _ w.heap.size (.slice (some ⟨B11, 0, none⟩) 2 2) (.int .i64 4) rfl (by simp [heap_set, putIn, hB2])) rfl ?_
 refine ⟨⟨_, rfl⟩, ?_⟩
 exact (((HB.out.trans (hb2.mono (by omega))).setCell (Nat.le_refl _) _).setCell (Nat.le_refl _) _)
theorem tagsOf_12 (w : World) : Calls Tryz.prog 61 #[.int .i64 12] w (OfSaid 4 w) := by
 obtain ⟨W1, hW1, hB, hz, hB1⟩ : ∃ W1, w.alloc (.cells #[.slice none 0 0, .int .i64 0] 101) = W1 ∧ Below w.heap.size w W1 ∧ w.heap.size + 1 = W1.heap.size ∧ W1.heap[w.heap.size]? = some (.cells #[.slice none 0 0, .int .i64 0] 101) :=
  ⟨_, rfl, (Below.refl _ _).alloc (Nat.le_refl _) _, by simp, heap_new _ _ rfl⟩
 have H1 := Lib.hid hB1
 have HB := Lib.hid hB
 clear hB hB1
 go_enter Tryz.func61, Tryz.ntmps61
 go_wp2_with (go_at_call 76; refine (tagTab_ok _).mono ?_; rintro e w2 ⟨⟨B1, B2, B3, B4, B5, B6, B7, B8, B9, B10, B11, B12, B13, B14, B15, B16, rfl⟩, hb2⟩; have hB2 := heap_below hb2 H1.out; obtain ⟨q1, g1⟩ := blk hB2; have hix : ∀ X, Sem.run Tryz.prog (Instr.index 119 (.agg (tagV B1 B2 B3 B4 B5 B6 B7 B8 B9 B10 B11 B12 B13 B14 B15 B16)) (.int .i64 12)) X = .ok (.agg #[.slice (some ⟨B12, 0, none⟩) 2 2, .int .i64 4]) X := fun X => by kernel_rfl)
 refine bodyPost_ret (results_tagrow rfl _ _ w.heap.size (.slice (some ⟨B12, 0, none⟩) 2 2) (.int .i64 4) rfl (by simp [heap_set, putIn, hB2])) rfl ?_
 refine ⟨⟨_, rfl⟩, ?_⟩
 exact (((HB.out.trans (hb2.mono (by omega))).setCell (Nat.le_refl _) _).setCell (Nat.le_refl _) _)
theorem tagsOf_13 (w : World) : Calls Tryz.prog 61 #[.int .i64 13] w (OfSaid 4 w) := by
 obtain ⟨W1, hW1, hB, hz, hB1⟩ : ∃ W1, w.alloc (.cells #[.slice none 0 0, .int .i64 0] 101) = W1 ∧ Below w.heap.size w W1 ∧ w.heap.size + 1 = W1.heap.size ∧ W1.heap[w.heap.size]? = some (.cells #[.slice none 0 0, .int .i64 0] 101) :=
  ⟨_, rfl, (Below.refl _ _).alloc (Nat.le_refl _) _, by simp, heap_new _ _ rfl⟩
 have H1 := Lib.hid hB1
 have HB := Lib.hid hB
 clear hB hB1
 go_enter Tryz.func61, Tryz.ntmps61
 go_wp2_with (go_at_call 76; refine (tagTab_ok _).mono ?_; rintro e w2 ⟨⟨B1, B2, B3, B4, B5, B6, B7, B8, B9, B10, B11, B12, B13, B14, B15, B16, rfl⟩, hb2⟩; have hB2 := heap_below hb2 H1.out; obtain ⟨q1, g1⟩ := blk hB2; have hix : ∀ X, Sem.run Tryz.prog (Instr.index 119 (.agg (tagV B1 B2 B3 B4 B5 B6 B7 B8 B9 B10 B11 B12 B13 B14 B15 B16)) (.int .i64 13)) X = .ok (.agg #[.slice (some ⟨B13, 0, none⟩) 2 2, .int .i64 4]) X := fun X => by kernel_rfl)
 refine bodyPost_ret (results_tagrow rfl _ _ w.heap.size (.slice (some ⟨B13, 0, none⟩) 2 2) (.int .i64 4) rfl (by simp [heap_set, putIn, hB2])) rfl ?_
 refine ⟨⟨_, rfl⟩, ?_⟩
 exact (((HB.out.trans (hb2.mono (by omega))).setCell (Nat.le_refl _) _).setCell (Nat.le_refl _) _)
theorem tagsOf_14 (w : World) : Calls Tryz.prog 61 #[.int .i64 14] w (OfSaid 4 w) := by
 obtain ⟨W1, hW1, hB, hz, hB1⟩ : ∃ W1, w.alloc (.cells #[.slice none 0 0, .int .i64 0] 101) = W1 ∧ Below w.heap.size w W1 ∧ w.heap.size + 1 = W1.heap.size ∧ W1.heap[w.heap.size]? = some (.cells #[.slice none 0 0, .int .i64 0] 101) :=
  ⟨_, rfl, (Below.refl _ _).alloc (Nat.le_refl _) _, by simp, heap_new _ _ rfl⟩
 have H1 := Lib.hid hB1
 have HB := Lib.hid hB
 clear hB hB1
 go_enter Tryz.func61, Tryz.ntmps61
 go_wp2_with (go_at_call 76; refine (tagTab_ok _).mono ?_; rintro e w2 ⟨⟨B1, B2, B3, B4, B5, B6, B7, B8, B9, B10, B11, B12, B13, B14, B15, B16, rfl⟩, hb2⟩; have hB2 := heap_below hb2 H1.out; obtain ⟨q1, g1⟩ := blk hB2; have hix : ∀ X, Sem.run Tryz.prog (Instr.index 119 (.agg (tagV B1 B2 B3 B4 B5 B6 B7 B8 B9 B10 B11 B12 B13 B14 B15 B16)) (.int .i64 14)) X = .ok (.agg #[.slice (some ⟨B14, 0, none⟩) 3 3, .int .i64 4]) X := fun X => by kernel_rfl)
 refine bodyPost_ret (results_tagrow rfl _ _ w.heap.size (.slice (some ⟨B14, 0, none⟩) 3 3) (.int .i64 4) rfl (by simp [heap_set, putIn, hB2])) rfl ?_
 refine ⟨⟨_, rfl⟩, ?_⟩
 exact (((HB.out.trans (hb2.mono (by omega))).setCell (Nat.le_refl _) _).setCell (Nat.le_refl _) _)
theorem tagsOf_15 (w : World) : Calls Tryz.prog 61 #[.int .i64 15] w (OfSaid 4 w) := by
 obtain ⟨W1, hW1, hB, hz, hB1⟩ : ∃ W1, w.alloc (.cells #[.slice none 0 0, .int .i64 0] 101) = W1 ∧ Below w.heap.size w W1 ∧ w.heap.size + 1 = W1.heap.size ∧ W1.heap[w.heap.size]? = some (.cells #[.slice none 0 0, .int .i64 0] 101) :=
  ⟨_, rfl, (Below.refl _ _).alloc (Nat.le_refl _) _, by simp, heap_new _ _ rfl⟩
 have H1 := Lib.hid hB1
 have HB := Lib.hid hB
 clear hB hB1
 go_enter Tryz.func61, Tryz.ntmps61
 go_wp2_with (go_at_call 76; refine (tagTab_ok _).mono ?_; rintro e w2 ⟨⟨B1, B2, B3, B4, B5, B6, B7, B8, B9, B10, B11, B12, B13, B14, B15, B16, rfl⟩, hb2⟩; have hB2 := heap_below hb2 H1.out; obtain ⟨q1, g1⟩ := blk hB2; have hix : ∀ X, Sem.run Tryz.prog (Instr.index 119 (.agg (tagV B1 B2 B3 B4 B5 B6 B7 B8 B9 B10 B11 B12 B13 B14 B15 B16)) (.int .i64 15)) X = .ok (.agg #[.slice (some ⟨B15, 0, none⟩) 1 1, .int .i64 4]) X := fun X => by kernel_rfl)
 refine bodyPost_ret (results_tagrow rfl _ _ w.heap.size (.slice (some ⟨B15, 0, none⟩) 1 1) (.int .i64 4) rfl (by simp [heap_set, putIn, hB2])) rfl ?_
 refine ⟨⟨_, rfl⟩, ?_⟩
 exact (((HB.out.trans (hb2.mono (by omega))).setCell (Nat.le_refl _) _).setCell (Nat.le_refl _) _)
theorem tagsOf_16 (w : World) : Calls Tryz.prog 61 #[.int .i64 16] w (OfSaid 5 w) := by
 obtain ⟨W1, hW1, hB, hz, hB1⟩ : ∃ W1, w.alloc (.cells #[.slice none 0 0, .int .i64 0] 101) = W1 ∧ Below w.heap.size w W1 ∧ w.heap.size + 1 = W1.heap.size ∧ W1.heap[w.heap.size]? = some (.cells #[.slice none 0 0, .int .i64 0] 101) :=
  ⟨_, rfl, (Below.refl _ _).alloc (Nat.le_refl _) _, by simp, heap_new _ _ rfl⟩
 have H1 := Lib.hid hB1
 have HB := Lib.hid hB
 clear hB hB1
 go_enter Tryz.func61, Tryz.ntmps61
 go_wp2_with (go_at_call 76; refine (tagTab_ok _).mono ?_; rintro e w2 ⟨⟨B1, B2, B3, B4, B5, B6, B7, B8, B9, B10, B11, B12, B13, B14, B15, B16, rfl⟩, hb2⟩; have hB2 := heap_below hb2 H1.out; obtain ⟨q1, g1⟩ := blk hB2; have hix : ∀ X, Sem.run Tryz.prog (Instr.index 119 (.agg (tagV B1 B2 B3 B4 B5 B6 B7 B8 B9 B10 B11 B12 B13 B14 B15 B16)) (.int .i64 16)) X = .ok (.agg #[.slice (some ⟨B16, 0, none⟩) 1 1, .int .i64 5]) X := fun X => by kernel_rfl)
 refine bodyPost_ret (results_tagrow rfl _ _ w.heap.size (.slice (some ⟨B16, 0, none⟩) 1 1) (.int .i64 5) rfl (by simp [heap_set, putIn, hB2])) rfl ?_
 refine ⟨⟨_, rfl⟩, ?_⟩
 exact (((HB.out.trans (hb2.mono (by omega))).setCell (Nat.le_refl _) _).setCell (Nat.le_refl _) _)
theorem tagsOf_out (t : Int) (ht : t < 0 ∨ 16 < t) (w : World) : Calls Tryz.prog 61 #[.int .i64 t] w (OfSaid 0 w) := by
 obtain ⟨W1, hW1, hB, hz, hB1⟩ : ∃ W1, w.alloc (.cells #[.slice none 0 0, .int .i64 0] 101) = W1 ∧ Below w.heap.size w W1 ∧ w.heap.size + 1 = W1.heap.size ∧ W1.heap[w.heap.size]? = some (.cells #[.slice none 0 0, .int .i64 0] 101) :=
  ⟨_, rfl, (Below.refl _ _).alloc (Nat.le_refl _) _, by simp, heap_new _ _ rfl⟩
 have H1 := Lib.hid hB1
 have HB := Lib.hid hB
 obtain ⟨p1, f1⟩ := blk hB1
 clear hB
 rcases ht with ht | ht
 ·have hd1 : decide (t < 0) = true := decide_eq_true ht
  go_enter Tryz.func61, Tryz.ntmps61
  go_wp2_with fail
  refine bodyPost_ret (results_tagrow rfl _ _ w.heap.size (.slice none 0 0) (.int .i64 0) rfl (by simp [heap_set, putIn, hB1])) rfl ?_
  refine ⟨⟨_, rfl⟩, ?_⟩
  exact ((HB.out.setCell (Nat.le_refl _) _).setCell (Nat.le_refl _) _)
 ·have hd1 : decide (t < 0) = false := decide_eq_false (by omega)
  have hd2 : decide (16 < t) = true := decide_eq_true ht
  go_enter Tryz.func61, Tryz.ntmps61
  go_wp2_with fail
  refine bodyPost_ret (results_tagrow rfl _ _ w.heap.size (.slice none 0 0) (.int .i64 0) rfl (by simp [heap_set, putIn, hB1])) rfl ?_
  refine ⟨⟨_, rfl⟩, ?_⟩
  exact ((HB.out.setCell (Nat.le_refl _) _).setCell (Nat.le_refl _) _)
theorem tagsOf_any (t : Int) (w : World) : Calls Tryz.prog 61 #[.int .i64 t] w (OfSaid (tagC t) w) := by
 by_cases ht : t < 0 ∨ 16 < t
 ·rw [show tagC t = 0 by unfold tagC; rw [if_pos ht]]
  exact tagsOf_out t ht w
 ·have h : t = 0 ∨ t = 1 ∨ t = 2 ∨ t = 3 ∨ t = 4 ∨ t = 5 ∨ t = 6 ∨ t = 7 ∨ t = 8 ∨ t = 9 ∨ t = 10 ∨ t = 11 ∨ t = 12 ∨ t = 13 ∨ t = 14 ∨ t = 15 ∨ t = 16 := by omega
  rcases h with rfl | rfl | rfl | rfl | rfl | rfl | rfl | rfl | rfl | rfl | rfl | rfl | rfl | rfl | rfl | rfl | rfl
  ·exact tagsOf_0 w
  ·exact tagsOf_1 w
  ·exact tagsOf_2 w
  ·exact tagsOf_3 w
  ·exact tagsOf_4 w
  ·exact tagsOf_5 w
  ·exact tagsOf_6 w
  ·exact tagsOf_7 w
  ·exact tagsOf_8 w
  ·exact tagsOf_9 w
  ·exact tagsOf_10 w
  ·exact tagsOf_11 w
  ·exact tagsOf_12 w
  ·exact tagsOf_13 w
  ·exact tagsOf_14 w
  ·exact tagsOf_15 w
  ·exact tagsOf_16 w
theorem tagsClass_any (t : Int) (w : World) : Calls Tryz.prog 37 #[.int .i64 t] w fun e w' => e = .returned (.int .i64 (tagC t)) ∧ Below w.heap.size w w' := by
 have HC := Lib.hid (tagsOf_any t w)
 generalize tagC t = c at *
 go_enter Tryz.func37, Tryz.ntmps37
 go_wp2_with (go_at_call 61; refine HC.out.mono ?_; rintro e w1 ⟨⟨s, rfl⟩, hb1⟩; have hfld : ∀ X, Sem.run Tryz.prog (Instr.field 101 (.agg #[s, .int .i64 c]) 1) X = .ok (.int .i64 c) X := fun X => by kernel_rfl)
 go_ret
 exact ⟨by first | rfl | simp, hb1⟩
end Go.Proofs.YteognfhemmogpaaGreatDoor
namespace Go.Proofs.Qw
open Go.RowKit
def LinOk (l : Lin) : Prop := 0 ≤ l.quote ∧ l.quote ≤ 6 ∧ l.lists.length ≤ 6 ∧ 0 ≤ l.kind ∧ l.kind ≤ 3 ∧ (l.lists = [] ∨ l.kind = 0) ∧ (∀ k ∈ l.lists, k = 0 ∨ k = 1) ∧ ∀ c ∈ l.cells, CelOk c
theorem put_first (a : Aro) (s : VSt) (c : Cel) (ho : s.opn = false) (hs : s.spot = 0) : putC a s c = ⟨s.lines ++ [{ frameA a with cells := [c] }], s.cells + 1, true, 0, s.pos⟩ := by
 unfold putC putV addV
 rw [if_neg (by simp [ho])]
 unfold beginV
 simp only [hs, lastD]
 simp [frameA]
theorem put_next (a : Aro) (d : List Lin) (l : Lin) (n : Nat) (sp : Int) (ps : Ps) (c : Cel) : putC a ⟨d ++ [l], n, true, sp, ps⟩ c = ⟨d ++ [{ l with cells := l.cells ++ [c] }], n + 1, true, sp, ps⟩ := by
 unfold putC putV addV
 rw [if_pos rfl]
 simp [lastD]
theorem put_rest (a : Aro) (d : List Lin) (ps : Ps) : ∀ (cs : List Cel) (l : Lin) (n : Nat), cs.foldl (putC a) ⟨d ++ [l], n, true, 0, ps⟩ = ⟨d ++ [{ l with cells := l.cells ++ cs }], n + cs.length, true, 0, ps⟩
 | [], l, n => by simp
 | c :: cs, l, n => by
  rw [List.foldl_cons, put_next, put_rest a d ps cs]
  simp only [List.append_assoc, List.singleton_append, List.length_cons]
  congr 1
  omega
theorem put_all (a : Aro) (s : VSt) (ho : s.opn = false) (hs : s.spot = 0) (cs : List Cel) (hne : cs ≠ []) : cs.foldl (putC a) s = ⟨s.lines ++ [{ frameA a with cells := cs }], s.cells + cs.length, true, 0, s.pos⟩ := by
 cases cs with
 | nil => exact absurd rfl hne
 | cons c cs =>
  rw [List.foldl_cons, put_first a s c ho hs, put_rest]
  simp only [List.singleton_append, List.length_cons]
  congr 1
  omega
def hostN (d : List Lin) : Nod := .mk 1 [] [] (hostL (lineN (gr rowK)) 13 0 d)
end Go.Proofs.Qw
namespace Go.Proofs.Qw
open Go.RowKit
theorem line_tag {l : Lin} (h : LinOk l) : tagC (lineN (gr rowK) l).tag = 3 ∧ ((lineN (gr rowK) l).tag = 9 ↔ l.lists ≠ []) ∧ (lineN (gr rowK) l).tag ≠ 1 := by
 obtain ⟨_, _, _, h4, h5, _⟩ := h
 unfold lineN
 simp only [Nod.tag]
 by_cases hl : l.lists ≠ []
 ·rw [if_pos hl]
  exact ⟨by decide, ⟨fun _ => hl, fun _ => rfl⟩, by decide⟩
 ·rw [if_neg hl]
  refine ⟨?_, ⟨fun e => by omega, fun e => absurd e hl⟩, by omega⟩
  unfold tagC
  rw [if_neg (by omega), if_neg (by omega), if_neg (by omega), if_pos (by omega)]
theorem way_at {l : Lin} (hl : LinOk l) {j : Nat} {t : Int} (h : (wayL l)[j]? = some t) : (j < l.quote.toNat ∧ t = 6) ∨ (l.quote.toNat ≤ j ∧ (t = 7 ∨ t = 8)) := by
 obtain ⟨h0, h1, _⟩ := hl
 have hm : min l.quote.toNat 6 = l.quote.toNat := by omega
 unfold wayL at h
 rw [hm] at h
 by_cases hj : j < l.quote.toNat
 ·rw [List.getElem?_append_left (by simpa using hj), List.getElem?_replicate] at h
  rw [if_pos hj] at h
  cases h
  exact .inl ⟨hj, rfl⟩
 ·rw [List.getElem?_append_right (by simp; omega), List.getElem?_map] at h
  rw [Option.map_eq_some_iff] at h
  obtain ⟨k, _, rfl⟩ := h
  exact .inr ⟨by omega, by split; exact .inl rfl; exact .inr rfl⟩
theorem way_len {l : Lin} (hl : LinOk l) : (wayL l).length = l.quote.toNat + l.lists.length := by
 obtain ⟨h0, h1, _⟩ := hl
 unfold wayL
 rw [List.length_append, List.length_replicate, List.length_map]
 omega
theorem step_get {lv : Nat} {l : Lin} (h : stepL lv l ≠ 0) : (wayL l)[lv]? = some (stepL lv l) := by
 have := (stepL_some h).1
 unfold stepL
 rw [List.getD_eq_getElem?_getD, List.getElem?_eq_getElem this]
 rfl
theorem ok_of_may {d : List Lin} (h : mayD d = true) : d ≠ [] ∧ ∀ l ∈ d, LinOk l := by
 unfold mayD at h
 simp only [Bool.and_eq_true, decide_eq_true_eq, List.all_eq_true] at h
 obtain ⟨⟨⟨h1, _⟩, _⟩, h2⟩ := h
 refine ⟨by rintro rfl; simp at h1, fun l hl => ?_⟩
 have := h2 l hl
 unfold mayL mayCs at this
 simp only [Bool.and_eq_true, Bool.or_eq_true, decide_eq_true_eq, List.all_eq_true] at this
 obtain ⟨⟨⟨⟨⟨⟨⟨g1, g2⟩, g3⟩, g4⟩, g5⟩, g6⟩, g7⟩, g8⟩ := this
 refine ⟨g1, g2, g3, g4, g5, g6, g7, fun c hc => ?_⟩
 have := g8 c hc
 unfold mayC linkF at this
 simp only [Bool.and_eq_true, Bool.or_eq_true, decide_eq_true_eq] at this
 exact ⟨this.1.1.1, this.1.1.2, this.1.2, this.2⟩
end Go.Proofs.Qw
namespace Go.Proofs.Qw
open Go.RowKit
theorem runesGo_count (s : ByteArray) : ∀ (f pos : Nat), (runesGo s f pos).length = Lib.runeCountFrom s f pos
 | 0, _ => rfl
 | f + 1, pos => by
  unfold runesGo Lib.runeCountFrom
  split
  ·rw [List.length_cons, runesGo_count s f, Nat.add_comm]
  ·rfl
theorem runesB_count (s : ByteArray) : (runesB s).length = Lib.runeCount s := runesGo_count s _ _
end Go.Proofs.Qw
namespace Go.Proofs.YteognfhemmogpaaGreatDoor
open Go.RowKit
open Go.Proofs.Qw
attribute [local go_sem] Oper.semAt_some
theorem charsCount_any (s : ByteArray) (w : World) (hs : s.size ≤ 1000000000) :
  Calls Tryz.prog 56 #[.string s] w fun e w' => e = .returned (.int .i64 (runesB s).length) ∧ Below w.heap.size w w' := by
 have HC := Lib.hid (Tryz.utf8_RuneCountInString s w (by omega))
 rw [runesB_count]
 go_enter Tryz.func56, Tryz.ntmps56
 go_wp2_with (go_at_call 73; refine HC.out.mono ?_; rintro e w1 ⟨rfl, pos, rfl⟩)
 go_ret
 refine ⟨by first | rfl | simp, (Below.refl _ _).alloc (Nat.le_refl _) _⟩
end Go.Proofs.YteognfhemmogpaaGreatDoor
namespace Go.Proofs.YteognfhemmogpaaGreatDoor
open Go.RowKit
open Go.Proofs.Qw
structure But (B : Nat) (w w' : World) : Prop where
 os : w'.os = w.os
 tape : w'.tape = w.tape
 output : w'.output = w.output
 keeps : Keeps (fun b => b ≠ B) w w'
theorem But.refl (B : Nat) (w : World) : But B w w := ⟨rfl, rfl, rfl, Keeps.refl _ _⟩
theorem But.of {B : Nat} {w w' : World} (h : Below w.heap.size w w') : But B w w' := ⟨h.os, h.tape, h.output, Keeps.all h⟩
theorem But.trans {B : Nat} {a b c : World} (h : But B a b) (k : But B b c) : But B a c := ⟨k.os.trans h.os, k.tape.trans h.tape, k.output.trans h.output, h.keeps.trans k.keeps⟩
theorem But.size {B : Nat} {a b : World} (h : But B a b) : a.heap.size ≤ b.heap.size := h.keeps.size
theorem But.set {B : Nat} {a w : World} (h : But B a w) (o : Nat) (v : Value) : But B a (w.setCell ⟨B, o, none⟩ v) := h.trans ⟨rfl, rfl, rfl, (Keeps.refl _ _).set (by simp) v⟩
theorem But.alloc {B : Nat} {a w : World} (h : But B a w) (o : Obj) : But B a (w.alloc o) := h.trans (.of ((Below.refl _ _).alloc (Nat.le_refl _) _))
theorem But.below {B n : Nat} {w w' : World} (h : But B w w') (hn : n ≤ w.heap.size) (hB : n ≤ B) : Below n w w' := ⟨h.os, h.tape, h.output, h.size, fun k hk => h.keeps.block k (by show k ≠ B; omega) (by omega)⟩
theorem But.to {B : Nat} {w w' : World} {S : Nat → Prop} (h : But B w w') (hS : ∀ b, S b → b ≠ B) : Keeps S w w' := ⟨h.size, fun b hb hz => h.keeps.block b (hS b hb) hz⟩
theorem But.heap {B b : Nat} {w w' : World} {o : Obj} (h : But B w w') (hb : b ≠ B) (e : w.heap[b]? = some o) : w'.heap[b]? = some o := by
 have hz : b < w.heap.size := by
  rw [Array.getElem?_eq_some_iff] at e
  exact e.1
 exact (h.keeps.block b hb hz).trans e
def FinAt (B : Nat) (x y : Int) (w : World) : Prop := w.heap[B]? = some (.cells #[.int .i64 x, .int .i64 y] 63)
theorem FinAt.below {B : Nat} {x y : Int} {w w' : World} (h : FinAt B x y w) (hb : Below w.heap.size w w') : FinAt B x y w' := heap_below hb h
theorem nods_but {h B : Nat} {own : Bool} {w w' : World} {S : Nat → Prop} {v : Value} {l : List Nod} (hv : NodsR own h w S v l) (hS : ∀ b, S b → b ≠ B) (hb : But B w w') : NodsR own h w' S v l := hv.stable (rdNod_stable _ _) (hb.to hS) (fun _ h _ => h)
end Go.Proofs.YteognfhemmogpaaGreatDoor
namespace Go.Proofs.Qw
open Go.RowKit
mutual
def findN : Nod → List Int → Nat → (List Int × Nod) ⊕ Nat
 | .mk _ _ _ ks, p, i => findK ks 0 p i
def findK : List Nod → Nat → List Int → Nat → (List Int × Nod) ⊕ Nat
 | [], _, _, i => .inr i
 | k :: ks, j, p, i =>
  if tagC k.tag = 3 then (match i with | 0 => .inl (p ++ [(j : Int)], k) | i + 1 => findK ks (j + 1) p i)
  else match findN k (p ++ [(j : Int)]) i with
   | .inl r => .inl r
   | .inr i => findK ks (j + 1) p i
end
mutual
def leafF : Nod → List Int → Int → (List Int × Int) ⊕ Int
 | .mk _ _ _ ks, p, c => leafK ks 0 p c
def leafK : List Nod → Nat → List Int → Int → (List Int × Int) ⊕ Int
 | [], _, _, c => .inr c
 | k :: ks, j, p, c =>
  if k.tag = 16 then (if c = 1 then .inl (p, (j : Int) + 1) else leafK ks (j + 1) p (c - 1))
  else if k.tag ≠ 0 then (match leafF k (p ++ [(j : Int)]) c with
   | .inl r => .inl r
   | .inr c => leafK ks (j + 1) p c)
  else if c ≤ ((runesB ⟨k.text.toArray⟩).length : Int) then .inl (p ++ [(j : Int)], c) else leafK ks (j + 1) p (c - ((runesB ⟨k.text.toArray⟩).length : Int))
end
theorem findK_cons (k : Nod) (ks : List Nod) (j : Nat) (p : List Int) (i : Nat) : findK (k :: ks) j p i = if tagC k.tag = 3 then (match i with | 0 => .inl (p ++ [(j : Int)], k) | i + 1 => findK ks (j + 1) p i) else match findN k (p ++ [(j : Int)]) i with | .inl r => .inl r | .inr i => findK ks (j + 1) p i := by rw [findK.eq_def]
theorem findK_nil (j : Nat) (p : List Int) (i : Nat) : findK [] j p i = .inr i := by rw [findK.eq_def]
theorem findN_kids (n : Nod) (p : List Int) (i : Nat) : findN n p i = findK n.kids 0 p i := by cases n; rw [findN]; rfl
theorem leafF_kids (n : Nod) (p : List Int) (c : Int) : leafF n p c = leafK n.kids 0 p c := by cases n; rw [leafF]; rfl
def lastPath : Nat → Nat → List Nod → List Int
 | 0, _, _ => []
 | n + 1, j, l => (((j + l.length : Nat) : Int) - 1) :: lastPath n 0 (l.getLastD default).kids
theorem parts_take {α : Type} (r : α → α → Bool) : ∀ (n : Nat) (l : List α) (i : Nat), l.length ≤ n → i < l.length →
  ∃ ps q rest m, partsBy r l = ps ++ q :: rest ∧ m < q.length ∧ (ps.flatten).length + m = i ∧ partsBy r (l.take (i + 1)) = ps ++ [q.take (m + 1)]
 | 0, l, i, hl, hi => by omega
 | n + 1, [], i, _, hi => by simp at hi
 | n + 1, a :: l, i, hl, hi => by
  have htd := List.takeWhile_append_dropWhile (p := r a) (l := l)
  by_cases hc : i < (a :: l.takeWhile (r a)).length
  ·refine ⟨[], a :: l.takeWhile (r a), partsBy r (l.dropWhile (r a)), i, by rw [parts_cons]; rfl, hc, by simp, ?_⟩
   rw [List.take_succ_cons, parts_cons]
   have hi' : i ≤ (l.takeWhile (r a)).length := by simp at hc; omega
   have e : l.take i = (l.takeWhile (r a)).take i := by
    conv => lhs; rw [← htd]
    rw [List.take_append_of_le_length hi']
   have hall : ∀ x ∈ (l.takeWhile (r a)).take i, r a x = true := fun x hx => by
    have := List.all_takeWhile (l := l) (p := r a)
    rw [List.all_eq_true] at this
    exact this x (List.mem_of_mem_take hx)
   have e1 : ((l.takeWhile (r a)).take i).takeWhile (r a) = (l.takeWhile (r a)).take i := by have := takeWhile_all (p := r a) [] hall; simpa using this
   have e2 : ((l.takeWhile (r a)).take i).dropWhile (r a) = [] := by have := dropWhile_all (p := r a) [] hall; simpa using this
   rw [e, e1, e2, parts_nil, List.take_succ_cons]
   rfl
  ·have hlen : (l.takeWhile (r a)).length + (l.dropWhile (r a)).length = l.length := by rw [← List.length_append, htd]
   simp at hc hi
   obtain ⟨ps, q, rest, m, h1, h2, h3, h4⟩ := parts_take r n (l.dropWhile (r a)) (i - 1 - (l.takeWhile (r a)).length) (by have := (List.dropWhile_suffix (l := l) (r a)).length_le; simp at hl; omega) (by omega)
   refine ⟨(a :: l.takeWhile (r a)) :: ps, q, rest, m, by rw [parts_cons, h1]; rfl, h2, ?_, ?_⟩
   ·simp only [List.flatten_cons, List.length_append, List.length_cons]
    omega
   ·rw [List.take_succ_cons, parts_cons]
    have e : l.take i = l.takeWhile (r a) ++ (l.dropWhile (r a)).take (i - (l.takeWhile (r a)).length) := by
     conv => lhs; rw [← htd]
     rw [List.take_append, List.take_of_length_le (by omega)]
    have hall : ∀ x ∈ l.takeWhile (r a), r a x = true := fun x hx => by
     have := List.all_takeWhile (l := l) (p := r a)
     rw [List.all_eq_true] at this
     exact this x hx
    have hstop : ((l.dropWhile (r a)).take (i - (l.takeWhile (r a)).length)).takeWhile (r a) = [] ∧ ((l.dropWhile (r a)).take (i - (l.takeWhile (r a)).length)).dropWhile (r a) = (l.dropWhile (r a)).take (i - (l.takeWhile (r a)).length) := by
     cases hd : l.dropWhile (r a) with
     | nil => simp
     | cons b t =>
      have hb := List.head_dropWhile_not (p := r a) (l := l) (by rw [hd]; simp)
      simp only [hd, List.head_cons] at hb
      cases hk : i - (l.takeWhile (r a)).length with
      | zero => simp
      | succ k => rw [List.take_succ_cons]; exact ⟨List.takeWhile_cons_of_neg (by simpa using hb), List.dropWhile_cons_of_neg (by simpa using hb)⟩
    rw [e, takeWhile_all _ hall, dropWhile_all _ hall, hstop.1, hstop.2, List.append_nil]
    rw [show i - (l.takeWhile (r a)).length = i - 1 - (l.takeWhile (r a)).length + 1 by omega, h4]
    rfl
theorem parts_ahead {α : Type} (r : α → α → Bool) : ∀ (ps rest : List (List α)) (l : List α), partsBy r l = ps ++ rest → partsBy r ps.flatten = ps
 | [], _, _, _ => parts_nil _
 | a :: ps, rest, [], h => by rw [parts_nil] at h; cases h
 | a :: ps, rest, x :: l, h => by
  rw [parts_cons, List.cons_append] at h
  injection h with h1 h2
  have ih := parts_ahead r ps rest _ h2
  rw [List.flatten_cons, ← h1, List.cons_append, parts_cons]
  have hall : ∀ y ∈ l.takeWhile (r x), r x y = true := fun y hy => by
   have := List.all_takeWhile (l := l) (p := r x)
   rw [List.all_eq_true] at this
   exact this y hy
  have hst : ps.flatten.takeWhile (r x) = [] ∧ ps.flatten.dropWhile (r x) = ps.flatten := by
   have hfl := parts_flat r _ (l.dropWhile (r x)) (Nat.le_refl _)
   rw [h2, List.flatten_append] at hfl
   cases hd : ps.flatten with
   | nil => simp
   | cons b t =>
    have hdd : l.dropWhile (r x) = b :: (t ++ rest.flatten) := by rw [← hfl, hd]; rfl
    have hb := List.head_dropWhile_not (p := r x) (l := l) (by rw [hdd]; simp)
    simp only [hdd, List.head_cons] at hb
    exact ⟨List.takeWhile_cons_of_neg (by simpa using hb), List.dropWhile_cons_of_neg (by simpa using hb)⟩
  rw [takeWhile_all _ hall, dropWhile_all _ hall, hst.1, hst.2, ih, List.append_nil]
theorem find_over : ∀ (n lv : Nat) (d : List Lin) (j : Nat) (p : List Int) (i : Nat) (more : List Nod), (∀ l ∈ d, LinOk l ∧ (wayL l).length < lv + n) →
  findK (hostL (lineN (gr rowK)) n lv d ++ more) j p (i + d.length) = findK more (j + (hostL (lineN (gr rowK)) n lv d).length) p i
 | 0, lv, d, j, p, i, more, h => by
  rw [hostL]
  induction d generalizing j with
  | nil => simp
  | cons l d ih =>
   have ht := (line_tag (h l (by simp)).1).1
   rw [List.map_cons, List.cons_append, findK_cons, if_pos ht]
   have := ih (j + 1) (fun x hx => h x (by simp [hx]))
   rw [show i + (l :: d).length = (i + d.length) + 1 by simp; omega]
   simp only
   rw [this]
   congr 1
   simp
   omega
 | n + 1, lv, d, j, p, i, more, h => by
  rw [hostL]
  have hfl := parts_flat (stepR lv) _ d (Nat.le_refl _)
  have hsub : ∀ q ∈ partsBy (stepR lv) d, ∀ x ∈ q, x ∈ d := fun q hq x hx => parts_sub _ _ hq hx
  have hne : ∀ q ∈ partsBy (stepR lv) d, q ≠ [] := parts_ne _ _ d (Nat.le_refl _)
  have hone : ∀ q ∈ partsBy (stepR lv) d, stepL lv (q.headD default) = 0 → q.length = 1 := by
   have : ∀ (n : Nat) (l : List Lin), l.length ≤ n → ∀ q ∈ partsBy (stepR lv) l, stepL lv (q.headD default) = 0 → q.length = 1 := by
    intro n
    induction n with
    | zero => intro l hl; have : l = [] := List.length_eq_zero_iff.1 (by omega); subst this; rw [parts_nil]; simp
    | succ n ih =>
     intro l hl q hq hs
     cases l with
     | nil => rw [parts_nil] at hq; cases hq
     | cons a l =>
      rw [parts_cons] at hq
      rcases List.mem_cons.1 hq with rfl | hq
      ·simp only [List.headD_cons] at hs
       have : l.takeWhile (stepR lv a) = [] := by
        cases l with
        | nil => rfl
        | cons b l => rw [List.takeWhile_cons_of_neg]; unfold stepR; simp [hs]
       rw [this]
       rfl
      ·exact ih _ (by have := (List.dropWhile_suffix (l := l) (stepR lv a)).length_le; simp at hl; omega) q hq hs
   exact this _ d (Nat.le_refl _)
  have key : ∀ (ps : List (List Lin)) (j i : Nat), (∀ q ∈ ps, q ∈ partsBy (stepR lv) d) →
    findK (ps.flatMap (fun p => if stepL lv (p.headD default) ≠ 0 then [.mk (stepL lv (p.headD default)) [] [] (hostL (lineN (gr rowK)) n (lv + 1) p)] else [lineN (gr rowK) (p.headD default)]) ++ more) j p (i + ps.flatten.length) = findK more (j + (ps.flatMap (fun p => if stepL lv (p.headD default) ≠ 0 then [Nod.mk (stepL lv (p.headD default)) [] [] (hostL (lineN (gr rowK)) n (lv + 1) p)] else [lineN (gr rowK) (p.headD default)])).length) p i := by
   intro ps
   induction ps with
   | nil => intro j i _; simp
   | cons q ps ih =>
    intro j i hq
    have hq0 := hq q (by simp)
    have hhead : q.headD default ∈ q := by
     cases q with
     | nil => exact absurd rfl (hne _ hq0)
     | cons a l => simp
    obtain ⟨g1, g2⟩ := h _ (hsub q hq0 _ hhead)
    rw [List.flatMap_cons, List.append_assoc]
    have ih' := ih (j + 1) i (fun x hx => hq x (by simp [hx]))
    by_cases hs : stepL lv (q.headD default) ≠ 0
    ·rw [if_pos hs, List.singleton_append, findK_cons]
     have hw := way_at g1 (step_get hs)
     have ht : ¬ tagC (Nod.mk (stepL lv (q.headD default)) [] [] (hostL (lineN (gr rowK)) n (lv + 1) q)).tag = 3 := by
      simp only [Nod.tag]
      rcases hw with ⟨_, hw⟩ | ⟨_, hw | hw⟩ <;> rw [hw] <;> decide
     rw [if_neg ht, findN_kids]
     simp only [Nod.kids]
     have := find_over n (lv + 1) q 0 (p ++ [(j : Int)]) (i + ps.flatten.length) [] (fun l hl => by
      obtain ⟨a1, a2⟩ := h l (hsub q hq0 l hl)
      exact ⟨a1, by omega⟩)
     rw [List.append_nil] at this
     rw [show i + (q :: ps).flatten.length = i + ps.flatten.length + q.length by simp; omega, this, findK_nil]
     simp only
     rw [ih']
     congr 1
     simp
     omega
    ·have hs0 : stepL lv (q.headD default) = 0 := by simpa using hs
     have ht := (line_tag g1).1
     rw [if_neg hs, List.singleton_append, findK_cons, if_pos ht]
     rw [show i + (q :: ps).flatten.length = (i + ps.flatten.length) + 1 by simp [hone q hq0 hs0]; omega]
     simp only
     rw [ih']
     congr 1
     simp
     omega
  have := key (partsBy (stepR lv) d) j i (fun q hq => hq)
  rw [hfl] at this
  exact this
theorem find_line : ∀ (n lv : Nat) (d : List Lin) (j : Nat) (p : List Int) (i : Nat) (more : List Nod), (∀ l ∈ d, LinOk l ∧ (wayL l).length < lv + n ∧ lv ≤ (wayL l).length) → ∀ l, d[i]? = some l →
  findK (hostL (lineN (gr rowK)) n lv d ++ more) j p i = .inl (p ++ lastPath ((wayL l).length - lv + 1) j (hostL (lineN (gr rowK)) n lv (d.take (i + 1))), lineN (gr rowK) l)
 | 0, lv, d, j, p, i, more, h, l, hl => by
  exfalso
  obtain ⟨_, h2, h3⟩ := h l (List.mem_of_getElem? hl)
  omega
 | n + 1, lv, d, j, p, i, more, h, l, hl => by
  have hi : i < d.length := (List.getElem?_eq_some_iff.1 hl).1
  obtain ⟨ps, q, rest, m, e1, hm, hpm, e2⟩ := parts_take (stepR lv) _ d i (Nat.le_refl _) hi
  have hq : q ∈ partsBy (stepR lv) d := by rw [e1]; simp
  have hsub : ∀ q ∈ partsBy (stepR lv) d, ∀ x ∈ q, x ∈ d := fun q hq x hx => parts_sub _ _ hq hx
  have hql : q[m]? = some l := by
   have hfl := parts_flat (stepR lv) _ d (Nat.le_refl _)
   rw [e1, List.flatten_append, List.flatten_cons] at hfl
   rw [← hfl, List.getElem?_append_right (by omega), List.getElem?_append_left (by omega)] at hl
   rw [show i - ps.flatten.length = m by omega] at hl
   exact hl
  have hhead : q.headD default ∈ q := by
   cases q with
   | nil => simp at hm
   | cons a l => simp
  have hall := step_all _ d (Nat.le_refl _) q hq
  have hqt : q.take (m + 1) ≠ [] ∧ (q.take (m + 1)).headD default = q.headD default := by
   cases q with
   | nil => simp at hm
   | cons a l => simp
  have hF : ∀ d' : List Lin, hostL (lineN (gr rowK)) (n + 1) lv d' = (partsBy (stepR lv) d').flatMap fun p => if stepL lv (p.headD default) ≠ 0 then [.mk (stepL lv (p.headD default)) [] [] (hostL (lineN (gr rowK)) n (lv + 1) p)] else [lineN (gr rowK) (p.headD default)] := fun d' => by rw [hostL]
  -- the parts ahead
  have hahead : ∃ d0 : List Lin, partsBy (stepR lv) d0 = ps ∧ d0 = ps.flatten ∧ (∀ x ∈ d0, x ∈ d) := by
   refine ⟨ps.flatten, ?_, rfl, fun x hx => ?_⟩
   ·exact parts_ahead (stepR lv) ps (q :: rest) d e1
   ·obtain ⟨q', hq', hx'⟩ := List.mem_flatten.1 hx
    exact hsub q' (by rw [e1]; simp [hq']) x hx'
  obtain ⟨d0, g1, g2, g3⟩ := hahead
  have hover := find_over (n + 1) lv d0 j p m ((q :: rest).flatMap (fun p => if stepL lv (p.headD default) ≠ 0 then [.mk (stepL lv (p.headD default)) [] [] (hostL (lineN (gr rowK)) n (lv + 1) p)] else [lineN (gr rowK) (p.headD default)]) ++ more) (fun l hl => ⟨(h l (g3 l hl)).1, (h l (g3 l hl)).2.1⟩)
  rw [hF, e1, List.flatMap_append, List.append_assoc]
  rw [hF, g1] at hover
  rw [show m + d0.length = i by rw [g2]; omega] at hover
  rw [hover, hF, e2, List.flatMap_append]
  generalize hP : (ps.flatMap fun p => if stepL lv (p.headD default) ≠ 0 then [Nod.mk (stepL lv (p.headD default)) [] [] (hostL (lineN (gr rowK)) n (lv + 1) p)] else [lineN (gr rowK) (p.headD default)]) = P
  rw [List.flatMap_cons, List.flatMap_cons, List.flatMap_nil, List.append_nil, hqt.2, List.append_assoc]
  obtain ⟨k1, k2, k3⟩ := h l (List.mem_of_getElem? hl)
  have hsl := hall l (List.mem_of_getElem? hql)
  by_cases hs : stepL lv (q.headD default) ≠ 0
  ·rw [if_pos hs, if_pos hs, List.singleton_append, findK_cons]
   have hsl' : stepL lv l ≠ 0 := hsl ▸ hs
   have hw := way_at k1 (step_get hsl')
   have hlt := (stepL_some hsl').1
   have ht : ¬ tagC (Nod.mk (stepL lv (q.headD default)) [] [] (hostL (lineN (gr rowK)) n (lv + 1) q)).tag = 3 := by
    simp only [Nod.tag]
    rw [← hsl]
    rcases hw with ⟨_, hw⟩ | ⟨_, hw | hw⟩ <;> rw [hw] <;> decide
   rw [if_neg ht, findN_kids]
   simp only [Nod.kids]
   have ih := find_line n (lv + 1) q 0 (p ++ [((j + P.length : Nat) : Int)]) m [] (fun x hx => by
    obtain ⟨a1, a2, _⟩ := h x (hsub q hq x hx)
    have hx' := hall x hx
    exact ⟨a1, by omega, (stepL_some (hx' ▸ hs)).1⟩) l hql
   rw [List.append_nil] at ih
   rw [ih]
   simp only
   congr 2
   rw [List.append_assoc]
   congr 1
   have e5 : ∀ (k : Nat) (N : Nod), lastPath (k + 1) j (P ++ [N]) = ((j + P.length : Nat) : Int) :: lastPath k 0 N.kids := fun k N => by
    rw [lastPath, List.length_append, List.length_singleton, List.getLastD_concat]
    congr 1
    omega
   rw [show (wayL l).length - lv + 1 = ((wayL l).length - (lv + 1) + 1) + 1 by omega, e5]
   rfl
  ·have hs0 : stepL lv (q.headD default) = 0 := by simpa using hs
   have hone : q.length = 1 ∧ q.headD default = l := by
    cases q with
    | nil => simp at hm
    | cons a t =>
     have hax : (a :: t) ∈ partsBy (stepR lv) d := hq
     have : t = [] := by
      have hr : ∀ (n : Nat) (l : List Lin), l.length ≤ n → ∀ q ∈ partsBy (stepR lv) l, stepL lv (q.headD default) = 0 → q.length = 1 := by
       intro n
       induction n with
       | zero => intro l hl; have : l = [] := List.length_eq_zero_iff.1 (by omega); subst this; rw [parts_nil]; simp
       | succ n ih =>
        intro l hl q hq hs
        cases l with
        | nil => rw [parts_nil] at hq; cases hq
        | cons a l =>
         rw [parts_cons] at hq
         rcases List.mem_cons.1 hq with rfl | hq
         ·simp only [List.headD_cons] at hs
          have : l.takeWhile (stepR lv a) = [] := by
           cases l with
           | nil => rfl
           | cons b l => rw [List.takeWhile_cons_of_neg]; unfold stepR; simp [hs]
          rw [this]
          rfl
         ·exact ih _ (by have := (List.dropWhile_suffix (l := l) (stepR lv a)).length_le; simp at hl; omega) q hq hs
      have := hr _ d (Nat.le_refl _) _ hax hs0
      simp at this
      exact this
     subst this
     simp at hm
     subst hm
     exact ⟨rfl, by simpa using hql⟩
   have ht := (line_tag k1).1
   have hm0 : m = 0 := by omega
   rw [if_neg hs, if_neg hs, hone.2, List.singleton_append, findK_cons, if_pos ht, hm0]
   simp only
   have hsl0 : stepL lv l = 0 := hsl.trans hs0
   have hwl : (wayL l).length = lv := by
    have := stepL_none hsl0
    have := congrArg List.length this
    rw [List.length_drop, List.length_nil] at this
    omega
   rw [hwl, Nat.sub_self, lastPath, lastPath]
   congr 3
   simp
   omega
theorem host_line {d : List Lin} (hd : ∀ l ∈ d, LinOk l) {i : Nat} {l : Lin} (hl : d[i]? = some l) : findN (hostN d) [] i = .inl (lastPath ((wayL l).length + 1) 0 (hostL (lineN (gr rowK)) 13 0 (d.take (i + 1))), lineN (gr rowK) l) := by
 unfold hostN
 rw [findN_kids]
 have := find_line 13 0 d 0 [] i [] (fun l hl => by
  have := way_len (hd l hl)
  have h1 := (hd l hl).1
  have h2 := (hd l hl).2.1
  have h3 := (hd l hl).2.2.1
  exact ⟨hd l hl, by omega, Nat.zero_le _⟩) l hl
 rw [List.append_nil] at this
 exact this
theorem leafK_cons (k : Nod) (ks : List Nod) (j : Nat) (p : List Int) (c : Int) : leafK (k :: ks) j p c = if k.tag = 16 then (if c = 1 then .inl (p, (j : Int) + 1) else leafK ks (j + 1) p (c - 1)) else if k.tag ≠ 0 then (match leafF k (p ++ [(j : Int)]) c with | .inl r => .inl r | .inr c => leafK ks (j + 1) p c) else if c ≤ ((runesB ⟨k.text.toArray⟩).length : Int) then .inl (p ++ [(j : Int)], c) else leafK ks (j + 1) p (c - ((runesB ⟨k.text.toArray⟩).length : Int)) := by rw [leafK.eq_def]
theorem leafK_nil (j : Nat) (p : List Int) (c : Int) : leafK [] j p c = .inr c := by rw [leafK.eq_def]
def behindP : Nat → Nat → List Int → List Nod → List Int × Int
 | 0, j, p, l => if (l.getLastD default).tag = 16 then (p, ((j + l.length : Nat) : Int)) else (p ++ [((j + l.length : Nat) : Int) - 1], ((runesB ⟨(l.getLastD default).text.toArray⟩).length : Int))
 | n + 1, j, p, l => behindP n 0 (p ++ [((j + l.length : Nat) : Int) - 1]) (l.getLastD default).kids
def pointN (d : List Lin) (q : Ps) : List Int × Int :=
 match findN (hostN d) [] q.line.toNat with
 | .inl (p, n) => if q.col = 0 then (p, 0) else (match leafF n p q.col with | .inl r => r | .inr _ => ([], 0))
 | .inr _ => ([], 0)
end Go.Proofs.Qw
namespace Go.Proofs.Qw
open Go.RowKit
theorem drop_at {α : Type} {ks : List α} {k : Nat} {x : α} (h : ks[k]? = some x) : ks.drop k = x :: ks.drop (k + 1) := by
 obtain ⟨hk, rfl⟩ := List.getElem?_eq_some_iff.1 h
 exact List.drop_eq_getElem_cons hk
theorem line_hit {ks : List Nod} {k : Nat} {x : Nod} (h : ks[k]? = some x) (p : List Int) (ht : tagC x.tag = 3) : findK (ks.drop k) k p 0 = .inl (p ++ [(k : Int)], x) := by
 rw [drop_at h, findK_cons, if_pos ht]
theorem line_skip {ks : List Nod} {k : Nat} {x : Nod} (h : ks[k]? = some x) (p : List Int) (i : Nat) (ht : tagC x.tag = 3) : findK (ks.drop k) k p (i + 1) = findK (ks.drop (k + 1)) (k + 1) p i := by
 rw [drop_at h, findK_cons, if_pos ht]
theorem line_in {ks : List Nod} {k : Nat} {x : Nod} (h : ks[k]? = some x) (p : List Int) (i : Nat) {r : List Int × Nod} (ht : tagC x.tag ≠ 3) (hr : findN x (p ++ [(k : Int)]) i = .inl r) : findK (ks.drop k) k p i = .inl r := by
 rw [drop_at h, findK_cons, if_neg ht, hr]
theorem line_past {ks : List Nod} {k : Nat} {x : Nod} (h : ks[k]? = some x) (p : List Int) (i i2 : Nat) (ht : tagC x.tag ≠ 3) (hr : findN x (p ++ [(k : Int)]) i = .inr i2) : findK (ks.drop k) k p i = findK (ks.drop (k + 1)) (k + 1) p i2 := by
 rw [drop_at h, findK_cons, if_neg ht, hr]
theorem line_end (ks : List Nod) (p : List Int) (i : Nat) : findK (ks.drop ks.length) ks.length p i = .inr i := by rw [List.drop_length, findK_nil]
theorem leaf_brk {ks : List Nod} {k : Nat} {x : Nod} (h : ks[k]? = some x) (p : List Int) (ht : x.tag = 16) : leafK (ks.drop k) k p 1 = .inl (p, (k : Int) + 1) := by
 rw [drop_at h, leafK_cons, if_pos ht, if_pos rfl]
theorem leaf_brk2 {ks : List Nod} {k : Nat} {x : Nod} (h : ks[k]? = some x) (p : List Int) (c : Int) (ht : x.tag = 16) (hc : c ≠ 1) : leafK (ks.drop k) k p c = leafK (ks.drop (k + 1)) (k + 1) p (c - 1) := by
 rw [drop_at h, leafK_cons, if_pos ht, if_neg hc]
theorem leaf_in {ks : List Nod} {k : Nat} {x : Nod} (h : ks[k]? = some x) (p : List Int) (c : Int) {r : List Int × Int} (ht : x.tag ≠ 16) (h0 : x.tag ≠ 0) (hr : leafF x (p ++ [(k : Int)]) c = .inl r) : leafK (ks.drop k) k p c = .inl r := by
 rw [drop_at h, leafK_cons, if_neg ht, if_pos h0, hr]
theorem leaf_past {ks : List Nod} {k : Nat} {x : Nod} (h : ks[k]? = some x) (p : List Int) (c c2 : Int) (ht : x.tag ≠ 16) (h0 : x.tag ≠ 0) (hr : leafF x (p ++ [(k : Int)]) c = .inr c2) : leafK (ks.drop k) k p c = leafK (ks.drop (k + 1)) (k + 1) p c2 := by
 rw [drop_at h, leafK_cons, if_neg ht, if_pos h0, hr]
theorem leaf_text {ks : List Nod} {k : Nat} {x : Nod} (h : ks[k]? = some x) (p : List Int) (c : Int) (ht : x.tag = 0) (hc : c ≤ ((runesB ⟨x.text.toArray⟩).length : Int)) : leafK (ks.drop k) k p c = .inl (p ++ [(k : Int)], c) := by
 rw [drop_at h, leafK_cons, if_neg (by rw [ht]; decide), if_neg (fun e => e ht), if_pos hc]
theorem leaf_text2 {ks : List Nod} {k : Nat} {x : Nod} (h : ks[k]? = some x) (p : List Int) (c : Int) (ht : x.tag = 0) (hc : ¬ c ≤ ((runesB ⟨x.text.toArray⟩).length : Int)) : leafK (ks.drop k) k p c = leafK (ks.drop (k + 1)) (k + 1) p (c - ((runesB ⟨x.text.toArray⟩).length : Int)) := by
 rw [drop_at h, leafK_cons, if_neg (by rw [ht]; decide), if_neg (fun e => e ht), if_neg hc]
theorem leaf_end (ks : List Nod) (p : List Int) (c : Int) : leafK (ks.drop ks.length) ks.length p c = .inr c := by rw [List.drop_length, leafK.eq_def]
end Go.Proofs.Qw
namespace Go.Proofs.Qw
open Go.RowKit
mutual
theorem findN_le : ∀ (n : Nod) (p : List Int) (i j : Nat), findN n p i = .inr j → j ≤ i
 | .mk _ _ _ ks, p, i, j, h => findK_le ks 0 p i j (by rw [findN] at h; exact h)
theorem findK_le : ∀ (ks : List Nod) (t : Nat) (p : List Int) (i j : Nat), findK ks t p i = .inr j → j ≤ i
 | [], t, p, i, j, h => by rw [findK_nil] at h; cases h; exact Nat.le_refl _
 | k :: ks, t, p, i, j, h => by
  rw [findK_cons] at h
  split at h
  ·cases i with
   | zero => cases h
   | succ i => have := findK_le ks _ _ i j h; omega
  ·cases hr : findN k (p ++ [(t : Int)]) i with
   | inl r => rw [hr] at h; cases h
   | inr i2 =>
    rw [hr] at h
    have h1 := findN_le k _ _ _ hr
    have h2 := findK_le ks _ _ _ _ h
    omega
end
end Go.Proofs.Qw
namespace Go.Proofs.YteognfhemmogpaaGreatDoor
open Go.RowKit
open Go.Proofs.Qw
attribute [local go_sem] Oper.semAt_some
theorem nods_shapeS {h : Nat} {w : World} {S : Nat → Prop} {v : Value} {d : List Nod} (hd : NodsR false h w S v d) :
  ∃ a c, v = .slice a d.length c ∧ d.length ≤ c ∧ c ≤ maxLen ∧ ∀ i l, d[i]? = some l → ∃ b o aa ac ka kc h', h = h' + 1 ∧ a = some ⟨b, o, none⟩ ∧ S b ∧ NodAt h' w S b (o + i * 4) l aa ac ka kc := by
 obtain ⟨a, c, rfl, hc, hm, hx⟩ := SliceR.shape hd
 refine ⟨a, c, rfl, hc, hm, fun i l hl => ?_⟩
 obtain ⟨b, o, vs, rfl, hz, hS, _, hR, he⟩ := hx i l hl
 match h, hR with
 | h' + 1, ⟨x, y, e, h1, h2⟩ =>
  subst e
  obtain ⟨aa, ac, rfl⟩ := h1.slice
  obtain ⟨ka, kc, rfl⟩ := h2.slice
  exact ⟨b, o, aa, ac, ka, kc, h', rfl, rfl, hS, hz, he 0 _ rfl, he 1 _ rfl, he 2 _ rfl, he 3 _ rfl, h1, h2⟩
theorem alloc_le {w : World} {o : Obj} {n : Nat} (h : (w.alloc o).heap.size ≤ n) : w.heap.size + 1 ≤ n := by
 simp only [World.alloc, Array.size_push] at h
 exact h
theorem drew_heapF (w : World) : w.drew.heap = w.heap := rfl
theorem But.setN {B : Nat} {a w : World} (h : But B a w) {b : Nat} (hb : a.heap.size ≤ b) (o : Nat) (v : Value) : But B a (w.setCell ⟨b, o, none⟩ v) :=
 ⟨h.os, h.tape, h.output, ⟨by have := h.size; simpa using this, fun d hd hz => by
  rw [heap_set, if_neg (by omega)]
  exact h.keeps.block d hd hz⟩⟩
theorem But.drew {B : Nat} {a w : World} (h : But B a w) : But B a w.drew := ⟨h.os, h.tape, h.output, h.keeps.drew⟩
theorem keeps4 {S : Nat → Prop} {w : World} {Z : Nat} (hS : ¬ S Z) (x y z v : Value) : Keeps S w ((((w.setCell ⟨Z, 0, none⟩ x).setCell ⟨Z, 1, none⟩ y).setCell ⟨Z, 2, none⟩ z).setCell ⟨Z, 3, none⟩ v).drew :=
 (((((Keeps.refl S w).set hS x).set hS y).set hS z).set hS v).drew
theorem keeps4a {S : Nat → Prop} {w : World} {Z : Nat} (hS : ¬ S Z) (x y z v : Value) (o : Obj) : Keeps S w (((((w.setCell ⟨Z, 0, none⟩ x).setCell ⟨Z, 1, none⟩ y).setCell ⟨Z, 2, none⟩ z).setCell ⟨Z, 3, none⟩ v).alloc o).drew :=
 ((((((Keeps.refl S w).set hS x).set hS y).set hS z).set hS v).alloc o).drew
theorem But.set4 {B : Nat} {a w : World} (h : But B a w) {Z : Nat} (hZ : a.heap.size ≤ Z) (x y z v : Value) : But B a ((((w.setCell ⟨Z, 0, none⟩ x).setCell ⟨Z, 1, none⟩ y).setCell ⟨Z, 2, none⟩ z).setCell ⟨Z, 3, none⟩ v).drew :=
 ((((h.setN hZ 0 x).setN hZ 1 y).setN hZ 2 z).setN hZ 3 v).drew
theorem results_tnt {fn : Func} {p s u : Tmp} (h : fn.results = #[.tmp s, .cell p 35, .tmp u]) (tmps : Array Value) (w : World) (B : Nat) (x y z v : Value) (hp : tmps.getD p undef = .pointer (some ⟨B, 0, none⟩)) (hB : w.heap[B]? = some (.cells #[x, y, z, v] 35)) :
  (results fn tmps).run Tryz.prog w = .ok (.tuple #[tmps.getD s undef, .agg #[x, y, z, v], tmps.getD u undef]) w := by
 have hp' : tmps[p]?.getD undef = .pointer (some ⟨B, 0, none⟩) := by simpa using hp
 have h1 := run_loadVar_row (P := Tryz.prog) w B 35 35 _ _ _ hB Tryz.underlying35 rfl (by kernel_rfl)
 simp [results, h, hp', asAddr, h1]
theorem two_nodF (w : World) (x1 x2 x3 x4 y1 y2 y3 y4 : Value) : ∃ W1, (w.alloc (.cells #[x1, x2, x3, x4] 35)).alloc (.cells #[y1, y2, y3, y4] 35) = W1 ∧ Below w.heap.size w W1 ∧ w.heap.size + 1 < W1.heap.size ∧ W1.heap[w.heap.size]? = some (.cells #[x1, x2, x3, x4] 35) ∧ W1.heap[w.heap.size + 1]? = some (.cells #[y1, y2, y3, y4] 35) :=
 ⟨_, rfl, ((Below.refl _ _).alloc (Nat.le_refl _) _).alloc (by simp) _, by simp, heap_old _ _ (heap_new _ _ rfl), heap_new _ _ (by simp)⟩
def LineOut (B h : Nat) (o : Int) (S : Nat → Prop) (n : Nat) (r : (List Int × Nod) ⊕ Nat) (e : Ending) (w' : World) : Prop := match r with
 | .inl (q, m) => ∃ qa qc ma mc ka kc, e = .returned (.tuple #[.slice qa q.length qc, .agg #[.int .i64 m.tag, .slice ma m.attrs.length mc, .string ⟨m.text.toArray⟩, .slice ka m.kids.length kc], .bool true]) ∧
   IntsR false w' (fun b => n ≤ b) (.slice qa q.length qc) q ∧ AttsR false w' S (.slice ma m.attrs.length mc) m.attrs ∧ NodsR false h w' S (.slice ka m.kids.length kc) m.kids ∧ ∃ j : Int, FinAt B j o w'
 | .inr j => e = .returned (.tuple #[.slice none 0 0, .agg #[.int .i64 0, .slice none 0 0, .string ⟨#[]⟩, .slice none 0 0], .bool false]) ∧ FinAt B j o w'
def LineAt (h : Nat) : Prop := ∀ (n : Nod) (a k pv : Value) (p : List Int) (i B : Nat) (o : Int) (w : World) (S : Nat → Prop), AttsR false w S a n.attrs → NodsR false h w S k n.kids → (∀ b, S b → b < w.heap.size ∧ b ≠ B) →
  IntsR false w (fun b => b ≠ B) pv p → p.length + h ≤ 1000 → i ≤ 1000000 → FinAt B i o w →
  Calls Tryz.prog 30 #[.pointer (some ⟨B, 0, none⟩), nodV n a k, pv] w fun e w' => But B w w' ∧ LineOut B h o S w.heap.size (findN n p i) e w'
set_option maxRecDepth 100000 in
set_option maxHeartbeats 4000000 in
theorem line_step (h : Nat) (ih : ∀ h', h = h' + 1 → LineAt h') : LineAt h := by
 intro n a kv pv p i B o w S hA hK hS hP hpl hi hF
 obtain ⟨la, lc, rfl⟩ := hA.slice
 obtain ⟨ka, kc, rfl, hkc, hkm, _⟩ := nods_shapeS hK
 obtain ⟨pa, pc, rfl⟩ := hP.slice
 have hBz : B < w.heap.size := (Array.getElem?_eq_some_iff.1 hF).1
 have HK := Lib.hid hK
 have HI := Lib.hid ih
 have HS := Lib.hid hS
 have HP := Lib.hid hP
 have HE := Lib.hid (findN_kids n p i)
 have hpl2 : p.length ≤ 1000 := by omega
 obtain ⟨W1, hW1, hB, hz, hB1, hB2⟩ := two_nodF w (.int .i64 n.tag) (.slice la n.attrs.length lc) (.string ⟨n.text.toArray⟩) (.slice ka n.kids.length kc) (.int .i64 0) (.slice none 0 0) (.string ⟨#[]⟩) (.slice none 0 0)
 have HZ := Lib.hid hz
 have HR := Lib.hid hB2
 have HB := Lib.hid hB
 have HF1 : Hid (FinAt B i o W1) := Lib.hid (hF.below hB)
 have HBz := Lib.hid hBz
 clear hA hK hS hP hF hz hB hkc ih hBz
 unfold maxLen at hkm
 obtain ⟨p1, f1⟩ := blk hB1
 clear hB1 hB2
 unfold nodV
 go_enter Tryz.func30, Tryz.ntmps30
 go_wp2_with fail
 go_loopw [18] (fun j wr => ∃ k c : Nat, k ≤ n.kids.length ∧ j = .int .i64 k ∧ c ≤ 1000000 ∧ Hid (findN n p i = findK (n.kids.drop k) k p c) ∧ Hid (But B W1 wr) ∧ Hid (FinAt B c o wr)) (fun j _ => n.kids.length - (intOf j).toNat)
 case atStart => exact ⟨0, i, Nat.zero_le _, rfl, hi, HE, Lib.hid (But.refl _ _), HF1⟩
 case round =>
  obtain ⟨k, c, hk, rfl, hc, HFk, HBt, HFr⟩ := hrel
  clear p1 f1
  by_cases hlt : k < n.kids.length
  ·obtain ⟨x, hl, _⟩ := getOf n.kids k hlt
   have hBw : But B w wr := (But.of HB.out).trans HBt.out
   obtain ⟨ka', kc', e', _, _, hx⟩ := nods_shapeS (nods_but HK.out (fun b h => (HS.out b h).2) hBw)
   cases e'
   obtain ⟨b, bo, xa, xc, ya, yc, h', rfl, rfl, hSb, hA⟩ := hx k x hl
   obtain ⟨hbz, c0, c1, c2, c3, hAx, hKx⟩ := hA
   have HAX := Lib.hid hAx
   have HKX := Lib.hid hKx
   have HBw := Lib.hid hBw
   have HCl : Hid (∀ W, Below wr.heap.size wr W → Calls Tryz.prog 32 #[.slice pa p.length pc] W fun e w' => ∃ va vc, e = .returned (.slice va p.length vc) ∧ IntsR true w' (fun b => W.heap.size ≤ b) (.slice va p.length vc) p ∧ Below W.heap.size W w') := Lib.hid fun W hW => by
    refine (cloneInt_any _ p false W wr _ (HP.out.stable (rdOf_stable _) (hBw.to fun _ h => h) (fun _ h _ => h)) hW (by omega)).mono ?_
    rintro e w' ⟨v', h1, h2, h3⟩
    obtain ⟨va, vc, rfl⟩ := h2.slice
    exact ⟨va, vc, h1, h2, h3⟩
   have HC : Hid (∀ W, Calls Tryz.prog 37 #[.int .i64 x.tag] W fun e w' => e = .returned (.int .i64 (tagC x.tag)) ∧ Below W.heap.size W w') := Lib.hid fun W => tagsClass_any x.tag W
   obtain ⟨pk, hpk⟩ : ∃ pk, p ++ [(k : Int)] = pk := ⟨_, rfl⟩
   have HPK := Lib.hid hpk
   have HPL : Hid (pk.length = p.length + 1) := Lib.hid (by rw [← hpk]; simp)
   have HW : Hid (∀ W qa qc, Below wr.heap.size wr W → IntsR false W (fun b => b ≠ B) (.slice qa pk.length qc) pk → Calls Tryz.prog 30 #[.pointer (some ⟨B, 0, none⟩), .agg #[.int .i64 x.tag, .slice xa x.attrs.length xc, .string ⟨x.text.toArray⟩, .slice ya x.kids.length yc], .slice qa pk.length qc] W fun e w' => But B W w' ∧ LineOut B h' o S W.heap.size (findN x pk c) e w') :=
    Lib.hid fun W qa qc hW hq => HI.out h' rfl x _ _ _ pk c B o W S (HAX.out.below (rdOf_stable _) hW) (HKX.out.below (rdNod_stable _ _) hW) (fun b hb => ⟨Nat.lt_of_lt_of_le (HS.out b hb).1 (Nat.le_trans HBw.out.size hW.size), (HS.out b hb).2⟩) hq (by have := HPL.out; omega) hc (HFr.out.below hW)
   have HX : Hid (n.kids[k]? = some x) := Lib.hid hl
   have hwz : w.heap.size + 1 < wr.heap.size := Nat.lt_of_lt_of_le HZ.out HBt.out.size
   have hBz : B < w.heap.size := HBz.out
   have HRr : Hid (wr.heap[w.heap.size + 1]? = some (.cells #[.int .i64 0, .slice none 0 0, .string ⟨#[]⟩, .slice none 0 0] 35)) := Lib.hid (HBt.out.heap (by omega) HR.out)
   have hrl : p.length + [(k : Int)].length ≤ 100000000 := by simp; omega
   have i0 : (0 : Int) ≤ (k : Int) := Int.natCast_nonneg _
   have i1 : (k : Int) < (n.kids.length : Int) := by omega
   clear hpk hx hl hBw hAx hKx
   by_cases h3 : tagC x.tag = 3
   ·have h3b : (tagC x.tag == 3) = true := by simp [h3]
    have H3 := Lib.hid h3
    clear h3
    cases c with
    | zero =>
     have HO := Lib.hid (HFk.out.trans (line_hit HX.out p H3.out))
     have HFr : Hid (FinAt B 0 o wr) := Lib.hid HFr.out
     rw [HPK.out] at HO
     clear HFk HW hc
     go_wp2_with (first
      | (go_at_call 32; refine (HCl.out _ (by go_grown)).mono ?_; rintro e w2 ⟨va, vc, rfl, hv2, hb2⟩; have HV2 : Hid (IntsR true w2 (fun b => wr.heap.size + 1 ≤ b) (.slice va p.length vc) p) := Lib.hid (hv2.stable (rdOf_stable _) (Keeps.refl _ _) (fun b h _ => alloc_le h)); have hk2 := Lib.hid (heap_below hb2 (heap_new _ _ rfl)); have hz2 : wr.heap.size + 1 ≤ w2.heap.size := alloc_le hb2.size; have hx2 := Lib.hid (below_from ((Below.refl wr.heap.size wr).alloc (Nat.le_refl _) _) hb2); clear hv2 hb2)
      | (at_builtin; go_must (refine wpList_append_R _ rfl _ _ 27 27 rfl rowInt eltInt (wr.heap.size + 1) (.slice va p.length vc) _ (xs := p) (ys := [(k : Int)]) (news := [.int .i64 k]) rfl rfl (HV2.out.stable (rdOf_stable _) (.all ((Below.refl _ _).alloc (Nat.le_refl _) _)) (fun _ h _ => h)) (by simp; omega) (src_tag _ _ 1 (by simp)) (NewsR.one rfl rfl) hrl ?_); intro v8 w8 hR8 hB8 _ _; rw [HPK.out] at hR8; obtain ⟨na, nc, hne⟩ := hR8.slice; subst hne; have HR8 := Lib.hid hR8; have hx28 := Lib.hid (((Below.refl (wr.heap.size + 1) w2).alloc hz2 _).trans hB8); have hx8 := Lib.hid (hx2.out.trans (hx28.out.mono (by omega))); have hk8 := Lib.hid ((hx28.out.block _ (Nat.lt_succ_self _)).trans hk2.out); obtain ⟨q8, g8⟩ := blk hk8.out; clear hR8 hB8)
      | (go_at_call 37; refine (HC.out _).mono ?_; rintro e w9 ⟨rfl, hb9⟩; have hx9 := Lib.hid (below_from hx8.out hb9); have hk9 := Lib.hid (heap_below hb9 hk8.out); obtain ⟨q9, g9⟩ := blk hk9.out; have hf9 := Lib.hid (heap_below hx9.out HFr.out); obtain ⟨q3, g3⟩ := blk hf9.out; have hr9 := Lib.hid (heap_below hx9.out HRr.out); obtain ⟨q4, g4⟩ := blk hr9.out; have HR9 := Lib.hid (HR8.out.below (rdOf_stable _) hb9); have hz9 : wr.heap.size + 1 < w9.heap.size + 1 := Nat.succ_lt_succ (Nat.lt_of_lt_of_le (Nat.lt_of_succ_le hz2) (Nat.le_trans hx28.out.size hb9.size)); clear hb9))
     go_region
     go_wp2_with fail
     refine bodyPost_ret (results_tnt rfl _ _ (w.heap.size + 1) (.int .i64 x.tag) (.slice xa x.attrs.length xc) (.string ⟨x.text.toArray⟩) (.slice ya x.kids.length yc) rfl (by simp [heap_set, putIn, drew_heapF, hr9.out])) rfl ?_
     refine ⟨(HBw.out.trans (But.of hx9.out)).set4 (Nat.le_succ _) _ _ _ _, ?_⟩
     rw [HO.out]
     have hSz : ¬ S (w.heap.size + 1) := fun hs => by have := (HS.out _ hs).1; omega
     have hf := hf9.out
     have hfe : FinAt B 0 o ((((w9.setCell ⟨w.heap.size + 1, 0, none⟩ (.int .i64 x.tag)).setCell ⟨w.heap.size + 1, 1, none⟩ (.slice xa x.attrs.length xc)).setCell ⟨w.heap.size + 1, 2, none⟩ (.string ⟨x.text.toArray⟩)).setCell ⟨w.heap.size + 1, 3, none⟩ (.slice ya x.kids.length yc)).drew := by
      unfold FinAt
      rw [drew_heapF]
      simp [heap_set, hf, show ¬ (w.heap.size + 1 = B) by omega]
     exact ⟨na, nc, xa, xc, ya, yc, rfl, (HR9.out.read fun _ _ h => h).stable (rdOf_stable _) (keeps4 (by omega) _ _ _ _) (fun b h _ => by omega),
      HAX.out.stable (rdOf_stable _) ((Keeps.all hx9.out).trans (keeps4 hSz _ _ _ _)) (fun _ h _ => h), nods_mono' (Nat.le_succ _) (HKX.out.stable (rdNod_stable _ _) ((Keeps.all hx9.out).trans (keeps4 hSz _ _ _ _)) (fun _ h _ => h)), 0, hfe⟩
    | succ c =>
     have HO := Lib.hid (HFk.out.trans (line_skip HX.out p c H3.out))
     obtain ⟨d, hd⟩ : ∃ d : Int, d = ((c + 1 : Nat) : Int) := ⟨_, rfl⟩
     have HFr : Hid (FinAt B d o wr) := Lib.hid (hd ▸ HFr.out)
     have hd0 : (d == 0) = false := by simp; omega
     have hdw : IntKind.i64.wrap (d - 1) = (c : Int) := by rw [IntKind.wrap_i64]; omega
     clear HFk HW hd
     go_wp2_with (first
      | (go_at_call 32; refine (HCl.out _ (by go_grown)).mono ?_; rintro e w2 ⟨va, vc, rfl, hv2, hb2⟩; have HV2 : Hid (IntsR true w2 (fun b => wr.heap.size + 1 ≤ b) (.slice va p.length vc) p) := Lib.hid (hv2.stable (rdOf_stable _) (Keeps.refl _ _) (fun b h _ => alloc_le h)); have hk2 := Lib.hid (heap_below hb2 (heap_new _ _ rfl)); have hz2 : wr.heap.size + 1 ≤ w2.heap.size := alloc_le hb2.size; have hx2 := Lib.hid (below_from ((Below.refl wr.heap.size wr).alloc (Nat.le_refl _) _) hb2); clear hv2 hb2)
      | (at_builtin; go_must (refine wpList_append_R _ rfl _ _ 27 27 rfl rowInt eltInt (wr.heap.size + 1) (.slice va p.length vc) _ (xs := p) (ys := [(k : Int)]) (news := [.int .i64 k]) rfl rfl (HV2.out.stable (rdOf_stable _) (.all ((Below.refl _ _).alloc (Nat.le_refl _) _)) (fun _ h _ => h)) (by simp; omega) (src_tag _ _ 1 (by simp)) (NewsR.one rfl rfl) hrl ?_); intro v8 w8 hR8 hB8 _ _; rw [HPK.out] at hR8; obtain ⟨na, nc, hne⟩ := hR8.slice; subst hne; have HR8 := Lib.hid hR8; have hx28 := Lib.hid (((Below.refl (wr.heap.size + 1) w2).alloc hz2 _).trans hB8); have hx8 := Lib.hid (hx2.out.trans (hx28.out.mono (by omega))); have hk8 := Lib.hid ((hx28.out.block _ (Nat.lt_succ_self _)).trans hk2.out); obtain ⟨q8, g8⟩ := blk hk8.out; clear hR8 hB8)
      | (go_at_call 37; refine (HC.out _).mono ?_; rintro e w9 ⟨rfl, hb9⟩; have hx9 := Lib.hid (below_from hx8.out hb9); have hk9 := Lib.hid (heap_below hb9 hk8.out); obtain ⟨q9, g9⟩ := blk hk9.out; have hf9 := Lib.hid (heap_below hx9.out HFr.out); obtain ⟨q3, g3⟩ := blk hf9.out; have hr9 := Lib.hid (heap_below hx9.out HRr.out); obtain ⟨q4, g4⟩ := blk hr9.out; have HR9 := Lib.hid (HR8.out.below (rdOf_stable _) hb9); have hz9 : wr.heap.size + 1 < w9.heap.size + 1 := Nat.succ_lt_succ (Nat.lt_of_lt_of_le (Nat.lt_of_succ_le hz2) (Nat.le_trans hx28.out.size hb9.size)); clear hb9))
     go_roundw
     case rel => exact ⟨k + 1, c, hlt, by go_num, by omega, HO, Lib.hid ((HBt.out.trans (But.of (hx9.out))).set _ _), Lib.hid (by unfold FinAt; simp [heap_set, putIn, hf9.out])⟩
     case measure => simp [intOf]; omega
   ·have h3b : (tagC x.tag == 3) = false := by simp [h3]
    have H3 := Lib.hid h3
    clear h3
    cases hr : findN x pk c with
    | inl r =>
     obtain ⟨q, m⟩ := r
     have HO := Lib.hid (HFk.out.trans (line_in HX.out p c H3.out (HPK.out ▸ hr)))
     rw [hr] at HW
     clear HFk hr hc
     go_wp2_with (first
      | (go_at_call 32; refine (HCl.out _ (by go_grown)).mono ?_; rintro e w2 ⟨va, vc, rfl, hv2, hb2⟩; have HV2 : Hid (IntsR true w2 (fun b => wr.heap.size + 1 ≤ b) (.slice va p.length vc) p) := Lib.hid (hv2.stable (rdOf_stable _) (Keeps.refl _ _) (fun b h _ => alloc_le h)); have hk2 := Lib.hid (heap_below hb2 (heap_new _ _ rfl)); have hz2 : wr.heap.size + 1 ≤ w2.heap.size := alloc_le hb2.size; have hx2 := Lib.hid (below_from ((Below.refl wr.heap.size wr).alloc (Nat.le_refl _) _) hb2); clear hv2 hb2)
      | (at_builtin; go_must (refine wpList_append_R _ rfl _ _ 27 27 rfl rowInt eltInt (wr.heap.size + 1) (.slice va p.length vc) _ (xs := p) (ys := [(k : Int)]) (news := [.int .i64 k]) rfl rfl (HV2.out.stable (rdOf_stable _) (.all ((Below.refl _ _).alloc (Nat.le_refl _) _)) (fun _ h _ => h)) (by simp; omega) (src_tag _ _ 1 (by simp)) (NewsR.one rfl rfl) hrl ?_); intro v8 w8 hR8 hB8 _ _; rw [HPK.out] at hR8; obtain ⟨na, nc, hne⟩ := hR8.slice; subst hne; have HR8 := Lib.hid hR8; have hx28 := Lib.hid (((Below.refl (wr.heap.size + 1) w2).alloc hz2 _).trans hB8); have hx8 := Lib.hid (hx2.out.trans (hx28.out.mono (by omega))); have hk8 := Lib.hid ((hx28.out.block _ (Nat.lt_succ_self _)).trans hk2.out); obtain ⟨q8, g8⟩ := blk hk8.out; clear hR8 hB8)
      | (go_at_call 37; refine (HC.out _).mono ?_; rintro e w9 ⟨rfl, hb9⟩; have hx9 := Lib.hid (below_from hx8.out hb9); have hk9 := Lib.hid (heap_below hb9 hk8.out); obtain ⟨q9, g9⟩ := blk hk9.out; have hf9 := Lib.hid (heap_below hx9.out HFr.out); obtain ⟨q3, g3⟩ := blk hf9.out; have hr9 := Lib.hid (heap_below hx9.out HRr.out); obtain ⟨q4, g4⟩ := blk hr9.out; have HR9 := Lib.hid (HR8.out.below (rdOf_stable _) hb9); have hz9 : wr.heap.size + 1 < w9.heap.size + 1 := Nat.succ_lt_succ (Nat.lt_of_lt_of_le (Nat.lt_of_succ_le hz2) (Nat.le_trans hx28.out.size hb9.size)); clear hb9)
      | (go_at_call 30; (refine (HW.out _ _ _ hx9.out ((HR9.out.read fun _ _ h => h).stable (rdOf_stable _) (Keeps.refl _ _) (fun b h _ => by omega))).mono ?_; rintro e w10 ⟨hbt, qa, qc, ma, mc, mka, mkc, rfl, hq, hma, hmk, fj, hfj⟩; have HFJ := Lib.hid hfj; have HBT := Lib.hid hbt; have HQ := Lib.hid hq; have HMA := Lib.hid hma; have HMK := Lib.hid hmk; have hz10 : w.heap.size + 1 < w10.heap.size := Nat.lt_of_lt_of_le (Nat.lt_trans hwz (Nat.lt_of_succ_lt_succ hz9)) hbt.size; have hr10 := Lib.hid (hbt.heap (by omega) hr9.out); obtain ⟨q5, g5⟩ := blk hr10.out; have hne10 : ¬ (w.heap.size + 1 = w10.heap.size) := Nat.ne_of_lt hz10; clear hbt hq hma hmk hfj)))
     go_region
     go_wp2_with fail
     refine bodyPost_ret (results_tnt rfl _ _ (w.heap.size + 1) (.int .i64 m.tag) (.slice ma m.attrs.length mc) (.string ⟨m.text.toArray⟩) (.slice mka m.kids.length mkc) rfl (by rw [drew_heapF]; exact heap_old _ _ (by simp [heap_set, putIn, hr10.out]))) rfl ?_
     refine ⟨((((((((HBw.out.trans (But.of hx9.out)).trans HBT.out).setN (Nat.le_succ _) 0 _).setN (Nat.le_succ _) 1 _).setN (Nat.le_succ _) 2 _).setN (Nat.le_succ _) 3 _).alloc _).drew), ?_⟩
     rw [HO.out]
     have hSz : ¬ S (w.heap.size + 1) := fun hs => by have := (HS.out _ hs).1; omega
     have hf := HFJ.out
     unfold FinAt at hf
     have hfe : FinAt B fj o (((((w10.setCell ⟨w.heap.size + 1, 0, none⟩ (.int .i64 m.tag)).setCell ⟨w.heap.size + 1, 1, none⟩ (.slice ma m.attrs.length mc)).setCell ⟨w.heap.size + 1, 2, none⟩ (.string ⟨m.text.toArray⟩)).setCell ⟨w.heap.size + 1, 3, none⟩ (.slice mka m.kids.length mkc)).alloc (.cells #[.int .i64 m.tag, .slice ma m.attrs.length mc, .string ⟨m.text.toArray⟩, .slice mka m.kids.length mkc] 35)).drew := by
      unfold FinAt
      rw [drew_heapF]
      exact heap_old _ _ (by simp [heap_set, hf, show ¬ (w.heap.size + 1 = B) by omega])
     exact ⟨qa, qc, ma, mc, mka, mkc, rfl, HQ.out.stable (rdOf_stable _) (keeps4a (by omega) _ _ _ _ _) (fun b h _ => by omega),
      HMA.out.stable (rdOf_stable _) (keeps4a hSz _ _ _ _ _) (fun _ h _ => h), nods_mono' (Nat.le_succ _) (HMK.out.stable (rdNod_stable _ _) (keeps4a hSz _ _ _ _ _) (fun _ h _ => h)), fj, hfe⟩
    | inr c2 =>
     have hc2 := findN_le x pk c c2 hr
     have HO := Lib.hid (HFk.out.trans (line_past HX.out p c c2 H3.out (HPK.out ▸ hr)))
     rw [hr] at HW
     clear HFk hr
     go_wp2_with (first
      | (go_at_call 32; refine (HCl.out _ (by go_grown)).mono ?_; rintro e w2 ⟨va, vc, rfl, hv2, hb2⟩; have HV2 : Hid (IntsR true w2 (fun b => wr.heap.size + 1 ≤ b) (.slice va p.length vc) p) := Lib.hid (hv2.stable (rdOf_stable _) (Keeps.refl _ _) (fun b h _ => alloc_le h)); have hk2 := Lib.hid (heap_below hb2 (heap_new _ _ rfl)); have hz2 : wr.heap.size + 1 ≤ w2.heap.size := alloc_le hb2.size; have hx2 := Lib.hid (below_from ((Below.refl wr.heap.size wr).alloc (Nat.le_refl _) _) hb2); clear hv2 hb2)
      | (at_builtin; go_must (refine wpList_append_R _ rfl _ _ 27 27 rfl rowInt eltInt (wr.heap.size + 1) (.slice va p.length vc) _ (xs := p) (ys := [(k : Int)]) (news := [.int .i64 k]) rfl rfl (HV2.out.stable (rdOf_stable _) (.all ((Below.refl _ _).alloc (Nat.le_refl _) _)) (fun _ h _ => h)) (by simp; omega) (src_tag _ _ 1 (by simp)) (NewsR.one rfl rfl) hrl ?_); intro v8 w8 hR8 hB8 _ _; rw [HPK.out] at hR8; obtain ⟨na, nc, hne⟩ := hR8.slice; subst hne; have HR8 := Lib.hid hR8; have hx28 := Lib.hid (((Below.refl (wr.heap.size + 1) w2).alloc hz2 _).trans hB8); have hx8 := Lib.hid (hx2.out.trans (hx28.out.mono (by omega))); have hk8 := Lib.hid ((hx28.out.block _ (Nat.lt_succ_self _)).trans hk2.out); obtain ⟨q8, g8⟩ := blk hk8.out; clear hR8 hB8)
      | (go_at_call 37; refine (HC.out _).mono ?_; rintro e w9 ⟨rfl, hb9⟩; have hx9 := Lib.hid (below_from hx8.out hb9); have hk9 := Lib.hid (heap_below hb9 hk8.out); obtain ⟨q9, g9⟩ := blk hk9.out; have hf9 := Lib.hid (heap_below hx9.out HFr.out); obtain ⟨q3, g3⟩ := blk hf9.out; have hr9 := Lib.hid (heap_below hx9.out HRr.out); obtain ⟨q4, g4⟩ := blk hr9.out; have HR9 := Lib.hid (HR8.out.below (rdOf_stable _) hb9); have hz9 : wr.heap.size + 1 < w9.heap.size + 1 := Nat.succ_lt_succ (Nat.lt_of_lt_of_le (Nat.lt_of_succ_le hz2) (Nat.le_trans hx28.out.size hb9.size)); clear hb9)
      | (go_at_call 30; (refine (HW.out _ _ _ hx9.out ((HR9.out.read fun _ _ h => h).stable (rdOf_stable _) (Keeps.refl _ _) (fun b h _ => by omega))).mono ?_; rintro e w10 ⟨hbt, rfl, hfo⟩; have HBT := Lib.hid hbt; have HFO := Lib.hid hfo; clear hbt hfo)))
     go_roundw
     case rel => exact ⟨k + 1, c2, hlt, by go_num, by omega, HO, Lib.hid (((HBt.out.trans (But.of hx9.out)).trans HBT.out).alloc _), Lib.hid (heap_old _ _ HFO.out)⟩
     case measure => simp [intOf]; omega
  ·obtain rfl : k = n.kids.length := by omega
   have HO := Lib.hid (HFk.out.trans (line_end n.kids p c))
   have hwz : w.heap.size + 1 < wr.heap.size := Nat.lt_of_lt_of_le HZ.out HBt.out.size
   have hBz : B < w.heap.size := HBz.out
   have hRr : Hid (wr.heap[w.heap.size + 1]? = some (.cells #[.int .i64 0, .slice none 0 0, .string ⟨#[]⟩, .slice none 0 0] 35)) := Lib.hid (HBt.out.heap (by omega) HR.out)
   obtain ⟨q4, g4⟩ := blk hRr.out
   go_wp2_with fail
   refine bodyPost_ret (results_tnt rfl _ _ (w.heap.size + 1) (.int .i64 0) (.slice none 0 0) (.string ⟨#[]⟩) (.slice none 0 0) rfl (by simp [heap_set, putIn, hRr.out])) rfl ?_
   refine ⟨((((((But.of HB.out).trans HBt.out).setN (Nat.le_succ _) 0 _).setN (Nat.le_succ _) 1 _).setN (Nat.le_succ _) 2 _).setN (Nat.le_succ _) 3 _), ?_⟩
   rw [HO.out]
   have hf := HFr.out
   unfold FinAt at hf
   exact ⟨rfl, by unfold FinAt; simp [heap_set, putIn, hf, show ¬ (w.heap.size + 1 = B) by omega]⟩
theorem line_all : ∀ h, LineAt h
 | 0 => line_step 0 (fun _ e => by cases e)
 | h + 1 => line_step (h + 1) (fun h' e => by cases e; exact line_all h)
end Go.Proofs.YteognfhemmogpaaGreatDoor
