/- The walks of tags.of, tags.Class. -/
import Derived.Test.YtjpgffihafknlaaGreatDoorTagTabB
import Derived.Test.YtjpgffihafknlaaGreatDoorRenAlikeB
import Derived.Test.YtjpgffihafknlaaGreatDoorDocPosB
import Derived.Test.YtjpgffihafknlaaGreatDoorShelf
import Derived.Test.YtjpgffihafknlaaGreatDoorRenRowWB
import Derived.Deep.OwnRows
set_option linter.unusedVariables false
set_option linter.unusedSimpArgs false
namespace Go.Proofs.YtjpgffihafknlaaGreatDoor
open Go.RowKit
open Go.Proofs.Qw
attribute [local go_sem] Oper.semAt_some
set_option maxRecDepth 100000
set_option maxHeartbeats 4000000
theorem results_tagrow {fn : Func} {p : Tmp} (h : fn.results = #[.cell p 85]) (tmps : Array Value) (w : World) (B : Nat) (x y : Value) (hp : tmps.getD p undef = .pointer (some ⟨B, 0, none⟩)) (hg : w.heap[B]? = some (.cells #[x, y] 85)) :
  (results fn tmps).run Tryz.prog w = .ok (.agg #[x, y]) w :=
 results_cell_row h tmps w B _ _ _ _ hp hg Tryz.underlying85 rfl (by kernel_rfl)
def OfSaid (c : Int) (w : World) (e : Ending) (w' : World) : Prop := (∃ s, e = .returned (.agg #[s, .int .i64 c])) ∧ Below w.heap.size w w'
theorem tagsOf_0 (w : World) : Calls Tryz.prog 45 #[.int .i64 0] w (OfSaid 1 w) := by
 obtain ⟨W1, hW1, hB, hz, hB1⟩ : ∃ W1, w.alloc (.cells #[.slice none 0 0, .int .i64 0] 85) = W1 ∧ Below w.heap.size w W1 ∧ w.heap.size + 1 = W1.heap.size ∧ W1.heap[w.heap.size]? = some (.cells #[.slice none 0 0, .int .i64 0] 85) :=
  ⟨_, rfl, (Below.refl _ _).alloc (Nat.le_refl _) _, by simp, heap_new _ _ rfl⟩
 have H1 := Lib.hid hB1
 have HB := Lib.hid hB
 clear hB hB1
 go_enter Tryz.func45, Tryz.ntmps45
 go_wp2_with (go_at_call 75; refine (tagTab_ok _).mono ?_; rintro e w2 ⟨⟨B1, B2, B3, B4, B5, B6, B7, B8, B9, B10, B11, B12, B13, B14, B15, B16, rfl⟩, hb2⟩; have hB2 := heap_below hb2 H1.out; obtain ⟨q1, g1⟩ := blk hB2; have hix : ∀ X, Sem.run Tryz.prog (Instr.index 115 (.agg (tagV B1 B2 B3 B4 B5 B6 B7 B8 B9 B10 B11 B12 B13 B14 B15 B16)) (.int .i64 0)) X = .ok (.agg #[.slice none 0 0, .int .i64 1]) X := fun X => by kernel_rfl)
 refine bodyPost_ret (results_tagrow rfl _ _ w.heap.size (.slice none 0 0) (.int .i64 1) rfl (by simp [heap_set, putIn, hB2])) rfl ?_
 refine ⟨⟨_, rfl⟩, ?_⟩
 exact (((HB.out.trans (hb2.mono (by omega))).setCell (Nat.le_refl _) _).setCell (Nat.le_refl _) _)
theorem tagsOf_1 (w : World) : Calls Tryz.prog 45 #[.int .i64 1] w (OfSaid 2 w) := by
 obtain ⟨W1, hW1, hB, hz, hB1⟩ : ∃ W1, w.alloc (.cells #[.slice none 0 0, .int .i64 0] 85) = W1 ∧ Below w.heap.size w W1 ∧ w.heap.size + 1 = W1.heap.size ∧ W1.heap[w.heap.size]? = some (.cells #[.slice none 0 0, .int .i64 0] 85) :=
  ⟨_, rfl, (Below.refl _ _).alloc (Nat.le_refl _) _, by simp, heap_new _ _ rfl⟩
 have H1 := Lib.hid hB1
 have HB := Lib.hid hB
 clear hB hB1
 go_enter Tryz.func45, Tryz.ntmps45
 go_wp2_with (go_at_call 75; refine (tagTab_ok _).mono ?_; rintro e w2 ⟨⟨B1, B2, B3, B4, B5, B6, B7, B8, B9, B10, B11, B12, B13, B14, B15, B16, rfl⟩, hb2⟩; have hB2 := heap_below hb2 H1.out; obtain ⟨q1, g1⟩ := blk hB2; have hix : ∀ X, Sem.run Tryz.prog (Instr.index 115 (.agg (tagV B1 B2 B3 B4 B5 B6 B7 B8 B9 B10 B11 B12 B13 B14 B15 B16)) (.int .i64 1)) X = .ok (.agg #[.slice (some ⟨B1, 0, none⟩) 1 1, .int .i64 2]) X := fun X => by kernel_rfl)
 refine bodyPost_ret (results_tagrow rfl _ _ w.heap.size (.slice (some ⟨B1, 0, none⟩) 1 1) (.int .i64 2) rfl (by simp [heap_set, putIn, hB2])) rfl ?_
 refine ⟨⟨_, rfl⟩, ?_⟩
 exact (((HB.out.trans (hb2.mono (by omega))).setCell (Nat.le_refl _) _).setCell (Nat.le_refl _) _)
theorem tagsOf_2 (w : World) : Calls Tryz.prog 45 #[.int .i64 2] w (OfSaid 3 w) := by
 obtain ⟨W1, hW1, hB, hz, hB1⟩ : ∃ W1, w.alloc (.cells #[.slice none 0 0, .int .i64 0] 85) = W1 ∧ Below w.heap.size w W1 ∧ w.heap.size + 1 = W1.heap.size ∧ W1.heap[w.heap.size]? = some (.cells #[.slice none 0 0, .int .i64 0] 85) :=
  ⟨_, rfl, (Below.refl _ _).alloc (Nat.le_refl _) _, by simp, heap_new _ _ rfl⟩
 have H1 := Lib.hid hB1
 have HB := Lib.hid hB
 clear hB hB1
 go_enter Tryz.func45, Tryz.ntmps45
 go_wp2_with (go_at_call 75; refine (tagTab_ok _).mono ?_; rintro e w2 ⟨⟨B1, B2, B3, B4, B5, B6, B7, B8, B9, B10, B11, B12, B13, B14, B15, B16, rfl⟩, hb2⟩; have hB2 := heap_below hb2 H1.out; obtain ⟨q1, g1⟩ := blk hB2; have hix : ∀ X, Sem.run Tryz.prog (Instr.index 115 (.agg (tagV B1 B2 B3 B4 B5 B6 B7 B8 B9 B10 B11 B12 B13 B14 B15 B16)) (.int .i64 2)) X = .ok (.agg #[.slice (some ⟨B2, 0, none⟩) 1 1, .int .i64 3]) X := fun X => by kernel_rfl)
 refine bodyPost_ret (results_tagrow rfl _ _ w.heap.size (.slice (some ⟨B2, 0, none⟩) 1 1) (.int .i64 3) rfl (by simp [heap_set, putIn, hB2])) rfl ?_
 refine ⟨⟨_, rfl⟩, ?_⟩
 exact (((HB.out.trans (hb2.mono (by omega))).setCell (Nat.le_refl _) _).setCell (Nat.le_refl _) _)
theorem tagsOf_3 (w : World) : Calls Tryz.prog 45 #[.int .i64 3] w (OfSaid 3 w) := by
 obtain ⟨W1, hW1, hB, hz, hB1⟩ : ∃ W1, w.alloc (.cells #[.slice none 0 0, .int .i64 0] 85) = W1 ∧ Below w.heap.size w W1 ∧ w.heap.size + 1 = W1.heap.size ∧ W1.heap[w.heap.size]? = some (.cells #[.slice none 0 0, .int .i64 0] 85) :=
  ⟨_, rfl, (Below.refl _ _).alloc (Nat.le_refl _) _, by simp, heap_new _ _ rfl⟩
 have H1 := Lib.hid hB1
 have HB := Lib.hid hB
 clear hB hB1
 go_enter Tryz.func45, Tryz.ntmps45
 go_wp2_with (go_at_call 75; refine (tagTab_ok _).mono ?_; rintro e w2 ⟨⟨B1, B2, B3, B4, B5, B6, B7, B8, B9, B10, B11, B12, B13, B14, B15, B16, rfl⟩, hb2⟩; have hB2 := heap_below hb2 H1.out; obtain ⟨q1, g1⟩ := blk hB2; have hix : ∀ X, Sem.run Tryz.prog (Instr.index 115 (.agg (tagV B1 B2 B3 B4 B5 B6 B7 B8 B9 B10 B11 B12 B13 B14 B15 B16)) (.int .i64 3)) X = .ok (.agg #[.slice (some ⟨B3, 0, none⟩) 1 1, .int .i64 3]) X := fun X => by kernel_rfl)
 refine bodyPost_ret (results_tagrow rfl _ _ w.heap.size (.slice (some ⟨B3, 0, none⟩) 1 1) (.int .i64 3) rfl (by simp [heap_set, putIn, hB2])) rfl ?_
 refine ⟨⟨_, rfl⟩, ?_⟩
 exact (((HB.out.trans (hb2.mono (by omega))).setCell (Nat.le_refl _) _).setCell (Nat.le_refl _) _)
theorem tagsOf_4 (w : World) : Calls Tryz.prog 45 #[.int .i64 4] w (OfSaid 3 w) := by
 obtain ⟨W1, hW1, hB, hz, hB1⟩ : ∃ W1, w.alloc (.cells #[.slice none 0 0, .int .i64 0] 85) = W1 ∧ Below w.heap.size w W1 ∧ w.heap.size + 1 = W1.heap.size ∧ W1.heap[w.heap.size]? = some (.cells #[.slice none 0 0, .int .i64 0] 85) :=
  ⟨_, rfl, (Below.refl _ _).alloc (Nat.le_refl _) _, by simp, heap_new _ _ rfl⟩
 have H1 := Lib.hid hB1
 have HB := Lib.hid hB
 clear hB hB1
 go_enter Tryz.func45, Tryz.ntmps45
 go_wp2_with (go_at_call 75; refine (tagTab_ok _).mono ?_; rintro e w2 ⟨⟨B1, B2, B3, B4, B5, B6, B7, B8, B9, B10, B11, B12, B13, B14, B15, B16, rfl⟩, hb2⟩; have hB2 := heap_below hb2 H1.out; obtain ⟨q1, g1⟩ := blk hB2; have hix : ∀ X, Sem.run Tryz.prog (Instr.index 115 (.agg (tagV B1 B2 B3 B4 B5 B6 B7 B8 B9 B10 B11 B12 B13 B14 B15 B16)) (.int .i64 4)) X = .ok (.agg #[.slice (some ⟨B4, 0, none⟩) 1 1, .int .i64 3]) X := fun X => by kernel_rfl)
 refine bodyPost_ret (results_tagrow rfl _ _ w.heap.size (.slice (some ⟨B4, 0, none⟩) 1 1) (.int .i64 3) rfl (by simp [heap_set, putIn, hB2])) rfl ?_
 refine ⟨⟨_, rfl⟩, ?_⟩
 exact (((HB.out.trans (hb2.mono (by omega))).setCell (Nat.le_refl _) _).setCell (Nat.le_refl _) _)
theorem tagsOf_5 (w : World) : Calls Tryz.prog 45 #[.int .i64 5] w (OfSaid 3 w) := by
 obtain ⟨W1, hW1, hB, hz, hB1⟩ : ∃ W1, w.alloc (.cells #[.slice none 0 0, .int .i64 0] 85) = W1 ∧ Below w.heap.size w W1 ∧ w.heap.size + 1 = W1.heap.size ∧ W1.heap[w.heap.size]? = some (.cells #[.slice none 0 0, .int .i64 0] 85) :=
  ⟨_, rfl, (Below.refl _ _).alloc (Nat.le_refl _) _, by simp, heap_new _ _ rfl⟩
 have H1 := Lib.hid hB1
 have HB := Lib.hid hB
 clear hB hB1
 go_enter Tryz.func45, Tryz.ntmps45
 go_wp2_with (go_at_call 75; refine (tagTab_ok _).mono ?_; rintro e w2 ⟨⟨B1, B2, B3, B4, B5, B6, B7, B8, B9, B10, B11, B12, B13, B14, B15, B16, rfl⟩, hb2⟩; have hB2 := heap_below hb2 H1.out; obtain ⟨q1, g1⟩ := blk hB2; have hix : ∀ X, Sem.run Tryz.prog (Instr.index 115 (.agg (tagV B1 B2 B3 B4 B5 B6 B7 B8 B9 B10 B11 B12 B13 B14 B15 B16)) (.int .i64 5)) X = .ok (.agg #[.slice (some ⟨B5, 0, none⟩) 1 1, .int .i64 3]) X := fun X => by kernel_rfl)
 refine bodyPost_ret (results_tagrow rfl _ _ w.heap.size (.slice (some ⟨B5, 0, none⟩) 1 1) (.int .i64 3) rfl (by simp [heap_set, putIn, hB2])) rfl ?_
 refine ⟨⟨_, rfl⟩, ?_⟩
 exact (((HB.out.trans (hb2.mono (by omega))).setCell (Nat.le_refl _) _).setCell (Nat.le_refl _) _)
theorem tagsOf_6 (w : World) : Calls Tryz.prog 45 #[.int .i64 6] w (OfSaid 2 w) := by
 obtain ⟨W1, hW1, hB, hz, hB1⟩ : ∃ W1, w.alloc (.cells #[.slice none 0 0, .int .i64 0] 85) = W1 ∧ Below w.heap.size w W1 ∧ w.heap.size + 1 = W1.heap.size ∧ W1.heap[w.heap.size]? = some (.cells #[.slice none 0 0, .int .i64 0] 85) :=
  ⟨_, rfl, (Below.refl _ _).alloc (Nat.le_refl _) _, by simp, heap_new _ _ rfl⟩
 have H1 := Lib.hid hB1
 have HB := Lib.hid hB
 clear hB hB1
 go_enter Tryz.func45, Tryz.ntmps45
 go_wp2_with (go_at_call 75; refine (tagTab_ok _).mono ?_; rintro e w2 ⟨⟨B1, B2, B3, B4, B5, B6, B7, B8, B9, B10, B11, B12, B13, B14, B15, B16, rfl⟩, hb2⟩; have hB2 := heap_below hb2 H1.out; obtain ⟨q1, g1⟩ := blk hB2; have hix : ∀ X, Sem.run Tryz.prog (Instr.index 115 (.agg (tagV B1 B2 B3 B4 B5 B6 B7 B8 B9 B10 B11 B12 B13 B14 B15 B16)) (.int .i64 6)) X = .ok (.agg #[.slice (some ⟨B6, 0, none⟩) 1 1, .int .i64 2]) X := fun X => by kernel_rfl)
 refine bodyPost_ret (results_tagrow rfl _ _ w.heap.size (.slice (some ⟨B6, 0, none⟩) 1 1) (.int .i64 2) rfl (by simp [heap_set, putIn, hB2])) rfl ?_
 refine ⟨⟨_, rfl⟩, ?_⟩
 exact (((HB.out.trans (hb2.mono (by omega))).setCell (Nat.le_refl _) _).setCell (Nat.le_refl _) _)
theorem tagsOf_7 (w : World) : Calls Tryz.prog 45 #[.int .i64 7] w (OfSaid 2 w) := by
 obtain ⟨W1, hW1, hB, hz, hB1⟩ : ∃ W1, w.alloc (.cells #[.slice none 0 0, .int .i64 0] 85) = W1 ∧ Below w.heap.size w W1 ∧ w.heap.size + 1 = W1.heap.size ∧ W1.heap[w.heap.size]? = some (.cells #[.slice none 0 0, .int .i64 0] 85) :=
  ⟨_, rfl, (Below.refl _ _).alloc (Nat.le_refl _) _, by simp, heap_new _ _ rfl⟩
 have H1 := Lib.hid hB1
 have HB := Lib.hid hB
 clear hB hB1
 go_enter Tryz.func45, Tryz.ntmps45
 go_wp2_with (go_at_call 75; refine (tagTab_ok _).mono ?_; rintro e w2 ⟨⟨B1, B2, B3, B4, B5, B6, B7, B8, B9, B10, B11, B12, B13, B14, B15, B16, rfl⟩, hb2⟩; have hB2 := heap_below hb2 H1.out; obtain ⟨q1, g1⟩ := blk hB2; have hix : ∀ X, Sem.run Tryz.prog (Instr.index 115 (.agg (tagV B1 B2 B3 B4 B5 B6 B7 B8 B9 B10 B11 B12 B13 B14 B15 B16)) (.int .i64 7)) X = .ok (.agg #[.slice (some ⟨B7, 0, none⟩) 1 1, .int .i64 2]) X := fun X => by kernel_rfl)
 refine bodyPost_ret (results_tagrow rfl _ _ w.heap.size (.slice (some ⟨B7, 0, none⟩) 1 1) (.int .i64 2) rfl (by simp [heap_set, putIn, hB2])) rfl ?_
 refine ⟨⟨_, rfl⟩, ?_⟩
 exact (((HB.out.trans (hb2.mono (by omega))).setCell (Nat.le_refl _) _).setCell (Nat.le_refl _) _)
theorem tagsOf_8 (w : World) : Calls Tryz.prog 45 #[.int .i64 8] w (OfSaid 2 w) := by
 obtain ⟨W1, hW1, hB, hz, hB1⟩ : ∃ W1, w.alloc (.cells #[.slice none 0 0, .int .i64 0] 85) = W1 ∧ Below w.heap.size w W1 ∧ w.heap.size + 1 = W1.heap.size ∧ W1.heap[w.heap.size]? = some (.cells #[.slice none 0 0, .int .i64 0] 85) :=
  ⟨_, rfl, (Below.refl _ _).alloc (Nat.le_refl _) _, by simp, heap_new _ _ rfl⟩
 have H1 := Lib.hid hB1
 have HB := Lib.hid hB
 clear hB hB1
 go_enter Tryz.func45, Tryz.ntmps45
 go_wp2_with (go_at_call 75; refine (tagTab_ok _).mono ?_; rintro e w2 ⟨⟨B1, B2, B3, B4, B5, B6, B7, B8, B9, B10, B11, B12, B13, B14, B15, B16, rfl⟩, hb2⟩; have hB2 := heap_below hb2 H1.out; obtain ⟨q1, g1⟩ := blk hB2; have hix : ∀ X, Sem.run Tryz.prog (Instr.index 115 (.agg (tagV B1 B2 B3 B4 B5 B6 B7 B8 B9 B10 B11 B12 B13 B14 B15 B16)) (.int .i64 8)) X = .ok (.agg #[.slice (some ⟨B8, 0, none⟩) 1 1, .int .i64 2]) X := fun X => by kernel_rfl)
 refine bodyPost_ret (results_tagrow rfl _ _ w.heap.size (.slice (some ⟨B8, 0, none⟩) 1 1) (.int .i64 2) rfl (by simp [heap_set, putIn, hB2])) rfl ?_
 refine ⟨⟨_, rfl⟩, ?_⟩
 exact (((HB.out.trans (hb2.mono (by omega))).setCell (Nat.le_refl _) _).setCell (Nat.le_refl _) _)
theorem tagsOf_9 (w : World) : Calls Tryz.prog 45 #[.int .i64 9] w (OfSaid 3 w) := by
 obtain ⟨W1, hW1, hB, hz, hB1⟩ : ∃ W1, w.alloc (.cells #[.slice none 0 0, .int .i64 0] 85) = W1 ∧ Below w.heap.size w W1 ∧ w.heap.size + 1 = W1.heap.size ∧ W1.heap[w.heap.size]? = some (.cells #[.slice none 0 0, .int .i64 0] 85) :=
  ⟨_, rfl, (Below.refl _ _).alloc (Nat.le_refl _) _, by simp, heap_new _ _ rfl⟩
 have H1 := Lib.hid hB1
 have HB := Lib.hid hB
 clear hB hB1
 go_enter Tryz.func45, Tryz.ntmps45
 go_wp2_with (go_at_call 75; refine (tagTab_ok _).mono ?_; rintro e w2 ⟨⟨B1, B2, B3, B4, B5, B6, B7, B8, B9, B10, B11, B12, B13, B14, B15, B16, rfl⟩, hb2⟩; have hB2 := heap_below hb2 H1.out; obtain ⟨q1, g1⟩ := blk hB2; have hix : ∀ X, Sem.run Tryz.prog (Instr.index 115 (.agg (tagV B1 B2 B3 B4 B5 B6 B7 B8 B9 B10 B11 B12 B13 B14 B15 B16)) (.int .i64 9)) X = .ok (.agg #[.slice (some ⟨B9, 0, none⟩) 1 1, .int .i64 3]) X := fun X => by kernel_rfl)
 refine bodyPost_ret (results_tagrow rfl _ _ w.heap.size (.slice (some ⟨B9, 0, none⟩) 1 1) (.int .i64 3) rfl (by simp [heap_set, putIn, hB2])) rfl ?_
 refine ⟨⟨_, rfl⟩, ?_⟩
 exact (((HB.out.trans (hb2.mono (by omega))).setCell (Nat.le_refl _) _).setCell (Nat.le_refl _) _)
theorem tagsOf_10 (w : World) : Calls Tryz.prog 45 #[.int .i64 10] w (OfSaid 4 w) := by
 obtain ⟨W1, hW1, hB, hz, hB1⟩ : ∃ W1, w.alloc (.cells #[.slice none 0 0, .int .i64 0] 85) = W1 ∧ Below w.heap.size w W1 ∧ w.heap.size + 1 = W1.heap.size ∧ W1.heap[w.heap.size]? = some (.cells #[.slice none 0 0, .int .i64 0] 85) :=
  ⟨_, rfl, (Below.refl _ _).alloc (Nat.le_refl _) _, by simp, heap_new _ _ rfl⟩
 have H1 := Lib.hid hB1
 have HB := Lib.hid hB
 clear hB hB1
 go_enter Tryz.func45, Tryz.ntmps45
 go_wp2_with (go_at_call 75; refine (tagTab_ok _).mono ?_; rintro e w2 ⟨⟨B1, B2, B3, B4, B5, B6, B7, B8, B9, B10, B11, B12, B13, B14, B15, B16, rfl⟩, hb2⟩; have hB2 := heap_below hb2 H1.out; obtain ⟨q1, g1⟩ := blk hB2; have hix : ∀ X, Sem.run Tryz.prog (Instr.index 115 (.agg (tagV B1 B2 B3 B4 B5 B6 B7 B8 B9 B10 B11 B12 B13 B14 B15 B16)) (.int .i64 10)) X = .ok (.agg #[.slice (some ⟨B10, 0, none⟩) 1 1, .int .i64 4]) X := fun X => by kernel_rfl)
 refine bodyPost_ret (results_tagrow rfl _ _ w.heap.size (.slice (some ⟨B10, 0, none⟩) 1 1) (.int .i64 4) rfl (by simp [heap_set, putIn, hB2])) rfl ?_
 refine ⟨⟨_, rfl⟩, ?_⟩
 exact (((HB.out.trans (hb2.mono (by omega))).setCell (Nat.le_refl _) _).setCell (Nat.le_refl _) _)
theorem tagsOf_11 (w : World) : Calls Tryz.prog 45 #[.int .i64 11] w (OfSaid 4 w) := by
 obtain ⟨W1, hW1, hB, hz, hB1⟩ : ∃ W1, w.alloc (.cells #[.slice none 0 0, .int .i64 0] 85) = W1 ∧ Below w.heap.size w W1 ∧ w.heap.size + 1 = W1.heap.size ∧ W1.heap[w.heap.size]? = some (.cells #[.slice none 0 0, .int .i64 0] 85) :=
  ⟨_, rfl, (Below.refl _ _).alloc (Nat.le_refl _) _, by simp, heap_new _ _ rfl⟩
 have H1 := Lib.hid hB1
 have HB := Lib.hid hB
 clear hB hB1
 go_enter Tryz.func45, Tryz.ntmps45
 go_wp2_with (go_at_call 75; refine (tagTab_ok _).mono ?_; rintro e w2 ⟨⟨B1, B2, B3, B4, B5, B6, B7, B8, B9, B10, B11, B12, B13, B14, B15, B16, rfl⟩, hb2⟩; have hB2 := heap_below hb2 H1.out; obtain ⟨q1, g1⟩ := blk hB2; have hix : ∀ X, Sem.run Tryz.prog (Instr.index 115 (.agg (tagV B1 B2 B3 B4 B5 B6 B7 B8 B9 B10 B11 B12 B13 B14 B15 B16)) (.int .i64 11)) X = .ok (.agg #[.slice (some ⟨B11, 0, none⟩) 2 2, .int .i64 4]) X := fun X => by kernel_rfl)
 refine bodyPost_ret (results_tagrow rfl _ _ w.heap.size (.slice (some ⟨B11, 0, none⟩) 2 2) (.int .i64 4) rfl (by simp [heap_set, putIn, hB2])) rfl ?_
 refine ⟨⟨_, rfl⟩, ?_⟩
 exact (((HB.out.trans (hb2.mono (by omega))).setCell (Nat.le_refl _) _).setCell (Nat.le_refl _) _)
theorem tagsOf_12 (w : World) : Calls Tryz.prog 45 #[.int .i64 12] w (OfSaid 4 w) := by
 obtain ⟨W1, hW1, hB, hz, hB1⟩ : ∃ W1, w.alloc (.cells #[.slice none 0 0, .int .i64 0] 85) = W1 ∧ Below w.heap.size w W1 ∧ w.heap.size + 1 = W1.heap.size ∧ W1.heap[w.heap.size]? = some (.cells #[.slice none 0 0, .int .i64 0] 85) :=
  ⟨_, rfl, (Below.refl _ _).alloc (Nat.le_refl _) _, by simp, heap_new _ _ rfl⟩
 have H1 := Lib.hid hB1
 have HB := Lib.hid hB
 clear hB hB1
 go_enter Tryz.func45, Tryz.ntmps45
 go_wp2_with (go_at_call 75; refine (tagTab_ok _).mono ?_; rintro e w2 ⟨⟨B1, B2, B3, B4, B5, B6, B7, B8, B9, B10, B11, B12, B13, B14, B15, B16, rfl⟩, hb2⟩; have hB2 := heap_below hb2 H1.out; obtain ⟨q1, g1⟩ := blk hB2; have hix : ∀ X, Sem.run Tryz.prog (Instr.index 115 (.agg (tagV B1 B2 B3 B4 B5 B6 B7 B8 B9 B10 B11 B12 B13 B14 B15 B16)) (.int .i64 12)) X = .ok (.agg #[.slice (some ⟨B12, 0, none⟩) 2 2, .int .i64 4]) X := fun X => by kernel_rfl)
 refine bodyPost_ret (results_tagrow rfl _ _ w.heap.size (.slice (some ⟨B12, 0, none⟩) 2 2) (.int .i64 4) rfl (by simp [heap_set, putIn, hB2])) rfl ?_
 refine ⟨⟨_, rfl⟩, ?_⟩
 exact (((HB.out.trans (hb2.mono (by omega))).setCell (Nat.le_refl _) _).setCell (Nat.le_refl _) _)
theorem tagsOf_13 (w : World) : Calls Tryz.prog 45 #[.int .i64 13] w (OfSaid 4 w) := by
 obtain ⟨W1, hW1, hB, hz, hB1⟩ : ∃ W1, w.alloc (.cells #[.slice none 0 0, .int .i64 0] 85) = W1 ∧ Below w.heap.size w W1 ∧ w.heap.size + 1 = W1.heap.size ∧ W1.heap[w.heap.size]? = some (.cells #[.slice none 0 0, .int .i64 0] 85) :=
  ⟨_, rfl, (Below.refl _ _).alloc (Nat.le_refl _) _, by simp, heap_new _ _ rfl⟩
 have H1 := Lib.hid hB1
 have HB := Lib.hid hB
 clear hB hB1
 go_enter Tryz.func45, Tryz.ntmps45
 go_wp2_with (go_at_call 75; refine (tagTab_ok _).mono ?_; rintro e w2 ⟨⟨B1, B2, B3, B4, B5, B6, B7, B8, B9, B10, B11, B12, B13, B14, B15, B16, rfl⟩, hb2⟩; have hB2 := heap_below hb2 H1.out; obtain ⟨q1, g1⟩ := blk hB2; have hix : ∀ X, Sem.run Tryz.prog (Instr.index 115 (.agg (tagV B1 B2 B3 B4 B5 B6 B7 B8 B9 B10 B11 B12 B13 B14 B15 B16)) (.int .i64 13)) X = .ok (.agg #[.slice (some ⟨B13, 0, none⟩) 2 2, .int .i64 4]) X := fun X => by kernel_rfl)
 refine bodyPost_ret (results_tagrow rfl _ _ w.heap.size (.slice (some ⟨B13, 0, none⟩) 2 2) (.int .i64 4) rfl (by simp [heap_set, putIn, hB2])) rfl ?_
 refine ⟨⟨_, rfl⟩, ?_⟩
 exact (((HB.out.trans (hb2.mono (by omega))).setCell (Nat.le_refl _) _).setCell (Nat.le_refl _) _)
theorem tagsOf_14 (w : World) : Calls Tryz.prog 45 #[.int .i64 14] w (OfSaid 4 w) := by
 obtain ⟨W1, hW1, hB, hz, hB1⟩ : ∃ W1, w.alloc (.cells #[.slice none 0 0, .int .i64 0] 85) = W1 ∧ Below w.heap.size w W1 ∧ w.heap.size + 1 = W1.heap.size ∧ W1.heap[w.heap.size]? = some (.cells #[.slice none 0 0, .int .i64 0] 85) :=
  ⟨_, rfl, (Below.refl _ _).alloc (Nat.le_refl _) _, by simp, heap_new _ _ rfl⟩
 have H1 := Lib.hid hB1
 have HB := Lib.hid hB
 clear hB hB1
 go_enter Tryz.func45, Tryz.ntmps45
 go_wp2_with (go_at_call 75; refine (tagTab_ok _).mono ?_; rintro e w2 ⟨⟨B1, B2, B3, B4, B5, B6, B7, B8, B9, B10, B11, B12, B13, B14, B15, B16, rfl⟩, hb2⟩; have hB2 := heap_below hb2 H1.out; obtain ⟨q1, g1⟩ := blk hB2; have hix : ∀ X, Sem.run Tryz.prog (Instr.index 115 (.agg (tagV B1 B2 B3 B4 B5 B6 B7 B8 B9 B10 B11 B12 B13 B14 B15 B16)) (.int .i64 14)) X = .ok (.agg #[.slice (some ⟨B14, 0, none⟩) 3 3, .int .i64 4]) X := fun X => by kernel_rfl)
 refine bodyPost_ret (results_tagrow rfl _ _ w.heap.size (.slice (some ⟨B14, 0, none⟩) 3 3) (.int .i64 4) rfl (by simp [heap_set, putIn, hB2])) rfl ?_
 refine ⟨⟨_, rfl⟩, ?_⟩
 exact (((HB.out.trans (hb2.mono (by omega))).setCell (Nat.le_refl _) _).setCell (Nat.le_refl _) _)
theorem tagsOf_15 (w : World) : Calls Tryz.prog 45 #[.int .i64 15] w (OfSaid 4 w) := by
 obtain ⟨W1, hW1, hB, hz, hB1⟩ : ∃ W1, w.alloc (.cells #[.slice none 0 0, .int .i64 0] 85) = W1 ∧ Below w.heap.size w W1 ∧ w.heap.size + 1 = W1.heap.size ∧ W1.heap[w.heap.size]? = some (.cells #[.slice none 0 0, .int .i64 0] 85) :=
  ⟨_, rfl, (Below.refl _ _).alloc (Nat.le_refl _) _, by simp, heap_new _ _ rfl⟩
 have H1 := Lib.hid hB1
 have HB := Lib.hid hB
 clear hB hB1
 go_enter Tryz.func45, Tryz.ntmps45
 go_wp2_with (go_at_call 75; refine (tagTab_ok _).mono ?_; rintro e w2 ⟨⟨B1, B2, B3, B4, B5, B6, B7, B8, B9, B10, B11, B12, B13, B14, B15, B16, rfl⟩, hb2⟩; have hB2 := heap_below hb2 H1.out; obtain ⟨q1, g1⟩ := blk hB2; have hix : ∀ X, Sem.run Tryz.prog (Instr.index 115 (.agg (tagV B1 B2 B3 B4 B5 B6 B7 B8 B9 B10 B11 B12 B13 B14 B15 B16)) (.int .i64 15)) X = .ok (.agg #[.slice (some ⟨B15, 0, none⟩) 1 1, .int .i64 4]) X := fun X => by kernel_rfl)
 refine bodyPost_ret (results_tagrow rfl _ _ w.heap.size (.slice (some ⟨B15, 0, none⟩) 1 1) (.int .i64 4) rfl (by simp [heap_set, putIn, hB2])) rfl ?_
 refine ⟨⟨_, rfl⟩, ?_⟩
 exact (((HB.out.trans (hb2.mono (by omega))).setCell (Nat.le_refl _) _).setCell (Nat.le_refl _) _)
theorem tagsOf_16 (w : World) : Calls Tryz.prog 45 #[.int .i64 16] w (OfSaid 5 w) := by
 obtain ⟨W1, hW1, hB, hz, hB1⟩ : ∃ W1, w.alloc (.cells #[.slice none 0 0, .int .i64 0] 85) = W1 ∧ Below w.heap.size w W1 ∧ w.heap.size + 1 = W1.heap.size ∧ W1.heap[w.heap.size]? = some (.cells #[.slice none 0 0, .int .i64 0] 85) :=
  ⟨_, rfl, (Below.refl _ _).alloc (Nat.le_refl _) _, by simp, heap_new _ _ rfl⟩
 have H1 := Lib.hid hB1
 have HB := Lib.hid hB
 clear hB hB1
 go_enter Tryz.func45, Tryz.ntmps45
 go_wp2_with (go_at_call 75; refine (tagTab_ok _).mono ?_; rintro e w2 ⟨⟨B1, B2, B3, B4, B5, B6, B7, B8, B9, B10, B11, B12, B13, B14, B15, B16, rfl⟩, hb2⟩; have hB2 := heap_below hb2 H1.out; obtain ⟨q1, g1⟩ := blk hB2; have hix : ∀ X, Sem.run Tryz.prog (Instr.index 115 (.agg (tagV B1 B2 B3 B4 B5 B6 B7 B8 B9 B10 B11 B12 B13 B14 B15 B16)) (.int .i64 16)) X = .ok (.agg #[.slice (some ⟨B16, 0, none⟩) 1 1, .int .i64 5]) X := fun X => by kernel_rfl)
 refine bodyPost_ret (results_tagrow rfl _ _ w.heap.size (.slice (some ⟨B16, 0, none⟩) 1 1) (.int .i64 5) rfl (by simp [heap_set, putIn, hB2])) rfl ?_
 refine ⟨⟨_, rfl⟩, ?_⟩
 exact (((HB.out.trans (hb2.mono (by omega))).setCell (Nat.le_refl _) _).setCell (Nat.le_refl _) _)
theorem tagsOf_out (t : Int) (ht : t < 0 ∨ 16 < t) (w : World) : Calls Tryz.prog 45 #[.int .i64 t] w (OfSaid 0 w) := by
 obtain ⟨W1, hW1, hB, hz, hB1⟩ : ∃ W1, w.alloc (.cells #[.slice none 0 0, .int .i64 0] 85) = W1 ∧ Below w.heap.size w W1 ∧ w.heap.size + 1 = W1.heap.size ∧ W1.heap[w.heap.size]? = some (.cells #[.slice none 0 0, .int .i64 0] 85) :=
  ⟨_, rfl, (Below.refl _ _).alloc (Nat.le_refl _) _, by simp, heap_new _ _ rfl⟩
 have H1 := Lib.hid hB1
 have HB := Lib.hid hB
 obtain ⟨p1, f1⟩ := blk hB1
 clear hB
 rcases ht with ht | ht
 ·have hd1 : decide (t < 0) = true := decide_eq_true ht
  go_enter Tryz.func45, Tryz.ntmps45
  go_wp2_with fail
  refine bodyPost_ret (results_tagrow rfl _ _ w.heap.size (.slice none 0 0) (.int .i64 0) rfl (by simp [heap_set, putIn, hB1])) rfl ?_
  refine ⟨⟨_, rfl⟩, ?_⟩
  exact ((HB.out.setCell (Nat.le_refl _) _).setCell (Nat.le_refl _) _)
 ·have hd1 : decide (t < 0) = false := decide_eq_false (by omega)
  have hd2 : decide (16 < t) = true := decide_eq_true ht
  go_enter Tryz.func45, Tryz.ntmps45
  go_wp2_with fail
  refine bodyPost_ret (results_tagrow rfl _ _ w.heap.size (.slice none 0 0) (.int .i64 0) rfl (by simp [heap_set, putIn, hB1])) rfl ?_
  refine ⟨⟨_, rfl⟩, ?_⟩
  exact ((HB.out.setCell (Nat.le_refl _) _).setCell (Nat.le_refl _) _)
theorem tagsOf_any (t : Int) (w : World) : Calls Tryz.prog 45 #[.int .i64 t] w (OfSaid (tagC t) w) := by
 by_cases ht : t < 0 ∨ 16 < t
 ·rw [show tagC t = 0 by unfold tagC; rw [if_pos ht]]
  exact tagsOf_out t ht w
 ·have h : t = 0 ∨ t = 1 ∨ t = 2 ∨ t = 3 ∨ t = 4 ∨ t = 5 ∨ t = 6 ∨ t = 7 ∨ t = 8 ∨ t = 9 ∨ t = 10 ∨ t = 11 ∨ t = 12 ∨ t = 13 ∨ t = 14 ∨ t = 15 ∨ t = 16 := by omega
  rcases h with rfl | rfl | rfl | rfl | rfl | rfl | rfl | rfl | rfl | rfl | rfl | rfl | rfl | rfl | rfl | rfl | rfl
  ·exact tagsOf_0 w
  ·exact tagsOf_1 w
  ·exact tagsOf_2 w
  ·exact tagsOf_3 w
  ·exact tagsOf_4 w
  ·exact tagsOf_5 w
  ·exact tagsOf_6 w
  ·exact tagsOf_7 w
  ·exact tagsOf_8 w
  ·exact tagsOf_9 w
  ·exact tagsOf_10 w
  ·exact tagsOf_11 w
  ·exact tagsOf_12 w
  ·exact tagsOf_13 w
  ·exact tagsOf_14 w
  ·exact tagsOf_15 w
  ·exact tagsOf_16 w
theorem tagsClass_any (t : Int) (w : World) : Calls Tryz.prog 17 #[.int .i64 t] w fun e w' => e = .returned (.int .i64 (tagC t)) ∧ Below w.heap.size w w' := by
 have HC := Lib.hid (tagsOf_any t w)
 generalize tagC t = c at *
 go_enter Tryz.func17, Tryz.ntmps17
 go_wp2_with (go_at_call 45; refine HC.out.mono ?_; rintro e w1 ⟨⟨s, rfl⟩, hb1⟩; have hfld : ∀ X, Sem.run Tryz.prog (Instr.field 85 (.agg #[s, .int .i64 c]) 1) X = .ok (.int .i64 c) X := fun X => by kernel_rfl)
 go_ret
 exact ⟨by first | rfl | simp, hb1⟩
end Go.Proofs.YtjpgffihafknlaaGreatDoor
namespace Go.Proofs.Qw
open Go.RowKit
def LinOk (l : Lin) : Prop := 0 ≤ l.quote ∧ l.quote ≤ 6 ∧ l.lists.length ≤ 6 ∧ 0 ≤ l.kind ∧ l.kind ≤ 3 ∧ (l.lists = [] ∨ l.kind = 0) ∧ (∀ k ∈ l.lists, k = 0 ∨ k = 1) ∧ ∀ c ∈ l.cells, CelOk c
theorem put_first (a : Aro) (s : VSt) (c : Cel) (ho : s.opn = false) (hs : s.spot = 0) : putC a s c = ⟨s.lines ++ [{ frameA a with cells := [c] }], s.cells + 1, true, 0, s.pos⟩ := by
 unfold putC putV addV
 rw [if_neg (by simp [ho])]
 unfold beginV
 simp only [hs, lastD]
 simp [frameA]
theorem put_next (a : Aro) (d : List Lin) (l : Lin) (n : Nat) (sp : Int) (ps : Ps) (c : Cel) : putC a ⟨d ++ [l], n, true, sp, ps⟩ c = ⟨d ++ [{ l with cells := l.cells ++ [c] }], n + 1, true, sp, ps⟩ := by
 unfold putC putV addV
 rw [if_pos rfl]
 simp [lastD]
theorem put_rest (a : Aro) (d : List Lin) (ps : Ps) : ∀ (cs : List Cel) (l : Lin) (n : Nat), cs.foldl (putC a) ⟨d ++ [l], n, true, 0, ps⟩ = ⟨d ++ [{ l with cells := l.cells ++ cs }], n + cs.length, true, 0, ps⟩
 | [], l, n => by simp
 | c :: cs, l, n => by
  rw [List.foldl_cons, put_next, put_rest a d ps cs]
  simp only [List.append_assoc, List.singleton_append, List.length_cons]
  congr 1
  omega
theorem put_all (a : Aro) (s : VSt) (ho : s.opn = false) (hs : s.spot = 0) (cs : List Cel) (hne : cs ≠ []) : cs.foldl (putC a) s = ⟨s.lines ++ [{ frameA a with cells := cs }], s.cells + cs.length, true, 0, s.pos⟩ := by
 cases cs with
 | nil => exact absurd rfl hne
 | cons c cs =>
  rw [List.foldl_cons, put_first a s c ho hs, put_rest]
  simp only [List.singleton_append, List.length_cons]
  congr 1
  omega
def aroL (lv : Nat) (l : Lin) : Aro := ⟨min lv l.quote.toNat, l.lists.take (lv - l.quote.toNat), 0, 0, []⟩
theorem aroL_full {lv : Nat} {l : Lin} (hl : LinOk l) (h : stepL lv l = 0) : aroL lv l = ⟨l.quote, l.lists, 0, 0, []⟩ := by
 obtain ⟨h1, h2, h3, _⟩ := hl
 have hlen : (wayL l).length ≤ lv := by
  have := stepL_none h
  rw [List.drop_eq_nil_iff] at this
  exact this
 unfold wayL at hlen
 rw [List.length_append, List.length_replicate, List.length_map] at hlen
 unfold aroL
 rw [List.take_of_length_le (by omega)]
 congr 1
 omega
theorem way_quote {lv : Nat} {l : Lin} (hl : LinOk l) (h : lv < l.quote.toNat) : stepL lv l = 6 := by
 obtain ⟨h1, h2, _⟩ := hl
 unfold stepL wayL
 rw [List.getD_eq_getElem?_getD, List.getElem?_append_left (by rw [List.length_replicate]; omega), List.getElem?_replicate, if_pos (by omega)]
 rfl
theorem way_list {lv : Nat} {l : Lin} (hl : LinOk l) (h : l.quote.toNat ≤ lv) (h2 : stepL lv l ≠ 0) : ∃ k, l.lists[lv - l.quote.toNat]? = some k ∧ stepL lv l = k + 7 := by
 obtain ⟨h1, h3, h4, _, _, _, h5, _⟩ := hl
 have e : stepL lv l = ((l.lists[lv - l.quote.toNat]?).map (fun k => if k = 0 then (7 : Int) else 8)).getD 0 := by
  unfold stepL wayL
  have hq : min l.quote.toNat 6 = l.quote.toNat := by omega
  rw [List.getD_eq_getElem?_getD, List.getElem?_append_right (by rw [List.length_replicate]; omega), List.length_replicate, hq, List.getElem?_map]
 rw [e] at h2 ⊢
 cases hk : l.lists[lv - l.quote.toNat]? with
 | none => rw [hk] at h2; exact absurd rfl h2
 | some k =>
  refine ⟨k, rfl, ?_⟩
  rcases h5 k (List.mem_of_getElem? hk) with rfl | rfl <;> rfl
theorem aro_step {lv : Nat} {l : Lin} (hl : LinOk l) (h : stepL lv l ≠ 0) : boxA (stepL lv l) (aroL lv l) = aroL (lv + 1) l ∧ tagC (stepL lv l) = 2 := by
 by_cases hq : lv < l.quote.toNat
 ·rw [way_quote hl hq]
  refine ⟨?_, by decide⟩
  unfold boxA aroL
  rw [if_pos rfl]
  obtain ⟨h1, h2, _⟩ := hl
  congr 1
  ·show min (min (lv : Int) (l.quote.toNat : Int) + 1) 6 = min ((lv + 1 : Nat) : Int) (l.quote.toNat : Int)
   omega
  ·show l.lists.take (lv - l.quote.toNat) = l.lists.take (lv + 1 - l.quote.toNat)
   rw [show lv - l.quote.toNat = 0 by omega, show lv + 1 - l.quote.toNat = 0 by omega]
 ·obtain ⟨k, hk, hs⟩ := way_list hl (by omega) h
  obtain ⟨h1, h2, h3, _, _, _, h5, _⟩ := hl
  have hk01 := h5 k (List.mem_of_getElem? hk)
  have hlt : lv - l.quote.toNat < l.lists.length := (List.getElem?_eq_some_iff.1 hk).1
  rw [hs]
  refine ⟨?_, by rcases hk01 with rfl | rfl <;> decide⟩
  unfold boxA aroL
  rw [if_neg (by omega), if_pos ⟨by omega, by show (l.lists.take (lv - l.quote.toNat)).length < 6; rw [List.length_take]; omega⟩]
  congr 1
  ·show min (lv : Int) (l.quote.toNat : Int) = min ((lv + 1 : Nat) : Int) (l.quote.toNat : Int)
   omega
  ·show l.lists.take (lv - l.quote.toNat) ++ [k + 7 - 7] = l.lists.take (lv + 1 - l.quote.toNat)
   rw [show lv + 1 - l.quote.toNat = lv - l.quote.toNat + 1 by omega, List.take_add_one, hk, show k + 7 - 7 = k by omega]
   rfl
theorem node_line {t : Int} (h : tagC t = 3) (ats : List Att) (x : List UInt8) (ks : List Nod) (a : Aro) (s : VSt) {s2 : VSt} (hk : kidsN ks { a with kind := headT t } { s with opn := false } = s2) :
  nodeV (.mk t ats x ks) a none s = { (if s2.lines.length = s.lines.length then beginV { a with kind := headT t } s2 else s2) with opn := false } := by
 subst hk
 rw [nodeV]
 simp only [normP, kids_none]
 rw [if_neg (by rw [h]; decide), if_neg (by rw [h]; decide), if_pos h]
 rfl
theorem line_view {l : Lin} (hl : LinOk l) (a : Aro) (ha : a = ⟨l.quote, l.lists, 0, 0, []⟩) (s : VSt) (hs : s.spot = 0) :
  nodeV (lineN (gr rowK) l) a none s = ⟨s.lines ++ [l], s.cells + l.cells.length, false, 0, s.pos⟩ := by
 subst ha
 obtain ⟨h1, h2, h3, h4, h5, h6, h7, h8⟩ := hl
 have ht : tagC (if l.lists ≠ [] then 9 else l.kind + 2) = 3 := by
  split
  ·decide
  ·unfold tagC
   rw [if_neg (by omega), if_neg (by omega), if_neg (by omega), if_pos (by omega)]
 have hf : frameA ⟨l.quote, l.lists, headT (if l.lists ≠ [] then 9 else l.kind + 2), 0, []⟩ = { l with cells := [] } := by
  unfold frameA
  by_cases hc : l.lists = []
  ·rw [if_pos hc, if_neg (fun h => h hc)]
   have : headT (l.kind + 2) = l.kind := by
    unfold headT
    by_cases h0 : l.kind = 0
    ·rw [h0]; decide
    ·rw [if_pos (by omega)]; omega
   rw [this]
  ·rw [if_neg hc, h6.resolve_left hc]
 unfold lineN
 have hv := row_view l.cells ⟨l.quote, l.lists, headT (if l.lists ≠ [] then 9 else l.kind + 2), 0, []⟩ { s with opn := false } h8 ⟨rfl, rfl⟩
 by_cases hc : l.cells = []
 ·rw [hc] at hv ⊢
  rw [node_line ht [] [] _ _ s hv]
  simp only [List.foldl_nil]
  rw [if_pos trivial]
  unfold beginV
  simp only [hs, hf, List.length_nil]
  obtain ⟨q, ls, k, cs⟩ := l
  simp only at hc
  subst hc
  rfl
 ·rw [put_all _ { s with opn := false } rfl hs _ hc] at hv
  rw [node_line ht [] [] _ _ s hv]
  simp only [List.length_append, List.length_singleton]
  rw [if_neg (by omega), hf]
theorem tag_line {t : Int} (h : tagC t = 2) (ats : List Att) (x : List UInt8) (ks : List Nod) (a : Aro) (s : VSt) :
  nodeV (.mk t ats x ks) a none s = { kidsN ks (boxA t a) { s with opn := false } with opn := false } := by
 rw [nodeV]
 simp only [normP]
 rw [if_neg (by rw [h]; decide), if_neg (by rw [h]; decide), if_neg (by rw [h]; decide), if_pos h, kids_none]
 rfl
theorem host_view : ∀ (n lv : Nat) (d : List Lin) (a : Aro) (s : VSt), (∀ l ∈ d, LinOk l ∧ (wayL l).length < lv + n ∧ aroL lv l = a) → s.spot = 0 → s.opn = false →
  kidsN (hostL (lineN (gr rowK)) n lv d) a s = ⟨s.lines ++ d, s.cells + (d.map (·.cells.length)).sum, false, 0, s.pos⟩
 | 0, lv, d, a, s, hd, hs, ho => by
  unfold hostL
  induction d generalizing s with
  | nil =>
   obtain ⟨x1, x2, x3, x4, x5⟩ := s
   simp only at hs ho
   subst hs ho
   simp [kidsN]
  | cons l d ih =>
   obtain ⟨h1, h2, h3⟩ := hd l (by simp)
   have h0 : stepL lv l = 0 := by unfold stepL; rw [List.getD_eq_getElem?_getD, List.getElem?_eq_none (by omega)]; rfl
   rw [List.map_cons]
   show kidsN (d.map _) a (nodeV _ a none s) = _
   rw [line_view h1 a (h3.symm.trans (aroL_full h1 h0)) s hs, ih _ (fun x hx => hd x (by simp [hx])) rfl rfl]
   simp [Nat.add_assoc]
 | n + 1, lv, d, a, s, hd, hs, ho => by
  have key : ∀ (ps : List (List Lin)) (s : VSt), (∀ p ∈ ps, p ≠ [] ∧ (∀ x ∈ p, x ∈ d ∧ stepL lv x = stepL lv (p.headD default)) ∧ (stepL lv (p.headD default) = 0 → p = [p.headD default])) → s.spot = 0 → s.opn = false →
    kidsN (ps.flatMap fun p => if stepL lv (p.headD default) ≠ 0 then [.mk (stepL lv (p.headD default)) [] [] (hostL (lineN (gr rowK)) n (lv + 1) p)] else [lineN (gr rowK) (p.headD default)]) a s =
     ⟨s.lines ++ ps.flatten, s.cells + (ps.flatten.map (·.cells.length)).sum, false, 0, s.pos⟩ := by
   intro ps
   induction ps with
   | nil =>
    intro s _ hs ho
    obtain ⟨x1, x2, x3, x4, x5⟩ := s
    simp only at hs ho
    subst hs ho
    simp [kidsN]
   | cons p ps ih =>
    intro s hp hs ho
    obtain ⟨hne, hx, h0⟩ := hp p (by simp)
    have hh : p.headD default ∈ p := by
     cases p with
     | nil => exact absurd rfl hne
     | cons a l => simp
    obtain ⟨ok, hw, ha⟩ := hd _ (hx _ hh).1
    rw [List.flatMap_cons, kidsN_append]
    have e : kidsN (if stepL lv (p.headD default) ≠ 0 then [.mk (stepL lv (p.headD default)) [] [] (hostL (lineN (gr rowK)) n (lv + 1) p)] else [lineN (gr rowK) (p.headD default)]) a s = ⟨s.lines ++ p, s.cells + (p.map (·.cells.length)).sum, false, 0, s.pos⟩ := by
     by_cases hst : stepL lv (p.headD default) = 0
     ·rw [if_neg (fun h => h hst), kidsN_one, line_view ok a (ha.symm.trans (aroL_full ok hst)) s hs]
      have := h0 hst
      rw [this]
      simp
     ·obtain ⟨hb, ht⟩ := aro_step ok hst
      rw [if_pos hst, kidsN_one, tag_line ht, ← ha, hb, host_view n (lv + 1) p (aroL (lv + 1) (p.headD default)) { s with opn := false } (fun l hl => by
       obtain ⟨okl, hwl, hal⟩ := hd l (hx l hl).1
       refine ⟨okl, by omega, ?_⟩
       have hst2 : stepL lv l ≠ 0 := by rw [(hx l hl).2]; exact hst
       rw [← (aro_step okl hst2).1, ← hb, (hx l hl).2, hal, ha]) hs rfl]
    rw [e, ih _ (fun q hq => hp q (by simp [hq])) rfl rfl]
    simp [Nat.add_assoc]
  unfold hostL
  rw [key (partsBy (stepR lv) d) s (fun p hp => ⟨parts_ne _ _ d (Nat.le_refl _) p hp, fun x hx => ⟨parts_sub _ d hp hx, step_all _ d (Nat.le_refl _) p hp x hx⟩, fun h0 => ?_⟩) hs ho, parts_flat _ _ d (Nat.le_refl _)]
  have hz : ∀ (m : Nat) (d : List Lin), d.length ≤ m → ∀ p ∈ partsBy (stepR lv) d, stepL lv (p.headD default) = 0 → p = [p.headD default] := by
   intro m
   induction m with
   | zero => intro d hl; have : d = [] := List.length_eq_zero_iff.1 (by omega); subst this; rw [parts_nil]; simp
   | succ m ih =>
    intro d hl p hp h
    cases d with
    | nil => rw [parts_nil] at hp; cases hp
    | cons x d =>
     rw [parts_cons] at hp
     rcases List.mem_cons.1 hp with rfl | hp
     ·have : d.takeWhile (stepR lv x) = [] := by
       cases d with
       | nil => rfl
       | cons y ys => rw [List.takeWhile_cons_of_neg (by unfold stepR; simp at h; simp [h])]
      rw [this]
      rfl
     ·exact ih _ (by have := (List.dropWhile_suffix (l := d) (stepR lv x)).length_le; simp at hl; omega) p hp h
  exact hz _ d (Nat.le_refl _) p hp h0
def hostN (d : List Lin) : Nod := .mk 1 [] [] (hostL (lineN (gr rowK)) 13 0 d)
theorem node_host {d : List Lin} (hd : ∀ l ∈ d, LinOk l) : nodeV (hostN d) aro0 none vst0 = ⟨d, (d.map (·.cells.length)).sum, false, 0, ⟨0, 0⟩⟩ := by
 unfold hostN
 rw [tag_line (by decide)]
 have hb : boxA 1 aro0 = aro0 := rfl
 rw [hb, host_view 13 0 d aro0 _ (fun l hl => ⟨hd l hl, ?_, ?_⟩) rfl rfl]
 ·simp [vst0]
 ·obtain ⟨h1, h2, h3, _⟩ := hd l hl
  unfold wayL
  rw [List.length_append, List.length_replicate, List.length_map]
  omega
 ·unfold aroL aro0
  have : min ((0 : Nat) : Int) (l.quote.toNat : Int) = 0 := by omega
  simp only [this, Nat.zero_sub, List.take_zero]
theorem view_host {d : List Lin} (hne : d ≠ []) (hd : ∀ l ∈ d, LinOk l) : goesV (hostN d) none = ⟨d, (d.map (·.cells.length)).sum, false, 0, ⟨0, 0⟩⟩ := by
 unfold goesV
 simp only [node_host hd]
 rw [if_neg hne]
end Go.Proofs.Qw
namespace Go.Proofs.Qw
open Go.RowKit
theorem line_tag {l : Lin} (h : LinOk l) : tagC (lineN (gr rowK) l).tag = 3 ∧ ((lineN (gr rowK) l).tag = 9 ↔ l.lists ≠ []) ∧ (lineN (gr rowK) l).tag ≠ 1 := by
 obtain ⟨_, _, _, h4, h5, _⟩ := h
 unfold lineN
 simp only [Nod.tag]
 by_cases hl : l.lists ≠ []
 ·rw [if_pos hl]
  exact ⟨by decide, ⟨fun _ => hl, fun _ => rfl⟩, by decide⟩
 ·rw [if_neg hl]
  refine ⟨?_, ⟨fun e => by omega, fun e => absurd e hl⟩, by omega⟩
  unfold tagC
  rw [if_neg (by omega), if_neg (by omega), if_neg (by omega), if_pos (by omega)]
theorem way_at {l : Lin} (hl : LinOk l) {j : Nat} {t : Int} (h : (wayL l)[j]? = some t) : (j < l.quote.toNat ∧ t = 6) ∨ (l.quote.toNat ≤ j ∧ (t = 7 ∨ t = 8)) := by
 obtain ⟨h0, h1, _⟩ := hl
 have hm : min l.quote.toNat 6 = l.quote.toNat := by omega
 unfold wayL at h
 rw [hm] at h
 by_cases hj : j < l.quote.toNat
 ·rw [List.getElem?_append_left (by simpa using hj), List.getElem?_replicate] at h
  rw [if_pos hj] at h
  cases h
  exact .inl ⟨hj, rfl⟩
 ·rw [List.getElem?_append_right (by simp; omega), List.getElem?_map] at h
  rw [Option.map_eq_some_iff] at h
  obtain ⟨k, _, rfl⟩ := h
  exact .inr ⟨by omega, by split; exact .inl rfl; exact .inr rfl⟩
theorem way_len {l : Lin} (hl : LinOk l) : (wayL l).length = l.quote.toNat + l.lists.length := by
 obtain ⟨h0, h1, _⟩ := hl
 unfold wayL
 rw [List.length_append, List.length_replicate, List.length_map]
 omega
theorem step_get {lv : Nat} {l : Lin} (h : stepL lv l ≠ 0) : (wayL l)[lv]? = some (stepL lv l) := by
 have := (stepL_some h).1
 unfold stepL
 rw [List.getD_eq_getElem?_getD, List.getElem?_eq_getElem this]
 rfl
theorem ok_of_may {d : List Lin} (h : mayD d = true) : d ≠ [] ∧ ∀ l ∈ d, LinOk l := by
 unfold mayD at h
 simp only [Bool.and_eq_true, decide_eq_true_eq, List.all_eq_true] at h
 obtain ⟨⟨⟨h1, _⟩, _⟩, h2⟩ := h
 refine ⟨by rintro rfl; simp at h1, fun l hl => ?_⟩
 have := h2 l hl
 unfold mayL mayCs at this
 simp only [Bool.and_eq_true, Bool.or_eq_true, decide_eq_true_eq, List.all_eq_true] at this
 obtain ⟨⟨⟨⟨⟨⟨⟨g1, g2⟩, g3⟩, g4⟩, g5⟩, g6⟩, g7⟩, g8⟩ := this
 refine ⟨g1, g2, g3, g4, g5, g6, g7, fun c hc => ?_⟩
 have := g8 c hc
 unfold mayC linkF at this
 simp only [Bool.and_eq_true, Bool.or_eq_true, decide_eq_true_eq] at this
 exact ⟨this.1.1.1, this.1.1.2, this.1.2, this.2⟩
end Go.Proofs.Qw
namespace Go.Proofs.Qw
open Go.RowKit
theorem runesGo_count (s : ByteArray) : ∀ (f pos : Nat), (runesGo s f pos).length = Lib.runeCountFrom s f pos
 | 0, _ => rfl
 | f + 1, pos => by
  unfold runesGo Lib.runeCountFrom
  split
  ·rw [List.length_cons, runesGo_count s f, Nat.add_comm]
  ·rfl
theorem runesB_count (s : ByteArray) : (runesB s).length = Lib.runeCount s := runesGo_count s _ _
end Go.Proofs.Qw
namespace Go.Proofs.YtjpgffihafknlaaGreatDoor
open Go.RowKit
open Go.Proofs.Qw
attribute [local go_sem] Oper.semAt_some
theorem charsCount_any (s : ByteArray) (w : World) (hs : s.size ≤ 1000000000) :
  Calls Tryz.prog 53 #[.string s] w fun e w' => e = .returned (.int .i64 (runesB s).length) ∧ Below w.heap.size w w' := by
 have HC := Lib.hid (Tryz.utf8_RuneCountInString s w (by omega))
 rw [runesB_count]
 go_enter Tryz.func53, Tryz.ntmps53
 go_wp2_with (go_at_call 85; refine HC.out.mono ?_; rintro e w1 ⟨rfl, pos, rfl⟩)
 go_ret
 refine ⟨by first | rfl | simp, (Below.refl _ _).alloc (Nat.le_refl _) _⟩
end Go.Proofs.YtjpgffihafknlaaGreatDoor
namespace Go.Proofs.YtjpgffihafknlaaGreatDoor
open Go.RowKit
open Go.Proofs.Qw
structure But (B : Nat) (w w' : World) : Prop where
 os : w'.os = w.os
 tape : w'.tape = w.tape
 output : w'.output = w.output
 keeps : Keeps (fun b => b ≠ B) w w'
theorem But.refl (B : Nat) (w : World) : But B w w := ⟨rfl, rfl, rfl, Keeps.refl _ _⟩
theorem But.of {B : Nat} {w w' : World} (h : Below w.heap.size w w') : But B w w' := ⟨h.os, h.tape, h.output, Keeps.all h⟩
theorem But.trans {B : Nat} {a b c : World} (h : But B a b) (k : But B b c) : But B a c := ⟨k.os.trans h.os, k.tape.trans h.tape, k.output.trans h.output, h.keeps.trans k.keeps⟩
theorem But.size {B : Nat} {a b : World} (h : But B a b) : a.heap.size ≤ b.heap.size := h.keeps.size
theorem But.set {B : Nat} {a w : World} (h : But B a w) (o : Nat) (v : Value) : But B a (w.setCell ⟨B, o, none⟩ v) := h.trans ⟨rfl, rfl, rfl, (Keeps.refl _ _).set (by simp) v⟩
theorem But.alloc {B : Nat} {a w : World} (h : But B a w) (o : Obj) : But B a (w.alloc o) := h.trans (.of ((Below.refl _ _).alloc (Nat.le_refl _) _))
theorem But.below {B n : Nat} {w w' : World} (h : But B w w') (hn : n ≤ w.heap.size) (hB : n ≤ B) : Below n w w' := ⟨h.os, h.tape, h.output, h.size, fun k hk => h.keeps.block k (by show k ≠ B; omega) (by omega)⟩
theorem But.to {B : Nat} {w w' : World} {S : Nat → Prop} (h : But B w w') (hS : ∀ b, S b → b ≠ B) : Keeps S w w' := ⟨h.size, fun b hb hz => h.keeps.block b (hS b hb) hz⟩
theorem But.heap {B b : Nat} {w w' : World} {o : Obj} (h : But B w w') (hb : b ≠ B) (e : w.heap[b]? = some o) : w'.heap[b]? = some o := by
 have hz : b < w.heap.size := by
  rw [Array.getElem?_eq_some_iff] at e
  exact e.1
 exact (h.keeps.block b hb hz).trans e
def FinAt (B : Nat) (x y : Int) (w : World) : Prop := w.heap[B]? = some (.cells #[.int .i64 x, .int .i64 y] 98)
theorem FinAt.below {B : Nat} {x y : Int} {w w' : World} (h : FinAt B x y w) (hb : Below w.heap.size w w') : FinAt B x y w' := heap_below hb h
theorem nods_but {h B : Nat} {own : Bool} {w w' : World} {S : Nat → Prop} {v : Value} {l : List Nod} (hv : NodsR own h w S v l) (hS : ∀ b, S b → b ≠ B) (hb : But B w w') : NodsR own h w' S v l := hv.stable (rdNod_stable _ _) (hb.to hS) (fun _ h _ => h)
end Go.Proofs.YtjpgffihafknlaaGreatDoor
namespace Go.Proofs.Qw
open Go.RowKit
mutual
def findN : Nod → List Int → Nat → (List Int × Nod) ⊕ Nat
 | .mk _ _ _ ks, p, i => findK ks 0 p i
def findK : List Nod → Nat → List Int → Nat → (List Int × Nod) ⊕ Nat
 | [], _, _, i => .inr i
 | k :: ks, j, p, i =>
  if tagC k.tag = 3 then (match i with | 0 => .inl (p ++ [(j : Int)], k) | i + 1 => findK ks (j + 1) p i)
  else match findN k (p ++ [(j : Int)]) i with
   | .inl r => .inl r
   | .inr i => findK ks (j + 1) p i
end
mutual
def leafF : Nod → List Int → Int → (List Int × Int) ⊕ Int
 | .mk _ _ _ ks, p, c => leafK ks 0 p c
def leafK : List Nod → Nat → List Int → Int → (List Int × Int) ⊕ Int
 | [], _, _, c => .inr c
 | k :: ks, j, p, c =>
  if k.tag = 16 then (if c = 1 then .inl (p, (j : Int) + 1) else leafK ks (j + 1) p (c - 1))
  else if k.tag ≠ 0 then (match leafF k (p ++ [(j : Int)]) c with
   | .inl r => .inl r
   | .inr c => leafK ks (j + 1) p c)
  else if c ≤ ((runesB ⟨k.text.toArray⟩).length : Int) then .inl (p ++ [(j : Int)], c) else leafK ks (j + 1) p (c - ((runesB ⟨k.text.toArray⟩).length : Int))
end
theorem findK_cons (k : Nod) (ks : List Nod) (j : Nat) (p : List Int) (i : Nat) : findK (k :: ks) j p i = if tagC k.tag = 3 then (match i with | 0 => .inl (p ++ [(j : Int)], k) | i + 1 => findK ks (j + 1) p i) else match findN k (p ++ [(j : Int)]) i with | .inl r => .inl r | .inr i => findK ks (j + 1) p i := by rw [findK.eq_def]
theorem findK_nil (j : Nat) (p : List Int) (i : Nat) : findK [] j p i = .inr i := by rw [findK.eq_def]
theorem findN_kids (n : Nod) (p : List Int) (i : Nat) : findN n p i = findK n.kids 0 p i := by cases n; rw [findN]; rfl
theorem leafF_kids (n : Nod) (p : List Int) (c : Int) : leafF n p c = leafK n.kids 0 p c := by cases n; rw [leafF]; rfl
def lastPath : Nat → Nat → List Nod → List Int
 | 0, _, _ => []
 | n + 1, j, l => (((j + l.length : Nat) : Int) - 1) :: lastPath n 0 (l.getLastD default).kids
theorem parts_take {α : Type} (r : α → α → Bool) : ∀ (n : Nat) (l : List α) (i : Nat), l.length ≤ n → i < l.length →
  ∃ ps q rest m, partsBy r l = ps ++ q :: rest ∧ m < q.length ∧ (ps.flatten).length + m = i ∧ partsBy r (l.take (i + 1)) = ps ++ [q.take (m + 1)]
 | 0, l, i, hl, hi => by omega
 | n + 1, [], i, _, hi => by simp at hi
 | n + 1, a :: l, i, hl, hi => by
  have htd := List.takeWhile_append_dropWhile (p := r a) (l := l)
  by_cases hc : i < (a :: l.takeWhile (r a)).length
  ·refine ⟨[], a :: l.takeWhile (r a), partsBy r (l.dropWhile (r a)), i, by rw [parts_cons]; rfl, hc, by simp, ?_⟩
   rw [List.take_succ_cons, parts_cons]
   have hi' : i ≤ (l.takeWhile (r a)).length := by simp at hc; omega
   have e : l.take i = (l.takeWhile (r a)).take i := by
    conv => lhs; rw [← htd]
    rw [List.take_append_of_le_length hi']
   have hall : ∀ x ∈ (l.takeWhile (r a)).take i, r a x = true := fun x hx => by
    have := List.all_takeWhile (l := l) (p := r a)
    rw [List.all_eq_true] at this
    exact this x (List.mem_of_mem_take hx)
   have e1 : ((l.takeWhile (r a)).take i).takeWhile (r a) = (l.takeWhile (r a)).take i := by have := takeWhile_all (p := r a) [] hall; simpa using this
   have e2 : ((l.takeWhile (r a)).take i).dropWhile (r a) = [] := by have := dropWhile_all (p := r a) [] hall; simpa using this
   rw [e, e1, e2, parts_nil, List.take_succ_cons]
   rfl
  ·have hlen : (l.takeWhile (r a)).length + (l.dropWhile (r a)).length = l.length := by rw [← List.length_append, htd]
   simp at hc hi
   obtain ⟨ps, q, rest, m, h1, h2, h3, h4⟩ := parts_take r n (l.dropWhile (r a)) (i - 1 - (l.takeWhile (r a)).length) (by have := (List.dropWhile_suffix (l := l) (r a)).length_le; simp at hl; omega) (by omega)
   refine ⟨(a :: l.takeWhile (r a)) :: ps, q, rest, m, by rw [parts_cons, h1]; rfl, h2, ?_, ?_⟩
   ·simp only [List.flatten_cons, List.length_append, List.length_cons]
    omega
   ·rw [List.take_succ_cons, parts_cons]
    have e : l.take i = l.takeWhile (r a) ++ (l.dropWhile (r a)).take (i - (l.takeWhile (r a)).length) := by
     conv => lhs; rw [← htd]
     rw [List.take_append, List.take_of_length_le (by omega)]
    have hall : ∀ x ∈ l.takeWhile (r a), r a x = true := fun x hx => by
     have := List.all_takeWhile (l := l) (p := r a)
     rw [List.all_eq_true] at this
     exact this x hx
    have hstop : ((l.dropWhile (r a)).take (i - (l.takeWhile (r a)).length)).takeWhile (r a) = [] ∧ ((l.dropWhile (r a)).take (i - (l.takeWhile (r a)).length)).dropWhile (r a) = (l.dropWhile (r a)).take (i - (l.takeWhile (r a)).length) := by
     cases hd : l.dropWhile (r a) with
     | nil => simp
     | cons b t =>
      have hb := List.head_dropWhile_not (p := r a) (l := l) (by rw [hd]; simp)
      simp only [hd, List.head_cons] at hb
      cases hk : i - (l.takeWhile (r a)).length with
      | zero => simp
      | succ k => rw [List.take_succ_cons]; exact ⟨List.takeWhile_cons_of_neg (by simpa using hb), List.dropWhile_cons_of_neg (by simpa using hb)⟩
    rw [e, takeWhile_all _ hall, dropWhile_all _ hall, hstop.1, hstop.2, List.append_nil]
    rw [show i - (l.takeWhile (r a)).length = i - 1 - (l.takeWhile (r a)).length + 1 by omega, h4]
    rfl
theorem parts_ahead {α : Type} (r : α → α → Bool) : ∀ (ps rest : List (List α)) (l : List α), partsBy r l = ps ++ rest → partsBy r ps.flatten = ps
 | [], _, _, _ => parts_nil _
 | a :: ps, rest, [], h => by rw [parts_nil] at h; cases h
 | a :: ps, rest, x :: l, h => by
  rw [parts_cons, List.cons_append] at h
  injection h with h1 h2
  have ih := parts_ahead r ps rest _ h2
  rw [List.flatten_cons, ← h1, List.cons_append, parts_cons]
  have hall : ∀ y ∈ l.takeWhile (r x), r x y = true := fun y hy => by
   have := List.all_takeWhile (l := l) (p := r x)
   rw [List.all_eq_true] at this
   exact this y hy
  have hst : ps.flatten.takeWhile (r x) = [] ∧ ps.flatten.dropWhile (r x) = ps.flatten := by
   have hfl := parts_flat r _ (l.dropWhile (r x)) (Nat.le_refl _)
   rw [h2, List.flatten_append] at hfl
   cases hd : ps.flatten with
   | nil => simp
   | cons b t =>
    have hdd : l.dropWhile (r x) = b :: (t ++ rest.flatten) := by rw [← hfl, hd]; rfl
    have hb := List.head_dropWhile_not (p := r x) (l := l) (by rw [hdd]; simp)
    simp only [hdd, List.head_cons] at hb
    exact ⟨List.takeWhile_cons_of_neg (by simpa using hb), List.dropWhile_cons_of_neg (by simpa using hb)⟩
  rw [takeWhile_all _ hall, dropWhile_all _ hall, hst.1, hst.2, ih, List.append_nil]
theorem find_over : ∀ (n lv : Nat) (d : List Lin) (j : Nat) (p : List Int) (i : Nat) (more : List Nod), (∀ l ∈ d, LinOk l ∧ (wayL l).length < lv + n) →
  findK (hostL (lineN (gr rowK)) n lv d ++ more) j p (i + d.length) = findK more (j + (hostL (lineN (gr rowK)) n lv d).length) p i
 | 0, lv, d, j, p, i, more, h => by
  rw [hostL]
  induction d generalizing j with
  | nil => simp
  | cons l d ih =>
   have ht := (line_tag (h l (by simp)).1).1
   rw [List.map_cons, List.cons_append, findK_cons, if_pos ht]
   have := ih (j + 1) (fun x hx => h x (by simp [hx]))
   rw [show i + (l :: d).length = (i + d.length) + 1 by simp; omega]
   simp only
   rw [this]
   congr 1
   simp
   omega
 | n + 1, lv, d, j, p, i, more, h => by
  rw [hostL]
  have hfl := parts_flat (stepR lv) _ d (Nat.le_refl _)
  have hsub : ∀ q ∈ partsBy (stepR lv) d, ∀ x ∈ q, x ∈ d := fun q hq x hx => parts_sub _ _ hq hx
  have hne : ∀ q ∈ partsBy (stepR lv) d, q ≠ [] := parts_ne _ _ d (Nat.le_refl _)
  have hone : ∀ q ∈ partsBy (stepR lv) d, stepL lv (q.headD default) = 0 → q.length = 1 := by
   have : ∀ (n : Nat) (l : List Lin), l.length ≤ n → ∀ q ∈ partsBy (stepR lv) l, stepL lv (q.headD default) = 0 → q.length = 1 := by
    intro n
    induction n with
    | zero => intro l hl; have : l = [] := List.length_eq_zero_iff.1 (by omega); subst this; rw [parts_nil]; simp
    | succ n ih =>
     intro l hl q hq hs
     cases l with
     | nil => rw [parts_nil] at hq; cases hq
     | cons a l =>
      rw [parts_cons] at hq
      rcases List.mem_cons.1 hq with rfl | hq
      ·simp only [List.headD_cons] at hs
       have : l.takeWhile (stepR lv a) = [] := by
        cases l with
        | nil => rfl
        | cons b l => rw [List.takeWhile_cons_of_neg]; unfold stepR; simp [hs]
       rw [this]
       rfl
      ·exact ih _ (by have := (List.dropWhile_suffix (l := l) (stepR lv a)).length_le; simp at hl; omega) q hq hs
   exact this _ d (Nat.le_refl _)
  have key : ∀ (ps : List (List Lin)) (j i : Nat), (∀ q ∈ ps, q ∈ partsBy (stepR lv) d) →
    findK (ps.flatMap (fun p => if stepL lv (p.headD default) ≠ 0 then [.mk (stepL lv (p.headD default)) [] [] (hostL (lineN (gr rowK)) n (lv + 1) p)] else [lineN (gr rowK) (p.headD default)]) ++ more) j p (i + ps.flatten.length) = findK more (j + (ps.flatMap (fun p => if stepL lv (p.headD default) ≠ 0 then [Nod.mk (stepL lv (p.headD default)) [] [] (hostL (lineN (gr rowK)) n (lv + 1) p)] else [lineN (gr rowK) (p.headD default)])).length) p i := by
   intro ps
   induction ps with
   | nil => intro j i _; simp
   | cons q ps ih =>
    intro j i hq
    have hq0 := hq q (by simp)
    have hhead : q.headD default ∈ q := by
     cases q with
     | nil => exact absurd rfl (hne _ hq0)
     | cons a l => simp
    obtain ⟨g1, g2⟩ := h _ (hsub q hq0 _ hhead)
    rw [List.flatMap_cons, List.append_assoc]
    have ih' := ih (j + 1) i (fun x hx => hq x (by simp [hx]))
    by_cases hs : stepL lv (q.headD default) ≠ 0
    ·rw [if_pos hs, List.singleton_append, findK_cons]
     have hw := way_at g1 (step_get hs)
     have ht : ¬ tagC (Nod.mk (stepL lv (q.headD default)) [] [] (hostL (lineN (gr rowK)) n (lv + 1) q)).tag = 3 := by
      simp only [Nod.tag]
      rcases hw with ⟨_, hw⟩ | ⟨_, hw | hw⟩ <;> rw [hw] <;> decide
     rw [if_neg ht, findN_kids]
     simp only [Nod.kids]
     have := find_over n (lv + 1) q 0 (p ++ [(j : Int)]) (i + ps.flatten.length) [] (fun l hl => by
      obtain ⟨a1, a2⟩ := h l (hsub q hq0 l hl)
      exact ⟨a1, by omega⟩)
     rw [List.append_nil] at this
     rw [show i + (q :: ps).flatten.length = i + ps.flatten.length + q.length by simp; omega, this, findK_nil]
     simp only
     rw [ih']
     congr 1
     simp
     omega
    ·have hs0 : stepL lv (q.headD default) = 0 := by simpa using hs
     have ht := (line_tag g1).1
     rw [if_neg hs, List.singleton_append, findK_cons, if_pos ht]
     rw [show i + (q :: ps).flatten.length = (i + ps.flatten.length) + 1 by simp [hone q hq0 hs0]; omega]
     simp only
     rw [ih']
     congr 1
     simp
     omega
  have := key (partsBy (stepR lv) d) j i (fun q hq => hq)
  rw [hfl] at this
  exact this
theorem find_line : ∀ (n lv : Nat) (d : List Lin) (j : Nat) (p : List Int) (i : Nat) (more : List Nod), (∀ l ∈ d, LinOk l ∧ (wayL l).length < lv + n ∧ lv ≤ (wayL l).length) → ∀ l, d[i]? = some l →
  findK (hostL (lineN (gr rowK)) n lv d ++ more) j p i = .inl (p ++ lastPath ((wayL l).length - lv + 1) j (hostL (lineN (gr rowK)) n lv (d.take (i + 1))), lineN (gr rowK) l)
 | 0, lv, d, j, p, i, more, h, l, hl => by
  exfalso
  obtain ⟨_, h2, h3⟩ := h l (List.mem_of_getElem? hl)
  omega
 | n + 1, lv, d, j, p, i, more, h, l, hl => by
  have hi : i < d.length := (List.getElem?_eq_some_iff.1 hl).1
  obtain ⟨ps, q, rest, m, e1, hm, hpm, e2⟩ := parts_take (stepR lv) _ d i (Nat.le_refl _) hi
  have hq : q ∈ partsBy (stepR lv) d := by rw [e1]; simp
  have hsub : ∀ q ∈ partsBy (stepR lv) d, ∀ x ∈ q, x ∈ d := fun q hq x hx => parts_sub _ _ hq hx
  have hql : q[m]? = some l := by
   have hfl := parts_flat (stepR lv) _ d (Nat.le_refl _)
   rw [e1, List.flatten_append, List.flatten_cons] at hfl
   rw [← hfl, List.getElem?_append_right (by omega), List.getElem?_append_left (by omega)] at hl
   rw [show i - ps.flatten.length = m by omega] at hl
   exact hl
  have hhead : q.headD default ∈ q := by
   cases q with
   | nil => simp at hm
   | cons a l => simp
  have hall := step_all _ d (Nat.le_refl _) q hq
  have hqt : q.take (m + 1) ≠ [] ∧ (q.take (m + 1)).headD default = q.headD default := by
   cases q with
   | nil => simp at hm
   | cons a l => simp
  have hF : ∀ d' : List Lin, hostL (lineN (gr rowK)) (n + 1) lv d' = (partsBy (stepR lv) d').flatMap fun p => if stepL lv (p.headD default) ≠ 0 then [.mk (stepL lv (p.headD default)) [] [] (hostL (lineN (gr rowK)) n (lv + 1) p)] else [lineN (gr rowK) (p.headD default)] := fun d' => by rw [hostL]
  -- the parts ahead
  have hahead : ∃ d0 : List Lin, partsBy (stepR lv) d0 = ps ∧ d0 = ps.flatten ∧ (∀ x ∈ d0, x ∈ d) := by
   refine ⟨ps.flatten, ?_, rfl, fun x hx => ?_⟩
   ·exact parts_ahead (stepR lv) ps (q :: rest) d e1
   ·obtain ⟨q', hq', hx'⟩ := List.mem_flatten.1 hx
    exact hsub q' (by rw [e1]; simp [hq']) x hx'
  obtain ⟨d0, g1, g2, g3⟩ := hahead
  have hover := find_over (n + 1) lv d0 j p m ((q :: rest).flatMap (fun p => if stepL lv (p.headD default) ≠ 0 then [.mk (stepL lv (p.headD default)) [] [] (hostL (lineN (gr rowK)) n (lv + 1) p)] else [lineN (gr rowK) (p.headD default)]) ++ more) (fun l hl => ⟨(h l (g3 l hl)).1, (h l (g3 l hl)).2.1⟩)
  rw [hF, e1, List.flatMap_append, List.append_assoc]
  rw [hF, g1] at hover
  rw [show m + d0.length = i by rw [g2]; omega] at hover
  rw [hover, hF, e2, List.flatMap_append]
  generalize hP : (ps.flatMap fun p => if stepL lv (p.headD default) ≠ 0 then [Nod.mk (stepL lv (p.headD default)) [] [] (hostL (lineN (gr rowK)) n (lv + 1) p)] else [lineN (gr rowK) (p.headD default)]) = P
  rw [List.flatMap_cons, List.flatMap_cons, List.flatMap_nil, List.append_nil, hqt.2, List.append_assoc]
  obtain ⟨k1, k2, k3⟩ := h l (List.mem_of_getElem? hl)
  have hsl := hall l (List.mem_of_getElem? hql)
  by_cases hs : stepL lv (q.headD default) ≠ 0
  ·rw [if_pos hs, if_pos hs, List.singleton_append, findK_cons]
   have hsl' : stepL lv l ≠ 0 := hsl ▸ hs
   have hw := way_at k1 (step_get hsl')
   have hlt := (stepL_some hsl').1
   have ht : ¬ tagC (Nod.mk (stepL lv (q.headD default)) [] [] (hostL (lineN (gr rowK)) n (lv + 1) q)).tag = 3 := by
    simp only [Nod.tag]
    rw [← hsl]
    rcases hw with ⟨_, hw⟩ | ⟨_, hw | hw⟩ <;> rw [hw] <;> decide
   rw [if_neg ht, findN_kids]
   simp only [Nod.kids]
   have ih := find_line n (lv + 1) q 0 (p ++ [((j + P.length : Nat) : Int)]) m [] (fun x hx => by
    obtain ⟨a1, a2, _⟩ := h x (hsub q hq x hx)
    have hx' := hall x hx
    exact ⟨a1, by omega, (stepL_some (hx' ▸ hs)).1⟩) l hql
   rw [List.append_nil] at ih
   rw [ih]
   simp only
   congr 2
   rw [List.append_assoc]
   congr 1
   have e5 : ∀ (k : Nat) (N : Nod), lastPath (k + 1) j (P ++ [N]) = ((j + P.length : Nat) : Int) :: lastPath k 0 N.kids := fun k N => by
    rw [lastPath, List.length_append, List.length_singleton, List.getLastD_concat]
    congr 1
    omega
   rw [show (wayL l).length - lv + 1 = ((wayL l).length - (lv + 1) + 1) + 1 by omega, e5]
   rfl
  ·have hs0 : stepL lv (q.headD default) = 0 := by simpa using hs
   have hone : q.length = 1 ∧ q.headD default = l := by
    cases q with
    | nil => simp at hm
    | cons a t =>
     have hax : (a :: t) ∈ partsBy (stepR lv) d := hq
     have : t = [] := by
      have hr : ∀ (n : Nat) (l : List Lin), l.length ≤ n → ∀ q ∈ partsBy (stepR lv) l, stepL lv (q.headD default) = 0 → q.length = 1 := by
       intro n
       induction n with
       | zero => intro l hl; have : l = [] := List.length_eq_zero_iff.1 (by omega); subst this; rw [parts_nil]; simp
       | succ n ih =>
        intro l hl q hq hs
        cases l with
        | nil => rw [parts_nil] at hq; cases hq
        | cons a l =>
         rw [parts_cons] at hq
         rcases List.mem_cons.1 hq with rfl | hq
         ·simp only [List.headD_cons] at hs
          have : l.takeWhile (stepR lv a) = [] := by
           cases l with
           | nil => rfl
           | cons b l => rw [List.takeWhile_cons_of_neg]; unfold stepR; simp [hs]
          rw [this]
          rfl
         ·exact ih _ (by have := (List.dropWhile_suffix (l := l) (stepR lv a)).length_le; simp at hl; omega) q hq hs
      have := hr _ d (Nat.le_refl _) _ hax hs0
      simp at this
      exact this
     subst this
     simp at hm
     subst hm
     exact ⟨rfl, by simpa using hql⟩
   have ht := (line_tag k1).1
   have hm0 : m = 0 := by omega
   rw [if_neg hs, if_neg hs, hone.2, List.singleton_append, findK_cons, if_pos ht, hm0]
   simp only
   have hsl0 : stepL lv l = 0 := hsl.trans hs0
   have hwl : (wayL l).length = lv := by
    have := stepL_none hsl0
    have := congrArg List.length this
    rw [List.length_drop, List.length_nil] at this
    omega
   rw [hwl, Nat.sub_self, lastPath, lastPath]
   congr 3
   simp
   omega
theorem host_line {d : List Lin} (hd : ∀ l ∈ d, LinOk l) {i : Nat} {l : Lin} (hl : d[i]? = some l) : findN (hostN d) [] i = .inl (lastPath ((wayL l).length + 1) 0 (hostL (lineN (gr rowK)) 13 0 (d.take (i + 1))), lineN (gr rowK) l) := by
 unfold hostN
 rw [findN_kids]
 have := find_line 13 0 d 0 [] i [] (fun l hl => by
  have := way_len (hd l hl)
  have h1 := (hd l hl).1
  have h2 := (hd l hl).2.1
  have h3 := (hd l hl).2.2.1
  exact ⟨hd l hl, by omega, Nat.zero_le _⟩) l hl
 rw [List.append_nil] at this
 exact this
theorem leafK_cons (k : Nod) (ks : List Nod) (j : Nat) (p : List Int) (c : Int) : leafK (k :: ks) j p c = if k.tag = 16 then (if c = 1 then .inl (p, (j : Int) + 1) else leafK ks (j + 1) p (c - 1)) else if k.tag ≠ 0 then (match leafF k (p ++ [(j : Int)]) c with | .inl r => .inl r | .inr c => leafK ks (j + 1) p c) else if c ≤ ((runesB ⟨k.text.toArray⟩).length : Int) then .inl (p ++ [(j : Int)], c) else leafK ks (j + 1) p (c - ((runesB ⟨k.text.toArray⟩).length : Int)) := by rw [leafK.eq_def]
theorem leafK_nil (j : Nat) (p : List Int) (c : Int) : leafK [] j p c = .inr c := by rw [leafK.eq_def]
def CharOk (c : Cel) : Prop := mayR c.r = true ∨ c.r = 10
theorem leafP_runes {p : List Cel} (h : ∀ c ∈ p, CharOk c) (h10 : ∀ c ∈ p, c.r ≠ 10) (hne : p ≠ []) : leafP p = txtN (p.map (·.r)) ∧ (runesB ⟨(leafP p).text.toArray⟩).length = p.length := by
 have e : leafP p = txtN (p.map (·.r)) := by
  unfold leafP
  rw [if_neg (h10 _ (by cases p with | nil => exact absurd rfl hne | cons a l => simp))]
 refine ⟨e, ?_⟩
 rw [e]
 show (runesB ⟨(txtL (p.map (·.r))).toArray⟩).length = _
 rw [runes_back _ (fun c hc => by
  obtain ⟨x, hx, rfl⟩ := List.mem_map.1 hc
  exact (h x hx).resolve_right (h10 x hx))]
 simp
def pointN (d : List Lin) (q : Ps) : List Int × Int :=
 match findN (hostN d) [] q.line.toNat with
 | .inl (p, n) => if q.col = 0 then (p, 0) else (match leafF n p q.col with | .inl r => r | .inr _ => ([], 0))
 | .inr _ => ([], 0)
end Go.Proofs.Qw
namespace Go.Proofs.Qw
open Go.RowKit
theorem drop_at {α : Type} {ks : List α} {k : Nat} {x : α} (h : ks[k]? = some x) : ks.drop k = x :: ks.drop (k + 1) := by
 obtain ⟨hk, rfl⟩ := List.getElem?_eq_some_iff.1 h
 exact List.drop_eq_getElem_cons hk
theorem line_hit {ks : List Nod} {k : Nat} {x : Nod} (h : ks[k]? = some x) (p : List Int) (ht : tagC x.tag = 3) : findK (ks.drop k) k p 0 = .inl (p ++ [(k : Int)], x) := by
 rw [drop_at h, findK_cons, if_pos ht]
theorem line_skip {ks : List Nod} {k : Nat} {x : Nod} (h : ks[k]? = some x) (p : List Int) (i : Nat) (ht : tagC x.tag = 3) : findK (ks.drop k) k p (i + 1) = findK (ks.drop (k + 1)) (k + 1) p i := by
 rw [drop_at h, findK_cons, if_pos ht]
theorem line_in {ks : List Nod} {k : Nat} {x : Nod} (h : ks[k]? = some x) (p : List Int) (i : Nat) {r : List Int × Nod} (ht : tagC x.tag ≠ 3) (hr : findN x (p ++ [(k : Int)]) i = .inl r) : findK (ks.drop k) k p i = .inl r := by
 rw [drop_at h, findK_cons, if_neg ht, hr]
theorem line_past {ks : List Nod} {k : Nat} {x : Nod} (h : ks[k]? = some x) (p : List Int) (i i2 : Nat) (ht : tagC x.tag ≠ 3) (hr : findN x (p ++ [(k : Int)]) i = .inr i2) : findK (ks.drop k) k p i = findK (ks.drop (k + 1)) (k + 1) p i2 := by
 rw [drop_at h, findK_cons, if_neg ht, hr]
theorem line_end (ks : List Nod) (p : List Int) (i : Nat) : findK (ks.drop ks.length) ks.length p i = .inr i := by rw [List.drop_length, findK_nil]
theorem leaf_brk {ks : List Nod} {k : Nat} {x : Nod} (h : ks[k]? = some x) (p : List Int) (ht : x.tag = 16) : leafK (ks.drop k) k p 1 = .inl (p, (k : Int) + 1) := by
 rw [drop_at h, leafK_cons, if_pos ht, if_pos rfl]
theorem leaf_brk2 {ks : List Nod} {k : Nat} {x : Nod} (h : ks[k]? = some x) (p : List Int) (c : Int) (ht : x.tag = 16) (hc : c ≠ 1) : leafK (ks.drop k) k p c = leafK (ks.drop (k + 1)) (k + 1) p (c - 1) := by
 rw [drop_at h, leafK_cons, if_pos ht, if_neg hc]
theorem leaf_in {ks : List Nod} {k : Nat} {x : Nod} (h : ks[k]? = some x) (p : List Int) (c : Int) {r : List Int × Int} (ht : x.tag ≠ 16) (h0 : x.tag ≠ 0) (hr : leafF x (p ++ [(k : Int)]) c = .inl r) : leafK (ks.drop k) k p c = .inl r := by
 rw [drop_at h, leafK_cons, if_neg ht, if_pos h0, hr]
theorem leaf_past {ks : List Nod} {k : Nat} {x : Nod} (h : ks[k]? = some x) (p : List Int) (c c2 : Int) (ht : x.tag ≠ 16) (h0 : x.tag ≠ 0) (hr : leafF x (p ++ [(k : Int)]) c = .inr c2) : leafK (ks.drop k) k p c = leafK (ks.drop (k + 1)) (k + 1) p c2 := by
 rw [drop_at h, leafK_cons, if_neg ht, if_pos h0, hr]
theorem leaf_text {ks : List Nod} {k : Nat} {x : Nod} (h : ks[k]? = some x) (p : List Int) (c : Int) (ht : x.tag = 0) (hc : c ≤ ((runesB ⟨x.text.toArray⟩).length : Int)) : leafK (ks.drop k) k p c = .inl (p ++ [(k : Int)], c) := by
 rw [drop_at h, leafK_cons, if_neg (by rw [ht]; decide), if_neg (fun e => e ht), if_pos hc]
theorem leaf_text2 {ks : List Nod} {k : Nat} {x : Nod} (h : ks[k]? = some x) (p : List Int) (c : Int) (ht : x.tag = 0) (hc : ¬ c ≤ ((runesB ⟨x.text.toArray⟩).length : Int)) : leafK (ks.drop k) k p c = leafK (ks.drop (k + 1)) (k + 1) p (c - ((runesB ⟨x.text.toArray⟩).length : Int)) := by
 rw [drop_at h, leafK_cons, if_neg (by rw [ht]; decide), if_neg (fun e => e ht), if_neg hc]
theorem leaf_end (ks : List Nod) (p : List Int) (c : Int) : leafK (ks.drop ks.length) ks.length p c = .inr c := by rw [List.drop_length, leafK.eq_def]
end Go.Proofs.Qw
namespace Go.Proofs.YtjpgffihafknlaaGreatDoor
open Go.RowKit
open Go.Proofs.Qw
attribute [local go_sem ↓] Go.wp_at_zero Go.wp_at_succ
set_option maxHeartbeats 1000000 in
theorem mul_0 (w : World) : Calls Tryz.prog 146 #[.int .u64 1, .int .u64 0] w fun e w' => e = .returned (.tuple #[.int .u64 0, .int .u64 0]) ∧ w' = w := by
 go_enter Tryz.func146, Tryz.ntmps146
 go_wp2
 go_ret2
 exact ⟨rfl, rfl⟩
set_option maxHeartbeats 1000000 in
theorem mul_1 (w : World) : Calls Tryz.prog 146 #[.int .u64 1, .int .u64 1] w fun e w' => e = .returned (.tuple #[.int .u64 0, .int .u64 1]) ∧ w' = w := by
 go_enter Tryz.func146, Tryz.ntmps146
 go_wp2
 go_ret2
 exact ⟨rfl, rfl⟩
set_option maxHeartbeats 1000000 in
theorem mul_2 (w : World) : Calls Tryz.prog 146 #[.int .u64 1, .int .u64 2] w fun e w' => e = .returned (.tuple #[.int .u64 0, .int .u64 2]) ∧ w' = w := by
 go_enter Tryz.func146, Tryz.ntmps146
 go_wp2
 go_ret2
 exact ⟨rfl, rfl⟩
set_option maxHeartbeats 1000000 in
theorem mul_3 (w : World) : Calls Tryz.prog 146 #[.int .u64 1, .int .u64 3] w fun e w' => e = .returned (.tuple #[.int .u64 0, .int .u64 3]) ∧ w' = w := by
 go_enter Tryz.func146, Tryz.ntmps146
 go_wp2
 go_ret2
 exact ⟨rfl, rfl⟩
set_option maxHeartbeats 1000000 in
theorem mul_4 (w : World) : Calls Tryz.prog 146 #[.int .u64 1, .int .u64 4] w fun e w' => e = .returned (.tuple #[.int .u64 0, .int .u64 4]) ∧ w' = w := by
 go_enter Tryz.func146, Tryz.ntmps146
 go_wp2
 go_ret2
 exact ⟨rfl, rfl⟩
set_option maxHeartbeats 1000000 in
theorem mul_5 (w : World) : Calls Tryz.prog 146 #[.int .u64 1, .int .u64 5] w fun e w' => e = .returned (.tuple #[.int .u64 0, .int .u64 5]) ∧ w' = w := by
 go_enter Tryz.func146, Tryz.ntmps146
 go_wp2
 go_ret2
 exact ⟨rfl, rfl⟩
set_option maxHeartbeats 1000000 in
theorem mul_6 (w : World) : Calls Tryz.prog 146 #[.int .u64 1, .int .u64 6] w fun e w' => e = .returned (.tuple #[.int .u64 0, .int .u64 6]) ∧ w' = w := by
 go_enter Tryz.func146, Tryz.ntmps146
 go_wp2
 go_ret2
 exact ⟨rfl, rfl⟩
def sixes (q a : Nat) : List Value := List.replicate a (.int .i64 6) ++ List.replicate (q - a) (.int .i64 0)
theorem sixes_len {q a : Nat} (h : a ≤ q) : (sixes q a).length = q := by unfold sixes; simp; omega
theorem sixes_get {q a j : Nat} (h : j < a) : (sixes q a)[j]? = some (.int .i64 6) := by
 unfold sixes
 rw [List.getElem?_append_left (by simpa using h), List.getElem?_replicate, if_pos h]
theorem sixes_put {q a m : Nat} (h : a + m ≤ q) : (sixes q a).take a ++ List.replicate m (.int .i64 6) ++ (sixes q a).drop (a + m) = sixes q (a + m) := by
 apply List.ext_getElem?
 intro i
 unfold sixes
 simp only [List.getElem?_append, List.length_append, List.length_take, List.length_replicate, List.getElem?_take, List.getElem?_replicate, List.getElem?_drop]
 repeat' split
 all_goals first | rfl | omega | (congr 1; done) | skip
 all_goals (try simp_all) <;> omega
theorem put_cells (w : World) (b o : Nat) (l cs : List Value) (t : TypeId) (h : w.heap[b]? = some (.cells cs.toArray t)) (hl : o + l.length ≤ cs.length) :
  (w.setCells b o l).heap[b]? = some (.cells (cs.take o ++ l ++ cs.drop (o + l.length)).toArray t) := by
 obtain ⟨cs', h1, h2, h3, h4⟩ := setCells_heap l w b o cs.toArray t (0, 0) h (by simpa using hl)
 rw [h1]
 congr 2
 apply Array.ext_getElem?
 intro i
 by_cases hi : i < o
 ·rw [h3 i (.inl hi)]
  simp only [List.getElem?_toArray]
  rw [List.append_assoc, List.getElem?_append_left (by rw [List.length_take]; omega), List.getElem?_take, if_pos hi]
 ·by_cases hi2 : i < o + l.length
  ·have h5 := h4 (i - o) (l[i - o]'(by omega)) (by simp)
   rw [show o + (i - o) = i by omega] at h5
   rw [h5]
   simp only [List.getElem?_toArray]
   rw [List.append_assoc, List.getElem?_append_right (by rw [List.length_take]; omega), List.length_take, show i - min o cs.length = i - o by omega, List.getElem?_append_left (by omega)]
   simp
  ·rw [h3 i (.inr (by omega))]
   simp only [List.getElem?_toArray]
   rw [List.getElem?_append_right (by rw [List.length_append, List.length_take]; omega), List.getElem?_drop]
   congr 1
   rw [List.length_append, List.length_take]
   omega
theorem infoInt : (Tryz.prog.info? 3).map (·.size) = some 1 := by kernel_rfl
theorem copy_six (W : World) (N B q a m sl sc : Nat) (hB : W.heap[N]? = some (.cells (sixes q a).toArray 3)) (hq : a ≤ q) (hm : m = Nat.min sl (q - a)) (hs : ∀ j, j < m → W.cell? ⟨B, j, none⟩ = some (.int .i64 6)) :
  (Builtin.copy_ #[34, 34] 3 #[.slice (some ⟨N, a, none⟩) (q - a) (q - a), .slice (some ⟨B, 0, none⟩) sl sc]).run Tryz.prog W = .ok (.int .i64 m) (W.setCells N a (List.replicate m (.int .i64 6))) := by
 have hml : m ≤ q - a := by rw [hm]; exact Nat.min_le_right _ _
 have h := run_copy_cells (P := Tryz.prog) W 34 34 3 3 N a (q - a) (q - a) ⟨B, 0, none⟩ sl sc (List.replicate m (.int .i64 6)) Tryz.underlying34 infoInt (by simpa using hm)
  (fun j v hv => by
   rw [List.getElem?_replicate] at hv
   split at hv
   ·cases hv
    rw [WideShapes.add_plain, Nat.zero_add]
    exact hs j (by assumption)
   ·cases hv)
  (fun j hj => by
   rw [List.length_replicate] at hj
   rw [cell_of_heap hB]
   simp only [List.getElem?_toArray]
   rw [List.getElem?_eq_getElem (by rw [sixes_len hq]; omega)]
   rfl)
  (fun j hj => frozen_of_heap hB) (fun v hv => by rw [List.eq_of_mem_replicate hv]; rfl)
 rw [h]
 simp [goInt]
theorem six_row {q : Nat} {W : World} {N n : Nat} (hn : n ≤ N) (hq : q ≤ 6) (hB : W.heap[N]? = some (.cells (sixes q q).toArray 3)) : IntsR true W (fun b => n ≤ b) (.slice (some ⟨N, 0, none⟩) q q) (List.replicate q 6) := by
 have hlt := (Array.getElem?_eq_some_iff.1 hB).1
 refine ⟨_, q, by simp, by simp, by unfold maxLen; omega, .inr ⟨N, 0, rfl, hn, hlt, fun _ => ⟨_, hB, by simp [sixes_len (Nat.le_refl q)]⟩, fun i x hx => ?_⟩⟩
 have hi : i < q := by have := (List.getElem?_eq_some_iff.1 hx).1; simpa using this
 rw [List.getElem?_replicate, if_pos hi] at hx
 cases hx
 refine ⟨[.int .i64 6], rfl, rfl, fun j u hu => ?_⟩
 match j, hu with
 | 0, hu =>
  cases hu
  rw [cell_of_heap hB]
  simp only [List.getElem?_toArray, Nat.zero_add, Nat.mul_one, Nat.add_zero]
  exact sixes_get hi
set_option maxRecDepth 100000 in
set_option maxHeartbeats 4000000 in
theorem rep_0 (B : Nat) (w : World) (hB : w.heap[B]? = some (.cells #[.int .i64 6] 3)) : Calls Tryz.prog 132 #[.slice (some ⟨B, 0, none⟩) 1 1, .int .i64 0] w fun e w' => ∃ v', e = .returned v' ∧ IntsR true w' (fun b => w.heap.size ≤ b) v' (List.replicate 0 6) ∧ Below w.heap.size w w' := by
 obtain ⟨q0, f0⟩ := blk hB
 have hlt : B < w.heap.size := (Array.getElem?_eq_some_iff.1 hB).1
 obtain ⟨W1, hW1⟩ : ∃ W1, w.alloc (.cells (sixes 0 0).toArray 3) = W1 := ⟨_, rfl⟩
 have hmk : (Instr.makeSlice 34 (.int .i64 0) (.int .i64 0)).run Tryz.prog w = .ok (.slice (some ⟨w.heap.size, 0, none⟩) 0 0) W1 := by
  have h := run_make_row' (P := Tryz.prog) 34 3 (.int .i64 0) 8 Tryz.underlying34 (by kernel_rfl) rfl .i64 .i64 0 (by omega) (by omega) w
  have e : madeCells #[Value.int .i64 0] 0 = (sixes 0 0).toArray := by kernel_rfl
  rw [← hW1, ← e]
  exact h
 have hb1 : Below w.heap.size w W1 := hW1 ▸ (Below.refl _ _).alloc (Nat.le_refl _) _
 have hN : W1.heap[w.heap.size]? = some (.cells (sixes 0 0).toArray 3) := hW1 ▸ heap_new _ _ rfl
 have hcp := copy_six W1 w.heap.size B 0 0 (Nat.min 1 0) 1 1 hN (Nat.zero_le _) rfl (fun j hj => by
  have : j = 0 := by have : Nat.min 1 0 ≤ 1 := Nat.min_le_left _ _; omega
  subst this
  rw [(blk (heap_below hb1 hB)).1 0]; rfl)
 have hp1 := put_cells W1 w.heap.size 0 (List.replicate (Nat.min 1 0) (.int .i64 6)) (sixes 0 0) 3 hN (by rw [sixes_len (Nat.zero_le _), List.length_replicate]; decide)
 rw [List.length_replicate, sixes_put (q := 0) (a := 0) (m := Nat.min 1 0) (by decide)] at hp1
 have hb2 : Below w.heap.size w (W1.setCells w.heap.size 0 (List.replicate (Nat.min 1 0) (.int .i64 6))) := hb1.trans (setCells_below (Nat.le_refl _))
 have HCP : Hid ((Builtin.copy_ #[34, 34] 3 #[.slice (some ⟨w.heap.size, 0, none⟩) 0 0, .slice (some ⟨B, 0, none⟩) 1 1]).run Tryz.prog W1 = .ok (.int .i64 ((Nat.min 1 0 : Nat) : Int)) (W1.setCells w.heap.size 0 (List.replicate (Nat.min 1 0) (.int .i64 6)))) := Lib.hid hcp
 obtain ⟨W2, hW2⟩ : ∃ W2, W1.setCells w.heap.size 0 (List.replicate (Nat.min 1 0) (.int .i64 6)) = W2 := ⟨_, rfl⟩
 rw [hW2] at HCP hp1 hb2
 have HP1 := Lib.hid hp1
 have HB2 := Lib.hid hb2
 clear hcp hp1 hb2 hW2 hN hb1 hW1 q0 f0 hB
 go_enter Tryz.func132, Tryz.ntmps132
 go_wp2_with (first
  | (go_at_call 146; refine (mul_0 _).mono ?_; rintro e w2 ⟨rfl, hw2⟩; obtain rfl := hw2.symm)
  | (refine wpList_copy_run _ rfl _ _ _ _ rfl _ _ rfl rfl _ _ HCP.out ?_))
 go_loopw [8] (fun n wr => ∃ a : Nat, Nat.min 1 0 ≤ a ∧ a ≤ 0 ∧ n = .int .i64 a ∧ Hid (wr.heap[w.heap.size]? = some (.cells (sixes 0 a).toArray 3)) ∧ Hid (Below w.heap.size w wr)) (fun n _ => 0 - (intOf n).toNat)
 case atStart => exact ⟨Nat.min 1 0, Nat.le_refl _, by decide, rfl, HP1, HB2⟩
 case round =>
  obtain ⟨a, ha1, ha2, rfl, HN, HBr⟩ := hrel
  by_cases hlt2 : a < 0
  ·exact absurd hlt2 (Nat.not_lt_zero _)
  ·obtain rfl : a = 0 := by omega
   have HRow := Lib.hid (six_row (n := w.heap.size) (Nat.le_refl _) (by omega) HN.out)
   go_wp2_with fail
   go_ret
   exact ⟨_, rfl, HRow.out, HBr.out⟩
set_option maxRecDepth 100000 in
set_option maxHeartbeats 4000000 in
theorem rep_1 (B : Nat) (w : World) (hB : w.heap[B]? = some (.cells #[.int .i64 6] 3)) : Calls Tryz.prog 132 #[.slice (some ⟨B, 0, none⟩) 1 1, .int .i64 1] w fun e w' => ∃ v', e = .returned v' ∧ IntsR true w' (fun b => w.heap.size ≤ b) v' (List.replicate 1 6) ∧ Below w.heap.size w w' := by
 obtain ⟨q0, f0⟩ := blk hB
 have hlt : B < w.heap.size := (Array.getElem?_eq_some_iff.1 hB).1
 obtain ⟨W1, hW1⟩ : ∃ W1, w.alloc (.cells (sixes 1 0).toArray 3) = W1 := ⟨_, rfl⟩
 have hmk : (Instr.makeSlice 34 (.int .i64 1) (.int .i64 1)).run Tryz.prog w = .ok (.slice (some ⟨w.heap.size, 0, none⟩) 1 1) W1 := by
  have h := run_make_row' (P := Tryz.prog) 34 3 (.int .i64 0) 8 Tryz.underlying34 (by kernel_rfl) rfl .i64 .i64 1 (by omega) (by omega) w
  have e : madeCells #[Value.int .i64 0] 1 = (sixes 1 0).toArray := by kernel_rfl
  rw [← hW1, ← e]
  exact h
 have hb1 : Below w.heap.size w W1 := hW1 ▸ (Below.refl _ _).alloc (Nat.le_refl _) _
 have hN : W1.heap[w.heap.size]? = some (.cells (sixes 1 0).toArray 3) := hW1 ▸ heap_new _ _ rfl
 have hcp := copy_six W1 w.heap.size B 1 0 (Nat.min 1 1) 1 1 hN (Nat.zero_le _) rfl (fun j hj => by
  have : j = 0 := by have : Nat.min 1 1 ≤ 1 := Nat.min_le_left _ _; omega
  subst this
  rw [(blk (heap_below hb1 hB)).1 0]; rfl)
 have hp1 := put_cells W1 w.heap.size 0 (List.replicate (Nat.min 1 1) (.int .i64 6)) (sixes 1 0) 3 hN (by rw [sixes_len (Nat.zero_le _), List.length_replicate]; decide)
 rw [List.length_replicate, sixes_put (q := 1) (a := 0) (m := Nat.min 1 1) (by decide)] at hp1
 have hb2 : Below w.heap.size w (W1.setCells w.heap.size 0 (List.replicate (Nat.min 1 1) (.int .i64 6))) := hb1.trans (setCells_below (Nat.le_refl _))
 have HCP : Hid ((Builtin.copy_ #[34, 34] 3 #[.slice (some ⟨w.heap.size, 0, none⟩) 1 1, .slice (some ⟨B, 0, none⟩) 1 1]).run Tryz.prog W1 = .ok (.int .i64 ((Nat.min 1 1 : Nat) : Int)) (W1.setCells w.heap.size 0 (List.replicate (Nat.min 1 1) (.int .i64 6)))) := Lib.hid hcp
 obtain ⟨W2, hW2⟩ : ∃ W2, W1.setCells w.heap.size 0 (List.replicate (Nat.min 1 1) (.int .i64 6)) = W2 := ⟨_, rfl⟩
 rw [hW2] at HCP hp1 hb2
 have HP1 := Lib.hid hp1
 have HB2 := Lib.hid hb2
 clear hcp hp1 hb2 hW2 hN hb1 hW1 q0 f0 hB
 go_enter Tryz.func132, Tryz.ntmps132
 go_wp2_with (first
  | (go_at_call 146; refine (mul_1 _).mono ?_; rintro e w2 ⟨rfl, hw2⟩; obtain rfl := hw2.symm)
  | (refine wpList_copy_run _ rfl _ _ _ _ rfl _ _ rfl rfl _ _ HCP.out ?_))
 go_loopw [8] (fun n wr => ∃ a : Nat, Nat.min 1 1 ≤ a ∧ a ≤ 1 ∧ n = .int .i64 a ∧ Hid (wr.heap[w.heap.size]? = some (.cells (sixes 1 a).toArray 3)) ∧ Hid (Below w.heap.size w wr)) (fun n _ => 1 - (intOf n).toNat)
 case atStart => exact ⟨Nat.min 1 1, Nat.le_refl _, by decide, rfl, HP1, HB2⟩
 case round =>
  obtain ⟨a, ha1, ha2, rfl, HN, HBr⟩ := hrel
  by_cases hlt2 : a < 1
  ·exact absurd hlt2 (by have : 1 ≤ a := ha1; omega)
  ·obtain rfl : a = 1 := by omega
   have HRow := Lib.hid (six_row (n := w.heap.size) (Nat.le_refl _) (by omega) HN.out)
   go_wp2_with fail
   go_ret
   exact ⟨_, rfl, HRow.out, HBr.out⟩
set_option maxRecDepth 100000 in
set_option maxHeartbeats 4000000 in
theorem rep_2 (B : Nat) (w : World) (hB : w.heap[B]? = some (.cells #[.int .i64 6] 3)) : Calls Tryz.prog 132 #[.slice (some ⟨B, 0, none⟩) 1 1, .int .i64 2] w fun e w' => ∃ v', e = .returned v' ∧ IntsR true w' (fun b => w.heap.size ≤ b) v' (List.replicate 2 6) ∧ Below w.heap.size w w' := by
 obtain ⟨q0, f0⟩ := blk hB
 have hlt : B < w.heap.size := (Array.getElem?_eq_some_iff.1 hB).1
 obtain ⟨W1, hW1⟩ : ∃ W1, w.alloc (.cells (sixes 2 0).toArray 3) = W1 := ⟨_, rfl⟩
 have hmk : (Instr.makeSlice 34 (.int .i64 2) (.int .i64 2)).run Tryz.prog w = .ok (.slice (some ⟨w.heap.size, 0, none⟩) 2 2) W1 := by
  have h := run_make_row' (P := Tryz.prog) 34 3 (.int .i64 0) 8 Tryz.underlying34 (by kernel_rfl) rfl .i64 .i64 2 (by omega) (by omega) w
  have e : madeCells #[Value.int .i64 0] 2 = (sixes 2 0).toArray := by kernel_rfl
  rw [← hW1, ← e]
  exact h
 have hb1 : Below w.heap.size w W1 := hW1 ▸ (Below.refl _ _).alloc (Nat.le_refl _) _
 have hN : W1.heap[w.heap.size]? = some (.cells (sixes 2 0).toArray 3) := hW1 ▸ heap_new _ _ rfl
 have hcp := copy_six W1 w.heap.size B 2 0 (Nat.min 1 2) 1 1 hN (Nat.zero_le _) rfl (fun j hj => by
  have : j = 0 := by have : Nat.min 1 2 ≤ 1 := Nat.min_le_left _ _; omega
  subst this
  rw [(blk (heap_below hb1 hB)).1 0]; rfl)
 have hp1 := put_cells W1 w.heap.size 0 (List.replicate (Nat.min 1 2) (.int .i64 6)) (sixes 2 0) 3 hN (by rw [sixes_len (Nat.zero_le _), List.length_replicate]; decide)
 rw [List.length_replicate, sixes_put (q := 2) (a := 0) (m := Nat.min 1 2) (by decide)] at hp1
 have hb2 : Below w.heap.size w (W1.setCells w.heap.size 0 (List.replicate (Nat.min 1 2) (.int .i64 6))) := hb1.trans (setCells_below (Nat.le_refl _))
 have HCP : Hid ((Builtin.copy_ #[34, 34] 3 #[.slice (some ⟨w.heap.size, 0, none⟩) 2 2, .slice (some ⟨B, 0, none⟩) 1 1]).run Tryz.prog W1 = .ok (.int .i64 ((Nat.min 1 2 : Nat) : Int)) (W1.setCells w.heap.size 0 (List.replicate (Nat.min 1 2) (.int .i64 6)))) := Lib.hid hcp
 obtain ⟨W2, hW2⟩ : ∃ W2, W1.setCells w.heap.size 0 (List.replicate (Nat.min 1 2) (.int .i64 6)) = W2 := ⟨_, rfl⟩
 rw [hW2] at HCP hp1 hb2
 have HP1 := Lib.hid hp1
 have HB2 := Lib.hid hb2
 clear hcp hp1 hb2 hW2 hN hb1 hW1 q0 f0 hB
 go_enter Tryz.func132, Tryz.ntmps132
 go_wp2_with (first
  | (go_at_call 146; refine (mul_2 _).mono ?_; rintro e w2 ⟨rfl, hw2⟩; obtain rfl := hw2.symm)
  | (refine wpList_copy_run _ rfl _ _ _ _ rfl _ _ rfl rfl _ _ HCP.out ?_))
 go_loopw [8] (fun n wr => ∃ a : Nat, Nat.min 1 2 ≤ a ∧ a ≤ 2 ∧ n = .int .i64 a ∧ Hid (wr.heap[w.heap.size]? = some (.cells (sixes 2 a).toArray 3)) ∧ Hid (Below w.heap.size w wr)) (fun n _ => 2 - (intOf n).toNat)
 case atStart => exact ⟨Nat.min 1 2, Nat.le_refl _, by decide, rfl, HP1, HB2⟩
 case round =>
  obtain ⟨a, ha1, ha2, rfl, HN, HBr⟩ := hrel
  by_cases hlt2 : a < 2
  ·have ha0 : Nat.min 1 2 ≤ a := ha1
   have hN := HN.out
   have hcp := copy_six wr.drew w.heap.size w.heap.size 2 a (Nat.min a (2 - a)) a 2 hN ha2 rfl (fun j hj => by
    have : Nat.min a (2 - a) ≤ a := Nat.min_le_left _ _
    rw [cell_of_heap (w := wr.drew) (B := w.heap.size) hN]
    simp only [List.getElem?_toArray]
    exact sixes_get (by omega))
   have hml : Nat.min a (2 - a) ≤ 2 - a := Nat.min_le_right _ _
   have hma : Nat.min a (2 - a) ≤ a := Nat.min_le_left _ _
   obtain ⟨m, hm⟩ : ∃ m, Nat.min a (2 - a) = m := ⟨_, rfl⟩
   have hm0 : 0 < m := by
    rw [← hm]
    have h1 : 0 < a := by first | omega | exact Nat.lt_of_lt_of_le (by decide) ha0
    exact Nat.lt_min.2 ⟨h1, by omega⟩
   rw [hm] at hcp hml hma
   have hp := put_cells wr.drew w.heap.size a (List.replicate m (.int .i64 6)) (sixes 2 a) 3 hN (by rw [sixes_len ha2, List.length_replicate]; omega)
   rw [List.length_replicate, sixes_put (by omega)] at hp
   have hb3 : Below w.heap.size w (wr.drew.setCells w.heap.size a (List.replicate m (.int .i64 6))) := HBr.out.drew.trans (setCells_below (Nat.le_refl _))
   have HC2 := Lib.hid hcp
   have HP := Lib.hid hp
   have HB3 := Lib.hid hb3
   have hne : ¬ 2 = a := by omega
   have hne2 : ¬ a = 2 := by omega
   have j0 : (0 : Int) ≤ (a : Int) := Int.natCast_nonneg _
   have j1 : (a : Int) ≤ 2 := by omega
   clear hcp hp hb3 hN hm ha0
   have HM0 := Lib.hid (And.intro hm0 (And.intro hml ha1))
   have hw9 : IntKind.i64.wrap ((a : Int) + (m : Int)) = ((a + m : Nat) : Int) := by rw [IntKind.wrap_i64]; omega
   go_wp2_with fail
   go_region_held3 (fun _ => True) (trivial) ((refine step_copy_run (by rfl) _ _ _ _ (by rfl) _ _ (by rfl) (by rfl) _ _ HC2.out ?_))
   go_wp2_with fail
   go_roundw
   case rel => exact ⟨a + m, by have := HM0.out; omega, by have := HM0.out; omega, by go_num, HP, HB3⟩
   case measure => have := HM0.out; simp only [intOf]; omega
  ·obtain rfl : a = 2 := by omega
   have HRow := Lib.hid (six_row (n := w.heap.size) (Nat.le_refl _) (by omega) HN.out)
   go_wp2_with fail
   go_ret
   exact ⟨_, rfl, HRow.out, HBr.out⟩
set_option maxRecDepth 100000 in
set_option maxHeartbeats 4000000 in
theorem rep_3 (B : Nat) (w : World) (hB : w.heap[B]? = some (.cells #[.int .i64 6] 3)) : Calls Tryz.prog 132 #[.slice (some ⟨B, 0, none⟩) 1 1, .int .i64 3] w fun e w' => ∃ v', e = .returned v' ∧ IntsR true w' (fun b => w.heap.size ≤ b) v' (List.replicate 3 6) ∧ Below w.heap.size w w' := by
 obtain ⟨q0, f0⟩ := blk hB
 have hlt : B < w.heap.size := (Array.getElem?_eq_some_iff.1 hB).1
 obtain ⟨W1, hW1⟩ : ∃ W1, w.alloc (.cells (sixes 3 0).toArray 3) = W1 := ⟨_, rfl⟩
 have hmk : (Instr.makeSlice 34 (.int .i64 3) (.int .i64 3)).run Tryz.prog w = .ok (.slice (some ⟨w.heap.size, 0, none⟩) 3 3) W1 := by
  have h := run_make_row' (P := Tryz.prog) 34 3 (.int .i64 0) 8 Tryz.underlying34 (by kernel_rfl) rfl .i64 .i64 3 (by omega) (by omega) w
  have e : madeCells #[Value.int .i64 0] 3 = (sixes 3 0).toArray := by kernel_rfl
  rw [← hW1, ← e]
  exact h
 have hb1 : Below w.heap.size w W1 := hW1 ▸ (Below.refl _ _).alloc (Nat.le_refl _) _
 have hN : W1.heap[w.heap.size]? = some (.cells (sixes 3 0).toArray 3) := hW1 ▸ heap_new _ _ rfl
 have hcp := copy_six W1 w.heap.size B 3 0 (Nat.min 1 3) 1 1 hN (Nat.zero_le _) rfl (fun j hj => by
  have : j = 0 := by have : Nat.min 1 3 ≤ 1 := Nat.min_le_left _ _; omega
  subst this
  rw [(blk (heap_below hb1 hB)).1 0]; rfl)
 have hp1 := put_cells W1 w.heap.size 0 (List.replicate (Nat.min 1 3) (.int .i64 6)) (sixes 3 0) 3 hN (by rw [sixes_len (Nat.zero_le _), List.length_replicate]; decide)
 rw [List.length_replicate, sixes_put (q := 3) (a := 0) (m := Nat.min 1 3) (by decide)] at hp1
 have hb2 : Below w.heap.size w (W1.setCells w.heap.size 0 (List.replicate (Nat.min 1 3) (.int .i64 6))) := hb1.trans (setCells_below (Nat.le_refl _))
 have HCP : Hid ((Builtin.copy_ #[34, 34] 3 #[.slice (some ⟨w.heap.size, 0, none⟩) 3 3, .slice (some ⟨B, 0, none⟩) 1 1]).run Tryz.prog W1 = .ok (.int .i64 ((Nat.min 1 3 : Nat) : Int)) (W1.setCells w.heap.size 0 (List.replicate (Nat.min 1 3) (.int .i64 6)))) := Lib.hid hcp
 obtain ⟨W2, hW2⟩ : ∃ W2, W1.setCells w.heap.size 0 (List.replicate (Nat.min 1 3) (.int .i64 6)) = W2 := ⟨_, rfl⟩
 rw [hW2] at HCP hp1 hb2
 have HP1 := Lib.hid hp1
 have HB2 := Lib.hid hb2
 clear hcp hp1 hb2 hW2 hN hb1 hW1 q0 f0 hB
 go_enter Tryz.func132, Tryz.ntmps132
 go_wp2_with (first
  | (go_at_call 146; refine (mul_3 _).mono ?_; rintro e w2 ⟨rfl, hw2⟩; obtain rfl := hw2.symm)
  | (refine wpList_copy_run _ rfl _ _ _ _ rfl _ _ rfl rfl _ _ HCP.out ?_))
 go_loopw [8] (fun n wr => ∃ a : Nat, Nat.min 1 3 ≤ a ∧ a ≤ 3 ∧ n = .int .i64 a ∧ Hid (wr.heap[w.heap.size]? = some (.cells (sixes 3 a).toArray 3)) ∧ Hid (Below w.heap.size w wr)) (fun n _ => 3 - (intOf n).toNat)
 case atStart => exact ⟨Nat.min 1 3, Nat.le_refl _, by decide, rfl, HP1, HB2⟩
 case round =>
  obtain ⟨a, ha1, ha2, rfl, HN, HBr⟩ := hrel
  by_cases hlt2 : a < 3
  ·have ha0 : Nat.min 1 3 ≤ a := ha1
   have hN := HN.out
   have hcp := copy_six wr.drew w.heap.size w.heap.size 3 a (Nat.min a (3 - a)) a 3 hN ha2 rfl (fun j hj => by
    have : Nat.min a (3 - a) ≤ a := Nat.min_le_left _ _
    rw [cell_of_heap (w := wr.drew) (B := w.heap.size) hN]
    simp only [List.getElem?_toArray]
    exact sixes_get (by omega))
   have hml : Nat.min a (3 - a) ≤ 3 - a := Nat.min_le_right _ _
   have hma : Nat.min a (3 - a) ≤ a := Nat.min_le_left _ _
   obtain ⟨m, hm⟩ : ∃ m, Nat.min a (3 - a) = m := ⟨_, rfl⟩
   have hm0 : 0 < m := by
    rw [← hm]
    have h1 : 0 < a := by first | omega | exact Nat.lt_of_lt_of_le (by decide) ha0
    exact Nat.lt_min.2 ⟨h1, by omega⟩
   rw [hm] at hcp hml hma
   have hp := put_cells wr.drew w.heap.size a (List.replicate m (.int .i64 6)) (sixes 3 a) 3 hN (by rw [sixes_len ha2, List.length_replicate]; omega)
   rw [List.length_replicate, sixes_put (by omega)] at hp
   have hb3 : Below w.heap.size w (wr.drew.setCells w.heap.size a (List.replicate m (.int .i64 6))) := HBr.out.drew.trans (setCells_below (Nat.le_refl _))
   have HC2 := Lib.hid hcp
   have HP := Lib.hid hp
   have HB3 := Lib.hid hb3
   have hne : ¬ 3 = a := by omega
   have hne2 : ¬ a = 3 := by omega
   have j0 : (0 : Int) ≤ (a : Int) := Int.natCast_nonneg _
   have j1 : (a : Int) ≤ 3 := by omega
   clear hcp hp hb3 hN hm ha0
   have HM0 := Lib.hid (And.intro hm0 (And.intro hml ha1))
   have hw9 : IntKind.i64.wrap ((a : Int) + (m : Int)) = ((a + m : Nat) : Int) := by rw [IntKind.wrap_i64]; omega
   go_wp2_with fail
   go_region_held3 (fun _ => True) (trivial) ((refine step_copy_run (by rfl) _ _ _ _ (by rfl) _ _ (by rfl) (by rfl) _ _ HC2.out ?_))
   go_wp2_with fail
   go_roundw
   case rel => exact ⟨a + m, by have := HM0.out; omega, by have := HM0.out; omega, by go_num, HP, HB3⟩
   case measure => have := HM0.out; simp only [intOf]; omega
  ·obtain rfl : a = 3 := by omega
   have HRow := Lib.hid (six_row (n := w.heap.size) (Nat.le_refl _) (by omega) HN.out)
   go_wp2_with fail
   go_ret
   exact ⟨_, rfl, HRow.out, HBr.out⟩
set_option maxRecDepth 100000 in
set_option maxHeartbeats 4000000 in
theorem rep_4 (B : Nat) (w : World) (hB : w.heap[B]? = some (.cells #[.int .i64 6] 3)) : Calls Tryz.prog 132 #[.slice (some ⟨B, 0, none⟩) 1 1, .int .i64 4] w fun e w' => ∃ v', e = .returned v' ∧ IntsR true w' (fun b => w.heap.size ≤ b) v' (List.replicate 4 6) ∧ Below w.heap.size w w' := by
 obtain ⟨q0, f0⟩ := blk hB
 have hlt : B < w.heap.size := (Array.getElem?_eq_some_iff.1 hB).1
 obtain ⟨W1, hW1⟩ : ∃ W1, w.alloc (.cells (sixes 4 0).toArray 3) = W1 := ⟨_, rfl⟩
 have hmk : (Instr.makeSlice 34 (.int .i64 4) (.int .i64 4)).run Tryz.prog w = .ok (.slice (some ⟨w.heap.size, 0, none⟩) 4 4) W1 := by
  have h := run_make_row' (P := Tryz.prog) 34 3 (.int .i64 0) 8 Tryz.underlying34 (by kernel_rfl) rfl .i64 .i64 4 (by omega) (by omega) w
  have e : madeCells #[Value.int .i64 0] 4 = (sixes 4 0).toArray := by kernel_rfl
  rw [← hW1, ← e]
  exact h
 have hb1 : Below w.heap.size w W1 := hW1 ▸ (Below.refl _ _).alloc (Nat.le_refl _) _
 have hN : W1.heap[w.heap.size]? = some (.cells (sixes 4 0).toArray 3) := hW1 ▸ heap_new _ _ rfl
 have hcp := copy_six W1 w.heap.size B 4 0 (Nat.min 1 4) 1 1 hN (Nat.zero_le _) rfl (fun j hj => by
  have : j = 0 := by have : Nat.min 1 4 ≤ 1 := Nat.min_le_left _ _; omega
  subst this
  rw [(blk (heap_below hb1 hB)).1 0]; rfl)
 have hp1 := put_cells W1 w.heap.size 0 (List.replicate (Nat.min 1 4) (.int .i64 6)) (sixes 4 0) 3 hN (by rw [sixes_len (Nat.zero_le _), List.length_replicate]; decide)
 rw [List.length_replicate, sixes_put (q := 4) (a := 0) (m := Nat.min 1 4) (by decide)] at hp1
 have hb2 : Below w.heap.size w (W1.setCells w.heap.size 0 (List.replicate (Nat.min 1 4) (.int .i64 6))) := hb1.trans (setCells_below (Nat.le_refl _))
 have HCP : Hid ((Builtin.copy_ #[34, 34] 3 #[.slice (some ⟨w.heap.size, 0, none⟩) 4 4, .slice (some ⟨B, 0, none⟩) 1 1]).run Tryz.prog W1 = .ok (.int .i64 ((Nat.min 1 4 : Nat) : Int)) (W1.setCells w.heap.size 0 (List.replicate (Nat.min 1 4) (.int .i64 6)))) := Lib.hid hcp
 obtain ⟨W2, hW2⟩ : ∃ W2, W1.setCells w.heap.size 0 (List.replicate (Nat.min 1 4) (.int .i64 6)) = W2 := ⟨_, rfl⟩
 rw [hW2] at HCP hp1 hb2
 have HP1 := Lib.hid hp1
 have HB2 := Lib.hid hb2
 clear hcp hp1 hb2 hW2 hN hb1 hW1 q0 f0 hB
 go_enter Tryz.func132, Tryz.ntmps132
 go_wp2_with (first
  | (go_at_call 146; refine (mul_4 _).mono ?_; rintro e w2 ⟨rfl, hw2⟩; obtain rfl := hw2.symm)
  | (refine wpList_copy_run _ rfl _ _ _ _ rfl _ _ rfl rfl _ _ HCP.out ?_))
 go_loopw [8] (fun n wr => ∃ a : Nat, Nat.min 1 4 ≤ a ∧ a ≤ 4 ∧ n = .int .i64 a ∧ Hid (wr.heap[w.heap.size]? = some (.cells (sixes 4 a).toArray 3)) ∧ Hid (Below w.heap.size w wr)) (fun n _ => 4 - (intOf n).toNat)
 case atStart => exact ⟨Nat.min 1 4, Nat.le_refl _, by decide, rfl, HP1, HB2⟩
 case round =>
  obtain ⟨a, ha1, ha2, rfl, HN, HBr⟩ := hrel
  by_cases hlt2 : a < 4
  ·have ha0 : Nat.min 1 4 ≤ a := ha1
   have hN := HN.out
   have hcp := copy_six wr.drew w.heap.size w.heap.size 4 a (Nat.min a (4 - a)) a 4 hN ha2 rfl (fun j hj => by
    have : Nat.min a (4 - a) ≤ a := Nat.min_le_left _ _
    rw [cell_of_heap (w := wr.drew) (B := w.heap.size) hN]
    simp only [List.getElem?_toArray]
    exact sixes_get (by omega))
   have hml : Nat.min a (4 - a) ≤ 4 - a := Nat.min_le_right _ _
   have hma : Nat.min a (4 - a) ≤ a := Nat.min_le_left _ _
   obtain ⟨m, hm⟩ : ∃ m, Nat.min a (4 - a) = m := ⟨_, rfl⟩
   have hm0 : 0 < m := by
    rw [← hm]
    have h1 : 0 < a := by first | omega | exact Nat.lt_of_lt_of_le (by decide) ha0
    exact Nat.lt_min.2 ⟨h1, by omega⟩
   rw [hm] at hcp hml hma
   have hp := put_cells wr.drew w.heap.size a (List.replicate m (.int .i64 6)) (sixes 4 a) 3 hN (by rw [sixes_len ha2, List.length_replicate]; omega)
   rw [List.length_replicate, sixes_put (by omega)] at hp
   have hb3 : Below w.heap.size w (wr.drew.setCells w.heap.size a (List.replicate m (.int .i64 6))) := HBr.out.drew.trans (setCells_below (Nat.le_refl _))
   have HC2 := Lib.hid hcp
   have HP := Lib.hid hp
   have HB3 := Lib.hid hb3
   have hne : ¬ 4 = a := by omega
   have hne2 : ¬ a = 4 := by omega
   have j0 : (0 : Int) ≤ (a : Int) := Int.natCast_nonneg _
   have j1 : (a : Int) ≤ 4 := by omega
   clear hcp hp hb3 hN hm ha0
   have HM0 := Lib.hid (And.intro hm0 (And.intro hml ha1))
   have hw9 : IntKind.i64.wrap ((a : Int) + (m : Int)) = ((a + m : Nat) : Int) := by rw [IntKind.wrap_i64]; omega
   go_wp2_with fail
   go_region_held3 (fun _ => True) (trivial) ((refine step_copy_run (by rfl) _ _ _ _ (by rfl) _ _ (by rfl) (by rfl) _ _ HC2.out ?_))
   go_wp2_with fail
   go_roundw
   case rel => exact ⟨a + m, by have := HM0.out; omega, by have := HM0.out; omega, by go_num, HP, HB3⟩
   case measure => have := HM0.out; simp only [intOf]; omega
  ·obtain rfl : a = 4 := by omega
   have HRow := Lib.hid (six_row (n := w.heap.size) (Nat.le_refl _) (by omega) HN.out)
   go_wp2_with fail
   go_ret
   exact ⟨_, rfl, HRow.out, HBr.out⟩
set_option maxRecDepth 100000 in
set_option maxHeartbeats 4000000 in
theorem rep_5 (B : Nat) (w : World) (hB : w.heap[B]? = some (.cells #[.int .i64 6] 3)) : Calls Tryz.prog 132 #[.slice (some ⟨B, 0, none⟩) 1 1, .int .i64 5] w fun e w' => ∃ v', e = .returned v' ∧ IntsR true w' (fun b => w.heap.size ≤ b) v' (List.replicate 5 6) ∧ Below w.heap.size w w' := by
 obtain ⟨q0, f0⟩ := blk hB
 have hlt : B < w.heap.size := (Array.getElem?_eq_some_iff.1 hB).1
 obtain ⟨W1, hW1⟩ : ∃ W1, w.alloc (.cells (sixes 5 0).toArray 3) = W1 := ⟨_, rfl⟩
 have hmk : (Instr.makeSlice 34 (.int .i64 5) (.int .i64 5)).run Tryz.prog w = .ok (.slice (some ⟨w.heap.size, 0, none⟩) 5 5) W1 := by
  have h := run_make_row' (P := Tryz.prog) 34 3 (.int .i64 0) 8 Tryz.underlying34 (by kernel_rfl) rfl .i64 .i64 5 (by omega) (by omega) w
  have e : madeCells #[Value.int .i64 0] 5 = (sixes 5 0).toArray := by kernel_rfl
  rw [← hW1, ← e]
  exact h
 have hb1 : Below w.heap.size w W1 := hW1 ▸ (Below.refl _ _).alloc (Nat.le_refl _) _
 have hN : W1.heap[w.heap.size]? = some (.cells (sixes 5 0).toArray 3) := hW1 ▸ heap_new _ _ rfl
 have hcp := copy_six W1 w.heap.size B 5 0 (Nat.min 1 5) 1 1 hN (Nat.zero_le _) rfl (fun j hj => by
  have : j = 0 := by have : Nat.min 1 5 ≤ 1 := Nat.min_le_left _ _; omega
  subst this
  rw [(blk (heap_below hb1 hB)).1 0]; rfl)
 have hp1 := put_cells W1 w.heap.size 0 (List.replicate (Nat.min 1 5) (.int .i64 6)) (sixes 5 0) 3 hN (by rw [sixes_len (Nat.zero_le _), List.length_replicate]; decide)
 rw [List.length_replicate, sixes_put (q := 5) (a := 0) (m := Nat.min 1 5) (by decide)] at hp1
 have hb2 : Below w.heap.size w (W1.setCells w.heap.size 0 (List.replicate (Nat.min 1 5) (.int .i64 6))) := hb1.trans (setCells_below (Nat.le_refl _))
 have HCP : Hid ((Builtin.copy_ #[34, 34] 3 #[.slice (some ⟨w.heap.size, 0, none⟩) 5 5, .slice (some ⟨B, 0, none⟩) 1 1]).run Tryz.prog W1 = .ok (.int .i64 ((Nat.min 1 5 : Nat) : Int)) (W1.setCells w.heap.size 0 (List.replicate (Nat.min 1 5) (.int .i64 6)))) := Lib.hid hcp
 obtain ⟨W2, hW2⟩ : ∃ W2, W1.setCells w.heap.size 0 (List.replicate (Nat.min 1 5) (.int .i64 6)) = W2 := ⟨_, rfl⟩
 rw [hW2] at HCP hp1 hb2
 have HP1 := Lib.hid hp1
 have HB2 := Lib.hid hb2
 clear hcp hp1 hb2 hW2 hN hb1 hW1 q0 f0 hB
 go_enter Tryz.func132, Tryz.ntmps132
 go_wp2_with (first
  | (go_at_call 146; refine (mul_5 _).mono ?_; rintro e w2 ⟨rfl, hw2⟩; obtain rfl := hw2.symm)
  | (refine wpList_copy_run _ rfl _ _ _ _ rfl _ _ rfl rfl _ _ HCP.out ?_))
 go_loopw [8] (fun n wr => ∃ a : Nat, Nat.min 1 5 ≤ a ∧ a ≤ 5 ∧ n = .int .i64 a ∧ Hid (wr.heap[w.heap.size]? = some (.cells (sixes 5 a).toArray 3)) ∧ Hid (Below w.heap.size w wr)) (fun n _ => 5 - (intOf n).toNat)
 case atStart => exact ⟨Nat.min 1 5, Nat.le_refl _, by decide, rfl, HP1, HB2⟩
 case round =>
  obtain ⟨a, ha1, ha2, rfl, HN, HBr⟩ := hrel
  by_cases hlt2 : a < 5
  ·have ha0 : Nat.min 1 5 ≤ a := ha1
   have hN := HN.out
   have hcp := copy_six wr.drew w.heap.size w.heap.size 5 a (Nat.min a (5 - a)) a 5 hN ha2 rfl (fun j hj => by
    have : Nat.min a (5 - a) ≤ a := Nat.min_le_left _ _
    rw [cell_of_heap (w := wr.drew) (B := w.heap.size) hN]
    simp only [List.getElem?_toArray]
    exact sixes_get (by omega))
   have hml : Nat.min a (5 - a) ≤ 5 - a := Nat.min_le_right _ _
   have hma : Nat.min a (5 - a) ≤ a := Nat.min_le_left _ _
   obtain ⟨m, hm⟩ : ∃ m, Nat.min a (5 - a) = m := ⟨_, rfl⟩
   have hm0 : 0 < m := by
    rw [← hm]
    have h1 : 0 < a := by first | omega | exact Nat.lt_of_lt_of_le (by decide) ha0
    exact Nat.lt_min.2 ⟨h1, by omega⟩
   rw [hm] at hcp hml hma
   have hp := put_cells wr.drew w.heap.size a (List.replicate m (.int .i64 6)) (sixes 5 a) 3 hN (by rw [sixes_len ha2, List.length_replicate]; omega)
   rw [List.length_replicate, sixes_put (by omega)] at hp
   have hb3 : Below w.heap.size w (wr.drew.setCells w.heap.size a (List.replicate m (.int .i64 6))) := HBr.out.drew.trans (setCells_below (Nat.le_refl _))
   have HC2 := Lib.hid hcp
   have HP := Lib.hid hp
   have HB3 := Lib.hid hb3
   have hne : ¬ 5 = a := by omega
   have hne2 : ¬ a = 5 := by omega
   have j0 : (0 : Int) ≤ (a : Int) := Int.natCast_nonneg _
   have j1 : (a : Int) ≤ 5 := by omega
   clear hcp hp hb3 hN hm ha0
   have HM0 := Lib.hid (And.intro hm0 (And.intro hml ha1))
   have hw9 : IntKind.i64.wrap ((a : Int) + (m : Int)) = ((a + m : Nat) : Int) := by rw [IntKind.wrap_i64]; omega
   go_wp2_with fail
   go_region_held3 (fun _ => True) (trivial) ((refine step_copy_run (by rfl) _ _ _ _ (by rfl) _ _ (by rfl) (by rfl) _ _ HC2.out ?_))
   go_wp2_with fail
   go_roundw
   case rel => exact ⟨a + m, by have := HM0.out; omega, by have := HM0.out; omega, by go_num, HP, HB3⟩
   case measure => have := HM0.out; simp only [intOf]; omega
  ·obtain rfl : a = 5 := by omega
   have HRow := Lib.hid (six_row (n := w.heap.size) (Nat.le_refl _) (by omega) HN.out)
   go_wp2_with fail
   go_ret
   exact ⟨_, rfl, HRow.out, HBr.out⟩
set_option maxRecDepth 100000 in
set_option maxHeartbeats 4000000 in
theorem rep_6 (B : Nat) (w : World) (hB : w.heap[B]? = some (.cells #[.int .i64 6] 3)) : Calls Tryz.prog 132 #[.slice (some ⟨B, 0, none⟩) 1 1, .int .i64 6] w fun e w' => ∃ v', e = .returned v' ∧ IntsR true w' (fun b => w.heap.size ≤ b) v' (List.replicate 6 6) ∧ Below w.heap.size w w' := by
 obtain ⟨q0, f0⟩ := blk hB
 have hlt : B < w.heap.size := (Array.getElem?_eq_some_iff.1 hB).1
 obtain ⟨W1, hW1⟩ : ∃ W1, w.alloc (.cells (sixes 6 0).toArray 3) = W1 := ⟨_, rfl⟩
 have hmk : (Instr.makeSlice 34 (.int .i64 6) (.int .i64 6)).run Tryz.prog w = .ok (.slice (some ⟨w.heap.size, 0, none⟩) 6 6) W1 := by
  have h := run_make_row' (P := Tryz.prog) 34 3 (.int .i64 0) 8 Tryz.underlying34 (by kernel_rfl) rfl .i64 .i64 6 (by omega) (by omega) w
  have e : madeCells #[Value.int .i64 0] 6 = (sixes 6 0).toArray := by kernel_rfl
  rw [← hW1, ← e]
  exact h
 have hb1 : Below w.heap.size w W1 := hW1 ▸ (Below.refl _ _).alloc (Nat.le_refl _) _
 have hN : W1.heap[w.heap.size]? = some (.cells (sixes 6 0).toArray 3) := hW1 ▸ heap_new _ _ rfl
 have hcp := copy_six W1 w.heap.size B 6 0 (Nat.min 1 6) 1 1 hN (Nat.zero_le _) rfl (fun j hj => by
  have : j = 0 := by have : Nat.min 1 6 ≤ 1 := Nat.min_le_left _ _; omega
  subst this
  rw [(blk (heap_below hb1 hB)).1 0]; rfl)
 have hp1 := put_cells W1 w.heap.size 0 (List.replicate (Nat.min 1 6) (.int .i64 6)) (sixes 6 0) 3 hN (by rw [sixes_len (Nat.zero_le _), List.length_replicate]; decide)
 rw [List.length_replicate, sixes_put (q := 6) (a := 0) (m := Nat.min 1 6) (by decide)] at hp1
 have hb2 : Below w.heap.size w (W1.setCells w.heap.size 0 (List.replicate (Nat.min 1 6) (.int .i64 6))) := hb1.trans (setCells_below (Nat.le_refl _))
 have HCP : Hid ((Builtin.copy_ #[34, 34] 3 #[.slice (some ⟨w.heap.size, 0, none⟩) 6 6, .slice (some ⟨B, 0, none⟩) 1 1]).run Tryz.prog W1 = .ok (.int .i64 ((Nat.min 1 6 : Nat) : Int)) (W1.setCells w.heap.size 0 (List.replicate (Nat.min 1 6) (.int .i64 6)))) := Lib.hid hcp
 obtain ⟨W2, hW2⟩ : ∃ W2, W1.setCells w.heap.size 0 (List.replicate (Nat.min 1 6) (.int .i64 6)) = W2 := ⟨_, rfl⟩
 rw [hW2] at HCP hp1 hb2
 have HP1 := Lib.hid hp1
 have HB2 := Lib.hid hb2
 clear hcp hp1 hb2 hW2 hN hb1 hW1 q0 f0 hB
 go_enter Tryz.func132, Tryz.ntmps132
 go_wp2_with (first
  | (go_at_call 146; refine (mul_6 _).mono ?_; rintro e w2 ⟨rfl, hw2⟩; obtain rfl := hw2.symm)
  | (refine wpList_copy_run _ rfl _ _ _ _ rfl _ _ rfl rfl _ _ HCP.out ?_))
 go_loopw [8] (fun n wr => ∃ a : Nat, Nat.min 1 6 ≤ a ∧ a ≤ 6 ∧ n = .int .i64 a ∧ Hid (wr.heap[w.heap.size]? = some (.cells (sixes 6 a).toArray 3)) ∧ Hid (Below w.heap.size w wr)) (fun n _ => 6 - (intOf n).toNat)
 case atStart => exact ⟨Nat.min 1 6, Nat.le_refl _, by decide, rfl, HP1, HB2⟩
 case round =>
  obtain ⟨a, ha1, ha2, rfl, HN, HBr⟩ := hrel
  by_cases hlt2 : a < 6
  ·have ha0 : Nat.min 1 6 ≤ a := ha1
   have hN := HN.out
   have hcp := copy_six wr.drew w.heap.size w.heap.size 6 a (Nat.min a (6 - a)) a 6 hN ha2 rfl (fun j hj => by
    have : Nat.min a (6 - a) ≤ a := Nat.min_le_left _ _
    rw [cell_of_heap (w := wr.drew) (B := w.heap.size) hN]
    simp only [List.getElem?_toArray]
    exact sixes_get (by omega))
   have hml : Nat.min a (6 - a) ≤ 6 - a := Nat.min_le_right _ _
   have hma : Nat.min a (6 - a) ≤ a := Nat.min_le_left _ _
   obtain ⟨m, hm⟩ : ∃ m, Nat.min a (6 - a) = m := ⟨_, rfl⟩
   have hm0 : 0 < m := by
    rw [← hm]
    have h1 : 0 < a := by first | omega | exact Nat.lt_of_lt_of_le (by decide) ha0
    exact Nat.lt_min.2 ⟨h1, by omega⟩
   rw [hm] at hcp hml hma
   have hp := put_cells wr.drew w.heap.size a (List.replicate m (.int .i64 6)) (sixes 6 a) 3 hN (by rw [sixes_len ha2, List.length_replicate]; omega)
   rw [List.length_replicate, sixes_put (by omega)] at hp
   have hb3 : Below w.heap.size w (wr.drew.setCells w.heap.size a (List.replicate m (.int .i64 6))) := HBr.out.drew.trans (setCells_below (Nat.le_refl _))
   have HC2 := Lib.hid hcp
   have HP := Lib.hid hp
   have HB3 := Lib.hid hb3
   have hne : ¬ 6 = a := by omega
   have hne2 : ¬ a = 6 := by omega
   have j0 : (0 : Int) ≤ (a : Int) := Int.natCast_nonneg _
   have j1 : (a : Int) ≤ 6 := by omega
   clear hcp hp hb3 hN hm ha0
   have HM0 := Lib.hid (And.intro hm0 (And.intro hml ha1))
   have hw9 : IntKind.i64.wrap ((a : Int) + (m : Int)) = ((a + m : Nat) : Int) := by rw [IntKind.wrap_i64]; omega
   go_wp2_with fail
   go_region_held3 (fun _ => True) (trivial) ((refine step_copy_run (by rfl) _ _ _ _ (by rfl) _ _ (by rfl) (by rfl) _ _ HC2.out ?_))
   go_wp2_with fail
   go_roundw
   case rel => exact ⟨a + m, by have := HM0.out; omega, by have := HM0.out; omega, by go_num, HP, HB3⟩
   case measure => have := HM0.out; simp only [intOf]; omega
  ·obtain rfl : a = 6 := by omega
   have HRow := Lib.hid (six_row (n := w.heap.size) (Nat.le_refl _) (by omega) HN.out)
   go_wp2_with fail
   go_ret
   exact ⟨_, rfl, HRow.out, HBr.out⟩
theorem rep_any (q : Nat) (hq : q ≤ 6) (B : Nat) (w : World) (hB : w.heap[B]? = some (.cells #[.int .i64 6] 3)) : Calls Tryz.prog 132 #[.slice (some ⟨B, 0, none⟩) 1 1, .int .i64 q] w fun e w' => ∃ v', e = .returned v' ∧ IntsR true w' (fun b => w.heap.size ≤ b) v' (List.replicate q 6) ∧ Below w.heap.size w w' := by
 match q, hq with
 | 0, _ => exact rep_0 B w hB
 | 1, _ => exact rep_1 B w hB
 | 2, _ => exact rep_2 B w hB
 | 3, _ => exact rep_3 B w hB
 | 4, _ => exact rep_4 B w hB
 | 5, _ => exact rep_5 B w hB
 | 6, _ => exact rep_6 B w hB
end Go.Proofs.YtjpgffihafknlaaGreatDoor
