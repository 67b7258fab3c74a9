/- Whether two states are the same. -/
import Derived.Test.YtcliojeoindceaaGreatDoorDocPartS
set_option linter.unusedVariables false
set_option linter.unusedSimpArgs false
set_option maxHeartbeats 8000000
namespace Go.Proofs.YtcliojeoindceaaGreatDoor
open Go.RowKit
open Go.Proofs.Qw
set_option maxRecDepth 100000 in
theorem stSame_any (v u : Value) (s t : St) (w : World) (S1 S2 : Nat → Prop) (h1 : LinsR w S1 v s.lines) (h2 : LinsR w S2 u t.lines) :
  Calls Tryz.prog 32 #[stV v s, stV u t] w fun e w' => e = .returned (.bool (decide (s = t))) ∧ Below w.heap.size w w' := by
 obtain ⟨W1, hW1, hB, hz, k0, k1⟩ := st_both w v u s t
 have hs1 := hB.size
 have HC := Lib.hid (docSame_any v u s.lines t.lines W1 S1 S2 (h1.below (rdLin_stable _) hB) (h2.below (rdLin_stable _) hB))
 have HB : Hid (∀ W, Below W1.heap.size W1 W → W.heap[w.heap.size]? = some (.cells #[v, .int .i64 s.anc.line, .int .i64 s.anc.col, .int .i64 s.foc.line, .int .i64 s.foc.col, .int .i64 s.on, .int .i64 s.off] 26) ∧ W.heap[w.heap.size + 1]? = some (.cells #[u, .int .i64 t.anc.line, .int .i64 t.anc.col, .int .i64 t.foc.line, .int .i64 t.foc.col, .int .i64 t.on, .int .i64 t.off] 26)) := Lib.hid fun W hW => ⟨heap_below hW k0, heap_below hW k1⟩
 have HE : Hid (decide (s = t) = (decide (s.lines = t.lines) && (decide (s.anc = t.anc) && (decide (s.foc = t.foc) && ((s.on == t.on) && (s.off == t.off)))))) := Lib.hid (by
  obtain ⟨a1, a2, a3, a4, a5⟩ := s
  obtain ⟨b1, b2, b3, b4, b5⟩ := t
  rw [Bool.eq_iff_iff]
  simp)
 have hg := guardPos
 have hq1 := fun (w : World) => run_eql_pos s.anc t.anc w
 have hq2 := fun (w : World) => run_eql_pos s.foc t.foc w
 have H1 := Lib.hid hB
 obtain ⟨p0, f0⟩ := blk k0
 obtain ⟨p1, f1⟩ := blk k1
 obtain ⟨va, vc, rfl⟩ := h1.slice
 obtain ⟨ua, uc, rfl⟩ := h2.slice
 clear h1 h2 k0 k1 hB
 generalize decide (s = t) = r at *
 generalize decide (s.lines = t.lines) = x at *
 generalize decide (s.anc = t.anc) = y at *
 generalize decide (s.foc = t.foc) = z at *
 cases y
 all_goals
  cases z
  all_goals
   go_enter Tryz.func32, Tryz.ntmps32
   go_wp2_with (go_at_call 70; refine HC.out.mono ?_; rintro e w2 ⟨rfl, hb2⟩; obtain ⟨q0, g0⟩ := blk (HB.out _ hb2).1; obtain ⟨q1, g1⟩ := blk (HB.out _ hb2).2; cases x)
   all_goals
    go_ret
    refine ⟨?_, H1.out.trans (hb2.mono hs1)⟩
    rw [HE.out]
    refine congrArg Ending.returned (congrArg Value.bool ?_)
    clear HE HC HB H1
    simp (config := { failIfUnchanged := false }) [*]
end Go.Proofs.YtcliojeoindceaaGreatDoor
