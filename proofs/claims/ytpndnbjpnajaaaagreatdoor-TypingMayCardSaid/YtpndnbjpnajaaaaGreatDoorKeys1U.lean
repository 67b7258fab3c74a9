/- Whether a state may be, by the document. -/
import Derived.Test.YtpndnbjpnajaaaaGreatDoorDocPartU
import Derived.Test.YtpndnbjpnajaaaaGreatDoorCellsInsertU
import Derived.Test.YtpndnbjpnajaaaaGreatDoorRefTargetU
import Derived.Test.YtpndnbjpnajaaaaGreatDoorOpenMoreU
import Derived.Test.YtpndnbjpnajaaaaGreatDoorAttrWalkU
import Derived.Lib.QuoteLoop
import Derived.Lib.TrimUEq
import Derived.Test.YtpndnbjpnajaaaaGreatDoorStyStaysU
import Derived.Test.YtpndnbjpnajaaaaGreatDoorDocSplitU
set_option linter.unusedVariables false
set_option linter.unusedSimpArgs false
namespace Go.Proofs.YtpndnbjpnajaaaaGreatDoor
open Go.RowKit
open Go.Proofs.Qw
set_option maxRecDepth 100000 in
set_option maxHeartbeats 4000000 in
theorem refStMay_any (v : Value) (s : St) (w : World) (S : Nat → Prop) (h : LinsR w S v s.lines) (hs : Small s.lines) (ho : -9223372036854775808 ≤ s.on ∧ s.on ≤ 9223372036854775807) (hf : -9223372036854775808 ≤ s.off ∧ s.off ≤ 9223372036854775807) :
  Calls Tryz.prog 70 #[stV v s] w fun e w' => e = .returned (.bool (mayS s)) ∧ Below w.heap.size w w' := by
 obtain ⟨W1, hW1, hB, hz, hA⟩ := one_st w v s
 have hs1 := hB.size
 have hv := h.below (rdLin_stable _) hB
 have HC1 := Lib.hid (refMay_any v s.lines W1 S hv hs)
 have HC2 : Hid (∀ p : Ps, ∀ W, Below W1.heap.size W1 W → Calls Tryz.prog 144 #[v, .agg #[.int .i64 p.line, .int .i64 p.col]] W fun e w' => e = .returned (.bool (isD s.lines p)) ∧ Below W.heap.size W w') := Lib.hid fun p W hW => refIs_any v s.lines p W S (hv.below (rdLin_stable _) hW)
 have HB : Hid (∀ W, Below W1.heap.size W1 W → W.heap[w.heap.size]? = some (.cells #[v, .int .i64 s.anc.line, .int .i64 s.anc.col, .int .i64 s.foc.line, .int .i64 s.foc.col, .int .i64 s.on, .int .i64 s.off] 26)) := Lib.hid fun W hW => heap_below hW hA
 have HE : Hid (mayS s = (mayD s.lines && (isD s.lines s.anc && (isD s.lines s.foc && ((decide (0 ≤ s.on) && decide (s.on ≤ 15)) && ((decide (0 ≤ s.off) && decide (s.off ≤ 15)) && bits .and .i64 s.on s.off == 0)))))) := Lib.hid (by unfold mayS; rw [bits_small _ ho, bits_small _ hf])
 have H1 := Lib.hid hB
 have hw0 : Below W1.heap.size W1 W1 := Below.refl _ _
 obtain ⟨p0, f0⟩ := blk hA
 obtain ⟨va, vc, rfl⟩ := h.slice
 clear h hs hz hA hB hv ho hf
 generalize mayS s = r at *
 generalize mayD s.lines = x at *
 by_cases hq : (0 ≤ s.on ∧ s.on ≤ 15) ∧ (0 ≤ s.off ∧ s.off ≤ 15) ∧ bits .and .i64 s.on s.off = 0
 ·obtain ⟨⟨h1, h2⟩, ⟨h3, h4⟩, h5⟩ := hq
  have HE : Hid (r = (x && (isD s.lines s.anc && isD s.lines s.foc))) := Lib.hid (by rw [HE.out]; simp [h1, h2, h3, h4, h5])
  have h6 : (bits .and .i64 s.on s.off != 0) = false := by simpa using h5
  clear h5
  go_enter Tryz.func70, Tryz.ntmps70
  go_wp2_with (first
   | (go_at_call 62; refine HC1.out.mono ?_; rintro e w2 ⟨rfl, hb2⟩; obtain ⟨p3, f3⟩ := blk (HB.out _ hb2); cases x)
   | (go_at_call 144; refine (HC2.out _ _ (by assumption)).mono ?_; rintro e w3 ⟨rfl, hb3⟩; have hx3 : Below W1.heap.size W1 w3 := below_from (by assumption) hb3; clear hb3; obtain ⟨p5, f5⟩ := blk (HB.out _ hx3)))
  all_goals
   go_ret
   refine ⟨?_, H1.out.trans (Below.mono (by assumption) hs1)⟩
   rw [HE.out]
   refine congrArg Ending.returned (congrArg Value.bool ?_)
   clear HE HC1 HC2 HB H1
   simp (config := { failIfUnchanged := false }) [*]
 ·have HE : Hid (r = false) := Lib.hid (by
   rw [HE.out, Bool.eq_false_iff]
   intro h
   simp at h
   exact hq ⟨h.2.2.2.1, h.2.2.2.2.1, h.2.2.2.2.2⟩)
  have hq' : s.on < 0 ∨ (0 ≤ s.on ∧ 15 < s.on) ∨ (0 ≤ s.on ∧ s.on ≤ 15 ∧ s.off < 0) ∨ (0 ≤ s.on ∧ s.on ≤ 15 ∧ 0 ≤ s.off ∧ 15 < s.off) ∨ (0 ≤ s.on ∧ s.on ≤ 15 ∧ 0 ≤ s.off ∧ s.off ≤ 15 ∧ (bits .and .i64 s.on s.off != 0) = true) := by
   by_cases h5 : bits .and .i64 s.on s.off = 0
   ·omega
   ·have h6 : (bits .and .i64 s.on s.off != 0) = true := by simpa using h5
    simp only [h6, and_true]
    omega
  clear hq HC1 HC2
  rcases hq' with h1 | ⟨h1, h2⟩ | ⟨h1, h2, h3⟩ | ⟨h1, h2, h3, h4⟩ | ⟨h1, h2, h3, h4, h5⟩
  all_goals
   go_enter Tryz.func70, Tryz.ntmps70
   go_wp2_with fail
   go_ret
   rw [HE.out]
   exact ⟨rfl, H1.out⟩
end Go.Proofs.YtpndnbjpnajaaaaGreatDoor
namespace Go.Proofs.Qw
open Go.RowKit Go.Proofs.YtpndnbjpnajaaaaGreatDoor
def closedS (d : Doc) (p : Ps) : St := ⟨d, p, p, 0, 0⟩
def newS (d : Doc) : St × Int := if mayD d = true then (closedS d ⟨0, 0⟩, 0) else (noS, 1)
def selectS (s : St) (a f : Ps) : St × Int := if (mayS s && (isD s.lines a && isD s.lines f)) = true then (⟨s.lines, a, f, 0, 0⟩, 0) else (noS, 1)
end Go.Proofs.Qw
namespace Go.Proofs.YtpndnbjpnajaaaaGreatDoor
open Go.RowKit
open Go.Proofs.Qw
attribute [local go_sem] Oper.semAt_some
theorem pos_st (w : World) (p : Ps) : ∃ W1, (w.alloc (.cells #[.int .i64 p.line, .int .i64 p.col] 24)).alloc (.cells #[.slice none 0 0, .int .i64 0, .int .i64 0, .int .i64 0, .int .i64 0, .int .i64 0, .int .i64 0] 26) = W1 ∧ Below w.heap.size w W1 ∧ w.heap.size + 2 = W1.heap.size ∧ W1.heap[w.heap.size]? = some (.cells #[.int .i64 p.line, .int .i64 p.col] 24) ∧ W1.heap[w.heap.size + 1]? = some (.cells #[.slice none 0 0, .int .i64 0, .int .i64 0, .int .i64 0, .int .i64 0, .int .i64 0, .int .i64 0] 26) :=
 ⟨_, rfl, below2 (Below.refl _ _) _ _, by simp, heap_old _ _ (heap_new _ _ rfl), heap_new _ _ (by simp)⟩
set_option maxRecDepth 100000 in
set_option maxHeartbeats 2000000 in
theorem typClosed_any (a : Option Addr) (n c : Nat) (p : Ps) (w : World) :
  Calls Tryz.prog 140 #[.slice a n c, .agg #[.int .i64 p.line, .int .i64 p.col]] w fun e w' => e = .returned (.agg #[.slice a n c, .int .i64 p.line, .int .i64 p.col, .int .i64 p.line, .int .i64 p.col, .int .i64 0, .int .i64 0]) ∧ Below w.heap.size w w' := by
 obtain ⟨W1, hW1, hB, hz, k0, k1⟩ := pos_st w p
 have H1 := Lib.hid hB
 have HK := Lib.hid k1
 obtain ⟨p0, f0⟩ := blk k0
 obtain ⟨p1, f1⟩ := blk k1
 clear k0 k1 hB
 go_enter Tryz.func140, Tryz.ntmps140
 go_wp2_with fail
 refine bodyPost_ret (results_st rfl _ _ (w.heap.size + 1) (.slice a n c) (.int .i64 p.line) (.int .i64 p.col) (.int .i64 p.line) (.int .i64 p.col) (.int .i64 0) (.int .i64 0) rfl (by simp [heap_set, putIn, HK.out])) rfl ?_
 have hfin := H1.out
 exact ⟨rfl, by (repeat' (first | (with_reducible exact Below.refl _ _) | (with_reducible assumption) | (with_reducible refine Below.alloc ?_ ?_ _) | (with_reducible refine Below.drew ?_) | (with_reducible refine drewN_below ?_) | (with_reducible refine Below.setCell ?_ ?_ _) | go_size))⟩
set_option maxRecDepth 100000 in
set_option maxHeartbeats 2000000 in
theorem refClosed_any (v : Value) (d : Doc) (p : Ps) (w : World) (S : Nat → Prop) (h : LinsR w S v d) (hf : Fits d) :
  Calls Tryz.prog 112 #[v, .agg #[.int .i64 p.line, .int .i64 p.col]] w fun e w' => ∃ v', e = .returned (stV v' (closedS d p)) ∧ DocR true w' (fun b => w.heap.size ≤ b) v' d ∧ Below w.heap.size w w' := by
 obtain ⟨W1, hW1, hB, hz, k0, k1⟩ := pos_st w p
 have hs1 := hB.size
 have HC : Hid (∀ W, Below W1.heap.size W1 W → Calls Tryz.prog 102 #[v] W fun e w' => ∃ v', e = .returned v' ∧ DocR true w' (fun b => W.heap.size ≤ b) v' d ∧ Below W.heap.size W w') := Lib.hid fun W hW => refOwnD_any v d W S (h.below (rdLin_stable _) (hB.trans (hW.mono hs1))) hf
 have HB : Hid (∀ W, Below W1.heap.size W1 W → W.heap[w.heap.size]? = some (.cells #[.int .i64 p.line, .int .i64 p.col] 24) ∧ W.heap[w.heap.size + 1]? = some (.cells #[.slice none 0 0, .int .i64 0, .int .i64 0, .int .i64 0, .int .i64 0, .int .i64 0, .int .i64 0] 26)) := Lib.hid fun W hW => ⟨heap_below hW k0, heap_below hW k1⟩
 have H1 := Lib.hid hB
 have hb0 : Below W1.heap.size W1 W1.drew := (Below.refl _ _).drew
 obtain ⟨p0, f0⟩ := blk k0
 obtain ⟨va, vc, rfl⟩ := h.slice
 clear h hf k0 k1 hB
 go_enter Tryz.func112, Tryz.ntmps112
 go_wp2_with fail
 go_region_held3 (fun w' => w'.cell? ⟨w.heap.size, 0, none⟩ = some (.int .i64 p.line) ∧ w'.cell? ⟨w.heap.size, 1, none⟩ = some (.int .i64 p.col)) (go_keep)
  ((go_at_call 102; refine (HC.out _ hb0).mono ?_; rintro e w2 ⟨v2, rfl, hv2, hb2'⟩; obtain ⟨a2, c2, rfl⟩ := hv2.slice; have hb2 := below_from hb0 hb2'; obtain ⟨q0, g0⟩ := blk (HB.out _ hb2).1; obtain ⟨q1, g1⟩ := blk (HB.out _ hb2).2; have HV := Lib.hid hv2; clear hv2))
 go_wp2_with fail
 refine bodyPost_ret (results_st rfl _ _ (w.heap.size + 1) (.slice a2 d.length c2) (.int .i64 p.line) (.int .i64 p.col) (.int .i64 p.line) (.int .i64 p.col) (.int .i64 0) (.int .i64 0) rfl (by simp [heap_set, putIn, (HB.out _ hb2).2])) rfl ?_
 have hfin := H1.out.trans (hb2.mono hs1)
 have hv2 := HV.out
 exact ⟨_, rfl, (SliceR.stable (rdLin_stable _) hv2 (by (repeat' (first | (with_reducible exact Keeps.refl _ _) | (with_reducible refine Keeps.set ?_ ?_ _) | (with_reducible refine Keeps.alloc ?_ _) | (with_reducible refine Keeps.drew ?_) | (first | fail) | (simp; omega)))) (fun b h _ => (by have h' := h; (try simp at h'); omega))), by (repeat' (first | (with_reducible exact Below.refl _ _) | (with_reducible assumption) | (with_reducible refine Below.alloc ?_ ?_ _) | (with_reducible refine Below.drew ?_) | (with_reducible refine drewN_below ?_) | (with_reducible refine Below.setCell ?_ ?_ _) | go_size))⟩
set_option maxRecDepth 100000 in
set_option maxHeartbeats 4000000 in
theorem typSelect_any (v : Value) (s : St) (a f : Ps) (w : World) (S : Nat → Prop) (h : LinsR w S v s.lines) (he : EnvT w) (hs : Small s.lines) (hf : Fits s.lines) :
  Calls Tryz.prog 68 #[stV v s, .agg #[.int .i64 a.line, .int .i64 a.col], .agg #[.int .i64 f.line, .int .i64 f.col]] w (StSaid (selectS s a f) w) := by
 obtain ⟨W1, hW1⟩ : ∃ W1, (((w.alloc (.cells #[v, .int .i64 s.anc.line, .int .i64 s.anc.col, .int .i64 s.foc.line, .int .i64 s.foc.col, .int .i64 s.on, .int .i64 s.off] 26)).alloc (.cells #[.int .i64 a.line, .int .i64 a.col] 24)).alloc (.cells #[.int .i64 f.line, .int .i64 f.col] 24)).alloc (.cells #[.slice none 0 0, .int .i64 0, .int .i64 0, .int .i64 0, .int .i64 0, .int .i64 0, .int .i64 0] 26) = W1 := ⟨_, rfl⟩
 have hB : Below w.heap.size w W1 := hW1 ▸ below2 (below2 (Below.refl _ _) _ _) _ _
 have hz : w.heap.size + 4 = W1.heap.size := by rw [← hW1]; simp
 have k0 : W1.heap[w.heap.size]? = some (.cells #[v, .int .i64 s.anc.line, .int .i64 s.anc.col, .int .i64 s.foc.line, .int .i64 s.foc.col, .int .i64 s.on, .int .i64 s.off] 26) := hW1 ▸ heap_old _ _ (heap_old _ _ (heap_old _ _ (heap_new _ _ rfl)))
 have k1 : W1.heap[w.heap.size + 1]? = some (.cells #[.int .i64 a.line, .int .i64 a.col] 24) := hW1 ▸ heap_old _ _ (heap_old _ _ (heap_new _ _ (by simp)))
 have k2 : W1.heap[w.heap.size + 1 + 1]? = some (.cells #[.int .i64 f.line, .int .i64 f.col] 24) := hW1 ▸ heap_old _ _ (heap_new _ _ (by simp))
 have k3 : W1.heap[w.heap.size + 3]? = some (.cells #[.slice none 0 0, .int .i64 0, .int .i64 0, .int .i64 0, .int .i64 0, .int .i64 0, .int .i64 0] 26) := hW1 ▸ heap_new _ _ (by simp)
 have HB : Hid (∀ W, Below W1.heap.size W1 W → W.heap[w.heap.size]? = some (.cells #[v, .int .i64 s.anc.line, .int .i64 s.anc.col, .int .i64 s.foc.line, .int .i64 s.foc.col, .int .i64 s.on, .int .i64 s.off] 26) ∧ W.heap[w.heap.size + 1]? = some (.cells #[.int .i64 a.line, .int .i64 a.col] 24) ∧ W.heap[w.heap.size + 1 + 1]? = some (.cells #[.int .i64 f.line, .int .i64 f.col] 24) ∧ W.heap[w.heap.size + 3]? = some (.cells #[.slice none 0 0, .int .i64 0, .int .i64 0, .int .i64 0, .int .i64 0, .int .i64 0, .int .i64 0] 26)) := Lib.hid fun W hW => ⟨heap_below hW k0, heap_below hW k1, heap_below hW k2, heap_below hW k3⟩
 have hs1 := hB.size
 have H1 := Lib.hid hB
 have hw0 : Below W1.heap.size W1 W1 := Below.refl _ _
 have HV : Hid (∀ W, Below W1.heap.size W1 W → LinsR W S v s.lines) := Lib.hid fun W hW => h.below (rdLin_stable _) (hB.trans (hW.mono hs1))
 have HM : Hid (∀ W, Below W1.heap.size W1 W → Calls Tryz.prog 27 #[stV v s] W fun e w' => e = .returned (.bool (mayS s)) ∧ Below W.heap.size W w') := Lib.hid fun W hW => stMay_any v s W S (HV.out W hW) ((he.below hB).below hW) hs
 have HIs : Hid (∀ (p : Ps) W, Below W1.heap.size W1 W → Calls Tryz.prog 91 #[v, .agg #[.int .i64 p.line, .int .i64 p.col]] W fun e w' => e = .returned (.bool (isD s.lines p)) ∧ Below W.heap.size W w') := Lib.hid fun p W hW => is_any v s.lines p W w S h (hB.trans (hW.mono hs1))
 have HOw : Hid (∀ W, Below W1.heap.size W1 W → Calls Tryz.prog 108 #[v] W fun e w' => ∃ v', e = .returned v' ∧ DocR true w' (fun b => W.heap.size ≤ b) v' s.lines ∧ Below W.heap.size W w') := Lib.hid fun W hW => by
  have d := s.lines
  exact (show _ from (fun d (h : LinsR w S v d) (hf : Fits d) => (docOwn_any v d W w S h (hB.trans (hW.mono hs1)) hf : Calls Tryz.prog 108 #[v] W fun e w' => ∃ v', e = .returned v' ∧ DocR true w' (fun b => W.heap.size ≤ b) v' d ∧ Below W.heap.size W w')) s.lines h hf)
 have HR : Hid (selectS s a f = if (mayS s && (isD s.lines a && isD s.lines f)) = true then (⟨s.lines, a, f, 0, 0⟩, 0) else (noS, 1)) := Lib.hid rfl
 obtain ⟨Z, hZ⟩ : ∃ Z, selectS s a f = Z := ⟨_, rfl⟩
 rw [hZ] at HR ⊢
 obtain ⟨p0, f0⟩ := blk k0
 obtain ⟨p1, f1⟩ := blk k1
 obtain ⟨p2, f2⟩ := blk k2
 obtain ⟨p3, f3⟩ := blk k3
 obtain ⟨va, vc, rfl⟩ := h.slice
 have HIa := Lib.hid (HIs.out a)
 have HIf := Lib.hid (HIs.out f)
 generalize mayS s = m at *
 generalize isD s.lines a = x at *
 generalize isD s.lines f = y at *
 clear h he hs hf hZ k0 k1 k2 k3 hB HIs
 cases m
 ·have HR2 : Hid (Z = (noS, 1)) := Lib.hid (HR.out.trans (if_neg (by simp)))
  clear HR HIa HIf HOw
  go_enter Tryz.func68, Tryz.ntmps68
  go_wp2_with ((go_at_call 27; refine (HM.out _ hw0).mono ?_; rintro e w2 ⟨rfl, hst2⟩; have hb2 := below_from hw0 hst2; obtain ⟨q3, g3⟩ := blk (HB.out _ hb2).2.2.2))
  refine bodyPost_ret (results_st_e rfl _ _ (w.heap.size + 3) (.slice none 0 0) (.int .i64 0) (.int .i64 0) (.int .i64 0) (.int .i64 0) (.int .i64 0) (.int .i64 0) (.int .i64 1) rfl rfl (by simp [heap_set, putIn, (HB.out _ hb2).2.2.2])) rfl ?_
  unfold StSaid
  rw [HR2.out]
  have hfin := H1.out.trans (hb2.mono hs1)
  exact ⟨_, rfl, SliceR.nil _ _ _ _ _ _, by (repeat' (first | (with_reducible exact Below.refl _ _) | (with_reducible assumption) | (with_reducible refine Below.alloc ?_ ?_ _) | (with_reducible refine Below.drew ?_) | (with_reducible refine drewN_below ?_) | (with_reducible refine Below.setCell ?_ ?_ _) | go_size))⟩
 cases x
 ·have HR2 : Hid (Z = (noS, 1)) := Lib.hid (HR.out.trans (if_neg (by simp)))
  clear HR HIf HOw
  go_enter Tryz.func68, Tryz.ntmps68
  go_wp2_with (first
   | (go_at_call 27; refine (HM.out _ hw0).mono ?_; rintro e w2 ⟨rfl, hst2⟩; have hb2 := below_from hw0 hst2; obtain ⟨q0, g0⟩ := blk (HB.out _ hb2).1; obtain ⟨q1, g1⟩ := blk (HB.out _ hb2).2.1)
   | (go_at_call 91; refine (HIa.out _ hb2).mono ?_; rintro e w3 ⟨rfl, hst3⟩; have hb3 := below_from hb2 hst3; obtain ⟨q3, g3⟩ := blk (HB.out _ hb3).2.2.2))
  refine bodyPost_ret (results_st_e rfl _ _ (w.heap.size + 3) (.slice none 0 0) (.int .i64 0) (.int .i64 0) (.int .i64 0) (.int .i64 0) (.int .i64 0) (.int .i64 0) (.int .i64 1) rfl rfl (by simp [heap_set, putIn, (HB.out _ hb3).2.2.2])) rfl ?_
  unfold StSaid
  rw [HR2.out]
  have hfin := H1.out.trans (hb3.mono hs1)
  exact ⟨_, rfl, SliceR.nil _ _ _ _ _ _, by (repeat' (first | (with_reducible exact Below.refl _ _) | (with_reducible assumption) | (with_reducible refine Below.alloc ?_ ?_ _) | (with_reducible refine Below.drew ?_) | (with_reducible refine drewN_below ?_) | (with_reducible refine Below.setCell ?_ ?_ _) | go_size))⟩
 cases y
 ·have HR2 : Hid (Z = (noS, 1)) := Lib.hid (HR.out.trans (if_neg (by simp)))
  clear HR HOw
  go_enter Tryz.func68, Tryz.ntmps68
  go_wp2_with ((go_at_call 27; refine (HM.out _ hw0).mono ?_; rintro e w2 ⟨rfl, hst2⟩; have hb2 := below_from hw0 hst2; obtain ⟨q0, g0⟩ := blk (HB.out _ hb2).1; obtain ⟨q1, g1⟩ := blk (HB.out _ hb2).2.1))
  with_reducible refine (HIa.out _ hb2).mono ?_
  rintro e w3 ⟨rfl, hst3⟩
  have hb3 := below_from hb2 hst3
  clear q0 g0 q1 g1
  obtain ⟨q0, g0⟩ := blk (HB.out _ hb3).1
  obtain ⟨q2, g2⟩ := blk (HB.out _ hb3).2.2.1
  go_wp2_with fail
  with_reducible refine (HIf.out _ hb3).mono ?_
  rintro e w4 ⟨rfl, hst4⟩
  have hb4 := below_from hb3 hst4
  obtain ⟨q3, g3⟩ := blk (HB.out _ hb4).2.2.2
  go_wp2_with fail
  refine bodyPost_ret (results_st_e rfl _ _ (w.heap.size + 3) (.slice none 0 0) (.int .i64 0) (.int .i64 0) (.int .i64 0) (.int .i64 0) (.int .i64 0) (.int .i64 0) (.int .i64 1) rfl rfl (by simp [heap_set, putIn, (HB.out _ hb4).2.2.2])) rfl ?_
  unfold StSaid
  rw [HR2.out]
  have hfin := H1.out.trans (hb4.mono hs1)
  exact ⟨_, rfl, SliceR.nil _ _ _ _ _ _, by (repeat' (first | (with_reducible exact Below.refl _ _) | (with_reducible assumption) | (with_reducible refine Below.alloc ?_ ?_ _) | (with_reducible refine Below.drew ?_) | (with_reducible refine drewN_below ?_) | (with_reducible refine Below.setCell ?_ ?_ _) | go_size))⟩
 ·have HR2 : Hid (Z = (⟨s.lines, a, f, 0, 0⟩, 0)) := Lib.hid (HR.out.trans (if_pos rfl))
  clear HR
  go_enter Tryz.func68, Tryz.ntmps68
  go_wp2_with ((go_at_call 27; refine (HM.out _ hw0).mono ?_; rintro e w2 ⟨rfl, hst2⟩; have hb2 := below_from hw0 hst2; obtain ⟨q0, g0⟩ := blk (HB.out _ hb2).1; obtain ⟨q1, g1⟩ := blk (HB.out _ hb2).2.1))
  with_reducible refine (HIa.out _ hb2).mono ?_
  rintro e w3 ⟨rfl, hst3⟩
  have hb3 := below_from hb2 hst3
  clear q0 g0 q1 g1
  obtain ⟨q0, g0⟩ := blk (HB.out _ hb3).1
  obtain ⟨q2, g2⟩ := blk (HB.out _ hb3).2.2.1
  go_wp2_with fail
  with_reducible refine (HIf.out _ hb3).mono ?_
  rintro e w4 ⟨rfl, hst4⟩
  have hb4 := below_from hb3 hst4
  clear q0 g0 q2 g2
  have hb0 : Below W1.heap.size W1 w4.drew := hb4.drew
  obtain ⟨q0, g0⟩ := blk (HB.out _ hb4).1
  obtain ⟨q1, g1⟩ := blk (HB.out _ hb4).2.1
  obtain ⟨q2, g2⟩ := blk (HB.out _ hb4).2.2.1
  go_wp2_with fail
  have n1 : ¬ w.heap.size + 1 + 1 + 1 = w.heap.size + 1 + 1 := by omega
  have n2 : ¬ w.heap.size + 1 + 1 + 1 = w.heap.size + 1 := by omega
  have n3 : ¬ w.heap.size + 1 + 1 + 1 = w.heap.size := by omega
  have n4 : ¬ w.heap.size + 1 + 1 = w.heap.size + 1 + 1 + 1 := by omega
  have n5 : ¬ w.heap.size + 1 = w.heap.size + 1 + 1 + 1 := by omega
  have n6 : ¬ w.heap.size = w.heap.size + 1 + 1 + 1 := by omega
  have n7 : ¬ w.heap.size + 1 + 1 = w.heap.size := by omega
  have n8 : ¬ w.heap.size = w.heap.size + 1 + 1 := by omega
  go_region_held3 (fun w' => w'.cell? ⟨w.heap.size, 0, none⟩ = some (.slice va s.lines.length vc) ∧ w'.cell? ⟨w.heap.size + 1, 0, none⟩ = some (.int .i64 a.line) ∧ w'.cell? ⟨w.heap.size + 1, 1, none⟩ = some (.int .i64 a.col) ∧ w'.cell? ⟨w.heap.size + 1 + 1, 0, none⟩ = some (.int .i64 f.line) ∧ w'.cell? ⟨w.heap.size + 1 + 1, 1, none⟩ = some (.int .i64 f.col)) (go_keep)
   ((go_at_call 108; refine (HOw.out _ hb0).mono ?_; rintro e w5 ⟨v5, rfl, hv5, hst5⟩; obtain ⟨a5, c5, rfl⟩ := hv5.slice; have hb5 := below_from hb0 hst5; obtain ⟨s0, t0⟩ := blk (HB.out _ hb5).1; obtain ⟨s1, t1⟩ := blk (HB.out _ hb5).2.1; obtain ⟨s2, t2⟩ := blk (HB.out _ hb5).2.2.1; obtain ⟨s3, t3⟩ := blk (HB.out _ hb5).2.2.2; have HV5 := Lib.hid hv5; clear hv5))
  go_wp2_with fail
  refine bodyPost_ret (results_st_e rfl _ _ (w.heap.size + 3) (.slice a5 s.lines.length c5) (.int .i64 a.line) (.int .i64 a.col) (.int .i64 f.line) (.int .i64 f.col) (.int .i64 0) (.int .i64 0) (.int .i64 0) rfl rfl (by simp [heap_set, putIn, (HB.out _ hb5).2.2.2])) rfl ?_
  unfold StSaid
  rw [HR2.out]
  have hfin := H1.out.trans (hb5.mono hs1)
  have hv5 := HV5.out
  have hz4 := hb4.size
  exact ⟨_, rfl, (SliceR.stable (rdLin_stable _) hv5 (by (repeat' (first | (with_reducible exact Keeps.refl _ _) | (with_reducible refine Keeps.set ?_ ?_ _) | (with_reducible refine Keeps.alloc ?_ _) | (with_reducible refine Keeps.drew ?_) | (first | fail) | (simp; omega)))) (fun b h _ => (by have h' := h; (try simp at h'); omega))), by (repeat' (first | (with_reducible exact Below.refl _ _) | (with_reducible assumption) | (with_reducible refine Below.alloc ?_ ?_ _) | (with_reducible refine Below.drew ?_) | (with_reducible refine drewN_below ?_) | (with_reducible refine Below.setCell ?_ ?_ _) | go_size))⟩
set_option maxRecDepth 100000 in
set_option maxHeartbeats 4000000 in
theorem refSelect_any (v : Value) (s : St) (a f : Ps) (w : World) (S : Nat → Prop) (h : LinsR w S v s.lines) (ho : -9223372036854775808 ≤ s.on ∧ s.on ≤ 9223372036854775807) (hof : -9223372036854775808 ≤ s.off ∧ s.off ≤ 9223372036854775807) (hs : Small s.lines) (hf : Fits s.lines) :
  Calls Tryz.prog 72 #[stV v s, .agg #[.int .i64 a.line, .int .i64 a.col], .agg #[.int .i64 f.line, .int .i64 f.col]] w (StSaid (selectS s a f) w) := by
 obtain ⟨W1, hW1⟩ : ∃ W1, (((w.alloc (.cells #[v, .int .i64 s.anc.line, .int .i64 s.anc.col, .int .i64 s.foc.line, .int .i64 s.foc.col, .int .i64 s.on, .int .i64 s.off] 26)).alloc (.cells #[.int .i64 a.line, .int .i64 a.col] 24)).alloc (.cells #[.int .i64 f.line, .int .i64 f.col] 24)).alloc (.cells #[.slice none 0 0, .int .i64 0, .int .i64 0, .int .i64 0, .int .i64 0, .int .i64 0, .int .i64 0] 26) = W1 := ⟨_, rfl⟩
 have hB : Below w.heap.size w W1 := hW1 ▸ below2 (below2 (Below.refl _ _) _ _) _ _
 have hz : w.heap.size + 4 = W1.heap.size := by rw [← hW1]; simp
 have k0 : W1.heap[w.heap.size]? = some (.cells #[v, .int .i64 s.anc.line, .int .i64 s.anc.col, .int .i64 s.foc.line, .int .i64 s.foc.col, .int .i64 s.on, .int .i64 s.off] 26) := hW1 ▸ heap_old _ _ (heap_old _ _ (heap_old _ _ (heap_new _ _ rfl)))
 have k1 : W1.heap[w.heap.size + 1]? = some (.cells #[.int .i64 a.line, .int .i64 a.col] 24) := hW1 ▸ heap_old _ _ (heap_old _ _ (heap_new _ _ (by simp)))
 have k2 : W1.heap[w.heap.size + 1 + 1]? = some (.cells #[.int .i64 f.line, .int .i64 f.col] 24) := hW1 ▸ heap_old _ _ (heap_new _ _ (by simp))
 have k3 : W1.heap[w.heap.size + 3]? = some (.cells #[.slice none 0 0, .int .i64 0, .int .i64 0, .int .i64 0, .int .i64 0, .int .i64 0, .int .i64 0] 26) := hW1 ▸ heap_new _ _ (by simp)
 have HB : Hid (∀ W, Below W1.heap.size W1 W → W.heap[w.heap.size]? = some (.cells #[v, .int .i64 s.anc.line, .int .i64 s.anc.col, .int .i64 s.foc.line, .int .i64 s.foc.col, .int .i64 s.on, .int .i64 s.off] 26) ∧ W.heap[w.heap.size + 1]? = some (.cells #[.int .i64 a.line, .int .i64 a.col] 24) ∧ W.heap[w.heap.size + 1 + 1]? = some (.cells #[.int .i64 f.line, .int .i64 f.col] 24) ∧ W.heap[w.heap.size + 3]? = some (.cells #[.slice none 0 0, .int .i64 0, .int .i64 0, .int .i64 0, .int .i64 0, .int .i64 0, .int .i64 0] 26)) := Lib.hid fun W hW => ⟨heap_below hW k0, heap_below hW k1, heap_below hW k2, heap_below hW k3⟩
 have hs1 := hB.size
 have H1 := Lib.hid hB
 have hw0 : Below W1.heap.size W1 W1 := Below.refl _ _
 have HV : Hid (∀ W, Below W1.heap.size W1 W → LinsR W S v s.lines) := Lib.hid fun W hW => h.below (rdLin_stable _) (hB.trans (hW.mono hs1))
 have HM : Hid (∀ W, Below W1.heap.size W1 W → Calls Tryz.prog 70 #[stV v s] W fun e w' => e = .returned (.bool (mayS s)) ∧ Below W.heap.size W w') := Lib.hid fun W hW => refStMay_any v s W S (HV.out W hW) hs ho hof
 have HIs : Hid (∀ (p : Ps) W, Below W1.heap.size W1 W → Calls Tryz.prog 144 #[v, .agg #[.int .i64 p.line, .int .i64 p.col]] W fun e w' => e = .returned (.bool (isD s.lines p)) ∧ Below W.heap.size W w') := Lib.hid fun p W hW => refIs_any v s.lines p W S (HV.out W hW)
 have HOw : Hid (∀ W, Below W1.heap.size W1 W → Calls Tryz.prog 102 #[v] W fun e w' => ∃ v', e = .returned v' ∧ DocR true w' (fun b => W.heap.size ≤ b) v' s.lines ∧ Below W.heap.size W w') := Lib.hid fun W hW => by
  have d := s.lines
  exact (show _ from (fun d (h : LinsR w S v d) (hf : Fits d) => (refOwnD_any v d W S (h.below (rdLin_stable _) (hB.trans (hW.mono hs1))) hf : Calls Tryz.prog 102 #[v] W fun e w' => ∃ v', e = .returned v' ∧ DocR true w' (fun b => W.heap.size ≤ b) v' d ∧ Below W.heap.size W w')) s.lines h hf)
 have HR : Hid (selectS s a f = if (mayS s && (isD s.lines a && isD s.lines f)) = true then (⟨s.lines, a, f, 0, 0⟩, 0) else (noS, 1)) := Lib.hid rfl
 obtain ⟨Z, hZ⟩ : ∃ Z, selectS s a f = Z := ⟨_, rfl⟩
 rw [hZ] at HR ⊢
 obtain ⟨p0, f0⟩ := blk k0
 obtain ⟨p1, f1⟩ := blk k1
 obtain ⟨p2, f2⟩ := blk k2
 obtain ⟨p3, f3⟩ := blk k3
 obtain ⟨va, vc, rfl⟩ := h.slice
 have HIa := Lib.hid (HIs.out a)
 have HIf := Lib.hid (HIs.out f)
 generalize mayS s = m at *
 generalize isD s.lines a = x at *
 generalize isD s.lines f = y at *
 clear h ho hof hs hf hZ k0 k1 k2 k3 hB HIs
 cases m
 ·have HR2 : Hid (Z = (noS, 1)) := Lib.hid (HR.out.trans (if_neg (by simp)))
  clear HR HIa HIf HOw
  go_enter Tryz.func72, Tryz.ntmps72
  go_wp2_with ((go_at_call 70; refine (HM.out _ hw0).mono ?_; rintro e w2 ⟨rfl, hst2⟩; have hb2 := below_from hw0 hst2; obtain ⟨q3, g3⟩ := blk (HB.out _ hb2).2.2.2))
  refine bodyPost_ret (results_st_e rfl _ _ (w.heap.size + 3) (.slice none 0 0) (.int .i64 0) (.int .i64 0) (.int .i64 0) (.int .i64 0) (.int .i64 0) (.int .i64 0) (.int .i64 1) rfl rfl (by simp [heap_set, putIn, (HB.out _ hb2).2.2.2])) rfl ?_
  unfold StSaid
  rw [HR2.out]
  have hfin := H1.out.trans (hb2.mono hs1)
  exact ⟨_, rfl, SliceR.nil _ _ _ _ _ _, by (repeat' (first | (with_reducible exact Below.refl _ _) | (with_reducible assumption) | (with_reducible refine Below.alloc ?_ ?_ _) | (with_reducible refine Below.drew ?_) | (with_reducible refine drewN_below ?_) | (with_reducible refine Below.setCell ?_ ?_ _) | go_size))⟩
 cases x
 ·have HR2 : Hid (Z = (noS, 1)) := Lib.hid (HR.out.trans (if_neg (by simp)))
  clear HR HIf HOw
  go_enter Tryz.func72, Tryz.ntmps72
  go_wp2_with (first
   | (go_at_call 70; refine (HM.out _ hw0).mono ?_; rintro e w2 ⟨rfl, hst2⟩; have hb2 := below_from hw0 hst2; obtain ⟨q0, g0⟩ := blk (HB.out _ hb2).1; obtain ⟨q1, g1⟩ := blk (HB.out _ hb2).2.1)
   | (go_at_call 144; refine (HIa.out _ hb2).mono ?_; rintro e w3 ⟨rfl, hst3⟩; have hb3 := below_from hb2 hst3; obtain ⟨q3, g3⟩ := blk (HB.out _ hb3).2.2.2))
  refine bodyPost_ret (results_st_e rfl _ _ (w.heap.size + 3) (.slice none 0 0) (.int .i64 0) (.int .i64 0) (.int .i64 0) (.int .i64 0) (.int .i64 0) (.int .i64 0) (.int .i64 1) rfl rfl (by simp [heap_set, putIn, (HB.out _ hb3).2.2.2])) rfl ?_
  unfold StSaid
  rw [HR2.out]
  have hfin := H1.out.trans (hb3.mono hs1)
  exact ⟨_, rfl, SliceR.nil _ _ _ _ _ _, by (repeat' (first | (with_reducible exact Below.refl _ _) | (with_reducible assumption) | (with_reducible refine Below.alloc ?_ ?_ _) | (with_reducible refine Below.drew ?_) | (with_reducible refine drewN_below ?_) | (with_reducible refine Below.setCell ?_ ?_ _) | go_size))⟩
 cases y
 ·have HR2 : Hid (Z = (noS, 1)) := Lib.hid (HR.out.trans (if_neg (by simp)))
  clear HR HOw
  go_enter Tryz.func72, Tryz.ntmps72
  go_wp2_with ((go_at_call 70; refine (HM.out _ hw0).mono ?_; rintro e w2 ⟨rfl, hst2⟩; have hb2 := below_from hw0 hst2; obtain ⟨q0, g0⟩ := blk (HB.out _ hb2).1; obtain ⟨q1, g1⟩ := blk (HB.out _ hb2).2.1))
  with_reducible refine (HIa.out _ hb2).mono ?_
  rintro e w3 ⟨rfl, hst3⟩
  have hb3 := below_from hb2 hst3
  clear q0 g0 q1 g1
  obtain ⟨q0, g0⟩ := blk (HB.out _ hb3).1
  obtain ⟨q2, g2⟩ := blk (HB.out _ hb3).2.2.1
  go_wp2_with fail
  with_reducible refine (HIf.out _ hb3).mono ?_
  rintro e w4 ⟨rfl, hst4⟩
  have hb4 := below_from hb3 hst4
  obtain ⟨q3, g3⟩ := blk (HB.out _ hb4).2.2.2
  go_wp2_with fail
  refine bodyPost_ret (results_st_e rfl _ _ (w.heap.size + 3) (.slice none 0 0) (.int .i64 0) (.int .i64 0) (.int .i64 0) (.int .i64 0) (.int .i64 0) (.int .i64 0) (.int .i64 1) rfl rfl (by simp [heap_set, putIn, (HB.out _ hb4).2.2.2])) rfl ?_
  unfold StSaid
  rw [HR2.out]
  have hfin := H1.out.trans (hb4.mono hs1)
  exact ⟨_, rfl, SliceR.nil _ _ _ _ _ _, by (repeat' (first | (with_reducible exact Below.refl _ _) | (with_reducible assumption) | (with_reducible refine Below.alloc ?_ ?_ _) | (with_reducible refine Below.drew ?_) | (with_reducible refine drewN_below ?_) | (with_reducible refine Below.setCell ?_ ?_ _) | go_size))⟩
 ·have HR2 : Hid (Z = (⟨s.lines, a, f, 0, 0⟩, 0)) := Lib.hid (HR.out.trans (if_pos rfl))
  clear HR
  go_enter Tryz.func72, Tryz.ntmps72
  go_wp2_with ((go_at_call 70; refine (HM.out _ hw0).mono ?_; rintro e w2 ⟨rfl, hst2⟩; have hb2 := below_from hw0 hst2; obtain ⟨q0, g0⟩ := blk (HB.out _ hb2).1; obtain ⟨q1, g1⟩ := blk (HB.out _ hb2).2.1))
  with_reducible refine (HIa.out _ hb2).mono ?_
  rintro e w3 ⟨rfl, hst3⟩
  have hb3 := below_from hb2 hst3
  clear q0 g0 q1 g1
  obtain ⟨q0, g0⟩ := blk (HB.out _ hb3).1
  obtain ⟨q2, g2⟩ := blk (HB.out _ hb3).2.2.1
  go_wp2_with fail
  with_reducible refine (HIf.out _ hb3).mono ?_
  rintro e w4 ⟨rfl, hst4⟩
  have hb4 := below_from hb3 hst4
  clear q0 g0 q2 g2
  have hb0 : Below W1.heap.size W1 w4.drew := hb4.drew
  obtain ⟨q0, g0⟩ := blk (HB.out _ hb4).1
  obtain ⟨q1, g1⟩ := blk (HB.out _ hb4).2.1
  obtain ⟨q2, g2⟩ := blk (HB.out _ hb4).2.2.1
  go_wp2_with fail
  have n1 : ¬ w.heap.size + 1 + 1 + 1 = w.heap.size + 1 + 1 := by omega
  have n2 : ¬ w.heap.size + 1 + 1 + 1 = w.heap.size + 1 := by omega
  have n3 : ¬ w.heap.size + 1 + 1 + 1 = w.heap.size := by omega
  have n4 : ¬ w.heap.size + 1 + 1 = w.heap.size + 1 + 1 + 1 := by omega
  have n5 : ¬ w.heap.size + 1 = w.heap.size + 1 + 1 + 1 := by omega
  have n6 : ¬ w.heap.size = w.heap.size + 1 + 1 + 1 := by omega
  have n7 : ¬ w.heap.size + 1 + 1 = w.heap.size := by omega
  have n8 : ¬ w.heap.size = w.heap.size + 1 + 1 := by omega
  go_region_held3 (fun w' => w'.cell? ⟨w.heap.size, 0, none⟩ = some (.slice va s.lines.length vc) ∧ w'.cell? ⟨w.heap.size + 1, 0, none⟩ = some (.int .i64 a.line) ∧ w'.cell? ⟨w.heap.size + 1, 1, none⟩ = some (.int .i64 a.col) ∧ w'.cell? ⟨w.heap.size + 1 + 1, 0, none⟩ = some (.int .i64 f.line) ∧ w'.cell? ⟨w.heap.size + 1 + 1, 1, none⟩ = some (.int .i64 f.col)) (go_keep)
   ((go_at_call 102; refine (HOw.out _ hb0).mono ?_; rintro e w5 ⟨v5, rfl, hv5, hst5⟩; obtain ⟨a5, c5, rfl⟩ := hv5.slice; have hb5 := below_from hb0 hst5; obtain ⟨s0, t0⟩ := blk (HB.out _ hb5).1; obtain ⟨s1, t1⟩ := blk (HB.out _ hb5).2.1; obtain ⟨s2, t2⟩ := blk (HB.out _ hb5).2.2.1; obtain ⟨s3, t3⟩ := blk (HB.out _ hb5).2.2.2; have HV5 := Lib.hid hv5; clear hv5))
  go_wp2_with fail
  refine bodyPost_ret (results_st_e rfl _ _ (w.heap.size + 3) (.slice a5 s.lines.length c5) (.int .i64 a.line) (.int .i64 a.col) (.int .i64 f.line) (.int .i64 f.col) (.int .i64 0) (.int .i64 0) (.int .i64 0) rfl rfl (by simp [heap_set, putIn, (HB.out _ hb5).2.2.2])) rfl ?_
  unfold StSaid
  rw [HR2.out]
  have hfin := H1.out.trans (hb5.mono hs1)
  have hv5 := HV5.out
  have hz4 := hb4.size
  exact ⟨_, rfl, (SliceR.stable (rdLin_stable _) hv5 (by (repeat' (first | (with_reducible exact Keeps.refl _ _) | (with_reducible refine Keeps.set ?_ ?_ _) | (with_reducible refine Keeps.alloc ?_ _) | (with_reducible refine Keeps.drew ?_) | (first | fail) | (simp; omega)))) (fun b h _ => (by have h' := h; (try simp at h'); omega))), by (repeat' (first | (with_reducible exact Below.refl _ _) | (with_reducible assumption) | (with_reducible refine Below.alloc ?_ ?_ _) | (with_reducible refine Below.drew ?_) | (with_reducible refine drewN_below ?_) | (with_reducible refine Below.setCell ?_ ?_ _) | go_size))⟩
set_option maxRecDepth 100000 in
set_option maxHeartbeats 2000000 in
theorem typNew_any (v : Value) (d : Doc) (w : World) (S : Nat → Prop) (h : LinsR w S v d) (he : EnvT w) (hs : Small d) (hf : Fits d) :
  Calls Tryz.prog 63 #[v] w (StSaid (newS d) w) := by
 obtain ⟨W1, hW1⟩ : ∃ W1, w.alloc (.cells #[.slice none 0 0, .int .i64 0, .int .i64 0, .int .i64 0, .int .i64 0, .int .i64 0, .int .i64 0] 26) = W1 := ⟨_, rfl⟩
 have hB : Below w.heap.size w W1 := hW1 ▸ below1 (Below.refl _ _) _
 have hz : w.heap.size + 1 = W1.heap.size := by rw [← hW1]; simp
 have k0 : W1.heap[w.heap.size]? = some (.cells #[.slice none 0 0, .int .i64 0, .int .i64 0, .int .i64 0, .int .i64 0, .int .i64 0, .int .i64 0] 26) := hW1 ▸ heap_new _ _ rfl
 have HB : Hid (∀ W, Below W1.heap.size W1 W → W.heap[w.heap.size]? = some (.cells #[.slice none 0 0, .int .i64 0, .int .i64 0, .int .i64 0, .int .i64 0, .int .i64 0, .int .i64 0] 26)) := Lib.hid fun W hW => heap_below hW k0
 have hs1 := hB.size
 have H1 := Lib.hid hB
 have HM := Lib.hid (docMay_any v d W1 w S h (he.below hB) hB hs)
 have HOw : Hid (∀ W, Below W1.heap.size W1 W → Calls Tryz.prog 108 #[v] W fun e w' => ∃ v', e = .returned v' ∧ DocR true w' (fun b => W.heap.size ≤ b) v' d ∧ Below W.heap.size W w') := Lib.hid fun W hW => docOwn_any v d W w S h (hB.trans (hW.mono hs1)) hf
 have HCl := Lib.hid (fun (a : Option Addr) (n c : Nat) (W : World) => typClosed_any a n c ⟨0, 0⟩ W)
 have HR : Hid (newS d = if mayD d = true then (closedS d ⟨0, 0⟩, 0) else (noS, 1)) := Lib.hid rfl
 obtain ⟨p0, f0⟩ := blk k0
 obtain ⟨va, vc, rfl⟩ := h.slice
 clear h he hs hf k0 hB
 cases hm : mayD d
 ·rw [hm] at HM HR
  have HR2 : Hid (newS d = (noS, 1)) := Lib.hid (HR.out.trans (if_neg (by simp)))
  clear HR hm HOw HCl
  go_enter Tryz.func63, Tryz.ntmps63
  go_wp2_with (go_at_call 90; refine HM.out.mono ?_; rintro e w2 ⟨rfl, hb2⟩; obtain ⟨q0, g0⟩ := blk (HB.out _ hb2))
  refine bodyPost_ret (results_st_e rfl _ _ w.heap.size (.slice none 0 0) (.int .i64 0) (.int .i64 0) (.int .i64 0) (.int .i64 0) (.int .i64 0) (.int .i64 0) (.int .i64 1) rfl rfl (by simp [heap_set, putIn, HB.out _ hb2])) rfl ?_
  unfold StSaid
  rw [HR2.out]
  have hfin := H1.out.trans (hb2.mono hs1)
  exact ⟨_, rfl, SliceR.nil _ _ _ _ _ _, by (repeat' (first | (with_reducible exact Below.refl _ _) | (with_reducible assumption) | (with_reducible refine Below.alloc ?_ ?_ _) | (with_reducible refine Below.drew ?_) | (with_reducible refine drewN_below ?_) | (with_reducible refine Below.setCell ?_ ?_ _) | go_size))⟩
 ·rw [hm] at HM HR
  have HR2 : Hid (newS d = (closedS d ⟨0, 0⟩, 0)) := Lib.hid (HR.out.trans (if_pos rfl))
  clear HR hm
  go_enter Tryz.func63, Tryz.ntmps63
  go_wp2_with (first
   | (go_at_call 90; refine HM.out.mono ?_; rintro e w2 ⟨rfl, hb2⟩)
   | (go_at_call 108; refine (HOw.out _ hb2).mono ?_; rintro e w3 ⟨v3, rfl, hv3, hst3⟩; obtain ⟨a3, c3, rfl⟩ := hv3.slice; have hb3 := below_from hb2 hst3; have HV3 := Lib.hid hv3; clear hv3)
   | (go_at_call 140; refine (HCl.out _ _ _ _).mono ?_; rintro e w4 ⟨rfl, hst4⟩; have hb4 := below_from hb3 hst4; obtain ⟨q0, g0⟩ := blk (HB.out _ hb4)))
  refine bodyPost_ret (results_st_e rfl _ _ w.heap.size (.slice a3 d.length c3) (.int .i64 0) (.int .i64 0) (.int .i64 0) (.int .i64 0) (.int .i64 0) (.int .i64 0) (.int .i64 0) rfl rfl (by simp [heap_set, putIn, HB.out _ hb4])) rfl ?_
  unfold StSaid
  rw [HR2.out]
  have hfin := H1.out.trans (hb4.mono hs1)
  have hv3 := HV3.out.below hst4
  have hz2 := hb2.size
  exact ⟨_, rfl, (SliceR.stable (rdLin_stable _) hv3 (by (repeat' (first | (with_reducible exact Keeps.refl _ _) | (with_reducible refine Keeps.set ?_ ?_ _) | (with_reducible refine Keeps.alloc ?_ _) | (with_reducible refine Keeps.drew ?_) | (first | fail) | (simp; omega)))) (fun b h _ => (by have h' := h; (try simp at h'); omega))), by (repeat' (first | (with_reducible exact Below.refl _ _) | (with_reducible assumption) | (with_reducible refine Below.alloc ?_ ?_ _) | (with_reducible refine Below.drew ?_) | (with_reducible refine drewN_below ?_) | (with_reducible refine Below.setCell ?_ ?_ _) | go_size))⟩
set_option maxRecDepth 100000 in
set_option maxHeartbeats 2000000 in
theorem refNew_any (v : Value) (d : Doc) (w : World) (S : Nat → Prop) (h : LinsR w S v d) (hs : Small d) (hf : Fits d) :
  Calls Tryz.prog 71 #[v] w (StSaid (newS d) w) := by
 obtain ⟨W1, hW1⟩ : ∃ W1, w.alloc (.cells #[.slice none 0 0, .int .i64 0, .int .i64 0, .int .i64 0, .int .i64 0, .int .i64 0, .int .i64 0] 26) = W1 := ⟨_, rfl⟩
 have hB : Below w.heap.size w W1 := hW1 ▸ below1 (Below.refl _ _) _
 have hz : w.heap.size + 1 = W1.heap.size := by rw [← hW1]; simp
 have k0 : W1.heap[w.heap.size]? = some (.cells #[.slice none 0 0, .int .i64 0, .int .i64 0, .int .i64 0, .int .i64 0, .int .i64 0, .int .i64 0] 26) := hW1 ▸ heap_new _ _ rfl
 have HB : Hid (∀ W, Below W1.heap.size W1 W → W.heap[w.heap.size]? = some (.cells #[.slice none 0 0, .int .i64 0, .int .i64 0, .int .i64 0, .int .i64 0, .int .i64 0, .int .i64 0] 26)) := Lib.hid fun W hW => heap_below hW k0
 have hs1 := hB.size
 have H1 := Lib.hid hB
 have HM := Lib.hid (refMay_any v d W1 S (h.below (rdLin_stable _) hB) hs)
 have HCl : Hid (∀ W, Below W1.heap.size W1 W → Calls Tryz.prog 112 #[v, .agg #[.int .i64 0, .int .i64 0]] W fun e w' => ∃ v', e = .returned (.agg #[v', .int .i64 0, .int .i64 0, .int .i64 0, .int .i64 0, .int .i64 0, .int .i64 0]) ∧ DocR true w' (fun b => W.heap.size ≤ b) v' d ∧ Below W.heap.size W w') := Lib.hid fun W hW => refClosed_any v d ⟨0, 0⟩ W S (h.below (rdLin_stable _) (hB.trans (hW.mono hs1))) hf
 have HR : Hid (newS d = if mayD d = true then (closedS d ⟨0, 0⟩, 0) else (noS, 1)) := Lib.hid rfl
 obtain ⟨p0, f0⟩ := blk k0
 obtain ⟨va, vc, rfl⟩ := h.slice
 clear h hs hf k0 hB
 cases hm : mayD d
 ·rw [hm] at HM HR
  have HR2 : Hid (newS d = (noS, 1)) := Lib.hid (HR.out.trans (if_neg (by simp)))
  clear HR hm HCl
  go_enter Tryz.func71, Tryz.ntmps71
  go_wp2_with (go_at_call 62; refine HM.out.mono ?_; rintro e w2 ⟨rfl, hb2⟩; obtain ⟨q0, g0⟩ := blk (HB.out _ hb2))
  refine bodyPost_ret (results_st_e rfl _ _ w.heap.size (.slice none 0 0) (.int .i64 0) (.int .i64 0) (.int .i64 0) (.int .i64 0) (.int .i64 0) (.int .i64 0) (.int .i64 1) rfl rfl (by simp [heap_set, putIn, HB.out _ hb2])) rfl ?_
  unfold StSaid
  rw [HR2.out]
  have hfin := H1.out.trans (hb2.mono hs1)
  exact ⟨_, rfl, SliceR.nil _ _ _ _ _ _, by (repeat' (first | (with_reducible exact Below.refl _ _) | (with_reducible assumption) | (with_reducible refine Below.alloc ?_ ?_ _) | (with_reducible refine Below.drew ?_) | (with_reducible refine drewN_below ?_) | (with_reducible refine Below.setCell ?_ ?_ _) | go_size))⟩
 ·rw [hm] at HM HR
  have HR2 : Hid (newS d = (closedS d ⟨0, 0⟩, 0)) := Lib.hid (HR.out.trans (if_pos rfl))
  clear HR hm
  go_enter Tryz.func71, Tryz.ntmps71
  go_wp2_with (first
   | (go_at_call 62; refine HM.out.mono ?_; rintro e w2 ⟨rfl, hb2⟩)
   | (go_at_call 112; refine (HCl.out _ hb2).mono ?_; rintro e w3 ⟨v3, rfl, hv3, hst3⟩; obtain ⟨a3, c3, rfl⟩ := hv3.slice; have hb3 := below_from hb2 hst3; have HV3 := Lib.hid hv3; clear hv3; obtain ⟨q0, g0⟩ := blk (HB.out _ hb3)))
  refine bodyPost_ret (results_st_e rfl _ _ w.heap.size (.slice a3 d.length c3) (.int .i64 0) (.int .i64 0) (.int .i64 0) (.int .i64 0) (.int .i64 0) (.int .i64 0) (.int .i64 0) rfl rfl (by simp [heap_set, putIn, HB.out _ hb3])) rfl ?_
  unfold StSaid
  rw [HR2.out]
  have hfin := H1.out.trans (hb3.mono hs1)
  have hv3 := HV3.out
  have hz2 := hb2.size
  exact ⟨_, rfl, (SliceR.stable (rdLin_stable _) hv3 (by (repeat' (first | (with_reducible exact Keeps.refl _ _) | (with_reducible refine Keeps.set ?_ ?_ _) | (with_reducible refine Keeps.alloc ?_ _) | (with_reducible refine Keeps.drew ?_) | (first | fail) | (simp; omega)))) (fun b h _ => (by have h' := h; (try simp at h'); omega))), by (repeat' (first | (with_reducible exact Below.refl _ _) | (with_reducible assumption) | (with_reducible refine Below.alloc ?_ ?_ _) | (with_reducible refine Below.drew ?_) | (with_reducible refine drewN_below ?_) | (with_reducible refine Below.setCell ?_ ?_ _) | go_size))⟩
end Go.Proofs.YtpndnbjpnajaaaaGreatDoor
namespace Go.Proofs.Qw
open Go.RowKit Go.Proofs.YtpndnbjpnajaaaaGreatDoor
def lastF (l : List Int) : Int := l.getLastD (-1)
end Go.Proofs.Qw
namespace Go.Proofs.YtpndnbjpnajaaaaGreatDoor
open Go.RowKit
open Go.Proofs.Qw
attribute [local go_sem] Oper.semAt_some
set_option maxHeartbeats 1000000 in
theorem lineLast_any (B : Nat) (q k : Int) (l : List Int) (la : Option Addr) (lc : Nat) (cv : Value) (w : World) (S : Nat → Prop) (h : IntsR false w S (.slice la l.length lc) l) (hB : w.heap[B]? = some (.cells #[.int .i64 q, .slice la l.length lc, .int .i64 k, cv] 42)) :
  Calls Tryz.prog 231 #[.pointer (some ⟨B, 0, none⟩)] w fun e w' => e = .returned (.int .i64 (lastF l)) ∧ Below w.heap.size w w' ∧ w'.heap = w.heap := by
 obtain ⟨a, c, he, hc, hm, hx⟩ := ints_shape h
 cases he
 obtain ⟨p0, f0⟩ := blk hB
 unfold maxLen at hm
 by_cases hn : l = []
 ·subst hn
  have HR : Hid (lastF [] = -1) := Lib.hid rfl
  clear h hx hB
  go_enter Tryz.func231, Tryz.ntmps231
  go_wp2_with fail
  go_ret
  rw [HR.out]
  exact ⟨rfl, Below.refl _ _, rfl⟩
 ·obtain ⟨n, hnl⟩ : ∃ n, l.length = n + 1 := ⟨l.length - 1, by have := List.length_pos_iff.2 hn; omega⟩
  obtain ⟨x, hx0, _⟩ := getOf l n (by omega)
  obtain ⟨b, o, rfl, hz, c0⟩ := hx n x hx0
  have HR : Hid (lastF l = x) := Lib.hid (by
   unfold lastF
   rw [List.getLastD_eq_getLast?, List.getLast?_eq_getElem?, hnl, Nat.add_sub_cancel, hx0]
   rfl)
  have hl0 : (((n + 1 : Nat) : Int) == 0) = false := by simp; omega
  have e1 : IntKind.i64.wrap (((n + 1 : Nat) : Int) - 1) = (n : Int) := by rw [show (((n + 1 : Nat) : Int) - 1) = (n : Int) by omega]; exact IntWalk.i64_in _ (by omega)
  have i0 : (0 : Int) ≤ (n : Int) := Int.natCast_nonneg _
  have i1 : (n : Int) < ((n + 1 : Nat) : Int) := by omega
  rw [hnl] at p0 hc
  clear h hx hB hx0 hnl hn
  go_enter Tryz.func231, Tryz.ntmps231
  go_wp2_with fail
  go_quiet (fail)
  go_wp2_with fail
  go_ret
  rw [HR.out]
  exact ⟨rfl, by (repeat' (first | (with_reducible exact Below.refl _ _) | (with_reducible assumption) | (with_reducible refine Below.alloc ?_ ?_ _) | (with_reducible refine Below.drew ?_) | (with_reducible refine drewN_below ?_) | (with_reducible refine Below.setCell ?_ ?_ _) | go_size)), rfl⟩
set_option maxHeartbeats 1000000 in
theorem lineLift_yes (B : Nat) (q k : Int) (l : List Int) (la : Option Addr) (lc : Nat) (cv : Value) (w : World) (S : Nat → Prop) (h : IntsR false w S (.slice la l.length lc) l) (hB : w.heap[B]? = some (.cells #[.int .i64 q, .slice la l.length lc, .int .i64 k, cv] 42)) (hne : l ≠ []) (hl : 0 ≤ lastF l) :
  Calls Tryz.prog 186 #[.pointer (some ⟨B, 0, none⟩)] w fun e w' => e = .returned (.bool true) ∧ ∃ w1, w1.heap = w.heap ∧ Below w.heap.size w w1 ∧ w' = w1.setCell ⟨B, 1, none⟩ (.slice la (l.length - 1) (l.length - 1)) := by
 have HC := Lib.hid (lineLast_any B q k l la lc cv w S h hB)
 obtain ⟨a, c, he, hc, hm, hx⟩ := ints_shape h
 cases he
 obtain ⟨n, hnl⟩ : ∃ n, l.length = n + 1 := ⟨l.length - 1, by have := List.length_pos_iff.2 hne; omega⟩
 obtain ⟨x, hx0, _⟩ := getOf l n (by omega)
 obtain ⟨b, o, rfl, hz, c0⟩ := hx n x hx0
 obtain ⟨r, hr⟩ : ∃ r, lastF l = r := ⟨_, rfl⟩
 rw [hr] at HC hl
 unfold maxLen at hm
 have HN : Hid (l.length - 1 = n) := Lib.hid (by omega)
 have hr0 : ¬ r < 0 := by omega
 have HBB := Lib.hid hB
 rw [HN.out]
 rw [hnl] at hc HBB
 clear h hx hB hx0 hnl hne hr hl c0 hz HN
 have n0 : (0 : Int) ≤ (n : Int) := Int.natCast_nonneg _
 have n1 : (n : Int) ≤ lc := by omega
 have n2 : n ≤ lc := by omega
 have n3 : ((n : Int)).toNat = n := Int.toNat_natCast _
 go_enter Tryz.func186, Tryz.ntmps186
 go_wp2_with (go_at_call 231; refine HC.out.mono ?_; rintro e w1 ⟨rfl, hb1, hh1⟩; have HW1 := Lib.hid (And.intro hb1 hh1); have HB1 : Hid (w1.heap[B]? = _) := Lib.hid (hh1 ▸ HBB.out); clear hb1 hh1; obtain ⟨p0, f0⟩ := blk HB1.out)
 go_ret
 exact ⟨rfl, w1, HW1.out.2, HW1.out.1, rfl⟩
set_option maxHeartbeats 1000000 in
theorem lineLift_no (B : Nat) (q k : Int) (l : List Int) (la : Option Addr) (lc : Nat) (cv : Value) (w : World) (S : Nat → Prop) (h : IntsR false w S (.slice la l.length lc) l) (hB : w.heap[B]? = some (.cells #[.int .i64 q, .slice la l.length lc, .int .i64 k, cv] 42)) (hl : lastF l < 0) :
  Calls Tryz.prog 186 #[.pointer (some ⟨B, 0, none⟩)] w fun e w' => e = .returned (.bool false) ∧ Below w.heap.size w w' ∧ w'.heap = w.heap := by
 have HC := Lib.hid (lineLast_any B q k l la lc cv w S h hB)
 obtain ⟨r, hr⟩ : ∃ r, lastF l = r := ⟨_, rfl⟩
 rw [hr] at HC hl
 clear h hB hr
 go_enter Tryz.func186, Tryz.ntmps186
 go_wp2_with (go_at_call 231; refine HC.out.mono ?_; rintro e w1 ⟨rfl, hb1, hh1⟩; have HW1 := Lib.hid (And.intro hb1 hh1); clear hb1 hh1)
 go_ret
 exact ⟨rfl, HW1.out.1, HW1.out.2⟩
end Go.Proofs.YtpndnbjpnajaaaaGreatDoor
namespace Go.Proofs.Qw
open Go.RowKit Go.Proofs.YtpndnbjpnajaaaaGreatDoor
def outdentL (l : Lin) : Option Lin := if l.lists ≠ [] then some { l with lists := l.lists.dropLast } else if 0 < l.quote then some { l with quote := l.quote - 1 } else none
def freeL (l : Lin) : Option Lin := if l.lists ≠ [] then some { l with lists := l.lists.dropLast } else if 0 < l.kind then some { l with kind := 0 } else if 0 < l.quote then some { l with quote := l.quote - 1 } else none
end Go.Proofs.Qw
namespace Go.Proofs.YtpndnbjpnajaaaaGreatDoor
open Go.RowKit
open Go.Proofs.Qw
attribute [local go_sem] Oper.semAt_some
theorem mayL_facts {l : Lin} (h : mayL l = true) : 0 ≤ l.quote ∧ l.quote ≤ 6 ∧ l.lists.length ≤ 6 ∧ 0 ≤ l.kind ∧ l.kind ≤ 3 ∧ (l.lists = [] ∨ l.kind = 0) ∧ (∀ k ∈ l.lists, k = 0 ∨ k = 1) ∧ mayCs l.cells = true := by
 unfold mayL at h
 simp only [Bool.and_eq_true, Bool.or_eq_true, decide_eq_true_eq, List.all_eq_true] at h
 obtain ⟨⟨⟨⟨⟨⟨⟨h1, h2⟩, h3⟩, h4⟩, h5⟩, h6⟩, h7⟩, h8⟩ := h
 exact ⟨h1, h2, h3, h4, h5, h6, h7, h8⟩
theorem lastF_yes {l : Lin} (h : mayL l = true) (hne : l.lists ≠ []) : 0 ≤ lastF l.lists := by
 obtain ⟨_, _, _, _, _, _, h7, _⟩ := mayL_facts h
 unfold lastF
 rw [List.getLastD_eq_getLast?, List.getLast?_eq_some_getLast hne]
 rcases h7 _ (List.getLast_mem hne) with e | e <;> simp [e]
def TurnPost (B : Nat) (l : Lin) (la : Option Addr) (lc : Nat) (cv : Value) (w : World) (r : Option Lin) (e : Ending) (w' : World) : Prop :=
 e = .returned (.bool r.isSome) ∧ (∃ q k n c, w'.heap[B]? = some (.cells #[.int .i64 q, .slice la n c, .int .i64 k, cv] 42) ∧ ∀ l', r = some l' → l'.quote = q ∧ l'.kind = k ∧ l'.lists = l.lists.take n ∧ l'.cells = l.cells ∧ n ≤ l.lists.length ∧ n ≤ c ∧ c ≤ lc) ∧
  (∀ b, b < w.heap.size → b ≠ B → w'.heap[b]? = w.heap[b]?) ∧ w.heap.size ≤ w'.heap.size ∧ Below B w w'
theorem TurnPost.mk' {B : Nat} {l : Lin} {la : Option Addr} {lc : Nat} {cv : Value} {w w1 w' : World} {r : Option Lin} {e : Ending} (he : e = .returned (.bool r.isSome)) (hB : B < w.heap.size) (h1 : Below w.heap.size w w1) (ho : ∀ b, b ≠ B → w'.heap[b]? = w1.heap[b]?) (hs : w'.heap.size = w1.heap.size) (hb : Below B w1 w')
  (q k : Int) (n c : Nat) (hq : w'.heap[B]? = some (.cells #[.int .i64 q, .slice la n c, .int .i64 k, cv] 42)) (hl : ∀ l', r = some l' → l'.quote = q ∧ l'.kind = k ∧ l'.lists = l.lists.take n ∧ l'.cells = l.cells ∧ n ≤ l.lists.length ∧ n ≤ c ∧ c ≤ lc) : TurnPost B l la lc cv w r e w' :=
 ⟨he, ⟨q, k, n, c, hq, hl⟩, fun b hbz hne => (ho b hne).trans (h1.block b hbz), by rw [hs]; exact h1.size, (h1.mono (Nat.le_of_lt hB)).trans hb⟩
set_option maxHeartbeats 1000000 in
theorem outdent1_any (B : Nat) (l : Lin) (la : Option Addr) (lc : Nat) (cv : Value) (w : World) (S : Nat → Prop) (hm : mayL l = true) (h : IntsR false w S (.slice la l.lists.length lc) l.lists) (hB : w.heap[B]? = some (.cells #[.int .i64 l.quote, .slice la l.lists.length lc, .int .i64 l.kind, cv] 42)) :
  Calls Tryz.prog 185 #[.pointer (some ⟨B, 0, none⟩)] w (TurnPost B l la lc cv w (outdentL l)) := by
 have hBz : B < w.heap.size := (Array.getElem?_eq_some_iff.1 hB).1
 obtain ⟨hq0, hq6, _⟩ := mayL_facts hm
 have hlen := h.len
 by_cases hn : l.lists = []
 ·have HL := Lib.hid (lineLift_no B l.quote l.kind l.lists la lc cv w S h hB (by rw [hn]; decide))
  have HR : Hid (outdentL l = if 0 < l.quote then some { l with quote := l.quote - 1 } else none) := Lib.hid (by unfold outdentL; rw [if_neg (fun e => e hn)])
  have HB := Lib.hid hB
  have HN := Lib.hid hn
  have HE := Lib.hid hlen
  have w1 : IntKind.i64.wrap (l.quote - 1) = l.quote - 1 := IntWalk.i64_in _ (by omega)
  clear h hB hn hlen
  go_enter Tryz.func185, Tryz.ntmps185
  go_wp2_with (go_at_call 186; refine HL.out.mono ?_; rintro e w2 ⟨rfl, hb2, hh2⟩; have HW2 := Lib.hid (And.intro hb2 hh2); have HB2 : Hid (w2.heap[B]? = _) := Lib.hid (hh2 ▸ HB.out); clear hb2 hh2; obtain ⟨p0, f0⟩ := blk HB2.out)
  go_ret
  rw [HR.out]
  refine TurnPost.mk' ?_ hBz HW2.out.1 (fun b hb => by simp [heap_set, Ne.symm hb]) (by simp) (by exact Below.setCell (p := ⟨B, 0, none⟩) (Below.refl B _) (Nat.le_refl B) _) (l.quote - 1) l.kind l.lists.length lc (by simp [heap_set, putIn, HB2.out]) ?_
  ·split <;> simp <;> omega
  ·intro l' hl'
   split at hl'
   ·cases hl'
    exact ⟨rfl, rfl, by simp, rfl, Nat.le_refl _, HE.out.2.1, Nat.le_refl _⟩
   ·cases hl'
 ·have HL := Lib.hid (lineLift_yes B l.quote l.kind l.lists la lc cv w S h hB hn (lastF_yes hm hn))
  have HR : Hid (outdentL l = some { l with lists := l.lists.dropLast }) := Lib.hid (by unfold outdentL; rw [if_pos hn])
  have HB := Lib.hid hB
  have HE := Lib.hid hlen
  clear h hB hn hlen
  go_enter Tryz.func185, Tryz.ntmps185
  go_wp2_with (go_at_call 186; refine HL.out.mono ?_; rintro e w2 ⟨rfl, w3, hh3, hb3, rfl⟩; have HW3 := Lib.hid (And.intro hb3 hh3); clear hb3 hh3)
  go_ret
  rw [HR.out]
  refine TurnPost.mk' rfl hBz HW3.out.1 (fun b hb => by simp [heap_set, Ne.symm hb]) (by simp) (by exact Below.setCell (p := ⟨B, 1, none⟩) (Below.refl B _) (Nat.le_refl B) _) l.quote l.kind (l.lists.length - 1) (l.lists.length - 1) (by have := HW3.out.2 ▸ HB.out; simp [heap_set, putIn, this]) ?_
  intro l' hl'
  cases hl'
  exact ⟨rfl, rfl, by rw [List.dropLast_eq_take], rfl, by omega, Nat.le_refl _, by have := HE.out; omega⟩
set_option maxHeartbeats 1000000 in
theorem free1_any (B : Nat) (l : Lin) (la : Option Addr) (lc : Nat) (cv : Value) (w : World) (S : Nat → Prop) (hm : mayL l = true) (h : IntsR false w S (.slice la l.lists.length lc) l.lists) (hB : w.heap[B]? = some (.cells #[.int .i64 l.quote, .slice la l.lists.length lc, .int .i64 l.kind, cv] 42)) :
  Calls Tryz.prog 190 #[.pointer (some ⟨B, 0, none⟩)] w (TurnPost B l la lc cv w (freeL l)) := by
 have hBz : B < w.heap.size := (Array.getElem?_eq_some_iff.1 hB).1
 obtain ⟨hq0, hq6, _, hk0, hk3, _⟩ := mayL_facts hm
 have hlen := h.len
 by_cases hn : l.lists = []
 ·have HL := Lib.hid (lineLift_no B l.quote l.kind l.lists la lc cv w S h hB (by rw [hn]; decide))
  have HR : Hid (freeL l = if 0 < l.kind then some { l with kind := 0 } else if 0 < l.quote then some { l with quote := l.quote - 1 } else none) := Lib.hid (by unfold freeL; rw [if_neg (fun e => e hn)])
  have HB := Lib.hid hB
  have HN := Lib.hid hn
  have HE := Lib.hid hlen
  have w1 : IntKind.i64.wrap (l.quote - 1) = l.quote - 1 := IntWalk.i64_in _ (by omega)
  clear h hB hn hlen
  rcases (show (0 < l.kind) ∨ (¬ 0 < l.kind ∧ 0 < l.quote) ∨ (¬ 0 < l.kind ∧ ¬ 0 < l.quote) by omega) with hk | ⟨hk, hq⟩ | ⟨hk, hq⟩
  ·rw [if_pos hk] at HR
   go_enter Tryz.func190, Tryz.ntmps190
   go_wp2_with (go_at_call 186; refine HL.out.mono ?_; rintro e w2 ⟨rfl, hb2, hh2⟩; have HW2 := Lib.hid (And.intro hb2 hh2); have HB2 : Hid (w2.heap[B]? = _) := Lib.hid (hh2 ▸ HB.out); clear hb2 hh2; obtain ⟨p0, f0⟩ := blk HB2.out)
   go_ret
   rw [HR.out]
   refine TurnPost.mk' rfl hBz HW2.out.1 (fun b hb => by simp [heap_set, Ne.symm hb]) (by simp) (by exact Below.setCell (p := ⟨B, 2, none⟩) (Below.refl B _) (Nat.le_refl B) _) l.quote 0 l.lists.length lc (by simp [heap_set, putIn, HB2.out]) ?_
   intro l' hl'
   cases hl'
   exact ⟨rfl, rfl, by simp, rfl, Nat.le_refl _, HE.out.2.1, Nat.le_refl _⟩
  ·rw [if_neg hk, if_pos hq] at HR
   go_enter Tryz.func190, Tryz.ntmps190
   go_wp2_with (go_at_call 186; refine HL.out.mono ?_; rintro e w2 ⟨rfl, hb2, hh2⟩; have HW2 := Lib.hid (And.intro hb2 hh2); have HB2 : Hid (w2.heap[B]? = _) := Lib.hid (hh2 ▸ HB.out); clear hb2 hh2; obtain ⟨p0, f0⟩ := blk HB2.out)
   go_ret
   rw [HR.out]
   refine TurnPost.mk' rfl hBz HW2.out.1 (fun b hb => by simp [heap_set, Ne.symm hb]) (by simp) (by exact Below.setCell (p := ⟨B, 0, none⟩) (Below.refl B _) (Nat.le_refl B) _) (l.quote - 1) l.kind l.lists.length lc (by simp [heap_set, putIn, HB2.out]) ?_
   intro l' hl'
   cases hl'
   exact ⟨rfl, rfl, by simp, rfl, Nat.le_refl _, HE.out.2.1, Nat.le_refl _⟩
  ·rw [if_neg hk, if_neg hq] at HR
   go_enter Tryz.func190, Tryz.ntmps190
   go_wp2_with (go_at_call 186; refine HL.out.mono ?_; rintro e w2 ⟨rfl, hb2, hh2⟩; have HW2 := Lib.hid (And.intro hb2 hh2); have HB2 : Hid (w2.heap[B]? = _) := Lib.hid (hh2 ▸ HB.out); clear hb2 hh2; obtain ⟨p0, f0⟩ := blk HB2.out)
   go_ret
   rw [HR.out]
   refine TurnPost.mk' rfl hBz HW2.out.1 (fun b _ => rfl) rfl (Below.refl _ _) l.quote l.kind l.lists.length lc HB2.out ?_
   intro l' hl'
   cases hl'
 ·have HL := Lib.hid (lineLift_yes B l.quote l.kind l.lists la lc cv w S h hB hn (lastF_yes hm hn))
  have HR : Hid (freeL l = some { l with lists := l.lists.dropLast }) := Lib.hid (by unfold freeL; rw [if_pos hn])
  have HB := Lib.hid hB
  have HE := Lib.hid hlen
  clear h hB hn hlen
  go_enter Tryz.func190, Tryz.ntmps190
  go_wp2_with (go_at_call 186; refine HL.out.mono ?_; rintro e w2 ⟨rfl, w3, hh3, hb3, rfl⟩; have HW3 := Lib.hid (And.intro hb3 hh3); clear hb3 hh3)
  go_ret
  rw [HR.out]
  refine TurnPost.mk' rfl hBz HW3.out.1 (fun b hb => by simp [heap_set, Ne.symm hb]) (by simp) (by exact Below.setCell (p := ⟨B, 1, none⟩) (Below.refl B _) (Nat.le_refl B) _) l.quote l.kind (l.lists.length - 1) (l.lists.length - 1) (by have := HW3.out.2 ▸ HB.out; simp [heap_set, putIn, this]) ?_
  intro l' hl'
  cases hl'
  exact ⟨rfl, rfl, by rw [List.dropLast_eq_take], rfl, by omega, Nat.le_refl _, by have := HE.out; omega⟩
theorem results_lineE {fn : Func} {p u : Tmp} (h : fn.results = #[.cell p 42, .tmp u]) (tmps : Array Value) (w : World) (B : Nat) (x1 x2 x3 x4 : Value) (hp : tmps.getD p undef = .pointer (some ⟨B, 0, none⟩))
  (hB : w.heap[B]? = some (.cells #[x1, x2, x3, x4] 42)) :
  (results fn tmps).run Tryz.prog w = .ok (.tuple #[.agg #[x1, x2, x3, x4], tmps.getD u undef]) w := by
 have h1 := run_loadVar_row (P := Tryz.prog) w B 42 42 _ _ _ hB Tryz.underlying42 rfl (by kernel_rfl)
 have hp' : tmps[p]?.getD undef = .pointer (some ⟨B, 0, none⟩) := by simpa using hp
 simp [results, h, hp', asAddr, h1]
def TurnSaid (w : World) (r : Option Lin) (e : Ending) (w' : World) : Prop :=
 (∀ l', r = some l' → ∃ a' b', e = .returned (.tuple #[linV l' a' b', .int .i64 0]) ∧ IntsR true w' (fun b => w.heap.size ≤ b) a' l'.lists ∧ CelsR true w' (fun b => w.heap.size ≤ b) b' l'.cells) ∧
  (r = none → e = .returned (.tuple #[.agg #[.int .i64 0, .slice none 0 0, .int .i64 0, .slice none 0 0], .int .i64 7])) ∧ Below w.heap.size w w'
set_option maxRecDepth 100000 in
set_option maxHeartbeats 2000000 in
theorem turned_any (g : Nat) (T : Lin → Option Lin) (eg : ∀ args w, (callFunc g args).run Tryz.prog w = .ok (.enter g args) w)
  (HT : ∀ (B : Nat) (l : Lin) (la : Option Addr) (lc : Nat) (cv : Value) (w : World) (S : Nat → Prop), mayL l = true → IntsR false w S (.slice la l.lists.length lc) l.lists → w.heap[B]? = some (.cells #[.int .i64 l.quote, .slice la l.lists.length lc, .int .i64 l.kind, cv] 42) →
   Calls Tryz.prog g #[.pointer (some ⟨B, 0, none⟩)] w (TurnPost B l la lc cv w (T l)))
  (l : Lin) (la ca : Option Addr) (lc cc : Nat) (w w0 : World) (S : Nat → Prop) (hL : IntsR false w0 S (.slice la l.lists.length lc) l.lists) (hC : CelsR false w0 S (.slice ca l.cells.length cc) l.cells) (h0 : Below w0.heap.size w0 w)
  (he : EnvT w) (hs : l.lists.length ≤ 1000000 ∧ l.cells.length ≤ 1000000) (hh : ∀ c ∈ l.cells, c.href.length ≤ 1000000) (hm : mayL l = true) :
  Calls Tryz.prog 184 #[linV l (.slice la l.lists.length lc) (.slice ca l.cells.length cc), .func (.func g) #[] #[]] w (TurnSaid w (T l)) := by
 obtain ⟨W1, hW1, hB, hz, hA1, hA2⟩ := two_lines w (.int .i64 l.quote) (.slice la l.lists.length lc) (.int .i64 l.kind) (.slice ca l.cells.length cc) (.int .i64 0) (.slice none 0 0) (.int .i64 0) (.slice none 0 0)
 have h01 : Below w0.heap.size w0 W1 := below_from h0 hB
 have HM := Lib.hid (lineMay_any l la ca lc cc W1 w0 S hL hC (he.below hB) h01 hh)
 rw [hm] at HM
 have HO : Hid (∀ W, Below w0.heap.size w0 W → Calls Tryz.prog 181 #[linV l (.slice la l.lists.length lc) (.slice ca l.cells.length cc)] W fun e w' => ∃ a' b', e = .returned (linV l a' b') ∧ IntsR true w' (fun b => W.heap.size ≤ b) a' l.lists ∧ CelsR true w' (fun b => W.heap.size ≤ b) b' l.cells ∧ Below W.heap.size W w') := Lib.hid fun W hW => lineOwn_any l _ _ false false W w0 S hL hC hW hs
 have HG : Hid (∀ (B : Nat) (la : Option Addr) (lc : Nat) (cv : Value) (w : World) (S : Nat → Prop), IntsR false w S (.slice la l.lists.length lc) l.lists → w.heap[B]? = some (.cells #[.int .i64 l.quote, .slice la l.lists.length lc, .int .i64 l.kind, cv] 42) → Calls Tryz.prog g #[.pointer (some ⟨B, 0, none⟩)] w (TurnPost B l la lc cv w (T l))) := Lib.hid fun B la lc cv w S h1 h2 => HT B l la lc cv w S hm h1 h2
 have hs1 := hB.size
 have HB0 : Hid (∀ W, Below W1.heap.size W1 W → W.heap[w.heap.size]? = some (.cells #[.int .i64 l.quote, .slice la l.lists.length lc, .int .i64 l.kind, .slice ca l.cells.length cc] 42) ∧ W.heap[w.heap.size + 1]? = some (.cells #[.int .i64 0, .slice none 0 0, .int .i64 0, .slice none 0 0] 42)) := Lib.hid fun W hW => ⟨heap_below hW hA1, heap_below hW hA2⟩
 have H1 := Lib.hid hB
 have H01 := Lib.hid h01
 obtain ⟨p1, f1⟩ := blk hA1
 obtain ⟨p2, f2⟩ := blk hA2
 obtain ⟨r, hr⟩ : ∃ r, T l = r := ⟨_, rfl⟩
 rw [hr] at HG ⊢
 clear hL hC hs hB h0 HT hr hm he h01
 unfold linV at HO ⊢
 go_enter Tryz.func184, Tryz.ntmps184
 go_wp2_with (first | (go_at_call 160; refine HM.out.mono ?_; rintro e w2 ⟨rfl, hb2⟩; obtain ⟨hA3, hA4⟩ := HB0.out _ hb2; obtain ⟨q0, g0⟩ := blk hA3; obtain ⟨q1, g1⟩ := blk hA4) | (go_at_call 181; refine (HO.out _ (below_from H01.out hb2)).mono ?_; rintro e w3 ⟨a', b', rfl, ha', hb', hb3⟩; obtain ⟨a1, c1, rfl⟩ := ha'.slice; obtain ⟨a2, c2, rfl⟩ := hb'.slice; obtain ⟨hA5, hA6⟩ := HB0.out _ (below_from hb2 hb3); obtain ⟨p3, f3⟩ := blk hA5; obtain ⟨p4, f4⟩ := blk hA6))
 obtain ⟨Y, hY, hYB, hYs, hYo, hYb⟩ := set_four w3 w.heap.size 42 _ _ _ _ (.int .i64 l.quote) (.slice a1 l.lists.length c1) (.int .i64 l.kind) (.slice a2 l.cells.length c2) hA5
 have hx2 := below_from H1.out hb2
 have hx3 : Below w.heap.size w w3 := below_from hx2 hb3
 have hn3 : w.heap.size + 2 ≤ w2.heap.size := by have := hb2.size; omega
 have hle3 := hb3.size
 have hiY : IntsR true Y (fun b => w2.heap.size ≤ b) (.slice a1 l.lists.length c1) l.lists := SliceR.stable (rdOf_stable _) ha' (Keeps.only hYs hYo (by simp; omega)) (fun b h _ => h)
 have hcY : CelsR true Y (fun b => w2.heap.size ≤ b) (.slice a2 l.cells.length c2) l.cells := SliceR.stable (rdOf_stable _) hb' (Keeps.only hYs hYo (by simp; omega)) (fun b h _ => h)
 have hcl := hiY.len
 rw [hY]
 have hA7 : Y.heap[w.heap.size + 1]? = some (.cells #[.int .i64 0, .slice none 0 0, .int .i64 0, .slice none 0 0] 42) := (hYo _ (by omega)).trans hA6
 refine (HG.out w.heap.size a1 c1 (.slice a2 l.cells.length c2) Y (fun b => w2.heap.size ≤ b) (SliceR.read (fun _ _ h => h) hiY) hYB).mono ?_
 rintro e w4 ⟨rfl, ⟨q, k, n, c, h4, hl4⟩, ho4, hz4, hb4⟩
 have hA8 := (ho4 (w.heap.size + 1) (by omega) (by omega)).trans hA7
 have hi4 : IntsR true w4 (fun b => w2.heap.size ≤ b) (.slice a1 l.lists.length c1) l.lists := SliceR.stable (rdOf_stable _) hiY ⟨hz4, fun b hb hz => ho4 b hz (by omega)⟩ (fun b h _ => h)
 have hc4 : CelsR true w4 (fun b => w2.heap.size ≤ b) (.slice a2 l.cells.length c2) l.cells := SliceR.stable (rdOf_stable _) hcY ⟨hz4, fun b hb hz => ho4 b hz (by omega)⟩ (fun b h _ => h)
 have hx4 : Below w.heap.size w w4 := (hYb _ (Nat.le_refl _) w hx3).trans hb4
 have HI := Lib.hid hi4
 have HCC := Lib.hid hc4
 have HX4 := Lib.hid hx4
 clear hi4 hc4 hx4 hiY hcY hYB hYo hYb ha' hb' ho4 hb4 HG HO HM hx2 hx3
 obtain ⟨p5, f5⟩ := blk h4
 obtain ⟨p6, f6⟩ := blk hA8
 clear p1 f1 p2 f2 q0 g0 q1 g1 p3 f3 p4 f4 hY
 cases r with
 | none =>
  go_wp2_with fail
  refine bodyPost_ret (results_lineE rfl _ _ (w.heap.size + 1) (.int .i64 0) (.slice none 0 0) (.int .i64 0) (.slice none 0 0) rfl (by simp [heap_set, putIn, hA8])) rfl ?_
  refine ⟨fun l' h => (by cases h), fun _ => rfl, ?_⟩
  have := HX4.out
  (repeat' (first | (with_reducible exact Below.refl _ _) | (with_reducible assumption) | (with_reducible refine Below.alloc ?_ ?_ _) | (with_reducible refine Below.drew ?_) | (with_reducible refine drewN_below ?_) | (with_reducible refine Below.setCell ?_ ?_ _) | go_size))
 | some l' =>
  obtain ⟨rfl, rfl, e3, e4, e5, e6, e7⟩ := hl4 l' rfl
  have HE := Lib.hid (And.intro e3 e4)
  clear hl4 e3 e4
  go_wp2_with fail
  refine bodyPost_ret (results_lineE rfl _ _ (w.heap.size + 1) (.int .i64 l'.quote) (.slice a1 n c) (.int .i64 l'.kind) (.slice a2 l.cells.length c2) rfl (by simp [heap_set, putIn, hA8])) rfl ?_
  refine ⟨fun l'' h => ?_, fun h => (by cases h), ?_⟩
  ·cases h
   refine ⟨_, _, rfl, ?_, ?_⟩
   ·rw [HE.out.1]
    have hh := SliceR.caps (HI.out.take e5) (m := c) (by rw [List.length_take]; omega) e7
    exact (SliceR.stable (rdOf_stable _) hh (by (repeat' (first | (with_reducible exact Keeps.refl _ _) | (with_reducible refine Keeps.set ?_ ?_ _) | (with_reducible refine Keeps.alloc ?_ _) | (with_reducible refine Keeps.drew ?_) | (first | fail) | (simp; omega)))) (fun b h _ => (by have h' := h; (try simp at h'); omega)))
   ·rw [HE.out.2]
    have hh := HCC.out
    exact (SliceR.stable (rdOf_stable _) hh (by (repeat' (first | (with_reducible exact Keeps.refl _ _) | (with_reducible refine Keeps.set ?_ ?_ _) | (with_reducible refine Keeps.alloc ?_ _) | (with_reducible refine Keeps.drew ?_) | (first | fail) | (simp; omega)))) (fun b h _ => (by have h' := h; (try simp at h'); omega)))
  ·have := HX4.out
   (repeat' (first | (with_reducible exact Below.refl _ _) | (with_reducible assumption) | (with_reducible refine Below.alloc ?_ ?_ _) | (with_reducible refine Below.drew ?_) | (with_reducible refine drewN_below ?_) | (with_reducible refine Below.setCell ?_ ?_ _) | go_size))
set_option maxHeartbeats 1000000 in
theorem lineOutdent_any (l : Lin) (la ca : Option Addr) (lc cc : Nat) (w w0 : World) (S : Nat → Prop) (hL : IntsR false w0 S (.slice la l.lists.length lc) l.lists) (hC : CelsR false w0 S (.slice ca l.cells.length cc) l.cells) (h0 : Below w0.heap.size w0 w)
  (he : EnvT w) (hs : l.lists.length ≤ 1000000 ∧ l.cells.length ≤ 1000000) (hh : ∀ c ∈ l.cells, c.href.length ≤ 1000000) (hm : mayL l = true) :
  Calls Tryz.prog 114 #[linV l (.slice la l.lists.length lc) (.slice ca l.cells.length cc)] w (TurnSaid w (outdentL l)) := by
 obtain ⟨W1, hW1, hB, hz, hA1, hA2⟩ := two_lines w (.int .i64 l.quote) (.slice la l.lists.length lc) (.int .i64 l.kind) (.slice ca l.cells.length cc) (.int .i64 0) (.slice none 0 0) (.int .i64 0) (.slice none 0 0)
 have HT := Lib.hid (turned_any 185 outdentL (enters_of Tryz.func185 (by kernel_rfl) rfl) outdent1_any l la ca lc cc W1 w0 S hL hC (below_from h0 hB) (he.below hB) hs hh hm)
 have hs1 := hB.size
 have HB0 : Hid (∀ W, Below W1.heap.size W1 W → W.heap[w.heap.size]? = some (.cells #[.int .i64 l.quote, .slice la l.lists.length lc, .int .i64 l.kind, .slice ca l.cells.length cc] 42) ∧ W.heap[w.heap.size + 1]? = some (.cells #[.int .i64 0, .slice none 0 0, .int .i64 0, .slice none 0 0] 42)) := Lib.hid fun W hW => ⟨heap_below hW hA1, heap_below hW hA2⟩
 have H1 := Lib.hid hB
 obtain ⟨p1, f1⟩ := blk hA1
 obtain ⟨p2, f2⟩ := blk hA2
 obtain ⟨r, hr⟩ : ∃ r, outdentL l = r := ⟨_, rfl⟩
 rw [hr] at HT ⊢
 clear hL hC hs hB h0 hr hm he
 unfold linV at HT ⊢
 cases r with
 | none =>
  go_enter Tryz.func114, Tryz.ntmps114
  go_wp2_with (go_at_call 184; refine HT.out.mono ?_; rintro e w2 ⟨_, he2, hb2⟩; obtain rfl := he2 rfl; obtain ⟨hA3, hA4⟩ := HB0.out _ hb2; obtain ⟨q0, g0⟩ := blk hA3; obtain ⟨q1, g1⟩ := blk hA4)
  refine bodyPost_ret (results_lineE rfl _ _ (w.heap.size + 1) (.int .i64 0) (.slice none 0 0) (.int .i64 0) (.slice none 0 0) rfl (by simp [heap_set, putIn, hA4])) rfl ?_
  refine ⟨fun l' h => (by cases h), fun _ => rfl, ?_⟩
  have := H1.out.trans (hb2.mono hs1)
  (repeat' (first | (with_reducible exact Below.refl _ _) | (with_reducible assumption) | (with_reducible refine Below.alloc ?_ ?_ _) | (with_reducible refine Below.drew ?_) | (with_reducible refine drewN_below ?_) | (with_reducible refine Below.setCell ?_ ?_ _) | go_size))
 | some l' =>
  go_enter Tryz.func114, Tryz.ntmps114
  go_wp2_with (go_at_call 184; refine HT.out.mono ?_; rintro e w2 ⟨he2, _, hb2⟩; obtain ⟨a', b', rfl, ha', hb'⟩ := he2 _ rfl; obtain ⟨a1, c1, rfl⟩ := ha'.slice; obtain ⟨a2, c2, rfl⟩ := hb'.slice; obtain ⟨hA3, hA4⟩ := HB0.out _ hb2; obtain ⟨q0, g0⟩ := blk hA3; obtain ⟨q1, g1⟩ := blk hA4)
  refine bodyPost_ret (results_lineE rfl _ _ (w.heap.size + 1) (.int .i64 l'.quote) (.slice a1 l'.lists.length c1) (.int .i64 l'.kind) (.slice a2 l'.cells.length c2) rfl (by simp [heap_set, putIn, hA4])) rfl ?_
  refine ⟨fun l'' h => ?_, fun h => (by cases h), ?_⟩
  ·cases h
   exact ⟨_, _, rfl, (SliceR.stable (rdOf_stable _) ha' (by (repeat' (first | (with_reducible exact Keeps.refl _ _) | (with_reducible refine Keeps.set ?_ ?_ _) | (with_reducible refine Keeps.alloc ?_ _) | (with_reducible refine Keeps.drew ?_) | (first | fail) | (simp; omega)))) (fun b h _ => (by have h' := h; (try simp at h'); omega))), (SliceR.stable (rdOf_stable _) hb' (by (repeat' (first | (with_reducible exact Keeps.refl _ _) | (with_reducible refine Keeps.set ?_ ?_ _) | (with_reducible refine Keeps.alloc ?_ _) | (with_reducible refine Keeps.drew ?_) | (first | fail) | (simp; omega)))) (fun b h _ => (by have h' := h; (try simp at h'); omega)))⟩
  ·have := H1.out.trans (hb2.mono hs1)
   (repeat' (first | (with_reducible exact Below.refl _ _) | (with_reducible assumption) | (with_reducible refine Below.alloc ?_ ?_ _) | (with_reducible refine Below.drew ?_) | (with_reducible refine drewN_below ?_) | (with_reducible refine Below.setCell ?_ ?_ _) | go_size))
set_option maxHeartbeats 1000000 in
theorem lineFree_any (l : Lin) (la ca : Option Addr) (lc cc : Nat) (w w0 : World) (S : Nat → Prop) (hL : IntsR false w0 S (.slice la l.lists.length lc) l.lists) (hC : CelsR false w0 S (.slice ca l.cells.length cc) l.cells) (h0 : Below w0.heap.size w0 w)
  (he : EnvT w) (hs : l.lists.length ≤ 1000000 ∧ l.cells.length ≤ 1000000) (hh : ∀ c ∈ l.cells, c.href.length ≤ 1000000) (hm : mayL l = true) :
  Calls Tryz.prog 120 #[linV l (.slice la l.lists.length lc) (.slice ca l.cells.length cc)] w (TurnSaid w (freeL l)) := by
 obtain ⟨W1, hW1, hB, hz, hA1, hA2⟩ := two_lines w (.int .i64 l.quote) (.slice la l.lists.length lc) (.int .i64 l.kind) (.slice ca l.cells.length cc) (.int .i64 0) (.slice none 0 0) (.int .i64 0) (.slice none 0 0)
 have HT := Lib.hid (turned_any 190 freeL (enters_of Tryz.func190 (by kernel_rfl) rfl) free1_any l la ca lc cc W1 w0 S hL hC (below_from h0 hB) (he.below hB) hs hh hm)
 have hs1 := hB.size
 have HB0 : Hid (∀ W, Below W1.heap.size W1 W → W.heap[w.heap.size]? = some (.cells #[.int .i64 l.quote, .slice la l.lists.length lc, .int .i64 l.kind, .slice ca l.cells.length cc] 42) ∧ W.heap[w.heap.size + 1]? = some (.cells #[.int .i64 0, .slice none 0 0, .int .i64 0, .slice none 0 0] 42)) := Lib.hid fun W hW => ⟨heap_below hW hA1, heap_below hW hA2⟩
 have H1 := Lib.hid hB
 obtain ⟨p1, f1⟩ := blk hA1
 obtain ⟨p2, f2⟩ := blk hA2
 obtain ⟨r, hr⟩ : ∃ r, freeL l = r := ⟨_, rfl⟩
 rw [hr] at HT ⊢
 clear hL hC hs hB h0 hr hm he
 unfold linV at HT ⊢
 cases r with
 | none =>
  go_enter Tryz.func120, Tryz.ntmps120
  go_wp2_with (go_at_call 184; refine HT.out.mono ?_; rintro e w2 ⟨_, he2, hb2⟩; obtain rfl := he2 rfl; obtain ⟨hA3, hA4⟩ := HB0.out _ hb2; obtain ⟨q0, g0⟩ := blk hA3; obtain ⟨q1, g1⟩ := blk hA4)
  refine bodyPost_ret (results_lineE rfl _ _ (w.heap.size + 1) (.int .i64 0) (.slice none 0 0) (.int .i64 0) (.slice none 0 0) rfl (by simp [heap_set, putIn, hA4])) rfl ?_
  refine ⟨fun l' h => (by cases h), fun _ => rfl, ?_⟩
  have := H1.out.trans (hb2.mono hs1)
  (repeat' (first | (with_reducible exact Below.refl _ _) | (with_reducible assumption) | (with_reducible refine Below.alloc ?_ ?_ _) | (with_reducible refine Below.drew ?_) | (with_reducible refine drewN_below ?_) | (with_reducible refine Below.setCell ?_ ?_ _) | go_size))
 | some l' =>
  go_enter Tryz.func120, Tryz.ntmps120
  go_wp2_with (go_at_call 184; refine HT.out.mono ?_; rintro e w2 ⟨he2, _, hb2⟩; obtain ⟨a', b', rfl, ha', hb'⟩ := he2 _ rfl; obtain ⟨a1, c1, rfl⟩ := ha'.slice; obtain ⟨a2, c2, rfl⟩ := hb'.slice; obtain ⟨hA3, hA4⟩ := HB0.out _ hb2; obtain ⟨q0, g0⟩ := blk hA3; obtain ⟨q1, g1⟩ := blk hA4)
  refine bodyPost_ret (results_lineE rfl _ _ (w.heap.size + 1) (.int .i64 l'.quote) (.slice a1 l'.lists.length c1) (.int .i64 l'.kind) (.slice a2 l'.cells.length c2) rfl (by simp [heap_set, putIn, hA4])) rfl ?_
  refine ⟨fun l'' h => ?_, fun h => (by cases h), ?_⟩
  ·cases h
   exact ⟨_, _, rfl, (SliceR.stable (rdOf_stable _) ha' (by (repeat' (first | (with_reducible exact Keeps.refl _ _) | (with_reducible refine Keeps.set ?_ ?_ _) | (with_reducible refine Keeps.alloc ?_ _) | (with_reducible refine Keeps.drew ?_) | (first | fail) | (simp; omega)))) (fun b h _ => (by have h' := h; (try simp at h'); omega))), (SliceR.stable (rdOf_stable _) hb' (by (repeat' (first | (with_reducible exact Keeps.refl _ _) | (with_reducible refine Keeps.set ?_ ?_ _) | (with_reducible refine Keeps.alloc ?_ _) | (with_reducible refine Keeps.drew ?_) | (first | fail) | (simp; omega)))) (fun b h _ => (by have h' := h; (try simp at h'); omega)))⟩
  ·have := H1.out.trans (hb2.mono hs1)
   (repeat' (first | (with_reducible exact Below.refl _ _) | (with_reducible assumption) | (with_reducible refine Below.alloc ?_ ?_ _) | (with_reducible refine Below.drew ?_) | (with_reducible refine drewN_below ?_) | (with_reducible refine Below.setCell ?_ ?_ _) | go_size))
end Go.Proofs.YtpndnbjpnajaaaaGreatDoor
namespace Go.Proofs.Qw
open Go.RowKit Go.Proofs.YtpndnbjpnajaaaaGreatDoor
theorem decode_valid (s : ByteArray) (pos : Nat) : Lib.validRune ((Utf8.decode s pos).1 : Int) = true := by
 rw [← Lib.decodeL_drop]
 exact Lib.rune_valid _
theorem runesGo_valid (s : ByteArray) : ∀ (f pos : Nat), ∀ c ∈ runesGo s f pos, Lib.validRune c = true
 | 0, _, c, h => by simp [runesGo] at h
 | f + 1, pos, c, h => by
  unfold runesGo at h
  split at h
  ·rcases List.mem_cons.1 h with rfl | h
   ·exact decode_valid s pos
   ·exact runesGo_valid s f _ c h
  ·cases h
theorem classF_valid {c : Int} (h : Lib.validRune c = true) : classF c ≠ 0 := by
 unfold classF
 rw [h, if_neg (by decide)]
 (repeat' split) <;> decide
theorem classF_runes (t : ByteArray) : ∀ c ∈ runesB t, classF c ≠ 0 := fun c h => classF_valid (runesGo_valid t _ _ c h)
theorem classF_ge (c : Int) : 0 ≤ classF c := by
 unfold classF
 (repeat' split) <;> decide
theorem classF_32 : classF 32 = 2 := by decide
def cleanR (c : Int) : Option Int := if c = 9 ∨ c = 12 ∨ c = 13 then some 32 else if c = 10 then some 10 else if classF c = 1 then none else some c
def cleanB (t : ByteArray) : List Int := (runesB t).filterMap cleanR
def cellsOf (l : List Int) (b : Int) (h : List UInt8) : List Cel := l.map fun c => ⟨c, b, h⟩
end Go.Proofs.Qw
namespace Go.Proofs.Qw
open Go.RowKit Go.Proofs.YtpndnbjpnajaaaaGreatDoor
def outS (s : St) : Doc := deleteL s.lines (spanS s).1 (spanS s).2
def endS (x : Doc × Ps × Int) : St × Int := if x.2.2 = 0 then (closedS x.1 x.2.1, 0) else (noS, x.2.2)
def keyS (s : St) (x : Doc × Ps × Int) : St × Int := if mayS s = true then endS x else (noS, 1)
def lineAt (d : Doc) (p : Ps) : Lin := d.getD p.line.toNat default
def eraseK (s : St) : Doc × Ps × Int := if s.anc = s.foc then ([], (spanS s).1, 7) else (outS s, (spanS s).1, 0)
def headB (l : List Cel) (b : Int) : Int := match l with | [] => b | c :: _ => c.bits
def typB (s : St) : Int := bits .or .i64 (bits .andNot .i64 (headB (cellsD s.lines (spanS s).1 (spanS s).2) (aroundF (lineAt s.lines (spanS s).1).cells (spanS s).1.col.toNat).1) s.off) s.on
def textK (s : St) (t : ByteArray) : Doc × Ps × Int :=
 if 8192 < t.size then ([], (spanS s).1, 10) else if cleanB t = [] then ([], (spanS s).1, 7)
 else insertD (cellsOf (cleanB t) (typB s) (aroundF (lineAt (outS s) (spanS s).1).cells (spanS s).1.col.toNat).2) (outS s) (spanS s).1
def putK (d : Doc) (p : Ps) (r : Option Lin) (x : Doc × Ps × Int) : Doc × Ps × Int := match r with | some l => (d.set p.line.toNat l, p, 0) | none => x
def paraK (s : St) : Doc × Ps × Int :=
 putK (outS s) (spanS s).1 (if (lineAt (outS s) (spanS s).1).cells = [] then outdentL (lineAt (outS s) (spanS s).1) else none) (splitD (outS s) (spanS s).1)
def cutK (d : Doc) (a b p : Ps) : Doc × Ps × Int := ((deleteD d a b).1, p, (deleteD d a b).2)
def backK (s : St) : Doc × Ps × Int :=
 if s.anc = s.foc then
  putK (outS s) (spanS s).1 (if (spanS s).1.col = 0 then freeL (lineAt (outS s) (spanS s).1) else none)
   (if (stepD (outS s) (spanS s).1 (-1)).2 = true then cutK (outS s) (stepD (outS s) (spanS s).1 (-1)).1 (spanS s).1 (stepD (outS s) (spanS s).1 (-1)).1 else ([], (spanS s).1, 7))
 else (outS s, (spanS s).1, 0)
def forthK (s : St) : Doc × Ps × Int :=
 if s.anc = s.foc then
  (if (stepD (outS s) (spanS s).1 1).2 = true then cutK (outS s) (spanS s).1 (stepD (outS s) (spanS s).1 1).1 (spanS s).1 else ([], (spanS s).1, 7))
 else (outS s, (spanS s).1, 0)
theorem out_facts {s : St} (h : mayS s = true) : mayD (outS s) = true ∧ spanD s.lines (spanS s).1 (spanS s).2 = true ∧ isD (outS s) (spanS s).1 = true ∧ deleteD s.lines (spanS s).1 (spanS s).2 = (outS s, 0) ∧ isD s.lines (spanS s).1 = true := by
 have hsp := mayS_span h
 obtain ⟨hM, i, j, p, q, l, m, ha, hb, hl, hm, hp, hq, hij, hpq⟩ := span_at hsp
 have hd : deleteD s.lines (spanS s).1 (spanS s).2 = (outS s, 0) := by unfold deleteD; rw [if_pos hsp]; rfl
 refine ⟨?_, hsp, ?_, hd, ?_⟩
 ·unfold outS; rw [ha, hb]; exact delete_may hM hl hm hp hq hij hpq
 ·unfold outS; rw [ha, hb]
  exact is_mk (d := deleteL s.lines ⟨i, p⟩ ⟨j, q⟩) (l := { l with cells := l.cells.take p ++ m.cells.drop q }) (by rw [delete_get hl hm, if_neg (Nat.lt_irrefl _), if_pos rfl]) (by simp; omega)
 ·rw [ha]; exact is_mk hl hp
end Go.Proofs.Qw
namespace Go.Proofs.Qw
open Go.RowKit Go.Proofs.YtpndnbjpnajaaaaGreatDoor
theorem key_may {s : St} (h : mayS s = true) (x : Doc × Ps × Int) : keyS s x = endS x := by unfold keyS; rw [if_pos h]
theorem key_not {s : St} (h : mayS s = false) (x : Doc × Ps × Int) : keyS s x = (noS, 1) := by unfold keyS; rw [h]; rfl
theorem text_law {s : St} (h : mayS s = true) (t : ByteArray) : keyS s (textK s t) = if 8192 < t.size then (noS, 10) else if cleanB t = [] then (noS, 7) else
  endS (insertD (cellsOf (cleanB t) (typB s) (aroundF (lineAt (outS s) (spanS s).1).cells (spanS s).1.col.toNat).2) (outS s) (spanS s).1) := by
 rw [key_may h]
 unfold textK
 split
 ·rfl
 ·split <;> rfl
theorem lineAt_eq {d : Doc} {i : Nat} {l : Lin} (hl : d[i]? = some l) (j : Int) : lineAt d ⟨i, j⟩ = l := by
 unfold lineAt
 simp only [Int.toNat_natCast]
 rw [List.getD_eq_getElem?_getD, hl]
 rfl
end Go.Proofs.Qw
namespace Go.Proofs.YtpndnbjpnajaaaaGreatDoor
open Go.RowKit
open Go.Proofs.Qw
attribute [local go_sem] Oper.semAt_some
theorem blk1 {w : World} {B : Nat} {cs : Array Value} {t : TypeId} (h : w.heap[B]? = some (.cells cs t)) : (∀ X k, (w.alloc X).cell? ⟨B, k, none⟩ = cs[k]?) ∧ (∀ X k, (w.alloc X).frozen? ⟨B, k, none⟩ = false) :=
 ⟨fun X _ => cell_of_heap (heap_old _ X h), fun X _ => frozen_of_heap (heap_old _ X h)⟩
def DocPB (n : Nat) (x : Doc × Ps × Int) (w : World) (e : Ending) (w' : World) : Prop := ∃ v', e = .returned (.tuple #[v', posV x.2.1, .int .i64 x.2.2]) ∧ DocR true w' (fun b => n ≤ b) v' x.1 ∧ Below n w w'
theorem DocPSaid.base {x : Doc × Ps × Int} {w W : World} {e : Ending} {w' : World} {n : Nat} (h : DocPSaid x W e w') (hb : Below n w W) (hn : n ≤ W.heap.size) : DocPB n x w e w' := by
 obtain ⟨v', h1, h2, h3⟩ := h
 exact ⟨v', h1, SliceR.stable (rdLin_stable true) h2 (Keeps.refl _ _) (fun b h _ => Nat.le_trans hn h), hb.trans (h3.mono hn)⟩
def KeyDoes (s : St) (g : Nat) (lb : Array Value) (R : Doc × Ps × Int) (w : World) : Prop :=
 ∀ (n : Nat) (W : World) (a : Option Addr) (c : Nat), Below w.heap.size w W → w.heap.size ≤ n → n ≤ W.heap.size → DocR true W (fun b => n ≤ b) (.slice a (outS s).length c) (outS s) → Calls Tryz.prog g (#[.slice a (outS s).length c, posV (spanS s).1] ++ lb) W (DocPB n R W)
set_option maxRecDepth 100000 in
set_option maxHeartbeats 4000000 in
theorem emptied_any (v : Value) (s : St) (g : Nat) (lb : Array Value) (R : Doc × Ps × Int) (w : World) (S : Nat → Prop) (h : LinsR w S v s.lines) (he : EnvT w) (hs : Small s.lines) (hf : Fits s.lines)
  (eg : ∀ args w, (callFunc g args).run Tryz.prog w = .ok (.enter g args) w) (hg : mayS s = true → KeyDoes s g lb R w) :
  Calls Tryz.prog 109 #[stV v s, .func (.func g) #[] lb] w (StSaid (keyS s R) w) := by
 obtain ⟨W1, hW1, hB, hz, k0, k1⟩ := st_two w v s
 have HB : Hid (∀ W, Below W1.heap.size W1 W → W.heap[w.heap.size]? = some (.cells #[v, .int .i64 s.anc.line, .int .i64 s.anc.col, .int .i64 s.foc.line, .int .i64 s.foc.col, .int .i64 s.on, .int .i64 s.off] 26) ∧ W.heap[w.heap.size + 1]? = some (.cells #[.slice none 0 0, .int .i64 0, .int .i64 0, .int .i64 0, .int .i64 0, .int .i64 0, .int .i64 0] 26)) := Lib.hid fun W hW => ⟨heap_below hW k0, heap_below hW k1⟩
 have hs1 := hB.size
 have H1 := Lib.hid hB
 have hw0 : Below W1.heap.size W1 W1 := Below.refl _ _
 have HV : Hid (∀ W, Below W1.heap.size W1 W → LinsR W S v s.lines) := Lib.hid fun W hW => h.below (rdLin_stable _) (hB.trans (hW.mono hs1))
 have HE : Hid (∀ W, Below W1.heap.size W1 W → EnvT W) := Lib.hid fun W hW => (he.below hB).below hW
 have HM : Hid (∀ W, Below W1.heap.size W1 W → Calls Tryz.prog 27 #[stV v s] W fun e w' => e = .returned (.bool (mayS s)) ∧ Below W.heap.size W w') := Lib.hid fun W hW => stMay_any v s W S (HV.out W hW) (HE.out W hW) hs
 have HR : Hid (keyS s R = if mayS s = true then endS R else (noS, 1)) := Lib.hid rfl
 cases hm : mayS s
 ·rw [hm] at HM HR
  have HR : Hid (keyS s R = (noS, 1)) := Lib.hid (HR.out.trans (if_neg (by simp)))
  obtain ⟨p0, f0⟩ := blk k0
  obtain ⟨p1, f1⟩ := blk k1
  obtain ⟨va, vc, rfl⟩ := h.slice
  clear h he hs hf hg k0 k1 hB hm
  go_enter Tryz.func109, Tryz.ntmps109
  go_wp2_with ((go_at_call 27; refine (HM.out _ hw0).mono ?_; rintro e w2 ⟨rfl, hst2⟩; have hb2 := below_from hw0 hst2; obtain ⟨q1, g1⟩ := blk (HB.out _ hb2).2))
  refine bodyPost_ret (results_st_e rfl _ _ (w.heap.size + 1) (.slice none 0 0) (.int .i64 0) (.int .i64 0) (.int .i64 0) (.int .i64 0) (.int .i64 0) (.int .i64 0) (.int .i64 1) rfl rfl (by simp [heap_set, putIn, (HB.out _ hb2).2])) rfl ?_
  unfold StSaid
  rw [HR.out]
  have hfin := H1.out.trans (hb2.mono hs1)
  exact ⟨_, rfl, SliceR.nil _ _ _ _ _ _, by (repeat' (first | (with_reducible exact Below.refl _ _) | (with_reducible assumption) | (with_reducible refine Below.alloc ?_ ?_ _) | (with_reducible refine Below.drew ?_) | (with_reducible refine drewN_below ?_) | (with_reducible refine Below.setCell ?_ ?_ _) | go_size))⟩
 ·have HG : Hid (∀ (n : Nat) (W : World) (a : Option Addr) (c : Nat), Below W1.heap.size W1 W → W1.heap.size ≤ n → n ≤ W.heap.size → DocR true W (fun b => n ≤ b) (.slice a (outS s).length c) (outS s) → Calls Tryz.prog g (#[.slice a (outS s).length c, posV (spanS s).1] ++ lb) W (DocPB n R W)) :=
   Lib.hid fun n W a c hW h1 h2 h3 => hg hm n W a c (hB.trans (hW.mono hs1)) (Nat.le_trans hs1 h1) h2 h3
  have hd := (out_facts hm).2.2.2.1
  rw [hm] at HM HR
  rw [if_pos rfl] at HR
  have HSp : Hid (∀ W, Below W1.heap.size W1 W → Calls Tryz.prog 28 #[stV v s] W fun e w' => e = .returned (.tuple #[.agg #[.int .i64 (spanS s).1.line, .int .i64 (spanS s).1.col], .agg #[.int .i64 (spanS s).2.line, .int .i64 (spanS s).2.col]]) ∧ Below W.heap.size W w') := Lib.hid fun W hW => stSpan_any v s W
  have HD : Hid (∀ W, Below W1.heap.size W1 W → Calls Tryz.prog 122 #[v, posV (spanS s).1, posV (spanS s).2] W (DocSaid (outS s, 0) W)) := Lib.hid fun W hW => by
   have := docDelete_any v s.lines (spanS s).1 (spanS s).2 W S (HV.out W hW) (HE.out W hW) hs hf
   rw [hd] at this
   exact this
  obtain ⟨O, hO⟩ : ∃ O, outS s = O := ⟨_, rfl⟩
  rw [hO] at HD HG
  obtain ⟨A, B, hAB⟩ : ∃ A B, spanS s = (A, B) := ⟨_, _, rfl⟩
  rw [hAB] at HSp HG HD
  simp only at HSp HG HD
  obtain ⟨D, q, er, hD⟩ : ∃ D q er, R = (D, q, er) := ⟨_, _, _, rfl⟩
  subst hD
  have HP : Hid (∀ p : Ps, posV p = .agg #[.int .i64 p.line, .int .i64 p.col]) := Lib.hid fun _ => rfl
  rw [HP.out] at HG
  rw [HP.out, HP.out] at HD
  have HCl := Lib.hid (fun (a : Option Addr) (n c : Nat) (p : Ps) (W : World) => typClosed_any a n c p W)
  obtain ⟨p0, f0⟩ := blk k0
  obtain ⟨p1, f1⟩ := blk k1
  obtain ⟨va, vc, rfl⟩ := h.slice
  clear h he hs hf hg k0 k1 hB hm hAB hd hO
  by_cases h0 : er = 0
  ·subst h0
   have HR := Lib.hid (HR.out.trans (show endS (D, q, (0 : Int)) = (closedS D q, 0) from if_pos rfl))
   go_enter Tryz.func109, Tryz.ntmps109
   go_wp2_with (first
    | (go_at_call 27; refine (HM.out _ hw0).mono ?_; rintro e w2 ⟨rfl, hst2⟩; have hb2 := below_from hw0 hst2; obtain ⟨q0, g0⟩ := blk (HB.out _ hb2).1) | (go_at_call 28; refine (HSp.out _ hb2).mono ?_; rintro e w3 ⟨rfl, hst3⟩; have hb3 := below_from hb2 hst3; obtain ⟨q1, g1⟩ := blk (HB.out _ hb3).1; have hz3 := hb3.size; have e3 : ¬ w3.heap.size = w.heap.size := (by omega); have r1 := on2 (HB.out _ hb3).1; have HX3 : Hid (∀ X Y, Below W1.heap.size W1 ((w3.alloc X).alloc Y)) := Lib.hid fun X Y => hb3.trans (below2 (Below.refl _ _) X Y |>.mono hz3)) | (go_at_call 122; refine (HD.out _ (HX3.out _ _)).mono ?_; intro e w4 hsaid; obtain ⟨v4, rfl, hv4, hst4⟩ := hsaid; obtain ⟨a4, c4, rfl⟩ := hv4.slice; have hb4 := below_from (HX3.out _ _) hst4; have HV4 := Lib.hid hv4; clear hv4; have hz4 := hst4.size; have m4 := heap_below hst4 (heap_old _ _ (heap_new _ _ rfl)); obtain ⟨q4, g4⟩ := blk m4) | (go_at_fn g; refine (HG.out _ _ a4 c4 hb4 (HX3.out _ _).size hz4 HV4.out).mono ?_; intro e w5 hsaid; obtain ⟨v5, he5, hv5, hst5⟩ := hsaid; simp only [HP.out] at he5; subst he5; obtain ⟨a5, c5, rfl⟩ := hv5.slice; have hb5 := hb4.trans (hst5.mono (HX3.out _ _).size); have HV5 := Lib.hid hv5; clear hv5; obtain ⟨q5, g5⟩ := blk (HB.out _ hb5).2; have hz5 := hb5.size; obtain ⟨r5, s5⟩ := blk1 (HB.out _ hb5).2)
    | (go_at_call 140; refine (HCl.out _ _ _ q _).mono ?_; rintro e w6 ⟨rfl, hst6⟩; have hb56 : Below w5.heap.size w5 w6 := below_from ((Below.refl _ _).alloc (Nat.le_refl _) _) hst6; have hb6 := below_from hb5 hb56; obtain ⟨q6, g6⟩ := blk (HB.out _ hb6).2))
   refine bodyPost_ret (results_st_e rfl _ _ (w.heap.size + 1) (.slice a5 D.length c5) (.int .i64 q.line) (.int .i64 q.col) (.int .i64 q.line) (.int .i64 q.col) (.int .i64 0) (.int .i64 0) (.int .i64 0) rfl rfl (by simp [heap_set, putIn, (HB.out _ hb6).2])) rfl ?_
   unfold StSaid
   rw [HR.out]
   have hfin := H1.out.trans (hb6.mono hs1)
   have hv5 := HV5.out.below hb56
   exact ⟨_, rfl, (SliceR.stable (rdLin_stable _) hv5 (by (repeat' (first | (with_reducible exact Keeps.refl _ _) | (with_reducible refine Keeps.set ?_ ?_ _) | (with_reducible refine Keeps.alloc ?_ _) | (with_reducible refine Keeps.drew ?_) | (first | fail) | (simp; omega)))) (fun b h _ => (by have h' := h; (try simp at h'); omega))), by (repeat' (first | (with_reducible exact Below.refl _ _) | (with_reducible assumption) | (with_reducible refine Below.alloc ?_ ?_ _) | (with_reducible refine Below.drew ?_) | (with_reducible refine drewN_below ?_) | (with_reducible refine Below.setCell ?_ ?_ _) | go_size))⟩
  ·have HR2 : Hid (keyS s (D, q, er) = (noS, er)) := Lib.hid (HR.out.trans (if_neg h0))
   have hne : (er != 0) = true := by simpa using h0
   have hne2 : (er == 0) = false := by simpa using h0
   clear h0 HR
   go_enter Tryz.func109, Tryz.ntmps109
   go_wp2_with (first
    | (go_at_call 27; refine (HM.out _ hw0).mono ?_; rintro e w2 ⟨rfl, hst2⟩; have hb2 := below_from hw0 hst2; obtain ⟨q0, g0⟩ := blk (HB.out _ hb2).1) | (go_at_call 28; refine (HSp.out _ hb2).mono ?_; rintro e w3 ⟨rfl, hst3⟩; have hb3 := below_from hb2 hst3; obtain ⟨q1, g1⟩ := blk (HB.out _ hb3).1; have hz3 := hb3.size; have e3 : ¬ w3.heap.size = w.heap.size := (by omega); have r1 := on2 (HB.out _ hb3).1; have HX3 : Hid (∀ X Y, Below W1.heap.size W1 ((w3.alloc X).alloc Y)) := Lib.hid fun X Y => hb3.trans (below2 (Below.refl _ _) X Y |>.mono hz3)) | (go_at_call 122; refine (HD.out _ (HX3.out _ _)).mono ?_; intro e w4 hsaid; obtain ⟨v4, rfl, hv4, hst4⟩ := hsaid; obtain ⟨a4, c4, rfl⟩ := hv4.slice; have hb4 := below_from (HX3.out _ _) hst4; have HV4 := Lib.hid hv4; clear hv4; have hz4 := hst4.size; have m4 := heap_below hst4 (heap_old _ _ (heap_new _ _ rfl)); obtain ⟨q4, g4⟩ := blk m4) | (go_at_fn g; refine (HG.out _ _ a4 c4 hb4 (HX3.out _ _).size hz4 HV4.out).mono ?_; intro e w5 hsaid; obtain ⟨v5, he5, hv5, hst5⟩ := hsaid; simp only [HP.out] at he5; subst he5; obtain ⟨a5, c5, rfl⟩ := hv5.slice; have hb5 := hb4.trans (hst5.mono (HX3.out _ _).size); have HV5 := Lib.hid hv5; clear hv5; obtain ⟨q5, g5⟩ := blk (HB.out _ hb5).2; have hz5 := hb5.size; obtain ⟨r5, s5⟩ := blk1 (HB.out _ hb5).2))
   refine bodyPost_ret (results_st_e rfl _ _ (w.heap.size + 1) (.slice none 0 0) (.int .i64 0) (.int .i64 0) (.int .i64 0) (.int .i64 0) (.int .i64 0) (.int .i64 0) (.int .i64 er) rfl rfl (by simp [heap_set, putIn, heap_old _ _ (HB.out _ hb5).2])) rfl ?_
   unfold StSaid
   rw [HR2.out]
   have hfin := H1.out.trans (hb5.mono hs1)
   exact ⟨_, rfl, SliceR.nil _ _ _ _ _ _, by (repeat' (first | (with_reducible exact Below.refl _ _) | (with_reducible assumption) | (with_reducible refine Below.alloc ?_ ?_ _) | (with_reducible refine Below.drew ?_) | (with_reducible refine drewN_below ?_) | (with_reducible refine Below.setCell ?_ ?_ _) | go_size))⟩
end Go.Proofs.YtpndnbjpnajaaaaGreatDoor
namespace Go.Proofs.YtpndnbjpnajaaaaGreatDoor
open Go.RowKit
open Go.Proofs.Qw
attribute [local go_sem] Oper.semAt_some
theorem DocPB.err {n : Nat} {x : Doc × Ps × Int} {w w' : World} {q : Ps} {e : Int} (hx : x = ([], q, e)) (hb : Below w.heap.size w w') (hn : n ≤ w.heap.size) : DocPB n x w (.returned (.tuple #[.slice none 0 0, .agg #[.int .i64 q.line, .int .i64 q.col], .int .i64 e])) w' := by
 subst hx
 exact ⟨_, rfl, SliceR.nil _ _ _ _ _ _, hb.mono hn⟩
theorem DocPB.same {n : Nat} {x : Doc × Ps × Int} {w w' : World} {v : Value} {O : Doc} {q : Ps} (hx : x = (O, q, 0)) (hO : DocR true w (fun b => n ≤ b) v O) (hb : Below w.heap.size w w') (hn : n ≤ w.heap.size) : DocPB n x w (.returned (.tuple #[v, .agg #[.int .i64 q.line, .int .i64 q.col], .int .i64 0])) w' := by
 subst hx
 exact ⟨_, rfl, hO.below hb, hb.mono hn⟩
set_option maxRecDepth 100000 in
set_option maxHeartbeats 2000000 in
theorem erase1_any (Bs : Nat) (v : Value) (s : St) (n : Nat) (a : Option Addr) (c : Nat) (w : World) (hst : w.heap[Bs]? = some (.cells #[v, .int .i64 s.anc.line, .int .i64 s.anc.col, .int .i64 s.foc.line, .int .i64 s.foc.col, .int .i64 s.on, .int .i64 s.off] 26)) (h : DocR true w (fun b => n ≤ b) (.slice a (outS s).length c) (outS s)) (hn : n ≤ w.heap.size) :
  Calls Tryz.prog 110 #[.slice a (outS s).length c, posV (spanS s).1, .pointer (some ⟨Bs, 0, none⟩)] w (DocPB n (eraseK s) w) := by
 have HR : Hid (eraseK s = if s.anc = s.foc then ([], (spanS s).1, 7) else (outS s, (spanS s).1, 0)) := Lib.hid rfl
 obtain ⟨O, hO⟩ : ∃ O, outS s = O := ⟨_, rfl⟩
 obtain ⟨A, hA⟩ : ∃ A, (spanS s).1 = A := ⟨_, rfl⟩
 rw [hO] at h
 rw [hO, hA] at HR ⊢
 obtain ⟨W1, hW1, hB, hz, k0, k1⟩ := two_pos w (.int .i64 A.line) (.int .i64 A.col) (.int .i64 0) (.int .i64 0)
 have kt := heap_below hB hst
 have H := Lib.hid h
 have H1 := Lib.hid hB
 have HK := Lib.hid k1
 have HN := Lib.hid hn
 have hg := guardPos
 have hq := fun (w : World) => run_eql_pos s.anc s.foc w
 have HP : Hid (∀ p : Ps, posV p = .agg #[.int .i64 p.line, .int .i64 p.col]) := Lib.hid fun _ => rfl
 rw [HP.out]
 obtain ⟨p0, f0⟩ := blk k0
 obtain ⟨p1, f1⟩ := blk k1
 obtain ⟨p2, f2⟩ := blk kt
 by_cases hc : s.anc = s.foc
 ·rw [if_pos hc] at HR
  rw [decide_eq_true hc] at hq
  clear h hB hc k0 k1 kt hst hn hO hA
  go_enter Tryz.func110, Tryz.ntmps110
  go_wp2_with fail
  go_region
  go_wp2_with fail
  refine bodyPost_ret (results_dpe rfl _ _ (w.heap.size + 1) (.int .i64 A.line) (.int .i64 A.col) rfl (by rw [drew_heap]; simp [heap_set, putIn, HK.out])) rfl ?_
  have hfin := H1.out
  exact DocPB.err HR.out (by (repeat' (first | (with_reducible exact Below.refl _ _) | (with_reducible assumption) | (with_reducible refine Below.alloc ?_ ?_ _) | (with_reducible refine Below.drew ?_) | (with_reducible refine drewN_below ?_) | (with_reducible refine Below.setCell ?_ ?_ _) | go_size))) HN.out
 ·rw [if_neg hc] at HR
  rw [decide_eq_false hc] at hq
  clear h hB hc k0 k1 kt hst hn hO hA
  go_enter Tryz.func110, Tryz.ntmps110
  go_wp2_with fail
  go_region
  go_wp2_with fail
  refine bodyPost_ret (results_dpe rfl _ _ (w.heap.size + 1) (.int .i64 A.line) (.int .i64 A.col) rfl (by rw [drew_heap]; simp [heap_set, putIn, HK.out])) rfl ?_
  have hfin := H1.out
  exact DocPB.same HR.out H.out (by (repeat' (first | (with_reducible exact Below.refl _ _) | (with_reducible assumption) | (with_reducible refine Below.alloc ?_ ?_ _) | (with_reducible refine Below.drew ?_) | (with_reducible refine drewN_below ?_) | (with_reducible refine Below.setCell ?_ ?_ _) | go_size))) HN.out
set_option maxRecDepth 100000 in
set_option maxHeartbeats 2000000 in
theorem forth1_any (Bs : Nat) (v : Value) (s : St) (n : Nat) (a : Option Addr) (c : Nat) (w : World) (hst : w.heap[Bs]? = some (.cells #[v, .int .i64 s.anc.line, .int .i64 s.anc.col, .int .i64 s.foc.line, .int .i64 s.foc.col, .int .i64 s.on, .int .i64 s.off] 26)) (h : DocR true w (fun b => n ≤ b) (.slice a (outS s).length c) (outS s)) (hn : n ≤ w.heap.size) (he : EnvT w) (hs : Small (outS s)) (hf : Fits (outS s)) :
  Calls Tryz.prog 125 #[.slice a (outS s).length c, posV (spanS s).1, .pointer (some ⟨Bs, 0, none⟩)] w (DocPB n (forthK s) w) := by
 have HR : Hid (forthK s = if s.anc = s.foc then (if (stepD (outS s) (spanS s).1 1).2 = true then cutK (outS s) (spanS s).1 (stepD (outS s) (spanS s).1 1).1 (spanS s).1 else ([], (spanS s).1, 7)) else (outS s, (spanS s).1, 0)) := Lib.hid rfl
 obtain ⟨O, hO⟩ : ∃ O, outS s = O := ⟨_, rfl⟩
 obtain ⟨A, hA⟩ : ∃ A, (spanS s).1 = A := ⟨_, rfl⟩
 rw [hO] at h hs hf
 rw [hO, hA] at HR ⊢
 obtain ⟨W1, hW1, hB, hz, k0, k1⟩ := two_pos w (.int .i64 A.line) (.int .i64 A.col) (.int .i64 0) (.int .i64 0)
 have hs1 := hB.size
 have kt := heap_below hB hst
 have HB : Hid (∀ W, Below W1.heap.size W1 W → W.heap[w.heap.size]? = some (.cells #[.int .i64 A.line, .int .i64 A.col] 24) ∧ W.heap[w.heap.size + 1]? = some (.cells #[.int .i64 0, .int .i64 0] 24) ∧ W.heap[Bs]? = some (.cells #[v, .int .i64 s.anc.line, .int .i64 s.anc.col, .int .i64 s.foc.line, .int .i64 s.foc.col, .int .i64 s.on, .int .i64 s.off] 26)) := Lib.hid fun W hW => ⟨heap_below hW k0, heap_below hW k1, heap_below hW kt⟩
 have hw0 : Below W1.heap.size W1 W1 := Below.refl _ _
 have HS : Hid (∀ W, Below W1.heap.size W1 W → Calls Tryz.prog 121 #[.slice a O.length c, .agg #[.int .i64 A.line, .int .i64 A.col], .int .i64 1] W fun e w' => e = .returned (.tuple #[.agg #[.int .i64 (stepD O A 1).1.line, .int .i64 (stepD O A 1).1.col], .bool (stepD O A 1).2]) ∧ Below W.heap.size W w') := Lib.hid fun W hW => step_any _ O A 1 W w (fun b => n ≤ b) h.read (hB.trans (hW.mono hs1)) hs.1 hs.2.1 (by decide)
 have HD : Hid (∀ p W, Below W1.heap.size W1 W → Calls Tryz.prog 122 #[.slice a O.length c, .agg #[.int .i64 A.line, .int .i64 A.col], .agg #[.int .i64 p.line, .int .i64 p.col]] W (DocSaid (deleteD O A p) W)) := Lib.hid fun p W hW => docDelete_any _ O A p W (fun b => n ≤ b) (h.below (hB.trans (hW.mono hs1))).read ((he.below hB).below hW) hs hf
 have H := Lib.hid h
 have H1 := Lib.hid hB
 have HN := Lib.hid hn
 have hg := guardPos
 have hq := fun (w : World) => run_neq_pos s.anc s.foc w
 have HP : Hid (∀ p : Ps, posV p = .agg #[.int .i64 p.line, .int .i64 p.col]) := Lib.hid fun _ => rfl
 rw [HP.out]
 obtain ⟨q, t, hqt⟩ : ∃ q t, stepD O A 1 = (q, t) := ⟨_, _, rfl⟩
 rw [hqt] at HR HS
 simp only at HR HS
 have HD := Lib.hid (fun W hW => HD.out q W hW)
 obtain ⟨p0, f0⟩ := blk k0
 by_cases hc : s.anc = s.foc
 ·rw [if_pos hc] at HR
  rw [decide_eq_true hc] at hq
  cases t
  ·rw [if_neg (by decide)] at HR
   clear h hB hc k0 k1 kt hst hn hO hA hs hf he hqt HD
   go_enter Tryz.func125, Tryz.ntmps125
   go_wp2_with (go_at_call 121; refine (HS.out _ hw0).mono ?_; rintro e w2 ⟨rfl, hst2⟩; have hb2 := below_from hw0 hst2; obtain ⟨c0, d0⟩ := blk1 (HB.out _ hb2).1; obtain ⟨c1, d1⟩ := blk1 (HB.out _ hb2).2.1; obtain ⟨c2, d2⟩ := blk1 (HB.out _ hb2).2.2; have hz2 := hb2.size; have n1 : ¬ w2.heap.size = w.heap.size + 1 := (by omega); have n2 : ¬ w.heap.size + 1 = w2.heap.size := (by omega))
   go_region
   go_wp2_with fail
   have hfin := H1.out.trans (hb2.mono hs1)
   refine bodyPost_ret (results_dpe rfl _ _ (w.heap.size + 1) (.int .i64 A.line) (.int .i64 A.col) rfl (by rw [drew_heap]; simp [heap_set, putIn, heap_old _ _ (HB.out _ hb2).2.1])) rfl ?_
   exact DocPB.err HR.out (by (repeat' (first | (with_reducible exact Below.refl _ _) | (with_reducible assumption) | (with_reducible refine Below.alloc ?_ ?_ _) | (with_reducible refine Below.drew ?_) | (with_reducible refine drewN_below ?_) | (with_reducible refine Below.setCell ?_ ?_ _) | go_size))) HN.out
  ·rw [if_pos rfl] at HR
   have HX : Hid (cutK O A q A = ((deleteD O A q).1, A, (deleteD O A q).2)) := Lib.hid rfl
   obtain ⟨D, er, hD⟩ : ∃ D er, deleteD O A q = (D, er) := ⟨_, _, rfl⟩
   rw [hD] at HX HD
   clear h hB hc k0 k1 kt hst hn hO hA hs hf he hqt hD
   go_enter Tryz.func125, Tryz.ntmps125
   go_wp2_with (first
    | (go_at_call 121; refine (HS.out _ hw0).mono ?_; rintro e w2 ⟨rfl, hst2⟩; have hb2 := below_from hw0 hst2; obtain ⟨c0, d0⟩ := blk1 (HB.out _ hb2).1; obtain ⟨c1, d1⟩ := blk1 (HB.out _ hb2).2.1; obtain ⟨c2, d2⟩ := blk1 (HB.out _ hb2).2.2; have hz2 := hb2.size; have n1 : ¬ w2.heap.size = w.heap.size + 1 := (by omega); have n2 : ¬ w.heap.size + 1 = w2.heap.size := (by omega))
    | (go_at_call 122; refine (HD.out _ (hb2.alloc hb2.size _)).mono ?_; intro e w4 hsaid; obtain ⟨v4, rfl, hv4, hst4⟩ := hsaid; have hb4 := below_from (hb2.alloc hb2.size _) hst4; have HV4 := Lib.hid hv4; clear hv4; obtain ⟨q0, g0⟩ := blk (HB.out _ hb4).1; obtain ⟨q1, g1⟩ := blk (HB.out _ hb4).2.1))
   go_region
   go_wp2_with fail
   have hfin := H1.out.trans (hb4.mono hs1)
   refine bodyPost_ret (results_dpe rfl _ _ (w.heap.size + 1) (.int .i64 A.line) (.int .i64 A.col) rfl (by rw [drew_heap]; simp [heap_set, putIn, (HB.out _ hb4).2.1])) rfl ?_
   rw [HR.out, HX.out]
   have hv4 := HV4.out
   have hn4 : n ≤ w.heap.size := HN.out
   refine ⟨_, rfl, (SliceR.stable (rdLin_stable _) hv4 (by (repeat' (first | (with_reducible exact Keeps.refl _ _) | (with_reducible refine Keeps.set ?_ ?_ _) | (with_reducible refine Keeps.alloc ?_ _) | (with_reducible refine Keeps.drew ?_) | (first | fail) | (simp; omega)))) (fun b h _ => (by have h' := h; (try simp at h'); omega))), ?_⟩
   refine Below.mono ?_ HN.out
   (repeat' (first | (with_reducible exact Below.refl _ _) | (with_reducible assumption) | (with_reducible refine Below.alloc ?_ ?_ _) | (with_reducible refine Below.drew ?_) | (with_reducible refine drewN_below ?_) | (with_reducible refine Below.setCell ?_ ?_ _) | go_size))
 ·rw [if_neg hc] at HR
  rw [decide_eq_false hc] at hq
  clear h hB hc k0 k1 kt hst hn hO hA hs hf he hqt HD
  go_enter Tryz.func125, Tryz.ntmps125
  go_wp2_with (go_at_call 121; refine (HS.out _ hw0).mono ?_; rintro e w2 ⟨rfl, hst2⟩; have hb2 := below_from hw0 hst2; obtain ⟨c0, d0⟩ := blk1 (HB.out _ hb2).1; obtain ⟨c1, d1⟩ := blk1 (HB.out _ hb2).2.1; obtain ⟨c2, d2⟩ := blk1 (HB.out _ hb2).2.2; have hz2 := hb2.size; have n1 : ¬ w2.heap.size = w.heap.size + 1 := (by omega); have n2 : ¬ w.heap.size + 1 = w2.heap.size := (by omega))
  go_region
  go_wp2_with fail
  have hfin := H1.out.trans (hb2.mono hs1)
  refine bodyPost_ret (results_dpe rfl _ _ (w.heap.size + 1) (.int .i64 A.line) (.int .i64 A.col) rfl (by rw [drew_heap]; simp [heap_set, putIn, heap_old _ _ (HB.out _ hb2).2.1])) rfl ?_
  exact DocPB.same HR.out H.out (by (repeat' (first | (with_reducible exact Below.refl _ _) | (with_reducible assumption) | (with_reducible refine Below.alloc ?_ ?_ _) | (with_reducible refine Below.drew ?_) | (with_reducible refine drewN_below ?_) | (with_reducible refine Below.setCell ?_ ?_ _) | go_size))) HN.out
set_option maxRecDepth 100000 in
set_option maxHeartbeats 2000000 in
theorem typErase_any (v : Value) (s : St) (w : World) (S : Nat → Prop) (h : LinsR w S v s.lines) (he : EnvT w) (hs : Small s.lines) (hf : Fits s.lines) :
  Calls Tryz.prog 45 #[stV v s] w (StSaid (keyS s (eraseK s)) w) := by
 obtain ⟨W1, hW1, hB, hz, k0, k1⟩ := st_two w v s
 have HB : Hid (∀ W, Below W1.heap.size W1 W → W.heap[w.heap.size]? = some (.cells #[v, .int .i64 s.anc.line, .int .i64 s.anc.col, .int .i64 s.foc.line, .int .i64 s.foc.col, .int .i64 s.on, .int .i64 s.off] 26) ∧ W.heap[w.heap.size + 1]? = some (.cells #[.slice none 0 0, .int .i64 0, .int .i64 0, .int .i64 0, .int .i64 0, .int .i64 0, .int .i64 0] 26)) := Lib.hid fun W hW => ⟨heap_below hW k0, heap_below hW k1⟩
 have hs1 := hB.size
 have H1 := Lib.hid hB
 have HC := Lib.hid (emptied_any v s 110 #[.pointer (some ⟨w.heap.size, 0, none⟩)] (eraseK s) W1 S (h.below (rdLin_stable _) hB) (he.below hB) hs hf (enters_of Tryz.func110 (by kernel_rfl) rfl)
  (fun hm n W a c hW h1 h2 h3 => erase1_any (w.heap.size) v s n a c W (heap_below hW k0) h3 h2))
 obtain ⟨X, hX⟩ : ∃ X, keyS s (eraseK s) = X := ⟨_, rfl⟩
 rw [hX] at HC ⊢
 obtain ⟨p0, f0⟩ := blk k0
 obtain ⟨p1, f1⟩ := blk k1
 obtain ⟨va, vc, rfl⟩ := h.slice
 clear h he hs hf hX k0 k1 hB
 go_enter Tryz.func45, Tryz.ntmps45
 go_wp2_with (go_at_call 109; refine HC.out.mono ?_; intro e w2 hsaid; obtain ⟨v2, rfl, hv2, hb2⟩ := hsaid; obtain ⟨a2, c2, rfl⟩ := hv2.slice; have HV2 := Lib.hid hv2; clear hv2; obtain ⟨q2, g2⟩ := blk (HB.out _ hb2).2)
 refine bodyPost_ret (results_st_e rfl _ _ (w.heap.size + 1) (.slice a2 X.1.lines.length c2) (.int .i64 X.1.anc.line) (.int .i64 X.1.anc.col) (.int .i64 X.1.foc.line) (.int .i64 X.1.foc.col) (.int .i64 X.1.on) (.int .i64 X.1.off) (.int .i64 X.2) rfl rfl (by simp [heap_set, putIn, (HB.out _ hb2).2])) rfl ?_
 have hfin := H1.out.trans (hb2.mono hs1)
 have hv2 := HV2.out
 exact ⟨_, rfl, (SliceR.stable (rdLin_stable _) hv2 (by (repeat' (first | (with_reducible exact Keeps.refl _ _) | (with_reducible refine Keeps.set ?_ ?_ _) | (with_reducible refine Keeps.alloc ?_ _) | (with_reducible refine Keeps.drew ?_) | (first | fail) | (simp; omega)))) (fun b h _ => (by have h' := h; (try simp at h'); omega))), by (repeat' (first | (with_reducible exact Below.refl _ _) | (with_reducible assumption) | (with_reducible refine Below.alloc ?_ ?_ _) | (with_reducible refine Below.drew ?_) | (with_reducible refine drewN_below ?_) | (with_reducible refine Below.setCell ?_ ?_ _) | go_size))⟩
set_option maxRecDepth 100000 in
set_option maxHeartbeats 2000000 in
theorem typForth_any (v : Value) (s : St) (w : World) (S : Nat → Prop) (h : LinsR w S v s.lines) (he : EnvT w) (hs : Small s.lines) (hf : Fits s.lines) :
  Calls Tryz.prog 52 #[stV v s] w (StSaid (keyS s (forthK s)) w) := by
 obtain ⟨W1, hW1, hB, hz, k0, k1⟩ := st_two w v s
 have HB : Hid (∀ W, Below W1.heap.size W1 W → W.heap[w.heap.size]? = some (.cells #[v, .int .i64 s.anc.line, .int .i64 s.anc.col, .int .i64 s.foc.line, .int .i64 s.foc.col, .int .i64 s.on, .int .i64 s.off] 26) ∧ W.heap[w.heap.size + 1]? = some (.cells #[.slice none 0 0, .int .i64 0, .int .i64 0, .int .i64 0, .int .i64 0, .int .i64 0, .int .i64 0] 26)) := Lib.hid fun W hW => ⟨heap_below hW k0, heap_below hW k1⟩
 have hs1 := hB.size
 have H1 := Lib.hid hB
 have HC := Lib.hid (emptied_any v s 125 #[.pointer (some ⟨w.heap.size, 0, none⟩)] (forthK s) W1 S (h.below (rdLin_stable _) hB) (he.below hB) hs hf (enters_of Tryz.func125 (by kernel_rfl) rfl)
  (fun hm n W a c hW h1 h2 h3 => forth1_any (w.heap.size) v s n a c W (heap_below hW k0) h3 h2 ((he.below hB).below hW) (may_small (out_facts hm).1).1 (may_small (out_facts hm).1).2))
 obtain ⟨X, hX⟩ : ∃ X, keyS s (forthK s) = X := ⟨_, rfl⟩
 rw [hX] at HC ⊢
 obtain ⟨p0, f0⟩ := blk k0
 obtain ⟨p1, f1⟩ := blk k1
 obtain ⟨va, vc, rfl⟩ := h.slice
 clear h he hs hf hX k0 k1 hB
 go_enter Tryz.func52, Tryz.ntmps52
 go_wp2_with (go_at_call 109; refine HC.out.mono ?_; intro e w2 hsaid; obtain ⟨v2, rfl, hv2, hb2⟩ := hsaid; obtain ⟨a2, c2, rfl⟩ := hv2.slice; have HV2 := Lib.hid hv2; clear hv2; obtain ⟨q2, g2⟩ := blk (HB.out _ hb2).2)
 refine bodyPost_ret (results_st_e rfl _ _ (w.heap.size + 1) (.slice a2 X.1.lines.length c2) (.int .i64 X.1.anc.line) (.int .i64 X.1.anc.col) (.int .i64 X.1.foc.line) (.int .i64 X.1.foc.col) (.int .i64 X.1.on) (.int .i64 X.1.off) (.int .i64 X.2) rfl rfl (by simp [heap_set, putIn, (HB.out _ hb2).2])) rfl ?_
 have hfin := H1.out.trans (hb2.mono hs1)
 have hv2 := HV2.out
 exact ⟨_, rfl, (SliceR.stable (rdLin_stable _) hv2 (by (repeat' (first | (with_reducible exact Keeps.refl _ _) | (with_reducible refine Keeps.set ?_ ?_ _) | (with_reducible refine Keeps.alloc ?_ _) | (with_reducible refine Keeps.drew ?_) | (first | fail) | (simp; omega)))) (fun b h _ => (by have h' := h; (try simp at h'); omega))), by (repeat' (first | (with_reducible exact Below.refl _ _) | (with_reducible assumption) | (with_reducible refine Below.alloc ?_ ?_ _) | (with_reducible refine Below.drew ?_) | (with_reducible refine drewN_below ?_) | (with_reducible refine Below.setCell ?_ ?_ _) | go_size))⟩
end Go.Proofs.YtpndnbjpnajaaaaGreatDoor
