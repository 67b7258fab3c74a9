/- What styling tells of a state: styling.Bits, Has, Mixed. -/
import Derived.Test.YtpndnbjpnajaaaaGreatDoorStyTells
import Derived.Test.YtpndnbjpnajaaaaGreatDoorRefPart
import Derived.Test.YtpndnbjpnajaaaaGreatDoorRefTarget
import Derived.Test.YtpndnbjpnajaaaaGreatDoorReplace
import Derived.Test.YtpndnbjpnajaaaaGreatDoorCells
import Derived.Deep.RegionHeld3
import Derived.Deep.DrawnRows
set_option linter.unusedVariables false
set_option linter.unusedSimpArgs false
namespace Go.Proofs.YtpndnbjpnajaaaaGreatDoor
open Go.RowKit
open Go.Proofs.Qw
attribute [local go_sem] Oper.semAt_some
theorem st_on2 {w : World} {B : Nat} {cs : Array Value} {t : TypeId} (h : w.heap[B]? = some (.cells cs t)) : ∀ X Y k, ((w.alloc X).alloc Y).cell? ⟨B, k, none⟩ = cs[k]? := fun X Y _ => cell_of_heap (heap_old _ Y (heap_old _ X h))
def BI (w : World) (Ba Bn Z : Nat) (pre : List Cel) (W : World) : Prop :=
  Boxed W Ba 3 (.int .i64 (andB pre)) ∧ Boxed W Bn 3 (.int .i64 pre.length) ∧ Below w.heap.size w W ∧ Z ≤ W.heap.size
theorem bi_own {w : World} {Ba Bn Z B : Nat} (hB : w.heap.size ≤ B) : OwnFrom B (BI w Ba Bn Z) :=
  OwnFrom.and (Own.from (boxed_own _ _ (fun pre : List Cel => .int .i64 (andB pre))) _) (OwnFrom.and (Own.from (boxed_own _ _ (fun pre : List Cel => .int .i64 pre.length)) _) (OwnFrom.and (ownFrom_below (Nat.le_refl _) hB) (ownFrom_size _ _)))
theorem all_count' (d : List Cel) (t : Int) : (decide (0 < d.length) && decide (d.countP (fun x => bits .and .i64 x.bits t == t) = d.length)) = allL d t := by
  rw [Bool.eq_iff_iff]
  simp only [allL, Bool.and_eq_true, decide_eq_true_eq, List.all_eq_true, List.countP_eq_length]
theorem any_count' (d : List Cel) (t : Int) : decide (0 < d.countP (fun x => bits .and .i64 x.bits t != 0)) = someL d t := by
  rw [Bool.eq_iff_iff]
  simp only [someL, decide_eq_true_eq, List.any_eq_true, List.countP_pos_iff]
theorem andB_snoc (l : List Cel) (x : Cel) : andB (l ++ [x]) = bits .and .i64 (andB l) x.bits := by simp [andB]
set_option maxRecDepth 100000 in
set_option maxHeartbeats 4000000 in
theorem styBits_any (v : Value) (s : St) (w : World) (S : Nat → Prop) (h : LinsR w S v s.lines) (he : EnvT w) (hs : Small s.lines) (hf : Fits s.lines) :
    Calls Tryz.prog 19 #[stV v s] w fun e w' => e = .returned (.int .i64 (bitsS s)) ∧ Below w.heap.size w w' := by
  obtain ⟨W1, hW1, hB, hz, k0⟩ := one_st w v s
  have HB : Hid (∀ W, Below W1.heap.size W1 W → W.heap[w.heap.size]? = some (.cells #[v, .int .i64 s.anc.line, .int .i64 s.anc.col, .int .i64 s.foc.line, .int .i64 s.foc.col, .int .i64 s.on, .int .i64 s.off] 26)) := Lib.hid fun W hW => heap_below hW k0
  have hs1 := hB.size
  have H1 := Lib.hid hB
  have hw0 : Below W1.heap.size W1 W1 := Below.refl _ _
  have HV : Hid (∀ W, Below W1.heap.size W1 W → LinsR W S v s.lines) := Lib.hid fun W hW => h.below (rdLin_stable _) (hB.trans (hW.mono hs1))
  have HE : Hid (∀ W, Below W1.heap.size W1 W → EnvT W) := Lib.hid fun W hW => (he.below hB).below hW
  have HM : Hid (∀ W, Below W1.heap.size W1 W → Calls Tryz.prog 27 #[stV v s] W fun e w' => e = .returned (.bool (mayS s)) ∧ Below W.heap.size W w') := Lib.hid fun W hW => stMay_any v s W S (HV.out W hW) (HE.out W hW) hs
  have HSp : Hid (∀ W, Below W1.heap.size W1 W → Calls Tryz.prog 28 #[stV v s] W fun e w' => e = .returned (.tuple #[.agg #[.int .i64 (spanS s).1.line, .int .i64 (spanS s).1.col], .agg #[.int .i64 (spanS s).2.line, .int .i64 (spanS s).2.col]]) ∧ Below W.heap.size W w') := Lib.hid fun W _ => stSpan_any v s W
  have HO : Hid (∀ W, Below W1.heap.size W1 W → Calls Tryz.prog 75 #[stV v s] W fun e w' => e = .returned (.bool (!decide (s.anc = s.foc))) ∧ Below W.heap.size W w') := Lib.hid fun W _ => styOpen_any v s W
  have HVF := Lib.hid (And.intro h (And.intro he (And.intro hs hf)))
  have hbs : bitsS s = if mayS s = true then (if s.anc = s.foc then bits .or .i64 (bits .andNot .i64 (aroundF (cellsAt s) s.anc.col.toNat).1 s.off) s.on else bitsL (selS s)) else 0 := rfl
  have HR := Lib.hid hbs
  clear hbs
  cases hm : mayS s
  · rw [hm] at HM HR
    have HR : Hid (bitsS s = 0) := Lib.hid (HR.out.trans (if_neg (by simp)))
    obtain ⟨p0, f0⟩ := blk k0
    obtain ⟨va, vc, rfl⟩ := h.slice
    clear h he hs hf k0 hB hm HSp HO HVF
    go_enter Tryz.func19, Tryz.ntmps19
    go_wp2_with (go_at_call 27; refine (HM.out _ hw0).mono ?_; rintro e w2 ⟨rfl, hb2⟩)
    go_ret
    rw [HR.out]
    exact ⟨rfl, H1.out.trans (hb2.mono hs1)⟩
  by_cases hc : s.anc = s.foc
  · rw [hm] at HM HR
    rw [if_pos rfl, if_pos hc] at HR
    rw [decide_eq_true hc] at HO
    rw [spanS_closed hc] at HSp
    have HR := Lib.hid HR.out
    obtain ⟨i, n, l, hi, hn, hl, hcl, hnn, hnl⟩ := place_at (mayS_at hm).2.1
    have hc1 : (aroundF (cellsAt s) s.anc.col.toNat) = aroundF l.cells n := by unfold cellsAt; rw [hcl, hnn]
    obtain ⟨x, y, hxy⟩ : ∃ x y, aroundF l.cells n = (x, y) := ⟨_, _, rfl⟩
    rw [hc1, hxy] at HR
    have HXY := Lib.hid hxy
    have hil := (List.getElem?_eq_some_iff.1 hl).1
    obtain ⟨va, vc, rfl, hvc, hvm, hx⟩ := lins_shape h
    obtain ⟨b, o, la, lc, ca, cc, rfl, hAt⟩ := hx i l hl
    have HAT : Hid (∀ W, Below W1.heap.size W1 W → LinAt W S b (o + i * 4) l la lc ca cc) := Lib.hid fun W hW => hAt.below (hB.trans (hW.mono hs1))
    unfold maxLen at hvm
    have i0 : (0 : Int) ≤ (i : Int) := Int.natCast_nonneg _
    have i1 : (i : Int) < (s.lines.length : Int) := by omega
    obtain ⟨p0, f0⟩ := blk k0
    obtain ⟨r, hr⟩ : ∃ r, bitsS s = r := ⟨_, rfl⟩
    rw [hr] at HR ⊢
    clear hr
    obtain ⟨lines, anc, foc, on, off⟩ := s
    obtain ⟨al, ac⟩ := anc
    simp only at hi hn hc
    subst hi hn hc
    clear h he hs hf hm hcl hnn hc1 hxy hl hx hAt k0 hB HVF
    go_enter Tryz.func19, Tryz.ntmps19
    go_wp2_with (first | (go_at_call 27; refine (HM.out _ hw0).mono ?_; rintro e w2 ⟨rfl, hb2⟩; obtain ⟨q0, g0⟩ := blk (HB.out _ hb2)) | (go_at_call 28; refine (HSp.out _ hb2).mono ?_; rintro e w3 ⟨rfl, hst3⟩; have hb3 := below_from hb2 hst3; obtain ⟨q1, g1⟩ := blk (HB.out _ hb3); have e3 : ¬ w3.heap.size = w.heap.size := (by have := hb3.size; omega); have HA3 : Hid (∀ X Y, Below W1.heap.size W1 ((w3.alloc X).alloc Y)) := Lib.hid fun X Y => (hb3.alloc hb3.size X).alloc (by have := hb3.size; simp; omega) Y; have r1 := st_on2 (HB.out _ hb3)) | (go_at_call 75; refine (HO.out _ (HA3.out _ _)).mono ?_; rintro e w4 ⟨rfl, hst4⟩))
    have hb4 := below_from (HA3.out _ _) hst4
    have n3 : w4.heap[w3.heap.size]? = some (.cells #[.int .i64 i, .int .i64 n] 24) := heap_below hst4 (heap_old _ _ (heap_new _ _ rfl))
    have HB4 : Hid (∀ W, Below w4.heap.size w4 W → W.heap[w3.heap.size]? = some (.cells #[.int .i64 i, .int .i64 n] 24)) := Lib.hid fun W hW => heap_below hW n3
    have HAr : Hid (∀ W, Below w4.heap.size w4 W → Calls Tryz.prog 76 #[.slice ca l.cells.length cc, .int .i64 n] W fun e w' => e = .returned (.tuple #[.int .i64 x, .string ⟨y.toArray⟩]) ∧ Below W.heap.size W w') := Lib.hid fun W hW => by
      have := around_any _ l.cells n W S (HAT.out W (below_from hb4 hW)).cellsR hnl
      rw [HXY.out] at this
      exact this
    try clear n3 q0 g0 p0 f0 q1 g1 r1
    refine wp_region_grew w4.heap.size (by kernel_rfl) (by kernel_rfl) ?_
    refine BigFrame.wpQuiet_want (by kernel_rfl) (fun K hK => ?_)
    refine quiet_val ?_ (fun W hW => ?_) (hK _ ?_)
    rotate_left 1
    · skip
      go_simp
      try rfl
    clear hK
    clear K
    try simp only [Act.put, List.setIfInBounds_toArray, List.set_cons_zero, List.set_cons_succ]
    refine BigFrame.wpQuiet_want (by kernel_rfl) (fun K hK => ?_)
    refine quiet_val ?_ (fun W hW => ?_) (hK _ ?_)
    rotate_left 1
    · skip
      obtain ⟨p0, f0⟩ := blk (HB.out _ (below_from hb4 hW))
      obtain ⟨p3, f3⟩ := blk (HB4.out _ hW)
      obtain ⟨_, _, _, _, c3, _, _⟩ := HAT.out _ (below_from hb4 hW)
      go_simp
      try rfl
    clear hK
    clear K
    try simp only [Act.put, List.setIfInBounds_toArray, List.set_cons_zero, List.set_cons_succ]
    refine BigFrame.wpQuiet_want (by kernel_rfl) (fun K hK => ?_)
    refine quiet_val ?_ (fun W hW => ?_) (hK _ ?_)
    rotate_left 1
    · skip
      go_simp
      try rfl
    clear hK
    clear K
    try simp only [Act.put, List.setIfInBounds_toArray, List.set_cons_zero, List.set_cons_succ]
    refine BigFrame.wpQuiet_want (by kernel_rfl) (fun K hK => ?_)
    refine quiet_val ?_ (fun W hW => ?_) (hK _ ?_)
    rotate_left 1
    · skip
      obtain ⟨p0, f0⟩ := blk (HB.out _ (below_from hb4 hW))
      obtain ⟨p3, f3⟩ := blk (HB4.out _ hW)
      obtain ⟨_, _, _, _, c3, _, _⟩ := HAT.out _ (below_from hb4 hW)
      go_simp
      try rfl
    clear hK
    clear K
    try simp only [Act.put, List.setIfInBounds_toArray, List.set_cons_zero, List.set_cons_succ]
    refine BigFrame.wpQuiet_want (by kernel_rfl) (fun K hK => ?_)
    refine quiet_val ?_ (fun W hW => ?_) (hK _ ?_)
    rotate_left 1
    · skip
      go_simp
      try rfl
    clear hK
    clear K
    try simp only [Act.put, List.setIfInBounds_toArray, List.set_cons_zero, List.set_cons_succ]
    refine BigFrame.wpQuiet_want (by kernel_rfl) (fun K hK => ?_)
    refine quiet_val ?_ (fun W hW => ?_) (hK _ ?_)
    rotate_left 1
    · skip
      go_simp
      try rfl
    clear hK
    clear K
    try simp only [Act.put, List.setIfInBounds_toArray, List.set_cons_zero, List.set_cons_succ]
    refine BigFrame.wpQuiet_want (by kernel_rfl) (fun K hK => ?_)
    refine quiet_val ?_ (fun W hW => ?_) (hK _ ?_)
    rotate_left 1
    · skip
      obtain ⟨p0, f0⟩ := blk (HB.out _ (below_from hb4 hW))
      obtain ⟨p3, f3⟩ := blk (HB4.out _ hW)
      obtain ⟨_, _, _, _, c3, _, _⟩ := HAT.out _ (below_from hb4 hW)
      go_simp
      try rfl
    clear hK
    clear K
    try simp only [Act.put, List.setIfInBounds_toArray, List.set_cons_zero, List.set_cons_succ]
    refine BigFrame.wpQuiet_want (by kernel_rfl) (fun K hK => ?_)
    refine quiet_val ?_ (fun W hW => ?_) (hK _ ?_)
    rotate_left 1
    · skip
      go_simp
      try rfl
    clear hK
    clear K
    try simp only [Act.put, List.setIfInBounds_toArray, List.set_cons_zero, List.set_cons_succ]
    refine BigFrame.wpQuiet_want (by kernel_rfl) (fun K hK => ?_)
    refine quiet_val ?_ (fun W hW => ?_) (hK _ ?_)
    rotate_left 1
    · skip
      obtain ⟨p0, f0⟩ := blk (HB.out _ (below_from hb4 hW))
      obtain ⟨p3, f3⟩ := blk (HB4.out _ hW)
      obtain ⟨_, _, _, _, c3, _, _⟩ := HAT.out _ (below_from hb4 hW)
      go_simp
      try rfl
    clear hK
    clear K
    try simp only [Act.put, List.setIfInBounds_toArray, List.set_cons_zero, List.set_cons_succ]
    refine BigFrame.wpQuiet_want (by kernel_rfl) (fun K hK => ?_)
    refine quiet_calls (f := ?_) (args := ?_) ?_ (fun W hW => ?_) (fun W hW => ?_) (hK _ ?_)
    rotate_left 3
    · go_simp
      constructor <;> rfl
    · refine (HAr.out _ hW).mono ?_
      rintro e W2 ⟨rfl, hbW⟩
      refine ⟨?_, below_from hW hbW⟩
      rfl
    clear hK
    clear K
    try simp only [Act.put, List.setIfInBounds_toArray, List.set_cons_zero, List.set_cons_succ]
    refine BigFrame.wpQuiet_want (by kernel_rfl) (fun K hK => ?_)
    refine quiet_val ?_ (fun W hW => ?_) (hK _ ?_)
    rotate_left 1
    · skip
      go_simp
      try rfl
    clear hK
    clear K
    try simp only [Act.put, List.setIfInBounds_toArray, List.set_cons_zero, List.set_cons_succ]
    refine BigFrame.wpQuiet_want (by kernel_rfl) (fun K hK => ?_)
    refine quiet_val ?_ (fun W hW => ?_) (hK _ ?_)
    rotate_left 1
    · skip
      go_simp
      try rfl
    clear hK
    clear K
    try simp only [Act.put, List.setIfInBounds_toArray, List.set_cons_zero, List.set_cons_succ]
    refine BigFrame.wpQuiet_want (by kernel_rfl) (fun K hK => ?_)
    refine quiet_val ?_ (fun W hW => ?_) (hK _ ?_)
    rotate_left 1
    · skip
      go_simp
      try rfl
    clear hK
    clear K
    try simp only [Act.put, List.setIfInBounds_toArray, List.set_cons_zero, List.set_cons_succ]
    refine BigFrame.wpQuiet_want (by kernel_rfl) (fun K hK => ?_)
    refine quiet_val ?_ (fun W hW => ?_) (hK _ ?_)
    rotate_left 1
    · skip
      go_simp
      try rfl
    clear hK
    clear K
    try simp only [Act.put, List.setIfInBounds_toArray, List.set_cons_zero, List.set_cons_succ]
    refine BigFrame.wpQuiet_want (by kernel_rfl) (fun K hK => ?_)
    refine quiet_val ?_ (fun W hW => ?_) (hK _ ?_)
    rotate_left 1
    · skip
      go_simp
      try rfl
    clear hK
    clear K
    try simp only [Act.put, List.setIfInBounds_toArray, List.set_cons_zero, List.set_cons_succ]
    refine wpQuiet_nil (fun X6 hstX6 => ?_)
    have hcX6 := below_from hb4 hstX6
    obtain ⟨p0, f0⟩ := blk (HB.out _ hcX6)
    go_wp2_with fail
    go_ret
    rw [HR.out]
    exact ⟨rfl, H1.out.trans (hcX6.mono hs1)⟩
  · rw [hm] at HM HR
    rw [if_pos rfl, if_neg hc] at HR
    rw [decide_eq_false hc] at HO
    have HR := Lib.hid HR.out
    obtain ⟨A, B, hAB⟩ : ∃ A B, spanS s = (A, B) := ⟨_, _, rfl⟩
    have hsel : selS s = cellsD s.lines A B := by unfold selS; rw [hAB]
    rw [hsel] at HR
    rw [hAB] at HSp
    have HVF := HVF
    have hL : (cellsD s.lines A B).length ≤ 100000 := Nat.le_trans (cellsD_size _ _ _) hs.1
    have HL := Lib.hid hL
    obtain ⟨p0, f0⟩ := blk k0
    obtain ⟨va, vc, rfl⟩ := h.slice
    clear h he hs hf hm hc hAB hsel hL k0 hB
    refine (callsIn_wide (n := 6)).1 ?_
    refine callsIn_of_wp_marks Tryz.func19 rfl trivial ?_ rfl
    simp only [Tryz.ntmps19, List.size_toArray, List.length_cons, List.length_nil, Nat.reduceAdd, Nat.reduceSub, Array.replicate_succ, Array.replicate_zero, List.push_toArray, List.append_toArray, List.nil_append, List.cons_append]
    have hwf : ∀ f, Fence.wide.fn f := fun _ => trivial
    have hwd : Fence.wide.depth = none := rfl
    gi_wp2_with (first
      | (gi_at_call 27; refine (callsIn_wide.2 (HM.out _ hw0)).mono ?_; rintro e w2 ⟨rfl, hb2⟩; obtain ⟨q0, g0⟩ := blk (HB.out _ hb2))
      | (gi_at_call 28; refine (callsIn_wide.2 (HSp.out _ hb2)).mono ?_; rintro e w3 ⟨rfl, hst3⟩; have hb3 := below_from hb2 hst3; obtain ⟨q1, g1⟩ := blk (HB.out _ hb3); have HA3 : Hid (∀ X Y, Below W1.heap.size W1 ((w3.alloc X).alloc Y)) := Lib.hid fun X Y => (hb3.alloc hb3.size X).alloc (by have := hb3.size; simp; omega) Y; have hz3 := hb3.size; have e3 : ¬ w3.heap.size = w.heap.size := (by omega); have r1 := st_on2 (HB.out _ hb3))
      | (gi_at_call 75; refine (callsIn_wide.2 (HO.out _ (HA3.out _ _))).mono ?_; rintro e w4 ⟨rfl, hst4⟩; have hb4 := below_from (HA3.out _ _) hst4; obtain ⟨q2, g2⟩ := blk (HB.out _ hb4); have n3 := heap_below hst4 (heap_old _ (.cells #[.int .i64 B.line, .int .i64 B.col] 24) (heap_new w3 (.cells #[.int .i64 A.line, .int .i64 A.col] 24) rfl)); have n4 := heap_below hst4 (heap_new (w3.alloc (.cells #[.int .i64 A.line, .int .i64 A.col] 24)) (.cells #[.int .i64 B.line, .int .i64 B.col] 24) (B := w3.heap.size + 1) (by simp)); obtain ⟨q3, g3⟩ := blk n3; obtain ⟨q4, g4⟩ := blk n4; have r2 := st_on2 (HB.out _ hb4); have r3 := st_on2 n3; have r4 := st_on2 n4)
      | (gi_at_call 77; refine (callsIn_wide.2 (selected_any _ _ _ A B _)).mono ?_; rintro e w5 ⟨rfl, rfl⟩))
    have hx4 : Below w.heap.size w w4 := H1.out.trans (hb4.mono hs1)
    have hz4 := hb4.size
    have hz34 : w3.heap.size + 2 ≤ w4.heap.size := by have := hst4.size; simpa using this
    obtain ⟨w6, hw6⟩ : ∃ w6, ((((w4.alloc (.cells #[.int .i64 15] 3)).alloc (.cells #[.int .i64 0] 3)).alloc (.cells #[.slice va s.lines.length vc] 22)).alloc (.cells #[.int .i64 A.line, .int .i64 A.col] 24)).alloc (.cells #[.int .i64 B.line, .int .i64 B.col] 24) = w6 := ⟨_, rfl⟩
    rw [hw6]
    have hb46 : Below w4.heap.size w4 w6 := hw6 ▸ (((((Below.refl _ _).alloc (Nat.le_refl _) _).alloc (by simp) _).alloc (by simp; omega) _).alloc (by simp; omega) _).alloc (by simp; omega) _
    have hz6 : w6.heap.size = w4.heap.size + 5 := by rw [← hw6]; simp
    have m0 : w6.heap[w4.heap.size]? = some (.cells #[.int .i64 15] 3) := hw6 ▸ heap_old _ _ (heap_old _ _ (heap_old _ _ (heap_old _ _ (heap_new _ _ rfl))))
    have m1 : w6.heap[w4.heap.size + 1]? = some (.cells #[.int .i64 0] 3) := hw6 ▸ heap_old _ _ (heap_old _ _ (heap_old _ _ (heap_new _ _ (by simp))))
    have m2 : w6.heap[w4.heap.size + 1 + 1]? = some (.cells #[.slice va s.lines.length vc] 22) := hw6 ▸ heap_old _ _ (heap_old _ _ (heap_new _ _ (by simp)))
    have m3 : w6.heap[w4.heap.size + 1 + 1 + 1]? = some (.cells #[.int .i64 A.line, .int .i64 A.col] 24) := hw6 ▸ heap_old _ _ (heap_new _ _ (by simp))
    have m4 : w6.heap[w4.heap.size + 1 + 1 + 2]? = some (.cells #[.int .i64 B.line, .int .i64 B.col] 24) := hw6 ▸ heap_new _ _ (by simp)
    have hb6 : Below w.heap.size w w6 := hx4.trans (hb46.mono hx4.size)
    have hBI : BI w w4.heap.size (w4.heap.size + 1) w6.heap.size [] w6 := ⟨m0, m1, hb6, Nat.le_refl _⟩
    have N0 := Lib.hid (And.intro m2 (And.intro m3 (And.intro m4 (heap_below hb46 n3))))
    clear hw6 m0 m1 m2 m3 m4 n3 n4 q0 g0 q1 g1 q2 g2 q3 g3 q4 g4 r1 r2 r3 r4 p0 f0 hW1
    refine rangeFunc_boxD rfl (by omega) (gf := 148) (lb := #[.pointer (some ⟨w4.heap.size + 1 + 1, 0, none⟩), .pointer (some ⟨w4.heap.size + 1 + 1 + 1, 0, none⟩), .pointer (some ⟨w4.heap.size + 1 + 1 + 2, 0, none⟩)]) rfl trivial (enters_of Tryz.func148 (by kernel_rfl) rfl)
      (encs := fun c : Cel => #[celV c]) (n₀ := w.heap.size) (base := w6.heap.size) (Bs := w3.heap.size) (S := fun ys => ys = cellsD s.lines A B) (Sp := fun pre => pre <+: cellsD s.lines A B) (N := 200000) (w0 := w6) ?seq hb6.size (by omega) (Below.refl _ _) (fun _ => rfl)
      (BI w w4.heap.size (w4.heap.size + 1) w6.heap.size) (fun _ _ _ => False) (bi_own hb6.size) (fun _ _ _ _ _ hs _ _ => hs) hBI (fun _ _ h => h.2.2.2)
      (fun x => #[.int .i32 x.r, .int .i64 x.bits, .string ⟨x.href.toArray⟩]) 44 ?act ?assign ?body ?done ?stop
    case seq =>
      intro l J Jx W hW hJ _ hY h0
      have hzW := hW.size
      exact selected1_in 5 l (w4.heap.size + 1 + 1) (w4.heap.size + 1 + 1 + 1) (w4.heap.size + 1 + 1 + 2) w6.heap.size w3.heap.size (.slice va s.lines.length vc) s.lines A B S J Jx w W HVF.out.1 HVF.out.2.1 HVF.out.2.2.1 HVF.out.2.2.2 (hb6.trans (hW.mono hb6.size)) hW.size (heap_below hW N0.out.1) (heap_below hW N0.out.2.1) (heap_below hW N0.out.2.2.1) (by omega)
        (by unfold ownAt; rw [cell_of_heap (heap_below hW N0.out.2.2.2)]; rfl) hJ hY h0
    case assign =>
      intro l pre x W K Bx hBx hI hK
      unfold celV
      gi_wp2
      rw [← hBx]
      exact hK
    case body =>
      intro l pre x Bx W hI hBx hbx hlt
      obtain ⟨t0, t1, hb, hz⟩ := hI
      obtain ⟨s0, s0f⟩ := blk t0
      obtain ⟨s1, s1f⟩ := blk t1
      obtain ⟨sx, sxf⟩ := blk hbx
      obtain ⟨a, ha⟩ : ∃ a, andB pre = a := ⟨_, rfl⟩
      have HA := Lib.hid (And.intro t0 (And.intro t1 (And.intro hb hz)))
      have HSN : Hid (andB (pre ++ [x]) = bits .and .i64 a x.bits ∧ (pre ++ [x]).length = pre.length + 1) := Lib.hid ⟨by rw [andB_snoc, ha], by simp⟩
      rw [ha] at s0 HA
      have e1 : ¬ w4.heap.size = w4.heap.size + 1 := by omega
      have e2 : ¬ w4.heap.size + 1 = w4.heap.size := by omega
      clear t0 t1 hb hz ha
      gi_wp2_with fail
      have hwz := hb6.size
      have hzW := HA.out.2.2.2
      refine ⟨((KeepsOthers.setCell _ _ _).trans (KeepsOthers.setCell _ _ _)).from _, (Kd.setCell _ (by omega) (by omega) (by omega) _).t (Kd.setCell _ (by omega) (by omega) (by omega) _), ?_, ?_, ?_, ?_⟩
      · show (World.heap _)[_]? = _
        rw [heap_set, if_neg (by simp), heap_set, if_pos rfl, show W.heap[w4.heap.size]? = _ from HA.out.1, HSN.out.1]; rfl
      · show (World.heap _)[_]? = _
        rw [heap_set, if_pos rfl, heap_set, if_neg (by simp), show W.heap[w4.heap.size + 1]? = _ from HA.out.2.1, HSN.out.2]
        rfl
      · exact (HA.out.2.2.1.setCell (by show w.heap.size ≤ w4.heap.size; omega) _).setCell (by show w.heap.size ≤ w4.heap.size + 1; omega) _
      · simpa only [World.size_setCell] using hzW
    case done =>
      rintro D ys W hD hys ⟨t0, t1, hb, hz⟩ hK
      subst hys
      obtain ⟨s0, s0f⟩ := blk t0
      obtain ⟨s1, s1f⟩ := blk t1
      have HB9 := Lib.hid hb
      have HK9 := Lib.hid hK
      have HL9 := HL.out
      clear hb hK t0 t1 HVF N0 hBI
      generalize cellsD s.lines A B = L at *
      cases L with
      | nil =>
        gi_wp2_with fail
        refine ⟨by simp, .inl ⟨_, _, rfl, run_takeDeferred HK9.out, ?_⟩⟩
        refine ⟨.int .i64 0, by simp [results, Tryz.results19, go_sem], ?_⟩
        rw [HR.out]
        exact ⟨rfl, HB9.out.trans (belowK_b (w := w) (Nat.le_refl _) W D _ _ (by have := hb6.size; omega) HK9.out rfl rfl)⟩
      | cons c l =>
        have HR : Hid (bitsS s = andB (c :: l)) := Lib.hid (HR.out.trans (if_neg (by simp)))
        obtain ⟨n, hn⟩ : ∃ n, (c :: l).length = n := ⟨_, rfl⟩
        have hn0 : ((n : Int) == 0) = false := by rw [← hn]; simp; omega
        obtain ⟨a, ha⟩ : ∃ a, andB (c :: l) = a := ⟨_, rfl⟩
        rw [hn] at s1 HL9
        rw [ha] at s0 HR
        clear hn ha
        gi_wp2_with fail
        refine ⟨by simp, .inl ⟨_, _, rfl, run_takeDeferred HK9.out, ?_⟩⟩
        refine ⟨.int .i64 a, by simp [results, Tryz.results19, go_sem], ?_⟩
        rw [HR.out]
        exact ⟨rfl, HB9.out.trans (belowK_b (w := w) (Nat.le_refl _) W D _ _ (by have := hb6.size; omega) HK9.out rfl rfl)⟩
    case stop =>
      rintro D c pre W _ _ h _
      exact h.elim
set_option maxRecDepth 100000 in
set_option maxHeartbeats 4000000 in
theorem styHas_any (v : Value) (s : St) (t : Int) (w : World) (S : Nat → Prop) (h : LinsR w S v s.lines) (he : EnvT w) (hs : Small s.lines) (hf : Fits s.lines) :
    Calls Tryz.prog 21 #[stV v s, .int .i64 t] w fun e w' => e = .returned (.bool (hasS s t)) ∧ Below w.heap.size w w' := by
  obtain ⟨W1, hW1, hB, hz, k0⟩ := one_st w v s
  have HB : Hid (∀ W, Below W1.heap.size W1 W → W.heap[w.heap.size]? = some (.cells #[v, .int .i64 s.anc.line, .int .i64 s.anc.col, .int .i64 s.foc.line, .int .i64 s.foc.col, .int .i64 s.on, .int .i64 s.off] 26)) := Lib.hid fun W hW => heap_below hW k0
  have hs1 := hB.size
  have H1 := Lib.hid hB
  have hw0 : Below W1.heap.size W1 W1 := Below.refl _ _
  have HV : Hid (∀ W, Below W1.heap.size W1 W → LinsR W S v s.lines) := Lib.hid fun W hW => h.below (rdLin_stable _) (hB.trans (hW.mono hs1))
  have HE : Hid (∀ W, Below W1.heap.size W1 W → EnvT W) := Lib.hid fun W hW => (he.below hB).below hW
  have HC : Hid (∀ W, Below W1.heap.size W1 W → Calls Tryz.prog 19 #[stV v s] W fun e w' => e = .returned (.int .i64 (bitsS s)) ∧ Below W.heap.size W w') := Lib.hid fun W hW => styBits_any v s W S (HV.out W hW) (HE.out W hW) hs hf
  have HR : Hid (hasS s t = (!(t == 0) && (bits .and .i64 (bitsS s) t == t))) := Lib.hid rfl
  obtain ⟨p0, f0⟩ := blk k0
  obtain ⟨va, vc, rfl⟩ := h.slice
  clear h he hs hf k0 hB
  generalize bitsS s = r at *
  by_cases ht : t = 0
  · subst ht
    go_enter Tryz.func21, Tryz.ntmps21
    go_wp2_with fail
    go_ret
    rw [HR.out]
    exact ⟨rfl, H1.out⟩
  · have ht' : (t == 0) = false := by simpa using ht
    have ht2 : (t != 0) = true := by simpa using ht
    clear ht
    rw [ht'] at HR
    go_enter Tryz.func21, Tryz.ntmps21
    go_wp2_with (go_at_call 19; refine (HC.out _ hw0).mono ?_; rintro e w2 ⟨rfl, hb2⟩)
    go_ret
    rw [HR.out]
    exact ⟨rfl, H1.out.trans (hb2.mono hs1)⟩
set_option maxRecDepth 100000 in
set_option maxHeartbeats 4000000 in
theorem styMixed_any (v : Value) (s : St) (t : Int) (w : World) (S : Nat → Prop) (h : LinsR w S v s.lines) (he : EnvT w) (hs : Small s.lines) (hf : Fits s.lines) :
    Calls Tryz.prog 23 #[stV v s, .int .i64 t] w fun e w' => e = .returned (.bool (mixedS s t)) ∧ Below w.heap.size w w' := by
  obtain ⟨W1, hW1, hB, hz, k0⟩ := one_st w v s
  have HB : Hid (∀ W, Below W1.heap.size W1 W → W.heap[w.heap.size]? = some (.cells #[v, .int .i64 s.anc.line, .int .i64 s.anc.col, .int .i64 s.foc.line, .int .i64 s.foc.col, .int .i64 s.on, .int .i64 s.off] 26)) := Lib.hid fun W hW => heap_below hW k0
  have hs1 := hB.size
  have H1 := Lib.hid hB
  have hw0 : Below W1.heap.size W1 W1 := Below.refl _ _
  have HV : Hid (∀ W, Below W1.heap.size W1 W → LinsR W S v s.lines) := Lib.hid fun W hW => h.below (rdLin_stable _) (hB.trans (hW.mono hs1))
  have HE : Hid (∀ W, Below W1.heap.size W1 W → EnvT W) := Lib.hid fun W hW => (he.below hB).below hW
  have HM : Hid (∀ W, Below W1.heap.size W1 W → Calls Tryz.prog 27 #[stV v s] W fun e w' => e = .returned (.bool (mayS s)) ∧ Below W.heap.size W w') := Lib.hid fun W hW => stMay_any v s W S (HV.out W hW) (HE.out W hW) hs
  have HSp : Hid (∀ W, Below W1.heap.size W1 W → Calls Tryz.prog 28 #[stV v s] W fun e w' => e = .returned (.tuple #[.agg #[.int .i64 (spanS s).1.line, .int .i64 (spanS s).1.col], .agg #[.int .i64 (spanS s).2.line, .int .i64 (spanS s).2.col]]) ∧ Below W.heap.size W w') := Lib.hid fun W _ => stSpan_any v s W
  have HO : Hid (∀ W, Below W1.heap.size W1 W → Calls Tryz.prog 75 #[stV v s] W fun e w' => e = .returned (.bool (!decide (s.anc = s.foc))) ∧ Below W.heap.size W w') := Lib.hid fun W _ => styOpen_any v s W
  have HR : Hid (mixedS s t = (mayS s && (!decide (s.anc = s.foc) && (someL (selS s) t && !allL (selS s) t)))) := Lib.hid rfl
  obtain ⟨A, B, hAB⟩ : ∃ A B, spanS s = (A, B) := ⟨_, _, rfl⟩
  have hsel : selS s = cellsD s.lines A B := by unfold selS; rw [hAB]
  rw [hsel] at HR
  rw [hAB] at HSp
  clear hAB hsel
  have HSo : Hid (∀ W, Below W1.heap.size W1 W → Calls Tryz.prog 80 #[v, .agg #[.int .i64 A.line, .int .i64 A.col], .agg #[.int .i64 B.line, .int .i64 B.col], .int .i64 t] W fun e w' => e = .returned (.bool (someL (cellsD s.lines A B) t)) ∧ Below W.heap.size W w') := Lib.hid fun W hW => by
    have := docSome_any v s.lines A B t W S _ rfl (HV.out W hW) (HE.out W hW) hs
    rw [any_count'] at this
    exact this
  have HAl : Hid (∀ W, Below W1.heap.size W1 W → Calls Tryz.prog 81 #[v, .agg #[.int .i64 A.line, .int .i64 A.col], .agg #[.int .i64 B.line, .int .i64 B.col], .int .i64 t] W fun e w' => e = .returned (.bool (allL (cellsD s.lines A B) t)) ∧ Below W.heap.size W w') := Lib.hid fun W hW => by
    have := docAll_any v s.lines A B t W S _ rfl (HV.out W hW) (HE.out W hW) hs
    rw [all_count'] at this
    exact this
  obtain ⟨p0, f0⟩ := blk k0
  obtain ⟨va, vc, rfl⟩ := h.slice
  clear h he hs hf k0 hB HV HE
  generalize mixedS s t = R at *
  generalize someL (cellsD s.lines A B) t = x at *
  generalize allL (cellsD s.lines A B) t = y at *
  generalize mayS s = m at *
  generalize decide (s.anc = s.foc) = u at *
  cases m
  all_goals
    cases u
    all_goals
      cases x
      all_goals
        go_enter Tryz.func23, Tryz.ntmps23
        go_wp2_with (first
          | (go_at_call 28; refine (HSp.out _ hw0).mono ?_; rintro e w3 ⟨rfl, hb3⟩; obtain ⟨q1, g1⟩ := blk (HB.out _ hb3); have HA3 : Hid (∀ X Y, Below W1.heap.size W1 ((w3.alloc X).alloc Y)) := Lib.hid fun X Y => (hb3.alloc hb3.size X).alloc (by have := hb3.size; simp; omega) Y; have hz3 := hb3.size; have e3 : ¬ w3.heap.size = w.heap.size := (by omega); have r1 := st_on2 (HB.out _ hb3))
          | (go_at_call 27; refine (HM.out _ (HA3.out _ _)).mono ?_; rintro e w4 ⟨rfl, hst4⟩; have hb4 := below_from (HA3.out _ _) hst4; obtain ⟨q2, g2⟩ := blk (HB.out _ hb4); have n3 := heap_below hst4 (heap_old _ (.cells #[.int .i64 B.line, .int .i64 B.col] 24) (heap_new w3 (.cells #[.int .i64 A.line, .int .i64 A.col] 24) rfl)); have n4 := heap_below hst4 (heap_new (w3.alloc (.cells #[.int .i64 A.line, .int .i64 A.col] 24)) (.cells #[.int .i64 B.line, .int .i64 B.col] 24) (B := w3.heap.size + 1) (by simp)))
          | (go_at_call 75; refine (HO.out _ hb4).mono ?_; rintro e w5 ⟨rfl, hst5⟩; have hb5 := below_from hb4 hst5; obtain ⟨q5, g5⟩ := blk (HB.out _ hb5); obtain ⟨q3, g3⟩ := blk (heap_below hst5 n3); obtain ⟨q4, g4⟩ := blk (heap_below hst5 n4))
          | (go_at_call 80; refine (HSo.out _ hb5).mono ?_; rintro e w6 ⟨rfl, hst6⟩; have hb6 := below_from hb5 hst6; have hst56 := below_from hst5 hst6; obtain ⟨q6, g6⟩ := blk (HB.out _ hb6); obtain ⟨q7, g7⟩ := blk (heap_below hst56 n3); obtain ⟨q8, g8⟩ := blk (heap_below hst56 n4))
          | (go_at_call 81; refine (HAl.out _ hb6).mono ?_; rintro e w7 ⟨rfl, hst7⟩; have hb7 := below_from hb6 hst7))
        go_ret
        refine ⟨?_, H1.out.trans (Below.mono (by first | exact hb7 | exact hb6 | exact hb5 | exact hb4) hs1)⟩
        rw [HR.out]
        rfl
end Go.Proofs.YtpndnbjpnajaaaaGreatDoor
namespace Go.Proofs.Qw
open Go.RowKit Go.Proofs.YtpndnbjpnajaaaaGreatDoor
theorem hrefL_cons (c : Cel) (l : List Cel) : hrefL (c :: l) = if ((c :: l).any fun x => !decide (x.href = c.href)) = true then [] else c.href := by
  have h : ((c :: l).any fun x => !decide (x.href = c.href)) = !(l.all fun x => decide (x.href = c.href)) := by
    rw [List.any_cons, List.all_eq_not_any_not]
    simp
  rw [h]
  show (if l.all (fun x => decide (x.href = c.href)) = true then c.href else []) = _
  cases l.all (fun x => decide (x.href = c.href)) <;> rfl
end Go.Proofs.Qw
namespace Go.Proofs.YtpndnbjpnajaaaaGreatDoor
open Go.RowKit
open Go.Proofs.Qw
theorem href_neq (a b : List UInt8) : (a != b) = !decide (a = b) := by
  by_cases h : a = b
  · subst h; simp
  · rw [decide_eq_false h]; simpa using h
set_option maxHeartbeats 1000000 in
theorem styHref1_any (B : Nat) (v : Value) (c : Cel) (l : List Cel) (x : Cel) (w : World) (S : Nat → Prop) (h : CelsR false w S v (c :: l)) (hB : w.heap[B]? = some (.cells #[v] 40)) :
    Calls Tryz.prog 87 #[celV x, .pointer (some ⟨B, 0, none⟩)] w fun e w' => e = .returned (.bool (!decide (x.href = c.href))) ∧ Below w.heap.size w w' := by
  have hlt := (Array.getElem?_eq_some_iff.1 hB).1
  obtain ⟨a, cc, rfl, hcc, hm, hx⟩ := cels_shape h
  obtain ⟨b, o, rfl, hz, c0, c1, c2⟩ := hx 0 c rfl
  have c2' := c2
  rw [Nat.zero_mul, Nat.add_zero] at c2'
  have p2 : ∀ ob, (w.alloc ob).cell? ⟨B, 0, none⟩ = some (.slice (some ⟨b, o, none⟩) (c :: l).length cc) := fun ob => on1 hB ob 0
  have p3 : ∀ ob, (w.alloc ob).cell? ⟨b, o + 2, none⟩ = some (.string ⟨c.href.toArray⟩) := fun ob => (World.cell?_of_block (heap_alloc_old _ _ hz)).trans c2'
  have ne : ¬ B = w.heap.size := by omega
  have ne2 : ¬ b = w.heap.size := by omega
  have HQ := Lib.hid (href_neq x.href c.href)
  unfold maxLen at hm
  obtain ⟨n, hn⟩ : ∃ n, (c :: l).length = n := ⟨_, rfl⟩
  have n0 : (0 : Int) < (n : Int) := by rw [← hn]; simp
  rw [hn] at p2 hcc
  clear hn h hx c0 c1 c2 hB
  unfold celV
  go_enter Tryz.func87, Tryz.ntmps87
  go_wp2_with fail
  go_region
  go_wp2_with fail
  go_ret
  rw [← HQ.out]
  exact ⟨rfl, by (repeat' (first | (with_reducible exact Below.refl _ _) | (with_reducible assumption) | (with_reducible refine Below.alloc ?_ ?_ _) | (with_reducible refine Below.drew ?_) | (with_reducible refine drewN_below ?_) | (with_reducible refine Below.setCell ?_ ?_ _) | go_size))⟩
set_option maxRecDepth 100000 in
set_option maxHeartbeats 4000000 in
theorem styHref_any (v : Value) (s : St) (w : World) (S : Nat → Prop) (h : LinsR w S v s.lines) (he : EnvT w) (hs : Small s.lines) (hf : Fits s.lines) :
    Calls Tryz.prog 25 #[stV v s] w fun e w' => e = .returned (.string ⟨(hrefS s).toArray⟩) ∧ Below w.heap.size w w' := by
  obtain ⟨W1, hW1, hB, hz, k0⟩ := one_st w v s
  have HB : Hid (∀ W, Below W1.heap.size W1 W → W.heap[w.heap.size]? = some (.cells #[v, .int .i64 s.anc.line, .int .i64 s.anc.col, .int .i64 s.foc.line, .int .i64 s.foc.col, .int .i64 s.on, .int .i64 s.off] 26)) := Lib.hid fun W hW => heap_below hW k0
  have hs1 := hB.size
  have H1 := Lib.hid hB
  have hw0 : Below W1.heap.size W1 W1 := Below.refl _ _
  have HV : Hid (∀ W, Below W1.heap.size W1 W → LinsR W S v s.lines) := Lib.hid fun W hW => h.below (rdLin_stable _) (hB.trans (hW.mono hs1))
  have HE : Hid (∀ W, Below W1.heap.size W1 W → EnvT W) := Lib.hid fun W hW => (he.below hB).below hW
  have HM : Hid (∀ W, Below W1.heap.size W1 W → Calls Tryz.prog 27 #[stV v s] W fun e w' => e = .returned (.bool (mayS s)) ∧ Below W.heap.size W w') := Lib.hid fun W hW => stMay_any v s W S (HV.out W hW) (HE.out W hW) hs
  have HR : Hid (hrefS s = if mayS s = true then hrefL (cellsD s.lines (handS s).1 (handS s).2) else []) := Lib.hid rfl
  have HVF := Lib.hid (And.intro hs hf)
  cases hm : mayS s
  · rw [hm] at HM HR
    have HR : Hid (hrefS s = []) := Lib.hid (HR.out.trans (if_neg (by simp)))
    obtain ⟨p0, f0⟩ := blk k0
    obtain ⟨va, vc, rfl⟩ := h.slice
    clear h he hs hf k0 hB hm
    go_enter Tryz.func25, Tryz.ntmps25
    go_wp2_with ((go_at_call 27; refine (HM.out _ hw0).mono ?_; rintro e w2 ⟨rfl, hst2⟩; have hb2 := below_from hw0 hst2; skip))
    go_ret
    rw [HR.out]
    exact ⟨rfl, H1.out.trans (hb2.mono hs1)⟩
  · have hA := (mayS_at hm).2.1
    rw [hm] at HM HR
    rw [if_pos rfl] at HR
    have HH : Hid (∀ W, Below W1.heap.size W1 W → Calls Tryz.prog 84 #[stV v s] W fun e w' => e = .returned (.tuple #[.agg #[.int .i64 (handS s).1.line, .int .i64 (handS s).1.col], .agg #[.int .i64 (handS s).2.line, .int .i64 (handS s).2.col]]) ∧ Below W.heap.size W w') := Lib.hid fun W hW => styHand_any v s W S (HV.out W hW) hf hA
    obtain ⟨A, B, hAB⟩ : ∃ A B, handS s = (A, B) := ⟨_, _, rfl⟩
    rw [hAB] at HH HR
    simp only at HH HR
    have HL : Hid ((cellsD s.lines A B).length ≤ 100000) := Lib.hid (Nat.le_trans (cellsD_size _ _ _) hs.1)
    obtain ⟨p0, f0⟩ := blk k0
    obtain ⟨va, vc, rfl⟩ := h.slice
    clear h he hs hf hm hA hAB k0 hB
    go_enter Tryz.func25, Tryz.ntmps25
    go_wp2_with (first
      | (go_at_call 27; refine (HM.out _ hw0).mono ?_; rintro e w2 ⟨rfl, hst2⟩; have hb2 := below_from hw0 hst2; obtain ⟨q0, g0⟩ := blk (HB.out _ hb2))
      | (go_at_call 84; refine (HH.out _ hb2).mono ?_; rintro e w3 ⟨rfl, hst3⟩; have hb3 := below_from hb2 hst3; obtain ⟨q1, g1⟩ := blk (HB.out _ hb3); have hz3 := hb3.size; have e3 : ¬ w3.heap.size = w.heap.size := (by omega); have r1 := on2 (HB.out _ hb3))
      | (go_at_call 77; refine (selected_any _ _ _ A B _).mono ?_; rintro e w5 ⟨rfl, rfl⟩))
    obtain ⟨w6, hw6⟩ : ∃ w6, ((((w3.alloc (.cells #[.int .i64 A.line, .int .i64 A.col] 24)).alloc (.cells #[.int .i64 B.line, .int .i64 B.col] 24)).alloc (.cells #[.slice va s.lines.length vc] 22)).alloc (.cells #[.int .i64 A.line, .int .i64 A.col] 24)).alloc (.cells #[.int .i64 B.line, .int .i64 B.col] 24) = w6 := ⟨_, rfl⟩
    rw [hw6]
    have hb36 : Below w3.heap.size w3 w6 := hw6 ▸ below3 (below2 (Below.refl _ _) _ _) _ _ _
    have hz6 : w6.heap.size = w3.heap.size + 5 := by rw [← hw6]; simp
    have m2 : w6.heap[w3.heap.size + 1 + 1]? = some (.cells #[.slice va s.lines.length vc] 22) := hw6 ▸ heap_old _ _ (heap_old _ _ (heap_new _ _ (by simp)))
    have m3 : w6.heap[w3.heap.size + 1 + 1 + 1]? = some (.cells #[.int .i64 A.line, .int .i64 A.col] 24) := hw6 ▸ heap_old _ _ (heap_new _ _ (by simp))
    have m4 : w6.heap[w3.heap.size + 1 + 1 + 2]? = some (.cells #[.int .i64 B.line, .int .i64 B.col] 24) := hw6 ▸ heap_new _ _ (by simp)
    have hb6 := below_from hb3 hb36
    have HCo := Lib.hid (collect_any (w3.heap.size + 1 + 1) (w3.heap.size + 1 + 1 + 1) (w3.heap.size + 1 + 1 + 2) _ s.lines A B w6 S (HV.out _ hb6) (HE.out _ hb6) HVF.out.1 HVF.out.2 m2 m3 m4)
    clear m2 m3 m4 hw6 q0 g0 q1 g1 r1 p0 f0 hW1
    have HL9 := HL.out
    generalize cellsD s.lines A B = L at *
    cases L with
    | nil =>
      go_wp2_with (go_at_call 85; refine HCo.out.mono ?_; intro e w7 hcc; obtain ⟨v7, rfl, hv7, hb7⟩ := hcc; obtain ⟨a7, c7, rfl⟩ := hv7.slice; clear hv7)
      go_ret
      rw [HR.out]
      exact ⟨rfl, H1.out.trans ((below1 (below_from hb6 hb7) _).mono hs1)⟩
    | cons c l =>
      rw [hrefL_cons] at HR
      obtain ⟨n, hn⟩ : ∃ n, (c :: l).length = n := ⟨_, rfl⟩
      have hn0 : ((n : Int) == 0) = false := by rw [← hn]; simp; omega
      have n0 : (0 : Int) < (n : Int) := by rw [← hn]; simp
      have HN := Lib.hid hn
      rw [hn] at HL9
      clear hn
      obtain ⟨r, hr⟩ : ∃ r, ((c :: l).any fun x => !decide (x.href = c.href)) = r := ⟨_, rfl⟩
      rw [hr] at HR
      have HAn := Lib.hid hr
      clear hr
      go_wp2_with (go_at_call 85; refine HCo.out.mono ?_; intro e w7 hcc; obtain ⟨v7, rfl, hv7, hb7⟩ := hcc; obtain ⟨a7, c7, hve⟩ := hv7.slice; rw [HN.out] at hve; subst hve; have HV7 := Lib.hid hv7; clear hv7)
      have hb7' := below_from hb6 hb7
      obtain ⟨a8, c8, hve, hcc8, hmm8, hx8⟩ := SliceR.shape_own HV7.out
      rw [HN.out] at hve
      cases hve
      obtain ⟨b8, o8, vs8, cs8, rfl, hz8, hS8, _, _, _, hvs8, he8⟩ := hx8 0 c rfl
      cases hvs8
      have d2 := he8 2 _ rfl
      rw [Nat.zero_mul, Nat.add_zero] at d2
      have H8 : ∀ X, Below w7.heap.size w7 (w7.alloc X) := fun X => below1 (Below.refl _ _) X
      obtain ⟨w8, hw8⟩ : ∃ w8, w7.alloc (.cells #[.slice (some ⟨b8, o8, none⟩) n c7] 40) = w8 := ⟨_, rfl⟩
      rw [hw8]
      have hb78 : Below w7.heap.size w7 w8 := hw8 ▸ H8 _
      have hb8 := below_from hb7' hb78
      have m8 : w8.heap[w7.heap.size]? = some (.cells #[.slice (some ⟨b8, o8, none⟩) n c7] 40) := hw8 ▸ heap_new _ _ rfl
      have HB8 : Hid (∀ W, Below w8.heap.size w8 W → W.heap[w7.heap.size]? = some (.cells #[.slice (some ⟨b8, o8, none⟩) n c7] 40)) := Lib.hid fun W hW => heap_below hW m8
      have HR8 : Hid (CelsR false w8 (fun b => w6.heap.size ≤ b) (.slice (some ⟨b8, o8, none⟩) n c7) (c :: l)) := Lib.hid (SliceR.below (rdOf_stable _) (SliceR.read (fun _ _ h => h) HV7.out) hb78)
      have HCn := Lib.hid (containsCell_any _ (c :: l) (fun x => !decide (x.href = c.href)) 87 #[.pointer (some ⟨w7.heap.size, 0, none⟩)] (enters_of Tryz.func87 (by kernel_rfl) rfl) w8 w8 _ HR8.out (HE.out _ hb8) (Below.refl _ _) (fun i x W _ _ hW _ => styHref1_any _ _ c l x W _ (SliceR.below (rdOf_stable _) HR8.out hW) (HB8.out W hW)))
      rw [HAn.out] at HCn
      have d2' : ∀ W, Below w8.heap.size w8 W → W.cell? ⟨b8, o8 + 2, none⟩ = some (.string ⟨c.href.toArray⟩) := fun W hW => ((below_from hb78 hW).cell (p := ⟨b8, o8 + 2, none⟩) hz8).trans d2
      have HD := Lib.hid d2'
      obtain ⟨q8, g8⟩ := blk m8
      clear hx8 he8 d2 d2' H8 hw8 m8
      go_wp2_with (go_at_call 86; refine HCn.out.mono ?_; rintro e w9 ⟨rfl, hb9⟩; obtain ⟨q9, g9⟩ := blk (HB8.out _ hb9); have d9 := HD.out _ hb9; cases r)
      · go_ret
        rw [HR.out]
        exact ⟨rfl, H1.out.trans ((below_from hb8 hb9).mono hs1)⟩
      · go_ret
        rw [HR.out]
        exact ⟨rfl, H1.out.trans ((below_from hb8 hb9).mono hs1)⟩
end Go.Proofs.YtpndnbjpnajaaaaGreatDoor
namespace Go.Proofs.YtpndnbjpnajaaaaGreatDoor
open Go.RowKit
open Go.Proofs.Qw
theorem results_st_e {fn : Func} {p u : Tmp} (h : fn.results = #[.cell p 26, .tmp u]) (tmps : Array Value) (w : World) (B : Nat) (a b c d e f g x : Value) (hp : tmps.getD p undef = .pointer (some ⟨B, 0, none⟩)) (hu : tmps.getD u undef = x) (hg : w.heap[B]? = some (.cells #[a, b, c, d, e, f, g] 26)) :
    (results fn tmps).run Tryz.prog w = .ok (.tuple #[.agg #[a, b, c, d, e, f, g], x]) w := by
  have hp' : tmps[p]?.getD undef = .pointer (some ⟨B, 0, none⟩) := by simpa using hp
  have hu' : tmps[u]?.getD undef = x := by simpa using hu
  have e1 := run_loadVar_row (P := Tryz.prog) w B 26 26 _ _ _ hg Tryz.underlying26 rfl (by kernel_rfl)
  simp [results, h, hp', hu', asAddr, e1]
set_option maxRecDepth 100000 in
set_option maxHeartbeats 4000000 in
theorem styChanged_any (v : Value) (s : St) (g : Nat) (lb : Array Value) (R : Doc × Int) (w : World) (S : Nat → Prop) (h : LinsR w S v s.lines) (he : EnvT w) (hs : Small s.lines)
    (eg : ∀ args w, (callFunc g args).run Tryz.prog w = .ok (.enter g args) w)
    (hg : mayS s = true → ∀ W, Below w.heap.size w W → Calls Tryz.prog g (#[v, posV (spanS s).1, posV (spanS s).2] ++ lb) W (DocSaid R W)) :
    Calls Tryz.prog 95 #[stV v s, .func (.func g) #[] lb] w (StSaid (changedS s R) w) := by
  obtain ⟨W1, hW1, hB, hz, k0, k1⟩ := st_two w v s
  have HB : Hid (∀ W, Below W1.heap.size W1 W → W.heap[w.heap.size]? = some (.cells #[v, .int .i64 s.anc.line, .int .i64 s.anc.col, .int .i64 s.foc.line, .int .i64 s.foc.col, .int .i64 s.on, .int .i64 s.off] 26) ∧ W.heap[w.heap.size + 1]? = some (.cells #[.slice none 0 0, .int .i64 0, .int .i64 0, .int .i64 0, .int .i64 0, .int .i64 0, .int .i64 0] 26)) := Lib.hid fun W hW => ⟨heap_below hW k0, heap_below hW k1⟩
  have hs1 := hB.size
  have H1 := Lib.hid hB
  have hw0 : Below W1.heap.size W1 W1 := Below.refl _ _
  have HV : Hid (∀ W, Below W1.heap.size W1 W → LinsR W S v s.lines) := Lib.hid fun W hW => h.below (rdLin_stable _) (hB.trans (hW.mono hs1))
  have HE : Hid (∀ W, Below W1.heap.size W1 W → EnvT W) := Lib.hid fun W hW => (he.below hB).below hW
  have HM : Hid (∀ W, Below W1.heap.size W1 W → Calls Tryz.prog 27 #[stV v s] W fun e w' => e = .returned (.bool (mayS s)) ∧ Below W.heap.size W w') := Lib.hid fun W hW => stMay_any v s W S (HV.out W hW) (HE.out W hW) hs
  have HR : Hid (changedS s R = if mayS s = true then staysS s R else (noS, 1)) := Lib.hid rfl
  cases hm : mayS s
  · rw [hm] at HM HR
    have HR : Hid (changedS s R = (noS, 1)) := Lib.hid (HR.out.trans (if_neg (by simp)))
    obtain ⟨p0, f0⟩ := blk k0
    obtain ⟨p1, f1⟩ := blk k1
    obtain ⟨va, vc, rfl⟩ := h.slice
    clear h he hs hg k0 k1 hB hm
    go_enter Tryz.func95, Tryz.ntmps95
    go_wp2_with ((go_at_call 27; refine (HM.out _ hw0).mono ?_; rintro e w2 ⟨rfl, hst2⟩; have hb2 := below_from hw0 hst2; obtain ⟨q1, g1⟩ := blk (HB.out _ hb2).2))
    refine bodyPost_ret (results_st_e rfl _ _ (w.heap.size + 1) (.slice none 0 0) (.int .i64 0) (.int .i64 0) (.int .i64 0) (.int .i64 0) (.int .i64 0) (.int .i64 0) (.int .i64 1) rfl rfl (by simp [heap_set, putIn, (HB.out _ hb2).2])) rfl ?_
    unfold StSaid
    rw [HR.out]
    have hfin := H1.out.trans (hb2.mono hs1)
    exact ⟨_, rfl, SliceR.nil _ _ _ _ _ _, by (repeat' (first | (with_reducible exact Below.refl _ _) | (with_reducible assumption) | (with_reducible refine Below.alloc ?_ ?_ _) | (with_reducible refine Below.drew ?_) | (with_reducible refine drewN_below ?_) | (with_reducible refine Below.setCell ?_ ?_ _) | go_size))⟩
  · have HG : Hid (∀ W, Below W1.heap.size W1 W → Calls Tryz.prog g (#[v, posV (spanS s).1, posV (spanS s).2] ++ lb) W (DocSaid R W)) := Lib.hid fun W hW => hg hm W (hB.trans (hW.mono hs1))
    rw [hm] at HM HR
    rw [if_pos rfl] at HR
    have HR : Hid (changedS s R = if R.2 = 0 then (⟨R.1, s.anc, s.foc, 0, 0⟩, 0) else (noS, R.2)) := Lib.hid HR.out
    have HSp : Hid (∀ W, Below W1.heap.size W1 W → Calls Tryz.prog 28 #[stV v s] W fun e w' => e = .returned (.tuple #[.agg #[.int .i64 (spanS s).1.line, .int .i64 (spanS s).1.col], .agg #[.int .i64 (spanS s).2.line, .int .i64 (spanS s).2.col]]) ∧ Below W.heap.size W w') := Lib.hid fun W hW => stSpan_any v s W
    obtain ⟨A, B, hAB⟩ : ∃ A B, spanS s = (A, B) := ⟨_, _, rfl⟩
    rw [hAB] at HSp HG
    simp only at HSp HG
    obtain ⟨D, er, hD⟩ : ∃ D er, R = (D, er) := ⟨_, _, rfl⟩
    subst hD
    have HP : Hid (∀ p : Ps, posV p = .agg #[.int .i64 p.line, .int .i64 p.col]) := Lib.hid fun _ => rfl
    rw [HP.out, HP.out] at HG
    obtain ⟨p0, f0⟩ := blk k0
    obtain ⟨p1, f1⟩ := blk k1
    obtain ⟨va, vc, rfl⟩ := h.slice
    clear h he hs hg k0 k1 hB hm hAB
    by_cases h0 : er = 0
    · subst h0
      have HR := Lib.hid (HR.out.trans (if_pos rfl))
      go_enter Tryz.func95, Tryz.ntmps95
      go_wp2_with (first
        | (go_at_call 27; refine (HM.out _ hw0).mono ?_; rintro e w2 ⟨rfl, hst2⟩; have hb2 := below_from hw0 hst2; obtain ⟨q0, g0⟩ := blk (HB.out _ hb2).1)
        | (go_at_call 28; refine (HSp.out _ hb2).mono ?_; rintro e w3 ⟨rfl, hst3⟩; have hb3 := below_from hb2 hst3; obtain ⟨q1, g1⟩ := blk (HB.out _ hb3).1; have hz3 := hb3.size; have e3 : ¬ w3.heap.size = w.heap.size := (by omega); have r1 := on2 (HB.out _ hb3).1; have HX3 : Hid (∀ X Y, Below W1.heap.size W1 ((w3.alloc X).alloc Y)) := Lib.hid fun X Y => hb3.trans (below2 (Below.refl _ _) X Y |>.mono hz3))
        | (go_at_fn g; refine (HG.out _ (HX3.out _ _)).mono ?_; intro e w4 hsaid; obtain ⟨v4, rfl, hv4, hst4⟩ := hsaid; obtain ⟨a4, c4, rfl⟩ := hv4.slice; have hb4 := below_from (HX3.out _ _) hst4; have HV4 := Lib.hid hv4; clear hv4; obtain ⟨q2, g2⟩ := blk (HB.out _ hb4).1; obtain ⟨q3, g3⟩ := blk (HB.out _ hb4).2))
      refine bodyPost_ret (results_st_e rfl _ _ (w.heap.size + 1) (.slice a4 D.length c4) (.int .i64 s.anc.line) (.int .i64 s.anc.col) (.int .i64 s.foc.line) (.int .i64 s.foc.col) (.int .i64 0) (.int .i64 0) (.int .i64 0) rfl rfl (by simp [heap_set, putIn, (HB.out _ hb4).2])) rfl ?_
      unfold StSaid
      rw [HR.out]
      have hfin := H1.out.trans (hb4.mono hs1)
      have hv4 := HV4.out
      exact ⟨_, rfl, (SliceR.stable (rdLin_stable _) hv4 (by (repeat' (first | (with_reducible exact Keeps.refl _ _) | (with_reducible refine Keeps.set ?_ ?_ _) | (with_reducible refine Keeps.alloc ?_ _) | (with_reducible refine Keeps.drew ?_) | (first | fail) | (simp; omega)))) (fun b h _ => (by have h' := h; (try simp at h'); omega))), by (repeat' (first | (with_reducible exact Below.refl _ _) | (with_reducible assumption) | (with_reducible refine Below.alloc ?_ ?_ _) | (with_reducible refine Below.drew ?_) | (with_reducible refine drewN_below ?_) | (with_reducible refine Below.setCell ?_ ?_ _) | go_size))⟩
    · have HR2 : Hid (changedS s (D, er) = (noS, er)) := Lib.hid (HR.out.trans (if_neg h0))
      have hne : (er != 0) = true := by simpa using h0
      have hne2 : (er == 0) = false := by simpa using h0
      clear h0 HR
      go_enter Tryz.func95, Tryz.ntmps95
      go_wp2_with (first
        | (go_at_call 27; refine (HM.out _ hw0).mono ?_; rintro e w2 ⟨rfl, hst2⟩; have hb2 := below_from hw0 hst2; obtain ⟨q0, g0⟩ := blk (HB.out _ hb2).1)
        | (go_at_call 28; refine (HSp.out _ hb2).mono ?_; rintro e w3 ⟨rfl, hst3⟩; have hb3 := below_from hb2 hst3; obtain ⟨q1, g1⟩ := blk (HB.out _ hb3).1; have hz3 := hb3.size; have e3 : ¬ w3.heap.size = w.heap.size := (by omega); have r1 := on2 (HB.out _ hb3).1; have HX3 : Hid (∀ X Y, Below W1.heap.size W1 ((w3.alloc X).alloc Y)) := Lib.hid fun X Y => hb3.trans (below2 (Below.refl _ _) X Y |>.mono hz3))
        | (go_at_fn g; refine (HG.out _ (HX3.out _ _)).mono ?_; intro e w4 hsaid; obtain ⟨v4, rfl, hv4, hst4⟩ := hsaid; obtain ⟨a4, c4, rfl⟩ := hv4.slice; have hb4 := below_from (HX3.out _ _) hst4; have HV4 := Lib.hid hv4; clear hv4; obtain ⟨q2, g2⟩ := blk (HB.out _ hb4).1; obtain ⟨q3, g3⟩ := blk (HB.out _ hb4).2))
      refine bodyPost_ret (results_st_e rfl _ _ (w.heap.size + 1) (.slice none 0 0) (.int .i64 0) (.int .i64 0) (.int .i64 0) (.int .i64 0) (.int .i64 0) (.int .i64 0) (.int .i64 er) rfl rfl (by simp [heap_set, putIn, (HB.out _ hb4).2])) rfl ?_
      unfold StSaid
      rw [HR2.out]
      have hfin := H1.out.trans (hb4.mono hs1)
      exact ⟨_, rfl, SliceR.nil _ _ _ _ _ _, by (repeat' (first | (with_reducible exact Below.refl _ _) | (with_reducible assumption) | (with_reducible refine Below.alloc ?_ ?_ _) | (with_reducible refine Below.drew ?_) | (with_reducible refine drewN_below ?_) | (with_reducible refine Below.setCell ?_ ?_ _) | go_size))⟩
end Go.Proofs.YtpndnbjpnajaaaaGreatDoor
namespace Go.Proofs.YtpndnbjpnajaaaaGreatDoor
open Go.RowKit
open Go.Proofs.Qw
set_option maxRecDepth 100000 in
set_option maxHeartbeats 4000000 in
theorem stOwn_any (v : Value) (s : St) (w : World) (S : Nat → Prop) (h : LinsR w S v s.lines) (hf : Fits s.lines) :
    Calls Tryz.prog 41 #[stV v s] w fun e w' => ∃ v', e = .returned (stV v' s) ∧ DocR true w' (fun b => w.heap.size ≤ b) v' s.lines ∧ Below w.heap.size w w' := by
  obtain ⟨W1, hW1, hB, hz, k0, k1⟩ := st_two w v s
  have hs1 := hB.size
  have HC := Lib.hid (docOwn_any v s.lines W1 w S h hB hf)
  have HB : Hid (∀ W, Below W1.heap.size W1 W → W.heap[w.heap.size]? = some (.cells #[v, .int .i64 s.anc.line, .int .i64 s.anc.col, .int .i64 s.foc.line, .int .i64 s.foc.col, .int .i64 s.on, .int .i64 s.off] 26) ∧ W.heap[w.heap.size + 1]? = some (.cells #[.slice none 0 0, .int .i64 0, .int .i64 0, .int .i64 0, .int .i64 0, .int .i64 0, .int .i64 0] 26)) := Lib.hid fun W hW => ⟨heap_below hW k0, heap_below hW k1⟩
  have H1 := Lib.hid hB
  obtain ⟨p0, f0⟩ := blk k0
  obtain ⟨va, vc, rfl⟩ := h.slice
  clear h hf k0 k1 hB
  go_enter Tryz.func41, Tryz.ntmps41
  go_wp2_with (go_at_call 108; refine HC.out.mono ?_; rintro e w2 ⟨v2, rfl, hv2, hb2⟩; obtain ⟨a2, c2, rfl⟩ := hv2.slice; obtain ⟨q0, g0⟩ := blk (HB.out _ hb2).1; obtain ⟨q1, g1⟩ := blk (HB.out _ hb2).2; have HV := Lib.hid hv2; clear hv2)
  refine bodyPost_ret (results_st rfl _ _ (w.heap.size + 1) (.slice a2 s.lines.length c2) (.int .i64 s.anc.line) (.int .i64 s.anc.col) (.int .i64 s.foc.line) (.int .i64 s.foc.col) (.int .i64 s.on) (.int .i64 s.off) rfl (by simp [heap_set, putIn, (HB.out _ hb2).2])) rfl ?_
  have hfin := H1.out.trans (hb2.mono hs1)
  have hv2 := HV.out
  exact ⟨_, rfl, (SliceR.stable (rdLin_stable _) hv2 (by (repeat' (first | (with_reducible exact Keeps.refl _ _) | (with_reducible refine Keeps.set ?_ ?_ _) | (with_reducible refine Keeps.alloc ?_ _) | (with_reducible refine Keeps.drew ?_) | (first | fail) | (simp; omega)))) (fun b h _ => (by have h' := h; (try simp at h'); omega))), by (repeat' (first | (with_reducible exact Below.refl _ _) | (with_reducible assumption) | (with_reducible refine Below.alloc ?_ ?_ _) | (with_reducible refine Below.drew ?_) | (with_reducible refine drewN_below ?_) | (with_reducible refine Below.setCell ?_ ?_ _) | go_size))⟩
end Go.Proofs.YtpndnbjpnajaaaaGreatDoor
namespace Go.Proofs.Qw
open Go.RowKit Go.Proofs.YtpndnbjpnajaaaaGreatDoor
def closedS (d : Doc) (p : Ps) : St := ⟨d, p, p, 0, 0⟩
def newS (d : Doc) : St × Int := if mayD d = true then (closedS d ⟨0, 0⟩, 0) else (noS, 1)
def selectS (s : St) (a f : Ps) : St × Int := if (mayS s && (isD s.lines a && isD s.lines f)) = true then (⟨s.lines, a, f, 0, 0⟩, 0) else (noS, 1)
end Go.Proofs.Qw
namespace Go.Proofs.YtpndnbjpnajaaaaGreatDoor
open Go.RowKit
open Go.Proofs.Qw
attribute [local go_sem] Oper.semAt_some
theorem pos_st (w : World) (p : Ps) : ∃ W1, (w.alloc (.cells #[.int .i64 p.line, .int .i64 p.col] 24)).alloc (.cells #[.slice none 0 0, .int .i64 0, .int .i64 0, .int .i64 0, .int .i64 0, .int .i64 0, .int .i64 0] 26) = W1 ∧ Below w.heap.size w W1 ∧ w.heap.size + 2 = W1.heap.size ∧ W1.heap[w.heap.size]? = some (.cells #[.int .i64 p.line, .int .i64 p.col] 24) ∧ W1.heap[w.heap.size + 1]? = some (.cells #[.slice none 0 0, .int .i64 0, .int .i64 0, .int .i64 0, .int .i64 0, .int .i64 0, .int .i64 0] 26) :=
  ⟨_, rfl, below2 (Below.refl _ _) _ _, by simp, heap_old _ _ (heap_new _ _ rfl), heap_new _ _ (by simp)⟩
set_option maxRecDepth 100000 in
set_option maxHeartbeats 2000000 in
theorem typClosed_any (a : Option Addr) (n c : Nat) (p : Ps) (w : World) :
    Calls Tryz.prog 140 #[.slice a n c, .agg #[.int .i64 p.line, .int .i64 p.col]] w fun e w' => e = .returned (.agg #[.slice a n c, .int .i64 p.line, .int .i64 p.col, .int .i64 p.line, .int .i64 p.col, .int .i64 0, .int .i64 0]) ∧ Below w.heap.size w w' := by
  obtain ⟨W1, hW1, hB, hz, k0, k1⟩ := pos_st w p
  have H1 := Lib.hid hB
  have HK := Lib.hid k1
  obtain ⟨p0, f0⟩ := blk k0
  obtain ⟨p1, f1⟩ := blk k1
  clear k0 k1 hB
  go_enter Tryz.func140, Tryz.ntmps140
  go_wp2_with fail
  refine bodyPost_ret (results_st rfl _ _ (w.heap.size + 1) (.slice a n c) (.int .i64 p.line) (.int .i64 p.col) (.int .i64 p.line) (.int .i64 p.col) (.int .i64 0) (.int .i64 0) rfl (by simp [heap_set, putIn, HK.out])) rfl ?_
  have hfin := H1.out
  exact ⟨rfl, by (repeat' (first | (with_reducible exact Below.refl _ _) | (with_reducible assumption) | (with_reducible refine Below.alloc ?_ ?_ _) | (with_reducible refine Below.drew ?_) | (with_reducible refine drewN_below ?_) | (with_reducible refine Below.setCell ?_ ?_ _) | go_size))⟩
set_option maxRecDepth 100000 in
set_option maxHeartbeats 4000000 in
theorem typSelect_any (v : Value) (s : St) (a f : Ps) (w : World) (S : Nat → Prop) (h : LinsR w S v s.lines) (he : EnvT w) (hs : Small s.lines) (hf : Fits s.lines) :
    Calls Tryz.prog 68 #[stV v s, .agg #[.int .i64 a.line, .int .i64 a.col], .agg #[.int .i64 f.line, .int .i64 f.col]] w (StSaid (selectS s a f) w) := by
  obtain ⟨W1, hW1⟩ : ∃ W1, (((w.alloc (.cells #[v, .int .i64 s.anc.line, .int .i64 s.anc.col, .int .i64 s.foc.line, .int .i64 s.foc.col, .int .i64 s.on, .int .i64 s.off] 26)).alloc (.cells #[.int .i64 a.line, .int .i64 a.col] 24)).alloc (.cells #[.int .i64 f.line, .int .i64 f.col] 24)).alloc (.cells #[.slice none 0 0, .int .i64 0, .int .i64 0, .int .i64 0, .int .i64 0, .int .i64 0, .int .i64 0] 26) = W1 := ⟨_, rfl⟩
  have hB : Below w.heap.size w W1 := hW1 ▸ below2 (below2 (Below.refl _ _) _ _) _ _
  have hz : w.heap.size + 4 = W1.heap.size := by rw [← hW1]; simp
  have k0 : W1.heap[w.heap.size]? = some (.cells #[v, .int .i64 s.anc.line, .int .i64 s.anc.col, .int .i64 s.foc.line, .int .i64 s.foc.col, .int .i64 s.on, .int .i64 s.off] 26) := hW1 ▸ heap_old _ _ (heap_old _ _ (heap_old _ _ (heap_new _ _ rfl)))
  have k1 : W1.heap[w.heap.size + 1]? = some (.cells #[.int .i64 a.line, .int .i64 a.col] 24) := hW1 ▸ heap_old _ _ (heap_old _ _ (heap_new _ _ (by simp)))
  have k2 : W1.heap[w.heap.size + 1 + 1]? = some (.cells #[.int .i64 f.line, .int .i64 f.col] 24) := hW1 ▸ heap_old _ _ (heap_new _ _ (by simp))
  have k3 : W1.heap[w.heap.size + 3]? = some (.cells #[.slice none 0 0, .int .i64 0, .int .i64 0, .int .i64 0, .int .i64 0, .int .i64 0, .int .i64 0] 26) := hW1 ▸ heap_new _ _ (by simp)
  have HB : Hid (∀ W, Below W1.heap.size W1 W → W.heap[w.heap.size]? = some (.cells #[v, .int .i64 s.anc.line, .int .i64 s.anc.col, .int .i64 s.foc.line, .int .i64 s.foc.col, .int .i64 s.on, .int .i64 s.off] 26) ∧ W.heap[w.heap.size + 1]? = some (.cells #[.int .i64 a.line, .int .i64 a.col] 24) ∧ W.heap[w.heap.size + 1 + 1]? = some (.cells #[.int .i64 f.line, .int .i64 f.col] 24) ∧ W.heap[w.heap.size + 3]? = some (.cells #[.slice none 0 0, .int .i64 0, .int .i64 0, .int .i64 0, .int .i64 0, .int .i64 0, .int .i64 0] 26)) := Lib.hid fun W hW => ⟨heap_below hW k0, heap_below hW k1, heap_below hW k2, heap_below hW k3⟩
  have hs1 := hB.size
  have H1 := Lib.hid hB
  have hw0 : Below W1.heap.size W1 W1 := Below.refl _ _
  have HV : Hid (∀ W, Below W1.heap.size W1 W → LinsR W S v s.lines) := Lib.hid fun W hW => h.below (rdLin_stable _) (hB.trans (hW.mono hs1))
  have HM : Hid (∀ W, Below W1.heap.size W1 W → Calls Tryz.prog 27 #[stV v s] W fun e w' => e = .returned (.bool (mayS s)) ∧ Below W.heap.size W w') := Lib.hid fun W hW => stMay_any v s W S (HV.out W hW) ((he.below hB).below hW) hs
  have HIs : Hid (∀ (p : Ps) W, Below W1.heap.size W1 W → Calls Tryz.prog 91 #[v, .agg #[.int .i64 p.line, .int .i64 p.col]] W fun e w' => e = .returned (.bool (isD s.lines p)) ∧ Below W.heap.size W w') := Lib.hid fun p W hW => is_any v s.lines p W w S h (hB.trans (hW.mono hs1))
  have HOw : Hid (∀ W, Below W1.heap.size W1 W → Calls Tryz.prog 108 #[v] W fun e w' => ∃ v', e = .returned v' ∧ DocR true w' (fun b => W.heap.size ≤ b) v' s.lines ∧ Below W.heap.size W w') := Lib.hid fun W hW => by
    have d := s.lines
    exact (show _ from (fun d (h : LinsR w S v d) (hf : Fits d) => (docOwn_any v d W w S h (hB.trans (hW.mono hs1)) hf : Calls Tryz.prog 108 #[v] W fun e w' => ∃ v', e = .returned v' ∧ DocR true w' (fun b => W.heap.size ≤ b) v' d ∧ Below W.heap.size W w')) s.lines h hf)
  have HR : Hid (selectS s a f = if (mayS s && (isD s.lines a && isD s.lines f)) = true then (⟨s.lines, a, f, 0, 0⟩, 0) else (noS, 1)) := Lib.hid rfl
  obtain ⟨Z, hZ⟩ : ∃ Z, selectS s a f = Z := ⟨_, rfl⟩
  rw [hZ] at HR ⊢
  obtain ⟨p0, f0⟩ := blk k0
  obtain ⟨p1, f1⟩ := blk k1
  obtain ⟨p2, f2⟩ := blk k2
  obtain ⟨p3, f3⟩ := blk k3
  obtain ⟨va, vc, rfl⟩ := h.slice
  have HIa := Lib.hid (HIs.out a)
  have HIf := Lib.hid (HIs.out f)
  generalize mayS s = m at *
  generalize isD s.lines a = x at *
  generalize isD s.lines f = y at *
  clear h he hs hf hZ k0 k1 k2 k3 hB HIs
  cases m
  · have HR2 : Hid (Z = (noS, 1)) := Lib.hid (HR.out.trans (if_neg (by simp)))
    clear HR HIa HIf HOw
    go_enter Tryz.func68, Tryz.ntmps68
    go_wp2_with ((go_at_call 27; refine (HM.out _ hw0).mono ?_; rintro e w2 ⟨rfl, hst2⟩; have hb2 := below_from hw0 hst2; obtain ⟨q3, g3⟩ := blk (HB.out _ hb2).2.2.2))
    refine bodyPost_ret (results_st_e rfl _ _ (w.heap.size + 3) (.slice none 0 0) (.int .i64 0) (.int .i64 0) (.int .i64 0) (.int .i64 0) (.int .i64 0) (.int .i64 0) (.int .i64 1) rfl rfl (by simp [heap_set, putIn, (HB.out _ hb2).2.2.2])) rfl ?_
    unfold StSaid
    rw [HR2.out]
    have hfin := H1.out.trans (hb2.mono hs1)
    exact ⟨_, rfl, SliceR.nil _ _ _ _ _ _, by (repeat' (first | (with_reducible exact Below.refl _ _) | (with_reducible assumption) | (with_reducible refine Below.alloc ?_ ?_ _) | (with_reducible refine Below.drew ?_) | (with_reducible refine drewN_below ?_) | (with_reducible refine Below.setCell ?_ ?_ _) | go_size))⟩
  cases x
  · have HR2 : Hid (Z = (noS, 1)) := Lib.hid (HR.out.trans (if_neg (by simp)))
    clear HR HIf HOw
    go_enter Tryz.func68, Tryz.ntmps68
    go_wp2_with (first
      | (go_at_call 27; refine (HM.out _ hw0).mono ?_; rintro e w2 ⟨rfl, hst2⟩; have hb2 := below_from hw0 hst2; obtain ⟨q0, g0⟩ := blk (HB.out _ hb2).1; obtain ⟨q1, g1⟩ := blk (HB.out _ hb2).2.1)
      | (go_at_call 91; refine (HIa.out _ hb2).mono ?_; rintro e w3 ⟨rfl, hst3⟩; have hb3 := below_from hb2 hst3; obtain ⟨q3, g3⟩ := blk (HB.out _ hb3).2.2.2))
    refine bodyPost_ret (results_st_e rfl _ _ (w.heap.size + 3) (.slice none 0 0) (.int .i64 0) (.int .i64 0) (.int .i64 0) (.int .i64 0) (.int .i64 0) (.int .i64 0) (.int .i64 1) rfl rfl (by simp [heap_set, putIn, (HB.out _ hb3).2.2.2])) rfl ?_
    unfold StSaid
    rw [HR2.out]
    have hfin := H1.out.trans (hb3.mono hs1)
    exact ⟨_, rfl, SliceR.nil _ _ _ _ _ _, by (repeat' (first | (with_reducible exact Below.refl _ _) | (with_reducible assumption) | (with_reducible refine Below.alloc ?_ ?_ _) | (with_reducible refine Below.drew ?_) | (with_reducible refine drewN_below ?_) | (with_reducible refine Below.setCell ?_ ?_ _) | go_size))⟩
  cases y
  · have HR2 : Hid (Z = (noS, 1)) := Lib.hid (HR.out.trans (if_neg (by simp)))
    clear HR HOw
    go_enter Tryz.func68, Tryz.ntmps68
    go_wp2_with ((go_at_call 27; refine (HM.out _ hw0).mono ?_; rintro e w2 ⟨rfl, hst2⟩; have hb2 := below_from hw0 hst2; obtain ⟨q0, g0⟩ := blk (HB.out _ hb2).1; obtain ⟨q1, g1⟩ := blk (HB.out _ hb2).2.1))
    with_reducible refine (HIa.out _ hb2).mono ?_
    rintro e w3 ⟨rfl, hst3⟩
    have hb3 := below_from hb2 hst3
    clear q0 g0 q1 g1
    obtain ⟨q0, g0⟩ := blk (HB.out _ hb3).1
    obtain ⟨q2, g2⟩ := blk (HB.out _ hb3).2.2.1
    go_wp2_with fail
    with_reducible refine (HIf.out _ hb3).mono ?_
    rintro e w4 ⟨rfl, hst4⟩
    have hb4 := below_from hb3 hst4
    obtain ⟨q3, g3⟩ := blk (HB.out _ hb4).2.2.2
    go_wp2_with fail
    refine bodyPost_ret (results_st_e rfl _ _ (w.heap.size + 3) (.slice none 0 0) (.int .i64 0) (.int .i64 0) (.int .i64 0) (.int .i64 0) (.int .i64 0) (.int .i64 0) (.int .i64 1) rfl rfl (by simp [heap_set, putIn, (HB.out _ hb4).2.2.2])) rfl ?_
    unfold StSaid
    rw [HR2.out]
    have hfin := H1.out.trans (hb4.mono hs1)
    exact ⟨_, rfl, SliceR.nil _ _ _ _ _ _, by (repeat' (first | (with_reducible exact Below.refl _ _) | (with_reducible assumption) | (with_reducible refine Below.alloc ?_ ?_ _) | (with_reducible refine Below.drew ?_) | (with_reducible refine drewN_below ?_) | (with_reducible refine Below.setCell ?_ ?_ _) | go_size))⟩
  · have HR2 : Hid (Z = (⟨s.lines, a, f, 0, 0⟩, 0)) := Lib.hid (HR.out.trans (if_pos rfl))
    clear HR
    go_enter Tryz.func68, Tryz.ntmps68
    go_wp2_with ((go_at_call 27; refine (HM.out _ hw0).mono ?_; rintro e w2 ⟨rfl, hst2⟩; have hb2 := below_from hw0 hst2; obtain ⟨q0, g0⟩ := blk (HB.out _ hb2).1; obtain ⟨q1, g1⟩ := blk (HB.out _ hb2).2.1))
    with_reducible refine (HIa.out _ hb2).mono ?_
    rintro e w3 ⟨rfl, hst3⟩
    have hb3 := below_from hb2 hst3
    clear q0 g0 q1 g1
    obtain ⟨q0, g0⟩ := blk (HB.out _ hb3).1
    obtain ⟨q2, g2⟩ := blk (HB.out _ hb3).2.2.1
    go_wp2_with fail
    with_reducible refine (HIf.out _ hb3).mono ?_
    rintro e w4 ⟨rfl, hst4⟩
    have hb4 := below_from hb3 hst4
    clear q0 g0 q2 g2
    have hb0 : Below W1.heap.size W1 w4.drew := hb4.drew
    obtain ⟨q0, g0⟩ := blk (HB.out _ hb4).1
    obtain ⟨q1, g1⟩ := blk (HB.out _ hb4).2.1
    obtain ⟨q2, g2⟩ := blk (HB.out _ hb4).2.2.1
    go_wp2_with fail
    have n1 : ¬ w.heap.size + 1 + 1 + 1 = w.heap.size + 1 + 1 := by omega
    have n2 : ¬ w.heap.size + 1 + 1 + 1 = w.heap.size + 1 := by omega
    have n3 : ¬ w.heap.size + 1 + 1 + 1 = w.heap.size := by omega
    have n4 : ¬ w.heap.size + 1 + 1 = w.heap.size + 1 + 1 + 1 := by omega
    have n5 : ¬ w.heap.size + 1 = w.heap.size + 1 + 1 + 1 := by omega
    have n6 : ¬ w.heap.size = w.heap.size + 1 + 1 + 1 := by omega
    have n7 : ¬ w.heap.size + 1 + 1 = w.heap.size := by omega
    have n8 : ¬ w.heap.size = w.heap.size + 1 + 1 := by omega
    go_region_held3 (fun w' => w'.cell? ⟨w.heap.size, 0, none⟩ = some (.slice va s.lines.length vc) ∧ w'.cell? ⟨w.heap.size + 1, 0, none⟩ = some (.int .i64 a.line) ∧ w'.cell? ⟨w.heap.size + 1, 1, none⟩ = some (.int .i64 a.col) ∧ w'.cell? ⟨w.heap.size + 1 + 1, 0, none⟩ = some (.int .i64 f.line) ∧ w'.cell? ⟨w.heap.size + 1 + 1, 1, none⟩ = some (.int .i64 f.col)) (go_keep)
      ((go_at_call 108; refine (HOw.out _ hb0).mono ?_; rintro e w5 ⟨v5, rfl, hv5, hst5⟩; obtain ⟨a5, c5, rfl⟩ := hv5.slice; have hb5 := below_from hb0 hst5; obtain ⟨s0, t0⟩ := blk (HB.out _ hb5).1; obtain ⟨s1, t1⟩ := blk (HB.out _ hb5).2.1; obtain ⟨s2, t2⟩ := blk (HB.out _ hb5).2.2.1; obtain ⟨s3, t3⟩ := blk (HB.out _ hb5).2.2.2; have HV5 := Lib.hid hv5; clear hv5))
    go_wp2_with fail
    refine bodyPost_ret (results_st_e rfl _ _ (w.heap.size + 3) (.slice a5 s.lines.length c5) (.int .i64 a.line) (.int .i64 a.col) (.int .i64 f.line) (.int .i64 f.col) (.int .i64 0) (.int .i64 0) (.int .i64 0) rfl rfl (by simp [heap_set, putIn, (HB.out _ hb5).2.2.2])) rfl ?_
    unfold StSaid
    rw [HR2.out]
    have hfin := H1.out.trans (hb5.mono hs1)
    have hv5 := HV5.out
    have hz4 := hb4.size
    exact ⟨_, rfl, (SliceR.stable (rdLin_stable _) hv5 (by (repeat' (first | (with_reducible exact Keeps.refl _ _) | (with_reducible refine Keeps.set ?_ ?_ _) | (with_reducible refine Keeps.alloc ?_ _) | (with_reducible refine Keeps.drew ?_) | (first | fail) | (simp; omega)))) (fun b h _ => (by have h' := h; (try simp at h'); omega))), by (repeat' (first | (with_reducible exact Below.refl _ _) | (with_reducible assumption) | (with_reducible refine Below.alloc ?_ ?_ _) | (with_reducible refine Below.drew ?_) | (with_reducible refine drewN_below ?_) | (with_reducible refine Below.setCell ?_ ?_ _) | go_size))⟩
set_option maxRecDepth 100000 in
set_option maxHeartbeats 2000000 in
theorem typNew_any (v : Value) (d : Doc) (w : World) (S : Nat → Prop) (h : LinsR w S v d) (he : EnvT w) (hs : Small d) (hf : Fits d) :
    Calls Tryz.prog 63 #[v] w (StSaid (newS d) w) := by
  obtain ⟨W1, hW1⟩ : ∃ W1, w.alloc (.cells #[.slice none 0 0, .int .i64 0, .int .i64 0, .int .i64 0, .int .i64 0, .int .i64 0, .int .i64 0] 26) = W1 := ⟨_, rfl⟩
  have hB : Below w.heap.size w W1 := hW1 ▸ below1 (Below.refl _ _) _
  have hz : w.heap.size + 1 = W1.heap.size := by rw [← hW1]; simp
  have k0 : W1.heap[w.heap.size]? = some (.cells #[.slice none 0 0, .int .i64 0, .int .i64 0, .int .i64 0, .int .i64 0, .int .i64 0, .int .i64 0] 26) := hW1 ▸ heap_new _ _ rfl
  have HB : Hid (∀ W, Below W1.heap.size W1 W → W.heap[w.heap.size]? = some (.cells #[.slice none 0 0, .int .i64 0, .int .i64 0, .int .i64 0, .int .i64 0, .int .i64 0, .int .i64 0] 26)) := Lib.hid fun W hW => heap_below hW k0
  have hs1 := hB.size
  have H1 := Lib.hid hB
  have HM := Lib.hid (docMay_any v d W1 w S h (he.below hB) hB hs)
  have HOw : Hid (∀ W, Below W1.heap.size W1 W → Calls Tryz.prog 108 #[v] W fun e w' => ∃ v', e = .returned v' ∧ DocR true w' (fun b => W.heap.size ≤ b) v' d ∧ Below W.heap.size W w') := Lib.hid fun W hW => docOwn_any v d W w S h (hB.trans (hW.mono hs1)) hf
  have HCl := Lib.hid (fun (a : Option Addr) (n c : Nat) (W : World) => typClosed_any a n c ⟨0, 0⟩ W)
  have HR : Hid (newS d = if mayD d = true then (closedS d ⟨0, 0⟩, 0) else (noS, 1)) := Lib.hid rfl
  obtain ⟨p0, f0⟩ := blk k0
  obtain ⟨va, vc, rfl⟩ := h.slice
  clear h he hs hf k0 hB
  cases hm : mayD d
  · rw [hm] at HM HR
    have HR2 : Hid (newS d = (noS, 1)) := Lib.hid (HR.out.trans (if_neg (by simp)))
    clear HR hm HOw HCl
    go_enter Tryz.func63, Tryz.ntmps63
    go_wp2_with (go_at_call 90; refine HM.out.mono ?_; rintro e w2 ⟨rfl, hb2⟩; obtain ⟨q0, g0⟩ := blk (HB.out _ hb2))
    refine bodyPost_ret (results_st_e rfl _ _ w.heap.size (.slice none 0 0) (.int .i64 0) (.int .i64 0) (.int .i64 0) (.int .i64 0) (.int .i64 0) (.int .i64 0) (.int .i64 1) rfl rfl (by simp [heap_set, putIn, HB.out _ hb2])) rfl ?_
    unfold StSaid
    rw [HR2.out]
    have hfin := H1.out.trans (hb2.mono hs1)
    exact ⟨_, rfl, SliceR.nil _ _ _ _ _ _, by (repeat' (first | (with_reducible exact Below.refl _ _) | (with_reducible assumption) | (with_reducible refine Below.alloc ?_ ?_ _) | (with_reducible refine Below.drew ?_) | (with_reducible refine drewN_below ?_) | (with_reducible refine Below.setCell ?_ ?_ _) | go_size))⟩
  · rw [hm] at HM HR
    have HR2 : Hid (newS d = (closedS d ⟨0, 0⟩, 0)) := Lib.hid (HR.out.trans (if_pos rfl))
    clear HR hm
    go_enter Tryz.func63, Tryz.ntmps63
    go_wp2_with (first
      | (go_at_call 90; refine HM.out.mono ?_; rintro e w2 ⟨rfl, hb2⟩)
      | (go_at_call 108; refine (HOw.out _ hb2).mono ?_; rintro e w3 ⟨v3, rfl, hv3, hst3⟩; obtain ⟨a3, c3, rfl⟩ := hv3.slice; have hb3 := below_from hb2 hst3; have HV3 := Lib.hid hv3; clear hv3)
      | (go_at_call 140; refine (HCl.out _ _ _ _).mono ?_; rintro e w4 ⟨rfl, hst4⟩; have hb4 := below_from hb3 hst4; obtain ⟨q0, g0⟩ := blk (HB.out _ hb4)))
    refine bodyPost_ret (results_st_e rfl _ _ w.heap.size (.slice a3 d.length c3) (.int .i64 0) (.int .i64 0) (.int .i64 0) (.int .i64 0) (.int .i64 0) (.int .i64 0) (.int .i64 0) rfl rfl (by simp [heap_set, putIn, HB.out _ hb4])) rfl ?_
    unfold StSaid
    rw [HR2.out]
    have hfin := H1.out.trans (hb4.mono hs1)
    have hv3 := HV3.out.below hst4
    have hz2 := hb2.size
    exact ⟨_, rfl, (SliceR.stable (rdLin_stable _) hv3 (by (repeat' (first | (with_reducible exact Keeps.refl _ _) | (with_reducible refine Keeps.set ?_ ?_ _) | (with_reducible refine Keeps.alloc ?_ _) | (with_reducible refine Keeps.drew ?_) | (first | fail) | (simp; omega)))) (fun b h _ => (by have h' := h; (try simp at h'); omega))), by (repeat' (first | (with_reducible exact Below.refl _ _) | (with_reducible assumption) | (with_reducible refine Below.alloc ?_ ?_ _) | (with_reducible refine Below.drew ?_) | (with_reducible refine drewN_below ?_) | (with_reducible refine Below.setCell ?_ ?_ _) | go_size))⟩
end Go.Proofs.YtpndnbjpnajaaaaGreatDoor
namespace Go.Proofs.Qw
open Go.RowKit Go.Proofs.YtpndnbjpnajaaaaGreatDoor
def lastF (l : List Int) : Int := l.getLastD (-1)
end Go.Proofs.Qw
namespace Go.Proofs.YtpndnbjpnajaaaaGreatDoor
open Go.RowKit
open Go.Proofs.Qw
attribute [local go_sem] Oper.semAt_some
set_option maxHeartbeats 1000000 in
theorem lineLast_any (B : Nat) (q k : Int) (l : List Int) (la : Option Addr) (lc : Nat) (cv : Value) (w : World) (S : Nat → Prop) (h : IntsR false w S (.slice la l.length lc) l) (hB : w.heap[B]? = some (.cells #[.int .i64 q, .slice la l.length lc, .int .i64 k, cv] 42)) :
    Calls Tryz.prog 231 #[.pointer (some ⟨B, 0, none⟩)] w fun e w' => e = .returned (.int .i64 (lastF l)) ∧ Below w.heap.size w w' ∧ w'.heap = w.heap := by
  obtain ⟨a, c, he, hc, hm, hx⟩ := ints_shape h
  cases he
  obtain ⟨p0, f0⟩ := blk hB
  unfold maxLen at hm
  by_cases hn : l = []
  · subst hn
    have HR : Hid (lastF [] = -1) := Lib.hid rfl
    clear h hx hB
    go_enter Tryz.func231, Tryz.ntmps231
    go_wp2_with fail
    go_ret
    rw [HR.out]
    exact ⟨rfl, Below.refl _ _, rfl⟩
  · obtain ⟨n, hnl⟩ : ∃ n, l.length = n + 1 := ⟨l.length - 1, by have := List.length_pos_iff.2 hn; omega⟩
    obtain ⟨x, hx0, _⟩ := getOf l n (by omega)
    obtain ⟨b, o, rfl, hz, c0⟩ := hx n x hx0
    have HR : Hid (lastF l = x) := Lib.hid (by
      unfold lastF
      rw [List.getLastD_eq_getLast?, List.getLast?_eq_getElem?, hnl, Nat.add_sub_cancel, hx0]
      rfl)
    have hl0 : (((n + 1 : Nat) : Int) == 0) = false := by simp; omega
    have e1 : IntKind.i64.wrap (((n + 1 : Nat) : Int) - 1) = (n : Int) := by rw [show (((n + 1 : Nat) : Int) - 1) = (n : Int) by omega]; exact IntWalk.i64_in _ (by omega)
    have i0 : (0 : Int) ≤ (n : Int) := Int.natCast_nonneg _
    have i1 : (n : Int) < ((n + 1 : Nat) : Int) := by omega
    rw [hnl] at p0 hc
    clear h hx hB hx0 hnl hn
    go_enter Tryz.func231, Tryz.ntmps231
    go_wp2_with fail
    go_quiet (fail)
    go_wp2_with fail
    go_ret
    rw [HR.out]
    exact ⟨rfl, by (repeat' (first | (with_reducible exact Below.refl _ _) | (with_reducible assumption) | (with_reducible refine Below.alloc ?_ ?_ _) | (with_reducible refine Below.drew ?_) | (with_reducible refine drewN_below ?_) | (with_reducible refine Below.setCell ?_ ?_ _) | go_size)), rfl⟩
set_option maxHeartbeats 1000000 in
theorem lineLift_yes (B : Nat) (q k : Int) (l : List Int) (la : Option Addr) (lc : Nat) (cv : Value) (w : World) (S : Nat → Prop) (h : IntsR false w S (.slice la l.length lc) l) (hB : w.heap[B]? = some (.cells #[.int .i64 q, .slice la l.length lc, .int .i64 k, cv] 42)) (hne : l ≠ []) (hl : 0 ≤ lastF l) :
    Calls Tryz.prog 186 #[.pointer (some ⟨B, 0, none⟩)] w fun e w' => e = .returned (.bool true) ∧ ∃ w1, w1.heap = w.heap ∧ Below w.heap.size w w1 ∧ w' = w1.setCell ⟨B, 1, none⟩ (.slice la (l.length - 1) (l.length - 1)) := by
  have HC := Lib.hid (lineLast_any B q k l la lc cv w S h hB)
  obtain ⟨a, c, he, hc, hm, hx⟩ := ints_shape h
  cases he
  obtain ⟨n, hnl⟩ : ∃ n, l.length = n + 1 := ⟨l.length - 1, by have := List.length_pos_iff.2 hne; omega⟩
  obtain ⟨x, hx0, _⟩ := getOf l n (by omega)
  obtain ⟨b, o, rfl, hz, c0⟩ := hx n x hx0
  obtain ⟨r, hr⟩ : ∃ r, lastF l = r := ⟨_, rfl⟩
  rw [hr] at HC hl
  unfold maxLen at hm
  have HN : Hid (l.length - 1 = n) := Lib.hid (by omega)
  have hr0 : ¬ r < 0 := by omega
  have HBB := Lib.hid hB
  rw [HN.out]
  rw [hnl] at hc HBB
  clear h hx hB hx0 hnl hne hr hl c0 hz HN
  have n0 : (0 : Int) ≤ (n : Int) := Int.natCast_nonneg _
  have n1 : (n : Int) ≤ lc := by omega
  have n2 : n ≤ lc := by omega
  have n3 : ((n : Int)).toNat = n := Int.toNat_natCast _
  go_enter Tryz.func186, Tryz.ntmps186
  go_wp2_with (go_at_call 231; refine HC.out.mono ?_; rintro e w1 ⟨rfl, hb1, hh1⟩; have HW1 := Lib.hid (And.intro hb1 hh1); have HB1 : Hid (w1.heap[B]? = _) := Lib.hid (hh1 ▸ HBB.out); clear hb1 hh1; obtain ⟨p0, f0⟩ := blk HB1.out)
  go_ret
  exact ⟨rfl, w1, HW1.out.2, HW1.out.1, rfl⟩
set_option maxHeartbeats 1000000 in
theorem lineLift_no (B : Nat) (q k : Int) (l : List Int) (la : Option Addr) (lc : Nat) (cv : Value) (w : World) (S : Nat → Prop) (h : IntsR false w S (.slice la l.length lc) l) (hB : w.heap[B]? = some (.cells #[.int .i64 q, .slice la l.length lc, .int .i64 k, cv] 42)) (hl : lastF l < 0) :
    Calls Tryz.prog 186 #[.pointer (some ⟨B, 0, none⟩)] w fun e w' => e = .returned (.bool false) ∧ Below w.heap.size w w' ∧ w'.heap = w.heap := by
  have HC := Lib.hid (lineLast_any B q k l la lc cv w S h hB)
  obtain ⟨r, hr⟩ : ∃ r, lastF l = r := ⟨_, rfl⟩
  rw [hr] at HC hl
  clear h hB hr
  go_enter Tryz.func186, Tryz.ntmps186
  go_wp2_with (go_at_call 231; refine HC.out.mono ?_; rintro e w1 ⟨rfl, hb1, hh1⟩; have HW1 := Lib.hid (And.intro hb1 hh1); clear hb1 hh1)
  go_ret
  exact ⟨rfl, HW1.out.1, HW1.out.2⟩
end Go.Proofs.YtpndnbjpnajaaaaGreatDoor
namespace Go.Proofs.Qw
open Go.RowKit Go.Proofs.YtpndnbjpnajaaaaGreatDoor
def outdentL (l : Lin) : Option Lin := if l.lists ≠ [] then some { l with lists := l.lists.dropLast } else if 0 < l.quote then some { l with quote := l.quote - 1 } else none
def freeL (l : Lin) : Option Lin := if l.lists ≠ [] then some { l with lists := l.lists.dropLast } else if 0 < l.kind then some { l with kind := 0 } else if 0 < l.quote then some { l with quote := l.quote - 1 } else none
end Go.Proofs.Qw
namespace Go.Proofs.YtpndnbjpnajaaaaGreatDoor
open Go.RowKit
open Go.Proofs.Qw
attribute [local go_sem] Oper.semAt_some
theorem mayL_facts {l : Lin} (h : mayL l = true) : 0 ≤ l.quote ∧ l.quote ≤ 6 ∧ l.lists.length ≤ 6 ∧ 0 ≤ l.kind ∧ l.kind ≤ 3 ∧ (l.lists = [] ∨ l.kind = 0) ∧ (∀ k ∈ l.lists, k = 0 ∨ k = 1) ∧ mayCs l.cells = true := by
  unfold mayL at h
  simp only [Bool.and_eq_true, Bool.or_eq_true, decide_eq_true_eq, List.all_eq_true] at h
  obtain ⟨⟨⟨⟨⟨⟨⟨h1, h2⟩, h3⟩, h4⟩, h5⟩, h6⟩, h7⟩, h8⟩ := h
  exact ⟨h1, h2, h3, h4, h5, h6, h7, h8⟩
theorem lastF_yes {l : Lin} (h : mayL l = true) (hne : l.lists ≠ []) : 0 ≤ lastF l.lists := by
  obtain ⟨_, _, _, _, _, _, h7, _⟩ := mayL_facts h
  unfold lastF
  rw [List.getLastD_eq_getLast?, List.getLast?_eq_some_getLast hne]
  rcases h7 _ (List.getLast_mem hne) with e | e <;> simp [e]
def TurnPost (B : Nat) (l : Lin) (la : Option Addr) (lc : Nat) (cv : Value) (w : World) (r : Option Lin) (e : Ending) (w' : World) : Prop :=
  e = .returned (.bool r.isSome) ∧ (∃ q k n c, w'.heap[B]? = some (.cells #[.int .i64 q, .slice la n c, .int .i64 k, cv] 42) ∧ ∀ l', r = some l' → l'.quote = q ∧ l'.kind = k ∧ l'.lists = l.lists.take n ∧ l'.cells = l.cells ∧ n ≤ l.lists.length ∧ n ≤ c ∧ c ≤ lc) ∧
    (∀ b, b < w.heap.size → b ≠ B → w'.heap[b]? = w.heap[b]?) ∧ w.heap.size ≤ w'.heap.size ∧ Below B w w'
theorem TurnPost.mk' {B : Nat} {l : Lin} {la : Option Addr} {lc : Nat} {cv : Value} {w w1 w' : World} {r : Option Lin} {e : Ending} (he : e = .returned (.bool r.isSome)) (hB : B < w.heap.size) (h1 : Below w.heap.size w w1) (ho : ∀ b, b ≠ B → w'.heap[b]? = w1.heap[b]?) (hs : w'.heap.size = w1.heap.size) (hb : Below B w1 w')
    (q k : Int) (n c : Nat) (hq : w'.heap[B]? = some (.cells #[.int .i64 q, .slice la n c, .int .i64 k, cv] 42)) (hl : ∀ l', r = some l' → l'.quote = q ∧ l'.kind = k ∧ l'.lists = l.lists.take n ∧ l'.cells = l.cells ∧ n ≤ l.lists.length ∧ n ≤ c ∧ c ≤ lc) : TurnPost B l la lc cv w r e w' :=
  ⟨he, ⟨q, k, n, c, hq, hl⟩, fun b hbz hne => (ho b hne).trans (h1.block b hbz), by rw [hs]; exact h1.size, (h1.mono (Nat.le_of_lt hB)).trans hb⟩
set_option maxHeartbeats 1000000 in
theorem outdent1_any (B : Nat) (l : Lin) (la : Option Addr) (lc : Nat) (cv : Value) (w : World) (S : Nat → Prop) (hm : mayL l = true) (h : IntsR false w S (.slice la l.lists.length lc) l.lists) (hB : w.heap[B]? = some (.cells #[.int .i64 l.quote, .slice la l.lists.length lc, .int .i64 l.kind, cv] 42)) :
    Calls Tryz.prog 185 #[.pointer (some ⟨B, 0, none⟩)] w (TurnPost B l la lc cv w (outdentL l)) := by
  have hBz : B < w.heap.size := (Array.getElem?_eq_some_iff.1 hB).1
  obtain ⟨hq0, hq6, _⟩ := mayL_facts hm
  have hlen := h.len
  by_cases hn : l.lists = []
  · have HL := Lib.hid (lineLift_no B l.quote l.kind l.lists la lc cv w S h hB (by rw [hn]; decide))
    have HR : Hid (outdentL l = if 0 < l.quote then some { l with quote := l.quote - 1 } else none) := Lib.hid (by unfold outdentL; rw [if_neg (fun e => e hn)])
    have HB := Lib.hid hB
    have HN := Lib.hid hn
    have HE := Lib.hid hlen
    have w1 : IntKind.i64.wrap (l.quote - 1) = l.quote - 1 := IntWalk.i64_in _ (by omega)
    clear h hB hn hlen
    go_enter Tryz.func185, Tryz.ntmps185
    go_wp2_with (go_at_call 186; refine HL.out.mono ?_; rintro e w2 ⟨rfl, hb2, hh2⟩; have HW2 := Lib.hid (And.intro hb2 hh2); have HB2 : Hid (w2.heap[B]? = _) := Lib.hid (hh2 ▸ HB.out); clear hb2 hh2; obtain ⟨p0, f0⟩ := blk HB2.out)
    go_ret
    rw [HR.out]
    refine TurnPost.mk' ?_ hBz HW2.out.1 (fun b hb => by simp [heap_set, Ne.symm hb]) (by simp) (by exact Below.setCell (p := ⟨B, 0, none⟩) (Below.refl B _) (Nat.le_refl B) _) (l.quote - 1) l.kind l.lists.length lc (by simp [heap_set, putIn, HB2.out]) ?_
    · split <;> simp <;> omega
    · intro l' hl'
      split at hl'
      · cases hl'
        exact ⟨rfl, rfl, by simp, rfl, Nat.le_refl _, HE.out.2.1, Nat.le_refl _⟩
      · cases hl'
  · have HL := Lib.hid (lineLift_yes B l.quote l.kind l.lists la lc cv w S h hB hn (lastF_yes hm hn))
    have HR : Hid (outdentL l = some { l with lists := l.lists.dropLast }) := Lib.hid (by unfold outdentL; rw [if_pos hn])
    have HB := Lib.hid hB
    have HE := Lib.hid hlen
    clear h hB hn hlen
    go_enter Tryz.func185, Tryz.ntmps185
    go_wp2_with (go_at_call 186; refine HL.out.mono ?_; rintro e w2 ⟨rfl, w3, hh3, hb3, rfl⟩; have HW3 := Lib.hid (And.intro hb3 hh3); clear hb3 hh3)
    go_ret
    rw [HR.out]
    refine TurnPost.mk' rfl hBz HW3.out.1 (fun b hb => by simp [heap_set, Ne.symm hb]) (by simp) (by exact Below.setCell (p := ⟨B, 1, none⟩) (Below.refl B _) (Nat.le_refl B) _) l.quote l.kind (l.lists.length - 1) (l.lists.length - 1) (by have := HW3.out.2 ▸ HB.out; simp [heap_set, putIn, this]) ?_
    intro l' hl'
    cases hl'
    exact ⟨rfl, rfl, by rw [List.dropLast_eq_take], rfl, by omega, Nat.le_refl _, by have := HE.out; omega⟩
set_option maxHeartbeats 1000000 in
theorem free1_any (B : Nat) (l : Lin) (la : Option Addr) (lc : Nat) (cv : Value) (w : World) (S : Nat → Prop) (hm : mayL l = true) (h : IntsR false w S (.slice la l.lists.length lc) l.lists) (hB : w.heap[B]? = some (.cells #[.int .i64 l.quote, .slice la l.lists.length lc, .int .i64 l.kind, cv] 42)) :
    Calls Tryz.prog 190 #[.pointer (some ⟨B, 0, none⟩)] w (TurnPost B l la lc cv w (freeL l)) := by
  have hBz : B < w.heap.size := (Array.getElem?_eq_some_iff.1 hB).1
  obtain ⟨hq0, hq6, _, hk0, hk3, _⟩ := mayL_facts hm
  have hlen := h.len
  by_cases hn : l.lists = []
  · have HL := Lib.hid (lineLift_no B l.quote l.kind l.lists la lc cv w S h hB (by rw [hn]; decide))
    have HR : Hid (freeL l = if 0 < l.kind then some { l with kind := 0 } else if 0 < l.quote then some { l with quote := l.quote - 1 } else none) := Lib.hid (by unfold freeL; rw [if_neg (fun e => e hn)])
    have HB := Lib.hid hB
    have HN := Lib.hid hn
    have HE := Lib.hid hlen
    have w1 : IntKind.i64.wrap (l.quote - 1) = l.quote - 1 := IntWalk.i64_in _ (by omega)
    clear h hB hn hlen
    rcases (show (0 < l.kind) ∨ (¬ 0 < l.kind ∧ 0 < l.quote) ∨ (¬ 0 < l.kind ∧ ¬ 0 < l.quote) by omega) with hk | ⟨hk, hq⟩ | ⟨hk, hq⟩
    · rw [if_pos hk] at HR
      go_enter Tryz.func190, Tryz.ntmps190
      go_wp2_with (go_at_call 186; refine HL.out.mono ?_; rintro e w2 ⟨rfl, hb2, hh2⟩; have HW2 := Lib.hid (And.intro hb2 hh2); have HB2 : Hid (w2.heap[B]? = _) := Lib.hid (hh2 ▸ HB.out); clear hb2 hh2; obtain ⟨p0, f0⟩ := blk HB2.out)
      go_ret
      rw [HR.out]
      refine TurnPost.mk' rfl hBz HW2.out.1 (fun b hb => by simp [heap_set, Ne.symm hb]) (by simp) (by exact Below.setCell (p := ⟨B, 2, none⟩) (Below.refl B _) (Nat.le_refl B) _) l.quote 0 l.lists.length lc (by simp [heap_set, putIn, HB2.out]) ?_
      intro l' hl'
      cases hl'
      exact ⟨rfl, rfl, by simp, rfl, Nat.le_refl _, HE.out.2.1, Nat.le_refl _⟩
    · rw [if_neg hk, if_pos hq] at HR
      go_enter Tryz.func190, Tryz.ntmps190
      go_wp2_with (go_at_call 186; refine HL.out.mono ?_; rintro e w2 ⟨rfl, hb2, hh2⟩; have HW2 := Lib.hid (And.intro hb2 hh2); have HB2 : Hid (w2.heap[B]? = _) := Lib.hid (hh2 ▸ HB.out); clear hb2 hh2; obtain ⟨p0, f0⟩ := blk HB2.out)
      go_ret
      rw [HR.out]
      refine TurnPost.mk' rfl hBz HW2.out.1 (fun b hb => by simp [heap_set, Ne.symm hb]) (by simp) (by exact Below.setCell (p := ⟨B, 0, none⟩) (Below.refl B _) (Nat.le_refl B) _) (l.quote - 1) l.kind l.lists.length lc (by simp [heap_set, putIn, HB2.out]) ?_
      intro l' hl'
      cases hl'
      exact ⟨rfl, rfl, by simp, rfl, Nat.le_refl _, HE.out.2.1, Nat.le_refl _⟩
    · rw [if_neg hk, if_neg hq] at HR
      go_enter Tryz.func190, Tryz.ntmps190
      go_wp2_with (go_at_call 186; refine HL.out.mono ?_; rintro e w2 ⟨rfl, hb2, hh2⟩; have HW2 := Lib.hid (And.intro hb2 hh2); have HB2 : Hid (w2.heap[B]? = _) := Lib.hid (hh2 ▸ HB.out); clear hb2 hh2; obtain ⟨p0, f0⟩ := blk HB2.out)
      go_ret
      rw [HR.out]
      refine TurnPost.mk' rfl hBz HW2.out.1 (fun b _ => rfl) rfl (Below.refl _ _) l.quote l.kind l.lists.length lc HB2.out ?_
      intro l' hl'
      cases hl'
  · have HL := Lib.hid (lineLift_yes B l.quote l.kind l.lists la lc cv w S h hB hn (lastF_yes hm hn))
    have HR : Hid (freeL l = some { l with lists := l.lists.dropLast }) := Lib.hid (by unfold freeL; rw [if_pos hn])
    have HB := Lib.hid hB
    have HE := Lib.hid hlen
    clear h hB hn hlen
    go_enter Tryz.func190, Tryz.ntmps190
    go_wp2_with (go_at_call 186; refine HL.out.mono ?_; rintro e w2 ⟨rfl, w3, hh3, hb3, rfl⟩; have HW3 := Lib.hid (And.intro hb3 hh3); clear hb3 hh3)
    go_ret
    rw [HR.out]
    refine TurnPost.mk' rfl hBz HW3.out.1 (fun b hb => by simp [heap_set, Ne.symm hb]) (by simp) (by exact Below.setCell (p := ⟨B, 1, none⟩) (Below.refl B _) (Nat.le_refl B) _) l.quote l.kind (l.lists.length - 1) (l.lists.length - 1) (by have := HW3.out.2 ▸ HB.out; simp [heap_set, putIn, this]) ?_
    intro l' hl'
    cases hl'
    exact ⟨rfl, rfl, by rw [List.dropLast_eq_take], rfl, by omega, Nat.le_refl _, by have := HE.out; omega⟩
theorem results_lineE {fn : Func} {p u : Tmp} (h : fn.results = #[.cell p 42, .tmp u]) (tmps : Array Value) (w : World) (B : Nat) (x1 x2 x3 x4 : Value) (hp : tmps.getD p undef = .pointer (some ⟨B, 0, none⟩))
    (hB : w.heap[B]? = some (.cells #[x1, x2, x3, x4] 42)) :
    (results fn tmps).run Tryz.prog w = .ok (.tuple #[.agg #[x1, x2, x3, x4], tmps.getD u undef]) w := by
  have h1 := run_loadVar_row (P := Tryz.prog) w B 42 42 _ _ _ hB Tryz.underlying42 rfl (by kernel_rfl)
  have hp' : tmps[p]?.getD undef = .pointer (some ⟨B, 0, none⟩) := by simpa using hp
  simp [results, h, hp', asAddr, h1]
def TurnSaid (w : World) (r : Option Lin) (e : Ending) (w' : World) : Prop :=
  (∀ l', r = some l' → ∃ a' b', e = .returned (.tuple #[linV l' a' b', .int .i64 0]) ∧ IntsR true w' (fun b => w.heap.size ≤ b) a' l'.lists ∧ CelsR true w' (fun b => w.heap.size ≤ b) b' l'.cells) ∧
    (r = none → e = .returned (.tuple #[.agg #[.int .i64 0, .slice none 0 0, .int .i64 0, .slice none 0 0], .int .i64 7])) ∧ Below w.heap.size w w'
set_option maxRecDepth 100000 in
set_option maxHeartbeats 2000000 in
theorem turned_any (g : Nat) (T : Lin → Option Lin) (eg : ∀ args w, (callFunc g args).run Tryz.prog w = .ok (.enter g args) w)
    (HT : ∀ (B : Nat) (l : Lin) (la : Option Addr) (lc : Nat) (cv : Value) (w : World) (S : Nat → Prop), mayL l = true → IntsR false w S (.slice la l.lists.length lc) l.lists → w.heap[B]? = some (.cells #[.int .i64 l.quote, .slice la l.lists.length lc, .int .i64 l.kind, cv] 42) →
      Calls Tryz.prog g #[.pointer (some ⟨B, 0, none⟩)] w (TurnPost B l la lc cv w (T l)))
    (l : Lin) (la ca : Option Addr) (lc cc : Nat) (w w0 : World) (S : Nat → Prop) (hL : IntsR false w0 S (.slice la l.lists.length lc) l.lists) (hC : CelsR false w0 S (.slice ca l.cells.length cc) l.cells) (h0 : Below w0.heap.size w0 w)
    (he : EnvT w) (hs : l.lists.length ≤ 1000000 ∧ l.cells.length ≤ 1000000) (hh : ∀ c ∈ l.cells, c.href.length ≤ 1000000) (hm : mayL l = true) :
    Calls Tryz.prog 184 #[linV l (.slice la l.lists.length lc) (.slice ca l.cells.length cc), .func (.func g) #[] #[]] w (TurnSaid w (T l)) := by
  obtain ⟨W1, hW1, hB, hz, hA1, hA2⟩ := two_lines w (.int .i64 l.quote) (.slice la l.lists.length lc) (.int .i64 l.kind) (.slice ca l.cells.length cc) (.int .i64 0) (.slice none 0 0) (.int .i64 0) (.slice none 0 0)
  have h01 : Below w0.heap.size w0 W1 := below_from h0 hB
  have HM := Lib.hid (lineMay_any l la ca lc cc W1 w0 S hL hC (he.below hB) h01 hh)
  rw [hm] at HM
  have HO : Hid (∀ W, Below w0.heap.size w0 W → Calls Tryz.prog 181 #[linV l (.slice la l.lists.length lc) (.slice ca l.cells.length cc)] W fun e w' => ∃ a' b', e = .returned (linV l a' b') ∧ IntsR true w' (fun b => W.heap.size ≤ b) a' l.lists ∧ CelsR true w' (fun b => W.heap.size ≤ b) b' l.cells ∧ Below W.heap.size W w') := Lib.hid fun W hW => lineOwn_any l _ _ false false W w0 S hL hC hW hs
  have HG : Hid (∀ (B : Nat) (la : Option Addr) (lc : Nat) (cv : Value) (w : World) (S : Nat → Prop), IntsR false w S (.slice la l.lists.length lc) l.lists → w.heap[B]? = some (.cells #[.int .i64 l.quote, .slice la l.lists.length lc, .int .i64 l.kind, cv] 42) → Calls Tryz.prog g #[.pointer (some ⟨B, 0, none⟩)] w (TurnPost B l la lc cv w (T l))) := Lib.hid fun B la lc cv w S h1 h2 => HT B l la lc cv w S hm h1 h2
  have hs1 := hB.size
  have HB0 : Hid (∀ W, Below W1.heap.size W1 W → W.heap[w.heap.size]? = some (.cells #[.int .i64 l.quote, .slice la l.lists.length lc, .int .i64 l.kind, .slice ca l.cells.length cc] 42) ∧ W.heap[w.heap.size + 1]? = some (.cells #[.int .i64 0, .slice none 0 0, .int .i64 0, .slice none 0 0] 42)) := Lib.hid fun W hW => ⟨heap_below hW hA1, heap_below hW hA2⟩
  have H1 := Lib.hid hB
  have H01 := Lib.hid h01
  obtain ⟨p1, f1⟩ := blk hA1
  obtain ⟨p2, f2⟩ := blk hA2
  obtain ⟨r, hr⟩ : ∃ r, T l = r := ⟨_, rfl⟩
  rw [hr] at HG ⊢
  clear hL hC hs hB h0 HT hr hm he h01
  unfold linV at HO ⊢
  go_enter Tryz.func184, Tryz.ntmps184
  go_wp2_with (first | (go_at_call 160; refine HM.out.mono ?_; rintro e w2 ⟨rfl, hb2⟩; obtain ⟨hA3, hA4⟩ := HB0.out _ hb2; obtain ⟨q0, g0⟩ := blk hA3; obtain ⟨q1, g1⟩ := blk hA4) | (go_at_call 181; refine (HO.out _ (below_from H01.out hb2)).mono ?_; rintro e w3 ⟨a', b', rfl, ha', hb', hb3⟩; obtain ⟨a1, c1, rfl⟩ := ha'.slice; obtain ⟨a2, c2, rfl⟩ := hb'.slice; obtain ⟨hA5, hA6⟩ := HB0.out _ (below_from hb2 hb3); obtain ⟨p3, f3⟩ := blk hA5; obtain ⟨p4, f4⟩ := blk hA6))
  obtain ⟨Y, hY, hYB, hYs, hYo, hYb⟩ := set_four w3 w.heap.size 42 _ _ _ _ (.int .i64 l.quote) (.slice a1 l.lists.length c1) (.int .i64 l.kind) (.slice a2 l.cells.length c2) hA5
  have hx2 := below_from H1.out hb2
  have hx3 : Below w.heap.size w w3 := below_from hx2 hb3
  have hn3 : w.heap.size + 2 ≤ w2.heap.size := by have := hb2.size; omega
  have hle3 := hb3.size
  have hiY : IntsR true Y (fun b => w2.heap.size ≤ b) (.slice a1 l.lists.length c1) l.lists := SliceR.stable (rdOf_stable _) ha' (Keeps.only hYs hYo (by simp; omega)) (fun b h _ => h)
  have hcY : CelsR true Y (fun b => w2.heap.size ≤ b) (.slice a2 l.cells.length c2) l.cells := SliceR.stable (rdOf_stable _) hb' (Keeps.only hYs hYo (by simp; omega)) (fun b h _ => h)
  have hcl := hiY.len
  rw [hY]
  have hA7 : Y.heap[w.heap.size + 1]? = some (.cells #[.int .i64 0, .slice none 0 0, .int .i64 0, .slice none 0 0] 42) := (hYo _ (by omega)).trans hA6
  refine (HG.out w.heap.size a1 c1 (.slice a2 l.cells.length c2) Y (fun b => w2.heap.size ≤ b) (SliceR.read (fun _ _ h => h) hiY) hYB).mono ?_
  rintro e w4 ⟨rfl, ⟨q, k, n, c, h4, hl4⟩, ho4, hz4, hb4⟩
  have hA8 := (ho4 (w.heap.size + 1) (by omega) (by omega)).trans hA7
  have hi4 : IntsR true w4 (fun b => w2.heap.size ≤ b) (.slice a1 l.lists.length c1) l.lists := SliceR.stable (rdOf_stable _) hiY ⟨hz4, fun b hb hz => ho4 b hz (by omega)⟩ (fun b h _ => h)
  have hc4 : CelsR true w4 (fun b => w2.heap.size ≤ b) (.slice a2 l.cells.length c2) l.cells := SliceR.stable (rdOf_stable _) hcY ⟨hz4, fun b hb hz => ho4 b hz (by omega)⟩ (fun b h _ => h)
  have hx4 : Below w.heap.size w w4 := (hYb _ (Nat.le_refl _) w hx3).trans hb4
  have HI := Lib.hid hi4
  have HCC := Lib.hid hc4
  have HX4 := Lib.hid hx4
  clear hi4 hc4 hx4 hiY hcY hYB hYo hYb ha' hb' ho4 hb4 HG HO HM hx2 hx3
  obtain ⟨p5, f5⟩ := blk h4
  obtain ⟨p6, f6⟩ := blk hA8
  clear p1 f1 p2 f2 q0 g0 q1 g1 p3 f3 p4 f4 hY
  cases r with
  | none =>
    go_wp2_with fail
    refine bodyPost_ret (results_lineE rfl _ _ (w.heap.size + 1) (.int .i64 0) (.slice none 0 0) (.int .i64 0) (.slice none 0 0) rfl (by simp [heap_set, putIn, hA8])) rfl ?_
    refine ⟨fun l' h => (by cases h), fun _ => rfl, ?_⟩
    have := HX4.out
    (repeat' (first | (with_reducible exact Below.refl _ _) | (with_reducible assumption) | (with_reducible refine Below.alloc ?_ ?_ _) | (with_reducible refine Below.drew ?_) | (with_reducible refine drewN_below ?_) | (with_reducible refine Below.setCell ?_ ?_ _) | go_size))
  | some l' =>
    obtain ⟨rfl, rfl, e3, e4, e5, e6, e7⟩ := hl4 l' rfl
    have HE := Lib.hid (And.intro e3 e4)
    clear hl4 e3 e4
    go_wp2_with fail
    refine bodyPost_ret (results_lineE rfl _ _ (w.heap.size + 1) (.int .i64 l'.quote) (.slice a1 n c) (.int .i64 l'.kind) (.slice a2 l.cells.length c2) rfl (by simp [heap_set, putIn, hA8])) rfl ?_
    refine ⟨fun l'' h => ?_, fun h => (by cases h), ?_⟩
    · cases h
      refine ⟨_, _, rfl, ?_, ?_⟩
      · rw [HE.out.1]
        have hh := SliceR.caps (HI.out.take e5) (m := c) (by rw [List.length_take]; omega) e7
        exact (SliceR.stable (rdOf_stable _) hh (by (repeat' (first | (with_reducible exact Keeps.refl _ _) | (with_reducible refine Keeps.set ?_ ?_ _) | (with_reducible refine Keeps.alloc ?_ _) | (with_reducible refine Keeps.drew ?_) | (first | fail) | (simp; omega)))) (fun b h _ => (by have h' := h; (try simp at h'); omega)))
      · rw [HE.out.2]
        have hh := HCC.out
        exact (SliceR.stable (rdOf_stable _) hh (by (repeat' (first | (with_reducible exact Keeps.refl _ _) | (with_reducible refine Keeps.set ?_ ?_ _) | (with_reducible refine Keeps.alloc ?_ _) | (with_reducible refine Keeps.drew ?_) | (first | fail) | (simp; omega)))) (fun b h _ => (by have h' := h; (try simp at h'); omega)))
    · have := HX4.out
      (repeat' (first | (with_reducible exact Below.refl _ _) | (with_reducible assumption) | (with_reducible refine Below.alloc ?_ ?_ _) | (with_reducible refine Below.drew ?_) | (with_reducible refine drewN_below ?_) | (with_reducible refine Below.setCell ?_ ?_ _) | go_size))
set_option maxHeartbeats 1000000 in
theorem lineOutdent_any (l : Lin) (la ca : Option Addr) (lc cc : Nat) (w w0 : World) (S : Nat → Prop) (hL : IntsR false w0 S (.slice la l.lists.length lc) l.lists) (hC : CelsR false w0 S (.slice ca l.cells.length cc) l.cells) (h0 : Below w0.heap.size w0 w)
    (he : EnvT w) (hs : l.lists.length ≤ 1000000 ∧ l.cells.length ≤ 1000000) (hh : ∀ c ∈ l.cells, c.href.length ≤ 1000000) (hm : mayL l = true) :
    Calls Tryz.prog 114 #[linV l (.slice la l.lists.length lc) (.slice ca l.cells.length cc)] w (TurnSaid w (outdentL l)) := by
  obtain ⟨W1, hW1, hB, hz, hA1, hA2⟩ := two_lines w (.int .i64 l.quote) (.slice la l.lists.length lc) (.int .i64 l.kind) (.slice ca l.cells.length cc) (.int .i64 0) (.slice none 0 0) (.int .i64 0) (.slice none 0 0)
  have HT := Lib.hid (turned_any 185 outdentL (enters_of Tryz.func185 (by kernel_rfl) rfl) outdent1_any l la ca lc cc W1 w0 S hL hC (below_from h0 hB) (he.below hB) hs hh hm)
  have hs1 := hB.size
  have HB0 : Hid (∀ W, Below W1.heap.size W1 W → W.heap[w.heap.size]? = some (.cells #[.int .i64 l.quote, .slice la l.lists.length lc, .int .i64 l.kind, .slice ca l.cells.length cc] 42) ∧ W.heap[w.heap.size + 1]? = some (.cells #[.int .i64 0, .slice none 0 0, .int .i64 0, .slice none 0 0] 42)) := Lib.hid fun W hW => ⟨heap_below hW hA1, heap_below hW hA2⟩
  have H1 := Lib.hid hB
  obtain ⟨p1, f1⟩ := blk hA1
  obtain ⟨p2, f2⟩ := blk hA2
  obtain ⟨r, hr⟩ : ∃ r, outdentL l = r := ⟨_, rfl⟩
  rw [hr] at HT ⊢
  clear hL hC hs hB h0 hr hm he
  unfold linV at HT ⊢
  cases r with
  | none =>
    go_enter Tryz.func114, Tryz.ntmps114
    go_wp2_with (go_at_call 184; refine HT.out.mono ?_; rintro e w2 ⟨_, he2, hb2⟩; obtain rfl := he2 rfl; obtain ⟨hA3, hA4⟩ := HB0.out _ hb2; obtain ⟨q0, g0⟩ := blk hA3; obtain ⟨q1, g1⟩ := blk hA4)
    refine bodyPost_ret (results_lineE rfl _ _ (w.heap.size + 1) (.int .i64 0) (.slice none 0 0) (.int .i64 0) (.slice none 0 0) rfl (by simp [heap_set, putIn, hA4])) rfl ?_
    refine ⟨fun l' h => (by cases h), fun _ => rfl, ?_⟩
    have := H1.out.trans (hb2.mono hs1)
    (repeat' (first | (with_reducible exact Below.refl _ _) | (with_reducible assumption) | (with_reducible refine Below.alloc ?_ ?_ _) | (with_reducible refine Below.drew ?_) | (with_reducible refine drewN_below ?_) | (with_reducible refine Below.setCell ?_ ?_ _) | go_size))
  | some l' =>
    go_enter Tryz.func114, Tryz.ntmps114
    go_wp2_with (go_at_call 184; refine HT.out.mono ?_; rintro e w2 ⟨he2, _, hb2⟩; obtain ⟨a', b', rfl, ha', hb'⟩ := he2 _ rfl; obtain ⟨a1, c1, rfl⟩ := ha'.slice; obtain ⟨a2, c2, rfl⟩ := hb'.slice; obtain ⟨hA3, hA4⟩ := HB0.out _ hb2; obtain ⟨q0, g0⟩ := blk hA3; obtain ⟨q1, g1⟩ := blk hA4)
    refine bodyPost_ret (results_lineE rfl _ _ (w.heap.size + 1) (.int .i64 l'.quote) (.slice a1 l'.lists.length c1) (.int .i64 l'.kind) (.slice a2 l'.cells.length c2) rfl (by simp [heap_set, putIn, hA4])) rfl ?_
    refine ⟨fun l'' h => ?_, fun h => (by cases h), ?_⟩
    · cases h
      exact ⟨_, _, rfl, (SliceR.stable (rdOf_stable _) ha' (by (repeat' (first | (with_reducible exact Keeps.refl _ _) | (with_reducible refine Keeps.set ?_ ?_ _) | (with_reducible refine Keeps.alloc ?_ _) | (with_reducible refine Keeps.drew ?_) | (first | fail) | (simp; omega)))) (fun b h _ => (by have h' := h; (try simp at h'); omega))), (SliceR.stable (rdOf_stable _) hb' (by (repeat' (first | (with_reducible exact Keeps.refl _ _) | (with_reducible refine Keeps.set ?_ ?_ _) | (with_reducible refine Keeps.alloc ?_ _) | (with_reducible refine Keeps.drew ?_) | (first | fail) | (simp; omega)))) (fun b h _ => (by have h' := h; (try simp at h'); omega)))⟩
    · have := H1.out.trans (hb2.mono hs1)
      (repeat' (first | (with_reducible exact Below.refl _ _) | (with_reducible assumption) | (with_reducible refine Below.alloc ?_ ?_ _) | (with_reducible refine Below.drew ?_) | (with_reducible refine drewN_below ?_) | (with_reducible refine Below.setCell ?_ ?_ _) | go_size))
set_option maxHeartbeats 1000000 in
theorem lineFree_any (l : Lin) (la ca : Option Addr) (lc cc : Nat) (w w0 : World) (S : Nat → Prop) (hL : IntsR false w0 S (.slice la l.lists.length lc) l.lists) (hC : CelsR false w0 S (.slice ca l.cells.length cc) l.cells) (h0 : Below w0.heap.size w0 w)
    (he : EnvT w) (hs : l.lists.length ≤ 1000000 ∧ l.cells.length ≤ 1000000) (hh : ∀ c ∈ l.cells, c.href.length ≤ 1000000) (hm : mayL l = true) :
    Calls Tryz.prog 120 #[linV l (.slice la l.lists.length lc) (.slice ca l.cells.length cc)] w (TurnSaid w (freeL l)) := by
  obtain ⟨W1, hW1, hB, hz, hA1, hA2⟩ := two_lines w (.int .i64 l.quote) (.slice la l.lists.length lc) (.int .i64 l.kind) (.slice ca l.cells.length cc) (.int .i64 0) (.slice none 0 0) (.int .i64 0) (.slice none 0 0)
  have HT := Lib.hid (turned_any 190 freeL (enters_of Tryz.func190 (by kernel_rfl) rfl) free1_any l la ca lc cc W1 w0 S hL hC (below_from h0 hB) (he.below hB) hs hh hm)
  have hs1 := hB.size
  have HB0 : Hid (∀ W, Below W1.heap.size W1 W → W.heap[w.heap.size]? = some (.cells #[.int .i64 l.quote, .slice la l.lists.length lc, .int .i64 l.kind, .slice ca l.cells.length cc] 42) ∧ W.heap[w.heap.size + 1]? = some (.cells #[.int .i64 0, .slice none 0 0, .int .i64 0, .slice none 0 0] 42)) := Lib.hid fun W hW => ⟨heap_below hW hA1, heap_below hW hA2⟩
  have H1 := Lib.hid hB
  obtain ⟨p1, f1⟩ := blk hA1
  obtain ⟨p2, f2⟩ := blk hA2
  obtain ⟨r, hr⟩ : ∃ r, freeL l = r := ⟨_, rfl⟩
  rw [hr] at HT ⊢
  clear hL hC hs hB h0 hr hm he
  unfold linV at HT ⊢
  cases r with
  | none =>
    go_enter Tryz.func120, Tryz.ntmps120
    go_wp2_with (go_at_call 184; refine HT.out.mono ?_; rintro e w2 ⟨_, he2, hb2⟩; obtain rfl := he2 rfl; obtain ⟨hA3, hA4⟩ := HB0.out _ hb2; obtain ⟨q0, g0⟩ := blk hA3; obtain ⟨q1, g1⟩ := blk hA4)
    refine bodyPost_ret (results_lineE rfl _ _ (w.heap.size + 1) (.int .i64 0) (.slice none 0 0) (.int .i64 0) (.slice none 0 0) rfl (by simp [heap_set, putIn, hA4])) rfl ?_
    refine ⟨fun l' h => (by cases h), fun _ => rfl, ?_⟩
    have := H1.out.trans (hb2.mono hs1)
    (repeat' (first | (with_reducible exact Below.refl _ _) | (with_reducible assumption) | (with_reducible refine Below.alloc ?_ ?_ _) | (with_reducible refine Below.drew ?_) | (with_reducible refine drewN_below ?_) | (with_reducible refine Below.setCell ?_ ?_ _) | go_size))
  | some l' =>
    go_enter Tryz.func120, Tryz.ntmps120
    go_wp2_with (go_at_call 184; refine HT.out.mono ?_; rintro e w2 ⟨he2, _, hb2⟩; obtain ⟨a', b', rfl, ha', hb'⟩ := he2 _ rfl; obtain ⟨a1, c1, rfl⟩ := ha'.slice; obtain ⟨a2, c2, rfl⟩ := hb'.slice; obtain ⟨hA3, hA4⟩ := HB0.out _ hb2; obtain ⟨q0, g0⟩ := blk hA3; obtain ⟨q1, g1⟩ := blk hA4)
    refine bodyPost_ret (results_lineE rfl _ _ (w.heap.size + 1) (.int .i64 l'.quote) (.slice a1 l'.lists.length c1) (.int .i64 l'.kind) (.slice a2 l'.cells.length c2) rfl (by simp [heap_set, putIn, hA4])) rfl ?_
    refine ⟨fun l'' h => ?_, fun h => (by cases h), ?_⟩
    · cases h
      exact ⟨_, _, rfl, (SliceR.stable (rdOf_stable _) ha' (by (repeat' (first | (with_reducible exact Keeps.refl _ _) | (with_reducible refine Keeps.set ?_ ?_ _) | (with_reducible refine Keeps.alloc ?_ _) | (with_reducible refine Keeps.drew ?_) | (first | fail) | (simp; omega)))) (fun b h _ => (by have h' := h; (try simp at h'); omega))), (SliceR.stable (rdOf_stable _) hb' (by (repeat' (first | (with_reducible exact Keeps.refl _ _) | (with_reducible refine Keeps.set ?_ ?_ _) | (with_reducible refine Keeps.alloc ?_ _) | (with_reducible refine Keeps.drew ?_) | (first | fail) | (simp; omega)))) (fun b h _ => (by have h' := h; (try simp at h'); omega)))⟩
    · have := H1.out.trans (hb2.mono hs1)
      (repeat' (first | (with_reducible exact Below.refl _ _) | (with_reducible assumption) | (with_reducible refine Below.alloc ?_ ?_ _) | (with_reducible refine Below.drew ?_) | (with_reducible refine drewN_below ?_) | (with_reducible refine Below.setCell ?_ ?_ _) | go_size))
end Go.Proofs.YtpndnbjpnajaaaaGreatDoor
namespace Go.Proofs.YtpndnbjpnajaaaaGreatDoor
open Go.RowKit
open Go.Proofs.Qw
def insertC (cs : List Cel) (p : Nat) (more : List Cel) : List Cel := cs.take p ++ more ++ cs.drop p
theorem cels_from {w : World} {S : Nat → Prop} {a : Option Addr} {n c p : Nat} {xs : List Cel} (h : CelsR false w S (.slice a n c) xs) (hp : p ≤ xs.length) :
    ∃ X, CelsR false w S (.slice X (xs.length - p) (c - p)) (xs.drop p) ∧ ((c = p ∧ a = X) ∨ (¬ c = p ∧ a.map (·.add (p * 3)) = X)) := by
  obtain ⟨_, h2, h3⟩ := h.len
  have := SliceR.part h (i := p) (j := xs.length) (m := c) hp (Nat.le_refl _) h2 (Nat.le_refl _)
  rw [List.take_of_length_le (by rw [List.length_drop]; omega)] at this
  by_cases hcp : c = p
  · exact ⟨a, by simpa only [sliced, if_pos hcp] using this, .inl ⟨hcp, rfl⟩⟩
  · exact ⟨_, by simpa only [sliced, if_neg hcp] using this, .inr ⟨hcp, rfl⟩⟩
set_option maxRecDepth 100000 in
set_option maxHeartbeats 4000000 in
theorem cellsInsert_any (ca vb : Option Addr) (cc vc p : Nat) (cs more : List Cel) (w w0 w1 : World) (S S2 : Nat → Prop) (o1 o2 : Bool) (h' : CelsR o1 w0 S (.slice ca cs.length cc) cs) (hm' : CelsR o2 w1 S2 (.slice vb more.length vc) more)
    (h0 : Below w0.heap.size w0 w) (h1 : Below w1.heap.size w1 w) (hp : p ≤ cs.length) (hs : cs.length ≤ 1000000) (hs2 : more.length ≤ 1000000) :
    Calls Tryz.prog 195 #[.slice ca cs.length cc, .int .i64 p, .slice vb more.length vc] w (CellsSaid (insertC cs p more) 0 w) := by
  have h : CelsR false w (fun _ => True) (.slice ca cs.length cc) cs := SliceR.stable (rdOf_stable _) (SliceR.read (fun _ _ h => h) h') (.all h0) (fun _ _ _ => trivial)
  have hm : CelsR false w (fun _ => True) (.slice vb more.length vc) more := SliceR.stable (rdOf_stable _) (SliceR.read (fun _ _ h => h) hm') (.all h1) (fun _ _ _ => trivial)
  have HC1 := Lib.hid (cellsSpan_any _ cs p p w (fun _ => True) false h)
  have hsp : spanC cs.length p p = true := by unfold spanC; simp; omega
  rw [hsp] at HC1
  obtain ⟨_, hccl, hccm⟩ := h.len
  obtain ⟨X, hX, hcq⟩ := cels_from h hp
  have hHC : ∀ W, Below w.heap.size w W → ∀ g, W.heap[g]? = some (.cells #[.slice ca p cc, .slice vb more.length vc, .slice X (cs.length - p) (cc - p)] 40) → Calls Tryz.prog 193 #[.slice (some ⟨g, 0, none⟩) 3 3] W fun e w' => ∃ v', e = .returned v' ∧ CelsR true w' (fun b => W.heap.size ≤ b) v' (insertC cs p more) ∧ Below W.heap.size W w' := by
    intro W hW g hg
    have ha := (SliceR.below (rdOf_stable _) h hW).take (i := p) hp
    have hb := SliceR.below (rdOf_stable _) hm hW
    have hc := SliceR.below (rdOf_stable _) hX hW
    have := concatCell_any g 3 #[.slice ca p cc, .slice vb more.length vc, .slice X (cs.length - p) (cc - p)] [cs.take p, more, cs.drop p] W (fun _ => True) hg (fun k xs hk => by
      match k, hk with
      | 0, hk => cases hk; exact ⟨_, rfl, ha⟩
      | 1, hk => cases hk; exact ⟨_, rfl, hb⟩
      | 2, hk => cases hk; exact ⟨_, rfl, hc⟩) (by simp [lens]; omega) (by simp) rfl
    simpa [insertC] using this
  have HC := Lib.hid hHC
  have hBd : ∀ X, Below w.heap.size w (w.alloc X).drew := fun X => ((Below.refl _ _).alloc (Nat.le_refl _) X).drew
  unfold maxLen at hccm
  have u0 : (0 : Int) ≤ (p : Int) := Int.natCast_nonneg _
  have u1 : (p : Int) ≤ (cc : Int) := by omega
  have u2 : (p : Int) ≤ (cs.length : Int) := by omega
  clear h hm h' hm' hX hHC hsp
  rcases hcq with ⟨rfl, rfl⟩ | ⟨hcq, rfl⟩
  · rw [Nat.sub_self, show cs.length - cc = 0 by omega] at HC
    go_enter Tryz.func195, Tryz.ntmps195
    go_wp2_with (go_at_call 200; refine HC1.out.mono ?_; rintro e w2 ⟨rfl, rfl⟩)
    go_region_held3 (fun _ => True) (trivial) ((go_at_call 193; refine (HC.out _ (hBd _) _ (heap_new _ _ rfl)).mono ?_; rintro e w5 ⟨v5, rfl, hv5, hb5⟩; obtain ⟨a5, c5, hv5e⟩ := hv5.slice; subst hv5e))
    go_wp2_with fail
    go_ret2
    exact ⟨_, rfl, SliceR.stable (rdOf_stable _) hv5 (Keeps.refl _ _) (fun b h _ => Nat.le_trans (hBd _).size h), below_from (hBd _) hb5⟩
  · skip
    go_enter Tryz.func195, Tryz.ntmps195
    go_wp2_with (go_at_call 200; refine HC1.out.mono ?_; rintro e w2 ⟨rfl, rfl⟩)
    go_region_held3 (fun _ => True) (trivial) ((go_at_call 193; refine (HC.out _ (hBd _) _ (heap_new _ _ rfl)).mono ?_; rintro e w5 ⟨v5, rfl, hv5, hb5⟩; obtain ⟨a5, c5, hv5e⟩ := hv5.slice; subst hv5e))
    go_wp2_with fail
    go_ret2
    exact ⟨_, rfl, SliceR.stable (rdOf_stable _) hv5 (Keeps.refl _ _) (fun b h _ => Nat.le_trans (hBd _).size h), below_from (hBd _) hb5⟩
end Go.Proofs.YtpndnbjpnajaaaaGreatDoor
