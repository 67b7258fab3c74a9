/- What styling tells of a state: styling.open, at, hand, Bits, Has, Mixed, Href. -/
import Derived.Test.YtpndnbjpnajaaaaGreatDoorLawPos
import Derived.Test.YtpndnbjpnajaaaaGreatDoorLineSplit
namespace Go.Proofs.YtpndnbjpnajaaaaGreatDoor
open Go.RowKit
open Go.Proofs.Qw
set_option maxRecDepth 100000 in
set_option maxHeartbeats 4000000 in
theorem styOpen_any (v : Value) (s : St) (w : World) :
    Calls Tryz.prog 75 #[stV v s] w fun e w' => e = .returned (.bool (!decide (s.anc = s.foc))) ∧ Below w.heap.size w w' := by
  obtain ⟨W1, hW1, hB, hz, k0⟩ := one_st w v s
  have HB : Hid (∀ W, Below W1.heap.size W1 W → W.heap[w.heap.size]? = some (.cells #[v, .int .i64 s.anc.line, .int .i64 s.anc.col, .int .i64 s.foc.line, .int .i64 s.foc.col, .int .i64 s.on, .int .i64 s.off] 26)) := Lib.hid fun W hW => heap_below hW k0
  have hs1 := hB.size
  have H1 := Lib.hid hB
  have hw0 : Below W1.heap.size W1 W1 := Below.refl _ _
  have hg := guardPos
  have hq := fun (w : World) => run_neq_pos s.anc s.foc w
  obtain ⟨p0, f0⟩ := blk k0
  generalize decide (s.anc = s.foc) = r at *
  clear k0 hB
  go_enter Tryz.func75, Tryz.ntmps75
  go_wp2_with fail
  go_ret
  exact ⟨rfl, H1.out⟩
theorem place_at {d : Doc} {p : Ps} (h : isD d p = true) : ∃ (i k : Nat) (l : Lin), p.line = i ∧ p.col = k ∧ d[i]? = some l ∧ (d.getD p.line.toNat default).cells = l.cells ∧ p.col.toNat = k ∧ k ≤ l.cells.length := by
  obtain ⟨a, b⟩ := p
  simp only [isD, Bool.and_eq_true, decide_eq_true_eq] at h
  obtain ⟨⟨⟨h1, h2⟩, h3⟩, h4⟩ := h
  obtain ⟨i, rfl⟩ := Int.eq_ofNat_of_zero_le h1
  obtain ⟨k, rfl⟩ := Int.eq_ofNat_of_zero_le h3
  obtain ⟨l, hl, _⟩ := getOf d i (by omega)
  have hg : d.getD i default = l := by rw [List.getD, hl]; rfl
  rw [Int.toNat_natCast] at h4 ⊢
  rw [hg] at h4 ⊢
  exact ⟨i, k, l, rfl, rfl, hl, rfl, Int.toNat_natCast _, by omega⟩
set_option maxRecDepth 100000 in
set_option maxHeartbeats 4000000 in
theorem styAt_any (v : Value) (s : St) (w : World) (S : Nat → Prop) (h : LinsR w S v s.lines) (hf : Fits s.lines) (hc : s.anc = s.foc) (hm : isD s.lines s.anc = true) :
    Calls Tryz.prog 153 #[stV v s] w fun e w' => e = .returned (.tuple #[.agg #[.int .i64 s.anc.line, .int .i64 (withinF (cellsAt s) s.anc.col.toNat).1], .agg #[.int .i64 s.anc.line, .int .i64 (withinF (cellsAt s) s.anc.col.toNat).2]]) ∧ Below w.heap.size w w' := by
  obtain ⟨W1, hW1, hB, hz, k0, k1, k2⟩ := st_pos2 w v s
  have HB : Hid (∀ W, Below W1.heap.size W1 W → W.heap[w.heap.size]? = some (.cells #[v, .int .i64 s.anc.line, .int .i64 s.anc.col, .int .i64 s.foc.line, .int .i64 s.foc.col, .int .i64 s.on, .int .i64 s.off] 26) ∧ W.heap[w.heap.size + 1]? = some (.cells #[.int .i64 0, .int .i64 0] 24) ∧ W.heap[w.heap.size + 2]? = some (.cells #[.int .i64 0, .int .i64 0] 24)) := Lib.hid fun W hW => ⟨heap_below hW k0, heap_below hW k1, heap_below hW k2⟩
  have hs1 := hB.size
  have H1 := Lib.hid hB
  have hw0 : Below W1.heap.size W1 W1 := Below.refl _ _
  have HV : Hid (∀ W, Below W1.heap.size W1 W → LinsR W S v s.lines) := Lib.hid fun W hW => h.below (rdLin_stable _) (hB.trans (hW.mono hs1))
  have HS : Hid (∀ W, Below W1.heap.size W1 W → Calls Tryz.prog 28 #[stV v s] W fun e w' => e = .returned (.tuple #[.agg #[.int .i64 s.anc.line, .int .i64 s.anc.col], .agg #[.int .i64 s.anc.line, .int .i64 s.anc.col]]) ∧ Below W.heap.size W w') := Lib.hid fun W _ => by
    have := stSpan_any v s W
    rw [spanS_closed hc] at this
    exact this
  obtain ⟨i, n, l, hi, hn, hl, hcl, hnn, hnl⟩ := place_at hm
  have hc1 : (withinF (cellsAt s) s.anc.col.toNat) = withinF l.cells n := by unfold cellsAt; rw [hcl, hnn]
  obtain ⟨x, y, hxy⟩ : ∃ x y, withinF l.cells n = (x, y) := ⟨_, _, rfl⟩
  rw [hc1, hxy]
  have HXY := Lib.hid hxy
  have hfl := (hf.2 l (List.mem_of_getElem? hl)).2
  have hil := (List.getElem?_eq_some_iff.1 hl).1
  obtain ⟨va, vc, rfl, hvc, hvm, hx⟩ := lins_shape h
  obtain ⟨b, o, la, lc, ca, cc, rfl, hAt⟩ := hx i l hl
  have HAT : Hid (∀ W, Below W1.heap.size W1 W → LinAt W S b (o + i * 4) l la lc ca cc) := Lib.hid fun W hW => hAt.below (hB.trans (hW.mono hs1))
  unfold maxLen at hvm
  have i0 : (0 : Int) ≤ (i : Int) := Int.natCast_nonneg _
  have i1 : (i : Int) < (s.lines.length : Int) := by omega
  obtain ⟨p0, f0⟩ := blk k0
  obtain ⟨lines, anc, foc, on, off⟩ := s
  obtain ⟨al, ac⟩ := anc
  simp only at hi hn hc
  subst hi hn hc
  clear h hf hm hcl hnn hc1 hxy hl hx hAt k0 k1 k2 hB
  go_enter Tryz.func153, Tryz.ntmps153
  go_wp2_with (go_at_call 28; refine (HS.out _ hw0).mono ?_; rintro e w2 ⟨rfl, hb2⟩; obtain ⟨q0, g0⟩ := blk (HB.out _ hb2).1)
  obtain ⟨w3, hw3⟩ : ∃ w3, (w2.alloc (.cells #[.int .i64 i, .int .i64 n] 24)).alloc (.cells #[.int .i64 i, .int .i64 n] 24) = w3 := ⟨_, rfl⟩
  rw [hw3]
  have hb23 : Below w2.heap.size w2 w3 := hw3 ▸ ((Below.refl _ _).alloc (Nat.le_refl _) _).alloc (by simp) _
  have n3 : w3.heap[w2.heap.size]? = some (.cells #[.int .i64 i, .int .i64 n] 24) := hw3 ▸ heap_old _ _ (heap_new _ _ rfl)
  have hb3 := below_from hb2 hb23
  have HB3 : Hid (∀ W, Below w3.heap.size w3 W → W.heap[w2.heap.size]? = some (.cells #[.int .i64 i, .int .i64 n] 24)) := Lib.hid fun W hW => heap_below hW n3
  have HWi : Hid (∀ W, Below w3.heap.size w3 W → Calls Tryz.prog 207 #[.slice ca l.cells.length cc, .int .i64 n] W fun e w' => e = .returned (.tuple #[.int .i64 x, .int .i64 y]) ∧ Below W.heap.size W w') := Lib.hid fun W hW => by
    have := within_any _ l.cells n W S (HAT.out W (below_from hb3 hW)).cellsR hnl hfl
    rw [HXY.out] at this
    exact this
  clear n3 q0 g0 p0 f0 hw3
  refine wp_region_grew w3.heap.size (by kernel_rfl) (by kernel_rfl) ?_
  refine BigFrame.wpQuiet_want (by kernel_rfl) (fun K hK => ?_)
  refine quiet_val ?_ (fun W hW => ?_) (hK _ ?_)
  rotate_left 1
  · skip
    go_simp
    try rfl
  clear hK
  clear K
  try simp only [Act.put, List.setIfInBounds_toArray, List.set_cons_zero, List.set_cons_succ]
  refine BigFrame.wpQuiet_want (by kernel_rfl) (fun K hK => ?_)
  refine quiet_val ?_ (fun W hW => ?_) (hK _ ?_)
  rotate_left 1
  · skip
    obtain ⟨p0, f0⟩ := blk (HB.out _ (below_from hb3 hW)).1
    obtain ⟨p3, f3⟩ := blk (HB3.out _ hW)
    obtain ⟨_, _, _, _, c3, _, _⟩ := HAT.out _ (below_from hb3 hW)
    go_simp
    try rfl
  clear hK
  clear K
  try simp only [Act.put, List.setIfInBounds_toArray, List.set_cons_zero, List.set_cons_succ]
  refine BigFrame.wpQuiet_want (by kernel_rfl) (fun K hK => ?_)
  refine quiet_val ?_ (fun W hW => ?_) (hK _ ?_)
  rotate_left 1
  · skip
    go_simp
    try rfl
  clear hK
  clear K
  try simp only [Act.put, List.setIfInBounds_toArray, List.set_cons_zero, List.set_cons_succ]
  refine BigFrame.wpQuiet_want (by kernel_rfl) (fun K hK => ?_)
  refine quiet_val ?_ (fun W hW => ?_) (hK _ ?_)
  rotate_left 1
  · skip
    obtain ⟨p0, f0⟩ := blk (HB.out _ (below_from hb3 hW)).1
    obtain ⟨p3, f3⟩ := blk (HB3.out _ hW)
    obtain ⟨_, _, _, _, c3, _, _⟩ := HAT.out _ (below_from hb3 hW)
    go_simp
    try rfl
  clear hK
  clear K
  try simp only [Act.put, List.setIfInBounds_toArray, List.set_cons_zero, List.set_cons_succ]
  refine BigFrame.wpQuiet_want (by kernel_rfl) (fun K hK => ?_)
  refine quiet_val ?_ (fun W hW => ?_) (hK _ ?_)
  rotate_left 1
  · skip
    go_simp
    try rfl
  clear hK
  clear K
  try simp only [Act.put, List.setIfInBounds_toArray, List.set_cons_zero, List.set_cons_succ]
  refine BigFrame.wpQuiet_want (by kernel_rfl) (fun K hK => ?_)
  refine quiet_val ?_ (fun W hW => ?_) (hK _ ?_)
  rotate_left 1
  · skip
    go_simp
    try rfl
  clear hK
  clear K
  try simp only [Act.put, List.setIfInBounds_toArray, List.set_cons_zero, List.set_cons_succ]
  refine BigFrame.wpQuiet_want (by kernel_rfl) (fun K hK => ?_)
  refine quiet_val ?_ (fun W hW => ?_) (hK _ ?_)
  rotate_left 1
  · skip
    obtain ⟨p0, f0⟩ := blk (HB.out _ (below_from hb3 hW)).1
    obtain ⟨p3, f3⟩ := blk (HB3.out _ hW)
    obtain ⟨_, _, _, _, c3, _, _⟩ := HAT.out _ (below_from hb3 hW)
    go_simp
    try rfl
  clear hK
  clear K
  try simp only [Act.put, List.setIfInBounds_toArray, List.set_cons_zero, List.set_cons_succ]
  refine BigFrame.wpQuiet_want (by kernel_rfl) (fun K hK => ?_)
  refine quiet_val ?_ (fun W hW => ?_) (hK _ ?_)
  rotate_left 1
  · skip
    go_simp
    try rfl
  clear hK
  clear K
  try simp only [Act.put, List.setIfInBounds_toArray, List.set_cons_zero, List.set_cons_succ]
  refine BigFrame.wpQuiet_want (by kernel_rfl) (fun K hK => ?_)
  refine quiet_val ?_ (fun W hW => ?_) (hK _ ?_)
  rotate_left 1
  · skip
    obtain ⟨p0, f0⟩ := blk (HB.out _ (below_from hb3 hW)).1
    obtain ⟨p3, f3⟩ := blk (HB3.out _ hW)
    obtain ⟨_, _, _, _, c3, _, _⟩ := HAT.out _ (below_from hb3 hW)
    go_simp
    try rfl
  clear hK
  clear K
  try simp only [Act.put, List.setIfInBounds_toArray, List.set_cons_zero, List.set_cons_succ]
  refine BigFrame.wpQuiet_want (by kernel_rfl) (fun K hK => ?_)
  refine quiet_calls (f := ?_) (args := ?_) ?_ (fun W hW => ?_) (fun W hW => ?_) (hK _ ?_)
  rotate_left 3
  · go_simp
    constructor <;> rfl
  · refine (HWi.out _ hW).mono ?_
    rintro e W2 ⟨rfl, hbW⟩
    refine ⟨?_, below_from hW hbW⟩
    rfl
  clear hK
  clear K
  try simp only [Act.put, List.setIfInBounds_toArray, List.set_cons_zero, List.set_cons_succ]
  refine BigFrame.wpQuiet_want (by kernel_rfl) (fun K hK => ?_)
  refine quiet_val ?_ (fun W hW => ?_) (hK _ ?_)
  rotate_left 1
  · skip
    go_simp
    try rfl
  clear hK
  clear K
  try simp only [Act.put, List.setIfInBounds_toArray, List.set_cons_zero, List.set_cons_succ]
  refine BigFrame.wpQuiet_want (by kernel_rfl) (fun K hK => ?_)
  refine quiet_val ?_ (fun W hW => ?_) (hK _ ?_)
  rotate_left 1
  · skip
    go_simp
    try rfl
  clear hK
  clear K
  try simp only [Act.put, List.setIfInBounds_toArray, List.set_cons_zero, List.set_cons_succ]
  refine BigFrame.wpQuiet_want (by kernel_rfl) (fun K hK => ?_)
  refine quiet_val ?_ (fun W hW => ?_) (hK _ ?_)
  rotate_left 1
  · skip
    go_simp
    try rfl
  clear hK
  clear K
  try simp only [Act.put, List.setIfInBounds_toArray, List.set_cons_zero, List.set_cons_succ]
  refine BigFrame.wpQuiet_want (by kernel_rfl) (fun K hK => ?_)
  refine quiet_val ?_ (fun W hW => ?_) (hK _ ?_)
  rotate_left 1
  · skip
    go_simp
    try rfl
  clear hK
  clear K
  try simp only [Act.put, List.setIfInBounds_toArray, List.set_cons_zero, List.set_cons_succ]
  refine BigFrame.wpQuiet_want (by kernel_rfl) (fun K hK => ?_)
  refine quiet_val ?_ (fun W hW => ?_) (hK _ ?_)
  rotate_left 1
  · skip
    go_simp
    try rfl
  clear hK
  clear K
  try simp only [Act.put, List.setIfInBounds_toArray, List.set_cons_zero, List.set_cons_succ]
  refine wpQuiet_nil (fun X6 hstX6 => ?_)
  have hcX6 := below_from hb3 hstX6
  obtain ⟨p3, f3⟩ := blk (HB3.out _ hstX6)
  obtain ⟨p1, f1⟩ := blk (HB.out _ hcX6).2.1
  obtain ⟨p2, f2⟩ := blk (HB.out _ hcX6).2.2
  go_wp2_with fail
  have hs2 := hb2.size
  have e1 : ¬ w.heap.size + 1 = w2.heap.size := by omega
  have e2 : ¬ w2.heap.size = w.heap.size + 1 := by omega
  have e3 : ¬ w.heap.size + 1 + 1 = w2.heap.size := by omega
  have e4 : ¬ w2.heap.size = w.heap.size + 1 + 1 := by omega
  go_region
  go_wp2_with fail
  refine bodyPost_ret (results_two_pos rfl _ _ (w.heap.size + 1) (w.heap.size + 2) (.int .i64 i) (.int .i64 x) (.int .i64 i) (.int .i64 y) rfl rfl (by change (World.setCell _ _ _).heap[_]? = _; simp [heap_set, putIn, (HB.out _ hcX6).2.1]) (by change (World.setCell _ _ _).heap[_]? = _; simp [heap_set, putIn, (HB.out _ hcX6).2.2])) rfl ?_
  have hfin := H1.out.trans (hcX6.mono hs1)
  exact ⟨rfl, by (repeat' (first | (with_reducible exact Below.refl _ _) | (with_reducible assumption) | (with_reducible refine Below.alloc ?_ ?_ _) | (with_reducible refine Below.drew ?_) | (with_reducible refine drewN_below ?_) | (with_reducible refine Below.setCell ?_ ?_ _) | go_size))⟩
set_option maxRecDepth 100000 in
set_option maxHeartbeats 4000000 in
theorem styHand_any (v : Value) (s : St) (w : World) (S : Nat → Prop) (h : LinsR w S v s.lines) (hf : Fits s.lines) (hm : isD s.lines s.anc = true) :
    Calls Tryz.prog 84 #[stV v s] w fun e w' => e = .returned (.tuple #[.agg #[.int .i64 (handS s).1.line, .int .i64 (handS s).1.col], .agg #[.int .i64 (handS s).2.line, .int .i64 (handS s).2.col]]) ∧ Below w.heap.size w w' := by
  obtain ⟨W1, hW1, hB, hz, k0, k1, k2⟩ := st_pos2 w v s
  have HB : Hid (∀ W, Below W1.heap.size W1 W → W.heap[w.heap.size]? = some (.cells #[v, .int .i64 s.anc.line, .int .i64 s.anc.col, .int .i64 s.foc.line, .int .i64 s.foc.col, .int .i64 s.on, .int .i64 s.off] 26) ∧ W.heap[w.heap.size + 1]? = some (.cells #[.int .i64 0, .int .i64 0] 24) ∧ W.heap[w.heap.size + 2]? = some (.cells #[.int .i64 0, .int .i64 0] 24)) := Lib.hid fun W hW => ⟨heap_below hW k0, heap_below hW k1, heap_below hW k2⟩
  have hs1 := hB.size
  have H1 := Lib.hid hB
  have hw0 : Below W1.heap.size W1 W1 := Below.refl _ _
  have HV : Hid (∀ W, Below W1.heap.size W1 W → LinsR W S v s.lines) := Lib.hid fun W hW => h.below (rdLin_stable _) (hB.trans (hW.mono hs1))
  have HO : Hid (∀ W, Below W1.heap.size W1 W → Calls Tryz.prog 75 #[stV v s] W fun e w' => e = .returned (.bool (!decide (s.anc = s.foc))) ∧ Below W.heap.size W w') := Lib.hid fun W _ => styOpen_any v s W
  have HS : Hid (∀ W, Below W1.heap.size W1 W → Calls Tryz.prog 28 #[stV v s] W fun e w' => e = .returned (.tuple #[.agg #[.int .i64 (spanS s).1.line, .int .i64 (spanS s).1.col], .agg #[.int .i64 (spanS s).2.line, .int .i64 (spanS s).2.col]]) ∧ Below W.heap.size W w') := Lib.hid fun W _ => stSpan_any v s W
  have HA : Hid (s.anc = s.foc → ∀ W, Below W1.heap.size W1 W → Calls Tryz.prog 153 #[stV v s] W fun e w' => e = .returned (.tuple #[.agg #[.int .i64 s.anc.line, .int .i64 (withinF (cellsAt s) s.anc.col.toNat).1], .agg #[.int .i64 s.anc.line, .int .i64 (withinF (cellsAt s) s.anc.col.toNat).2]]) ∧ Below W.heap.size W w') := Lib.hid fun hc W hW => styAt_any v s W S (HV.out W hW) hf hc hm
  have HR : Hid (handS s = if s.anc = s.foc then (⟨s.anc.line, ((withinF (cellsAt s) s.anc.col.toNat).1 : Int)⟩, ⟨s.anc.line, ((withinF (cellsAt s) s.anc.col.toNat).2 : Int)⟩) else spanS s) := Lib.hid rfl
  obtain ⟨p0, f0⟩ := blk k0
  obtain ⟨va, vc, rfl⟩ := h.slice
  clear h hf hm HV k0 k1 k2 hB
  by_cases hc : s.anc = s.foc
  · skip
    rw [if_pos hc] at HR
    rw [decide_eq_true hc] at HO
    have HA := Lib.hid (HA.out hc)
    obtain ⟨x, hx⟩ : ∃ x, (withinF (cellsAt s) s.anc.col.toNat) = x := ⟨_, rfl⟩
    rw [hx] at HR HA
    clear hx HS
    have HR := Lib.hid HR.out
    clear hc
    go_enter Tryz.func84, Tryz.ntmps84
    go_wp2_with (first | (go_at_call 75; refine (HO.out _ hw0).mono ?_; rintro e w2 ⟨rfl, hb2⟩; obtain ⟨q0, g0⟩ := blk (HB.out _ hb2).1) | (go_at_call 153; refine (HA.out _ hb2).mono ?_; rintro e w3 ⟨rfl, hst3⟩; have hb3 := below_from hb2 hst3; obtain ⟨q1, g1⟩ := blk (HB.out _ hb3).2.1; obtain ⟨q2, g2⟩ := blk (HB.out _ hb3).2.2))
    refine bodyPost_ret (results_two_pos rfl _ _ (w.heap.size + 1) (w.heap.size + 2) (.int .i64 s.anc.line) (.int .i64 x.1) (.int .i64 s.anc.line) (.int .i64 x.2) rfl rfl (by simp [heap_set, putIn, (HB.out _ hb3).2.1]) (by simp [heap_set, putIn, (HB.out _ hb3).2.2])) rfl ?_
    rw [HR.out]
    have hfin := H1.out.trans (hb3.mono hs1)
    exact ⟨rfl, by (repeat' (first | (with_reducible exact Below.refl _ _) | (with_reducible assumption) | (with_reducible refine Below.alloc ?_ ?_ _) | (with_reducible refine Below.drew ?_) | (with_reducible refine drewN_below ?_) | (with_reducible refine Below.setCell ?_ ?_ _) | go_size))⟩
  · skip
    rw [if_neg hc] at HR
    rw [decide_eq_false hc] at HO
    obtain ⟨x, hx⟩ : ∃ x, spanS s = x := ⟨_, rfl⟩
    rw [hx] at HR HS
    clear hx HA
    have HR := Lib.hid HR.out
    clear hc
    go_enter Tryz.func84, Tryz.ntmps84
    go_wp2_with (first | (go_at_call 75; refine (HO.out _ hw0).mono ?_; rintro e w2 ⟨rfl, hb2⟩; obtain ⟨q0, g0⟩ := blk (HB.out _ hb2).1) | (go_at_call 28; refine (HS.out _ hb2).mono ?_; rintro e w3 ⟨rfl, hst3⟩; have hb3 := below_from hb2 hst3; obtain ⟨q1, g1⟩ := blk (HB.out _ hb3).2.1; obtain ⟨q2, g2⟩ := blk (HB.out _ hb3).2.2))
    refine bodyPost_ret (results_two_pos rfl _ _ (w.heap.size + 1) (w.heap.size + 2) (.int .i64 x.1.line) (.int .i64 x.1.col) (.int .i64 x.2.line) (.int .i64 x.2.col) rfl rfl (by simp [heap_set, putIn, (HB.out _ hb3).2.1]) (by simp [heap_set, putIn, (HB.out _ hb3).2.2])) rfl ?_
    rw [HR.out]
    have hfin := H1.out.trans (hb3.mono hs1)
    exact ⟨rfl, by (repeat' (first | (with_reducible exact Below.refl _ _) | (with_reducible assumption) | (with_reducible refine Below.alloc ?_ ?_ _) | (with_reducible refine Below.drew ?_) | (with_reducible refine drewN_below ?_) | (with_reducible refine Below.setCell ?_ ?_ _) | go_size))⟩
end Go.Proofs.YtpndnbjpnajaaaaGreatDoor
namespace Go.Proofs.YtpndnbjpnajaaaaGreatDoor
open Go.RowKit
open Go.Proofs.Qw
attribute [local go_sem] Oper.semAt_some
theorem st_on2 {w : World} {B : Nat} {cs : Array Value} {t : TypeId} (h : w.heap[B]? = some (.cells cs t)) : ∀ X Y k, ((w.alloc X).alloc Y).cell? ⟨B, k, none⟩ = cs[k]? := fun X Y _ => cell_of_heap (heap_old _ Y (heap_old _ X h))
def BI (w : World) (Ba Bn Z : Nat) (pre : List Cel) (W : World) : Prop :=
  Boxed W Ba 3 (.int .i64 (andB pre)) ∧ Boxed W Bn 3 (.int .i64 pre.length) ∧ Below w.heap.size w W ∧ Z ≤ W.heap.size
theorem bi_own {w : World} {Ba Bn Z B : Nat} (hB : w.heap.size ≤ B) : OwnFrom B (BI w Ba Bn Z) :=
  OwnFrom.and (Own.from (boxed_own _ _ (fun pre : List Cel => .int .i64 (andB pre))) _) (OwnFrom.and (Own.from (boxed_own _ _ (fun pre : List Cel => .int .i64 pre.length)) _) (OwnFrom.and (ownFrom_below (Nat.le_refl _) hB) (ownFrom_size _ _)))
theorem all_count' (d : List Cel) (t : Int) : (decide (0 < d.length) && decide (d.countP (fun x => bits .and .i64 x.bits t == t) = d.length)) = allL d t := by
  rw [Bool.eq_iff_iff]
  simp only [allL, Bool.and_eq_true, decide_eq_true_eq, List.all_eq_true, List.countP_eq_length]
theorem any_count' (d : List Cel) (t : Int) : decide (0 < d.countP (fun x => bits .and .i64 x.bits t != 0)) = someL d t := by
  rw [Bool.eq_iff_iff]
  simp only [someL, decide_eq_true_eq, List.any_eq_true, List.countP_pos_iff]
theorem andB_snoc (l : List Cel) (x : Cel) : andB (l ++ [x]) = bits .and .i64 (andB l) x.bits := by simp [andB]
set_option maxRecDepth 100000 in
set_option maxHeartbeats 4000000 in
theorem styBits_any (v : Value) (s : St) (w : World) (S : Nat → Prop) (h : LinsR w S v s.lines) (he : EnvT w) (hs : Small s.lines) (hf : Fits s.lines) :
    Calls Tryz.prog 19 #[stV v s] w fun e w' => e = .returned (.int .i64 (bitsS s)) ∧ Below w.heap.size w w' := by
  obtain ⟨W1, hW1, hB, hz, k0⟩ := one_st w v s
  have HB : Hid (∀ W, Below W1.heap.size W1 W → W.heap[w.heap.size]? = some (.cells #[v, .int .i64 s.anc.line, .int .i64 s.anc.col, .int .i64 s.foc.line, .int .i64 s.foc.col, .int .i64 s.on, .int .i64 s.off] 26)) := Lib.hid fun W hW => heap_below hW k0
  have hs1 := hB.size
  have H1 := Lib.hid hB
  have hw0 : Below W1.heap.size W1 W1 := Below.refl _ _
  have HV : Hid (∀ W, Below W1.heap.size W1 W → LinsR W S v s.lines) := Lib.hid fun W hW => h.below (rdLin_stable _) (hB.trans (hW.mono hs1))
  have HE : Hid (∀ W, Below W1.heap.size W1 W → EnvT W) := Lib.hid fun W hW => (he.below hB).below hW
  have HM : Hid (∀ W, Below W1.heap.size W1 W → Calls Tryz.prog 27 #[stV v s] W fun e w' => e = .returned (.bool (mayS s)) ∧ Below W.heap.size W w') := Lib.hid fun W hW => stMay_any v s W S (HV.out W hW) (HE.out W hW) hs
  have HSp : Hid (∀ W, Below W1.heap.size W1 W → Calls Tryz.prog 28 #[stV v s] W fun e w' => e = .returned (.tuple #[.agg #[.int .i64 (spanS s).1.line, .int .i64 (spanS s).1.col], .agg #[.int .i64 (spanS s).2.line, .int .i64 (spanS s).2.col]]) ∧ Below W.heap.size W w') := Lib.hid fun W _ => stSpan_any v s W
  have HO : Hid (∀ W, Below W1.heap.size W1 W → Calls Tryz.prog 75 #[stV v s] W fun e w' => e = .returned (.bool (!decide (s.anc = s.foc))) ∧ Below W.heap.size W w') := Lib.hid fun W _ => styOpen_any v s W
  have HVF := Lib.hid (And.intro h (And.intro he (And.intro hs hf)))
  have hbs : bitsS s = if mayS s = true then (if s.anc = s.foc then bits .or .i64 (bits .andNot .i64 (aroundF (cellsAt s) s.anc.col.toNat).1 s.off) s.on else bitsL (selS s)) else 0 := rfl
  have HR := Lib.hid hbs
  clear hbs
  cases hm : mayS s
  · rw [hm] at HM HR
    have HR : Hid (bitsS s = 0) := Lib.hid (HR.out.trans (if_neg (by simp)))
    obtain ⟨p0, f0⟩ := blk k0
    obtain ⟨va, vc, rfl⟩ := h.slice
    clear h he hs hf k0 hB hm HSp HO HVF
    go_enter Tryz.func19, Tryz.ntmps19
    go_wp2_with (go_at_call 27; refine (HM.out _ hw0).mono ?_; rintro e w2 ⟨rfl, hb2⟩)
    go_ret
    rw [HR.out]
    exact ⟨rfl, H1.out.trans (hb2.mono hs1)⟩
  by_cases hc : s.anc = s.foc
  · rw [hm] at HM HR
    rw [if_pos rfl, if_pos hc] at HR
    rw [decide_eq_true hc] at HO
    rw [spanS_closed hc] at HSp
    have HR := Lib.hid HR.out
    obtain ⟨i, n, l, hi, hn, hl, hcl, hnn, hnl⟩ := place_at (mayS_at hm).2.1
    have hc1 : (aroundF (cellsAt s) s.anc.col.toNat) = aroundF l.cells n := by unfold cellsAt; rw [hcl, hnn]
    obtain ⟨x, y, hxy⟩ : ∃ x y, aroundF l.cells n = (x, y) := ⟨_, _, rfl⟩
    rw [hc1, hxy] at HR
    have HXY := Lib.hid hxy
    have hil := (List.getElem?_eq_some_iff.1 hl).1
    obtain ⟨va, vc, rfl, hvc, hvm, hx⟩ := lins_shape h
    obtain ⟨b, o, la, lc, ca, cc, rfl, hAt⟩ := hx i l hl
    have HAT : Hid (∀ W, Below W1.heap.size W1 W → LinAt W S b (o + i * 4) l la lc ca cc) := Lib.hid fun W hW => hAt.below (hB.trans (hW.mono hs1))
    unfold maxLen at hvm
    have i0 : (0 : Int) ≤ (i : Int) := Int.natCast_nonneg _
    have i1 : (i : Int) < (s.lines.length : Int) := by omega
    obtain ⟨p0, f0⟩ := blk k0
    obtain ⟨r, hr⟩ : ∃ r, bitsS s = r := ⟨_, rfl⟩
    rw [hr] at HR ⊢
    clear hr
    obtain ⟨lines, anc, foc, on, off⟩ := s
    obtain ⟨al, ac⟩ := anc
    simp only at hi hn hc
    subst hi hn hc
    clear h he hs hf hm hcl hnn hc1 hxy hl hx hAt k0 hB HVF
    go_enter Tryz.func19, Tryz.ntmps19
    go_wp2_with (first | (go_at_call 27; refine (HM.out _ hw0).mono ?_; rintro e w2 ⟨rfl, hb2⟩; obtain ⟨q0, g0⟩ := blk (HB.out _ hb2)) | (go_at_call 28; refine (HSp.out _ hb2).mono ?_; rintro e w3 ⟨rfl, hst3⟩; have hb3 := below_from hb2 hst3; obtain ⟨q1, g1⟩ := blk (HB.out _ hb3); have e3 : ¬ w3.heap.size = w.heap.size := (by have := hb3.size; omega); have HA3 : Hid (∀ X Y, Below W1.heap.size W1 ((w3.alloc X).alloc Y)) := Lib.hid fun X Y => (hb3.alloc hb3.size X).alloc (by have := hb3.size; simp; omega) Y; have r1 := st_on2 (HB.out _ hb3)) | (go_at_call 75; refine (HO.out _ (HA3.out _ _)).mono ?_; rintro e w4 ⟨rfl, hst4⟩))
    have hb4 := below_from (HA3.out _ _) hst4
    have n3 : w4.heap[w3.heap.size]? = some (.cells #[.int .i64 i, .int .i64 n] 24) := heap_below hst4 (heap_old _ _ (heap_new _ _ rfl))
    have HB4 : Hid (∀ W, Below w4.heap.size w4 W → W.heap[w3.heap.size]? = some (.cells #[.int .i64 i, .int .i64 n] 24)) := Lib.hid fun W hW => heap_below hW n3
    have HAr : Hid (∀ W, Below w4.heap.size w4 W → Calls Tryz.prog 76 #[.slice ca l.cells.length cc, .int .i64 n] W fun e w' => e = .returned (.tuple #[.int .i64 x, .string ⟨y.toArray⟩]) ∧ Below W.heap.size W w') := Lib.hid fun W hW => by
      have := around_any _ l.cells n W S (HAT.out W (below_from hb4 hW)).cellsR hnl
      rw [HXY.out] at this
      exact this
    try clear n3 q0 g0 p0 f0 q1 g1 r1
    refine wp_region_grew w4.heap.size (by kernel_rfl) (by kernel_rfl) ?_
    refine BigFrame.wpQuiet_want (by kernel_rfl) (fun K hK => ?_)
    refine quiet_val ?_ (fun W hW => ?_) (hK _ ?_)
    rotate_left 1
    · skip
      go_simp
      try rfl
    clear hK
    clear K
    try simp only [Act.put, List.setIfInBounds_toArray, List.set_cons_zero, List.set_cons_succ]
    refine BigFrame.wpQuiet_want (by kernel_rfl) (fun K hK => ?_)
    refine quiet_val ?_ (fun W hW => ?_) (hK _ ?_)
    rotate_left 1
    · skip
      obtain ⟨p0, f0⟩ := blk (HB.out _ (below_from hb4 hW))
      obtain ⟨p3, f3⟩ := blk (HB4.out _ hW)
      obtain ⟨_, _, _, _, c3, _, _⟩ := HAT.out _ (below_from hb4 hW)
      go_simp
      try rfl
    clear hK
    clear K
    try simp only [Act.put, List.setIfInBounds_toArray, List.set_cons_zero, List.set_cons_succ]
    refine BigFrame.wpQuiet_want (by kernel_rfl) (fun K hK => ?_)
    refine quiet_val ?_ (fun W hW => ?_) (hK _ ?_)
    rotate_left 1
    · skip
      go_simp
      try rfl
    clear hK
    clear K
    try simp only [Act.put, List.setIfInBounds_toArray, List.set_cons_zero, List.set_cons_succ]
    refine BigFrame.wpQuiet_want (by kernel_rfl) (fun K hK => ?_)
    refine quiet_val ?_ (fun W hW => ?_) (hK _ ?_)
    rotate_left 1
    · skip
      obtain ⟨p0, f0⟩ := blk (HB.out _ (below_from hb4 hW))
      obtain ⟨p3, f3⟩ := blk (HB4.out _ hW)
      obtain ⟨_, _, _, _, c3, _, _⟩ := HAT.out _ (below_from hb4 hW)
      go_simp
      try rfl
    clear hK
    clear K
    try simp only [Act.put, List.setIfInBounds_toArray, List.set_cons_zero, List.set_cons_succ]
    refine BigFrame.wpQuiet_want (by kernel_rfl) (fun K hK => ?_)
    refine quiet_val ?_ (fun W hW => ?_) (hK _ ?_)
    rotate_left 1
    · skip
      go_simp
      try rfl
    clear hK
    clear K
    try simp only [Act.put, List.setIfInBounds_toArray, List.set_cons_zero, List.set_cons_succ]
    refine BigFrame.wpQuiet_want (by kernel_rfl) (fun K hK => ?_)
    refine quiet_val ?_ (fun W hW => ?_) (hK _ ?_)
    rotate_left 1
    · skip
      go_simp
      try rfl
    clear hK
    clear K
    try simp only [Act.put, List.setIfInBounds_toArray, List.set_cons_zero, List.set_cons_succ]
    refine BigFrame.wpQuiet_want (by kernel_rfl) (fun K hK => ?_)
    refine quiet_val ?_ (fun W hW => ?_) (hK _ ?_)
    rotate_left 1
    · skip
      obtain ⟨p0, f0⟩ := blk (HB.out _ (below_from hb4 hW))
      obtain ⟨p3, f3⟩ := blk (HB4.out _ hW)
      obtain ⟨_, _, _, _, c3, _, _⟩ := HAT.out _ (below_from hb4 hW)
      go_simp
      try rfl
    clear hK
    clear K
    try simp only [Act.put, List.setIfInBounds_toArray, List.set_cons_zero, List.set_cons_succ]
    refine BigFrame.wpQuiet_want (by kernel_rfl) (fun K hK => ?_)
    refine quiet_val ?_ (fun W hW => ?_) (hK _ ?_)
    rotate_left 1
    · skip
      go_simp
      try rfl
    clear hK
    clear K
    try simp only [Act.put, List.setIfInBounds_toArray, List.set_cons_zero, List.set_cons_succ]
    refine BigFrame.wpQuiet_want (by kernel_rfl) (fun K hK => ?_)
    refine quiet_val ?_ (fun W hW => ?_) (hK _ ?_)
    rotate_left 1
    · skip
      obtain ⟨p0, f0⟩ := blk (HB.out _ (below_from hb4 hW))
      obtain ⟨p3, f3⟩ := blk (HB4.out _ hW)
      obtain ⟨_, _, _, _, c3, _, _⟩ := HAT.out _ (below_from hb4 hW)
      go_simp
      try rfl
    clear hK
    clear K
    try simp only [Act.put, List.setIfInBounds_toArray, List.set_cons_zero, List.set_cons_succ]
    refine BigFrame.wpQuiet_want (by kernel_rfl) (fun K hK => ?_)
    refine quiet_calls (f := ?_) (args := ?_) ?_ (fun W hW => ?_) (fun W hW => ?_) (hK _ ?_)
    rotate_left 3
    · go_simp
      constructor <;> rfl
    · refine (HAr.out _ hW).mono ?_
      rintro e W2 ⟨rfl, hbW⟩
      refine ⟨?_, below_from hW hbW⟩
      rfl
    clear hK
    clear K
    try simp only [Act.put, List.setIfInBounds_toArray, List.set_cons_zero, List.set_cons_succ]
    refine BigFrame.wpQuiet_want (by kernel_rfl) (fun K hK => ?_)
    refine quiet_val ?_ (fun W hW => ?_) (hK _ ?_)
    rotate_left 1
    · skip
      go_simp
      try rfl
    clear hK
    clear K
    try simp only [Act.put, List.setIfInBounds_toArray, List.set_cons_zero, List.set_cons_succ]
    refine BigFrame.wpQuiet_want (by kernel_rfl) (fun K hK => ?_)
    refine quiet_val ?_ (fun W hW => ?_) (hK _ ?_)
    rotate_left 1
    · skip
      go_simp
      try rfl
    clear hK
    clear K
    try simp only [Act.put, List.setIfInBounds_toArray, List.set_cons_zero, List.set_cons_succ]
    refine BigFrame.wpQuiet_want (by kernel_rfl) (fun K hK => ?_)
    refine quiet_val ?_ (fun W hW => ?_) (hK _ ?_)
    rotate_left 1
    · skip
      go_simp
      try rfl
    clear hK
    clear K
    try simp only [Act.put, List.setIfInBounds_toArray, List.set_cons_zero, List.set_cons_succ]
    refine BigFrame.wpQuiet_want (by kernel_rfl) (fun K hK => ?_)
    refine quiet_val ?_ (fun W hW => ?_) (hK _ ?_)
    rotate_left 1
    · skip
      go_simp
      try rfl
    clear hK
    clear K
    try simp only [Act.put, List.setIfInBounds_toArray, List.set_cons_zero, List.set_cons_succ]
    refine BigFrame.wpQuiet_want (by kernel_rfl) (fun K hK => ?_)
    refine quiet_val ?_ (fun W hW => ?_) (hK _ ?_)
    rotate_left 1
    · skip
      go_simp
      try rfl
    clear hK
    clear K
    try simp only [Act.put, List.setIfInBounds_toArray, List.set_cons_zero, List.set_cons_succ]
    refine wpQuiet_nil (fun X6 hstX6 => ?_)
    have hcX6 := below_from hb4 hstX6
    obtain ⟨p0, f0⟩ := blk (HB.out _ hcX6)
    go_wp2_with fail
    go_ret
    rw [HR.out]
    exact ⟨rfl, H1.out.trans (hcX6.mono hs1)⟩
  · rw [hm] at HM HR
    rw [if_pos rfl, if_neg hc] at HR
    rw [decide_eq_false hc] at HO
    have HR := Lib.hid HR.out
    obtain ⟨A, B, hAB⟩ : ∃ A B, spanS s = (A, B) := ⟨_, _, rfl⟩
    have hsel : selS s = cellsD s.lines A B := by unfold selS; rw [hAB]
    rw [hsel] at HR
    rw [hAB] at HSp
    have HVF := HVF
    have hL : (cellsD s.lines A B).length ≤ 100000 := Nat.le_trans (cellsD_size _ _ _) hs.1
    have HL := Lib.hid hL
    obtain ⟨p0, f0⟩ := blk k0
    obtain ⟨va, vc, rfl⟩ := h.slice
    clear h he hs hf hm hc hAB hsel hL k0 hB
    refine (callsIn_wide (n := 6)).1 ?_
    refine callsIn_of_wp_marks Tryz.func19 rfl trivial ?_ rfl
    simp only [Tryz.ntmps19, List.size_toArray, List.length_cons, List.length_nil, Nat.reduceAdd, Nat.reduceSub, Array.replicate_succ, Array.replicate_zero, List.push_toArray, List.append_toArray, List.nil_append, List.cons_append]
    have hwf : ∀ f, Fence.wide.fn f := fun _ => trivial
    have hwd : Fence.wide.depth = none := rfl
    gi_wp2_with (first
      | (gi_at_call 27; refine (callsIn_wide.2 (HM.out _ hw0)).mono ?_; rintro e w2 ⟨rfl, hb2⟩; obtain ⟨q0, g0⟩ := blk (HB.out _ hb2))
      | (gi_at_call 28; refine (callsIn_wide.2 (HSp.out _ hb2)).mono ?_; rintro e w3 ⟨rfl, hst3⟩; have hb3 := below_from hb2 hst3; obtain ⟨q1, g1⟩ := blk (HB.out _ hb3); have HA3 : Hid (∀ X Y, Below W1.heap.size W1 ((w3.alloc X).alloc Y)) := Lib.hid fun X Y => (hb3.alloc hb3.size X).alloc (by have := hb3.size; simp; omega) Y; have hz3 := hb3.size; have e3 : ¬ w3.heap.size = w.heap.size := (by omega); have r1 := st_on2 (HB.out _ hb3))
      | (gi_at_call 75; refine (callsIn_wide.2 (HO.out _ (HA3.out _ _))).mono ?_; rintro e w4 ⟨rfl, hst4⟩; have hb4 := below_from (HA3.out _ _) hst4; obtain ⟨q2, g2⟩ := blk (HB.out _ hb4); have n3 := heap_below hst4 (heap_old _ (.cells #[.int .i64 B.line, .int .i64 B.col] 24) (heap_new w3 (.cells #[.int .i64 A.line, .int .i64 A.col] 24) rfl)); have n4 := heap_below hst4 (heap_new (w3.alloc (.cells #[.int .i64 A.line, .int .i64 A.col] 24)) (.cells #[.int .i64 B.line, .int .i64 B.col] 24) (B := w3.heap.size + 1) (by simp)); obtain ⟨q3, g3⟩ := blk n3; obtain ⟨q4, g4⟩ := blk n4; have r2 := st_on2 (HB.out _ hb4); have r3 := st_on2 n3; have r4 := st_on2 n4)
      | (gi_at_call 77; refine (callsIn_wide.2 (selected_any _ _ _ A B _)).mono ?_; rintro e w5 ⟨rfl, rfl⟩))
    have hx4 : Below w.heap.size w w4 := H1.out.trans (hb4.mono hs1)
    have hz4 := hb4.size
    have hz34 : w3.heap.size + 2 ≤ w4.heap.size := by have := hst4.size; simpa using this
    obtain ⟨w6, hw6⟩ : ∃ w6, ((((w4.alloc (.cells #[.int .i64 15] 3)).alloc (.cells #[.int .i64 0] 3)).alloc (.cells #[.slice va s.lines.length vc] 22)).alloc (.cells #[.int .i64 A.line, .int .i64 A.col] 24)).alloc (.cells #[.int .i64 B.line, .int .i64 B.col] 24) = w6 := ⟨_, rfl⟩
    rw [hw6]
    have hb46 : Below w4.heap.size w4 w6 := hw6 ▸ (((((Below.refl _ _).alloc (Nat.le_refl _) _).alloc (by simp) _).alloc (by simp; omega) _).alloc (by simp; omega) _).alloc (by simp; omega) _
    have hz6 : w6.heap.size = w4.heap.size + 5 := by rw [← hw6]; simp
    have m0 : w6.heap[w4.heap.size]? = some (.cells #[.int .i64 15] 3) := hw6 ▸ heap_old _ _ (heap_old _ _ (heap_old _ _ (heap_old _ _ (heap_new _ _ rfl))))
    have m1 : w6.heap[w4.heap.size + 1]? = some (.cells #[.int .i64 0] 3) := hw6 ▸ heap_old _ _ (heap_old _ _ (heap_old _ _ (heap_new _ _ (by simp))))
    have m2 : w6.heap[w4.heap.size + 1 + 1]? = some (.cells #[.slice va s.lines.length vc] 22) := hw6 ▸ heap_old _ _ (heap_old _ _ (heap_new _ _ (by simp)))
    have m3 : w6.heap[w4.heap.size + 1 + 1 + 1]? = some (.cells #[.int .i64 A.line, .int .i64 A.col] 24) := hw6 ▸ heap_old _ _ (heap_new _ _ (by simp))
    have m4 : w6.heap[w4.heap.size + 1 + 1 + 2]? = some (.cells #[.int .i64 B.line, .int .i64 B.col] 24) := hw6 ▸ heap_new _ _ (by simp)
    have hb6 : Below w.heap.size w w6 := hx4.trans (hb46.mono hx4.size)
    have hBI : BI w w4.heap.size (w4.heap.size + 1) w6.heap.size [] w6 := ⟨m0, m1, hb6, Nat.le_refl _⟩
    have N0 := Lib.hid (And.intro m2 (And.intro m3 (And.intro m4 (heap_below hb46 n3))))
    clear hw6 m0 m1 m2 m3 m4 n3 n4 q0 g0 q1 g1 q2 g2 q3 g3 q4 g4 r1 r2 r3 r4 p0 f0 hW1
    refine rangeFunc_boxD rfl (by omega) (gf := 148) (lb := #[.pointer (some ⟨w4.heap.size + 1 + 1, 0, none⟩), .pointer (some ⟨w4.heap.size + 1 + 1 + 1, 0, none⟩), .pointer (some ⟨w4.heap.size + 1 + 1 + 2, 0, none⟩)]) rfl trivial (enters_of Tryz.func148 (by kernel_rfl) rfl)
      (encs := fun c : Cel => #[celV c]) (n₀ := w.heap.size) (base := w6.heap.size) (Bs := w3.heap.size) (S := fun ys => ys = cellsD s.lines A B) (Sp := fun pre => pre <+: cellsD s.lines A B) (N := 200000) (w0 := w6) ?seq hb6.size (by omega) (Below.refl _ _) (fun _ => rfl)
      (BI w w4.heap.size (w4.heap.size + 1) w6.heap.size) (fun _ _ _ => False) (bi_own hb6.size) (fun _ _ _ _ _ hs _ _ => hs) hBI (fun _ _ h => h.2.2.2)
      (fun x => #[.int .i32 x.r, .int .i64 x.bits, .string ⟨x.href.toArray⟩]) 44 ?act ?assign ?body ?done ?stop
    case seq =>
      intro l J Jx W hW hJ _ hY h0
      have hzW := hW.size
      exact selected1_in 5 l (w4.heap.size + 1 + 1) (w4.heap.size + 1 + 1 + 1) (w4.heap.size + 1 + 1 + 2) w6.heap.size w3.heap.size (.slice va s.lines.length vc) s.lines A B S J Jx w W HVF.out.1 HVF.out.2.1 HVF.out.2.2.1 HVF.out.2.2.2 (hb6.trans (hW.mono hb6.size)) hW.size (heap_below hW N0.out.1) (heap_below hW N0.out.2.1) (heap_below hW N0.out.2.2.1) (by omega)
        (by unfold ownAt; rw [cell_of_heap (heap_below hW N0.out.2.2.2)]; rfl) hJ hY h0
    case assign =>
      intro l pre x W K Bx hBx hI hK
      unfold celV
      gi_wp2
      rw [← hBx]
      exact hK
    case body =>
      intro l pre x Bx W hI hBx hbx hlt
      obtain ⟨t0, t1, hb, hz⟩ := hI
      obtain ⟨s0, s0f⟩ := blk t0
      obtain ⟨s1, s1f⟩ := blk t1
      obtain ⟨sx, sxf⟩ := blk hbx
      obtain ⟨a, ha⟩ : ∃ a, andB pre = a := ⟨_, rfl⟩
      have HA := Lib.hid (And.intro t0 (And.intro t1 (And.intro hb hz)))
      have HSN : Hid (andB (pre ++ [x]) = bits .and .i64 a x.bits ∧ (pre ++ [x]).length = pre.length + 1) := Lib.hid ⟨by rw [andB_snoc, ha], by simp⟩
      rw [ha] at s0 HA
      have e1 : ¬ w4.heap.size = w4.heap.size + 1 := by omega
      have e2 : ¬ w4.heap.size + 1 = w4.heap.size := by omega
      clear t0 t1 hb hz ha
      gi_wp2_with fail
      have hwz := hb6.size
      have hzW := HA.out.2.2.2
      refine ⟨((KeepsOthers.setCell _ _ _).trans (KeepsOthers.setCell _ _ _)).from _, (Kd.setCell _ (by omega) (by omega) (by omega) _).t (Kd.setCell _ (by omega) (by omega) (by omega) _), ?_, ?_, ?_, ?_⟩
      · show (World.heap _)[_]? = _
        rw [heap_set, if_neg (by simp), heap_set, if_pos rfl, show W.heap[w4.heap.size]? = _ from HA.out.1, HSN.out.1]; rfl
      · show (World.heap _)[_]? = _
        rw [heap_set, if_pos rfl, heap_set, if_neg (by simp), show W.heap[w4.heap.size + 1]? = _ from HA.out.2.1, HSN.out.2]
        rfl
      · exact (HA.out.2.2.1.setCell (by show w.heap.size ≤ w4.heap.size; omega) _).setCell (by show w.heap.size ≤ w4.heap.size + 1; omega) _
      · simpa only [World.size_setCell] using hzW
    case done =>
      rintro D ys W hD hys ⟨t0, t1, hb, hz⟩ hK
      subst hys
      obtain ⟨s0, s0f⟩ := blk t0
      obtain ⟨s1, s1f⟩ := blk t1
      have HB9 := Lib.hid hb
      have HK9 := Lib.hid hK
      have HL9 := HL.out
      clear hb hK t0 t1 HVF N0 hBI
      generalize cellsD s.lines A B = L at *
      cases L with
      | nil =>
        gi_wp2_with fail
        refine ⟨by simp, .inl ⟨_, _, rfl, run_takeDeferred HK9.out, ?_⟩⟩
        refine ⟨.int .i64 0, by simp [results, Tryz.results19, go_sem], ?_⟩
        rw [HR.out]
        exact ⟨rfl, HB9.out.trans (belowK_b (w := w) (Nat.le_refl _) W D _ _ (by have := hb6.size; omega) HK9.out rfl rfl)⟩
      | cons c l =>
        have HR : Hid (bitsS s = andB (c :: l)) := Lib.hid (HR.out.trans (if_neg (by simp)))
        obtain ⟨n, hn⟩ : ∃ n, (c :: l).length = n := ⟨_, rfl⟩
        have hn0 : ((n : Int) == 0) = false := by rw [← hn]; simp; omega
        obtain ⟨a, ha⟩ : ∃ a, andB (c :: l) = a := ⟨_, rfl⟩
        rw [hn] at s1 HL9
        rw [ha] at s0 HR
        clear hn ha
        gi_wp2_with fail
        refine ⟨by simp, .inl ⟨_, _, rfl, run_takeDeferred HK9.out, ?_⟩⟩
        refine ⟨.int .i64 a, by simp [results, Tryz.results19, go_sem], ?_⟩
        rw [HR.out]
        exact ⟨rfl, HB9.out.trans (belowK_b (w := w) (Nat.le_refl _) W D _ _ (by have := hb6.size; omega) HK9.out rfl rfl)⟩
    case stop =>
      rintro D c pre W _ _ h _
      exact h.elim
end Go.Proofs.YtpndnbjpnajaaaaGreatDoor
namespace Go.Proofs.Qw
open Go.RowKit Go.Proofs.YtpndnbjpnajaaaaGreatDoor
theorem hrefL_cons (c : Cel) (l : List Cel) : hrefL (c :: l) = if ((c :: l).any fun x => !decide (x.href = c.href)) = true then [] else c.href := by
  have h : ((c :: l).any fun x => !decide (x.href = c.href)) = !(l.all fun x => decide (x.href = c.href)) := by
    rw [List.any_cons, List.all_eq_not_any_not]
    simp
  rw [h]
  show (if l.all (fun x => decide (x.href = c.href)) = true then c.href else []) = _
  cases l.all (fun x => decide (x.href = c.href)) <;> rfl
end Go.Proofs.Qw
namespace Go.Proofs.YtpndnbjpnajaaaaGreatDoor
open Go.RowKit
open Go.Proofs.Qw
theorem href_neq (a b : List UInt8) : (a != b) = !decide (a = b) := by
  by_cases h : a = b
  · subst h; simp
  · rw [decide_eq_false h]; simpa using h
set_option maxHeartbeats 1000000 in
theorem styHref1_any (B : Nat) (v : Value) (c : Cel) (l : List Cel) (x : Cel) (w : World) (S : Nat → Prop) (h : CelsR false w S v (c :: l)) (hB : w.heap[B]? = some (.cells #[v] 40)) :
    Calls Tryz.prog 87 #[celV x, .pointer (some ⟨B, 0, none⟩)] w fun e w' => e = .returned (.bool (!decide (x.href = c.href))) ∧ Below w.heap.size w w' := by
  have hlt := (Array.getElem?_eq_some_iff.1 hB).1
  obtain ⟨a, cc, rfl, hcc, hm, hx⟩ := cels_shape h
  obtain ⟨b, o, rfl, hz, c0, c1, c2⟩ := hx 0 c rfl
  have c2' := c2
  rw [Nat.zero_mul, Nat.add_zero] at c2'
  have p2 : ∀ ob, (w.alloc ob).cell? ⟨B, 0, none⟩ = some (.slice (some ⟨b, o, none⟩) (c :: l).length cc) := fun ob => on1 hB ob 0
  have p3 : ∀ ob, (w.alloc ob).cell? ⟨b, o + 2, none⟩ = some (.string ⟨c.href.toArray⟩) := fun ob => (World.cell?_of_block (heap_alloc_old _ _ hz)).trans c2'
  have ne : ¬ B = w.heap.size := by omega
  have ne2 : ¬ b = w.heap.size := by omega
  have HQ := Lib.hid (href_neq x.href c.href)
  unfold maxLen at hm
  obtain ⟨n, hn⟩ : ∃ n, (c :: l).length = n := ⟨_, rfl⟩
  have n0 : (0 : Int) < (n : Int) := by rw [← hn]; simp
  rw [hn] at p2 hcc
  clear hn h hx c0 c1 c2 hB
  unfold celV
  go_enter Tryz.func87, Tryz.ntmps87
  go_wp2_with fail
  go_region
  go_wp2_with fail
  go_ret
  rw [← HQ.out]
  exact ⟨rfl, by (repeat' (first | (with_reducible exact Below.refl _ _) | (with_reducible assumption) | (with_reducible refine Below.alloc ?_ ?_ _) | (with_reducible refine Below.drew ?_) | (with_reducible refine drewN_below ?_) | (with_reducible refine Below.setCell ?_ ?_ _) | go_size))⟩
set_option maxRecDepth 100000 in
set_option maxHeartbeats 4000000 in
theorem styHref_any (v : Value) (s : St) (w : World) (S : Nat → Prop) (h : LinsR w S v s.lines) (he : EnvT w) (hs : Small s.lines) (hf : Fits s.lines) :
    Calls Tryz.prog 25 #[stV v s] w fun e w' => e = .returned (.string ⟨(hrefS s).toArray⟩) ∧ Below w.heap.size w w' := by
  obtain ⟨W1, hW1, hB, hz, k0⟩ := one_st w v s
  have HB : Hid (∀ W, Below W1.heap.size W1 W → W.heap[w.heap.size]? = some (.cells #[v, .int .i64 s.anc.line, .int .i64 s.anc.col, .int .i64 s.foc.line, .int .i64 s.foc.col, .int .i64 s.on, .int .i64 s.off] 26)) := Lib.hid fun W hW => heap_below hW k0
  have hs1 := hB.size
  have H1 := Lib.hid hB
  have hw0 : Below W1.heap.size W1 W1 := Below.refl _ _
  have HV : Hid (∀ W, Below W1.heap.size W1 W → LinsR W S v s.lines) := Lib.hid fun W hW => h.below (rdLin_stable _) (hB.trans (hW.mono hs1))
  have HE : Hid (∀ W, Below W1.heap.size W1 W → EnvT W) := Lib.hid fun W hW => (he.below hB).below hW
  have HM : Hid (∀ W, Below W1.heap.size W1 W → Calls Tryz.prog 27 #[stV v s] W fun e w' => e = .returned (.bool (mayS s)) ∧ Below W.heap.size W w') := Lib.hid fun W hW => stMay_any v s W S (HV.out W hW) (HE.out W hW) hs
  have HR : Hid (hrefS s = if mayS s = true then hrefL (cellsD s.lines (handS s).1 (handS s).2) else []) := Lib.hid rfl
  have HVF := Lib.hid (And.intro hs hf)
  cases hm : mayS s
  · rw [hm] at HM HR
    have HR : Hid (hrefS s = []) := Lib.hid (HR.out.trans (if_neg (by simp)))
    obtain ⟨p0, f0⟩ := blk k0
    obtain ⟨va, vc, rfl⟩ := h.slice
    clear h he hs hf k0 hB hm
    go_enter Tryz.func25, Tryz.ntmps25
    go_wp2_with ((go_at_call 27; refine (HM.out _ hw0).mono ?_; rintro e w2 ⟨rfl, hst2⟩; have hb2 := below_from hw0 hst2; skip))
    go_ret
    rw [HR.out]
    exact ⟨rfl, H1.out.trans (hb2.mono hs1)⟩
  · have hA := (mayS_at hm).2.1
    rw [hm] at HM HR
    rw [if_pos rfl] at HR
    have HH : Hid (∀ W, Below W1.heap.size W1 W → Calls Tryz.prog 84 #[stV v s] W fun e w' => e = .returned (.tuple #[.agg #[.int .i64 (handS s).1.line, .int .i64 (handS s).1.col], .agg #[.int .i64 (handS s).2.line, .int .i64 (handS s).2.col]]) ∧ Below W.heap.size W w') := Lib.hid fun W hW => styHand_any v s W S (HV.out W hW) hf hA
    obtain ⟨A, B, hAB⟩ : ∃ A B, handS s = (A, B) := ⟨_, _, rfl⟩
    rw [hAB] at HH HR
    simp only at HH HR
    have HL : Hid ((cellsD s.lines A B).length ≤ 100000) := Lib.hid (Nat.le_trans (cellsD_size _ _ _) hs.1)
    obtain ⟨p0, f0⟩ := blk k0
    obtain ⟨va, vc, rfl⟩ := h.slice
    clear h he hs hf hm hA hAB k0 hB
    go_enter Tryz.func25, Tryz.ntmps25
    go_wp2_with (first
      | (go_at_call 27; refine (HM.out _ hw0).mono ?_; rintro e w2 ⟨rfl, hst2⟩; have hb2 := below_from hw0 hst2; obtain ⟨q0, g0⟩ := blk (HB.out _ hb2))
      | (go_at_call 84; refine (HH.out _ hb2).mono ?_; rintro e w3 ⟨rfl, hst3⟩; have hb3 := below_from hb2 hst3; obtain ⟨q1, g1⟩ := blk (HB.out _ hb3); have hz3 := hb3.size; have e3 : ¬ w3.heap.size = w.heap.size := (by omega); have r1 := on2 (HB.out _ hb3))
      | (go_at_call 77; refine (selected_any _ _ _ A B _).mono ?_; rintro e w5 ⟨rfl, rfl⟩))
    obtain ⟨w6, hw6⟩ : ∃ w6, ((((w3.alloc (.cells #[.int .i64 A.line, .int .i64 A.col] 24)).alloc (.cells #[.int .i64 B.line, .int .i64 B.col] 24)).alloc (.cells #[.slice va s.lines.length vc] 22)).alloc (.cells #[.int .i64 A.line, .int .i64 A.col] 24)).alloc (.cells #[.int .i64 B.line, .int .i64 B.col] 24) = w6 := ⟨_, rfl⟩
    rw [hw6]
    have hb36 : Below w3.heap.size w3 w6 := hw6 ▸ below3 (below2 (Below.refl _ _) _ _) _ _ _
    have hz6 : w6.heap.size = w3.heap.size + 5 := by rw [← hw6]; simp
    have m2 : w6.heap[w3.heap.size + 1 + 1]? = some (.cells #[.slice va s.lines.length vc] 22) := hw6 ▸ heap_old _ _ (heap_old _ _ (heap_new _ _ (by simp)))
    have m3 : w6.heap[w3.heap.size + 1 + 1 + 1]? = some (.cells #[.int .i64 A.line, .int .i64 A.col] 24) := hw6 ▸ heap_old _ _ (heap_new _ _ (by simp))
    have m4 : w6.heap[w3.heap.size + 1 + 1 + 2]? = some (.cells #[.int .i64 B.line, .int .i64 B.col] 24) := hw6 ▸ heap_new _ _ (by simp)
    have hb6 := below_from hb3 hb36
    have HCo := Lib.hid (collect_any (w3.heap.size + 1 + 1) (w3.heap.size + 1 + 1 + 1) (w3.heap.size + 1 + 1 + 2) _ s.lines A B w6 S (HV.out _ hb6) (HE.out _ hb6) HVF.out.1 HVF.out.2 m2 m3 m4)
    clear m2 m3 m4 hw6 q0 g0 q1 g1 r1 p0 f0 hW1
    have HL9 := HL.out
    generalize cellsD s.lines A B = L at *
    cases L with
    | nil =>
      go_wp2_with (go_at_call 85; refine HCo.out.mono ?_; intro e w7 hcc; obtain ⟨v7, rfl, hv7, hb7⟩ := hcc; obtain ⟨a7, c7, rfl⟩ := hv7.slice; clear hv7)
      go_ret
      rw [HR.out]
      exact ⟨rfl, H1.out.trans ((below1 (below_from hb6 hb7) _).mono hs1)⟩
    | cons c l =>
      rw [hrefL_cons] at HR
      obtain ⟨n, hn⟩ : ∃ n, (c :: l).length = n := ⟨_, rfl⟩
      have hn0 : ((n : Int) == 0) = false := by rw [← hn]; simp; omega
      have n0 : (0 : Int) < (n : Int) := by rw [← hn]; simp
      have HN := Lib.hid hn
      rw [hn] at HL9
      clear hn
      obtain ⟨r, hr⟩ : ∃ r, ((c :: l).any fun x => !decide (x.href = c.href)) = r := ⟨_, rfl⟩
      rw [hr] at HR
      have HAn := Lib.hid hr
      clear hr
      go_wp2_with (go_at_call 85; refine HCo.out.mono ?_; intro e w7 hcc; obtain ⟨v7, rfl, hv7, hb7⟩ := hcc; obtain ⟨a7, c7, hve⟩ := hv7.slice; rw [HN.out] at hve; subst hve; have HV7 := Lib.hid hv7; clear hv7)
      have hb7' := below_from hb6 hb7
      obtain ⟨a8, c8, hve, hcc8, hmm8, hx8⟩ := SliceR.shape_own HV7.out
      rw [HN.out] at hve
      cases hve
      obtain ⟨b8, o8, vs8, cs8, rfl, hz8, hS8, _, _, _, hvs8, he8⟩ := hx8 0 c rfl
      cases hvs8
      have d2 := he8 2 _ rfl
      rw [Nat.zero_mul, Nat.add_zero] at d2
      have H8 : ∀ X, Below w7.heap.size w7 (w7.alloc X) := fun X => below1 (Below.refl _ _) X
      obtain ⟨w8, hw8⟩ : ∃ w8, w7.alloc (.cells #[.slice (some ⟨b8, o8, none⟩) n c7] 40) = w8 := ⟨_, rfl⟩
      rw [hw8]
      have hb78 : Below w7.heap.size w7 w8 := hw8 ▸ H8 _
      have hb8 := below_from hb7' hb78
      have m8 : w8.heap[w7.heap.size]? = some (.cells #[.slice (some ⟨b8, o8, none⟩) n c7] 40) := hw8 ▸ heap_new _ _ rfl
      have HB8 : Hid (∀ W, Below w8.heap.size w8 W → W.heap[w7.heap.size]? = some (.cells #[.slice (some ⟨b8, o8, none⟩) n c7] 40)) := Lib.hid fun W hW => heap_below hW m8
      have HR8 : Hid (CelsR false w8 (fun b => w6.heap.size ≤ b) (.slice (some ⟨b8, o8, none⟩) n c7) (c :: l)) := Lib.hid (SliceR.below (rdOf_stable _) (SliceR.read (fun _ _ h => h) HV7.out) hb78)
      have HCn := Lib.hid (containsCell_any _ (c :: l) (fun x => !decide (x.href = c.href)) 87 #[.pointer (some ⟨w7.heap.size, 0, none⟩)] (enters_of Tryz.func87 (by kernel_rfl) rfl) w8 w8 _ HR8.out (HE.out _ hb8) (Below.refl _ _) (fun i x W _ _ hW _ => styHref1_any _ _ c l x W _ (SliceR.below (rdOf_stable _) HR8.out hW) (HB8.out W hW)))
      rw [HAn.out] at HCn
      have d2' : ∀ W, Below w8.heap.size w8 W → W.cell? ⟨b8, o8 + 2, none⟩ = some (.string ⟨c.href.toArray⟩) := fun W hW => ((below_from hb78 hW).cell (p := ⟨b8, o8 + 2, none⟩) hz8).trans d2
      have HD := Lib.hid d2'
      obtain ⟨q8, g8⟩ := blk m8
      clear hx8 he8 d2 d2' H8 hw8 m8
      go_wp2_with (go_at_call 86; refine HCn.out.mono ?_; rintro e w9 ⟨rfl, hb9⟩; obtain ⟨q9, g9⟩ := blk (HB8.out _ hb9); have d9 := HD.out _ hb9; cases r)
      · go_ret
        rw [HR.out]
        exact ⟨rfl, H1.out.trans ((below_from hb8 hb9).mono hs1)⟩
      · go_ret
        rw [HR.out]
        exact ⟨rfl, H1.out.trans ((below_from hb8 hb9).mono hs1)⟩
end Go.Proofs.YtpndnbjpnajaaaaGreatDoor
namespace Go.Proofs.YtpndnbjpnajaaaaGreatDoor
open Go.RowKit
open Go.Proofs.Qw
theorem results_st_e {fn : Func} {p u : Tmp} (h : fn.results = #[.cell p 26, .tmp u]) (tmps : Array Value) (w : World) (B : Nat) (a b c d e f g x : Value) (hp : tmps.getD p undef = .pointer (some ⟨B, 0, none⟩)) (hu : tmps.getD u undef = x) (hg : w.heap[B]? = some (.cells #[a, b, c, d, e, f, g] 26)) :
    (results fn tmps).run Tryz.prog w = .ok (.tuple #[.agg #[a, b, c, d, e, f, g], x]) w := by
  have hp' : tmps[p]?.getD undef = .pointer (some ⟨B, 0, none⟩) := by simpa using hp
  have hu' : tmps[u]?.getD undef = x := by simpa using hu
  have e1 := run_loadVar_row (P := Tryz.prog) w B 26 26 _ _ _ hg Tryz.underlying26 rfl (by kernel_rfl)
  simp [results, h, hp', hu', asAddr, e1]
set_option maxRecDepth 100000 in
set_option maxHeartbeats 4000000 in
theorem styChanged_any (v : Value) (s : St) (g : Nat) (lb : Array Value) (R : Doc × Int) (w : World) (S : Nat → Prop) (h : LinsR w S v s.lines) (he : EnvT w) (hs : Small s.lines)
    (eg : ∀ args w, (callFunc g args).run Tryz.prog w = .ok (.enter g args) w)
    (hg : mayS s = true → ∀ W, Below w.heap.size w W → Calls Tryz.prog g (#[v, posV (spanS s).1, posV (spanS s).2] ++ lb) W (DocSaid R W)) :
    Calls Tryz.prog 95 #[stV v s, .func (.func g) #[] lb] w (StSaid (changedS s R) w) := by
  obtain ⟨W1, hW1, hB, hz, k0, k1⟩ := st_two w v s
  have HB : Hid (∀ W, Below W1.heap.size W1 W → W.heap[w.heap.size]? = some (.cells #[v, .int .i64 s.anc.line, .int .i64 s.anc.col, .int .i64 s.foc.line, .int .i64 s.foc.col, .int .i64 s.on, .int .i64 s.off] 26) ∧ W.heap[w.heap.size + 1]? = some (.cells #[.slice none 0 0, .int .i64 0, .int .i64 0, .int .i64 0, .int .i64 0, .int .i64 0, .int .i64 0] 26)) := Lib.hid fun W hW => ⟨heap_below hW k0, heap_below hW k1⟩
  have hs1 := hB.size
  have H1 := Lib.hid hB
  have hw0 : Below W1.heap.size W1 W1 := Below.refl _ _
  have HV : Hid (∀ W, Below W1.heap.size W1 W → LinsR W S v s.lines) := Lib.hid fun W hW => h.below (rdLin_stable _) (hB.trans (hW.mono hs1))
  have HE : Hid (∀ W, Below W1.heap.size W1 W → EnvT W) := Lib.hid fun W hW => (he.below hB).below hW
  have HM : Hid (∀ W, Below W1.heap.size W1 W → Calls Tryz.prog 27 #[stV v s] W fun e w' => e = .returned (.bool (mayS s)) ∧ Below W.heap.size W w') := Lib.hid fun W hW => stMay_any v s W S (HV.out W hW) (HE.out W hW) hs
  have HR : Hid (changedS s R = if mayS s = true then staysS s R else (noS, 1)) := Lib.hid rfl
  cases hm : mayS s
  · rw [hm] at HM HR
    have HR : Hid (changedS s R = (noS, 1)) := Lib.hid (HR.out.trans (if_neg (by simp)))
    obtain ⟨p0, f0⟩ := blk k0
    obtain ⟨p1, f1⟩ := blk k1
    obtain ⟨va, vc, rfl⟩ := h.slice
    clear h he hs hg k0 k1 hB hm
    go_enter Tryz.func95, Tryz.ntmps95
    go_wp2_with ((go_at_call 27; refine (HM.out _ hw0).mono ?_; rintro e w2 ⟨rfl, hst2⟩; have hb2 := below_from hw0 hst2; obtain ⟨q1, g1⟩ := blk (HB.out _ hb2).2))
    refine bodyPost_ret (results_st_e rfl _ _ (w.heap.size + 1) (.slice none 0 0) (.int .i64 0) (.int .i64 0) (.int .i64 0) (.int .i64 0) (.int .i64 0) (.int .i64 0) (.int .i64 1) rfl rfl (by simp [heap_set, putIn, (HB.out _ hb2).2])) rfl ?_
    unfold StSaid
    rw [HR.out]
    have hfin := H1.out.trans (hb2.mono hs1)
    exact ⟨_, rfl, SliceR.nil _ _ _ _ _ _, by (repeat' (first | (with_reducible exact Below.refl _ _) | (with_reducible assumption) | (with_reducible refine Below.alloc ?_ ?_ _) | (with_reducible refine Below.drew ?_) | (with_reducible refine drewN_below ?_) | (with_reducible refine Below.setCell ?_ ?_ _) | go_size))⟩
  · have HG : Hid (∀ W, Below W1.heap.size W1 W → Calls Tryz.prog g (#[v, posV (spanS s).1, posV (spanS s).2] ++ lb) W (DocSaid R W)) := Lib.hid fun W hW => hg hm W (hB.trans (hW.mono hs1))
    rw [hm] at HM HR
    rw [if_pos rfl] at HR
    have HR : Hid (changedS s R = if R.2 = 0 then (⟨R.1, s.anc, s.foc, 0, 0⟩, 0) else (noS, R.2)) := Lib.hid HR.out
    have HSp : Hid (∀ W, Below W1.heap.size W1 W → Calls Tryz.prog 28 #[stV v s] W fun e w' => e = .returned (.tuple #[.agg #[.int .i64 (spanS s).1.line, .int .i64 (spanS s).1.col], .agg #[.int .i64 (spanS s).2.line, .int .i64 (spanS s).2.col]]) ∧ Below W.heap.size W w') := Lib.hid fun W hW => stSpan_any v s W
    obtain ⟨A, B, hAB⟩ : ∃ A B, spanS s = (A, B) := ⟨_, _, rfl⟩
    rw [hAB] at HSp HG
    simp only at HSp HG
    obtain ⟨D, er, hD⟩ : ∃ D er, R = (D, er) := ⟨_, _, rfl⟩
    subst hD
    have HP : Hid (∀ p : Ps, posV p = .agg #[.int .i64 p.line, .int .i64 p.col]) := Lib.hid fun _ => rfl
    rw [HP.out, HP.out] at HG
    obtain ⟨p0, f0⟩ := blk k0
    obtain ⟨p1, f1⟩ := blk k1
    obtain ⟨va, vc, rfl⟩ := h.slice
    clear h he hs hg k0 k1 hB hm hAB
    by_cases h0 : er = 0
    · subst h0
      have HR := Lib.hid (HR.out.trans (if_pos rfl))
      go_enter Tryz.func95, Tryz.ntmps95
      go_wp2_with (first
        | (go_at_call 27; refine (HM.out _ hw0).mono ?_; rintro e w2 ⟨rfl, hst2⟩; have hb2 := below_from hw0 hst2; obtain ⟨q0, g0⟩ := blk (HB.out _ hb2).1)
        | (go_at_call 28; refine (HSp.out _ hb2).mono ?_; rintro e w3 ⟨rfl, hst3⟩; have hb3 := below_from hb2 hst3; obtain ⟨q1, g1⟩ := blk (HB.out _ hb3).1; have hz3 := hb3.size; have e3 : ¬ w3.heap.size = w.heap.size := (by omega); have r1 := on2 (HB.out _ hb3).1; have HX3 : Hid (∀ X Y, Below W1.heap.size W1 ((w3.alloc X).alloc Y)) := Lib.hid fun X Y => hb3.trans (below2 (Below.refl _ _) X Y |>.mono hz3))
        | (go_at_fn g; refine (HG.out _ (HX3.out _ _)).mono ?_; intro e w4 hsaid; obtain ⟨v4, rfl, hv4, hst4⟩ := hsaid; obtain ⟨a4, c4, rfl⟩ := hv4.slice; have hb4 := below_from (HX3.out _ _) hst4; have HV4 := Lib.hid hv4; clear hv4; obtain ⟨q2, g2⟩ := blk (HB.out _ hb4).1; obtain ⟨q3, g3⟩ := blk (HB.out _ hb4).2))
      refine bodyPost_ret (results_st_e rfl _ _ (w.heap.size + 1) (.slice a4 D.length c4) (.int .i64 s.anc.line) (.int .i64 s.anc.col) (.int .i64 s.foc.line) (.int .i64 s.foc.col) (.int .i64 0) (.int .i64 0) (.int .i64 0) rfl rfl (by simp [heap_set, putIn, (HB.out _ hb4).2])) rfl ?_
      unfold StSaid
      rw [HR.out]
      have hfin := H1.out.trans (hb4.mono hs1)
      have hv4 := HV4.out
      exact ⟨_, rfl, (SliceR.stable (rdLin_stable _) hv4 (by (repeat' (first | (with_reducible exact Keeps.refl _ _) | (with_reducible refine Keeps.set ?_ ?_ _) | (with_reducible refine Keeps.alloc ?_ _) | (with_reducible refine Keeps.drew ?_) | (first | fail) | (simp; omega)))) (fun b h _ => (by have h' := h; (try simp at h'); omega))), by (repeat' (first | (with_reducible exact Below.refl _ _) | (with_reducible assumption) | (with_reducible refine Below.alloc ?_ ?_ _) | (with_reducible refine Below.drew ?_) | (with_reducible refine drewN_below ?_) | (with_reducible refine Below.setCell ?_ ?_ _) | go_size))⟩
    · have HR2 : Hid (changedS s (D, er) = (noS, er)) := Lib.hid (HR.out.trans (if_neg h0))
      have hne : (er != 0) = true := by simpa using h0
      have hne2 : (er == 0) = false := by simpa using h0
      clear h0 HR
      go_enter Tryz.func95, Tryz.ntmps95
      go_wp2_with (first
        | (go_at_call 27; refine (HM.out _ hw0).mono ?_; rintro e w2 ⟨rfl, hst2⟩; have hb2 := below_from hw0 hst2; obtain ⟨q0, g0⟩ := blk (HB.out _ hb2).1)
        | (go_at_call 28; refine (HSp.out _ hb2).mono ?_; rintro e w3 ⟨rfl, hst3⟩; have hb3 := below_from hb2 hst3; obtain ⟨q1, g1⟩ := blk (HB.out _ hb3).1; have hz3 := hb3.size; have e3 : ¬ w3.heap.size = w.heap.size := (by omega); have r1 := on2 (HB.out _ hb3).1; have HX3 : Hid (∀ X Y, Below W1.heap.size W1 ((w3.alloc X).alloc Y)) := Lib.hid fun X Y => hb3.trans (below2 (Below.refl _ _) X Y |>.mono hz3))
        | (go_at_fn g; refine (HG.out _ (HX3.out _ _)).mono ?_; intro e w4 hsaid; obtain ⟨v4, rfl, hv4, hst4⟩ := hsaid; obtain ⟨a4, c4, rfl⟩ := hv4.slice; have hb4 := below_from (HX3.out _ _) hst4; have HV4 := Lib.hid hv4; clear hv4; obtain ⟨q2, g2⟩ := blk (HB.out _ hb4).1; obtain ⟨q3, g3⟩ := blk (HB.out _ hb4).2))
      refine bodyPost_ret (results_st_e rfl _ _ (w.heap.size + 1) (.slice none 0 0) (.int .i64 0) (.int .i64 0) (.int .i64 0) (.int .i64 0) (.int .i64 0) (.int .i64 0) (.int .i64 er) rfl rfl (by simp [heap_set, putIn, (HB.out _ hb4).2])) rfl ?_
      unfold StSaid
      rw [HR2.out]
      have hfin := H1.out.trans (hb4.mono hs1)
      exact ⟨_, rfl, SliceR.nil _ _ _ _ _ _, by (repeat' (first | (with_reducible exact Below.refl _ _) | (with_reducible assumption) | (with_reducible refine Below.alloc ?_ ?_ _) | (with_reducible refine Below.drew ?_) | (with_reducible refine drewN_below ?_) | (with_reducible refine Below.setCell ?_ ?_ _) | go_size))⟩
end Go.Proofs.YtpndnbjpnajaaaaGreatDoor
namespace Go.Proofs.YtpndnbjpnajaaaaGreatDoor
open Go.RowKit
open Go.Proofs.Qw
set_option maxRecDepth 100000 in
set_option maxHeartbeats 4000000 in
theorem stOwn_any (v : Value) (s : St) (w : World) (S : Nat → Prop) (h : LinsR w S v s.lines) (hf : Fits s.lines) :
    Calls Tryz.prog 41 #[stV v s] w fun e w' => ∃ v', e = .returned (stV v' s) ∧ DocR true w' (fun b => w.heap.size ≤ b) v' s.lines ∧ Below w.heap.size w w' := by
  obtain ⟨W1, hW1, hB, hz, k0, k1⟩ := st_two w v s
  have hs1 := hB.size
  have HC := Lib.hid (docOwn_any v s.lines W1 w S h hB hf)
  have HB : Hid (∀ W, Below W1.heap.size W1 W → W.heap[w.heap.size]? = some (.cells #[v, .int .i64 s.anc.line, .int .i64 s.anc.col, .int .i64 s.foc.line, .int .i64 s.foc.col, .int .i64 s.on, .int .i64 s.off] 26) ∧ W.heap[w.heap.size + 1]? = some (.cells #[.slice none 0 0, .int .i64 0, .int .i64 0, .int .i64 0, .int .i64 0, .int .i64 0, .int .i64 0] 26)) := Lib.hid fun W hW => ⟨heap_below hW k0, heap_below hW k1⟩
  have H1 := Lib.hid hB
  obtain ⟨p0, f0⟩ := blk k0
  obtain ⟨va, vc, rfl⟩ := h.slice
  clear h hf k0 k1 hB
  go_enter Tryz.func41, Tryz.ntmps41
  go_wp2_with (go_at_call 108; refine HC.out.mono ?_; rintro e w2 ⟨v2, rfl, hv2, hb2⟩; obtain ⟨a2, c2, rfl⟩ := hv2.slice; obtain ⟨q0, g0⟩ := blk (HB.out _ hb2).1; obtain ⟨q1, g1⟩ := blk (HB.out _ hb2).2; have HV := Lib.hid hv2; clear hv2)
  refine bodyPost_ret (results_st rfl _ _ (w.heap.size + 1) (.slice a2 s.lines.length c2) (.int .i64 s.anc.line) (.int .i64 s.anc.col) (.int .i64 s.foc.line) (.int .i64 s.foc.col) (.int .i64 s.on) (.int .i64 s.off) rfl (by simp [heap_set, putIn, (HB.out _ hb2).2])) rfl ?_
  have hfin := H1.out.trans (hb2.mono hs1)
  have hv2 := HV.out
  exact ⟨_, rfl, (SliceR.stable (rdLin_stable _) hv2 (by (repeat' (first | (with_reducible exact Keeps.refl _ _) | (with_reducible refine Keeps.set ?_ ?_ _) | (with_reducible refine Keeps.alloc ?_ _) | (with_reducible refine Keeps.drew ?_) | (first | fail) | (simp; omega)))) (fun b h _ => (by have h' := h; (try simp at h'); omega))), by (repeat' (first | (with_reducible exact Below.refl _ _) | (with_reducible assumption) | (with_reducible refine Below.alloc ?_ ?_ _) | (with_reducible refine Below.drew ?_) | (with_reducible refine drewN_below ?_) | (with_reducible refine Below.setCell ?_ ?_ _) | go_size))⟩
end Go.Proofs.YtpndnbjpnajaaaaGreatDoor
namespace Go.Proofs.YtpndnbjpnajaaaaGreatDoor
open Go.RowKit
open Go.Proofs.Qw
attribute [local go_sem] Oper.semAt_some
set_option maxHeartbeats 1000000 in
theorem containsInts_any (v : Value) (d : List Int) (t : Int) (w : World) (S : Nat → Prop) (h : IntsR false w S v d) :
    Calls Tryz.prog 94 #[v, .int .i64 t] w fun e w' => e = .returned (.bool (d.any fun x => x == t)) ∧ w' = w := by
  have HC : Hid (Calls Tryz.prog 163 #[v, .int .i64 t] w fun e w' => ∃ r : Int, e = .returned (.int .i64 r) ∧ decide (0 ≤ r) = (d.any fun x => x == t) ∧ w' = w) := Lib.hid (by
    obtain ⟨a, c, rfl, hc, hm, hx⟩ := ints_shape h
    have HX := Lib.hid hx
    clear hx h
    unfold maxLen at hm
    go_enter Tryz.func163, Tryz.ntmps163
    go_wp2_with fail
    go_loopw [5, 8] (fun _ i wr => ∃ k : Nat, k ≤ d.length ∧ i = .int .i64 k ∧ Hid ((d.any fun x => x == t) = ((d.drop k).any fun x => x == t)) ∧ w = wr) (fun _ i _ => d.length - (intOf i).toNat)
    case atStart => exact ⟨0, Nat.zero_le _, rfl, Lib.hid rfl, rfl⟩
    case round =>
      obtain ⟨k, hk, rfl, HK, rfl⟩ := hrel
      have k0 : (0 : Int) ≤ (k : Int) := Int.natCast_nonneg _
      by_cases hlt : k < d.length
      · obtain ⟨x, hx, hd⟩ := getOf d k hlt
        obtain ⟨b, o, rfl, hz, c0⟩ := HX.out k x hx
        rw [hd, List.any_cons] at HK
        cases hq : x == t
        · have hq' : (t == x) = false := by rw [Bool.beq_comm]; exact hq
          rw [hq, Bool.false_or] at HK
          clear hx hd
          go_wp2_with fail
          go_roundw
          case rel => exact ⟨k + 1, hlt, by go_num, HK, by simp⟩
          case measure => simp [intOf]; omega
        · have hq' : (t == x) = true := by rw [Bool.beq_comm]; exact hq
          rw [hq, Bool.true_or] at HK
          clear hx hd
          go_wp2_with fail
          go_ret
          exact ⟨k, rfl, by rw [HK.out]; exact decide_eq_true k0, rfl⟩
      · obtain rfl : k = d.length := by omega
        rw [List.drop_length] at HK
        go_wp2_with fail
        go_ret
        exact ⟨-1, rfl, by rw [HK.out]; rfl, rfl⟩)
  obtain ⟨a, c, rfl⟩ := h.slice
  clear h
  generalize (d.any fun x => x == t) = R at *
  go_enter Tryz.func94, Tryz.ntmps94
  go_wp2_with (go_at_call 163; refine HC.out.mono ?_; rintro e w1 ⟨r, rfl, hr, rfl⟩; have HRR := Lib.hid hr; clear hr)
  go_ret
  rw [← HRR.out]
  exact ⟨rfl, rfl⟩
theorem four_any (t : Int) : ([1, 2, 4, 8].any fun x => x == t) = four t := by
  unfold four
  rw [Bool.eq_iff_iff]
  simp only [List.any_cons, List.any_nil, Bool.or_eq_true, beq_iff_eq, decide_eq_true_eq, Bool.or_false]
  omega
set_option maxRecDepth 100000 in
set_option maxHeartbeats 2000000 in
theorem styToggle1_any (Bt : Nat) (v : Value) (d : Doc) (a b : Ps) (t : Int) (w : World) (S : Nat → Prop) (h : LinsR w S v d) (he : EnvT w) (hs : Small d) (hf : Fits d) (ht : w.heap[Bt]? = some (.cells #[.int .i64 t] 3)) :
    Calls Tryz.prog 96 #[v, posV a, posV b, .pointer (some ⟨Bt, 0, none⟩)] w (DocSaid (if allL (cellsD d a b) t = true then setD 0 t d a b else setD t 0 d a b) w) := by
  obtain ⟨W1, hW1, hB, hz, k0, k1⟩ := two_pos w (.int .i64 a.line) (.int .i64 a.col) (.int .i64 b.line) (.int .i64 b.col)
  have kt := heap_below hB ht
  have HB : Hid (∀ W, Below W1.heap.size W1 W → W.heap[w.heap.size]? = some (.cells #[.int .i64 a.line, .int .i64 a.col] 24) ∧ W.heap[w.heap.size + 1]? = some (.cells #[.int .i64 b.line, .int .i64 b.col] 24) ∧ W.heap[Bt]? = some (.cells #[.int .i64 t] 3)) := Lib.hid fun W hW => ⟨heap_below hW k0, heap_below hW k1, heap_below hW kt⟩
  have hs1 := hB.size
  have H1 := Lib.hid hB
  have hw0 : Below W1.heap.size W1 W1 := Below.refl _ _
  have HV : Hid (∀ W, Below W1.heap.size W1 W → LinsR W S v d) := Lib.hid fun W hW => h.below (rdLin_stable _) (hB.trans (hW.mono hs1))
  have HE : Hid (∀ W, Below W1.heap.size W1 W → EnvT W) := Lib.hid fun W hW => (he.below hB).below hW
  have HAl : Hid (∀ W, Below W1.heap.size W1 W → Calls Tryz.prog 81 #[v, .agg #[.int .i64 a.line, .int .i64 a.col], .agg #[.int .i64 b.line, .int .i64 b.col], .int .i64 t] W fun e w' => e = .returned (.bool (allL (cellsD d a b) t)) ∧ Below W.heap.size W w') := Lib.hid fun W hW => by
    have := docAll_any v d a b t W S _ rfl (HV.out W hW) (HE.out W hW) hs
    rw [all_count'] at this
    exact this
  have HSe : Hid (∀ (x y : Int) W, Below W1.heap.size W1 W → Calls Tryz.prog 97 #[v, .agg #[.int .i64 a.line, .int .i64 a.col], .agg #[.int .i64 b.line, .int .i64 b.col], .int .i64 x, .int .i64 y] W (DocSaid (setD x y d a b) W)) := Lib.hid fun x y W hW => docSet_any v d a b x y W S (HV.out W hW) (HE.out W hW) hs hf
  have HP : Hid (∀ p : Ps, posV p = .agg #[.int .i64 p.line, .int .i64 p.col]) := Lib.hid fun _ => rfl
  obtain ⟨p0, f0⟩ := blk k0
  obtain ⟨p1, f1⟩ := blk k1
  obtain ⟨p2, f2⟩ := blk kt
  obtain ⟨va, vc, rfl⟩ := h.slice
  rw [HP.out a, HP.out b]
  generalize allL (cellsD d a b) t = r at *
  clear h he hs hf k0 k1 kt ht hB
  cases r
  · rw [if_neg (by simp)]
    go_enter Tryz.func96, Tryz.ntmps96
    go_wp2_with (first
      | (go_at_call 81; refine (HAl.out _ hw0).mono ?_; rintro e w2 ⟨rfl, hst2⟩; have hb2 := below_from hw0 hst2; obtain ⟨q0, g0⟩ := blk (HB.out _ hb2).1; obtain ⟨q1, g1⟩ := blk (HB.out _ hb2).2.1; obtain ⟨q2, g2⟩ := blk (HB.out _ hb2).2.2)
      | (go_at_call 97; refine (HSe.out _ _ _ hb2).mono ?_; intro e w3 hsaid; have hsaid := DocSaid.from hsaid (H1.out.trans (hb2.mono hs1)); obtain ⟨v3, rfl, hv3, hb3⟩ := hsaid))
    go_ret2
    exact ⟨_, rfl, hv3, hb3⟩
  · rw [if_pos rfl]
    go_enter Tryz.func96, Tryz.ntmps96
    go_wp2_with (first
      | (go_at_call 81; refine (HAl.out _ hw0).mono ?_; rintro e w2 ⟨rfl, hst2⟩; have hb2 := below_from hw0 hst2; obtain ⟨q0, g0⟩ := blk (HB.out _ hb2).1; obtain ⟨q1, g1⟩ := blk (HB.out _ hb2).2.1; obtain ⟨q2, g2⟩ := blk (HB.out _ hb2).2.2)
      | (go_at_call 97; refine (HSe.out _ _ _ hb2).mono ?_; intro e w3 hsaid; have hsaid := DocSaid.from hsaid (H1.out.trans (hb2.mono hs1)); obtain ⟨v3, rfl, hv3, hb3⟩ := hsaid))
    go_ret2
    exact ⟨_, rfl, hv3, hb3⟩
set_option maxRecDepth 100000 in
set_option maxHeartbeats 2000000 in
theorem styLink1_any (Bt : Nat) (v : Value) (d : Doc) (a b : Ps) (hr : List UInt8) (w : World) (S : Nat → Prop) (h : LinsR w S v d) (he : EnvT w) (hs : Small d) (hf : Fits d) (hh : hr.length ≤ 1000000) (ht : w.heap[Bt]? = some (.cells #[.string ⟨hr.toArray⟩] 9)) :
    Calls Tryz.prog 98 #[v, posV a, posV b, .pointer (some ⟨Bt, 0, none⟩)] w (DocSaid (if targetF hr = true then linkD hr d a b else ([], 1)) w) := by
  obtain ⟨W1, hW1, hB, hz, k0, k1⟩ := two_pos w (.int .i64 a.line) (.int .i64 a.col) (.int .i64 b.line) (.int .i64 b.col)
  have kt := heap_below hB ht
  have HB : Hid (∀ W, Below W1.heap.size W1 W → W.heap[w.heap.size]? = some (.cells #[.int .i64 a.line, .int .i64 a.col] 24) ∧ W.heap[w.heap.size + 1]? = some (.cells #[.int .i64 b.line, .int .i64 b.col] 24) ∧ W.heap[Bt]? = some (.cells #[.string ⟨hr.toArray⟩] 9)) := Lib.hid fun W hW => ⟨heap_below hW k0, heap_below hW k1, heap_below hW kt⟩
  have hs1 := hB.size
  have H1 := Lib.hid hB
  have hw0 : Below W1.heap.size W1 W1 := Below.refl _ _
  have HV : Hid (∀ W, Below W1.heap.size W1 W → LinsR W S v d) := Lib.hid fun W hW => h.below (rdLin_stable _) (hB.trans (hW.mono hs1))
  have HE : Hid (∀ W, Below W1.heap.size W1 W → EnvT W) := Lib.hid fun W hW => (he.below hB).below hW
  have HAl : Hid (∀ W, Below W1.heap.size W1 W → Calls Tryz.prog 99 #[.string ⟨hr.toArray⟩] W fun e w' => e = .returned (.bool (targetF hr)) ∧ Below W.heap.size W w') := Lib.hid fun W hW => target_any ⟨hr.toArray⟩ W (HE.out W hW) (by show hr.toArray.size ≤ _; simpa using hh)
  have HSe : Hid (∀ W, Below W1.heap.size W1 W → Calls Tryz.prog 100 #[v, .agg #[.int .i64 a.line, .int .i64 a.col], .agg #[.int .i64 b.line, .int .i64 b.col], .string ⟨hr.toArray⟩] W (DocSaid (linkD hr d a b) W)) := Lib.hid fun W hW => docLink_any v d a b hr W S (HV.out W hW) (HE.out W hW) hs hf hh
  have HP : Hid (∀ p : Ps, posV p = .agg #[.int .i64 p.line, .int .i64 p.col]) := Lib.hid fun _ => rfl
  obtain ⟨p0, f0⟩ := blk k0
  obtain ⟨p1, f1⟩ := blk k1
  obtain ⟨p2, f2⟩ := blk kt
  obtain ⟨va, vc, rfl⟩ := h.slice
  rw [HP.out a, HP.out b]
  generalize targetF hr = r at *
  clear h he hs hf hh k0 k1 kt ht hB
  cases r
  · rw [if_neg (by simp)]
    go_enter Tryz.func98, Tryz.ntmps98
    go_wp2_with ((go_at_call 99; refine (HAl.out _ hw0).mono ?_; rintro e w2 ⟨rfl, hst2⟩; have hb2 := below_from hw0 hst2; skip))
    go_ret2
    exact ⟨_, rfl, SliceR.nil _ _ _ _ _ _, H1.out.trans (hb2.mono hs1)⟩
  · rw [if_pos rfl]
    go_enter Tryz.func98, Tryz.ntmps98
    go_wp2_with (first
      | (go_at_call 99; refine (HAl.out _ hw0).mono ?_; rintro e w2 ⟨rfl, hst2⟩; have hb2 := below_from hw0 hst2; obtain ⟨q0, g0⟩ := blk (HB.out _ hb2).1; obtain ⟨q1, g1⟩ := blk (HB.out _ hb2).2.1; obtain ⟨q2, g2⟩ := blk (HB.out _ hb2).2.2)
      | (go_at_call 100; refine (HSe.out _ hb2).mono ?_; intro e w3 hsaid; have hsaid := DocSaid.from hsaid (H1.out.trans (hb2.mono hs1)); obtain ⟨v3, rfl, hv3, hb3⟩ := hsaid))
    go_ret2
    exact ⟨_, rfl, hv3, hb3⟩
set_option maxRecDepth 100000 in
set_option maxHeartbeats 2000000 in
theorem styPlain1_any (v : Value) (d : Doc) (a b : Ps) (w : World) (S : Nat → Prop) (h : LinsR w S v d) (he : EnvT w) (hs : Small d) (hf : Fits d) :
    Calls Tryz.prog 101 #[v, posV a, posV b] w (DocSaid (if someL (cellsD d a b) 15 = true then setD 0 15 d a b else ([], 7)) w) := by
  obtain ⟨W1, hW1, hB, hz, k0, k1⟩ := two_pos w (.int .i64 a.line) (.int .i64 a.col) (.int .i64 b.line) (.int .i64 b.col)
  have HB : Hid (∀ W, Below W1.heap.size W1 W → W.heap[w.heap.size]? = some (.cells #[.int .i64 a.line, .int .i64 a.col] 24) ∧ W.heap[w.heap.size + 1]? = some (.cells #[.int .i64 b.line, .int .i64 b.col] 24)) := Lib.hid fun W hW => ⟨heap_below hW k0, heap_below hW k1⟩
  have hs1 := hB.size
  have H1 := Lib.hid hB
  have hw0 : Below W1.heap.size W1 W1 := Below.refl _ _
  have HV : Hid (∀ W, Below W1.heap.size W1 W → LinsR W S v d) := Lib.hid fun W hW => h.below (rdLin_stable _) (hB.trans (hW.mono hs1))
  have HE : Hid (∀ W, Below W1.heap.size W1 W → EnvT W) := Lib.hid fun W hW => (he.below hB).below hW
  have HAl : Hid (∀ W, Below W1.heap.size W1 W → Calls Tryz.prog 80 #[v, .agg #[.int .i64 a.line, .int .i64 a.col], .agg #[.int .i64 b.line, .int .i64 b.col], .int .i64 15] W fun e w' => e = .returned (.bool (someL (cellsD d a b) 15)) ∧ Below W.heap.size W w') := Lib.hid fun W hW => by
    have := docSome_any v d a b 15 W S _ rfl (HV.out W hW) (HE.out W hW) hs
    rw [any_count'] at this
    exact this
  have HSe : Hid (∀ W, Below W1.heap.size W1 W → Calls Tryz.prog 97 #[v, .agg #[.int .i64 a.line, .int .i64 a.col], .agg #[.int .i64 b.line, .int .i64 b.col], .int .i64 0, .int .i64 15] W (DocSaid (setD 0 15 d a b) W)) := Lib.hid fun W hW => docSet_any v d a b 0 15 W S (HV.out W hW) (HE.out W hW) hs hf
  have HP : Hid (∀ p : Ps, posV p = .agg #[.int .i64 p.line, .int .i64 p.col]) := Lib.hid fun _ => rfl
  obtain ⟨p0, f0⟩ := blk k0
  obtain ⟨p1, f1⟩ := blk k1
  obtain ⟨va, vc, rfl⟩ := h.slice
  rw [HP.out a, HP.out b]
  generalize someL (cellsD d a b) 15 = r at *
  clear h he hs hf k0 k1 hB
  cases r
  · rw [if_neg (by simp)]
    go_enter Tryz.func101, Tryz.ntmps101
    go_wp2_with ((go_at_call 80; refine (HAl.out _ hw0).mono ?_; rintro e w2 ⟨rfl, hst2⟩; have hb2 := below_from hw0 hst2; skip))
    go_ret2
    exact ⟨_, rfl, SliceR.nil _ _ _ _ _ _, H1.out.trans (hb2.mono hs1)⟩
  · rw [if_pos rfl]
    go_enter Tryz.func101, Tryz.ntmps101
    go_wp2_with (first
      | (go_at_call 80; refine (HAl.out _ hw0).mono ?_; rintro e w2 ⟨rfl, hst2⟩; have hb2 := below_from hw0 hst2; obtain ⟨q0, g0⟩ := blk (HB.out _ hb2).1; obtain ⟨q1, g1⟩ := blk (HB.out _ hb2).2)
      | (go_at_call 97; refine (HSe.out _ hb2).mono ?_; intro e w3 hsaid; have hsaid := DocSaid.from hsaid (H1.out.trans (hb2.mono hs1)); obtain ⟨v3, rfl, hv3, hb3⟩ := hsaid))
    go_ret2
    exact ⟨_, rfl, hv3, hb3⟩
theorem st_val_st (w : World) (v : Value) (s : St) (u : Value) (t : TypeId) : ∃ W1, ((w.alloc (.cells #[v, .int .i64 s.anc.line, .int .i64 s.anc.col, .int .i64 s.foc.line, .int .i64 s.foc.col, .int .i64 s.on, .int .i64 s.off] 26)).alloc (.cells #[u] t)).alloc (.cells #[.slice none 0 0, .int .i64 0, .int .i64 0, .int .i64 0, .int .i64 0, .int .i64 0, .int .i64 0] 26) = W1 ∧ Below w.heap.size w W1 ∧ w.heap.size + 3 = W1.heap.size ∧
    W1.heap[w.heap.size]? = some (.cells #[v, .int .i64 s.anc.line, .int .i64 s.anc.col, .int .i64 s.foc.line, .int .i64 s.foc.col, .int .i64 s.on, .int .i64 s.off] 26) ∧ W1.heap[w.heap.size + 1]? = some (.cells #[u] t) ∧ W1.heap[w.heap.size + 2]? = some (.cells #[.slice none 0 0, .int .i64 0, .int .i64 0, .int .i64 0, .int .i64 0, .int .i64 0, .int .i64 0] 26) :=
  ⟨_, rfl, below3 (Below.refl _ _) _ _ _, by simp, heap_old _ _ (heap_old _ _ (heap_new _ _ rfl)), heap_old _ _ (heap_new _ _ (by simp)), heap_new _ _ (by simp)⟩
set_option maxRecDepth 100000 in
set_option maxHeartbeats 2000000 in
theorem styLink_any (v : Value) (s : St) (hr : List UInt8) (w : World) (S : Nat → Prop) (h : LinsR w S v s.lines) (he : EnvT w) (hs : Small s.lines) (hf : Fits s.lines) (hh : hr.length ≤ 1000000) :
    Calls Tryz.prog 30 #[stV v s, .string ⟨hr.toArray⟩] w (StSaid (changedS s (linkL s hr)) w) := by
  obtain ⟨W1, hW1, hB, hz, k0, k1, k2⟩ := st_val_st w v s (.string ⟨hr.toArray⟩) 9
  have HB : Hid (∀ W, Below W1.heap.size W1 W → W.heap[w.heap.size]? = some (.cells #[v, .int .i64 s.anc.line, .int .i64 s.anc.col, .int .i64 s.foc.line, .int .i64 s.foc.col, .int .i64 s.on, .int .i64 s.off] 26) ∧ W.heap[w.heap.size + 2]? = some (.cells #[.slice none 0 0, .int .i64 0, .int .i64 0, .int .i64 0, .int .i64 0, .int .i64 0, .int .i64 0] 26)) := Lib.hid fun W hW => ⟨heap_below hW k0, heap_below hW k2⟩
  have hs1 := hB.size
  have H1 := Lib.hid hB
  have HC := Lib.hid (styChanged_any v s 98 #[.pointer (some ⟨w.heap.size + 1, 0, none⟩)] (linkL s hr) W1 S (h.below (rdLin_stable _) hB) (he.below hB) hs (enters_of Tryz.func98 (by kernel_rfl) rfl)
    (fun _ W hW => styLink1_any (w.heap.size + 1) v s.lines (spanS s).1 (spanS s).2 hr W S (h.below (rdLin_stable _) (hB.trans (hW.mono hs1))) ((he.below hB).below hW) hs hf hh (heap_below hW k1)))
  obtain ⟨X, hX⟩ : ∃ X, changedS s (linkL s hr) = X := ⟨_, rfl⟩
  rw [hX] at HC ⊢
  obtain ⟨p0, f0⟩ := blk k0
  obtain ⟨p1, f1⟩ := blk k1
  obtain ⟨p2, f2⟩ := blk k2
  obtain ⟨va, vc, rfl⟩ := h.slice
  clear h he hs hf hh hX k0 k1 k2 hB
  go_enter Tryz.func30, Tryz.ntmps30
  go_wp2_with (go_at_call 95; refine HC.out.mono ?_; intro e w2 hsaid; obtain ⟨v2, rfl, hv2, hb2⟩ := hsaid; obtain ⟨a2, c2, rfl⟩ := hv2.slice; have HV2 := Lib.hid hv2; clear hv2; obtain ⟨q2, g2⟩ := blk (HB.out _ hb2).2)
  refine bodyPost_ret (results_st_e rfl _ _ (w.heap.size + 2) (.slice a2 X.1.lines.length c2) (.int .i64 X.1.anc.line) (.int .i64 X.1.anc.col) (.int .i64 X.1.foc.line) (.int .i64 X.1.foc.col) (.int .i64 X.1.on) (.int .i64 X.1.off) (.int .i64 X.2) rfl rfl (by simp [heap_set, putIn, (HB.out _ hb2).2])) rfl ?_
  have hfin := H1.out.trans (hb2.mono hs1)
  have hv2 := HV2.out
  exact ⟨_, rfl, (SliceR.stable (rdLin_stable _) hv2 (by (repeat' (first | (with_reducible exact Keeps.refl _ _) | (with_reducible refine Keeps.set ?_ ?_ _) | (with_reducible refine Keeps.alloc ?_ _) | (with_reducible refine Keeps.drew ?_) | (first | fail) | (simp; omega)))) (fun b h _ => (by have h' := h; (try simp at h'); omega))), by (repeat' (first | (with_reducible exact Below.refl _ _) | (with_reducible assumption) | (with_reducible refine Below.alloc ?_ ?_ _) | (with_reducible refine Below.drew ?_) | (with_reducible refine drewN_below ?_) | (with_reducible refine Below.setCell ?_ ?_ _) | go_size))⟩
set_option maxRecDepth 100000 in
set_option maxHeartbeats 2000000 in
theorem styPlain_any (v : Value) (s : St) (w : World) (S : Nat → Prop) (h : LinsR w S v s.lines) (he : EnvT w) (hs : Small s.lines) (hf : Fits s.lines) :
    Calls Tryz.prog 31 #[stV v s] w (StSaid (changedS s (plainL s)) w) := by
  obtain ⟨W1, hW1, hB, hz, k0, k2⟩ := st_two w v s
  have HB : Hid (∀ W, Below W1.heap.size W1 W → W.heap[w.heap.size]? = some (.cells #[v, .int .i64 s.anc.line, .int .i64 s.anc.col, .int .i64 s.foc.line, .int .i64 s.foc.col, .int .i64 s.on, .int .i64 s.off] 26) ∧ W.heap[w.heap.size + 1]? = some (.cells #[.slice none 0 0, .int .i64 0, .int .i64 0, .int .i64 0, .int .i64 0, .int .i64 0, .int .i64 0] 26)) := Lib.hid fun W hW => ⟨heap_below hW k0, heap_below hW k2⟩
  have hs1 := hB.size
  have H1 := Lib.hid hB
  have HC := Lib.hid (styChanged_any v s 101 #[] (plainL s) W1 S (h.below (rdLin_stable _) hB) (he.below hB) hs (enters_of Tryz.func101 (by kernel_rfl) rfl)
    (fun _ W hW => styPlain1_any v s.lines (spanS s).1 (spanS s).2 W S (h.below (rdLin_stable _) (hB.trans (hW.mono hs1))) ((he.below hB).below hW) hs hf))
  obtain ⟨X, hX⟩ : ∃ X, changedS s (plainL s) = X := ⟨_, rfl⟩
  rw [hX] at HC ⊢
  obtain ⟨p0, f0⟩ := blk k0
  obtain ⟨p2, f2⟩ := blk k2
  obtain ⟨va, vc, rfl⟩ := h.slice
  clear h he hs hf hX k0 k2 hB
  go_enter Tryz.func31, Tryz.ntmps31
  go_wp2_with (go_at_call 95; refine HC.out.mono ?_; intro e w2 hsaid; obtain ⟨v2, rfl, hv2, hb2⟩ := hsaid; obtain ⟨a2, c2, rfl⟩ := hv2.slice; have HV2 := Lib.hid hv2; clear hv2; obtain ⟨q2, g2⟩ := blk (HB.out _ hb2).2)
  refine bodyPost_ret (results_st_e rfl _ _ (w.heap.size + 1) (.slice a2 X.1.lines.length c2) (.int .i64 X.1.anc.line) (.int .i64 X.1.anc.col) (.int .i64 X.1.foc.line) (.int .i64 X.1.foc.col) (.int .i64 X.1.on) (.int .i64 X.1.off) (.int .i64 X.2) rfl rfl (by simp [heap_set, putIn, (HB.out _ hb2).2])) rfl ?_
  have hfin := H1.out.trans (hb2.mono hs1)
  have hv2 := HV2.out
  exact ⟨_, rfl, (SliceR.stable (rdLin_stable _) hv2 (by (repeat' (first | (with_reducible exact Keeps.refl _ _) | (with_reducible refine Keeps.set ?_ ?_ _) | (with_reducible refine Keeps.alloc ?_ _) | (with_reducible refine Keeps.drew ?_) | (first | fail) | (simp; omega)))) (fun b h _ => (by have h' := h; (try simp at h'); omega))), by (repeat' (first | (with_reducible exact Below.refl _ _) | (with_reducible assumption) | (with_reducible refine Below.alloc ?_ ?_ _) | (with_reducible refine Below.drew ?_) | (with_reducible refine drewN_below ?_) | (with_reducible refine Below.setCell ?_ ?_ _) | go_size))⟩
end Go.Proofs.YtpndnbjpnajaaaaGreatDoor
