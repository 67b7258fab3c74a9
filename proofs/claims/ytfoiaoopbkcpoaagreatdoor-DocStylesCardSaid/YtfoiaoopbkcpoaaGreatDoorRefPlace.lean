/- The walks of the reference's Size, End, Is, Clamp, Cmp. -/
import Derived.Test.YtfoiaoopbkcpoaaGreatDoorRefOwn
import Derived.Test.YtfoiaoopbkcpoaaGreatDoorDocPos
namespace Go.Proofs.YtfoiaoopbkcpoaaGreatDoor
open Go.RowKit
open Go.Proofs.Qw

set_option maxHeartbeats 1000000 in
theorem refSize_any (v : Value) (d : Doc) (w : World) (S : Nat → Prop) (h : LinsR w S v d) (hs : sizeD d ≤ 100000) :
    Calls Tryz.prog 16 #[v] w fun e w' => e = .returned (.int .i64 (sizeD d)) ∧ Below w.heap.size w w' := by
  obtain ⟨a, c, rfl, hc, hm, hx⟩ := lins_shape h
  have HX := Lib.hid hx
  clear hx h
  unfold maxLen at hm
  go_enter Tryz.func16, Tryz.ntmps16
  go_wp2_with fail
  go_loopw [3, 4] (fun n i wr => ∃ k : Nat, k ≤ d.length ∧ i = .int .i64 k ∧ n = .int .i64 (sizeD (d.take k)) ∧ Below w.heap.size w wr) (fun _ i _ => d.length - (intOf i).toNat)
  case atStart => exact ⟨0, Nat.zero_le _, rfl, rfl, Below.refl _ _⟩
  case round =>
    obtain ⟨k, hk, rfl, rfl, hb⟩ := hrel
    by_cases hlt : k < d.length
    · obtain ⟨l, hl, hd⟩ := getOf d k hlt
      obtain ⟨b, o, la, lc, ca, cc, rfl, hA⟩ := HX.out k l hl
      obtain ⟨_, c0, c1, c2, c3, _, _⟩ := hA.below hb
      have e1 := sizeD_step hl
      have e2 := sizeD_le d (k + 1)
      have HE := Lib.hid e1
      have hle : sizeD (d.take k) + l.cells.length ≤ 100000 := by omega
      clear hA hd hl e1 e2
      go_wp2_with fail
      go_roundw
      case rel =>
        refine ⟨k + 1, hlt, by go_num, ?_, hb⟩
        rw [HE.out]
        go_num
      case measure => simp [intOf]; omega
    · obtain rfl : k = d.length := by omega
      have HT : Hid (d.take d.length = d) := Lib.hid (List.take_length ..)
      have HB := Lib.hid hb
      clear hb
      go_wp2_with fail
      go_ret
      rw [HT.out]
      exact ⟨rfl, HB.out⟩

set_option maxHeartbeats 1000000 in
theorem refEnd_any (v : Value) (d : Doc) (w : World) (S : Nat → Prop) (h : LinsR w S v d) :
    Calls Tryz.prog 18 #[v] w fun e w' => e = .returned (posV (endD d)) ∧ Below w.heap.size w w' := by
  obtain ⟨a, c, rfl, hc, hm, hx⟩ := lins_shape h
  have HX := Lib.hid hx
  clear hx h
  unfold maxLen at hm
  go_enter Tryz.func18, Tryz.ntmps18
  rcases Nat.eq_zero_or_pos d.length with hz | hz
  · have hd : d = [] := List.length_eq_zero_iff.1 hz
    subst hd
    go_wp2_with fail
    go_returns
    exact ⟨rfl, by (repeat' (first | (with_reducible exact Below.refl _ _) | (with_reducible assumption) | (with_reducible refine Below.alloc ?_ ?_ _) | (with_reducible refine Below.drew ?_) | (with_reducible refine drewN_below ?_) | (with_reducible refine Below.setCell ?_ ?_ _) | go_size))⟩
  · obtain ⟨l, hl, hd⟩ := getOf d (d.length - 1) (by omega)
    obtain ⟨b, o, la, lc, ca, cc, rfl, hA⟩ := HX.out _ l hl
    obtain ⟨hlt, c0, c1, c2, c3, _, _⟩ := hA
    have hne : d ≠ [] := by intro e; subst e; cases hz
    have HE : Hid (endD d = ⟨d.length - 1, l.cells.length⟩) := Lib.hid (by
      unfold endD
      rw [if_neg hne, List.getLastD_eq_getLast?, List.getLast?_eq_getElem?, hl]
      rfl)
    have hi : ¬ ((d.length : Int) - 1 < 0) := by omega
    have ht : ((d.length : Int) - 1).toNat = d.length - 1 := by omega
    have hq : ((d.length : Int) == 0) = false := by simp; omega
    clear hd hl hne
    go_wp2_with fail
    go_returns
    rw [HE.out]
    exact ⟨rfl, by (repeat' (first | (with_reducible exact Below.refl _ _) | (with_reducible assumption) | (with_reducible refine Below.alloc ?_ ?_ _) | (with_reducible refine Below.drew ?_) | (with_reducible refine drewN_below ?_) | (with_reducible refine Below.setCell ?_ ?_ _) | go_size))⟩

set_option maxRecDepth 100000 in
set_option maxHeartbeats 1000000 in
theorem refIs_any (v : Value) (d : Doc) (p : Ps) (w : World) (S : Nat → Prop) (h : LinsR w S v d) :
    Calls Tryz.prog 20 #[v, posV p] w fun e w' => e = .returned (.bool (isD d p)) ∧ Below w.heap.size w w' := by
  obtain ⟨a, c, rfl, hc, hm, hx⟩ := lins_shape h
  have HX := Lib.hid hx
  clear hx h
  unfold maxLen at hm
  obtain ⟨i, j⟩ := p
  unfold posV
  go_enter Tryz.func20, Tryz.ntmps20
  by_cases hi : 0 ≤ i ∧ i < d.length
  · obtain ⟨i, rfl⟩ := Int.eq_ofNat_of_zero_le hi.1
    obtain ⟨l, hl, hd⟩ := getOf d i (by omega)
    obtain ⟨b, o, la, lc, ca, cc, rfl, hA⟩ := HX.out _ l hl
    obtain ⟨hlt, c0, c1, c2, c3, _, _⟩ := hA
    have HI := Lib.hid (isD_at (j := j) hl)
    clear hd hl
    have h1 : ((i : Int) < 0) = False := by simp
    rcases Bool.eq_false_or_eq_true (decide (0 ≤ j)) with hj | hj
    all_goals
      go_wp2_with fail
      go_quiet (fail)
      go_wp2_with fail
      go_ret
      refine ⟨?_, drewN_below (by go_grown)⟩
      rw [HI.out, hj]
      rfl
  · have hi' : decide (i < 0) = true ∨ (decide (i < 0) = false ∧ decide ((d.length : Int) ≤ i) = true) := by
      by_cases h1 : i < 0
      · exact .inl (decide_eq_true h1)
      · exact .inr ⟨decide_eq_false h1, decide_eq_true (by omega)⟩
    have HI := Lib.hid (isD_off (d := d) (j := j) hi)
    clear hi
    rcases hi' with hi | ⟨hi, hi2⟩
    all_goals
      go_wp2_with fail
      go_ret
      refine ⟨?_, by (repeat' (first | (with_reducible exact Below.refl _ _) | (with_reducible assumption) | (with_reducible refine Below.alloc ?_ ?_ _) | (with_reducible refine Below.drew ?_) | (with_reducible refine drewN_below ?_) | (with_reducible refine Below.setCell ?_ ?_ _) | go_size))⟩
      rw [HI.out]
      rfl

set_option maxRecDepth 100000 in
set_option maxHeartbeats 2000000 in
theorem refClamp_any (v : Value) (d : Doc) (p : Ps) (w : World) (S : Nat → Prop) (h : LinsR w S v d) :
    Calls Tryz.prog 22 #[v, posV p] w fun e w' => e = .returned (posV (clampD d p)) ∧ Below w.heap.size w w' := by
  have h' := h
  obtain ⟨a, c, rfl, hc, hm, hx⟩ := lins_shape h
  have HX := Lib.hid hx
  clear hx h
  unfold maxLen at hm
  obtain ⟨i, j⟩ := p
  unfold posV
  go_enter Tryz.func22, Tryz.ntmps22
  rcases Nat.eq_zero_or_pos d.length with hz | hz
  · have hd : d = [] := List.length_eq_zero_iff.1 hz
    subst hd
    go_wp2_with fail
    go_returns
    exact ⟨rfl, by (repeat' (first | (with_reducible exact Below.refl _ _) | (with_reducible assumption) | (with_reducible refine Below.alloc ?_ ?_ _) | (with_reducible refine Below.drew ?_) | (with_reducible refine drewN_below ?_) | (with_reducible refine Below.setCell ?_ ?_ _) | go_size))⟩
  · have hne : d ≠ [] := by intro e; subst e; cases hz
    have hq : ((d.length : Int) == 0) = false := by simp; omega
    by_cases hi : i < 0
    · have HI := Lib.hid (clampD_zero (d := d) (p := ⟨i, j⟩) (.inr hi))
      go_wp2_with fail
      go_returns
      rw [HI.out]
      exact ⟨rfl, by (repeat' (first | (with_reducible exact Below.refl _ _) | (with_reducible assumption) | (with_reducible refine Below.alloc ?_ ?_ _) | (with_reducible refine Below.drew ?_) | (with_reducible refine drewN_below ?_) | (with_reducible refine Below.setCell ?_ ?_ _) | go_size))⟩
    · by_cases hi2 : (d.length : Int) ≤ i
      · have HI := Lib.hid (clampD_end (d := d) (p := ⟨i, j⟩) (fun e => e.elim hne hi) hi2)
        have HE : Hid (∀ W, Below w.heap.size w W → Calls Tryz.prog 18 #[.slice a d.length c] W fun e w' => e = .returned (posV (endD d)) ∧ Below W.heap.size W w') := Lib.hid fun W hW => refEnd_any _ d W S (h'.below (rdLin_stable _) hW)
        clear h'
        go_wp2_with (go_at_call 18; refine (HE.out _ (by go_grown)).mono ?_; rintro e w1 ⟨rfl, hb⟩; unfold posV; obtain ⟨kc, kf⟩ := kept_block (heap_new _ _ (B := w.heap.size + 1) (by simp)) hb)
        have hg := (hb.block (w.heap.size + 1) (by simp)).trans (heap_new _ _ (by simp))
        refine bodyPost_ret (results_pos rfl _ _ _ _ _ rfl (setCell_heap (setCell_heap hg _) _)) rfl ?_
        rw [HI.out]
        exact ⟨rfl, (((((Below.refl w.heap.size w).alloc (Nat.le_refl _) _).alloc (by simp) _).trans (hb.mono (by simp; omega))).setCell (by simp) _).setCell (by simp) _⟩
      · obtain ⟨i, rfl⟩ := Int.eq_ofNat_of_zero_le (by omega : 0 ≤ i)
        obtain ⟨l, hl, hd⟩ := getOf d i (by omega)
        obtain ⟨b, o, la, lc, ca, cc, rfl, hA⟩ := HX.out _ l hl
        obtain ⟨hlt, c0, c1, c2, c3, _, _⟩ := hA
        have HI := Lib.hid (clampD_at (j := j) hl)
        have hcs : j < 0 ∨ (0 ≤ j ∧ (l.cells.length : Int) < j) ∨ (0 ≤ j ∧ j ≤ l.cells.length) := by omega
        clear hd hl h'
        rcases hcs with h1 | ⟨h1, h2⟩ | ⟨h1, h2⟩
        · have HM : Hid (min (max j 0) (l.cells.length : Int) = 0) := Lib.hid (by omega)
          go_wp2_with fail
          go_quiet (fail)
          go_wp2_with fail
          go_returns
          rw [HI.out, HM.out]
          exact ⟨rfl, by (repeat' (first | (with_reducible exact Below.refl _ _) | (with_reducible assumption) | (with_reducible refine Below.alloc ?_ ?_ _) | (with_reducible refine Below.drew ?_) | (with_reducible refine drewN_below ?_) | (with_reducible refine Below.setCell ?_ ?_ _) | go_size))⟩
        · have HM : Hid (min (max j 0) (l.cells.length : Int) = l.cells.length) := Lib.hid (by omega)
          go_wp2_with fail
          go_quiet (fail)
          go_wp2_with fail
          go_returns
          rw [HI.out, HM.out]
          exact ⟨rfl, by (repeat' (first | (with_reducible exact Below.refl _ _) | (with_reducible assumption) | (with_reducible refine Below.alloc ?_ ?_ _) | (with_reducible refine Below.drew ?_) | (with_reducible refine drewN_below ?_) | (with_reducible refine Below.setCell ?_ ?_ _) | go_size))⟩
        · have HM : Hid (min (max j 0) (l.cells.length : Int) = j) := Lib.hid (by omega)
          go_wp2_with fail
          go_quiet (fail)
          go_wp2_with fail
          go_returns
          rw [HI.out, HM.out]
          exact ⟨rfl, by (repeat' (first | (with_reducible exact Below.refl _ _) | (with_reducible assumption) | (with_reducible refine Below.alloc ?_ ?_ _) | (with_reducible refine Below.drew ?_) | (with_reducible refine drewN_below ?_) | (with_reducible refine Below.setCell ?_ ?_ _) | go_size))⟩

theorem run_eql_pos (p q : Ps) (w : World) : (binOp .eql 24 (.agg #[.int .i64 p.line, .int .i64 p.col]) (.agg #[.int .i64 q.line, .int .i64 q.col])).run Tryz.prog w = .ok (.bool (decide (p = q))) w := by
  have h1 : Tryz.prog.stoodInHeld 24 = false := by kernel_rfl
  have h2 : Tryz.prog.underlying 24 = some (.struct (Tryz.prog.fieldsOf 24)) := by kernel_rfl
  rw [run_eql_struct, show (10000:Nat) = 9999 + 1 from rfl, run_equalIn_agg _ _ _ _ _ h2 h1]
  simp [Tryz.underlying24, go_sem]
  obtain ⟨a, b⟩ := p
  obtain ⟨d, e⟩ := q
  simp only [Ps.mk.injEq]
  by_cases e1 : a = d <;> by_cases e2 : b = e <;> simp [e1, e2]
theorem guardPos : Tryz.prog.eqGuardType Tryz.prog.depth 24 = false := by kernel_rfl
set_option maxRecDepth 100000 in
set_option maxHeartbeats 2000000 in
theorem refCmp_any (p q : Ps) (w : World) :
    Calls Tryz.prog 24 #[posV p, posV q] w fun e w' => e = .returned (.int .i64 (cmpP p q)) ∧ Below w.heap.size w w' := by
  have hg := guardPos
  have hcs : (p = q ∧ cmpP p q = 0) ∨ (p ≠ q ∧ p.line < q.line ∧ cmpP p q = -1) ∨ (p ≠ q ∧ ¬ p.line < q.line ∧ (p.line == q.line) = true ∧ p.col < q.col ∧ cmpP p q = -1) ∨ (p ≠ q ∧ ¬ p.line < q.line ∧ (p.line == q.line) = true ∧ ¬ p.col < q.col ∧ cmpP p q = 1) ∨ (p ≠ q ∧ ¬ p.line < q.line ∧ (p.line == q.line) = false ∧ cmpP p q = 1) := by
    obtain ⟨a, b⟩ := p
    obtain ⟨d, e⟩ := q
    simp only [Ps.mk.injEq, cmpP, cmpI, ne_eq]
    by_cases h1 : a < d
    · simp [h1]; omega
    · by_cases h2 : d < a
      · simp [h1, h2]; omega
      · obtain rfl : a = d := by omega
        by_cases h3 : b < e
        · simp [h3]; omega
        · by_cases h4 : e < b
          · simp [h3, h4]; omega
          · obtain rfl : b = e := by omega
            simp
  have hq := fun (w : World) => run_eql_pos p q w
  have HP : Hid (posV p = .agg #[.int .i64 p.line, .int .i64 p.col]) := Lib.hid rfl
  have HQ : Hid (posV q = .agg #[.int .i64 q.line, .int .i64 q.col]) := Lib.hid rfl
  rw [HP.out, HQ.out]
  go_enter Tryz.func24, Tryz.ntmps24
  rcases hcs with ⟨h1, hr⟩ | ⟨h1, h2, hr⟩ | ⟨h1, h2, h3, h4, hr⟩ | ⟨h1, h2, h3, h4, hr⟩ | ⟨h1, h2, h3, hr⟩
  · have HR := Lib.hid hr
    have hd : decide (p = q) = true := decide_eq_true h1
    rw [hd] at hq
    clear h1 hr hd
    go_wp2_with fail
    go_ret
    rw [HR.out]
    exact ⟨rfl, by (repeat' (first | (with_reducible exact Below.refl _ _) | (with_reducible assumption) | (with_reducible refine Below.alloc ?_ ?_ _) | (with_reducible refine Below.drew ?_) | (with_reducible refine drewN_below ?_) | (with_reducible refine Below.setCell ?_ ?_ _) | go_size))⟩
  all_goals
    have HR := Lib.hid hr
    have hd : decide (p = q) = false := decide_eq_false h1
    rw [hd] at hq
    clear h1 hr hd
    go_wp2_with fail
    go_ret
    rw [HR.out]
    exact ⟨rfl, by (repeat' (first | (with_reducible exact Below.refl _ _) | (with_reducible assumption) | (with_reducible refine Below.alloc ?_ ?_ _) | (with_reducible refine Below.drew ?_) | (with_reducible refine drewN_below ?_) | (with_reducible refine Below.setCell ?_ ?_ _) | go_size))⟩
end Go.Proofs.YtfoiaoopbkcpoaaGreatDoor
