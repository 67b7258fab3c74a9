/- The walks of places, offsets, steps of package doc. -/
import Derived.Test.YtfoiaoopbkcpoaaGreatDoorCharWalk
import Derived.Handy
import Derived.Deep.RegionHeld3
import Derived.IntWalk
namespace Go.Proofs.YtfoiaoopbkcpoaaGreatDoor
open Go.RowKit
open Go.Proofs.Qw

theorem sizeD_step {d : Doc} {k : Nat} {l : Lin} (h : d[k]? = some l) : sizeD (d.take (k + 1)) = sizeD (d.take k) + l.cells.length := by
  unfold sizeD
  rw [List.take_add_one, h]
  simp
theorem sizeD_le (d : Doc) (k : Nat) : sizeD (d.take k) ≤ sizeD d := by
  conv => rhs; rw [← List.take_append_drop k d]
  unfold sizeD
  rw [List.map_append, List.sum_append]
  omega
theorem cells_le {d : Doc} {k : Nat} {l : Lin} (h : d[k]? = some l) : l.cells.length ≤ sizeD d := by
  have := sizeD_step h
  have := sizeD_le d (k + 1)
  omega

set_option maxHeartbeats 1000000 in
theorem size_any (v : Value) (d : Doc) (w w0 : World) (S : Nat → Prop) (h : LinsR w0 S v d) (h0 : Below w0.heap.size w0 w) (hs : sizeD d ≤ 100000) :
    Calls Tryz.prog 15 #[v] w fun e w' => e = .returned (.int .i64 (sizeD d)) ∧ Below w.heap.size w w' := by
  obtain ⟨a, c, rfl, hc, hm, hx⟩ := lins_shape h
  have HX := Lib.hid hx
  clear hx h
  unfold maxLen at hm
  go_enter Tryz.func15, Tryz.ntmps15
  go_wp2_with fail
  go_loopw [3, 8] (fun n i wr => ∃ k : Nat, k ≤ d.length ∧ i = .int .i64 k ∧ n = .int .i64 (sizeD (d.take k)) ∧ Below w.heap.size w wr) (fun _ i _ => d.length - (intOf i).toNat)
  case atStart => exact ⟨0, Nat.zero_le _, rfl, rfl, Below.refl _ _⟩
  case round =>
    obtain ⟨k, hk, rfl, rfl, hb⟩ := hrel
    by_cases hlt : k < d.length
    · obtain ⟨l, hl, hd⟩ := getOf d k hlt
      obtain ⟨b, o, la, lc, ca, cc, rfl, hA⟩ := HX.out k l hl
      obtain ⟨_, c0, c1, c2, c3, _, _⟩ := hA.below (below_from h0 hb)
      have e1 := sizeD_step hl
      have e2 := sizeD_le d (k + 1)
      have HE := Lib.hid e1
      have hle : sizeD (d.take k) + l.cells.length ≤ 100000 := by omega
      clear hA hd hl e1 e2
      go_wp2_with fail
      go_roundw
      case rel =>
        refine ⟨k + 1, hlt, by go_num, ?_, hb.alloc hb.size _⟩
        rw [HE.out]
        go_num
      case measure => simp [intOf]; omega
    · obtain rfl : k = d.length := by omega
      have HT : Hid (d.take d.length = d) := Lib.hid (List.take_length ..)
      have HB := Lib.hid hb
      clear hb
      go_wp2_with fail
      go_ret
      rw [HT.out]
      exact ⟨rfl, HB.out⟩

/-- A result that is a place, out of its own block. -/
theorem results_pos {fn : Func} {p : Tmp} (h : fn.results = #[.cell p 24]) (tmps : Array Value) (w : World) (B : Nat) (u v : Value) {f : Nat × Nat} (hp : tmps.getD p undef = .pointer (some ⟨B, 0, none⟩)) (hg : w.heap[B]? = some (.cells #[u, v] 24 f)) :
    (results fn tmps).run Tryz.prog w = .ok (.agg #[u, v]) w :=
  results_cell_row h tmps w B _ _ f _ hp hg Tryz.underlying24 rfl (by kernel_rfl)
/-- A place as a value. -/
def posV (p : Ps) : Value := .agg #[.int .i64 p.line, .int .i64 p.col]

set_option maxHeartbeats 1000000 in
theorem end_any (v : Value) (d : Doc) (w w0 : World) (S : Nat → Prop) (h : LinsR w0 S v d) (h0 : Below w0.heap.size w0 w) :
    Calls Tryz.prog 17 #[v] w fun e w' => e = .returned (posV (endD d)) ∧ Below w.heap.size w w' := by
  obtain ⟨a, c, rfl, hc, hm, hx⟩ := lins_shape h
  have HX := Lib.hid hx
  clear hx h
  unfold maxLen at hm
  go_enter Tryz.func17, Tryz.ntmps17
  rcases Nat.eq_zero_or_pos d.length with hz | hz
  · have hd : d = [] := List.length_eq_zero_iff.1 hz
    subst hd
    go_wp2_with fail
    go_returns
    exact ⟨rfl, (Below.refl _ _).alloc (Nat.le_refl _) _⟩
  · obtain ⟨l, hl, hd⟩ := getOf d (d.length - 1) (by omega)
    obtain ⟨b, o, la, lc, ca, cc, rfl, hA⟩ := HX.out _ l hl
    obtain ⟨_, c0, c1, c2, c3, _, _⟩ := hA.below h0
    have hne : d ≠ [] := by intro e; subst e; cases hz
    have HE : Hid (endD d = ⟨d.length - 1, l.cells.length⟩) := Lib.hid (by
      unfold endD
      rw [if_neg hne, List.getLastD_eq_getLast?, List.getLast?_eq_getElem?, hl]
      rfl)
    have hi : ¬ ((d.length : Int) - 1 < 0) := by omega
    have ht : ((d.length : Int) - 1).toNat = d.length - 1 := by omega
    clear hA hd hl hne
    go_wp2_with fail
    go_returns
    rw [HE.out]
    exact ⟨rfl, (Below.refl _ _).alloc (Nat.le_refl _) _⟩

theorem isD_at {d : Doc} {i : Nat} {j : Int} {l : Lin} (h : d[i]? = some l) : isD d ⟨i, j⟩ = (decide (0 ≤ j) && decide (j ≤ l.cells.length)) := by
  have hi := (List.getElem?_eq_some_iff.1 h).1
  unfold isD
  have e : d.getD i default = l := by simp [List.getD, h]
  simp [hi]
  rw [show d[i] = l by simpa [h] using (List.getElem?_eq_getElem hi).symm]
theorem isD_off {d : Doc} {i j : Int} (h : ¬ (0 ≤ i ∧ i < d.length)) : isD d ⟨i, j⟩ = false := by
  unfold isD
  by_cases h0 : 0 ≤ i
  · rw [decide_eq_false (p := i < d.length) (by omega)]; simp
  · rw [decide_eq_false h0]; simp

set_option maxHeartbeats 1000000 in
theorem is_any (v : Value) (d : Doc) (p : Ps) (w w0 : World) (S : Nat → Prop) (h : LinsR w0 S v d) (h0 : Below w0.heap.size w0 w) :
    Calls Tryz.prog 19 #[v, posV p] w fun e w' => e = .returned (.bool (isD d p)) ∧ Below w.heap.size w w' := by
  obtain ⟨a, c, rfl, hc, hm, hx⟩ := lins_shape h
  have HX := Lib.hid hx
  clear hx h
  unfold maxLen at hm
  obtain ⟨i, j⟩ := p
  unfold posV
  go_enter Tryz.func19, Tryz.ntmps19
  by_cases hi : 0 ≤ i ∧ i < d.length
  · obtain ⟨i, rfl⟩ := Int.eq_ofNat_of_zero_le hi.1
    obtain ⟨l, hl, hd⟩ := getOf d i (by omega)
    obtain ⟨b, o, la, lc, ca, cc, rfl, hA⟩ := HX.out _ l hl
    obtain ⟨_, c0, c1, c2, c3, _, _⟩ := (hA.below h0).below ((Below.refl _ _).alloc (Nat.le_refl _) (.cells #[.int .i64 i, .int .i64 j] 24))
    have HI := Lib.hid (isD_at (j := j) hl)
    clear hA hd hl
    have h1 : ((i : Int) < 0) = False := by simp
    rcases Bool.eq_false_or_eq_true (decide (0 ≤ j)) with hj | hj
    all_goals
      go_wp2_with fail
      go_region
      go_wp2_with fail
      go_ret
      refine ⟨?_, ((Below.refl _ _).alloc (Nat.le_refl _) _).drew⟩
      rw [HI.out, hj]
      rfl
  · have hi' : decide (0 ≤ i) = false ∨ (decide (0 ≤ i) = true ∧ decide (i < d.length) = false) := by
      by_cases h1 : 0 ≤ i
      · exact .inr ⟨decide_eq_true h1, decide_eq_false (by omega)⟩
      · exact .inl (decide_eq_false h1)
    have HI := Lib.hid (isD_off (d := d) (j := j) hi)
    clear hi
    rcases hi' with hi | ⟨hi, hi2⟩
    all_goals
      go_wp2_with fail
      go_region
      go_wp2_with fail
      go_ret
      refine ⟨?_, ((Below.refl _ _).alloc (Nat.le_refl _) _).drew⟩
      rw [HI.out]
      rfl

theorem clampD_zero {d : Doc} {p : Ps} (h : d = [] ∨ p.line < 0) : clampD d p = ⟨0, 0⟩ := by unfold clampD; rw [if_pos h]
theorem clampD_end {d : Doc} {p : Ps} (h : ¬ (d = [] ∨ p.line < 0)) (h2 : (d.length : Int) ≤ p.line) : clampD d p = endD d := by unfold clampD; rw [if_neg h, if_pos h2]
theorem clampD_at {d : Doc} {i : Nat} {j : Int} {l : Lin} (h : d[i]? = some l) : clampD d ⟨i, j⟩ = ⟨i, min (max j 0) (l.cells.length : Int)⟩ := by
  have hi := (List.getElem?_eq_some_iff.1 h).1
  unfold clampD
  rw [if_neg (by rintro (e | e); · subst e; cases h
                 · simp at e; omega), if_neg (by simp; omega)]
  simp [List.getD, h]

set_option maxHeartbeats 1000000 in
theorem clamp_any (v : Value) (d : Doc) (p : Ps) (w w0 : World) (S : Nat → Prop) (h : LinsR w0 S v d) (h0 : Below w0.heap.size w0 w) :
    Calls Tryz.prog 21 #[v, posV p] w fun e w' => e = .returned (posV (clampD d p)) ∧ Below w.heap.size w w' := by
  have h' := h
  obtain ⟨a, c, rfl, hc, hm, hx⟩ := lins_shape h
  have HX := Lib.hid hx
  clear hx h
  unfold maxLen at hm
  obtain ⟨i, j⟩ := p
  unfold posV
  go_enter Tryz.func21, Tryz.ntmps21
  rcases Nat.eq_zero_or_pos d.length with hz | hz
  · have hd : d = [] := List.length_eq_zero_iff.1 hz
    subst hd
    go_wp2_with fail
    go_returns
    exact ⟨rfl, ((Below.refl _ _).alloc (Nat.le_refl _) _).alloc (by simp) _⟩
  · have hne : d ≠ [] := by intro e; subst e; cases hz
    by_cases hi : i < 0
    · have HI := Lib.hid (clampD_zero (d := d) (p := ⟨i, j⟩) (.inr hi))
      go_wp2_with fail
      go_returns
      rw [HI.out]
      exact ⟨rfl, ((Below.refl _ _).alloc (Nat.le_refl _) _).alloc (by simp) _⟩
    · by_cases hi2 : (d.length : Int) ≤ i
      · have HI := Lib.hid (clampD_end (d := d) (p := ⟨i, j⟩) (fun e => e.elim hne hi) hi2)
        go_wp2_with (go_at_call 17; refine (end_any _ d _ w0 S h' (below_from h0 (((Below.refl _ _).alloc (Nat.le_refl _) _).alloc (by simp) _))).mono ?_; rintro e w1 ⟨rfl, hb⟩; unfold posV; obtain ⟨kc, kf⟩ := kept_block (heap_new _ _ (B := w.heap.size + 1) (by simp)) hb; have k0 := kc 0; have k1 := kc 1; have f0 := kf 0; have f1 := kf 1; clear kc kf; simp at k0 k1)
        have hg := (hb.block (w.heap.size + 1) (by simp)).trans (heap_new _ _ (by simp))
        refine bodyPost_ret (results_pos rfl _ _ _ _ _ rfl (setCell_heap (setCell_heap hg _) _)) rfl ?_
        rw [HI.out]
        exact ⟨rfl, (((((Below.refl w.heap.size w).alloc (Nat.le_refl _) _).alloc (by simp) _).trans (hb.mono (by simp; omega))).setCell (by simp) _).setCell (by simp) _⟩
      · obtain ⟨i, rfl⟩ := Int.eq_ofNat_of_zero_le (by omega : 0 ≤ i)
        obtain ⟨l, hl, hd⟩ := getOf d i (by omega)
        obtain ⟨b, o, la, lc, ca, cc, rfl, hA⟩ := HX.out _ l hl
        have hb1 : Below w0.heap.size w0 ((w.alloc (.cells #[.int .i64 i, .int .i64 j] 24)).alloc (.cells #[.int .i64 0, .int .i64 0] 24)) := below_from h0 (((Below.refl _ _).alloc (Nat.le_refl _) _).alloc (by simp) _)
        obtain ⟨_, c0, c1, c2, c3, _, _⟩ := hA.below hb1
        have HI := Lib.hid (clampD_at (j := j) hl)
        clear hA hd hl
        go_wp2_with fail
        go_region
        go_wp2_with fail
        refine bodyPost_ret (results_pos rfl _ _ _ _ _ rfl (heap_new _ _ (by simp))) rfl ?_
        rw [HI.out]
        exact ⟨rfl, by go_grown⟩
end Go.Proofs.YtfoiaoopbkcpoaaGreatDoor
namespace Go.Proofs.YtfoiaoopbkcpoaaGreatDoor
open Go.RowKit
open Go.Proofs.Qw

/-- The number of a place. -/
def offD (d : Doc) (p : Ps) : Int × Int := if isD d p = true then ((sizeD (d.take p.line.toNat) : Int) + p.line + p.col, 0) else (0, 1)

set_option maxHeartbeats 1000000 in
theorem offset_any (v : Value) (d : Doc) (p : Ps) (w w0 : World) (S : Nat → Prop) (h : LinsR w0 S v d) (h0 : Below w0.heap.size w0 w) (hs : sizeD d ≤ 100000) (hl : d.length ≤ 100000) :
    Calls Tryz.prog 25 #[v, posV p] w fun e w' => e = .returned (.tuple #[.int .i64 (offD d p).1, .int .i64 (offD d p).2]) ∧ Below w.heap.size w w' := by
  have hT := fun (i : Nat) (hi : i ≤ d.length) => (show ∀ v, LinsR w0 S v d → ∃ a n c, v = .slice a n c ∧ LinsR w0 S (.slice a i c) (d.take i) from fun v h => by obtain ⟨a, c, rfl⟩ := h.slice; exact ⟨a, _, c, rfl, h.take hi⟩) v h
  obtain ⟨a, c, rfl⟩ := h.slice
  have hc := h.len.2
  unfold maxLen at hc
  obtain ⟨i, j⟩ := p
  have hb1 : Below w0.heap.size w0 (w.alloc (.cells #[.int .i64 i, .int .i64 j] 24)) := below_from h0 ((Below.refl _ _).alloc (Nat.le_refl _) _)
  obtain ⟨r, hr⟩ : ∃ r, isD d ⟨i, j⟩ = r := ⟨_, rfl⟩
  have HO : Hid (offD d ⟨i, j⟩ = if r = true then ((sizeD (d.take i.toNat) : Int) + i + j, 0) else (0, 1)) := Lib.hid (by unfold offD; rw [hr])
  have HR : Hid (r = true → 0 ≤ i ∧ i < d.length ∧ 0 ≤ j ∧ j ≤ 100000) := Lib.hid (fun hh => by
    rw [hh] at hr
    by_cases hi : 0 ≤ i ∧ i < d.length
    · obtain ⟨i, rfl⟩ := Int.eq_ofNat_of_zero_le hi.1
      obtain ⟨l, hl, hd⟩ := getOf d i (by omega)
      rw [isD_at hl] at hr
      have := cells_le hl
      simp at hr
      omega
    · rw [isD_off hi] at hr
      cases hr)
  have HC : Hid (∀ w, Below w0.heap.size w0 w → Calls Tryz.prog 19 #[.slice a d.length c, .agg #[.int .i64 i, .int .i64 j]] w fun e w' => e = .returned (.bool r) ∧ Below w.heap.size w w') := Lib.hid (fun w hw => hr ▸ is_any _ d ⟨i, j⟩ w w0 S h hw)
  clear hr
  unfold posV
  go_enter Tryz.func25, Tryz.ntmps25
  go_wp2_with (go_at_call 19; refine (HC.out _ hb1).mono ?_; rintro e w1 ⟨rfl, hb⟩; obtain ⟨kc, kf⟩ := kept_block (heap_new _ _ (B := w.heap.size) rfl) hb; have k0 := kc 0; have k1 := kc 1; clear kc kf; simp at k0 k1; cases r)
  · go_ret2
    rw [HO.out]
    exact ⟨rfl, ((Below.refl _ _).alloc (Nat.le_refl _) _).trans (hb.mono (by simp))⟩
  · obtain ⟨g1, g2, g3, g4⟩ := (show 0 ≤ i ∧ i < d.length ∧ 0 ≤ j ∧ j ≤ 100000 by simpa using HR.out)
    obtain ⟨i, rfl⟩ := Int.eq_ofNat_of_zero_le g1
    obtain ⟨_, _, _, e, ht⟩ := hT i (by omega)
    cases e
    have hle := sizeD_le d i
    have HO2 : Hid (offD d ⟨i, j⟩ = ((sizeD (d.take i) : Int) + i + j, 0)) := Lib.hid HO.out
    have hb2 : Below w0.heap.size w0 w1.drew := (below_from hb1 hb).drew
    have hb3 : Below w.heap.size w w1.drew := (((Below.refl _ _).alloc (Nat.le_refl _) _).trans (hb.mono (by simp))).drew
    have kk0 : w1.drew.cell? ⟨w.heap.size, 0, none⟩ = some (.int .i64 i) := k0
    have kk1 : w1.drew.cell? ⟨w.heap.size, 1, none⟩ = some (.int .i64 j) := k1
    have kz : w.heap.size < w1.drew.heap.size := Nat.lt_of_lt_of_le (by simp) hb.size
    have hic : i ≤ c := by omega
    have w1e : IntKind.i64.wrap ((sizeD (d.take i) : Int) + i) = (sizeD (d.take i) : Int) + i := IntWalk.i64_in _ (by omega)
    have w2e : IntKind.i64.wrap ((sizeD (d.take i) : Int) + i + j) = (sizeD (d.take i) : Int) + i + j := IntWalk.i64_in _ (by omega)
    clear hT HC HO HR hb hb1
    go_region_held3 (fun w' => w'.cell? ⟨w.heap.size, 0, none⟩ = some (.int .i64 i) ∧ w'.cell? ⟨w.heap.size, 1, none⟩ = some (.int .i64 j)) (first | (constructor <;> assumption))
      (first
        | (go_at_call 15; refine (size_any _ (d.take i) _ w0 S ht hb2 (by omega)).mono ?_; rintro e w2 ⟨rfl, hb4⟩; have q0 := (hb4.cell (p := ⟨w.heap.size, 0, none⟩) kz).trans kk0; have q1 := (hb4.cell (p := ⟨w.heap.size, 1, none⟩) kz).trans kk1))
    go_wp2_with fail
    go_ret2
    rw [HO2.out]
    exact ⟨rfl, hb3.trans (hb4.mono (Nat.le_of_lt kz))⟩

/-- A result that is a place, and one more. -/
theorem results_pos2 {fn : Func} {p u : Tmp} (h : fn.results = #[.cell p 24, .tmp u]) (tmps : Array Value) (w : World) (B : Nat) (x y : Value) {f : Nat × Nat} (hp : tmps.getD p undef = .pointer (some ⟨B, 0, none⟩)) (hg : w.heap[B]? = some (.cells #[x, y] 24 f)) :
    (results fn tmps).run Tryz.prog w = .ok (.tuple #[.agg #[x, y], tmps.getD u undef]) w := by
  have hl := run_loadVar_row (P := Tryz.prog) w B 24 24 _ f _ hg Tryz.underlying24 rfl (by kernel_rfl)
  rw [results_cell_tmp h, hp]
  simp only [asAddr, Sem.run_pure, Result.andThen_ok]
  rw [hl]
  simp only [Result.andThen_ok]
/-- The place of a number. -/
def atGo : Nat → Doc → Int → Ps × Int
  | _, [], _ => (⟨0, 0⟩, 1)
  | i, l :: d, n => if n < 0 then (⟨0, 0⟩, 1) else if n ≤ l.cells.length then (⟨i, n⟩, 0) else atGo (i + 1) d (n - (l.cells.length + 1))
def atD (d : Doc) (n : Int) : Ps × Int := atGo 0 d n
theorem atGo_neg {i : Nat} {d : Doc} {n : Int} (h : n < 0) : atGo i d n = (⟨0, 0⟩, 1) := by
  cases d <;> simp [atGo, h]

set_option maxHeartbeats 1000000 in
theorem at_any (v : Value) (d : Doc) (n : Int) (w w0 : World) (S : Nat → Prop) (h : LinsR w0 S v d) (h0 : Below w0.heap.size w0 w) (hs : sizeD d ≤ 100000) (hn : -9223372036854775808 ≤ n ∧ n ≤ 9223372036854775807) :
    Calls Tryz.prog 27 #[v, .int .i64 n] w fun e w' => e = .returned (.tuple #[posV (atD d n).1, .int .i64 (atD d n).2]) ∧ Below w.heap.size w w' := by
  obtain ⟨a, c, rfl, hc, hm, hx⟩ := lins_shape h
  have HX := Lib.hid hx
  clear hx h
  unfold maxLen at hm
  unfold posV
  go_enter Tryz.func27, Tryz.ntmps27
  go_wp2_with fail
  obtain ⟨W1, hW1⟩ : ∃ W1, w.alloc (.cells #[.int .i64 0, .int .i64 0] 24) = W1 := ⟨_, rfl⟩
  have hz : W1.heap.size = w.heap.size + 1 := by rw [← hW1]; simp
  have hB : Below w.heap.size w W1 := hW1 ▸ (Below.refl _ _).alloc (Nat.le_refl _) _
  have hk : W1.heap[w.heap.size]? = some (.cells #[.int .i64 0, .int .i64 0] 24) := hW1 ▸ heap_new _ _ rfl
  rw [hW1]
  clear hW1
  have HN : Hid (atD d n = atGo 0 (d.drop 0) n) := Lib.hid rfl
  go_loopw [1, 10] (fun m i wr => ∃ (k : Nat) (mm : Int), k ≤ d.length ∧ i = .int .i64 k ∧ m = .int .i64 mm ∧ atD d n = atGo k (d.drop k) mm ∧ mm ≤ 9223372036854775807 ∧ -9223372036854775808 ≤ mm ∧ Below W1.heap.size W1 wr) (fun _ i _ => d.length - (intOf i).toNat)
  case atStart => exact ⟨0, n, Nat.zero_le _, rfl, rfl, HN.out, hn.2, hn.1, Below.refl _ _⟩
  case round =>
    obtain ⟨k, m, hk2, rfl, rfl, hg, hm1, hm2, hb⟩ := hrel
    have hb0 : Below w.heap.size w wr := hB.trans (hb.mono (by omega))
    have hsz := hb.size
    have hkk := (hb.block w.heap.size (by omega)).trans hk
    obtain ⟨kc, kf⟩ := kept_block hk hb
    have k0 := kc 0
    have k1 := kc 1
    have f0 := kf 0
    have f1 := kf 1
    clear kc kf
    simp at k0 k1
    have ff : ∀ (X : Obj) o, (wr.alloc X).frozen? ⟨w.heap.size, o, none⟩ = false := fun X o => by rw [World.frozen?, heap_old _ X hkk]; simp
    have fc0 : ∀ (X : Obj), (wr.alloc X).cell? ⟨w.heap.size, 0, none⟩ = some (.int .i64 0) := fun X => cell_of_heap (heap_old _ X hkk)
    have fc1 : ∀ (X : Obj), (wr.alloc X).cell? ⟨w.heap.size, 1, none⟩ = some (.int .i64 0) := fun X => cell_of_heap (heap_old _ X hkk)
    by_cases hlt : k < d.length
    · obtain ⟨l, hl, hd⟩ := getOf d k hlt
      obtain ⟨b, o, la, lc, ca, cc, rfl, hA⟩ := HX.out k l hl
      obtain ⟨_, c0, c1, c2, c3, _, _⟩ := hA.below (below_from h0 hb0)
      have hle := cells_le hl
      rw [hd] at hg
      have HG := Lib.hid hg
      clear hA hd hl hg
      by_cases hneg : m < 0
      · have HG2 : Hid (atD d n = (⟨0, 0⟩, 1)) := Lib.hid (HG.out.trans (atGo_neg hneg))
        go_wp2_with fail
        refine bodyPost_ret (results_pos2 rfl _ _ _ _ _ rfl (setCell_heap (setCell_heap (heap_old _ _ hkk) _) _)) rfl ?_
        rw [HG2.out]
        exact ⟨rfl, by go_grown⟩
      · by_cases hin : m ≤ l.cells.length
        · have HG2 : Hid (atD d n = (⟨k, m⟩, 0)) := Lib.hid (HG.out.trans (by rw [atGo, if_neg hneg, if_pos hin]))
          go_wp2_with fail
          refine bodyPost_ret (results_pos2 rfl _ _ _ _ _ rfl (setCell_heap (setCell_heap (heap_old _ _ hkk) _) _)) rfl ?_
          rw [HG2.out]
          exact ⟨rfl, by go_grown⟩
        · go_wp2_with fail
          go_roundw
          case rel =>
            refine ⟨k + 1, m - (l.cells.length + 1), hlt, by go_num, by go_num, ?_, by omega, by omega, hb.alloc hsz _⟩
            rw [HG.out, atGo, if_neg hneg, if_neg hin]
          case measure => simp [intOf]; omega
    · obtain rfl : k = d.length := by omega
      have HG : Hid (atD d n = (⟨0, 0⟩, 1)) := Lib.hid (by rw [hg, List.drop_eq_nil_of_le (Nat.le_refl _)]; rfl)
      clear hg
      go_wp2_with fail
      refine bodyPost_ret (results_pos2 rfl _ _ _ _ _ rfl (setCell_heap (setCell_heap hkk _) _)) rfl ?_
      rw [HG.out]
      exact ⟨rfl, by go_grown⟩
end Go.Proofs.YtfoiaoopbkcpoaaGreatDoor
namespace Go.Proofs.YtfoiaoopbkcpoaaGreatDoor
open Go.RowKit
open Go.Proofs.Qw

/-- So many steps on. -/
def stepD (d : Doc) (p : Ps) (by' : Int) : Ps × Bool :=
  if d = [] then (⟨0, 0⟩, false)
  else if by' < -(offD d (clampD d p)).1 then (⟨0, 0⟩, false)
  else if (offD d (endD d)).1 - (offD d (clampD d p)).1 < by' then (endD d, false)
  else ((atD d ((offD d (clampD d p)).1 + by')).1, true)
theorem offD_bound {d : Doc} (p : Ps) (hs : sizeD d ≤ 100000) (hl : d.length ≤ 100000) : 0 ≤ (offD d p).1 ∧ (offD d p).1 ≤ 300000 := by
  unfold offD
  split
  · rename_i h
    obtain ⟨i, j⟩ := p
    by_cases hi : 0 ≤ i ∧ i < d.length
    · obtain ⟨i, rfl⟩ := Int.eq_ofNat_of_zero_le hi.1
      obtain ⟨l, hl, hd⟩ := getOf d i (by omega)
      rw [isD_at hl] at h
      have := cells_le hl
      have := sizeD_le d i
      simp at h
      simp
      omega
    · rw [isD_off hi] at h
      cases h
  · simp

set_option maxHeartbeats 2000000 in
theorem step_any (v : Value) (d : Doc) (p : Ps) (m : Int) (w w0 : World) (S : Nat → Prop) (h : LinsR w0 S v d) (h0 : Below w0.heap.size w0 w) (hs : sizeD d ≤ 100000) (hl : d.length ≤ 100000) (hm : -9223372036854775808 ≤ m ∧ m ≤ 9223372036854775807) :
    Calls Tryz.prog 29 #[v, posV p, .int .i64 m] w fun e w' => e = .returned (.tuple #[posV (stepD d p m).1, .bool (stepD d p m).2]) ∧ Below w.heap.size w w' := by
  obtain ⟨b1, b2⟩ := offD_bound (d := d) (clampD d p) hs hl
  obtain ⟨b3, b4⟩ := offD_bound (d := d) (endD d) hs hl
  have HST : Hid (d ≠ [] → stepD d p m = if m < -(offD d (clampD d p)).1 then (⟨0, 0⟩, false)
      else if (offD d (endD d)).1 - (offD d (clampD d p)).1 < m then (endD d, false)
      else ((atD d ((offD d (clampD d p)).1 + m)).1, true)) := Lib.hid (fun hne => by rw [stepD, if_neg hne])
  have HC1 : Hid (∀ w, Below w0.heap.size w0 w → Calls Tryz.prog 21 #[v, posV p] w fun e w' => e = .returned (posV (clampD d p)) ∧ Below w.heap.size w w') := Lib.hid (fun w hw => clamp_any v d p w w0 S h hw)
  have HC2 : Hid (∀ q w, Below w0.heap.size w0 w → Calls Tryz.prog 25 #[v, posV q] w fun e w' => e = .returned (.tuple #[.int .i64 (offD d q).1, .int .i64 (offD d q).2]) ∧ Below w.heap.size w w') := Lib.hid (fun q w hw => offset_any v d q w w0 S h hw hs hl)
  have HC3 : Hid (∀ w, Below w0.heap.size w0 w → Calls Tryz.prog 17 #[v] w fun e w' => e = .returned (posV (endD d)) ∧ Below w.heap.size w w') := Lib.hid (fun w hw => end_any v d w w0 S h hw)
  have HC4 : Hid (∀ n w, Below w0.heap.size w0 w → -9223372036854775808 ≤ n ∧ n ≤ 9223372036854775807 → Calls Tryz.prog 27 #[v, .int .i64 n] w fun e w' => e = .returned (.tuple #[posV (atD d n).1, .int .i64 (atD d n).2]) ∧ Below w.heap.size w w') := Lib.hid (fun n w hw hn => at_any v d n w w0 S h hw hs hn)
  obtain ⟨a, c, rfl⟩ := h.slice
  clear h
  have HP : Hid (posV p = .agg #[.int .i64 p.line, .int .i64 p.col]) := Lib.hid rfl
  have hb1 : Below w0.heap.size w0 ((w.alloc (.cells #[.int .i64 p.line, .int .i64 p.col] 24)).alloc (.cells #[.int .i64 0, .int .i64 0] 24)) := below_from h0 (((Below.refl _ _).alloc (Nat.le_refl _) _).alloc (by simp) _)
  rw [HP.out]
  go_enter Tryz.func29, Tryz.ntmps29
  rcases Nat.eq_zero_or_pos d.length with hz | hz
  · have hd : d = [] := List.length_eq_zero_iff.1 hz
    subst hd
    go_wp2_with fail
    refine bodyPost_ret (results_pos2 rfl _ _ _ _ _ rfl (heap_new _ _ (by simp))) rfl ?_
    exact ⟨rfl, by go_grown⟩
  · have hne : d ≠ [] := by intro e; subst e; cases hz
    have HST := Lib.hid (HST.out hne)
    have hg0 : (((w.alloc (.cells #[.int .i64 p.line, .int .i64 p.col] 24)).alloc (.cells #[.int .i64 0, .int .i64 0] 24))).heap[w.heap.size + 1]? = some (.cells #[.int .i64 0, .int .i64 0] 24) := heap_new _ _ (by simp)
    have hbw : Below w.heap.size w ((w.alloc (.cells #[.int .i64 p.line, .int .i64 p.col] 24)).alloc (.cells #[.int .i64 0, .int .i64 0] 24)) := (((Below.refl _ _).alloc (Nat.le_refl _) _).alloc (by simp) _)
    have hzz : w.heap.size + 2 = ((w.alloc (.cells #[.int .i64 p.line, .int .i64 p.col] 24)).alloc (.cells #[.int .i64 0, .int .i64 0] 24)).heap.size := by simp
    go_wp2_with (go_at_call 21; refine (HC1.out _ hb1).mono ?_; rintro e w1 ⟨rfl, hb⟩)
    have hx1 := below_from hb1 hb
    go_wp2_with (go_at_call 25; refine (HC2.out _ _ hx1).mono ?_; rintro e w2 ⟨rfl, hb2⟩)
    have hx2 := below_from hx1 hb2
    go_wp2_with (go_at_call 17; refine (HC3.out _ hx2).mono ?_; rintro e w3 ⟨rfl, hb3⟩)
    have hx3 := below_from hx2 hb3
    obtain ⟨n, hn⟩ : ∃ n, (offD d (clampD d p)).1 = n := ⟨_, rfl⟩
    obtain ⟨k, hk⟩ : ∃ k, (offD d (endD d)).1 = k := ⟨_, rfl⟩
    rw [hn, hk] at HST
    rw [hn] at b1 b2
    rw [hk] at b3 b4
    have hcs : m < -n ∨ (¬ m < -n ∧ k - n < m) ∨ (¬ m < -n ∧ ¬ k - n < m) := by omega
    rw [hn]
    go_wp2_with (go_at_call 25; refine (HC2.out _ _ hx3).mono ?_; rintro e w4 ⟨rfl, hb4⟩; have hx4 := below_from hx3 hb4; have hy4 := ((hb.trans (hb2.mono hb.size)).trans (hb3.mono (Nat.le_trans hb.size hb2.size))).trans (hb4.mono (Nat.le_trans hb.size (Nat.le_trans hb2.size hb3.size))); have hg4 := (hy4.block (w.heap.size + 1) (by omega)).trans hg0; have hw4 := hbw.trans (hy4.mono (by omega)); have hz4 := hy4.size; obtain ⟨kc, kf⟩ := kept_block hg0 hy4; have k0 := kc 0; have k1 := kc 1; have f0 := kf 0; have f1 := kf 1; simp at k0 k1; clear kc kf hb hb2 hb3 hb4 hy4 hx1 hx2 hx3 hg0 HC1 HC2 HP; rw [hk]; clear hn hk; rcases hcs with c1 | ⟨c1, c2⟩ | ⟨c1, c2⟩)
    · have HS2 := Lib.hid (HST.out.trans (if_pos c1))
      refine bodyPost_ret (results_pos2 rfl _ _ _ _ _ rfl (setCell_heap (setCell_heap hg4 _) _)) rfl ?_
      rw [HS2.out]
      exact ⟨rfl, by go_grown⟩
    · have HS2 : Hid (stepD d p m = (endD d, false)) := Lib.hid (HST.out.trans ((if_neg (by omega)).trans (if_pos (by omega))))
      go_wp2_with (go_at_call 17; refine (HC3.out _ hx4).mono ?_; rintro e w5 ⟨rfl, hb5⟩; have hg5 := (hb5.block (w.heap.size + 1) (by omega)).trans hg4; have hb6 := hw4.trans (hb5.mono (by omega)); obtain ⟨kc, kf⟩ := kept_block hg4 hb5; have q0 := kc 0; have q1 := kc 1; have r0 := kf 0; have r1 := kf 1; clear kc kf; simp at q0 q1; unfold posV)
      refine bodyPost_ret (results_pos2 rfl _ _ _ _ _ rfl (setCell_heap (setCell_heap hg5 _) _)) rfl ?_
      rw [HS2.out]
      exact ⟨rfl, by go_grown⟩
    · have HS2 : Hid (stepD d p m = ((atD d (n + m)).1, true)) := Lib.hid (HST.out.trans ((if_neg (by omega)).trans (if_neg (by omega))))
      go_wp2_with (go_at_call 27; refine (HC4.out (n + m) _ hx4 (by omega)).mono ?_; rintro e w5 ⟨rfl, hb5⟩; have hg5 := (hb5.block (w.heap.size + 1) (by omega)).trans hg4; have hb6 := hw4.trans (hb5.mono (by omega)); have hz5 := hb5.size; obtain ⟨kc, kf⟩ := kept_block hg4 hb5; have q0 := kc 0; have q1 := kc 1; have r0 := kf 0; have r1 := kf 1; clear kc kf; simp at q0 q1; have fc0 : ∀ (X : Obj), (w5.alloc X).cell? ⟨w.heap.size + 1, 0, none⟩ = some (.int .i64 0) := fun X => cell_of_heap (heap_old _ X hg5); have fc1 : ∀ (X : Obj), (w5.alloc X).cell? ⟨w.heap.size + 1, 1, none⟩ = some (.int .i64 0) := fun X => cell_of_heap (heap_old _ X hg5); have ff : ∀ (X : Obj) o, (w5.alloc X).frozen? ⟨w.heap.size + 1, o, none⟩ = false := (fun X o => by rw [World.frozen?, heap_old _ X hg5]; simp); unfold posV)
      refine bodyPost_ret (results_pos2 rfl _ _ _ _ _ rfl (setCell_heap (setCell_heap (heap_old _ _ hg5) _) _)) rfl ?_
      rw [HS2.out]
      exact ⟨rfl, by go_grown⟩
end Go.Proofs.YtfoiaoopbkcpoaaGreatDoor
namespace Go.Proofs.YtfoiaoopbkcpoaaGreatDoor
open Go.RowKit
open Go.Proofs.Qw

set_option maxHeartbeats 1000000 in
theorem or_any (b c : Nat) (x y : Int) (w : World) (h0 : w.cell? ⟨b, 0, none⟩ = some (.int .i64 x)) (h1 : w.cell? ⟨b, 1, none⟩ = some (.int .i64 y)) :
    Calls Tryz.prog 64 #[.slice (some ⟨b, 0, none⟩) 2 c] w fun e w' => e = .returned (.int .i64 (if x ≠ 0 then x else y)) ∧ w' = w := by
  go_enter Tryz.func64, Tryz.ntmps64
  by_cases hx : x = 0
  · subst hx
    by_cases hy : y = 0
    · subst hy
      go_wp2_with fail
      go_rounds 3
      all_goals go_ret
      all_goals exact ⟨rfl, rfl⟩
    · have hy' : (y == 0) = false := by simpa using hy
      go_wp2_with fail
      go_rounds 3
      all_goals go_ret
      all_goals exact ⟨rfl, rfl⟩
  · have hx' : (x == 0) = false := by simpa using hx
    go_wp2_with fail
    go_rounds 3
    all_goals go_ret
    all_goals exact ⟨rfl, rfl⟩

theorem cmpI_of (a b : Int) : Lib.compareInt a b = cmpI a b := by
  unfold Lib.compareInt cmpI
  rfl

set_option maxHeartbeats 2000000 in
theorem cmp_any (p q : Ps) (w : World) :
    Calls Tryz.prog 23 #[posV p, posV q] w fun e w' => e = .returned (.int .i64 (cmpP p q)) ∧ Below w.heap.size w w' := by
  obtain ⟨i, j⟩ := p
  obtain ⟨k, l⟩ := q
  unfold posV
  have h3 : (if Lib.compareInt i k ≠ 0 then Lib.compareInt i k else Lib.compareInt j l) = cmpP ⟨i, j⟩ ⟨k, l⟩ := rfl
  have H3 := Lib.hid h3
  clear h3
  generalize hr : cmpP ⟨i, j⟩ ⟨k, l⟩ = r at *
  clear hr
  generalize hx : Lib.compareInt i k = x at *
  generalize hy : Lib.compareInt j l = y at *
  have hc1 : ∀ w, Calls Tryz.prog 65 #[.int .i64 i, .int .i64 k] w fun e w' => e = .returned (.int .i64 x) ∧ w' = w := fun w => hx ▸ Tryz.cmp_Compare_int i k w
  have hc2 : ∀ w, Calls Tryz.prog 65 #[.int .i64 j, .int .i64 l] w fun e w' => e = .returned (.int .i64 y) ∧ w' = w := fun w => hy ▸ Tryz.cmp_Compare_int j l w
  have HC3 : Hid (∀ (b c : Nat) w, w.cell? ⟨b, 0, none⟩ = some (.int .i64 x) → w.cell? ⟨b, 1, none⟩ = some (.int .i64 y) → Calls Tryz.prog 64 #[.slice (some ⟨b, 0, none⟩) 2 c] w fun e w' => e = .returned (.int .i64 r) ∧ w' = w) := Lib.hid fun b c w h0 h1 => H3.out ▸ or_any b c x y w h0 h1
  have HC1 := Lib.hid hc1
  have HC2 := Lib.hid hc2
  clear hc1 hc2 hx hy
  go_enter Tryz.func23, Tryz.ntmps23
  go_wp2_with fail
  obtain ⟨W1, hW1⟩ : ∃ W1, (w.alloc (.cells #[.int .i64 i, .int .i64 j] 24)).alloc (.cells #[.int .i64 k, .int .i64 l] 24) = W1 := ⟨_, rfl⟩
  have hB : Below w.heap.size w W1 := hW1 ▸ ((Below.refl _ _).alloc (Nat.le_refl _) _).alloc (by simp) _
  have k0 : W1.cell? ⟨w.heap.size, 0, none⟩ = some (.int .i64 i) := hW1 ▸ cell_of_heap (heap_old _ _ (heap_new _ _ rfl))
  have k1 : W1.cell? ⟨w.heap.size, 1, none⟩ = some (.int .i64 j) := hW1 ▸ cell_of_heap (heap_old _ _ (heap_new _ _ rfl))
  have k2 : W1.cell? ⟨w.heap.size + 1, 0, none⟩ = some (.int .i64 k) := hW1 ▸ cell_of_heap (heap_new _ _ (by simp))
  have k3 : W1.cell? ⟨w.heap.size + 1, 1, none⟩ = some (.int .i64 l) := hW1 ▸ cell_of_heap (heap_new _ _ (by simp))
  have hz : w.heap.size ≤ W1.heap.size := hB.size
  rw [hW1]
  clear hW1
  have kd : W1.drew.cell? ⟨w.heap.size, 0, none⟩ = some (.int .i64 i) ∧ W1.drew.cell? ⟨w.heap.size, 1, none⟩ = some (.int .i64 j) ∧ W1.drew.cell? ⟨w.heap.size + 1, 0, none⟩ = some (.int .i64 k) ∧ W1.drew.cell? ⟨w.heap.size + 1, 1, none⟩ = some (.int .i64 l) := ⟨k0, k1, k2, k3⟩
  have ka : ∀ X, (W1.drew.alloc X).cell? ⟨w.heap.size, 0, none⟩ = some (.int .i64 i) ∧ (W1.drew.alloc X).cell? ⟨w.heap.size, 1, none⟩ = some (.int .i64 j) ∧ (W1.drew.alloc X).cell? ⟨w.heap.size + 1, 0, none⟩ = some (.int .i64 k) ∧ (W1.drew.alloc X).cell? ⟨w.heap.size + 1, 1, none⟩ = some (.int .i64 l) := by
    intro X
    have hb : Below W1.heap.size W1 (W1.drew.alloc X) := (Below.refl _ _).drew.alloc (Nat.le_refl _) _
    exact ⟨(hb.cell (World.block_lt_of_cell? W1 _ k0)).trans k0, (hb.cell (World.block_lt_of_cell? W1 _ k1)).trans k1, (hb.cell (World.block_lt_of_cell? W1 _ k2)).trans k2, (hb.cell (World.block_lt_of_cell? W1 _ k3)).trans k3⟩
  have KA := Lib.hid ka
  clear ka
  go_region_held3 (fun w' => w'.cell? ⟨w.heap.size, 0, none⟩ = some (.int .i64 i) ∧ w'.cell? ⟨w.heap.size, 1, none⟩ = some (.int .i64 j) ∧ w'.cell? ⟨w.heap.size + 1, 0, none⟩ = some (.int .i64 k) ∧ w'.cell? ⟨w.heap.size + 1, 1, none⟩ = some (.int .i64 l)) (first | assumption | exact KA.out _)
    (first
      | (go_at_call_of 65 i; refine (HC1.out _).mono ?_; rintro e w1 ⟨rfl, rfl⟩)
      | (go_at_call_of 65 j; refine (HC2.out _).mono ?_; rintro e w1 ⟨rfl, rfl⟩)
      | (go_at_call 64; refine (HC3.out _ _ _ (cell_new _ _ _ 0) (cell_new _ _ _ 1)).mono ?_; rintro e w1 ⟨rfl, rfl⟩))
  go_wp2_with fail
  go_ret
  exact ⟨rfl, by go_grown⟩
end Go.Proofs.YtfoiaoopbkcpoaaGreatDoor
