/- The walks of the reference's Offset, At, Step. -/
import Derived.Test.YtfoiaoopbkcpoaaGreatDoorPlacePlain
namespace Go.Proofs.YtfoiaoopbkcpoaaGreatDoor
open Go.RowKit
open Go.Proofs.Qw

set_option maxRecDepth 100000 in
set_option maxHeartbeats 2000000 in
theorem refOffset_any (v : Value) (d : Doc) (p : Ps) (w : World) (S : Nat → Prop) (h : LinsR w S v d) (hs : sizeD d ≤ 100000) (hl : d.length ≤ 100000) :
    Calls Tryz.prog 26 #[v, posV p] w fun e w' => e = .returned (.tuple #[.int .i64 (offD d p).1, .int .i64 (offD d p).2]) ∧ Below w.heap.size w w' := by
  have HC := Lib.hid (places_any v d (w.alloc (.cells #[.int .i64 p.line, .int .i64 p.col] 24)) S (h.below (rdLin_stable _) ((Below.refl _ _).alloc (Nat.le_refl _) _)) hs hl)
  obtain ⟨a, c, rfl⟩ := h.slice
  clear h
  have hln : (placesD d).length ≤ 200000 := by rw [placesD_length]; omega
  have HP : Hid (posV p = .agg #[.int .i64 p.line, .int .i64 p.col]) := Lib.hid rfl
  have hg := guardPos
  rw [HP.out]
  go_enter Tryz.func26, Tryz.ntmps26
  go_wp2_with (go_at_call 66; refine HC.out.mono ?_; rintro e w2 ⟨v2, rfl, hv2, hb2⟩; obtain ⟨a2, c2, rfl, hc2, hm2, hx2⟩ := places_shape hv2)
  have HX := Lib.hid hx2
  have hA2 := heap_below hb2 (heap_new _ _ rfl)
  have HA := Lib.hid hA2
  have hw2 : Below w.heap.size w w2 := below_from ((Below.refl _ _).alloc (Nat.le_refl _) _) hb2
  unfold maxLen at hm2
  clear hx2 hv2 hb2 hA2
  go_loopw [7] (fun i wr => ∃ k : Nat, k ≤ (placesD d).length ∧ i = .int .i64 k ∧ Hid (∀ j, j < k → (placesD d)[j]? ≠ some p) ∧ Below w2.heap.size w2 wr) (fun i _ => (placesD d).length - (intOf i).toNat)
  case atStart => exact ⟨0, Nat.zero_le _, rfl, Lib.hid (fun j hj => absurd hj (Nat.not_lt_zero _)), Below.refl _ _⟩
  case round =>
    obtain ⟨k, hk, rfl, HN, hb⟩ := hrel
    have hww := hw2.trans (hb.mono hw2.size)
    by_cases hlt : k < (placesD d).length
    · obtain ⟨x, hx, _⟩ := getOf (placesD d) k hlt
      obtain ⟨b, o, rfl, hz, c0, c1⟩ := HX.out k x hx
      have c0 := (hb.cell (p := ⟨b, o + k * 2, none⟩) hz).trans c0
      have c1 := (hb.cell (p := ⟨b, o + k * 2 + 1, none⟩) hz).trans c1
      obtain ⟨p0, f0⟩ := blk (heap_below hb HA.out)
      have i0 : (0 : Int) ≤ (k : Int) := Int.natCast_nonneg _
      have i1 : (k : Int) < ((placesD d).length : Int) := by omega
      have HX2 := Lib.hid hx
      clear hx
      have hq := fun (w : World) => run_eql_pos x p w
      by_cases hxp : x = p
      · have hd : decide (x = p) = true := decide_eq_true hxp
        rw [hd] at hq
        have HO : Hid (offD d p = ((k : Int), 0)) := Lib.hid (places_off (hxp ▸ HX2.out))
        clear hxp hd
        go_wp2_with fail
        go_quiet (fail)
        go_wp2_with fail
        go_ret2
        rw [HO.out]
        exact ⟨rfl, by (repeat' (first | (with_reducible exact Below.refl _ _) | (with_reducible assumption) | (with_reducible refine Below.alloc ?_ ?_ _) | (with_reducible refine Below.drew ?_) | (with_reducible refine drewN_below ?_) | (with_reducible refine Below.setCell ?_ ?_ _) | go_size))⟩
      · have hd : decide (x = p) = false := decide_eq_false hxp
        rw [hd] at hq
        have HN2 : Hid (∀ j, j < k + 1 → (placesD d)[j]? ≠ some p) := Lib.hid (fun j hj => by
          by_cases e : j = k
          · subst e; rw [HX2.out]; simpa using hxp
          · exact HN.out j (by omega))
        clear hxp hd
        go_wp2_with fail
        go_quiet (fail)
        go_wp2_with fail
        go_roundw
        case rel => exact ⟨k + 1, hlt, by go_num, HN2, by (repeat' (first | (with_reducible exact Below.refl _ _) | (with_reducible assumption) | (with_reducible refine Below.alloc ?_ ?_ _) | (with_reducible refine Below.drew ?_) | (with_reducible refine drewN_below ?_) | (with_reducible refine Below.setCell ?_ ?_ _) | go_size))⟩
        case measure => simp [intOf]; omega
    · obtain rfl : k = (placesD d).length := by omega
      have HO : Hid (offD d p = (0, 1)) := Lib.hid (by
        by_cases hi : isD d p = true
        · obtain ⟨k, _, h2⟩ := off_places hi
          exact absurd h2 (HN.out k (List.getElem?_eq_some_iff.1 h2).1)
        · unfold offD; rw [if_neg hi])
      have HB := Lib.hid hww
      clear hb hww
      go_wp2_with fail
      go_ret2
      rw [HO.out]
      exact ⟨rfl, HB.out⟩

set_option maxRecDepth 100000 in
set_option maxHeartbeats 2000000 in
theorem refAt_any (v : Value) (d : Doc) (n : Int) (w : World) (S : Nat → Prop) (h : LinsR w S v d) (hs : sizeD d ≤ 100000) (hl : d.length ≤ 100000) :
    Calls Tryz.prog 28 #[v, .int .i64 n] w fun e w' => e = .returned (.tuple #[posV (atD d n).1, .int .i64 (atD d n).2]) ∧ Below w.heap.size w w' := by
  have HC := Lib.hid (places_any v d (w.alloc (.cells #[.int .i64 0, .int .i64 0] 24)) S (h.below (rdLin_stable _) ((Below.refl _ _).alloc (Nat.le_refl _) _)) hs hl)
  obtain ⟨a, c, rfl⟩ := h.slice
  clear h
  have hln : (placesD d).length ≤ 200000 := by rw [placesD_length]; omega
  unfold posV
  have hcs : n < 0 ∨ (0 ≤ n ∧ (placesD d).length ≤ n) ∨ (0 ≤ n ∧ n < (placesD d).length) := by omega
  go_enter Tryz.func28, Tryz.ntmps28
  rcases hcs with h1 | ⟨h1, h2⟩ | ⟨h1, h2⟩
  · have HO := Lib.hid (atD_none (d := d) (n := n) (.inl h1))
    go_wp2_with (go_at_call 66; refine HC.out.mono ?_; rintro e w2 ⟨v2, rfl, hv2, hb2⟩; obtain ⟨a2, c2, rfl, hc2, hm2, hx2⟩ := places_shape hv2; have HX := Lib.hid hx2; have hA2 := heap_below hb2 (heap_new _ _ rfl); have HA := Lib.hid hA2; obtain ⟨p0, f0⟩ := blk hA2; have hw2 : Below w.heap.size w w2 := below_from ((Below.refl _ _).alloc (Nat.le_refl _) _) hb2; have hz2 : w.heap.size < w2.heap.size := (Array.getElem?_eq_some_iff.1 hA2).1; unfold maxLen at hm2; clear hx2 hv2 hb2 hA2)
    refine bodyPost_ret (results_pos2 (f := (0, 0)) rfl _ _ (w.heap.size) (.int .i64 (0)) (.int .i64 (0)) rfl (by simp [heap_set, putIn, HA.out])) rfl ?_
    rw [HO.out]
    exact ⟨rfl, by (repeat' (first | (with_reducible exact Below.refl _ _) | (with_reducible assumption) | (with_reducible refine Below.alloc ?_ ?_ _) | (with_reducible refine Below.drew ?_) | (with_reducible refine drewN_below ?_) | (with_reducible refine Below.setCell ?_ ?_ _) | go_size))⟩
  · have HO := Lib.hid (atD_none (d := d) (n := n) (.inr h2))
    go_wp2_with (go_at_call 66; refine HC.out.mono ?_; rintro e w2 ⟨v2, rfl, hv2, hb2⟩; obtain ⟨a2, c2, rfl, hc2, hm2, hx2⟩ := places_shape hv2; have HX := Lib.hid hx2; have hA2 := heap_below hb2 (heap_new _ _ rfl); have HA := Lib.hid hA2; obtain ⟨p0, f0⟩ := blk hA2; have hw2 : Below w.heap.size w w2 := below_from ((Below.refl _ _).alloc (Nat.le_refl _) _) hb2; have hz2 : w.heap.size < w2.heap.size := (Array.getElem?_eq_some_iff.1 hA2).1; unfold maxLen at hm2; clear hx2 hv2 hb2 hA2)
    refine bodyPost_ret (results_pos2 (f := (0, 0)) rfl _ _ (w.heap.size) (.int .i64 (0)) (.int .i64 (0)) rfl (by simp [heap_set, putIn, HA.out])) rfl ?_
    rw [HO.out]
    exact ⟨rfl, by (repeat' (first | (with_reducible exact Below.refl _ _) | (with_reducible assumption) | (with_reducible refine Below.alloc ?_ ?_ _) | (with_reducible refine Below.drew ?_) | (with_reducible refine drewN_below ?_) | (with_reducible refine Below.setCell ?_ ?_ _) | go_size))⟩
  · obtain ⟨n, rfl⟩ := Int.eq_ofNat_of_zero_le h1
    obtain ⟨x, hx, _⟩ := getOf (placesD d) n (by omega)
    have HO := Lib.hid (atD_some hx)
    have HY := Lib.hid hx
    clear hx
    go_wp2_with (go_at_call 66; refine HC.out.mono ?_; rintro e w2 ⟨v2, rfl, hv2, hb2⟩; obtain ⟨a2, c2, rfl, hc2, hm2, hx2⟩ := places_shape hv2; obtain ⟨b, o, rfl, hz, c0, c1⟩ := hx2 n x HY.out; have hA2 := heap_below hb2 (heap_new _ _ rfl); have HA := Lib.hid hA2; obtain ⟨p0, f0⟩ := blk hA2; have hw2 : Below w.heap.size w w2 := below_from ((Below.refl _ _).alloc (Nat.le_refl _) _) hb2; have hz2 : w.heap.size < w2.heap.size := (Array.getElem?_eq_some_iff.1 hA2).1; unfold maxLen at hm2; clear hx2 hv2 hb2 hA2)
    refine bodyPost_ret (results_pos2 (f := (0, 0)) rfl _ _ (w.heap.size) (.int .i64 (x.line)) (.int .i64 (x.col)) rfl (by simp [heap_set, putIn, HA.out])) rfl ?_
    rw [HO.out]
    exact ⟨rfl, by (repeat' (first | (with_reducible exact Below.refl _ _) | (with_reducible assumption) | (with_reducible refine Below.alloc ?_ ?_ _) | (with_reducible refine Below.drew ?_) | (with_reducible refine drewN_below ?_) | (with_reducible refine Below.setCell ?_ ?_ _) | go_size))⟩

set_option maxRecDepth 100000 in
set_option maxHeartbeats 4000000 in
theorem refStep_any (v : Value) (d : Doc) (p : Ps) (m : Int) (w : World) (S : Nat → Prop) (h : LinsR w S v d) (hs : sizeD d ≤ 100000) (hl : d.length ≤ 100000) (hm : -9223372036854775808 ≤ m ∧ m ≤ 9223372036854775807) :
    Calls Tryz.prog 30 #[v, posV p, .int .i64 m] w fun e w' => e = .returned (.tuple #[posV (stepD d p m).1, .bool (stepD d p m).2]) ∧ Below w.heap.size w w' := by
  have HC0 : Hid (∀ W, Below w.heap.size w W → Calls Tryz.prog 66 #[v] W fun e w' => ∃ v', e = .returned v' ∧ PlacesR true w' (fun b => W.heap.size ≤ b) v' (placesD d) ∧ Below W.heap.size W w') := Lib.hid fun W hW => places_any v d W S (h.below (rdLin_stable _) hW) hs hl
  have HC1 : Hid (∀ W, Below w.heap.size w W → Calls Tryz.prog 22 #[v, posV p] W fun e w' => e = .returned (posV (clampD d p)) ∧ Below W.heap.size W w') := Lib.hid fun W hW => refClamp_any v d p W S (h.below (rdLin_stable _) hW)
  have HC2 : Hid (∀ q W, Below w.heap.size w W → Calls Tryz.prog 26 #[v, posV q] W fun e w' => e = .returned (.tuple #[.int .i64 (offD d q).1, .int .i64 (offD d q).2]) ∧ Below W.heap.size W w') := Lib.hid fun q W hW => refOffset_any v d q W S (h.below (rdLin_stable _) hW) hs hl
  obtain ⟨a, c, rfl⟩ := h.slice
  clear h
  have hln : (placesD d).length ≤ 200000 := by rw [placesD_length]; omega
  have HP : Hid (posV p = .agg #[.int .i64 p.line, .int .i64 p.col]) := Lib.hid rfl
  have hcs : d = [] ∨ ∃ k : Nat, ∃ x : Ps, d ≠ [] ∧ k < (placesD d).length ∧ offD d (clampD d p) = ((k : Int), 0) ∧
      ((m < -(k : Int) ∧ x = ⟨0, 0⟩ ∧ (placesD d)[0]? = some x ∧ stepD d p m = (x, false)) ∨ (-(k : Int) ≤ m ∧ ((placesD d).length : Int) - k ≤ m ∧ (placesD d)[(placesD d).length - 1]? = some x ∧ stepD d p m = (x, false)) ∨
        (-(k : Int) ≤ m ∧ m < ((placesD d).length : Int) - k ∧ (placesD d)[((k : Int) + m).toNat]? = some x ∧ stepD d p m = (x, true))) := by
    by_cases hd : d = []
    · exact .inl hd
    · right
      obtain ⟨k, h1, h2⟩ := off_places (isD_clamp p hd)
      have h3 := (List.getElem?_eq_some_iff.1 h2).1
      have h4 := places_last hd
      have h5 := places_off h4
      by_cases e1 : m < -(k : Int)
      · refine ⟨k, ⟨0, 0⟩, hd, h3, h1, .inl ⟨e1, rfl, places_first hd, ?_⟩⟩
        rw [stepD, if_neg hd, h1, if_pos (by simpa using e1)]
      · by_cases e2 : ((placesD d).length : Int) - k ≤ m
        · refine ⟨k, endD d, hd, h3, h1, .inr (.inl ⟨by omega, e2, h4, ?_⟩)⟩
          rw [stepD, if_neg hd, h1, if_neg (by simpa using e1), h5, if_pos (by simp only; omega)]
        · obtain ⟨x, hx, _⟩ := getOf (placesD d) ((k : Int) + m).toNat (by omega)
          refine ⟨k, x, hd, h3, h1, .inr (.inr ⟨by omega, by omega, hx, ?_⟩)⟩
          have hx2 := atD_some hx
          rw [Int.toNat_of_nonneg (by omega)] at hx2
          rw [stepD, if_neg hd, h1, if_neg (by simpa using e1), h5, if_neg (by simp only; omega)]
          simp only
          rw [hx2]
  have hb1 : Below w.heap.size w ((w.alloc (.cells #[.int .i64 p.line, .int .i64 p.col] 24)).alloc (.cells #[.int .i64 0, .int .i64 0] 24)) := ((Below.refl _ _).alloc (Nat.le_refl _) _).alloc (by simp) _
  have HW0 : Hid (((w.alloc (.cells #[.int .i64 p.line, .int .i64 p.col] 24)).alloc (.cells #[.int .i64 0, .int .i64 0] 24)).heap[w.heap.size]? = some (.cells #[.int .i64 p.line, .int .i64 p.col] 24) ∧ ((w.alloc (.cells #[.int .i64 p.line, .int .i64 p.col] 24)).alloc (.cells #[.int .i64 0, .int .i64 0] 24)).heap[w.heap.size + 1]? = some (.cells #[.int .i64 0, .int .i64 0] 24)) := Lib.hid ⟨heap_old _ _ (heap_new _ _ rfl), heap_new _ _ (by simp)⟩
  rw [HP.out]
  go_enter Tryz.func30, Tryz.ntmps30
  rcases hcs with hd | ⟨k, x, hne, hk, hof, hcs⟩
  · have hpl : (placesD d).length = 0 := by rw [hd]; rfl
    have HS : Hid (stepD d p m = (⟨0, 0⟩, false)) := Lib.hid (by rw [stepD, if_pos hd])
    have hq : (((placesD d).length : Int) == 0) = true := by simp [hpl]
    clear hd
    go_wp2_with (go_at_call 66; refine (HC0.out _ hb1).mono ?_; rintro e w2 ⟨v2, rfl, hv2, hb2⟩; obtain ⟨a2, c2, rfl, hc2, hm2, hx2⟩ := places_shape hv2; have HX := Lib.hid hx2; have hA2 := heap_below hb2 HW0.out.2; have hA0 := heap_below hb2 HW0.out.1; have HA := Lib.hid hA2; obtain ⟨p0, f0⟩ := blk hA0; obtain ⟨p1, f1⟩ := blk hA2; have hw2 : Below w.heap.size w w2 := below_from hb1 hb2; have hz2 : w.heap.size + 1 < w2.heap.size := (Array.getElem?_eq_some_iff.1 hA2).1; unfold maxLen at hm2; clear hx2 hv2 hA2)
    refine bodyPost_ret (results_pos2 (f := (0, 0)) rfl _ _ (w.heap.size + 1) (.int .i64 (0)) (.int .i64 (0)) rfl (by simp [heap_set, putIn, HA.out])) rfl ?_
    rw [HS.out]
    exact ⟨rfl, by (repeat' (first | (with_reducible exact Below.refl _ _) | (with_reducible assumption) | (with_reducible refine Below.alloc ?_ ?_ _) | (with_reducible refine Below.drew ?_) | (with_reducible refine drewN_below ?_) | (with_reducible refine Below.setCell ?_ ?_ _) | go_size))⟩
  · have HO := Lib.hid hof
    have hq : (((placesD d).length : Int) == 0) = false := beq_eq_false_iff_ne.2 (by omega)
    clear hne hof
    have hi0 : (0 : Int) ≤ ((placesD d).length : Int) - 1 := by omega
    have ht : (((placesD d).length : Int) - 1).toNat = (placesD d).length - 1 := by omega
    rcases hcs with ⟨e1, -, e3, e4⟩ | ⟨e1, e2, e3, e4⟩ | ⟨e1, e2, e3, e4⟩
    all_goals
      have HS := Lib.hid e4
      have HY := Lib.hid e3
      clear e4 e3
      go_wp2_with (first | (go_at_call 66; refine (HC0.out _ hb1).mono ?_; rintro e w2 ⟨v2, rfl, hv2, hb2⟩; obtain ⟨a2, c2, rfl, hc2, hm2, hx2⟩ := places_shape hv2; obtain ⟨b, o, hae, hz, c0, c1⟩ := hx2 _ x HY.out; subst hae; have hA2 := heap_below hb2 HW0.out.2; have hA0 := heap_below hb2 HW0.out.1; have HA := Lib.hid hA2; obtain ⟨p0, f0⟩ := blk hA0; obtain ⟨p1, f1⟩ := blk hA2; have hw2 : Below w.heap.size w w2 := below_from hb1 hb2; have hz2 : w.heap.size + 1 < w2.heap.size := (Array.getElem?_eq_some_iff.1 hA2).1; unfold maxLen at hm2; clear hx2 hv2 hA2) | (go_at_call 22; refine (HC1.out _ hw2).mono ?_; rintro e w3 ⟨rfl, hb3⟩; have hw3 := below_from hw2 hb3) | (go_at_call 26; refine (HC2.out _ _ hw3).mono ?_; rintro e w4 ⟨rfl, hb4⟩; have hw4 := below_from hw3 hb4; rw [HO.out]; have hw24 : Below w2.heap.size w2 w4 := below_from hb3 hb4; have c0 := (hw24.cell (p := ⟨b, _, none⟩) hz).trans c0; have c1 := (hw24.cell (p := ⟨b, _, none⟩) hz).trans c1; (try simp only [Nat.zero_mul, Nat.add_zero] at c0 c1); have hz4 : w.heap.size + 1 < w4.heap.size := Nat.lt_of_lt_of_le hz2 hw24.size; have hA4 := heap_below hw24 HA.out; have HA4 := Lib.hid hA4; obtain ⟨p4, f4⟩ := blk hA4; clear hA4))
      refine bodyPost_ret (results_pos2 (f := (0, 0)) rfl _ _ (w.heap.size + 1) (.int .i64 (x.line)) (.int .i64 (x.col)) rfl (by simp [heap_set, putIn, HA4.out])) rfl ?_
      rw [HS.out]
      exact ⟨rfl, by (repeat' (first | (with_reducible exact Below.refl _ _) | (with_reducible assumption) | (with_reducible refine Below.alloc ?_ ?_ _) | (with_reducible refine Below.drew ?_) | (with_reducible refine drewN_below ?_) | (with_reducible refine Below.setCell ?_ ?_ _) | go_size))⟩
end Go.Proofs.YtfoiaoopbkcpoaaGreatDoor
