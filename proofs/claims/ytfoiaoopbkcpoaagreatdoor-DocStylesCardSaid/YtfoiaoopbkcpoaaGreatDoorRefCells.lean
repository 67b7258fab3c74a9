/- The walks of the reference's rows of cells: Span, Set, Links, All, Some. -/
import Derived.Test.YtfoiaoopbkcpoaaGreatDoorCells
import Derived.Test.YtfoiaoopbkcpoaaGreatDoorRefOwn
import Derived.Test.YtfoiaoopbkcpoaaGreatDoorRefMay
namespace Go.Proofs.YtfoiaoopbkcpoaaGreatDoor
open Go.RowKit
open Go.Proofs.Qw
set_option maxHeartbeats 1000000 in
theorem refCSpan_any (v : Value) (d : List Cel) (i j : Int) (w : World) (S : Nat → Prop) (own : Bool) (h : CelsR own w S v d) :
    Calls Tryz.prog 83 #[v, .int .i64 i, .int .i64 j] w fun e w' => e = .returned (.bool (spanC d.length i j)) ∧ w' = w := by
  obtain ⟨a, c, rfl⟩ := h.slice
  clear h
  have HS : Hid (spanC d.length i j = (decide (0 ≤ i) && (decide (i ≤ j) && decide (j ≤ (d.length : Int))))) := Lib.hid rfl
  go_enter Tryz.func83, Tryz.ntmps83
  go_wp2_with fail
  all_goals
    go_ret
    refine ⟨?_, rfl⟩
    rw [HS.out]
    refine congrArg Ending.returned (congrArg Value.bool ?_)
    clear HS
    simp (config := { failIfUnchanged := false }) [*]
  all_goals try omega

set_option maxRecDepth 100000 in
set_option maxHeartbeats 4000000 in
theorem refCSet_any (v : Value) (d : List Cel) (i j s c : Int) (w : World) (S : Nat → Prop) (own : Bool) (h : CelsR own w S v d) (hs : d.length ≤ 1000000) :
    Calls Tryz.prog 75 #[v, .int .i64 i, .int .i64 j, .int .i64 s, .int .i64 c] w (CellsSaid (eachC (setBits s c) d i j).1 (eachC (setBits s c) d i j).2 w) := by
  have HC1 := Lib.hid (refCSpan_any v d i j w S own h)
  have HC2 := Lib.hid (refOwnC_any v d own w S h hs)
  obtain ⟨a, cc, rfl⟩ := h.slice
  clear h
  cases hsp : spanC d.length i j
  · have HR : Hid (eachC (setBits s c) d i j = ([], 1)) := Lib.hid (by unfold eachC; rw [hsp]; rfl)
    rw [hsp] at HC1
    clear hsp
    go_enter Tryz.func75, Tryz.ntmps75
    go_wp2_with (go_at_call 83; refine HC1.out.mono ?_; rintro e w2 ⟨rfl, rfl⟩)
    go_ret2
    unfold CellsSaid
    rw [HR.out]
    exact ⟨_, rfl, SliceR.nil _ _ _ _ _ _, Below.refl _ _⟩
  · have hsp2 := hsp
    unfold spanC at hsp2
    simp only [Bool.and_eq_true, decide_eq_true_eq] at hsp2
    obtain ⟨i, rfl⟩ := Int.eq_ofNat_of_zero_le hsp2.1
    obtain ⟨j, rfl⟩ := Int.eq_ofNat_of_zero_le (show 0 ≤ j by omega)
    have hij : i ≤ j := by omega
    have hjd : j ≤ d.length := by omega
    have HR : Hid (eachC (setBits s c) d i j = (mapIn (setBits s c) i j d, 0)) := Lib.hid (by unfold eachC; rw [hsp]; rfl)
    rw [hsp] at HC1
    clear hsp hsp2
    go_enter Tryz.func75, Tryz.ntmps75
    go_wp2_with (first | (go_at_call 83; refine HC1.out.mono ?_; rintro e w2 ⟨rfl, rfl⟩) | (go_at_call 50; refine HC2.out.mono ?_; rintro e w3 ⟨v3, rfl, hv3, hb3⟩; obtain ⟨a3, c3, rfl⟩ := hv3.slice))
    have HV := Lib.hid hv3
    have HB := Lib.hid hb3
    have hcm := hv3.len.2
    unfold maxLen at hcm
    clear hv3 hb3
    go_loopw [13] (fun q wr => ∃ k : Nat, i ≤ k ∧ k ≤ j ∧ q = .int .i64 k ∧ CelsR true wr (fun b => w2.heap.size ≤ b) (.slice a3 d.length c3) (mapIn (setBits s c) i k d) ∧ Below w2.heap.size w2 wr) (fun q _ => j - (intOf q).toNat)
    case atStart => exact ⟨i, Nat.le_refl _, hij, rfl, by rw [mapIn_none]; exact HV.out, HB.out⟩
    case round =>
      obtain ⟨k, hk1, hk2, rfl, hO, hb⟩ := hrel
      by_cases hlt : k < j
      · obtain ⟨x, hx, _⟩ := getOf d k (by omega)
        have hxk := mapIn_at (setBits s c) (i := i) hx
        obtain ⟨b, o, cs, rfl, hbb, hgg, hsz⟩ := hO.cellAt (i := k) (by rw [mapIn_length]; omega)
        have hbb : w2.heap.size ≤ b := hbb
        have hcells : ∀ p u, (encCel x)[p]? = some u → wr.cell? ⟨b, o + k * 3 + p, none⟩ = some u ∧ wr.frozen? ⟨b, o + k * 3 + p, none⟩ = false := by
          obtain ⟨a', c', he, _, _, hxx⟩ := hO.shape
          injection he with he1 _ _
          subst he1
          obtain ⟨b', o', vs, he2, _, _, _, hvs, hcc⟩ := hxx k x hxk
          cases he2
          cases hvs
          exact fun p u hu => ⟨hcc p u hu, frozen_of_heap hgg⟩
        have k1 := (hcells 1 _ rfl).1
        have k1f := (hcells 1 _ rfl).2
        have HS := Lib.hid (SliceR.set1 eltCell.tag hO hxk (j := 1) (by decide) (.int .i64 (setBits s c x).bits) (x' := setBits s c x) (fun vs _ h => by rw [show vs = encCel x from h]; rfl))
        have HM := Lib.hid (mapIn_step (setBits s c) hk1 hx)
        have HBT : Hid ((setBits s c x).bits = bits .or .i64 (bits .andNot .i64 x.bits (bits .and .i64 c 15)) (bits .and .i64 s 15)) := Lib.hid rfl
        have i0 : (0 : Int) ≤ (k : Int) := Int.natCast_nonneg _
        have i1 : (k : Int) < (d.length : Int) := by omega
        clear hO hx hxk hgg hcells
        go_wp2_with fail
        go_roundw
        case rel => exact ⟨k + 1, by omega, hlt, by go_num, by rw [← HM.out, ← HBT.out]; exact HS.out, hb.setCell hbb _⟩
        case measure => simp [intOf]; omega
      · obtain rfl : k = j := by omega
        have HO := Lib.hid hO
        have HBB := Lib.hid hb
        clear hO hb
        go_wp2_with fail
        go_ret2
        unfold CellsSaid
        rw [HR.out]
        exact ⟨_, rfl, HO.out, HBB.out⟩

/-- Cells with a link, as the reference says. -/
def linkRC (hr : List UInt8) (d : List Cel) (i j : Int) : List Cel × Int := if (spanC d.length i j && linkF hr) = true then (mapIn (setHref hr) i.toNat j.toNat d, 0) else ([], 1)
set_option maxRecDepth 100000 in
set_option maxHeartbeats 4000000 in
theorem refCLinks_any (v : Value) (d : List Cel) (i j : Int) (hr : List UInt8) (w : World) (S : Nat → Prop) (own : Bool) (h : CelsR own w S v d) (hs : d.length ≤ 1000000) (hh : hr.length ≤ 1000000) :
    Calls Tryz.prog 80 #[v, .int .i64 i, .int .i64 j, .string ⟨hr.toArray⟩] w (CellsSaid (linkRC hr d i j).1 (linkRC hr d i j).2 w) := by
  have HC1 := Lib.hid (refCSpan_any v d i j w S own h)
  have HL : Hid (∀ W, Calls Tryz.prog 79 #[.string ⟨hr.toArray⟩] W fun e w' => e = .returned (.bool (linkF hr)) ∧ Below W.heap.size W w') := Lib.hid fun W => refLink_any ⟨hr.toArray⟩ W (by show hr.toArray.size ≤ _; simpa using hh)
  have HC2 : Hid (∀ W, Below w.heap.size w W → Calls Tryz.prog 50 #[v] W fun e w' => ∃ v', e = .returned v' ∧ CelsR true w' (fun b => W.heap.size ≤ b) v' d ∧ Below W.heap.size W w') := Lib.hid fun W hW => refOwnC_any v d own W S (h.below (rdOf_stable _) hW) hs
  obtain ⟨a, cc, rfl⟩ := h.slice
  clear h
  cases hsp : spanC d.length i j
  · have HR : Hid (linkRC hr d i j = ([], 1)) := Lib.hid (by unfold linkRC; rw [hsp]; rfl)
    rw [hsp] at HC1
    clear hsp
    go_enter Tryz.func80, Tryz.ntmps80
    go_wp2_with (go_at_call 83; refine HC1.out.mono ?_; rintro e w2 ⟨rfl, rfl⟩)
    go_ret2
    unfold CellsSaid
    rw [HR.out]
    exact ⟨_, rfl, SliceR.nil _ _ _ _ _ _, Below.refl _ _⟩
  · have hsp2 := hsp
    unfold spanC at hsp2
    simp only [Bool.and_eq_true, decide_eq_true_eq] at hsp2
    obtain ⟨i, rfl⟩ := Int.eq_ofNat_of_zero_le hsp2.1
    obtain ⟨j, rfl⟩ := Int.eq_ofNat_of_zero_le (show 0 ≤ j by omega)
    have hij : i ≤ j := by omega
    have hjd : j ≤ d.length := by omega
    have HR0 : Hid (linkRC hr d i j = if linkF hr = true then (mapIn (setHref hr) i j d, 0) else ([], 1)) := Lib.hid (by unfold linkRC; rw [hsp, Bool.true_and]; rfl)
    generalize linkF hr = lk at *
    rw [hsp] at HC1
    clear hsp hsp2
    cases lk
    · have HR := Lib.hid HR0.out
      clear HR0
      go_enter Tryz.func80, Tryz.ntmps80
      go_wp2_with (first | (go_at_call 83; refine HC1.out.mono ?_; rintro e w2 ⟨rfl, rfl⟩) | (go_at_call 79; refine (HL.out _).mono ?_; rintro e w3 ⟨rfl, hb3⟩))
      go_ret2
      unfold CellsSaid
      rw [HR.out]
      exact ⟨_, rfl, SliceR.nil _ _ _ _ _ _, hb3⟩
    · have HR : Hid (linkRC hr d i j = (mapIn (setHref hr) i j d, 0)) := Lib.hid HR0.out
      clear HR0
      go_enter Tryz.func80, Tryz.ntmps80
      go_wp2_with (first | (go_at_call 83; refine HC1.out.mono ?_; rintro e w2 ⟨rfl, rfl⟩) | (go_at_call 79; refine (HL.out _).mono ?_; rintro e w3 ⟨rfl, hb3⟩) | (go_at_call 50; refine (HC2.out _ hb3).mono ?_; rintro e w4 ⟨v3, rfl, hv3, hb4⟩; obtain ⟨a3, c3, rfl⟩ := hv3.slice))
      have hbw := hb3.size
      have HV := Lib.hid (SliceR.stable (rdOf_stable _) hv3 (Keeps.refl _ _) (S' := fun b => w2.heap.size ≤ b) (fun b h _ => Nat.le_trans hbw h))
      have HB := Lib.hid (below_from hb3 hb4)
      have hcm := hv3.len.2
      unfold maxLen at hcm
      clear hv3 hb3 hb4
      go_loopw [11] (fun q wr => ∃ k : Nat, i ≤ k ∧ k ≤ j ∧ q = .int .i64 k ∧ CelsR true wr (fun b => w2.heap.size ≤ b) (.slice a3 d.length c3) (mapIn (setHref hr) i k d) ∧ Below w2.heap.size w2 wr) (fun q _ => j - (intOf q).toNat)
      case atStart => exact ⟨i, Nat.le_refl _, hij, rfl, by rw [mapIn_none]; exact HV.out, HB.out⟩
      case round =>
        obtain ⟨k, hk1, hk2, rfl, hO, hb⟩ := hrel
        by_cases hlt : k < j
        · obtain ⟨x, hx, _⟩ := getOf d k (by omega)
          have hxk := mapIn_at (setHref hr) (i := i) hx
          obtain ⟨b, o, cs, rfl, hbb, hgg, hsz⟩ := hO.cellAt (i := k) (by rw [mapIn_length]; omega)
          have hbb : w2.heap.size ≤ b := hbb
          have hcells : ∀ p u, (encCel x)[p]? = some u → wr.cell? ⟨b, o + k * 3 + p, none⟩ = some u ∧ wr.frozen? ⟨b, o + k * 3 + p, none⟩ = false := by
            obtain ⟨a', c', he, _, _, hxx⟩ := hO.shape
            injection he with he1 _ _
            subst he1
            obtain ⟨b', o', vs, he2, _, _, _, hvs, hcc⟩ := hxx k x hxk
            cases he2
            cases hvs
            exact fun p u hu => ⟨hcc p u hu, frozen_of_heap hgg⟩
          have k1 := (hcells 2 _ rfl).1
          have k1f := (hcells 2 _ rfl).2
          have HS := Lib.hid (SliceR.set1 eltCell.tag hO hxk (j := 2) (by decide) (.string ⟨(setHref hr x).href.toArray⟩) (x' := setHref hr x) (fun vs _ h => by rw [show vs = encCel x from h]; rfl))
          have HM := Lib.hid (mapIn_step (setHref hr) hk1 hx)
          have HBT : Hid ((setHref hr x).href = hr) := Lib.hid rfl
          have i0 : (0 : Int) ≤ (k : Int) := Int.natCast_nonneg _
          have i1 : (k : Int) < (d.length : Int) := by omega
          clear hO hx hxk hgg hcells
          go_wp2_with fail
          go_roundw
          case rel => exact ⟨k + 1, by omega, hlt, by go_num, by have h9 := HS.out; rw [HM.out, HBT.out] at h9; exact h9, hb.setCell hbb _⟩
          case measure => simp [intOf]; omega
        · obtain rfl : k = j := by omega
          have HO := Lib.hid hO
          have HBB := Lib.hid hb
          clear hO hb
          go_wp2_with fail
          go_ret2
          unfold CellsSaid
          rw [HR.out]
          exact ⟨_, rfl, HO.out, HBB.out⟩

/- Whether all of a row have some bits; whether one has any. -/
set_option maxRecDepth 100000 in
set_option maxHeartbeats 2000000 in
theorem refCAll_any (v : Value) (d : List Cel) (t : Int) (w : World) (S : Nat → Prop) (h : CelsR false w S v d) :
    Calls Tryz.prog 40 #[v, .int .i64 0, .int .i64 d.length, .int .i64 t] w fun e w' => e = .returned (.bool (decide (0 < d.length) && d.all fun x => bits .and .i64 x.bits t == t)) ∧ w' = w := by
  have HC1 := Lib.hid (refCSpan_any v d 0 d.length w S false h)
  have hsp : spanC d.length 0 d.length = true := by unfold spanC; simp
  rw [hsp] at HC1
  obtain ⟨a, cc, rfl, hcc, hcm, hx⟩ := cels_shape h
  have HX := Lib.hid hx
  unfold maxLen at hcm
  clear h hsp hx
  go_enter Tryz.func40, Tryz.ntmps40
  go_wp2_with (go_at_call 83; refine HC1.out.mono ?_; rintro e w2 ⟨rfl, rfl⟩)
  go_loop [9] (fun q => ∃ k : Nat, k ≤ d.length ∧ q = .int .i64 k ∧ Hid (∀ x ∈ d.take k, (bits .and .i64 x.bits t == t) = true)) (fun q => d.length - (intOf q).toNat)
  case atStart => exact ⟨0, Nat.zero_le _, rfl, Lib.hid (by simp)⟩
  case round =>
    obtain ⟨k, hk, rfl, HI⟩ := hrel
    by_cases hlt : k < d.length
    · obtain ⟨x, hxx, _⟩ := getOf d k hlt
      obtain ⟨b, o, rfl, hz, c0, c1, c2⟩ := HX.out k x hxx
      have HXX := Lib.hid hxx
      have i0 : (0 : Int) ≤ (k : Int) := Int.natCast_nonneg _
      have i1 : (k : Int) < (d.length : Int) := by omega
      clear hxx
      cases ht : (bits .and .i64 x.bits t != t)
      · have HT := Lib.hid ht
        go_wp2_with fail
        go_round
        case rel =>
          refine ⟨k + 1, hlt, by go_num, Lib.hid ?_⟩
          intro y hy
          rw [take_some HXX.out, List.mem_append, List.mem_singleton] at hy
          rcases hy with hy | rfl
          · exact HI.out y hy
          · have := HT.out; simpa using this
        case measure => simp [intOf]; omega
      · have HT := Lib.hid ht
        have HM := Lib.hid (List.mem_of_getElem? HXX.out)
        go_wp2_with fail
        go_ret
        refine ⟨?_, rfl⟩
        refine congrArg Ending.returned (congrArg Value.bool ?_)
        have h1 := HT.out
        have h2 := HM.out
        clear HT ht
        first
          | (refine (Bool.eq_false_iff.2 fun hh => ?_).symm
             rw [Bool.and_eq_true, List.all_eq_true] at hh
             have := hh.2 x h2
             rw [bne, this] at h1
             cases h1)
          | exact (List.any_eq_true.2 ⟨x, h2, h1⟩).symm
    · obtain rfl : k = d.length := by omega
      go_wp2_with fail
      go_ret
      refine ⟨?_, rfl⟩
      refine congrArg Ending.returned (congrArg Value.bool ?_)
      have hI := HI.out
      rw [List.take_length] at hI
      first
        | (rw [show (d.all fun x => bits .and .i64 x.bits t == t) = true from List.all_eq_true.2 hI, Bool.and_true])
        | exact (List.any_eq_false.2 fun x hx => by rw [hI x hx]; simp).symm
set_option maxRecDepth 100000 in
set_option maxHeartbeats 2000000 in
theorem refCSome_any (v : Value) (d : List Cel) (t : Int) (w : World) (S : Nat → Prop) (h : CelsR false w S v d) :
    Calls Tryz.prog 42 #[v, .int .i64 0, .int .i64 d.length, .int .i64 t] w fun e w' => e = .returned (.bool (d.any fun x => bits .and .i64 x.bits t != 0)) ∧ w' = w := by
  have HC1 := Lib.hid (refCSpan_any v d 0 d.length w S false h)
  have hsp : spanC d.length 0 d.length = true := by unfold spanC; simp
  rw [hsp] at HC1
  obtain ⟨a, cc, rfl, hcc, hcm, hx⟩ := cels_shape h
  have HX := Lib.hid hx
  unfold maxLen at hcm
  clear h hsp hx
  go_enter Tryz.func42, Tryz.ntmps42
  go_wp2_with (go_at_call 83; refine HC1.out.mono ?_; rintro e w2 ⟨rfl, rfl⟩)
  go_loop [9] (fun q => ∃ k : Nat, k ≤ d.length ∧ q = .int .i64 k ∧ Hid (∀ x ∈ d.take k, (bits .and .i64 x.bits t != 0) = false)) (fun q => d.length - (intOf q).toNat)
  case atStart => exact ⟨0, Nat.zero_le _, rfl, Lib.hid (by simp)⟩
  case round =>
    obtain ⟨k, hk, rfl, HI⟩ := hrel
    by_cases hlt : k < d.length
    · obtain ⟨x, hxx, _⟩ := getOf d k hlt
      obtain ⟨b, o, rfl, hz, c0, c1, c2⟩ := HX.out k x hxx
      have HXX := Lib.hid hxx
      have i0 : (0 : Int) ≤ (k : Int) := Int.natCast_nonneg _
      have i1 : (k : Int) < (d.length : Int) := by omega
      clear hxx
      cases ht : (bits .and .i64 x.bits t != 0)
      · have HT := Lib.hid ht
        go_wp2_with fail
        go_round
        case rel =>
          refine ⟨k + 1, hlt, by go_num, Lib.hid ?_⟩
          intro y hy
          rw [take_some HXX.out, List.mem_append, List.mem_singleton] at hy
          rcases hy with hy | rfl
          · exact HI.out y hy
          · have := HT.out; simpa using this
        case measure => simp [intOf]; omega
      · have HT := Lib.hid ht
        have HM := Lib.hid (List.mem_of_getElem? HXX.out)
        go_wp2_with fail
        go_ret
        refine ⟨?_, rfl⟩
        refine congrArg Ending.returned (congrArg Value.bool ?_)
        have h1 := HT.out
        have h2 := HM.out
        clear HT ht
        first
          | (refine (Bool.eq_false_iff.2 fun hh => ?_).symm
             rw [Bool.and_eq_true, List.all_eq_true] at hh
             have := hh.2 x h2
             rw [bne, this] at h1
             cases h1)
          | exact (List.any_eq_true.2 ⟨x, h2, h1⟩).symm
    · obtain rfl : k = d.length := by omega
      go_wp2_with fail
      go_ret
      refine ⟨?_, rfl⟩
      refine congrArg Ending.returned (congrArg Value.bool ?_)
      have hI := HI.out
      rw [List.take_length] at hI
      first
        | (rw [show (d.all fun x => bits .and .i64 x.bits t == t) = true from List.all_eq_true.2 hI, Bool.and_true])
        | exact (List.any_eq_false.2 fun x hx => by rw [hI x hx]; simp).symm
end Go.Proofs.YtfoiaoopbkcpoaaGreatDoor
