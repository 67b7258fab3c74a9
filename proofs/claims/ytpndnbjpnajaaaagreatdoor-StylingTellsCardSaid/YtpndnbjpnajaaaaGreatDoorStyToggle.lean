/- The link at hand of a state: styling.Href. -/
import Derived.Test.YtpndnbjpnajaaaaGreatDoorStyBits
import Derived.Test.YtpndnbjpnajaaaaGreatDoorSelBase
import Derived.Test.YtpndnbjpnajaaaaGreatDoorDocEach
import Derived.Test.YtpndnbjpnajaaaaGreatDoorDocDelete
import Derived.Test.YtpndnbjpnajaaaaGreatDoorRefValue
import Derived.Deep.RegionHeld3
import Derived.Deep.DrawnRows
import Derived.Lib.AppendZeros
import Derived.IntWalk
namespace Go.Proofs.Qw
open Go.RowKit Go.Proofs.YtpndnbjpnajaaaaGreatDoor
theorem hrefL_cons (c : Cel) (l : List Cel) : hrefL (c :: l) = if ((c :: l).any fun x => !decide (x.href = c.href)) = true then [] else c.href := by
  have h : ((c :: l).any fun x => !decide (x.href = c.href)) = !(l.all fun x => decide (x.href = c.href)) := by
    rw [List.any_cons, List.all_eq_not_any_not]
    simp
  rw [h]
  show (if l.all (fun x => decide (x.href = c.href)) = true then c.href else []) = _
  cases l.all (fun x => decide (x.href = c.href)) <;> rfl
end Go.Proofs.Qw
namespace Go.Proofs.YtpndnbjpnajaaaaGreatDoor
open Go.RowKit
open Go.Proofs.Qw
theorem href_neq (a b : List UInt8) : (a != b) = !decide (a = b) := by
  by_cases h : a = b
  · subst h; simp
  · rw [decide_eq_false h]; simpa using h
set_option maxHeartbeats 1000000 in
theorem styHref1_any (B : Nat) (v : Value) (c : Cel) (l : List Cel) (x : Cel) (w : World) (S : Nat → Prop) (h : CelsR false w S v (c :: l)) (hB : w.heap[B]? = some (.cells #[v] 40)) :
    Calls Tryz.prog 87 #[celV x, .pointer (some ⟨B, 0, none⟩)] w fun e w' => e = .returned (.bool (!decide (x.href = c.href))) ∧ Below w.heap.size w w' := by
  have hlt := (Array.getElem?_eq_some_iff.1 hB).1
  obtain ⟨a, cc, rfl, hcc, hm, hx⟩ := cels_shape h
  obtain ⟨b, o, rfl, hz, c0, c1, c2⟩ := hx 0 c rfl
  have c2' := c2
  rw [Nat.zero_mul, Nat.add_zero] at c2'
  have p2 : ∀ ob, (w.alloc ob).cell? ⟨B, 0, none⟩ = some (.slice (some ⟨b, o, none⟩) (c :: l).length cc) := fun ob => on1 hB ob 0
  have p3 : ∀ ob, (w.alloc ob).cell? ⟨b, o + 2, none⟩ = some (.string ⟨c.href.toArray⟩) := fun ob => (World.cell?_of_block (heap_alloc_old _ _ hz)).trans c2'
  have ne : ¬ B = w.heap.size := by omega
  have ne2 : ¬ b = w.heap.size := by omega
  have HQ := Lib.hid (href_neq x.href c.href)
  unfold maxLen at hm
  obtain ⟨n, hn⟩ : ∃ n, (c :: l).length = n := ⟨_, rfl⟩
  have n0 : (0 : Int) < (n : Int) := by rw [← hn]; simp
  rw [hn] at p2 hcc
  clear hn h hx c0 c1 c2 hB
  unfold celV
  go_enter Tryz.func87, Tryz.ntmps87
  go_wp2_with fail
  go_region
  go_wp2_with fail
  go_ret
  rw [← HQ.out]
  exact ⟨rfl, by (repeat' (first | (with_reducible exact Below.refl _ _) | (with_reducible assumption) | (with_reducible refine Below.alloc ?_ ?_ _) | (with_reducible refine Below.drew ?_) | (with_reducible refine drewN_below ?_) | (with_reducible refine Below.setCell ?_ ?_ _) | go_size))⟩
set_option maxRecDepth 100000 in
set_option maxHeartbeats 4000000 in
theorem styHref_any (v : Value) (s : St) (w : World) (S : Nat → Prop) (h : LinsR w S v s.lines) (he : EnvT w) (hs : Small s.lines) (hf : Fits s.lines) :
    Calls Tryz.prog 25 #[stV v s] w fun e w' => e = .returned (.string ⟨(hrefS s).toArray⟩) ∧ Below w.heap.size w w' := by
  obtain ⟨W1, hW1, hB, hz, k0⟩ := one_st w v s
  have HB : Hid (∀ W, Below W1.heap.size W1 W → W.heap[w.heap.size]? = some (.cells #[v, .int .i64 s.anc.line, .int .i64 s.anc.col, .int .i64 s.foc.line, .int .i64 s.foc.col, .int .i64 s.on, .int .i64 s.off] 26)) := Lib.hid fun W hW => heap_below hW k0
  have hs1 := hB.size
  have H1 := Lib.hid hB
  have hw0 : Below W1.heap.size W1 W1 := Below.refl _ _
  have HV : Hid (∀ W, Below W1.heap.size W1 W → LinsR W S v s.lines) := Lib.hid fun W hW => h.below (rdLin_stable _) (hB.trans (hW.mono hs1))
  have HE : Hid (∀ W, Below W1.heap.size W1 W → EnvT W) := Lib.hid fun W hW => (he.below hB).below hW
  have HM : Hid (∀ W, Below W1.heap.size W1 W → Calls Tryz.prog 27 #[stV v s] W fun e w' => e = .returned (.bool (mayS s)) ∧ Below W.heap.size W w') := Lib.hid fun W hW => stMay_any v s W S (HV.out W hW) (HE.out W hW) hs
  have HR : Hid (hrefS s = if mayS s = true then hrefL (cellsD s.lines (handS s).1 (handS s).2) else []) := Lib.hid rfl
  have HVF := Lib.hid (And.intro hs hf)
  cases hm : mayS s
  · rw [hm] at HM HR
    have HR : Hid (hrefS s = []) := Lib.hid (HR.out.trans (if_neg (by simp)))
    obtain ⟨p0, f0⟩ := blk k0
    obtain ⟨va, vc, rfl⟩ := h.slice
    clear h he hs hf k0 hB hm
    go_enter Tryz.func25, Tryz.ntmps25
    go_wp2_with ((go_at_call 27; refine (HM.out _ hw0).mono ?_; rintro e w2 ⟨rfl, hst2⟩; have hb2 := below_from hw0 hst2; skip))
    go_ret
    rw [HR.out]
    exact ⟨rfl, H1.out.trans (hb2.mono hs1)⟩
  · have hA := (mayS_at hm).2.1
    rw [hm] at HM HR
    rw [if_pos rfl] at HR
    have HH : Hid (∀ W, Below W1.heap.size W1 W → Calls Tryz.prog 84 #[stV v s] W fun e w' => e = .returned (.tuple #[.agg #[.int .i64 (handS s).1.line, .int .i64 (handS s).1.col], .agg #[.int .i64 (handS s).2.line, .int .i64 (handS s).2.col]]) ∧ Below W.heap.size W w') := Lib.hid fun W hW => styHand_any v s W S (HV.out W hW) hf hA
    obtain ⟨A, B, hAB⟩ : ∃ A B, handS s = (A, B) := ⟨_, _, rfl⟩
    rw [hAB] at HH HR
    simp only at HH HR
    have HL : Hid ((cellsD s.lines A B).length ≤ 100000) := Lib.hid (Nat.le_trans (cellsD_size _ _ _) hs.1)
    obtain ⟨p0, f0⟩ := blk k0
    obtain ⟨va, vc, rfl⟩ := h.slice
    clear h he hs hf hm hA hAB k0 hB
    go_enter Tryz.func25, Tryz.ntmps25
    go_wp2_with (first
      | (go_at_call 27; refine (HM.out _ hw0).mono ?_; rintro e w2 ⟨rfl, hst2⟩; have hb2 := below_from hw0 hst2; obtain ⟨q0, g0⟩ := blk (HB.out _ hb2))
      | (go_at_call 84; refine (HH.out _ hb2).mono ?_; rintro e w3 ⟨rfl, hst3⟩; have hb3 := below_from hb2 hst3; obtain ⟨q1, g1⟩ := blk (HB.out _ hb3); have hz3 := hb3.size; have e3 : ¬ w3.heap.size = w.heap.size := (by omega); have r1 := on2 (HB.out _ hb3))
      | (go_at_call 77; refine (selected_any _ _ _ A B _).mono ?_; rintro e w5 ⟨rfl, rfl⟩))
    obtain ⟨w6, hw6⟩ : ∃ w6, ((((w3.alloc (.cells #[.int .i64 A.line, .int .i64 A.col] 24)).alloc (.cells #[.int .i64 B.line, .int .i64 B.col] 24)).alloc (.cells #[.slice va s.lines.length vc] 22)).alloc (.cells #[.int .i64 A.line, .int .i64 A.col] 24)).alloc (.cells #[.int .i64 B.line, .int .i64 B.col] 24) = w6 := ⟨_, rfl⟩
    rw [hw6]
    have hb36 : Below w3.heap.size w3 w6 := hw6 ▸ below3 (below2 (Below.refl _ _) _ _) _ _ _
    have hz6 : w6.heap.size = w3.heap.size + 5 := by rw [← hw6]; simp
    have m2 : w6.heap[w3.heap.size + 1 + 1]? = some (.cells #[.slice va s.lines.length vc] 22) := hw6 ▸ heap_old _ _ (heap_old _ _ (heap_new _ _ (by simp)))
    have m3 : w6.heap[w3.heap.size + 1 + 1 + 1]? = some (.cells #[.int .i64 A.line, .int .i64 A.col] 24) := hw6 ▸ heap_old _ _ (heap_new _ _ (by simp))
    have m4 : w6.heap[w3.heap.size + 1 + 1 + 2]? = some (.cells #[.int .i64 B.line, .int .i64 B.col] 24) := hw6 ▸ heap_new _ _ (by simp)
    have hb6 := below_from hb3 hb36
    have HCo := Lib.hid (collect_any (w3.heap.size + 1 + 1) (w3.heap.size + 1 + 1 + 1) (w3.heap.size + 1 + 1 + 2) _ s.lines A B w6 S (HV.out _ hb6) (HE.out _ hb6) HVF.out.1 HVF.out.2 m2 m3 m4)
    clear m2 m3 m4 hw6 q0 g0 q1 g1 r1 p0 f0 hW1
    have HL9 := HL.out
    generalize cellsD s.lines A B = L at *
    cases L with
    | nil =>
      go_wp2_with (go_at_call 85; refine HCo.out.mono ?_; intro e w7 hcc; obtain ⟨v7, rfl, hv7, hb7⟩ := hcc; obtain ⟨a7, c7, rfl⟩ := hv7.slice; clear hv7)
      go_ret
      rw [HR.out]
      exact ⟨rfl, H1.out.trans ((below1 (below_from hb6 hb7) _).mono hs1)⟩
    | cons c l =>
      rw [hrefL_cons] at HR
      obtain ⟨n, hn⟩ : ∃ n, (c :: l).length = n := ⟨_, rfl⟩
      have hn0 : ((n : Int) == 0) = false := by rw [← hn]; simp; omega
      have n0 : (0 : Int) < (n : Int) := by rw [← hn]; simp
      have HN := Lib.hid hn
      rw [hn] at HL9
      clear hn
      obtain ⟨r, hr⟩ : ∃ r, ((c :: l).any fun x => !decide (x.href = c.href)) = r := ⟨_, rfl⟩
      rw [hr] at HR
      have HAn := Lib.hid hr
      clear hr
      go_wp2_with (go_at_call 85; refine HCo.out.mono ?_; intro e w7 hcc; obtain ⟨v7, rfl, hv7, hb7⟩ := hcc; obtain ⟨a7, c7, hve⟩ := hv7.slice; rw [HN.out] at hve; subst hve; have HV7 := Lib.hid hv7; clear hv7)
      have hb7' := below_from hb6 hb7
      obtain ⟨a8, c8, hve, hcc8, hmm8, hx8⟩ := SliceR.shape_own HV7.out
      rw [HN.out] at hve
      cases hve
      obtain ⟨b8, o8, vs8, cs8, rfl, hz8, hS8, _, _, _, hvs8, he8⟩ := hx8 0 c rfl
      cases hvs8
      have d2 := he8 2 _ rfl
      rw [Nat.zero_mul, Nat.add_zero] at d2
      have H8 : ∀ X, Below w7.heap.size w7 (w7.alloc X) := fun X => below1 (Below.refl _ _) X
      obtain ⟨w8, hw8⟩ : ∃ w8, w7.alloc (.cells #[.slice (some ⟨b8, o8, none⟩) n c7] 40) = w8 := ⟨_, rfl⟩
      rw [hw8]
      have hb78 : Below w7.heap.size w7 w8 := hw8 ▸ H8 _
      have hb8 := below_from hb7' hb78
      have m8 : w8.heap[w7.heap.size]? = some (.cells #[.slice (some ⟨b8, o8, none⟩) n c7] 40) := hw8 ▸ heap_new _ _ rfl
      have HB8 : Hid (∀ W, Below w8.heap.size w8 W → W.heap[w7.heap.size]? = some (.cells #[.slice (some ⟨b8, o8, none⟩) n c7] 40)) := Lib.hid fun W hW => heap_below hW m8
      have HR8 : Hid (CelsR false w8 (fun b => w6.heap.size ≤ b) (.slice (some ⟨b8, o8, none⟩) n c7) (c :: l)) := Lib.hid (SliceR.below (rdOf_stable _) (SliceR.read (fun _ _ h => h) HV7.out) hb78)
      have HCn := Lib.hid (containsCell_any _ (c :: l) (fun x => !decide (x.href = c.href)) 87 #[.pointer (some ⟨w7.heap.size, 0, none⟩)] (enters_of Tryz.func87 (by kernel_rfl) rfl) w8 w8 _ HR8.out (HE.out _ hb8) (Below.refl _ _) (fun i x W _ _ hW _ => styHref1_any _ _ c l x W _ (SliceR.below (rdOf_stable _) HR8.out hW) (HB8.out W hW)))
      rw [HAn.out] at HCn
      have d2' : ∀ W, Below w8.heap.size w8 W → W.cell? ⟨b8, o8 + 2, none⟩ = some (.string ⟨c.href.toArray⟩) := fun W hW => ((below_from hb78 hW).cell (p := ⟨b8, o8 + 2, none⟩) hz8).trans d2
      have HD := Lib.hid d2'
      obtain ⟨q8, g8⟩ := blk m8
      clear hx8 he8 d2 d2' H8 hw8 m8
      go_wp2_with (go_at_call 86; refine HCn.out.mono ?_; rintro e w9 ⟨rfl, hb9⟩; obtain ⟨q9, g9⟩ := blk (HB8.out _ hb9); have d9 := HD.out _ hb9; cases r)
      · go_ret
        rw [HR.out]
        exact ⟨rfl, H1.out.trans ((below_from hb8 hb9).mono hs1)⟩
      · go_ret
        rw [HR.out]
        exact ⟨rfl, H1.out.trans ((below_from hb8 hb9).mono hs1)⟩
end Go.Proofs.YtpndnbjpnajaaaaGreatDoor
namespace Go.Proofs.YtpndnbjpnajaaaaGreatDoor
open Go.RowKit
open Go.Proofs.Qw
attribute [local go_sem] Oper.semAt_some
theorem refPlaceC_any (v : Value) (l : List Cel) (k : Nat) (w : World) (S : Nat → Prop) (own : Bool) (h : CelsR own w S v l) (hk : k ≤ l.length) :
    Calls Tryz.prog 149 #[v, .int .i64 k] w fun e w' => e = .returned (.int .i64 k) ∧ w' = w := by
  obtain ⟨a, c, rfl⟩ := h.slice
  clear h
  have h0 : (0 : Int) ≤ k := Int.natCast_nonneg _
  have h1 : (k : Int) ≤ l.length := by omega
  generalize l.length = n at *
  go_enter Tryz.func149, Tryz.ntmps149
  go_wp2_with fail
  go_ret
  exact ⟨rfl, rfl⟩
set_option maxRecDepth 100000 in
set_option maxHeartbeats 4000000 in
theorem refAround_any (v : Value) (l : List Cel) (k : Nat) (w : World) (S : Nat → Prop) (h : CelsR false w S v l) (hk : k ≤ l.length) :
    Calls Tryz.prog 78 #[v, .int .i64 k] w fun e w' => e = .returned (.tuple #[.int .i64 (aroundF l k).1, .string ⟨(aroundF l k).2.toArray⟩]) ∧ Below w.heap.size w w' := by
  have HP := Lib.hid (refPlaceC_any v l k w S false h hk)
  obtain ⟨a, c, rfl, hc, hm, hx⟩ := cels_shape h
  unfold maxLen at hm
  have HX := Lib.hid hx
  clear hx h
  cases k with
  | zero =>
    by_cases hn : 0 < l.length
    · obtain ⟨x, hx0, _⟩ := getOf l 0 hn
      obtain ⟨b, o, rfl, hz, c0, c1, c2⟩ := HX.out 0 x hx0
      have HR : Hid (aroundF l 0 = (x.bits, [])) := Lib.hid (by
        unfold aroundF
        rw [if_neg (by omega), if_pos hn, if_neg (by omega), List.getD, hx0]
        rfl)
      rw [show ((0 : Nat) : Int) = 0 from rfl] at HP ⊢
      have hn' : (0 : Int) < l.length := by omega
      rw [Nat.zero_mul, Nat.add_zero] at c1
      clear hx0 c0 c2 hz
      go_enter Tryz.func78, Tryz.ntmps78
      go_wp2_with (go_at_call 149; refine HP.out.mono ?_; rintro e w1 ⟨rfl, rfl⟩)
      go_quiet (fail)
      go_wp2_with fail
      go_ret2
      rw [HR.out]
      exact ⟨rfl, by (repeat' (first | (with_reducible exact Below.refl _ _) | (with_reducible assumption) | (with_reducible refine Below.alloc ?_ ?_ _) | (with_reducible refine Below.drew ?_) | (with_reducible refine drewN_below ?_) | (with_reducible refine Below.setCell ?_ ?_ _) | go_size))⟩
    · obtain rfl : l = [] := List.length_eq_zero_iff.1 (by omega)
      have HR : Hid (aroundF [] 0 = (0, [])) := Lib.hid rfl
      rw [show ((0 : Nat) : Int) = 0 from rfl] at HP ⊢
      rw [show ([] : List Cel).length = 0 from rfl] at HP hc ⊢
      clear hn hk HX
      go_enter Tryz.func78, Tryz.ntmps78
      go_wp2_with (go_at_call 149; refine HP.out.mono ?_; rintro e w1 ⟨rfl, rfl⟩)
      go_quiet (fail)
      go_wp2_with fail
      go_ret2
      rw [HR.out]
      exact ⟨rfl, by (repeat' (first | (with_reducible exact Below.refl _ _) | (with_reducible assumption) | (with_reducible refine Below.alloc ?_ ?_ _) | (with_reducible refine Below.drew ?_) | (with_reducible refine drewN_below ?_) | (with_reducible refine Below.setCell ?_ ?_ _) | go_size))⟩
  | succ j =>
    obtain ⟨x, hx0, _⟩ := getOf l j (by omega)
    obtain ⟨b, o, rfl, hz, c0, c1, c2⟩ := HX.out j x hx0
    have j0 : (0 : Int) ≤ (j : Int) := Int.natCast_nonneg _
    have j1 : (j : Int) < l.length := by omega
    have j2 : ((j : Int) + 1).toNat = j + 1 := by omega
    by_cases hn : j + 1 < l.length
    · obtain ⟨y, hy0, _⟩ := getOf l (j + 1) hn
      obtain ⟨b', o', hbe, hz', d0, d1, d2⟩ := HX.out (j + 1) y hy0
      cases hbe
      have hlt : decide ((j : Int) + 1 < l.length) = true := decide_eq_true (by omega)
      have HR : Hid (aroundF l (j + 1) = (x.bits, if x.href = y.href then y.href else [])) := Lib.hid (by
        simp only [aroundF, List.getD, Nat.add_sub_cancel, hx0, hy0, Option.getD_some, Nat.zero_lt_succ, if_true, hn, true_and]
        by_cases e : x.href = y.href <;> simp [e])
      clear hx0 hy0 c0 hz hz' d0 d1
      by_cases e : x.href = y.href
      all_goals
        have HR := Lib.hid HR.out
        first
          | (rw [if_pos e] at HR; have hq : (x.href == y.href) = true := by simpa using e)
          | (rw [if_neg e] at HR; have hq : (x.href == y.href) = false := by simpa using e)
        clear e
        go_enter Tryz.func78, Tryz.ntmps78
        go_wp2_with (go_at_call 149; refine HP.out.mono ?_; rintro e w1 ⟨rfl, rfl⟩)
        go_quiet (fail)
        go_wp2_with fail
        go_ret2
        rw [HR.out]
        exact ⟨rfl, by (repeat' (first | (with_reducible exact Below.refl _ _) | (with_reducible assumption) | (with_reducible refine Below.alloc ?_ ?_ _) | (with_reducible refine Below.drew ?_) | (with_reducible refine drewN_below ?_) | (with_reducible refine Below.setCell ?_ ?_ _) | go_size))⟩
    · have hlt : decide ((j : Int) + 1 < l.length) = false := decide_eq_false (by omega)
      have HR : Hid (aroundF l (j + 1) = (x.bits, [])) := Lib.hid (by
        simp only [aroundF, List.getD, Nat.add_sub_cancel, hx0, Option.getD_some, Nat.zero_lt_succ, if_true, hn, false_and, and_false, if_false])
      clear hx0 c0 c2 hz
      go_enter Tryz.func78, Tryz.ntmps78
      go_wp2_with (go_at_call 149; refine HP.out.mono ?_; rintro e w1 ⟨rfl, rfl⟩)
      go_quiet (fail)
      go_wp2_with fail
      go_ret2
      rw [HR.out]
      exact ⟨rfl, by (repeat' (first | (with_reducible exact Below.refl _ _) | (with_reducible assumption) | (with_reducible refine Below.alloc ?_ ?_ _) | (with_reducible refine Below.drew ?_) | (with_reducible refine drewN_below ?_) | (with_reducible refine Below.setCell ?_ ?_ _) | go_size))⟩
set_option maxRecDepth 100000 in
set_option maxHeartbeats 8000000 in
theorem refWithin_any (v : Value) (l : List Cel) (k : Nat) (w : World) (S : Nat → Prop) (h : CelsR false w S v l) (hk : k ≤ l.length) (_hl : l.length ≤ 1000000) :
    Calls Tryz.prog 156 #[v, .int .i64 k] w fun e w' => e = .returned (.tuple #[.int .i64 (withinF l k).1, .int .i64 (withinF l k).2]) ∧ Below w.heap.size w w' := by
  have HP := Lib.hid (refPlaceC_any v l k w S false h hk)
  obtain ⟨a, c, rfl, hc, hm, hx⟩ := cels_shape h
  unfold maxLen at hm
  have HX := Lib.hid hx
  clear hx h
  have hw0 : Below w.heap.size w w := Below.refl _ _
  obtain ⟨H, hH⟩ : ∃ H, handF l k = H := ⟨_, rfl⟩
  have HR : Hid (withinF l k = if H = [] then (k, k) else (backF l H k, forthF l H k)) := Lib.hid (by unfold withinF; rw [hH])
  obtain ⟨B, hB⟩ : ∃ B, decide (0 < k ∧ (l.getD (k - 1) default).href ≠ []) = B := ⟨_, rfl⟩
  have hcase : (B = true ∧ ∃ j x, k = j + 1 ∧ l[j]? = some x ∧ x.href.isEmpty = false ∧ H = x.href) ∨ (B = false ∧ (k = 0 ∨ ∃ j x, k = j + 1 ∧ l[j]? = some x ∧ x.href.isEmpty = true) ∧ ((l.length ≤ k ∧ H = []) ∨ ∃ y, l[k]? = some y ∧ H = y.href)) := by
    rw [← hH, ← hB]
    have hlast : ∀ h : List UInt8, h = (if k < l.length then (l.getD k default).href else []) → ((l.length ≤ k ∧ h = []) ∨ ∃ y, l[k]? = some y ∧ h = y.href) := by
      intro h hh
      by_cases hn : k < l.length
      · obtain ⟨y, hy, _⟩ := getOf l k hn
        exact .inr ⟨y, hy, by rw [hh, if_pos hn, List.getD, hy]; rfl⟩
      · exact .inl ⟨by omega, by rw [hh, if_neg hn]⟩
    unfold handF
    by_cases e : 0 < k ∧ (l.getD (k - 1) default).href ≠ []
    · rw [if_pos e, decide_eq_true e]
      refine .inl ⟨rfl, ?_⟩
      obtain ⟨e1, e2⟩ := e
      cases k with
      | zero => omega
      | succ j =>
        obtain ⟨x, hx, _⟩ := getOf l j (by omega)
        simp only [Nat.add_sub_cancel, List.getD, hx, Option.getD_some] at e2 ⊢
        exact ⟨j, x, rfl, hx, by simpa using e2, rfl⟩
    · rw [if_neg e, decide_eq_false e]
      refine .inr ⟨rfl, ?_, hlast _ rfl⟩
      cases k with
      | zero => exact .inl rfl
      | succ j =>
        obtain ⟨x, hx, _⟩ := getOf l j (by omega)
        simp only [Nat.add_sub_cancel, List.getD, hx, Option.getD_some, Nat.zero_lt_succ, true_and, ne_eq, Decidable.not_not] at e
        exact .inr ⟨j, x, rfl, hx, by simpa using e⟩
  have HC := Lib.hid hcase
  clear hcase hH hB
  go_enter Tryz.func156, Tryz.ntmps156
  go_upto_region 3 with (go_at_call 149; refine HP.out.mono ?_; rintro e w1 ⟨rfl, rfl⟩)
  go_cut [22] from 12 to 22 (fun r wx => r = .bool B ∧ wx = w1)
  case first =>
    rcases HC.out with ⟨rfl, j, x, rfl, hx, hq, _⟩ | ⟨rfl, rfl | ⟨j, x, rfl, hx, hq⟩, _⟩
    · obtain ⟨b, o, rfl, hz, c0, c1, c2⟩ := HX.out j x hx
      have j0 : (0 : Int) ≤ (j : Int) := Int.natCast_nonneg _
      have j1 : (j : Int) < l.length := by omega
      clear hx c0 c1
      go_wp2_with fail
      go_meet
      case rel => exact ⟨rfl, rfl⟩
    · go_wp2_with fail
      go_meet
      case rel => exact ⟨rfl, rfl⟩
    · obtain ⟨b, o, rfl, hz, c0, c1, c2⟩ := HX.out j x hx
      have j0 : (0 : Int) ≤ (j : Int) := Int.natCast_nonneg _
      have j1 : (j : Int) < l.length := by omega
      clear hx c0 c1
      go_wp2_with fail
      go_meet
      case rel => exact ⟨rfl, rfl⟩
  case rest =>
  obtain ⟨rfl, rfl⟩ := hcut
  go_upto_if 22 with fail
  go_cut [6] from 23 (fun r wx => r = .string ⟨H.toArray⟩ ∧ wx = wc)
  case first =>
    rcases HC.out with ⟨rfl, j, x, rfl, hx, hq, rfl⟩ | ⟨rfl, _, ⟨hn, rfl⟩ | ⟨y, hy, rfl⟩⟩
    · obtain ⟨b, o, rfl, hz, c0, c1, c2⟩ := HX.out j x hx
      have j0 : (0 : Int) ≤ (j : Int) := Int.natCast_nonneg _
      have j1 : (j : Int) < l.length := by omega
      clear hx hq c0 c1
      go_wp2_with fail
      go_meet
      case rel => exact ⟨rfl, rfl⟩
    · have j1 : ¬ ((k : Int) < l.length) := by omega
      go_wp2_with fail
      go_meet
      case rel => exact ⟨rfl, rfl⟩
    · have hkl := (List.getElem?_eq_some_iff.1 hy).1
      obtain ⟨b, o, rfl, hz, c0, c1, c2⟩ := HX.out k y hy
      have j0 : (0 : Int) ≤ (k : Int) := Int.natCast_nonneg _
      have j1 : (k : Int) < l.length := by omega
      clear hy c0 c1
      go_wp2_with fail
      go_meet
      case rel => exact ⟨rfl, rfl⟩
  case rest =>
  obtain ⟨rfl, rfl⟩ := hcut
  clear HC HP
  by_cases hH : H = []
  · have HQ : Hid (withinF l k = (k, k)) := Lib.hid (HR.out.trans (if_pos hH))
    subst hH
    go_wp2_with fail
    go_ret2
    rw [HQ.out]
    exact ⟨rfl, hw0⟩
  · have HQ : Hid (withinF l k = (backF l H k, forthF l H k)) := Lib.hid (HR.out.trans (if_neg hH))
    have hne : H.isEmpty = false := by simpa using hH
    clear HR hH
    go_wp2_with fail
    go_loopw [7] (fun i wr => ∃ j : Nat, j ≤ k ∧ i = .int .i64 j ∧ Hid (backF l H k = backF l H j) ∧ wc = wr) (fun i _ => (intOf i).toNat)
    case atStart => exact ⟨k, Nat.le_refl _, rfl, Lib.hid rfl, rfl⟩
    case round =>
      obtain ⟨j, hj, rfl, HJ, rfl⟩ := hrel
      have hdone : (j = 0 ∨ ∃ m, j = m + 1 ∧ ∃ x, l[m]? = some x ∧ x.href ≠ H) ∨ ∃ m, j = m + 1 ∧ ∃ x, l[m]? = some x ∧ x.href = H := by
        cases j with
        | zero => exact .inl (.inl rfl)
        | succ m =>
          obtain ⟨x, hx, _⟩ := getOf l m (by omega)
          by_cases e : x.href = H
          · exact .inr ⟨m, rfl, x, hx, e⟩
          · exact .inl (.inr ⟨m, rfl, x, hx, e⟩)
      rcases hdone with (rfl | ⟨m, rfl, x, hx, hxe⟩) | ⟨m, rfl, x, hx, hxe⟩
      · have HB' : Hid (backF l H k = 0) := Lib.hid (HJ.out.trans rfl)
        go_wp2_with fail
        go_loopw [8] (fun i wr => ∃ n : Nat, k ≤ n ∧ n ≤ l.length ∧ i = .int .i64 n ∧ Hid (forthF l H k = forthF l H n) ∧ wc = wr) (fun i _ => l.length - (intOf i).toNat)
        case atStart => exact ⟨k, Nat.le_refl _, hk, rfl, Lib.hid rfl, rfl⟩
        case round =>
          obtain ⟨n, hn, hnl, rfl, HN, rfl⟩ := hrel
          by_cases hlt : n < l.length
          · obtain ⟨y, hy, _⟩ := getOf l n hlt
            obtain ⟨b', o', hbe, hz', d0, d1, d2⟩ := HX.out n y hy
            subst hbe
            have n0 : (0 : Int) ≤ (n : Int) := Int.natCast_nonneg _
            by_cases hye : y.href = H
            · have HF := Lib.hid (HN.out.trans (forthF_on hy hye))
              have hq : (y.href == H) = true := by simpa using hye
              clear hy hye
              go_wp2_with fail
              go_roundw
              case rel => exact ⟨n + 1, by omega, by omega, by go_num, HF, by simp⟩
              case measure => simp [intOf]; omega
            · have HF := Lib.hid (HN.out.trans (forthF_off hy hye))
              have hq : (y.href == H) = false := by simpa using hye
              clear hy hye
              go_wp2_with fail
              go_ret2
              rw [HQ.out, HB'.out, HF.out]
              exact ⟨rfl, hw0⟩
          · obtain rfl : n = l.length := by omega
            have HF := Lib.hid (HN.out.trans (forthF_end (Nat.le_refl _)))
            go_wp2_with fail
            go_ret2
            rw [HQ.out, HB'.out, HF.out]
            exact ⟨rfl, hw0⟩
      · have HB' : Hid (backF l H k = m + 1) := Lib.hid (HJ.out.trans (by unfold backF; rw [if_neg (by simpa [List.getD, hx] using hxe)]))
        obtain ⟨b, o, rfl, hz, c0, c1, c2⟩ := HX.out m x hx
        have hq : (x.href == H) = false := by simpa using hxe
        have e3 : ((m + 1 : Nat) : Int) - 1 = m := by omega
        clear hx hxe
        go_wp2_with fail
        go_loopw [8] (fun i wr => ∃ n : Nat, k ≤ n ∧ n ≤ l.length ∧ i = .int .i64 n ∧ Hid (forthF l H k = forthF l H n) ∧ wc = wr) (fun i _ => l.length - (intOf i).toNat)
        case atStart => exact ⟨k, Nat.le_refl _, hk, rfl, Lib.hid rfl, rfl⟩
        case round =>
          obtain ⟨n, hn, hnl, rfl, HN, rfl⟩ := hrel
          by_cases hlt : n < l.length
          · obtain ⟨y, hy, _⟩ := getOf l n hlt
            obtain ⟨b', o', hbe, hz', d0, d1, d2⟩ := HX.out n y hy
            cases hbe
            have n0 : (0 : Int) ≤ (n : Int) := Int.natCast_nonneg _
            by_cases hye : y.href = H
            · have HF := Lib.hid (HN.out.trans (forthF_on hy hye))
              have hq : (y.href == H) = true := by simpa using hye
              clear hy hye
              go_wp2_with fail
              go_roundw
              case rel => exact ⟨n + 1, by omega, by omega, by go_num, HF, by simp⟩
              case measure => simp [intOf]; omega
            · have HF := Lib.hid (HN.out.trans (forthF_off hy hye))
              have hq : (y.href == H) = false := by simpa using hye
              clear hy hye
              go_wp2_with fail
              go_ret2
              rw [HQ.out, HB'.out, HF.out]
              exact ⟨rfl, hw0⟩
          · obtain rfl : n = l.length := by omega
            have HF := Lib.hid (HN.out.trans (forthF_end (Nat.le_refl _)))
            go_wp2_with fail
            go_ret2
            rw [HQ.out, HB'.out, HF.out]
            exact ⟨rfl, hw0⟩
      · have HB' := Lib.hid (HJ.out.trans (show backF l H (m + 1) = backF l H m by rw [backF, if_pos (by simpa [List.getD, hx] using hxe)]))
        obtain ⟨b, o, rfl, hz, c0, c1, c2⟩ := HX.out m x hx
        have hq : (x.href == H) = true := by simpa using hxe
        have e3 : ((m + 1 : Nat) : Int) - 1 = m := by omega
        clear hx hxe
        go_wp2_with fail
        go_roundw
        case rel => exact ⟨m, by omega, by go_num, HB', by simp⟩
        case measure => simp [intOf]
end Go.Proofs.YtpndnbjpnajaaaaGreatDoor
namespace Go.Proofs.YtpndnbjpnajaaaaGreatDoor
open Go.RowKit
open Go.Proofs.Qw
set_option maxRecDepth 100000 in
set_option maxHeartbeats 4000000 in
theorem refStMay_any (v : Value) (s : St) (w : World) (S : Nat → Prop) (h : LinsR w S v s.lines) (hs : Small s.lines) (ho : -9223372036854775808 ≤ s.on ∧ s.on ≤ 9223372036854775807) (hf : -9223372036854775808 ≤ s.off ∧ s.off ≤ 9223372036854775807) :
    Calls Tryz.prog 70 #[stV v s] w fun e w' => e = .returned (.bool (mayS s)) ∧ Below w.heap.size w w' := by
  obtain ⟨W1, hW1, hB, hz, hA⟩ := one_st w v s
  have hs1 := hB.size
  have hv := h.below (rdLin_stable _) hB
  have HC1 := Lib.hid (refMay_any v s.lines W1 S hv hs)
  have HC2 : Hid (∀ p : Ps, ∀ W, Below W1.heap.size W1 W → Calls Tryz.prog 144 #[v, .agg #[.int .i64 p.line, .int .i64 p.col]] W fun e w' => e = .returned (.bool (isD s.lines p)) ∧ Below W.heap.size W w') := Lib.hid fun p W hW => refIs_any v s.lines p W S (hv.below (rdLin_stable _) hW)
  have HB : Hid (∀ W, Below W1.heap.size W1 W → W.heap[w.heap.size]? = some (.cells #[v, .int .i64 s.anc.line, .int .i64 s.anc.col, .int .i64 s.foc.line, .int .i64 s.foc.col, .int .i64 s.on, .int .i64 s.off] 26)) := Lib.hid fun W hW => heap_below hW hA
  have HE : Hid (mayS s = (mayD s.lines && (isD s.lines s.anc && (isD s.lines s.foc && ((decide (0 ≤ s.on) && decide (s.on ≤ 15)) && ((decide (0 ≤ s.off) && decide (s.off ≤ 15)) && bits .and .i64 s.on s.off == 0)))))) := Lib.hid (by unfold mayS; rw [bits_small _ ho, bits_small _ hf])
  have H1 := Lib.hid hB
  have hw0 : Below W1.heap.size W1 W1 := Below.refl _ _
  obtain ⟨p0, f0⟩ := blk hA
  obtain ⟨va, vc, rfl⟩ := h.slice
  clear h hs hz hA hB hv ho hf
  generalize mayS s = r at *
  generalize mayD s.lines = x at *
  by_cases hq : (0 ≤ s.on ∧ s.on ≤ 15) ∧ (0 ≤ s.off ∧ s.off ≤ 15) ∧ bits .and .i64 s.on s.off = 0
  · obtain ⟨⟨h1, h2⟩, ⟨h3, h4⟩, h5⟩ := hq
    have HE : Hid (r = (x && (isD s.lines s.anc && isD s.lines s.foc))) := Lib.hid (by rw [HE.out]; simp [h1, h2, h3, h4, h5])
    have h6 : (bits .and .i64 s.on s.off != 0) = false := by simpa using h5
    clear h5
    go_enter Tryz.func70, Tryz.ntmps70
    go_wp2_with (first
      | (go_at_call 62; refine HC1.out.mono ?_; rintro e w2 ⟨rfl, hb2⟩; obtain ⟨p3, f3⟩ := blk (HB.out _ hb2); cases x)
      | (go_at_call 144; refine (HC2.out _ _ (by assumption)).mono ?_; rintro e w3 ⟨rfl, hb3⟩; have hx3 : Below W1.heap.size W1 w3 := below_from (by assumption) hb3; clear hb3; obtain ⟨p5, f5⟩ := blk (HB.out _ hx3)))
    all_goals
      go_ret
      refine ⟨?_, H1.out.trans (Below.mono (by assumption) hs1)⟩
      rw [HE.out]
      refine congrArg Ending.returned (congrArg Value.bool ?_)
      clear HE HC1 HC2 HB H1
      simp (config := { failIfUnchanged := false }) [*]
  · have HE : Hid (r = false) := Lib.hid (by
      rw [HE.out, Bool.eq_false_iff]
      intro h
      simp at h
      exact hq ⟨h.2.2.2.1, h.2.2.2.2.1, h.2.2.2.2.2⟩)
    have hq' : s.on < 0 ∨ (0 ≤ s.on ∧ 15 < s.on) ∨ (0 ≤ s.on ∧ s.on ≤ 15 ∧ s.off < 0) ∨ (0 ≤ s.on ∧ s.on ≤ 15 ∧ 0 ≤ s.off ∧ 15 < s.off) ∨ (0 ≤ s.on ∧ s.on ≤ 15 ∧ 0 ≤ s.off ∧ s.off ≤ 15 ∧ (bits .and .i64 s.on s.off != 0) = true) := by
      by_cases h5 : bits .and .i64 s.on s.off = 0
      · omega
      · have h6 : (bits .and .i64 s.on s.off != 0) = true := by simpa using h5
        simp only [h6, and_true]
        omega
    clear hq HC1 HC2
    rcases hq' with h1 | ⟨h1, h2⟩ | ⟨h1, h2, h3⟩ | ⟨h1, h2, h3, h4⟩ | ⟨h1, h2, h3, h4, h5⟩
    all_goals
      go_enter Tryz.func70, Tryz.ntmps70
      go_wp2_with fail
      go_ret
      rw [HE.out]
      exact ⟨rfl, H1.out⟩
end Go.Proofs.YtpndnbjpnajaaaaGreatDoor
namespace Go.Proofs.YtpndnbjpnajaaaaGreatDoor
open Go.RowKit
open Go.Proofs.Qw
set_option maxHeartbeats 1000000 in
theorem refCSpan_any (v : Value) (d : List Cel) (i j : Int) (w : World) (S : Nat → Prop) (own : Bool) (h : CelsR own w S v d) :
    Calls Tryz.prog 152 #[v, .int .i64 i, .int .i64 j] w fun e w' => e = .returned (.bool (spanC d.length i j)) ∧ w' = w := by
  obtain ⟨a, c, rfl⟩ := h.slice
  clear h
  have HS : Hid (spanC d.length i j = (decide (0 ≤ i) && (decide (i ≤ j) && decide (j ≤ (d.length : Int))))) := Lib.hid rfl
  go_enter Tryz.func152, Tryz.ntmps152
  go_wp2_with fail
  all_goals
    go_ret
    refine ⟨?_, rfl⟩
    rw [HS.out]
    refine congrArg Ending.returned (congrArg Value.bool ?_)
    clear HS
    simp (config := { failIfUnchanged := false }) [*]
  all_goals try omega
set_option maxRecDepth 100000 in
set_option maxHeartbeats 2000000 in
theorem refCAll_any (v : Value) (d : List Cel) (t : Int) (w : World) (S : Nat → Prop) (h : CelsR false w S v d) :
    Calls Tryz.prog 83 #[v, .int .i64 0, .int .i64 d.length, .int .i64 t] w fun e w' => e = .returned (.bool (decide (0 < d.length) && d.all fun x => bits .and .i64 x.bits t == t)) ∧ w' = w := by
  have HC1 := Lib.hid (refCSpan_any v d 0 d.length w S false h)
  have hsp : spanC d.length 0 d.length = true := by unfold spanC; simp
  rw [hsp] at HC1
  obtain ⟨a, cc, rfl, hcc, hcm, hx⟩ := cels_shape h
  have HX := Lib.hid hx
  unfold maxLen at hcm
  clear h hsp hx
  go_enter Tryz.func83, Tryz.ntmps83
  go_wp2_with (go_at_call 152; refine HC1.out.mono ?_; rintro e w2 ⟨rfl, rfl⟩)
  go_loop [9] (fun q => ∃ k : Nat, k ≤ d.length ∧ q = .int .i64 k ∧ Hid (∀ x ∈ d.take k, (bits .and .i64 x.bits t == t) = true)) (fun q => d.length - (intOf q).toNat)
  case atStart => exact ⟨0, Nat.zero_le _, rfl, Lib.hid (by simp)⟩
  case round =>
    obtain ⟨k, hk, rfl, HI⟩ := hrel
    by_cases hlt : k < d.length
    · obtain ⟨x, hxx, _⟩ := getOf d k hlt
      obtain ⟨b, o, rfl, hz, c0, c1, c2⟩ := HX.out k x hxx
      have HXX := Lib.hid hxx
      have i0 : (0 : Int) ≤ (k : Int) := Int.natCast_nonneg _
      have i1 : (k : Int) < (d.length : Int) := by omega
      clear hxx
      cases ht : (bits .and .i64 x.bits t != t)
      · have HT := Lib.hid ht
        go_wp2_with fail
        go_round
        case rel =>
          refine ⟨k + 1, hlt, by go_num, Lib.hid ?_⟩
          intro y hy
          rw [take_some HXX.out, List.mem_append, List.mem_singleton] at hy
          rcases hy with hy | rfl
          · exact HI.out y hy
          · have := HT.out; simpa using this
        case measure => simp [intOf]; omega
      · have HT := Lib.hid ht
        have HM := Lib.hid (List.mem_of_getElem? HXX.out)
        go_wp2_with fail
        go_ret
        refine ⟨?_, rfl⟩
        refine congrArg Ending.returned (congrArg Value.bool ?_)
        have h1 := HT.out
        have h2 := HM.out
        clear HT ht
        first
          | (refine (Bool.eq_false_iff.2 fun hh => ?_).symm
             rw [Bool.and_eq_true, List.all_eq_true] at hh
             have := hh.2 x h2
             rw [bne, this] at h1
             cases h1)
          | exact (List.any_eq_true.2 ⟨x, h2, h1⟩).symm
    · obtain rfl : k = d.length := by omega
      go_wp2_with fail
      go_ret
      refine ⟨?_, rfl⟩
      refine congrArg Ending.returned (congrArg Value.bool ?_)
      have hI := HI.out
      rw [List.take_length] at hI
      first
        | (rw [show (d.all fun x => bits .and .i64 x.bits t == t) = true from List.all_eq_true.2 hI, Bool.and_true])
        | exact (List.any_eq_false.2 fun x hx => by rw [hI x hx]; simp).symm
set_option maxRecDepth 100000 in
set_option maxHeartbeats 2000000 in
theorem refCSome_any (v : Value) (d : List Cel) (t : Int) (w : World) (S : Nat → Prop) (h : CelsR false w S v d) :
    Calls Tryz.prog 82 #[v, .int .i64 0, .int .i64 d.length, .int .i64 t] w fun e w' => e = .returned (.bool (d.any fun x => bits .and .i64 x.bits t != 0)) ∧ w' = w := by
  have HC1 := Lib.hid (refCSpan_any v d 0 d.length w S false h)
  have hsp : spanC d.length 0 d.length = true := by unfold spanC; simp
  rw [hsp] at HC1
  obtain ⟨a, cc, rfl, hcc, hcm, hx⟩ := cels_shape h
  have HX := Lib.hid hx
  unfold maxLen at hcm
  clear h hsp hx
  go_enter Tryz.func82, Tryz.ntmps82
  go_wp2_with (go_at_call 152; refine HC1.out.mono ?_; rintro e w2 ⟨rfl, rfl⟩)
  go_loop [9] (fun q => ∃ k : Nat, k ≤ d.length ∧ q = .int .i64 k ∧ Hid (∀ x ∈ d.take k, (bits .and .i64 x.bits t != 0) = false)) (fun q => d.length - (intOf q).toNat)
  case atStart => exact ⟨0, Nat.zero_le _, rfl, Lib.hid (by simp)⟩
  case round =>
    obtain ⟨k, hk, rfl, HI⟩ := hrel
    by_cases hlt : k < d.length
    · obtain ⟨x, hxx, _⟩ := getOf d k hlt
      obtain ⟨b, o, rfl, hz, c0, c1, c2⟩ := HX.out k x hxx
      have HXX := Lib.hid hxx
      have i0 : (0 : Int) ≤ (k : Int) := Int.natCast_nonneg _
      have i1 : (k : Int) < (d.length : Int) := by omega
      clear hxx
      cases ht : (bits .and .i64 x.bits t != 0)
      · have HT := Lib.hid ht
        go_wp2_with fail
        go_round
        case rel =>
          refine ⟨k + 1, hlt, by go_num, Lib.hid ?_⟩
          intro y hy
          rw [take_some HXX.out, List.mem_append, List.mem_singleton] at hy
          rcases hy with hy | rfl
          · exact HI.out y hy
          · have := HT.out; simpa using this
        case measure => simp [intOf]; omega
      · have HT := Lib.hid ht
        have HM := Lib.hid (List.mem_of_getElem? HXX.out)
        go_wp2_with fail
        go_ret
        refine ⟨?_, rfl⟩
        refine congrArg Ending.returned (congrArg Value.bool ?_)
        have h1 := HT.out
        have h2 := HM.out
        clear HT ht
        first
          | (refine (Bool.eq_false_iff.2 fun hh => ?_).symm
             rw [Bool.and_eq_true, List.all_eq_true] at hh
             have := hh.2 x h2
             rw [bne, this] at h1
             cases h1)
          | exact (List.any_eq_true.2 ⟨x, h2, h1⟩).symm
    · obtain rfl : k = d.length := by omega
      go_wp2_with fail
      go_ret
      refine ⟨?_, rfl⟩
      refine congrArg Ending.returned (congrArg Value.bool ?_)
      have hI := HI.out
      rw [List.take_length] at hI
      first
        | (rw [show (d.all fun x => bits .and .i64 x.bits t == t) = true from List.all_eq_true.2 hI, Bool.and_true])
        | exact (List.any_eq_false.2 fun x hx => by rw [hI x hx]; simp).symm
end Go.Proofs.YtpndnbjpnajaaaaGreatDoor
namespace Go.Proofs.YtpndnbjpnajaaaaGreatDoor
open Go.RowKit
open Go.Proofs.Qw
attribute [local go_sem] Oper.semAt_some
set_option maxRecDepth 100000 in
set_option maxHeartbeats 4000000 in
theorem refStRow_any (v : Value) (s : St) (w : World) (S : Nat → Prop) (h : LinsR w S v s.lines) (hs : Small s.lines) (hf : Fits s.lines) :
    Calls Tryz.prog 79 #[stV v s] w fun e w' => ∃ v', e = .returned v' ∧ CelsR true w' (fun b => w.heap.size ≤ b) v' (selS s) ∧ Below w.heap.size w w' := by
  obtain ⟨W1, hW1, hB, hz, k0⟩ := one_st w v s
  have HB : Hid (∀ W, Below W1.heap.size W1 W → W.heap[w.heap.size]? = some (.cells #[v, .int .i64 s.anc.line, .int .i64 s.anc.col, .int .i64 s.foc.line, .int .i64 s.foc.col, .int .i64 s.on, .int .i64 s.off] 26)) := Lib.hid fun W hW => heap_below hW k0
  have hs1 := hB.size
  have H1 := Lib.hid hB
  have hw0 : Below W1.heap.size W1 W1 := Below.refl _ _
  have HV : Hid (∀ W, Below W1.heap.size W1 W → LinsR W S v s.lines) := Lib.hid fun W hW => h.below (rdLin_stable _) (hB.trans (hW.mono hs1))
  have HSp : Hid (∀ W, Below W1.heap.size W1 W → Calls Tryz.prog 69 #[stV v s] W fun e w' => e = .returned (.tuple #[.agg #[.int .i64 (spanS s).1.line, .int .i64 (spanS s).1.col], .agg #[.int .i64 (spanS s).2.line, .int .i64 (spanS s).2.col]]) ∧ Below W.heap.size W w') := Lib.hid fun W _ => refStSpan_any v s W
  obtain ⟨A, B, hAB⟩ : ∃ A B, spanS s = (A, B) := ⟨_, _, rfl⟩
  have hsel : selS s = cellsD s.lines A B := by unfold selS; rw [hAB]
  rw [hsel]
  rw [hAB] at HSp
  simp only at HSp
  have HC : Hid (∀ W, Below W1.heap.size W1 W → Calls Tryz.prog 89 #[v, .agg #[.int .i64 A.line, .int .i64 A.col], .agg #[.int .i64 B.line, .int .i64 B.col]] W fun e w' => ∃ v', e = .returned v' ∧ CelsR true w' (fun b => W.heap.size ≤ b) v' (cellsD s.lines A B) ∧ Below W.heap.size W w') := Lib.hid fun W hW => refCells_any v s.lines A B W S (HV.out W hW) hs hf
  obtain ⟨p0, f0⟩ := blk k0
  obtain ⟨va, vc, rfl⟩ := h.slice
  clear h hs hf hAB hsel k0 hB
  go_enter Tryz.func79, Tryz.ntmps79
  go_wp2_with (first
    | (go_at_call 69; refine (HSp.out _ hw0).mono ?_; rintro e w2 ⟨rfl, hst2⟩; have hb2 := below_from hw0 hst2; obtain ⟨q0, g0⟩ := blk (HB.out _ hb2); have hz2 := hb2.size; have e2 : ¬ w2.heap.size = w.heap.size := (by omega); have r0 := on2 (HB.out _ hb2); have HX2 : Hid (∀ X Y, Below W1.heap.size W1 ((w2.alloc X).alloc Y)) := Lib.hid fun X Y => hb2.trans (below2 (Below.refl _ _) X Y |>.mono hz2))
    | (go_at_call 89; refine (HC.out _ (HX2.out _ _)).mono ?_; rintro e w3 ⟨v3, rfl, hv3, hst3⟩; obtain ⟨a3, c3, rfl⟩ := hv3.slice; have hb3 := below_from (HX2.out _ _) hst3; have HV3 := Lib.hid hv3; clear hv3))
  go_ret
  exact ⟨_, rfl, SliceR.stable (rdOf_stable _) HV3.out (Keeps.refl _ _) (fun b h _ => (by have h' := h; simp at h'; omega)), H1.out.trans (hb3.mono hs1)⟩
set_option maxRecDepth 100000 in
set_option maxHeartbeats 4000000 in
theorem refStBits_any (v : Value) (s : St) (w : World) (S : Nat → Prop) (h : LinsR w S v s.lines) (hs : Small s.lines) (hf : Fits s.lines) (ho : -9223372036854775808 ≤ s.on ∧ s.on ≤ 9223372036854775807) (hof : -9223372036854775808 ≤ s.off ∧ s.off ≤ 9223372036854775807) :
    Calls Tryz.prog 20 #[stV v s] w fun e w' => e = .returned (.int .i64 (bitsS s)) ∧ Below w.heap.size w w' := by
  obtain ⟨W1, hW1, hB, hz, k0⟩ := one_st w v s
  have HB : Hid (∀ W, Below W1.heap.size W1 W → W.heap[w.heap.size]? = some (.cells #[v, .int .i64 s.anc.line, .int .i64 s.anc.col, .int .i64 s.foc.line, .int .i64 s.foc.col, .int .i64 s.on, .int .i64 s.off] 26)) := Lib.hid fun W hW => heap_below hW k0
  have hs1 := hB.size
  have H1 := Lib.hid hB
  have hw0 : Below W1.heap.size W1 W1 := Below.refl _ _
  have HV : Hid (∀ W, Below W1.heap.size W1 W → LinsR W S v s.lines) := Lib.hid fun W hW => h.below (rdLin_stable _) (hB.trans (hW.mono hs1))
  have HM : Hid (∀ W, Below W1.heap.size W1 W → Calls Tryz.prog 70 #[stV v s] W fun e w' => e = .returned (.bool (mayS s)) ∧ Below W.heap.size W w') := Lib.hid fun W hW => refStMay_any v s W S (HV.out W hW) hs ho hof
  have HRo : Hid (∀ W, Below W1.heap.size W1 W → Calls Tryz.prog 79 #[stV v s] W fun e w' => ∃ v', e = .returned v' ∧ CelsR true w' (fun b => W.heap.size ≤ b) v' (selS s) ∧ Below W.heap.size W w') := Lib.hid fun W hW => refStRow_any v s W S (HV.out W hW) hs hf
  have HR : Hid (bitsS s = if mayS s = true then (if s.anc = s.foc then bits .or .i64 (bits .andNot .i64 (aroundF (cellsAt s) s.anc.col.toNat).1 s.off) s.on else bitsL (selS s)) else 0) := Lib.hid rfl
  obtain ⟨R, hRR⟩ : ∃ R, bitsS s = R := ⟨_, rfl⟩
  rw [hRR] at HR ⊢
  clear hRR
  cases hm : mayS s
  · rw [hm] at HM HR
    have HR : Hid (R = 0) := Lib.hid (HR.out.trans (if_neg (by simp)))
    obtain ⟨p0, f0⟩ := blk k0
    obtain ⟨va, vc, rfl⟩ := h.slice
    clear h hs hf k0 hB hm
    go_enter Tryz.func20, Tryz.ntmps20
    go_wp2_with ((go_at_call 70; refine (HM.out _ hw0).mono ?_; rintro e w2 ⟨rfl, hst2⟩; have hb2 := below_from hw0 hst2; skip))
    go_ret
    rw [HR.out]
    exact ⟨rfl, H1.out.trans (hb2.mono hs1)⟩
  have hg := guardPos
  have hq := fun (w : World) => run_eql_pos s.anc s.foc w
  by_cases hc : s.anc = s.foc
  · rw [hm] at HM HR
    rw [if_pos rfl, if_pos hc] at HR
    rw [decide_eq_true hc] at hq
    have HR := Lib.hid HR.out
    obtain ⟨i, n, l, hi, hn, hl, hcl, hnn, hnl⟩ := place_at (mayS_at hm).2.1
    have hc1 : (aroundF (cellsAt s) s.anc.col.toNat) = aroundF l.cells n := by unfold cellsAt; rw [hcl, hnn]
    obtain ⟨x, y, hxy⟩ : ∃ x y, aroundF l.cells n = (x, y) := ⟨_, _, rfl⟩
    rw [hc1, hxy] at HR
    have HXY := Lib.hid hxy
    have hil := (List.getElem?_eq_some_iff.1 hl).1
    obtain ⟨va, vc, rfl, hvc, hvm, hx⟩ := lins_shape h
    obtain ⟨b, o, la, lc, ca, cc, rfl, hAt⟩ := hx i l hl
    have HAT : Hid (∀ W, Below W1.heap.size W1 W → LinAt W S b (o + i * 4) l la lc ca cc) := Lib.hid fun W hW => hAt.below (hB.trans (hW.mono hs1))
    have HAr : Hid (∀ W, Below W1.heap.size W1 W → Calls Tryz.prog 78 #[.slice ca l.cells.length cc, .int .i64 n] W fun e w' => e = .returned (.tuple #[.int .i64 x, .string ⟨y.toArray⟩]) ∧ Below W.heap.size W w') := Lib.hid fun W hW => by
      have := refAround_any _ l.cells n W S (HAT.out W hW).cellsR hnl
      rw [HXY.out] at this
      exact this
    unfold maxLen at hvm
    have i0 : (0 : Int) ≤ (i : Int) := Int.natCast_nonneg _
    have i1 : (i : Int) < (s.lines.length : Int) := by omega
    obtain ⟨p0, f0⟩ := blk k0
    obtain ⟨lines, anc, foc, on, off⟩ := s
    obtain ⟨al, ac⟩ := anc
    simp only at hi hn hc
    subst hi hn hc
    clear h hs hf hm hcl hnn hc1 hxy hl hx hAt k0 hB HRo
    go_enter Tryz.func20, Tryz.ntmps20
    go_wp2_with ((go_at_call 70; refine (HM.out _ hw0).mono ?_; rintro e w2 ⟨rfl, hst2⟩; have hb2 := below_from hw0 hst2; obtain ⟨q0, g0⟩ := blk (HB.out _ hb2)))
    clear p0 f0 q0 g0
    refine wp_region_grew w2.heap.size (by kernel_rfl) (by kernel_rfl) ?_
    refine BigFrame.wpQuiet_want (by kernel_rfl) (fun K hK => ?_)
    refine quiet_val ?_ (fun W hW => ?_) (hK _ ?_)
    rotate_left 1
    · skip
      go_simp
      try rfl
    clear hK
    clear K
    try simp only [Act.put, List.setIfInBounds_toArray, List.set_cons_zero, List.set_cons_succ]
    refine BigFrame.wpQuiet_want (by kernel_rfl) (fun K hK => ?_)
    refine quiet_val ?_ (fun W hW => ?_) (hK _ ?_)
    rotate_left 1
    · skip
      obtain ⟨p0, f0⟩ := blk (HB.out _ (below_from hb2 hW))
      obtain ⟨_, _, _, _, c3, _, _⟩ := HAT.out _ (below_from hb2 hW)
      go_simp
      try rfl
    clear hK
    clear K
    try simp only [Act.put, List.setIfInBounds_toArray, List.set_cons_zero, List.set_cons_succ]
    refine BigFrame.wpQuiet_want (by kernel_rfl) (fun K hK => ?_)
    refine quiet_val ?_ (fun W hW => ?_) (hK _ ?_)
    rotate_left 1
    · skip
      go_simp
      try rfl
    clear hK
    clear K
    try simp only [Act.put, List.setIfInBounds_toArray, List.set_cons_zero, List.set_cons_succ]
    refine BigFrame.wpQuiet_want (by kernel_rfl) (fun K hK => ?_)
    refine quiet_val ?_ (fun W hW => ?_) (hK _ ?_)
    rotate_left 1
    · skip
      go_simp
      try rfl
    clear hK
    clear K
    try simp only [Act.put, List.setIfInBounds_toArray, List.set_cons_zero, List.set_cons_succ]
    refine BigFrame.wpQuiet_want (by kernel_rfl) (fun K hK => ?_)
    refine quiet_val ?_ (fun W hW => ?_) (hK _ ?_)
    rotate_left 1
    · skip
      obtain ⟨p0, f0⟩ := blk (HB.out _ (below_from hb2 hW))
      obtain ⟨_, _, _, _, c3, _, _⟩ := HAT.out _ (below_from hb2 hW)
      go_simp
      try rfl
    clear hK
    clear K
    try simp only [Act.put, List.setIfInBounds_toArray, List.set_cons_zero, List.set_cons_succ]
    refine BigFrame.wpQuiet_want (by kernel_rfl) (fun K hK => ?_)
    refine quiet_val ?_ (fun W hW => ?_) (hK _ ?_)
    rotate_left 1
    · skip
      go_simp
      try rfl
    clear hK
    clear K
    try simp only [Act.put, List.setIfInBounds_toArray, List.set_cons_zero, List.set_cons_succ]
    refine BigFrame.wpQuiet_want (by kernel_rfl) (fun K hK => ?_)
    refine quiet_val ?_ (fun W hW => ?_) (hK _ ?_)
    rotate_left 1
    · skip
      go_simp
      try rfl
    clear hK
    clear K
    try simp only [Act.put, List.setIfInBounds_toArray, List.set_cons_zero, List.set_cons_succ]
    refine BigFrame.wpQuiet_want (by kernel_rfl) (fun K hK => ?_)
    refine quiet_val ?_ (fun W hW => ?_) (hK _ ?_)
    rotate_left 1
    · skip
      obtain ⟨p0, f0⟩ := blk (HB.out _ (below_from hb2 hW))
      obtain ⟨_, _, _, _, c3, _, _⟩ := HAT.out _ (below_from hb2 hW)
      go_simp
      try rfl
    clear hK
    clear K
    try simp only [Act.put, List.setIfInBounds_toArray, List.set_cons_zero, List.set_cons_succ]
    refine BigFrame.wpQuiet_want (by kernel_rfl) (fun K hK => ?_)
    refine quiet_val ?_ (fun W hW => ?_) (hK _ ?_)
    rotate_left 1
    · skip
      go_simp
      try rfl
    clear hK
    clear K
    try simp only [Act.put, List.setIfInBounds_toArray, List.set_cons_zero, List.set_cons_succ]
    refine BigFrame.wpQuiet_want (by kernel_rfl) (fun K hK => ?_)
    refine quiet_val ?_ (fun W hW => ?_) (hK _ ?_)
    rotate_left 1
    · skip
      go_simp
      try rfl
    clear hK
    clear K
    try simp only [Act.put, List.setIfInBounds_toArray, List.set_cons_zero, List.set_cons_succ]
    refine BigFrame.wpQuiet_want (by kernel_rfl) (fun K hK => ?_)
    refine quiet_val ?_ (fun W hW => ?_) (hK _ ?_)
    rotate_left 1
    · skip
      obtain ⟨p0, f0⟩ := blk (HB.out _ (below_from hb2 hW))
      obtain ⟨_, _, _, _, c3, _, _⟩ := HAT.out _ (below_from hb2 hW)
      go_simp
      try rfl
    clear hK
    clear K
    try simp only [Act.put, List.setIfInBounds_toArray, List.set_cons_zero, List.set_cons_succ]
    refine BigFrame.wpQuiet_want (by kernel_rfl) (fun K hK => ?_)
    refine quiet_calls (f := ?_) (args := ?_) ?_ (fun W hW => ?_) (fun W hW => ?_) (hK _ ?_)
    rotate_left 3
    · go_simp
      constructor <;> rfl
    · refine (HAr.out _ (below_from hb2 hW)).mono ?_
      rintro e W2 ⟨rfl, hbW⟩
      refine ⟨?_, below_from hW hbW⟩
      rfl
    clear hK
    clear K
    try simp only [Act.put, List.setIfInBounds_toArray, List.set_cons_zero, List.set_cons_succ]
    refine BigFrame.wpQuiet_want (by kernel_rfl) (fun K hK => ?_)
    refine quiet_val ?_ (fun W hW => ?_) (hK _ ?_)
    rotate_left 1
    · skip
      go_simp
      try rfl
    clear hK
    clear K
    try simp only [Act.put, List.setIfInBounds_toArray, List.set_cons_zero, List.set_cons_succ]
    refine BigFrame.wpQuiet_want (by kernel_rfl) (fun K hK => ?_)
    refine quiet_val ?_ (fun W hW => ?_) (hK _ ?_)
    rotate_left 1
    · skip
      go_simp
      try rfl
    clear hK
    clear K
    try simp only [Act.put, List.setIfInBounds_toArray, List.set_cons_zero, List.set_cons_succ]
    refine BigFrame.wpQuiet_want (by kernel_rfl) (fun K hK => ?_)
    refine quiet_val ?_ (fun W hW => ?_) (hK _ ?_)
    rotate_left 1
    · skip
      go_simp
      try rfl
    clear hK
    clear K
    try simp only [Act.put, List.setIfInBounds_toArray, List.set_cons_zero, List.set_cons_succ]
    refine BigFrame.wpQuiet_want (by kernel_rfl) (fun K hK => ?_)
    refine quiet_val ?_ (fun W hW => ?_) (hK _ ?_)
    rotate_left 1
    · skip
      go_simp
      try rfl
    clear hK
    clear K
    try simp only [Act.put, List.setIfInBounds_toArray, List.set_cons_zero, List.set_cons_succ]
    refine BigFrame.wpQuiet_want (by kernel_rfl) (fun K hK => ?_)
    refine quiet_val ?_ (fun W hW => ?_) (hK _ ?_)
    rotate_left 1
    · skip
      go_simp
      try rfl
    clear hK
    clear K
    try simp only [Act.put, List.setIfInBounds_toArray, List.set_cons_zero, List.set_cons_succ]
    refine wpQuiet_nil (fun X6 hstX6 => ?_)
    have hcX6 := below_from hb2 hstX6
    obtain ⟨p0, f0⟩ := blk (HB.out _ hcX6)
    go_wp2_with fail
    go_ret
    rw [HR.out]
    exact ⟨rfl, H1.out.trans (hcX6.mono hs1)⟩
  · rw [hm] at HM HR
    rw [if_pos rfl, if_neg hc] at HR
    rw [decide_eq_false hc] at hq
    have HR := Lib.hid HR.out
    have HL : Hid ((selS s).length ≤ 100000) := Lib.hid (Nat.le_trans (cellsD_size _ _ _) hs.1)
    obtain ⟨L, hL⟩ : ∃ L, selS s = L := ⟨_, rfl⟩
    rw [hL] at HR HRo HL
    obtain ⟨p0, f0⟩ := blk k0
    obtain ⟨va, vc, rfl⟩ := h.slice
    clear h hs hf hm hc hL k0 hB
    go_enter Tryz.func20, Tryz.ntmps20
    cases L with
    | nil =>
      go_wp2_with (first
        | (go_at_call 70; refine (HM.out _ hw0).mono ?_; rintro e w2 ⟨rfl, hst2⟩; have hb2 := below_from hw0 hst2; obtain ⟨q0, g0⟩ := blk (HB.out _ hb2))
        | (go_at_call 79; refine (HRo.out _ hb2).mono ?_; rintro e w3 ⟨v3, rfl, hv3, hst3⟩; obtain ⟨a3, c3, rfl⟩ := hv3.slice; have hb3 := below_from hb2 hst3; clear hv3))
      go_ret
      rw [HR.out]
      exact ⟨rfl, H1.out.trans (hb3.mono hs1)⟩
    | cons c l =>
      have HR : Hid (R = andB (c :: l)) := Lib.hid (HR.out.trans (if_neg (by simp)))
      obtain ⟨L, hL⟩ : ∃ L, c :: l = L := ⟨_, rfl⟩
      have hn0 : ((L.length : Int) == 0) = false := by rw [← hL]; simp; omega
      rw [hL] at HR HRo HL
      clear hL
      have hLL := HL.out
      go_wp2_with (first
        | (go_at_call 70; refine (HM.out _ hw0).mono ?_; rintro e w2 ⟨rfl, hst2⟩; have hb2 := below_from hw0 hst2; obtain ⟨q0, g0⟩ := blk (HB.out _ hb2))
        | (go_at_call 79; refine (HRo.out _ hb2).mono ?_; rintro e w3 ⟨v3, rfl, hv3, hst3⟩; have hb3 := below_from hb2 hst3; obtain ⟨a3, c3, rfl, hc3, hm3, hx3⟩ := cels_shape (SliceR.read (fun _ _ h => h) hv3); have HX3 := Lib.hid hx3; clear hv3 hx3))
      unfold maxLen at hm3
      have HF : Hid (andB (L.take 0) = 15) := Lib.hid rfl
      have H3 := Lib.hid (H1.out.trans (hb3.mono hs1))
      go_loopw [6, 7] (fun a i wr => ∃ k : Nat, k ≤ L.length ∧ i = .int .i64 k ∧ a = .int .i64 (andB (L.take k)) ∧ w3 = wr) (fun _ i _ => L.length - (intOf i).toNat)
      case atStart => exact ⟨0, Nat.zero_le _, rfl, by rw [HF.out], rfl⟩
      case round =>
        obtain ⟨k, hk, rfl, rfl, rfl⟩ := hrel
        by_cases hlt : k < L.length
        · obtain ⟨x, hx, _⟩ := getOf L k hlt
          obtain ⟨b, o, rfl, hz', c0, c1, c2⟩ := HX3.out k x hx
          have HS : Hid (andB (L.take (k + 1)) = bits .and .i64 (andB (L.take k)) x.bits) := Lib.hid (by rw [take_some hx, andB_snoc])
          obtain ⟨A, hA⟩ : ∃ A, andB (L.take k) = A := ⟨_, rfl⟩
          rw [hA] at HS ⊢
          clear hx hA c0 c2
          go_wp2_with fail
          go_roundw
          case rel => exact ⟨k + 1, hlt, by go_num, by rw [HS.out], by simp⟩
          case measure => simp [intOf]; omega
        · obtain rfl : k = L.length := by omega
          rw [List.take_length]
          obtain ⟨A, hA⟩ : ∃ A, andB L = A := ⟨_, rfl⟩
          rw [hA] at HR ⊢
          clear hA
          go_wp2_with fail
          go_ret
          rw [HR.out]
          exact ⟨rfl, H3.out⟩
set_option maxRecDepth 100000 in
set_option maxHeartbeats 4000000 in
theorem refStHas_any (v : Value) (s : St) (t : Int) (w : World) (S : Nat → Prop) (h : LinsR w S v s.lines) (hs : Small s.lines) (hf : Fits s.lines) (ho : -9223372036854775808 ≤ s.on ∧ s.on ≤ 9223372036854775807) (hof : -9223372036854775808 ≤ s.off ∧ s.off ≤ 9223372036854775807) :
    Calls Tryz.prog 22 #[stV v s, .int .i64 t] w fun e w' => e = .returned (.bool (hasS s t)) ∧ Below w.heap.size w w' := by
  obtain ⟨W1, hW1, hB, hz, k0⟩ := one_st w v s
  have HB : Hid (∀ W, Below W1.heap.size W1 W → W.heap[w.heap.size]? = some (.cells #[v, .int .i64 s.anc.line, .int .i64 s.anc.col, .int .i64 s.foc.line, .int .i64 s.foc.col, .int .i64 s.on, .int .i64 s.off] 26)) := Lib.hid fun W hW => heap_below hW k0
  have hs1 := hB.size
  have H1 := Lib.hid hB
  have hw0 : Below W1.heap.size W1 W1 := Below.refl _ _
  have HV : Hid (∀ W, Below W1.heap.size W1 W → LinsR W S v s.lines) := Lib.hid fun W hW => h.below (rdLin_stable _) (hB.trans (hW.mono hs1))
  have HC : Hid (∀ W, Below W1.heap.size W1 W → Calls Tryz.prog 20 #[stV v s] W fun e w' => e = .returned (.int .i64 (bitsS s)) ∧ Below W.heap.size W w') := Lib.hid fun W hW => refStBits_any v s W S (HV.out W hW) hs hf ho hof
  have HR : Hid (hasS s t = (!(t == 0) && (bits .and .i64 (bitsS s) t == t))) := Lib.hid rfl
  obtain ⟨p0, f0⟩ := blk k0
  obtain ⟨va, vc, rfl⟩ := h.slice
  clear h hs hf ho hof k0 hB
  generalize bitsS s = r at *
  by_cases ht : t = 0
  · subst ht
    go_enter Tryz.func22, Tryz.ntmps22
    go_wp2_with fail
    go_ret
    rw [HR.out]
    exact ⟨rfl, H1.out⟩
  · have ht' : (t == 0) = false := by simpa using ht
    have ht2 : (t != 0) = true := by simpa using ht
    clear ht
    rw [ht'] at HR
    go_enter Tryz.func22, Tryz.ntmps22
    go_wp2_with (go_at_call 20; refine (HC.out _ hw0).mono ?_; rintro e w2 ⟨rfl, hb2⟩)
    go_ret
    rw [HR.out]
    exact ⟨rfl, H1.out.trans (hb2.mono hs1)⟩
set_option maxRecDepth 100000 in
set_option maxHeartbeats 4000000 in
theorem refStMixed_any (v : Value) (s : St) (t : Int) (w : World) (S : Nat → Prop) (h : LinsR w S v s.lines) (hs : Small s.lines) (hf : Fits s.lines) (ho : -9223372036854775808 ≤ s.on ∧ s.on ≤ 9223372036854775807) (hof : -9223372036854775808 ≤ s.off ∧ s.off ≤ 9223372036854775807) :
    Calls Tryz.prog 24 #[stV v s, .int .i64 t] w fun e w' => e = .returned (.bool (mixedS s t)) ∧ Below w.heap.size w w' := by
  obtain ⟨W1, hW1, hB, hz, k0⟩ := one_st w v s
  have HB : Hid (∀ W, Below W1.heap.size W1 W → W.heap[w.heap.size]? = some (.cells #[v, .int .i64 s.anc.line, .int .i64 s.anc.col, .int .i64 s.foc.line, .int .i64 s.foc.col, .int .i64 s.on, .int .i64 s.off] 26)) := Lib.hid fun W hW => heap_below hW k0
  have hs1 := hB.size
  have H1 := Lib.hid hB
  have hw0 : Below W1.heap.size W1 W1 := Below.refl _ _
  have HV : Hid (∀ W, Below W1.heap.size W1 W → LinsR W S v s.lines) := Lib.hid fun W hW => h.below (rdLin_stable _) (hB.trans (hW.mono hs1))
  have HM : Hid (∀ W, Below W1.heap.size W1 W → Calls Tryz.prog 70 #[stV v s] W fun e w' => e = .returned (.bool (mayS s)) ∧ Below W.heap.size W w') := Lib.hid fun W hW => refStMay_any v s W S (HV.out W hW) hs ho hof
  have HRo : Hid (∀ W, Below W1.heap.size W1 W → Calls Tryz.prog 79 #[stV v s] W fun e w' => ∃ v', e = .returned v' ∧ CelsR true w' (fun b => W.heap.size ≤ b) v' (selS s) ∧ Below W.heap.size W w') := Lib.hid fun W hW => refStRow_any v s W S (HV.out W hW) hs hf
  have HR : Hid (mixedS s t = (mayS s && (!decide (s.anc = s.foc) && (someL (selS s) t && !allL (selS s) t)))) := Lib.hid rfl
  have hg := guardPos
  have hq := fun (w : World) => run_eql_pos s.anc s.foc w
  have HL : Hid ((selS s).length ≤ 100000) := Lib.hid (Nat.le_trans (cellsD_size _ _ _) hs.1)
  obtain ⟨L, hL⟩ : ∃ L, selS s = L := ⟨_, rfl⟩
  rw [hL] at HR HRo HL
  have HQ : Hid (∀ (a : Option Addr) (c : Nat) (W : World), CelsR false W (fun _ => True) (.slice a L.length c) L → Calls Tryz.prog 82 #[.slice a L.length c, .int .i64 0, .int .i64 L.length, .int .i64 t] W fun e w' => e = .returned (.bool (someL L t)) ∧ w' = W) := Lib.hid fun a c W hv => refCSome_any _ L t W _ hv
  have HA : Hid (∀ (a : Option Addr) (c : Nat) (W : World), CelsR false W (fun _ => True) (.slice a L.length c) L → Calls Tryz.prog 83 #[.slice a L.length c, .int .i64 0, .int .i64 L.length, .int .i64 t] W fun e w' => e = .returned (.bool (allL L t)) ∧ w' = W) := Lib.hid fun a c W hv => refCAll_any _ L t W _ hv
  obtain ⟨p0, f0⟩ := blk k0
  obtain ⟨va, vc, rfl⟩ := h.slice
  clear h hs hf ho hof hL k0 hB HV
  generalize mixedS s t = R at *
  generalize someL L t = x at *
  generalize allL L t = y at *
  generalize mayS s = m at *
  generalize decide (s.anc = s.foc) = u at *
  cases m
  all_goals
    cases u
    all_goals
      cases x
      all_goals
        go_enter Tryz.func24, Tryz.ntmps24
        go_wp2_with (first
          | (go_at_call 70; refine (HM.out _ hw0).mono ?_; rintro e w2 ⟨rfl, hst2⟩; have hb2 := below_from hw0 hst2; obtain ⟨q0, g0⟩ := blk (HB.out _ hb2))
          | (go_at_call 79; refine (HRo.out _ hb2).mono ?_; rintro e w3 ⟨v3, rfl, hv3, hst3⟩; have hb3 := below_from hb2 hst3; obtain ⟨a3, c3, rfl⟩ := hv3.slice; have HV3 : Hid (CelsR false w3 (fun _ => True) (.slice a3 L.length c3) L) := Lib.hid (SliceR.stable (rdOf_stable _) (SliceR.read (fun _ _ h => h) hv3) (Keeps.refl _ _) (fun _ _ _ => trivial)); clear hv3)
          | (go_at_call 82; refine (HQ.out _ _ _ HV3.out).mono ?_; rintro e w4 ⟨rfl, rfl⟩)
          | (go_at_call 83; refine (HA.out _ _ _ HV3.out).mono ?_; rintro e w5 ⟨rfl, rfl⟩))
        go_ret
        refine ⟨?_, H1.out.trans (Below.mono (by first | exact hb3 | exact hb2) hs1)⟩
        rw [HR.out]
        rfl
end Go.Proofs.YtpndnbjpnajaaaaGreatDoor
namespace Go.Proofs.YtpndnbjpnajaaaaGreatDoor
open Go.RowKit
open Go.Proofs.Qw
theorem results_st_e {fn : Func} {p u : Tmp} (h : fn.results = #[.cell p 26, .tmp u]) (tmps : Array Value) (w : World) (B : Nat) (a b c d e f g x : Value) (hp : tmps.getD p undef = .pointer (some ⟨B, 0, none⟩)) (hu : tmps.getD u undef = x) (hg : w.heap[B]? = some (.cells #[a, b, c, d, e, f, g] 26)) :
    (results fn tmps).run Tryz.prog w = .ok (.tuple #[.agg #[a, b, c, d, e, f, g], x]) w := by
  have hp' : tmps[p]?.getD undef = .pointer (some ⟨B, 0, none⟩) := by simpa using hp
  have hu' : tmps[u]?.getD undef = x := by simpa using hu
  have e1 := run_loadVar_row (P := Tryz.prog) w B 26 26 _ _ _ hg Tryz.underlying26 rfl (by kernel_rfl)
  simp [results, h, hp', hu', asAddr, e1]
set_option maxRecDepth 100000 in
set_option maxHeartbeats 4000000 in
theorem styChanged_any (v : Value) (s : St) (g : Nat) (lb : Array Value) (R : Doc × Int) (w : World) (S : Nat → Prop) (h : LinsR w S v s.lines) (he : EnvT w) (hs : Small s.lines)
    (eg : ∀ args w, (callFunc g args).run Tryz.prog w = .ok (.enter g args) w)
    (hg : mayS s = true → ∀ W, Below w.heap.size w W → Calls Tryz.prog g (#[v, posV (spanS s).1, posV (spanS s).2] ++ lb) W (DocSaid R W)) :
    Calls Tryz.prog 95 #[stV v s, .func (.func g) #[] lb] w (StSaid (changedS s R) w) := by
  obtain ⟨W1, hW1, hB, hz, k0, k1⟩ := st_two w v s
  have HB : Hid (∀ W, Below W1.heap.size W1 W → W.heap[w.heap.size]? = some (.cells #[v, .int .i64 s.anc.line, .int .i64 s.anc.col, .int .i64 s.foc.line, .int .i64 s.foc.col, .int .i64 s.on, .int .i64 s.off] 26) ∧ W.heap[w.heap.size + 1]? = some (.cells #[.slice none 0 0, .int .i64 0, .int .i64 0, .int .i64 0, .int .i64 0, .int .i64 0, .int .i64 0] 26)) := Lib.hid fun W hW => ⟨heap_below hW k0, heap_below hW k1⟩
  have hs1 := hB.size
  have H1 := Lib.hid hB
  have hw0 : Below W1.heap.size W1 W1 := Below.refl _ _
  have HV : Hid (∀ W, Below W1.heap.size W1 W → LinsR W S v s.lines) := Lib.hid fun W hW => h.below (rdLin_stable _) (hB.trans (hW.mono hs1))
  have HE : Hid (∀ W, Below W1.heap.size W1 W → EnvT W) := Lib.hid fun W hW => (he.below hB).below hW
  have HM : Hid (∀ W, Below W1.heap.size W1 W → Calls Tryz.prog 27 #[stV v s] W fun e w' => e = .returned (.bool (mayS s)) ∧ Below W.heap.size W w') := Lib.hid fun W hW => stMay_any v s W S (HV.out W hW) (HE.out W hW) hs
  have HR : Hid (changedS s R = if mayS s = true then staysS s R else (noS, 1)) := Lib.hid rfl
  cases hm : mayS s
  · rw [hm] at HM HR
    have HR : Hid (changedS s R = (noS, 1)) := Lib.hid (HR.out.trans (if_neg (by simp)))
    obtain ⟨p0, f0⟩ := blk k0
    obtain ⟨p1, f1⟩ := blk k1
    obtain ⟨va, vc, rfl⟩ := h.slice
    clear h he hs hg k0 k1 hB hm
    go_enter Tryz.func95, Tryz.ntmps95
    go_wp2_with ((go_at_call 27; refine (HM.out _ hw0).mono ?_; rintro e w2 ⟨rfl, hst2⟩; have hb2 := below_from hw0 hst2; obtain ⟨q1, g1⟩ := blk (HB.out _ hb2).2))
    refine bodyPost_ret (results_st_e rfl _ _ (w.heap.size + 1) (.slice none 0 0) (.int .i64 0) (.int .i64 0) (.int .i64 0) (.int .i64 0) (.int .i64 0) (.int .i64 0) (.int .i64 1) rfl rfl (by simp [heap_set, putIn, (HB.out _ hb2).2])) rfl ?_
    unfold StSaid
    rw [HR.out]
    have hfin := H1.out.trans (hb2.mono hs1)
    exact ⟨_, rfl, SliceR.nil _ _ _ _ _ _, by (repeat' (first | (with_reducible exact Below.refl _ _) | (with_reducible assumption) | (with_reducible refine Below.alloc ?_ ?_ _) | (with_reducible refine Below.drew ?_) | (with_reducible refine drewN_below ?_) | (with_reducible refine Below.setCell ?_ ?_ _) | go_size))⟩
  · have HG : Hid (∀ W, Below W1.heap.size W1 W → Calls Tryz.prog g (#[v, posV (spanS s).1, posV (spanS s).2] ++ lb) W (DocSaid R W)) := Lib.hid fun W hW => hg hm W (hB.trans (hW.mono hs1))
    rw [hm] at HM HR
    rw [if_pos rfl] at HR
    have HR : Hid (changedS s R = if R.2 = 0 then (⟨R.1, s.anc, s.foc, 0, 0⟩, 0) else (noS, R.2)) := Lib.hid HR.out
    have HSp : Hid (∀ W, Below W1.heap.size W1 W → Calls Tryz.prog 28 #[stV v s] W fun e w' => e = .returned (.tuple #[.agg #[.int .i64 (spanS s).1.line, .int .i64 (spanS s).1.col], .agg #[.int .i64 (spanS s).2.line, .int .i64 (spanS s).2.col]]) ∧ Below W.heap.size W w') := Lib.hid fun W hW => stSpan_any v s W
    obtain ⟨A, B, hAB⟩ : ∃ A B, spanS s = (A, B) := ⟨_, _, rfl⟩
    rw [hAB] at HSp HG
    simp only at HSp HG
    obtain ⟨D, er, hD⟩ : ∃ D er, R = (D, er) := ⟨_, _, rfl⟩
    subst hD
    have HP : Hid (∀ p : Ps, posV p = .agg #[.int .i64 p.line, .int .i64 p.col]) := Lib.hid fun _ => rfl
    rw [HP.out, HP.out] at HG
    obtain ⟨p0, f0⟩ := blk k0
    obtain ⟨p1, f1⟩ := blk k1
    obtain ⟨va, vc, rfl⟩ := h.slice
    clear h he hs hg k0 k1 hB hm hAB
    by_cases h0 : er = 0
    · subst h0
      have HR := Lib.hid (HR.out.trans (if_pos rfl))
      go_enter Tryz.func95, Tryz.ntmps95
      go_wp2_with (first
        | (go_at_call 27; refine (HM.out _ hw0).mono ?_; rintro e w2 ⟨rfl, hst2⟩; have hb2 := below_from hw0 hst2; obtain ⟨q0, g0⟩ := blk (HB.out _ hb2).1)
        | (go_at_call 28; refine (HSp.out _ hb2).mono ?_; rintro e w3 ⟨rfl, hst3⟩; have hb3 := below_from hb2 hst3; obtain ⟨q1, g1⟩ := blk (HB.out _ hb3).1; have hz3 := hb3.size; have e3 : ¬ w3.heap.size = w.heap.size := (by omega); have r1 := on2 (HB.out _ hb3).1; have HX3 : Hid (∀ X Y, Below W1.heap.size W1 ((w3.alloc X).alloc Y)) := Lib.hid fun X Y => hb3.trans (below2 (Below.refl _ _) X Y |>.mono hz3))
        | (go_at_fn g; refine (HG.out _ (HX3.out _ _)).mono ?_; intro e w4 hsaid; obtain ⟨v4, rfl, hv4, hst4⟩ := hsaid; obtain ⟨a4, c4, rfl⟩ := hv4.slice; have hb4 := below_from (HX3.out _ _) hst4; have HV4 := Lib.hid hv4; clear hv4; obtain ⟨q2, g2⟩ := blk (HB.out _ hb4).1; obtain ⟨q3, g3⟩ := blk (HB.out _ hb4).2))
      refine bodyPost_ret (results_st_e rfl _ _ (w.heap.size + 1) (.slice a4 D.length c4) (.int .i64 s.anc.line) (.int .i64 s.anc.col) (.int .i64 s.foc.line) (.int .i64 s.foc.col) (.int .i64 0) (.int .i64 0) (.int .i64 0) rfl rfl (by simp [heap_set, putIn, (HB.out _ hb4).2])) rfl ?_
      unfold StSaid
      rw [HR.out]
      have hfin := H1.out.trans (hb4.mono hs1)
      have hv4 := HV4.out
      exact ⟨_, rfl, (SliceR.stable (rdLin_stable _) hv4 (by (repeat' (first | (with_reducible exact Keeps.refl _ _) | (with_reducible refine Keeps.set ?_ ?_ _) | (with_reducible refine Keeps.alloc ?_ _) | (with_reducible refine Keeps.drew ?_) | (first | fail) | (simp; omega)))) (fun b h _ => (by have h' := h; (try simp at h'); omega))), by (repeat' (first | (with_reducible exact Below.refl _ _) | (with_reducible assumption) | (with_reducible refine Below.alloc ?_ ?_ _) | (with_reducible refine Below.drew ?_) | (with_reducible refine drewN_below ?_) | (with_reducible refine Below.setCell ?_ ?_ _) | go_size))⟩
    · have HR2 : Hid (changedS s (D, er) = (noS, er)) := Lib.hid (HR.out.trans (if_neg h0))
      have hne : (er != 0) = true := by simpa using h0
      have hne2 : (er == 0) = false := by simpa using h0
      clear h0 HR
      go_enter Tryz.func95, Tryz.ntmps95
      go_wp2_with (first
        | (go_at_call 27; refine (HM.out _ hw0).mono ?_; rintro e w2 ⟨rfl, hst2⟩; have hb2 := below_from hw0 hst2; obtain ⟨q0, g0⟩ := blk (HB.out _ hb2).1)
        | (go_at_call 28; refine (HSp.out _ hb2).mono ?_; rintro e w3 ⟨rfl, hst3⟩; have hb3 := below_from hb2 hst3; obtain ⟨q1, g1⟩ := blk (HB.out _ hb3).1; have hz3 := hb3.size; have e3 : ¬ w3.heap.size = w.heap.size := (by omega); have r1 := on2 (HB.out _ hb3).1; have HX3 : Hid (∀ X Y, Below W1.heap.size W1 ((w3.alloc X).alloc Y)) := Lib.hid fun X Y => hb3.trans (below2 (Below.refl _ _) X Y |>.mono hz3))
        | (go_at_fn g; refine (HG.out _ (HX3.out _ _)).mono ?_; intro e w4 hsaid; obtain ⟨v4, rfl, hv4, hst4⟩ := hsaid; obtain ⟨a4, c4, rfl⟩ := hv4.slice; have hb4 := below_from (HX3.out _ _) hst4; have HV4 := Lib.hid hv4; clear hv4; obtain ⟨q2, g2⟩ := blk (HB.out _ hb4).1; obtain ⟨q3, g3⟩ := blk (HB.out _ hb4).2))
      refine bodyPost_ret (results_st_e rfl _ _ (w.heap.size + 1) (.slice none 0 0) (.int .i64 0) (.int .i64 0) (.int .i64 0) (.int .i64 0) (.int .i64 0) (.int .i64 0) (.int .i64 er) rfl rfl (by simp [heap_set, putIn, (HB.out _ hb4).2])) rfl ?_
      unfold StSaid
      rw [HR2.out]
      have hfin := H1.out.trans (hb4.mono hs1)
      exact ⟨_, rfl, SliceR.nil _ _ _ _ _ _, by (repeat' (first | (with_reducible exact Below.refl _ _) | (with_reducible assumption) | (with_reducible refine Below.alloc ?_ ?_ _) | (with_reducible refine Below.drew ?_) | (with_reducible refine drewN_below ?_) | (with_reducible refine Below.setCell ?_ ?_ _) | go_size))⟩
end Go.Proofs.YtpndnbjpnajaaaaGreatDoor
namespace Go.Proofs.Qw
open Go.RowKit Go.Proofs.YtpndnbjpnajaaaaGreatDoor
def stripC (c : Cel) : Cel := ⟨c.r, 0, []⟩
def stripL (l : Lin) : Lin := { l with cells := l.cells.map stripC }
def stripD (d : Doc) : Doc := d.map stripL
structure Stays (s t : St) : Prop where
  may : mayS t = true
  anc : t.anc = s.anc
  foc : t.foc = s.foc
  strip : stripD t.lines = stripD s.lines
theorem Stays.refl {s : St} (h : mayS s = true) : Stays s s := ⟨h, rfl, rfl, rfl⟩
theorem Stays.trans {s t u : St} (h : Stays s t) (k : Stays t u) : Stays s u := ⟨k.may, k.anc.trans h.anc, k.foc.trans h.foc, k.strip.trans h.strip⟩
end Go.Proofs.Qw
namespace Go.Proofs.Qw
open Go.RowKit Go.Proofs.YtpndnbjpnajaaaaGreatDoor
theorem spanS_open (s : St) : ((spanS s).1 = (spanS s).2) ↔ s.anc = s.foc := by
  unfold spanS
  split
  · exact eq_comm
  · exact Iff.rfl
end Go.Proofs.Qw
namespace Go.Proofs.YtpndnbjpnajaaaaGreatDoor
open Go.RowKit
open Go.Proofs.Qw
attribute [local go_sem] Oper.semAt_some
set_option maxRecDepth 100000 in
set_option maxHeartbeats 4000000 in
theorem refStHand_any (v : Value) (s : St) (w : World) (S : Nat → Prop) (h : LinsR w S v s.lines) (hf : Fits s.lines) (hm : isD s.lines s.anc = true) :
    Calls Tryz.prog 88 #[stV v s] w fun e w' => e = .returned (.tuple #[.agg #[.int .i64 (handS s).1.line, .int .i64 (handS s).1.col], .agg #[.int .i64 (handS s).2.line, .int .i64 (handS s).2.col]]) ∧ Below w.heap.size w w' := by
  obtain ⟨W1, hW1, hB, hz, k0, k1, k2⟩ := st_pos2 w v s
  have HB : Hid (∀ W, Below W1.heap.size W1 W → W.heap[w.heap.size]? = some (.cells #[v, .int .i64 s.anc.line, .int .i64 s.anc.col, .int .i64 s.foc.line, .int .i64 s.foc.col, .int .i64 s.on, .int .i64 s.off] 26) ∧ W.heap[w.heap.size + 1]? = some (.cells #[.int .i64 0, .int .i64 0] 24) ∧ W.heap[w.heap.size + 2]? = some (.cells #[.int .i64 0, .int .i64 0] 24)) := Lib.hid fun W hW => ⟨heap_below hW k0, heap_below hW k1, heap_below hW k2⟩
  have hs1 := hB.size
  have H1 := Lib.hid hB
  have hw0 : Below W1.heap.size W1 W1 := Below.refl _ _
  have HV : Hid (∀ W, Below W1.heap.size W1 W → LinsR W S v s.lines) := Lib.hid fun W hW => h.below (rdLin_stable _) (hB.trans (hW.mono hs1))
  have HSp : Hid (∀ W, Below W1.heap.size W1 W → Calls Tryz.prog 69 #[stV v s] W fun e w' => e = .returned (.tuple #[.agg #[.int .i64 (spanS s).1.line, .int .i64 (spanS s).1.col], .agg #[.int .i64 (spanS s).2.line, .int .i64 (spanS s).2.col]]) ∧ Below W.heap.size W w') := Lib.hid fun W _ => refStSpan_any v s W
  have HR : Hid (handS s = if s.anc = s.foc then (⟨s.anc.line, ((withinF (cellsAt s) s.anc.col.toNat).1 : Int)⟩, ⟨s.anc.line, ((withinF (cellsAt s) s.anc.col.toNat).2 : Int)⟩) else spanS s) := Lib.hid rfl
  have hg := guardPos
  have hq0 := fun (w : World) => run_neq_pos (spanS s).1 (spanS s).2 w
  by_cases hc : s.anc = s.foc
  · have HQ0 := Lib.hid (HR.out.trans (if_pos hc))
    clear HR hq0
    rw [spanS_closed hc] at HSp
    obtain ⟨i, n, l, hi, hn, hl, hcl, hnn, hnl⟩ := place_at hm
    have hc1 : (withinF (cellsAt s) s.anc.col.toNat) = withinF l.cells n := by unfold cellsAt; rw [hcl, hnn]
    obtain ⟨x, y, hxy⟩ : ∃ x y, withinF l.cells n = (x, y) := ⟨_, _, rfl⟩
    rw [hc1, hxy] at HQ0
    have HQ := Lib.hid HQ0.out
    clear HQ0
    have HXY := Lib.hid hxy
    have hfl := (hf.2 l (List.mem_of_getElem? hl)).2
    have hil := (List.getElem?_eq_some_iff.1 hl).1
    obtain ⟨va, vc, rfl, hvc, hvm, hx⟩ := lins_shape h
    obtain ⟨b, o, la, lc, ca, cc, rfl, hAt⟩ := hx i l hl
    have HAT : Hid (∀ W, Below W1.heap.size W1 W → LinAt W S b (o + i * 4) l la lc ca cc) := Lib.hid fun W hW => hAt.below (hB.trans (hW.mono hs1))
    unfold maxLen at hvm
    have i0 : (0 : Int) ≤ (i : Int) := Int.natCast_nonneg _
    have i1 : (i : Int) < (s.lines.length : Int) := by omega
    obtain ⟨H, hH⟩ : ∃ H, handS s = H := ⟨_, rfl⟩
    rw [hH] at HQ ⊢
    clear hH
    obtain ⟨p0, f0⟩ := blk k0
    obtain ⟨lines, anc, foc, on, off⟩ := s
    obtain ⟨al, ac⟩ := anc
    simp only at hi hn hc
    subst hi hn hc
    have hq : ∀ w : World, (binOp .neq 24 (.agg #[.int .i64 i, .int .i64 n]) (.agg #[.int .i64 i, .int .i64 n])).run Tryz.prog w = .ok (.bool false) w := fun w => by
      have := run_neq_pos ⟨i, n⟩ ⟨i, n⟩ w
      simpa using this
    clear h hf hm hcl hnn hc1 hxy hl hx hAt k0 k1 k2 hB
    go_enter Tryz.func88, Tryz.ntmps88
    go_wp2_with ((go_at_call 69; refine (HSp.out _ hw0).mono ?_; rintro e w2 ⟨rfl, hst2⟩; have hb2 := below_from hw0 hst2; obtain ⟨q0, g0⟩ := blk (HB.out _ hb2).1))
    obtain ⟨w3, hw3⟩ : ∃ w3, (w2.alloc (.cells #[.int .i64 i, .int .i64 n] 24)).alloc (.cells #[.int .i64 i, .int .i64 n] 24) = w3 := ⟨_, rfl⟩
    rw [hw3]
    have hb23 : Below w2.heap.size w2 w3 := hw3 ▸ ((Below.refl _ _).alloc (Nat.le_refl _) _).alloc (by simp) _
    have n3 : w3.heap[w2.heap.size]? = some (.cells #[.int .i64 i, .int .i64 n] 24) := hw3 ▸ heap_old _ _ (heap_new _ _ rfl)
    have hb3 := below_from hb2 hb23
    have HB3 : Hid (∀ W, Below w3.heap.size w3 W → W.heap[w2.heap.size]? = some (.cells #[.int .i64 i, .int .i64 n] 24)) := Lib.hid fun W hW => heap_below hW n3
    have HWi : Hid (∀ W, Below w3.heap.size w3 W → Calls Tryz.prog 156 #[.slice ca l.cells.length cc, .int .i64 n] W fun e w' => e = .returned (.tuple #[.int .i64 x, .int .i64 y]) ∧ Below W.heap.size W w') := Lib.hid fun W hW => by
      have := refWithin_any _ l.cells n W S (HAT.out W (below_from hb3 hW)).cellsR hnl hfl
      rw [HXY.out] at this
      exact this
    clear n3 q0 g0 p0 f0 hw3 hq
    refine wp_region_grew w3.heap.size (by kernel_rfl) (by kernel_rfl) ?_
    refine BigFrame.wpQuiet_want (by kernel_rfl) (fun K hK => ?_)
    refine quiet_val ?_ (fun W hW => ?_) (hK _ ?_)
    rotate_left 1
    · skip
      go_simp
      try rfl
    clear hK
    clear K
    try simp only [Act.put, List.setIfInBounds_toArray, List.set_cons_zero, List.set_cons_succ]
    refine BigFrame.wpQuiet_want (by kernel_rfl) (fun K hK => ?_)
    refine quiet_val ?_ (fun W hW => ?_) (hK _ ?_)
    rotate_left 1
    · skip
      obtain ⟨p0, f0⟩ := blk (HB.out _ (below_from hb3 hW)).1
      obtain ⟨p3, f3⟩ := blk (HB3.out _ hW)
      obtain ⟨_, _, _, _, c3, _, _⟩ := HAT.out _ (below_from hb3 hW)
      go_simp
      try rfl
    clear hK
    clear K
    try simp only [Act.put, List.setIfInBounds_toArray, List.set_cons_zero, List.set_cons_succ]
    refine BigFrame.wpQuiet_want (by kernel_rfl) (fun K hK => ?_)
    refine quiet_val ?_ (fun W hW => ?_) (hK _ ?_)
    rotate_left 1
    · skip
      go_simp
      try rfl
    clear hK
    clear K
    try simp only [Act.put, List.setIfInBounds_toArray, List.set_cons_zero, List.set_cons_succ]
    refine BigFrame.wpQuiet_want (by kernel_rfl) (fun K hK => ?_)
    refine quiet_val ?_ (fun W hW => ?_) (hK _ ?_)
    rotate_left 1
    · skip
      obtain ⟨p0, f0⟩ := blk (HB.out _ (below_from hb3 hW)).1
      obtain ⟨p3, f3⟩ := blk (HB3.out _ hW)
      obtain ⟨_, _, _, _, c3, _, _⟩ := HAT.out _ (below_from hb3 hW)
      go_simp
      try rfl
    clear hK
    clear K
    try simp only [Act.put, List.setIfInBounds_toArray, List.set_cons_zero, List.set_cons_succ]
    refine BigFrame.wpQuiet_want (by kernel_rfl) (fun K hK => ?_)
    refine quiet_val ?_ (fun W hW => ?_) (hK _ ?_)
    rotate_left 1
    · skip
      go_simp
      try rfl
    clear hK
    clear K
    try simp only [Act.put, List.setIfInBounds_toArray, List.set_cons_zero, List.set_cons_succ]
    refine BigFrame.wpQuiet_want (by kernel_rfl) (fun K hK => ?_)
    refine quiet_val ?_ (fun W hW => ?_) (hK _ ?_)
    rotate_left 1
    · skip
      go_simp
      try rfl
    clear hK
    clear K
    try simp only [Act.put, List.setIfInBounds_toArray, List.set_cons_zero, List.set_cons_succ]
    refine BigFrame.wpQuiet_want (by kernel_rfl) (fun K hK => ?_)
    refine quiet_val ?_ (fun W hW => ?_) (hK _ ?_)
    rotate_left 1
    · skip
      obtain ⟨p0, f0⟩ := blk (HB.out _ (below_from hb3 hW)).1
      obtain ⟨p3, f3⟩ := blk (HB3.out _ hW)
      obtain ⟨_, _, _, _, c3, _, _⟩ := HAT.out _ (below_from hb3 hW)
      go_simp
      try rfl
    clear hK
    clear K
    try simp only [Act.put, List.setIfInBounds_toArray, List.set_cons_zero, List.set_cons_succ]
    refine BigFrame.wpQuiet_want (by kernel_rfl) (fun K hK => ?_)
    refine quiet_val ?_ (fun W hW => ?_) (hK _ ?_)
    rotate_left 1
    · skip
      go_simp
      try rfl
    clear hK
    clear K
    try simp only [Act.put, List.setIfInBounds_toArray, List.set_cons_zero, List.set_cons_succ]
    refine BigFrame.wpQuiet_want (by kernel_rfl) (fun K hK => ?_)
    refine quiet_val ?_ (fun W hW => ?_) (hK _ ?_)
    rotate_left 1
    · skip
      obtain ⟨p0, f0⟩ := blk (HB.out _ (below_from hb3 hW)).1
      obtain ⟨p3, f3⟩ := blk (HB3.out _ hW)
      obtain ⟨_, _, _, _, c3, _, _⟩ := HAT.out _ (below_from hb3 hW)
      go_simp
      try rfl
    clear hK
    clear K
    try simp only [Act.put, List.setIfInBounds_toArray, List.set_cons_zero, List.set_cons_succ]
    refine BigFrame.wpQuiet_want (by kernel_rfl) (fun K hK => ?_)
    refine quiet_calls (f := ?_) (args := ?_) ?_ (fun W hW => ?_) (fun W hW => ?_) (hK _ ?_)
    rotate_left 3
    · go_simp
      constructor <;> rfl
    · refine (HWi.out _ hW).mono ?_
      rintro e W2 ⟨rfl, hbW⟩
      refine ⟨?_, below_from hW hbW⟩
      rfl
    clear hK
    clear K
    try simp only [Act.put, List.setIfInBounds_toArray, List.set_cons_zero, List.set_cons_succ]
    refine BigFrame.wpQuiet_want (by kernel_rfl) (fun K hK => ?_)
    refine quiet_val ?_ (fun W hW => ?_) (hK _ ?_)
    rotate_left 1
    · skip
      go_simp
      try rfl
    clear hK
    clear K
    try simp only [Act.put, List.setIfInBounds_toArray, List.set_cons_zero, List.set_cons_succ]
    refine BigFrame.wpQuiet_want (by kernel_rfl) (fun K hK => ?_)
    refine quiet_val ?_ (fun W hW => ?_) (hK _ ?_)
    rotate_left 1
    · skip
      go_simp
      try rfl
    clear hK
    clear K
    try simp only [Act.put, List.setIfInBounds_toArray, List.set_cons_zero, List.set_cons_succ]
    refine BigFrame.wpQuiet_want (by kernel_rfl) (fun K hK => ?_)
    refine quiet_val ?_ (fun W hW => ?_) (hK _ ?_)
    rotate_left 1
    · skip
      go_simp
      try rfl
    clear hK
    clear K
    try simp only [Act.put, List.setIfInBounds_toArray, List.set_cons_zero, List.set_cons_succ]
    refine BigFrame.wpQuiet_want (by kernel_rfl) (fun K hK => ?_)
    refine quiet_val ?_ (fun W hW => ?_) (hK _ ?_)
    rotate_left 1
    · skip
      go_simp
      try rfl
    clear hK
    clear K
    try simp only [Act.put, List.setIfInBounds_toArray, List.set_cons_zero, List.set_cons_succ]
    refine BigFrame.wpQuiet_want (by kernel_rfl) (fun K hK => ?_)
    refine quiet_val ?_ (fun W hW => ?_) (hK _ ?_)
    rotate_left 1
    · skip
      go_simp
      try rfl
    clear hK
    clear K
    try simp only [Act.put, List.setIfInBounds_toArray, List.set_cons_zero, List.set_cons_succ]
    refine wpQuiet_nil (fun X6 hstX6 => ?_)
    have hcX6 := below_from hb3 hstX6
    obtain ⟨p3, f3⟩ := blk (HB3.out _ hstX6)
    obtain ⟨p1, f1⟩ := blk (HB.out _ hcX6).2.1
    obtain ⟨p2, f2⟩ := blk (HB.out _ hcX6).2.2
    go_wp2_with fail
    have hs2 := hb2.size
    have e1 : ¬ w.heap.size + 1 = w2.heap.size := by omega
    have e2 : ¬ w2.heap.size = w.heap.size + 1 := by omega
    have e3 : ¬ w.heap.size + 1 + 1 = w2.heap.size := by omega
    have e4 : ¬ w2.heap.size = w.heap.size + 1 + 1 := by omega
    go_region
    go_wp2_with fail
    refine bodyPost_ret (results_two_pos rfl _ _ (w.heap.size + 1) (w.heap.size + 2) (.int .i64 i) (.int .i64 x) (.int .i64 i) (.int .i64 y) rfl rfl (by rw [drew_heap]; simp [heap_set, putIn, (HB.out _ hcX6).2.1]) (by rw [drew_heap]; simp [heap_set, putIn, (HB.out _ hcX6).2.2])) rfl ?_
    have hfin := H1.out.trans (hcX6.mono hs1)
    rw [HQ.out]
    exact ⟨rfl, by (repeat' (first | (with_reducible exact Below.refl _ _) | (with_reducible assumption) | (with_reducible refine Below.alloc ?_ ?_ _) | (with_reducible refine Below.drew ?_) | (with_reducible refine drewN_below ?_) | (with_reducible refine Below.setCell ?_ ?_ _) | go_size))⟩
  · have HQ0 := Lib.hid (HR.out.trans (if_neg hc))
    obtain ⟨A, B, hAB⟩ : ∃ A B, spanS s = (A, B) := ⟨_, _, rfl⟩
    have hne : ¬ (spanS s).1 = (spanS s).2 := fun e => hc ((spanS_open s).1 e)
    rw [hAB] at HSp HQ0 hq0 hne
    simp only at HSp hq0 hne
    rw [decide_eq_false hne] at hq0
    have hq : ∀ w : World, (binOp .neq 24 (.agg #[.int .i64 A.line, .int .i64 A.col]) (.agg #[.int .i64 B.line, .int .i64 B.col])).run Tryz.prog w = .ok (.bool true) w := hq0
    obtain ⟨p0, f0⟩ := blk k0
    obtain ⟨p1, f1⟩ := blk k1
    obtain ⟨p2, f2⟩ := blk k2
    obtain ⟨va, vc, rfl⟩ := h.slice
    clear h hf hm hc hAB hne hq0 HR k0 k1 k2 hB HV
    go_enter Tryz.func88, Tryz.ntmps88
    go_wp2_with ((go_at_call 69; refine (HSp.out _ hw0).mono ?_; rintro e w2 ⟨rfl, hst2⟩; have hb2 := below_from hw0 hst2; obtain ⟨q0, g0⟩ := blk (HB.out _ hb2).1; obtain ⟨q1, g1⟩ := blk (HB.out _ hb2).2.1; obtain ⟨q2, g2⟩ := blk (HB.out _ hb2).2.2))
    have hs2 := hb2.size
    have e1 : ¬ w.heap.size + 1 = w2.heap.size := by omega
    have e2 : ¬ w2.heap.size = w.heap.size + 1 := by omega
    have e3 : ¬ w.heap.size + 1 + 1 = w2.heap.size := by omega
    have e4 : ¬ w2.heap.size = w.heap.size + 1 + 1 := by omega
    obtain ⟨w3, hw3⟩ : ∃ w3, (w2.alloc (.cells #[.int .i64 A.line, .int .i64 A.col] 24)).alloc (.cells #[.int .i64 B.line, .int .i64 B.col] 24) = w3 := ⟨_, rfl⟩
    rw [hw3]
    have hb23 : Below w2.heap.size w2 w3 := hw3 ▸ below2 (Below.refl _ _) _ _
    have hb3 := below_from hb2 hb23
    have n3 : w3.heap[w2.heap.size]? = some (.cells #[.int .i64 A.line, .int .i64 A.col] 24) := hw3 ▸ heap_old _ _ (heap_new _ _ rfl)
    have n4 : w3.heap[w2.heap.size + 1]? = some (.cells #[.int .i64 B.line, .int .i64 B.col] 24) := hw3 ▸ heap_new _ _ (by simp)
    clear q0 g0 q1 g1 q2 g2 p0 f0 p1 f1 p2 f2 hw3
    obtain ⟨p1, f1⟩ := blk (HB.out _ hb3).2.1
    obtain ⟨p2, f2⟩ := blk (HB.out _ hb3).2.2
    obtain ⟨p3, f3⟩ := blk n3
    obtain ⟨p4, f4⟩ := blk n4
    have e5 : ¬ w.heap.size + 1 = w2.heap.size + 1 := by omega
    have e6 : ¬ w2.heap.size + 1 = w.heap.size + 1 := by omega
    have e7 : ¬ w.heap.size + 1 + 1 = w2.heap.size + 1 := by omega
    have e8 : ¬ w2.heap.size + 1 = w.heap.size + 1 + 1 := by omega
    go_region
    go_wp2_with fail
    refine bodyPost_ret (results_two_pos rfl _ _ (w.heap.size + 1) (w.heap.size + 2) (.int .i64 A.line) (.int .i64 A.col) (.int .i64 B.line) (.int .i64 B.col) rfl rfl (by rw [drew_heap]; simp [heap_set, putIn, (HB.out _ hb3).2.1]) (by rw [drew_heap]; simp [heap_set, putIn, (HB.out _ hb3).2.2])) rfl ?_
    have hfin := H1.out.trans (hb3.mono hs1)
    rw [HQ0.out]
    exact ⟨rfl, by (repeat' (first | (with_reducible exact Below.refl _ _) | (with_reducible assumption) | (with_reducible refine Below.alloc ?_ ?_ _) | (with_reducible refine Below.drew ?_) | (with_reducible refine drewN_below ?_) | (with_reducible refine Below.setCell ?_ ?_ _) | go_size))⟩
set_option maxRecDepth 100000 in
set_option maxHeartbeats 4000000 in
theorem refStHref_any (v : Value) (s : St) (w : World) (S : Nat → Prop) (h : LinsR w S v s.lines) (hs : Small s.lines) (hf : Fits s.lines) (ho : -9223372036854775808 ≤ s.on ∧ s.on ≤ 9223372036854775807) (hof : -9223372036854775808 ≤ s.off ∧ s.off ≤ 9223372036854775807) :
    Calls Tryz.prog 26 #[stV v s] w fun e w' => e = .returned (.string ⟨(hrefS s).toArray⟩) ∧ Below w.heap.size w w' := by
  obtain ⟨W1, hW1, hB, hz, k0⟩ := one_st w v s
  have HB : Hid (∀ W, Below W1.heap.size W1 W → W.heap[w.heap.size]? = some (.cells #[v, .int .i64 s.anc.line, .int .i64 s.anc.col, .int .i64 s.foc.line, .int .i64 s.foc.col, .int .i64 s.on, .int .i64 s.off] 26)) := Lib.hid fun W hW => heap_below hW k0
  have hs1 := hB.size
  have H1 := Lib.hid hB
  have hw0 : Below W1.heap.size W1 W1 := Below.refl _ _
  have HV : Hid (∀ W, Below W1.heap.size W1 W → LinsR W S v s.lines) := Lib.hid fun W hW => h.below (rdLin_stable _) (hB.trans (hW.mono hs1))
  have HM : Hid (∀ W, Below W1.heap.size W1 W → Calls Tryz.prog 70 #[stV v s] W fun e w' => e = .returned (.bool (mayS s)) ∧ Below W.heap.size W w') := Lib.hid fun W hW => refStMay_any v s W S (HV.out W hW) hs ho hof
  have HR : Hid (hrefS s = if mayS s = true then hrefL (cellsD s.lines (handS s).1 (handS s).2) else []) := Lib.hid rfl
  cases hm : mayS s
  · rw [hm] at HM HR
    have HR2 : Hid (hrefS s = []) := Lib.hid (HR.out.trans (if_neg (by simp)))
    obtain ⟨p0, f0⟩ := blk k0
    obtain ⟨va, vc, rfl⟩ := h.slice
    clear h hs hf k0 hB hm HR
    go_enter Tryz.func26, Tryz.ntmps26
    go_wp2_with ((go_at_call 70; refine (HM.out _ hw0).mono ?_; rintro e w2 ⟨rfl, hst2⟩; have hb2 := below_from hw0 hst2; skip))
    go_ret
    rw [HR2.out]
    exact ⟨rfl, H1.out.trans (hb2.mono hs1)⟩
  · have hA := (mayS_at hm).2.1
    rw [hm] at HM HR
    rw [if_pos rfl] at HR
    have HH : Hid (∀ W, Below W1.heap.size W1 W → Calls Tryz.prog 88 #[stV v s] W fun e w' => e = .returned (.tuple #[.agg #[.int .i64 (handS s).1.line, .int .i64 (handS s).1.col], .agg #[.int .i64 (handS s).2.line, .int .i64 (handS s).2.col]]) ∧ Below W.heap.size W w') := Lib.hid fun W hW => refStHand_any v s W S (HV.out W hW) hf hA
    obtain ⟨A, B, hAB⟩ : ∃ A B, handS s = (A, B) := ⟨_, _, rfl⟩
    rw [hAB] at HH HR
    simp only at HH HR
    have HL : Hid ((cellsD s.lines A B).length ≤ 100000) := Lib.hid (Nat.le_trans (cellsD_size _ _ _) hs.1)
    have HC : Hid (∀ W, Below W1.heap.size W1 W → Calls Tryz.prog 89 #[v, .agg #[.int .i64 A.line, .int .i64 A.col], .agg #[.int .i64 B.line, .int .i64 B.col]] W fun e w' => ∃ v', e = .returned v' ∧ CelsR true w' (fun b => W.heap.size ≤ b) v' (cellsD s.lines A B) ∧ Below W.heap.size W w') := Lib.hid fun W hW => refCells_any v s.lines A B W S (HV.out W hW) hs hf
    obtain ⟨L, hL⟩ : ∃ L, cellsD s.lines A B = L := ⟨_, rfl⟩
    rw [hL] at HC HL HR
    obtain ⟨p0, f0⟩ := blk k0
    obtain ⟨va, vc, rfl⟩ := h.slice
    clear h hs hf hm hA hAB hL k0 hB HV
    go_enter Tryz.func26, Tryz.ntmps26
    go_wp2_with (first
      | (go_at_call 70; refine (HM.out _ hw0).mono ?_; rintro e w2 ⟨rfl, hst2⟩; have hb2 := below_from hw0 hst2; obtain ⟨q0, g0⟩ := blk (HB.out _ hb2))
      | (go_at_call 88; refine (HH.out _ hb2).mono ?_; rintro e w3 ⟨rfl, hst3⟩; have hb3 := below_from hb2 hst3; obtain ⟨q1, g1⟩ := blk (HB.out _ hb3); have hz3 := hb3.size; have e3 : ¬ w3.heap.size = w.heap.size := (by omega); have r1 := on2 (HB.out _ hb3); have HX3 : Hid (∀ X Y, Below W1.heap.size W1 ((w3.alloc X).alloc Y)) := Lib.hid fun X Y => hb3.trans (below2 (Below.refl _ _) X Y |>.mono hz3))
      | (go_at_call 89; refine (HC.out _ (HX3.out _ _)).mono ?_; rintro e w4 ⟨v4, rfl, hv4, hst4⟩; have hb4 := below_from (HX3.out _ _) hst4; obtain ⟨a4, c4, rfl, hc4, hm4, hx4⟩ := cels_shape (SliceR.read (fun _ _ h => h) hv4); have HX4 := Lib.hid hx4; clear hv4 hx4))
    unfold maxLen at hm4
    have H4 := Lib.hid (H1.out.trans (hb4.mono hs1))
    have HLL := HL.out
    go_loopw [6, 7] (fun a i wr => ∃ (k : Nat) (h : List UInt8), k ≤ L.length ∧ i = .int .i64 k ∧ a = .string ⟨h.toArray⟩ ∧ Hid ((k = 0 ∧ h = []) ∨ (0 < k ∧ ∀ c ∈ L.take k, c.href = h)) ∧ w4 = wr) (fun _ i _ => L.length - (intOf i).toNat)
    case atStart => exact ⟨0, [], Nat.zero_le _, rfl, rfl, Lib.hid (.inl ⟨rfl, rfl⟩), rfl⟩
    case round =>
      obtain ⟨k, h, hk, rfl, rfl, HK, rfl⟩ := hrel
      have k0 : (0 : Int) ≤ (k : Int) := Int.natCast_nonneg _
      by_cases hlt : k < L.length
      · obtain ⟨x, hx, hd⟩ := getOf L k hlt
        obtain ⟨b, o, rfl, hz', c0, c1, c2⟩ := HX4.out k x hx
        have HT : Hid (L.take (k + 1) = L.take k ++ [x]) := Lib.hid (take_some hx)
        have HM' : Hid (x ∈ L) := Lib.hid (List.mem_of_getElem? hx)
        by_cases hk0 : 0 < k
        · have hki : (0 : Int) < (k : Int) := by omega
          have hal : ∀ c ∈ L.take k, c.href = h := by rcases HK.out with ⟨e, _⟩ | ⟨_, e⟩; omega; exact e
          have HAL := Lib.hid hal
          by_cases hxe : x.href = h
          · have hq : (x.href == h) = true := by simpa using hxe
            have HN : Hid ((k + 1 = 0 ∧ x.href = []) ∨ (0 < k + 1 ∧ ∀ c ∈ L.take (k + 1), c.href = x.href)) := Lib.hid (.inr ⟨by omega, fun c hc => by rw [HT.out] at hc; rcases List.mem_append.1 hc with h1 | h1; exact (HAL.out c h1).trans hxe.symm; rw [List.mem_singleton.1 h1]⟩)
            clear hx hd c0 c1 hal hxe
            go_wp2_with fail
            refine ⟨⟨k + 1, x.href, hlt, by go_num, rfl, HN, by simp⟩, ?_⟩
            simp [intOf]
            omega
          · have hq : (x.href == h) = false := by simpa using hxe
            have HN : Hid (hrefS s = []) := Lib.hid (HR.out.trans (by
              obtain ⟨c, l, hcl⟩ : ∃ c l, L = c :: l := by
                cases hL : L with
                | nil => rw [hL] at hlt; simp at hlt
                | cons c l => exact ⟨c, l, rfl⟩
              have hc1 : c.href = h := HAL.out c (by rw [hcl]; cases k with | zero => omega | succ j => simp)
              rw [hcl, hrefL_cons, if_pos]
              rw [List.any_eq_true]
              exact ⟨x, hcl ▸ HM'.out, by rw [hc1, decide_eq_false hxe]; rfl⟩))
            clear hx hd c0 c1 hal hxe
            go_wp2_with fail
            go_ret
            rw [HN.out]
            exact ⟨rfl, H4.out⟩
        · have hki : ¬ (0 : Int) < (k : Int) := by omega
          have HN : Hid ((k + 1 = 0 ∧ x.href = []) ∨ (0 < k + 1 ∧ ∀ c ∈ L.take (k + 1), c.href = x.href)) := Lib.hid (.inr ⟨by omega, fun c hc => by
            obtain rfl : k = 0 := by omega
            rw [HT.out] at hc
            simp at hc
            rw [hc]⟩)
          clear hx hd c0 c1
          go_wp2_with fail
          refine ⟨⟨k + 1, x.href, hlt, by go_num, rfl, HN, by simp⟩, ?_⟩
          simp [intOf]
          omega
      · obtain rfl : k = L.length := by omega
        have HN : Hid (hrefS s = h) := Lib.hid (HR.out.trans (by
          rcases HK.out with ⟨e1, e2⟩ | ⟨e1, e2⟩
          · rw [e2, List.length_eq_zero_iff.1 e1]; rfl
          · rw [List.take_length] at e2
            cases hL : L with
            | nil => rw [hL] at e1; simp at e1
            | cons c l =>
              rw [hrefL_cons, if_neg]
              · exact e2 c (by rw [hL]; simp)
              · rw [List.any_eq_true]
                rintro ⟨x, hx, hxe⟩
                have h1 := e2 x (by rw [hL]; exact hx)
                have h2 := e2 c (by rw [hL]; simp)
                rw [h1, h2] at hxe
                simp at hxe))
        go_wp2_with fail
        go_ret
        rw [HN.out]
        exact ⟨rfl, H4.out⟩
end Go.Proofs.YtpndnbjpnajaaaaGreatDoor
namespace Go.Proofs.Qw
open Go.RowKit Go.Proofs.YtpndnbjpnajaaaaGreatDoor
def exL (b c : Int) (h k : List UInt8) : Doc := [⟨0, [], 0, [⟨97, b, h⟩, ⟨98, c, k⟩]⟩]
def exA : St := ⟨exL 0 1 [] [], ⟨0, 0⟩, ⟨0, 2⟩, 0, 0⟩
def exB : St := ⟨exL 1 1 [] [], ⟨0, 0⟩, ⟨0, 2⟩, 0, 0⟩
def exC : St := ⟨exL 0 0 [] [], ⟨0, 0⟩, ⟨0, 2⟩, 0, 0⟩
def exX : List UInt8 := [120]
def exD : St := ⟨exL 0 1 exX exX, ⟨0, 0⟩, ⟨0, 2⟩, 0, 0⟩
def exE : St := ⟨exL 0 1 [] [], ⟨0, 2⟩, ⟨0, 2⟩, 0, 0⟩
def exF : St := ⟨exL 0 1 [] [], ⟨0, 2⟩, ⟨0, 2⟩, 0, 1⟩
theorem exA_tog : toggleS exA 1 = (exB, 0) := by decide +kernel
theorem exB_tog : toggleS exB 1 = (exC, 0) := by decide +kernel
theorem exA_link : changedS exA (linkL exA [120]) = (exD, 0) := by decide +kernel
theorem exA_off : changedS exA (linkL exA [32, 120]) = (noS, 1) := by decide +kernel
theorem exE_tog : toggleS exE 1 = (exF, 0) := by decide +kernel
theorem exD_href : hrefS exD = [120] := by decide +kernel
theorem exE_bits : bitsS exE = 1 := by decide +kernel
theorem exF_bits : bitsS exF = 0 := by decide +kernel
end Go.Proofs.Qw
namespace Go.Proofs.YtpndnbjpnajaaaaGreatDoor
open Go.RowKit
open Go.Proofs.Qw
set_option maxRecDepth 100000 in
set_option maxHeartbeats 4000000 in
theorem stOwn_any (v : Value) (s : St) (w : World) (S : Nat → Prop) (h : LinsR w S v s.lines) (hf : Fits s.lines) :
    Calls Tryz.prog 41 #[stV v s] w fun e w' => ∃ v', e = .returned (stV v' s) ∧ DocR true w' (fun b => w.heap.size ≤ b) v' s.lines ∧ Below w.heap.size w w' := by
  obtain ⟨W1, hW1, hB, hz, k0, k1⟩ := st_two w v s
  have hs1 := hB.size
  have HC := Lib.hid (docOwn_any v s.lines W1 w S h hB hf)
  have HB : Hid (∀ W, Below W1.heap.size W1 W → W.heap[w.heap.size]? = some (.cells #[v, .int .i64 s.anc.line, .int .i64 s.anc.col, .int .i64 s.foc.line, .int .i64 s.foc.col, .int .i64 s.on, .int .i64 s.off] 26) ∧ W.heap[w.heap.size + 1]? = some (.cells #[.slice none 0 0, .int .i64 0, .int .i64 0, .int .i64 0, .int .i64 0, .int .i64 0, .int .i64 0] 26)) := Lib.hid fun W hW => ⟨heap_below hW k0, heap_below hW k1⟩
  have H1 := Lib.hid hB
  obtain ⟨p0, f0⟩ := blk k0
  obtain ⟨va, vc, rfl⟩ := h.slice
  clear h hf k0 k1 hB
  go_enter Tryz.func41, Tryz.ntmps41
  go_wp2_with (go_at_call 108; refine HC.out.mono ?_; rintro e w2 ⟨v2, rfl, hv2, hb2⟩; obtain ⟨a2, c2, rfl⟩ := hv2.slice; obtain ⟨q0, g0⟩ := blk (HB.out _ hb2).1; obtain ⟨q1, g1⟩ := blk (HB.out _ hb2).2; have HV := Lib.hid hv2; clear hv2)
  refine bodyPost_ret (results_st rfl _ _ (w.heap.size + 1) (.slice a2 s.lines.length c2) (.int .i64 s.anc.line) (.int .i64 s.anc.col) (.int .i64 s.foc.line) (.int .i64 s.foc.col) (.int .i64 s.on) (.int .i64 s.off) rfl (by simp [heap_set, putIn, (HB.out _ hb2).2])) rfl ?_
  have hfin := H1.out.trans (hb2.mono hs1)
  have hv2 := HV.out
  exact ⟨_, rfl, (SliceR.stable (rdLin_stable _) hv2 (by (repeat' (first | (with_reducible exact Keeps.refl _ _) | (with_reducible refine Keeps.set ?_ ?_ _) | (with_reducible refine Keeps.alloc ?_ _) | (with_reducible refine Keeps.drew ?_) | (first | fail) | (simp; omega)))) (fun b h _ => (by have h' := h; (try simp at h'); omega))), by (repeat' (first | (with_reducible exact Below.refl _ _) | (with_reducible assumption) | (with_reducible refine Below.alloc ?_ ?_ _) | (with_reducible refine Below.drew ?_) | (with_reducible refine drewN_below ?_) | (with_reducible refine Below.setCell ?_ ?_ _) | go_size))⟩
end Go.Proofs.YtpndnbjpnajaaaaGreatDoor
namespace Go.Proofs.YtpndnbjpnajaaaaGreatDoor
open Go.RowKit
open Go.Proofs.Qw
attribute [local go_sem] Oper.semAt_some
set_option maxHeartbeats 1000000 in
theorem containsInts_any (v : Value) (d : List Int) (t : Int) (w : World) (S : Nat → Prop) (h : IntsR false w S v d) :
    Calls Tryz.prog 94 #[v, .int .i64 t] w fun e w' => e = .returned (.bool (d.any fun x => x == t)) ∧ w' = w := by
  have HC : Hid (Calls Tryz.prog 163 #[v, .int .i64 t] w fun e w' => ∃ r : Int, e = .returned (.int .i64 r) ∧ decide (0 ≤ r) = (d.any fun x => x == t) ∧ w' = w) := Lib.hid (by
    obtain ⟨a, c, rfl, hc, hm, hx⟩ := ints_shape h
    have HX := Lib.hid hx
    clear hx h
    unfold maxLen at hm
    go_enter Tryz.func163, Tryz.ntmps163
    go_wp2_with fail
    go_loopw [5, 8] (fun _ i wr => ∃ k : Nat, k ≤ d.length ∧ i = .int .i64 k ∧ Hid ((d.any fun x => x == t) = ((d.drop k).any fun x => x == t)) ∧ w = wr) (fun _ i _ => d.length - (intOf i).toNat)
    case atStart => exact ⟨0, Nat.zero_le _, rfl, Lib.hid rfl, rfl⟩
    case round =>
      obtain ⟨k, hk, rfl, HK, rfl⟩ := hrel
      have k0 : (0 : Int) ≤ (k : Int) := Int.natCast_nonneg _
      by_cases hlt : k < d.length
      · obtain ⟨x, hx, hd⟩ := getOf d k hlt
        obtain ⟨b, o, rfl, hz, c0⟩ := HX.out k x hx
        rw [hd, List.any_cons] at HK
        cases hq : x == t
        · have hq' : (t == x) = false := by rw [Bool.beq_comm]; exact hq
          rw [hq, Bool.false_or] at HK
          clear hx hd
          go_wp2_with fail
          go_roundw
          case rel => exact ⟨k + 1, hlt, by go_num, HK, by simp⟩
          case measure => simp [intOf]; omega
        · have hq' : (t == x) = true := by rw [Bool.beq_comm]; exact hq
          rw [hq, Bool.true_or] at HK
          clear hx hd
          go_wp2_with fail
          go_ret
          exact ⟨k, rfl, by rw [HK.out]; exact decide_eq_true k0, rfl⟩
      · obtain rfl : k = d.length := by omega
        rw [List.drop_length] at HK
        go_wp2_with fail
        go_ret
        exact ⟨-1, rfl, by rw [HK.out]; rfl, rfl⟩)
  obtain ⟨a, c, rfl⟩ := h.slice
  clear h
  generalize (d.any fun x => x == t) = R at *
  go_enter Tryz.func94, Tryz.ntmps94
  go_wp2_with (go_at_call 163; refine HC.out.mono ?_; rintro e w1 ⟨r, rfl, hr, rfl⟩; have HRR := Lib.hid hr; clear hr)
  go_ret
  rw [← HRR.out]
  exact ⟨rfl, rfl⟩
theorem four_any (t : Int) : ([1, 2, 4, 8].any fun x => x == t) = four t := by
  unfold four
  rw [Bool.eq_iff_iff]
  simp only [List.any_cons, List.any_nil, Bool.or_eq_true, beq_iff_eq, decide_eq_true_eq, Bool.or_false]
  omega
set_option maxRecDepth 100000 in
set_option maxHeartbeats 2000000 in
theorem styToggle1_any (Bt : Nat) (v : Value) (d : Doc) (a b : Ps) (t : Int) (w : World) (S : Nat → Prop) (h : LinsR w S v d) (he : EnvT w) (hs : Small d) (hf : Fits d) (ht : w.heap[Bt]? = some (.cells #[.int .i64 t] 3)) :
    Calls Tryz.prog 96 #[v, posV a, posV b, .pointer (some ⟨Bt, 0, none⟩)] w (DocSaid (if allL (cellsD d a b) t = true then setD 0 t d a b else setD t 0 d a b) w) := by
  obtain ⟨W1, hW1, hB, hz, k0, k1⟩ := two_pos w (.int .i64 a.line) (.int .i64 a.col) (.int .i64 b.line) (.int .i64 b.col)
  have kt := heap_below hB ht
  have HB : Hid (∀ W, Below W1.heap.size W1 W → W.heap[w.heap.size]? = some (.cells #[.int .i64 a.line, .int .i64 a.col] 24) ∧ W.heap[w.heap.size + 1]? = some (.cells #[.int .i64 b.line, .int .i64 b.col] 24) ∧ W.heap[Bt]? = some (.cells #[.int .i64 t] 3)) := Lib.hid fun W hW => ⟨heap_below hW k0, heap_below hW k1, heap_below hW kt⟩
  have hs1 := hB.size
  have H1 := Lib.hid hB
  have hw0 : Below W1.heap.size W1 W1 := Below.refl _ _
  have HV : Hid (∀ W, Below W1.heap.size W1 W → LinsR W S v d) := Lib.hid fun W hW => h.below (rdLin_stable _) (hB.trans (hW.mono hs1))
  have HE : Hid (∀ W, Below W1.heap.size W1 W → EnvT W) := Lib.hid fun W hW => (he.below hB).below hW
  have HAl : Hid (∀ W, Below W1.heap.size W1 W → Calls Tryz.prog 81 #[v, .agg #[.int .i64 a.line, .int .i64 a.col], .agg #[.int .i64 b.line, .int .i64 b.col], .int .i64 t] W fun e w' => e = .returned (.bool (allL (cellsD d a b) t)) ∧ Below W.heap.size W w') := Lib.hid fun W hW => by
    have := docAll_any v d a b t W S _ rfl (HV.out W hW) (HE.out W hW) hs
    rw [all_count'] at this
    exact this
  have HSe : Hid (∀ (x y : Int) W, Below W1.heap.size W1 W → Calls Tryz.prog 97 #[v, .agg #[.int .i64 a.line, .int .i64 a.col], .agg #[.int .i64 b.line, .int .i64 b.col], .int .i64 x, .int .i64 y] W (DocSaid (setD x y d a b) W)) := Lib.hid fun x y W hW => docSet_any v d a b x y W S (HV.out W hW) (HE.out W hW) hs hf
  have HP : Hid (∀ p : Ps, posV p = .agg #[.int .i64 p.line, .int .i64 p.col]) := Lib.hid fun _ => rfl
  obtain ⟨p0, f0⟩ := blk k0
  obtain ⟨p1, f1⟩ := blk k1
  obtain ⟨p2, f2⟩ := blk kt
  obtain ⟨va, vc, rfl⟩ := h.slice
  rw [HP.out a, HP.out b]
  generalize allL (cellsD d a b) t = r at *
  clear h he hs hf k0 k1 kt ht hB
  cases r
  · rw [if_neg (by simp)]
    go_enter Tryz.func96, Tryz.ntmps96
    go_wp2_with (first
      | (go_at_call 81; refine (HAl.out _ hw0).mono ?_; rintro e w2 ⟨rfl, hst2⟩; have hb2 := below_from hw0 hst2; obtain ⟨q0, g0⟩ := blk (HB.out _ hb2).1; obtain ⟨q1, g1⟩ := blk (HB.out _ hb2).2.1; obtain ⟨q2, g2⟩ := blk (HB.out _ hb2).2.2)
      | (go_at_call 97; refine (HSe.out _ _ _ hb2).mono ?_; intro e w3 hsaid; have hsaid := DocSaid.from hsaid (H1.out.trans (hb2.mono hs1)); obtain ⟨v3, rfl, hv3, hb3⟩ := hsaid))
    go_ret2
    exact ⟨_, rfl, hv3, hb3⟩
  · rw [if_pos rfl]
    go_enter Tryz.func96, Tryz.ntmps96
    go_wp2_with (first
      | (go_at_call 81; refine (HAl.out _ hw0).mono ?_; rintro e w2 ⟨rfl, hst2⟩; have hb2 := below_from hw0 hst2; obtain ⟨q0, g0⟩ := blk (HB.out _ hb2).1; obtain ⟨q1, g1⟩ := blk (HB.out _ hb2).2.1; obtain ⟨q2, g2⟩ := blk (HB.out _ hb2).2.2)
      | (go_at_call 97; refine (HSe.out _ _ _ hb2).mono ?_; intro e w3 hsaid; have hsaid := DocSaid.from hsaid (H1.out.trans (hb2.mono hs1)); obtain ⟨v3, rfl, hv3, hb3⟩ := hsaid))
    go_ret2
    exact ⟨_, rfl, hv3, hb3⟩
set_option maxRecDepth 100000 in
set_option maxHeartbeats 2000000 in
theorem styLink1_any (Bt : Nat) (v : Value) (d : Doc) (a b : Ps) (hr : List UInt8) (w : World) (S : Nat → Prop) (h : LinsR w S v d) (he : EnvT w) (hs : Small d) (hf : Fits d) (hh : hr.length ≤ 1000000) (ht : w.heap[Bt]? = some (.cells #[.string ⟨hr.toArray⟩] 9)) :
    Calls Tryz.prog 98 #[v, posV a, posV b, .pointer (some ⟨Bt, 0, none⟩)] w (DocSaid (if targetF hr = true then linkD hr d a b else ([], 1)) w) := by
  obtain ⟨W1, hW1, hB, hz, k0, k1⟩ := two_pos w (.int .i64 a.line) (.int .i64 a.col) (.int .i64 b.line) (.int .i64 b.col)
  have kt := heap_below hB ht
  have HB : Hid (∀ W, Below W1.heap.size W1 W → W.heap[w.heap.size]? = some (.cells #[.int .i64 a.line, .int .i64 a.col] 24) ∧ W.heap[w.heap.size + 1]? = some (.cells #[.int .i64 b.line, .int .i64 b.col] 24) ∧ W.heap[Bt]? = some (.cells #[.string ⟨hr.toArray⟩] 9)) := Lib.hid fun W hW => ⟨heap_below hW k0, heap_below hW k1, heap_below hW kt⟩
  have hs1 := hB.size
  have H1 := Lib.hid hB
  have hw0 : Below W1.heap.size W1 W1 := Below.refl _ _
  have HV : Hid (∀ W, Below W1.heap.size W1 W → LinsR W S v d) := Lib.hid fun W hW => h.below (rdLin_stable _) (hB.trans (hW.mono hs1))
  have HE : Hid (∀ W, Below W1.heap.size W1 W → EnvT W) := Lib.hid fun W hW => (he.below hB).below hW
  have HAl : Hid (∀ W, Below W1.heap.size W1 W → Calls Tryz.prog 99 #[.string ⟨hr.toArray⟩] W fun e w' => e = .returned (.bool (targetF hr)) ∧ Below W.heap.size W w') := Lib.hid fun W hW => target_any ⟨hr.toArray⟩ W (HE.out W hW) (by show hr.toArray.size ≤ _; simpa using hh)
  have HSe : Hid (∀ W, Below W1.heap.size W1 W → Calls Tryz.prog 100 #[v, .agg #[.int .i64 a.line, .int .i64 a.col], .agg #[.int .i64 b.line, .int .i64 b.col], .string ⟨hr.toArray⟩] W (DocSaid (linkD hr d a b) W)) := Lib.hid fun W hW => docLink_any v d a b hr W S (HV.out W hW) (HE.out W hW) hs hf hh
  have HP : Hid (∀ p : Ps, posV p = .agg #[.int .i64 p.line, .int .i64 p.col]) := Lib.hid fun _ => rfl
  obtain ⟨p0, f0⟩ := blk k0
  obtain ⟨p1, f1⟩ := blk k1
  obtain ⟨p2, f2⟩ := blk kt
  obtain ⟨va, vc, rfl⟩ := h.slice
  rw [HP.out a, HP.out b]
  generalize targetF hr = r at *
  clear h he hs hf hh k0 k1 kt ht hB
  cases r
  · rw [if_neg (by simp)]
    go_enter Tryz.func98, Tryz.ntmps98
    go_wp2_with ((go_at_call 99; refine (HAl.out _ hw0).mono ?_; rintro e w2 ⟨rfl, hst2⟩; have hb2 := below_from hw0 hst2; skip))
    go_ret2
    exact ⟨_, rfl, SliceR.nil _ _ _ _ _ _, H1.out.trans (hb2.mono hs1)⟩
  · rw [if_pos rfl]
    go_enter Tryz.func98, Tryz.ntmps98
    go_wp2_with (first
      | (go_at_call 99; refine (HAl.out _ hw0).mono ?_; rintro e w2 ⟨rfl, hst2⟩; have hb2 := below_from hw0 hst2; obtain ⟨q0, g0⟩ := blk (HB.out _ hb2).1; obtain ⟨q1, g1⟩ := blk (HB.out _ hb2).2.1; obtain ⟨q2, g2⟩ := blk (HB.out _ hb2).2.2)
      | (go_at_call 100; refine (HSe.out _ hb2).mono ?_; intro e w3 hsaid; have hsaid := DocSaid.from hsaid (H1.out.trans (hb2.mono hs1)); obtain ⟨v3, rfl, hv3, hb3⟩ := hsaid))
    go_ret2
    exact ⟨_, rfl, hv3, hb3⟩
theorem st_val_st (w : World) (v : Value) (s : St) (u : Value) (t : TypeId) : ∃ W1, ((w.alloc (.cells #[v, .int .i64 s.anc.line, .int .i64 s.anc.col, .int .i64 s.foc.line, .int .i64 s.foc.col, .int .i64 s.on, .int .i64 s.off] 26)).alloc (.cells #[u] t)).alloc (.cells #[.slice none 0 0, .int .i64 0, .int .i64 0, .int .i64 0, .int .i64 0, .int .i64 0, .int .i64 0] 26) = W1 ∧ Below w.heap.size w W1 ∧ w.heap.size + 3 = W1.heap.size ∧
    W1.heap[w.heap.size]? = some (.cells #[v, .int .i64 s.anc.line, .int .i64 s.anc.col, .int .i64 s.foc.line, .int .i64 s.foc.col, .int .i64 s.on, .int .i64 s.off] 26) ∧ W1.heap[w.heap.size + 1]? = some (.cells #[u] t) ∧ W1.heap[w.heap.size + 2]? = some (.cells #[.slice none 0 0, .int .i64 0, .int .i64 0, .int .i64 0, .int .i64 0, .int .i64 0, .int .i64 0] 26) :=
  ⟨_, rfl, below3 (Below.refl _ _) _ _ _, by simp, heap_old _ _ (heap_old _ _ (heap_new _ _ rfl)), heap_old _ _ (heap_new _ _ (by simp)), heap_new _ _ (by simp)⟩
set_option maxRecDepth 100000 in
set_option maxHeartbeats 2000000 in
theorem styLink_any (v : Value) (s : St) (hr : List UInt8) (w : World) (S : Nat → Prop) (h : LinsR w S v s.lines) (he : EnvT w) (hs : Small s.lines) (hf : Fits s.lines) (hh : hr.length ≤ 1000000) :
    Calls Tryz.prog 30 #[stV v s, .string ⟨hr.toArray⟩] w (StSaid (changedS s (linkL s hr)) w) := by
  obtain ⟨W1, hW1, hB, hz, k0, k1, k2⟩ := st_val_st w v s (.string ⟨hr.toArray⟩) 9
  have HB : Hid (∀ W, Below W1.heap.size W1 W → W.heap[w.heap.size]? = some (.cells #[v, .int .i64 s.anc.line, .int .i64 s.anc.col, .int .i64 s.foc.line, .int .i64 s.foc.col, .int .i64 s.on, .int .i64 s.off] 26) ∧ W.heap[w.heap.size + 2]? = some (.cells #[.slice none 0 0, .int .i64 0, .int .i64 0, .int .i64 0, .int .i64 0, .int .i64 0, .int .i64 0] 26)) := Lib.hid fun W hW => ⟨heap_below hW k0, heap_below hW k2⟩
  have hs1 := hB.size
  have H1 := Lib.hid hB
  have HC := Lib.hid (styChanged_any v s 98 #[.pointer (some ⟨w.heap.size + 1, 0, none⟩)] (linkL s hr) W1 S (h.below (rdLin_stable _) hB) (he.below hB) hs (enters_of Tryz.func98 (by kernel_rfl) rfl)
    (fun _ W hW => styLink1_any (w.heap.size + 1) v s.lines (spanS s).1 (spanS s).2 hr W S (h.below (rdLin_stable _) (hB.trans (hW.mono hs1))) ((he.below hB).below hW) hs hf hh (heap_below hW k1)))
  obtain ⟨X, hX⟩ : ∃ X, changedS s (linkL s hr) = X := ⟨_, rfl⟩
  rw [hX] at HC ⊢
  obtain ⟨p0, f0⟩ := blk k0
  obtain ⟨p1, f1⟩ := blk k1
  obtain ⟨p2, f2⟩ := blk k2
  obtain ⟨va, vc, rfl⟩ := h.slice
  clear h he hs hf hh hX k0 k1 k2 hB
  go_enter Tryz.func30, Tryz.ntmps30
  go_wp2_with (go_at_call 95; refine HC.out.mono ?_; intro e w2 hsaid; obtain ⟨v2, rfl, hv2, hb2⟩ := hsaid; obtain ⟨a2, c2, rfl⟩ := hv2.slice; have HV2 := Lib.hid hv2; clear hv2; obtain ⟨q2, g2⟩ := blk (HB.out _ hb2).2)
  refine bodyPost_ret (results_st_e rfl _ _ (w.heap.size + 2) (.slice a2 X.1.lines.length c2) (.int .i64 X.1.anc.line) (.int .i64 X.1.anc.col) (.int .i64 X.1.foc.line) (.int .i64 X.1.foc.col) (.int .i64 X.1.on) (.int .i64 X.1.off) (.int .i64 X.2) rfl rfl (by simp [heap_set, putIn, (HB.out _ hb2).2])) rfl ?_
  have hfin := H1.out.trans (hb2.mono hs1)
  have hv2 := HV2.out
  exact ⟨_, rfl, (SliceR.stable (rdLin_stable _) hv2 (by (repeat' (first | (with_reducible exact Keeps.refl _ _) | (with_reducible refine Keeps.set ?_ ?_ _) | (with_reducible refine Keeps.alloc ?_ _) | (with_reducible refine Keeps.drew ?_) | (first | fail) | (simp; omega)))) (fun b h _ => (by have h' := h; (try simp at h'); omega))), by (repeat' (first | (with_reducible exact Below.refl _ _) | (with_reducible assumption) | (with_reducible refine Below.alloc ?_ ?_ _) | (with_reducible refine Below.drew ?_) | (with_reducible refine drewN_below ?_) | (with_reducible refine Below.setCell ?_ ?_ _) | go_size))⟩
end Go.Proofs.YtpndnbjpnajaaaaGreatDoor
