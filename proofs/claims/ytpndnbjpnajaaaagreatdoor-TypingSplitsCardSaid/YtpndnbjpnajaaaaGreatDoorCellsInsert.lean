/- Typing: closed states, new ones, ones with another selection; and by the document. -/
import Derived.Test.YtpndnbjpnajaaaaGreatDoorStOwn
import Derived.Test.YtpndnbjpnajaaaaGreatDoorAround
import Derived.Test.YtpndnbjpnajaaaaGreatDoorLaid
import Derived.Test.YtpndnbjpnajaaaaGreatDoorDocEach
import Derived.Deep.RegionHeld3
import Derived.Deep.DrawnRows
import Derived.Lib.TrimAscii
import Derived.Test.YtpndnbjpnajaaaaGreatDoorDocDelete
namespace Go.Proofs.Qw
open Go.RowKit Go.Proofs.YtpndnbjpnajaaaaGreatDoor
def closedS (d : Doc) (p : Ps) : St := ⟨d, p, p, 0, 0⟩
def selectS (s : St) (a f : Ps) : St × Int := if (mayS s && (isD s.lines a && isD s.lines f)) = true then (⟨s.lines, a, f, 0, 0⟩, 0) else (noS, 1)
end Go.Proofs.Qw
namespace Go.Proofs.YtpndnbjpnajaaaaGreatDoor
open Go.RowKit
open Go.Proofs.Qw
attribute [local go_sem] Oper.semAt_some
theorem pos_st (w : World) (p : Ps) : ∃ W1, (w.alloc (.cells #[.int .i64 p.line, .int .i64 p.col] 24)).alloc (.cells #[.slice none 0 0, .int .i64 0, .int .i64 0, .int .i64 0, .int .i64 0, .int .i64 0, .int .i64 0] 26) = W1 ∧ Below w.heap.size w W1 ∧ w.heap.size + 2 = W1.heap.size ∧ W1.heap[w.heap.size]? = some (.cells #[.int .i64 p.line, .int .i64 p.col] 24) ∧ W1.heap[w.heap.size + 1]? = some (.cells #[.slice none 0 0, .int .i64 0, .int .i64 0, .int .i64 0, .int .i64 0, .int .i64 0, .int .i64 0] 26) :=
  ⟨_, rfl, below2 (Below.refl _ _) _ _, by simp, heap_old _ _ (heap_new _ _ rfl), heap_new _ _ (by simp)⟩
set_option maxRecDepth 100000 in
set_option maxHeartbeats 2000000 in
theorem typClosed_any (a : Option Addr) (n c : Nat) (p : Ps) (w : World) :
    Calls Tryz.prog 140 #[.slice a n c, .agg #[.int .i64 p.line, .int .i64 p.col]] w fun e w' => e = .returned (.agg #[.slice a n c, .int .i64 p.line, .int .i64 p.col, .int .i64 p.line, .int .i64 p.col, .int .i64 0, .int .i64 0]) ∧ Below w.heap.size w w' := by
  obtain ⟨W1, hW1, hB, hz, k0, k1⟩ := pos_st w p
  have H1 := Lib.hid hB
  have HK := Lib.hid k1
  obtain ⟨p0, f0⟩ := blk k0
  obtain ⟨p1, f1⟩ := blk k1
  clear k0 k1 hB
  go_enter Tryz.func140, Tryz.ntmps140
  go_wp2_with fail
  refine bodyPost_ret (results_st rfl _ _ (w.heap.size + 1) (.slice a n c) (.int .i64 p.line) (.int .i64 p.col) (.int .i64 p.line) (.int .i64 p.col) (.int .i64 0) (.int .i64 0) rfl (by simp [heap_set, putIn, HK.out])) rfl ?_
  have hfin := H1.out
  exact ⟨rfl, by (repeat' (first | (with_reducible exact Below.refl _ _) | (with_reducible assumption) | (with_reducible refine Below.alloc ?_ ?_ _) | (with_reducible refine Below.drew ?_) | (with_reducible refine drewN_below ?_) | (with_reducible refine Below.setCell ?_ ?_ _) | go_size))⟩
set_option maxRecDepth 100000 in
set_option maxHeartbeats 4000000 in
theorem typSelect_any (v : Value) (s : St) (a f : Ps) (w : World) (S : Nat → Prop) (h : LinsR w S v s.lines) (he : EnvT w) (hs : Small s.lines) (hf : Fits s.lines) :
    Calls Tryz.prog 68 #[stV v s, .agg #[.int .i64 a.line, .int .i64 a.col], .agg #[.int .i64 f.line, .int .i64 f.col]] w (StSaid (selectS s a f) w) := by
  obtain ⟨W1, hW1⟩ : ∃ W1, (((w.alloc (.cells #[v, .int .i64 s.anc.line, .int .i64 s.anc.col, .int .i64 s.foc.line, .int .i64 s.foc.col, .int .i64 s.on, .int .i64 s.off] 26)).alloc (.cells #[.int .i64 a.line, .int .i64 a.col] 24)).alloc (.cells #[.int .i64 f.line, .int .i64 f.col] 24)).alloc (.cells #[.slice none 0 0, .int .i64 0, .int .i64 0, .int .i64 0, .int .i64 0, .int .i64 0, .int .i64 0] 26) = W1 := ⟨_, rfl⟩
  have hB : Below w.heap.size w W1 := hW1 ▸ below2 (below2 (Below.refl _ _) _ _) _ _
  have hz : w.heap.size + 4 = W1.heap.size := by rw [← hW1]; simp
  have k0 : W1.heap[w.heap.size]? = some (.cells #[v, .int .i64 s.anc.line, .int .i64 s.anc.col, .int .i64 s.foc.line, .int .i64 s.foc.col, .int .i64 s.on, .int .i64 s.off] 26) := hW1 ▸ heap_old _ _ (heap_old _ _ (heap_old _ _ (heap_new _ _ rfl)))
  have k1 : W1.heap[w.heap.size + 1]? = some (.cells #[.int .i64 a.line, .int .i64 a.col] 24) := hW1 ▸ heap_old _ _ (heap_old _ _ (heap_new _ _ (by simp)))
  have k2 : W1.heap[w.heap.size + 1 + 1]? = some (.cells #[.int .i64 f.line, .int .i64 f.col] 24) := hW1 ▸ heap_old _ _ (heap_new _ _ (by simp))
  have k3 : W1.heap[w.heap.size + 3]? = some (.cells #[.slice none 0 0, .int .i64 0, .int .i64 0, .int .i64 0, .int .i64 0, .int .i64 0, .int .i64 0] 26) := hW1 ▸ heap_new _ _ (by simp)
  have HB : Hid (∀ W, Below W1.heap.size W1 W → W.heap[w.heap.size]? = some (.cells #[v, .int .i64 s.anc.line, .int .i64 s.anc.col, .int .i64 s.foc.line, .int .i64 s.foc.col, .int .i64 s.on, .int .i64 s.off] 26) ∧ W.heap[w.heap.size + 1]? = some (.cells #[.int .i64 a.line, .int .i64 a.col] 24) ∧ W.heap[w.heap.size + 1 + 1]? = some (.cells #[.int .i64 f.line, .int .i64 f.col] 24) ∧ W.heap[w.heap.size + 3]? = some (.cells #[.slice none 0 0, .int .i64 0, .int .i64 0, .int .i64 0, .int .i64 0, .int .i64 0, .int .i64 0] 26)) := Lib.hid fun W hW => ⟨heap_below hW k0, heap_below hW k1, heap_below hW k2, heap_below hW k3⟩
  have hs1 := hB.size
  have H1 := Lib.hid hB
  have hw0 : Below W1.heap.size W1 W1 := Below.refl _ _
  have HV : Hid (∀ W, Below W1.heap.size W1 W → LinsR W S v s.lines) := Lib.hid fun W hW => h.below (rdLin_stable _) (hB.trans (hW.mono hs1))
  have HM : Hid (∀ W, Below W1.heap.size W1 W → Calls Tryz.prog 27 #[stV v s] W fun e w' => e = .returned (.bool (mayS s)) ∧ Below W.heap.size W w') := Lib.hid fun W hW => stMay_any v s W S (HV.out W hW) ((he.below hB).below hW) hs
  have HIs : Hid (∀ (p : Ps) W, Below W1.heap.size W1 W → Calls Tryz.prog 91 #[v, .agg #[.int .i64 p.line, .int .i64 p.col]] W fun e w' => e = .returned (.bool (isD s.lines p)) ∧ Below W.heap.size W w') := Lib.hid fun p W hW => is_any v s.lines p W w S h (hB.trans (hW.mono hs1))
  have HOw : Hid (∀ W, Below W1.heap.size W1 W → Calls Tryz.prog 108 #[v] W fun e w' => ∃ v', e = .returned v' ∧ DocR true w' (fun b => W.heap.size ≤ b) v' s.lines ∧ Below W.heap.size W w') := Lib.hid fun W hW => by
    have d := s.lines
    exact (show _ from (fun d (h : LinsR w S v d) (hf : Fits d) => (docOwn_any v d W w S h (hB.trans (hW.mono hs1)) hf : Calls Tryz.prog 108 #[v] W fun e w' => ∃ v', e = .returned v' ∧ DocR true w' (fun b => W.heap.size ≤ b) v' d ∧ Below W.heap.size W w')) s.lines h hf)
  have HR : Hid (selectS s a f = if (mayS s && (isD s.lines a && isD s.lines f)) = true then (⟨s.lines, a, f, 0, 0⟩, 0) else (noS, 1)) := Lib.hid rfl
  obtain ⟨Z, hZ⟩ : ∃ Z, selectS s a f = Z := ⟨_, rfl⟩
  rw [hZ] at HR ⊢
  obtain ⟨p0, f0⟩ := blk k0
  obtain ⟨p1, f1⟩ := blk k1
  obtain ⟨p2, f2⟩ := blk k2
  obtain ⟨p3, f3⟩ := blk k3
  obtain ⟨va, vc, rfl⟩ := h.slice
  have HIa := Lib.hid (HIs.out a)
  have HIf := Lib.hid (HIs.out f)
  generalize mayS s = m at *
  generalize isD s.lines a = x at *
  generalize isD s.lines f = y at *
  clear h he hs hf hZ k0 k1 k2 k3 hB HIs
  cases m
  · have HR2 : Hid (Z = (noS, 1)) := Lib.hid (HR.out.trans (if_neg (by simp)))
    clear HR HIa HIf HOw
    go_enter Tryz.func68, Tryz.ntmps68
    go_wp2_with ((go_at_call 27; refine (HM.out _ hw0).mono ?_; rintro e w2 ⟨rfl, hst2⟩; have hb2 := below_from hw0 hst2; obtain ⟨q3, g3⟩ := blk (HB.out _ hb2).2.2.2))
    refine bodyPost_ret (results_st_e rfl _ _ (w.heap.size + 3) (.slice none 0 0) (.int .i64 0) (.int .i64 0) (.int .i64 0) (.int .i64 0) (.int .i64 0) (.int .i64 0) (.int .i64 1) rfl rfl (by simp [heap_set, putIn, (HB.out _ hb2).2.2.2])) rfl ?_
    unfold StSaid
    rw [HR2.out]
    have hfin := H1.out.trans (hb2.mono hs1)
    exact ⟨_, rfl, SliceR.nil _ _ _ _ _ _, by (repeat' (first | (with_reducible exact Below.refl _ _) | (with_reducible assumption) | (with_reducible refine Below.alloc ?_ ?_ _) | (with_reducible refine Below.drew ?_) | (with_reducible refine drewN_below ?_) | (with_reducible refine Below.setCell ?_ ?_ _) | go_size))⟩
  cases x
  · have HR2 : Hid (Z = (noS, 1)) := Lib.hid (HR.out.trans (if_neg (by simp)))
    clear HR HIf HOw
    go_enter Tryz.func68, Tryz.ntmps68
    go_wp2_with (first
      | (go_at_call 27; refine (HM.out _ hw0).mono ?_; rintro e w2 ⟨rfl, hst2⟩; have hb2 := below_from hw0 hst2; obtain ⟨q0, g0⟩ := blk (HB.out _ hb2).1; obtain ⟨q1, g1⟩ := blk (HB.out _ hb2).2.1)
      | (go_at_call 91; refine (HIa.out _ hb2).mono ?_; rintro e w3 ⟨rfl, hst3⟩; have hb3 := below_from hb2 hst3; obtain ⟨q3, g3⟩ := blk (HB.out _ hb3).2.2.2))
    refine bodyPost_ret (results_st_e rfl _ _ (w.heap.size + 3) (.slice none 0 0) (.int .i64 0) (.int .i64 0) (.int .i64 0) (.int .i64 0) (.int .i64 0) (.int .i64 0) (.int .i64 1) rfl rfl (by simp [heap_set, putIn, (HB.out _ hb3).2.2.2])) rfl ?_
    unfold StSaid
    rw [HR2.out]
    have hfin := H1.out.trans (hb3.mono hs1)
    exact ⟨_, rfl, SliceR.nil _ _ _ _ _ _, by (repeat' (first | (with_reducible exact Below.refl _ _) | (with_reducible assumption) | (with_reducible refine Below.alloc ?_ ?_ _) | (with_reducible refine Below.drew ?_) | (with_reducible refine drewN_below ?_) | (with_reducible refine Below.setCell ?_ ?_ _) | go_size))⟩
  cases y
  · have HR2 : Hid (Z = (noS, 1)) := Lib.hid (HR.out.trans (if_neg (by simp)))
    clear HR HOw
    go_enter Tryz.func68, Tryz.ntmps68
    go_wp2_with ((go_at_call 27; refine (HM.out _ hw0).mono ?_; rintro e w2 ⟨rfl, hst2⟩; have hb2 := below_from hw0 hst2; obtain ⟨q0, g0⟩ := blk (HB.out _ hb2).1; obtain ⟨q1, g1⟩ := blk (HB.out _ hb2).2.1))
    with_reducible refine (HIa.out _ hb2).mono ?_
    rintro e w3 ⟨rfl, hst3⟩
    have hb3 := below_from hb2 hst3
    clear q0 g0 q1 g1
    obtain ⟨q0, g0⟩ := blk (HB.out _ hb3).1
    obtain ⟨q2, g2⟩ := blk (HB.out _ hb3).2.2.1
    go_wp2_with fail
    with_reducible refine (HIf.out _ hb3).mono ?_
    rintro e w4 ⟨rfl, hst4⟩
    have hb4 := below_from hb3 hst4
    obtain ⟨q3, g3⟩ := blk (HB.out _ hb4).2.2.2
    go_wp2_with fail
    refine bodyPost_ret (results_st_e rfl _ _ (w.heap.size + 3) (.slice none 0 0) (.int .i64 0) (.int .i64 0) (.int .i64 0) (.int .i64 0) (.int .i64 0) (.int .i64 0) (.int .i64 1) rfl rfl (by simp [heap_set, putIn, (HB.out _ hb4).2.2.2])) rfl ?_
    unfold StSaid
    rw [HR2.out]
    have hfin := H1.out.trans (hb4.mono hs1)
    exact ⟨_, rfl, SliceR.nil _ _ _ _ _ _, by (repeat' (first | (with_reducible exact Below.refl _ _) | (with_reducible assumption) | (with_reducible refine Below.alloc ?_ ?_ _) | (with_reducible refine Below.drew ?_) | (with_reducible refine drewN_below ?_) | (with_reducible refine Below.setCell ?_ ?_ _) | go_size))⟩
  · have HR2 : Hid (Z = (⟨s.lines, a, f, 0, 0⟩, 0)) := Lib.hid (HR.out.trans (if_pos rfl))
    clear HR
    go_enter Tryz.func68, Tryz.ntmps68
    go_wp2_with ((go_at_call 27; refine (HM.out _ hw0).mono ?_; rintro e w2 ⟨rfl, hst2⟩; have hb2 := below_from hw0 hst2; obtain ⟨q0, g0⟩ := blk (HB.out _ hb2).1; obtain ⟨q1, g1⟩ := blk (HB.out _ hb2).2.1))
    with_reducible refine (HIa.out _ hb2).mono ?_
    rintro e w3 ⟨rfl, hst3⟩
    have hb3 := below_from hb2 hst3
    clear q0 g0 q1 g1
    obtain ⟨q0, g0⟩ := blk (HB.out _ hb3).1
    obtain ⟨q2, g2⟩ := blk (HB.out _ hb3).2.2.1
    go_wp2_with fail
    with_reducible refine (HIf.out _ hb3).mono ?_
    rintro e w4 ⟨rfl, hst4⟩
    have hb4 := below_from hb3 hst4
    clear q0 g0 q2 g2
    have hb0 : Below W1.heap.size W1 w4.drew := hb4.drew
    obtain ⟨q0, g0⟩ := blk (HB.out _ hb4).1
    obtain ⟨q1, g1⟩ := blk (HB.out _ hb4).2.1
    obtain ⟨q2, g2⟩ := blk (HB.out _ hb4).2.2.1
    go_wp2_with fail
    have n1 : ¬ w.heap.size + 1 + 1 + 1 = w.heap.size + 1 + 1 := by omega
    have n2 : ¬ w.heap.size + 1 + 1 + 1 = w.heap.size + 1 := by omega
    have n3 : ¬ w.heap.size + 1 + 1 + 1 = w.heap.size := by omega
    have n4 : ¬ w.heap.size + 1 + 1 = w.heap.size + 1 + 1 + 1 := by omega
    have n5 : ¬ w.heap.size + 1 = w.heap.size + 1 + 1 + 1 := by omega
    have n6 : ¬ w.heap.size = w.heap.size + 1 + 1 + 1 := by omega
    have n7 : ¬ w.heap.size + 1 + 1 = w.heap.size := by omega
    have n8 : ¬ w.heap.size = w.heap.size + 1 + 1 := by omega
    go_region_held3 (fun w' => w'.cell? ⟨w.heap.size, 0, none⟩ = some (.slice va s.lines.length vc) ∧ w'.cell? ⟨w.heap.size + 1, 0, none⟩ = some (.int .i64 a.line) ∧ w'.cell? ⟨w.heap.size + 1, 1, none⟩ = some (.int .i64 a.col) ∧ w'.cell? ⟨w.heap.size + 1 + 1, 0, none⟩ = some (.int .i64 f.line) ∧ w'.cell? ⟨w.heap.size + 1 + 1, 1, none⟩ = some (.int .i64 f.col)) (go_keep)
      ((go_at_call 108; refine (HOw.out _ hb0).mono ?_; rintro e w5 ⟨v5, rfl, hv5, hst5⟩; obtain ⟨a5, c5, rfl⟩ := hv5.slice; have hb5 := below_from hb0 hst5; obtain ⟨s0, t0⟩ := blk (HB.out _ hb5).1; obtain ⟨s1, t1⟩ := blk (HB.out _ hb5).2.1; obtain ⟨s2, t2⟩ := blk (HB.out _ hb5).2.2.1; obtain ⟨s3, t3⟩ := blk (HB.out _ hb5).2.2.2; have HV5 := Lib.hid hv5; clear hv5))
    go_wp2_with fail
    refine bodyPost_ret (results_st_e rfl _ _ (w.heap.size + 3) (.slice a5 s.lines.length c5) (.int .i64 a.line) (.int .i64 a.col) (.int .i64 f.line) (.int .i64 f.col) (.int .i64 0) (.int .i64 0) (.int .i64 0) rfl rfl (by simp [heap_set, putIn, (HB.out _ hb5).2.2.2])) rfl ?_
    unfold StSaid
    rw [HR2.out]
    have hfin := H1.out.trans (hb5.mono hs1)
    have hv5 := HV5.out
    have hz4 := hb4.size
    exact ⟨_, rfl, (SliceR.stable (rdLin_stable _) hv5 (by (repeat' (first | (with_reducible exact Keeps.refl _ _) | (with_reducible refine Keeps.set ?_ ?_ _) | (with_reducible refine Keeps.alloc ?_ _) | (with_reducible refine Keeps.drew ?_) | (first | fail) | (simp; omega)))) (fun b h _ => (by have h' := h; (try simp at h'); omega))), by (repeat' (first | (with_reducible exact Below.refl _ _) | (with_reducible assumption) | (with_reducible refine Below.alloc ?_ ?_ _) | (with_reducible refine Below.drew ?_) | (with_reducible refine drewN_below ?_) | (with_reducible refine Below.setCell ?_ ?_ _) | go_size))⟩
end Go.Proofs.YtpndnbjpnajaaaaGreatDoor
namespace Go.Proofs.Qw
open Go.RowKit Go.Proofs.YtpndnbjpnajaaaaGreatDoor
def lastF (l : List Int) : Int := l.getLastD (-1)
end Go.Proofs.Qw
namespace Go.Proofs.YtpndnbjpnajaaaaGreatDoor
open Go.RowKit
open Go.Proofs.Qw
attribute [local go_sem] Oper.semAt_some
set_option maxHeartbeats 1000000 in
theorem lineLast_any (B : Nat) (q k : Int) (l : List Int) (la : Option Addr) (lc : Nat) (cv : Value) (w : World) (S : Nat → Prop) (h : IntsR false w S (.slice la l.length lc) l) (hB : w.heap[B]? = some (.cells #[.int .i64 q, .slice la l.length lc, .int .i64 k, cv] 42)) :
    Calls Tryz.prog 231 #[.pointer (some ⟨B, 0, none⟩)] w fun e w' => e = .returned (.int .i64 (lastF l)) ∧ Below w.heap.size w w' ∧ w'.heap = w.heap := by
  obtain ⟨a, c, he, hc, hm, hx⟩ := ints_shape h
  cases he
  obtain ⟨p0, f0⟩ := blk hB
  unfold maxLen at hm
  by_cases hn : l = []
  · subst hn
    have HR : Hid (lastF [] = -1) := Lib.hid rfl
    clear h hx hB
    go_enter Tryz.func231, Tryz.ntmps231
    go_wp2_with fail
    go_ret
    rw [HR.out]
    exact ⟨rfl, Below.refl _ _, rfl⟩
  · obtain ⟨n, hnl⟩ : ∃ n, l.length = n + 1 := ⟨l.length - 1, by have := List.length_pos_iff.2 hn; omega⟩
    obtain ⟨x, hx0, _⟩ := getOf l n (by omega)
    obtain ⟨b, o, rfl, hz, c0⟩ := hx n x hx0
    have HR : Hid (lastF l = x) := Lib.hid (by
      unfold lastF
      rw [List.getLastD_eq_getLast?, List.getLast?_eq_getElem?, hnl, Nat.add_sub_cancel, hx0]
      rfl)
    have hl0 : (((n + 1 : Nat) : Int) == 0) = false := by simp; omega
    have e1 : IntKind.i64.wrap (((n + 1 : Nat) : Int) - 1) = (n : Int) := by rw [show (((n + 1 : Nat) : Int) - 1) = (n : Int) by omega]; exact IntWalk.i64_in _ (by omega)
    have i0 : (0 : Int) ≤ (n : Int) := Int.natCast_nonneg _
    have i1 : (n : Int) < ((n + 1 : Nat) : Int) := by omega
    rw [hnl] at p0 hc
    clear h hx hB hx0 hnl hn
    go_enter Tryz.func231, Tryz.ntmps231
    go_wp2_with fail
    go_quiet (fail)
    go_wp2_with fail
    go_ret
    rw [HR.out]
    exact ⟨rfl, by (repeat' (first | (with_reducible exact Below.refl _ _) | (with_reducible assumption) | (with_reducible refine Below.alloc ?_ ?_ _) | (with_reducible refine Below.drew ?_) | (with_reducible refine drewN_below ?_) | (with_reducible refine Below.setCell ?_ ?_ _) | go_size)), rfl⟩
set_option maxHeartbeats 1000000 in
theorem lineLift_yes (B : Nat) (q k : Int) (l : List Int) (la : Option Addr) (lc : Nat) (cv : Value) (w : World) (S : Nat → Prop) (h : IntsR false w S (.slice la l.length lc) l) (hB : w.heap[B]? = some (.cells #[.int .i64 q, .slice la l.length lc, .int .i64 k, cv] 42)) (hne : l ≠ []) (hl : 0 ≤ lastF l) :
    Calls Tryz.prog 186 #[.pointer (some ⟨B, 0, none⟩)] w fun e w' => e = .returned (.bool true) ∧ ∃ w1, w1.heap = w.heap ∧ Below w.heap.size w w1 ∧ w' = w1.setCell ⟨B, 1, none⟩ (.slice la (l.length - 1) (l.length - 1)) := by
  have HC := Lib.hid (lineLast_any B q k l la lc cv w S h hB)
  obtain ⟨a, c, he, hc, hm, hx⟩ := ints_shape h
  cases he
  obtain ⟨n, hnl⟩ : ∃ n, l.length = n + 1 := ⟨l.length - 1, by have := List.length_pos_iff.2 hne; omega⟩
  obtain ⟨x, hx0, _⟩ := getOf l n (by omega)
  obtain ⟨b, o, rfl, hz, c0⟩ := hx n x hx0
  obtain ⟨r, hr⟩ : ∃ r, lastF l = r := ⟨_, rfl⟩
  rw [hr] at HC hl
  unfold maxLen at hm
  have HN : Hid (l.length - 1 = n) := Lib.hid (by omega)
  have hr0 : ¬ r < 0 := by omega
  have HBB := Lib.hid hB
  rw [HN.out]
  rw [hnl] at hc HBB
  clear h hx hB hx0 hnl hne hr hl c0 hz HN
  have n0 : (0 : Int) ≤ (n : Int) := Int.natCast_nonneg _
  have n1 : (n : Int) ≤ lc := by omega
  have n2 : n ≤ lc := by omega
  have n3 : ((n : Int)).toNat = n := Int.toNat_natCast _
  go_enter Tryz.func186, Tryz.ntmps186
  go_wp2_with (go_at_call 231; refine HC.out.mono ?_; rintro e w1 ⟨rfl, hb1, hh1⟩; have HW1 := Lib.hid (And.intro hb1 hh1); have HB1 : Hid (w1.heap[B]? = _) := Lib.hid (hh1 ▸ HBB.out); clear hb1 hh1; obtain ⟨p0, f0⟩ := blk HB1.out)
  go_ret
  exact ⟨rfl, w1, HW1.out.2, HW1.out.1, rfl⟩
set_option maxHeartbeats 1000000 in
theorem lineLift_no (B : Nat) (q k : Int) (l : List Int) (la : Option Addr) (lc : Nat) (cv : Value) (w : World) (S : Nat → Prop) (h : IntsR false w S (.slice la l.length lc) l) (hB : w.heap[B]? = some (.cells #[.int .i64 q, .slice la l.length lc, .int .i64 k, cv] 42)) (hl : lastF l < 0) :
    Calls Tryz.prog 186 #[.pointer (some ⟨B, 0, none⟩)] w fun e w' => e = .returned (.bool false) ∧ Below w.heap.size w w' ∧ w'.heap = w.heap := by
  have HC := Lib.hid (lineLast_any B q k l la lc cv w S h hB)
  obtain ⟨r, hr⟩ : ∃ r, lastF l = r := ⟨_, rfl⟩
  rw [hr] at HC hl
  clear h hB hr
  go_enter Tryz.func186, Tryz.ntmps186
  go_wp2_with (go_at_call 231; refine HC.out.mono ?_; rintro e w1 ⟨rfl, hb1, hh1⟩; have HW1 := Lib.hid (And.intro hb1 hh1); clear hb1 hh1)
  go_ret
  exact ⟨rfl, HW1.out.1, HW1.out.2⟩
end Go.Proofs.YtpndnbjpnajaaaaGreatDoor
namespace Go.Proofs.Qw
open Go.RowKit Go.Proofs.YtpndnbjpnajaaaaGreatDoor
def outdentL (l : Lin) : Option Lin := if l.lists ≠ [] then some { l with lists := l.lists.dropLast } else if 0 < l.quote then some { l with quote := l.quote - 1 } else none
def freeL (l : Lin) : Option Lin := if l.lists ≠ [] then some { l with lists := l.lists.dropLast } else if 0 < l.kind then some { l with kind := 0 } else if 0 < l.quote then some { l with quote := l.quote - 1 } else none
end Go.Proofs.Qw
namespace Go.Proofs.YtpndnbjpnajaaaaGreatDoor
open Go.RowKit
open Go.Proofs.Qw
attribute [local go_sem] Oper.semAt_some
theorem mayL_facts {l : Lin} (h : mayL l = true) : 0 ≤ l.quote ∧ l.quote ≤ 6 ∧ l.lists.length ≤ 6 ∧ 0 ≤ l.kind ∧ l.kind ≤ 3 ∧ (l.lists = [] ∨ l.kind = 0) ∧ (∀ k ∈ l.lists, k = 0 ∨ k = 1) ∧ mayCs l.cells = true := by
  unfold mayL at h
  simp only [Bool.and_eq_true, Bool.or_eq_true, decide_eq_true_eq, List.all_eq_true] at h
  obtain ⟨⟨⟨⟨⟨⟨⟨h1, h2⟩, h3⟩, h4⟩, h5⟩, h6⟩, h7⟩, h8⟩ := h
  exact ⟨h1, h2, h3, h4, h5, h6, h7, h8⟩
theorem lastF_yes {l : Lin} (h : mayL l = true) (hne : l.lists ≠ []) : 0 ≤ lastF l.lists := by
  obtain ⟨_, _, _, _, _, _, h7, _⟩ := mayL_facts h
  unfold lastF
  rw [List.getLastD_eq_getLast?, List.getLast?_eq_some_getLast hne]
  rcases h7 _ (List.getLast_mem hne) with e | e <;> simp [e]
def TurnPost (B : Nat) (l : Lin) (la : Option Addr) (lc : Nat) (cv : Value) (w : World) (r : Option Lin) (e : Ending) (w' : World) : Prop :=
  e = .returned (.bool r.isSome) ∧ (∃ q k n c, w'.heap[B]? = some (.cells #[.int .i64 q, .slice la n c, .int .i64 k, cv] 42) ∧ ∀ l', r = some l' → l'.quote = q ∧ l'.kind = k ∧ l'.lists = l.lists.take n ∧ l'.cells = l.cells ∧ n ≤ l.lists.length ∧ n ≤ c ∧ c ≤ lc) ∧
    (∀ b, b < w.heap.size → b ≠ B → w'.heap[b]? = w.heap[b]?) ∧ w.heap.size ≤ w'.heap.size ∧ Below B w w'
theorem TurnPost.mk' {B : Nat} {l : Lin} {la : Option Addr} {lc : Nat} {cv : Value} {w w1 w' : World} {r : Option Lin} {e : Ending} (he : e = .returned (.bool r.isSome)) (hB : B < w.heap.size) (h1 : Below w.heap.size w w1) (ho : ∀ b, b ≠ B → w'.heap[b]? = w1.heap[b]?) (hs : w'.heap.size = w1.heap.size) (hb : Below B w1 w')
    (q k : Int) (n c : Nat) (hq : w'.heap[B]? = some (.cells #[.int .i64 q, .slice la n c, .int .i64 k, cv] 42)) (hl : ∀ l', r = some l' → l'.quote = q ∧ l'.kind = k ∧ l'.lists = l.lists.take n ∧ l'.cells = l.cells ∧ n ≤ l.lists.length ∧ n ≤ c ∧ c ≤ lc) : TurnPost B l la lc cv w r e w' :=
  ⟨he, ⟨q, k, n, c, hq, hl⟩, fun b hbz hne => (ho b hne).trans (h1.block b hbz), by rw [hs]; exact h1.size, (h1.mono (Nat.le_of_lt hB)).trans hb⟩
set_option maxHeartbeats 1000000 in
theorem outdent1_any (B : Nat) (l : Lin) (la : Option Addr) (lc : Nat) (cv : Value) (w : World) (S : Nat → Prop) (hm : mayL l = true) (h : IntsR false w S (.slice la l.lists.length lc) l.lists) (hB : w.heap[B]? = some (.cells #[.int .i64 l.quote, .slice la l.lists.length lc, .int .i64 l.kind, cv] 42)) :
    Calls Tryz.prog 185 #[.pointer (some ⟨B, 0, none⟩)] w (TurnPost B l la lc cv w (outdentL l)) := by
  have hBz : B < w.heap.size := (Array.getElem?_eq_some_iff.1 hB).1
  obtain ⟨hq0, hq6, _⟩ := mayL_facts hm
  have hlen := h.len
  by_cases hn : l.lists = []
  · have HL := Lib.hid (lineLift_no B l.quote l.kind l.lists la lc cv w S h hB (by rw [hn]; decide))
    have HR : Hid (outdentL l = if 0 < l.quote then some { l with quote := l.quote - 1 } else none) := Lib.hid (by unfold outdentL; rw [if_neg (fun e => e hn)])
    have HB := Lib.hid hB
    have HN := Lib.hid hn
    have HE := Lib.hid hlen
    have w1 : IntKind.i64.wrap (l.quote - 1) = l.quote - 1 := IntWalk.i64_in _ (by omega)
    clear h hB hn hlen
    go_enter Tryz.func185, Tryz.ntmps185
    go_wp2_with (go_at_call 186; refine HL.out.mono ?_; rintro e w2 ⟨rfl, hb2, hh2⟩; have HW2 := Lib.hid (And.intro hb2 hh2); have HB2 : Hid (w2.heap[B]? = _) := Lib.hid (hh2 ▸ HB.out); clear hb2 hh2; obtain ⟨p0, f0⟩ := blk HB2.out)
    go_ret
    rw [HR.out]
    refine TurnPost.mk' ?_ hBz HW2.out.1 (fun b hb => by simp [heap_set, Ne.symm hb]) (by simp) (by exact Below.setCell (p := ⟨B, 0, none⟩) (Below.refl B _) (Nat.le_refl B) _) (l.quote - 1) l.kind l.lists.length lc (by simp [heap_set, putIn, HB2.out]) ?_
    · split <;> simp <;> omega
    · intro l' hl'
      split at hl'
      · cases hl'
        exact ⟨rfl, rfl, by simp, rfl, Nat.le_refl _, HE.out.2.1, Nat.le_refl _⟩
      · cases hl'
  · have HL := Lib.hid (lineLift_yes B l.quote l.kind l.lists la lc cv w S h hB hn (lastF_yes hm hn))
    have HR : Hid (outdentL l = some { l with lists := l.lists.dropLast }) := Lib.hid (by unfold outdentL; rw [if_pos hn])
    have HB := Lib.hid hB
    have HE := Lib.hid hlen
    clear h hB hn hlen
    go_enter Tryz.func185, Tryz.ntmps185
    go_wp2_with (go_at_call 186; refine HL.out.mono ?_; rintro e w2 ⟨rfl, w3, hh3, hb3, rfl⟩; have HW3 := Lib.hid (And.intro hb3 hh3); clear hb3 hh3)
    go_ret
    rw [HR.out]
    refine TurnPost.mk' rfl hBz HW3.out.1 (fun b hb => by simp [heap_set, Ne.symm hb]) (by simp) (by exact Below.setCell (p := ⟨B, 1, none⟩) (Below.refl B _) (Nat.le_refl B) _) l.quote l.kind (l.lists.length - 1) (l.lists.length - 1) (by have := HW3.out.2 ▸ HB.out; simp [heap_set, putIn, this]) ?_
    intro l' hl'
    cases hl'
    exact ⟨rfl, rfl, by rw [List.dropLast_eq_take], rfl, by omega, Nat.le_refl _, by have := HE.out; omega⟩
set_option maxHeartbeats 1000000 in
theorem free1_any (B : Nat) (l : Lin) (la : Option Addr) (lc : Nat) (cv : Value) (w : World) (S : Nat → Prop) (hm : mayL l = true) (h : IntsR false w S (.slice la l.lists.length lc) l.lists) (hB : w.heap[B]? = some (.cells #[.int .i64 l.quote, .slice la l.lists.length lc, .int .i64 l.kind, cv] 42)) :
    Calls Tryz.prog 190 #[.pointer (some ⟨B, 0, none⟩)] w (TurnPost B l la lc cv w (freeL l)) := by
  have hBz : B < w.heap.size := (Array.getElem?_eq_some_iff.1 hB).1
  obtain ⟨hq0, hq6, _, hk0, hk3, _⟩ := mayL_facts hm
  have hlen := h.len
  by_cases hn : l.lists = []
  · have HL := Lib.hid (lineLift_no B l.quote l.kind l.lists la lc cv w S h hB (by rw [hn]; decide))
    have HR : Hid (freeL l = if 0 < l.kind then some { l with kind := 0 } else if 0 < l.quote then some { l with quote := l.quote - 1 } else none) := Lib.hid (by unfold freeL; rw [if_neg (fun e => e hn)])
    have HB := Lib.hid hB
    have HN := Lib.hid hn
    have HE := Lib.hid hlen
    have w1 : IntKind.i64.wrap (l.quote - 1) = l.quote - 1 := IntWalk.i64_in _ (by omega)
    clear h hB hn hlen
    rcases (show (0 < l.kind) ∨ (¬ 0 < l.kind ∧ 0 < l.quote) ∨ (¬ 0 < l.kind ∧ ¬ 0 < l.quote) by omega) with hk | ⟨hk, hq⟩ | ⟨hk, hq⟩
    · rw [if_pos hk] at HR
      go_enter Tryz.func190, Tryz.ntmps190
      go_wp2_with (go_at_call 186; refine HL.out.mono ?_; rintro e w2 ⟨rfl, hb2, hh2⟩; have HW2 := Lib.hid (And.intro hb2 hh2); have HB2 : Hid (w2.heap[B]? = _) := Lib.hid (hh2 ▸ HB.out); clear hb2 hh2; obtain ⟨p0, f0⟩ := blk HB2.out)
      go_ret
      rw [HR.out]
      refine TurnPost.mk' rfl hBz HW2.out.1 (fun b hb => by simp [heap_set, Ne.symm hb]) (by simp) (by exact Below.setCell (p := ⟨B, 2, none⟩) (Below.refl B _) (Nat.le_refl B) _) l.quote 0 l.lists.length lc (by simp [heap_set, putIn, HB2.out]) ?_
      intro l' hl'
      cases hl'
      exact ⟨rfl, rfl, by simp, rfl, Nat.le_refl _, HE.out.2.1, Nat.le_refl _⟩
    · rw [if_neg hk, if_pos hq] at HR
      go_enter Tryz.func190, Tryz.ntmps190
      go_wp2_with (go_at_call 186; refine HL.out.mono ?_; rintro e w2 ⟨rfl, hb2, hh2⟩; have HW2 := Lib.hid (And.intro hb2 hh2); have HB2 : Hid (w2.heap[B]? = _) := Lib.hid (hh2 ▸ HB.out); clear hb2 hh2; obtain ⟨p0, f0⟩ := blk HB2.out)
      go_ret
      rw [HR.out]
      refine TurnPost.mk' rfl hBz HW2.out.1 (fun b hb => by simp [heap_set, Ne.symm hb]) (by simp) (by exact Below.setCell (p := ⟨B, 0, none⟩) (Below.refl B _) (Nat.le_refl B) _) (l.quote - 1) l.kind l.lists.length lc (by simp [heap_set, putIn, HB2.out]) ?_
      intro l' hl'
      cases hl'
      exact ⟨rfl, rfl, by simp, rfl, Nat.le_refl _, HE.out.2.1, Nat.le_refl _⟩
    · rw [if_neg hk, if_neg hq] at HR
      go_enter Tryz.func190, Tryz.ntmps190
      go_wp2_with (go_at_call 186; refine HL.out.mono ?_; rintro e w2 ⟨rfl, hb2, hh2⟩; have HW2 := Lib.hid (And.intro hb2 hh2); have HB2 : Hid (w2.heap[B]? = _) := Lib.hid (hh2 ▸ HB.out); clear hb2 hh2; obtain ⟨p0, f0⟩ := blk HB2.out)
      go_ret
      rw [HR.out]
      refine TurnPost.mk' rfl hBz HW2.out.1 (fun b _ => rfl) rfl (Below.refl _ _) l.quote l.kind l.lists.length lc HB2.out ?_
      intro l' hl'
      cases hl'
  · have HL := Lib.hid (lineLift_yes B l.quote l.kind l.lists la lc cv w S h hB hn (lastF_yes hm hn))
    have HR : Hid (freeL l = some { l with lists := l.lists.dropLast }) := Lib.hid (by unfold freeL; rw [if_pos hn])
    have HB := Lib.hid hB
    have HE := Lib.hid hlen
    clear h hB hn hlen
    go_enter Tryz.func190, Tryz.ntmps190
    go_wp2_with (go_at_call 186; refine HL.out.mono ?_; rintro e w2 ⟨rfl, w3, hh3, hb3, rfl⟩; have HW3 := Lib.hid (And.intro hb3 hh3); clear hb3 hh3)
    go_ret
    rw [HR.out]
    refine TurnPost.mk' rfl hBz HW3.out.1 (fun b hb => by simp [heap_set, Ne.symm hb]) (by simp) (by exact Below.setCell (p := ⟨B, 1, none⟩) (Below.refl B _) (Nat.le_refl B) _) l.quote l.kind (l.lists.length - 1) (l.lists.length - 1) (by have := HW3.out.2 ▸ HB.out; simp [heap_set, putIn, this]) ?_
    intro l' hl'
    cases hl'
    exact ⟨rfl, rfl, by rw [List.dropLast_eq_take], rfl, by omega, Nat.le_refl _, by have := HE.out; omega⟩
theorem results_lineE {fn : Func} {p u : Tmp} (h : fn.results = #[.cell p 42, .tmp u]) (tmps : Array Value) (w : World) (B : Nat) (x1 x2 x3 x4 : Value) (hp : tmps.getD p undef = .pointer (some ⟨B, 0, none⟩))
    (hB : w.heap[B]? = some (.cells #[x1, x2, x3, x4] 42)) :
    (results fn tmps).run Tryz.prog w = .ok (.tuple #[.agg #[x1, x2, x3, x4], tmps.getD u undef]) w := by
  have h1 := run_loadVar_row (P := Tryz.prog) w B 42 42 _ _ _ hB Tryz.underlying42 rfl (by kernel_rfl)
  have hp' : tmps[p]?.getD undef = .pointer (some ⟨B, 0, none⟩) := by simpa using hp
  simp [results, h, hp', asAddr, h1]
def TurnSaid (w : World) (r : Option Lin) (e : Ending) (w' : World) : Prop :=
  (∀ l', r = some l' → ∃ a' b', e = .returned (.tuple #[linV l' a' b', .int .i64 0]) ∧ IntsR true w' (fun b => w.heap.size ≤ b) a' l'.lists ∧ CelsR true w' (fun b => w.heap.size ≤ b) b' l'.cells) ∧
    (r = none → e = .returned (.tuple #[.agg #[.int .i64 0, .slice none 0 0, .int .i64 0, .slice none 0 0], .int .i64 7])) ∧ Below w.heap.size w w'
set_option maxRecDepth 100000 in
set_option maxHeartbeats 2000000 in
theorem turned_any (g : Nat) (T : Lin → Option Lin) (eg : ∀ args w, (callFunc g args).run Tryz.prog w = .ok (.enter g args) w)
    (HT : ∀ (B : Nat) (l : Lin) (la : Option Addr) (lc : Nat) (cv : Value) (w : World) (S : Nat → Prop), mayL l = true → IntsR false w S (.slice la l.lists.length lc) l.lists → w.heap[B]? = some (.cells #[.int .i64 l.quote, .slice la l.lists.length lc, .int .i64 l.kind, cv] 42) →
      Calls Tryz.prog g #[.pointer (some ⟨B, 0, none⟩)] w (TurnPost B l la lc cv w (T l)))
    (l : Lin) (la ca : Option Addr) (lc cc : Nat) (w w0 : World) (S : Nat → Prop) (hL : IntsR false w0 S (.slice la l.lists.length lc) l.lists) (hC : CelsR false w0 S (.slice ca l.cells.length cc) l.cells) (h0 : Below w0.heap.size w0 w)
    (he : EnvT w) (hs : l.lists.length ≤ 1000000 ∧ l.cells.length ≤ 1000000) (hh : ∀ c ∈ l.cells, c.href.length ≤ 1000000) (hm : mayL l = true) :
    Calls Tryz.prog 184 #[linV l (.slice la l.lists.length lc) (.slice ca l.cells.length cc), .func (.func g) #[] #[]] w (TurnSaid w (T l)) := by
  obtain ⟨W1, hW1, hB, hz, hA1, hA2⟩ := two_lines w (.int .i64 l.quote) (.slice la l.lists.length lc) (.int .i64 l.kind) (.slice ca l.cells.length cc) (.int .i64 0) (.slice none 0 0) (.int .i64 0) (.slice none 0 0)
  have h01 : Below w0.heap.size w0 W1 := below_from h0 hB
  have HM := Lib.hid (lineMay_any l la ca lc cc W1 w0 S hL hC (he.below hB) h01 hh)
  rw [hm] at HM
  have HO : Hid (∀ W, Below w0.heap.size w0 W → Calls Tryz.prog 181 #[linV l (.slice la l.lists.length lc) (.slice ca l.cells.length cc)] W fun e w' => ∃ a' b', e = .returned (linV l a' b') ∧ IntsR true w' (fun b => W.heap.size ≤ b) a' l.lists ∧ CelsR true w' (fun b => W.heap.size ≤ b) b' l.cells ∧ Below W.heap.size W w') := Lib.hid fun W hW => lineOwn_any l _ _ false false W w0 S hL hC hW hs
  have HG : Hid (∀ (B : Nat) (la : Option Addr) (lc : Nat) (cv : Value) (w : World) (S : Nat → Prop), IntsR false w S (.slice la l.lists.length lc) l.lists → w.heap[B]? = some (.cells #[.int .i64 l.quote, .slice la l.lists.length lc, .int .i64 l.kind, cv] 42) → Calls Tryz.prog g #[.pointer (some ⟨B, 0, none⟩)] w (TurnPost B l la lc cv w (T l))) := Lib.hid fun B la lc cv w S h1 h2 => HT B l la lc cv w S hm h1 h2
  have hs1 := hB.size
  have HB0 : Hid (∀ W, Below W1.heap.size W1 W → W.heap[w.heap.size]? = some (.cells #[.int .i64 l.quote, .slice la l.lists.length lc, .int .i64 l.kind, .slice ca l.cells.length cc] 42) ∧ W.heap[w.heap.size + 1]? = some (.cells #[.int .i64 0, .slice none 0 0, .int .i64 0, .slice none 0 0] 42)) := Lib.hid fun W hW => ⟨heap_below hW hA1, heap_below hW hA2⟩
  have H1 := Lib.hid hB
  have H01 := Lib.hid h01
  obtain ⟨p1, f1⟩ := blk hA1
  obtain ⟨p2, f2⟩ := blk hA2
  obtain ⟨r, hr⟩ : ∃ r, T l = r := ⟨_, rfl⟩
  rw [hr] at HG ⊢
  clear hL hC hs hB h0 HT hr hm he h01
  unfold linV at HO ⊢
  go_enter Tryz.func184, Tryz.ntmps184
  go_wp2_with (first | (go_at_call 160; refine HM.out.mono ?_; rintro e w2 ⟨rfl, hb2⟩; obtain ⟨hA3, hA4⟩ := HB0.out _ hb2; obtain ⟨q0, g0⟩ := blk hA3; obtain ⟨q1, g1⟩ := blk hA4) | (go_at_call 181; refine (HO.out _ (below_from H01.out hb2)).mono ?_; rintro e w3 ⟨a', b', rfl, ha', hb', hb3⟩; obtain ⟨a1, c1, rfl⟩ := ha'.slice; obtain ⟨a2, c2, rfl⟩ := hb'.slice; obtain ⟨hA5, hA6⟩ := HB0.out _ (below_from hb2 hb3); obtain ⟨p3, f3⟩ := blk hA5; obtain ⟨p4, f4⟩ := blk hA6))
  obtain ⟨Y, hY, hYB, hYs, hYo, hYb⟩ := set_four w3 w.heap.size 42 _ _ _ _ (.int .i64 l.quote) (.slice a1 l.lists.length c1) (.int .i64 l.kind) (.slice a2 l.cells.length c2) hA5
  have hx2 := below_from H1.out hb2
  have hx3 : Below w.heap.size w w3 := below_from hx2 hb3
  have hn3 : w.heap.size + 2 ≤ w2.heap.size := by have := hb2.size; omega
  have hle3 := hb3.size
  have hiY : IntsR true Y (fun b => w2.heap.size ≤ b) (.slice a1 l.lists.length c1) l.lists := SliceR.stable (rdOf_stable _) ha' (Keeps.only hYs hYo (by simp; omega)) (fun b h _ => h)
  have hcY : CelsR true Y (fun b => w2.heap.size ≤ b) (.slice a2 l.cells.length c2) l.cells := SliceR.stable (rdOf_stable _) hb' (Keeps.only hYs hYo (by simp; omega)) (fun b h _ => h)
  have hcl := hiY.len
  rw [hY]
  have hA7 : Y.heap[w.heap.size + 1]? = some (.cells #[.int .i64 0, .slice none 0 0, .int .i64 0, .slice none 0 0] 42) := (hYo _ (by omega)).trans hA6
  refine (HG.out w.heap.size a1 c1 (.slice a2 l.cells.length c2) Y (fun b => w2.heap.size ≤ b) (SliceR.read (fun _ _ h => h) hiY) hYB).mono ?_
  rintro e w4 ⟨rfl, ⟨q, k, n, c, h4, hl4⟩, ho4, hz4, hb4⟩
  have hA8 := (ho4 (w.heap.size + 1) (by omega) (by omega)).trans hA7
  have hi4 : IntsR true w4 (fun b => w2.heap.size ≤ b) (.slice a1 l.lists.length c1) l.lists := SliceR.stable (rdOf_stable _) hiY ⟨hz4, fun b hb hz => ho4 b hz (by omega)⟩ (fun b h _ => h)
  have hc4 : CelsR true w4 (fun b => w2.heap.size ≤ b) (.slice a2 l.cells.length c2) l.cells := SliceR.stable (rdOf_stable _) hcY ⟨hz4, fun b hb hz => ho4 b hz (by omega)⟩ (fun b h _ => h)
  have hx4 : Below w.heap.size w w4 := (hYb _ (Nat.le_refl _) w hx3).trans hb4
  have HI := Lib.hid hi4
  have HCC := Lib.hid hc4
  have HX4 := Lib.hid hx4
  clear hi4 hc4 hx4 hiY hcY hYB hYo hYb ha' hb' ho4 hb4 HG HO HM hx2 hx3
  obtain ⟨p5, f5⟩ := blk h4
  obtain ⟨p6, f6⟩ := blk hA8
  clear p1 f1 p2 f2 q0 g0 q1 g1 p3 f3 p4 f4 hY
  cases r with
  | none =>
    go_wp2_with fail
    refine bodyPost_ret (results_lineE rfl _ _ (w.heap.size + 1) (.int .i64 0) (.slice none 0 0) (.int .i64 0) (.slice none 0 0) rfl (by simp [heap_set, putIn, hA8])) rfl ?_
    refine ⟨fun l' h => (by cases h), fun _ => rfl, ?_⟩
    have := HX4.out
    (repeat' (first | (with_reducible exact Below.refl _ _) | (with_reducible assumption) | (with_reducible refine Below.alloc ?_ ?_ _) | (with_reducible refine Below.drew ?_) | (with_reducible refine drewN_below ?_) | (with_reducible refine Below.setCell ?_ ?_ _) | go_size))
  | some l' =>
    obtain ⟨rfl, rfl, e3, e4, e5, e6, e7⟩ := hl4 l' rfl
    have HE := Lib.hid (And.intro e3 e4)
    clear hl4 e3 e4
    go_wp2_with fail
    refine bodyPost_ret (results_lineE rfl _ _ (w.heap.size + 1) (.int .i64 l'.quote) (.slice a1 n c) (.int .i64 l'.kind) (.slice a2 l.cells.length c2) rfl (by simp [heap_set, putIn, hA8])) rfl ?_
    refine ⟨fun l'' h => ?_, fun h => (by cases h), ?_⟩
    · cases h
      refine ⟨_, _, rfl, ?_, ?_⟩
      · rw [HE.out.1]
        have hh := SliceR.caps (HI.out.take e5) (m := c) (by rw [List.length_take]; omega) e7
        exact (SliceR.stable (rdOf_stable _) hh (by (repeat' (first | (with_reducible exact Keeps.refl _ _) | (with_reducible refine Keeps.set ?_ ?_ _) | (with_reducible refine Keeps.alloc ?_ _) | (with_reducible refine Keeps.drew ?_) | (first | fail) | (simp; omega)))) (fun b h _ => (by have h' := h; (try simp at h'); omega)))
      · rw [HE.out.2]
        have hh := HCC.out
        exact (SliceR.stable (rdOf_stable _) hh (by (repeat' (first | (with_reducible exact Keeps.refl _ _) | (with_reducible refine Keeps.set ?_ ?_ _) | (with_reducible refine Keeps.alloc ?_ _) | (with_reducible refine Keeps.drew ?_) | (first | fail) | (simp; omega)))) (fun b h _ => (by have h' := h; (try simp at h'); omega)))
    · have := HX4.out
      (repeat' (first | (with_reducible exact Below.refl _ _) | (with_reducible assumption) | (with_reducible refine Below.alloc ?_ ?_ _) | (with_reducible refine Below.drew ?_) | (with_reducible refine drewN_below ?_) | (with_reducible refine Below.setCell ?_ ?_ _) | go_size))
set_option maxHeartbeats 1000000 in
theorem lineOutdent_any (l : Lin) (la ca : Option Addr) (lc cc : Nat) (w w0 : World) (S : Nat → Prop) (hL : IntsR false w0 S (.slice la l.lists.length lc) l.lists) (hC : CelsR false w0 S (.slice ca l.cells.length cc) l.cells) (h0 : Below w0.heap.size w0 w)
    (he : EnvT w) (hs : l.lists.length ≤ 1000000 ∧ l.cells.length ≤ 1000000) (hh : ∀ c ∈ l.cells, c.href.length ≤ 1000000) (hm : mayL l = true) :
    Calls Tryz.prog 114 #[linV l (.slice la l.lists.length lc) (.slice ca l.cells.length cc)] w (TurnSaid w (outdentL l)) := by
  obtain ⟨W1, hW1, hB, hz, hA1, hA2⟩ := two_lines w (.int .i64 l.quote) (.slice la l.lists.length lc) (.int .i64 l.kind) (.slice ca l.cells.length cc) (.int .i64 0) (.slice none 0 0) (.int .i64 0) (.slice none 0 0)
  have HT := Lib.hid (turned_any 185 outdentL (enters_of Tryz.func185 (by kernel_rfl) rfl) outdent1_any l la ca lc cc W1 w0 S hL hC (below_from h0 hB) (he.below hB) hs hh hm)
  have hs1 := hB.size
  have HB0 : Hid (∀ W, Below W1.heap.size W1 W → W.heap[w.heap.size]? = some (.cells #[.int .i64 l.quote, .slice la l.lists.length lc, .int .i64 l.kind, .slice ca l.cells.length cc] 42) ∧ W.heap[w.heap.size + 1]? = some (.cells #[.int .i64 0, .slice none 0 0, .int .i64 0, .slice none 0 0] 42)) := Lib.hid fun W hW => ⟨heap_below hW hA1, heap_below hW hA2⟩
  have H1 := Lib.hid hB
  obtain ⟨p1, f1⟩ := blk hA1
  obtain ⟨p2, f2⟩ := blk hA2
  obtain ⟨r, hr⟩ : ∃ r, outdentL l = r := ⟨_, rfl⟩
  rw [hr] at HT ⊢
  clear hL hC hs hB h0 hr hm he
  unfold linV at HT ⊢
  cases r with
  | none =>
    go_enter Tryz.func114, Tryz.ntmps114
    go_wp2_with (go_at_call 184; refine HT.out.mono ?_; rintro e w2 ⟨_, he2, hb2⟩; obtain rfl := he2 rfl; obtain ⟨hA3, hA4⟩ := HB0.out _ hb2; obtain ⟨q0, g0⟩ := blk hA3; obtain ⟨q1, g1⟩ := blk hA4)
    refine bodyPost_ret (results_lineE rfl _ _ (w.heap.size + 1) (.int .i64 0) (.slice none 0 0) (.int .i64 0) (.slice none 0 0) rfl (by simp [heap_set, putIn, hA4])) rfl ?_
    refine ⟨fun l' h => (by cases h), fun _ => rfl, ?_⟩
    have := H1.out.trans (hb2.mono hs1)
    (repeat' (first | (with_reducible exact Below.refl _ _) | (with_reducible assumption) | (with_reducible refine Below.alloc ?_ ?_ _) | (with_reducible refine Below.drew ?_) | (with_reducible refine drewN_below ?_) | (with_reducible refine Below.setCell ?_ ?_ _) | go_size))
  | some l' =>
    go_enter Tryz.func114, Tryz.ntmps114
    go_wp2_with (go_at_call 184; refine HT.out.mono ?_; rintro e w2 ⟨he2, _, hb2⟩; obtain ⟨a', b', rfl, ha', hb'⟩ := he2 _ rfl; obtain ⟨a1, c1, rfl⟩ := ha'.slice; obtain ⟨a2, c2, rfl⟩ := hb'.slice; obtain ⟨hA3, hA4⟩ := HB0.out _ hb2; obtain ⟨q0, g0⟩ := blk hA3; obtain ⟨q1, g1⟩ := blk hA4)
    refine bodyPost_ret (results_lineE rfl _ _ (w.heap.size + 1) (.int .i64 l'.quote) (.slice a1 l'.lists.length c1) (.int .i64 l'.kind) (.slice a2 l'.cells.length c2) rfl (by simp [heap_set, putIn, hA4])) rfl ?_
    refine ⟨fun l'' h => ?_, fun h => (by cases h), ?_⟩
    · cases h
      exact ⟨_, _, rfl, (SliceR.stable (rdOf_stable _) ha' (by (repeat' (first | (with_reducible exact Keeps.refl _ _) | (with_reducible refine Keeps.set ?_ ?_ _) | (with_reducible refine Keeps.alloc ?_ _) | (with_reducible refine Keeps.drew ?_) | (first | fail) | (simp; omega)))) (fun b h _ => (by have h' := h; (try simp at h'); omega))), (SliceR.stable (rdOf_stable _) hb' (by (repeat' (first | (with_reducible exact Keeps.refl _ _) | (with_reducible refine Keeps.set ?_ ?_ _) | (with_reducible refine Keeps.alloc ?_ _) | (with_reducible refine Keeps.drew ?_) | (first | fail) | (simp; omega)))) (fun b h _ => (by have h' := h; (try simp at h'); omega)))⟩
    · have := H1.out.trans (hb2.mono hs1)
      (repeat' (first | (with_reducible exact Below.refl _ _) | (with_reducible assumption) | (with_reducible refine Below.alloc ?_ ?_ _) | (with_reducible refine Below.drew ?_) | (with_reducible refine drewN_below ?_) | (with_reducible refine Below.setCell ?_ ?_ _) | go_size))
set_option maxHeartbeats 1000000 in
theorem lineFree_any (l : Lin) (la ca : Option Addr) (lc cc : Nat) (w w0 : World) (S : Nat → Prop) (hL : IntsR false w0 S (.slice la l.lists.length lc) l.lists) (hC : CelsR false w0 S (.slice ca l.cells.length cc) l.cells) (h0 : Below w0.heap.size w0 w)
    (he : EnvT w) (hs : l.lists.length ≤ 1000000 ∧ l.cells.length ≤ 1000000) (hh : ∀ c ∈ l.cells, c.href.length ≤ 1000000) (hm : mayL l = true) :
    Calls Tryz.prog 120 #[linV l (.slice la l.lists.length lc) (.slice ca l.cells.length cc)] w (TurnSaid w (freeL l)) := by
  obtain ⟨W1, hW1, hB, hz, hA1, hA2⟩ := two_lines w (.int .i64 l.quote) (.slice la l.lists.length lc) (.int .i64 l.kind) (.slice ca l.cells.length cc) (.int .i64 0) (.slice none 0 0) (.int .i64 0) (.slice none 0 0)
  have HT := Lib.hid (turned_any 190 freeL (enters_of Tryz.func190 (by kernel_rfl) rfl) free1_any l la ca lc cc W1 w0 S hL hC (below_from h0 hB) (he.below hB) hs hh hm)
  have hs1 := hB.size
  have HB0 : Hid (∀ W, Below W1.heap.size W1 W → W.heap[w.heap.size]? = some (.cells #[.int .i64 l.quote, .slice la l.lists.length lc, .int .i64 l.kind, .slice ca l.cells.length cc] 42) ∧ W.heap[w.heap.size + 1]? = some (.cells #[.int .i64 0, .slice none 0 0, .int .i64 0, .slice none 0 0] 42)) := Lib.hid fun W hW => ⟨heap_below hW hA1, heap_below hW hA2⟩
  have H1 := Lib.hid hB
  obtain ⟨p1, f1⟩ := blk hA1
  obtain ⟨p2, f2⟩ := blk hA2
  obtain ⟨r, hr⟩ : ∃ r, freeL l = r := ⟨_, rfl⟩
  rw [hr] at HT ⊢
  clear hL hC hs hB h0 hr hm he
  unfold linV at HT ⊢
  cases r with
  | none =>
    go_enter Tryz.func120, Tryz.ntmps120
    go_wp2_with (go_at_call 184; refine HT.out.mono ?_; rintro e w2 ⟨_, he2, hb2⟩; obtain rfl := he2 rfl; obtain ⟨hA3, hA4⟩ := HB0.out _ hb2; obtain ⟨q0, g0⟩ := blk hA3; obtain ⟨q1, g1⟩ := blk hA4)
    refine bodyPost_ret (results_lineE rfl _ _ (w.heap.size + 1) (.int .i64 0) (.slice none 0 0) (.int .i64 0) (.slice none 0 0) rfl (by simp [heap_set, putIn, hA4])) rfl ?_
    refine ⟨fun l' h => (by cases h), fun _ => rfl, ?_⟩
    have := H1.out.trans (hb2.mono hs1)
    (repeat' (first | (with_reducible exact Below.refl _ _) | (with_reducible assumption) | (with_reducible refine Below.alloc ?_ ?_ _) | (with_reducible refine Below.drew ?_) | (with_reducible refine drewN_below ?_) | (with_reducible refine Below.setCell ?_ ?_ _) | go_size))
  | some l' =>
    go_enter Tryz.func120, Tryz.ntmps120
    go_wp2_with (go_at_call 184; refine HT.out.mono ?_; rintro e w2 ⟨he2, _, hb2⟩; obtain ⟨a', b', rfl, ha', hb'⟩ := he2 _ rfl; obtain ⟨a1, c1, rfl⟩ := ha'.slice; obtain ⟨a2, c2, rfl⟩ := hb'.slice; obtain ⟨hA3, hA4⟩ := HB0.out _ hb2; obtain ⟨q0, g0⟩ := blk hA3; obtain ⟨q1, g1⟩ := blk hA4)
    refine bodyPost_ret (results_lineE rfl _ _ (w.heap.size + 1) (.int .i64 l'.quote) (.slice a1 l'.lists.length c1) (.int .i64 l'.kind) (.slice a2 l'.cells.length c2) rfl (by simp [heap_set, putIn, hA4])) rfl ?_
    refine ⟨fun l'' h => ?_, fun h => (by cases h), ?_⟩
    · cases h
      exact ⟨_, _, rfl, (SliceR.stable (rdOf_stable _) ha' (by (repeat' (first | (with_reducible exact Keeps.refl _ _) | (with_reducible refine Keeps.set ?_ ?_ _) | (with_reducible refine Keeps.alloc ?_ _) | (with_reducible refine Keeps.drew ?_) | (first | fail) | (simp; omega)))) (fun b h _ => (by have h' := h; (try simp at h'); omega))), (SliceR.stable (rdOf_stable _) hb' (by (repeat' (first | (with_reducible exact Keeps.refl _ _) | (with_reducible refine Keeps.set ?_ ?_ _) | (with_reducible refine Keeps.alloc ?_ _) | (with_reducible refine Keeps.drew ?_) | (first | fail) | (simp; omega)))) (fun b h _ => (by have h' := h; (try simp at h'); omega)))⟩
    · have := H1.out.trans (hb2.mono hs1)
      (repeat' (first | (with_reducible exact Below.refl _ _) | (with_reducible assumption) | (with_reducible refine Below.alloc ?_ ?_ _) | (with_reducible refine Below.drew ?_) | (with_reducible refine drewN_below ?_) | (with_reducible refine Below.setCell ?_ ?_ _) | go_size))
end Go.Proofs.YtpndnbjpnajaaaaGreatDoor
namespace Go.Proofs.YtpndnbjpnajaaaaGreatDoor
open Go.RowKit
open Go.Proofs.Qw
def insertC (cs : List Cel) (p : Nat) (more : List Cel) : List Cel := cs.take p ++ more ++ cs.drop p
theorem cels_from {w : World} {S : Nat → Prop} {a : Option Addr} {n c p : Nat} {xs : List Cel} (h : CelsR false w S (.slice a n c) xs) (hp : p ≤ xs.length) :
    ∃ X, CelsR false w S (.slice X (xs.length - p) (c - p)) (xs.drop p) ∧ ((c = p ∧ a = X) ∨ (¬ c = p ∧ a.map (·.add (p * 3)) = X)) := by
  obtain ⟨_, h2, h3⟩ := h.len
  have := SliceR.part h (i := p) (j := xs.length) (m := c) hp (Nat.le_refl _) h2 (Nat.le_refl _)
  rw [List.take_of_length_le (by rw [List.length_drop]; omega)] at this
  by_cases hcp : c = p
  · exact ⟨a, by simpa only [sliced, if_pos hcp] using this, .inl ⟨hcp, rfl⟩⟩
  · exact ⟨_, by simpa only [sliced, if_neg hcp] using this, .inr ⟨hcp, rfl⟩⟩
set_option maxRecDepth 100000 in
set_option maxHeartbeats 4000000 in
theorem cellsInsert_any (ca vb : Option Addr) (cc vc p : Nat) (cs more : List Cel) (w w0 w1 : World) (S S2 : Nat → Prop) (o1 o2 : Bool) (h' : CelsR o1 w0 S (.slice ca cs.length cc) cs) (hm' : CelsR o2 w1 S2 (.slice vb more.length vc) more)
    (h0 : Below w0.heap.size w0 w) (h1 : Below w1.heap.size w1 w) (hp : p ≤ cs.length) (hs : cs.length ≤ 1000000) (hs2 : more.length ≤ 1000000) :
    Calls Tryz.prog 195 #[.slice ca cs.length cc, .int .i64 p, .slice vb more.length vc] w (CellsSaid (insertC cs p more) 0 w) := by
  have h : CelsR false w (fun _ => True) (.slice ca cs.length cc) cs := SliceR.stable (rdOf_stable _) (SliceR.read (fun _ _ h => h) h') (.all h0) (fun _ _ _ => trivial)
  have hm : CelsR false w (fun _ => True) (.slice vb more.length vc) more := SliceR.stable (rdOf_stable _) (SliceR.read (fun _ _ h => h) hm') (.all h1) (fun _ _ _ => trivial)
  have HC1 := Lib.hid (cellsSpan_any _ cs p p w (fun _ => True) false h)
  have hsp : spanC cs.length p p = true := by unfold spanC; simp; omega
  rw [hsp] at HC1
  obtain ⟨_, hccl, hccm⟩ := h.len
  obtain ⟨X, hX, hcq⟩ := cels_from h hp
  have hHC : ∀ W, Below w.heap.size w W → ∀ g, W.heap[g]? = some (.cells #[.slice ca p cc, .slice vb more.length vc, .slice X (cs.length - p) (cc - p)] 40) → Calls Tryz.prog 193 #[.slice (some ⟨g, 0, none⟩) 3 3] W fun e w' => ∃ v', e = .returned v' ∧ CelsR true w' (fun b => W.heap.size ≤ b) v' (insertC cs p more) ∧ Below W.heap.size W w' := by
    intro W hW g hg
    have ha := (SliceR.below (rdOf_stable _) h hW).take (i := p) hp
    have hb := SliceR.below (rdOf_stable _) hm hW
    have hc := SliceR.below (rdOf_stable _) hX hW
    have := concatCell_any g 3 #[.slice ca p cc, .slice vb more.length vc, .slice X (cs.length - p) (cc - p)] [cs.take p, more, cs.drop p] W (fun _ => True) hg (fun k xs hk => by
      match k, hk with
      | 0, hk => cases hk; exact ⟨_, rfl, ha⟩
      | 1, hk => cases hk; exact ⟨_, rfl, hb⟩
      | 2, hk => cases hk; exact ⟨_, rfl, hc⟩) (by simp [lens]; omega) (by simp) rfl
    simpa [insertC] using this
  have HC := Lib.hid hHC
  have hBd : ∀ X, Below w.heap.size w (w.alloc X).drew := fun X => ((Below.refl _ _).alloc (Nat.le_refl _) X).drew
  unfold maxLen at hccm
  have u0 : (0 : Int) ≤ (p : Int) := Int.natCast_nonneg _
  have u1 : (p : Int) ≤ (cc : Int) := by omega
  have u2 : (p : Int) ≤ (cs.length : Int) := by omega
  clear h hm h' hm' hX hHC hsp
  rcases hcq with ⟨rfl, rfl⟩ | ⟨hcq, rfl⟩
  · rw [Nat.sub_self, show cs.length - cc = 0 by omega] at HC
    go_enter Tryz.func195, Tryz.ntmps195
    go_wp2_with (go_at_call 200; refine HC1.out.mono ?_; rintro e w2 ⟨rfl, rfl⟩)
    go_region_held3 (fun _ => True) (trivial) ((go_at_call 193; refine (HC.out _ (hBd _) _ (heap_new _ _ rfl)).mono ?_; rintro e w5 ⟨v5, rfl, hv5, hb5⟩; obtain ⟨a5, c5, hv5e⟩ := hv5.slice; subst hv5e))
    go_wp2_with fail
    go_ret2
    exact ⟨_, rfl, SliceR.stable (rdOf_stable _) hv5 (Keeps.refl _ _) (fun b h _ => Nat.le_trans (hBd _).size h), below_from (hBd _) hb5⟩
  · skip
    go_enter Tryz.func195, Tryz.ntmps195
    go_wp2_with (go_at_call 200; refine HC1.out.mono ?_; rintro e w2 ⟨rfl, rfl⟩)
    go_region_held3 (fun _ => True) (trivial) ((go_at_call 193; refine (HC.out _ (hBd _) _ (heap_new _ _ rfl)).mono ?_; rintro e w5 ⟨v5, rfl, hv5, hb5⟩; obtain ⟨a5, c5, hv5e⟩ := hv5.slice; subst hv5e))
    go_wp2_with fail
    go_ret2
    exact ⟨_, rfl, SliceR.stable (rdOf_stable _) hv5 (Keeps.refl _ _) (fun b h _ => Nat.le_trans (hBd _).size h), below_from (hBd _) hb5⟩
end Go.Proofs.YtpndnbjpnajaaaaGreatDoor
