/- What styling does: styling.Toggle, Link, Plain; slices.Contains of numbers. -/
import Derived.Test.YtpndnbjpnajaaaaGreatDoorCellsInsertU
import Derived.Test.YtpndnbjpnajaaaaGreatDoorDocPartU
import Derived.Test.YtpndnbjpnajaaaaGreatDoorOpenMoreU
import Derived.Test.YtpndnbjpnajaaaaGreatDoorRefTargetU
set_option linter.unusedVariables false
set_option linter.unusedSimpArgs false
namespace Go.Proofs.YtpndnbjpnajaaaaGreatDoor
open Go.RowKit
open Go.Proofs.Qw
attribute [local go_sem] Oper.semAt_some
set_option maxHeartbeats 1000000 in
theorem containsInts_any (v : Value) (d : List Int) (t : Int) (w : World) (S : Nat → Prop) (h : IntsR false w S v d) :
  Calls Tryz.prog 94 #[v, .int .i64 t] w fun e w' => e = .returned (.bool (d.any fun x => x == t)) ∧ w' = w := by
 have HC : Hid (Calls Tryz.prog 163 #[v, .int .i64 t] w fun e w' => ∃ r : Int, e = .returned (.int .i64 r) ∧ decide (0 ≤ r) = (d.any fun x => x == t) ∧ w' = w) := Lib.hid (by
  obtain ⟨a, c, rfl, hc, hm, hx⟩ := ints_shape h
  have HX := Lib.hid hx
  clear hx h
  unfold maxLen at hm
  go_enter Tryz.func163, Tryz.ntmps163
  go_wp2_with fail
  go_loopw [5, 8] (fun _ i wr => ∃ k : Nat, k ≤ d.length ∧ i = .int .i64 k ∧ Hid ((d.any fun x => x == t) = ((d.drop k).any fun x => x == t)) ∧ w = wr) (fun _ i _ => d.length - (intOf i).toNat)
  case atStart => exact ⟨0, Nat.zero_le _, rfl, Lib.hid rfl, rfl⟩
  case round =>
   obtain ⟨k, hk, rfl, HK, rfl⟩ := hrel
   have k0 : (0 : Int) ≤ (k : Int) := Int.natCast_nonneg _
   by_cases hlt : k < d.length
   ·obtain ⟨x, hx, hd⟩ := getOf d k hlt
    obtain ⟨b, o, rfl, hz, c0⟩ := HX.out k x hx
    rw [hd, List.any_cons] at HK
    cases hq : x == t
    ·have hq' : (t == x) = false := by rw [Bool.beq_comm]; exact hq
     rw [hq, Bool.false_or] at HK
     clear hx hd
     go_wp2_with fail
     go_roundw
     case rel => exact ⟨k + 1, hlt, by go_num, HK, by simp⟩
     case measure => simp [intOf]; omega
    ·have hq' : (t == x) = true := by rw [Bool.beq_comm]; exact hq
     rw [hq, Bool.true_or] at HK
     clear hx hd
     go_wp2_with fail
     go_ret
     exact ⟨k, rfl, by rw [HK.out]; exact decide_eq_true k0, rfl⟩
   ·obtain rfl : k = d.length := by omega
    rw [List.drop_length] at HK
    go_wp2_with fail
    go_ret
    exact ⟨-1, rfl, by rw [HK.out]; rfl, rfl⟩)
 obtain ⟨a, c, rfl⟩ := h.slice
 clear h
 generalize (d.any fun x => x == t) = R at *
 go_enter Tryz.func94, Tryz.ntmps94
 go_wp2_with (go_at_call 163; refine HC.out.mono ?_; rintro e w1 ⟨r, rfl, hr, rfl⟩; have HRR := Lib.hid hr; clear hr)
 go_ret
 rw [← HRR.out]
 exact ⟨rfl, rfl⟩
theorem four_any (t : Int) : ([1, 2, 4, 8].any fun x => x == t) = four t := by
 unfold four
 rw [Bool.eq_iff_iff]
 simp only [List.any_cons, List.any_nil, Bool.or_eq_true, beq_iff_eq, decide_eq_true_eq, Bool.or_false]
 omega
set_option maxRecDepth 100000 in
set_option maxHeartbeats 2000000 in
theorem styToggle1_any (Bt : Nat) (v : Value) (d : Doc) (a b : Ps) (t : Int) (w : World) (S : Nat → Prop) (h : LinsR w S v d) (he : EnvT w) (hs : Small d) (hf : Fits d) (ht : w.heap[Bt]? = some (.cells #[.int .i64 t] 3)) :
  Calls Tryz.prog 96 #[v, posV a, posV b, .pointer (some ⟨Bt, 0, none⟩)] w (DocSaid (if allL (cellsD d a b) t = true then setD 0 t d a b else setD t 0 d a b) w) := by
 obtain ⟨W1, hW1, hB, hz, k0, k1⟩ := two_pos w (.int .i64 a.line) (.int .i64 a.col) (.int .i64 b.line) (.int .i64 b.col)
 have kt := heap_below hB ht
 have HB : Hid (∀ W, Below W1.heap.size W1 W → W.heap[w.heap.size]? = some (.cells #[.int .i64 a.line, .int .i64 a.col] 24) ∧ W.heap[w.heap.size + 1]? = some (.cells #[.int .i64 b.line, .int .i64 b.col] 24) ∧ W.heap[Bt]? = some (.cells #[.int .i64 t] 3)) := Lib.hid fun W hW => ⟨heap_below hW k0, heap_below hW k1, heap_below hW kt⟩
 have hs1 := hB.size
 have H1 := Lib.hid hB
 have hw0 : Below W1.heap.size W1 W1 := Below.refl _ _
 have HV : Hid (∀ W, Below W1.heap.size W1 W → LinsR W S v d) := Lib.hid fun W hW => h.below (rdLin_stable _) (hB.trans (hW.mono hs1))
 have HE : Hid (∀ W, Below W1.heap.size W1 W → EnvT W) := Lib.hid fun W hW => (he.below hB).below hW
 have HAl : Hid (∀ W, Below W1.heap.size W1 W → Calls Tryz.prog 81 #[v, .agg #[.int .i64 a.line, .int .i64 a.col], .agg #[.int .i64 b.line, .int .i64 b.col], .int .i64 t] W fun e w' => e = .returned (.bool (allL (cellsD d a b) t)) ∧ Below W.heap.size W w') := Lib.hid fun W hW => by
  have := docAll_any v d a b t W S _ rfl (HV.out W hW) (HE.out W hW) hs
  rw [all_count'] at this
  exact this
 have HSe : Hid (∀ (x y : Int) W, Below W1.heap.size W1 W → Calls Tryz.prog 97 #[v, .agg #[.int .i64 a.line, .int .i64 a.col], .agg #[.int .i64 b.line, .int .i64 b.col], .int .i64 x, .int .i64 y] W (DocSaid (setD x y d a b) W)) := Lib.hid fun x y W hW => docSet_any v d a b x y W S (HV.out W hW) (HE.out W hW) hs hf
 have HP : Hid (∀ p : Ps, posV p = .agg #[.int .i64 p.line, .int .i64 p.col]) := Lib.hid fun _ => rfl
 obtain ⟨p0, f0⟩ := blk k0
 obtain ⟨p1, f1⟩ := blk k1
 obtain ⟨p2, f2⟩ := blk kt
 obtain ⟨va, vc, rfl⟩ := h.slice
 rw [HP.out a, HP.out b]
 generalize allL (cellsD d a b) t = r at *
 clear h he hs hf k0 k1 kt ht hB
 cases r
 ·rw [if_neg (by simp)]
  go_enter Tryz.func96, Tryz.ntmps96
  go_wp2_with (first
   | (go_at_call 81; refine (HAl.out _ hw0).mono ?_; rintro e w2 ⟨rfl, hst2⟩; have hb2 := below_from hw0 hst2; obtain ⟨q0, g0⟩ := blk (HB.out _ hb2).1; obtain ⟨q1, g1⟩ := blk (HB.out _ hb2).2.1; obtain ⟨q2, g2⟩ := blk (HB.out _ hb2).2.2)
   | (go_at_call 97; refine (HSe.out _ _ _ hb2).mono ?_; intro e w3 hsaid; have hsaid := DocSaid.from hsaid (H1.out.trans (hb2.mono hs1)); obtain ⟨v3, rfl, hv3, hb3⟩ := hsaid))
  go_ret2
  exact ⟨_, rfl, hv3, hb3⟩
 ·rw [if_pos rfl]
  go_enter Tryz.func96, Tryz.ntmps96
  go_wp2_with (first
   | (go_at_call 81; refine (HAl.out _ hw0).mono ?_; rintro e w2 ⟨rfl, hst2⟩; have hb2 := below_from hw0 hst2; obtain ⟨q0, g0⟩ := blk (HB.out _ hb2).1; obtain ⟨q1, g1⟩ := blk (HB.out _ hb2).2.1; obtain ⟨q2, g2⟩ := blk (HB.out _ hb2).2.2)
   | (go_at_call 97; refine (HSe.out _ _ _ hb2).mono ?_; intro e w3 hsaid; have hsaid := DocSaid.from hsaid (H1.out.trans (hb2.mono hs1)); obtain ⟨v3, rfl, hv3, hb3⟩ := hsaid))
  go_ret2
  exact ⟨_, rfl, hv3, hb3⟩
set_option maxRecDepth 100000 in
set_option maxHeartbeats 2000000 in
theorem styLink1_any (Bt : Nat) (v : Value) (d : Doc) (a b : Ps) (hr : List UInt8) (w : World) (S : Nat → Prop) (h : LinsR w S v d) (he : EnvT w) (hs : Small d) (hf : Fits d) (hh : hr.length ≤ 1000000) (ht : w.heap[Bt]? = some (.cells #[.string ⟨hr.toArray⟩] 9)) :
  Calls Tryz.prog 98 #[v, posV a, posV b, .pointer (some ⟨Bt, 0, none⟩)] w (DocSaid (if targetF hr = true then linkD hr d a b else ([], 1)) w) := by
 obtain ⟨W1, hW1, hB, hz, k0, k1⟩ := two_pos w (.int .i64 a.line) (.int .i64 a.col) (.int .i64 b.line) (.int .i64 b.col)
 have kt := heap_below hB ht
 have HB : Hid (∀ W, Below W1.heap.size W1 W → W.heap[w.heap.size]? = some (.cells #[.int .i64 a.line, .int .i64 a.col] 24) ∧ W.heap[w.heap.size + 1]? = some (.cells #[.int .i64 b.line, .int .i64 b.col] 24) ∧ W.heap[Bt]? = some (.cells #[.string ⟨hr.toArray⟩] 9)) := Lib.hid fun W hW => ⟨heap_below hW k0, heap_below hW k1, heap_below hW kt⟩
 have hs1 := hB.size
 have H1 := Lib.hid hB
 have hw0 : Below W1.heap.size W1 W1 := Below.refl _ _
 have HV : Hid (∀ W, Below W1.heap.size W1 W → LinsR W S v d) := Lib.hid fun W hW => h.below (rdLin_stable _) (hB.trans (hW.mono hs1))
 have HE : Hid (∀ W, Below W1.heap.size W1 W → EnvT W) := Lib.hid fun W hW => (he.below hB).below hW
 have HAl : Hid (∀ W, Below W1.heap.size W1 W → Calls Tryz.prog 99 #[.string ⟨hr.toArray⟩] W fun e w' => e = .returned (.bool (targetF hr)) ∧ Below W.heap.size W w') := Lib.hid fun W hW => target_any ⟨hr.toArray⟩ W (HE.out W hW) (by show hr.toArray.size ≤ _; simpa using hh)
 have HSe : Hid (∀ W, Below W1.heap.size W1 W → Calls Tryz.prog 100 #[v, .agg #[.int .i64 a.line, .int .i64 a.col], .agg #[.int .i64 b.line, .int .i64 b.col], .string ⟨hr.toArray⟩] W (DocSaid (linkD hr d a b) W)) := Lib.hid fun W hW => docLink_any v d a b hr W S (HV.out W hW) (HE.out W hW) hs hf hh
 have HP : Hid (∀ p : Ps, posV p = .agg #[.int .i64 p.line, .int .i64 p.col]) := Lib.hid fun _ => rfl
 obtain ⟨p0, f0⟩ := blk k0
 obtain ⟨p1, f1⟩ := blk k1
 obtain ⟨p2, f2⟩ := blk kt
 obtain ⟨va, vc, rfl⟩ := h.slice
 rw [HP.out a, HP.out b]
 generalize targetF hr = r at *
 clear h he hs hf hh k0 k1 kt ht hB
 cases r
 ·rw [if_neg (by simp)]
  go_enter Tryz.func98, Tryz.ntmps98
  go_wp2_with ((go_at_call 99; refine (HAl.out _ hw0).mono ?_; rintro e w2 ⟨rfl, hst2⟩; have hb2 := below_from hw0 hst2; skip))
  go_ret2
  exact ⟨_, rfl, SliceR.nil _ _ _ _ _ _, H1.out.trans (hb2.mono hs1)⟩
 ·rw [if_pos rfl]
  go_enter Tryz.func98, Tryz.ntmps98
  go_wp2_with (first
   | (go_at_call 99; refine (HAl.out _ hw0).mono ?_; rintro e w2 ⟨rfl, hst2⟩; have hb2 := below_from hw0 hst2; obtain ⟨q0, g0⟩ := blk (HB.out _ hb2).1; obtain ⟨q1, g1⟩ := blk (HB.out _ hb2).2.1; obtain ⟨q2, g2⟩ := blk (HB.out _ hb2).2.2)
   | (go_at_call 100; refine (HSe.out _ hb2).mono ?_; intro e w3 hsaid; have hsaid := DocSaid.from hsaid (H1.out.trans (hb2.mono hs1)); obtain ⟨v3, rfl, hv3, hb3⟩ := hsaid))
  go_ret2
  exact ⟨_, rfl, hv3, hb3⟩
set_option maxRecDepth 100000 in
set_option maxHeartbeats 2000000 in
theorem styPlain1_any (v : Value) (d : Doc) (a b : Ps) (w : World) (S : Nat → Prop) (h : LinsR w S v d) (he : EnvT w) (hs : Small d) (hf : Fits d) :
  Calls Tryz.prog 101 #[v, posV a, posV b] w (DocSaid (if someL (cellsD d a b) 15 = true then setD 0 15 d a b else ([], 7)) w) := by
 obtain ⟨W1, hW1, hB, hz, k0, k1⟩ := two_pos w (.int .i64 a.line) (.int .i64 a.col) (.int .i64 b.line) (.int .i64 b.col)
 have HB : Hid (∀ W, Below W1.heap.size W1 W → W.heap[w.heap.size]? = some (.cells #[.int .i64 a.line, .int .i64 a.col] 24) ∧ W.heap[w.heap.size + 1]? = some (.cells #[.int .i64 b.line, .int .i64 b.col] 24)) := Lib.hid fun W hW => ⟨heap_below hW k0, heap_below hW k1⟩
 have hs1 := hB.size
 have H1 := Lib.hid hB
 have hw0 : Below W1.heap.size W1 W1 := Below.refl _ _
 have HV : Hid (∀ W, Below W1.heap.size W1 W → LinsR W S v d) := Lib.hid fun W hW => h.below (rdLin_stable _) (hB.trans (hW.mono hs1))
 have HE : Hid (∀ W, Below W1.heap.size W1 W → EnvT W) := Lib.hid fun W hW => (he.below hB).below hW
 have HAl : Hid (∀ W, Below W1.heap.size W1 W → Calls Tryz.prog 80 #[v, .agg #[.int .i64 a.line, .int .i64 a.col], .agg #[.int .i64 b.line, .int .i64 b.col], .int .i64 15] W fun e w' => e = .returned (.bool (someL (cellsD d a b) 15)) ∧ Below W.heap.size W w') := Lib.hid fun W hW => by
  have := docSome_any v d a b 15 W S _ rfl (HV.out W hW) (HE.out W hW) hs
  rw [any_count'] at this
  exact this
 have HSe : Hid (∀ W, Below W1.heap.size W1 W → Calls Tryz.prog 97 #[v, .agg #[.int .i64 a.line, .int .i64 a.col], .agg #[.int .i64 b.line, .int .i64 b.col], .int .i64 0, .int .i64 15] W (DocSaid (setD 0 15 d a b) W)) := Lib.hid fun W hW => docSet_any v d a b 0 15 W S (HV.out W hW) (HE.out W hW) hs hf
 have HP : Hid (∀ p : Ps, posV p = .agg #[.int .i64 p.line, .int .i64 p.col]) := Lib.hid fun _ => rfl
 obtain ⟨p0, f0⟩ := blk k0
 obtain ⟨p1, f1⟩ := blk k1
 obtain ⟨va, vc, rfl⟩ := h.slice
 rw [HP.out a, HP.out b]
 generalize someL (cellsD d a b) 15 = r at *
 clear h he hs hf k0 k1 hB
 cases r
 ·rw [if_neg (by simp)]
  go_enter Tryz.func101, Tryz.ntmps101
  go_wp2_with ((go_at_call 80; refine (HAl.out _ hw0).mono ?_; rintro e w2 ⟨rfl, hst2⟩; have hb2 := below_from hw0 hst2; skip))
  go_ret2
  exact ⟨_, rfl, SliceR.nil _ _ _ _ _ _, H1.out.trans (hb2.mono hs1)⟩
 ·rw [if_pos rfl]
  go_enter Tryz.func101, Tryz.ntmps101
  go_wp2_with (first
   | (go_at_call 80; refine (HAl.out _ hw0).mono ?_; rintro e w2 ⟨rfl, hst2⟩; have hb2 := below_from hw0 hst2; obtain ⟨q0, g0⟩ := blk (HB.out _ hb2).1; obtain ⟨q1, g1⟩ := blk (HB.out _ hb2).2)
   | (go_at_call 97; refine (HSe.out _ hb2).mono ?_; intro e w3 hsaid; have hsaid := DocSaid.from hsaid (H1.out.trans (hb2.mono hs1)); obtain ⟨v3, rfl, hv3, hb3⟩ := hsaid))
  go_ret2
  exact ⟨_, rfl, hv3, hb3⟩
theorem st_val_st (w : World) (v : Value) (s : St) (u : Value) (t : TypeId) : ∃ W1, ((w.alloc (.cells #[v, .int .i64 s.anc.line, .int .i64 s.anc.col, .int .i64 s.foc.line, .int .i64 s.foc.col, .int .i64 s.on, .int .i64 s.off] 26)).alloc (.cells #[u] t)).alloc (.cells #[.slice none 0 0, .int .i64 0, .int .i64 0, .int .i64 0, .int .i64 0, .int .i64 0, .int .i64 0] 26) = W1 ∧ Below w.heap.size w W1 ∧ w.heap.size + 3 = W1.heap.size ∧
  W1.heap[w.heap.size]? = some (.cells #[v, .int .i64 s.anc.line, .int .i64 s.anc.col, .int .i64 s.foc.line, .int .i64 s.foc.col, .int .i64 s.on, .int .i64 s.off] 26) ∧ W1.heap[w.heap.size + 1]? = some (.cells #[u] t) ∧ W1.heap[w.heap.size + 2]? = some (.cells #[.slice none 0 0, .int .i64 0, .int .i64 0, .int .i64 0, .int .i64 0, .int .i64 0, .int .i64 0] 26) :=
 ⟨_, rfl, below3 (Below.refl _ _) _ _ _, by simp, heap_old _ _ (heap_old _ _ (heap_new _ _ rfl)), heap_old _ _ (heap_new _ _ (by simp)), heap_new _ _ (by simp)⟩
set_option maxRecDepth 100000 in
set_option maxHeartbeats 2000000 in
theorem styLink_any (v : Value) (s : St) (hr : List UInt8) (w : World) (S : Nat → Prop) (h : LinsR w S v s.lines) (he : EnvT w) (hs : Small s.lines) (hf : Fits s.lines) (hh : hr.length ≤ 1000000) :
  Calls Tryz.prog 30 #[stV v s, .string ⟨hr.toArray⟩] w (StSaid (changedS s (linkL s hr)) w) := by
 obtain ⟨W1, hW1, hB, hz, k0, k1, k2⟩ := st_val_st w v s (.string ⟨hr.toArray⟩) 9
 have HB : Hid (∀ W, Below W1.heap.size W1 W → W.heap[w.heap.size]? = some (.cells #[v, .int .i64 s.anc.line, .int .i64 s.anc.col, .int .i64 s.foc.line, .int .i64 s.foc.col, .int .i64 s.on, .int .i64 s.off] 26) ∧ W.heap[w.heap.size + 2]? = some (.cells #[.slice none 0 0, .int .i64 0, .int .i64 0, .int .i64 0, .int .i64 0, .int .i64 0, .int .i64 0] 26)) := Lib.hid fun W hW => ⟨heap_below hW k0, heap_below hW k2⟩
 have hs1 := hB.size
 have H1 := Lib.hid hB
 have HC := Lib.hid (styChanged_any v s 98 #[.pointer (some ⟨w.heap.size + 1, 0, none⟩)] (linkL s hr) W1 S (h.below (rdLin_stable _) hB) (he.below hB) hs (enters_of Tryz.func98 (by kernel_rfl) rfl)
  (fun _ W hW => styLink1_any (w.heap.size + 1) v s.lines (spanS s).1 (spanS s).2 hr W S (h.below (rdLin_stable _) (hB.trans (hW.mono hs1))) ((he.below hB).below hW) hs hf hh (heap_below hW k1)))
 obtain ⟨X, hX⟩ : ∃ X, changedS s (linkL s hr) = X := ⟨_, rfl⟩
 rw [hX] at HC ⊢
 obtain ⟨p0, f0⟩ := blk k0
 obtain ⟨p1, f1⟩ := blk k1
 obtain ⟨p2, f2⟩ := blk k2
 obtain ⟨va, vc, rfl⟩ := h.slice
 clear h he hs hf hh hX k0 k1 k2 hB
 go_enter Tryz.func30, Tryz.ntmps30
 go_wp2_with (go_at_call 95; refine HC.out.mono ?_; intro e w2 hsaid; obtain ⟨v2, rfl, hv2, hb2⟩ := hsaid; obtain ⟨a2, c2, rfl⟩ := hv2.slice; have HV2 := Lib.hid hv2; clear hv2; obtain ⟨q2, g2⟩ := blk (HB.out _ hb2).2)
 refine bodyPost_ret (results_st_e rfl _ _ (w.heap.size + 2) (.slice a2 X.1.lines.length c2) (.int .i64 X.1.anc.line) (.int .i64 X.1.anc.col) (.int .i64 X.1.foc.line) (.int .i64 X.1.foc.col) (.int .i64 X.1.on) (.int .i64 X.1.off) (.int .i64 X.2) rfl rfl (by simp [heap_set, putIn, (HB.out _ hb2).2])) rfl ?_
 have hfin := H1.out.trans (hb2.mono hs1)
 have hv2 := HV2.out
 exact ⟨_, rfl, (SliceR.stable (rdLin_stable _) hv2 (by (repeat' (first | (with_reducible exact Keeps.refl _ _) | (with_reducible refine Keeps.set ?_ ?_ _) | (with_reducible refine Keeps.alloc ?_ _) | (with_reducible refine Keeps.drew ?_) | (first | fail) | (simp; omega)))) (fun b h _ => (by have h' := h; (try simp at h'); omega))), by (repeat' (first | (with_reducible exact Below.refl _ _) | (with_reducible assumption) | (with_reducible refine Below.alloc ?_ ?_ _) | (with_reducible refine Below.drew ?_) | (with_reducible refine drewN_below ?_) | (with_reducible refine Below.setCell ?_ ?_ _) | go_size))⟩
set_option maxRecDepth 100000 in
set_option maxHeartbeats 2000000 in
theorem styPlain_any (v : Value) (s : St) (w : World) (S : Nat → Prop) (h : LinsR w S v s.lines) (he : EnvT w) (hs : Small s.lines) (hf : Fits s.lines) :
  Calls Tryz.prog 31 #[stV v s] w (StSaid (changedS s (plainL s)) w) := by
 obtain ⟨W1, hW1, hB, hz, k0, k2⟩ := st_two w v s
 have HB : Hid (∀ W, Below W1.heap.size W1 W → W.heap[w.heap.size]? = some (.cells #[v, .int .i64 s.anc.line, .int .i64 s.anc.col, .int .i64 s.foc.line, .int .i64 s.foc.col, .int .i64 s.on, .int .i64 s.off] 26) ∧ W.heap[w.heap.size + 1]? = some (.cells #[.slice none 0 0, .int .i64 0, .int .i64 0, .int .i64 0, .int .i64 0, .int .i64 0, .int .i64 0] 26)) := Lib.hid fun W hW => ⟨heap_below hW k0, heap_below hW k2⟩
 have hs1 := hB.size
 have H1 := Lib.hid hB
 have HC := Lib.hid (styChanged_any v s 101 #[] (plainL s) W1 S (h.below (rdLin_stable _) hB) (he.below hB) hs (enters_of Tryz.func101 (by kernel_rfl) rfl)
  (fun _ W hW => styPlain1_any v s.lines (spanS s).1 (spanS s).2 W S (h.below (rdLin_stable _) (hB.trans (hW.mono hs1))) ((he.below hB).below hW) hs hf))
 obtain ⟨X, hX⟩ : ∃ X, changedS s (plainL s) = X := ⟨_, rfl⟩
 rw [hX] at HC ⊢
 obtain ⟨p0, f0⟩ := blk k0
 obtain ⟨p2, f2⟩ := blk k2
 obtain ⟨va, vc, rfl⟩ := h.slice
 clear h he hs hf hX k0 k2 hB
 go_enter Tryz.func31, Tryz.ntmps31
 go_wp2_with (go_at_call 95; refine HC.out.mono ?_; intro e w2 hsaid; obtain ⟨v2, rfl, hv2, hb2⟩ := hsaid; obtain ⟨a2, c2, rfl⟩ := hv2.slice; have HV2 := Lib.hid hv2; clear hv2; obtain ⟨q2, g2⟩ := blk (HB.out _ hb2).2)
 refine bodyPost_ret (results_st_e rfl _ _ (w.heap.size + 1) (.slice a2 X.1.lines.length c2) (.int .i64 X.1.anc.line) (.int .i64 X.1.anc.col) (.int .i64 X.1.foc.line) (.int .i64 X.1.foc.col) (.int .i64 X.1.on) (.int .i64 X.1.off) (.int .i64 X.2) rfl rfl (by simp [heap_set, putIn, (HB.out _ hb2).2])) rfl ?_
 have hfin := H1.out.trans (hb2.mono hs1)
 have hv2 := HV2.out
 exact ⟨_, rfl, (SliceR.stable (rdLin_stable _) hv2 (by (repeat' (first | (with_reducible exact Keeps.refl _ _) | (with_reducible refine Keeps.set ?_ ?_ _) | (with_reducible refine Keeps.alloc ?_ _) | (with_reducible refine Keeps.drew ?_) | (first | fail) | (simp; omega)))) (fun b h _ => (by have h' := h; (try simp at h'); omega))), by (repeat' (first | (with_reducible exact Below.refl _ _) | (with_reducible assumption) | (with_reducible refine Below.alloc ?_ ?_ _) | (with_reducible refine Below.drew ?_) | (with_reducible refine drewN_below ?_) | (with_reducible refine Below.setCell ?_ ?_ _) | go_size))⟩
end Go.Proofs.YtpndnbjpnajaaaaGreatDoor
namespace Go.Proofs.YtpndnbjpnajaaaaGreatDoor
open Go.RowKit
open Go.Proofs.Qw
attribute [local go_sem] Oper.semAt_some
theorem set_st (w : World) (B : Nat) {x0 x1 x2 x3 x4 x5 x6 : Value} {t : TypeId} (h : w.heap[B]? = some (.cells #[x0, x1, x2, x3, x4, x5, x6] t)) (a b c d e f g : Value) :
  ∃ W, ((((((w.setCell ⟨B, 0, none⟩ a).setCell ⟨B, 1, none⟩ b).setCell ⟨B, 2, none⟩ c).setCell ⟨B, 3, none⟩ d).setCell ⟨B, 4, none⟩ e).setCell ⟨B, 5, none⟩ f).setCell ⟨B, 6, none⟩ g = W ∧
   W.heap[B]? = some (.cells #[a, b, c, d, e, f, g] t) ∧ (∀ n, n ≤ B → Below n w W) ∧ (∀ k, k ≠ B → W.heap[k]? = w.heap[k]?) ∧ W.heap.size = w.heap.size :=
 ⟨_, rfl, by simp [heap_set, putIn, h], fun n hn => (((((((Below.refl _ _).setCell hn _).setCell hn _).setCell hn _).setCell hn _).setCell hn _).setCell hn _).setCell hn _, fun k hk => by simp [heap_set, Ne.symm hk], by simp⟩
theorem slice_blk {α : Type} {t : TypeId} {k : Nat} {enc : α → List Value} (hk : ∀ x, (enc x).length = k) {w : World} {S : Nat → Prop} {b : Nat} (xs : List α) (h : w.heap[b]? = some (.cells (xs.map enc).flatten.toArray t)) (hS : S b) (hm : xs.length ≤ maxLen) {u : TypeId} :
  SliceR u k (rdOf enc) false w S (.slice (some ⟨b, 0, none⟩) xs.length xs.length) xs := by
 refine ⟨_, xs.length, rfl, Nat.le_refl _, hm, .inr ⟨b, 0, rfl, hS, (Array.getElem?_eq_some_iff.1 h).1, fun h => (by cases h), fun i x hx => ⟨enc x, hk x, rfl, fun j u hu => ?_⟩⟩⟩
 rw [cell_of_heap h, Nat.zero_add, List.getElem?_toArray]
 exact flatten_at (xs.map enc) i (enc x) j u (by simp; intro a _; exact hk a) (by rw [List.getElem?_map, hx]; rfl) hu
set_option maxRecDepth 100000 in
set_option maxHeartbeats 8000000 in
theorem styToggle_any (v : Value) (s : St) (t : Int) (w : World) (S : Nat → Prop) (h : LinsR w S v s.lines) (he : EnvT w) (hs : Small s.lines) (hf : Fits s.lines) :
  Calls Tryz.prog 29 #[stV v s, .int .i64 t] w (StSaid (toggleS s t) w) := by
 obtain ⟨W1, hW1, hB, hz, k0, k1, k2⟩ := st_val_st w v s (.int .i64 t) 3
 have HB : Hid (∀ W, Below W1.heap.size W1 W → W.heap[w.heap.size]? = some (.cells #[v, .int .i64 s.anc.line, .int .i64 s.anc.col, .int .i64 s.foc.line, .int .i64 s.foc.col, .int .i64 s.on, .int .i64 s.off] 26) ∧ W.heap[w.heap.size + 1]? = some (.cells #[.int .i64 t] 3) ∧ W.heap[w.heap.size + 2]? = some (.cells #[.slice none 0 0, .int .i64 0, .int .i64 0, .int .i64 0, .int .i64 0, .int .i64 0, .int .i64 0] 26)) := Lib.hid fun W hW => ⟨heap_below hW k0, heap_below hW k1, heap_below hW k2⟩
 have hs1 := hB.size
 have H1 := Lib.hid hB
 have hw0 : Below W1.heap.size W1 W1 := Below.refl _ _
 have HV : Hid (∀ W, Below W1.heap.size W1 W → LinsR W S v s.lines) := Lib.hid fun W hW => h.below (rdLin_stable _) (hB.trans (hW.mono hs1))
 have HE : Hid (∀ W, Below W1.heap.size W1 W → EnvT W) := Lib.hid fun W hW => (he.below hB).below hW
 have HM : Hid (∀ W, Below W1.heap.size W1 W → Calls Tryz.prog 27 #[stV v s] W fun e w' => e = .returned (.bool (mayS s)) ∧ Below W.heap.size W w') := Lib.hid fun W hW => stMay_any v s W S (HV.out W hW) (HE.out W hW) hs
 have HO : Hid (∀ W, Below W1.heap.size W1 W → Calls Tryz.prog 75 #[stV v s] W fun e w' => e = .returned (.bool (!decide (s.anc = s.foc))) ∧ Below W.heap.size W w') := Lib.hid fun W hW => styOpen_any v s W
 have HBi : Hid (∀ W, Below W1.heap.size W1 W → Calls Tryz.prog 19 #[stV v s] W fun e w' => e = .returned (.int .i64 (bitsS s)) ∧ Below W.heap.size W w') := Lib.hid fun W hW => styBits_any v s W S (HV.out W hW) (HE.out W hW) hs hf
 have HOw : Hid (∀ W, Below W1.heap.size W1 W → Calls Tryz.prog 41 #[stV v s] W fun e w' => ∃ v', e = .returned (stV v' s) ∧ DocR true w' (fun b => W.heap.size ≤ b) v' s.lines ∧ Below W.heap.size W w') := Lib.hid fun W hW => stOwn_any v s W S (HV.out W hW) hf
 have HCh : Hid (mayS s = true → ∀ W, Below W1.heap.size W1 W → Calls Tryz.prog 95 #[stV v s, .func (.func 96) #[] #[.pointer (some ⟨w.heap.size + 1, 0, none⟩)]] W (StSaid (staysS s (togD s t)) W)) := Lib.hid fun hm W hW => by
  have := styChanged_any v s 96 #[.pointer (some ⟨w.heap.size + 1, 0, none⟩)] (togD s t) W S (HV.out W hW) (HE.out W hW) hs (enters_of Tryz.func96 (by kernel_rfl) rfl)
   (fun _ X hX => styToggle1_any (w.heap.size + 1) v s.lines (spanS s).1 (spanS s).2 t X S (HV.out X (below_from hW hX)) (HE.out X (below_from hW hX)) hs hf (HB.out X (below_from hW hX)).2.1)
  unfold changedS at this
  rw [if_pos hm] at this
  exact this
 have HT : Hid (∀ W : World, Calls Tryz.prog 93 #[] W fun e w' => e = .returned (.agg #[.int .i64 1, .int .i64 2, .int .i64 4, .int .i64 8]) ∧ Below W.heap.size W w') := Lib.hid fun W => by
  go_enter Tryz.func93, Tryz.ntmps93
  go_wp2_with fail
  refine bodyPost_ret (results_cell_row rfl _ _ W.heap.size _ _ _ _ rfl (heap_new _ _ rfl) Tryz.underlying82 rfl (by kernel_rfl)) rfl ?_
  exact ⟨rfl, by (repeat' (first | (with_reducible exact Below.refl _ _) | (with_reducible assumption) | (with_reducible refine Below.alloc ?_ ?_ _) | (with_reducible refine Below.drew ?_) | (with_reducible refine drewN_below ?_) | (with_reducible refine Below.setCell ?_ ?_ _) | go_size))⟩
 have HR : Hid (toggleS s t = if mayS s = true ∧ four t = true then (if s.anc = s.foc then (togC s t, 0) else staysS s (togD s t)) else (noS, 1)) := Lib.hid rfl
 have HTC : Hid (togC s t = ⟨s.lines, s.anc, s.foc, bits .or .i64 (bits .andNot .i64 s.on t) (bits .andNot .i64 t (bitsS s)), bits .or .i64 (bits .andNot .i64 s.off t) (bits .andNot .i64 t (bits .andNot .i64 t (bitsS s)))⟩) := Lib.hid rfl
 obtain ⟨va, vc, rfl⟩ := h.slice
 clear h he hs hf hB
 obtain ⟨w2, hw2⟩ : ∃ w2, W1 = w2 := ⟨_, rfl⟩
 cases hm : mayS s
 ·rw [hm] at HM HR
  have HR2 : Hid (toggleS s t = (noS, 1)) := Lib.hid (HR.out.trans (if_neg (by simp)))
  obtain ⟨p0, f0⟩ := blk k0
  clear HR HCh hm k0 k1 k2 hw2
  go_enter Tryz.func29, Tryz.ntmps29
  go_wp2_with (go_at_call 93; refine (HT.out _).mono ?_; rintro e w2 ⟨rfl, hst2⟩)
  have hb2 := below_from hw0 hst2
  obtain ⟨w3, hw3⟩ : ∃ w3, w2.alloc (.cells #[.int .i64 1, .int .i64 2, .int .i64 4, .int .i64 8] 82) = w3 := ⟨_, rfl⟩
  rw [hw3]
  have hb23 : Below w2.heap.size w2 w3 := hw3 ▸ below1 (Below.refl _ _) _
  have n3 : w3.heap[w2.heap.size]? = some (.cells #[.int .i64 1, .int .i64 2, .int .i64 4, .int .i64 8] 82) := hw3 ▸ heap_new _ _ rfl
  have hb3 := below_from hb2 hb23
  have HCt : Hid (∀ W, Below w3.heap.size w3 W → Calls Tryz.prog 94 #[.slice (some ⟨w2.heap.size, 0, none⟩) 4 4, .int .i64 t] W fun e w' => e = .returned (.bool (four t)) ∧ Below W.heap.size W w') := Lib.hid fun W hW => by
   have := containsInts_any _ [1, 2, 4, 8] t W (fun _ => True) (slice_blk (enc := encInt) (fun _ => rfl) [1, 2, 4, 8] (heap_below hW n3) trivial (by decide))
   rw [four_any] at this
   exact this.mono fun _ _ ⟨h1, h2⟩ => ⟨h1, h2 ▸ Below.refl _ _⟩
  clear hw3 n3 p0 f0
  refine wp_region_grew w3.heap.size (by kernel_rfl) (by kernel_rfl) ?_
  refine BigFrame.wpQuiet_want (by kernel_rfl) (fun K hK => ?_)
  refine quiet_val ?_ (fun W hW => ?_) (hK _ ?_)
  rotate_left 1
  ·skip
   obtain ⟨p0, f0⟩ := blk (HB.out _ (below_from hb3 hW)).1
   obtain ⟨p1, f1⟩ := blk (HB.out _ (below_from hb3 hW)).2.1
   go_simp
   try rfl
  clear hK
  clear K
  try simp only [Act.put, qI, qX, qY]
  refine BigFrame.wpQuiet_want (by kernel_rfl) (fun K hK => ?_)
  refine quiet_calls (f := ?_) (args := ?_) ?_ (fun W hW => ?_) (fun W hW => ?_) (hK _ ?_)
  rotate_left 3
  ·go_simp
   constructor <;> rfl
  ·refine (HM.out _ (below_from hb3 hW)).mono ?_
   rintro e W2 ⟨rfl, hbW⟩
   refine ⟨?_, below_from hW hbW⟩
   rfl
  clear hK
  clear K
  try simp only [Act.put, qI, qX, qY]
  refine BigFrame.wpQuiet_want (by kernel_rfl) (fun K hK => ?_)
  refine quiet_val ?_ (fun W hW => ?_) (hK _ ?_)
  rotate_left 1
  ·skip
   go_simp
   try rfl
  clear hK
  clear K
  try simp only [Act.put, qI, qX, qY]
  refine BigFrame.wpQuiet_want (by kernel_rfl) (fun K hK => ?_)
  refine quiet_val ?_ (fun W hW => ?_) (hK _ ?_)
  rotate_left 1
  ·skip
   go_simp
   try rfl
  clear hK
  clear K
  try simp only [Act.put, qI, qX, qY]
  refine BigFrame.wpQuiet_skip (by kernel_rfl) ?_
  try simp only [Act.put, qI, qX, qY]
  refine BigFrame.wpQuiet_skip (by kernel_rfl) ?_
  try simp only [Act.put, qI, qX, qY]
  refine BigFrame.wpQuiet_skip (by kernel_rfl) ?_
  try simp only [Act.put, qI, qX, qY]
  refine BigFrame.wpQuiet_skip (by kernel_rfl) ?_
  try simp only [Act.put, qI, qX, qY]
  refine BigFrame.wpQuiet_want (by kernel_rfl) (fun K hK => ?_)
  refine quiet_val ?_ (fun W hW => ?_) (hK _ ?_)
  rotate_left 1
  ·skip
   go_simp
   try rfl
  clear hK
  clear K
  try simp only [Act.put, qI, qX, qY]
  refine BigFrame.wpQuiet_want (by kernel_rfl) (fun K hK => ?_)
  refine quiet_val ?_ (fun W hW => ?_) (hK _ ?_)
  rotate_left 1
  ·skip
   go_simp
   try rfl
  clear hK
  clear K
  try simp only [Act.put, qI, qX, qY]
  refine wpQuiet_nil (fun X6 hstX6 => ?_)
  have hcX6 := below_from hb3 hstX6
  obtain ⟨p2, f2⟩ := blk (HB.out _ hcX6).2.2
  go_wp2_with fail
  refine bodyPost_ret (results_st_e rfl _ _ (w.heap.size + 2) (.slice none 0 0) (.int .i64 0) (.int .i64 0) (.int .i64 0) (.int .i64 0) (.int .i64 0) (.int .i64 0) (.int .i64 1) rfl rfl (by simp [heap_set, putIn, (HB.out _ hcX6).2.2])) rfl ?_
  unfold StSaid
  rw [HR2.out]
  have hfin := H1.out.trans (hcX6.mono hs1)
  exact ⟨_, rfl, SliceR.nil _ _ _ _ _ _, by (repeat' (first | (with_reducible exact Below.refl _ _) | (with_reducible assumption) | (with_reducible refine Below.alloc ?_ ?_ _) | (with_reducible refine Below.drew ?_) | (with_reducible refine drewN_below ?_) | (with_reducible refine Below.setCell ?_ ?_ _) | go_size))⟩
 ·have HCh2 := Lib.hid (HCh.out hm)
  rw [hm] at HM HR
  clear HCh hm hw2
  cases hfo : four t
  ·rw [hfo] at HR
   have HF := Lib.hid hfo
   have HR2 : Hid (toggleS s t = (noS, 1)) := Lib.hid (HR.out.trans (if_neg (by simp)))
   obtain ⟨p0, f0⟩ := blk k0
   clear HR HCh2 hfo k0 k1 k2
   go_enter Tryz.func29, Tryz.ntmps29
   go_wp2_with (go_at_call 93; refine (HT.out _).mono ?_; rintro e w2 ⟨rfl, hst2⟩)
   have hb2 := below_from hw0 hst2
   obtain ⟨w3, hw3⟩ : ∃ w3, w2.alloc (.cells #[.int .i64 1, .int .i64 2, .int .i64 4, .int .i64 8] 82) = w3 := ⟨_, rfl⟩
   rw [hw3]
   have hb23 : Below w2.heap.size w2 w3 := hw3 ▸ below1 (Below.refl _ _) _
   have n3 : w3.heap[w2.heap.size]? = some (.cells #[.int .i64 1, .int .i64 2, .int .i64 4, .int .i64 8] 82) := hw3 ▸ heap_new _ _ rfl
   have hb3 := below_from hb2 hb23
   have HCt : Hid (∀ W, Below w3.heap.size w3 W → Calls Tryz.prog 94 #[.slice (some ⟨w2.heap.size, 0, none⟩) 4 4, .int .i64 t] W fun e w' => e = .returned (.bool (four t)) ∧ Below W.heap.size W w') := Lib.hid fun W hW => by
    have := containsInts_any _ [1, 2, 4, 8] t W (fun _ => True) (slice_blk (enc := encInt) (fun _ => rfl) [1, 2, 4, 8] (heap_below hW n3) trivial (by decide))
    rw [four_any] at this
    exact this.mono fun _ _ ⟨h1, h2⟩ => ⟨h1, h2 ▸ Below.refl _ _⟩
   clear hw3 n3 p0 f0
   rw [HF.out] at HCt
   refine wp_region_grew w3.heap.size (by kernel_rfl) (by kernel_rfl) ?_
   refine BigFrame.wpQuiet_want (by kernel_rfl) (fun K hK => ?_)
   refine quiet_val ?_ (fun W hW => ?_) (hK _ ?_)
   rotate_left 1
   ·skip
    obtain ⟨p0, f0⟩ := blk (HB.out _ (below_from hb3 hW)).1
    obtain ⟨p1, f1⟩ := blk (HB.out _ (below_from hb3 hW)).2.1
    go_simp
    try rfl
   clear hK
   clear K
   try simp only [Act.put, qI, qX, qY]
   refine BigFrame.wpQuiet_want (by kernel_rfl) (fun K hK => ?_)
   refine quiet_calls (f := ?_) (args := ?_) ?_ (fun W hW => ?_) (fun W hW => ?_) (hK _ ?_)
   rotate_left 3
   ·go_simp
    constructor <;> rfl
   ·refine (HM.out _ (below_from hb3 hW)).mono ?_
    rintro e W2 ⟨rfl, hbW⟩
    refine ⟨?_, below_from hW hbW⟩
    rfl
   clear hK
   clear K
   try simp only [Act.put, qI, qX, qY]
   refine BigFrame.wpQuiet_want (by kernel_rfl) (fun K hK => ?_)
   refine quiet_val ?_ (fun W hW => ?_) (hK _ ?_)
   rotate_left 1
   ·skip
    go_simp
    try rfl
   clear hK
   clear K
   try simp only [Act.put, qI, qX, qY]
   refine BigFrame.wpQuiet_want (by kernel_rfl) (fun K hK => ?_)
   refine quiet_val ?_ (fun W hW => ?_) (hK _ ?_)
   rotate_left 1
   ·skip
    go_simp
    try rfl
   clear hK
   clear K
   try simp only [Act.put, qI, qX, qY]
   refine BigFrame.wpQuiet_want (by kernel_rfl) (fun K hK => ?_)
   refine quiet_val ?_ (fun W hW => ?_) (hK _ ?_)
   rotate_left 1
   ·skip
    go_simp
    try rfl
   clear hK
   clear K
   try simp only [Act.put, qI, qX, qY]
   refine BigFrame.wpQuiet_want (by kernel_rfl) (fun K hK => ?_)
   refine quiet_val ?_ (fun W hW => ?_) (hK _ ?_)
   rotate_left 1
   ·skip
    obtain ⟨p0, f0⟩ := blk (HB.out _ (below_from hb3 hW)).1
    obtain ⟨p1, f1⟩ := blk (HB.out _ (below_from hb3 hW)).2.1
    go_simp
    try rfl
   clear hK
   clear K
   try simp only [Act.put, qI, qX, qY]
   refine BigFrame.wpQuiet_want (by kernel_rfl) (fun K hK => ?_)
   refine quiet_calls (f := ?_) (args := ?_) ?_ (fun W hW => ?_) (fun W hW => ?_) (hK _ ?_)
   rotate_left 3
   ·go_simp
    constructor <;> rfl
   ·refine (HCt.out _ hW).mono ?_
    rintro e W2 ⟨rfl, hbW⟩
    refine ⟨?_, below_from hW hbW⟩
    rfl
   clear hK
   clear K
   try simp only [Act.put, qI, qX, qY]
   refine BigFrame.wpQuiet_want (by kernel_rfl) (fun K hK => ?_)
   refine quiet_val ?_ (fun W hW => ?_) (hK _ ?_)
   rotate_left 1
   ·skip
    go_simp
    try rfl
   clear hK
   clear K
   try simp only [Act.put, qI, qX, qY]
   refine BigFrame.wpQuiet_want (by kernel_rfl) (fun K hK => ?_)
   refine quiet_val ?_ (fun W hW => ?_) (hK _ ?_)
   rotate_left 1
   ·skip
    go_simp
    try rfl
   clear hK
   clear K
   try simp only [Act.put, qI, qX, qY]
   refine BigFrame.wpQuiet_want (by kernel_rfl) (fun K hK => ?_)
   refine quiet_val ?_ (fun W hW => ?_) (hK _ ?_)
   rotate_left 1
   ·skip
    go_simp
    try rfl
   clear hK
   clear K
   try simp only [Act.put, qI, qX, qY]
   refine wpQuiet_nil (fun X6 hstX6 => ?_)
   have hcX6 := below_from hb3 hstX6
   obtain ⟨p2, f2⟩ := blk (HB.out _ hcX6).2.2
   go_wp2_with fail
   refine bodyPost_ret (results_st_e rfl _ _ (w.heap.size + 2) (.slice none 0 0) (.int .i64 0) (.int .i64 0) (.int .i64 0) (.int .i64 0) (.int .i64 0) (.int .i64 0) (.int .i64 1) rfl rfl (by simp [heap_set, putIn, (HB.out _ hcX6).2.2])) rfl ?_
   unfold StSaid
   rw [HR2.out]
   have hfin := H1.out.trans (hcX6.mono hs1)
   exact ⟨_, rfl, SliceR.nil _ _ _ _ _ _, by (repeat' (first | (with_reducible exact Below.refl _ _) | (with_reducible assumption) | (with_reducible refine Below.alloc ?_ ?_ _) | (with_reducible refine Below.drew ?_) | (with_reducible refine drewN_below ?_) | (with_reducible refine Below.setCell ?_ ?_ _) | go_size))⟩
  ·rw [hfo] at HR
   have HF := Lib.hid hfo
   rw [if_pos ⟨rfl, rfl⟩] at HR
   by_cases hc : s.anc = s.foc
   ·have HR2 : Hid (toggleS s t = (togC s t, 0)) := Lib.hid (HR.out.trans (if_pos hc))
    rw [decide_eq_true hc] at HO
    obtain ⟨p0, f0⟩ := blk k0
    obtain ⟨r, hr⟩ : ∃ r, bitsS s = r := ⟨_, rfl⟩
    rw [hr] at HBi HTC
    clear HR HCh2 hfo hc hr k0 k1 k2
    go_enter Tryz.func29, Tryz.ntmps29
    go_wp2_with (go_at_call 93; refine (HT.out _).mono ?_; rintro e w2 ⟨rfl, hst2⟩)
    have hb2 := below_from hw0 hst2
    obtain ⟨w3, hw3⟩ : ∃ w3, w2.alloc (.cells #[.int .i64 1, .int .i64 2, .int .i64 4, .int .i64 8] 82) = w3 := ⟨_, rfl⟩
    rw [hw3]
    have hb23 : Below w2.heap.size w2 w3 := hw3 ▸ below1 (Below.refl _ _) _
    have n3 : w3.heap[w2.heap.size]? = some (.cells #[.int .i64 1, .int .i64 2, .int .i64 4, .int .i64 8] 82) := hw3 ▸ heap_new _ _ rfl
    have hb3 := below_from hb2 hb23
    have HCt : Hid (∀ W, Below w3.heap.size w3 W → Calls Tryz.prog 94 #[.slice (some ⟨w2.heap.size, 0, none⟩) 4 4, .int .i64 t] W fun e w' => e = .returned (.bool (four t)) ∧ Below W.heap.size W w') := Lib.hid fun W hW => by
     have := containsInts_any _ [1, 2, 4, 8] t W (fun _ => True) (slice_blk (enc := encInt) (fun _ => rfl) [1, 2, 4, 8] (heap_below hW n3) trivial (by decide))
     rw [four_any] at this
     exact this.mono fun _ _ ⟨h1, h2⟩ => ⟨h1, h2 ▸ Below.refl _ _⟩
    clear hw3 n3 p0 f0
    rw [HF.out] at HCt
    refine wp_region_grew w3.heap.size (by kernel_rfl) (by kernel_rfl) ?_
    refine BigFrame.wpQuiet_want (by kernel_rfl) (fun K hK => ?_)
    refine quiet_val ?_ (fun W hW => ?_) (hK _ ?_)
    rotate_left 1
    ·skip
     obtain ⟨p0, f0⟩ := blk (HB.out _ (below_from hb3 hW)).1
     obtain ⟨p1, f1⟩ := blk (HB.out _ (below_from hb3 hW)).2.1
     go_simp
     try rfl
    clear hK
    clear K
    try simp only [Act.put, qI, qX, qY]
    refine BigFrame.wpQuiet_want (by kernel_rfl) (fun K hK => ?_)
    refine quiet_calls (f := ?_) (args := ?_) ?_ (fun W hW => ?_) (fun W hW => ?_) (hK _ ?_)
    rotate_left 3
    ·go_simp
     constructor <;> rfl
    ·refine (HM.out _ (below_from hb3 hW)).mono ?_
     rintro e W2 ⟨rfl, hbW⟩
     refine ⟨?_, below_from hW hbW⟩
     rfl
    clear hK
    clear K
    try simp only [Act.put, qI, qX, qY]
    refine BigFrame.wpQuiet_want (by kernel_rfl) (fun K hK => ?_)
    refine quiet_val ?_ (fun W hW => ?_) (hK _ ?_)
    rotate_left 1
    ·skip
     go_simp
     try rfl
    clear hK
    clear K
    try simp only [Act.put, qI, qX, qY]
    refine BigFrame.wpQuiet_want (by kernel_rfl) (fun K hK => ?_)
    refine quiet_val ?_ (fun W hW => ?_) (hK _ ?_)
    rotate_left 1
    ·skip
     go_simp
     try rfl
    clear hK
    clear K
    try simp only [Act.put, qI, qX, qY]
    refine BigFrame.wpQuiet_want (by kernel_rfl) (fun K hK => ?_)
    refine quiet_val ?_ (fun W hW => ?_) (hK _ ?_)
    rotate_left 1
    ·skip
     go_simp
     try rfl
    clear hK
    clear K
    try simp only [Act.put, qI, qX, qY]
    refine BigFrame.wpQuiet_want (by kernel_rfl) (fun K hK => ?_)
    refine quiet_val ?_ (fun W hW => ?_) (hK _ ?_)
    rotate_left 1
    ·skip
     obtain ⟨p0, f0⟩ := blk (HB.out _ (below_from hb3 hW)).1
     obtain ⟨p1, f1⟩ := blk (HB.out _ (below_from hb3 hW)).2.1
     go_simp
     try rfl
    clear hK
    clear K
    try simp only [Act.put, qI, qX, qY]
    refine BigFrame.wpQuiet_want (by kernel_rfl) (fun K hK => ?_)
    refine quiet_calls (f := ?_) (args := ?_) ?_ (fun W hW => ?_) (fun W hW => ?_) (hK _ ?_)
    rotate_left 3
    ·go_simp
     constructor <;> rfl
    ·refine (HCt.out _ hW).mono ?_
     rintro e W2 ⟨rfl, hbW⟩
     refine ⟨?_, below_from hW hbW⟩
     rfl
    clear hK
    clear K
    try simp only [Act.put, qI, qX, qY]
    refine BigFrame.wpQuiet_want (by kernel_rfl) (fun K hK => ?_)
    refine quiet_val ?_ (fun W hW => ?_) (hK _ ?_)
    rotate_left 1
    ·skip
     go_simp
     try rfl
    clear hK
    clear K
    try simp only [Act.put, qI, qX, qY]
    refine BigFrame.wpQuiet_want (by kernel_rfl) (fun K hK => ?_)
    refine quiet_val ?_ (fun W hW => ?_) (hK _ ?_)
    rotate_left 1
    ·skip
     go_simp
     try rfl
    clear hK
    clear K
    try simp only [Act.put, qI, qX, qY]
    refine BigFrame.wpQuiet_want (by kernel_rfl) (fun K hK => ?_)
    refine quiet_val ?_ (fun W hW => ?_) (hK _ ?_)
    rotate_left 1
    ·skip
     go_simp
     try rfl
    clear hK
    clear K
    try simp only [Act.put, qI, qX, qY]
    refine wpQuiet_nil (fun X6 hstX6 => ?_)
    have hcX6 := below_from hb3 hstX6
    obtain ⟨p0, f0⟩ := blk (HB.out _ hcX6).1
    go_wp2_with (go_at_call 75; refine (HO.out _ hcX6).mono ?_; rintro e w7 ⟨rfl, hst7⟩; have hb7 := below_from hcX6 hst7; skip)
    clear p0 f0
    refine wp_region_grew w7.heap.size (by kernel_rfl) (by kernel_rfl) ?_
    refine BigFrame.wpQuiet_want (by kernel_rfl) (fun K hK => ?_)
    refine quiet_val ?_ (fun W hW => ?_) (hK _ ?_)
    rotate_left 1
    ·skip
     obtain ⟨p0, f0⟩ := blk (HB.out _ (below_from hb7 hW)).1
     obtain ⟨p1, f1⟩ := blk (HB.out _ (below_from hb7 hW)).2.1
     go_simp
     try rfl
    clear hK
    clear K
    try simp only [Act.put, qI, qX, qY]
    refine BigFrame.wpQuiet_want (by kernel_rfl) (fun K hK => ?_)
    refine quiet_val ?_ (fun W hW => ?_) (hK _ ?_)
    rotate_left 1
    ·skip
     obtain ⟨p0, f0⟩ := blk (HB.out _ (below_from hb7 hW)).1
     obtain ⟨p1, f1⟩ := blk (HB.out _ (below_from hb7 hW)).2.1
     go_simp
     try rfl
    clear hK
    clear K
    try simp only [Act.put, qI, qX, qY]
    refine BigFrame.wpQuiet_want (by kernel_rfl) (fun K hK => ?_)
    refine quiet_calls (f := ?_) (args := ?_) ?_ (fun W hW => ?_) (fun W hW => ?_) (hK _ ?_)
    rotate_left 3
    ·go_simp
     constructor <;> rfl
    ·refine (HBi.out _ (below_from hb7 hW)).mono ?_
     rintro e W2 ⟨rfl, hbW⟩
     refine ⟨?_, below_from hW hbW⟩
     rfl
    clear hK
    clear K
    try simp only [Act.put, qI, qX, qY]
    refine BigFrame.wpQuiet_want (by kernel_rfl) (fun K hK => ?_)
    refine quiet_val ?_ (fun W hW => ?_) (hK _ ?_)
    rotate_left 1
    ·skip
     go_simp
     try rfl
    clear hK
    clear K
    try simp only [Act.put, qI, qX, qY]
    refine BigFrame.wpQuiet_want (by kernel_rfl) (fun K hK => ?_)
    refine quiet_val ?_ (fun W hW => ?_) (hK _ ?_)
    rotate_left 1
    ·skip
     go_simp
     try rfl
    clear hK
    clear K
    try simp only [Act.put, qI, qX, qY]
    refine wpQuiet_nil (fun X8 hstX8 => ?_)
    have hcX8 := below_from hb7 hstX8
    obtain ⟨p0, f0⟩ := blk (HB.out _ hcX8).1
    go_wp2_with (go_at_call 41; refine (HOw.out _ hcX8).mono ?_; rintro e w9 ⟨v9, rfl, hv9, hst9⟩; obtain ⟨a9, c9, rfl⟩ := hv9.slice; have hb9 := below_from hcX8 hst9; have HV9 := Lib.hid hv9; clear hv9; obtain ⟨q0, g0⟩ := blk (HB.out _ hb9).1)
    obtain ⟨w10, hw10, n10, b10, o10, z10⟩ := set_st w9 w.heap.size (HB.out _ hb9).1 (.slice a9 s.lines.length c9) (.int .i64 s.anc.line) (.int .i64 s.anc.col) (.int .i64 s.foc.line) (.int .i64 s.foc.col) (.int .i64 s.on) (.int .i64 s.off)
    rw [hw10]
    have HX10 := Lib.hid (And.intro n10 (And.intro ((o10 (w.heap.size + 1) (by omega)).trans (HB.out _ hb9).2.1) (And.intro ((o10 (w.heap.size + 2) (by omega)).trans (HB.out _ hb9).2.2) (And.intro b10 (And.intro o10 z10)))))
    clear hw10 q0 g0 n10 b10 o10 z10 p0 f0
    obtain ⟨p0, f0⟩ := blk HX10.out.1
    obtain ⟨p1, f1⟩ := blk HX10.out.2.1
    obtain ⟨p2, f2⟩ := blk HX10.out.2.2.1
    go_region
    go_wp2_with fail
    refine bodyPost_ret (results_st_e rfl _ _ (w.heap.size + 2) (.slice a9 s.lines.length c9) (.int .i64 s.anc.line) (.int .i64 s.anc.col) (.int .i64 s.foc.line) (.int .i64 s.foc.col) (.int .i64 (bits .or .i64 (bits .andNot .i64 s.on t) (bits .andNot .i64 t r))) (.int .i64 (bits .or .i64 (bits .andNot .i64 s.off t) (bits .andNot .i64 t (bits .andNot .i64 t r)))) (.int .i64 0) rfl rfl (by rw [drew_heap]; simp [heap_set, putIn, HX10.out.2.2.1])) rfl ?_
    unfold StSaid
    rw [HR2.out, HTC.out]
    have hb10 : Below w.heap.size w w10 := (H1.out.trans (hb9.mono hs1)).trans (HX10.out.2.2.2.1 _ (Nat.le_refl _))
    have hv10 : DocR true w10 (fun b => w.heap.size + 3 ≤ b) (.slice a9 s.lines.length c9) s.lines := SliceR.stable (rdLin_stable true) HV9.out ⟨Nat.le_of_eq HX10.out.2.2.2.2.2.symm, fun b hb _ => HX10.out.2.2.2.2.1 b (fun e => by have hb : X8.heap.size ≤ b := hb; have := hcX8.size; omega)⟩ (fun b hb _ => by have hb : X8.heap.size ≤ b := hb; have := hcX8.size; show w.heap.size + 3 ≤ b; omega)
    exact ⟨_, rfl, (SliceR.stable (rdLin_stable _) hv10 (by (repeat' (first | (with_reducible exact Keeps.refl _ _) | (with_reducible refine Keeps.set ?_ ?_ _) | (with_reducible refine Keeps.alloc ?_ _) | (with_reducible refine Keeps.drew ?_) | (first | (simp; done)) | (simp; omega)))) (fun b h _ => (by have h' := h; (try simp at h'); omega))), by (repeat' (first | (with_reducible exact Below.refl _ _) | (with_reducible assumption) | (with_reducible refine Below.alloc ?_ ?_ _) | (with_reducible refine Below.drew ?_) | (with_reducible refine drewN_below ?_) | (with_reducible refine Below.setCell ?_ ?_ _) | go_size))⟩
   ·have HR2 : Hid (toggleS s t = staysS s (togD s t)) := Lib.hid (HR.out.trans (if_neg hc))
    rw [decide_eq_false hc] at HO
    obtain ⟨X, hX⟩ : ∃ X, staysS s (togD s t) = X := ⟨_, rfl⟩
    rw [hX] at HCh2 HR2
    obtain ⟨p0, f0⟩ := blk k0
    clear HR hfo hc hX k0 k1 k2
    go_enter Tryz.func29, Tryz.ntmps29
    go_wp2_with (go_at_call 93; refine (HT.out _).mono ?_; rintro e w2 ⟨rfl, hst2⟩)
    have hb2 := below_from hw0 hst2
    obtain ⟨w3, hw3⟩ : ∃ w3, w2.alloc (.cells #[.int .i64 1, .int .i64 2, .int .i64 4, .int .i64 8] 82) = w3 := ⟨_, rfl⟩
    rw [hw3]
    have hb23 : Below w2.heap.size w2 w3 := hw3 ▸ below1 (Below.refl _ _) _
    have n3 : w3.heap[w2.heap.size]? = some (.cells #[.int .i64 1, .int .i64 2, .int .i64 4, .int .i64 8] 82) := hw3 ▸ heap_new _ _ rfl
    have hb3 := below_from hb2 hb23
    have HCt : Hid (∀ W, Below w3.heap.size w3 W → Calls Tryz.prog 94 #[.slice (some ⟨w2.heap.size, 0, none⟩) 4 4, .int .i64 t] W fun e w' => e = .returned (.bool (four t)) ∧ Below W.heap.size W w') := Lib.hid fun W hW => by
     have := containsInts_any _ [1, 2, 4, 8] t W (fun _ => True) (slice_blk (enc := encInt) (fun _ => rfl) [1, 2, 4, 8] (heap_below hW n3) trivial (by decide))
     rw [four_any] at this
     exact this.mono fun _ _ ⟨h1, h2⟩ => ⟨h1, h2 ▸ Below.refl _ _⟩
    clear hw3 n3 p0 f0
    rw [HF.out] at HCt
    refine wp_region_grew w3.heap.size (by kernel_rfl) (by kernel_rfl) ?_
    refine BigFrame.wpQuiet_want (by kernel_rfl) (fun K hK => ?_)
    refine quiet_val ?_ (fun W hW => ?_) (hK _ ?_)
    rotate_left 1
    ·skip
     obtain ⟨p0, f0⟩ := blk (HB.out _ (below_from hb3 hW)).1
     obtain ⟨p1, f1⟩ := blk (HB.out _ (below_from hb3 hW)).2.1
     go_simp
     try rfl
    clear hK
    clear K
    try simp only [Act.put, qI, qX, qY]
    refine BigFrame.wpQuiet_want (by kernel_rfl) (fun K hK => ?_)
    refine quiet_calls (f := ?_) (args := ?_) ?_ (fun W hW => ?_) (fun W hW => ?_) (hK _ ?_)
    rotate_left 3
    ·go_simp
     constructor <;> rfl
    ·refine (HM.out _ (below_from hb3 hW)).mono ?_
     rintro e W2 ⟨rfl, hbW⟩
     refine ⟨?_, below_from hW hbW⟩
     rfl
    clear hK
    clear K
    try simp only [Act.put, qI, qX, qY]
    refine BigFrame.wpQuiet_want (by kernel_rfl) (fun K hK => ?_)
    refine quiet_val ?_ (fun W hW => ?_) (hK _ ?_)
    rotate_left 1
    ·skip
     go_simp
     try rfl
    clear hK
    clear K
    try simp only [Act.put, qI, qX, qY]
    refine BigFrame.wpQuiet_want (by kernel_rfl) (fun K hK => ?_)
    refine quiet_val ?_ (fun W hW => ?_) (hK _ ?_)
    rotate_left 1
    ·skip
     go_simp
     try rfl
    clear hK
    clear K
    try simp only [Act.put, qI, qX, qY]
    refine BigFrame.wpQuiet_want (by kernel_rfl) (fun K hK => ?_)
    refine quiet_val ?_ (fun W hW => ?_) (hK _ ?_)
    rotate_left 1
    ·skip
     go_simp
     try rfl
    clear hK
    clear K
    try simp only [Act.put, qI, qX, qY]
    refine BigFrame.wpQuiet_want (by kernel_rfl) (fun K hK => ?_)
    refine quiet_val ?_ (fun W hW => ?_) (hK _ ?_)
    rotate_left 1
    ·skip
     obtain ⟨p0, f0⟩ := blk (HB.out _ (below_from hb3 hW)).1
     obtain ⟨p1, f1⟩ := blk (HB.out _ (below_from hb3 hW)).2.1
     go_simp
     try rfl
    clear hK
    clear K
    try simp only [Act.put, qI, qX, qY]
    refine BigFrame.wpQuiet_want (by kernel_rfl) (fun K hK => ?_)
    refine quiet_calls (f := ?_) (args := ?_) ?_ (fun W hW => ?_) (fun W hW => ?_) (hK _ ?_)
    rotate_left 3
    ·go_simp
     constructor <;> rfl
    ·refine (HCt.out _ hW).mono ?_
     rintro e W2 ⟨rfl, hbW⟩
     refine ⟨?_, below_from hW hbW⟩
     rfl
    clear hK
    clear K
    try simp only [Act.put, qI, qX, qY]
    refine BigFrame.wpQuiet_want (by kernel_rfl) (fun K hK => ?_)
    refine quiet_val ?_ (fun W hW => ?_) (hK _ ?_)
    rotate_left 1
    ·skip
     go_simp
     try rfl
    clear hK
    clear K
    try simp only [Act.put, qI, qX, qY]
    refine BigFrame.wpQuiet_want (by kernel_rfl) (fun K hK => ?_)
    refine quiet_val ?_ (fun W hW => ?_) (hK _ ?_)
    rotate_left 1
    ·skip
     go_simp
     try rfl
    clear hK
    clear K
    try simp only [Act.put, qI, qX, qY]
    refine BigFrame.wpQuiet_want (by kernel_rfl) (fun K hK => ?_)
    refine quiet_val ?_ (fun W hW => ?_) (hK _ ?_)
    rotate_left 1
    ·skip
     go_simp
     try rfl
    clear hK
    clear K
    try simp only [Act.put, qI, qX, qY]
    refine wpQuiet_nil (fun X6 hstX6 => ?_)
    have hcX6 := below_from hb3 hstX6
    obtain ⟨p0, f0⟩ := blk (HB.out _ hcX6).1
    go_wp2_with (first
     | (go_at_call 75; refine (HO.out _ hcX6).mono ?_; rintro e w7 ⟨rfl, hst7⟩; have hb7 := below_from hcX6 hst7; obtain ⟨q0, g0⟩ := blk (HB.out _ hb7).1)
     | (go_at_call 95; refine (HCh2.out _ hb7).mono ?_; intro e w8 hsaid; obtain ⟨v8, rfl, hv8, hst8⟩ := hsaid; obtain ⟨a8, c8, rfl⟩ := hv8.slice; have hb8 := below_from hb7 hst8; have HV8 := Lib.hid hv8; clear hv8; obtain ⟨q2, g2⟩ := blk (HB.out _ hb8).2.2))
    refine bodyPost_ret (results_st_e rfl _ _ (w.heap.size + 2) (.slice a8 X.1.lines.length c8) (.int .i64 X.1.anc.line) (.int .i64 X.1.anc.col) (.int .i64 X.1.foc.line) (.int .i64 X.1.foc.col) (.int .i64 X.1.on) (.int .i64 X.1.off) (.int .i64 X.2) rfl rfl (by simp [heap_set, putIn, (HB.out _ hb8).2.2])) rfl ?_
    unfold StSaid
    rw [HR2.out]
    have hfin := H1.out.trans (hb8.mono hs1)
    have hv8 := HV8.out
    have hz7 := hb7.size
    exact ⟨_, rfl, (SliceR.stable (rdLin_stable _) hv8 (by (repeat' (first | (with_reducible exact Keeps.refl _ _) | (with_reducible refine Keeps.set ?_ ?_ _) | (with_reducible refine Keeps.alloc ?_ _) | (with_reducible refine Keeps.drew ?_) | (first | fail) | (simp; omega)))) (fun b h _ => (by have h' := h; (try simp at h'); omega))), by (repeat' (first | (with_reducible exact Below.refl _ _) | (with_reducible assumption) | (with_reducible refine Below.alloc ?_ ?_ _) | (with_reducible refine Below.drew ?_) | (with_reducible refine drewN_below ?_) | (with_reducible refine Below.setCell ?_ ?_ _) | go_size))⟩
end Go.Proofs.YtpndnbjpnajaaaaGreatDoor
namespace Go.Proofs.YtpndnbjpnajaaaaGreatDoor
open Go.RowKit
open Go.Proofs.Qw
set_option maxRecDepth 100000 in
set_option maxHeartbeats 4000000 in
theorem stSame_any (v u : Value) (s t : St) (w : World) (S1 S2 : Nat → Prop) (h1 : LinsR w S1 v s.lines) (h2 : LinsR w S2 u t.lines) :
  Calls Tryz.prog 67 #[stV v s, stV u t] w fun e w' => e = .returned (.bool (decide (s = t))) ∧ Below w.heap.size w w' := by
 obtain ⟨W1, hW1, hB, hz, k0, k1⟩ := st_both w v u s t
 have hs1 := hB.size
 have HC := Lib.hid (docSame_any v u s.lines t.lines W1 S1 S2 (h1.below (rdLin_stable _) hB) (h2.below (rdLin_stable _) hB))
 have HB : Hid (∀ W, Below W1.heap.size W1 W → W.heap[w.heap.size]? = some (.cells #[v, .int .i64 s.anc.line, .int .i64 s.anc.col, .int .i64 s.foc.line, .int .i64 s.foc.col, .int .i64 s.on, .int .i64 s.off] 26) ∧ W.heap[w.heap.size + 1]? = some (.cells #[u, .int .i64 t.anc.line, .int .i64 t.anc.col, .int .i64 t.foc.line, .int .i64 t.foc.col, .int .i64 t.on, .int .i64 t.off] 26)) := Lib.hid fun W hW => ⟨heap_below hW k0, heap_below hW k1⟩
 have HE : Hid (decide (s = t) = (decide (s.lines = t.lines) && (decide (s.anc = t.anc) && (decide (s.foc = t.foc) && ((s.on == t.on) && (s.off == t.off)))))) := Lib.hid (by
  obtain ⟨a1, a2, a3, a4, a5⟩ := s
  obtain ⟨b1, b2, b3, b4, b5⟩ := t
  rw [Bool.eq_iff_iff]
  simp)
 have hg := guardPos
 have hq1 := fun (w : World) => run_eql_pos s.anc t.anc w
 have hq2 := fun (w : World) => run_eql_pos s.foc t.foc w
 have H1 := Lib.hid hB
 obtain ⟨p0, f0⟩ := blk k0
 obtain ⟨p1, f1⟩ := blk k1
 obtain ⟨va, vc, rfl⟩ := h1.slice
 obtain ⟨ua, uc, rfl⟩ := h2.slice
 clear h1 h2 k0 k1 hB
 generalize decide (s = t) = r at *
 generalize decide (s.lines = t.lines) = x at *
 generalize decide (s.anc = t.anc) = y at *
 generalize decide (s.foc = t.foc) = z at *
 cases y
 all_goals
  cases z
  all_goals
   go_enter Tryz.func67, Tryz.ntmps67
   go_wp2_with (go_at_call 143; refine HC.out.mono ?_; rintro e w2 ⟨rfl, hb2⟩; obtain ⟨q0, g0⟩ := blk (HB.out _ hb2).1; obtain ⟨q1, g1⟩ := blk (HB.out _ hb2).2; cases x)
   all_goals
    go_ret
    refine ⟨?_, H1.out.trans (hb2.mono hs1)⟩
    rw [HE.out]
    refine congrArg Ending.returned (congrArg Value.bool ?_)
    clear HE HC HB H1
    simp (config := { failIfUnchanged := false }) [*]
set_option maxRecDepth 100000 in
set_option maxHeartbeats 4000000 in
theorem refStSame_any (v u : Value) (s t : St) (w : World) (S1 S2 : Nat → Prop) (h1 : LinsR w S1 v s.lines) (h2 : LinsR w S2 u t.lines) :
  Calls Tryz.prog 40 #[stV v s, stV u t] w fun e w' => e = .returned (.bool (decide (s = t))) ∧ Below w.heap.size w w' := by
 obtain ⟨W1, hW1, hB, hz, k0, k1⟩ := st_both w v u s t
 have hs1 := hB.size
 have HC := Lib.hid (refSame_any v u s.lines t.lines W1 S1 S2 (h1.below (rdLin_stable _) hB) (h2.below (rdLin_stable _) hB))
 have HB : Hid (∀ W, Below W1.heap.size W1 W → W.heap[w.heap.size]? = some (.cells #[v, .int .i64 s.anc.line, .int .i64 s.anc.col, .int .i64 s.foc.line, .int .i64 s.foc.col, .int .i64 s.on, .int .i64 s.off] 26) ∧ W.heap[w.heap.size + 1]? = some (.cells #[u, .int .i64 t.anc.line, .int .i64 t.anc.col, .int .i64 t.foc.line, .int .i64 t.foc.col, .int .i64 t.on, .int .i64 t.off] 26)) := Lib.hid fun W hW => ⟨heap_below hW k0, heap_below hW k1⟩
 have HE : Hid (decide (s = t) = (decide (s.lines = t.lines) && (decide (s.anc = t.anc) && (decide (s.foc = t.foc) && ((s.on == t.on) && (s.off == t.off)))))) := Lib.hid (by
  obtain ⟨a1, a2, a3, a4, a5⟩ := s
  obtain ⟨b1, b2, b3, b4, b5⟩ := t
  rw [Bool.eq_iff_iff]
  simp)
 have hg := guardPos
 have hq1 := fun (w : World) => run_eql_pos s.anc t.anc w
 have hq2 := fun (w : World) => run_eql_pos s.foc t.foc w
 have H1 := Lib.hid hB
 obtain ⟨p0, f0⟩ := blk k0
 obtain ⟨p1, f1⟩ := blk k1
 obtain ⟨va, vc, rfl⟩ := h1.slice
 obtain ⟨ua, uc, rfl⟩ := h2.slice
 clear h1 h2 k0 k1 hB
 generalize decide (s = t) = r at *
 generalize decide (s.lines = t.lines) = x at *
 generalize decide (s.anc = t.anc) = y at *
 generalize decide (s.foc = t.foc) = z at *
 cases y
 all_goals
  cases z
  all_goals
   go_enter Tryz.func40, Tryz.ntmps40
   go_wp2_with (go_at_call 65; refine HC.out.mono ?_; rintro e w2 ⟨rfl, hb2⟩; obtain ⟨q0, g0⟩ := blk (HB.out _ hb2).1; obtain ⟨q1, g1⟩ := blk (HB.out _ hb2).2; cases x)
   all_goals
    go_ret
    refine ⟨?_, H1.out.trans (hb2.mono hs1)⟩
    rw [HE.out]
    refine congrArg Ending.returned (congrArg Value.bool ?_)
    clear HE HC HB H1
    simp (config := { failIfUnchanged := false }) [*]
end Go.Proofs.YtpndnbjpnajaaaaGreatDoor
namespace Go.Proofs.YtpndnbjpnajaaaaGreatDoor
open Go.RowKit
open Go.Proofs.Qw
def KeepSt (w w' : World) : Prop := ∀ (k : Nat) (cs : Array Value), w.heap[k]? = some (.cells cs 26) → w'.heap[k]? = some (.cells cs 26)
theorem keep_st {w2 wr : World} {b : Nat} {cs : Array Value} {t : TypeId} (h : KeepSt w2 wr) (hb : w2.heap[b]? = some (.cells cs t)) (ht : t ≠ 26) (off : Nat) (u : Value) :
  KeepSt w2 (wr.setCell ⟨b, off, none⟩ u) := by
 intro k cs hk
 have hne : b ≠ k := fun e => by
  subst e
  rw [hb] at hk
  cases hk
  exact ht rfl
 rw [heap_set, if_neg hne]
 exact h k cs hk
set_option maxRecDepth 100000 in
set_option maxHeartbeats 4000000 in
theorem lawIs23_any (v m : Value) (x y : St) (e f : Int) (n : Nat) (w : World) (S : Nat → Prop) (hn : n ≤ w.heap.size) (hx : DocR true w (fun b => n ≤ b) v x.lines) (hy : LinsR w S m y.lines) :
  Calls Tryz.prog 47 #[stV v x, .int .i64 e, stV m y, .int .i64 f] w fun r w' => r = .returned (.bool (decide (e = f) && decide (x = y))) ∧ Below n w w' ∧ KeepSt w w' := by
 obtain ⟨W1, hW1, hB, hz, k0, k1⟩ := st_both w v m x y
 have HB : Hid (∀ W, Below W1.heap.size W1 W → W.heap[w.heap.size]? = some (.cells #[v, .int .i64 x.anc.line, .int .i64 x.anc.col, .int .i64 x.foc.line, .int .i64 x.foc.col, .int .i64 x.on, .int .i64 x.off] 26) ∧ W.heap[w.heap.size + 1]? = some (.cells #[m, .int .i64 y.anc.line, .int .i64 y.anc.col, .int .i64 y.foc.line, .int .i64 y.foc.col, .int .i64 y.on, .int .i64 y.off] 26)) := Lib.hid fun W hW => ⟨heap_below hW k0, heap_below hW k1⟩
 have hs1 := hB.size
 have H1 := Lib.hid hB
 have HN := Lib.hid hn
 have hw0 : Below W1.heap.size W1 W1 := Below.refl _ _
 have HS := Lib.hid (refStSame_any v m x y W1 _ S ((DocR.read hx).below (rdLin_stable _) hB) (hy.below (rdLin_stable _) hB))
 have HD : Hid (∀ W, Below W1.heap.size W1 W → DocR true W (fun b => n ≤ b ∧ b < w.heap.size) v x.lines) := Lib.hid fun W hW => SliceR.stable (rdLin_stable true) hx (.all (hB.trans (hW.mono hs1))) (fun b h hz => ⟨h, hz⟩)
 obtain ⟨q, hq⟩ : ∃ q, decide (x = y) = q := ⟨_, rfl⟩
 rw [hq] at HS ⊢
 clear hq
 obtain ⟨p0, f0⟩ := blk k0
 obtain ⟨p1, f1⟩ := blk k1
 obtain ⟨a1, c1, rfl⟩ := hx.slice
 obtain ⟨a2, c2, rfl⟩ := hy.slice
 clear hx hy hn k0 k1 hB
 obtain ⟨d, hd⟩ : ∃ d, x.lines = d := ⟨_, rfl⟩
 rw [hd] at HD p0 HB HS hW1 ⊢
 have HSub := Lib.hid hd
 clear hd
 by_cases hef : e = f
 ·have HR : Hid ((decide (e = f) && q) = q) := Lib.hid (by rw [decide_eq_true hef]; rfl)
  have hq1 : (e == f) = true := by simpa using hef
  clear hef
  go_enter Tryz.func47, Tryz.ntmps47
  go_wp2_with (go_at_call 40; refine HS.out.mono ?_; rintro r w2 ⟨rfl, hb2⟩)
  obtain ⟨a3, c3, hve, hc2, hm2, hx2⟩ := docOwn_shape (HD.out _ hb2)
  cases hve
  have HX := Lib.hid hx2
  clear hx2 p0 f0 p1 f1
  unfold maxLen at hm2
  go_loopw [10, 11] (fun i _ wr => ∃ k : Nat, k ≤ d.length ∧ i = .int .i64 k ∧ Hid (Shp w2 wr) ∧ Hid (Below n w2 wr) ∧ Hid (KeepSt w2 wr)) (fun i _ _ => d.length - (intOf i).toNat)
  case atStart => exact ⟨0, Nat.zero_le _, rfl, Lib.hid (Shp.refl _), Lib.hid (Below.refl _ _), Lib.hid (fun _ _ h => h)⟩
  case round =>
   obtain ⟨k, hk, rfl, HSh, HBl, HBx⟩ := hrel
   obtain ⟨wo, rfl⟩ : ∃ wo : World, wo = wr := ⟨_, rfl⟩
   obtain ⟨r0, s0⟩ := blk (HBx.out _ _ (HB.out _ hb2).1)
   have k0 : (0 : Int) ≤ (k : Int) := Int.natCast_nonneg _
   by_cases hlt : k < d.length
   ·obtain ⟨l, hl, hdd⟩ := getOf d k hlt
    obtain ⟨b0, o0, cs, la, lc, ca, cc, rfl, hSb, hg, e1, e2, e3, hI, hC⟩ := HX.out k l hl
    have hSb1 : n ≤ b0 := hSb.1
    have hSb2 : b0 < w.heap.size := hSb.2
    have hcl := hC.len
    have HL := Lib.hid (And.intro hg (And.intro e1 (And.intro e2 e3)))
    have HIC := Lib.hid hC
    have q3 := HSh.out.slice hg e3
    unfold maxLen at hcl
    have i1 : (k : Int) < (d.length : Int) := by omega
    clear hl hdd hI hC hg e1 e2 e3 hSb
    go_wp2_with fail
    go_loopw [11] (fun j wi => ∃ q : Nat, q ≤ l.cells.length ∧ j = .int .i64 q ∧ Hid (Shp w2 wi) ∧ Hid (Below n w2 wi) ∧ Hid (KeepSt w2 wi)) (fun j _ => l.cells.length - (intOf j).toNat)
    case atStart => exact ⟨0, Nat.zero_le _, rfl, HSh, HBl, HBx⟩
    case round =>
     clear q3 HSh HBl HBx r0 s0
     obtain ⟨q, hq, rfl, HSh, HBl, HBx⟩ := hrel
     obtain ⟨r0, s0⟩ := blk (HBx.out _ _ (HB.out _ hb2).1)
     have q3 := HSh.out.slice HL.out.1 HL.out.2.2.2
     have q0 : (0 : Int) ≤ (q : Int) := Int.natCast_nonneg _
     by_cases hlt2 : q < l.cells.length
     ·obtain ⟨bc, oc, cs2, rfl, hSc, hg2, hsz⟩ := HIC.out.cellAt hlt2
      have hSc1 : n ≤ bc := hSc.1
      have hSc2 : bc < w.heap.size := hSc.2
      obtain ⟨⟨u, hu⟩, hf⟩ := HSh.out.at (off := oc + q * 3) hg2 (by omega)
      have HG2 := Lib.hid hg2
      have q1 : (q : Int) < (l.cells.length : Int) := by omega
      clear hg2 hSc
      go_wp2_with fail
      go_roundw
      case rel => exact ⟨q + 1, hlt2, by go_num, Lib.hid (HSh.out.set HG2.out (fun e => absurd e (by decide)) _), Lib.hid (HBl.out.setCell hSc1 _), Lib.hid (keep_st HBx.out HG2.out (by decide) _ _)⟩
      case measure => simp [intOf]; omega
     ·obtain rfl : q = l.cells.length := by omega
      have hos : o0 + k * 4 + 2 < cs.size := (Array.getElem?_eq_some_iff.1 HL.out.2.2.1).1
      obtain ⟨⟨u, hu⟩, hf⟩ := HSh.out.at (off := o0 + k * 4 + 2) HL.out.1 hos
      go_wp2_with fail
      go_roundw
      case rel => exact ⟨k + 1, hlt, by go_num, Lib.hid (HSh.out.set HL.out.1 (fun _ => ⟨_, _, HL.out.2.2.1⟩) _), Lib.hid (HBl.out.setCell hSb1 _), Lib.hid (keep_st HBx.out HL.out.1 (by decide) _ _)⟩
      case measure => simp [intOf]; omega
   ·obtain rfl : k = d.length := by omega
    go_wp2_with fail
    go_ret
    rw [HR.out]
    exact ⟨rfl, (H1.out.mono HN.out).trans ((hb2.mono (Nat.le_trans HN.out hs1)).trans HBl.out), fun k cs hk => HBx.out k cs (heap_below hb2 (heap_below H1.out hk))⟩
 ·have HR : Hid ((decide (e = f) && q) = false) := Lib.hid (by rw [decide_eq_false hef]; rfl)
  have hq1 : (e == f) = false := by simpa using hef
  obtain ⟨w2, hw2⟩ : ∃ w2, w2 = W1 := ⟨_, rfl⟩
  have hb2 : Below W1.heap.size W1 w2 := hw2 ▸ hw0
  have HW2 := Lib.hid hw2
  clear hef hw2
  go_enter Tryz.func47, Tryz.ntmps47
  go_wp2_with fail
  rw [← HW2.out]
  obtain ⟨a3, c3, hve, hc2, hm2, hx2⟩ := docOwn_shape (HD.out _ hb2)
  cases hve
  have HX := Lib.hid hx2
  clear hx2 p0 f0 p1 f1
  unfold maxLen at hm2
  go_loopw [10, 11] (fun i _ wr => ∃ k : Nat, k ≤ d.length ∧ i = .int .i64 k ∧ Hid (Shp w2 wr) ∧ Hid (Below n w2 wr) ∧ Hid (KeepSt w2 wr)) (fun i _ _ => d.length - (intOf i).toNat)
  case atStart => exact ⟨0, Nat.zero_le _, rfl, Lib.hid (Shp.refl _), Lib.hid (Below.refl _ _), Lib.hid (fun _ _ h => h)⟩
  case round =>
   obtain ⟨k, hk, rfl, HSh, HBl, HBx⟩ := hrel
   obtain ⟨wo, rfl⟩ : ∃ wo : World, wo = wr := ⟨_, rfl⟩
   obtain ⟨r0, s0⟩ := blk (HBx.out _ _ (HB.out _ hb2).1)
   have k0 : (0 : Int) ≤ (k : Int) := Int.natCast_nonneg _
   by_cases hlt : k < d.length
   ·obtain ⟨l, hl, hdd⟩ := getOf d k hlt
    obtain ⟨b0, o0, cs, la, lc, ca, cc, rfl, hSb, hg, e1, e2, e3, hI, hC⟩ := HX.out k l hl
    have hSb1 : n ≤ b0 := hSb.1
    have hSb2 : b0 < w.heap.size := hSb.2
    have hcl := hC.len
    have HL := Lib.hid (And.intro hg (And.intro e1 (And.intro e2 e3)))
    have HIC := Lib.hid hC
    have q3 := HSh.out.slice hg e3
    unfold maxLen at hcl
    have i1 : (k : Int) < (d.length : Int) := by omega
    clear hl hdd hI hC hg e1 e2 e3 hSb
    go_wp2_with fail
    go_loopw [11] (fun j wi => ∃ q : Nat, q ≤ l.cells.length ∧ j = .int .i64 q ∧ Hid (Shp w2 wi) ∧ Hid (Below n w2 wi) ∧ Hid (KeepSt w2 wi)) (fun j _ => l.cells.length - (intOf j).toNat)
    case atStart => exact ⟨0, Nat.zero_le _, rfl, HSh, HBl, HBx⟩
    case round =>
     clear q3 HSh HBl HBx r0 s0
     obtain ⟨q, hq, rfl, HSh, HBl, HBx⟩ := hrel
     obtain ⟨r0, s0⟩ := blk (HBx.out _ _ (HB.out _ hb2).1)
     have q3 := HSh.out.slice HL.out.1 HL.out.2.2.2
     have q0 : (0 : Int) ≤ (q : Int) := Int.natCast_nonneg _
     by_cases hlt2 : q < l.cells.length
     ·obtain ⟨bc, oc, cs2, rfl, hSc, hg2, hsz⟩ := HIC.out.cellAt hlt2
      have hSc1 : n ≤ bc := hSc.1
      have hSc2 : bc < w.heap.size := hSc.2
      obtain ⟨⟨u, hu⟩, hf⟩ := HSh.out.at (off := oc + q * 3) hg2 (by omega)
      have HG2 := Lib.hid hg2
      have q1 : (q : Int) < (l.cells.length : Int) := by omega
      clear hg2 hSc
      go_wp2_with fail
      go_roundw
      case rel => exact ⟨q + 1, hlt2, by go_num, Lib.hid (HSh.out.set HG2.out (fun e => absurd e (by decide)) _), Lib.hid (HBl.out.setCell hSc1 _), Lib.hid (keep_st HBx.out HG2.out (by decide) _ _)⟩
      case measure => simp [intOf]; omega
     ·obtain rfl : q = l.cells.length := by omega
      have hos : o0 + k * 4 + 2 < cs.size := (Array.getElem?_eq_some_iff.1 HL.out.2.2.1).1
      obtain ⟨⟨u, hu⟩, hf⟩ := HSh.out.at (off := o0 + k * 4 + 2) HL.out.1 hos
      go_wp2_with fail
      go_roundw
      case rel => exact ⟨k + 1, hlt, by go_num, Lib.hid (HSh.out.set HL.out.1 (fun _ => ⟨_, _, HL.out.2.2.1⟩) _), Lib.hid (HBl.out.setCell hSb1 _), Lib.hid (keep_st HBx.out HL.out.1 (by decide) _ _)⟩
      case measure => simp [intOf]; omega
   ·obtain rfl : k = d.length := by omega
    go_wp2_with fail
    go_ret
    rw [HR.out]
    exact ⟨rfl, (H1.out.mono HN.out).trans ((hb2.mono (Nat.le_trans HN.out hs1)).trans HBl.out), fun k cs hk => HBx.out k cs (heap_below hb2 (heap_below H1.out hk))⟩
theorem long24_any (v : Value) (s : St) (w : World) (S : Nat → Prop) (h : LinsR w S v s.lines) (hs : Sane s.lines) :
  Calls Tryz.prog 17 #[stV v s] w (LongSaid s.lines w) := by
 obtain ⟨W1, hW1, hB, hz, k0⟩ := one_st w v s
 have HC := Lib.hid (refLong_any v s.lines W1 S (h.below (rdLin_stable _) hB) hs)
 have H1 := Lib.hid hB
 have hs1 := hB.size
 obtain ⟨p0, f0⟩ := blk k0
 obtain ⟨va, vc, rfl⟩ := h.slice
 clear h hs k0 hB
 go_enter Tryz.func17, Tryz.ntmps17
 go_wp2_with (go_at_call 74; refine HC.out.mono ?_; rintro e w1 ⟨r, rfl, hr, hb⟩)
 go_ret
 exact ⟨r, rfl, hr, H1.out.trans (hb.mono hs1)⟩
end Go.Proofs.YtpndnbjpnajaaaaGreatDoor
