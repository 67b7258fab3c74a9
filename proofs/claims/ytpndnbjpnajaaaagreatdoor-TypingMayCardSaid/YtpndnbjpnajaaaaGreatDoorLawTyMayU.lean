/- The walk of the law TypingMay. -/
import Derived.Test.YtpndnbjpnajaaaaGreatDoorStyBitsU
import Derived.Test.YtpndnbjpnajaaaaGreatDoorKeys1U
import Derived.Test.YtpndnbjpnajaaaaGreatDoorCellsInsertU
import Derived.Test.YtpndnbjpnajaaaaGreatDoorKeys2U
import Derived.Test.YtpndnbjpnajaaaaGreatDoorTypLawBaseU
import Derived.Test.YtpndnbjpnajaaaaGreatDoorStIsU
set_option linter.unusedVariables false
set_option linter.unusedSimpArgs false
namespace Go.Proofs.YtpndnbjpnajaaaaGreatDoor
open Go.RowKit
open Go.Proofs.Qw
attribute [local go_sem] Oper.semAt_some
theorem st_four (w : World) (v u : Value) (s t : St) (a b : Ps) : ∃ W1, (((w.alloc (.cells #[v, .int .i64 s.anc.line, .int .i64 s.anc.col, .int .i64 s.foc.line, .int .i64 s.foc.col, .int .i64 s.on, .int .i64 s.off] 26)).alloc (.cells #[u, .int .i64 t.anc.line, .int .i64 t.anc.col, .int .i64 t.foc.line, .int .i64 t.foc.col, .int .i64 t.on, .int .i64 t.off] 26)).alloc (.cells #[.int .i64 a.line, .int .i64 a.col] 24)).alloc (.cells #[.int .i64 b.line, .int .i64 b.col] 24) = W1 ∧ Below w.heap.size w W1 ∧ w.heap.size + 4 = W1.heap.size ∧
  W1.heap[w.heap.size]? = some (.cells #[v, .int .i64 s.anc.line, .int .i64 s.anc.col, .int .i64 s.foc.line, .int .i64 s.foc.col, .int .i64 s.on, .int .i64 s.off] 26) ∧ W1.heap[w.heap.size + 1]? = some (.cells #[u, .int .i64 t.anc.line, .int .i64 t.anc.col, .int .i64 t.foc.line, .int .i64 t.foc.col, .int .i64 t.on, .int .i64 t.off] 26) ∧ W1.heap[w.heap.size + 2]? = some (.cells #[.int .i64 a.line, .int .i64 a.col] 24) ∧ W1.heap[w.heap.size + 3]? = some (.cells #[.int .i64 b.line, .int .i64 b.col] 24) :=
 ⟨_, rfl, below2 (below2 (Below.refl _ _) _ _) _ _, by simp, heap_old _ _ (heap_old _ _ (heap_old _ _ (heap_new _ _ rfl))), heap_old _ _ (heap_old _ _ (heap_new _ _ (by simp))), heap_old _ _ (heap_new _ _ (by simp)), heap_new _ _ (by simp)⟩
theorem pos_pair (w : World) (a b c d : Value) : ∃ W1, (w.alloc (.cells #[a, b] 24)).alloc (.cells #[c, d] 24) = W1 ∧ Below w.heap.size w W1 ∧ W1.heap[w.heap.size]? = some (.cells #[a, b] 24) ∧ W1.heap[w.heap.size + 1]? = some (.cells #[c, d] 24) ∧ w.heap.size + 2 = W1.heap.size :=
 ⟨_, rfl, below2 (Below.refl _ _) _ _, heap_old _ _ (heap_new _ _ rfl), heap_new _ _ (by simp), by simp⟩
set_option maxRecDepth 100000 in
set_option maxHeartbeats 4000000 in
theorem lawTyMay_any (v u : Value) (s t : St) (A B : Ps) (w : World) (S T : Nat → Prop) (h : LinsR w S v s.lines) (h2 : LinsR w T u t.lines) (sn : Sane s.lines) (sn2 : Sane t.lines) (ho : -9223372036854775808 ≤ s.on ∧ s.on ≤ 9223372036854775807) (hof : -9223372036854775808 ≤ s.off ∧ s.off ≤ 9223372036854775807) (he : EnvT w) :
  Calls Tryz.prog 15 #[stV v s, stV u t, .agg #[.int .i64 A.line, .int .i64 A.col], .agg #[.int .i64 B.line, .int .i64 B.col]] w fun e w' => e = .returned (.bool true) ∧ Below w.heap.size w w' := by
 obtain ⟨W1, hW1, hB, hz, k0, k1, k2, k3⟩ := st_four w v u s t A B
 have HB : Hid (∀ W, Below W1.heap.size W1 W → W.heap[w.heap.size]? = some (.cells #[v, .int .i64 s.anc.line, .int .i64 s.anc.col, .int .i64 s.foc.line, .int .i64 s.foc.col, .int .i64 s.on, .int .i64 s.off] 26) ∧ W.heap[w.heap.size + 1]? = some (.cells #[u, .int .i64 t.anc.line, .int .i64 t.anc.col, .int .i64 t.foc.line, .int .i64 t.foc.col, .int .i64 t.on, .int .i64 t.off] 26) ∧ W.heap[w.heap.size + 2]? = some (.cells #[.int .i64 A.line, .int .i64 A.col] 24) ∧ W.heap[w.heap.size + 3]? = some (.cells #[.int .i64 B.line, .int .i64 B.col] 24)) := Lib.hid fun W hW => ⟨heap_below hW k0, heap_below hW k1, heap_below hW k2, heap_below hW k3⟩
 have hs1 := hB.size
 have H1 := Lib.hid hB
 have hw0 : Below W1.heap.size W1 W1 := Below.refl _ _
 have HV : Hid (∀ W, Below W1.heap.size W1 W → LinsR W S v s.lines) := Lib.hid fun W hW => h.below (rdLin_stable _) (hB.trans (hW.mono hs1))
 have HU : Hid (∀ W, Below W1.heap.size W1 W → LinsR W T u t.lines) := Lib.hid fun W hW => h2.below (rdLin_stable _) (hB.trans (hW.mono hs1))
 have HE : Hid (∀ W, Below W1.heap.size W1 W → EnvT W) := Lib.hid fun W hW => (he.below hB).below hW
 have HLo := Lib.hid (long23_any v s W1 S (HV.out _ hw0) sn)
 have HLt : Hid (∀ W, Below W1.heap.size W1 W → Calls Tryz.prog 43 #[stV u t] W (LongSaid t.lines W)) := Lib.hid fun W hW => long23_any u t W T (HU.out _ hW) sn2
 have HA : Hid (∀ W, Below W1.heap.size W1 W → Calls Tryz.prog 44 #[] W fun e w' => e = .returned (.bool true) ∧ Below W.heap.size W w') := Lib.hid fun W hW => awake23_any W (HE.out W hW)
 have HI := Lib.hid (And.intro ho hof)
 have hqn := fun (a b : Ps) (w : World) => run_neq_pos a b w
 obtain ⟨p0, f0⟩ := blk k0
 obtain ⟨p1, f1⟩ := blk k1
 obtain ⟨p2, f2⟩ := blk k2
 obtain ⟨p3, f3⟩ := blk k3
 obtain ⟨va, vc, hve⟩ := h.slice
 subst hve
 obtain ⟨ua, uc, hue⟩ := h2.slice
 subst hue
 clear h h2 sn sn2 ho hof he k0 k1 k2 k3 hB
 go_enter Tryz.func15, Tryz.ntmps15
 go_wp2_with fail
 refine HLo.out.mono ?_
 rintro e w1 ⟨r, rfl, hr1, hb1⟩
 have HRS := Lib.hid hr1
 clear hr1
 cases r
 rotate_left 1
 ·go_wp2_with fail
  refine (HA.out _ hb1).mono ?_
  rintro e w2 ⟨rfl, hst2⟩
  go_wp2_with fail
  go_ret
  exact ⟨rfl, H1.out.trans ((below_from hb1 hst2).mono hs1)⟩
 have HSF : Hid (Small s.lines ∧ Fits s.lines) := Lib.hid ⟨(HRS.out rfl).small, (HRS.out rfl).fits⟩
 clear p0 f0 p1 f1 p2 f2 p3 f3
 obtain ⟨p0, f0⟩ := blk (HB.out _ hb1).1
 obtain ⟨p1, f1⟩ := blk (HB.out _ hb1).2.1
 go_wp2_with fail
 refine (HLt.out _ hb1).mono ?_
 rintro e wl ⟨r, rfl, _, hstl⟩
 have hbl := below_from hb1 hstl
 cases r
 rotate_left 1
 ·go_wp2_with fail
  refine (HA.out _ hbl).mono ?_
  rintro e w2 ⟨rfl, hst2⟩
  go_wp2_with fail
  go_ret
  exact ⟨rfl, H1.out.trans ((below_from hbl hst2).mono hs1)⟩
 clear p0 f0 p1 f1
 obtain ⟨p0, f0⟩ := blk (HB.out _ hbl).1
 go_wp2_with fail
 refine (refStOwn_any _ s wl S (HV.out _ hbl) HSF.out.2).mono ?_
 rintro e w2 ⟨v2, rfl, hv2, hst2⟩
 obtain ⟨x2, y2, hve2⟩ := hv2.slice
 subst hve2
 have hb2 := below_from hbl hst2
 have HV2 := Lib.hid hv2
 have HST2 := Lib.hid hst2
 clear hv2 hst2 p0 f0
 go_upto_region 4 with fail
 obtain ⟨M1, hM1⟩ : ∃ M1, w2.alloc (.cells #[.slice x2 s.lines.length y2, .int .i64 s.anc.line, .int .i64 s.anc.col, .int .i64 s.foc.line, .int .i64 s.foc.col, .int .i64 s.on, .int .i64 s.off] 26) = M1 := ⟨_, rfl⟩
 rw [hM1]
 have h21 : Below w2.heap.size w2 M1 := hM1 ▸ below1 (Below.refl _ _) _
 have hbM1 := below_from hb2 h21
 have n1 : M1.heap[w2.heap.size]? = some (.cells #[.slice x2 s.lines.length y2, .int .i64 s.anc.line, .int .i64 s.anc.col, .int .i64 s.foc.line, .int .i64 s.foc.col, .int .i64 s.on, .int .i64 s.off] 26) := hM1 ▸ heap_new _ _ rfl
 have zM1 : M1.heap.size = w2.heap.size + 1 := by rw [← hM1]; simp
 obtain ⟨C, D, hCD⟩ : ∃ C D, spanS s = (C, D) := ⟨_, _, rfl⟩
 have HSp1 : Hid (∀ W, Below W1.heap.size W1 W → Calls Tryz.prog 28 #[stV (.slice va s.lines.length vc) s] W fun e w' => e = .returned (.tuple #[.agg #[.int .i64 C.line, .int .i64 C.col], .agg #[.int .i64 D.line, .int .i64 D.col]]) ∧ Below W.heap.size W w') := Lib.hid fun W _ => by have := stSpan_any (.slice va s.lines.length vc) s W; rw [hCD] at this; exact this
 have HSp2 : Hid (∀ W, Below W1.heap.size W1 W → Calls Tryz.prog 69 #[stV (.slice va s.lines.length vc) s] W fun e w' => e = .returned (.tuple #[.agg #[.int .i64 C.line, .int .i64 C.col], .agg #[.int .i64 D.line, .int .i64 D.col]]) ∧ Below W.heap.size W w') := Lib.hid fun W _ => by have := refStSpan_any (.slice va s.lines.length vc) s W; rw [hCD] at this; exact this
 clear hM1 hCD
 obtain ⟨p0, f0⟩ := blk (HB.out _ hbM1).1
 go_upto_region 5 with (go_at_call 28; refine (HSp1.out _ hbM1).mono ?_; rintro e w3 ⟨rfl, hst3⟩; have hb3 := below_from hbM1 hst3)
 obtain ⟨M2, hM2, h32, n2, n3, zM2⟩ := pos_pair w3 (.int .i64 C.line) (.int .i64 C.col) (.int .i64 D.line) (.int .i64 D.col)
 rw [hM2]
 have hbM2 := below_from hb3 h32
 have n1' := heap_below h32 (heap_below hst3 n1)
 clear hM2 n1 p0 f0
 obtain ⟨p0, f0⟩ := blk (HB.out _ hbM2).1
 go_upto_region 6 with (go_at_call 69; refine (HSp2.out _ hbM2).mono ?_; rintro e w4 ⟨rfl, hst4⟩; have hb4 := below_from hbM2 hst4)
 obtain ⟨M0, hM0, h40, n4, n5, zM0⟩ := pos_pair w4 (.int .i64 C.line) (.int .i64 C.col) (.int .i64 D.line) (.int .i64 D.col)
 rw [hM0]
 have hbM0 := below_from hb4 h40
 have k6 := heap_below h40 (heap_below hst4 n1')
 have k7 := heap_below h40 (heap_below hst4 n2)
 have k8 := heap_below h40 (heap_below hst4 n3)
 have HK6 : Hid (∀ W, Below M0.heap.size M0 W → W.heap[w.heap.size]? = some (.cells #[.slice va s.lines.length vc, .int .i64 s.anc.line, .int .i64 s.anc.col, .int .i64 s.foc.line, .int .i64 s.foc.col, .int .i64 s.on, .int .i64 s.off] 26) ∧ W.heap[w.heap.size + 1]? = some (.cells #[.slice ua t.lines.length uc, .int .i64 t.anc.line, .int .i64 t.anc.col, .int .i64 t.foc.line, .int .i64 t.foc.col, .int .i64 t.on, .int .i64 t.off] 26) ∧ W.heap[w3.heap.size]? = some (.cells #[.int .i64 C.line, .int .i64 C.col] 24) ∧ W.heap[w3.heap.size + 1]? = some (.cells #[.int .i64 D.line, .int .i64 D.col] 24) ∧ W.heap[w4.heap.size]? = some (.cells #[.int .i64 C.line, .int .i64 C.col] 24) ∧ W.heap[w4.heap.size + 1]? = some (.cells #[.int .i64 D.line, .int .i64 D.col] 24) ∧ W.heap[w2.heap.size]? = some (.cells #[.slice x2 s.lines.length y2, .int .i64 s.anc.line, .int .i64 s.anc.col, .int .i64 s.foc.line, .int .i64 s.foc.col, .int .i64 s.on, .int .i64 s.off] 26) ∧ W.heap[w.heap.size + 2]? = some (.cells #[.int .i64 A.line, .int .i64 A.col] 24) ∧ W.heap[w.heap.size + 3]? = some (.cells #[.int .i64 B.line, .int .i64 B.col] 24)) := Lib.hid fun W hW => ⟨(HB.out W (below_from hbM0 hW)).1, (HB.out W (below_from hbM0 hW)).2.1, heap_below hW k7, heap_below hW k8, heap_below hW n4, heap_below hW n5, heap_below hW k6, (HB.out W (below_from hbM0 hW)).2.2.1, (HB.out W (below_from hbM0 hW)).2.2.2⟩
 have HMa : Hid (∀ W, Below M0.heap.size M0 W → Calls Tryz.prog 27 #[stV (.slice va s.lines.length vc) s] W fun e w' => e = .returned (.bool (mayS s)) ∧ Below W.heap.size W w') := Lib.hid fun W hW => stMay_any _ s W S (HV.out W (below_from hbM0 hW)) (HE.out W (below_from hbM0 hW)) HSF.out.1
 have HMb : Hid (∀ W, Below M0.heap.size M0 W → Calls Tryz.prog 70 #[stV (.slice va s.lines.length vc) s] W fun e w' => e = .returned (.bool (mayS s)) ∧ Below W.heap.size W w') := Lib.hid fun W hW => refStMay_any _ s W S (HV.out W (below_from hbM0 hW)) HSF.out.1 HI.out.1 HI.out.2
 have HSt : Hid (∀ W, Below M0.heap.size M0 W → Calls Tryz.prog 67 #[stV (.slice va s.lines.length vc) s, stV (.slice ua t.lines.length uc) t] W fun e w' => e = .returned (.bool (decide (s = t))) ∧ Below W.heap.size W w') := Lib.hid fun W hW => stSame_any _ _ s t W S T (HV.out W (below_from hbM0 hW)) (HU.out W (below_from hbM0 hW))
 have HSr : Hid (∀ W, Below M0.heap.size M0 W → Calls Tryz.prog 40 #[stV (.slice va s.lines.length vc) s, stV (.slice ua t.lines.length uc) t] W fun e w' => e = .returned (.bool (decide (s = t))) ∧ Below W.heap.size W w') := Lib.hid fun W hW => refStSame_any _ _ s t W S T (HV.out W (below_from hbM0 hW)) (HU.out W (below_from hbM0 hW))
 have HSs : Hid (∀ W, Below M0.heap.size M0 W → Calls Tryz.prog 67 #[stV (.slice va s.lines.length vc) s, stV (.slice va s.lines.length vc) s] W fun e w' => e = .returned (.bool true) ∧ Below W.heap.size W w') := Lib.hid fun W hW => by
  have := stSame_any (.slice va s.lines.length vc) (.slice va s.lines.length vc) s s W S S (HV.out W (below_from hbM0 hW)) (HV.out W (below_from hbM0 hW))
  rw [decide_eq_true rfl] at this
  exact this
 obtain ⟨bm, hbm⟩ : ∃ bm, mayS s = bm := ⟨_, rfl⟩
 rw [hbm] at HMa HMb
 obtain ⟨bt, hbt⟩ : ∃ bt, decide (s = t) = bt := ⟨_, rfl⟩
 rw [hbt] at HSt HSr
 have hqC := fun (w : World) => run_neq_pos C C w
 have hqD := fun (w : World) => run_neq_pos D D w
 rw [decide_eq_true rfl] at hqC hqD
 have zz : w2.heap.size < M0.heap.size := by have := hst3.size; have := hst4.size; omega
 clear hM0 hbm hbt n2 n3 n4 n5 k6 k7 k8 n1' p0 f0 hqn
 refine wp_region_grew M0.heap.size (by kernel_rfl) (by kernel_rfl) ?_
 refine BigFrame.wpQuiet_want (by kernel_rfl) (fun K hK => ?_)
 refine quiet_val ?_ (fun W hW => ?_) (hK _ ?_)
 rotate_left 1
 ·skip
  obtain ⟨p0, f0⟩ := blk (HK6.out _ hW).1
  obtain ⟨p1, f1⟩ := blk (HK6.out _ hW).2.1
  obtain ⟨p7, f7⟩ := blk (HK6.out _ hW).2.2.1
  obtain ⟨p8, f8⟩ := blk (HK6.out _ hW).2.2.2.1
  obtain ⟨p9, f9⟩ := blk (HK6.out _ hW).2.2.2.2.1
  obtain ⟨p10, f10⟩ := blk (HK6.out _ hW).2.2.2.2.2.1
  go_simp
  try rfl
 clear hK
 clear K
 try simp only [Act.put, qI, qX, qY]
 refine BigFrame.wpQuiet_want (by kernel_rfl) (fun K hK => ?_)
 refine quiet_calls (f := ?_) (args := ?_) ?_ (fun W hW => ?_) (fun W hW => ?_) (hK _ ?_)
 rotate_left 3
 ·go_simp
  constructor <;> rfl
 ·refine (HMa.out _ hW).mono ?_
  rintro e W2 ⟨rfl, hbW⟩
  refine ⟨?_, below_from hW hbW⟩
  rfl
 clear hK
 clear K
 try simp only [Act.put, qI, qX, qY]
 refine BigFrame.wpQuiet_want (by kernel_rfl) (fun K hK => ?_)
 refine quiet_val ?_ (fun W hW => ?_) (hK _ ?_)
 rotate_left 1
 ·skip
  obtain ⟨p0, f0⟩ := blk (HK6.out _ hW).1
  obtain ⟨p1, f1⟩ := blk (HK6.out _ hW).2.1
  obtain ⟨p7, f7⟩ := blk (HK6.out _ hW).2.2.1
  obtain ⟨p8, f8⟩ := blk (HK6.out _ hW).2.2.2.1
  obtain ⟨p9, f9⟩ := blk (HK6.out _ hW).2.2.2.2.1
  obtain ⟨p10, f10⟩ := blk (HK6.out _ hW).2.2.2.2.2.1
  go_simp
  try rfl
 clear hK
 clear K
 try simp only [Act.put, qI, qX, qY]
 refine BigFrame.wpQuiet_want (by kernel_rfl) (fun K hK => ?_)
 refine quiet_calls (f := ?_) (args := ?_) ?_ (fun W hW => ?_) (fun W hW => ?_) (hK _ ?_)
 rotate_left 3
 ·go_simp
  constructor <;> rfl
 ·refine (HMb.out _ hW).mono ?_
  rintro e W2 ⟨rfl, hbW⟩
  refine ⟨?_, below_from hW hbW⟩
  rfl
 clear hK
 clear K
 try simp only [Act.put, qI, qX, qY]
 refine BigFrame.wpQuiet_want (by kernel_rfl) (fun K hK => ?_)
 refine quiet_val ?_ (fun W hW => ?_) (hK _ ?_)
 rotate_left 1
 ·skip
  go_simp
  try rfl
 clear hK
 clear K
 try simp only [Act.put, qI, qX, qY]
 refine BigFrame.wpQuiet_want (by kernel_rfl) (fun K hK => ?_)
 refine quiet_val ?_ (fun W hW => ?_) (hK _ ?_)
 rotate_left 1
 ·skip
  go_simp
  try rfl
 clear hK
 clear K
 try simp only [Act.put, qI, qX, qY]
 refine BigFrame.wpQuiet_want (by kernel_rfl) (fun K hK => ?_)
 refine quiet_val ?_ (fun W hW => ?_) (hK _ ?_)
 rotate_left 1
 ·skip
  obtain ⟨p0, f0⟩ := blk (HK6.out _ hW).1
  obtain ⟨p1, f1⟩ := blk (HK6.out _ hW).2.1
  obtain ⟨p7, f7⟩ := blk (HK6.out _ hW).2.2.1
  obtain ⟨p8, f8⟩ := blk (HK6.out _ hW).2.2.2.1
  obtain ⟨p9, f9⟩ := blk (HK6.out _ hW).2.2.2.2.1
  obtain ⟨p10, f10⟩ := blk (HK6.out _ hW).2.2.2.2.2.1
  go_simp
  try rfl
 clear hK
 clear K
 try simp only [Act.put, qI, qX, qY]
 refine BigFrame.wpQuiet_want (by kernel_rfl) (fun K hK => ?_)
 refine quiet_val ?_ (fun W hW => ?_) (hK _ ?_)
 rotate_left 1
 ·skip
  obtain ⟨p0, f0⟩ := blk (HK6.out _ hW).1
  obtain ⟨p1, f1⟩ := blk (HK6.out _ hW).2.1
  obtain ⟨p7, f7⟩ := blk (HK6.out _ hW).2.2.1
  obtain ⟨p8, f8⟩ := blk (HK6.out _ hW).2.2.2.1
  obtain ⟨p9, f9⟩ := blk (HK6.out _ hW).2.2.2.2.1
  obtain ⟨p10, f10⟩ := blk (HK6.out _ hW).2.2.2.2.2.1
  go_simp
  try rfl
 clear hK
 clear K
 try simp only [Act.put, qI, qX, qY]
 refine BigFrame.wpQuiet_want (by kernel_rfl) (fun K hK => ?_)
 refine quiet_calls (f := ?_) (args := ?_) ?_ (fun W hW => ?_) (fun W hW => ?_) (hK _ ?_)
 rotate_left 3
 ·go_simp
  constructor <;> rfl
 ·refine (HSt.out _ hW).mono ?_
  rintro e W2 ⟨rfl, hbW⟩
  refine ⟨?_, below_from hW hbW⟩
  rfl
 clear hK
 clear K
 try simp only [Act.put, qI, qX, qY]
 refine BigFrame.wpQuiet_want (by kernel_rfl) (fun K hK => ?_)
 refine quiet_val ?_ (fun W hW => ?_) (hK _ ?_)
 rotate_left 1
 ·skip
  obtain ⟨p0, f0⟩ := blk (HK6.out _ hW).1
  obtain ⟨p1, f1⟩ := blk (HK6.out _ hW).2.1
  obtain ⟨p7, f7⟩ := blk (HK6.out _ hW).2.2.1
  obtain ⟨p8, f8⟩ := blk (HK6.out _ hW).2.2.2.1
  obtain ⟨p9, f9⟩ := blk (HK6.out _ hW).2.2.2.2.1
  obtain ⟨p10, f10⟩ := blk (HK6.out _ hW).2.2.2.2.2.1
  go_simp
  try rfl
 clear hK
 clear K
 try simp only [Act.put, qI, qX, qY]
 refine BigFrame.wpQuiet_want (by kernel_rfl) (fun K hK => ?_)
 refine quiet_val ?_ (fun W hW => ?_) (hK _ ?_)
 rotate_left 1
 ·skip
  obtain ⟨p0, f0⟩ := blk (HK6.out _ hW).1
  obtain ⟨p1, f1⟩ := blk (HK6.out _ hW).2.1
  obtain ⟨p7, f7⟩ := blk (HK6.out _ hW).2.2.1
  obtain ⟨p8, f8⟩ := blk (HK6.out _ hW).2.2.2.1
  obtain ⟨p9, f9⟩ := blk (HK6.out _ hW).2.2.2.2.1
  obtain ⟨p10, f10⟩ := blk (HK6.out _ hW).2.2.2.2.2.1
  go_simp
  try rfl
 clear hK
 clear K
 try simp only [Act.put, qI, qX, qY]
 refine BigFrame.wpQuiet_want (by kernel_rfl) (fun K hK => ?_)
 refine quiet_calls (f := ?_) (args := ?_) ?_ (fun W hW => ?_) (fun W hW => ?_) (hK _ ?_)
 rotate_left 3
 ·go_simp
  constructor <;> rfl
 ·refine (HSr.out _ hW).mono ?_
  rintro e W2 ⟨rfl, hbW⟩
  refine ⟨?_, below_from hW hbW⟩
  rfl
 clear hK
 clear K
 try simp only [Act.put, qI, qX, qY]
 refine BigFrame.wpQuiet_want (by kernel_rfl) (fun K hK => ?_)
 refine quiet_val ?_ (fun W hW => ?_) (hK _ ?_)
 rotate_left 1
 ·skip
  go_simp
  try rfl
 clear hK
 clear K
 try simp only [Act.put, qI, qX, qY]
 refine BigFrame.wpQuiet_want (by kernel_rfl) (fun K hK => ?_)
 refine quiet_val ?_ (fun W hW => ?_) (hK _ ?_)
 rotate_left 1
 ·skip
  go_simp
  try rfl
 clear hK
 clear K
 try simp only [Act.put, qI, qX, qY]
 refine BigFrame.wpQuiet_want (by kernel_rfl) (fun K hK => ?_)
 refine quiet_val ?_ (fun W hW => ?_) (hK _ ?_)
 rotate_left 1
 ·skip
  go_simp
  try rfl
 clear hK
 clear K
 try simp only [Act.put, qI, qX, qY]
 refine BigFrame.wpQuiet_want (by kernel_rfl) (fun K hK => ?_)
 refine quiet_val ?_ (fun W hW => ?_) (hK _ ?_)
 rotate_left 1
 ·skip
  obtain ⟨p0, f0⟩ := blk (HK6.out _ hW).1
  obtain ⟨p1, f1⟩ := blk (HK6.out _ hW).2.1
  obtain ⟨p7, f7⟩ := blk (HK6.out _ hW).2.2.1
  obtain ⟨p8, f8⟩ := blk (HK6.out _ hW).2.2.2.1
  obtain ⟨p9, f9⟩ := blk (HK6.out _ hW).2.2.2.2.1
  obtain ⟨p10, f10⟩ := blk (HK6.out _ hW).2.2.2.2.2.1
  go_simp
  try rfl
 clear hK
 clear K
 try simp only [Act.put, qI, qX, qY]
 refine BigFrame.wpQuiet_want (by kernel_rfl) (fun K hK => ?_)
 refine quiet_val ?_ (fun W hW => ?_) (hK _ ?_)
 rotate_left 1
 ·skip
  obtain ⟨p0, f0⟩ := blk (HK6.out _ hW).1
  obtain ⟨p1, f1⟩ := blk (HK6.out _ hW).2.1
  obtain ⟨p7, f7⟩ := blk (HK6.out _ hW).2.2.1
  obtain ⟨p8, f8⟩ := blk (HK6.out _ hW).2.2.2.1
  obtain ⟨p9, f9⟩ := blk (HK6.out _ hW).2.2.2.2.1
  obtain ⟨p10, f10⟩ := blk (HK6.out _ hW).2.2.2.2.2.1
  go_simp
  try rfl
 clear hK
 clear K
 try simp only [Act.put, qI, qX, qY]
 refine BigFrame.wpQuiet_want (by kernel_rfl) (fun K hK => ?_)
 refine quiet_calls (f := ?_) (args := ?_) ?_ (fun W hW => ?_) (fun W hW => ?_) (hK _ ?_)
 rotate_left 3
 ·go_simp
  constructor <;> rfl
 ·refine (HSs.out _ hW).mono ?_
  rintro e W2 ⟨rfl, hbW⟩
  refine ⟨?_, below_from hW hbW⟩
  rfl
 clear hK
 clear K
 try simp only [Act.put, qI, qX, qY]
 refine BigFrame.wpQuiet_want (by kernel_rfl) (fun K hK => ?_)
 refine quiet_val ?_ (fun W hW => ?_) (hK _ ?_)
 rotate_left 1
 ·skip
  go_simp
  try rfl
 clear hK
 clear K
 try simp only [Act.put, qI, qX, qY]
 refine BigFrame.wpQuiet_want (by kernel_rfl) (fun K hK => ?_)
 refine quiet_val ?_ (fun W hW => ?_) (hK _ ?_)
 rotate_left 1
 ·skip
  go_simp
  try rfl
 clear hK
 clear K
 try simp only [Act.put, qI, qX, qY]
 refine BigFrame.wpQuiet_want (by kernel_rfl) (fun K hK => ?_)
 refine quiet_val ?_ (fun W hW => ?_) (hK _ ?_)
 rotate_left 1
 ·skip
  go_simp
  try rfl
 clear hK
 clear K
 try simp only [Act.put, qI, qX, qY]
 refine BigFrame.wpQuiet_want (by kernel_rfl) (fun K hK => ?_)
 refine quiet_val ?_ (fun W hW => ?_) (hK _ ?_)
 rotate_left 1
 ·skip
  obtain ⟨p0, f0⟩ := blk (HK6.out _ hW).1
  obtain ⟨p1, f1⟩ := blk (HK6.out _ hW).2.1
  obtain ⟨p7, f7⟩ := blk (HK6.out _ hW).2.2.1
  obtain ⟨p8, f8⟩ := blk (HK6.out _ hW).2.2.2.1
  obtain ⟨p9, f9⟩ := blk (HK6.out _ hW).2.2.2.2.1
  obtain ⟨p10, f10⟩ := blk (HK6.out _ hW).2.2.2.2.2.1
  go_simp
  try rfl
 clear hK
 clear K
 try simp only [Act.put, qI, qX, qY]
 refine BigFrame.wpQuiet_want (by kernel_rfl) (fun K hK => ?_)
 refine quiet_val ?_ (fun W hW => ?_) (hK _ ?_)
 rotate_left 1
 ·skip
  obtain ⟨p0, f0⟩ := blk (HK6.out _ hW).1
  obtain ⟨p1, f1⟩ := blk (HK6.out _ hW).2.1
  obtain ⟨p7, f7⟩ := blk (HK6.out _ hW).2.2.1
  obtain ⟨p8, f8⟩ := blk (HK6.out _ hW).2.2.2.1
  obtain ⟨p9, f9⟩ := blk (HK6.out _ hW).2.2.2.2.1
  obtain ⟨p10, f10⟩ := blk (HK6.out _ hW).2.2.2.2.2.1
  go_simp
  try rfl
 clear hK
 clear K
 try simp only [Act.put, qI, qX, qY]
 refine BigFrame.wpQuiet_want (by kernel_rfl) (fun K hK => ?_)
 refine quiet_val ?_ (fun W hW => ?_) (hK _ ?_)
 rotate_left 1
 ·skip
  go_simp
  try rfl
 clear hK
 clear K
 try simp only [Act.put, qI, qX, qY]
 refine BigFrame.wpQuiet_want (by kernel_rfl) (fun K hK => ?_)
 refine quiet_val ?_ (fun W hW => ?_) (hK _ ?_)
 rotate_left 1
 ·skip
  go_simp
  try rfl
 clear hK
 clear K
 try simp only [Act.put, qI, qX, qY]
 refine BigFrame.wpQuiet_want (by kernel_rfl) (fun K hK => ?_)
 refine quiet_val ?_ (fun W hW => ?_) (hK _ ?_)
 rotate_left 1
 ·skip
  go_simp
  try rfl
 clear hK
 clear K
 try simp only [Act.put, qI, qX, qY]
 refine BigFrame.wpQuiet_want (by kernel_rfl) (fun K hK => ?_)
 refine quiet_val ?_ (fun W hW => ?_) (hK _ ?_)
 rotate_left 1
 ·skip
  obtain ⟨p0, f0⟩ := blk (HK6.out _ hW).1
  obtain ⟨p1, f1⟩ := blk (HK6.out _ hW).2.1
  obtain ⟨p7, f7⟩ := blk (HK6.out _ hW).2.2.1
  obtain ⟨p8, f8⟩ := blk (HK6.out _ hW).2.2.2.1
  obtain ⟨p9, f9⟩ := blk (HK6.out _ hW).2.2.2.2.1
  obtain ⟨p10, f10⟩ := blk (HK6.out _ hW).2.2.2.2.2.1
  go_simp
  try rfl
 clear hK
 clear K
 try simp only [Act.put, qI, qX, qY]
 refine BigFrame.wpQuiet_want (by kernel_rfl) (fun K hK => ?_)
 refine quiet_val ?_ (fun W hW => ?_) (hK _ ?_)
 rotate_left 1
 ·skip
  obtain ⟨p0, f0⟩ := blk (HK6.out _ hW).1
  obtain ⟨p1, f1⟩ := blk (HK6.out _ hW).2.1
  obtain ⟨p7, f7⟩ := blk (HK6.out _ hW).2.2.1
  obtain ⟨p8, f8⟩ := blk (HK6.out _ hW).2.2.2.1
  obtain ⟨p9, f9⟩ := blk (HK6.out _ hW).2.2.2.2.1
  obtain ⟨p10, f10⟩ := blk (HK6.out _ hW).2.2.2.2.2.1
  go_simp
  try rfl
 clear hK
 clear K
 try simp only [Act.put, qI, qX, qY]
 refine BigFrame.wpQuiet_want (by kernel_rfl) (fun K hK => ?_)
 refine quiet_val ?_ (fun W hW => ?_) (hK _ ?_)
 rotate_left 1
 ·skip
  go_simp
  try rfl
 clear hK
 clear K
 try simp only [Act.put, qI, qX, qY]
 refine BigFrame.wpQuiet_want (by kernel_rfl) (fun K hK => ?_)
 refine quiet_val ?_ (fun W hW => ?_) (hK _ ?_)
 rotate_left 1
 ·skip
  go_simp
  try rfl
 clear hK
 clear K
 try simp only [Act.put, qI, qX, qY]
 refine wpQuiet_nil (fun M hstM => ?_)
 have hcM := below_from hbM0 hstM
 have hbM : Below W1.heap.size W1 M := hcM
 have zM : w2.heap.size < M.heap.size := by have := hstM.size; omega
 have HBM : Hid (∀ W, Below M.heap.size M W → Below W1.heap.size W1 W) := Lib.hid fun W hW => below_from hbM hW
 have HK : Hid (∀ W, Below M.heap.size M W → W.heap[w.heap.size]? = some (.cells #[.slice va s.lines.length vc, .int .i64 s.anc.line, .int .i64 s.anc.col, .int .i64 s.foc.line, .int .i64 s.foc.col, .int .i64 s.on, .int .i64 s.off] 26) ∧ W.heap[w2.heap.size]? = some (.cells #[.slice x2 s.lines.length y2, .int .i64 s.anc.line, .int .i64 s.anc.col, .int .i64 s.foc.line, .int .i64 s.foc.col, .int .i64 s.on, .int .i64 s.off] 26) ∧ W.heap[w.heap.size + 2]? = some (.cells #[.int .i64 A.line, .int .i64 A.col] 24) ∧ W.heap[w.heap.size + 3]? = some (.cells #[.int .i64 B.line, .int .i64 B.col] 24)) := Lib.hid fun W hW => have h9 := HK6.out W (below_from hstM hW); ⟨h9.1, h9.2.2.2.2.2.2.1, h9.2.2.2.2.2.2.2.1, h9.2.2.2.2.2.2.2.2⟩
 have HV0 : Hid (∀ W, Below M.heap.size M W → LinsR W S (.slice va s.lines.length vc) s.lines) := Lib.hid fun W hW => HV.out W (HBM.out W hW)
 have H2M : Below w2.heap.size w2 M := below_from h21 (below_from hst3 (below_from h32 (below_from hst4 (below_from h40 hstM))))
 have HVO : Hid (∀ W, Below M.heap.size M W → LinsR W (fun b => wl.heap.size ≤ b) (.slice x2 s.lines.length y2) s.lines) := Lib.hid fun W hW => (((DocR.read HV2.out).below (rdLin_stable _) H2M)).below (rdLin_stable _) hW
 have HE0 : Hid (∀ W, Below M.heap.size M W → EnvT W) := Lib.hid fun W hW => HE.out W (HBM.out W hW)
 have hm0 : Below M.heap.size M M := Below.refl _ _
 have hwz : w.heap.size + 4 ≤ w2.heap.size := by have := hb2.size; omega
 have HP1 : Hid (∀ W, Below M.heap.size M W → Calls Tryz.prog 63 #[.slice va s.lines.length vc] W (StSaid (newS s.lines) W)) := Lib.hid fun W hW => typNew_any _ s.lines W S (HV0.out W hW) (HE0.out W hW) HSF.out.1 HSF.out.2
 have HQ1 : Hid (∀ W, Below M.heap.size M W → Calls Tryz.prog 71 #[.slice x2 s.lines.length y2] W (StSaid (newS s.lines) W)) := Lib.hid fun W hW => refNew_any _ s.lines W _ (HVO.out W hW) HSF.out.1 HSF.out.2
 have HP2 : Hid (∀ W, Below M.heap.size M W → Calls Tryz.prog 68 #[stV (.slice va s.lines.length vc) s, .agg #[.int .i64 A.line, .int .i64 A.col], .agg #[.int .i64 B.line, .int .i64 B.col]] W (StSaid (selectS s A B) W)) := Lib.hid fun W hW => typSelect_any _ s A B W S (HV0.out W hW) (HE0.out W hW) HSF.out.1 HSF.out.2
 have HQ2 : Hid (∀ W, Below M.heap.size M W → Calls Tryz.prog 72 #[stV (.slice x2 s.lines.length y2) s, .agg #[.int .i64 A.line, .int .i64 A.col], .agg #[.int .i64 B.line, .int .i64 B.col]] W (StSaid (selectS s A B) W)) := Lib.hid fun W hW => refSelect_any _ s A B W _ (HVO.out W hW) HI.out.1 HI.out.2 HSF.out.1 HSF.out.2
 have HOw : Hid (∀ W, Below M.heap.size M W → Calls Tryz.prog 41 #[stV (.slice va s.lines.length vc) s] W fun e w' => ∃ v', e = .returned (stV v' s) ∧ DocR true w' (fun b => W.heap.size ≤ b) v' s.lines ∧ Below W.heap.size W w') := Lib.hid fun W hW => stOwn_any _ s W S (HV0.out W hW) HSF.out.2
 obtain ⟨X1, hX1⟩ : ∃ X, newS s.lines = X := ⟨_, rfl⟩
 rw [hX1] at HP1 HQ1
 clear hX1
 obtain ⟨X2, hX2⟩ : ∃ X, selectS s A B = X := ⟨_, rfl⟩
 rw [hX2] at HP2 HQ2
 clear hX2
 have HIs : Hid (∀ (a b : Value) (X : St × Int) W (T : Nat → Prop), Below M.heap.size M W → DocR true W (fun b => M.heap.size ≤ b) a X.1.lines → LinsR W T b X.1.lines → Calls Tryz.prog 47 #[stV a X.1, .int .i64 X.2, stV b X.1, .int .i64 X.2] W fun r w' => r = .returned (.bool true) ∧ Below M.heap.size W w' ∧ KeepSt W w') := Lib.hid fun a b X W T hW ha hb => by
  have := lawIs23_any a b X.1 X.1 X.2 X.2 M.heap.size W T hW.size ha hb
  rw [decide_eq_true rfl, decide_eq_true rfl] at this
  exact this
 have HSa : Hid (∀ W, Below M.heap.size M W → Calls Tryz.prog 40 #[stV (.slice va s.lines.length vc) s, stV (.slice x2 s.lines.length y2) s] W fun e w' => e = .returned (.bool true) ∧ Below W.heap.size W w') := Lib.hid fun W hW => by
  have := refStSame_any (.slice va s.lines.length vc) (.slice x2 s.lines.length y2) s s W S _ (HV0.out W hW) (HVO.out W hW)
  rw [decide_eq_true rfl] at this
  exact this
 clear hbM HV2 HST2 H2M hstM hcM hqC hqD HSp1 HSp2 HMa HMb HSt HSr HSs hst3 hst4 h21 h32 h40 hbM1 hbM2 hbM0 hb3 hb4 zM0 zM1 zM2 zz HK6 HLo HLt
 obtain ⟨p0, f0⟩ := blk (HK.out _ hm0).1
 go_wp2_with fail
 with_reducible refine (HP1.out _ hm0).mono ?_
 intro e w3 hsaid
 obtain ⟨v3, rfl, hv3, hst3⟩ := hsaid
 obtain ⟨x3, y3, hve3⟩ := hv3.slice
 subst hve3
 have hb3 := below_from hm0 hst3
 have HV3 := Lib.hid hv3
 clear hv3
 obtain ⟨q3, g3⟩ := blk (HK.out _ hb3).2.1
 have r3 := on1 (HK.out _ hb3).2.1
 have hz3 := hb3.size
 have e32 : ¬ w3.heap.size = w2.heap.size := by omega
 go_wp2_with fail
 obtain ⟨m3, hm3⟩ : ∃ m3, w3.alloc (.cells #[.slice x3 X1.1.lines.length y3, .int .i64 X1.1.anc.line, .int .i64 X1.1.anc.col, .int .i64 X1.1.foc.line, .int .i64 X1.1.foc.col, .int .i64 X1.1.on, .int .i64 X1.1.off] 26) = m3 := ⟨_, rfl⟩
 rw [hm3]
 have hbm3 : Below w3.heap.size w3 m3 := hm3 ▸ below1 (Below.refl _ _) _
 have zm3 : m3.heap.size = w3.heap.size + 1 := by rw [← hm3]; simp
 have n3 : m3.heap[w3.heap.size]? = some (.cells #[.slice x3 X1.1.lines.length y3, .int .i64 X1.1.anc.line, .int .i64 X1.1.anc.col, .int .i64 X1.1.foc.line, .int .i64 X1.1.foc.col, .int .i64 X1.1.on, .int .i64 X1.1.off] 26) := hm3 ▸ heap_new _ _ rfl
 have hc3 := below_from hb3 hbm3
 have HD3 := Lib.hid (HV3.out.below hbm3)
 clear hm3 q3 g3 r3 hbm3
 with_reducible refine (HQ1.out _ hc3).mono ?_
 intro e w4 hsaid
 obtain ⟨v4, rfl, hv4, hst4⟩ := hsaid
 obtain ⟨x4, y4, hve4⟩ := hv4.slice
 subst hve4
 have hb4 := below_from hc3 hst4
 have HV4 := Lib.hid hv4
 clear hv4
 have n4 := heap_below hst4 n3
 obtain ⟨q4, g4⟩ := blk n4
 have r4 := on1 n4
 have hz4 := hst4.size
 have e43 : ¬ w4.heap.size = w3.heap.size := by omega
 go_wp2_with fail
 obtain ⟨m4, hm4⟩ : ∃ m4, w4.alloc (.cells #[.slice x4 X1.1.lines.length y4, .int .i64 X1.1.anc.line, .int .i64 X1.1.anc.col, .int .i64 X1.1.foc.line, .int .i64 X1.1.foc.col, .int .i64 X1.1.on, .int .i64 X1.1.off] 26) = m4 := ⟨_, rfl⟩
 rw [hm4]
 have hbm4 : Below w4.heap.size w4 m4 := hm4 ▸ below1 (Below.refl _ _) _
 have zm4 : m4.heap.size = w4.heap.size + 1 := by rw [← hm4]; simp
 have K10_0 : m4.heap[w4.heap.size]? = some (.cells #[.slice x4 X1.1.lines.length y4, .int .i64 X1.1.anc.line, .int .i64 X1.1.anc.col, .int .i64 X1.1.foc.line, .int .i64 X1.1.foc.col, .int .i64 X1.1.on, .int .i64 X1.1.off] 26) := hm4 ▸ heap_new _ _ rfl
 have K8_0 := heap_below hbm4 n4
 have hc4 := below_from hb4 hbm4
 have HI1 := Lib.hid (HIs.out (.slice x3 X1.1.lines.length y3) (.slice x4 X1.1.lines.length y4) X1 m4 _ hc4 ((HD3.out.below hst4).below hbm4) ((DocR.read HV4.out).below (rdLin_stable _) hbm4))
 clear hm4 q4 g4 r4
 with_reducible refine HI1.out.mono ?_
 rintro e w5 ⟨rfl, hst5, hks5⟩
 have hb5 : Below M.heap.size M w5 := hc4.trans hst5
 have K8 := Lib.hid (hks5 _ _ K8_0)
 have K10 := Lib.hid (hks5 _ _ K10_0)
 have hz5 := hst5.size
 clear K8_0 K10_0 n3 n4 hks5 HD3 HV3 HV4 hst3 hst4 hst5 hbm4
 have e34 : ¬ w3.heap.size = w4.heap.size := by omega
 have e23 : ¬ w2.heap.size = w3.heap.size := by omega
 have e24 : ¬ w2.heap.size = w4.heap.size := by omega
 have e42 : ¬ w4.heap.size = w2.heap.size := by omega
 have e03 : ¬ w.heap.size = w3.heap.size := by omega
 have e30 : ¬ w3.heap.size = w.heap.size := by omega
 have l3 : M.heap.size ≤ w3.heap.size := by omega
 have l4 : M.heap.size ≤ w4.heap.size := by omega
 have z5 : w3.heap.size < w5.heap.size ∧ w4.heap.size < w5.heap.size := by omega
 obtain ⟨q0, g0⟩ := blk (HK.out _ hb5).1
 obtain ⟨q2, g2⟩ := blk (HK.out _ hb5).2.2.1
 obtain ⟨q3, g3⟩ := blk (HK.out _ hb5).2.2.2
 go_wp2_with fail
 with_reducible refine (HP2.out _ hb5).mono ?_
 intro e w6 hsaid
 obtain ⟨v6, rfl, hv6, hst6⟩ := hsaid
 obtain ⟨x6, y6, hve6⟩ := hv6.slice
 subst hve6
 have hb6 := below_from hb5 hst6
 have HV6 := Lib.hid hv6
 have K8a := heap_below hst6 K8.out
 have K10a := heap_below hst6 K10.out
 clear q0 g0 q2 g2 q3 g3
 obtain ⟨q8, g8⟩ := blk K8a
 obtain ⟨q7, g7⟩ := blk (HK.out _ hb6).2.1
 obtain ⟨q2, g2⟩ := blk (HK.out _ hb6).2.2.1
 obtain ⟨q3, g3⟩ := blk (HK.out _ hb6).2.2.2
 have hz6 := hst6.size
 clear hv6
 go_wp2_with fail
 obtain ⟨m6, hm6, n6, b6, o6, s6⟩ := set_st w6 w3.heap.size K8a (.slice x6 X2.1.lines.length y6) (.int .i64 X2.1.anc.line) (.int .i64 X2.1.anc.col) (.int .i64 X2.1.foc.line) (.int .i64 X2.1.foc.col) (.int .i64 X2.1.on) (.int .i64 X2.1.off)
 rw [hm6]
 have hc6 : Below M.heap.size M m6 := hb6.trans (b6 _ l3)
 have HD6 : Hid (DocR true m6 (fun b => w5.heap.size ≤ b) (.slice x6 X2.1.lines.length y6) X2.1.lines) := Lib.hid (SliceR.stable (rdLin_stable true) HV6.out ⟨Nat.le_of_eq s6.symm, fun b hb _ => o6 b (fun e => by have hb : w5.heap.size ≤ b := hb; omega)⟩ (fun _ h _ => h))
 have K10b := (o6 w4.heap.size e43).trans K10a
 clear hm6 b6 o6 q8 g8 q7 g7 K8a K10a HV6
 with_reducible refine (HQ2.out _ hc6).mono ?_
 intro e w7 hsaid
 obtain ⟨v7, rfl, hv7, hst7⟩ := hsaid
 obtain ⟨x7, y7, hve7⟩ := hv7.slice
 subst hve7
 have hb7 := below_from hc6 hst7
 have HV7 := Lib.hid hv7
 have K8c := heap_below hst7 n6
 have K10c := heap_below hst7 K10b
 obtain ⟨q8, g8⟩ := blk K8c
 obtain ⟨q10, g10⟩ := blk K10c
 have hz7 := hst7.size
 clear hv7 n6 K10b
 go_wp2_with fail
 obtain ⟨m7, hm7, n7, b7, o7, s7⟩ := set_st w7 w4.heap.size K10c (.slice x7 X2.1.lines.length y7) (.int .i64 X2.1.anc.line) (.int .i64 X2.1.anc.col) (.int .i64 X2.1.foc.line) (.int .i64 X2.1.foc.col) (.int .i64 X2.1.on) (.int .i64 X2.1.off)
 rw [hm7]
 have hc7 : Below M.heap.size M m7 := hb7.trans (b7 _ l4)
 have HD7 : Hid (DocR true m7 (fun b => m6.heap.size ≤ b) (.slice x7 X2.1.lines.length y7) X2.1.lines) := Lib.hid (SliceR.stable (rdLin_stable true) HV7.out ⟨Nat.le_of_eq s7.symm, fun b hb _ => o7 b (fun e => by have hb : m6.heap.size ≤ b := hb; omega)⟩ (fun _ h _ => h))
 have HF6 : Hid (DocR true m7 (fun b => M.heap.size ≤ b) (.slice x6 X2.1.lines.length y6) X2.1.lines) := Lib.hid (SliceR.stable (rdLin_stable true) (HD6.out.below hst7) ⟨Nat.le_of_eq s7.symm, fun b hb _ => o7 b (fun e => by have hb : w5.heap.size ≤ b := hb; omega)⟩ (fun b h _ => by have h : w5.heap.size ≤ b := h; show M.heap.size ≤ b; omega))
 have K8d := (o7 w3.heap.size e34).trans K8c
 have hd7 : Below m7.heap.size m7 m7.drew := (Below.refl _ _).drew
 have HI2 := Lib.hid (HIs.out (.slice x6 X2.1.lines.length y6) (.slice x7 X2.1.lines.length y7) X2 m7.drew _ hc7.drew (HF6.out.below hd7) (DocR.read (HD7.out.below hd7)))
 clear hm7 b7 o7 q8 g8 q10 g10 K8c K10c HV7
 have HI3 : Hid (∀ (a : Value) W, Below M.heap.size M W → DocR true W (fun b => M.heap.size ≤ b) a s.lines → Calls Tryz.prog 47 #[stV a s, .int .i64 0, stV (.slice x2 s.lines.length y2) s, .int .i64 0] W fun r w' => r = .returned (.bool true) ∧ Below M.heap.size W w' ∧ KeepSt W w') := Lib.hid fun a W hW ha => HIs.out a _ (s, 0) W _ hW ha (HVO.out W hW)
 have HK8a := Lib.hid K8d
 have HK10a := Lib.hid n7
 obtain ⟨q8, g8⟩ := blk K8d
 obtain ⟨q10, g10⟩ := blk n7
 obtain ⟨q0, g0⟩ := blk (HK.out _ hc7).1
 obtain ⟨q7, g7⟩ := blk (HK.out _ hc7).2.1
 clear K8d n7 HD6 HD7 HF6 hst6 hst7
 go_region_held3 (fun w' => w'.cell? ⟨w.heap.size, 0, none⟩ = some (.slice va s.lines.length vc) ∧ w'.cell? ⟨w.heap.size, 1, none⟩ = some (.int .i64 s.anc.line) ∧ w'.cell? ⟨w.heap.size, 2, none⟩ = some (.int .i64 s.anc.col) ∧ w'.cell? ⟨w.heap.size, 3, none⟩ = some (.int .i64 s.foc.line) ∧ w'.cell? ⟨w.heap.size, 4, none⟩ = some (.int .i64 s.foc.col) ∧ w'.cell? ⟨w.heap.size, 5, none⟩ = some (.int .i64 s.on) ∧ w'.cell? ⟨w.heap.size, 6, none⟩ = some (.int .i64 s.off) ∧ w'.cell? ⟨w2.heap.size, 0, none⟩ = some (.slice x2 s.lines.length y2) ∧ w'.cell? ⟨w2.heap.size, 1, none⟩ = some (.int .i64 s.anc.line) ∧ w'.cell? ⟨w2.heap.size, 2, none⟩ = some (.int .i64 s.anc.col) ∧ w'.cell? ⟨w2.heap.size, 3, none⟩ = some (.int .i64 s.foc.line) ∧ w'.cell? ⟨w2.heap.size, 4, none⟩ = some (.int .i64 s.foc.col) ∧ w'.cell? ⟨w2.heap.size, 5, none⟩ = some (.int .i64 s.on) ∧ w'.cell? ⟨w2.heap.size, 6, none⟩ = some (.int .i64 s.off) ∧ w'.cell? ⟨w3.heap.size, 0, none⟩ = some (.slice x6 X2.1.lines.length y6) ∧ w'.cell? ⟨w3.heap.size, 1, none⟩ = some (.int .i64 X2.1.anc.line) ∧ w'.cell? ⟨w3.heap.size, 2, none⟩ = some (.int .i64 X2.1.anc.col) ∧ w'.cell? ⟨w3.heap.size, 3, none⟩ = some (.int .i64 X2.1.foc.line) ∧ w'.cell? ⟨w3.heap.size, 4, none⟩ = some (.int .i64 X2.1.foc.col) ∧ w'.cell? ⟨w3.heap.size, 5, none⟩ = some (.int .i64 X2.1.on) ∧ w'.cell? ⟨w3.heap.size, 6, none⟩ = some (.int .i64 X2.1.off) ∧ w'.cell? ⟨w4.heap.size, 0, none⟩ = some (.slice x7 X2.1.lines.length y7) ∧ w'.cell? ⟨w4.heap.size, 1, none⟩ = some (.int .i64 X2.1.anc.line) ∧ w'.cell? ⟨w4.heap.size, 2, none⟩ = some (.int .i64 X2.1.anc.col) ∧ w'.cell? ⟨w4.heap.size, 3, none⟩ = some (.int .i64 X2.1.foc.line) ∧ w'.cell? ⟨w4.heap.size, 4, none⟩ = some (.int .i64 X2.1.foc.col) ∧ w'.cell? ⟨w4.heap.size, 5, none⟩ = some (.int .i64 X2.1.on) ∧ w'.cell? ⟨w4.heap.size, 6, none⟩ = some (.int .i64 X2.1.off)) (go_keep)
  ((first
   | (go_at_call 47; (with_reducible refine HI2.out.mono ?_); rintro e w8 ⟨rfl, hst8, hks8⟩; have hb8 : Below M.heap.size M w8 := hc7.drew.trans hst8; have HK8b := Lib.hid (hks8 _ _ HK8a.out); have HK10b := Lib.hid (hks8 _ _ HK10a.out); obtain ⟨_, _⟩ := blk (HK.out _ hb8).1; obtain ⟨_, _⟩ := blk (HK.out _ hb8).2.1; obtain ⟨_, _⟩ := blk HK8b.out; obtain ⟨_, _⟩ := blk HK10b.out)
   | (go_at_call 41; (with_reducible refine (HOw.out _ hb8).mono ?_); rintro e w9 ⟨v9, rfl, hv9, hst9⟩; obtain ⟨x9, y9, hve9⟩ := hv9.slice; subst hve9; have hb9 := below_from hb8 hst9; have HV9 := Lib.hid (SliceR.stable (S' := fun b => M.heap.size ≤ b) (rdLin_stable true) hv9 (Keeps.refl _ _) (fun b h _ => Nat.le_trans hb8.size h)); clear hv9; have HK8c := Lib.hid (heap_below hst9 HK8b.out); have HK10c := Lib.hid (heap_below hst9 HK10b.out); obtain ⟨_, _⟩ := blk (HK.out _ hb9).1; obtain ⟨_, _⟩ := blk (HK.out _ hb9).2.1; obtain ⟨_, _⟩ := blk HK8c.out; obtain ⟨_, _⟩ := blk HK10c.out)
   | (go_at_call 47; have h9i := HI3.out _ _ hb9 HV9.out; (with_reducible refine h9i.mono ?_); clear h9i; rintro e w10 ⟨rfl, hst10, hks10⟩; have hb10 : Below M.heap.size M w10 := hb9.trans hst10; have HK8d := Lib.hid (hks10 _ _ HK8c.out); have HK10d := Lib.hid (hks10 _ _ HK10c.out); obtain ⟨_, _⟩ := blk (HK.out _ hb10).1; obtain ⟨_, _⟩ := blk (HK.out _ hb10).2.1; obtain ⟨_, _⟩ := blk HK8d.out; obtain ⟨_, _⟩ := blk HK10d.out)
   | (go_at_call 40; (with_reducible refine (HSa.out _ hb10).mono ?_); rintro e z1 ⟨rfl, hs1z⟩; have hbz := below_from hb10 hs1z; have HK8e := Lib.hid (heap_below hs1z HK8d.out); have HK10e := Lib.hid (heap_below hs1z HK10d.out); obtain ⟨_, _⟩ := blk (HK.out _ hbz).1; obtain ⟨_, _⟩ := blk (HK.out _ hbz).2.1; obtain ⟨_, _⟩ := blk HK8e.out; obtain ⟨_, _⟩ := blk HK10e.out)
   | (go_at_call 44; (with_reducible refine (HA.out _ (HBM.out _ hbz)).mono ?_); rintro e z2 ⟨rfl, hs2z⟩; have hbz2 := below_from hbz hs2z; have HK8f := Lib.hid (heap_below hs2z HK8e.out); have HK10f := Lib.hid (heap_below hs2z HK10e.out); obtain ⟨_, _⟩ := blk (HK.out _ hbz2).1; obtain ⟨_, _⟩ := blk (HK.out _ hbz2).2.1; obtain ⟨_, _⟩ := blk HK8f.out; obtain ⟨_, _⟩ := blk HK10f.out)))
 go_wp2_with fail
 go_ret
 exact ⟨rfl, H1.out.trans ((below_from (HBM.out _ hbz) hs2z).mono hs1)⟩
end Go.Proofs.YtpndnbjpnajaaaaGreatDoor
