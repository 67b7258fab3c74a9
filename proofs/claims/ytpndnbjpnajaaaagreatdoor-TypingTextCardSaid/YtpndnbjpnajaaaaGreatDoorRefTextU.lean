/- The reference's InsertText. -/
import Derived.Test.YtpndnbjpnajaaaaGreatDoorRefBitsU
import Derived.Test.YtpndnbjpnajaaaaGreatDoorStyStaysU
import Derived.Test.YtpndnbjpnajaaaaGreatDoorKeys2U
import Derived.Test.YtpndnbjpnajaaaaGreatDoorKeys1U
set_option linter.unusedVariables false
set_option linter.unusedSimpArgs false
namespace Go.Proofs.YtpndnbjpnajaaaaGreatDoor
open Go.RowKit
open Go.Proofs.Qw
attribute [local go_sem] Oper.semAt_some
set_option maxRecDepth 100000 in
set_option maxHeartbeats 8000000 in
theorem refText_any (v : Value) (s : St) (t : ByteArray) (w : World) (S : Nat → Prop) (h : LinsR w S v s.lines) (hs : Small s.lines) (hf : Fits s.lines) (ho : -9223372036854775808 ≤ s.on ∧ s.on ≤ 9223372036854775807) (hof : -9223372036854775808 ≤ s.off ∧ s.off ≤ 9223372036854775807) (hts : t.size ≤ 1000000) :
  Calls Tryz.prog 55 #[stV v s, .string t] w (StSaid (keyS s (textK s t)) w) := by
 obtain ⟨W1, hW1, hB, hz, k0, k1⟩ := st_two w v s
 have HB : Hid (∀ W, Below W1.heap.size W1 W → W.heap[w.heap.size]? = some (.cells #[v, .int .i64 s.anc.line, .int .i64 s.anc.col, .int .i64 s.foc.line, .int .i64 s.foc.col, .int .i64 s.on, .int .i64 s.off] 26) ∧ W.heap[w.heap.size + 1]? = some (.cells #[.slice none 0 0, .int .i64 0, .int .i64 0, .int .i64 0, .int .i64 0, .int .i64 0, .int .i64 0] 26)) := Lib.hid fun W hW => ⟨heap_below hW k0, heap_below hW k1⟩
 have hs1 := hB.size
 have H1 := Lib.hid hB
 have hw0 : Below W1.heap.size W1 W1 := Below.refl _ _
 have HV : Hid (∀ W, Below W1.heap.size W1 W → LinsR W S v s.lines) := Lib.hid fun W hW => h.below (rdLin_stable _) (hB.trans (hW.mono hs1))
 have HM : Hid (∀ W, Below W1.heap.size W1 W → Calls Tryz.prog 70 #[stV v s] W fun e w' => e = .returned (.bool (mayS s)) ∧ Below W.heap.size W w') := Lib.hid fun W hW => refStMay_any v s W S (HV.out W hW) hs ho hof
 obtain ⟨p0, f0⟩ := blk k0
 obtain ⟨p1, f1⟩ := blk k1
 obtain ⟨va, vc, rfl⟩ := h.slice
 cases hm : mayS s
 ·have HR2 : Hid (keyS s (textK s t) = (noS, 1)) := Lib.hid (key_not hm _)
  rw [hm] at HM
  clear h hs hf ho hof k0 k1 hB hm
  go_enter Tryz.func55, Tryz.ntmps55
  go_wp2_with (go_at_call 70; refine (HM.out _ hw0).mono ?_; rintro e w2 ⟨rfl, hst2⟩; have hb2 := below_from hw0 hst2; obtain ⟨q0, g0⟩ := blk (HB.out _ hb2).1; obtain ⟨q1, g1⟩ := blk (HB.out _ hb2).2)
  refine bodyPost_ret (results_st_e rfl _ _ (w.heap.size + 1) (.slice none 0 0) (.int .i64 0) (.int .i64 0) (.int .i64 0) (.int .i64 0) (.int .i64 0) (.int .i64 0) (.int .i64 1) rfl rfl (by simp [heap_set, putIn, (HB.out _ hb2).2])) rfl ?_
  unfold StSaid
  rw [HR2.out]
  have hfin := H1.out.trans (hb2.mono hs1)
  exact ⟨_, rfl, SliceR.nil _ _ _ _ _ _, by (repeat' (first | (with_reducible exact Below.refl _ _) | (with_reducible assumption) | (with_reducible refine Below.alloc ?_ ?_ _) | (with_reducible refine Below.drew ?_) | (with_reducible refine drewN_below ?_) | (with_reducible refine Below.setCell ?_ ?_ _) | go_size))⟩
 have HT := text_law hm t
 by_cases h8 : 8192 < t.size
 ·have HR2 : Hid (keyS s (textK s t) = (noS, 10)) := Lib.hid (HT.trans (if_pos h8))
  have h8i : (8192 : Int) < (t.size : Int) := by omega
  rw [hm] at HM
  clear h hs hf ho hof k0 k1 hB hm HT h8
  go_enter Tryz.func55, Tryz.ntmps55
  go_wp2_with (go_at_call 70; refine (HM.out _ hw0).mono ?_; rintro e w2 ⟨rfl, hst2⟩; have hb2 := below_from hw0 hst2; obtain ⟨q0, g0⟩ := blk (HB.out _ hb2).1; obtain ⟨q1, g1⟩ := blk (HB.out _ hb2).2)
  refine bodyPost_ret (results_st_e rfl _ _ (w.heap.size + 1) (.slice none 0 0) (.int .i64 0) (.int .i64 0) (.int .i64 0) (.int .i64 0) (.int .i64 0) (.int .i64 0) (.int .i64 10) rfl rfl (by simp [heap_set, putIn, (HB.out _ hb2).2])) rfl ?_
  unfold StSaid
  rw [HR2.out]
  have hfin := H1.out.trans (hb2.mono hs1)
  exact ⟨_, rfl, SliceR.nil _ _ _ _ _ _, by (repeat' (first | (with_reducible exact Below.refl _ _) | (with_reducible assumption) | (with_reducible refine Below.alloc ?_ ?_ _) | (with_reducible refine Below.drew ?_) | (with_reducible refine drewN_below ?_) | (with_reducible refine Below.setCell ?_ ?_ _) | go_size))⟩
 rw [if_neg h8] at HT
 have h8i : ¬ (8192 : Int) < (t.size : Int) := by omega
 obtain ⟨hMo, hsp, hiO, _, hiA⟩ := out_facts hm
 obtain ⟨i, p, l, hA, hl, hpl, hml, hla⟩ := may_at hMo hiO
 have hso := (may_small hMo).1
 have hfo := (may_small hMo).2
 obtain ⟨x, y, hxy⟩ : ∃ x y, aroundF l.cells p = (x, y) := ⟨_, _, rfl⟩
 have hyl : y.length ≤ 1000000 := by
  have h9 : (aroundF l.cells p).2 = y := by rw [hxy]
  rw [← h9]
  unfold aroundF
  simp only
  split
  ·rename_i h1
   have hme : (l.cells.getD (p - 1) default) ∈ l.cells := by
    rw [List.getD_eq_getElem?_getD, List.getElem?_eq_getElem (show p - 1 < l.cells.length by omega)]
    exact List.getElem_mem _
   exact hso.2.2 l (mem_of_at hl) _ hme
  ·simp
 rw [hla, hA] at HT
 simp only [Int.toNat_natCast] at HT
 rw [hxy] at HT
 simp only at HT
 have hcl : (cleanB t).length ≤ t.size := Nat.le_trans (List.length_filterMap_le _ _) (runesB_length t)
 have HXY := Lib.hid hxy
 have HEm0 : Hid (∀ W, Below W1.heap.size W1 W → Calls Tryz.prog 116 #[stV _ s] W fun e w' => ∃ v', e = .returned (.tuple #[v', .agg #[.int .i64 (spanS s).1.line, .int .i64 (spanS s).1.col]]) ∧ DocR true w' (fun b => W.heap.size ≤ b) v' (outS s) ∧ Below W.heap.size W w') := Lib.hid fun W hW => refEmpty_any _ s W S (HV.out W hW) hs hf hm
 rw [hA] at HEm0
 have HBi : Hid (∀ W, Below W1.heap.size W1 W → Calls Tryz.prog 131 #[stV _ s] W fun e w' => e = .returned (.int .i64 (typB s)) ∧ Below W.heap.size W w') := Lib.hid fun W hW => refBits_any _ s W S (HV.out W hW) hs hf hm
 have HOf0 : Hid (∀ b W, Calls Tryz.prog 130 #[.string t, .int .i64 b, .string ⟨y.toArray⟩] W fun e w' => ∃ v, e = .returned v ∧ CelsR true w' (fun b => W.heap.size ≤ b) v (cellsOf (cleanB t) b y) ∧ Below W.heap.size W w') := Lib.hid fun b W => refCOf_any t b y W (by omega)
 have hml2 : ∀ b, (cellsOf (cleanB t) b y).length ≤ 1000000 := fun b => by unfold cellsOf; rw [List.length_map]; omega
 have hmh2 : ∀ b, ∀ c ∈ cellsOf (cleanB t) b y, c.href.length ≤ 1000000 := fun b c hc => by
  unfold cellsOf at hc
  obtain ⟨r, _, rfl⟩ := List.mem_map.1 hc
  exact hyl
 obtain ⟨O, hO⟩ : ∃ O, outS s = O := ⟨_, rfl⟩
 rw [hO] at hl hso hfo HEm0 HT
 have HEm : Hid (∀ W, Below W1.heap.size W1 W → Calls Tryz.prog 116 #[stV _ s] W fun e w' => ∃ v', e = .returned (.tuple #[v', .agg #[.int .i64 i, .int .i64 p]]) ∧ DocR true w' (fun b => W.heap.size ≤ b) v' O ∧ Below W.heap.size W w') := HEm0
 have HL := Lib.hid hl
 have HIn0 : Hid (∀ b dv lv S1 S2 W, LinsR W S1 dv O → CelsR false W S2 lv (cellsOf (cleanB t) b y) → Calls Tryz.prog 132 #[dv, .agg #[.int .i64 i, .int .i64 p], lv] W (DocPSaid (insertD (cellsOf (cleanB t) b y) O ⟨i, p⟩) W)) := Lib.hid fun b dv lv S1 S2 W hdv hlv => refDInsert_any dv lv O _ ⟨i, p⟩ W S1 S2 hdv hlv hso hfo (hml2 b) (hmh2 b)
 have HFY : Hid (∀ b Y q, insertD (cellsOf (cleanB t) b y) O ⟨i, p⟩ = (Y, q, 0) → Fits Y) := Lib.hid fun b Y q h9 => (may_small (insert_back h9).1).2
 have HCO : Hid (∀ b, (cellsOf (cleanB t) b y).length = (cleanB t).length) := Lib.hid fun b => by unfold cellsOf; rw [List.length_map]
 have HP : Hid (∀ p : Ps, posV p = .agg #[.int .i64 p.line, .int .i64 p.col]) := Lib.hid fun _ => rfl
 rw [hm] at HM
 obtain ⟨tb, htb⟩ : ∃ tb, typB s = tb := ⟨_, rfl⟩
 rw [htb] at HBi HT
 obtain ⟨cl, hcl2⟩ : ∃ cl, cellsOf (cleanB t) tb y = cl := ⟨_, rfl⟩
 have HIn := Lib.hid (HIn0.out tb)
 have HFY := Lib.hid (HFY.out tb)
 have HOf := Lib.hid (HOf0.out tb)
 have hlen : (cellsOf (cleanB t) tb y).length = (cleanB t).length := HCO.out tb
 have hil := (List.getElem?_eq_some_iff.1 hl).1
 have i0 : (0 : Int) ≤ (i : Int) := Int.natCast_nonneg _
 have i1 : (i : Int) < (O.length : Int) := by omega
 have HRT := Lib.hid HT
 have HPL := Lib.hid hpl
 clear h hs hf ho hof k0 k1 hB hm HT h8 hMo hsp hiO hiA hA hl hpl hml hla hso hfo hxy hyl hO htb HOf0 HIn0 HCO hml2 hmh2 hil HEm0
 go_enter Tryz.func55, Tryz.ntmps55
 go_wp2_with (first
  | (go_at_call 70; refine (HM.out _ hw0).mono ?_; rintro e w2 ⟨rfl, hst2⟩; have hb2 := below_from hw0 hst2; obtain ⟨q0, g0⟩ := blk (HB.out _ hb2).1; obtain ⟨q1, g1⟩ := blk (HB.out _ hb2).2)
  | (go_at_call 116; refine (HEm.out _ hb2).mono ?_; rintro e w3 ⟨v3, rfl, hv3, hst3⟩; obtain ⟨a3, c3, rfl⟩ := hv3.slice; have hb3 := below_from hb2 hst3; have HV3 := Lib.hid hv3; have HZ3 := Lib.hid hst3.size; clear hv3 q0 g0 q1 g1; obtain ⟨q0, g0⟩ := blk (HB.out _ hb3).1; obtain ⟨q1, g1⟩ := blk (HB.out _ hb3).2))
 obtain ⟨W4, hW4⟩ : ∃ W4, w3.alloc (.cells #[.int .i64 i, .int .i64 p] 24) = W4 := ⟨_, rfl⟩
 have h4x : Below w3.heap.size w3 W4 := hW4 ▸ (Below.refl _ _).alloc (Nat.le_refl _) _
 have n4 : W4.heap[w3.heap.size]? = some (.cells #[.int .i64 i, .int .i64 p] 24) := hW4 ▸ heap_new _ _ rfl
 have z4 : w3.heap.size < W4.heap.size := (by rw [← hW4]; simp)
 rw [hW4]
 have hb4 := below_from hb3 h4x
 clear hW4
 have HB4 : Hid (∀ W, Below W4.heap.size W4 W → W.heap[w3.heap.size]? = some (.cells #[.int .i64 i, .int .i64 p] 24)) := Lib.hid fun W hW => heap_below hW n4
 have HD4 : Hid (∀ W, Below W4.heap.size W4 W → LinsR W (fun b => w2.heap.size ≤ b) (.slice a3 O.length c3) O) := Lib.hid fun W hW => ((DocR.read HV3.out).below (rdLin_stable _) h4x).below (rdLin_stable _) hW
 obtain ⟨a', c', ee, hvc, hvm, hx⟩ := lins_shape (HD4.out _ (Below.refl _ _))
 cases ee
 obtain ⟨b, o, la, lc, ca, cc, rfl, hAt⟩ := hx i l HL.out
 have HAT : Hid (∀ W, Below W4.heap.size W4 W → LinAt W (fun b => w2.heap.size ≤ b) b (o + i * 4) l la lc ca cc) := Lib.hid fun W hW => hAt.below hW
 have HAr : Hid (∀ W, Below W4.heap.size W4 W → Calls Tryz.prog 78 #[.slice ca l.cells.length cc, .int .i64 p] W fun e w' => e = .returned (.tuple #[.int .i64 x, .string ⟨y.toArray⟩]) ∧ Below W.heap.size W w') := Lib.hid fun W hW => by
  have := refAround_any _ l.cells p W _ (HAT.out W hW).cellsR HPL.out
  rw [HXY.out] at this
  exact this
 unfold maxLen at hvm
 clear hx hAt n4 hvc q0 g0 q1 g1
 refine wp_region_grew W4.heap.size (by kernel_rfl) (by kernel_rfl) ?_
 refine BigFrame.wpQuiet_want (by kernel_rfl) (fun K hK => ?_)
 refine quiet_val ?_ (fun W hW => ?_) (hK _ ?_)
 rotate_left 1
 ·skip
  go_simp
  try rfl
 clear hK
 clear K
 try simp only [Act.put, qI, qX, qY]
 refine BigFrame.wpQuiet_want (by kernel_rfl) (fun K hK => ?_)
 refine quiet_val ?_ (fun W hW => ?_) (hK _ ?_)
 rotate_left 1
 ·skip
  go_simp
  try rfl
 clear hK
 clear K
 try simp only [Act.put, qI, qX, qY]
 refine BigFrame.wpQuiet_want (by kernel_rfl) (fun K hK => ?_)
 refine quiet_val ?_ (fun W hW => ?_) (hK _ ?_)
 rotate_left 1
 ·skip
  obtain ⟨p0, f0⟩ := blk (HB4.out _ hW)
  obtain ⟨_, _, _, _, c3, _, _⟩ := HAT.out _ hW
  go_simp
  try rfl
 clear hK
 clear K
 try simp only [Act.put, qI, qX, qY]
 refine BigFrame.wpQuiet_want (by kernel_rfl) (fun K hK => ?_)
 refine quiet_val ?_ (fun W hW => ?_) (hK _ ?_)
 rotate_left 1
 ·skip
  go_simp
  try rfl
 clear hK
 clear K
 try simp only [Act.put, qI, qX, qY]
 refine BigFrame.wpQuiet_want (by kernel_rfl) (fun K hK => ?_)
 refine quiet_val ?_ (fun W hW => ?_) (hK _ ?_)
 rotate_left 1
 ·skip
  go_simp
  try rfl
 clear hK
 clear K
 try simp only [Act.put, qI, qX, qY]
 refine BigFrame.wpQuiet_want (by kernel_rfl) (fun K hK => ?_)
 refine quiet_val ?_ (fun W hW => ?_) (hK _ ?_)
 rotate_left 1
 ·skip
  obtain ⟨p0, f0⟩ := blk (HB4.out _ hW)
  obtain ⟨_, _, _, _, c3, _, _⟩ := HAT.out _ hW
  go_simp
  try rfl
 clear hK
 clear K
 try simp only [Act.put, qI, qX, qY]
 refine BigFrame.wpQuiet_want (by kernel_rfl) (fun K hK => ?_)
 refine quiet_val ?_ (fun W hW => ?_) (hK _ ?_)
 rotate_left 1
 ·skip
  go_simp
  try rfl
 clear hK
 clear K
 try simp only [Act.put, qI, qX, qY]
 refine BigFrame.wpQuiet_want (by kernel_rfl) (fun K hK => ?_)
 refine quiet_val ?_ (fun W hW => ?_) (hK _ ?_)
 rotate_left 1
 ·skip
  obtain ⟨p0, f0⟩ := blk (HB4.out _ hW)
  obtain ⟨_, _, _, _, c3, _, _⟩ := HAT.out _ hW
  go_simp
  try rfl
 clear hK
 clear K
 try simp only [Act.put, qI, qX, qY]
 refine BigFrame.wpQuiet_want (by kernel_rfl) (fun K hK => ?_)
 refine quiet_calls (f := ?_) (args := ?_) ?_ (fun W hW => ?_) (fun W hW => ?_) (hK _ ?_)
 rotate_left 3
 ·go_simp
  constructor <;> rfl
 ·refine (HAr.out _ hW).mono ?_
  rintro e W2 ⟨rfl, hbW⟩
  refine ⟨?_, below_from hW hbW⟩
  rfl
 clear hK
 clear K
 try simp only [Act.put, qI, qX, qY]
 refine BigFrame.wpQuiet_want (by kernel_rfl) (fun K hK => ?_)
 refine quiet_val ?_ (fun W hW => ?_) (hK _ ?_)
 rotate_left 1
 ·skip
  go_simp
  try rfl
 clear hK
 clear K
 try simp only [Act.put, qI, qX, qY]
 refine BigFrame.wpQuiet_want (by kernel_rfl) (fun K hK => ?_)
 refine quiet_val ?_ (fun W hW => ?_) (hK _ ?_)
 rotate_left 1
 ·skip
  go_simp
  try rfl
 clear hK
 clear K
 try simp only [Act.put, qI, qX, qY]
 refine BigFrame.wpQuiet_want (by kernel_rfl) (fun K hK => ?_)
 refine quiet_val ?_ (fun W hW => ?_) (hK _ ?_)
 rotate_left 1
 ·skip
  go_simp
  try rfl
 clear hK
 clear K
 try simp only [Act.put, qI, qX, qY]
 refine BigFrame.wpQuiet_want (by kernel_rfl) (fun K hK => ?_)
 refine quiet_val ?_ (fun W hW => ?_) (hK _ ?_)
 rotate_left 1
 ·skip
  go_simp
  try rfl
 clear hK
 clear K
 try simp only [Act.put, qI, qX, qY]
 refine BigFrame.wpQuiet_want (by kernel_rfl) (fun K hK => ?_)
 refine quiet_val ?_ (fun W hW => ?_) (hK _ ?_)
 rotate_left 1
 ·skip
  go_simp
  try rfl
 clear hK
 clear K
 try simp only [Act.put, qI, qX, qY]
 refine wpQuiet_nil (fun X6 hstX6 => ?_)
 have hcX6 := below_from hb4 hstX6
 obtain ⟨p0, f0⟩ := blk (HB.out _ hcX6).1
 obtain ⟨p1, f1⟩ := blk (HB.out _ hcX6).2
 obtain ⟨p4, f4⟩ := blk (HB4.out _ hstX6)
 obtain ⟨cl, hcl2⟩ : ∃ cl, cellsOf (cleanB t) tb y = cl := ⟨_, rfl⟩
 rw [hcl2] at HOf HIn HRT HFY hlen
 clear hcl2
 by_cases hc0 : cleanB t = []
 ·have HR2 : Hid (keyS s (textK s t) = (noS, 7)) := Lib.hid (HRT.out.trans (if_pos hc0))
  have hce : (((cl.length : Nat) : Int) == 0) = true := by rw [hlen, hc0]; rfl
  clear hc0 hlen hcl
  go_wp2_with (first
   | (go_at_call 131; refine (HBi.out _ hcX6).mono ?_; rintro e w7 ⟨rfl, hst7⟩; have hb7 := below_from hcX6 hst7; have hx7 := below_from hstX6 hst7; obtain ⟨r0, s0⟩ := blk (HB.out _ hb7).1)
   | (go_at_call 130; refine (HOf.out _).mono ?_; rintro e w8 ⟨v8, rfl, hv8, hst8⟩; obtain ⟨a8, c8, rfl⟩ := hv8.slice; have hb8 := below_from hb7 hst8; have hx8 := below_from hx7 hst8; have HV8 := Lib.hid (SliceR.read (fun _ _ h => h) hv8); clear hv8; obtain ⟨r1, s1⟩ := blk (HB.out _ hb8).2; obtain ⟨r4, s4⟩ := blk (HB4.out _ hx8)))
  refine bodyPost_ret (results_st_e rfl _ _ (w.heap.size + 1) (.slice none 0 0) (.int .i64 0) (.int .i64 0) (.int .i64 0) (.int .i64 0) (.int .i64 0) (.int .i64 0) (.int .i64 7) rfl rfl (by simp [heap_set, putIn, (HB.out _ hb8).2])) rfl ?_
  unfold StSaid
  rw [HR2.out]
  have hfin := H1.out.trans (hb8.mono hs1)
  exact ⟨_, rfl, SliceR.nil _ _ _ _ _ _, by (repeat' (first | (with_reducible exact Below.refl _ _) | (with_reducible assumption) | (with_reducible refine Below.alloc ?_ ?_ _) | (with_reducible refine Below.drew ?_) | (with_reducible refine drewN_below ?_) | (with_reducible refine Below.setCell ?_ ?_ _) | go_size))⟩
 have HR1 := Lib.hid (HRT.out.trans (if_neg hc0))
 have hce : (((cl.length : Nat) : Int) == 0) = false := by
  have : (cleanB t).length ≠ 0 := fun e => hc0 (List.length_eq_zero_iff.1 e)
  exact beq_false_of_ne (by omega)
 clear hc0 hlen hcl HRT
 obtain ⟨Y, q, er, hY⟩ : ∃ Y q er, insertD cl O ⟨i, p⟩ = (Y, q, er) := ⟨_, _, _, rfl⟩
 rw [hY] at HIn HR1
 have HF : er = 0 → Fits Y := fun e => HFY.out Y q (by rw [hY, e])
 clear hY HFY
 go_upto_region 11 with (first
  | (go_at_call 131; refine (HBi.out _ hcX6).mono ?_; rintro e w7 ⟨rfl, hst7⟩; have hb7 := below_from hcX6 hst7; have hx7 := below_from hstX6 hst7; obtain ⟨r0, s0⟩ := blk (HB.out _ hb7).1)
  | (go_at_call 130; refine (HOf.out _).mono ?_; rintro e w8 ⟨v8, rfl, hv8, hst8⟩; obtain ⟨a8, c8, rfl⟩ := hv8.slice; have hb8 := below_from hb7 hst8; have hx8 := below_from hx7 hst8; have HV8 := Lib.hid (SliceR.read (fun _ _ h => h) hv8); clear hv8; obtain ⟨r1, s1⟩ := blk (HB.out _ hb8).2; obtain ⟨r4, s4⟩ := blk (HB4.out _ hx8))
  | (go_at_call 132; refine (HIn.out _ _ _ _ _ (HD4.out _ hx8) HV8.out).mono ?_; intro e w9 hsaid; obtain ⟨v9, he9, hv9, hst9⟩ := hsaid; rw [HP.out] at he9; obtain ⟨a9, c9, rfl⟩ := hv9.slice; subst he9; have hb9 := below_from hb8 hst9; have HV9 := Lib.hid hv9; clear hv9; obtain ⟨t1, u1⟩ := blk (HB.out _ hb9).2))
 obtain ⟨W10, hW10⟩ : ∃ W10, w9.alloc (.cells #[.int .i64 q.line, .int .i64 q.col] 24) = W10 := ⟨_, rfl⟩
 have h10x : Below w9.heap.size w9 W10 := hW10 ▸ (Below.refl _ _).alloc (Nat.le_refl _) _
 have n10 : W10.heap[w9.heap.size]? = some (.cells #[.int .i64 q.line, .int .i64 q.col] 24) := hW10 ▸ heap_new _ _ rfl
 have z10 : w9.heap.size < W10.heap.size := (by rw [← hW10]; simp)
 rw [hW10]
 have hb10 := below_from hb9 h10x
 clear hW10
 have HB10 := Lib.hid n10
 have HV10 := Lib.hid (HV9.out.below h10x)
 clear n10 h10x
 obtain ⟨y1, g1'⟩ := blk (HB.out _ hb10).2
 obtain ⟨y2, g2'⟩ := blk HB10.out
 by_cases her : er = 0
 ·have her2 : (er == (0 : Int)) = true := by rw [her]; rfl
  have hF := HF her
  have HCl : Hid (∀ v' n W, DocR true W (fun b => n ≤ b) v' Y → Calls Tryz.prog 112 #[v', .agg #[.int .i64 q.line, .int .i64 q.col]] W fun e w' => ∃ u, e = .returned (.agg #[u, .int .i64 q.line, .int .i64 q.col, .int .i64 q.line, .int .i64 q.col, .int .i64 0, .int .i64 0]) ∧ DocR true w' (fun b => W.heap.size ≤ b) u Y ∧ Below W.heap.size W w') := Lib.hid fun v' n W hv => refClosed_any v' Y q W _ hv.read hF
  have HR2 : Hid (keyS s (textK s t) = (closedS Y q, 0)) := Lib.hid (HR1.out.trans (by rw [her]; rfl))
  clear her hF HF HR1
  go_wp2_with (go_at_call 112; refine (HCl.out _ _ _ HV10.out).mono ?_; rintro e w11 ⟨v11, rfl, hv11, hst11⟩; obtain ⟨a11, c11, rfl⟩ := hv11.slice; have hb11 := below_from hb10 hst11; have HV11 := Lib.hid hv11; clear hv11; obtain ⟨q6, g6⟩ := blk (HB.out _ hb11).2)
  refine bodyPost_ret (results_st_e rfl _ _ (w.heap.size + 1) (.slice a11 Y.length c11) (.int .i64 q.line) (.int .i64 q.col) (.int .i64 q.line) (.int .i64 q.col) (.int .i64 0) (.int .i64 0) (.int .i64 0) rfl rfl (by simp [heap_set, putIn, (HB.out _ hb11).2])) rfl ?_
  unfold StSaid
  rw [HR2.out]
  have hfin := H1.out.trans (hb11.mono hs1)
  have hv11 := HV11.out
  have z4 := hb10.size
  exact ⟨_, rfl, (SliceR.stable (rdLin_stable _) hv11 (by (repeat' (first | (with_reducible exact Keeps.refl _ _) | (with_reducible refine Keeps.set ?_ ?_ _) | (with_reducible refine Keeps.alloc ?_ _) | (with_reducible refine Keeps.drew ?_) | (first | fail) | (simp; omega)))) (fun b h _ => (by have h' := h; (try simp at h'); omega))), by (repeat' (first | (with_reducible exact Below.refl _ _) | (with_reducible assumption) | (with_reducible refine Below.alloc ?_ ?_ _) | (with_reducible refine Below.drew ?_) | (with_reducible refine drewN_below ?_) | (with_reducible refine Below.setCell ?_ ?_ _) | go_size))⟩
 ·have her2 : (er == (0 : Int)) = false := beq_false_of_ne her
  have HR2 : Hid (keyS s (textK s t) = (noS, er)) := Lib.hid (HR1.out.trans (if_neg her))
  clear her HF HR1
  go_wp2_with fail
  refine bodyPost_ret (results_st_e rfl _ _ (w.heap.size + 1) (.slice none 0 0) (.int .i64 0) (.int .i64 0) (.int .i64 0) (.int .i64 0) (.int .i64 0) (.int .i64 0) (.int .i64 er) rfl rfl (by simp [heap_set, putIn, (HB.out _ hb10).2])) rfl ?_
  unfold StSaid
  rw [HR2.out]
  have hfin := H1.out.trans (hb10.mono hs1)
  exact ⟨_, rfl, SliceR.nil _ _ _ _ _ _, by (repeat' (first | (with_reducible exact Below.refl _ _) | (with_reducible assumption) | (with_reducible refine Below.alloc ?_ ?_ _) | (with_reducible refine Below.drew ?_) | (with_reducible refine drewN_below ?_) | (with_reducible refine Below.setCell ?_ ?_ _) | go_size))⟩
end Go.Proofs.YtpndnbjpnajaaaaGreatDoor
