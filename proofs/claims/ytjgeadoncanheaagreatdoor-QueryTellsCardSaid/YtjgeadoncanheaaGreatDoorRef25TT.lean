/- Parts of the proof. -/
import Derived.Test.YtjgeadoncanheaaGreatDoorQryNamesT
import Derived.Test.YtjgeadoncanheaaGreatDoorRefAroundT
import Derived.Test.YtjgeadoncanheaaGreatDoorPartBaseT
import Derived.Test.YtjgeadoncanheaaGreatDoorStyTellsT
import Derived.Test.YtjgeadoncanheaaGreatDoorRefOwnT
import Derived.Test.YtjgeadoncanheaaGreatDoorRefTurnT
import Derived.Test.YtjgeadoncanheaaGreatDoorBlkTellsT
set_option linter.unusedVariables false
set_option linter.unusedSimpArgs false
set_option maxHeartbeats 8000000
namespace Go.Proofs.YtjgeadoncanheaaGreatDoor
open Go.RowKit
open Go.Proofs.Qw
attribute [local go_sem] Oper.semAt_some
open _root_.Go.Lib renaming hid → zA
open _root_.Go.RowKit.Below renaming refl → zE
open _root_.Go.BigFrame renaming wpQuiet_want → zI
open _root_.Go.Act renaming put → zU
open _root_.Go.Proofs.Tryz renaming prog → zV
open _root_.Go.Proofs.YtjgeadoncanheaaGreatDoor renaming jH → zW
open _root_.Go.Proofs.Qw renaming jY → zZ, xB → qK
set_option maxRecDepth 100000 in
theorem zEI (v : Value) (s : St) (w : World) (S : Nat → Prop) (h : jC w S v s.lines) (hs : Small s.lines) (hf : Fits s.lines) :
  Calls zV 53 #[stV v s] w fun e w' => ∃ v', e = .returned v' ∧ jE true w' (fun b => w.heap.size ≤ b) v' (selS s) ∧ Below w.heap.size w w' := by
 obtain ⟨W1, hW1, hB, hz, k0⟩ := xC w v s;have HB : Hid (∀ W, Below W1.heap.size W1 W → W.heap[w.heap.size]? = some (.cells #[v, .int .i64 s.anc.line, .int .i64 s.anc.col, .int .i64 s.foc.line, .int .i64 s.foc.col, .int .i64 s.on, .int .i64 s.off] 26)) := zA fun W hW => jG hW k0;have hs1 := hB.size;have H1 := zA hB;have hw0 : Below W1.heap.size W1 W1 := zE _ _;have HV : Hid (∀ W, Below W1.heap.size W1 W → jC W S v s.lines) := zA fun W hW => h.below (zZ _) (hB.trans (hW.mono hs1));have HSp : Hid (∀ W, Below W1.heap.size W1 W → Calls zV 45 #[stV v s] W fun e w' => e = .returned (.tuple #[.agg #[.int .i64 (qV s).1.line, .int .i64 (qV s).1.col], .agg #[.int .i64 (qV s).2.line, .int .i64 (qV s).2.col]]) ∧ Below W.heap.size W w') := zA fun W _ => zBU v s W;obtain ⟨A, B, hAB⟩ : ∃ A B, qV s = (A, B) := ⟨_, _, rfl⟩;have hsel : selS s = cellsD s.lines A B := by unfold selS; rw [hAB]
 rw [hsel];rw [hAB] at HSp;simp only at HSp;have HC : Hid (∀ W, Below W1.heap.size W1 W → Calls zV 65 #[v, .agg #[.int .i64 A.line, .int .i64 A.col], .agg #[.int .i64 B.line, .int .i64 B.col]] W fun e w' => ∃ v', e = .returned v' ∧ jE true w' (fun b => W.heap.size ≤ b) v' (cellsD s.lines A B) ∧ Below W.heap.size W w') := zA fun W hW => zEK v s.lines A B W S (HV.out W hW) hs hf;obtain ⟨p0, f0⟩ := blk k0;obtain ⟨va, vc, rfl⟩ := h.slice;clear h hs hf hAB hsel k0 hB;go_enter Tryz.func53, Tryz.ntmps53
 go_wp2_with (first
  | (go_at_call 45; refine (HSp.out _ hw0).mono ?_; rintro e w2 ⟨rfl, hst2⟩; have hb2 := zW hw0 hst2; obtain ⟨q0, g0⟩ := blk (HB.out _ hb2); have hz2 := hb2.size; have e2 : ¬ w2.heap.size = w.heap.size := qE; have r0 := on2 (HB.out _ hb2); have HX2 : Hid (∀ X Y, Below W1.heap.size W1 ((w2.alloc X).alloc Y)) := zA fun X Y => hb2.trans (vI (zE _ _) X Y |>.mono hz2))
  | (go_at_call 65; refine (HC.out _ (HX2.out _ _)).mono ?_; rintro e w3 ⟨v3, rfl, hv3, hst3⟩; obtain ⟨a3, c3, rfl⟩ := hv3.slice; have hb3 := zW (HX2.out _ _) hst3; have HV3 := zA hv3; clear hv3))
 go_ret;exact ⟨_, rfl, SliceR.stable (jX _) HV3.out (Keeps.refl _ _) (fun b h _ => (by have h' := h; simp at h'; omega)), H1.out.trans (hb3.mono hs1)⟩
set_option maxRecDepth 100000 in
theorem zHO (v : Value) (s : St) (w : World) (S : Nat → Prop) (h : jC w S v s.lines) (hs : Small s.lines) (hf : Fits s.lines) (ho : -9223372036854775808 ≤ s.on ∧ s.on ≤ 9223372036854775807) (hof : -9223372036854775808 ≤ s.off ∧ s.off ≤ 9223372036854775807) :
  Calls zV 44 #[stV v s] w fun e w' => e = .returned (.int .i64 (xX s)) ∧ Below w.heap.size w w' := by
 obtain ⟨W1, hW1, hB, hz, k0⟩ := xC w v s;have HB : Hid (∀ W, Below W1.heap.size W1 W → W.heap[w.heap.size]? = some (.cells #[v, .int .i64 s.anc.line, .int .i64 s.anc.col, .int .i64 s.foc.line, .int .i64 s.foc.col, .int .i64 s.on, .int .i64 s.off] 26)) := zA fun W hW => jG hW k0;have hs1 := hB.size;have H1 := zA hB;have hw0 : Below W1.heap.size W1 W1 := zE _ _;have HV : Hid (∀ W, Below W1.heap.size W1 W → jC W S v s.lines) := zA fun W hW => h.below (zZ _) (hB.trans (hW.mono hs1));have HM : Hid (∀ W, Below W1.heap.size W1 W → Calls zV 31 #[stV v s] W fun e w' => e = .returned (.bool (mayS s)) ∧ Below W.heap.size W w') := zA fun W hW => zAQ v s W S (HV.out W hW) hs ho hof;have HRo : Hid (∀ W, Below W1.heap.size W1 W → Calls zV 53 #[stV v s] W fun e w' => ∃ v', e = .returned v' ∧ jE true w' (fun b => W.heap.size ≤ b) v' (selS s) ∧ Below W.heap.size W w') := zA fun W hW => zEI v s W S (HV.out W hW) hs hf;have HR : Hid (xX s = if mayS s = true then (if s.anc = s.foc then bits .or .i64 (bits .andNot .i64 (kO (xL s) s.anc.col.toNat).1 s.off) s.on else zEc (selS s)) else 0) := zA rfl;obtain ⟨R, hRR⟩ : ∃ R, xX s = R := ⟨_, rfl⟩;rw [hRR] at HR ⊢;clear hRR;cases hm : mayS s
 ·rw [hm] at HM HR
  have HR : Hid (R = 0) := zA (HR.out.trans (if_neg qT));obtain ⟨p0, f0⟩ := blk k0;obtain ⟨va, vc, rfl⟩ := h.slice;clear h hs hf k0 hB hm;go_enter Tryz.func44, Tryz.ntmps44;go_wp2_with ((go_at_call 31; refine (HM.out _ hw0).mono ?_; rintro e w2 ⟨rfl, hst2⟩; have hb2 := zW hw0 hst2; skip));go_ret;rw [HR.out];exact ⟨rfl, H1.out.trans (hb2.mono hs1)⟩
 have hg := uZ;have hq := fun (w : World) => zDt s.anc s.foc w
 by_cases hc : s.anc = s.foc
 ·rw [hm] at HM HR
  rw [if_pos rfl, if_pos hc] at HR;rw [decide_eq_true hc] at hq;have HR := zA HR.out;obtain ⟨i, n, l, hi, hn, hl, hcl, hnn, hnl⟩ := zCt (vY hm).2.1;have hc1 : (kO (xL s) s.anc.col.toNat) = kO l.cells n := by unfold xL; rw [hcl, hnn]
  obtain ⟨x, y, hxy⟩ : ∃ x y, kO l.cells n = (x, y) := ⟨_, _, rfl⟩;rw [hc1, hxy] at HR;have HXY := zA hxy;have hil := (List.getElem?_eq_some_iff.1 hl).1;obtain ⟨va, vc, rfl, hvc, hvm, hx⟩ := kJ h;obtain ⟨b, o, la, lc, ca, cc, rfl, hAt⟩ := hx i l hl;have HAT : Hid (∀ W, Below W1.heap.size W1 W → LinAt W S b (o + i * 4) l la lc ca cc) := zA fun W hW => hAt.below (hB.trans (hW.mono hs1))
  have HAr : Hid (∀ W, Below W1.heap.size W1 W → Calls zV 85 #[.slice ca l.cells.length cc, .int .i64 n] W fun e w' => e = .returned (.tuple #[.int .i64 x, .string ⟨y.toArray⟩]) ∧ Below W.heap.size W w') := zA fun W hW => by
   have := zHP _ l.cells n W S (HAT.out W hW).cellsR hnl;rw [HXY.out] at this;exact this
  unfold maxLen at hvm;have i0 : (0 : Int) ≤ (i : Int) := Int.natCast_nonneg _;have i1 : (i : Int) < (s.lines.length : Int) := by omega
  obtain ⟨p0, f0⟩ := blk k0;obtain ⟨lines, anc, foc, on, off⟩ := s;obtain ⟨al, ac⟩ := anc;simp only at hi hn hc;subst hi hn hc;clear h hs hf hm hcl hnn hc1 hxy hl hx hAt k0 hB HRo;go_enter Tryz.func44, Tryz.ntmps44;go_wp2_with ((go_at_call 31; refine (HM.out _ hw0).mono ?_; rintro e w2 ⟨rfl, hst2⟩; have hb2 := zW hw0 hst2; obtain ⟨q0, g0⟩ := blk (HB.out _ hb2)));clear p0 f0 q0 g0;refine kZ w2.heap.size qC qC ?_;refine zI qC (fun K hK => ?_);refine qK ?_ (fun W hW => ?_) (hK _ ?_);rotate_left 1
  ·skip
   go_simp
   try rfl
  clear hK;clear K;try simp only [zU, qI, qX, qY]
  refine zI qC (fun K hK => ?_);refine qK ?_ (fun W hW => ?_) (hK _ ?_);rotate_left 1
  ·skip
   obtain ⟨p0, f0⟩ := blk (HB.out _ (zW hb2 hW));obtain ⟨_, _, _, _, c3, _, _⟩ := HAT.out _ (zW hb2 hW);go_simp
   try rfl
  clear hK;clear K;try simp only [zU, qI, qX, qY]
  refine zI qC (fun K hK => ?_);refine qK ?_ (fun W hW => ?_) (hK _ ?_);rotate_left 1
  ·skip
   go_simp
   try rfl
  clear hK;clear K;try simp only [zU, qI, qX, qY]
  refine zI qC (fun K hK => ?_);refine qK ?_ (fun W hW => ?_) (hK _ ?_);rotate_left 1
  ·skip
   go_simp
   try rfl
  clear hK;clear K;try simp only [zU, qI, qX, qY]
  refine zI qC (fun K hK => ?_);refine qK ?_ (fun W hW => ?_) (hK _ ?_);rotate_left 1
  ·skip
   obtain ⟨p0, f0⟩ := blk (HB.out _ (zW hb2 hW));obtain ⟨_, _, _, _, c3, _, _⟩ := HAT.out _ (zW hb2 hW);go_simp
   try rfl
  clear hK;clear K;try simp only [zU, qI, qX, qY]
  refine zI qC (fun K hK => ?_);refine qK ?_ (fun W hW => ?_) (hK _ ?_);rotate_left 1
  ·skip
   go_simp
   try rfl
  clear hK;clear K;try simp only [zU, qI, qX, qY]
  refine zI qC (fun K hK => ?_);refine qK ?_ (fun W hW => ?_) (hK _ ?_);rotate_left 1
  ·skip
   go_simp
   try rfl
  clear hK;clear K;try simp only [zU, qI, qX, qY]
  refine zI qC (fun K hK => ?_);refine qK ?_ (fun W hW => ?_) (hK _ ?_);rotate_left 1
  ·skip
   obtain ⟨p0, f0⟩ := blk (HB.out _ (zW hb2 hW));obtain ⟨_, _, _, _, c3, _, _⟩ := HAT.out _ (zW hb2 hW);go_simp
   try rfl
  clear hK;clear K;try simp only [zU, qI, qX, qY]
  refine zI qC (fun K hK => ?_);refine qK ?_ (fun W hW => ?_) (hK _ ?_);rotate_left 1
  ·skip
   go_simp
   try rfl
  clear hK;clear K;try simp only [zU, qI, qX, qY]
  refine zI qC (fun K hK => ?_);refine qK ?_ (fun W hW => ?_) (hK _ ?_);rotate_left 1
  ·skip
   go_simp
   try rfl
  clear hK;clear K;try simp only [zU, qI, qX, qY]
  refine zI qC (fun K hK => ?_);refine qK ?_ (fun W hW => ?_) (hK _ ?_);rotate_left 1
  ·skip
   obtain ⟨p0, f0⟩ := blk (HB.out _ (zW hb2 hW));obtain ⟨_, _, _, _, c3, _, _⟩ := HAT.out _ (zW hb2 hW);go_simp
   try rfl
  clear hK;clear K;try simp only [zU, qI, qX, qY]
  refine zI qC (fun K hK => ?_);refine yX (f := ?_) (args := ?_) ?_ (fun W hW => ?_) (fun W hW => ?_) (hK _ ?_);rotate_left 3
  ·go_simp
   constructor <;> rfl
  ·refine (HAr.out _ (zW hb2 hW)).mono ?_
   rintro e W2 ⟨rfl, hbW⟩;refine ⟨?_, zW hW hbW⟩
   rfl
  clear hK;clear K;try simp only [zU, qI, qX, qY]
  refine zI qC (fun K hK => ?_);refine qK ?_ (fun W hW => ?_) (hK _ ?_);rotate_left 1
  ·skip
   go_simp
   try rfl
  clear hK;clear K;try simp only [zU, qI, qX, qY]
  refine zI qC (fun K hK => ?_);refine qK ?_ (fun W hW => ?_) (hK _ ?_);rotate_left 1
  ·skip
   go_simp
   try rfl
  clear hK;clear K;try simp only [zU, qI, qX, qY]
  refine zI qC (fun K hK => ?_);refine qK ?_ (fun W hW => ?_) (hK _ ?_);rotate_left 1
  ·skip
   go_simp
   try rfl
  clear hK;clear K;try simp only [zU, qI, qX, qY]
  refine zI qC (fun K hK => ?_);refine qK ?_ (fun W hW => ?_) (hK _ ?_);rotate_left 1
  ·skip
   go_simp
   try rfl
  clear hK;clear K;try simp only [zU, qI, qX, qY]
  refine zI qC (fun K hK => ?_);refine qK ?_ (fun W hW => ?_) (hK _ ?_);rotate_left 1
  ·skip
   go_simp
   try rfl
  clear hK;clear K;try simp only [zU, qI, qX, qY]
  refine wpQuiet_nil (fun X6 hstX6 => ?_);have hcX6 := zW hb2 hstX6;obtain ⟨p0, f0⟩ := blk (HB.out _ hcX6);go_wp2_with fail;go_ret;rw [HR.out];exact ⟨rfl, H1.out.trans (hcX6.mono hs1)⟩
 ·rw [hm] at HM HR
  rw [if_pos rfl, if_neg hc] at HR;rw [decide_eq_false hc] at hq;have HR := zA HR.out;have HL : Hid ((selS s).length ≤ 100000) := zA (Nat.le_trans (uW _ _ _) hs.1);obtain ⟨L, hL⟩ : ∃ L, selS s = L := ⟨_, rfl⟩;rw [hL] at HR HRo HL;obtain ⟨p0, f0⟩ := blk k0;obtain ⟨va, vc, rfl⟩ := h.slice;clear h hs hf hm hc hL k0 hB;go_enter Tryz.func44, Tryz.ntmps44;cases L with
  | nil =>
   go_wp2_with (first
    | (go_at_call 31; refine (HM.out _ hw0).mono ?_; rintro e w2 ⟨rfl, hst2⟩; have hb2 := zW hw0 hst2; obtain ⟨q0, g0⟩ := blk (HB.out _ hb2))
    | (go_at_call 53; refine (HRo.out _ hb2).mono ?_; rintro e w3 ⟨v3, rfl, hv3, hst3⟩; obtain ⟨a3, c3, rfl⟩ := hv3.slice; have hb3 := zW hb2 hst3; clear hv3))
   go_ret;rw [HR.out];exact ⟨rfl, H1.out.trans (hb3.mono hs1)⟩
  | cons c l =>
   have HR : Hid (R = andB (c :: l)) := zA (HR.out.trans (if_neg qT));obtain ⟨L, hL⟩ : ∃ L, c :: l = L := ⟨_, rfl⟩;have hn0 : ((L.length : Int) == 0) = false := by rw [← hL]; simp; omega
   rw [hL] at HR HRo HL;clear hL;have hLL := HL.out
   go_wp2_with (first
    | (go_at_call 31; refine (HM.out _ hw0).mono ?_; rintro e w2 ⟨rfl, hst2⟩; have hb2 := zW hw0 hst2; obtain ⟨q0, g0⟩ := blk (HB.out _ hb2))
    | (go_at_call 53; refine (HRo.out _ hb2).mono ?_; rintro e w3 ⟨v3, rfl, hv3, hst3⟩; have hb3 := zW hb2 hst3; obtain ⟨a3, c3, rfl, hc3, hm3, hx3⟩ := yO (SliceR.read (fun _ _ h => h) hv3); have HX3 := zA hx3; clear hv3 hx3))
   unfold maxLen at hm3;have HF : Hid (andB (L.take 0) = 15) := zA rfl;have H3 := zA (H1.out.trans (hb3.mono hs1));go_loopw [6, 7] (fun a i wr => ∃ k : Nat, k ≤ L.length ∧ i = .int .i64 k ∧ a = .int .i64 (andB (L.take k)) ∧ w3 = wr) (fun _ i _ => L.length - (intOf i).toNat)
   case atStart => exact ⟨0, Nat.zero_le _, rfl, by rw [HF.out], rfl⟩
   case round =>
    obtain ⟨k, hk, rfl, rfl, rfl⟩ := hrel
    by_cases hlt : k < L.length
    ·obtain ⟨x, hx, _⟩ := jJ L k hlt
     obtain ⟨b, o, rfl, hz', c0, c1, c2⟩ := HX3.out k x hx;have HS : Hid (andB (L.take (k + 1)) = bits .and .i64 (andB (L.take k)) x.bits) := zA (by rw [xF hx, zGp]);obtain ⟨A, hA⟩ : ∃ A, andB (L.take k) = A := ⟨_, rfl⟩;rw [hA] at HS ⊢;clear hx hA c0 c2;go_wp2_with fail;go_roundw
     case rel => exact ⟨k + 1, hlt, by go_num, by rw [HS.out], by simp⟩
     case measure => simp [intOf]; omega
    ·obtain rfl : k = L.length := by omega
     rw [List.take_length];obtain ⟨A, hA⟩ : ∃ A, andB L = A := ⟨_, rfl⟩;rw [hA] at HR ⊢;clear hA;go_wp2_with fail;go_ret;rw [HR.out];exact ⟨rfl, H3.out⟩
set_option maxRecDepth 100000 in
theorem zIn (v : Value) (s : St) (t : Int) (w : World) (S : Nat → Prop) (h : jC w S v s.lines) (hs : Small s.lines) (hf : Fits s.lines) (ho : -9223372036854775808 ≤ s.on ∧ s.on ≤ 9223372036854775807) (hof : -9223372036854775808 ≤ s.off ∧ s.off ≤ 9223372036854775807) :
  Calls zV 24 #[stV v s, .int .i64 t] w fun e w' => e = .returned (.bool (hasS s t)) ∧ Below w.heap.size w w' := by
 obtain ⟨W1, hW1, hB, hz, k0⟩ := xC w v s;have HB : Hid (∀ W, Below W1.heap.size W1 W → W.heap[w.heap.size]? = some (.cells #[v, .int .i64 s.anc.line, .int .i64 s.anc.col, .int .i64 s.foc.line, .int .i64 s.foc.col, .int .i64 s.on, .int .i64 s.off] 26)) := zA fun W hW => jG hW k0;have hs1 := hB.size;have H1 := zA hB;have hw0 : Below W1.heap.size W1 W1 := zE _ _;have HV : Hid (∀ W, Below W1.heap.size W1 W → jC W S v s.lines) := zA fun W hW => h.below (zZ _) (hB.trans (hW.mono hs1));have HC : Hid (∀ W, Below W1.heap.size W1 W → Calls zV 44 #[stV v s] W fun e w' => e = .returned (.int .i64 (xX s)) ∧ Below W.heap.size W w') := zA fun W hW => zHO v s W S (HV.out W hW) hs hf ho hof;have HR : Hid (hasS s t = (!(t == 0) && (bits .and .i64 (xX s) t == t))) := zA rfl;obtain ⟨p0, f0⟩ := blk k0;obtain ⟨va, vc, rfl⟩ := h.slice;clear h hs hf ho hof k0 hB
 generalize xX s = r at *
 by_cases ht : t = 0
 ·subst ht
  go_enter Tryz.func24, Tryz.ntmps24;go_wp2_with fail;go_ret;rw [HR.out];exact ⟨rfl, H1.out⟩
 ·have ht' : (t == 0) = false := by simpa using ht
  have ht2 : (t != 0) = true := by simpa using ht
  clear ht;rw [ht'] at HR;go_enter Tryz.func24, Tryz.ntmps24;go_wp2_with (go_at_call 44; refine (HC.out _ hw0).mono ?_; rintro e w2 ⟨rfl, hb2⟩);go_ret;rw [HR.out];exact ⟨rfl, H1.out.trans (hb2.mono hs1)⟩
set_option maxRecDepth 100000 in
theorem zHu (v : Value) (s : St) (t : Int) (w : World) (S : Nat → Prop) (h : jC w S v s.lines) (hs : Small s.lines) (hf : Fits s.lines) (ho : -9223372036854775808 ≤ s.on ∧ s.on ≤ 9223372036854775807) (hof : -9223372036854775808 ≤ s.off ∧ s.off ≤ 9223372036854775807) :
  Calls zV 29 #[stV v s, .int .i64 t] w fun e w' => e = .returned (.bool (xD s t)) ∧ Below w.heap.size w w' := by
 obtain ⟨W1, hW1, hB, hz, k0⟩ := xC w v s;have HB : Hid (∀ W, Below W1.heap.size W1 W → W.heap[w.heap.size]? = some (.cells #[v, .int .i64 s.anc.line, .int .i64 s.anc.col, .int .i64 s.foc.line, .int .i64 s.foc.col, .int .i64 s.on, .int .i64 s.off] 26)) := zA fun W hW => jG hW k0;have hs1 := hB.size;have H1 := zA hB;have hw0 : Below W1.heap.size W1 W1 := zE _ _;have HV : Hid (∀ W, Below W1.heap.size W1 W → jC W S v s.lines) := zA fun W hW => h.below (zZ _) (hB.trans (hW.mono hs1));have HM : Hid (∀ W, Below W1.heap.size W1 W → Calls zV 31 #[stV v s] W fun e w' => e = .returned (.bool (mayS s)) ∧ Below W.heap.size W w') := zA fun W hW => zAQ v s W S (HV.out W hW) hs ho hof;have HRo : Hid (∀ W, Below W1.heap.size W1 W → Calls zV 53 #[stV v s] W fun e w' => ∃ v', e = .returned v' ∧ jE true w' (fun b => W.heap.size ≤ b) v' (selS s) ∧ Below W.heap.size W w') := zA fun W hW => zEI v s W S (HV.out W hW) hs hf;have HR : Hid (xD s t = (mayS s && (!decide (s.anc = s.foc) && (vJ (selS s) t && !allL (selS s) t)))) := zA rfl;have hg := uZ;have hq := fun (w : World) => zDt s.anc s.foc w;have HL : Hid ((selS s).length ≤ 100000) := zA (Nat.le_trans (uW _ _ _) hs.1);obtain ⟨L, hL⟩ : ∃ L, selS s = L := ⟨_, rfl⟩;rw [hL] at HR HRo HL;have HQ : Hid (∀ (a : Option Addr) (c : Nat) (W : World), jE false W (fun _ => True) (.slice a L.length c) L → Calls zV 54 #[.slice a L.length c, .int .i64 0, .int .i64 L.length, .int .i64 t] W fun e w' => e = .returned (.bool (vJ L t)) ∧ w' = W) := zA fun a c W hv => zIs _ L t W _ hv;have HA : Hid (∀ (a : Option Addr) (c : Nat) (W : World), jE false W (fun _ => True) (.slice a L.length c) L → Calls zV 55 #[.slice a L.length c, .int .i64 0, .int .i64 L.length, .int .i64 t] W fun e w' => e = .returned (.bool (allL L t)) ∧ w' = W) := zA fun a c W hv => zJj _ L t W _ hv;obtain ⟨p0, f0⟩ := blk k0;obtain ⟨va, vc, rfl⟩ := h.slice;clear h hs hf ho hof hL k0 hB HV
 generalize xD s t = R at *
 generalize vJ L t = x at *
 generalize allL L t = y at *
 generalize mayS s = m at *
 generalize decide (s.anc = s.foc) = u at *
 cases m
 all_goals
  cases u
  all_goals
   cases x
   all_goals
    go_enter Tryz.func29, Tryz.ntmps29
    go_wp2_with (first
     | (go_at_call 31; refine (HM.out _ hw0).mono ?_; rintro e w2 ⟨rfl, hst2⟩; have hb2 := zW hw0 hst2; obtain ⟨q0, g0⟩ := blk (HB.out _ hb2))
     | (go_at_call 53; refine (HRo.out _ hb2).mono ?_; rintro e w3 ⟨v3, rfl, hv3, hst3⟩; have hb3 := zW hb2 hst3; obtain ⟨a3, c3, rfl⟩ := hv3.slice; have HV3 : Hid (jE false w3 (fun _ => True) (.slice a3 L.length c3) L) := zA (SliceR.stable (jX _) (SliceR.read (fun _ _ h => h) hv3) (Keeps.refl _ _) (fun _ _ _ => trivial)); clear hv3)
     | (go_at_call 54; refine (HQ.out _ _ _ HV3.out).mono ?_; rintro e w4 ⟨rfl, rfl⟩)
     | (go_at_call 55; refine (HA.out _ _ _ HV3.out).mono ?_; rintro e w5 ⟨rfl, rfl⟩))
    go_ret;refine ⟨?_, H1.out.trans (Below.mono (by first | exact hb3 | exact hb2) hs1)⟩;rw [HR.out]
    rfl
end Go.Proofs.YtjgeadoncanheaaGreatDoor
namespace Go.Proofs.Qw
open Go.RowKit Go.Proofs.YtjgeadoncanheaaGreatDoor
theorem zJQ (s : St) : ((qV s).1 = (qV s).2) ↔ s.anc = s.foc := by
 unfold qV
 split
 ·exact eq_comm
 ·exact Iff.rfl
end Go.Proofs.Qw
namespace Go.Proofs.YtjgeadoncanheaaGreatDoor
open Go.RowKit
open Go.Proofs.Qw
attribute [local go_sem] Oper.semAt_some
open _root_.Go.Lib renaming hid → zA
open _root_.And renaming intro → zB
open _root_.Nat renaming le_refl → zC
open _root_.Go.RowKit.Below renaming refl → zE
open _root_.Go.BigFrame renaming wpQuiet_want → zI
open _root_.Int renaming natCast_nonneg → zR
open _root_.Go.IntWalk renaming i64_in → zT
open _root_.Go.Act renaming put → zU
open _root_.Go.Proofs.Tryz renaming prog → zV
open _root_.Go.Proofs.YtjgeadoncanheaaGreatDoor renaming jH → zW
open _root_.Go.Proofs.Qw renaming jY → zZ, xB → qK
set_option maxRecDepth 100000 in
theorem zHN (v : Value) (s : St) (w : World) (S : Nat → Prop) (h : jC w S v s.lines) (hf : Fits s.lines) (hm : isD s.lines s.anc = true) :
  Calls zV 64 #[stV v s] w fun e w' => e = .returned (.tuple #[.agg #[.int .i64 (jZ s).1.line, .int .i64 (jZ s).1.col], .agg #[.int .i64 (jZ s).2.line, .int .i64 (jZ s).2.col]]) ∧ Below w.heap.size w w' := by
 obtain ⟨W1, hW1, hB, hz, k0, k1, k2⟩ := zBF w v s;have HB : Hid (∀ W, Below W1.heap.size W1 W → W.heap[w.heap.size]? = some (.cells #[v, .int .i64 s.anc.line, .int .i64 s.anc.col, .int .i64 s.foc.line, .int .i64 s.foc.col, .int .i64 s.on, .int .i64 s.off] 26) ∧ W.heap[w.heap.size + 1]? = some (.cells #[.int .i64 0, .int .i64 0] 24) ∧ W.heap[w.heap.size + 2]? = some (.cells #[.int .i64 0, .int .i64 0] 24)) := zA fun W hW => ⟨jG hW k0, jG hW k1, jG hW k2⟩;have hs1 := hB.size;have H1 := zA hB;have hw0 : Below W1.heap.size W1 W1 := zE _ _;have HV : Hid (∀ W, Below W1.heap.size W1 W → jC W S v s.lines) := zA fun W hW => h.below (zZ _) (hB.trans (hW.mono hs1));have HSp : Hid (∀ W, Below W1.heap.size W1 W → Calls zV 45 #[stV v s] W fun e w' => e = .returned (.tuple #[.agg #[.int .i64 (qV s).1.line, .int .i64 (qV s).1.col], .agg #[.int .i64 (qV s).2.line, .int .i64 (qV s).2.col]]) ∧ Below W.heap.size W w') := zA fun W _ => zBU v s W;have HR : Hid (jZ s = if s.anc = s.foc then (⟨s.anc.line, ((kQ (xL s) s.anc.col.toNat).1 : Int)⟩, ⟨s.anc.line, ((kQ (xL s) s.anc.col.toNat).2 : Int)⟩) else qV s) := zA rfl;have hg := uZ;have hq0 := fun (w : World) => zBt (qV s).1 (qV s).2 w
 by_cases hc : s.anc = s.foc
 ·have HQ0 := zA (HR.out.trans (if_pos hc))
  clear HR hq0;rw [zDn hc] at HSp;obtain ⟨i, n, l, hi, hn, hl, hcl, hnn, hnl⟩ := zCt hm;have hc1 : (kQ (xL s) s.anc.col.toNat) = kQ l.cells n := by unfold xL; rw [hcl, hnn]
  obtain ⟨x, y, hxy⟩ : ∃ x y, kQ l.cells n = (x, y) := ⟨_, _, rfl⟩;rw [hc1, hxy] at HQ0;have HQ := zA HQ0.out;clear HQ0;have HXY := zA hxy;have hfl := (hf.2 l (List.mem_of_getElem? hl)).2;have hil := (List.getElem?_eq_some_iff.1 hl).1;obtain ⟨va, vc, rfl, hvc, hvm, hx⟩ := kJ h;obtain ⟨b, o, la, lc, ca, cc, rfl, hAt⟩ := hx i l hl;have HAT : Hid (∀ W, Below W1.heap.size W1 W → LinAt W S b (o + i * 4) l la lc ca cc) := zA fun W hW => hAt.below (hB.trans (hW.mono hs1));unfold maxLen at hvm;have i0 : (0 : Int) ≤ (i : Int) := zR _;have i1 : (i : Int) < (s.lines.length : Int) := by omega
  obtain ⟨H, hH⟩ : ∃ H, jZ s = H := ⟨_, rfl⟩;rw [hH] at HQ ⊢;clear hH;obtain ⟨p0, f0⟩ := blk k0;obtain ⟨lines, anc, foc, on, off⟩ := s;obtain ⟨al, ac⟩ := anc;simp only at hi hn hc;subst hi hn hc
  have hq : ∀ w : World, (binOp .neq 24 (.agg #[.int .i64 i, .int .i64 n]) (.agg #[.int .i64 i, .int .i64 n])).run zV w = .ok (.bool false) w := fun w => by
   have := zBt ⟨i, n⟩ ⟨i, n⟩ w
   simpa using this
  clear h hf hm hcl hnn hc1 hxy hl hx hAt k0 k1 k2 hB;go_enter Tryz.func64, Tryz.ntmps64;go_wp2_with ((go_at_call 45; refine (HSp.out _ hw0).mono ?_; rintro e w2 ⟨rfl, hst2⟩; have hb2 := zW hw0 hst2; obtain ⟨q0, g0⟩ := blk (HB.out _ hb2).1));obtain ⟨w3, hw3⟩ : ∃ w3, (w2.alloc (.cells #[.int .i64 i, .int .i64 n] 24)).alloc (.cells #[.int .i64 i, .int .i64 n] 24) = w3 := ⟨_, rfl⟩;rw [hw3];have hb23 : Below w2.heap.size w2 w3 := hw3 ▸ ((zE _ _).alloc (zC _) _).alloc qT _;have n3 : w3.heap[w2.heap.size]? = some (.cells #[.int .i64 i, .int .i64 n] 24) := hw3 ▸ jI _ _ (jF _ _ rfl);have hb3 := zW hb2 hb23;have HB3 : Hid (∀ W, Below w3.heap.size w3 W → W.heap[w2.heap.size]? = some (.cells #[.int .i64 i, .int .i64 n] 24)) := zA fun W hW => jG hW n3
  have HWi : Hid (∀ W, Below w3.heap.size w3 W → Calls zV 105 #[.slice ca l.cells.length cc, .int .i64 n] W fun e w' => e = .returned (.tuple #[.int .i64 x, .int .i64 y]) ∧ Below W.heap.size W w') := zA fun W hW => by
   have := zHK _ l.cells n W S (HAT.out W (zW hb3 hW)).cellsR hnl hfl;rw [HXY.out] at this;exact this
  clear n3 q0 g0 p0 f0 hw3 hq;refine kZ w3.heap.size qC qC ?_;refine zI qC (fun K hK => ?_);refine qK ?_ (fun W hW => ?_) (hK _ ?_);rotate_left 1
  ·skip
   go_simp
   try rfl
  clear hK;clear K;try simp only [zU, qI, qX, qY]
  refine zI qC (fun K hK => ?_);refine qK ?_ (fun W hW => ?_) (hK _ ?_);rotate_left 1
  ·skip
   obtain ⟨p0, f0⟩ := blk (HB.out _ (zW hb3 hW)).1;obtain ⟨p3, f3⟩ := blk (HB3.out _ hW);obtain ⟨_, _, _, _, c3, _, _⟩ := HAT.out _ (zW hb3 hW);go_simp
   try rfl
  clear hK;clear K;try simp only [zU, qI, qX, qY]
  refine zI qC (fun K hK => ?_);refine qK ?_ (fun W hW => ?_) (hK _ ?_);rotate_left 1
  ·skip
   go_simp
   try rfl
  clear hK;clear K;try simp only [zU, qI, qX, qY]
  refine zI qC (fun K hK => ?_);refine qK ?_ (fun W hW => ?_) (hK _ ?_);rotate_left 1
  ·skip
   obtain ⟨p0, f0⟩ := blk (HB.out _ (zW hb3 hW)).1;obtain ⟨p3, f3⟩ := blk (HB3.out _ hW);obtain ⟨_, _, _, _, c3, _, _⟩ := HAT.out _ (zW hb3 hW);go_simp
   try rfl
  clear hK;clear K;try simp only [zU, qI, qX, qY]
  refine zI qC (fun K hK => ?_);refine qK ?_ (fun W hW => ?_) (hK _ ?_);rotate_left 1
  ·skip
   go_simp
   try rfl
  clear hK;clear K;try simp only [zU, qI, qX, qY]
  refine zI qC (fun K hK => ?_);refine qK ?_ (fun W hW => ?_) (hK _ ?_);rotate_left 1
  ·skip
   go_simp
   try rfl
  clear hK;clear K;try simp only [zU, qI, qX, qY]
  refine zI qC (fun K hK => ?_);refine qK ?_ (fun W hW => ?_) (hK _ ?_);rotate_left 1
  ·skip
   obtain ⟨p0, f0⟩ := blk (HB.out _ (zW hb3 hW)).1;obtain ⟨p3, f3⟩ := blk (HB3.out _ hW);obtain ⟨_, _, _, _, c3, _, _⟩ := HAT.out _ (zW hb3 hW);go_simp
   try rfl
  clear hK;clear K;try simp only [zU, qI, qX, qY]
  refine zI qC (fun K hK => ?_);refine qK ?_ (fun W hW => ?_) (hK _ ?_);rotate_left 1
  ·skip
   go_simp
   try rfl
  clear hK;clear K;try simp only [zU, qI, qX, qY]
  refine zI qC (fun K hK => ?_);refine qK ?_ (fun W hW => ?_) (hK _ ?_);rotate_left 1
  ·skip
   obtain ⟨p0, f0⟩ := blk (HB.out _ (zW hb3 hW)).1;obtain ⟨p3, f3⟩ := blk (HB3.out _ hW);obtain ⟨_, _, _, _, c3, _, _⟩ := HAT.out _ (zW hb3 hW);go_simp
   try rfl
  clear hK;clear K;try simp only [zU, qI, qX, qY]
  refine zI qC (fun K hK => ?_);refine yX (f := ?_) (args := ?_) ?_ (fun W hW => ?_) (fun W hW => ?_) (hK _ ?_);rotate_left 3
  ·go_simp
   constructor <;> rfl
  ·refine (HWi.out _ hW).mono ?_
   rintro e W2 ⟨rfl, hbW⟩;refine ⟨?_, zW hW hbW⟩
   rfl
  clear hK;clear K;try simp only [zU, qI, qX, qY]
  refine zI qC (fun K hK => ?_);refine qK ?_ (fun W hW => ?_) (hK _ ?_);rotate_left 1
  ·skip
   go_simp
   try rfl
  clear hK;clear K;try simp only [zU, qI, qX, qY]
  refine zI qC (fun K hK => ?_);refine qK ?_ (fun W hW => ?_) (hK _ ?_);rotate_left 1
  ·skip
   go_simp
   try rfl
  clear hK;clear K;try simp only [zU, qI, qX, qY]
  refine zI qC (fun K hK => ?_);refine qK ?_ (fun W hW => ?_) (hK _ ?_);rotate_left 1
  ·skip
   go_simp
   try rfl
  clear hK;clear K;try simp only [zU, qI, qX, qY]
  refine zI qC (fun K hK => ?_);refine qK ?_ (fun W hW => ?_) (hK _ ?_);rotate_left 1
  ·skip
   go_simp
   try rfl
  clear hK;clear K;try simp only [zU, qI, qX, qY]
  refine zI qC (fun K hK => ?_);refine qK ?_ (fun W hW => ?_) (hK _ ?_);rotate_left 1
  ·skip
   go_simp
   try rfl
  clear hK;clear K;try simp only [zU, qI, qX, qY]
  refine wpQuiet_nil (fun X6 hstX6 => ?_);have hcX6 := zW hb3 hstX6;obtain ⟨p3, f3⟩ := blk (HB3.out _ hstX6);obtain ⟨p1, f1⟩ := blk (HB.out _ hcX6).2.1;obtain ⟨p2, f2⟩ := blk (HB.out _ hcX6).2.2;go_wp2_with fail;have hs2 := hb2.size;have e1 : ¬ w.heap.size + 1 = w2.heap.size := by omega
  have e2 : ¬ w2.heap.size = w.heap.size + 1 := by omega
  have e3 : ¬ w.heap.size + 1 + 1 = w2.heap.size := by omega
  have e4 : ¬ w2.heap.size = w.heap.size + 1 + 1 := by omega
  go_region;go_wp2_with fail;refine bodyPost_ret (uU rfl _ _ (w.heap.size + 1) (w.heap.size + 2) (.int .i64 i) (.int .i64 x) (.int .i64 i) (.int .i64 y) rfl rfl (by rw [xG]; simp [jN, jB, (HB.out _ hcX6).2.1]) (by rw [xG]; simp [jN, jB, (HB.out _ hcX6).2.2])) rfl ?_;have hfin := H1.out.trans (hcX6.mono hs1);rw [HQ.out];exact ⟨rfl, by ((with_reducible repeat' first | exact zE _ _ | assumption | refine Below.alloc ?_ ?_ _ | refine Below.drew ?_ | refine jK ?_ | refine Below.setCell ?_ ?_ _) <;> go_size)⟩
 ·have HQ0 := zA (HR.out.trans (if_neg hc))
  obtain ⟨A, B, hAB⟩ : ∃ A B, qV s = (A, B) := ⟨_, _, rfl⟩;have hne : ¬ (qV s).1 = (qV s).2 := fun e => hc ((zJQ s).1 e);rw [hAB] at HSp HQ0 hq0 hne;simp only at HSp hq0 hne;rw [decide_eq_false hne] at hq0;have hq : ∀ w : World, (binOp .neq 24 (.agg #[.int .i64 A.line, .int .i64 A.col]) (.agg #[.int .i64 B.line, .int .i64 B.col])).run zV w = .ok (.bool true) w := hq0;obtain ⟨p0, f0⟩ := blk k0;obtain ⟨p1, f1⟩ := blk k1;obtain ⟨p2, f2⟩ := blk k2;obtain ⟨va, vc, rfl⟩ := h.slice;clear h hf hm hc hAB hne hq0 HR k0 k1 k2 hB HV;go_enter Tryz.func64, Tryz.ntmps64;go_wp2_with ((go_at_call 45; refine (HSp.out _ hw0).mono ?_; rintro e w2 ⟨rfl, hst2⟩; have hb2 := zW hw0 hst2; obtain ⟨q0, g0⟩ := blk (HB.out _ hb2).1; obtain ⟨q1, g1⟩ := blk (HB.out _ hb2).2.1; obtain ⟨q2, g2⟩ := blk (HB.out _ hb2).2.2));have hs2 := hb2.size;have e1 : ¬ w.heap.size + 1 = w2.heap.size := by omega
  have e2 : ¬ w2.heap.size = w.heap.size + 1 := by omega
  have e3 : ¬ w.heap.size + 1 + 1 = w2.heap.size := by omega
  have e4 : ¬ w2.heap.size = w.heap.size + 1 + 1 := by omega
  obtain ⟨w3, hw3⟩ : ∃ w3, (w2.alloc (.cells #[.int .i64 A.line, .int .i64 A.col] 24)).alloc (.cells #[.int .i64 B.line, .int .i64 B.col] 24) = w3 := ⟨_, rfl⟩;rw [hw3];have hb23 : Below w2.heap.size w2 w3 := hw3 ▸ vI (zE _ _) _ _;have hb3 := zW hb2 hb23;have n3 : w3.heap[w2.heap.size]? = some (.cells #[.int .i64 A.line, .int .i64 A.col] 24) := hw3 ▸ jI _ _ (jF _ _ rfl);have n4 : w3.heap[w2.heap.size + 1]? = some (.cells #[.int .i64 B.line, .int .i64 B.col] 24) := hw3 ▸ jF _ _ qT;clear q0 g0 q1 g1 q2 g2 p0 f0 p1 f1 p2 f2 hw3;obtain ⟨p1, f1⟩ := blk (HB.out _ hb3).2.1;obtain ⟨p2, f2⟩ := blk (HB.out _ hb3).2.2;obtain ⟨p3, f3⟩ := blk n3;obtain ⟨p4, f4⟩ := blk n4;have e5 : ¬ w.heap.size + 1 = w2.heap.size + 1 := by omega
  have e6 : ¬ w2.heap.size + 1 = w.heap.size + 1 := by omega
  have e7 : ¬ w.heap.size + 1 + 1 = w2.heap.size + 1 := by omega
  have e8 : ¬ w2.heap.size + 1 = w.heap.size + 1 + 1 := by omega
  go_region;go_wp2_with fail;refine bodyPost_ret (uU rfl _ _ (w.heap.size + 1) (w.heap.size + 2) (.int .i64 A.line) (.int .i64 A.col) (.int .i64 B.line) (.int .i64 B.col) rfl rfl (by rw [xG]; simp [jN, jB, (HB.out _ hb3).2.1]) (by rw [xG]; simp [jN, jB, (HB.out _ hb3).2.2])) rfl ?_;have hfin := H1.out.trans (hb3.mono hs1);rw [HQ0.out];exact ⟨rfl, by ((with_reducible repeat' first | exact zE _ _ | assumption | refine Below.alloc ?_ ?_ _ | refine Below.drew ?_ | refine jK ?_ | refine Below.setCell ?_ ?_ _) <;> go_size)⟩
set_option maxRecDepth 100000 in
theorem zHM (v : Value) (s : St) (w : World) (S : Nat → Prop) (h : jC w S v s.lines) (hs : Small s.lines) (hf : Fits s.lines) (ho : -9223372036854775808 ≤ s.on ∧ s.on ≤ 9223372036854775807) (hof : -9223372036854775808 ≤ s.off ∧ s.off ≤ 9223372036854775807) :
  Calls zV 35 #[stV v s] w fun e w' => e = .returned (.string ⟨(vT s).toArray⟩) ∧ Below w.heap.size w w' := by
 obtain ⟨W1, hW1, hB, hz, k0⟩ := xC w v s;have HB : Hid (∀ W, Below W1.heap.size W1 W → W.heap[w.heap.size]? = some (.cells #[v, .int .i64 s.anc.line, .int .i64 s.anc.col, .int .i64 s.foc.line, .int .i64 s.foc.col, .int .i64 s.on, .int .i64 s.off] 26)) := zA fun W hW => jG hW k0;have hs1 := hB.size;have H1 := zA hB;have hw0 : Below W1.heap.size W1 W1 := zE _ _;have HV : Hid (∀ W, Below W1.heap.size W1 W → jC W S v s.lines) := zA fun W hW => h.below (zZ _) (hB.trans (hW.mono hs1));have HM : Hid (∀ W, Below W1.heap.size W1 W → Calls zV 31 #[stV v s] W fun e w' => e = .returned (.bool (mayS s)) ∧ Below W.heap.size W w') := zA fun W hW => zAQ v s W S (HV.out W hW) hs ho hof;have HR : Hid (vT s = if mayS s = true then zCK (cellsD s.lines (jZ s).1 (jZ s).2) else []) := zA rfl;cases hm : mayS s
 ·rw [hm] at HM HR
  have HR2 : Hid (vT s = []) := zA (HR.out.trans (if_neg qT));obtain ⟨p0, f0⟩ := blk k0;obtain ⟨va, vc, rfl⟩ := h.slice;clear h hs hf k0 hB hm HR;go_enter Tryz.func35, Tryz.ntmps35;go_wp2_with ((go_at_call 31; refine (HM.out _ hw0).mono ?_; rintro e w2 ⟨rfl, hst2⟩; have hb2 := zW hw0 hst2; skip));go_ret;rw [HR2.out];exact ⟨rfl, H1.out.trans (hb2.mono hs1)⟩
 ·have hA := (vY hm).2.1
  rw [hm] at HM HR;rw [if_pos rfl] at HR;have HH : Hid (∀ W, Below W1.heap.size W1 W → Calls zV 64 #[stV v s] W fun e w' => e = .returned (.tuple #[.agg #[.int .i64 (jZ s).1.line, .int .i64 (jZ s).1.col], .agg #[.int .i64 (jZ s).2.line, .int .i64 (jZ s).2.col]]) ∧ Below W.heap.size W w') := zA fun W hW => zHN v s W S (HV.out W hW) hf hA;obtain ⟨A, B, hAB⟩ : ∃ A B, jZ s = (A, B) := ⟨_, _, rfl⟩;rw [hAB] at HH HR;simp only at HH HR;have HL : Hid ((cellsD s.lines A B).length ≤ 100000) := zA (Nat.le_trans (uW _ _ _) hs.1);have HC : Hid (∀ W, Below W1.heap.size W1 W → Calls zV 65 #[v, .agg #[.int .i64 A.line, .int .i64 A.col], .agg #[.int .i64 B.line, .int .i64 B.col]] W fun e w' => ∃ v', e = .returned v' ∧ jE true w' (fun b => W.heap.size ≤ b) v' (cellsD s.lines A B) ∧ Below W.heap.size W w') := zA fun W hW => zEK v s.lines A B W S (HV.out W hW) hs hf;obtain ⟨L, hL⟩ : ∃ L, cellsD s.lines A B = L := ⟨_, rfl⟩;rw [hL] at HC HL HR;obtain ⟨p0, f0⟩ := blk k0;obtain ⟨va, vc, rfl⟩ := h.slice;clear h hs hf hm hA hAB hL k0 hB HV;go_enter Tryz.func35, Tryz.ntmps35
  go_wp2_with (first
   | (go_at_call 31; refine (HM.out _ hw0).mono ?_; rintro e w2 ⟨rfl, hst2⟩; have hb2 := zW hw0 hst2; obtain ⟨q0, g0⟩ := blk (HB.out _ hb2))
   | (go_at_call 64; refine (HH.out _ hb2).mono ?_; rintro e w3 ⟨rfl, hst3⟩; have hb3 := zW hb2 hst3; obtain ⟨q1, g1⟩ := blk (HB.out _ hb3); have hz3 := hb3.size; have e3 : ¬ w3.heap.size = w.heap.size := qE; have r1 := on2 (HB.out _ hb3); have HX3 : Hid (∀ X Y, Below W1.heap.size W1 ((w3.alloc X).alloc Y)) := zA fun X Y => hb3.trans (vI (zE _ _) X Y |>.mono hz3))
   | (go_at_call 65; refine (HC.out _ (HX3.out _ _)).mono ?_; rintro e w4 ⟨v4, rfl, hv4, hst4⟩; have hb4 := zW (HX3.out _ _) hst4; obtain ⟨a4, c4, rfl, hc4, hm4, hx4⟩ := yO (SliceR.read (fun _ _ h => h) hv4); have HX4 := zA hx4; clear hv4 hx4))
  unfold maxLen at hm4;have H4 := zA (H1.out.trans (hb4.mono hs1));have HLL := HL.out;go_loopw [6, 7] (fun a i wr => ∃ (k : Nat) (h : List UInt8), k ≤ L.length ∧ i = .int .i64 k ∧ a = .string ⟨h.toArray⟩ ∧ Hid ((k = 0 ∧ h = []) ∨ (0 < k ∧ ∀ c ∈ L.take k, c.href = h)) ∧ w4 = wr) (fun _ i _ => L.length - (intOf i).toNat)
  case atStart => exact ⟨0, [], Nat.zero_le _, rfl, rfl, zA (.inl ⟨rfl, rfl⟩), rfl⟩
  case round =>
   obtain ⟨k, h, hk, rfl, rfl, HK, rfl⟩ := hrel;have k0 : (0 : Int) ≤ (k : Int) := zR _
   by_cases hlt : k < L.length
   ·obtain ⟨x, hx, hd⟩ := jJ L k hlt
    obtain ⟨b, o, rfl, hz', c0, c1, c2⟩ := HX4.out k x hx;have HT : Hid (L.take (k + 1) = L.take k ++ [x]) := zA (xF hx);have HM' : Hid (x ∈ L) := zA (List.mem_of_getElem? hx)
    by_cases hk0 : 0 < k
    ·have hki : (0 : Int) < (k : Int) := by omega
     have hal : ∀ c ∈ L.take k, c.href = h := by rcases HK.out with ⟨e, _⟩ | ⟨_, e⟩; omega; exact e
     have HAL := zA hal
     by_cases hxe : x.href = h
     ·have hq : (x.href == h) = true := by simpa using hxe
      have HN : Hid ((k + 1 = 0 ∧ x.href = []) ∨ (0 < k + 1 ∧ ∀ c ∈ L.take (k + 1), c.href = x.href)) := zA (.inr ⟨by omega, fun c hc => by rw [HT.out] at hc; rcases List.mem_append.1 hc with h1 | h1; exact (HAL.out c h1).trans hxe.symm; rw [List.mem_singleton.1 h1]⟩);clear hx hd c0 c1 hal hxe;go_wp2_with fail;refine ⟨⟨k + 1, x.href, hlt, by go_num, rfl, HN, by simp⟩, ?_⟩;simp [intOf]
      omega
     ·have hq : (x.href == h) = false := by simpa using hxe
      have HN : Hid (vT s = []) := zA (HR.out.trans (by
       obtain ⟨c, l, hcl⟩ : ∃ c l, L = c :: l := by
        cases hL : L with
        | nil => rw [hL] at hlt; simp at hlt
        | cons c l => exact ⟨c, l, rfl⟩
       have hc1 : c.href = h := HAL.out c (by rw [hcl]; cases k with | zero => omega | succ j => simp);rw [hcl, zDC, if_pos];rw [List.any_eq_true];exact ⟨x, hcl ▸ HM'.out, by rw [hc1, decide_eq_false hxe]; rfl⟩))
      clear hx hd c0 c1 hal hxe;go_wp2_with fail;go_ret;rw [HN.out];exact ⟨rfl, H4.out⟩
    ·have hki : ¬ (0 : Int) < (k : Int) := by omega
     have HN : Hid ((k + 1 = 0 ∧ x.href = []) ∨ (0 < k + 1 ∧ ∀ c ∈ L.take (k + 1), c.href = x.href)) := zA (.inr ⟨by omega, fun c hc => by
      obtain rfl : k = 0 := by omega
      rw [HT.out] at hc;simp at hc;rw [hc]⟩)
     clear hx hd c0 c1;go_wp2_with fail;refine ⟨⟨k + 1, x.href, hlt, by go_num, rfl, HN, by simp⟩, ?_⟩;simp [intOf]
     omega
   ·obtain rfl : k = L.length := by omega
    have HN : Hid (vT s = h) := zA (HR.out.trans (by
     rcases HK.out with ⟨e1, e2⟩ | ⟨e1, e2⟩
     ·rw [e2, List.length_eq_zero_iff.1 e1]; rfl
     ·rw [List.take_length] at e2
      cases hL : L with
      | nil => rw [hL] at e1; simp at e1
      | cons c l =>
       rw [zDC, if_neg]
       ·exact e2 c (by rw [hL]; simp)
       ·rw [List.any_eq_true]
        rintro ⟨x, hx, hxe⟩;have h1 := e2 x (by rw [hL]; exact hx);have h2 := e2 c (by rw [hL]; simp);rw [h1, h2] at hxe;simp at hxe))
    go_wp2_with fail;go_ret;rw [HN.out];exact ⟨rfl, H4.out⟩
set_option maxRecDepth 100000 in
theorem zEA (v : Value) (s : St) (q : Int) (w : World) (S : Nat → Prop) (h : jC w S v s.lines) (hs : Small s.lines) (ho : -9223372036854775808 ≤ s.on ∧ s.on ≤ 9223372036854775807) (hof : -9223372036854775808 ≤ s.off ∧ s.off ≤ 9223372036854775807) :
  Calls zV 25 #[stV v s, .int .i64 q] w fun e w' => e = .returned (.tuple #[.bool (kF q s).1, .bool (kF q s).2]) ∧ Below w.heap.size w w' := by
 obtain ⟨W1, hW1, hB, hz, k0⟩ := xC w v s;have HB : Hid (∀ W, Below W1.heap.size W1 W → W.heap[w.heap.size]? = some (.cells #[v, .int .i64 s.anc.line, .int .i64 s.anc.col, .int .i64 s.foc.line, .int .i64 s.foc.col, .int .i64 s.on, .int .i64 s.off] 26)) := zA fun W hW => jG hW k0;have hs1 := hB.size;have H1 := zA hB;have hw0 : Below W1.heap.size W1 W1 := zE _ _;have HV : Hid (∀ W, Below W1.heap.size W1 W → jC W S v s.lines) := zA fun W hW => h.below (zZ _) (hB.trans (hW.mono hs1));have HM : Hid (∀ W, Below W1.heap.size W1 W → Calls zV 31 #[stV v s] W fun e w' => e = .returned (.bool (mayS s)) ∧ Below W.heap.size W w') := zA fun W hW => zAQ v s W S (HV.out W hW) hs ho hof;obtain ⟨A, B, hAB⟩ : ∃ A B, qV s = (A, B) := ⟨_, _, rfl⟩;have hA : (qV s).1 = A := by rw [hAB]
 have hBB : (qV s).2 = B := by rw [hAB]
 have HSp : Hid (∀ W, Below W1.heap.size W1 W → Calls zV 45 #[stV v s] W fun e w' => e = .returned (.tuple #[.agg #[.int .i64 A.line, .int .i64 A.col], .agg #[.int .i64 B.line, .int .i64 B.col]]) ∧ Below W.heap.size W w') := zA fun W _ => by have := zBU v s W; rw [hA, hBB] at this; exact this
 have hg := uZ;obtain ⟨p0, f0⟩ := blk k0;obtain ⟨va, vc, rfl⟩ := h.slice;clear ho hof k0 hAB;cases hm : mayS s
 ·rw [hm] at HM
  have HR2 : Hid (kF q s = (false, false)) := zA (by unfold kF; rw [hm]; rfl);rw [HR2.out];clear hm h hs hA hBB hB;go_enter Tryz.func25, Tryz.ntmps25;go_wp2_with (go_at_call 31; refine (HM.out _ hw0).mono ?_; rintro e w2 ⟨rfl, hst2⟩; have hb2 := zW hw0 hst2; obtain ⟨q0, g0⟩ := blk (HB.out _ hb2));go_ret2;exact ⟨rfl, H1.out.trans (hb2.mono hs1)⟩
 obtain ⟨i0, j0, hi0, hj0, hij, hjl⟩ := zAT hm;have HSa := zA (zB hi0 (zB hj0 hjl));have HMY := zA hm;have HML : Hid (∀ (k : Nat) (l : Lin), s.lines[k]? = some l → l.lists.length ≤ 6) := zA fun k l hl => (zAl ((uY.1 (vY HMY.out).1).2.2.2 l (vL hl))).2.2.1;rw [hA] at hi0;rw [hBB] at hj0;have HI0 := zA hi0;have HJ0 := zA hj0;clear hi0 hj0;rw [hm] at HM;have hl32 : s.lines.length ≤ 1000000 := by have := hs.2.1; omega
 have HR : Hid (kF q s = (kP (jV q) s s.lines.length, xY (jV q) s s.lines.length)) := zA (by unfold kF; rw [if_pos hm]);rw [HR.out];obtain ⟨R1, hR1⟩ : ∃ R, kP (jV q) s s.lines.length = R := ⟨_, rfl⟩;obtain ⟨R2, hR2⟩ : ∃ R, xY (jV q) s s.lines.length = R := ⟨_, rfl⟩;rw [hR1, hR2];have HR1 := zA hR1;have HR2 := zA hR2;clear hm h hs hA hBB hB HR hR1 hR2;go_enter Tryz.func25, Tryz.ntmps25
 go_upto_region 4 with (first
  | (go_at_call 31; refine (HM.out _ hw0).mono ?_; rintro e w2 ⟨rfl, hst2⟩; have hb2 := zW hw0 hst2; obtain ⟨q0, g0⟩ := blk (HB.out _ hb2))
  | (go_at_call 45; refine (HSp.out _ hb2).mono ?_; rintro e w4 ⟨rfl, hst4⟩; have hb4 := zW hb2 hst4; have hz4 := hb4.size))
 obtain ⟨W4, hW4⟩ : ∃ W4, (w4.alloc (.cells #[.int .i64 A.line, .int .i64 A.col] 24)).alloc (.cells #[.int .i64 B.line, .int .i64 B.col] 24) = W4 := ⟨_, rfl⟩;rw [hW4];have hb4W : Below w4.heap.size w4 W4 := hW4 ▸ vI (zE _ _) _ _;have y1 : W4.heap[w4.heap.size]? = some (.cells #[.int .i64 A.line, .int .i64 A.col] 24) := hW4 ▸ jI _ _ (jF _ _ rfl);have y2 : W4.heap[w4.heap.size + 1]? = some (.cells #[.int .i64 B.line, .int .i64 B.col] 24) := hW4 ▸ jF _ _ qT;have hc4 := zW hb4 hb4W;have y0 := HB.out _ hc4;have HFin := zA (H1.out.trans (hc4.mono hs1));obtain ⟨vb, vc', hve, _, _, hx⟩ := kJ (HV.out _ hc4);cases hve;have HX := zA hx;clear hW4 hb4W hb4 hst4 q0 g0 p0 f0 hx;obtain ⟨t0, u0⟩ := blk y0;obtain ⟨t1, u1⟩ := blk y1;obtain ⟨t2, u2⟩ := blk y2;go_wp2_with fail
 go_loopw [8, 9] (fun nn i wr => ∃ (k N : Nat), i = .int .i64 k ∧ nn = .int .i64 N ∧ i0 ≤ k ∧ k ≤ j0 + 1 ∧ N ≤ k ∧ wr = W4 ∧ Hid (N = uP (jV q) s k))
  (fun _ i _ => j0 + 1 - (intOf i).toNat)
 case atStart => exact ⟨i0, 0, by rw [HI0.out], rfl, zC _, by omega, Nat.zero_le _, rfl, zA (by
   have := zDI (jV q) s i0;rw [zDK HSa.out.1 HSa.out.2.1, decide_eq_false_iff_not] at this
   omega)⟩
 case round =>
  obtain ⟨k, N, rfl, rfl, hik, hkj, hNk, rfl, HN⟩ := hrel
  by_cases hlt : k < j0 + 1
  ·have hle : (k : Int) ≤ B.line := by rw [HJ0.out]; omega
   have hks : k < s.lines.length := by omega
   obtain ⟨l, hl, _⟩ := jJ s.lines k hks;have hl6 := HML.out k l hl;obtain ⟨b, o, la, lc, ca, cc, rfl, hLA⟩ := HX.out k l hl;obtain ⟨hbz, l0, l1, l2, l3, hi, hc⟩ := hLA;have HL := zA hl;have hsel : selI s k = true := by rw [uA HSa.out.1 HSa.out.2.1, decide_eq_true hik, decide_eq_true (show k ≤ j0 by omega)]; rfl
   have HNX := zA (zFN (jV q) hl);rw [hsel] at HNX;have ik : (0 : Int) ≤ (k : Int) := zR _;have il : (k : Int) < (s.lines.length : Int) := by omega
   have e1 : IntKind.i64.wrap ((k : Int) + 1) = ((k + 1 : Nat) : Int) := by rw [zT _ qE]; rfl
   have e2 : IntKind.i64.wrap ((N : Int) + 1) = ((N + 1 : Nat) : Int) := by rw [zT _ qE]; rfl
   by_cases hn : l.lists = []
   ·have hn0 : l.lists.length = 0 := by rw [hn]; rfl
    have h1 : ¬ (0 : Int) < ((l.lists.length : Nat) : Int) := by omega
    have h2 : ¬ 0 < l.lists.length := by omega
    have HP : Hid (jV q l = false) := zA (by unfold jV; simp [hn]);clear hn hn0 hi hc hl hsel;go_wp2_with fail;go_roundw
    case rel => exact ⟨k + 1, N, by go_num, rfl, by omega, by omega, by omega, trivial, zA (by rw [HNX.out, HP.out, HN.out]; rfl)⟩
    case measure => simp [intOf]; omega
   ·obtain ⟨m, hmm⟩ : ∃ m, l.lists.length = m + 1 := ⟨l.lists.length - 1, by have := List.length_pos_iff.2 hn; omega⟩
    obtain ⟨x, hx0, _⟩ := jJ l.lists m qE
    have hlx : xO l.lists = x := by
     unfold xO;rw [List.getLastD_eq_getLast?, List.getLast?_eq_getElem?, hmm, Nat.add_sub_cancel, hx0]
     rfl
    obtain ⟨a9, c9, he9, _, _, hx9⟩ := zAm hi;cases he9;obtain ⟨b9, o9, rfl, hz9, hc9⟩ := hx9 m x hx0;have h1 : (0 : Int) < ((l.lists.length : Nat) : Int) := by omega
    have h2 : 0 < l.lists.length := by omega
    have e3 : IntKind.i64.wrap (((l.lists.length : Nat) : Int) - 1) = (m : Int) := by rw [show (((l.lists.length : Nat) : Int) - 1) = (m : Int) by omega]; exact zT _ qE
    have m0 : (0 : Int) ≤ (m : Int) := zR _;have m1 : (m : Int) < ((l.lists.length : Nat) : Int) := by omega
    have m2 : m < l.lists.length := by omega
    have HP : Hid (jV q l = decide (x = q)) := zA (by unfold jV; rw [hlx, decide_eq_true hn]; rfl);clear hn hi hc hl hsel hx9 hx0 hlx hmm
    by_cases hxq : x = q
    ·have h4 : (x == q) = true := by simp [hxq]
     rw [decide_eq_true hxq] at HP;clear hxq;go_wp2_with fail;go_roundw
     case rel => exact ⟨k + 1, N + 1, by go_num, by go_num, by omega, by omega, by omega, trivial, zA (by rw [HNX.out, HP.out, HN.out]; rfl)⟩
     case measure => simp [intOf]; omega
    ·have h4 : (x == q) = false := by simp [hxq]
     rw [decide_eq_false hxq] at HP;clear hxq;go_wp2_with fail;go_roundw
     case rel => exact ⟨k + 1, N, by go_num, rfl, by omega, by omega, by omega, trivial, zA (by rw [HNX.out, HP.out, HN.out]; rfl)⟩
     case measure => simp [intOf]; omega
  ·obtain rfl : k = j0 + 1 := by omega
   have hle : ¬ ((j0 + 1 : Nat) : Int) ≤ B.line := by rw [HJ0.out]; omega
   have hca := zGj HSa.out.1 HSa.out.2.1 HSa.out.2.2 (jV q) (j0 + 1 - i0) qE;rw [show i0 + (j0 + 1 - i0) = j0 + 1 by omega, ← HN.out, zDZ HSa.out.1 HSa.out.2.1 HSa.out.2.2] at hca;have hcp := zDI (jV q) s (j0 + 1);rw [← HN.out, zGV HSa.out.1 HSa.out.2.1 HSa.out.2.2] at hcp;have e5 : IntKind.i64.wrap (B.line - A.line) = ((j0 - i0 : Nat) : Int) := by rw [HI0.out, HJ0.out, zT _ qE]; omega
   have e6 : IntKind.i64.wrap (((j0 - i0 : Nat) : Int) + 1) = ((j0 + 1 - i0 : Nat) : Int) := by rw [zT _ qE]; omega
   have HE1 : Hid (kP (jV q) s s.lines.length = ((N : Int) == ((j0 + 1 - i0 : Nat) : Int))) := zA (by
    rw [Bool.eq_iff_iff, ← hca.2];simp only [beq_iff_eq]
    omega)
   have HE2 : Hid (xY (jV q) s s.lines.length = decide (0 < N)) := zA hcp.symm;have r1 := HR1.out.symm.trans HE1.out;have r2 := HR2.out.symm.trans HE2.out;clear hca hcp HR1 HR2 HE1 HE2;subst r1 r2;go_wp2_with fail;go_ret2;exact ⟨rfl, HFin.out⟩
set_option maxRecDepth 100000 in
theorem zFe (v : Value) (s : St) (w : World) (S : Nat → Prop) (h : jC w S v s.lines) (hs : Small s.lines) (ho : -9223372036854775808 ≤ s.on ∧ s.on ≤ 9223372036854775807) (hof : -9223372036854775808 ≤ s.off ∧ s.off ≤ 9223372036854775807) :
  Calls zV 30 #[stV v s] w fun e w' => e = .returned (.tuple #[.int .i64 ((kB s).getD 0), .bool (kB s).isSome]) ∧ Below w.heap.size w w' := by
 obtain ⟨W1, hW1, hB, hz, k0⟩ := xC w v s;have HB : Hid (∀ W, Below W1.heap.size W1 W → W.heap[w.heap.size]? = some (.cells #[v, .int .i64 s.anc.line, .int .i64 s.anc.col, .int .i64 s.foc.line, .int .i64 s.foc.col, .int .i64 s.on, .int .i64 s.off] 26)) := zA fun W hW => jG hW k0;have hs1 := hB.size;have H1 := zA hB;have hw0 : Below W1.heap.size W1 W1 := zE _ _;have HV : Hid (∀ W, Below W1.heap.size W1 W → jC W S v s.lines) := zA fun W hW => h.below (zZ _) (hB.trans (hW.mono hs1));have HM : Hid (∀ W, Below W1.heap.size W1 W → Calls zV 31 #[stV v s] W fun e w' => e = .returned (.bool (mayS s)) ∧ Below W.heap.size W w') := zA fun W hW => zAQ v s W S (HV.out W hW) hs ho hof;obtain ⟨A, B, hAB⟩ : ∃ A B, qV s = (A, B) := ⟨_, _, rfl⟩;have hA : (qV s).1 = A := by rw [hAB]
 have hBB : (qV s).2 = B := by rw [hAB]
 have HSp : Hid (∀ W, Below W1.heap.size W1 W → Calls zV 45 #[stV v s] W fun e w' => e = .returned (.tuple #[.agg #[.int .i64 A.line, .int .i64 A.col], .agg #[.int .i64 B.line, .int .i64 B.col]]) ∧ Below W.heap.size W w') := zA fun W _ => by have := zBU v s W; rw [hA, hBB] at this; exact this
 have hg := uZ;obtain ⟨p0, f0⟩ := blk k0;obtain ⟨va, vc, rfl⟩ := h.slice;clear ho hof k0 hAB;cases hm : mayS s
 ·rw [hm] at HM
  have HR2 : Hid (kB s = none) := zA (by unfold kB; rw [hm]; rfl);rw [HR2.out];clear hm h hs hA hBB hB;go_enter Tryz.func30, Tryz.ntmps30;go_wp2_with (go_at_call 31; refine (HM.out _ hw0).mono ?_; rintro e w2 ⟨rfl, hst2⟩; have hb2 := zW hw0 hst2; obtain ⟨q0, g0⟩ := blk (HB.out _ hb2));go_ret2;exact ⟨rfl, H1.out.trans (hb2.mono hs1)⟩
 obtain ⟨i0, j0, hi0, hj0, hij, hjl⟩ := zAT hm;have HSa := zA (zB hi0 (zB hj0 hjl));have HMY := zA hm;have HML : Hid (∀ (k : Nat) (l : Lin), s.lines[k]? = some l → l.lists.length ≤ 6) := zA fun k l hl => (zAl ((uY.1 (vY HMY.out).1).2.2.2 l (vL hl))).2.2.1;rw [hA] at hi0;rw [hBB] at hj0;have HI0 := zA hi0;have HJ0 := zA hj0;clear hi0 hj0;rw [hm] at HM;have hl32 : s.lines.length ≤ 1000000 := by have := hs.2.1; omega
 obtain ⟨K, hK⟩ : ∃ K, (yG s.lines (qV s).1).kind = K := ⟨_, rfl⟩;obtain ⟨P, hP⟩ : ∃ P : Lin → Bool, (fun l : Lin => decide (l.lists = []) && decide (l.kind = K)) = P := ⟨_, rfl⟩;have HR : Hid (kB s = if kP P s s.lines.length = true then some K else none) := zA (by unfold kB; rw [if_pos hm, hK, hP]);have HPe := zA hP;obtain ⟨l1, hl1, _⟩ := jJ s.lines i0 qE
 have hKl : l1.kind = K := by
  rw [← hK];unfold yG;rw [HSa.out.1];simp [List.getD_eq_getElem?_getD, hl1]
 have HL1 := zA hl1;rw [HR.out];obtain ⟨R, hRR⟩ : ∃ R, (if kP P s s.lines.length = true then some K else none) = R := ⟨_, rfl⟩;rw [hRR];have HRF : Hid (kP P s s.lines.length = false → R = none) := zA fun e => by rw [← hRR, e]; rfl
 have HRT : Hid (kP P s s.lines.length = true → R = some K) := zA fun e => by rw [← hRR, e]; rfl
 clear hm h hs hA hBB hB hK hP hl1 hRR HR;go_enter Tryz.func30, Tryz.ntmps30
 go_upto_region 4 with (first
  | (go_at_call 31; refine (HM.out _ hw0).mono ?_; rintro e w2 ⟨rfl, hst2⟩; have hb2 := zW hw0 hst2; obtain ⟨q0, g0⟩ := blk (HB.out _ hb2))
  | (go_at_call 45; refine (HSp.out _ hb2).mono ?_; rintro e w4 ⟨rfl, hst4⟩; have hb4 := zW hb2 hst4; have hz4 := hb4.size))
 obtain ⟨W4, hW4⟩ : ∃ W4, (w4.alloc (.cells #[.int .i64 A.line, .int .i64 A.col] 24)).alloc (.cells #[.int .i64 B.line, .int .i64 B.col] 24) = W4 := ⟨_, rfl⟩;rw [hW4];have hb4W : Below w4.heap.size w4 W4 := hW4 ▸ vI (zE _ _) _ _;have y1 : W4.heap[w4.heap.size]? = some (.cells #[.int .i64 A.line, .int .i64 A.col] 24) := hW4 ▸ jI _ _ (jF _ _ rfl);have y2 : W4.heap[w4.heap.size + 1]? = some (.cells #[.int .i64 B.line, .int .i64 B.col] 24) := hW4 ▸ jF _ _ qT;have hc4 := zW hb4 hb4W;have y0 := HB.out _ hc4;have HFin := zA (H1.out.trans (hc4.mono hs1));obtain ⟨vb, vc', hve, _, _, hx⟩ := kJ (HV.out _ hc4);cases hve;have HX := zA hx;clear hW4 hb4W hb4 hst4 q0 g0 p0 f0 hx;obtain ⟨t0, u0⟩ := blk y0;obtain ⟨t1, u1⟩ := blk y1;obtain ⟨t2, u2⟩ := blk y2;obtain ⟨b, o, la, lc, ca, cc, rfl, hLA⟩ := HX.out i0 l1 HL1.out;obtain ⟨hbz, z0, z1, z2, z3, _, _⟩ := hLA;have j1 : (0 : Int) ≤ (i0 : Int) := zR _;have j2 : (i0 : Int) < (s.lines.length : Int) := by omega
 have t1' : W4.cell? ⟨w4.heap.size, 0, none⟩ = some (.int .i64 (i0 : Int)) := by rw [← HI0.out]; exact t1 0
 clear t1;have t1 : ∀ k, W4.cell? ⟨w4.heap.size, k, none⟩ = #[Value.int .i64 (i0 : Int), .int .i64 A.col][k]? := by have := (blk y1).1; rw [HI0.out] at this; exact this
 rw [hKl] at z2;go_wp2_with fail
 go_loopw [7] (fun i wr => ∃ (k : Nat), i = .int .i64 k ∧ i0 ≤ k ∧ k ≤ j0 + 1 ∧ wr = W4 ∧ Hid (kP P s k = true))
  (fun i _ => j0 + 1 - (intOf i).toNat)
 case atStart => exact ⟨i0, rfl, zC _, by omega, rfl, zA (zDM HSa.out.1 HSa.out.2.1 P)⟩
 case round =>
  obtain ⟨k, rfl, hik, hkj, rfl, HN⟩ := hrel;clear z0 z1 z2 z3
  by_cases hlt : k < j0 + 1
  ·have hle : (k : Int) ≤ B.line := by rw [HJ0.out]; omega
   have hks : k < s.lines.length := by omega
   obtain ⟨l, hl, _⟩ := jJ s.lines k hks;have hl6 := HML.out k l hl;obtain ⟨b', o', la, lc, ca, cc, e, hLA⟩ := HX.out k l hl;cases e;obtain ⟨hbz, l0, l1, l2, l3, _, _⟩ := hLA;have hsel : selI s k = true := by rw [uA HSa.out.1 HSa.out.2.1, decide_eq_true hik, decide_eq_true (show k ≤ j0 by omega)]; rfl
   have HNX := zA (zDT P hl);rw [hsel, HN.out] at HNX;have HPl : Hid (P l = (decide (l.lists = []) && decide (l.kind = K))) := zA (by rw [← HPe.out]);have ik : (0 : Int) ≤ (k : Int) := zR _;have il : (k : Int) < (s.lines.length : Int) := by omega
   have e1 : IntKind.i64.wrap ((k : Int) + 1) = ((k + 1 : Nat) : Int) := by rw [zT _ qE]; rfl
   have HBad : Hid (P l = false → kP P s s.lines.length = false) := zA fun hp => by
    cases hq : kP P s s.lines.length with
    | false => rfl
    | true =>
     exfalso
     unfold kP at hq;rw [List.all_eq_true] at hq;have := hq k (List.mem_range.2 hks);rw [hsel, List.getD_eq_getElem?_getD, hl] at this;simp [hp] at this
   clear hl hsel
   by_cases hn : l.lists = []
   ·have hn0 : l.lists.length = 0 := by rw [hn]; rfl
    have h1 : ¬ (0 : Int) < ((l.lists.length : Nat) : Int) := by omega
    have h2 : ¬ 0 < l.lists.length := by omega
    by_cases hk : l.kind = K
    ·have h4 : (l.kind != K) = false := by simp [hk]
     have HPT : Hid (P l = true) := zA (by rw [HPl.out, decide_eq_true hn, decide_eq_true hk]; rfl);clear hn hn0 hk;go_wp2_with fail;go_roundw
     case rel => exact ⟨k + 1, by go_num, by omega, by omega, trivial, zA (by rw [HNX.out, HPT.out]; rfl)⟩
     case measure => simp [intOf]; omega
    ·have h4 : (l.kind != K) = true := by simp [hk]
     have HPF : Hid (kP P s s.lines.length = false) := zA (HBad.out (by rw [HPl.out, decide_eq_false hk, Bool.and_false]));have er := HRF.out HPF.out;clear hn hn0 hk HRF HRT HPF;subst er;go_wp2_with fail;go_ret2;exact ⟨rfl, HFin.out⟩
   ·have h1 : (0 : Int) < ((l.lists.length : Nat) : Int) := by have := List.length_pos_iff.2 hn; omega
    have h2 : 0 < l.lists.length := by omega
    have HPF : Hid (kP P s s.lines.length = false) := zA (HBad.out (by rw [HPl.out, decide_eq_false hn, Bool.false_and]));have er := HRF.out HPF.out;clear hn HRF HRT HPF;subst er;go_wp2_with fail;go_ret2;exact ⟨rfl, HFin.out⟩
  ·obtain rfl : k = j0 + 1 := by omega
   have hle : ¬ ((j0 + 1 : Nat) : Int) ≤ B.line := by rw [HJ0.out]; omega
   have HPF : Hid (kP P s s.lines.length = true) := zA (by rw [← zDZ HSa.out.1 HSa.out.2.1 HSa.out.2.2]; exact HN.out);have er := HRT.out HPF.out;clear HRF HRT HPF;subst er;go_wp2_with fail;go_ret2;exact ⟨rfl, HFin.out⟩
end Go.Proofs.YtjgeadoncanheaaGreatDoor
